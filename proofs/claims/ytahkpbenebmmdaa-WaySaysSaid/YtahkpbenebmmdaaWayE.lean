/- Mail held against mail. No condition. -/
import Derived.Test.YtahkpbenebmmdaaEqHd
import Derived.Test.YtahkpbenebmmdaaEq
import Derived.Test.YtahkpbenebmmdaaBox
import Derived.BigGuardPart
set_option linter.unusedSimpArgs false
set_option linter.unusedVariables false
namespace Go.Proofs.Ytahkpbenebmmdaa
open Go.RowKit
attribute [local irreducible] wpList

/-- A function value that tells whether two mails are alike. -/
def SaysMl (P : Program) (f : FuncId) : Prop := ∀ (W : World) (x y : Ml) (A A' : Option Addr) (n c n' c' : Nat), Byt W (LT W.heap.size) A n c x.f.s.data → Byt W (LT W.heap.size) A' n' c' y.f.s.data →
  Calls P f #[.agg #[.int .i64 x.frm, .int .i64 x.to, .int .i64 x.f.kind, .int .i64 x.f.h.frm, .int .i64 x.f.h.seq, .int .i64 x.f.h.to, .int .i64 x.f.h.till, .int .i64 x.f.h.bytes, .int .i64 x.f.h.block, .int .i64 x.f.s.id, .slice A n c, .int .i64 x.f.n, .int .i64 x.f.try_], .agg #[.int .i64 y.frm, .int .i64 y.to, .int .i64 y.f.kind, .int .i64 y.f.h.frm, .int .i64 y.f.h.seq, .int .i64 y.f.h.to, .int .i64 y.f.h.till, .int .i64 y.f.h.bytes, .int .i64 y.f.h.block, .int .i64 y.f.s.id, .slice A' n' c', .int .i64 y.f.n, .int .i64 y.f.try_]] W fun e w' => e = .returned (.bool (decide (x = y))) ∧ Fr W w'

theorem ml_eq {x y : Ml} : x = y ↔ x.frm = y.frm ∧ x.to = y.to ∧ x.f.kind = y.f.kind ∧ x.f.h = y.f.h ∧ x.f.n = y.f.n ∧ x.f.try_ = y.f.try_ ∧ x.f.s.id = y.f.s.id ∧ x.f.s.data = y.f.s.data := by
  obtain ⟨a0, a1, ⟨a2, ah, ⟨a9, da⟩, a10, a11⟩⟩ := x
  obtain ⟨b0, b1, ⟨b2, bh, ⟨b9, db⟩, b10, b11⟩⟩ := y
  simp only [Ml.mk.injEq, Fm.mk.injEq, Sm.mk.injEq]
  constructor
  · rintro ⟨h0, h1, h2, h3, ⟨h4, h5⟩, h6, h7⟩; exact ⟨h0, h1, h2, h3, h6, h7, h4, h5⟩
  · rintro ⟨h0, h1, h2, h3, h6, h7, h4, h5⟩; exact ⟨h0, h1, h2, h3, ⟨h4, h5⟩, h6, h7⟩

set_option maxRecDepth 100000 in
set_option maxHeartbeats 4000000 in
theorem saysMl1 : SaysMl Try.prog 66 := by
  intro W x y A A' n c n' c' h h'
  have H := Lib.hid h
  have H' := Lib.hid h'
  have hnm : n ≤ maxLen := by have := h.1; omega
  have hq := fun (V : World) => eqHd x.f.h y.f.h V
  have HE : Hid (decide (x = y) = decide (x.frm = y.frm ∧ x.to = y.to ∧ x.f.kind = y.f.kind ∧ x.f.h = y.f.h ∧ x.f.n = y.f.n ∧ x.f.try_ = y.f.try_ ∧ x.f.s.id = y.f.s.id ∧ x.f.s.data = y.f.s.data)) := decide_eq_decide.2 ml_eq
  clear h h'
  go_enter Try.func66, Try.ntmps66
  go_wp2_with (go_at_call 21; refine (equalBlock_any _ _ _ _ _ _ _ _ _ _ _ (H.out.2.go sByte (by (repeat' (first | exact Below.refl _ _ | refine below_drewN ?_ _ | refine Below.drew ?_ | refine frA ?_ _)))) (H'.out.2.go sByte (by (repeat' (first | exact Below.refl _ _ | refine below_drewN ?_ _ | refine Below.drew ?_ | refine frA ?_ _)))) hnm).mono ?_; rintro e w1 ⟨rfl, m, rfl⟩)
  all_goals
    go_ret
    exact ⟨retB (by rw [HE.out]; simp [*]), by (repeat' (first | exact Below.refl _ _ | refine below_drewN ?_ _ | refine Below.drew ?_ | refine frA ?_ _))⟩

set_option maxHeartbeats 1000000 in
theorem sameSymbol_any (W : World) (x y : Sm) (A A' : Option Addr) (n c n' c' : Nat) (h : Byt W (LT W.heap.size) A n c x.data) (h' : Byt W (LT W.heap.size) A' n' c' y.data) :
    Calls Try.prog 68 #[.agg #[.int .i64 x.id, .slice A n c], .agg #[.int .i64 y.id, .slice A' n' c']] W fun e w' => e = .returned (.bool (decide (x.id = y.id ∧ x.data = y.data))) ∧ Fr W w' := by
  have H := Lib.hid h
  have H' := Lib.hid h'
  have hnm : n ≤ maxLen := by have := h.1; omega
  obtain ⟨d, hd⟩ : ∃ d, d = decide (x.data = y.data) := ⟨_, rfl⟩
  have HD : Hid (decide (x.id = y.id ∧ x.data = y.data) = (decide (x.id = y.id) && d)) := by rw [Hid, hd]; simp
  have EQ := Lib.hid (fun w S T A A' n c n' c' h h' hm => equalBlock_any w S T A A' n c n' c' x.data y.data h h' hm)
  rw [← hd] at EQ
  clear h h' hd
  go_enter Try.func68, Try.ntmps68
  go_wp2_with (go_at_call 21; refine (EQ.out _ _ _ _ _ _ _ _ _ (H.out.2.go sByte (by (repeat' (first | exact Below.refl _ _ | refine below_drewN ?_ _ | refine Below.drew ?_ | refine frA ?_ _)))) (H'.out.2.go sByte (by (repeat' (first | exact Below.refl _ _ | refine below_drewN ?_ _ | refine Below.drew ?_ | refine frA ?_ _)))) hnm).mono ?_; rintro e w1 ⟨rfl, m, rfl⟩)
  all_goals
    go_ret
    exact ⟨retB (by rw [HD.out]; simp [*]), by (repeat' (first | exact Below.refl _ _ | refine below_drewN ?_ _ | refine Below.drew ?_ | refine frA ?_ _))⟩

end Go.Proofs.Ytahkpbenebmmdaa
