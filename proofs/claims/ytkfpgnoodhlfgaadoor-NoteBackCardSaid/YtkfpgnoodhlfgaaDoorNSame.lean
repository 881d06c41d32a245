/- note.Same. No condition. -/
import Derived.Test.YtkfpgnoodhlfgaaDoorNoteP
import Derived.Test.YtkfpgnoodhlfgaaDoorEq
import Derived.Test.YtkfpgnoodhlfgaaDoorEqHd
import Derived.Test.YtkfpgnoodhlfgaaDoorBox
import Derived.Deep.DeepCutAuto
import Derived.Deep.Cut
set_option linter.unusedSimpArgs false
set_option linter.unusedVariables false
namespace Go.Proofs.YtkfpgnoodhlfgaaDoor
open Go.RowKit
attribute [local irreducible] wpList

theorem rcV_false {x : Bool} (h : x = false) : (Ending.returned (.bool false)) = .returned (.bool x) := by rw [h]
theorem rcV_true {x : Bool} (h : x = true) : (Ending.returned (.bool true)) = .returned (.bool x) := by rw [h]
set_option maxRecDepth 100000 in
set_option maxHeartbeats 8000000 in
theorem noteSame_any (w : World) (a b : Rc) (S T : Nat → Prop) (A : Option Addr) (na ca : Nat) (A2 : Option Addr) (na2 ca2 : Nat) (B : Option Addr) (nb cb : Nat) (B2 : Option Addr) (nb2 cb2 : Nat) (hA : Byt w (LT w.heap.size) A na ca a.s.data) (hA2 : Byt w (LT w.heap.size) A2 na2 ca2 a.cargo) (hB : Byt w (LT w.heap.size) B nb cb b.s.data) (hB2 : Byt w (LT w.heap.size) B2 nb2 cb2 b.cargo) :
    Calls Tryd.prog 8 #[.agg #[.int .i64 a.kind, .int .i64 a.place, .int .i64 a.n, .int .i64 a.try_, .int .i64 a.h.frm, .int .i64 a.h.seq, .int .i64 a.h.to, .int .i64 a.h.till, .int .i64 a.h.bytes, .int .i64 a.h.block, .int .i64 a.s.id, .slice A na ca, .slice A2 na2 ca2], .agg #[.int .i64 b.kind, .int .i64 b.place, .int .i64 b.n, .int .i64 b.try_, .int .i64 b.h.frm, .int .i64 b.h.seq, .int .i64 b.h.to, .int .i64 b.h.till, .int .i64 b.h.bytes, .int .i64 b.h.block, .int .i64 b.s.id, .slice B nb cb, .slice B2 nb2 cb2]] w fun e w' => e = .returned (.bool (decide (a = b))) ∧ Fr w w' := by
  obtain ⟨X, hX⟩ : ∃ X, X = decide (a = b) := ⟨_, rfl⟩
  rw [← hX]
  obtain ⟨W1, hW1⟩ : ∃ W1, W1 = (w.alloc (.cells #[.int .i64 a.kind, .int .i64 a.place, .int .i64 a.n, .int .i64 a.try_, .int .i64 a.h.frm, .int .i64 a.h.seq, .int .i64 a.h.to, .int .i64 a.h.till, .int .i64 a.h.bytes, .int .i64 a.h.block, .int .i64 a.s.id, .slice A na ca, .slice A2 na2 ca2] 31)).alloc (.cells #[.int .i64 b.kind, .int .i64 b.place, .int .i64 b.n, .int .i64 b.try_, .int .i64 b.h.frm, .int .i64 b.h.seq, .int .i64 b.h.to, .int .i64 b.h.till, .int .i64 b.h.bytes, .int .i64 b.h.block, .int .i64 b.s.id, .slice B nb cb, .slice B2 nb2 cb2] 31) := ⟨_, rfl⟩
  obtain ⟨p, hp⟩ : ∃ p, p = w.heap.size := ⟨_, rfl⟩
  have hp1 : W1.heap[p]? = some (.cells #[.int .i64 a.kind, .int .i64 a.place, .int .i64 a.n, .int .i64 a.try_, .int .i64 a.h.frm, .int .i64 a.h.seq, .int .i64 a.h.to, .int .i64 a.h.till, .int .i64 a.h.bytes, .int .i64 a.h.block, .int .i64 a.s.id, .slice A na ca, .slice A2 na2 ca2] 31 (0, 0)) := by rw [hW1]; exact heap_old (heap_new hp)
  have hq1 : W1.heap[p + 1]? = some (.cells #[.int .i64 b.kind, .int .i64 b.place, .int .i64 b.n, .int .i64 b.try_, .int .i64 b.h.frm, .int .i64 b.h.seq, .int .i64 b.h.to, .int .i64 b.h.till, .int .i64 b.h.bytes, .int .i64 b.h.block, .int .i64 b.s.id, .slice B nb cb, .slice B2 nb2 cb2] 31 (0, 0)) := by rw [hW1]; exact heap_new (by rw [hp]; simp)
  have HF : Hid (Fr w W1) := by rw [hW1]; exact (frAlloc _ _).trans (frAlloc _ _)
  have HQ := Lib.hid hq1
  have HP := Lib.hid hp1
  (obtain ⟨bp0, bp1, bp2, bp3, bp4, bp5, bp6, bp7, bp8, bp9, bp10, bp11, bp12⟩ := box13_ hp1)
  (obtain ⟨bq0, bq1, bq2, bq3, bq4, bq5, bq6, bq7, bq8, bq9, bq10, bq11, bq12⟩ := box13_ hq1)
  clear hp1 hq1
  have hna : na ≤ maxLen := by have := hA.1; omega
  have hna2 : na2 ≤ maxLen := by have := hA2.1; omega
  have E1 : Hid (∀ W, Fr w W → Calls Tryd.prog 30 #[.slice A na ca, .slice B nb cb] W fun e w' => e = .returned (.bool (decide (a.s.data = b.s.data))) ∧ Fr W w') := fun W hf => (equalBlock_any W _ _ A B na ca nb cb _ _ (hA.2.go sByte hf) (hB.2.go sByte hf) hna).mono fun e w' ⟨he, m, hm⟩ => ⟨he, by rw [hm]; exact frDrewN _ _⟩
  have E2 : Hid (∀ W, Fr w W → Calls Tryd.prog 31 #[.slice A2 na2 ca2, .slice B2 nb2 cb2] W fun e w' => e = .returned (.bool (decide (a.cargo = b.cargo))) ∧ Fr W w') := fun W hf => (equalBytes_any W _ _ A2 B2 na2 ca2 nb2 cb2 _ _ (hA2.2.go sByte hf) (hB2.2.go sByte hf) hna2).mono fun e w' ⟨he, m, hm⟩ => ⟨he, by rw [hm]; exact frDrewN _ _⟩
  have hne : ∀ {c : Prop}, (a = b → c) → ¬ c → Hid (X = false) := fun h1 h2 => by rw [Hid, hX]; exact decide_eq_false fun e => h2 (h1 e)
  have HXX := Lib.hid hX
  clear hX hA hA2 hB hB2 hna hna2
  go_enter Tryd.func8, Tryd.ntmps8
  go_upto_region 1 with fail
  rw [← hW1, ← hp]
  clear hW1 hp
  by_cases h1 : a.kind = b.kind
  case neg =>
    have t1 : (a.kind == b.kind) = false := by simp [h1]
    have HX := hne (c := a.kind = b.kind) (fun e => by rw [e]) h1
    clear hne
    go_wp2_with fail
    go_ret
    exact ⟨rcV_false HX.out, HF.out.trans (by (repeat' (first | exact Below.refl _ _ | refine below_drewN ?_ _ | refine Below.drew ?_ | refine frA ?_ _)))⟩
  case pos =>
  have t1 : (a.kind == b.kind) = true := by simp [h1]
  by_cases h2 : a.place = b.place
  case neg =>
    have t2 : (a.place == b.place) = false := by simp [h2]
    have HX := hne (c := a.place = b.place) (fun e => by rw [e]) h2
    clear hne
    go_wp2_with fail
    go_ret
    exact ⟨rcV_false HX.out, HF.out.trans (by (repeat' (first | exact Below.refl _ _ | refine below_drewN ?_ _ | refine Below.drew ?_ | refine frA ?_ _)))⟩
  case pos =>
  have t2 : (a.place == b.place) = true := by simp [h2]
  by_cases h3 : a.n = b.n
  case neg =>
    have t3 : (a.n == b.n) = false := by simp [h3]
    have HX := hne (c := a.n = b.n) (fun e => by rw [e]) h3
    clear hne
    go_wp2_with fail
    go_ret
    exact ⟨rcV_false HX.out, HF.out.trans (by (repeat' (first | exact Below.refl _ _ | refine below_drewN ?_ _ | refine Below.drew ?_ | refine frA ?_ _)))⟩
  case pos =>
  have t3 : (a.n == b.n) = true := by simp [h3]
  by_cases h4 : a.try_ = b.try_
  case neg =>
    have t4 : (a.try_ == b.try_) = false := by simp [h4]
    have HX := hne (c := a.try_ = b.try_) (fun e => by rw [e]) h4
    clear hne
    go_wp2_with fail
    go_ret
    exact ⟨rcV_false HX.out, HF.out.trans (by (repeat' (first | exact Below.refl _ _ | refine below_drewN ?_ _ | refine Below.drew ?_ | refine frA ?_ _)))⟩
  case pos =>
  have t4 : (a.try_ == b.try_) = true := by simp [h4]
  by_cases h5 : a.h = b.h
  case neg =>
    have hq := fun V => (eqHd a.h b.h V).trans (by rw [decide_eq_false h5])
    have HX := hne (c := a.h = b.h) (fun e => by rw [e]) h5
    have HH := Lib.hid h5
    clear h5
    clear hne
    go_wp2_with fail
    go_ret
    exact ⟨rcV_false HX.out, HF.out.trans (by (repeat' (first | exact Below.refl _ _ | refine below_drewN ?_ _ | refine Below.drew ?_ | refine frA ?_ _)))⟩
  case pos =>
  have hq := fun V => (eqHd a.h b.h V).trans (by rw [decide_eq_true h5])
  have HH := Lib.hid h5
  clear h5
  by_cases h6 : a.s.id = b.s.id
  case neg =>
    have t6 : (a.s.id == b.s.id) = false := by simp [h6]
    have HX := hne (c := a.s.id = b.s.id) (fun e => by rw [e]) h6
    clear hne
    go_wp2_with fail
    go_ret
    exact ⟨rcV_false HX.out, HF.out.trans (by (repeat' (first | exact Below.refl _ _ | refine below_drewN ?_ _ | refine Below.drew ?_ | refine frA ?_ _)))⟩
  case pos =>
  have t6 : (a.s.id == b.s.id) = true := by simp [h6]
  obtain ⟨d1, hd1⟩ : ∃ d1, d1 = decide (a.s.data = b.s.data) := ⟨_, rfl⟩
  rw [← hd1] at E1
  obtain ⟨d2, hd2⟩ : ∃ d2, d2 = decide (a.cargo = b.cargo) := ⟨_, rfl⟩
  rw [← hd2] at E2
  have HALL : Hid (X = (d1 && d2)) := by
    rw [Hid, HXX.out, hd1, hd2]
    obtain ⟨_, _, _, _, _, ⟨_, _⟩, _⟩ := a
    obtain ⟨_, _, _, _, _, ⟨_, _⟩, _⟩ := b
    have h5 := HH.out
    simp only at h1 h2 h3 h4 h5 h6
    subst h1 h2 h3 h4 h5 h6
    simp
  have H1 := Lib.hid h1
  have H2 := Lib.hid h2
  have H3 := Lib.hid h3
  have H4 := Lib.hid h4
  have H6 := Lib.hid h6
  clear h1 h2 h3 h4 h6 hne hd1 hd2
  go_wp2_with fail
  (with_reducible refine (E1.out _ HF.out).mono ?_)
  rintro e w2 ⟨rfl, hf2⟩
  have HF2 : Hid (Fr w w2) := HF.out.trans hf2
  have hq2 := blk_go HQ.out hf2
  have hp2 := blk_go HP.out hf2
  clear hf2 bp0 bp1 bp2 bp3 bp4 bp5 bp6 bp7 bp8 bp9 bp10 bp11 bp12 bq0 bq1 bq2 bq3 bq4 bq5 bq6 bq7 bq8 bq9 bq10 bq11 bq12
  (obtain ⟨bp0, bp1, bp2, bp3, bp4, bp5, bp6, bp7, bp8, bp9, bp10, bp11, bp12⟩ := box13_ hp2)
  (obtain ⟨bq0, bq1, bq2, bq3, bq4, bq5, bq6, bq7, bq8, bq9, bq10, bq11, bq12⟩ := box13_ hq2)
  clear hp2 hq2
  cases d1 with
  | false =>
    go_wp2_with fail
    go_ret
    exact ⟨rcV_false HALL.out, HF2.out⟩
  | true =>
    go_wp2_with fail
    (with_reducible refine (E2.out _ HF2.out).mono ?_)
    rintro e w3 ⟨rfl, hf3⟩
    have HF3 : Hid (Fr w w3) := HF2.out.trans hf3
    clear hf3
    go_wp2_with fail
    go_ret
    exact ⟨by rw [HALL.out]; simp, HF3.out⟩
end Go.Proofs.YtkfpgnoodhlfgaaDoor
