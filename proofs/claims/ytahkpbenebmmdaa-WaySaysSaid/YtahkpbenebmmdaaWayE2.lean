/- The reference's way to hold mail against mail. No condition. -/
import Derived.Test.YtahkpbenebmmdaaWayE
set_option linter.unusedSimpArgs false
set_option linter.unusedVariables false
namespace Go.Proofs.Ytahkpbenebmmdaa
open Go.RowKit
attribute [local irreducible] wpList

set_option maxRecDepth 100000 in
set_option maxHeartbeats 4000000 in
theorem saysMl2 : SaysMl Try.prog 67 := by
  intro W x y A A' n c n' c' h h'
  have H := Lib.hid h
  have H' := Lib.hid h'
  have hq := fun (V : World) => eqHd x.f.h y.f.h V
  obtain ⟨d, hd⟩ : ∃ d, d = decide (x.f.s.id = y.f.s.id ∧ x.f.s.data = y.f.s.data) := ⟨_, rfl⟩
  have HD := Lib.hid hd
  have HE : Hid (decide (x = y) = (decide (x.frm = y.frm ∧ x.to = y.to ∧ x.f.kind = y.f.kind ∧ x.f.h = y.f.h ∧ x.f.n = y.f.n ∧ x.f.try_ = y.f.try_) && d)) := by
    rw [Hid, hd, ← Bool.decide_and, decide_eq_decide, ml_eq]
    constructor
    · rintro ⟨h0, h1, h2, h3, h6, h7, h4, h5⟩; exact ⟨⟨h0, h1, h2, h3, h6, h7⟩, h4, h5⟩
    · rintro ⟨⟨h0, h1, h2, h3, h6, h7⟩, h4, h5⟩; exact ⟨h0, h1, h2, h3, h6, h7, h4, h5⟩
  have EQ := Lib.hid (fun W A A' n c n' c' h h' => sameSymbol_any W x.f.s y.f.s A A' n c n' c' h h')
  rw [← hd] at EQ
  clear h h' hd
  go_enter Try.func67, Try.ntmps67
  go_wp2_with (go_at_call 68; go_loud (refine (EQ.out _ _ _ _ _ _ _ (H.out.go (by (repeat' (first | exact Below.refl _ _ | refine below_drewN ?_ _ | refine Below.drew ?_ | refine frA ?_ _)))) (H'.out.go (by (repeat' (first | exact Below.refl _ _ | refine below_drewN ?_ _ | refine Below.drew ?_ | refine frA ?_ _))))).mono ?_; rintro e w1 ⟨rfl, hf1⟩; have hbx := blk_go (heap_old (heap_new (w := W) rfl)) hf1; have hby := blk_go (heap_new (b := W.heap.size + 1) (by simp)) hf1; (obtain ⟨bx0, bx1, bx2, bx3, bx4, bx5, bx6, bx7, bx8, bx9, bx10, bx11, bx12⟩ := box13_ hbx); (obtain ⟨by_0, by_1, by_2, by_3, by_4, by_5, by_6, by_7, by_8, by_9, by_10, by_11, by_12⟩ := box13_ hby); have Hf1 := Lib.hid hf1; clear hf1))
  all_goals
    go_ret
    exact ⟨retB (by rw [HE.out]; (first | (simp [*]; done) | (simp [*]; rfl) | (simp [*]; exact Bool.eq_iff_iff.2 (by simp)))), by (repeat' (first | exact Below.refl _ _ | refine below_drewN ?_ _ | refine Below.drew ?_ | refine frA ?_ _ | refine Fr.trans ?_ Hf1.out))⟩
end Go.Proofs.Ytahkpbenebmmdaa
