/- 'Names' answers true. No condition. -/
import Derived.Test.YtahkpbenebmmdaaEq
set_option linter.unusedSimpArgs false
set_option linter.unusedVariables false
namespace Go.Proofs.Ytahkpbenebmmdaa
open Go.RowKit

set_option maxHeartbeats 1000000 in
theorem names_any (w : World) :
    Calls Try.prog 3 #[] w fun e w' => e = .returned (.bool true) ∧ Fr w w' := by
  go_enter Try.func3, Try.ntmps3
  go_wp2_with fail
  go_loop [9] (fun i => ∃ k : Nat, k ≤ 10 ∧ i = .int .i64 k) (fun i => 10 - (intOf i).toNat)
  case atStart => exact ⟨0, Nat.zero_le _, rfl⟩
  case round =>
    obtain ⟨k, hk, rfl⟩ := hrel
    rcases (show k = 0 ∨ k = 1 ∨ k = 2 ∨ k = 3 ∨ k = 4 ∨ k = 5 ∨ k = 6 ∨ k = 7 ∨ k = 8 ∨ k = 9 ∨ k = 10 from by omega) with rfl | rfl | rfl | rfl | rfl | rfl | rfl | rfl | rfl | rfl | rfl
    iterate 10
      · go_wp2_with fail
        go_round
        case rel => refine ⟨_, ?_, rfl⟩; decide
        case measure => simp [intOf]
    · go_wp2_with fail
      refine (equalInts_any _ Any Any _ _ _ _ _ _ [16, 24, 360, 60, 9999, 4, 12, 64, 1000000, 200, 60000, 40, 150, 50, 40] [16, 24, 360, 60, 9999, 4, 12, 64, 1000000, 200, 60000, 40, 150, 50, 40] ?_ ?_ (by decide)).mono ?_
      iterate 2
        · apply Sl.litInts (hS := trivial) (hn := rfl) (hw := by decide)
          · (repeat' (first | (refine heap_new ?_; (first | (simp; done) | rfl); done) | refine heap_dn ?_ | refine heap_d ?_ | refine heap_old ?_))
          · rfl
      · rintro e w1 ⟨rfl, m, rfl⟩
        go_wp2_with fail
        refine (equalInts_any _ Any Any _ _ _ _ _ _ [1, 2, 3, 4, 1, 2, 3, 4, 5, 6, 7, 8, 1, 2, 3, 4, 5, 6, 7, 8, 9, 10, 11] [1, 2, 3, 4, 1, 2, 3, 4, 5, 6, 7, 8, 1, 2, 3, 4, 5, 6, 7, 8, 9, 10, 11] ?_ ?_ (by decide)).mono ?_
        iterate 2
          · apply Sl.litInts (hS := trivial) (hn := rfl) (hw := by decide)
            · (repeat' (first | (refine heap_new ?_; (first | (simp; done) | rfl); done) | refine heap_dn ?_ | refine heap_d ?_ | refine heap_old ?_))
            · rfl
        · rintro e w1 ⟨rfl, m', rfl⟩
          go_wp2_with fail
          go_ret
          exact ⟨rfl, by (repeat' (first | exact Below.refl _ _ | assumption | refine below_drewN ?_ _ | refine Below.drew ?_ | refine Below.alloc ?_ (by simp; try omega) _))⟩
end Go.Proofs.Ytahkpbenebmmdaa
