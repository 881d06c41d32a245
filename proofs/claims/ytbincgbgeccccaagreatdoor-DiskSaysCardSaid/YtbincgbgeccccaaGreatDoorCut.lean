/- Contracts of package cut. No condition. -/
import Derived.Test.YtbincgbgeccccaaGreatDoorOwn
import Derived.Test.YtbincgbgeccccaaGreatDoorCutP
import Derived.Deep.LoopGhost
import Derived.Deep.RegionLaw
set_option linter.unusedSimpArgs false
set_option linter.unusedVariables false
namespace Go.Proofs.YtbincgbgeccccaaGreatDoor
open Go.RowKit

theorem cutBlocks_any (w : World) (B K : Int) (hB : wfI B) (hK : wfI K) :
    Calls Tryz.prog 79 #[.agg #[.int .i64 B, .int .i64 K]] w fun e w' => e = .returned (.int .i64 (blocksOf B K)) ∧ Fr w w' := by
  obtain ⟨hB1, hB2⟩ := hB.bd
  obtain ⟨hK1, hK2⟩ := hK.bd
  by_cases h : K < 1 ∨ B < 1
  · have E : Hid (blocksOf B K = 0) := if_pos h
    by_cases h1 : K < 1
    · clear h hB1 hB2 hK1 hK2
      go_enter Tryz.func79, Tryz.ntmps79
      go_wp2
      go_ret
      exact ⟨retI E.out.symm, (by (repeat' (first | exact Below.refl _ _ | refine below_drewN ?_ _ | refine Below.drew ?_ | refine frA ?_ _ | refine Fr.trans ?_ Hf1.out)))⟩
    · have h2 : B < 1 := by omega
      clear h hB1 hB2 hK1 hK2
      go_enter Tryz.func79, Tryz.ntmps79
      go_wp2
      go_ret
      exact ⟨retI E.out.symm, (by (repeat' (first | exact Below.refl _ _ | refine below_drewN ?_ _ | refine Below.drew ?_ | refine frA ?_ _ | refine Fr.trans ?_ Hf1.out)))⟩
  · have E : Hid (blocksOf B K = (B - 1) / K + 1) := if_neg h
    have h1 : ¬ K < 1 := by omega
    have h2 : ¬ B < 1 := by omega
    have e1 : wrap64 (B - 1) = B - 1 := IntWalk.wrap64_in _ (by omega)
    have h4 : 0 ≤ (B - 1) / K := Int.ediv_nonneg (by omega) (by omega)
    have h5 : (B - 1) / K ≤ B - 1 := Int.ediv_le_self _ (by omega)
    clear h
    go_enter Tryz.func79, Tryz.ntmps79
    go_wp2
    go_ret
    exact ⟨retI E.out.symm, (by (repeat' (first | exact Below.refl _ _ | refine below_drewN ?_ _ | refine Below.drew ?_ | refine frA ?_ _ | refine Fr.trans ?_ Hf1.out)))⟩

/-- A box of a struct of two ints, still there. -/
theorem box2 {w w1 : World} {a b : Value} {t : TypeId} (hf : Fr (w.alloc (.cells #[a, b] t)) w1) : w1.cell? ⟨w.heap.size, 0, none⟩ = some a ∧ w1.cell? ⟨w.heap.size, 1, none⟩ = some b :=
  ⟨(hf.cell (p := ⟨w.heap.size, 0, none⟩) (by simp)).trans (cell_of_heap (heap_new rfl)), (hf.cell (p := ⟨w.heap.size, 1, none⟩) (by simp)).trans (cell_of_heap (heap_new rfl))⟩

set_option maxHeartbeats 400000 in
theorem cutCheck_any (w : World) (B K : Int) (hB : wfI B) (hK : wfI K) :
    Calls Tryz.prog 66 #[.agg #[.int .i64 B, .int .i64 K]] w fun e w' => e = .returned (.int .i64 (cutCheck B K)) ∧ Fr w w' := by
  by_cases h : B < 1 ∨ 360 < B ∨ K < 1 ∨ 16 < K
  · have E : Hid (cutCheck B K = 3) := if_pos h
    by_cases h1 : B < 1
    · clear h
      go_enter Tryz.func66, Tryz.ntmps66
      go_wp2_with fail
      go_ret
      exact ⟨retI E.out.symm, (by (repeat' (first | exact Below.refl _ _ | refine below_drewN ?_ _ | refine Below.drew ?_ | refine frA ?_ _ | refine Fr.trans ?_ Hf1.out)))⟩
    · by_cases h2 : 360 < B
      · clear h
        go_enter Tryz.func66, Tryz.ntmps66
        go_wp2_with fail
        go_ret
        exact ⟨retI E.out.symm, (by (repeat' (first | exact Below.refl _ _ | refine below_drewN ?_ _ | refine Below.drew ?_ | refine frA ?_ _ | refine Fr.trans ?_ Hf1.out)))⟩
      · by_cases h3 : K < 1
        · clear h
          go_enter Tryz.func66, Tryz.ntmps66
          go_wp2_with fail
          go_ret
          exact ⟨retI E.out.symm, (by (repeat' (first | exact Below.refl _ _ | refine below_drewN ?_ _ | refine Below.drew ?_ | refine frA ?_ _ | refine Fr.trans ?_ Hf1.out)))⟩
        · have h4 : 16 < K := by omega
          clear h
          go_enter Tryz.func66, Tryz.ntmps66
          go_wp2_with fail
          go_ret
          exact ⟨retI E.out.symm, (by (repeat' (first | exact Below.refl _ _ | refine below_drewN ?_ _ | refine Below.drew ?_ | refine frA ?_ _ | refine Fr.trans ?_ Hf1.out)))⟩
  · have h1 : ¬ B < 1 := by omega
    have h2 : ¬ 360 < B := by omega
    have h3 : ¬ K < 1 := by omega
    have h4 : ¬ 16 < K := by omega
    have E : Hid (cutCheck B K = if 24 < blocksOf B K then 2 else 0) := if_neg h
    clear h
    by_cases h5 : 24 < blocksOf B K
    all_goals
      have E2 := Lib.hid h5
      go_enter Tryz.func66, Tryz.ntmps66
      go_wp2_with fail
      refine (cutBlocks_any _ _ _ hB hK).mono ?_
      rintro e w1 ⟨rfl, hf1⟩
      (have Hf1 := Lib.hid hf1; clear hf1)
      go_wp2_with fail
      go_ret
      exact ⟨retI (by rw [E.out]; simp [E2.out]), (by (repeat' (first | exact Below.refl _ _ | refine below_drewN ?_ _ | refine Below.drew ?_ | refine frA ?_ _ | refine Fr.trans ?_ Hf1.out)))⟩

theorem splice_pad (K : Nat) (l : List UInt8) (h : l.length ≤ K) : splice ((List.replicate K (0 : UInt8)).map bV) 0 (l.map bV) = (padTo K l).map bV := by
  unfold splice padTo
  simp [List.drop_replicate]

end Go.Proofs.YtbincgbgeccccaaGreatDoor
