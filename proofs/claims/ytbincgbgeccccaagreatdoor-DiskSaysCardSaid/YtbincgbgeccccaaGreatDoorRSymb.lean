/- The reference's CheckSymbol. No condition. -/
import Derived.Test.YtbincgbgeccccaaGreatDoorRHead
set_option linter.unusedSimpArgs false
set_option linter.unusedVariables false
namespace Go.Proofs.YtbincgbgeccccaaGreatDoor
open Go.RowKit
attribute [local irreducible] wpList

set_option maxHeartbeats 1000000 in
theorem refSymbol_any (w : World) (B K id : Int) (A : Option Addr) (n c : Nat) (wB : wfI B) (wK : wfI K) :
    Calls Tryz.prog 64 #[.agg #[.int .i64 B, .int .i64 K], .agg #[.int .i64 id, .slice A n c]] w fun e w' => e = .returned (.int .i64 (codeCheck B K id n)) ∧ Fr w w' := by
  have CC := Lib.hid (fun W : World => refCheckPlan_any W B K wB wK)
  by_cases h1 : 0 ≤ id ∧ id ≤ 9999
  · have r1 := inR_t h1
    have E : Hid (codeCheck B K id n = if cutCheck B K ≠ 0 then cutCheck B K else if (n : Int) ≠ K then 4 else 0) := by
      unfold codeCheck Hid
      split
      · rfl
      · rw [if_neg (by omega)]
    clear h1
    go_enter Tryz.func64, Tryz.ntmps64
    go_wp2_with (first | (go_at_call 62; refine (in_any _ _ _ _).mono ?_; rintro e w' ⟨rfl, rfl⟩) | (go_at_call 78; refine (CC.out _).mono ?_; rintro e w1 ⟨rfl, hf1⟩; have hbx : w1.heap[w.heap.size]? = some (.cells #[.int .i64 B, .int .i64 K] 26 (0, 0)) := blk_go (heap_old (heap_new rfl)) hf1; have hby : w1.heap[w.heap.size + 1]? = some (.cells #[.int .i64 id, .slice A n c] 31 (0, 0)) := blk_go (heap_new (by simp)) hf1; (obtain ⟨hb0, hb1⟩ := box2_ hbx); (obtain ⟨hs0, hs1⟩ := box2_ hby); have Hf1 := Lib.hid hf1; clear hf1))
    all_goals (try simp only [beq_iff_eq, bne_iff_ne, beq_eq_false_iff_ne, bne_eq_false_iff_eq, ne_eq, Decidable.not_not, Int.natCast_inj, Bool.or_eq_true, Bool.and_eq_true, Bool.or_eq_false_iff, Bool.and_eq_false_iff, Bool.not_eq_true', Bool.not_eq_false', decide_eq_true_eq, decide_eq_false_iff_not, Bool.not_eq_true, Bool.not_eq_false] at *)
    all_goals go_ret
    all_goals exact ⟨retI (by rw [E.out]; (repeat' split) <;> first | rfl | omega), by (repeat' (first | exact Below.refl _ _ | refine below_drewN ?_ _ | refine Below.drew ?_ | refine frA ?_ _ | refine Fr.trans ?_ Hf1.out))⟩
  · have r1 := inR_f h1
    have E : Hid (codeCheck B K id n = if cutCheck B K ≠ 0 then cutCheck B K else 3) := by
      unfold codeCheck Hid
      split
      · rfl
      · rw [if_pos (by omega)]
    clear h1
    go_enter Tryz.func64, Tryz.ntmps64
    go_wp2_with (first | (go_at_call 62; refine (in_any _ _ _ _).mono ?_; rintro e w' ⟨rfl, rfl⟩) | (go_at_call 78; refine (CC.out _).mono ?_; rintro e w1 ⟨rfl, hf1⟩; have hbx : w1.heap[w.heap.size]? = some (.cells #[.int .i64 B, .int .i64 K] 26 (0, 0)) := blk_go (heap_old (heap_new rfl)) hf1; have hby : w1.heap[w.heap.size + 1]? = some (.cells #[.int .i64 id, .slice A n c] 31 (0, 0)) := blk_go (heap_new (by simp)) hf1; (obtain ⟨hb0, hb1⟩ := box2_ hbx); (obtain ⟨hs0, hs1⟩ := box2_ hby); have Hf1 := Lib.hid hf1; clear hf1))
    all_goals (try simp only [beq_iff_eq, bne_iff_ne, beq_eq_false_iff_ne, bne_eq_false_iff_eq, ne_eq, Decidable.not_not, Int.natCast_inj, Bool.or_eq_true, Bool.and_eq_true, Bool.or_eq_false_iff, Bool.and_eq_false_iff, Bool.not_eq_true', Bool.not_eq_false', decide_eq_true_eq, decide_eq_false_iff_not, Bool.not_eq_true, Bool.not_eq_false] at *)
    all_goals go_ret
    all_goals exact ⟨retI (by rw [E.out]; (repeat' split) <;> first | rfl | omega), by (repeat' (first | exact Below.refl _ _ | refine below_drewN ?_ _ | refine Below.drew ?_ | refine frA ?_ _ | refine Fr.trans ?_ Hf1.out))⟩
end Go.Proofs.YtbincgbgeccccaaGreatDoor
