/- The head of the laws' closed facts. No condition. -/
import Derived.Test.YtkfpgnoodhlfgaaDoorNoteP
set_option linter.unusedSimpArgs false
set_option linter.unusedVariables false
namespace Go.Proofs.YtkfpgnoodhlfgaaDoor
open Go.RowKit
attribute [local irreducible] wpList
def lh0 : Hd := ⟨1, 0, 2, 50, 2, 1⟩
set_option maxRecDepth 100000 in
theorem lawHead_any (w : World) : Calls Tryd.prog 29 #[] w fun e w' => e = .returned (.agg #[.int .i64 1, .int .i64 0, .int .i64 2, .int .i64 50, .int .i64 2, .int .i64 1]) ∧ Fr w w' := by
  go_enter Tryd.func29, Tryd.ntmps29
  go_wp2_with fail
  refine bodyPost_ret (v := .agg #[.int .i64 1, .int .i64 0, .int .i64 2, .int .i64 50, .int .i64 2, .int .i64 1]) ?_ rfl ?_
  · simp [results, Tryd.results29, go_sem]
  · exact ⟨rfl, by (repeat' (first | exact Below.refl _ _ | refine below_drewN ?_ _ | refine Below.drew ?_ | refine frA ?_ _))⟩
end Go.Proofs.YtkfpgnoodhlfgaaDoor
