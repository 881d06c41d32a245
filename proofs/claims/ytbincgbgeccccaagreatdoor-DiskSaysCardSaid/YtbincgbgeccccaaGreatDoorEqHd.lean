/- '==' at two heads. No condition. -/
import Derived.Test.YtbincgbgeccccaaGreatDoorWayP
import Derived.Laws.StructEq
import Derived.KernelRfl
set_option linter.unusedSimpArgs false
set_option linter.unusedVariables false
namespace Go.Proofs.YtbincgbgeccccaaGreatDoor
open Go.RowKit

set_option maxHeartbeats 1000000 in
theorem eqPlan (d : Nat) (a b c e : Int) (w : World) : (Op.equalIn (d + 2) 26 (.agg #[.int .i64 a, .int .i64 b]) (.agg #[.int .i64 c, .int .i64 e])).run Tryz.prog w = .ok (decide (a = c ∧ b = e)) w := by
  have hS : Tryz.prog.underlying 26 = some (.struct (Tryz.prog.fieldsOf 26)) := by kernel_rfl
  rw [run_equalIn_agg w (d + 1) 26 _ _ hS (by kernel_rfl)]
  simp only [Program.fieldsOf, Tryz.underlying26]
  go_simp
  by_cases h1 : a = c <;> by_cases h2 : b = e <;> simp [h1, h2]
set_option maxHeartbeats 1000000 in
theorem eqHd (x y : Hd) (w : World) : (Op.equalIn 10000 28 (.agg #[.int .i64 x.frm, .int .i64 x.seq, .int .i64 x.to, .int .i64 x.till, .int .i64 x.bytes, .int .i64 x.block]) (.agg #[.int .i64 y.frm, .int .i64 y.seq, .int .i64 y.to, .int .i64 y.till, .int .i64 y.bytes, .int .i64 y.block])).run Tryz.prog w = .ok (decide (x = y)) w := by
  obtain ⟨a0, a1, a2, a3, a4, a5⟩ := x
  obtain ⟨b0, b1, b2, b3, b4, b5⟩ := y
  have hS : Tryz.prog.underlying 28 = some (.struct (Tryz.prog.fieldsOf 28)) := by kernel_rfl
  have hp := fun W => eqPlan 9997 a4 a5 b4 b5 W
  rw [show (10000 : Nat) = 9999 + 1 from rfl, run_equalIn_agg w 9999 28 _ _ hS (by kernel_rfl)]
  simp only [Program.fieldsOf, Tryz.underlying28]
  go_simp
  by_cases h1 : a0 = b0 <;> by_cases h2 : a1 = b1 <;> by_cases h3 : a2 = b2 <;> by_cases h4 : a3 = b3 <;> by_cases h5 : a4 = b4 <;> by_cases h6 : a5 = b5 <;> simp [h1, h2, h3, h4, h5, h6]
end Go.Proofs.YtbincgbgeccccaaGreatDoor
