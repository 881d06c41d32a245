/- note.Check whole. No condition. -/
import Derived.Test.YtbincgbgeccccaaGreatDoorNCheck
set_option linter.unusedSimpArgs false
set_option linter.unusedVariables false
namespace Go.Proofs.YtbincgbgeccccaaGreatDoor
open Go.RowKit
attribute [local irreducible] wpList

set_option maxHeartbeats 2000000 in
theorem noteCheck_any (w : World) (r : Rc) (A : Option Addr) (n c : Nat) (A2 : Option Addr) (n2 c2 : Nat) (hw : r.wf) (hl : r.s.data.length = n) (hl2 : r.cargo.length = n2) :
    Calls Tryz.prog 27 #[.agg #[.int .i64 r.kind, .int .i64 r.place, .int .i64 r.n, .int .i64 r.try_, .int .i64 r.h.frm, .int .i64 r.h.seq, .int .i64 r.h.to, .int .i64 r.h.till, .int .i64 r.h.bytes, .int .i64 r.h.block, .int .i64 r.s.id, .slice A n c, .slice A2 n2 c2]] w fun e w' => e = .returned (.int .i64 (recCheck r)) ∧ Fr w w' := by
  by_cases hk : 1 ≤ r.kind ∧ r.kind ≤ 8
  · have := noteCheck_good w r r.kind rfl A n c A2 n2 c2 hw hl hl2 hk
    exact this
  · have E : Hid (recCheck r = 4) := by unfold recCheck Hid; rw [if_pos (by omega)]
    by_cases h1 : r.kind < 1
    · have t1 : decide (r.kind < 1) = true := by simp [h1]
      clear hk h1 hw hl hl2
      go_enter Tryz.func27, Tryz.ntmps27
      go_wp2_with fail
      go_ret
      exact ⟨retI E.out.symm, by (repeat' (first | exact Below.refl _ _ | refine below_drewN ?_ _ | refine Below.drew ?_ | refine frA ?_ _))⟩
    · have t1 : decide (r.kind < 1) = false := by simp; omega
      have t2 : decide (8 < r.kind) = true := by simp; omega
      clear hk h1 hw hl hl2
      go_enter Tryz.func27, Tryz.ntmps27
      go_wp2_with fail
      go_ret
      exact ⟨retI E.out.symm, by (repeat' (first | exact Below.refl _ _ | refine below_drewN ?_ _ | refine Below.drew ?_ | refine frA ?_ _))⟩
end Go.Proofs.YtbincgbgeccccaaGreatDoor
