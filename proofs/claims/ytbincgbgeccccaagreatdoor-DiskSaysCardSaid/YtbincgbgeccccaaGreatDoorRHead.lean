/- The reference's CheckHead. No condition. -/
import Derived.Test.YtbincgbgeccccaaGreatDoorNoteP
import Derived.Test.YtbincgbgeccccaaGreatDoorRCut
import Derived.Test.YtbincgbgeccccaaGreatDoorBox
set_option linter.unusedSimpArgs false
set_option linter.unusedVariables false
namespace Go.Proofs.YtbincgbgeccccaaGreatDoor
open Go.RowKit
attribute [local irreducible] wpList

set_option maxHeartbeats 1000000 in
theorem refHead_any (w : World) (h : Hd) (hw : h.wf) : Calls Tryz.prog 63 #[.agg #[.int .i64 h.frm, .int .i64 h.seq, .int .i64 h.to, .int .i64 h.till, .int .i64 h.bytes, .int .i64 h.block]] w fun e w' => e = .returned (.int .i64 (hdCheck h)) ∧ Fr w w' := by
  obtain ⟨_, _, _, _, wB, wK⟩ := hw
  by_cases hb : h.frm < 0 ∨ 4 ≤ h.frm ∨ h.to < 0 ∨ 4 ≤ h.to ∨ h.seq < 0 ∨ 50 ≤ h.seq ∨ h.till < 1 ∨ 1000000 < h.till
  · have E : Hid (hdCheck h = 3) := if_pos hb
    by_cases h1 : 0 ≤ h.frm ∧ h.frm ≤ 3
    · have r1 := inR_t h1
      by_cases h2 : 0 ≤ h.to ∧ h.to ≤ 3
      · have r2 := inR_t h2
        by_cases h3 : 0 ≤ h.seq ∧ h.seq ≤ 49
        · have r3 := inR_t h3
          have r4 : inR h.till 1 1000000 = false := inR_f (by omega)
          clear hb h1 h2 h3
          go_enter Tryz.func63, Tryz.ntmps63
          go_wp2_with (go_at_call 62; refine (in_any _ _ _ _).mono ?_; rintro e w' ⟨rfl, rfl⟩)
          go_ret
          exact ⟨retI E.out.symm, (by (repeat' (first | exact Below.refl _ _ | refine below_drewN ?_ _ | refine Below.drew ?_ | refine frA ?_ _ | refine Fr.trans ?_ Hf1.out)))⟩
        · have r3 := inR_f h3
          clear hb h1 h2 h3
          go_enter Tryz.func63, Tryz.ntmps63
          go_wp2_with (go_at_call 62; refine (in_any _ _ _ _).mono ?_; rintro e w' ⟨rfl, rfl⟩)
          go_ret
          exact ⟨retI E.out.symm, (by (repeat' (first | exact Below.refl _ _ | refine below_drewN ?_ _ | refine Below.drew ?_ | refine frA ?_ _ | refine Fr.trans ?_ Hf1.out)))⟩
      · have r2 := inR_f h2
        clear hb h1 h2
        go_enter Tryz.func63, Tryz.ntmps63
        go_wp2_with (go_at_call 62; refine (in_any _ _ _ _).mono ?_; rintro e w' ⟨rfl, rfl⟩)
        go_ret
        exact ⟨retI E.out.symm, (by (repeat' (first | exact Below.refl _ _ | refine below_drewN ?_ _ | refine Below.drew ?_ | refine frA ?_ _ | refine Fr.trans ?_ Hf1.out)))⟩
    · have r1 := inR_f h1
      clear hb h1
      go_enter Tryz.func63, Tryz.ntmps63
      go_wp2_with (go_at_call 62; refine (in_any _ _ _ _).mono ?_; rintro e w' ⟨rfl, rfl⟩)
      go_ret
      exact ⟨retI E.out.symm, (by (repeat' (first | exact Below.refl _ _ | refine below_drewN ?_ _ | refine Below.drew ?_ | refine frA ?_ _ | refine Fr.trans ?_ Hf1.out)))⟩
  · have E : Hid (hdCheck h = if h.frm = h.to then 5 else cutCheck h.bytes h.block) := if_neg hb
    have r1 : inR h.frm 0 3 = true := inR_t (by omega)
    have r2 : inR h.to 0 3 = true := inR_t (by omega)
    have r3 : inR h.seq 0 49 = true := inR_t (by omega)
    have r4 : inR h.till 1 1000000 = true := inR_t (by omega)
    clear hb
    by_cases h5 : h.frm = h.to
    · have E2 : Hid (hdCheck h = 5) := by rw [Hid, E.out, if_pos h5]
      have h6 : (h.frm == h.to) = true := by simp [h5]
      clear h5
      go_enter Tryz.func63, Tryz.ntmps63
      go_wp2_with (go_at_call 62; refine (in_any _ _ _ _).mono ?_; rintro e w' ⟨rfl, rfl⟩)
      go_ret
      exact ⟨retI E2.out.symm, (by (repeat' (first | exact Below.refl _ _ | refine below_drewN ?_ _ | refine Below.drew ?_ | refine frA ?_ _ | refine Fr.trans ?_ Hf1.out)))⟩
    · have E2 : Hid (hdCheck h = cutCheck h.bytes h.block) := by rw [Hid, E.out, if_neg h5]
      have h6 : (h.frm == h.to) = false := by simpa using h5
      clear h5
      go_enter Tryz.func63, Tryz.ntmps63
      go_wp2_with (first | (go_at_call 62; refine (in_any _ _ _ _).mono ?_; rintro e w' ⟨rfl, rfl⟩) | (go_at_call 78; refine (refCheckPlan_any _ _ _ wB wK).mono ?_; rintro e w1 ⟨rfl, hf1⟩; have Hf1 := Lib.hid hf1; clear hf1))
      go_ret
      exact ⟨retI E2.out.symm, (by (repeat' (first | exact Below.refl _ _ | refine below_drewN ?_ _ | refine Below.drew ?_ | refine frA ?_ _ | refine Fr.trans ?_ Hf1.out)))⟩
end Go.Proofs.YtbincgbgeccccaaGreatDoor
