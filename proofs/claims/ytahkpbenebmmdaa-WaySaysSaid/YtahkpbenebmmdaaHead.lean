/- note.Head, way.frame, way.Check and the reference's. No condition. -/
import Derived.Test.YtahkpbenebmmdaaWayP
import Derived.Test.YtahkpbenebmmdaaRCut
import Derived.Test.YtahkpbenebmmdaaBox
set_option linter.unusedSimpArgs false
set_option linter.unusedVariables false
namespace Go.Proofs.Ytahkpbenebmmdaa
open Go.RowKit
attribute [local irreducible] wpList

set_option maxHeartbeats 1000000 in
theorem noteHead_any (w : World) (h : Hd) (hw : h.wf) : Calls Try.prog 72 #[.agg #[.int .i64 h.frm, .int .i64 h.seq, .int .i64 h.to, .int .i64 h.till, .int .i64 h.bytes, .int .i64 h.block]] w fun e w' => e = .returned (.int .i64 (hdCheck h)) ∧ Fr w w' := by
  obtain ⟨_, _, _, _, wB, wK⟩ := hw
  go_enter Try.func72, Try.ntmps72
  go_wp2_with (go_at_call 39; refine (cutCheck_any _ _ _ wB wK).mono ?_; rintro e w1 ⟨rfl, hf1⟩; have Hf1 := Lib.hid hf1; clear hf1)
  all_goals (try simp only [beq_iff_eq, bne_iff_ne, beq_eq_false_iff_ne, bne_eq_false_iff_eq, ne_eq, Decidable.not_not, Int.natCast_inj, Bool.or_eq_true, Bool.and_eq_true, Bool.or_eq_false_iff, Bool.and_eq_false_iff, Bool.not_eq_true', Bool.not_eq_false', decide_eq_true_eq, decide_eq_false_iff_not, Bool.not_eq_true, Bool.not_eq_false] at *)
  all_goals go_ret
  all_goals exact ⟨retI (by unfold hdCheck; (repeat' split) <;> first | rfl | omega), (by (repeat' (first | exact Below.refl _ _ | refine below_drewN ?_ _ | refine Below.drew ?_ | refine frA ?_ _ | refine Fr.trans ?_ Hf1.out)))⟩

set_option maxHeartbeats 2000000 in
theorem wayFrame_any (w : World) (f : Fm) (A : Option Addr) (n c : Nat) (hw : f.wf) (hl : f.s.data.length = n) : Calls Try.prog 64 #[.agg #[.int .i64 f.kind, .int .i64 f.h.frm, .int .i64 f.h.seq, .int .i64 f.h.to, .int .i64 f.h.till, .int .i64 f.h.bytes, .int .i64 f.h.block, .int .i64 f.s.id, .slice A n c, .int .i64 f.n, .int .i64 f.try_]] w fun e w' => e = .returned (.int .i64 (fmCheck f)) ∧ Fr w w' := by
  obtain ⟨_, hwh, _, _, _⟩ := hw
  have hwh' := hwh
  obtain ⟨_, _, _, _, wB, wK⟩ := hwh'
  (have Hl := Lib.hid hl; clear hl)
  go_enter Try.func64, Try.ntmps64
  go_wp2_with (first | (go_at_call 72; refine (noteHead_any _ _ hwh).mono ?_; rintro e w1 ⟨rfl, hf1⟩; have hbx : w1.heap[w.heap.size]? = some (.cells #[.int .i64 f.kind, .int .i64 f.h.frm, .int .i64 f.h.seq, .int .i64 f.h.to, .int .i64 f.h.till, .int .i64 f.h.bytes, .int .i64 f.h.block, .int .i64 f.s.id, .slice A n c, .int .i64 f.n, .int .i64 f.try_] 71 (0, 0)) := blk_go (heap_new rfl) hf1; (obtain ⟨hb0, hb1, hb2, hb3, hb4, hb5, hb6, hb7, hb8, hb9, hb10⟩ := box11_ hbx); have Hf1 := Lib.hid hf1; clear hf1) | (go_at_call 45; refine (codeCheck_any _ _ _ _ _ _ _ wB wK).mono ?_; rintro e w2 ⟨rfl, hf2⟩; have Hf2 := Lib.hid hf2; clear hf2))
  all_goals (try simp only [beq_iff_eq, bne_iff_ne, beq_eq_false_iff_ne, bne_eq_false_iff_eq, ne_eq, Decidable.not_not, Int.natCast_inj, Bool.or_eq_true, Bool.and_eq_true, Bool.or_eq_false_iff, Bool.and_eq_false_iff, Bool.not_eq_true', Bool.not_eq_false', decide_eq_true_eq, decide_eq_false_iff_not, Bool.not_eq_true, Bool.not_eq_false] at *)
  all_goals go_ret
  all_goals exact ⟨retI (by unfold fmCheck; rw [Hl.out]; (repeat' split) <;> first | rfl | omega), by (repeat' (first | exact Below.refl _ _ | refine below_drewN ?_ _ | refine Below.drew ?_ | refine frA ?_ _ | refine Fr.trans ?_ Hf2.out | refine Fr.trans ?_ Hf1.out))⟩
end Go.Proofs.Ytahkpbenebmmdaa
