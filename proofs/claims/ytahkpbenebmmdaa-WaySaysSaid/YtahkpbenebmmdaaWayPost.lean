/- The closed fact on mail. No condition. -/
import Derived.Test.YtahkpbenebmmdaaWayS
import Derived.Test.YtahkpbenebmmdaaWayTake2
set_option linter.unusedSimpArgs false
set_option linter.unusedVariables false
namespace Go.Proofs.Ytahkpbenebmmdaa
open Go.RowKit
attribute [local irreducible] wpList

def hd0 : Hd := ⟨1, 0, 2, 50, 2, 1⟩
def pm : Ml := ⟨0, 1, ⟨4, hd0, ⟨0, []⟩, 0, 0⟩⟩
def po : Ml := ⟨1, 0, ⟨3, hd0, ⟨0, []⟩, 2, 1⟩⟩
theorem wf_pm : pm.wf := by unfold Ml.wf Fm.wf Hd.wf; decide
theorem wf_po : po.wf := by unfold Ml.wf Fm.wf Hd.wf; decide
theorem post1 : mlSend [pm] po = ([pm, po], 0) := by decide
theorem post2 : mlTake [pm, po] (0 : Nat) false = ([po], pm, 0) := by decide
theorem post3 : mlTake [po] 1 true = ([], mlZero, 5) := by decide

set_option maxRecDepth 100000 in
theorem head_any (w : World) : Calls Try.prog 63 #[] w fun e w' => e = .returned (.agg #[.int .i64 1, .int .i64 0, .int .i64 2, .int .i64 50, .int .i64 2, .int .i64 1]) ∧ Fr w w' := by
  go_enter Try.func63, Try.ntmps63
  go_wp2_with fail
  refine bodyPost_ret (v := .agg #[.int .i64 1, .int .i64 0, .int .i64 2, .int .i64 50, .int .i64 2, .int .i64 1]) ?_ rfl ?_
  · simp [results, Try.results63, go_sem]
  · exact ⟨rfl, by (repeat' (first | exact Below.refl _ _ | refine below_drewN ?_ _ | refine Below.drew ?_ | refine frA ?_ _))⟩

set_option maxRecDepth 100000 in
set_option maxHeartbeats 1000000 in
theorem posted_any (w : World) : Calls Try.prog 49 #[] w fun e w' => e = .returned (.bool true) ∧ Fr w w' := by
  go_enter Try.func49, Try.ntmps49
  go_wp2_with fail
  refine (head_any _).mono ?_
  rintro e w1 ⟨rfl, hf1⟩
  (have Hf1 := Lib.hid hf1; clear hf1)
  go_wp2_with fail
  refine (head_any _).mono ?_
  rintro e w2 ⟨rfl, hf2⟩
  have hbm : w2.heap[w1.heap.size]? = some (.cells #[.int .i64 0, .int .i64 1, .int .i64 4, .int .i64 1, .int .i64 0, .int .i64 2, .int .i64 50, .int .i64 2, .int .i64 1, .int .i64 0, .slice none 0 0, .int .i64 0, .int .i64 0] 73 (0, 0)) := blk_go (heap_new rfl) hf2
  have hlt1 : w1.heap.size < w2.heap.size := (Array.getElem?_eq_some_iff.1 hbm).1
  have HBM := Lib.hid hbm
  (obtain ⟨hb0, hb1, hb2, hb3, hb4, hb5, hb6, hb7, hb8, hb9, hb10, hb11, hb12⟩ := box13_ hbm)
  have HF2 : Hid (Fr w w2) := Fr.trans (Hf1.out.trans (frAlloc _ _)) hf2
  clear hf2 hbm
  go_wp2_with fail
  refine (waySend_any _ (some ⟨w2.heap.size + 1, 0, none⟩) 1 _ [pm] (Sl.mail (m := pm) (A := none) (n := 0) (c := 0) (heap_new (by simp)) (by simp [LT]) wf_pm byt_nil) (by unfold lim; omega) po none 0 0 wf_po byt_nil).mono ?_
  rw [post1]
  rintro e w3 ⟨v3, rfl, ho3, hf3⟩
  obtain ⟨A3, c3, rfl, ⟨hc3, hx3⟩, hs3⟩ := ho3.slC sMl (by decide)
  have HBM3 : Hid (w3.heap[w1.heap.size]? = some (.cells #[.int .i64 0, .int .i64 1, .int .i64 4, .int .i64 1, .int .i64 0, .int .i64 2, .int .i64 50, .int .i64 2, .int .i64 1, .int .i64 0, .slice none 0 0, .int .i64 0, .int .i64 0] 73 (0, 0))) := blk_go (heap_old (heap_old HBM.out)) hf3
  have HBO3 : Hid (w3.heap[w2.heap.size]? = some (.cells #[.int .i64 1, .int .i64 0, .int .i64 3, .int .i64 1, .int .i64 0, .int .i64 2, .int .i64 50, .int .i64 2, .int .i64 1, .int .i64 0, .slice none 0 0, .int .i64 2, .int .i64 1] 73 (0, 0))) := blk_go (heap_old (heap_new rfl)) hf3
  have HF3 : Hid (Fr w w3) := Fr.trans (frA (frA HF2.out _) _) hf3
  have HS3 := Lib.hid hs3
  have HC3 : Hid ([pm, po].length ≤ c3 ∧ c3 ≤ maxLen) := ⟨hc3, hx3⟩
  clear hf3 ho3 hs3 hb0 hb1 hb2 hb3 hb4 hb5 hb6 hb7 hb8 hb9 hb10 hb11 hb12 hlt1 hc3 hx3
  go_wp2_with fail
  refine (wayTake_ok _ A3 2 c3 [pm, po] HS3.out (by unfold lim; omega) HC3.out.1 HC3.out.2 0 false (by decide) (by omega)).mono ?_
  rw [post2]
  rintro e w4 ⟨v4, A4, n4, c4, rfl, hy4, ho4, hf4⟩
  obtain ⟨B4, d4, rfl, ⟨hd4, hx4⟩, hs4⟩ := ho4.slC sMl (by decide)
  have HS4 := Lib.hid hs4
  have HY4 := Lib.hid hy4
  have HD4 : Hid ([po].length ≤ d4 ∧ d4 ≤ maxLen) := ⟨hd4, hx4⟩
  have HF4 := Lib.hid hf4
  clear hf4 ho4 hs4 hy4 hd4 hx4
  go_wp2_with fail
  refine (wayTake_err _ B4 1 d4 [po] (HS4.out.go sMl (frAlloc _ _)) (by unfold lim; omega) HD4.out.1 HD4.out.2 1 (wfI.mk (by omega)) true (.inr (.inr (by simp)))).mono ?_
  rw [post3]
  rintro e w5 ⟨v5, A5, n5, c5, rfl, hy5, ho5, hf5⟩
  have HF5 := Lib.hid hf5
  clear hf5 ho5 hy5
  have hbo := blk_go (heap_old (blk_go HBO3.out HF4.out)) HF5.out
  have hbm := blk_go (heap_old (blk_go HBM3.out HF4.out)) HF5.out
  have hbx := blk_go (heap_new (w := w4) rfl) HF5.out
  have hl1 := blk_lt5 hbo
  have hl2 := blk_lt5 hbm
  have hl3 := blk_lt5 hbx
  (obtain ⟨ho0, ho1, ho2, ho3, ho4, ho5, ho6, ho7, ho8, ho9, ho10, ho11, ho12⟩ := box13_ hbo)
  (obtain ⟨hm0, hm1, hm2, hm3, hm4, hm5, hm6, hm7, hm8, hm9, hm10, hm11, hm12⟩ := box13_ hbm)
  (obtain ⟨hx0, hx1, hx2, hx3, hx4, hx5, hx6, hx7, hx8, hx9, hx10, hx11, hx12⟩ := box13_ hbx)
  have HBM5 := Lib.hid hbm
  have HBX5 := Lib.hid hbx
  clear hbo hbm hbx
  go_wp2_with fail
  refine (waySame_any _ B4 (some ⟨w5.heap.size + 1, 0, none⟩) 1 d4 1 1 [po] [po] (HS4.out.go sMl (by (repeat' (first | exact Below.refl _ _ | refine below_drewN ?_ _ | refine Below.drew ?_ | refine frA ?_ _ | refine Fr.trans ?_ HF5.out)))) (Sl.mail (m := po) (A := none) (n := 0) (c := 0) (heap_new (by simp)) (by simp [LT]) wf_po byt_nil) (by unfold maxLen; omega)).mono ?_
  rintro e w6 ⟨rfl, hf6⟩
  have hbm := blk_go (heap_old (heap_old HBM5.out)) hf6
  have hbx := blk_go (heap_old (heap_old HBX5.out)) hf6
  have hl4 := blk_lt5 hbm
  have hl5 := blk_lt5 hbx
  (obtain ⟨qm0, qm1, qm2, qm3, qm4, qm5, qm6, qm7, qm8, qm9, qm10, qm11, qm12⟩ := box13_ hbm)
  (obtain ⟨qx0, qx1, qx2, qx3, qx4, qx5, qx6, qx7, qx8, qx9, qx10, qx11, qx12⟩ := box13_ hbx)
  have HF6 : Hid (Fr w5 w6) := Fr.trans (frA (frAlloc _ _) _) hf6
  clear hbm hbx hf6
  go_wp2_with fail
  refine (waySame_any _ (some ⟨w6.heap.size, 0, none⟩) (some ⟨w6.heap.size + 1, 0, none⟩) 1 1 1 1 [pm] [pm] (Sl.mail (m := pm) (A := A4) (n := n4) (c := c4) (heap_old (heap_new rfl)) (by simp [LT]; omega) wf_pm (HY4.out.go (by (repeat' (first | exact Below.refl _ _ | refine below_drewN ?_ _ | refine Below.drew ?_ | refine frA ?_ _ | refine Fr.trans ?_ HF6.out | refine Fr.trans ?_ HF5.out))))) (Sl.mail (m := pm) (A := none) (n := 0) (c := 0) (heap_new (by simp)) (by simp [LT]) wf_pm byt_nil) (by unfold maxLen; omega)).mono ?_
  rintro e w7 ⟨rfl, hf7⟩
  have HF7 := Lib.hid hf7
  clear hf7
  go_wp2_with fail
  go_ret
  exact ⟨by simp, by (repeat' (first | exact Below.refl _ _ | refine below_drewN ?_ _ | refine Below.drew ?_ | refine frA ?_ _ | refine Fr.trans ?_ HF7.out | refine Fr.trans ?_ HF6.out | refine Fr.trans ?_ HF5.out | refine Fr.trans ?_ HF4.out | refine Fr.trans ?_ HF3.out))⟩
end Go.Proofs.Ytahkpbenebmmdaa
