/- The closed fact of one record as a line. Condition: the library's variables are laid. -/
import Derived.Test.YtkfpgnoodhlfgaaDoorNPrint
import Derived.Test.YtkfpgnoodhlfgaaDoorNParse
import Derived.Test.YtkfpgnoodhlfgaaDoorNSame
import Derived.Test.YtkfpgnoodhlfgaaDoorNHead
import Derived.Test.YtkfpgnoodhlfgaaDoorLHead
import Derived.Test.YtkfpgnoodhlfgaaDoorTextC
set_option linter.unusedSimpArgs false
set_option linter.unusedVariables false
namespace Go.Proofs.YtkfpgnoodhlfgaaDoor
open Go.RowKit
attribute [local irreducible] wpList

def lr0 : Rc := ⟨2, 0, 0, 0, lh0, ⟨3, [10]⟩, []⟩
def lt0 : List UInt8 := [50, 32, 48, 32, 48, 32, 48, 32, 49, 32, 48, 32, 50, 32, 53, 48, 32, 50, 32, 49, 32, 51, 32, 45, 48, 97, 32, 45]
theorem lr0_check : recCheck lr0 = 0 := by decide +kernel
theorem lr0_text : recText lr0 = lt0 := by decide +kernel
theorem lr0_print : printF lr0 = (lt0, 0) := by unfold printF; rw [if_neg (by simp [lr0_check]), lr0_text]
theorem lr0_parse : parseF lt0 = (lr0, 0) := by unfold parseF; rw [if_neg (by decide), ← lr0_text]; exact read_print lr0_check
theorem lh0_check : hdCheck lh0 = 0 := by decide +kernel
set_option maxRecDepth 100000 in
set_option maxHeartbeats 8000000 in
theorem lined_any (w : World) (v : Vars w) : Calls Tryd.prog 7 #[] w fun e w' => e = .returned (.bool true) ∧ Fr w w' := by
  have HV := Lib.hid v
  clear v
  go_enter Tryd.func7, Tryd.ntmps7
  go_wp2_with fail
  (with_reducible refine (lawHead_any _).mono ?_)
  rintro e w1 ⟨rfl, hf1⟩
  have HF1 := Lib.hid hf1
  clear hf1
  go_upto_region 2 with fail
  obtain ⟨b, hb⟩ : ∃ b, b = w1.heap.size := ⟨_, rfl⟩
  obtain ⟨z, hz⟩ : ∃ z, z = w1.heap.size + 1 := ⟨_, rfl⟩
  rw [← hz, ← hb]
  obtain ⟨W2, hW2⟩ : ∃ W2, W2 = (w1.alloc (.cells #[.int .u8 10] 5)).alloc (.cells #[.int .i64 2, .int .i64 0, .int .i64 0, .int .i64 0, .int .i64 1, .int .i64 0, .int .i64 2, .int .i64 50, .int .i64 2, .int .i64 1, .int .i64 3, .slice (some ⟨b, 0, none⟩) 1 1, .slice none 0 0] 31) := ⟨_, rfl⟩
  rw [← hW2]
  have hd2 : W2.heap[b]? = some (.cells #[.int .u8 10] 5 (0, 0)) := by rw [hW2]; exact heap_old (heap_new hb)
  have hz2 : W2.heap[z]? = some (.cells #[.int .i64 2, .int .i64 0, .int .i64 0, .int .i64 0, .int .i64 1, .int .i64 0, .int .i64 2, .int .i64 50, .int .i64 2, .int .i64 1, .int .i64 3, .slice (some ⟨b, 0, none⟩) 1 1, .slice none 0 0] 31 (0, 0)) := by rw [hW2]; exact heap_new (by rw [hz]; simp)
  have HF2 : Hid (Fr w W2) := by rw [hW2]; exact (HF1.out.trans (frAlloc _ _)).trans (frAlloc _ _)
  have HB1 : Hid (Byt W2 (LT W2.heap.size) (some ⟨b, 0, none⟩) 1 1 [10]) := ⟨⟨by unfold lim; omega, by omega, by unfold maxLen; omega⟩, Sl.litBytes hd2 (blk_LT hd2) rfl rfl⟩
  have HZ2 := Lib.hid hz2
  have CP : Hid (Calls Tryd.prog 6 #[.agg #[.int .i64 2, .int .i64 0, .int .i64 0, .int .i64 0, .int .i64 1, .int .i64 0, .int .i64 2, .int .i64 50, .int .i64 2, .int .i64 1, .int .i64 3, .slice (some ⟨b, 0, none⟩) 1 1, .slice none 0 0]] W2 fun e w' => e = .returned (.tuple #[sV lt0, .int .i64 0]) ∧ Fr W2 w') := by
    have := notePrint_any W2 (HV.out.go HF2.out) lr0 (some ⟨b, 0, none⟩) 1 1 none 0 0 (recCheck_wf lr0_check) HB1.out byt_nil
    rw [lr0_print] at this
    exact this
  have CQ : Hid (∀ W, Fr w W → Calls Tryd.prog 9 #[sV lt0] W fun e w' => ∃ B n c B2 n2 c2, e = .returned (.tuple #[.agg #[.int .i64 2, .int .i64 0, .int .i64 0, .int .i64 0, .int .i64 1, .int .i64 0, .int .i64 2, .int .i64 50, .int .i64 2, .int .i64 1, .int .i64 3, .slice B n c, .slice B2 n2 c2], .int .i64 0]) ∧ Byt w' (LT w'.heap.size) B n c [10] ∧ Byt w' (LT w'.heap.size) B2 n2 c2 [] ∧ Fr W w') := fun W hf => by
    have := noteParse_any W (HV.out.go hf) lt0 (by unfold lim; decide)
    rw [lr0_parse] at this
    refine this.mono fun e w' h => ?_
    obtain ⟨B, n, c, B2, n2, c2, he, _, h1, h2, h3⟩ := h
    exact ⟨B, n, c, B2, n2, c2, he, ⟨h1.1, h1.2.nw sByte⟩, ⟨h2.1, h2.2.nw sByte⟩, h3⟩
  (obtain ⟨bz0, bz1, bz2, bz3, bz4, bz5, bz6, bz7, bz8, bz9, bz10, bz11, bz12⟩ := box13_ hz2)
  clear hb hz hW2 hd2 hz2
  go_wp2_with fail
  (with_reducible refine (CP.out).mono ?_)
  rintro e w3 ⟨rfl, hf3⟩
  have HF3 : Hid (Fr w w3) := HF2.out.trans hf3
  have HZ3 := Lib.hid (blk_go HZ2.out hf3)
  have HB3 : Hid (Byt w3 (LT w3.heap.size) (some ⟨b, 0, none⟩) 1 1 [10]) := HB1.out.go hf3
  clear hf3 CP HF2 HZ2 HB1 bz0 bz1 bz2 bz3 bz4 bz5 bz6 bz7 bz8 bz9 bz10 bz11 bz12
  go_wp2_with fail
  (with_reducible refine (CQ.out _ HF3.out).mono ?_)
  rintro e w4 ⟨B, n, c, B2, n2, c2, rfl, hb1, hb2, hf4⟩
  have HF4 : Hid (Fr w w4) := HF3.out.trans hf4
  have HZ4 := Lib.hid (blk_go HZ3.out hf4)
  have HB4 : Hid (Byt w4 (LT w4.heap.size) (some ⟨b, 0, none⟩) 1 1 [10]) := HB3.out.go hf4
  have HC4 := Lib.hid hb1
  have HD4 := Lib.hid hb2
  have hzl : z < w4.heap.size := (Array.getElem?_eq_some_iff.1 HZ4.out).1
  clear hb1 hb2 hf4 HF3 HZ3 HB3 CQ
  go_upto_region 4 with fail
  obtain ⟨y, hy⟩ : ∃ y, y = w4.heap.size := ⟨_, rfl⟩
  obtain ⟨W5, hW5⟩ : ∃ W5, W5 = w4.alloc (.cells #[.int .i64 2, .int .i64 0, .int .i64 0, .int .i64 0, .int .i64 1, .int .i64 0, .int .i64 2, .int .i64 50, .int .i64 2, .int .i64 1, .int .i64 3, .slice B n c, .slice B2 n2 c2] 31) := ⟨_, rfl⟩
  rw [← hW5, ← hy]
  have hy5 : W5.heap[y]? = some (.cells #[.int .i64 2, .int .i64 0, .int .i64 0, .int .i64 0, .int .i64 1, .int .i64 0, .int .i64 2, .int .i64 50, .int .i64 2, .int .i64 1, .int .i64 3, .slice B n c, .slice B2 n2 c2] 31 (0, 0)) := by rw [hW5]; exact heap_new hy
  have hf5 : Fr w4 W5 := by rw [hW5]; exact frAlloc _ _
  have hz5 := blk_go HZ4.out hf5
  have HF5 : Hid (Fr w W5) := HF4.out.trans hf5
  have CS : Hid (Calls Tryd.prog 8 #[.agg #[.int .i64 2, .int .i64 0, .int .i64 0, .int .i64 0, .int .i64 1, .int .i64 0, .int .i64 2, .int .i64 50, .int .i64 2, .int .i64 1, .int .i64 3, .slice (some ⟨b, 0, none⟩) 1 1, .slice none 0 0], .agg #[.int .i64 2, .int .i64 0, .int .i64 0, .int .i64 0, .int .i64 1, .int .i64 0, .int .i64 2, .int .i64 50, .int .i64 2, .int .i64 1, .int .i64 3, .slice B n c, .slice B2 n2 c2]] W5 fun e w' => e = .returned (.bool true) ∧ Fr W5 w') := by
    have := noteSame_any W5 lr0 lr0 (LT W5.heap.size) (LT W5.heap.size) (some ⟨b, 0, none⟩) 1 1 none 0 0 B n c B2 n2 c2 (HB4.out.go hf5) byt_nil (HC4.out.go hf5) (HD4.out.go hf5)
    rw [decide_eq_true (rfl : lr0 = lr0)] at this
    exact this
  have te : (lt0 == [50, 32, 48, 32, 48, 32, 48, 32, 49, 32, 48, 32, 50, 32, 53, 48, 32, 50, 32, 49, 32, 51, 32, 45, 48, 97, 32, 45]) = true := rfl
  (obtain ⟨bz0, bz1, bz2, bz3, bz4, bz5, bz6, bz7, bz8, bz9, bz10, bz11, bz12⟩ := box13_ hz5)
  (obtain ⟨by0, by1, by2, by3, by4, by5, by6, by7, by8, by9, by10, by11, by12⟩ := box13_ hy5)
  clear hy hW5 hy5 hf5 hz5 HB4 HC4 HD4 HZ4
  go_wp2_with fail
  (with_reducible refine (CS.out).mono ?_)
  rintro e w6 ⟨rfl, hf6⟩
  have HF6 : Hid (Fr w w6) := HF5.out.trans hf6
  clear hf6 CS bz0 bz1 bz2 bz3 bz4 bz5 bz6 bz7 bz8 bz9 bz10 bz11 bz12 by0 by1 by2 by3 by4 by5 by6 by7 by8 by9 by10 by11 by12
  go_wp2_with fail
  (with_reducible refine (lawHead_any _).mono ?_)
  rintro e w7 ⟨rfl, hf7⟩
  have HF7 : Hid (Fr w w7) := HF6.out.trans hf7
  clear hf7
  have CH : Hid (Calls Tryd.prog 11 #[.agg #[.int .i64 1, .int .i64 0, .int .i64 2, .int .i64 50, .int .i64 2, .int .i64 1]] w7 fun e w' => e = .returned (.int .i64 0) ∧ Fr w7 w') := by
    have := noteHead_any w7 lh0 (by unfold Hd.wf; decide)
    rw [lh0_check] at this
    exact this
  go_wp2_with fail
  (with_reducible refine (CH.out).mono ?_)
  rintro e w8 ⟨rfl, hf8⟩
  have HF8 : Hid (Fr w w8) := HF7.out.trans hf8
  clear hf8
  go_wp2_with fail
  go_ret
  exact ⟨rfl, HF8.out⟩
end Go.Proofs.YtkfpgnoodhlfgaaDoor
