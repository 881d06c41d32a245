/- 'DiskKeeps' answers true for every input, and leaves its arguments as they were; the card: what the row lists is tied to the program's text. No condition. -/
import Derived.Test.YtkfpgnoodhlfgaaDoorMDA
import Derived.Test.YtkfpgnoodhlfgaaDoorEq
import Derived.Test.YtkfpgnoodhlfgaaDoorHeld
import Derived.Test.YtkfpgnoodhlfgaaDoorDiskP
import Derived.Test.YtkfpgnoodhlfgaaDoorMDB
import Derived.Test.YtkfpgnoodhlfgaaDoorOwn
import Derived.Test.YtkfpgnoodhlfgaaDoorOpenT
import Derived.Test.YtkfpgnoodhlfgaaDoorLaid
import Derived.ProofKit
import Derived.OpenShut
set_option linter.unusedSimpArgs false
set_option linter.unusedVariables false
namespace Go.Proofs.YtkfpgnoodhlfgaaDoor
open Go.RowKit
attribute [local irreducible] wpList

set_option maxRecDepth 100000 in
set_option maxHeartbeats 8000000 in
theorem diskSync_any (w : World) (v : Vars w) (d : Dk) (A : Option Addr) (n c : Nat) (B : Option Addr) (m e : Nat) (hA : Byt w (LT w.heap.size) A n c d.safe) (hB : Byt w (LT w.heap.size) B m e d.wait) :
    Calls Tryd.prog 19 #[.agg #[.slice A n c, .slice B m e]] w (KPost w (syncF d)) := by
  obtain ⟨X, hX⟩ : ∃ X, X = syncF d := ⟨_, rfl⟩
  rw [← hX]
  have hl := hA.2.1
  have hl2 := hB.2.1
  obtain ⟨W1, hW1⟩ : ∃ W1, W1 = (w.alloc (.cells #[.slice A n c, .slice B m e] 45)).alloc (.cells #[.slice none 0 0, .slice none 0 0] 45) := ⟨_, rfl⟩
  obtain ⟨p, hp⟩ : ∃ p, p = w.heap.size := ⟨_, rfl⟩
  obtain ⟨q, hq⟩ : ∃ q, q = w.heap.size + 1 := ⟨_, rfl⟩
  have hp1 : W1.heap[p]? = some (.cells #[.slice A n c, .slice B m e] 45 (0, 0)) := by rw [hW1]; exact heap_old (heap_new hp)
  have hq1 : W1.heap[q]? = some (.cells #[.slice none 0 0, .slice none 0 0] 45 (0, 0)) := by rw [hW1]; exact heap_new (by rw [hq]; simp)
  have HF1 : Hid (Fr w W1) := by rw [hW1]; exact (frAlloc _ _).trans (frAlloc _ _)
  have HQW := Lib.hid hq
  have HP1 := Lib.hid hp1
  have HQ1 := Lib.hid hq1
  obtain ⟨ck, hck⟩ : ∃ ck, ck = diskCheck d := ⟨_, rfl⟩
  have CK : Hid (Calls Tryd.prog 48 #[.agg #[.slice A n c, .slice B m e]] W1 fun r w' => r = .returned (.int .i64 ck) ∧ Fr W1 w') := by rw [hck]; exact diskCheck_any W1 (v.go HF1.out) d A n c B m e (hA.go HF1.out) (hB.go HF1.out)
  have HV := Lib.hid v
  have HA := Lib.hid hA
  have HB := Lib.hid hB
  have HX := Lib.hid hX
  have HCK := Lib.hid hck
  (obtain ⟨bp0, bp1⟩ := box2_ hp1)
  clear hp1 hq1 hA hB hX hck v
  go_enter Tryd.func19, Tryd.ntmps19
  go_upto_region 1 with fail
  rw [← hW1, ← hq, ← hp]
  clear hW1 hp hq
  go_wp2_with fail
  (with_reducible refine (CK.out).mono ?_)
  rintro r w2 ⟨rfl, hf2⟩
  have HF2 : Hid (Fr w w2) := HF1.out.trans hf2
  have HP2 := Lib.hid (blk_go HP1.out hf2)
  have HQ2 := Lib.hid (blk_go HQ1.out hf2)
  clear hf2 CK HF1 HP1 HQ1 bp0 bp1
  by_cases h1 : ck = 0
  case neg =>
    have t1 : (ck != 0) = true := by simp [h1]
    have hx : Hid (X = (Dk.zero, ck)) := HX.out.trans (by unfold syncF; rw [← HCK.out, if_pos h1])
    have hqx := HQ2.out
    (obtain ⟨bq0, bq1⟩ := box2_ hqx)
    have y0 := blk_free (i := 0) hqx
    have y1 := blk_free (i := 1) hqx
    have lq := (Array.getElem?_eq_some_iff.1 hqx).1
    clear h1 hqx
    go_wp2_with fail
    refine bodyPost_ret (v := .tuple #[.agg #[.slice none 0 0, .slice none 0 0], .int .i64 ck]) ?_ rfl (kpost_err hx.out (bel2_ HF2.out (by have := HQW.out; omega)))
    simp [results, Tryd.results19, go_sem, bq0, bq1, lq]
  case pos =>
  have t1 : (ck != 0) = false := by simp [h1]
  have hk := diskCheck_ok (HCK.out.symm.trans h1)
  have hsz := hk.size
  have HX2 : Hid (X = if diskCheck ⟨d.safe ++ d.wait, []⟩ ≠ 0 then (Dk.zero, diskCheck ⟨d.safe ++ d.wait, []⟩) else (⟨d.safe ++ d.wait, []⟩, 0)) := HX.out.trans (by unfold syncF; rw [← HCK.out, if_neg (by simp [h1])])
  have hpx := HP2.out
  (obtain ⟨bp0, bp1⟩ := box2_ hpx)
  clear h1 hk hpx HX HCK
  go_wp2_with fail
  obtain ⟨W3, hW3⟩ : ∃ W3, W3 = w2.alloc (.cells #[.slice A n c, .slice B m e] 26) := ⟨_, rfl⟩
  obtain ⟨y, hy⟩ : ∃ y, y = w2.heap.size := ⟨_, rfl⟩
  rw [← hW3, ← hy]
  have hy3 : W3.heap[y]? = some (.cells #[.slice A n c, .slice B m e] 26 (0, 0)) := by rw [hW3]; exact heap_new hy
  have hf3 : Fr w2 W3 := by rw [hW3]; exact frAlloc _ _
  have HF3 : Hid (Fr w W3) := HF2.out.trans hf3
  have HQ3 := Lib.hid (blk_go HQ2.out hf3)
  have CC : Hid (Calls Tryd.prog 50 #[.slice (some ⟨y, 0, none⟩) 2 2] W3 fun r w' => ∃ u, r = .returned u ∧ Own 1 eByte w' W3.heap.size 5 u (d.safe ++ d.wait) ∧ Fr W3 w') := by
    have hsl := sl_two hy3 (blk_LT hy3) (HA.out.go HF3.out) (HB.out.go HF3.out)
    have := concatDBytes_any W3 _ 2 2 _ hsl (by unfold lim; omega) (by simp [lens]; unfold lim; omega) (by simp [lens]; unfold lim; omega)
    rw [show ([d.safe, d.wait] : List (List UInt8)).flatten = d.safe ++ d.wait by simp] at this
    exact this
  clear hW3 hy hy3 hf3 HF2 HP2 HQ2 bp0 bp1
  (with_reducible refine (CC.out).mono ?_)
  rintro r w4 ⟨u, rfl, ho, hf4⟩
  have hlen : (d.safe ++ d.wait).length ≤ 60000 := by rw [List.length_append]; omega
  obtain ⟨A5, c5, rfl, hb5⟩ := ho.byt (by unfold lim; omega)
  obtain ⟨L, hL⟩ : ∃ L, L = d.safe ++ d.wait := ⟨_, rfl⟩
  obtain ⟨N, hN⟩ : ∃ N, N = L.length := ⟨_, rfl⟩
  rw [← hL, ← hN] at hb5
  rw [← hL, ← hN]
  rw [← hL] at HX2
  have HF4 : Hid (Fr w w4) := HF3.out.trans hf4
  have HQ4 := Lib.hid (blk_go HQ3.out hf4)
  have HB5 := Lib.hid hb5
  have h3w := HF3.out.size
  have hqw3 : q < W3.heap.size := (Array.getElem?_eq_some_iff.1 HQ3.out).1
  clear ho hf4 CC hb5 HF3 HQ3 hlen hN
  go_upto_region 5 with fail
  obtain ⟨W6, hW6⟩ : ∃ W6, W6 = w4.alloc (.cells #[.slice A5 N c5, .slice none 0 0] 45) := ⟨_, rfl⟩
  obtain ⟨z, hz⟩ : ∃ z, z = w4.heap.size := ⟨_, rfl⟩
  rw [← hW6, ← hz]
  have hz6 : W6.heap[z]? = some (.cells #[.slice A5 N c5, .slice none 0 0] 45 (0, 0)) := by rw [hW6]; exact heap_new hz
  have hf6 : Fr w4 W6 := by rw [hW6]; exact frAlloc _ _
  have HF6 : Hid (Fr w W6) := HF4.out.trans hf6
  have HQ6 := Lib.hid (blk_go HQ4.out hf6)
  have HZ6 := Lib.hid hz6
  have HB6 : Hid (Byt W6 (NW W3.heap.size W6.heap.size) A5 N c5 L) := ⟨HB5.out.1, (HB5.out.2.keep sByte fun x hx => hf6.cell hx.2).more sByte fun x hx => ⟨hx.1, Nat.lt_of_lt_of_le hx.2 hf6.size⟩⟩
  obtain ⟨c2, hc2⟩ : ∃ c2, c2 = diskCheck ⟨L, []⟩ := ⟨_, rfl⟩
  rw [← hc2] at HX2
  have CK2 : Hid (Calls Tryd.prog 48 #[.agg #[.slice A5 N c5, .slice none 0 0]] W6 fun r w' => r = .returned (.int .i64 c2) ∧ Fr W6 w') := by rw [hc2]; exact diskCheck_any W6 (HV.out.go HF6.out) ⟨L, []⟩ A5 N c5 none 0 0 ⟨HB6.out.1, HB6.out.2.nw sByte⟩ byt_nil
  have hzx := HZ6.out
  (obtain ⟨bz0, bz1⟩ := box2_ hzx)
  clear hW6 hz hz6 hf6 HF4 HQ4 HB5 hc2 hzx hL
  go_wp2_with fail
  (with_reducible refine (CK2.out).mono ?_)
  rintro r w7 ⟨rfl, hf7⟩
  have HF7 : Hid (Fr w w7) := HF6.out.trans hf7
  have hqx := blk_go HQ6.out hf7
  have hzx := blk_go HZ6.out hf7
  have HF67 := Lib.hid hf7
  clear hf7 CK2 HF6 HQ6 HZ6 bz0 bz1
  (obtain ⟨bq0, bq1⟩ := box2_ hqx)
  (obtain ⟨bz0, bz1⟩ := box2_ hzx)
  have y0 := blk_free (i := 0) hqx
  have y1 := blk_free (i := 1) hqx
  have lq := (Array.getElem?_eq_some_iff.1 hqx).1
  by_cases h2 : c2 = 0
  case neg =>
    have t2 : (c2 != 0) = true := by simp [h2]
    have hx : Hid (X = (Dk.zero, c2)) := HX2.out.trans (if_pos h2)
    clear h2 hqx hzx
    go_wp2_with fail
    refine bodyPost_ret (v := .tuple #[.agg #[.slice none 0 0, .slice none 0 0], .int .i64 c2]) ?_ rfl (kpost_err hx.out (bel2_ HF7.out (by have := HQW.out; omega)))
    simp [results, Tryd.results19, go_sem, bq0, bq1, lq]
  case pos =>
  have t2 : (c2 != 0) = false := by simp [h2]
  have hx : Hid (X = (⟨L, []⟩, 0)) := HX2.out.trans (if_neg (by simp [h2]))
  have KEY : Hid (∀ W9, Chg (fun b => b = q) w7 W9 → Fr w W9 → KPost w X (.returned (.tuple #[.agg #[.slice A5 N c5, .slice none 0 0], .int .i64 0])) W9) := by
    intro W9 hC hF
    have hs := HF67.out.size
    have hs9 := hC.size
    rw [hx.out]
    refine ⟨A5, N, c5, none, 0, 0, rfl, ⟨HB6.out.1, ((HB6.out.2.keep sByte fun x hx => HF67.out.cell hx.2).chg sByte hC fun b hb => ⟨Nat.lt_of_lt_of_le hb.2 hs, fun e => by have e : b = q := e; have := hb.1; omega⟩).more sByte fun b hb => ⟨by have := hb.1; omega, by have := hb.2; omega⟩⟩, byt_nil, hF⟩
  clear h2 hqx hzx
  go_wp2_with fail
  refine bodyPost_ret (v := .tuple #[.agg #[.slice A5 N c5, .slice none 0 0], .int .i64 0]) ?_ rfl (KEY.out _ (Chg.of (grw2_ ⟨rfl, rfl, rfl, Nat.le_refl _, fun _ _ _ => rfl⟩)) (bel2_ HF7.out (by have := HQW.out; omega)))
  simp [results, Tryd.results19, go_sem, bq0, bq1, lq]
set_option maxRecDepth 100000 in
set_option maxHeartbeats 8000000 in
theorem diskSame_any (w : World) (a b : Dk) (A : Option Addr) (n c : Nat) (B : Option Addr) (m e : Nat) (A2 : Option Addr) (n2 c2 : Nat) (B2 : Option Addr) (m2 e2 : Nat) (hA : Byt w (LT w.heap.size) A n c a.safe) (hB : Byt w (LT w.heap.size) B m e a.wait) (hA2 : Byt w (LT w.heap.size) A2 n2 c2 b.safe) (hB2 : Byt w (LT w.heap.size) B2 m2 e2 b.wait) :
    Calls Tryd.prog 25 #[.agg #[.slice A n c, .slice B m e], .agg #[.slice A2 n2 c2, .slice B2 m2 e2]] w fun r w' => r = .returned (.bool (decide (a = b))) ∧ Fr w w' := by
  obtain ⟨W1, hW1⟩ : ∃ W1, W1 = (w.alloc (.cells #[.slice A n c, .slice B m e] 45)).alloc (.cells #[.slice A2 n2 c2, .slice B2 m2 e2] 45) := ⟨_, rfl⟩
  obtain ⟨p, hp⟩ : ∃ p, p = w.heap.size := ⟨_, rfl⟩
  obtain ⟨q, hq⟩ : ∃ q, q = w.heap.size + 1 := ⟨_, rfl⟩
  have hp1 : W1.heap[p]? = some (.cells #[.slice A n c, .slice B m e] 45 (0, 0)) := by rw [hW1]; exact heap_old (heap_new hp)
  have hq1 : W1.heap[q]? = some (.cells #[.slice A2 n2 c2, .slice B2 m2 e2] 45 (0, 0)) := by rw [hW1]; exact heap_new (by rw [hq]; simp)
  have HF1 : Hid (Fr w W1) := by rw [hW1]; exact (frAlloc _ _).trans (frAlloc _ _)
  have HP1 := Lib.hid hp1
  have HQ1 := Lib.hid hq1
  have hna : n ≤ maxLen := by have := hA.1; omega
  have hnb : m ≤ maxLen := by have := hB.1; omega
  obtain ⟨d1, hd1⟩ : ∃ d1, d1 = decide (a.safe = b.safe) := ⟨_, rfl⟩
  obtain ⟨d2, hd2⟩ : ∃ d2, d2 = decide (a.wait = b.wait) := ⟨_, rfl⟩
  have HD : Hid (decide (a = b) = (d1 && d2)) := by
    rw [Hid, hd1, hd2]
    obtain ⟨_, _⟩ := a
    obtain ⟨_, _⟩ := b
    simp
  have E1 : Hid (∀ W, Fr w W → Calls Tryd.prog 31 #[.slice A n c, .slice A2 n2 c2] W fun e w' => e = .returned (.bool d1) ∧ Fr W w') := fun W hf => by rw [hd1]; exact (equalBytes_any W _ _ A A2 n c n2 c2 _ _ (hA.2.go sByte hf) (hA2.2.go sByte hf) hna).mono fun e w' ⟨he, k, hk⟩ => ⟨he, by rw [hk]; exact frDrewN _ _⟩
  have E2 : Hid (∀ W, Fr w W → Calls Tryd.prog 31 #[.slice B m e, .slice B2 m2 e2] W fun e w' => e = .returned (.bool d2) ∧ Fr W w') := fun W hf => by rw [hd2]; exact (equalBytes_any W _ _ B B2 m e m2 e2 _ _ (hB.2.go sByte hf) (hB2.2.go sByte hf) hnb).mono fun e w' ⟨he, k, hk⟩ => ⟨he, by rw [hk]; exact frDrewN _ _⟩
  (obtain ⟨bp0, bp1⟩ := box2_ hp1)
  (obtain ⟨bq0, bq1⟩ := box2_ hq1)
  clear hp1 hq1 hA hB hA2 hB2 hna hnb hd1 hd2
  go_enter Tryd.func25, Tryd.ntmps25
  go_upto_region 1 with fail
  rw [← hW1, ← hq, ← hp]
  clear hW1 hp hq
  go_wp2_with fail
  (with_reducible refine (E1.out _ HF1.out).mono ?_)
  rintro r w2 ⟨rfl, hf2⟩
  have HF2 : Hid (Fr w w2) := HF1.out.trans hf2
  have hp2 := blk_go HP1.out hf2
  have hq2 := blk_go HQ1.out hf2
  clear hf2 bp0 bp1 bq0 bq1
  (obtain ⟨bp0, bp1⟩ := box2_ hp2)
  (obtain ⟨bq0, bq1⟩ := box2_ hq2)
  clear hp2 hq2
  cases d1 with
  | false =>
    go_wp2_with fail
    go_ret
    exact ⟨by rw [HD.out]; rfl, HF2.out⟩
  | true =>
    go_wp2_with fail
    (with_reducible refine (E2.out _ HF2.out).mono ?_)
    rintro r w3 ⟨rfl, hf3⟩
    have HF3 : Hid (Fr w w3) := HF2.out.trans hf3
    clear hf3
    go_wp2_with fail
    go_ret
    exact ⟨by rw [HD.out]; simp, HF3.out⟩
end Go.Proofs.YtkfpgnoodhlfgaaDoor
namespace Go.Proofs.YtkfpgnoodhlfgaaDoor
open Go.RowKit
attribute [local irreducible] wpList

set_option maxRecDepth 100000 in
set_option maxHeartbeats 8000000 in
theorem diskCrash_any (w : World) (v : Vars w) (d : Dk) (A : Option Addr) (n c : Nat) (B : Option Addr) (m e : Nat) (hA : Byt w (LT w.heap.size) A n c d.safe) (hB : Byt w (LT w.heap.size) B m e d.wait) (k : Int) :
    Calls Tryd.prog 20 #[.agg #[.slice A n c, .slice B m e], .int .i64 k] w (KPost w (crashF d k)) := by
  obtain ⟨X, hX⟩ : ∃ X, X = crashF d k := ⟨_, rfl⟩
  rw [← hX]
  have hl := hA.2.1
  have hl2 := hB.2.1
  obtain ⟨W1, hW1⟩ : ∃ W1, W1 = (w.alloc (.cells #[.slice A n c, .slice B m e] 45)).alloc (.cells #[.slice none 0 0, .slice none 0 0] 45) := ⟨_, rfl⟩
  obtain ⟨p, hp⟩ : ∃ p, p = w.heap.size := ⟨_, rfl⟩
  obtain ⟨q, hq⟩ : ∃ q, q = w.heap.size + 1 := ⟨_, rfl⟩
  have hp1 : W1.heap[p]? = some (.cells #[.slice A n c, .slice B m e] 45 (0, 0)) := by rw [hW1]; exact heap_old (heap_new hp)
  have hq1 : W1.heap[q]? = some (.cells #[.slice none 0 0, .slice none 0 0] 45 (0, 0)) := by rw [hW1]; exact heap_new (by rw [hq]; simp)
  have HF1 : Hid (Fr w W1) := by rw [hW1]; exact (frAlloc _ _).trans (frAlloc _ _)
  have HQW := Lib.hid hq
  have HP1 := Lib.hid hp1
  have HQ1 := Lib.hid hq1
  obtain ⟨ck, hck⟩ : ∃ ck, ck = diskCheck d := ⟨_, rfl⟩
  have CK : Hid (Calls Tryd.prog 48 #[.agg #[.slice A n c, .slice B m e]] W1 fun r w' => r = .returned (.int .i64 ck) ∧ Fr W1 w') := by rw [hck]; exact diskCheck_any W1 (v.go HF1.out) d A n c B m e (hA.go HF1.out) (hB.go HF1.out)
  have HV := Lib.hid v
  have HA := Lib.hid hA
  have HB := Lib.hid hB
  have HX := Lib.hid hX
  have HCK := Lib.hid hck
  (obtain ⟨bp0, bp1⟩ := box2_ hp1)
  clear hp1 hq1 hA hB hX hck v
  go_enter Tryd.func20, Tryd.ntmps20
  go_upto_region 1 with fail
  rw [← hW1, ← hq, ← hp]
  have NE : q ≠ p := by omega
  clear hW1 hp hq
  go_wp2_with fail
  (with_reducible refine (CK.out).mono ?_)
  rintro r w2 ⟨rfl, hf2⟩
  have HF2 : Hid (Fr w w2) := HF1.out.trans hf2
  have HP2 := Lib.hid (blk_go HP1.out hf2)
  have HQ2 := Lib.hid (blk_go HQ1.out hf2)
  clear hf2 CK HF1 HP1 HQ1 bp0 bp1
  by_cases h1 : ck = 0
  case neg =>
    have t1 : (ck != 0) = true := by simp [h1]
    have hx : Hid (X = (Dk.zero, ck)) := HX.out.trans (by unfold crashF; rw [← HCK.out, if_pos h1])
    have hqx := HQ2.out
    (obtain ⟨bq0, bq1⟩ := box2_ hqx)
    have y0 := blk_free (i := 0) hqx
    have y1 := blk_free (i := 1) hqx
    have lq := (Array.getElem?_eq_some_iff.1 hqx).1
    clear h1 hqx
    go_wp2_with fail
    refine bodyPost_ret (v := .tuple #[.agg #[.slice none 0 0, .slice none 0 0], .int .i64 ck]) ?_ rfl (kpost_err hx.out (bel2_ HF2.out (by have := HQW.out; omega)))
    simp [results, Tryd.results20, go_sem, bq0, bq1, lq]
  case pos =>
  have t1 : (ck != 0) = false := by simp [h1]
  have HX2 : Hid (X = if k < 0 ∨ (d.wait.length : Int) < k then (Dk.zero, 3) else (⟨d.safe, d.wait.take k.toNat⟩, 0)) := HX.out.trans (by unfold crashF; rw [← HCK.out, if_neg (by simp [h1])])
  rw [hl2] at HX2
  have hpx := HP2.out
  have hqx := HQ2.out
  (obtain ⟨bp0, bp1⟩ := box2_ hpx)
  (obtain ⟨bq0, bq1⟩ := box2_ hqx)
  have y0 := blk_free (i := 0) hqx
  have y1 := blk_free (i := 1) hqx
  have lq := (Array.getElem?_eq_some_iff.1 hqx).1
  clear h1 HX HCK
  by_cases h2 : k < 0
  · have t2 : decide (k < 0) = true := by simp [h2]
    have hx : Hid (X = (Dk.zero, 3)) := HX2.out.trans (if_pos (.inl h2))
    clear h2 hqx hpx HX2
    go_wp2_with fail
    refine bodyPost_ret (v := .tuple #[.agg #[.slice none 0 0, .slice none 0 0], .int .i64 3]) ?_ rfl (kpost_err hx.out (bel2_ HF2.out (by have := HQW.out; omega)))
    simp [results, Tryd.results20, go_sem, bq0, bq1, lq]
  have t2 : decide (k < 0) = false := by simp [h2]
  by_cases h3 : (m : Int) < k
  · have t3 : decide ((m : Int) < k) = true := by simp [h3]
    have hx : Hid (X = (Dk.zero, 3)) := HX2.out.trans (if_pos (.inr h3))
    clear h2 h3 hqx hpx HX2
    go_wp2_with fail
    refine bodyPost_ret (v := .tuple #[.agg #[.slice none 0 0, .slice none 0 0], .int .i64 3]) ?_ rfl (kpost_err hx.out (bel2_ HF2.out (by have := HQW.out; omega)))
    simp [results, Tryd.results20, go_sem, bq0, bq1, lq]
  have t3 : decide ((m : Int) < k) = false := by simp [h3]
  obtain ⟨j, rfl⟩ := Int.eq_ofNat_of_zero_le (show 0 ≤ k by omega)
  have hx : Hid (X = (⟨d.safe, d.wait.take j⟩, 0)) := HX2.out.trans (by rw [if_neg (by omega), Int.toNat_natCast])
  have hjm : j ≤ m := by omega
  have C1 : Hid (∀ W, Fr w W → Calls Tryd.prog 49 #[.slice A n c] W fun r w' => ∃ u, r = .returned u ∧ Own 1 eByte w' W.heap.size 5 u d.safe ∧ Fr W w') := fun W hf => cloneBytes_any W A n c d.safe (HA.out.2.go sByte hf) HA.out.1.1
  have C2 : Hid (∀ W, Fr w W → Calls Tryd.prog 49 #[.slice B j e] W fun r w' => ∃ u, r = .returned u ∧ Own 1 eByte w' W.heap.size 5 u (d.wait.take j) ∧ Fr W w') := fun W hf => cloneBytes_any W B j e (d.wait.take j) ((HB.out.2.go sByte hf).pre hjm) (by have := HB.out.1.1; omega)
  have hje : j ≤ e := by have := HB.out.1; omega
  have i1 : (j : Int) ≤ (e : Int) := by omega
  have i2 : 0 ≤ (j : Int) := by omega
  clear h2 h3 HX2 hqx hpx bq0 bq1 y0 y1 lq
  go_wp2_with fail
  have hSC : Hid (∀ w', Fr w2 w' → w'.cell? ⟨p, 0, none⟩ = some (.slice A n c) ∧ w'.cell? ⟨p, 1, none⟩ = some (.slice B m e)) := fun w' hf => ⟨(hf.cell (World.block_lt_of_cell? w2 _ bp0)).trans bp0, (hf.cell (World.block_lt_of_cell? w2 _ bp1)).trans bp1⟩
  refine held_begin (n := 11) (bs := #[false, false, false, false, false, false, false, false, false, false, false]) rfl rfl (by kernel_rfl) (S := fun w' => w'.cell? ⟨p, 0, none⟩ = some (.slice A n c) ∧ w'.cell? ⟨p, 1, none⟩ = some (.slice B m e)) (hSC.out _ (Below.refl _ _).drew) (fun hHeld => ?_)
  ((first | refine held_sk (i := 0) ?_ | refine held_tk (i := 0) ?_); (first | refine held_sk (i := 1) ?_ | refine held_tk (i := 1) ?_); (first | refine held_sk (i := 3) ?_ | refine held_tk (i := 3) ?_); (first | refine held_sk (i := 4) ?_ | refine held_tk (i := 4) ?_); (first | refine held_sk (i := 5) ?_ | refine held_tk (i := 5) ?_); (first | refine held_sk (i := 6) ?_ | refine held_tk (i := 6) ?_))
  refine held_one (i := 2) rfl (by kernel_rfl) (fun K hK => ?_)
  go_simp
  go_at_call 49
  (with_reducible refine (C1.out _ HF2.out.drew).mono ?_)
  rintro r w4 ⟨u1, rfl, ho1, hf4⟩
  obtain ⟨A4, c4, rfl, hb4⟩ := ho1.byt (by rw [hl]; have := HA.out.1.1; omega)
  rw [hl] at hb4
  rw [hl]
  have hf24 : Fr w2 w4 := (Below.refl _ _).drew.trans hf4
  have HF4 : Hid (Fr w w4) := HF2.out.trans hf24
  have HB4 : Hid (Byt w4 (NW w2.heap.size w4.heap.size) A4 n c4 d.safe) := hb4
  clear ho1 hf4 hb4 C1
  (refine held_back hK (a' := ?hA1) (l' := ?hL1) ?ha1 ?hl1 (hSC.out _ hf24) (fun hHeld => ?hh1); (case ha1 => first | with_reducible rfl | (simp only [Act.put, hq1, hq2, hq3, Option.isNone, Bool.not_true, Bool.not_false]; (try with_reducible rfl))); (case hl1 => (simp only [Act.put, hq1, hq2, hq3, Option.isNone, Bool.not_true, Bool.not_false]; (try with_reducible rfl))); clear hK K)
  refine held_one (i := 7) rfl (by kernel_rfl) (fun K hK => ?_)
  go_simp
  go_at_call 49
  (with_reducible refine (C2.out _ HF4.out).mono ?_)
  rintro r w5 ⟨u2, rfl, ho2, hf5⟩
  have hlt : (d.wait.take j).length = j := by rw [List.length_take]; omega
  obtain ⟨A5, c5, rfl, hb5⟩ := ho2.byt (by rw [hlt]; have := HB.out.1.1; omega)
  rw [hlt] at hb5
  rw [hlt]
  have hf25 : Fr w2 w5 := hf24.trans hf5
  have HF5 : Hid (Fr w w5) := HF2.out.trans hf25
  have h24 := hf24.size
  have HB5 : Hid (Byt w5 (NW w2.heap.size w5.heap.size) A5 j c5 (d.wait.take j)) := ⟨hb5.1, hb5.2.more sByte fun x hx => ⟨Nat.le_trans h24 hx.1, hx.2⟩⟩
  have HB4' : Hid (Byt w5 (NW w2.heap.size w5.heap.size) A4 n c4 d.safe) := ⟨HB4.out.1, (HB4.out.2.keep sByte fun x hx => hf5.cell hx.2).more sByte fun x hx => ⟨hx.1, Nat.lt_of_lt_of_le hx.2 hf5.size⟩⟩
  have hqx := blk_go HQ2.out hf25
  have hpx := blk_go HP2.out hf25
  have hqw : q < w2.heap.size := (Array.getElem?_eq_some_iff.1 HQ2.out).1
  clear ho2 hf5 hb5 C2 hf24 HF4 HB4
  (refine held_back hK (a' := ?hA2) (l' := ?hL2) ?ha2 ?hl2 (hSC.out _ hf25) (fun hHeld => ?hh2); (case ha2 => first | with_reducible rfl | (simp only [Act.put, hq1, hq2, hq3, Option.isNone, Bool.not_true, Bool.not_false]; (try with_reducible rfl))); (case hl2 => (simp only [Act.put, hq1, hq2, hq3, Option.isNone, Bool.not_true, Bool.not_false]; (try with_reducible rfl))); clear hK K)
  ((first | refine held_sk (i := 8) ?_ | refine held_tk (i := 8) ?_))
  (obtain ⟨bq0, bq1⟩ := box2_ hqx)
  have y0 := blk_free (i := 0) hqx
  have y1 := blk_free (i := 1) hqx
  have lq := (Array.getElem?_eq_some_iff.1 hqx).1
  refine held_one (i := 9) rfl (by kernel_rfl) (fun K hK => ?_)
  go_simp
  (refine held_back hK (a' := ?hA3) (l' := ?hL3) ?ha3 ?hl3 (⟨(set2_far NE).trans (hSC.out _ hf25).1, (set2_far NE).trans (hSC.out _ hf25).2⟩) (fun hHeld => ?hh3); (case ha3 => first | with_reducible rfl | (simp only [Act.put, hq1, hq2, hq3, Option.isNone, Bool.not_true, Bool.not_false]; (try with_reducible rfl))); (case hl3 => (simp only [Act.put, hq1, hq2, hq3, Option.isNone, Bool.not_true, Bool.not_false]; (try with_reducible rfl))); clear hK K)
  ((first | refine held_sk (i := 10) ?_ | refine held_tk (i := 10) ?_))
  refine wpAnyH_done (by kernel_rfl) ?_ _
  have KEY : Hid (∀ W9, Chg (fun b => b = q) w5 W9 → Fr w W9 → KPost w X (.returned (.tuple #[.agg #[.slice A4 n c4, .slice A5 j c5], .int .i64 0])) W9) := by
    intro W9 hC hF
    have hs9 := hC.size
    have h2w := HF2.out.size
    have hkeep : ∀ {A : Option Addr} {n c : Nat} {l : List UInt8}, Byt w5 (NW w2.heap.size w5.heap.size) A n c l → Byt W9 (NW w.heap.size W9.heap.size) A n c l := fun h =>
      ⟨h.1, (h.2.chg sByte hC fun b hb => ⟨hb.2, fun e => by have e : b = q := e; have := hb.1; omega⟩).more sByte fun b hb => ⟨by have := hb.1; omega, by have := hb.2; omega⟩⟩
    rw [hx.out]
    exact ⟨A4, n, c4, A5, j, c5, rfl, hkeep HB4'.out, hkeep HB5.out, hF⟩
  clear hqx hpx
  go_wp2_with fail
  refine bodyPost_ret (v := .tuple #[.agg #[.slice A4 n c4, .slice A5 j c5], .int .i64 0]) ?_ rfl (KEY.out _ (Chg.of (grw2_ ⟨rfl, rfl, rfl, Nat.le_refl _, fun _ _ _ => rfl⟩)) (bel2_ HF5.out (by have := HQW.out; omega)))
  simp [results, Tryd.results20, go_sem, bq0, bq1, lq]
end Go.Proofs.YtkfpgnoodhlfgaaDoor
namespace Go.Proofs.YtkfpgnoodhlfgaaDoor
open Go.RowKit
attribute [local irreducible] wpList

/-- What disk.Recover leaves. -/
def VPost (w : World) (X : (Dk × List Rc) × Int) (r : Ending) (w' : World) : Prop := ∃ A n c v, r = .returned (.tuple #[.agg #[.slice A n c, .slice none 0 0], v, .int .i64 X.2]) ∧ X.1.1.wait = [] ∧ Byt w' (NW w.heap.size w'.heap.size) A n c X.1.1.safe ∧ Own 13 (eNew w.heap.size eRc) w' w.heap.size 31 v X.1.2 ∧ Fr w w'
theorem vpost_err {w w' : World} {X : (Dk × List Rc) × Int} {c : Int} (h : X = ((Dk.zero, []), c)) (hf : Fr w w') : VPost w X (.returned (.tuple #[.agg #[.slice none 0 0, .slice none 0 0], .slice none 0 0, .int .i64 c])) w' := by
  subst h
  exact ⟨none, 0, 0, _, rfl, rfl, byt_nil, Own.nil, hf⟩
section
variable {α : Type} {size : Nat} {r : ERd α} {w w' : World} {base : Nat} {e : TypeId} {v : Value} {xs : List α}
theorem run_append_nil1 {P : Program} (t ty : TypeId) (i : TypeInfo) (c : Nat) (cs : List Value) (ht : P.underlying t = some (.slice e)) (hi : P.info? e = some i) (n : Nat) (hown : w.ownsRow base e size v n cs) :
    (Builtin.append_ #[t, t] ty #[v, .slice none 0 c]).run P w = .ok v w := by
  rcases hown.2 with ⟨rfl, rfl⟩ | ⟨g, cap, cur, rfl, _, _, hnc, _⟩
  · simp [Builtin.append_, run_underlying ht, sizeOf, typeInfo, hi, Builtin.lenOf, Builtin.firstCells]
  · simp [Builtin.append_, run_underlying ht, sizeOf, typeInfo, hi, Builtin.lenOf, Builtin.firstCells, hnc, storeCells]
/-- 'append(v, s...)' as one step of a region that draws its order: s lies beside v's block. -/
theorem step_appY {P : Program} {ops : Array Oper} {o : Oper} {a : Act} {K : Act → World → Prop} {Q : Exit → Act → World → Prop} {E : Prop} (hgd : o.guard = none) (s x : Operand) (t : TypeId)
    (ho : o.op = .call { callee := .builtin .append, args := #[s, x], argTypes := #[t, t] })
    (base : Nat) (e : TypeId) (z : Value) (bytes : Nat) (ht : P.underlying t = some (.slice e)) (hi : (P.info? e).map (fun i => (i.zero, i.size, i.bytes)) = some (some z, size, bytes))
    (hzs : z.cells.size = size) (hsz : 0 < size) (st : Stable size r) (F : Full size r) (v : Value) (xs : List α)
    (hs : a.eval s = v) (hown : Own size r w base e v xs) (A : Option Addr) (n c : Nat) (ys : List α) (hx : a.eval x = .slice A n c) (hy : Sl size r w (fun b => b < w.heap.size ∧ v.ownBlock ≠ some b) A n ys)
    (h63 : xs.length + n ≤ maxLen) (hbytes : (xs.length + n) * bytes ≤ lim) (hbase : base ≤ w.heap.size) (B : Nat) (A0 : World) (hbel : Below B A0 w) (hB : B ≤ base)
    (h : ∀ v' w', Hid (Own size r w' base e v' (xs ++ ys)) → Hid (Below B A0 w') → Hid (Chg (fun k => v.ownBlock = some k) w w') → K (a.put o.dst v') w') :
    if Region.wanted o (yielded ops a.tmps) = true then Oper.wp P o a w K Q else E := by
  have hw : Region.wanted o (yielded ops a.tmps) = true := by simp [Region.wanted, hgd]
  cases A with
  | none =>
    have hn : n = 0 := by
      rcases Nat.eq_zero_or_pos n with h0 | h0
      · exact h0
      · obtain ⟨ad, e, _⟩ := hy.2 h0; cases e
    subst hn
    have hl : ys = [] := List.eq_nil_of_length_eq_zero hy.1
    subst hl
    rw [if_pos hw]
    obtain ⟨i, hi1, hi2⟩ := Option.map_eq_some_iff.1 hi
    obtain ⟨cs, hrow, hr⟩ := hown
    have hrun := run_append_nil1 (P := P) (size := size) (w := w) (v := v) (base := base) t o.type i c cs ht hi1 _ hrow
    unfold Oper.wp execOp
    simp only [ho, resolve, invoke, builtin, Sem.run_bind, Sem.run_pure, Result.andThen_ok, List.map_toArray, List.map_cons, List.map_nil, hs, hx, hrun]
    exact h v w (by rw [List.append_nil]; exact ⟨cs, hrow, hr⟩) hbel (Chg.refl _ _)
  | some ad =>
    obtain ⟨cs, hcl, hcc, hc1, hcr⟩ : ∃ cs : List Value, cs.length = n * size ∧ (∀ j u, cs[j]? = some u → w.cell? (ad.add j) = some u) ∧ (∀ u ∈ cs, u.oneCell' = true) ∧ ∀ i x, ys[i]? = some x → r w (fun b => b < w.heap.size ∧ v.ownBlock ≠ some b) (fun j => cs[i * size + j]?) x := by
      rcases Nat.eq_zero_or_pos n with h0 | h0
      · have hl : ys = [] := List.eq_nil_of_length_eq_zero (by rw [hy.1]; exact h0)
        exact ⟨[], by simp [h0], fun j u hu => by simp at hu, fun u hu => by simp at hu, fun i x hx => by simp [hl] at hx⟩
      · obtain ⟨ad', e', hE⟩ := hy.els h0
        injection e' with e'
        subst e'
        obtain ⟨cs, k1, k2, k3, k4⟩ := hE.cells F st hsz
        exact ⟨cs, k1, k2, k3, k4⟩
    refine step_apps (w := w) hgd s x t ho base e z size bytes ht hi hzs hsz st v xs hs hown ad n c cs hx hcl hcc hc1 ys hy.1 hcr h63 hbytes hbase fun v' w' h1 h2 h3 => h v' w' h1 ?_ ?_
    · exact hbel.grown h2 (Nat.le_trans hB hbase) fun k hk => Nat.le_trans hB (h3 k hk)
    · exact ⟨h2.os, h2.tape, h2.output, h2.size, fun k hk hs => h2.block k hk fun e => hs e.symm⟩
theorem Own.newLe {N N' : Nat} (s : Stable size r) (h : Own size (eNew N r) w base e v xs) (hN : N' ≤ N) : Own size (eNew N' r) w base e v xs := by
  obtain ⟨cs, ho, hr⟩ := h
  exact ⟨cs, ho, fun i x hx => s.more (fun b hb => ⟨hb.1, Nat.le_trans hN hb.2⟩) (hr i x hx)⟩
theorem Sl.new {N : Nat} {S : Nat → Prop} {A : Option Addr} {n : Nat} (s : Stable size r) (h : Sl size r w S A n xs) (hN : ∀ b, S b → N ≤ b) : Sl size (eNew N r) w S A n xs :=
  ⟨h.1, fun hn => by obtain ⟨ad, e, hS, hr⟩ := h.2 hn; exact ⟨ad, e, hS, fun i x hx => s.more (fun b hb => ⟨hb, hN b hb⟩) (hr i x hx)⟩⟩
theorem Own.newChg {N : Nat} {T : Nat → Prop} (s : Stable size r) (h : Own size (eNew N r) w base e v xs) (k : Chg T w w') (hT : ∀ b, T b → b < N ∧ b < base) : Own size (eNew N r) w' base e v xs := by
  obtain ⟨cs, ho, hr⟩ := h
  refine ⟨cs, ⟨ho.1, ?_⟩, fun i x hx => ?_⟩
  · rcases ho.2 with h0 | ⟨g, cap, cur, h1, h2, h3, h4⟩
    · exact .inl h0
    · exact .inr ⟨g, cap, cur, h1, h2, k.blk h3 (fun e => by have := hT g e; omega), h4⟩
  · exact s.more (fun b hb => ⟨⟨Nat.lt_of_lt_of_le hb.1.1 k.size, hb.1.2⟩, hb.2⟩) (s.keep (fun p hp => k.cell hp.1.1 fun e => by have := hT _ e; have := hp.2; omega) (hr i x hx))
/-- It reads as a list, off new blocks. -/
theorem Own.slN {N : Nat} (s : Stable size r) (h : Own size (eNew N r) w base e v xs) (hN : N ≤ base) : ∃ A c, v = .slice A xs.length c ∧ (xs.length ≤ c ∧ c ≤ maxLen) ∧ Sl size r w (NW N w.heap.size) A xs.length xs := by
  obtain ⟨cs, ho, hr⟩ := h
  rcases ho.2 with ⟨rfl, h0⟩ | ⟨g, cap, cur, rfl, hbg, hg, hnc, hcm, hcs, htake⟩
  · exact ⟨none, 0, by rw [h0], ⟨by omega, by unfold maxLen; omega⟩, rfl, fun hn => by omega⟩
  · refine ⟨some ⟨g, 0, none⟩, cap, rfl, ⟨hnc, hcm⟩, rfl, fun hn => ⟨_, rfl, ⟨Nat.le_trans hN hbg, (Array.getElem?_eq_some_iff.1 hg).1⟩, fun i x hx => ?_⟩⟩
    refine s.mono (fun j u hj hu => ?_) (s.more (fun b hb => ⟨hb.2, hb.1.1⟩) (hr i x hx))
    rw [zero_add_addr, cell_of_heap hg]
    rw [← htake, List.getElem?_take] at hu
    split at hu
    · simpa using hu
    · cases hu
end
set_option maxRecDepth 100000 in
set_option maxHeartbeats 8000000 in
theorem diskRecover_any (w : World) (v : Vars w) (d : Dk) (A : Option Addr) (n c : Nat) (B : Option Addr) (m e : Nat) (hA : Byt w (LT w.heap.size) A n c d.safe) (hB : Byt w (LT w.heap.size) B m e d.wait) :
    Calls Tryd.prog 22 #[.agg #[.slice A n c, .slice B m e]] w (VPost w (recoverF d)) := by
  obtain ⟨X, hX⟩ : ∃ X, X = recoverF d := ⟨_, rfl⟩
  rw [← hX]
  have hl := hA.2.1
  have hl2 := hB.2.1
  obtain ⟨W1, hW1⟩ : ∃ W1, W1 = (w.alloc (.cells #[.slice A n c, .slice B m e] 45)).alloc (.cells #[.slice none 0 0, .slice none 0 0] 45) := ⟨_, rfl⟩
  obtain ⟨p, hp⟩ : ∃ p, p = w.heap.size := ⟨_, rfl⟩
  obtain ⟨q, hq⟩ : ∃ q, q = w.heap.size + 1 := ⟨_, rfl⟩
  have hp1 : W1.heap[p]? = some (.cells #[.slice A n c, .slice B m e] 45 (0, 0)) := by rw [hW1]; exact heap_old (heap_new hp)
  have hq1 : W1.heap[q]? = some (.cells #[.slice none 0 0, .slice none 0 0] 45 (0, 0)) := by rw [hW1]; exact heap_new (by rw [hq]; simp)
  have HF1 : Hid (Fr w W1) := by rw [hW1]; exact (frAlloc _ _).trans (frAlloc _ _)
  have HQW := Lib.hid hq
  have HP1 := Lib.hid hp1
  have HQ1 := Lib.hid hq1
  obtain ⟨ck, hck⟩ : ∃ ck, ck = diskCheck d := ⟨_, rfl⟩
  have CK : Hid (Calls Tryd.prog 48 #[.agg #[.slice A n c, .slice B m e]] W1 fun r w' => r = .returned (.int .i64 ck) ∧ Fr W1 w') := by rw [hck]; exact diskCheck_any W1 (v.go HF1.out) d A n c B m e (hA.go HF1.out) (hB.go HF1.out)
  have HV := Lib.hid v
  have HA := Lib.hid hA
  have HB := Lib.hid hB
  have HX := Lib.hid hX
  have HCK := Lib.hid hck
  (obtain ⟨bp0, bp1⟩ := box2_ hp1)
  clear hp1 hq1 hA hB hX hck v
  go_enter Tryd.func22, Tryd.ntmps22
  go_upto_region 1 with fail
  rw [← hW1, ← hq, ← hp]
  have NE : q ≠ p := by omega
  clear hW1 hp hq
  go_wp2_with fail
  (with_reducible refine (CK.out).mono ?_)
  rintro r w2 ⟨rfl, hf2⟩
  have HF2 : Hid (Fr w w2) := HF1.out.trans hf2
  have HP2 := Lib.hid (blk_go HP1.out hf2)
  have HQ2 := Lib.hid (blk_go HQ1.out hf2)
  clear hf2 CK HF1 HP1 HQ1 bp0 bp1
  by_cases h1 : ck = 0
  case neg =>
    have t1 : (ck != 0) = true := by simp [h1]
    have hx : Hid (X = ((Dk.zero, []), ck)) := HX.out.trans (by unfold recoverF; rw [← HCK.out, if_pos h1])
    have hqx := HQ2.out
    (obtain ⟨bq0, bq1⟩ := box2_ hqx)
    have y0 := blk_free (i := 0) hqx
    have y1 := blk_free (i := 1) hqx
    have lq := (Array.getElem?_eq_some_iff.1 hqx).1
    clear h1 hqx
    go_wp2_with fail
    refine bodyPost_ret (v := .tuple #[.agg #[.slice none 0 0, .slice none 0 0], .slice none 0 0, .int .i64 ck]) ?_ rfl (vpost_err hx.out (bel2_ HF2.out (by have := HQW.out; omega)))
    simp [results, Tryd.results22, go_sem, bq0, bq1, lq]
  case pos =>
  have t1 : (ck != 0) = false := by simp [h1]
  have hk := diskCheck_ok (HCK.out.symm.trans h1)
  have hsz := hk.size
  have hmany := hk.many
  obtain ⟨Y, hY⟩ : ∃ Y, Y = linesF 200 d.safe := ⟨_, rfl⟩
  rw [← hY] at hmany
  obtain ⟨Z, hZ⟩ : ∃ Z, Z = linesF (200 - Y.1.length) d.wait := ⟨_, rfl⟩
  have hx : Hid (X = ((⟨d.safe ++ d.wait.take Z.2.1, []⟩, Y.1 ++ Z.1), 0)) := HX.out.trans (by unfold recoverF; rw [← HCK.out, if_neg (by simp [h1]), hZ, hY])
  have hzl : Z.2.1 ≤ m := by rw [hZ, ← hl2]; exact linesF_le
  have hzm : Z.1.length ≤ 200 - Y.1.length := by rw [hZ]; exact (linesF_ok _ _).many
  rw [hl, hl2] at hsz
  have HSZ := Lib.hid hsz
  have hcv := conv_bytes w2 c (HA.out.2.go sByte HF2.out)
  have LN : Hid (Calls Tryd.prog 51 #[sV d.safe, .int .i64 200] w2 (LPost w2 Y)) := by rw [hY]; exact lines_any w2 (HV.out.go HF2.out) d.safe (by omega) 200 (by omega)
  have hpx := HP2.out
  (obtain ⟨bp0, bp1⟩ := box2_ hpx)
  have HY := Lib.hid hY
  have HZ := Lib.hid hZ
  have HZL := Lib.hid hzl
  clear h1 HX HCK hk hpx hsz hY hZ hzl
  go_wp2_with fail
  (with_reducible refine (LN.out).mono ?_)
  rintro r w3 ⟨v1, rfl, ho3, hf3⟩
  have HF3 : Hid (Fr w w3) := HF2.out.trans hf3
  have HF23 := Lib.hid hf3
  have HP3 := Lib.hid (blk_go HP2.out hf3)
  have HQ3 := Lib.hid (blk_go HQ2.out hf3)
  have HO3 := Lib.hid ho3
  obtain ⟨A3, c3, rfl, ⟨hac, hcm⟩, _⟩ := ho3.slC (sRc.newer _) (by decide)
  have HP2' := HP2
  clear ho3 hf3 LN bp0 bp1 hcv t1 HP2
  have hcv := conv_bytes w3 e (HB.out.2.go sByte HF3.out)
  obtain ⟨k1, hk1⟩ : ∃ k1, k1 = Y.1.length := ⟨_, rfl⟩
  have hk1' : k1 ≤ 200 := by omega
  have hw1 : IntKind.i64.wrap ((200 : Int) - (k1 : Int)) = ((200 - k1 : Nat) : Int) := by rw [IntKind.wrap_i64]; omega
  have LN2 : Hid (Calls Tryd.prog 51 #[sV d.wait, .int .i64 ((200 - k1 : Nat) : Int)] w3 (LPost w3 Z)) := by rw [HZ.out, ← hk1]; exact lines_any w3 (HV.out.go HF3.out) d.wait (by have := HSZ.out; omega) _ (by omega)
  rw [← hk1]
  have hpx := HP3.out
  (obtain ⟨bp0, bp1⟩ := box2_ hpx)
  have HK1 := Lib.hid hk1
  have HHM := Lib.hid hmany
  have HZM := Lib.hid hzm
  clear hpx hmany hzm hk1 hac
  go_wp2_with fail
  (with_reducible refine (LN2.out).mono ?_)
  rintro r w4 ⟨v2, rfl, ho4, hf4⟩
  have HF4 : Hid (Fr w w4) := HF3.out.trans hf4
  have HF24 : Fr w2 w4 := HF23.out.trans hf4
  have HQ4 := Lib.hid (blk_go HQ3.out hf4)
  have HP4 := Lib.hid (blk_go HP3.out hf4)
  have h23 := HF23.out.size
  have h34 := hf4.size
  have HO4 : Hid (Own 13 (eNew w2.heap.size eRc) w4 w2.heap.size 31 (.slice A3 k1 c3) Y.1) := by
    have := HO3.out.fr (sRc.newer _) hf4
    rw [HK1.out]
    exact this
  obtain ⟨A4, c4, rfl, ⟨hac4, hcm4⟩, hs4⟩ := ho4.slN sRc (Nat.le_refl _)
  have hown3 : ∀ k, (Value.slice A3 k1 c3).ownBlock = some k → w2.heap.size ≤ k ∧ k < w3.heap.size := by
    obtain ⟨cs, ho, _⟩ := HO3.out
    intro k hk
    rw [HK1.out] at hk
    exact ho.lt k hk
  have HS4 := Lib.hid hs4
  have HOW3 := Lib.hid hown3
  obtain ⟨n4, hn4⟩ : ∃ n4, n4 = Z.1.length := ⟨_, rfl⟩
  obtain ⟨kz, hkz⟩ : ∃ kz, kz = Z.2.1 := ⟨_, rfl⟩
  have HN4 := Lib.hid hn4
  have hkm : kz ≤ m := by rw [hkz]; exact HZL.out
  rw [← hkz, ← hn4]
  rw [← hkz] at hx
  have HKE := HB.out.1
  have CC : Hid (∀ W y, Fr w W → W.heap[y]? = some (.cells #[.slice A n c, .slice B kz e] 26 (0, 0)) → Calls Tryd.prog 50 #[.slice (some ⟨y, 0, none⟩) 2 2] W fun r w' => ∃ u, r = .returned u ∧ Own 1 eByte w' W.heap.size 5 u (d.safe ++ d.wait.take kz) ∧ Fr W w') := by
    intro W y hf hy
    have hsl := sl_two hy (blk_LT hy) (HA.out.go hf) (⟨by have := HB.out.1; omega, (HB.out.2.go sByte hf).pre hkm⟩ : Byt W _ B kz e (d.wait.take kz))
    have hl9 : (d.safe ++ d.wait.take kz).length ≤ 60000 := by rw [List.length_append, List.length_take]; have := HSZ.out; omega
    have := concatDBytes_any W _ 2 2 _ hsl (by unfold lim; omega) (by simp [lens]; unfold lim; rw [List.length_append, List.length_take] at hl9; omega) (by simp [lens]; unfold lim; rw [List.length_append, List.length_take] at hl9; omega)
    rw [show ([d.safe, d.wait.take kz] : List (List UInt8)).flatten = d.safe ++ d.wait.take kz by simp] at this
    exact this
  have hje : kz ≤ e := by have := HB.out.1; omega
  have i1 : (kz : Int) ≤ (e : Int) := by omega
  have i2 : 0 ≤ (kz : Int) := by omega
  have hpm : Y.1.length + n4 ≤ maxLen := by have := HHM.out; have := HZM.out; unfold maxLen; omega
  have hpb : (Y.1.length + n4) * 136 ≤ lim := by have := HHM.out; have := HZM.out; unfold lim; omega
  have hpx := HP4.out
  (obtain ⟨bp0, bp1⟩ := box2_ hpx)
  clear ho4 hf4 LN2 hcv hpx hkz hn4 hs4 hac4 hown3
  go_wp2_with fail
  have hSC : Hid (∀ w', Fr w4 w' → w'.cell? ⟨p, 0, none⟩ = some (.slice A n c) ∧ w'.cell? ⟨p, 1, none⟩ = some (.slice B m e)) := fun w' hf => ⟨(hf.cell (World.block_lt_of_cell? w4 _ bp0)).trans bp0, (hf.cell (World.block_lt_of_cell? w4 _ bp1)).trans bp1⟩
  refine held_begin (n := 15) (bs := #[false, false, false, false, false, false, false, false, false, false, false, false, false, false, false]) rfl rfl (by kernel_rfl) (S := fun w' => w'.cell? ⟨p, 0, none⟩ = some (.slice A n c) ∧ w'.cell? ⟨p, 1, none⟩ = some (.slice B m e)) (hSC.out _ (Below.refl _ _).drew) (fun hHeld => ?_)
  ((first | refine held_sk (i := 0) ?_ | refine held_tk (i := 0) ?_); (first | refine held_sk (i := 1) ?_ | refine held_tk (i := 1) ?_); (first | refine held_sk (i := 2) ?_ | refine held_tk (i := 2) ?_); (first | refine held_sk (i := 3) ?_ | refine held_tk (i := 3) ?_); (first | refine held_sk (i := 4) ?_ | refine held_tk (i := 4) ?_); (first | refine held_sk (i := 5) ?_ | refine held_tk (i := 5) ?_); (first | refine held_sk (i := 9) ?_ | refine held_tk (i := 9) ?_); (first | refine held_sk (i := 10) ?_ | refine held_tk (i := 10) ?_))
  refine held_one (i := 6) rfl (by kernel_rfl) (fun K hK => ?_)
  go_simp
  obtain ⟨w5, hw5⟩ : ∃ W : World, W = (World.alloc w4 (.cells #[.slice A n c, .slice B kz e] 26)).drew := ⟨_, rfl⟩
  obtain ⟨y5, hy5⟩ : ∃ y : Nat, y = w4.heap.size := ⟨_, rfl⟩
  rw [← hw5]
  have hk5 : w5.heap[y5]? = some (.cells #[.slice A n c, .slice B kz e] 26 (0, 0)) := by rw [hw5]; exact heap_d (heap_new hy5)
  have hf45 : Fr w4 w5 := by rw [hw5]; exact (frAlloc _ _).drew
  clear hw5
  subst hy5
  (refine held_back hK (a' := ?hA4) (l' := ?hL4) ?ha4 ?hl4 (hSC.out _ hf45) (fun hHeld => ?hh4); (case ha4 => first | with_reducible rfl | (simp only [Act.put, hq1, hq2, hq3, Option.isNone, Bool.not_true, Bool.not_false]; (try with_reducible rfl))); (case hl4 => (simp only [Act.put, hq1, hq2, hq3, Option.isNone, Bool.not_true, Bool.not_false]; (try with_reducible rfl))); clear hK K)
  refine held_one (i := 7) rfl (by kernel_rfl) (fun K hK => ?_)
  go_simp
  go_at_call 50
  (with_reducible refine (CC.out _ _ (HF4.out.trans hf45) hk5).mono ?_)
  rintro r w6 ⟨u, rfl, ho6, hf6⟩
  have hl9 : (d.safe ++ d.wait.take kz).length ≤ lim := by rw [List.length_append, List.length_take]; have := HSZ.out; unfold lim; omega
  obtain ⟨A6, c6, rfl, hb6⟩ := ho6.byt hl9
  obtain ⟨L, hL⟩ : ∃ L, L = d.safe ++ d.wait.take kz := ⟨_, rfl⟩
  obtain ⟨n6, hn6⟩ : ∃ n6, n6 = L.length := ⟨_, rfl⟩
  rw [← hL, ← hn6] at hb6
  rw [← hL, ← hn6]
  rw [← hL] at hx
  have hf46 : Fr w4 w6 := hf45.trans hf6
  have hf26 : Fr w2 w6 := HF24.trans hf46
  have h45 := hf45.size
  have h46 := hf46.size
  have HB6 := Lib.hid hb6
  clear ho6 hf6 hb6 hl9 hL hn6 hk5
  (refine held_back hK (a' := ?hA5) (l' := ?hL5) ?ha5 ?hl5 (hSC.out _ hf46) (fun hHeld => ?hh5); (case ha5 => first | with_reducible rfl | (simp only [Act.put, hq1, hq2, hq3, Option.isNone, Bool.not_true, Bool.not_false]; (try with_reducible rfl))); (case hl5 => (simp only [Act.put, hq1, hq2, hq3, Option.isNone, Bool.not_true, Bool.not_false]; (try with_reducible rfl))); clear hK K)
  ((first | refine held_sk (i := 8) ?_ | refine held_tk (i := 8) ?_))
  refine held_one (i := 11) rfl (by kernel_rfl) (fun K hK => ?_)
  have HO6 : Hid (Own 13 (eNew w2.heap.size eRc) w6 w2.heap.size 31 (.slice A3 k1 c3) Y.1) := HO4.out.fr (sRc.newer _) hf46
  have HY6 : Hid (Sl 13 (eNew w2.heap.size eRc) w6 (fun b => b < w6.heap.size ∧ (Value.slice A3 k1 c3).ownBlock ≠ some b) A4 n4 Z.1) := by
    rw [HN4.out]
    refine ((HS4.out.keep sRc fun x hx => hf46.cell hx.2).new sRc fun b hb => Nat.le_trans h23 hb.1).more (sRc.newer _) fun b hb => ⟨Nat.lt_of_lt_of_le hb.2 h46, fun e => ?_⟩
    have h1 := (HOW3.out b e).2
    have h2 := hb.1
    omega
  refine step_appY rfl (.tmp 46) (.tmp 47) 43 rfl w2.heap.size 31 (.agg #[.int .i64 0, .int .i64 0, .int .i64 0, .int .i64 0, .int .i64 0, .int .i64 0, .int .i64 0, .int .i64 0, .int .i64 0, .int .i64 0, .int .i64 0, .slice none 0 0, .slice none 0 0]) 136 Tryd.underlying43 infoRec rfl (by decide) (sRc.newer _) (fRc.newer _) (.slice A3 k1 c3) Y.1 rfl HO6.out A4 n4 c4 Z.1 rfl HY6.out hpm hpb hf26.size w2.heap.size w2 hf26 (Nat.le_refl _) ?_
  intro v7 w7 HO7 HF7 HC7
  have HB7 : Hid (Byt w7 (NW w2.heap.size w7.heap.size) A6 n6 c6 L) := ⟨HB6.out.1, (HB6.out.2.keep sByte fun x hx => HC7.out.cell hx.2 fun e => by have h1 := (HOW3.out _ e).2; have h2 := hx.1; omega).more sByte fun x hx => ⟨by have h2 := hx.1; omega, Nat.lt_of_lt_of_le hx.2 HC7.out.size⟩⟩
  have HF7w : Hid (Fr w w7) := HF2.out.trans HF7.out
  have hqx := blk_go HQ2.out HF7.out
  have hqw : q < w2.heap.size := (Array.getElem?_eq_some_iff.1 HQ2.out).1
  have hpp := blk_go HP2'.out HF7.out
  (refine held_back hK (a' := ?hA6) (l' := ?hL6) ?ha6 ?hl6 (⟨cell_of_heap (i := 0) hpp, cell_of_heap (i := 1) hpp⟩) (fun hHeld => ?hh6); (case ha6 => first | with_reducible rfl | (simp only [Act.put, hq1, hq2, hq3, Option.isNone, Bool.not_true, Bool.not_false]; (try with_reducible rfl))); (case hl6 => (simp only [Act.put, hq1, hq2, hq3, Option.isNone, Bool.not_true, Bool.not_false]; (try with_reducible rfl))); clear hK K)
  (obtain ⟨bq0, bq1⟩ := box2_ hqx)
  have y0 := blk_free (i := 0) hqx
  have y1 := blk_free (i := 1) hqx
  have lq := (Array.getElem?_eq_some_iff.1 hqx).1
  refine held_one (i := 12) rfl (by kernel_rfl) (fun K hK => ?_)
  go_simp
  (refine held_back hK (a' := ?hA7) (l' := ?hL7) ?ha7 ?hl7 (⟨(set2_far NE).trans (cell_of_heap (i := 0) hpp), (set2_far NE).trans (cell_of_heap (i := 1) hpp)⟩) (fun hHeld => ?hh7); (case ha7 => first | with_reducible rfl | (simp only [Act.put, hq1, hq2, hq3, Option.isNone, Bool.not_true, Bool.not_false]; (try with_reducible rfl))); (case hl7 => (simp only [Act.put, hq1, hq2, hq3, Option.isNone, Bool.not_true, Bool.not_false]; (try with_reducible rfl))); clear hK K)
  ((first | refine held_sk (i := 13) ?_ | refine held_tk (i := 13) ?_); (first | refine held_sk (i := 14) ?_ | refine held_tk (i := 14) ?_))
  refine wpAnyH_done (by kernel_rfl) ?_ _
  have KEY : Hid (∀ W9, Chg (fun b => b = q) w7 W9 → Fr w W9 → VPost w X (.returned (.tuple #[.agg #[.slice A6 n6 c6, .slice none 0 0], v7, .int .i64 0])) W9) := by
    intro W9 hC hF
    have hs9 := hC.size
    have h2w := HF2.out.size
    rw [hx.out]
    exact ⟨A6, n6, c6, v7, rfl, rfl, ⟨HB7.out.1, (HB7.out.2.chg sByte hC fun b hb => ⟨hb.2, fun e => by have e : b = q := e; have := hb.1; omega⟩).more sByte fun b hb => ⟨by have := hb.1; omega, by have := hb.2; omega⟩⟩,
      ((HO7.out.newChg sRc hC fun b e => by have e : b = q := e; omega).newLe sRc h2w).lower h2w, hF⟩
  clear hqx hpp
  go_wp2_with fail
  refine bodyPost_ret (v := .tuple #[.agg #[.slice A6 n6 c6, .slice none 0 0], v7, .int .i64 0]) ?_ rfl (KEY.out _ (Chg.of (grw2_ ⟨rfl, rfl, rfl, Nat.le_refl _, fun _ _ _ => rfl⟩)) (bel2_ HF7w.out (by have := HQW.out; omega)))
  simp [results, Tryd.results22, go_sem, bq0, bq1, lq]
end Go.Proofs.YtkfpgnoodhlfgaaDoor
namespace Go.Proofs.YtkfpgnoodhlfgaaDoor
def fr (n : Int) : Rc := ⟨8, 0, n, 0, ⟨0, 0, 0, 0, 0, 0⟩, ⟨0, []⟩, []⟩
def ft : List UInt8 := [56, 32, 48, 32, 53, 32, 48, 32, 48, 32, 48, 32, 48, 32, 48, 32, 48, 32, 48, 32, 48, 32, 45, 32, 45, 10]
def ft6 : List UInt8 := [56, 32, 48, 32, 54, 32, 48, 32, 48, 32, 48, 32, 48, 32, 48, 32, 48, 32, 48, 32, 48, 32, 45, 32, 45, 10]
theorem fp1 : putF Dk.zero (fr 5) = (⟨[], ft⟩, 0) := by decide +kernel
theorem fp2 : syncF ⟨[], ft⟩ = (⟨ft, []⟩, 0) := by decide +kernel
theorem fp3 : putF ⟨ft, []⟩ (fr 6) = (⟨ft, ft6⟩, 0) := by decide +kernel
theorem fp4 : crashF ⟨ft, ft6⟩ 4 = (⟨ft, ft6.take 4⟩, 0) := by decide +kernel
theorem fp5 : recoverF ⟨ft, ft6.take 4⟩ = ((⟨ft, []⟩, [fr 5]), 0) := by decide +kernel
end Go.Proofs.YtkfpgnoodhlfgaaDoor
namespace Go.Proofs.YtkfpgnoodhlfgaaDoor
open Go.RowKit
attribute [local irreducible] wpList

/-- A disk laid over the one at p. -/
theorem DkAt.store {W w' : World} {p : Nat} {d : Dk} {u0 u1 : Value} {A : Option Addr} {n c : Nat} {B : Option Addr} {m e : Nat} (hp : W.heap[p]? = some (.cells #[u0, u1] 45 (0, 0))) (hf : Fr W w') (hA : Byt w' (NW W.heap.size w'.heap.size) A n c d.safe) (hB : Byt w' (NW W.heap.size w'.heap.size) B m e d.wait) :
    DkAt ((w'.setCell ⟨p, 0, none⟩ (.slice A n c)).setCell ⟨p, 1, none⟩ (.slice B m e)) p d := by
  have hp' := blk_go hp hf
  have hpw := (Array.getElem?_eq_some_iff.1 hp).1
  have hC : Chg (fun b => b = p) w' ((w'.setCell ⟨p, 0, none⟩ (.slice A n c)).setCell ⟨p, 1, none⟩ (.slice B m e)) := Chg.of (grw2_ ⟨rfl, rfl, rfl, Nat.le_refl _, fun _ _ _ => rfl⟩)
  have hs := hC.size
  have hk : ∀ {A' : Option Addr} {n' c' : Nat} {l : List UInt8}, Byt w' (NW W.heap.size w'.heap.size) A' n' c' l → Byt ((w'.setCell ⟨p, 0, none⟩ (.slice A n c)).setCell ⟨p, 1, none⟩ (.slice B m e)) (fun b => b < ((w'.setCell ⟨p, 0, none⟩ (.slice A n c)).setCell ⟨p, 1, none⟩ (.slice B m e)).heap.size ∧ b ≠ p) A' n' c' l := fun h =>
    ⟨h.1, (h.2.chg sByte hC fun b hb => ⟨hb.2, fun e => by have e : b = p := e; have := hb.1; omega⟩).more sByte fun b hb => ⟨by have := hb.2; omega, fun e => by have := hb.1; omega⟩⟩
  exact ⟨A, n, c, B, m, e, by simp [World.setCell, Array.getElem?_modify, hp'], hk hA, hk hB⟩
/-- A disk laid anew. -/
theorem DkAt.mk {w' : World} {N : Nat} {d : Dk} {A : Option Addr} {n c : Nat} {B : Option Addr} {m e : Nat} (hA : Byt w' (NW N w'.heap.size) A n c d.safe) (hB : Byt w' (NW N w'.heap.size) B m e d.wait) :
    DkAt (w'.alloc (.cells #[.slice A n c, .slice B m e] 45)) w'.heap.size d := by
  have hf : Fr w' (w'.alloc (.cells #[.slice A n c, .slice B m e] 45)) := frAlloc _ _
  have hs := hf.size
  have hk : ∀ {A' : Option Addr} {n' c' : Nat} {l : List UInt8}, Byt w' (NW N w'.heap.size) A' n' c' l → Byt (w'.alloc (.cells #[.slice A n c, .slice B m e] 45)) (fun b => b < (w'.alloc (.cells #[.slice A n c, .slice B m e] 45)).heap.size ∧ b ≠ w'.heap.size) A' n' c' l := fun h =>
    ⟨h.1, (h.2.keep sByte fun x hx => hf.cell hx.2).more sByte fun b hb => ⟨Nat.lt_of_lt_of_le hb.2 hs, fun e => by have := hb.2; omega⟩⟩
  exact ⟨A, n, c, B, m, e, heap_new rfl, hk hA, hk hB⟩
theorem byt_lt {w : World} {p : Nat} {A : Option Addr} {n c : Nat} {l : List UInt8} (h : Byt w (fun b => b < w.heap.size ∧ b ≠ p) A n c l) : Byt w (LT w.heap.size) A n c l := ⟨h.1, h.2.more sByte fun b hb => hb.1⟩
theorem fr5_wf : (fr 5).wf := by simp [fr, Rc.wf, Hd.wf, wfI]; decide
theorem fr6_wf : (fr 6).wf := by simp [fr, Rc.wf, Hd.wf, wfI]; decide
set_option maxRecDepth 100000 in
set_option maxHeartbeats 8000000 in
theorem filed_any (w : World) (v : Vars w) : Calls Tryd.prog 16 #[] w fun r w' => r = .returned (.bool true) ∧ Fr w w' := by
  have P1 : Hid (Calls Tryd.prog 18 #[.agg #[.slice none 0 0, .slice none 0 0], .agg #[.int .i64 8, .int .i64 0, .int .i64 5, .int .i64 0, .int .i64 0, .int .i64 0, .int .i64 0, .int .i64 0, .int .i64 0, .int .i64 0, .int .i64 0, .slice none 0 0, .slice none 0 0]] w (KPost w (⟨[], ft⟩, 0))) := by
    rw [← fp1]
    exact diskPut_any w v Dk.zero (fr 5) none 0 0 none 0 0 none 0 0 none 0 0 byt_nil byt_nil fr5_wf byt_nil byt_nil
  have HV := Lib.hid v
  clear v
  go_enter Tryd.func16, Tryd.ntmps16
  go_wp2_with fail
  (with_reducible refine (P1.out).mono ?_)
  rintro r w2 hpost
  obtain ⟨A1, n1, c1, B1, m1, e1, rfl, hA1, hB1, hf2⟩ := hpost
  have HA := Lib.hid hA1
  have HB := Lib.hid hB1
  have HF := Lib.hid hf2
  clear hA1 hB1 hf2 P1
  go_upto_region 2 with fail
  have HD2 : Hid (DkAt (w2.alloc (.cells #[.slice A1 n1 c1, .slice B1 m1 e1] 45)) w2.heap.size ⟨[], ft⟩) := DkAt.mk HA.out HB.out
  have HF2 : Hid (Fr w (w2.alloc (.cells #[.slice A1 n1 c1, .slice B1 m1 e1] 45))) := HF.out.trans (frAlloc _ _)
  have hpN := HF.out.size
  obtain ⟨W2, hW2⟩ : ∃ W, W = w2.alloc (.cells #[.slice A1 n1 c1, .slice B1 m1 e1] 45) := ⟨_, rfl⟩
  obtain ⟨p, hp⟩ : ∃ p, p = w2.heap.size := ⟨_, rfl⟩
  rw [← hW2, ← hp]
  rw [← hW2, ← hp] at HD2
  rw [← hW2] at HF2
  rw [← hp] at hpN
  clear hW2 hp HA HB HF
  obtain ⟨A1, n1, c1, B1, m1, e1, hp1, ha1, hb1⟩ := HD2.out
  have HP1 := Lib.hid hp1
  have HA1 := Lib.hid (byt_lt ha1)
  have HB1 := Lib.hid (byt_lt hb1)
  (obtain ⟨bp0, bp1⟩ := box2_ hp1)
  clear ha1 hb1
  have CK : Hid (Calls Tryd.prog 19 #[.agg #[.slice A1 n1 c1, .slice B1 m1 e1]] W2 (KPost W2 (⟨ft, []⟩, 0))) := by rw [← fp2]; exact diskSync_any W2 (HV.out.go HF2.out) _ A1 n1 c1 B1 m1 e1 HA1.out HB1.out
  clear hp1
  go_wp2_with fail
  (with_reducible refine (CK.out).mono ?_)
  rintro r w3 hpost
  obtain ⟨A2, n2, c2, B2, m2, e2, rfl, hA2, hB2, hf3⟩ := hpost
  have HD3 : Hid (DkAt ((w3.setCell ⟨p, 0, none⟩ (.slice A2 n2 c2)).setCell ⟨p, 1, none⟩ (.slice B2 m2 e2)) p ⟨ft, []⟩) := DkAt.store HP1.out hf3 hA2 hB2
  have HF3 : Hid (Fr w ((w3.setCell ⟨p, 0, none⟩ (.slice A2 n2 c2)).setCell ⟨p, 1, none⟩ (.slice B2 m2 e2))) := bel2_ (Fr.trans HF2.out hf3) hpN
  have hp1 := blk_go HP1.out hf3
  clear bp0 bp1
  (obtain ⟨bp0, bp1⟩ := box2_ hp1)
  have y0 := blk_free (i := 0) hp1
  have y1 := blk_free (i := 1) hp1
  have lq := (Array.getElem?_eq_some_iff.1 hp1).1
  clear hA2 hB2 hf3 hp1 CK
  go_upto_region 3 with fail
  obtain ⟨W3, hw⟩ : ∃ W, W = (w3.setCell ⟨p, 0, none⟩ (.slice A2 n2 c2)).setCell ⟨p, 1, none⟩ (.slice B2 m2 e2) := ⟨_, rfl⟩
  rw [← hw]
  rw [← hw] at HD3 HF3
  clear hw y0 y1 lq bp0 bp1 HP1 HA1 HB1
  clear HD2 HF2
  obtain ⟨A1, n1, c1, B1, m1, e1, hp1, ha1, hb1⟩ := HD3.out
  have HP1 := Lib.hid hp1
  have HA1 := Lib.hid (byt_lt ha1)
  have HB1 := Lib.hid (byt_lt hb1)
  (obtain ⟨bp0, bp1⟩ := box2_ hp1)
  clear ha1 hb1
  have CK : Hid (Calls Tryd.prog 18 #[.agg #[.slice A1 n1 c1, .slice B1 m1 e1], .agg #[.int .i64 8, .int .i64 0, .int .i64 6, .int .i64 0, .int .i64 0, .int .i64 0, .int .i64 0, .int .i64 0, .int .i64 0, .int .i64 0, .int .i64 0, .slice none 0 0, .slice none 0 0]] W3 (KPost W3 (⟨ft, ft6⟩, 0))) := by
    rw [← fp3]
    exact diskPut_any W3 (HV.out.go HF3.out) ⟨ft, []⟩ (fr 6) A1 n1 c1 B1 m1 e1 none 0 0 none 0 0 HA1.out HB1.out fr6_wf byt_nil byt_nil
  have HF2 := HF3
  clear hp1 HD3 HF3
  go_wp2_with fail
  (with_reducible refine (CK.out).mono ?_)
  rintro r w3 hpost
  obtain ⟨A2, n2, c2, B2, m2, e2, rfl, hA2, hB2, hf3⟩ := hpost
  have HD3 : Hid (DkAt ((w3.setCell ⟨p, 0, none⟩ (.slice A2 n2 c2)).setCell ⟨p, 1, none⟩ (.slice B2 m2 e2)) p ⟨ft, ft6⟩) := DkAt.store HP1.out hf3 hA2 hB2
  have HF3 : Hid (Fr w ((w3.setCell ⟨p, 0, none⟩ (.slice A2 n2 c2)).setCell ⟨p, 1, none⟩ (.slice B2 m2 e2))) := bel2_ (Fr.trans HF2.out hf3) hpN
  have hp1 := blk_go HP1.out hf3
  clear bp0 bp1
  (obtain ⟨bp0, bp1⟩ := box2_ hp1)
  have y0 := blk_free (i := 0) hp1
  have y1 := blk_free (i := 1) hp1
  have lq := (Array.getElem?_eq_some_iff.1 hp1).1
  clear hA2 hB2 hf3 hp1 CK
  go_upto_region 4 with fail
  obtain ⟨W4, hw⟩ : ∃ W, W = (w3.setCell ⟨p, 0, none⟩ (.slice A2 n2 c2)).setCell ⟨p, 1, none⟩ (.slice B2 m2 e2) := ⟨_, rfl⟩
  rw [← hw]
  rw [← hw] at HD3 HF3
  clear hw y0 y1 lq bp0 bp1 HP1 HA1 HB1
  clear HF2 W3
  obtain ⟨A1, n1, c1, B1, m1, e1, hp1, ha1, hb1⟩ := HD3.out
  have HP1 := Lib.hid hp1
  have HA1 := Lib.hid (byt_lt ha1)
  have HB1 := Lib.hid (byt_lt hb1)
  (obtain ⟨bp0, bp1⟩ := box2_ hp1)
  clear ha1 hb1
  have CK : Hid (Calls Tryd.prog 20 #[.agg #[.slice A1 n1 c1, .slice B1 m1 e1], .int .i64 4] W4 (KPost W4 (⟨ft, ft6.take 4⟩, 0))) := by rw [← fp4]; exact diskCrash_any W4 (HV.out.go HF3.out) ⟨ft, ft6⟩ A1 n1 c1 B1 m1 e1 HA1.out HB1.out 4
  have HF2 := HF3
  clear hp1 HD3 HF3
  go_wp2_with fail
  (with_reducible refine (CK.out).mono ?_)
  rintro r w3 hpost
  obtain ⟨A2, n2, c2, B2, m2, e2, rfl, hA2, hB2, hf3⟩ := hpost
  have HD3 : Hid (DkAt ((w3.setCell ⟨p, 0, none⟩ (.slice A2 n2 c2)).setCell ⟨p, 1, none⟩ (.slice B2 m2 e2)) p ⟨ft, ft6.take 4⟩) := DkAt.store HP1.out hf3 hA2 hB2
  have HF3 : Hid (Fr w ((w3.setCell ⟨p, 0, none⟩ (.slice A2 n2 c2)).setCell ⟨p, 1, none⟩ (.slice B2 m2 e2))) := bel2_ (Fr.trans HF2.out hf3) hpN
  have hp1 := blk_go HP1.out hf3
  clear bp0 bp1
  (obtain ⟨bp0, bp1⟩ := box2_ hp1)
  have y0 := blk_free (i := 0) hp1
  have y1 := blk_free (i := 1) hp1
  have lq := (Array.getElem?_eq_some_iff.1 hp1).1
  clear hA2 hB2 hf3 hp1 CK
  go_upto_region 5 with fail
  obtain ⟨W5, hw⟩ : ∃ W, W = (w3.setCell ⟨p, 0, none⟩ (.slice A2 n2 c2)).setCell ⟨p, 1, none⟩ (.slice B2 m2 e2) := ⟨_, rfl⟩
  rw [← hw]
  rw [← hw] at HD3 HF3
  clear hw y0 y1 lq bp0 bp1 HP1 HA1 HB1
  clear HF2 W4
  obtain ⟨A1, n1, c1, B1, m1, e1, hp1, ha1, hb1⟩ := HD3.out
  have HP1 := Lib.hid hp1
  have HA1 := Lib.hid (byt_lt ha1)
  have HB1 := Lib.hid (byt_lt hb1)
  (obtain ⟨bp0, bp1⟩ := box2_ hp1)
  clear ha1 hb1
  have CK : Hid (Calls Tryd.prog 22 #[.agg #[.slice A1 n1 c1, .slice B1 m1 e1]] W5 (VPost W5 ((⟨ft, []⟩, [fr 5]), 0))) := by rw [← fp5]; exact diskRecover_any W5 (HV.out.go HF3.out) ⟨ft, ft6.take 4⟩ A1 n1 c1 B1 m1 e1 HA1.out HB1.out
  have HF2 := HF3
  clear hp1 HD3 HF3
  go_wp2_with fail
  (with_reducible refine (CK.out).mono ?_)
  rintro r w3 hpost
  obtain ⟨A2, n2, c2, u6, rfl, _, hA2, ho, hf3⟩ := hpost
  have hn2 : n2 = 26 := hA2.2.1.symm
  subst hn2
  have HD3 : Hid (DkAt ((w3.setCell ⟨p, 0, none⟩ (.slice A2 26 c2)).setCell ⟨p, 1, none⟩ (.slice none 0 0)) p ⟨ft, []⟩) := DkAt.store HP1.out hf3 hA2 byt_nil
  have HF3 : Hid (Fr w ((w3.setCell ⟨p, 0, none⟩ (.slice A2 26 c2)).setCell ⟨p, 1, none⟩ (.slice none 0 0))) := bel2_ (Fr.trans HF2.out hf3) hpN
  have hpw := (Array.getElem?_eq_some_iff.1 HP1.out).1
  have HO3 : Hid (Own 13 (eNew W5.heap.size eRc) ((w3.setCell ⟨p, 0, none⟩ (.slice A2 26 c2)).setCell ⟨p, 1, none⟩ (.slice none 0 0)) W5.heap.size 31 u6 [fr 5]) := ho.newChg sRc (Chg.of (g := p) (grw2_ ⟨rfl, rfl, rfl, Nat.le_refl _, fun _ _ _ => rfl⟩)) fun b e => by have e : b = p := e; omega
  have hp1 := blk_go HP1.out hf3
  clear bp0 bp1
  (obtain ⟨bp0, bp1⟩ := box2_ hp1)
  have y0 := blk_free (i := 0) hp1
  have y1 := blk_free (i := 1) hp1
  have lq := (Array.getElem?_eq_some_iff.1 hp1).1
  clear hA2 ho hf3 CK
  go_upto_region 6 with fail
  obtain ⟨W6, hw⟩ : ∃ W, W = (w3.setCell ⟨p, 0, none⟩ (.slice A2 26 c2)).setCell ⟨p, 1, none⟩ (.slice none 0 0) := ⟨_, rfl⟩
  rw [← hw]
  rw [← hw] at HD3 HF3 HO3
  clear bp0 bp1
  have hp6 : W6.heap[p]? = some (.cells #[.slice A2 26 c2, .slice none 0 0] 45 (0, 0)) := by rw [hw]; simp [World.setCell, Array.getElem?_modify, hp1]
  clear hw y0 y1 lq HP1 HA1 HB1
  obtain ⟨A7, c7, hv7, ⟨hac, hcm⟩, hs7⟩ := HO3.out.slN sRc (Nat.le_refl _)
  have hv7 : u6 = .slice A7 1 c7 := hv7
  have hac : 1 ≤ c7 := hac
  subst hv7
  obtain ⟨ad, rfl, hE⟩ := hs7.els (by decide)
  obtain ⟨x, hx, hrx⟩ := hE.row (show 0 < [fr 5].length by decide)
  obtain rfl : fr 5 = x := by simpa using hx
  obtain ⟨Ar, na, ca, Br, nb, cb, ⟨_, _, m2, _⟩, _⟩ := eRc_at hrx
  have m2 : W6.cell? ⟨ad.block, ad.off + 2, none⟩ = some (.int .i64 5) := by
    rw [show ad.add (0 * 13) = ad by simp [Addr.add]] at m2
    exact m2
  have ha8 : Byt W6 (fun b => b < W6.heap.size ∧ b ≠ p) A2 26 c2 ft := by
    obtain ⟨A8, n8, c8, B8, m8, e8, hp8, ha8, hb8⟩ := HD3.out
    have e := Option.some.inj (hp6.symm.trans hp8)
    simp at e
    obtain ⟨⟨q1, q2, q3⟩, _⟩ := e
    rw [← q1, ← q2, ← q3] at ha8
    exact ha8
  have hcv : (convert 26 9 (.slice A2 26 c2)).run Tryd.prog W6 = .ok (.string ⟨#[56, 32, 48, 32, 53, 32, 48, 32, 48, 32, 48, 32, 48, 32, 48, 32, 48, 32, 48, 32, 48, 32, 45, 32, 45, 10]⟩) W6 := conv_bytes W6 c2 ha8.2
  (obtain ⟨bp0, bp1⟩ := box2_ hp6)
  have HAC := Lib.hid hac
  clear hs7 hE hx hrx ha8 HD3 HO3 hp6 hcm
  go_wp2_with fail
  go_ret
  exact ⟨rfl, HF3.out⟩
end Go.Proofs.YtkfpgnoodhlfgaaDoor
namespace Go.Proofs.YtkfpgnoodhlfgaaDoor

theorem log_take : ∀ (b : List Rc) (k : Nat), ∃ j t, j ≤ b.length ∧ (logText b).take k = logText (b.take j) ++ t ∧ (10 : UInt8) ∉ t
  | [], k => ⟨0, [], Nat.le_refl _, by simp [logText_nil], by simp⟩
  | r :: b, k => by
    rcases Nat.lt_or_ge (recText r).length k with hk | hk
    · obtain ⟨j, t, h1, h2, h3⟩ := log_take b (k - ((recText r).length + 1))
      refine ⟨j + 1, t, by simp only [List.length_cons]; omega, ?_, h3⟩
      rw [logText_cons, List.take_append, List.take_of_length_le (l := recText r) (i := k) (by omega), show k - (recText r).length = (k - ((recText r).length + 1)) + 1 by omega, List.take_succ_cons, h2, List.take_succ_cons, logText_cons]
      simp [List.append_assoc]
    · refine ⟨0, (recText r).take k, Nat.zero_le _, ?_, fun h => recText_line r (List.mem_of_mem_take h)⟩
      rw [logText_cons, List.take_append_of_le_length hk]; rfl
theorem logText_take_le (b : List Rc) (j : Nat) : (logText (b.take j)).length ≤ (logText b).length := by
  conv => rhs; rw [← List.take_append_drop j b, logText_append, List.length_append]
  omega
/-- A disk of which all is known. -/
structure Logs (d : Dk) (a b : List Rc) : Prop where
  safe : d.safe = logText a
  wait : d.wait = logText b
  goodA : ∀ r ∈ a, recCheck r = 0
  goodB : ∀ r ∈ b, recCheck r = 0
  size : d.safe.length + d.wait.length ≤ 60000
  many : a.length ≤ 200
theorem Logs.ok {d : Dk} {a b : List Rc} (h : Logs d a b) : DkOk d a := ⟨h.goodA, h.safe, h.many, h.size⟩
theorem logs_zero : Logs Dk.zero [] [] := ⟨rfl, rfl, by simp, by simp, by decide, by decide⟩
/-- A record put. -/
theorem Logs.put {d x : Dk} {a b : List Rc} {r : Rc} (h : Logs d a b) (e : putF d r = (x, 0)) : Logs x a (b ++ [r]) := by
  unfold putF at e
  rw [if_neg (by simp [h.ok.check])] at e
  split at e
  · rename_i h1; simp only [Prod.mk.injEq] at e; exact absurd e.2 h1
  split at e
  · simp only [Prod.mk.injEq] at e; exact absurd e.2 (by decide)
  rename_i h1 h2
  simp only [Prod.mk.injEq, and_true] at e
  subst e
  refine ⟨h.safe, by rw [logText_snoc, ← h.wait], h.goodA, fun x hx => ?_, by simp only [List.length_append, List.length_singleton]; omega, h.many⟩
  rcases List.mem_append.1 hx with hx | hx
  · exact h.goodB x hx
  · obtain rfl := List.mem_singleton.1 hx; simpa using h1
theorem Logs.put_cases {d : Dk} {a b : List Rc} (h : Logs d a b) {r : Rc} (hr : recCheck r = 0) : putF d r = (Dk.zero, 2) ∨ (putF d r).2 = 0 := by
  unfold putF
  rw [if_neg (by simp [h.ok.check]), if_neg (by simp [hr])]
  split
  · exact .inl rfl
  · exact .inr rfl
/-- What waits made safe. -/
theorem Logs.sync {d : Dk} {a b : List Rc} (h : Logs d a b) (hm : a.length + b.length ≤ 200) : syncF d = (⟨logText (a ++ b), []⟩, 0) ∧ Logs ⟨logText (a ++ b), []⟩ (a ++ b) [] := by
  have hl : Logs ⟨logText (a ++ b), []⟩ (a ++ b) [] := by
    refine ⟨rfl, rfl, fun r hr => ?_, by simp, ?_, by simpa using hm⟩
    · rcases List.mem_append.1 hr with hr | hr
      · exact h.goodA r hr
      · exact h.goodB r hr
    · have := h.size
      rw [h.safe, h.wait] at this
      simp only [logText_append, List.length_append, List.length_nil]; omega
  refine ⟨?_, hl⟩
  unfold syncF
  have e : d.safe ++ d.wait = logText (a ++ b) := by rw [h.safe, h.wait, logText_append]
  rw [if_neg (by simp [h.ok.check]), e, if_neg (by simp [hl.ok.check])]
/-- The power gone: of what waits a beginning. -/
theorem Logs.crash {d : Dk} {a b : List Rc} (h : Logs d a b) {k : Nat} (hk : k ≤ d.wait.length) : crashF d k = (⟨d.safe, d.wait.take k⟩, 0) := by
  unfold crashF
  rw [if_neg (by simp [h.ok.check]), if_neg (by omega), Int.toNat_natCast]
/-- Recovered: all that was safe, and of the rest a beginning; again the same. -/
theorem Logs.recover {d : Dk} {a b : List Rc} (h : Logs d a b) (hm : a.length + b.length ≤ 200) (k : Nat) :
    ∃ j, j ≤ b.length ∧ recoverF ⟨d.safe, d.wait.take k⟩ = ((⟨logText (a ++ b.take j), []⟩, a ++ b.take j), 0) ∧ Logs ⟨logText (a ++ b.take j), []⟩ (a ++ b.take j) [] := by
  obtain ⟨j, t, hj, e, ht⟩ := log_take b k
  have hs := h.size
  rw [h.wait] at hs
  have hle := logText_take_le b j
  have hgb : ∀ r ∈ b.take j, recCheck r = 0 := fun r hr => h.goodB r (List.mem_of_mem_take hr)
  have hd : DkOk ⟨d.safe, d.wait.take k⟩ a := ⟨h.goodA, h.safe, h.many, by simp only [List.length_take]; rw [h.wait]; omega⟩
  have h1 : linesF (200 - a.length) (d.wait.take k) = (b.take j, (logText (b.take j)).length, if t = [] then 0 else 9) := by
    rw [h.wait, e]
    refine lines_log hgb (by omega) (by rw [List.length_take]; omega) ht
  refine ⟨j, hj, ?_, ?_⟩
  · unfold recoverF
    rw [if_neg (by simp [hd.check])]
    have h2 := hd.lines
    simp only [] at h2 ⊢
    rw [h2]
    simp only []
    rw [h1]
    simp only [Prod.mk.injEq, Dk.mk.injEq, and_true, true_and]
    rw [h.wait, e, List.take_left, h.safe, logText_append]
  · refine ⟨rfl, rfl, fun r hr => ?_, by simp, ?_, ?_⟩
    · rcases List.mem_append.1 hr with hr | hr
      · exact h.goodA r hr
      · exact hgb r hr
    · rw [h.safe] at hs
      simp only [logText_append, List.length_append, List.length_nil]; omega
    · rw [List.length_append, List.length_take]; omega
theorem Logs.recoverAll {d : Dk} {a : List Rc} (h : Logs d a []) : recoverF d = ((d, a), 0) := by
  obtain ⟨j, hj, e, _⟩ := h.recover (by simpa using h.many) 0
  obtain rfl : j = 0 := by simpa using hj
  have hw : d.wait = [] := h.wait
  have hd : d = ⟨d.safe, d.wait.take 0⟩ := by cases d; simp only [] at hw; subst hw; rfl
  rw [← hd] at e
  rw [e]
  simp only [List.take_nil, List.append_nil, ← h.safe]
  congr 2
  cases d; simp only [] at hw; subst hw; rfl
end Go.Proofs.YtkfpgnoodhlfgaaDoor
namespace Go.Proofs.YtkfpgnoodhlfgaaDoor

theorem putAll_log {a : List Rc} : ∀ (cs : List Rc) (d : Dk) (b out : List Rc), Logs d a b → ∃ b', (putAll d out cs).2 = out ++ b' ∧ Logs (putAll d out cs).1 a (b ++ b') ∧ b'.length ≤ cs.length
  | [], d, b, out, h => ⟨[], by simp [putAll], by simpa [putAll] using h, by simp⟩
  | c :: cs, d, b, out, h => by
    by_cases hz : (putF d c).2 = 0
    · obtain ⟨b', h1, h2, h3⟩ := putAll_log cs (putF d c).1 (b ++ [c]) (out ++ [c]) (h.put (Prod.ext rfl hz))
      refine ⟨c :: b', ?_, ?_, by simpa using h3⟩
      · rw [putAll, if_pos hz, h1]; simp
      · rw [putAll, if_pos hz]; simpa using h2
    · obtain ⟨b', h1, h2, h3⟩ := putAll_log cs d b out h
      refine ⟨b', ?_, ?_, by simp; omega⟩
      · rw [putAll, if_neg hz, h1]
      · rw [putAll, if_neg hz]; exact h2
theorem keepsP (safe more : List Rc) : ∃ d2, syncF (putAll Dk.zero [] (safe.take 20)).1 = (d2, 0) ∧ (putAll d2 [] (more.take 20)).1.wait.length ≤ 60000 ∧ ∀ k : Nat, k ≤ (putAll d2 [] (more.take 20)).1.wait.length →
    ∃ dc, crashF (putAll d2 [] (more.take 20)).1 k = (dc, 0) ∧ ∃ dr l, recoverF dc = ((dr, l), 0) ∧ dr.wait = [] ∧ recoverF dr = ((dr, l), 0) ∧ (putAll Dk.zero [] (safe.take 20)).2.length ≤ l.length ∧ l.length ≤ (putAll Dk.zero [] (safe.take 20)).2.length + (putAll d2 [] (more.take 20)).2.length ∧
      ((putAll Dk.zero [] (safe.take 20)).2 ++ (putAll d2 [] (more.take 20)).2).take l.length = l ∧ (putAll Dk.zero [] (safe.take 20)).2.length ≤ 20 ∧ (putAll d2 [] (more.take 20)).2.length ≤ 20 := by
  obtain ⟨a, ha1, ha2, ha3⟩ := putAll_log (safe.take 20) Dk.zero [] [] logs_zero
  rw [List.nil_append] at ha1 ha2
  have ha4 : a.length ≤ 20 := by rw [List.length_take] at ha3; omega
  obtain ⟨hs1, hs2⟩ := ha2.sync (by simp; omega)
  rw [List.nil_append] at hs1 hs2
  refine ⟨_, hs1, ?_⟩
  obtain ⟨b, hb1, hb2, hb3⟩ := putAll_log (more.take 20) ⟨logText a, []⟩ [] [] hs2
  rw [List.nil_append] at hb1 hb2
  have hb4 : b.length ≤ 20 := by rw [List.length_take] at hb3; omega
  rw [ha1, hb1]
  refine ⟨by have := hb2.size; omega, fun k hk => ⟨_, hb2.crash hk, ?_⟩⟩
  obtain ⟨j, hj, hr, hl⟩ := hb2.recover (by omega) k
  refine ⟨_, _, hr, rfl, hl.recoverAll, by simp, by simp; omega, ?_, ha4, hb4⟩
  rw [List.length_append, List.length_take, Nat.min_eq_left hj, List.take_length_add_append]
end Go.Proofs.YtkfpgnoodhlfgaaDoor
namespace Go.Proofs.YtkfpgnoodhlfgaaDoor
open Go.RowKit


theorem at_any (w : World) (k : Int) (n : Nat) (hn : 0 < n) (hn2 : n ≤ lim) : Calls Tryd.prog 21 #[.int .i64 k, .int .i64 n] w fun e w' => e = .returned (.int .i64 (k % (n : Int))) ∧ w = w' := by
  unfold lim at hn2
  have h0 : ((n : Int) == 0) = false := by rw [beq_eq_false_iff_ne]; omega
  have h1 := Int.emod_nonneg k (show (n : Int) ≠ 0 by omega)
  have h2 := Int.emod_lt_of_pos k (show (0 : Int) < n by omega)
  have h3 : k.tmod n = k % n ∨ (k.tmod n = k % n - n ∧ k % n ≠ 0) := by
    have e := Int.tmod_eq_emod (a := k) (b := (n : Int))
    split at e
    · left; omega
    · rename_i hd
      exact .inr ⟨by omega, fun h => hd (.inr (Int.dvd_of_emod_eq_zero h))⟩
  obtain ⟨q, hq⟩ : ∃ q, q = k % (n : Int) := ⟨_, rfl⟩
  rw [← hq] at h1 h2 h3
  rw [← hq]
  clear hq
  rcases h3 with h3 | ⟨h3, hq0⟩
  · have hlt : decide (q < 0) = false := by simp; omega
    go_enter Tryd.func21, Tryd.ntmps21
    go_wp2
    go_ret
    exact ⟨rfl, rfl⟩
  · have hlt : decide (q - (n : Int) < 0) = true := by simp; omega
    go_enter Tryd.func21, Tryd.ntmps21
    go_wp2
    go_ret
    exact ⟨retI (by omega), rfl⟩

theorem enters {P : Program} {f : FuncId} {fn : Func} (hf : P.funcs[f]? = some fn) (hn : (fn.name == "runtime.NumGoroutine") = false) (hb : fn.body.isNone = false) (args : Array Value) (W : World) : (callFunc f args).run P W = .ok (.enter f args) W := by
  have h1 : fn.name ≠ "runtime.NumGoroutine" := by simpa using hn
  have h2 : fn.body ≠ none := by intro e; rw [e] at hb; simp at hb
  simp [callFunc, hf, h1, h2]
end Go.Proofs.YtkfpgnoodhlfgaaDoor
namespace Go.Proofs.YtkfpgnoodhlfgaaDoor
open Go.RowKit
attribute [local irreducible] wpList

/-- Records that lie beside p. -/
def RsAt (w : World) (p : Nat) (u : Value) (l : List Rc) : Prop := ∃ A c, u = .slice A l.length c ∧ (l.length ≤ c ∧ c ≤ maxLen) ∧ Sl 13 eRc w (fun b => b < w.heap.size ∧ b ≠ p) A l.length l
theorem RsAt.of {w : World} {p N base : Nat} {e : TypeId} {u : Value} {l : List Rc} (h : Own 13 (eLow N eRc) w base e u l) (h1 : N ≤ p) (h2 : p < base) : RsAt w p u l := by
  obtain ⟨cs, ho, hr⟩ := h
  rcases ho.2 with ⟨rfl, h0⟩ | ⟨g, cap, cur, rfl, hbg, hg, hnc, hcm, hcs, htake⟩
  · exact ⟨none, 0, by rw [h0], ⟨by omega, by unfold maxLen; omega⟩, rfl, fun hn => by omega⟩
  · refine ⟨some ⟨g, 0, none⟩, cap, rfl, ⟨hnc, hcm⟩, rfl, fun hn => ⟨_, rfl, ⟨(Array.getElem?_eq_some_iff.1 hg).1, by show g ≠ p; omega⟩, fun i x hx => ?_⟩⟩
    refine sRc.mono (fun j u hj hu => ?_) (sRc.more (fun b hb => ⟨hb.1.1, by have := hb.2; omega⟩) (hr i x hx))
    rw [zero_add_addr, cell_of_heap hg]
    rw [← htake, List.getElem?_take] at hu
    split at hu
    · simpa using hu
    · cases hu
theorem RsAt.go {w w' : World} {p : Nat} {u : Value} {l : List Rc} (h : RsAt w p u l) (hf : Fr w w') : RsAt w' p u l := by
  obtain ⟨A, c, h1, h2, h3⟩ := h
  exact ⟨A, c, h1, h2, (h3.keep sRc fun x hx => hf.cell hx.1).more sRc fun b hb => ⟨Nat.lt_of_lt_of_le hb.1 hf.size, hb.2⟩⟩
theorem RsAt.chg {w w' : World} {p : Nat} {u : Value} {l : List Rc} (h : RsAt w p u l) (hc : Chg (fun b => b = p) w w') : RsAt w' p u l := by
  obtain ⟨A, c, h1, h2, h3⟩ := h
  exact ⟨A, c, h1, h2, (h3.chg sRc hc fun b hb => ⟨hb.1, hb.2⟩).more sRc fun b hb => ⟨Nat.lt_of_lt_of_le hb.1 hc.size, hb.2⟩⟩
theorem RsAt.sl {w : World} {p : Nat} {A : Option Addr} {n c : Nat} {l : List Rc} (h : RsAt w p (.slice A n c) l) : l.length = n ∧ (n ≤ c ∧ c ≤ maxLen) ∧ Sl 13 eRc w (LT w.heap.size) A n l := by
  obtain ⟨A', c', h1, h2, h3⟩ := h
  injection h1 with e1 e2 e3
  subst e1 e2 e3
  exact ⟨rfl, h2, h3.more sRc fun b hb => hb.1⟩
set_option maxRecDepth 100000 in
set_option maxHeartbeats 16000000 in
theorem diskKeeps_any (w : World) (v : Vars w) (A0 : Option Addr) (n0 c0 : Nat) (rs0 : List Rc) (hs0 : Sl 13 eRc w (LT w.heap.size) A0 n0 rs0) (l0 : n0 * 136 ≤ lim) (lc0 : n0 ≤ c0) (lm0 : c0 ≤ maxLen) (AM : Option Addr) (nM cM : Nat) (rs1 : List Rc) (hs1 : Sl 13 eRc w (LT w.heap.size) AM nM rs1) (l1 : nM * 136 ≤ lim) (lc1 : nM ≤ cM) (lm1 : cM ≤ maxLen) (k : Int) (hk : wfI k) :
    Calls Tryd.prog 5 #[.slice A0 n0 c0, .slice AM nM cM, .int .i64 k] w fun r w' => r = .returned (.bool true) ∧ Fr w w' := by
  obtain ⟨d2, hp1, hp2, hp3⟩ := keepsP rs0 rs1
  obtain ⟨dA, hdA⟩ : ∃ d, d = (putAll Dk.zero [] (rs0.take 20)).1 := ⟨_, rfl⟩
  obtain ⟨la, hla⟩ : ∃ l, l = (putAll Dk.zero [] (rs0.take 20)).2 := ⟨_, rfl⟩
  obtain ⟨dB, hdB⟩ : ∃ d, d = (putAll d2 [] (rs1.take 20)).1 := ⟨_, rfl⟩
  obtain ⟨lb, hlb⟩ : ∃ l, l = (putAll d2 [] (rs1.take 20)).2 := ⟨_, rfl⟩
  rw [← hdA] at hp1
  rw [← hla, ← hdB, ← hlb] at hp3
  rw [← hdB] at hp2
  have CF := Lib.hid (filed_any w v)
  have CA : Hid (∀ (W : World) (p : Nat), Fr w W → w.heap.size ≤ p → p < W.heap.size → DkAt W p Dk.zero → Calls Tryd.prog 17 #[.slice A0 n0 c0, .pointer (some ⟨p, 0, none⟩)] W fun r w' => ∃ u, r = .returned u ∧ Own 13 (eLow w.heap.size eRc) w' W.heap.size 31 u la ∧ DkAt w' p dA ∧ Chg (fun b => b = p) W w') := fun W p hf h1 h2 h3 => by
    rw [hla, hdA]
    exact diskPutC_any w W v hf rs0 A0 n0 c0 hs0 ⟨lc0, lm0⟩ p h1 h2 Dk.zero h3
  have CB : Hid (∀ (W : World) (p : Nat), Fr w W → w.heap.size ≤ p → p < W.heap.size → DkAt W p d2 → Calls Tryd.prog 17 #[.slice AM nM cM, .pointer (some ⟨p, 0, none⟩)] W fun r w' => ∃ u, r = .returned u ∧ Own 13 (eLow w.heap.size eRc) w' W.heap.size 31 u lb ∧ DkAt w' p dB ∧ Chg (fun b => b = p) W w') := fun W p hf h1 h2 h3 => by
    rw [hlb, hdB]
    exact diskPutC_any w W v hf rs1 AM nM cM hs1 ⟨lc1, lm1⟩ p h1 h2 d2 h3
  have HV := Lib.hid v
  have KQ1 := Lib.hid hp1
  have KQ2 := Lib.hid hp2
  have KQ3 := Lib.hid hp3
  clear v hp1 hp2 hp3 hdA hla hdB hlb hs0 hs1
  go_enter Tryd.func5, Tryd.ntmps5
  go_wp2_with fail
  (with_reducible refine (CF.out).mono ?_)
  rintro r w2 ⟨rfl, hf2⟩
  have HF2 := Lib.hid hf2
  clear hf2 CF
  go_upto_region 4 with fail
  obtain ⟨W3, hW3⟩ : ∃ W, W = w2.alloc (.cells #[.slice none 0 0, .slice none 0 0] 45) := ⟨_, rfl⟩
  obtain ⟨p, hp⟩ : ∃ p, p = w2.heap.size := ⟨_, rfl⟩
  have HD3 : Hid (DkAt W3 p Dk.zero) := by rw [hW3, hp]; exact DkAt.mk (N := 0) byt_nil byt_nil
  have HF3 : Hid (Fr w W3) := by rw [hW3]; exact HF2.out.trans (frAlloc _ _)
  have hpN : w.heap.size ≤ p := by rw [hp]; exact HF2.out.size
  have hp3 : p < W3.heap.size := by rw [hW3, hp]; simp
  rw [← hW3, ← hp]
  clear hW3 hp HF2
  go_wp2_with fail
  (with_reducible refine (CA.out W3 p HF3.out hpN hp3 HD3.out).mono ?_)
  rintro r w4 ⟨ua, rfl, hoa, hd4, hc4⟩
  have HF4 : Hid (Fr w w4) := hc4.fr HF3.out fun x hx => by have e : x = p := hx; omega
  have HA4 : Hid (RsAt w4 p ua la) := RsAt.of hoa hpN hp3
  have HD4 := Lib.hid hd4
  clear hoa hd4 hc4 CA HD3 HF3
  go_upto_region 6 with fail
  obtain ⟨A1, n1, c1, B1, m1, e1, hp1, ha1, hb1⟩ := HD4.out
  have HP1 := Lib.hid hp1
  have HA1 := Lib.hid (byt_lt ha1)
  have HB1 := Lib.hid (byt_lt hb1)
  (obtain ⟨bp0, bp1⟩ := box2_ hp1)
  clear ha1 hb1
  have CK : Hid (Calls Tryd.prog 19 #[.agg #[.slice A1 n1 c1, .slice B1 m1 e1]] w4 (KPost w4 (d2, 0))) := by rw [← KQ1.out]; exact diskSync_any w4 (HV.out.go HF4.out) _ A1 n1 c1 B1 m1 e1 HA1.out HB1.out
  clear hp1 HD4
  go_wp2_with fail
  (with_reducible refine (CK.out).mono ?_)
  rintro r w3 hpost
  obtain ⟨A2, n2, c2, B2, m2, e2, rfl, hA2, hB2, hf3⟩ := hpost
  have HD3 : Hid (DkAt ((w3.setCell ⟨p, 0, none⟩ (.slice A2 n2 c2)).setCell ⟨p, 1, none⟩ (.slice B2 m2 e2)) p d2) := DkAt.store HP1.out hf3 hA2 hB2
  have HF3 : Hid (Fr w ((w3.setCell ⟨p, 0, none⟩ (.slice A2 n2 c2)).setCell ⟨p, 1, none⟩ (.slice B2 m2 e2))) := bel2_ (Fr.trans HF4.out hf3) hpN
  have HRA : Hid (RsAt ((w3.setCell ⟨p, 0, none⟩ (.slice A2 n2 c2)).setCell ⟨p, 1, none⟩ (.slice B2 m2 e2)) p ua la) := (HA4.out.go hf3).chg (Chg.of (grw2_ ⟨rfl, rfl, rfl, Nat.le_refl _, fun _ _ _ => rfl⟩))
  have hp1 := blk_go HP1.out hf3
  clear bp0 bp1
  (obtain ⟨bp0, bp1⟩ := box2_ hp1)
  have y0 := blk_free (i := 0) hp1
  have y1 := blk_free (i := 1) hp1
  have lq := (Array.getElem?_eq_some_iff.1 hp1).1
  clear hA2 hB2 hf3 hp1 CK
  go_upto_region 7 with fail
  obtain ⟨W6, hw⟩ : ∃ W, W = (w3.setCell ⟨p, 0, none⟩ (.slice A2 n2 c2)).setCell ⟨p, 1, none⟩ (.slice B2 m2 e2) := ⟨_, rfl⟩
  rw [← hw]
  rw [← hw] at HD3 HF3 HRA
  clear hw y0 y1 lq bp0 bp1 HP1 HA1 HB1
  clear HF4 HA4 w4
  have hp6 : p < W6.heap.size := by obtain ⟨_, _, _, _, _, _, h, _⟩ := HD3.out; exact (Array.getElem?_eq_some_iff.1 h).1
  go_wp2_with fail
  (with_reducible refine (CB.out W6 p HF3.out hpN hp6 HD3.out).mono ?_)
  rintro r w7 ⟨ub, rfl, hob, hd7, hc7⟩
  have HF7 : Hid (Fr w w7) := hc7.fr HF3.out fun x hx => by have e : x = p := hx; omega
  have HA7 : Hid (RsAt w7 p ua la) := HRA.out.chg hc7
  have HB7 : Hid (RsAt w7 p ub lb) := RsAt.of hob hpN hp6
  have HD7 := Lib.hid hd7
  clear hob hd7 hc7 CB HD3 HF3 HRA hp6 W6
  obtain ⟨A1, n1, c1, B1, m1, e1, hp1, ha1, hb1⟩ := HD7.out
  have HP1 := Lib.hid hp1
  have HA1 := Lib.hid (byt_lt ha1)
  have HB1 := Lib.hid (byt_lt hb1)
  have hm1 : dB.wait.length = m1 := hb1.2.1
  have hml := KQ2.out
  rw [hm1] at hml
  obtain ⟨j, hj⟩ : ∃ j : Nat, k % ((m1 + 1 : Nat) : Int) = j := Int.eq_ofNat_of_zero_le (Int.emod_nonneg _ (by omega))
  have hjm : j ≤ m1 := by have := Int.emod_lt_of_pos k (show (0 : Int) < ((m1 + 1 : Nat) : Int) by omega); omega
  have hw1 : IntKind.i64.wrap ((m1 : Int) + 1) = (m1 : Int) + 1 := by rw [IntKind.wrap_i64]; omega
  have CAT : Hid (∀ W, Calls Tryd.prog 21 #[.int .i64 k, .int .i64 ((m1 : Int) + 1)] W fun e w' => e = .returned (.int .i64 (j : Int)) ∧ W = w') := fun W => by
    have := at_any W k (m1 + 1) (by omega) (by unfold lim; omega)
    rw [hj] at this
    exact this
  obtain ⟨dc, hcr, dr, ll, hr1, hr2, hr3, hr4, hr5, hr6, hr7, hr8⟩ := KQ3.out j (by rw [hm1]; exact hjm)
  have CRA : Hid (∀ W, Fr w7 W → Calls Tryd.prog 20 #[.agg #[.slice A1 n1 c1, .slice B1 m1 e1], .int .i64 (j : Int)] W (KPost W (dc, 0))) := fun W hf => by
    rw [← hcr]
    exact diskCrash_any W (HV.out.go (HF7.out.trans hf)) dB A1 n1 c1 B1 m1 e1 (HA1.out.go hf) (HB1.out.go hf) j
  have HR1 := Lib.hid hr1
  have HR3 := Lib.hid hr3
  have HR6 := Lib.hid hr6
  (obtain ⟨bp0, bp1⟩ := box2_ hp1)
  clear hp1 ha1 hb1 hcr hr1 hr3 hr6 hj hjm hm1
  go_upto_region 10 with fail
  go_cut [10] (fun s10 wx => s10 = .int .i64 0 ∧ Hid (DkAt wx p dc) ∧ Hid (Fr w wx) ∧ Hid (RsAt wx p ua la) ∧ Hid (RsAt wx p ub lb))
  case first =>
    refine held_begin (n := 13) (bs := #[false, false, false, false, false, false, false, false, false, false, false, false, false]) rfl rfl (by kernel_rfl) (S := fun _ => True) trivial (fun hHeld => ?_)
    ((first | refine held_sk (i := 1) ?_ | refine held_tk (i := 1) ?_); (first | refine held_sk (i := 2) ?_ | refine held_tk (i := 2) ?_))
    have bd0 : w7.drew.cell? ⟨p, 0, none⟩ = some (.slice A1 n1 c1) := bp0
    have bd1 : w7.drew.cell? ⟨p, 1, none⟩ = some (.slice B1 m1 e1) := bp1
    refine held_two (i := 0) (j := 3) rfl rfl (by kernel_rfl) (fun K hK => ?_) (fun K hK => ?_)
    · go_simp
      (refine held_back hK (a' := ?hA8) (l' := ?hL8) ?ha8 ?hl8 (trivial) (fun hHeld => ?hh8); (case ha8 => first | with_reducible rfl | (simp only [Act.put, hq1, hq2, hq3, Option.isNone, Bool.not_true, Bool.not_false]; (try with_reducible rfl))); (case hl8 => (simp only [Act.put, hq1, hq2, hq3, Option.isNone, Bool.not_true, Bool.not_false]; (try with_reducible rfl))); clear hK K)
      refine held_one (i := 3) rfl (by kernel_rfl) (fun K hK => ?_)
      go_simp
      (refine held_back hK (a' := ?hA9) (l' := ?hL9) ?ha9 ?hl9 (trivial) (fun hHeld => ?hh9); (case ha9 => first | with_reducible rfl | (simp only [Act.put, hq1, hq2, hq3, Option.isNone, Bool.not_true, Bool.not_false]; (try with_reducible rfl))); (case hl9 => (simp only [Act.put, hq1, hq2, hq3, Option.isNone, Bool.not_true, Bool.not_false]; (try with_reducible rfl))); clear hK K)
      ((first | refine held_sk (i := 4) ?_ | refine held_tk (i := 4) ?_); (first | refine held_sk (i := 5) ?_ | refine held_tk (i := 5) ?_))
      refine held_one (i := 6) rfl (by kernel_rfl) (fun K hK => ?_)
      go_simp
      go_at_call 21
      (with_reducible refine (CAT.out _).mono ?_)
      rintro r w8 ⟨rfl, rfl⟩
      (refine held_back hK (a' := ?hA10) (l' := ?hL10) ?ha10 ?hl10 (trivial) (fun hHeld => ?hh10); (case ha10 => first | with_reducible rfl | (simp only [Act.put, hq1, hq2, hq3, Option.isNone, Bool.not_true, Bool.not_false]; (try with_reducible rfl))); (case hl10 => (simp only [Act.put, hq1, hq2, hq3, Option.isNone, Bool.not_true, Bool.not_false]; (try with_reducible rfl))); clear hK K)
      refine held_one (i := 7) rfl (by kernel_rfl) (fun K hK => ?_)
      go_simp
      go_at_call 20
      (with_reducible refine (CRA.out _ (Below.refl _ _).drew).mono ?_)
      rintro r w9 hpost
      obtain ⟨A2, n2, c2, B2, m2, e2, rfl, hA2, hB2, hf9⟩ := hpost
      have hf79 : Fr w7 w9 := Fr.trans (Below.refl _ _).drew hf9
      have HD3 : Hid (DkAt ((w9.setCell ⟨p, 0, none⟩ (.slice A2 n2 c2)).setCell ⟨p, 1, none⟩ (.slice B2 m2 e2)) p dc) := DkAt.store HP1.out hf79 hA2 hB2
      have HF3 : Hid (Fr w ((w9.setCell ⟨p, 0, none⟩ (.slice A2 n2 c2)).setCell ⟨p, 1, none⟩ (.slice B2 m2 e2))) := bel2_ (Fr.trans HF7.out hf79) hpN
      have HRA : Hid (RsAt ((w9.setCell ⟨p, 0, none⟩ (.slice A2 n2 c2)).setCell ⟨p, 1, none⟩ (.slice B2 m2 e2)) p ua la) := (HA7.out.go hf79).chg (Chg.of (grw2_ ⟨rfl, rfl, rfl, Nat.le_refl _, fun _ _ _ => rfl⟩))
      have HRB : Hid (RsAt ((w9.setCell ⟨p, 0, none⟩ (.slice A2 n2 c2)).setCell ⟨p, 1, none⟩ (.slice B2 m2 e2)) p ub lb) := (HB7.out.go hf79).chg (Chg.of (grw2_ ⟨rfl, rfl, rfl, Nat.le_refl _, fun _ _ _ => rfl⟩))
      have hp9 := blk_go HP1.out hf79
      (refine held_back hK (a' := ?hA11) (l' := ?hL11) ?ha11 ?hl11 (trivial) (fun hHeld => ?hh11); (case ha11 => first | with_reducible rfl | (simp only [Act.put, hq1, hq2, hq3, Option.isNone, Bool.not_true, Bool.not_false]; (try with_reducible rfl))); (case hl11 => (simp only [Act.put, hq1, hq2, hq3, Option.isNone, Bool.not_true, Bool.not_false]; (try with_reducible rfl))); clear hK K)
      ((first | refine held_sk (i := 8) ?_ | refine held_tk (i := 8) ?_); (first | refine held_sk (i := 9) ?_ | refine held_tk (i := 9) ?_); (first | refine held_sk (i := 10) ?_ | refine held_tk (i := 10) ?_))
      clear bp0 bp1 bd0 bd1
      (obtain ⟨bp0, bp1⟩ := box2_ hp9)
      have y0 := blk_free (i := 0) hp9
      have y1 := blk_free (i := 1) hp9
      have lq := (Array.getElem?_eq_some_iff.1 hp9).1
      refine held_one (i := 11) rfl (by kernel_rfl) (fun K hK => ?_)
      go_simp
      (refine held_back hK (a' := ?hA12) (l' := ?hL12) ?ha12 ?hl12 (trivial) (fun hHeld => ?hh12); (case ha12 => first | with_reducible rfl | (simp only [Act.put, hq1, hq2, hq3, Option.isNone, Bool.not_true, Bool.not_false]; (try with_reducible rfl))); (case hl12 => (simp only [Act.put, hq1, hq2, hq3, Option.isNone, Bool.not_true, Bool.not_false]; (try with_reducible rfl))); clear hK K)
      ((first | refine held_sk (i := 12) ?_ | refine held_tk (i := 12) ?_))
      refine wpAnyH_done (by kernel_rfl) ?_ _
      clear hA2 hB2 hf9 hp9 y0 y1 lq bp0 bp1
      go_wp2_with fail
      go_meet
      exact ⟨rfl, HD3, HF3, HRA, HRB⟩
    · go_simp
      (refine held_back hK (a' := ?hA13) (l' := ?hL13) ?ha13 ?hl13 (trivial) (fun hHeld => ?hh13); (case ha13 => first | with_reducible rfl | (simp only [Act.put, hq1, hq2, hq3, Option.isNone, Bool.not_true, Bool.not_false]; (try with_reducible rfl))); (case hl13 => (simp only [Act.put, hq1, hq2, hq3, Option.isNone, Bool.not_true, Bool.not_false]; (try with_reducible rfl))); clear hK K)
      ((first | refine held_sk (i := 4) ?_ | refine held_tk (i := 4) ?_); (first | refine held_sk (i := 5) ?_ | refine held_tk (i := 5) ?_))
      refine held_two (i := 0) (j := 6) rfl rfl (by kernel_rfl) (fun K hK => ?_) (fun K hK => ?_)
      · go_simp
        (refine held_back hK (a' := ?hA14) (l' := ?hL14) ?ha14 ?hl14 (trivial) (fun hHeld => ?hh14); (case ha14 => first | with_reducible rfl | (simp only [Act.put, hq1, hq2, hq3, Option.isNone, Bool.not_true, Bool.not_false]; (try with_reducible rfl))); (case hl14 => (simp only [Act.put, hq1, hq2, hq3, Option.isNone, Bool.not_true, Bool.not_false]; (try with_reducible rfl))); clear hK K)
        refine held_one (i := 6) rfl (by kernel_rfl) (fun K hK => ?_)
        go_simp
        go_at_call 21
        (with_reducible refine (CAT.out _).mono ?_)
        rintro r w8 ⟨rfl, rfl⟩
        (refine held_back hK (a' := ?hA15) (l' := ?hL15) ?ha15 ?hl15 (trivial) (fun hHeld => ?hh15); (case ha15 => first | with_reducible rfl | (simp only [Act.put, hq1, hq2, hq3, Option.isNone, Bool.not_true, Bool.not_false]; (try with_reducible rfl))); (case hl15 => (simp only [Act.put, hq1, hq2, hq3, Option.isNone, Bool.not_true, Bool.not_false]; (try with_reducible rfl))); clear hK K)
        refine held_one (i := 7) rfl (by kernel_rfl) (fun K hK => ?_)
        go_simp
        go_at_call 20
        (with_reducible refine (CRA.out _ (Below.refl _ _).drew).mono ?_)
        rintro r w9 hpost
        obtain ⟨A2, n2, c2, B2, m2, e2, rfl, hA2, hB2, hf9⟩ := hpost
        have hf79 : Fr w7 w9 := Fr.trans (Below.refl _ _).drew hf9
        have HD3 : Hid (DkAt ((w9.setCell ⟨p, 0, none⟩ (.slice A2 n2 c2)).setCell ⟨p, 1, none⟩ (.slice B2 m2 e2)) p dc) := DkAt.store HP1.out hf79 hA2 hB2
        have HF3 : Hid (Fr w ((w9.setCell ⟨p, 0, none⟩ (.slice A2 n2 c2)).setCell ⟨p, 1, none⟩ (.slice B2 m2 e2))) := bel2_ (Fr.trans HF7.out hf79) hpN
        have HRA : Hid (RsAt ((w9.setCell ⟨p, 0, none⟩ (.slice A2 n2 c2)).setCell ⟨p, 1, none⟩ (.slice B2 m2 e2)) p ua la) := (HA7.out.go hf79).chg (Chg.of (grw2_ ⟨rfl, rfl, rfl, Nat.le_refl _, fun _ _ _ => rfl⟩))
        have HRB : Hid (RsAt ((w9.setCell ⟨p, 0, none⟩ (.slice A2 n2 c2)).setCell ⟨p, 1, none⟩ (.slice B2 m2 e2)) p ub lb) := (HB7.out.go hf79).chg (Chg.of (grw2_ ⟨rfl, rfl, rfl, Nat.le_refl _, fun _ _ _ => rfl⟩))
        have hp9 := blk_go HP1.out hf79
        (refine held_back hK (a' := ?hA16) (l' := ?hL16) ?ha16 ?hl16 (trivial) (fun hHeld => ?hh16); (case ha16 => first | with_reducible rfl | (simp only [Act.put, hq1, hq2, hq3, Option.isNone, Bool.not_true, Bool.not_false]; (try with_reducible rfl))); (case hl16 => (simp only [Act.put, hq1, hq2, hq3, Option.isNone, Bool.not_true, Bool.not_false]; (try with_reducible rfl))); clear hK K)
        ((first | refine held_sk (i := 8) ?_ | refine held_tk (i := 8) ?_); (first | refine held_sk (i := 9) ?_ | refine held_tk (i := 9) ?_); (first | refine held_sk (i := 10) ?_ | refine held_tk (i := 10) ?_))
        clear bp0 bp1 bd0 bd1
        (obtain ⟨bp0, bp1⟩ := box2_ hp9)
        have y0 := blk_free (i := 0) hp9
        have y1 := blk_free (i := 1) hp9
        have lq := (Array.getElem?_eq_some_iff.1 hp9).1
        refine held_one (i := 11) rfl (by kernel_rfl) (fun K hK => ?_)
        go_simp
        (refine held_back hK (a' := ?hA17) (l' := ?hL17) ?ha17 ?hl17 (trivial) (fun hHeld => ?hh17); (case ha17 => first | with_reducible rfl | (simp only [Act.put, hq1, hq2, hq3, Option.isNone, Bool.not_true, Bool.not_false]; (try with_reducible rfl))); (case hl17 => (simp only [Act.put, hq1, hq2, hq3, Option.isNone, Bool.not_true, Bool.not_false]; (try with_reducible rfl))); clear hK K)
        ((first | refine held_sk (i := 12) ?_ | refine held_tk (i := 12) ?_))
        refine wpAnyH_done (by kernel_rfl) ?_ _
        clear hA2 hB2 hf9 hp9 y0 y1 lq bp0 bp1
        go_wp2_with fail
        go_meet
        exact ⟨rfl, HD3, HF3, HRA, HRB⟩
      · skip
        go_simp
        go_at_call 21
        (with_reducible refine (CAT.out _).mono ?_)
        rintro r w8 ⟨rfl, rfl⟩
        (refine held_back hK (a' := ?hA18) (l' := ?hL18) ?ha18 ?hl18 (trivial) (fun hHeld => ?hh18); (case ha18 => first | with_reducible rfl | (simp only [Act.put, hq1, hq2, hq3, Option.isNone, Bool.not_true, Bool.not_false]; (try with_reducible rfl))); (case hl18 => (simp only [Act.put, hq1, hq2, hq3, Option.isNone, Bool.not_true, Bool.not_false]; (try with_reducible rfl))); clear hK K)
        refine held_one (i := 0) rfl (by kernel_rfl) (fun K hK => ?_)
        go_simp
        (refine held_back hK (a' := ?hA19) (l' := ?hL19) ?ha19 ?hl19 (trivial) (fun hHeld => ?hh19); (case ha19 => first | with_reducible rfl | (simp only [Act.put, hq1, hq2, hq3, Option.isNone, Bool.not_true, Bool.not_false]; (try with_reducible rfl))); (case hl19 => (simp only [Act.put, hq1, hq2, hq3, Option.isNone, Bool.not_true, Bool.not_false]; (try with_reducible rfl))); clear hK K)
        refine held_one (i := 7) rfl (by kernel_rfl) (fun K hK => ?_)
        go_simp
        go_at_call 20
        (with_reducible refine (CRA.out _ (Below.refl _ _).drew).mono ?_)
        rintro r w9 hpost
        obtain ⟨A2, n2, c2, B2, m2, e2, rfl, hA2, hB2, hf9⟩ := hpost
        have hf79 : Fr w7 w9 := Fr.trans (Below.refl _ _).drew hf9
        have HD3 : Hid (DkAt ((w9.setCell ⟨p, 0, none⟩ (.slice A2 n2 c2)).setCell ⟨p, 1, none⟩ (.slice B2 m2 e2)) p dc) := DkAt.store HP1.out hf79 hA2 hB2
        have HF3 : Hid (Fr w ((w9.setCell ⟨p, 0, none⟩ (.slice A2 n2 c2)).setCell ⟨p, 1, none⟩ (.slice B2 m2 e2))) := bel2_ (Fr.trans HF7.out hf79) hpN
        have HRA : Hid (RsAt ((w9.setCell ⟨p, 0, none⟩ (.slice A2 n2 c2)).setCell ⟨p, 1, none⟩ (.slice B2 m2 e2)) p ua la) := (HA7.out.go hf79).chg (Chg.of (grw2_ ⟨rfl, rfl, rfl, Nat.le_refl _, fun _ _ _ => rfl⟩))
        have HRB : Hid (RsAt ((w9.setCell ⟨p, 0, none⟩ (.slice A2 n2 c2)).setCell ⟨p, 1, none⟩ (.slice B2 m2 e2)) p ub lb) := (HB7.out.go hf79).chg (Chg.of (grw2_ ⟨rfl, rfl, rfl, Nat.le_refl _, fun _ _ _ => rfl⟩))
        have hp9 := blk_go HP1.out hf79
        (refine held_back hK (a' := ?hA20) (l' := ?hL20) ?ha20 ?hl20 (trivial) (fun hHeld => ?hh20); (case ha20 => first | with_reducible rfl | (simp only [Act.put, hq1, hq2, hq3, Option.isNone, Bool.not_true, Bool.not_false]; (try with_reducible rfl))); (case hl20 => (simp only [Act.put, hq1, hq2, hq3, Option.isNone, Bool.not_true, Bool.not_false]; (try with_reducible rfl))); clear hK K)
        ((first | refine held_sk (i := 8) ?_ | refine held_tk (i := 8) ?_); (first | refine held_sk (i := 9) ?_ | refine held_tk (i := 9) ?_); (first | refine held_sk (i := 10) ?_ | refine held_tk (i := 10) ?_))
        clear bp0 bp1 bd0 bd1
        (obtain ⟨bp0, bp1⟩ := box2_ hp9)
        have y0 := blk_free (i := 0) hp9
        have y1 := blk_free (i := 1) hp9
        have lq := (Array.getElem?_eq_some_iff.1 hp9).1
        refine held_one (i := 11) rfl (by kernel_rfl) (fun K hK => ?_)
        go_simp
        (refine held_back hK (a' := ?hA21) (l' := ?hL21) ?ha21 ?hl21 (trivial) (fun hHeld => ?hh21); (case ha21 => first | with_reducible rfl | (simp only [Act.put, hq1, hq2, hq3, Option.isNone, Bool.not_true, Bool.not_false]; (try with_reducible rfl))); (case hl21 => (simp only [Act.put, hq1, hq2, hq3, Option.isNone, Bool.not_true, Bool.not_false]; (try with_reducible rfl))); clear hK K)
        ((first | refine held_sk (i := 12) ?_ | refine held_tk (i := 12) ?_))
        refine wpAnyH_done (by kernel_rfl) ?_ _
        clear hA2 hB2 hf9 hp9 y0 y1 lq bp0 bp1
        go_wp2_with fail
        go_meet
        exact ⟨rfl, HD3, HF3, HRA, HRB⟩
  case rest =>
  obtain ⟨rfl, HD9, HF9, HA9, HB9⟩ := hcut
  clear CAT CRA HD7 HF7 HA7 HB7 HP1 HA1 HB1 hw1 bp0 bp1
  obtain ⟨A1, n1, c1, B1, m1, e1, hp1, ha1, hb1⟩ := HD9.out
  have HA1 := Lib.hid (byt_lt ha1)
  have HB1 := Lib.hid (byt_lt hb1)
  have CK : Hid (Calls Tryd.prog 22 #[.agg #[.slice A1 n1 c1, .slice B1 m1 e1]] wc (VPost wc ((dr, ll), 0))) := by rw [← HR1.out]; exact diskRecover_any wc (HV.out.go HF9.out) dc A1 n1 c1 B1 m1 e1 HA1.out HB1.out
  (obtain ⟨bp0, bp1⟩ := box2_ hp1)
  clear hp1 ha1 hb1 HD9 HA1 HB1
  go_wp2_with fail
  (with_reducible refine (CK.out).mono ?_)
  rintro r w10 hpost
  obtain ⟨A2, n2, c2, vl, rfl, _, hA2, hol, hf10⟩ := hpost
  obtain ⟨Al, cl, rfl, ⟨hlc, hlm⟩, hsl⟩ := hol.slN sRc (Nat.le_refl _)
  obtain ⟨Aa, ca, hua, ⟨hac, ham⟩, hsa⟩ := HA9.out
  obtain ⟨Ab, cb, hub, ⟨hbc, hbm⟩, hsb⟩ := HB9.out
  subst hua hub
  have HSL : Hid (Sl 13 eRc w10 (LT w10.heap.size) Al ll.length ll) := hsl.more sRc fun b hb => hb.2
  have HSA : Hid (Sl 13 eRc w10 (LT w10.heap.size) Aa la.length la) := (hsa.keep sRc fun x hx => hf10.cell hx.1).more sRc fun b hb => Nat.lt_of_lt_of_le hb.1 hf10.size
  have HSB : Hid (Sl 13 eRc w10 (LT w10.heap.size) Ab lb.length lb) := (hsb.keep sRc fun x hx => hf10.cell hx.1).more sRc fun b hb => Nat.lt_of_lt_of_le hb.1 hf10.size
  have HR2 : Hid (Byt w10 (LT w10.heap.size) A2 n2 c2 dr.safe) := ⟨hA2.1, hA2.2.more sByte fun b hb => hb.2⟩
  have HF10 : Hid (Fr w w10) := HF9.out.trans hf10
  have HWT : Hid (dr.wait = []) := hr2
  obtain ⟨na, hna⟩ : ∃ n, n = la.length := ⟨_, rfl⟩
  obtain ⟨nb, hnb⟩ : ∃ n, n = lb.length := ⟨_, rfl⟩
  obtain ⟨nl, hnl⟩ : ∃ n, n = ll.length := ⟨_, rfl⟩
  rw [← hna] at HSA hac hr4 hr5 hr7
  rw [← hnb] at HSB hbc hr5 hr8
  rw [← hnl] at HSL hlc hr4 hr5
  rw [← hna, ← hnb, ← hnl]
  have HNL := Lib.hid hnl
  have t1 : decide ((nl : Int) < (na : Int)) = false := by simp; omega
  have hwl : IntKind.i64.wrap ((na : Int) + (nb : Int)) = (na : Int) + (nb : Int) := by rw [IntKind.wrap_i64]; omega
  have t2 : decide ((na : Int) + (nb : Int) < (nl : Int)) = false := by simp; omega
  have t3 : decide (nl < na) = false := by simp; omega
  have t4 : decide (na + nb < nl) = false := by simp; omega
  have HABN : Hid ((la ++ lb).length = na + nb) := by rw [Hid, List.length_append, hna, hnb]
  have HN5 : Hid (nl ≤ na + nb) := hr5
  have HTK : Hid ((la ++ lb).take nl = ll) := by have := HR6.out; rw [← hnl] at this; exact this
  have HCP : Hid (na ≤ 20 ∧ nb ≤ 20 ∧ na ≤ ca ∧ ca ≤ maxLen ∧ nb ≤ cb ∧ cb ≤ maxLen ∧ nl ≤ cl ∧ cl ≤ maxLen) := ⟨hr7, hr8, hac, ham, hbc, hbm, hlc, hlm⟩
  clear hA2 hol hsl hsa hsb hf10 CK HA9 HB9 HF9 HR1 HR6 hr2 hna hnb hnl bp0 bp1 hr4 hr5 hr7 hr8 hac ham hbc hbm hlc hlm
  go_upto_region 14 with fail
  obtain ⟨W11, hW11⟩ : ∃ W, W = w10.alloc (.cells #[.slice A2 n2 c2, .slice none 0 0] 45) := ⟨_, rfl⟩
  obtain ⟨y, hy⟩ : ∃ y, y = w10.heap.size := ⟨_, rfl⟩
  rw [← hW11, ← hy]
  have hf11 : Fr w10 W11 := by rw [hW11]; exact frAlloc _ _
  have HY : Hid (W11.heap[y]? = some (.cells #[.slice A2 n2 c2, .slice none 0 0] 45 (0, 0))) := by rw [hW11]; exact heap_new hy
  have HF11 : Hid (Fr w W11) := HF10.out.trans hf11
  have HL11 : Hid (Sl 13 eRc W11 (LT W11.heap.size) Al nl ll) := HSL.out.go sRc hf11
  have HA11 : Hid (Sl 13 eRc W11 (LT W11.heap.size) Aa na la) := HSA.out.go sRc hf11
  have HB11 : Hid (Sl 13 eRc W11 (LT W11.heap.size) Ab nb lb) := HSB.out.go sRc hf11
  have HR11 : Hid (Byt W11 (LT W11.heap.size) A2 n2 c2 dr.safe) := HR2.out.go hf11
  have CC : Hid (∀ W z, Fr W11 W → W.heap[z]? = some (.cells #[.slice Aa na ca, .slice Ab nb cb] 43 (0, 0)) → Calls Tryd.prog 24 #[.slice (some ⟨z, 0, none⟩) 2 2] W fun r w' => ∃ u, r = .returned u ∧ Own 13 eRc w' W.heap.size 31 u (la ++ lb) ∧ Fr W w') := by
    intro W z hf hz
    obtain ⟨c1, c2, c3, c4, c5, c6, _⟩ := HCP.out
    have hsl : Sl 1 (eSl 13 136 eRc) W (LT W.heap.size) (some ⟨z, 0, none⟩) 2 [la, lb] := .lit hz (blk_LT hz) rfl fun i q hq => by
      match i, hq with
      | 0, hq => obtain rfl : la = q := by simpa using hq
                 exact ⟨Aa, na, ca, by simp, ⟨by unfold lim; omega, c3, c4⟩, HA11.out.go sRc hf⟩
      | 1, hq => obtain rfl : lb = q := by simpa using hq
                 exact ⟨Ab, nb, cb, by simp, ⟨by unfold lim; omega, c5, c6⟩, HB11.out.go sRc hf⟩
      | i + 2, hq => simp at hq
    have h9 := HABN.out
    rw [List.length_append] at h9
    have := concatRecs_any W _ 2 2 _ hsl (by unfold lim; omega) (by simp [lens]; unfold lim; omega) (by simp [lens]; unfold lim; omega)
    rw [show ([la, lb] : List (List Rc)).flatten = la ++ lb by simp] at this
    exact this
  clear hW11 hf11 hy HSL HSA HSB HR2 HF10 HA11 HB11
  have hyx := HY.out
  (obtain ⟨by0, by1⟩ := box2_ hyx)
  clear hyx
  go_wp2_with fail
  (with_reducible refine (CC.out _ _ (frAlloc _ _) (heap_new rfl)).mono ?_)
  rintro r w12 ⟨u, rfl, hou, hf12⟩
  have hf11 : Fr W11 w12 := Fr.trans (frAlloc _ _) hf12
  obtain ⟨Au, cu, rfl, ⟨huc, hum⟩, hsu⟩ := hou.slC sRc (by decide)
  rw [HABN.out] at huc hsu
  rw [HABN.out]
  have hnu : nl ≤ cu := by have := HN5.out; omega
  have i1 : (nl : Int) ≤ (cu : Int) := by omega
  have i2 : 0 ≤ (nl : Int) := by omega
  have HL12 : Hid (Sl 13 eRc w12 (LT w12.heap.size) Al nl ll) := HL11.out.go sRc hf11
  have HU12 : Hid (Sl 13 eRc w12 (LT w12.heap.size) Au nl ll) := by
    have := hsu.pre HN5.out
    rw [HTK.out] at this
    exact this
  have HY12 := Lib.hid (blk_go HY.out hf11)
  have HF12 : Hid (Fr w w12) := HF11.out.trans hf11
  have HR12 : Hid (Byt w12 (LT w12.heap.size) A2 n2 c2 dr.safe) := HR11.out.go hf11
  have CE : Hid (∀ W A n c A' n' c' (xs : List Rc), n ≤ 40 → Sl 13 eRc W (LT W.heap.size) A n xs → Sl 13 eRc W (LT W.heap.size) A' n' xs → Calls Tryd.prog 23 #[.slice A n c, .slice A' n' c', .func (.func 8) #[] #[]] W fun r w' => r = .returned (.bool true) ∧ Fr W w') := fun W A n c A' n' c' xs hn h1 h2 => by
    have := equalFuncRc_any W 8 entersNS saysRc A A' n c n' c' xs xs h1 h2 (by unfold maxLen; omega)
    simpa using this
  have HN40 : Hid (nl ≤ 40) := by have := HN5.out; have := HCP.out; unfold Hid; omega
  clear hou hf12 hf11 hsu huc HL11 HY HF11 HR11 CC by0 by1
  go_wp2_with fail
  (with_reducible refine (CE.out _ _ _ _ _ _ _ ll HN40.out HL12.out HU12.out).mono ?_)
  rintro r w13 ⟨rfl, hf13⟩
  have HL13 : Hid (Sl 13 eRc w13 (LT w13.heap.size) Al nl ll) := HL12.out.go sRc hf13
  have HY13 := Lib.hid (blk_go HY12.out hf13)
  have HF13 : Hid (Fr w w13) := HF12.out.trans hf13
  have HR13 : Hid (Byt w13 (LT w13.heap.size) A2 n2 c2 dr.safe) := HR12.out.go hf13
  clear hf13 HL12 HU12 HY12 HF12 HR12 i1 i2 hnu
  go_upto_region 16 with fail
  have CK : Hid (Calls Tryd.prog 22 #[.agg #[.slice A2 n2 c2, .slice none 0 0]] w13 (VPost w13 ((dr, ll), 0))) := by rw [← HR3.out]; exact diskRecover_any w13 (HV.out.go HF13.out) dr A2 n2 c2 none 0 0 HR13.out (by rw [HWT.out]; exact byt_nil)
  have hyx := HY13.out
  (obtain ⟨by0, by1⟩ := box2_ hyx)
  clear hyx
  go_wp2_with fail
  (with_reducible refine (CK.out).mono ?_)
  rintro r w14 hpost
  obtain ⟨A3, n3, c3, vm, rfl, _, hA3, hom, hf14⟩ := hpost
  obtain ⟨Am, cm, rfl, _, hsm⟩ := hom.slN sRc (Nat.le_refl _)
  rw [← HNL.out] at hsm
  rw [← HNL.out]
  have HM14 : Hid (Sl 13 eRc w14 (LT w14.heap.size) Am nl ll) := hsm.more sRc fun b hb => hb.2
  have HL14 : Hid (Sl 13 eRc w14 (LT w14.heap.size) Al nl ll) := HL13.out.go sRc hf14
  have HQ14 : Hid (Byt w14 (LT w14.heap.size) A3 n3 c3 dr.safe) := ⟨hA3.1, hA3.2.more sByte fun b hb => hb.2⟩
  have HR14 : Hid (Byt w14 (LT w14.heap.size) A2 n2 c2 dr.safe) := HR13.out.go hf14
  have HY14 := Lib.hid (blk_go HY13.out hf14)
  have HF14 : Hid (Fr w w14) := HF13.out.trans hf14
  clear hA3 hom hsm hf14 CK HL13 HY13 HF13 HR13 by0 by1
  go_upto_region 17 with fail
  obtain ⟨W15, hW15⟩ : ∃ W, W = w14.alloc (.cells #[.slice A3 n3 c3, .slice none 0 0] 45) := ⟨_, rfl⟩
  obtain ⟨z, hz⟩ : ∃ y, y = w14.heap.size := ⟨_, rfl⟩
  rw [← hW15, ← hz]
  have hf15 : Fr w14 W15 := by rw [hW15]; exact frAlloc _ _
  have hzx : W15.heap[z]? = some (.cells #[.slice A3 n3 c3, .slice none 0 0] 45 (0, 0)) := by rw [hW15]; exact heap_new hz
  have hyx := blk_go HY14.out hf15
  have HY15 := Lib.hid hyx
  have HF15 : Hid (Fr w W15) := HF14.out.trans hf15
  have HM15 : Hid (Sl 13 eRc W15 (LT W15.heap.size) Am nl ll) := HM14.out.go sRc hf15
  have HL15 : Hid (Sl 13 eRc W15 (LT W15.heap.size) Al nl ll) := HL14.out.go sRc hf15
  have CS : Hid (Calls Tryd.prog 25 #[.agg #[.slice A3 n3 c3, .slice none 0 0], .agg #[.slice A2 n2 c2, .slice none 0 0]] W15 fun r w' => r = .returned (.bool true) ∧ Fr W15 w') := by
    have := diskSame_any W15 dr dr A3 n3 c3 none 0 0 A2 n2 c2 none 0 0 (HQ14.out.go hf15) (by rw [HWT.out]; exact byt_nil) (HR14.out.go hf15) (by rw [HWT.out]; exact byt_nil)
    simp only [decide_true] at this
    exact this
  clear hW15 hz hf15 HM14 HL14 HQ14 HR14 HY14 HF14
  (obtain ⟨bz0, bz1⟩ := box2_ hzx)
  (obtain ⟨by0, by1⟩ := box2_ hyx)
  clear hzx hyx
  go_wp2_with fail
  (with_reducible refine (CS.out).mono ?_)
  rintro r w16 ⟨rfl, hf16⟩
  have HM16 : Hid (Sl 13 eRc w16 (LT w16.heap.size) Am nl ll) := HM15.out.go sRc hf16
  have HL16 : Hid (Sl 13 eRc w16 (LT w16.heap.size) Al nl ll) := HL15.out.go sRc hf16
  have HY16 := Lib.hid (blk_go HY15.out hf16)
  have HF16 : Hid (Fr w w16) := HF15.out.trans hf16
  clear hf16 CS HM15 HL15 HY15 HF15 by0 by1 bz0 bz1
  go_wp2_with fail
  (with_reducible refine (CE.out _ _ _ _ _ _ _ ll HN40.out HM16.out HL16.out).mono ?_)
  rintro r w17 ⟨rfl, hf17⟩
  have HF17 : Hid (Fr w w17) := HF16.out.trans hf17
  have hyx := blk_go HY16.out hf17
  clear hf17 HM16 HL16 HY16 HF16 CE
  (obtain ⟨by0, by1⟩ := box2_ hyx)
  clear hyx
  go_wp2_with fail
  go_ret
  exact ⟨rfl, HF17.out⟩
end Go.Proofs.YtkfpgnoodhlfgaaDoor
namespace Go.Proofs.YtkfpgnoodhlfgaaDoor.diskKeepsLaw
open Go.ChangeShapes Go.WideShapes Go.ChangeAt Go.RowKit

set_option maxRecDepth 100000 in
theorem lifted (os : Os) (started : os.Started) (H : Type) (enc : TypeId × Value → H) (F : Stop.Interp) :
    ReturnsInHanded {} Tryd.checked os 5 .any ((OpenSpec.ofChange Rows.diskKeepsSpec).preRow enc Tryd.prog Tryd.f5 Rows.diskKeepsRow.domain false Rows.diskKeepsRow.laid) (((OpenSpec.ofChange Rows.diskKeepsSpec).at F).post enc Tryd.prog Tryd.f5 false true false false) := by
  have hw : (DataW.whole enc Tryd.prog ((laidWorld os).forCall (fun _ _ => 0) ⟨#[], #[.slice none 0 0, .slice none 0 0, .int .i64 0], []⟩).memory Tryd.f5.params.toList Rows.diskKeepsSpec.vars false #[.slice none 0 0, .slice none 0 0, .int .i64 0].toList 8).map (fun x => (x.1, x.2.1)) = some ([.nil, .nil, .lit (.int .i64 0)], []) := by kernel_rfl
  obtain ⟨⟨x1, x2, x3⟩, hx, hx1⟩ := Option.map_eq_some_iff.1 hw
  simp only [Prod.mk.injEq] at hx1
  obtain ⟨rfl, rfl⟩ := hx1
  refine returnsInHanded_of_row (C := Tryd.checked) (s := OpenSpec.ofChange Rows.diskKeepsSpec) own started (by kernel_rfl) Tryd.func5
    (witness_row_atRef (enc := enc) (C := Tryd.checked) false (laidWorld os) #[.slice none 0 0, .slice none 0 0, .int .i64 0] rfl (by kernel_rfl) (by kernel_rfl) (by kernel_rfl)
      (OpenSpec.preRow_of_cond 8 hx (by kernel_rfl) (fun k hk => by cases hk) (by kernel_rfl) (laid_met os _))) ?_
  intro W base args ds gs before hval0 hW _ _ hsz0 hL hsh _
  have hvars : Vars W := vars_of (show laidMet Tryd.prog laidList W from hL) hsh
  have hval : ∀ (j : Nat) t v, Tryd.f5.params[j]? = some t → args[j]? = some v → Value.okWide Tryd.prog W .any base t v := hval0
  have hsz : (DataW.weightsEach Tryd.prog (Tryd.f5.params.toList ++ Rows.diskKeepsSpec.plain.varTypes Tryd.prog) (ds ++ gs)).all (· ≤ reachBytes) = true := hsz0
  have hW' := hW
  obtain ⟨p, q, hA0, hV, rfl, hfz, hnd⟩ := hW
  have hA : DataW.TrodAll enc Tryd.prog W 0 (fun _ => true) true Tryd.f5.params.toList args.toList ds p := hA0
  rw [Tryd.params5] at hA hval hsz
  obtain ⟨v0, vs0, d0, ds0, p0, q0, hargs, rfl, rfl, h0, r0⟩ := trodAll_cons hA
  obtain ⟨v1, vs1, d1, ds1, p1, q1, rfl, rfl, rfl, h1, r1⟩ := trodAll_cons r0
  obtain ⟨v2, vs2, d2, ds2, p2, q2, rfl, rfl, rfl, h2, r2⟩ := trodAll_cons r1
  obtain ⟨rfl, rfl, rfl⟩ := trodAll_nil r2
  obtain rfl : args = #[v0, v1, v2] := by cases args; simp_all
  obtain ⟨rfl, rfl⟩ := trodVars_none hV
  have k0 := h0
  have lt0 : ∀ x ∈ p0, x.block < W.heap.size := by obtain ⟨m, hm⟩ := k0; exact DataW.trod_lt m _ _ _ hm
  have s0 : ∀ n ∈ d0.weights Tryd.prog 43, n ≤ reachBytes := fun n hn => of_decide_eq_true (List.all_eq_true.1 hsz n (DataW.weights_mem_each (j := 0) rfl rfl n hn))
  obtain ⟨A0, n0, c0, rfl⟩ := okWide_slice Tryd.underlying43 (hval 0 43 v0 rfl rfl)
  obtain ⟨y0, hy0⟩ : ∃ y, (eSl 13 136 eRc) W (LT W.heap.size) (fun j => [Value.slice A0 n0 c0][j]?) y := by obtain ⟨fuel, hf⟩ := h0; exact (openRecs _ _ _ _ _ _ hf s0).2
  obtain ⟨_, _, _, e0, ⟨l0, lc0, lm0⟩, hs0⟩ := hy0; simp at e0; obtain ⟨rfl, rfl, rfl⟩ := e0
  have k1 := h1
  have lt1 : ∀ x ∈ p1, x.block < W.heap.size := by obtain ⟨m, hm⟩ := k1; exact DataW.trod_lt m _ _ _ hm
  have s1 : ∀ n ∈ d1.weights Tryd.prog 43, n ≤ reachBytes := fun n hn => of_decide_eq_true (List.all_eq_true.1 hsz n (DataW.weights_mem_each (j := 1) rfl rfl n hn))
  obtain ⟨A1, n1, c1, rfl⟩ := okWide_slice Tryd.underlying43 (hval 1 43 v1 rfl rfl)
  obtain ⟨y1, hy1⟩ : ∃ y, (eSl 13 136 eRc) W (LT W.heap.size) (fun j => [Value.slice A1 n1 c1][j]?) y := by obtain ⟨fuel, hf⟩ := h1; exact (openRecs _ _ _ _ _ _ hf s1).2
  obtain ⟨_, _, _, e1, ⟨l1, lc1, lm1⟩, hs1⟩ := hy1; simp at e1; obtain ⟨rfl, rfl, rfl⟩ := e1
  have k2 := h2
  have lt2 : ∀ x ∈ p2, x.block < W.heap.size := by obtain ⟨m, hm⟩ := k2; exact DataW.trod_lt m _ _ _ hm
  have s2 : ∀ n ∈ d2.weights Tryd.prog 3, n ≤ reachBytes := fun n hn => of_decide_eq_true (List.all_eq_true.1 hsz n (DataW.weights_mem_each (j := 2) rfl rfl n hn))
  obtain ⟨a2, rfl⟩ := okWide_int Tryd.underlying3 (hval 2 3 v2 rfl rfl)
  obtain ⟨y2, hy2⟩ : ∃ y, eInt W (LT W.heap.size) (fun j => [Value.int .i64 a2][j]?) y := by obtain ⟨fuel, hf⟩ := h2; exact (opens_int Tryd.underlying3 _ _ _ _ _ _ hf s2).2
  have w2 : wfI a2 := by obtain ⟨e, hw⟩ := hy2; simp at e; rw [e]; exact hw
  clear hA0 hval0
  refine (diskKeeps_any W hvars A0 n0 c0 y0 hs0 l0 lc0 lm0 A1 n1 c1 y1 hs1 l1 lc1 lm1 a2 w2).mono fun e W' ⟨he, bel⟩ => ?_
  subst he
  exact ⟨_, rfl, _, _, _, [], _, [], hW', trodAll_mk1 (shut_bool Tryd.underlying4 _), (trodAll_cons_mk (Below.trod laidOut (by kernel_rfl) (of_decide_eq_true (by kernel_rfl)) k0 bel lt0) (trodAll_cons_mk (Below.trod laidOut (by kernel_rfl) (of_decide_eq_true (by kernel_rfl)) k1 bel lt1) (trodAll_cons_mk (Below.trod laidOut (by kernel_rfl) (of_decide_eq_true (by kernel_rfl)) k2 bel lt2) trodAll_mk0))), rfl, bel.frame _, fun h => by cases h⟩

theorem said : Rows.DiskKeepsSaid :=
  OpenClaim.holds_of_cond 5 Tryd.f5 rfl rfl rfl rfl rfl rfl rfl ⟨rfl, rfl, rfl, rfl, rfl⟩ rfl rfl rfl rfl rfl (by kernel_rfl) Tryd.func5 (by kernel_rfl)
    (of_decide_eq_true (by kernel_rfl)) (by unfold Func.isWrapper; first | (rw [if_pos (by decide +kernel)]; kernel_rfl) | (rw [if_neg (by decide +kernel)]; exact ⟨rfl, rfl⟩))
    (fun os started H enc _ F => by rw [OpenClaim.pre_eq_preRow]; exact lifted os started H enc F)
theorem plain (f : FuncId) (fn : Func) (hf : Tryd.pinned.checked.prog.funcNamed "bottlepost/bottlepostlaw.DiskKeeps" = some f) (hfn : Tryd.pinned.checked.prog.funcs[f]? = some fn) :
    true = Tryd.pinned.checked.prog.looks [] ∧ ∀ (j : Nat) t, fn.params[j]? = some t → Tryd.pinned.checked.prog.wantsStandIn t = false := by
  obtain rfl : f = 5 := Option.some.inj ((show Tryd.prog.funcNamed "bottlepost/bottlepostlaw.DiskKeeps" = some 5 by kernel_rfl).symm.trans hf) |>.symm
  obtain rfl : fn = Tryd.f5 := (Option.some.inj (Tryd.func5.symm.trans hfn)).symm
  refine ⟨by kernel_rfl, fun j t ht => ?_⟩
  have hall : (Tryd.f5.params.toList.all fun t => !Tryd.prog.wantsStandIn t) = true := by kernel_rfl
  have hm : t ∈ Tryd.f5.params.toList := by simpa using Array.mem_of_getElem? ht
  have h1 := List.all_eq_true.1 hall t hm
  have h2 : Tryd.prog.wantsStandIn t = false := by simpa using h1
  exact h2
/-- The card: the law answers true for every input. -/
theorem proved : Rows.DiskKeepsCardSaid :=
  Claim7.holds_tied_plain_at .later [] _ _ _ _ said (fun _ h => by cases h) (by kernel_rfl) (fun _ h => by cases h) diskKeeps_row_tie rfl ⟨rfl, rfl⟩ (by kernel_rfl) rfl plain (by kernel_rfl)
#print axioms proved
end Go.Proofs.YtkfpgnoodhlfgaaDoor.diskKeepsLaw
