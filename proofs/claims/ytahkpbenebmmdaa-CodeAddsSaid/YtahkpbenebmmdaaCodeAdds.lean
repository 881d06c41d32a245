/- 'CodeAdds', walked. No condition. -/
import Derived.Test.YtahkpbenebmmdaaAddP
import Derived.Test.YtahkpbenebmmdaaClone
import Derived.Test.YtahkpbenebmmdaaMade
import Derived.Test.YtahkpbenebmmdaaSumLaw
set_option linter.unusedSimpArgs false
set_option linter.unusedVariables false
namespace Go.Proofs.Ytahkpbenebmmdaa
open Go.RowKit

/-- One byte of an own row, set. -/
theorem row_cell {w : World} {g i : Nat} {t : TypeId} {l : List UInt8} {rest : List Value} {x : UInt8} (h : w.heap[g]? = some (.cells (l.map bV ++ rest).toArray t (0, 0))) (hx : l[i]? = some x) :
    w.cell? ⟨g, i, none⟩ = some (.int .u8 (x.toNat : Int)) := by
  rw [cell_of_heap h, List.getElem?_toArray, List.getElem?_append_left (by simp; exact (List.getElem?_eq_some_iff.1 hx).1), List.getElem?_map, hx]; rfl
theorem row_set {w : World} {g i : Nat} {t : TypeId} {l : List UInt8} {rest : List Value} {y : UInt8} (h : w.heap[g]? = some (.cells (l.map bV ++ rest).toArray t (0, 0))) (hi : i < l.length) :
    (w.setCell ⟨g, i, none⟩ (.int .u8 (y.toNat : Int))).heap[g]? = some (.cells ((l.set i y).map bV ++ rest).toArray t (0, 0)) := by
  have hg := (Array.getElem?_eq_some_iff.1 h).1
  have h2 : w.heap[g]'hg = .cells (l.map bV ++ rest).toArray t (0, 0) := (Array.getElem?_eq_some_iff.1 h).2
  have e : ((l.map bV ++ rest).set i (bV y)) = (l.set i y).map bV ++ rest := by rw [List.set_append_left _ _ (by simpa using hi), List.map_set]
  rw [← e]
  simp [World.setCell, Array.getElem?_modify, h, bV]

set_option maxRecDepth 100000 in
set_option maxHeartbeats 2000000 in
theorem codeAdds_any (w : World) (B K : Int) (wB : wfI B) (wK : wfI K) (A1 : Option Addr) (n1 c1 : Nat) (xs : List UInt8) (h1 : Sl 1 eByte w (LT w.heap.size) A1 n1 xs) (hm1 : n1 * 1 ≤ lim) (hc1 : n1 ≤ c1) (hx1 : c1 ≤ maxLen)
    (A2 : Option Addr) (n2 c2 : Nat) (ys : List UInt8) (h2 : Sl 1 eByte w (LT w.heap.size) A2 n2 ys) (hm2 : n2 * 1 ≤ lim) (hc2 : n2 ≤ c2) (hx2 : c2 ≤ maxLen) (id : Int) (wid : wfI id) :
    Calls Try.prog 10 #[.agg #[.int .i64 B, .int .i64 K], .slice A1 n1 c1, .slice A2 n2 c2, .int .i64 id] w fun e w' => e = .returned (.bool true) ∧ Fr w w' := by
  obtain ⟨q1, hq1⟩ : ∃ q, q = (makeSym B K xs id).2 := ⟨_, rfl⟩
  obtain ⟨q2, hq2⟩ : ∃ q, q = (makeSym B K ys id).2 := ⟨_, rfl⟩
  obtain ⟨s1, hs1e⟩ : ∃ q, q = (makeSym B K xs id).1.2 := ⟨_, rfl⟩
  obtain ⟨s2, hs2e⟩ : ∃ q, q = (makeSym B K ys id).1.2 := ⟨_, rfl⟩
  obtain ⟨i1, hi1e⟩ : ∃ q, q = (makeSym B K xs id).1.1 := ⟨_, rfl⟩
  obtain ⟨i2, hi2e⟩ : ∃ q, q = (makeSym B K ys id).1.1 := ⟨_, rfl⟩
  have M1 := Lib.hid (fun W => codeMake_any W A1 n1 c1 B K xs id)
  have M2 := Lib.hid (fun W => codeMake_any W A2 n2 c2 B K ys id)
  rw [← hq1, ← hs1e, ← hi1e] at M1
  rw [← hq2, ← hs2e, ← hi2e] at M2
  (have H1 := Lib.hid h1; clear h1; have H2 := Lib.hid h2; clear h2; have Hm1 := Lib.hid hm1; clear hm1; have Hm2 := Lib.hid hm2; clear hm2; have Hx1 := Lib.hid hx1; clear hx1; have Hx2 := Lib.hid hx2; clear hx2; have Hc1 := Lib.hid hc1; clear hc1; have Hc2 := Lib.hid hc2; clear hc2; have Hq1 := Lib.hid hq1; clear hq1; have Hq2 := Lib.hid hq2; clear hq2; have Hs1e := Lib.hid hs1e; clear hs1e; have Hs2e := Lib.hid hs2e; clear hs2e; have Hi1e := Lib.hid hi1e; clear hi1e; have Hi2e := Lib.hid hi2e; clear hi2e)
  go_enter Try.func10, Try.ntmps10
  go_wp2_with fail
  refine (M1.out _ (H1.out.go sByte (frAlloc _ _)) Hc1.out Hx1.out wB wK).mono ?_
  rintro e w1 ⟨B1, m1, d1, rfl, hd1, hn1, hs1, hf1⟩
  obtain ⟨hb0, hb1⟩ := box2 hf1
  have hlt0 : w.heap.size < w1.heap.size := World.block_lt_of_cell? _ _ hb0
  have hF1 : Fr w w1 := (frAlloc _ _).trans hf1
  clear hf1
  (have HF1 := Lib.hid hF1; clear hF1; have Hs1 := Lib.hid hs1; clear hs1; have Hd1 := Lib.hid hd1; clear hd1; have Hn1 := Lib.hid hn1; clear hn1)
  go_wp2_with fail
  refine (M2.out _ (H2.out.go sByte (HF1.out.trans (frAlloc _ _))) Hc2.out Hx2.out wB wK).mono ?_
  rintro e w2 ⟨B2, m2, d2, rfl, hd2, hn2, hs2, hf2⟩
  obtain ⟨ha0, ha1⟩ := box2 hf2
  have hf12 : Fr w1 w2 := (frAlloc _ _).trans hf2
  have hb0 := (hf12.cell hlt0).trans hb0
  have hb1 := (hf12.cell hlt0).trans hb1
  have hlt1 : w1.heap.size < w2.heap.size := World.block_lt_of_cell? _ _ ha0
  have hlt0 : w.heap.size < w2.heap.size := Nat.lt_trans hlt0 hlt1
  clear hf2
  (have Hf12 := Lib.hid hf12; clear hf12; have Hs2 := Lib.hid hs2; clear hs2; have Hd2 := Lib.hid hd2; clear hd2; have Hn2 := Lib.hid hn2; clear hn2)
  go_wp2_with fail
  refine (made_any _).mono ?_
  rintro e w3 ⟨rfl, hf3⟩
  obtain ⟨hy0, hy1⟩ := box2 hf3
  have hf23 : Fr w2 w3 := (frAlloc _ _).trans hf3
  have hb0 := (hf23.cell hlt0).trans hb0
  have hb1 := (hf23.cell hlt0).trans hb1
  have ha0 := (hf23.cell hlt1).trans ha0
  have ha1 := (hf23.cell hlt1).trans ha1
  have hlt2 : w2.heap.size < w3.heap.size := World.block_lt_of_cell? _ _ hy0
  have hlt0 : w.heap.size < w3.heap.size := Nat.lt_trans hlt0 hlt2
  have hlt1 : w1.heap.size < w3.heap.size := Nat.lt_trans hlt1 hlt2
  have hF3 : Fr w w3 := (HF1.out.trans Hf12.out).trans hf23
  clear hf3
  (have Hf23 := Lib.hid hf23; clear hf23; have HF3 := Lib.hid hF3; clear hF3)
  by_cases hz : q1 = 0 ∧ q2 = 0
  · obtain ⟨rfl, rfl⟩ := hz
    obtain ⟨e1, e2, e3, e4, e5, e6, e7, e8⟩ := makeSym_add Hq1.out.symm Hq2.out.symm
    have e9 := (makeSym_err Hq1.out.symm)
    rw [← Hs1e.out] at e1 e3
    rw [← Hs2e.out] at e1 e4
    rw [← Hi1e.out] at e6
    have hpos : 0 < xs.length := by have := cutCheck_ok e9.1; omega
    have hxn : xs.length = n1 := H1.out.1
    have hyn : ys.length = n2 := H2.out.1
    obtain rfl : n2 = n1 := by omega
    obtain ⟨ad2, rfl, hE2⟩ := (H2.out.go sByte HF3.out).els (by omega)
    have hS2 := hE2.2.1
    clear e9
    rw [hxn] at hpos
    (have E1 := Lib.hid e1; clear e1; have E2 := Lib.hid e2; clear e2; have E3 := Lib.hid e3; clear e3; have E4 := Lib.hid e4; clear e4; have E5 := Lib.hid e5; clear e5; have E7 := Lib.hid e7; clear e7; have E8 := Lib.hid e8; clear e8; have Hxn := Lib.hid hxn; clear hxn; have Hyn := Lib.hid hyn; clear hyn)
    go_wp2_with fail
    refine (cloneBytes_any _ _ _ _ xs (H1.out.go sByte HF3.out) Hm1.out).mono ?_
    rintro e w4 ⟨v, rfl, ho, hf4⟩
    obtain ⟨g, cap, rest, rfl, hg0, hg, hcap, hcm⟩ := own_block ho (by rw [Hxn.out]; exact hpos)
    rw [Hxn.out] at hcap ⊢
    (have Ho := Lib.hid ho; clear ho; have Hcm := Lib.hid hcm; clear hcm)
    go_wp2_with fail
    go_loopw [46] (fun i wr => ∃ (k : Nat), k ≤ n2 ∧ i = .int .i64 k ∧ Hid (wr.heap[g]? = some (.cells ((xorTo xs ys k).map bV ++ rest).toArray 5 (0, 0))) ∧ Hid (Fr w3 wr)) (fun i _ => n2 - (intOf i).toNat)
    case atStart => exact ⟨0, Nat.zero_le _, rfl, by rw [xorTo_zero]; exact hg, hf4⟩
    case round =>
      obtain ⟨k, hk, rfl, HG, HF⟩ := hrel
      have Hxy : Hid (xs.length = ys.length) := by rw [Hid, Hxn.out, Hyn.out]
      by_cases hlt : k < n2
      · obtain ⟨y, hy, hcy⟩ := hE2.byte hlt
        have hcy := (HF.out.cell (p := ad2.add k) (by rw [block_of_add]; exact hS2)).trans hcy
        obtain ⟨x, hx⟩ : ∃ x, xs[k]? = some x := ⟨_, List.getElem?_eq_getElem (by rw [Hxn.out]; exact hlt)⟩
        have hcx := row_cell HG.out (xorTo_get Hxy.out hx)
        have hfx : wr.frozen? ⟨g, k, none⟩ = false := blk_free HG.out
        have hxor := u8_xor_byte x y
        have R : Hid ((wr.setCell ⟨g, k, none⟩ (.int .u8 ((x ^^^ y).toNat : Int))).heap[g]? = some (.cells ((xorTo xs ys (k + 1)).map bV ++ rest).toArray 5 (0, 0))) := by
          rw [← xorTo_succ Hxy.out hx hy]; exact row_set HG.out (by rw [length_xorTo Hxy.out (by rw [Hxn.out]; omega), Hxn.out]; exact hlt)
        have R2 : Hid (Fr w3 (wr.setCell ⟨g, k, none⟩ (.int .u8 ((x ^^^ y).toNat : Int)))) := HF.out.setCell hg0 _
        clear hx hy hg HG
        go_wp2_with fail
        go_region_with (fail)
        all_goals (try go_wp2_with fail)
        all_goals (
          have hwr : wrap64 ((k : Int) + 1) = ((k + 1 : Nat) : Int) := by have q := Hm1.out; unfold lim at q; unfold wrap64; omega
          refine ⟨⟨k + 1, hlt, by rw [hwr], ?_, ?_⟩, ?_⟩
          · rw [← UInt8.toNat_xor]; exact R.out
          · rw [← UInt8.toNat_xor]
            have q := R2.out
            exact ⟨q.os, q.tape, q.output, q.size, q.block⟩
          · rw [hwr]; simp only [intOf, Int.toNat_natCast]; exact Nat.sub_lt_sub_left hlt (Nat.lt_succ_self _))
      · obtain rfl : k = n2 := by omega
        have R : Hid (wr.heap[g]? = some (.cells ((zx xs ys).map bV ++ rest).toArray 5 (0, 0))) := by
          rw [Hid, ← xorTo_all Hxn.out Hyn.out]; exact HG.out
        have hb0 := (HF.out.cell hlt0).trans hb0
        have hb1 := (HF.out.cell hlt0).trans hb1
        have ha0 := (HF.out.cell hlt1).trans ha0
        have ha1 := (HF.out.cell hlt1).trans ha1
        have hy0 := (HF.out.cell hlt2).trans hy0
        have hy1 := (HF.out.cell hlt2).trans hy1
        have hrow : Hid (Sl 1 eByte wr (LT wr.heap.size) (some ⟨g, 0, none⟩) k (zx xs ys)) := by
          rw [Hid]
          refine Sl.lit R.out (Array.getElem?_eq_some_iff.1 R.out).1 (by rw [length_zx (by rw [Hxn.out, Hyn.out]), Hxn.out]) ?_
          intro i x hx
          show (_ : Option Value) = _
          rw [Nat.mul_one]
          show (List.map bV (zx xs ys) ++ rest).toArray[i + 0]? = _
          rw [Nat.add_zero, List.getElem?_toArray, List.getElem?_append_left (by simp; exact (List.getElem?_eq_some_iff.1 hx).1), List.getElem?_map, hx]
          rfl
        clear hg HG
        go_wp2_with fail
        refine (codeMake_any _ _ _ _ B K (zx xs ys) id hrow.out hcap Hcm.out wB wK).mono ?_
        rw [E1.out]
        rintro e w5 ⟨B5, m5, d5, rfl, hd5, hn5, hs5, hf5⟩
        have hb0 := (hf5.cell (World.block_lt_of_cell? _ _ hb0)).trans hb0
        have hb1 := (hf5.cell (World.block_lt_of_cell? _ _ hb1)).trans hb1
        have ha0 := (hf5.cell (World.block_lt_of_cell? _ _ ha0)).trans ha0
        have ha1 := (hf5.cell (World.block_lt_of_cell? _ _ ha1)).trans ha1
        have hy0 := (hf5.cell (World.block_lt_of_cell? _ _ hy0)).trans hy0
        have hy1 := (hf5.cell (World.block_lt_of_cell? _ _ hy1)).trans hy1
        have hlt0 := World.block_lt_of_cell? _ _ hb0
        have hlt1 := World.block_lt_of_cell? _ _ ha0
        have hlt2 := World.block_lt_of_cell? _ _ hy0
        have hF15 : Fr w1 w5 := ((Hf12.out.trans Hf23.out).trans HF.out).trans hf5
        have hF25 : Fr w2 w5 := (Hf23.out.trans HF.out).trans hf5
        have hF05 : Fr w w5 := HF1.out.trans hF15
        have hm5 : Hid (m5 = K.toNat) := by rw [Hid, ← hs5.1, length_zx (by rw [E3.out, E4.out]), E3.out]
        clear hf5
        (have Hs5 := Lib.hid hs5; clear hs5; have Hd5 := Lib.hid hd5; clear hd5; have Hn5 := Lib.hid hn5; clear hn5; have HF15 := Lib.hid hF15; clear hF15; have HF25 := Lib.hid hF25; clear hF25; have HF05 := Lib.hid hF05; clear hF05)
        go_wp2_with fail
        refine (sumAdd_any _ (some ⟨w5.heap.size + 1, 0, none⟩) 2 _ [s1, s2] ?_ (by unfold lim; omega)).mono ?_
        · refine Sl.lit (t := 29) (fr := (0, 0)) (cs := #[.slice B1 m1 d1, .slice B2 m2 d2]) (by (repeat' (first | (refine heap_new ?_; (first | (simp; done) | rfl); done) | refine heap_dn ?_ | refine heap_d ?_ | refine heap_old ?_))) (by simp [LT]) rfl ?_
          intro i x hx
          have b1 := Hd1.out
          have b2 := Hd2.out
          match i, hx with
          | 0, hx =>
            obtain rfl : s1 = x := by simpa using hx
            exact ⟨B1, m1, d1, by simp, ⟨by unfold lim; omega, b1.2.1, by unfold maxLen; omega⟩, Hs1.out.go sByte (HF15.out.trans ((frAlloc _ _).trans (frAlloc _ _)))⟩
          | 1, hx =>
            obtain rfl : s2 = x := by simpa using hx
            exact ⟨B2, m2, d2, by simp, ⟨by unfold lim; omega, b2.2.1, by unfold maxLen; omega⟩, Hs2.out.go sByte (HF25.out.trans ((frAlloc _ _).trans (frAlloc _ _)))⟩
          | i + 2, hx => simp at hx
        · rw [sumAdd_two E3.out E4.out E7.out E8.out]
          rintro e w6 ⟨B6, m6, d6, rfl, hd6, hn6, hs6, hf6⟩
          have hF56 : Fr w5 w6 := ((frAlloc _ _).trans (frAlloc _ _)).trans hf6
          have hu0 : w6.cell? ⟨w5.heap.size, 0, none⟩ = some (.int .i64 id) := (hf6.cell (p := ⟨w5.heap.size, 0, none⟩) (by simp; omega)).trans (by simp)
          have hu1 : w6.cell? ⟨w5.heap.size, 1, none⟩ = some (.slice B5 m5 d5) := (hf6.cell (p := ⟨w5.heap.size, 1, none⟩) (by simp; omega)).trans (by simp)
          have hb0 := (hF56.cell hlt0).trans hb0
          have hb1 := (hF56.cell hlt0).trans hb1
          have hm5b : m5 ≤ maxLen := by have := Hd5.out; unfold maxLen; omega
          clear hf6 ha0 ha1 hy0 hy1 hlt1 hlt2 hd6 hn6
          (have HF56 := Lib.hid hF56; clear hF56; have Hs6 := Lib.hid hs6; clear hs6; have Hm5b := Lib.hid hm5b; clear hm5b)
          go_wp2_with fail
          refine (same_any _ _ _ _ _ _ _ _ _ (zx s1 s2) (zx s1 s2) (Hs5.out.go sByte HF56.out) Hs6.out Hm5b.out).mono ?_
          rintro e w7 ⟨rfl, m, hw7⟩
          have hF67 : Fr w6 w7 := by rw [hw7]; exact frDrewN _ _
          have hb0 := (hF67.cell (World.block_lt_of_cell? _ _ hb0)).trans hb0
          have hb1 := (hF67.cell (World.block_lt_of_cell? _ _ hb1)).trans hb1
          have hu0 := (hF67.cell (World.block_lt_of_cell? _ _ hu0)).trans hu0
          have hu1 := (hF67.cell (World.block_lt_of_cell? _ _ hu1)).trans hu1
          clear hw7
          (have HF67 := Lib.hid hF67; clear hF67)
          go_wp2_with fail
          refine (codeCheck_any _ B K id _ _ _ wB wK).mono ?_
          rw [hm5.out, E5.out]
          rintro e w8 ⟨rfl, hf8⟩
          (have Hf8 := Lib.hid hf8; clear hf8)
          go_wp2_with fail
          go_ret
          exact ⟨rfl, ((HF05.out.trans HF56.out).trans HF67.out).trans Hf8.out⟩
  · have hor : (q1 != 0) = true ∨ ((q1 != 0) = false ∧ (q2 != 0) = true) := by
      by_cases z1 : q1 = 0
      · exact .inr ⟨by simp [z1], by simp; exact fun z2 => hz ⟨z1, z2⟩⟩
      · exact .inl (by simp [z1])
    clear hz
    rcases hor with z1 | ⟨z1, z2⟩
    · go_wp2_with fail
      refine (made_any _).mono ?_
      rintro e w4 ⟨rfl, hf4⟩
      go_wp2_with fail
      go_ret
      exact ⟨rfl, HF3.out.trans hf4⟩
    · go_wp2_with fail
      refine (made_any _).mono ?_
      rintro e w4 ⟨rfl, hf4⟩
      go_wp2_with fail
      go_ret
      exact ⟨rfl, HF3.out.trans hf4⟩
end Go.Proofs.Ytahkpbenebmmdaa
