/- keep.keeps. No condition. -/
import Derived.Test.YtmiaplgfbphfmaaGreatDoorMPGA
import Derived.Test.YtmiaplgfbphfmaaGreatDoorMPJ
import Derived.Test.YtmiaplgfbphfmaaGreatDoorMPB
import Derived.BigGuardPart
import Derived.Deep.DeepCutAuto
import Derived.Deep.Cut
import Derived.Deep.RegionHeld3
set_option linter.unusedSimpArgs false
set_option linter.unusedVariables false
namespace Go.Proofs.YtmiaplgfbphfmaaGreatDoor
open Go.RowKit
attribute [local irreducible] wpList

/-- What isn't over yet. -/
def filt (t : Int) (l : List Kp) : List Kp := l.filter fun k => !decide (k.h.till ≤ t)
theorem filt_snoc {t : Int} {l : List Kp} {j : Nat} {x : Kp} (h : l[j]? = some x) : filt t (l.take (j + 1)) = filt t (l.take j) ++ if decide (x.h.till ≤ t) = true then [] else [x] := by
  unfold filt
  rw [take_snoc' h, List.filter_append]
  congr 1
  by_cases hx : x.h.till ≤ t <;> simp [hx]
theorem filt_all {t : Int} {l : List Kp} (h : idxF true (l.map fun k => decide (k.h.till ≤ t)) = -1) : filt t l = l := by
  unfold filt
  rw [List.filter_eq_self]
  intro x hx
  rcases idxAux_spec true (l.map fun k => decide (k.h.till ≤ t)) 0 with ⟨_, h2⟩ | ⟨j, h2, _⟩
  · by_cases hx2 : x.h.till ≤ t
    · exact absurd (List.mem_map.2 ⟨x, hx, by simp [hx2]⟩) h2
    · simp [hx2]
  · unfold idxF at h; omega
theorem filt_first {t : Int} {l : List Kp} {k : Nat} (h : idxF true (l.map fun k => decide (k.h.till ≤ t)) = (k : Int)) : k < l.length ∧ filt t (l.take (k + 1)) = l.take k := by
  rcases idxAux_spec true (l.map fun k => decide (k.h.till ≤ t)) 0 with ⟨h1, h2⟩ | ⟨j, h2, h3, h4⟩
  · unfold idxF at h; omega
  · obtain rfl : k = j := by unfold idxF at h; omega
    rw [List.getElem?_map] at h3
    obtain ⟨x, hx, hx2⟩ := Option.map_eq_some_iff.1 h3
    refine ⟨(List.getElem?_eq_some_iff.1 hx).1, ?_⟩
    rw [filt_snoc hx, if_pos (by simpa using hx2), List.append_nil]
    unfold filt
    rw [List.filter_eq_self]
    intro y hy
    obtain ⟨i, hi⟩ := List.mem_iff_getElem?.1 hy
    rw [List.getElem?_take] at hi
    split at hi
    · rename_i hlt
      have := h4 i hlt
      rw [List.getElem?_map, hi] at this
      simp at this
      simp; omega
    · cases hi
set_option maxRecDepth 100000 in
set_option maxHeartbeats 16000000 in
theorem deleteFunc_own (w : World) (base : Nat) (v : Value) (l : List Kp) (t : Int) (pb : Nat) (ho : Own 16 (eHi base eKp) w base 96 v l) (h12 : l.length ≤ 12) (hp : w.cell? ⟨pb, 0, none⟩ = some (.int .i64 t)) (hpb : v.ownBlock ≠ some pb) :
    Calls Tryz.prog 56 #[v, .func (.func 141) #[] #[.pointer (some ⟨pb, 0, none⟩)]] w fun e w' => ∃ v', e = .returned v' ∧ Own 16 (eHi base eKp) w' base 96 v' (filt t l) ∧ Chg (fun b => v.ownBlock = some b) w w' := by
  have hcf : ∀ (args : Array Value) (W : World), (callFunc 141 args).run Tryz.prog W = .ok (.enter 141 args) W := entersW Tryz.func141 (by kernel_rfl) (by kernel_rfl)
  obtain ⟨A, cA, rfl, ⟨hc1, hc2⟩, hsl⟩ := (ho.ofHi sKp).slC sKp (by decide)
  obtain ⟨q, hq⟩ : ∃ q, q = idxF true (l.map fun k => decide (k.h.till ≤ t)) := ⟨_, rfl⟩
  have HI : Hid (Calls Tryz.prog 94 #[.slice A l.length cA, .func (.func 141) #[] #[.pointer (some ⟨pb, 0, none⟩)]] w fun e w' => e = .returned (.int .i64 q) ∧ Fr w w') := by
    rw [hq]
    refine indexFuncKp_any w _ _ hcf (fun k => decide (k.h.till ≤ t)) (fun W x A n c A2 n2 c2 A3 n3 c3 hf => ?_) _ _ _ _ hsl (by unfold maxLen; omega)
    exact late_any W x A n c A2 n2 c2 A3 n3 c3 t pb ((hf.cell (World.block_lt_of_cell? w _ hp)).trans hp)
  have HO := Lib.hid ho
  have HQ := Lib.hid hq
  have HP := Lib.hid hp
  clear ho hsl hq hp
  go_enter Tryz.func56, Tryz.ntmps56
  go_wp2_with fail
  (with_reducible refine (HI.out).mono ?_)
  rintro e w1 ⟨rfl, hf1⟩
  have HF1 := Lib.hid hf1
  clear hf1 HI
  by_cases hq1 : q = -1
  · have e1 : (q == -1) = true := by simp [hq1]
    have hfl : Hid (filt t l = l) := filt_all (HQ.out.symm.trans hq1)
    clear hq1
    go_wp2_with fail
    go_ret
    rw [hfl.out]
    exact ⟨_, rfl, HO.out.fr (sKp.hi base) HF1.out, HF1.out.chg⟩
  · have e1 : (q == -1) = false := by simp [hq1]
    obtain ⟨k, rfl⟩ : ∃ k : Nat, q = (k : Int) := by
      rcases idxAux_spec true (l.map fun k => decide (k.h.till ≤ t)) 0 with ⟨h1, h2⟩ | ⟨j, h2, h3, h4⟩
      · exact absurd (HQ.out.trans h1) hq1
      · exact ⟨j, by rw [HQ.out]; unfold idxF; rw [h2]; omega⟩
    obtain ⟨hkl, hkf⟩ := filt_first HQ.out.symm
    obtain ⟨g, cap, cs, rest, e2, hbg, hg, hnc, hcm, hl, hall, hone, hr⟩ := own_row (fKp.hi base) (by decide) HO.out (by omega)
    injection e2 with e2 e3 e4
    subst e2 e4
    obtain ⟨n, hn⟩ : ∃ n, n = l.length := ⟨_, rfl⟩
    rw [← hn] at hl hnc hkl h12 hc1 ⊢
    have HN := Lib.hid hn
    have HL := Lib.hid hl
    have HALL := Lib.hid hall
    have HG : Hid (w1.heap[g]? = some (.cells (cs ++ rest).toArray 96 (0, 0))) := blk_go hg HF1.out
    have HRD : Hid (∀ i x, l[i]? = some x → eKp w (fun b => (b < w.heap.size ∧ b ≠ g) ∧ base ≤ b) (fun j => cs[i * 16 + j]?) x) := hr
    have hgw : g < w.heap.size := (Array.getElem?_eq_some_iff.1 hg).1
    have HKF := Lib.hid hkf
    clear hg hr hone hq1 e3 hn hl hall hkf hc1 hc2
    go_wp2_with fail
    go_loopw [5, 6] (fun si sj wr => ∃ (i j : Nat) (cs' : List Value), i < j ∧ j ≤ n ∧ si = .int .i64 i ∧ sj = .int .i64 j ∧ Hid (i = (filt t (l.take j)).length) ∧ Hid (wr.heap[g]? = some (.cells (cs' ++ rest).toArray 96 (0, 0))) ∧ Hid (cs'.length = n * 16) ∧ Hid (∀ o, j * 16 ≤ o → cs'[o]? = cs[o]?) ∧
        Hid (∀ a y, (filt t (l.take j))[a]? = some y → eKp w (fun b => (b < w.heap.size ∧ b ≠ g) ∧ base ≤ b) (fun o => cs'[a * 16 + o]?) y) ∧ Hid (Chg (fun b => b = g) w wr)) (fun _ sj _ => n - (intOf sj).toNat)
    case atStart =>
      refine ⟨k, k + 1, cs, by omega, by omega, rfl, by go_num, ?_, HG, HL, fun _ _ => rfl, ?_, HF1.out.chg⟩
      · rw [Hid, HKF.out, List.length_take, ← HN.out]; omega
      · rw [Hid, HKF.out]
        intro a y hy
        rw [List.getElem?_take] at hy
        split at hy
        · exact HRD.out a y hy
        · cases hy
    case round =>
      obtain ⟨i, j, cs', hij, hjn, rfl, rfl, HI, HG', HL', HO', HR', HC⟩ := hrel
      by_cases hlt : j < n
      · obtain ⟨x, hx⟩ : ∃ x, l[j]? = some x := ⟨_, List.getElem?_eq_getElem (by rw [← HN.out]; exact hlt)⟩
        have hrx := HRD.out j x hx
        obtain ⟨A1, n1, c1, A2, n2, c2, A3, n3, c3, ⟨f0, f1, f2, f3, f4, f5, f6, f7, f8, f9, f10, f11, f12, f13, f14, f15⟩, _⟩ := eKp_iff.1 hrx
        have hce : ∀ t u, t < 16 → cs[j * 16 + t]? = some u → wr.cell? ⟨g, j * 16 + t, none⟩ = some u := fun t u ht hu => cells_at HG'.out (by rw [HO'.out _ (by omega)]; exact hu)
        have m0 := hce 0 _ (by decide) f0
        have m1 := hce 1 _ (by decide) f1
        have m2 := hce 2 _ (by decide) f2
        have m3 := hce 3 _ (by decide) f3
        have m4 := hce 4 _ (by decide) f4
        have m5 := hce 5 _ (by decide) f5
        have m6 := hce 6 _ (by decide) f6
        have m7 := hce 7 _ (by decide) f7
        have m8 := hce 8 _ (by decide) f8
        have m9 := hce 9 _ (by decide) f9
        have m10 := hce 10 _ (by decide) f10
        have m11 := hce 11 _ (by decide) f11
        have m12 := hce 12 _ (by decide) f12
        have m13 := hce 13 _ (by decide) f13
        have m14 := hce 14 _ (by decide) f14
        have m15 := hce 15 _ (by decide) f15
        simp only [Nat.add_zero] at m0
        have HCS : Hid (∀ o u, (kpCells x A1 n1 c1 (.slice A2 n2 c2) (.slice A3 n3 c3))[o]? = some u → cs[j * 16 + o]? = some u) := fun o u hu => by
          have ho16 : o < 16 := by simpa [kpCells] using (List.getElem?_eq_some_iff.1 hu).1
          have : o = 0 ∨ o = 1 ∨ o = 2 ∨ o = 3 ∨ o = 4 ∨ o = 5 ∨ o = 6 ∨ o = 7 ∨ o = 8 ∨ o = 9 ∨ o = 10 ∨ o = 11 ∨ o = 12 ∨ o = 13 ∨ o = 14 ∨ o = 15 := by omega
          rcases this with rfl | rfl | rfl | rfl | rfl | rfl | rfl | rfl | rfl | rfl | rfl | rfl | rfl | rfl | rfl | rfl <;> (first | exact f0.trans hu | exact f1.trans hu | exact f2.trans hu | exact f3.trans hu | exact f4.trans hu | exact f5.trans hu | exact f6.trans hu | exact f7.trans hu | exact f8.trans hu | exact f9.trans hu | exact f10.trans hu | exact f11.trans hu | exact f12.trans hu | exact f13.trans hu | exact f14.trans hu | exact f15.trans hu)
        have HSN := Lib.hid (filt_snoc (t := t) hx)
        obtain ⟨b, hb⟩ : ∃ b, b = decide (x.h.till ≤ t) := ⟨_, rfl⟩
        rw [← hb] at HSN
        have LA : Hid (∀ W, Chg (fun b => b = g) w W → Calls Tryz.prog 141 #[.agg #[.int .i64 x.h.frm, .int .i64 x.h.seq, .int .i64 x.h.to, .int .i64 x.h.till, .int .i64 x.h.bytes, .int .i64 x.h.block, .bool x.own, .slice A1 n1 c1, .slice A2 n2 c2, .int .i64 x.shares, .int .i64 x.giving, .int .i64 x.towards, .int .i64 x.try_, .slice A3 n3 c3, .bool x.delivered, .bool x.purged], .pointer (some ⟨pb, 0, none⟩)] W fun e w' => e = .returned (.bool b) ∧ Fr W w') := fun W hk => by
          rw [hb]
          exact late_any W x A1 n1 c1 A2 n2 c2 A3 n3 c3 t pb ((hk.cell (World.block_lt_of_cell? w _ HP.out) (by show ¬ pb = g; intro e; exact hpb (by rw [e]; rfl))).trans HP.out)
        have HRX := Lib.hid hrx
        clear hx hrx hb hce f0 f1 f2 f3 f4 f5 f6 f7 f8 f9 f10 f11 f12 f13 f14 f15
        go_upto_region 8 with fail
        obtain ⟨W5, hW5⟩ : ∃ W5, W5 = wr.alloc (.cells #[.int .i64 x.h.frm, .int .i64 x.h.seq, .int .i64 x.h.to, .int .i64 x.h.till, .int .i64 x.h.bytes, .int .i64 x.h.block, .bool x.own, .slice A1 n1 c1, .slice A2 n2 c2, .int .i64 x.shares, .int .i64 x.giving, .int .i64 x.towards, .int .i64 x.try_, .slice A3 n3 c3, .bool x.delivered, .bool x.purged] 96) := ⟨_, rfl⟩
        obtain ⟨q5, hq5⟩ : ∃ q5, q5 = wr.heap.size := ⟨_, rfl⟩
        have hQ5 : W5.heap[q5]? = some (.cells #[.int .i64 x.h.frm, .int .i64 x.h.seq, .int .i64 x.h.to, .int .i64 x.h.till, .int .i64 x.h.bytes, .int .i64 x.h.block, .bool x.own, .slice A1 n1 c1, .slice A2 n2 c2, .int .i64 x.shares, .int .i64 x.giving, .int .i64 x.towards, .int .i64 x.try_, .slice A3 n3 c3, .bool x.delivered, .bool x.purged] 96 (0, 0)) := by rw [hW5]; exact heap_new hq5
        have hF5 : Fr wr W5 := by rw [hW5]; exact frAlloc _ _
        have HF5 := Lib.hid hF5
        rw [← hW5, ← hq5]
        clear hW5 hq5 hF5 m0 m1 m2 m3 m4 m5 m6 m7 m8 m9 m10 m11 m12 m13 m14 m15
        (obtain ⟨m0, m1, m2, m3, m4, m5, m6, m7, m8, m9, m10, m11, m12, m13, m14, m15⟩ := box16_ hQ5)
        (have HQ5 := Lib.hid hQ5; clear hQ5)
        go_wp2_with fail
        (with_reducible refine (LA.out _ (HC.out.trans (Fr.chg HF5.out))).mono ?_)
        rintro e w6 ⟨rfl, hf6⟩
        have HF6 : Hid (Fr wr w6) := HF5.out.trans hf6
        have HQ6 := Lib.hid (blk_go HQ5.out hf6)
        clear m0 m1 m2 m3 m4 m5 m6 m7 m8 m9 m10 m11 m12 m13 m14 m15 HQ5 HF5 LA hf6
        cases b with
        | true =>
          have HSN2 : Hid (filt t (l.take (j + 1)) = filt t (l.take j)) := by rw [Hid, HSN.out]; simp
          have HG6 := Lib.hid (blk_go HG'.out HF6.out)
          have HC6 : Hid (Chg (fun b => b = g) w w6) := HC.out.trans (Fr.chg HF6.out)
          clear HSN
          go_wp2_with fail
          go_roundw
          case rel => exact ⟨i, j + 1, cs', by omega, by omega, rfl, by go_num, by rw [HSN2.out]; exact HI, HG6, HL', fun o ho => HO'.out o (by omega), by rw [HSN2.out]; exact HR', HC6⟩
          case measure => simp [intOf]; omega
        | false =>
          have HSN2 : Hid (filt t (l.take (j + 1)) = filt t (l.take j) ++ [x]) := by rw [Hid, HSN.out]; simp
          clear HSN
          have hin : i < n := by omega
          obtain ⟨W9, hW9⟩ : ∃ W9, W9 = w6.setCells g (i * 16) (kpCells x A1 n1 c1 (.slice A2 n2 c2) (.slice A3 n3 c3)) := ⟨_, rfl⟩
          have hG6 := blk_go HG'.out HF6.out
          have hlk : (kpCells x A1 n1 c1 (.slice A2 n2 c2) (.slice A3 n3 c3)).length = 16 := rfl
          have hG9 : W9.heap[g]? = some (.cells (setL cs' (i * 16) (kpCells x A1 n1 c1 (.slice A2 n2 c2) (.slice A3 n3 c3)) ++ rest).toArray 96 (0, 0)) := by
            rw [hW9, ← setsW_eq]
            exact setsW_heap _ _ _ _ hG6 (by rw [hlk, HL'.out]; omega)
          have hC9 : Chg (fun b => b = g) w W9 := by
            rw [hW9, ← setsW_eq]
            exact setsW_chg _ _ _ (HC.out.trans (Fr.chg HF6.out))
          have hR9 : ∀ a y, (filt t (l.take (j + 1)))[a]? = some y → eKp w (fun b => (b < w.heap.size ∧ b ≠ g) ∧ base ≤ b) (fun o => (setL cs' (i * 16) (kpCells x A1 n1 c1 (.slice A2 n2 c2) (.slice A3 n3 c3)))[a * 16 + o]?) y := fun a y hy => by
            rw [HSN2.out, List.getElem?_append] at hy
            split at hy
            · rename_i ha
              refine sKp.mono (fun o u ho hu => ?_) (HR'.out a y hy)
              rw [setL_out _ _ _ _ (by rw [← HI.out] at ha; omega)]
              exact hu
            · rename_i ha
              rw [← HI.out] at ha hy
              obtain rfl : a = i := by
                rcases Nat.eq_zero_or_pos (a - i) with h0 | h0
                · omega
                · rw [List.getElem?_eq_none (by simp; omega)] at hy; cases hy
              rw [Nat.sub_self] at hy
              obtain rfl : x = y := by simpa using hy
              refine sKp.mono (fun o u ho hu => ?_) HRX.out
              rw [setL_in _ _ _ _ (by rw [hlk, HL'.out]; omega) (by rw [hlk]; exact ho)]
              rw [← hu]
              obtain ⟨u2, hu2⟩ : ∃ u2, (kpCells x A1 n1 c1 (.slice A2 n2 c2) (.slice A3 n3 c3))[o]? = some u2 := ⟨_, List.getElem?_eq_getElem (by rw [hlk]; exact ho)⟩
              rw [hu2, HCS.out o u2 hu2]
          have hI9 : i + 1 = (filt t (l.take (j + 1))).length := by rw [HSN2.out, List.length_append, ← HI.out]; rfl
          have hL9 : (setL cs' (i * 16) (kpCells x A1 n1 c1 (.slice A2 n2 c2) (.slice A3 n3 c3))).length = n * 16 := by rw [length_setL]; exact HL'.out
          have hO9 : ∀ o, (j + 1) * 16 ≤ o → (setL cs' (i * 16) (kpCells x A1 n1 c1 (.slice A2 n2 c2) (.slice A3 n3 c3)))[o]? = cs[o]? := fun o ho => by rw [setL_out _ _ _ _ (by rw [hlk]; omega)]; exact HO'.out o (by omega)
          obtain ⟨cs9, hcs9⟩ : ∃ cs9, cs9 = setL cs' (i * 16) (kpCells x A1 n1 c1 (.slice A2 n2 c2) (.slice A3 n3 c3)) := ⟨_, rfl⟩
          rw [← hcs9] at hG9 hR9 hL9 hO9
          have ht : w6.there g (i * 16) 16 := fun o ho => by
            have hlt' : i * 16 + o < cs'.length := by rw [HL'.out]; omega
            exact ⟨by rw [cells_at hG6 (List.getElem?_eq_getElem hlt')]; rfl, blk_free hG6⟩
          have hrg : w6.rangeAt q5 0 (kpCells x A1 n1 c1 (.slice A2 n2 c2) (.slice A3 n3 c3)) := fun o u hu => by rw [Nat.zero_add, cell_of_heap HQ6.out]; simpa [kpCells] using hu
          (have HG9 := Lib.hid hG9; clear hG9; have HC9 := Lib.hid hC9; clear hC9; have HR9 := Lib.hid hR9; clear hR9; have HI9 := Lib.hid hI9; clear hI9; have HL9 := Lib.hid hL9; clear hL9; have HO9 := Lib.hid hO9; clear hO9; have HW9 := Lib.hid hW9; clear hW9)
          clear hG6 hlk hcs9 HRX HCS HSN2
          go_upto_region 9 with fail
          go_step
          iterate 12 (first | (refine wpList_load_mid rfl 96 (.tmp 7) rfl q5 0 rfl (kpCells x A1 n1 c1 (.slice A2 n2 c2) (.slice A3 n3 c3)) _ hrg Tryz.underlying96 rfl (by kernel_rfl) ?_) | (refine wpList_store_mid rfl 96 (.tmp 33) (.tmp 32) rfl g (i * 16) (kpCells x A1 n1 c1 (.slice A2 n2 c2) (.slice A3 n3 c3)).toArray rfl rfl ht (by kernel_rfl) kp_one ?_) | go_values | go_skip | go_guarded | go_step | go_upon | go_back)
          rw [List.toList_toArray, ← HW9.out]
          clear HW9 ht hrg
          simp only [Act.put]
          go_wp2_with fail
          go_roundw
          case rel => exact ⟨i + 1, j + 1, cs9, by omega, by omega, by go_num, by go_num, HI9, HG9, HL9, HO9, HR9, HC9⟩
          case measure => simp [intOf]; omega
      · obtain rfl : j = n := by omega
        have hft : filt t (l.take j) = filt t l := by rw [List.take_of_length_le (by rw [← HN.out]; exact Nat.le_refl _)]
        rw [hft] at HI HR'
        have hie : i < j := hij
        obtain ⟨cur, hcur⟩ : ∃ cur, cur = cs' ++ rest := ⟨_, rfl⟩
        have hcl : cur.length = cA * 16 := by rw [hcur, List.length_append, HL'.out, ← HL.out]; exact HALL.out
        obtain ⟨W2, hW2⟩ : ∃ W2, W2 = wr.setRow g (cur.take (i * 16) ++ (Builtin.zeroCells (Value.agg #[.int .i64 0, .int .i64 0, .int .i64 0, .int .i64 0, .int .i64 0, .int .i64 0, .bool false, .slice none 0 0, .slice none 0 0, .int .i64 0, .int .i64 0, .int .i64 0, .int .i64 0, .slice none 0 0, .bool false, .bool false]).cells (j - i)).toList ++ cur.drop (i * 16 + (j - i) * 16)).toArray := ⟨_, rfl⟩
        have hcc : ∀ ty c, (Builtin.clear_ #[23] ty #[.slice (some ⟨g, i * 16, none⟩) (j - i) c]).run Tryz.prog wr = .ok (.tuple #[]) W2 := fun ty c => by
          rw [hW2]
          exact run_clear_row wr _ _ ty (Value.agg #[.int .i64 0, .int .i64 0, .int .i64 0, .int .i64 0, .int .i64 0, .int .i64 0, .bool false, .slice none 0 0, .slice none 0 0, .int .i64 0, .int .i64 0, .int .i64 0, .int .i64 0, .slice none 0 0, .bool false, .bool false]) Tryz.underlying23 (fun _ => rfl) (by decide) g (i * 16) (j - i) c (by omega) cur _ (by rw [hcur]; exact HG'.out) (by rw [hcl]; show i * 16 + (j - i) * 16 ≤ _; omega)
        have hG2 : W2.heap[g]? = some (.cells (cs'.take (i * 16) ++ ((Builtin.zeroCells (Value.agg #[.int .i64 0, .int .i64 0, .int .i64 0, .int .i64 0, .int .i64 0, .int .i64 0, .bool false, .slice none 0 0, .slice none 0 0, .int .i64 0, .int .i64 0, .int .i64 0, .int .i64 0, .slice none 0 0, .bool false, .bool false]).cells (j - i)).toList ++ cur.drop (i * 16 + (j - i) * 16))).toArray 96 (0, 0)) := by
          rw [hW2, setRow_heap wr g _ _ 96 _ HG'.out, List.append_assoc, hcur, List.take_append_of_le_length (by rw [HL'.out]; omega)]
        have hC2 : Chg (fun b => b = g) w W2 := by
          have hc := HC.out
          rw [hW2]
          exact Chg.of (grown_setRow (w := w) (wr := wr) ⟨hc.os, hc.tape, hc.output, hc.size, fun b hb hs => hc.block b hb fun e => hs (by rw [e])⟩ _)
        have hz : ((Builtin.zeroCells (Value.agg #[.int .i64 0, .int .i64 0, .int .i64 0, .int .i64 0, .int .i64 0, .int .i64 0, .bool false, .slice none 0 0, .slice none 0 0, .int .i64 0, .int .i64 0, .int .i64 0, .int .i64 0, .slice none 0 0, .bool false, .bool false]).cells (j - i)).toList).length = (j - i) * 16 := by rw [Array.length_toList, size_zeroCells]; rfl
        obtain ⟨more, hmore⟩ : ∃ more, more = (Builtin.zeroCells (Value.agg #[.int .i64 0, .int .i64 0, .int .i64 0, .int .i64 0, .int .i64 0, .int .i64 0, .bool false, .slice none 0 0, .slice none 0 0, .int .i64 0, .int .i64 0, .int .i64 0, .int .i64 0, .slice none 0 0, .bool false, .bool false]).cells (j - i)).toList ++ cur.drop (i * 16 + (j - i) * 16) := ⟨_, rfl⟩
        have hml : more.length = cA * 16 - i * 16 := by rw [hmore, List.length_append, hz, List.length_drop, hcl]; omega
        rw [← hmore] at hG2
        have hOW : Own 16 (eHi base eKp) W2 base 96 (.slice (some ⟨g, 0, none⟩) i cA) (filt t l) := by
          have key := row_own (w := w) (w' := W2) (ys := filt t l) (cap := cA) (sKp.hi base) hbg hG2 ⟨hC2.os, hC2.tape, hC2.output, hC2.size, fun b hb hs => hC2.block b hb fun e => hs (by rw [e])⟩ (by rw [← HI.out]; omega) hcm (by rw [List.length_take, HL'.out, ← HI.out]; omega) (by rw [List.length_take, HL'.out, hml]; omega) fun a y hy => by
            have ha := (List.getElem?_eq_some_iff.1 hy).1
            rw [← HI.out] at ha
            refine sKp.mono (fun o u ho hu => ?_) (HR'.out a y hy)
            rw [List.getElem?_take_of_lt (by omega)]
            exact hu
          rw [← HI.out] at key
          exact key
        have hni : ¬ cA = i := by omega
        (have HOW := Lib.hid hOW; clear hOW; have HC2 := Lib.hid hC2; clear hC2)
        clear hG2 hmore hml hz hcl hcur HI HR' HG' HO' HL' hW2
        go_wp2_with fail
        go_ret
        exact ⟨_, rfl, HOW.out, HC2.out.more fun b hb => by rw [hb]; rfl⟩
end Go.Proofs.YtmiaplgfbphfmaaGreatDoor
namespace Go.Proofs.YtmiaplgfbphfmaaGreatDoor
open Go.RowKit

section
variable {α : Type} {size : Nat} {r : ERd α}
theorem own_isSl {base : Nat} {w : World} {e : TypeId} {v : Value} {xs : List α} (h : Own size r w base e v xs) : ∃ A n c, v = .slice A n c := by
  obtain ⟨cs, ho, _⟩ := h
  rcases ho.2 with ⟨h0, _⟩ | ⟨g, cap, cur, h0, _⟩
  · exact ⟨_, _, _, h0⟩
  · exact ⟨_, _, _, h0⟩

theorem app_o2 {P : Program} {W0 W1 : World} {base e b t ty : TypeId} {news : List Value} {te : TypeId} {v : Value} {xs : List α} {y : α} {fr : Nat × Nat} {i : TypeInfo} {z : Value} {bytes : Nat} (st : Stable size r) (ht : P.underlying t = some (.slice e)) (hi1 : P.info? e = some i) (hi2 : i.zero = some z) (hi3 : i.size = size) (hi4 : i.bytes = bytes)
    (hzs : z.cells.size = size) (hsz : 0 < size) (hown : Own size r W0 base e v xs) (hf : Fr W0 W1) (hblk : W1.heap[b]? = some (.cells news.toArray te fr)) (hl : news.length = size) (h1 : ∀ u ∈ news, u.oneCell' = true)
    (hy : r W0 (fun b => b < W0.heap.size ∧ v.ownBlock ≠ some b) (fun j => news[j]?) y) (h63 : xs.length + 1 ≤ maxLen) (hbytes : (xs.length + 1) * bytes ≤ lim) (hbase : base ≤ W0.heap.size) :
    ∃ v' w', (Builtin.append_ #[t, t] ty #[v, .slice (some ⟨b, 0, none⟩) 1 1]).run P W1 = .ok v' w' ∧ Own size r w' base e v' (xs ++ [y]) ∧ Chg (fun k => v.ownBlock = some k) W0 w' ∧ ∀ k, v'.ownBlock = some k → v.ownBlock = some k ∨ W0.heap.size ≤ k := by
  obtain ⟨q1, q2, q3⟩ := app1_pre (P := P) st hown hf hblk hl hy
  obtain ⟨cs, hrow, hr⟩ := q1
  obtain ⟨v', w', hrun, g2, g3, g4, g5⟩ := run_append_own_at (P := P) W1 base t ty e i z size bytes ht hi1 hi2 hi3 hi4 hzs hsz v xs.length cs hrow ⟨b, 0, none⟩ 1 1 news (by rw [Nat.one_mul]; exact hl) q2 h1 h63 hbytes (Nat.le_trans hbase hf.size)
  have hg : Chg (fun k => v.ownBlock = some k) W1 w' := ⟨g3.os, g3.tape, g3.output, g3.size, fun k hk hs => g3.block k hk fun e => hs e.symm⟩
  refine ⟨v', w', hrun, own_apps st hr hrow.1 rfl q3 g2 g3 g5, hf.chg.trans hg, fun k hk => ?_⟩
  rcases g5 with g5 | g5
  · exact .inl (g5.symm.trans hk)
  · rw [g5] at hk
    injection hk with hk
    exact .inr (by rw [← hk]; exact hf.size)
/-- The same as a step of a region that draws its order. -/
theorem step_app2o {P : Program} {W1 : World} {ops : Array Oper} {o : Oper} {a : Act} {K : Act → World → Prop} {Q : Exit → Act → World → Prop} {E : Prop} (hgd : o.guard = none) (s x : Operand) (t : TypeId)
    (ho : o.op = .call { callee := .builtin .append, args := #[s, x], argTypes := #[t, t] })
    (base : Nat) (e : TypeId) (z : Value) (bytes : Nat) (ht : P.underlying t = some (.slice e)) (hi : (P.info? e).map (fun i => (i.zero, i.size, i.bytes)) = some (some z, size, bytes))
    (hzs : z.cells.size = size) (hsz : 0 < size) (st : Stable size r)
    (W0 : World) (hf : Fr W0 W1) (v : Value) (xs : List α) (hs : a.eval s = v) (hown : Own size r W0 base e v xs)
    (b : Nat) (news : List Value) (te : TypeId) (fr : Nat × Nat) (hx : a.eval x = .slice (some ⟨b, 0, none⟩) 1 1) (hblk : W1.heap[b]? = some (.cells news.toArray te fr)) (hl : news.length = size) (h1 : ∀ u ∈ news, u.oneCell' = true)
    (y : α) (hy : r W0 (fun b => b < W0.heap.size ∧ v.ownBlock ≠ some b) (fun j => news[j]?) y)
    (h63 : xs.length + 1 ≤ maxLen) (hbytes : (xs.length + 1) * bytes ≤ lim) (hbase : base ≤ W0.heap.size)
    (h : ∀ v' w', Hid (Own size r w' base e v' (xs ++ [y])) → Hid (Chg (fun k => v.ownBlock = some k) W0 w') → Hid (∀ k, v'.ownBlock = some k → v.ownBlock = some k ∨ W0.heap.size ≤ k) → K (a.put o.dst v') w') :
    if Region.wanted o (yielded ops a.tmps) = true then Oper.wp P o a W1 K Q else E := by
  have hw : Region.wanted o (yielded ops a.tmps) = true := by simp [Region.wanted, hgd]
  rw [if_pos hw]
  obtain ⟨i, hi1, hi2⟩ := Option.map_eq_some_iff.1 hi
  simp only [Prod.mk.injEq] at hi2
  obtain ⟨v', w', hrun, k1, k2, k3⟩ := app_o2 (P := P) (ty := o.type) st ht hi1 hi2.1 hi2.2.1 hi2.2.2 hzs hsz hown hf hblk hl h1 hy h63 hbytes hbase
  unfold Oper.wp execOp
  simp only [ho, resolve, invoke, builtin, Sem.run_bind, Sem.run_pure, Result.andThen_ok, List.map_toArray, List.map_cons, List.map_nil, hs, hx, hrun]
  exact h v' w' k1 k2 k3
end
/-- An operation, by the slot that it fills. -/
theorem stepPick {P : Program} {w : World} {ops : Array Oper} {o : Oper} {n : Nat} {a : Act} {K : Act → World → Prop} {Q : Exit → Act → World → Prop} {E : Prop} (hd : o.dst = some n) (h : if Region.wanted o (yielded ops a.tmps) = true then Oper.wp P o a w K Q else E) :
    if Region.wanted o (yielded ops a.tmps) = true then Oper.wp P o a w K Q else E := h
end Go.Proofs.YtmiaplgfbphfmaaGreatDoor
namespace Go.Proofs.YtmiaplgfbphfmaaGreatDoor
open Go.RowKit

/-- One bundle in hand, as it stands ahead of what a record makes of it. -/
structure Foc0 (T : Nat → Prop) (w : World) (base g cap : Nat) (xs : List Kp) (i : Nat) (x : Kp) (A : Option Addr) (n c : Nat) (vS vT : Value) : Prop where
  foc : Foc T w base g cap xs i x A n c vS vT
  av : ∀ b, T b → vS.ownBlock ≠ some b ∧ vT.ownBlock ≠ some b
  ne : ∀ b, vS.ownBlock = some b → vT.ownBlock ≠ some b
  new : ∀ b, w.heap.size ≤ b → T b
theorem Foc0.fr {T : Nat → Prop} {w w' : World} {base g cap : Nat} {xs : List Kp} {i : Nat} {x : Kp} {A : Option Addr} {n c : Nat} {vS vT : Value} (h : Foc0 T w base g cap xs i x A n c vS vT) (k : Fr w w') : Foc0 T w' base g cap xs i x A n c vS vT :=
  ⟨h.foc.fr k, h.av, h.ne, fun b hb => h.new b (Nat.le_trans k.size hb)⟩
theorem chg_grown {w w' : World} {v : Value} (k : Chg (fun b => v.ownBlock = some b) w w') : w.grownBy w' v.ownBlock := ⟨k.os, k.tape, k.output, k.size, fun b hb hs => k.block b hb fun e => hs e.symm⟩
theorem Sl.ofIn {α : Type} {size : Nat} {r : ERd α} {T : Nat → Prop} {w : World} {S : Nat → Prop} {A : Option Addr} {n : Nat} {xs : List α} (st : Stable size r) (h : Sl size (eIn T r) w S A n xs) : Sl size r w S A n xs :=
  ⟨h.1, fun hn => by
    obtain ⟨ad, e, hS, hr⟩ := h.2 hn
    exact ⟨ad, e, hS, fun i x hx => st.more (fun b hb => hb.1) (hr i x hx)⟩⟩
/-- What may be changed of a place of which one bundle is in hand. -/
def FocS (g : Nat) (vS vT : Value) (b : Nat) : Prop := b = g ∨ vS.ownBlock = some b ∨ vT.ownBlock = some b
/-- What a call leaves of it. -/
def FocPost (T : Nat → Prop) (w : World) (base g cap : Nat) (xs : List Kp) (i : Nat) (A : Option Addr) (n c : Nat) (vS vT : Value) (res : Kp × Int) (e : Ending) (w' : World) : Prop :=
  e = .returned (.int .i64 res.2) ∧ Chg (FocS g vS vT) w w' ∧ ∃ vS' vT', Foc T w' base g cap xs i res.1 A n c vS' vT'
theorem Foc0.same {T : Nat → Prop} {w w' : World} {base g cap : Nat} {xs : List Kp} {i : Nat} {x : Kp} {A : Option Addr} {n c : Nat} {vS vT : Value} {res : Kp × Int} {k : Int} (h : Foc0 T w base g cap xs i x A n c vS vT) (hf : Fr w w') (e : res = (x, k)) :
    FocPost T w base g cap xs i A n c vS vT res (.returned (.int .i64 k)) w' := by
  subst e
  exact ⟨rfl, hf.chg, vS, vT, h.foc.fr hf⟩
/-- One of them taken in hand. -/
theorem AllM.foc2 {w : World} {base : Nat} {v : Value} {xs : List Kp} {lo : Nat → Nat} {i : Nat} {x : Kp} (h : AllM w base v xs lo) (hx : xs[i]? = some x) :
    ∃ g cap A n c vS vT T, v = .slice (some ⟨g, 0, none⟩) xs.length cap ∧ Foc T w base g cap xs i x A n c vS vT ∧ (∀ b, T b → vS.ownBlock ≠ some b ∧ vT.ownBlock ≠ some b) ∧ (∀ b, vS.ownBlock = some b → vT.ownBlock ≠ some b) ∧ (∀ b, w.heap.size ≤ b → T b) := by
  obtain ⟨cs, ho, hr⟩ := h.own
  have hi := (List.getElem?_eq_some_iff.1 hx).1
  have hlen := ho.1
  rcases ho.2 with ⟨rfl, h0⟩ | ⟨g, cap, cur, rfl, hbg, hg, hnc, hcm, hcs, htake⟩
  · omega
  obtain ⟨A, n, c, vS, vT, h1, h2, h3, h4, h5, h6, h7, h8, h9⟩ := hr i x hx
  have e1 := h.mono (i + 1) xs.length hi
  have e2 := h.mono 0 i (Nat.zero_le _)
  have e3 := h.bot
  have e4 := h.top
  have e5 := h.far g rfl
  have hgE : cur = (cs ++ cur.toList.drop (xs.length * 16)).toArray := by rw [← htake, List.take_append_drop]
  refine ⟨g, cap, A, n, c, vS, vT, fun b => base ≤ b ∧ b ≠ g ∧ vS.ownBlock ≠ some b ∧ vT.ownBlock ≠ some b, rfl, ⟨⟨cs, cur.toList.drop (xs.length * 16), by rw [← hgE]; exact hg, hlen, ?_, fun j y hj hy => (hr j y hy).read fun b q1 q2 => ?_, h1⟩, fun b hb => ⟨hb.1, hb.2.1⟩, hbg, ⟨hnc, hcm⟩, hi, h2, ⟨h3.1, h3.2.more sByte fun b hb => ⟨by omega, by omega, by omega, hb.2.2⟩⟩, ?_, h5.lower (by omega), h8, h9⟩, fun b hb => hb.2.2, fun b hb => (h6 b hb).2, fun b hb => ⟨by have := (Array.getElem?_eq_some_iff.1 hg).1; omega, by have := (Array.getElem?_eq_some_iff.1 hg).1; omega, fun e => by have := (h6 b e).1; omega, fun e => by have := h7 b e; omega⟩⟩
  · have e2 : cur.toList.length = cap * 16 := by rw [Array.length_toList]; exact hcs
    rw [hlen, List.length_drop, e2]; omega
  · have hj' := (List.getElem?_eq_some_iff.1 hy).1
    have f1 := h.mono (j + 1) xs.length hj'
    have f2 := h.mono 0 j (Nat.zero_le _)
    have ne : ∀ a, lo i ≤ a → a < lo (i + 1) → a ≠ b := fun a r1 r2 e => by
      subst e
      rcases Nat.lt_or_ge i j with hlt | hge
      · have := h.mono (i + 1) j hlt; omega
      · have := h.mono (j + 1) i (by omega); omega
    exact ⟨by omega, by omega, by omega, fun e => ne b (h4.ge e).1 (h6 b e).1 rfl, fun e => ne b (h5.ge e).1 (h7 b e) rfl⟩
  · have key : Own 2 (eIn (fun b => base ≤ b ∧ b ≠ g ∧ vS.ownBlock ≠ some b ∧ vT.ownBlock ≠ some b) eSm) w (lo i) 38 vS x.syms := h4.chgG (S := fun _ => False) (Chg.refl _ _) (fun _ _ e => e) fun f y hy => by
      unfold eIn at hy ⊢
      refine sSm.more (fun b hb => ?_) hy
      obtain ⟨r0, r1, r2, r3⟩ := hb
      exact ⟨r0, by omega, by omega, r3⟩
    exact key.lower (by omega)
/-- A new one in hand. -/
theorem Own.focNew2 {w : World} {base : Nat} {v : Value} {ys : List (Bool × Kp)} {i : Nat} {x : Kp} (h : Own 16 (eHi base eKq) w base 96 v ys) (hx : ys[i]? = some (true, x)) (hs : x.syms = []) (ht : x.took = []) (hc : x.cargo = []) :
    ∃ g cap T, v = .slice (some ⟨g, 0, none⟩) ys.length cap ∧ Foc T w base g cap (ys.map (·.2)) i x none 0 0 (.slice none 0 0) (.slice none 0 0) ∧ (∀ b, w.heap.size ≤ b → T b) := by
  have hi := (List.getElem?_eq_some_iff.1 hx).1
  obtain ⟨g, cap, cs, rest, rfl, hbg, hg, hnc, hcm, hl, hall, h1, hr⟩ := own_row (fKq.hi base) (by decide) h (by omega)
  obtain ⟨hk, hn⟩ := hr i _ hx
  obtain ⟨n7, n8, n13⟩ := hn rfl
  obtain ⟨A, n, c, A2, n2, c2, A3, n3, c3, ⟨f0, f1, f2, f3, f4, f5, f6, f7, f8, f9, f10, f11, f12, f13, f14, f15⟩, hw, _⟩ := eKp_iff.1 hk
  refine ⟨g, cap, fun b => base ≤ b ∧ b ≠ g, rfl, ⟨⟨cs, rest, hg, by rw [List.length_map]; exact hl, hall, fun j y hj hy => ?_, fun t ht => ?_⟩, fun b hb => hb, hbg, ⟨by rw [List.length_map]; exact hnc, hcm⟩, by rw [List.length_map]; exact hi, hw, ?_, by rw [hs]; exact Own.nil, by rw [ht]; exact Own.nil, by rw [hs]; simp, by rw [ht]; simp⟩, fun b hb => ⟨by have := (Array.getElem?_eq_some_iff.1 hg).1; omega, by have := (Array.getElem?_eq_some_iff.1 hg).1; omega⟩⟩
  · rw [List.getElem?_map] at hy
    obtain ⟨z, hz, rfl⟩ := Option.map_eq_some_iff.1 hy
    exact sKp.more (fun b hb => ⟨hb.1.1, hb.2, hb.1.2⟩) (hr j z hz).1
  · have : t = 0 ∨ t = 1 ∨ t = 2 ∨ t = 3 ∨ t = 4 ∨ t = 5 ∨ t = 6 ∨ t = 7 ∨ t = 8 ∨ t = 9 ∨ t = 10 ∨ t = 11 ∨ t = 12 ∨ t = 13 ∨ t = 14 ∨ t = 15 := by omega
    rcases this with rfl | rfl | rfl | rfl | rfl | rfl | rfl | rfl | rfl | rfl | rfl | rfl | rfl | rfl | rfl | rfl <;> assumption
  · rw [hc]; exact ⟨⟨by unfold lim; omega, by omega, by unfold maxLen; omega⟩, Sl.nil⟩
end Go.Proofs.YtmiaplgfbphfmaaGreatDoor
namespace Go.Proofs.YtmiaplgfbphfmaaGreatDoor
open Go.RowKit
attribute [local irreducible] wpList

set_option maxHeartbeats 1000000 in
theorem ahead_any (w : World) (a b : Hd) : Calls Tryz.prog 99 #[.agg #[.int .i64 a.frm, .int .i64 a.seq, .int .i64 a.to, .int .i64 a.till, .int .i64 a.bytes, .int .i64 a.block], .agg #[.int .i64 b.frm, .int .i64 b.seq, .int .i64 b.to, .int .i64 b.till, .int .i64 b.bytes, .int .i64 b.block]] w fun e w' => e = .returned (.bool (aheadB a b)) ∧ Fr w w' := by
  go_enter Tryz.func99, Tryz.ntmps99
  go_wp2_with fail
  all_goals
    go_ret
    exact ⟨retB (by unfold aheadB; simp [*]), by (repeat' (first | exact Below.refl _ _ | refine below_drewN ?_ _ | refine Below.drew ?_ | refine frA ?_ _))⟩

theorem tookErr_step {l : List Tk} {k : Nat} {t : Tk} (h : l[k]? = some t) : tookErr (l.take k) (l.drop k) = if t.place < 0 ∨ 4 ≤ t.place ∨ t.try_ < 1 ∨ 9999 < t.try_ then 3 else if (l.take k).any (fun o => decide (o = t)) then 6 else tookErr (l.take (k + 1)) (l.drop (k + 1)) := by
  rw [drop_cons h, tookErr, ← take_snoc' h]
set_option maxRecDepth 100000 in
set_option maxHeartbeats 4000000 in
theorem keepShares_any (w : World) (x : Kp) (me : Int) (A : Option Addr) (n c : Nat) (A2 : Option Addr) (n2 c2 : Nat) (A3 : Option Addr) (n3 c3 : Nat) (h : KpR w (LT w.heap.size) A n c A2 n2 c2 A3 n3 c3 x) :
    Calls Tryz.prog 137 #[.agg #[.int .i64 x.h.frm, .int .i64 x.h.seq, .int .i64 x.h.to, .int .i64 x.h.till, .int .i64 x.h.bytes, .int .i64 x.h.block, .bool x.own, .slice A n c, .slice A2 n2 c2, .int .i64 x.shares, .int .i64 x.giving, .int .i64 x.towards, .int .i64 x.try_, .slice A3 n3 c3, .bool x.delivered, .bool x.purged], .int .i64 me] w fun e w' => e = .returned (.int .i64 (sharesCheck x me)) ∧ Fr w w' := by
  have wfx := h.wf
  obtain ⟨_, v1, v2, v3, v4⟩ := wfx
  have v1 := v1.bd
  have v2 := v2.bd
  have hl2 : x.syms.length = n2 := h.syms.2.1
  have hl3 : x.took.length = n3 := h.took.2.1
  have hb3 := h.took.1
  have hn3 : n3 ≤ lim := by omega
  unfold lim at hn3
  have H := Lib.hid h.took
  have E := Lib.hid (sharesCheck.eq_1 x me)
  rw [hl2] at E
  clear h hb3
  (have Hl3 := Lib.hid hl3; clear hl3)
  obtain ⟨tk, htk⟩ : ∃ tk, tk = tookErr [] x.took := ⟨_, rfl⟩
  rw [← htk] at E
  (have Htk := Lib.hid htk; clear htk)
  go_enter Tryz.func137, Tryz.ntmps137
  go_upto_region 1 with fail
  obtain ⟨W1, hW1⟩ : ∃ W1, W1 = w.alloc (.cells #[.int .i64 x.h.frm, .int .i64 x.h.seq, .int .i64 x.h.to, .int .i64 x.h.till, .int .i64 x.h.bytes, .int .i64 x.h.block, .bool x.own, .slice A n c, .slice A2 n2 c2, .int .i64 x.shares, .int .i64 x.giving, .int .i64 x.towards, .int .i64 x.try_, .slice A3 n3 c3, .bool x.delivered, .bool x.purged] 96) := ⟨_, rfl⟩
  obtain ⟨p, hp⟩ : ∃ p, p = w.heap.size := ⟨_, rfl⟩
  have hbx : W1.heap[p]? = some (.cells #[.int .i64 x.h.frm, .int .i64 x.h.seq, .int .i64 x.h.to, .int .i64 x.h.till, .int .i64 x.h.bytes, .int .i64 x.h.block, .bool x.own, .slice A n c, .slice A2 n2 c2, .int .i64 x.shares, .int .i64 x.giving, .int .i64 x.towards, .int .i64 x.try_, .slice A3 n3 c3, .bool x.delivered, .bool x.purged] 96 (0, 0)) := by rw [hW1]; exact heap_new hp
  have HF1 : Hid (Fr w W1) := by rw [hW1]; exact frAlloc _ _
  rw [← hW1, ← hp]
  clear hW1 hp
  (obtain ⟨bx0, bx1, bx2, bx3, bx4, bx5, bx6, bx7, bx8, bx9, bx10, bx11, bx12, bx13, bx14, bx15⟩ := box16_ hbx)
  have HBX := Lib.hid hbx
  clear hbx
  go_cut [44] (fun s44 wx => ∃ B : Bool, s44 = .bool B ∧ Hid (B = true ↔ (x.shares < 0 ∨ 64 < x.shares ∨ x.giving < 0 ∨ 64 < x.giving ∨ x.towards < 0 ∨ 4 ≤ x.towards ∨ x.try_ < 0 ∨ 9999 < x.try_)) ∧ wx = W1)
  case first =>
    clear E
    go_wp2_with fail
    all_goals (try simp only [beq_iff_eq, bne_iff_ne, beq_eq_false_iff_ne, bne_eq_false_iff_eq, ne_eq, Decidable.not_not, Int.natCast_inj, Bool.or_eq_true, Bool.and_eq_true, Bool.or_eq_false_iff, Bool.and_eq_false_iff, Bool.not_eq_true', Bool.not_eq_false', decide_eq_true_eq, decide_eq_false_iff_not, Bool.not_eq_true, Bool.not_eq_false] at *)
    all_goals go_meet
    all_goals exact ⟨_, rfl, by unfold Hid; simp; omega, rfl⟩
  case rest =>
    obtain ⟨B1, rfl, HB1, hwc⟩ := hcut
    rw [hwc]
    clear hwc
    cases B1 with
    | true =>
      have E1 : Hid (sharesCheck x me = 3) := by rw [Hid, E.out, if_pos (HB1.out.1 rfl)]
      clear E
      go_wp2_with fail
      go_ret
      exact ⟨retI E1.out.symm, HF1.out⟩
    | false =>
      have HN1 : Hid (¬ (x.shares < 0 ∨ 64 < x.shares ∨ x.giving < 0 ∨ 64 < x.giving ∨ x.towards < 0 ∨ 4 ≤ x.towards ∨ x.try_ < 0 ∨ 9999 < x.try_)) := fun e => absurd (HB1.out.2 e) (by simp)
      have E1 := Lib.hid (E.out.trans (if_neg HN1.out))
      clear E HB1
      go_upto_region 3 with fail
      go_cut [68] (fun s68 wx => ∃ B : Bool, s68 = .bool B ∧ Hid (B = true ↔ ((x.giving = 0 ∧ x.towards ≠ 0) ∨ (0 < x.giving ∧ (x.towards = me ∨ x.try_ = 0)))) ∧ wx = W1)
      case first =>
        clear E1
        go_wp2_with fail
        all_goals (try simp only [beq_iff_eq, bne_iff_ne, beq_eq_false_iff_ne, bne_eq_false_iff_eq, ne_eq, Decidable.not_not, Int.natCast_inj, Bool.or_eq_true, Bool.and_eq_true, Bool.or_eq_false_iff, Bool.and_eq_false_iff, Bool.not_eq_true', Bool.not_eq_false', decide_eq_true_eq, decide_eq_false_iff_not, Bool.not_eq_true, Bool.not_eq_false] at *)
        all_goals go_meet
        all_goals exact ⟨_, rfl, by unfold Hid; simp; omega, rfl⟩
      case rest =>
        obtain ⟨B2, rfl, HB2, hwc⟩ := hcut
        rw [hwc]
        clear hwc
        cases B2 with
        | true =>
          have E2 : Hid (sharesCheck x me = 4) := by rw [Hid, E1.out, if_pos (HB2.out.1 rfl)]
          clear E1
          go_wp2_with fail
          go_ret
          exact ⟨retI E2.out.symm, HF1.out⟩
        | false =>
          have E2 := Lib.hid (E1.out.trans (if_neg (fun e => absurd (HB2.out.2 e) (by simp))))
          clear E1 HB2
          go_wp2_with fail
          clear bx0 bx1 bx2 bx3 bx4 bx5 bx6 bx7 bx8 bx9 bx10 bx11 bx12 bx13 bx14 bx15
          go_loopw [72] (fun i wr => ∃ k : Nat, k ≤ n3 ∧ i = .int .i64 k ∧ Hid (tk = tookErr (x.took.take k) (x.took.drop k)) ∧ Hid (Fr W1 wr)) (fun i _ => n3 - (intOf i).toNat)
          case atStart => exact ⟨0, Nat.zero_le _, rfl, Htk.out, Below.refl _ _⟩
          case round =>
            obtain ⟨k, hk, rfl, HS, HF⟩ := hrel
            have hbw := blk_go HBX.out HF.out
            (obtain ⟨bx0, bx1, bx2, bx3, bx4, bx5, bx6, bx7, bx8, bx9, bx10, bx11, bx12, bx13, bx14, bx15⟩ := box16_ hbw)
            clear hbw
            by_cases hlt : k < n3
            · have HT := Lib.hid (H.out.2.go sTk (HF1.out.trans HF.out))
              obtain ⟨ad, rfl, hE⟩ := HT.out.els (by omega)
              obtain ⟨t, ht, hr⟩ := hE.row hlt
              obtain ⟨⟨m0, m1⟩, _⟩ := eTk_at hr
              have HS2 : Hid (tk = if t.place < 0 ∨ 4 ≤ t.place ∨ t.try_ < 1 ∨ 9999 < t.try_ then 3 else if (x.took.take k).any (fun o => decide (o = t)) then 6 else tookErr (x.took.take (k + 1)) (x.took.drop (k + 1))) := by rw [Hid, HS.out]; exact tookErr_step ht
              clear HS hE ht hr
              have HP := Lib.hid (HT.out.pre (Nat.le_of_lt hlt))
              have hkc : k ≤ c3 := by have := H.out.1; omega
              go_upto_region 10 with fail
              all_goals (try simp only [beq_iff_eq, bne_iff_ne, beq_eq_false_iff_ne, bne_eq_false_iff_eq, ne_eq, Decidable.not_not, Int.natCast_inj, Bool.or_eq_true, Bool.and_eq_true, Bool.or_eq_false_iff, Bool.and_eq_false_iff, Bool.not_eq_true', Bool.not_eq_false', decide_eq_true_eq, decide_eq_false_iff_not, Bool.not_eq_true, Bool.not_eq_false] at *)
              all_goals first
                | (go_wp2_with fail; go_ret; exact ⟨retI (by rw [E2.out, HS2.out]; (repeat' split) <;> first | rfl | omega), by (repeat' (first | exact Below.refl _ _ | refine below_drewN ?_ _ | refine Below.drew ?_ | refine frA ?_ _ | refine Fr.trans ?_ HF.out | refine Fr.trans ?_ HF1.out))⟩)
                | skip
              have HS3 : Hid (tk = if (x.took.take k).any (fun o => decide (o = t)) then 6 else tookErr (x.took.take (k + 1)) (x.took.drop (k + 1))) := by rw [Hid, HS2.out, if_neg (by omega)]
              obtain ⟨q, hq⟩ : ∃ q, q = (x.took.take k).any (fun o => decide (o = t)) := ⟨_, rfl⟩
              rw [← hq] at HS3
              have CT : Hid (∀ W, Fr wr W → Calls Tryz.prog 96 #[.slice (some ad) k c3, .agg #[.int .i64 t.place, .int .i64 t.try_]] W fun e w' => e = .returned (.bool q) ∧ Fr W w') := fun W hf => by
                rw [hq]; exact containsTk_any W _ _ _ _ t (HP.out.go sTk hf) (by unfold maxLen; omega)
              obtain ⟨W5, hW5⟩ : ∃ W5, W5 = wr.alloc (.cells #[.int .i64 t.place, .int .i64 t.try_] 131) := ⟨_, rfl⟩
              obtain ⟨q5, hq5⟩ : ∃ q5, q5 = wr.heap.size := ⟨_, rfl⟩
              have HQ5 : Hid (W5.drew.heap[q5]? = some (.cells #[.int .i64 t.place, .int .i64 t.try_] 131 (0, 0))) := by rw [hW5]; exact heap_new hq5
              have hF5 : Fr wr W5 := by rw [hW5]; exact frAlloc _ _
              have HX5 := Lib.hid (blk_go (blk_go HBX.out HF.out) hF5.drew)
              have HG5 : Hid (Fr W5 W5.drew) := (Below.refl _ _).drew
              have HF5 := Lib.hid hF5
              rw [← hW5, ← hq5]
              clear hq HS2 HP HT hW5 hq5 hF5 bx0 bx1 bx2 bx3 bx4 bx5 bx6 bx7 bx8 bx9 bx10 bx11 bx12 bx13 bx14 bx15 m0 m1 v1 v2 v3 v4
              go_region_held3 (fun w' => w'.cell? ⟨p, 13, none⟩ = some (.slice (some ad) n3 c3) ∧ w'.cell? ⟨q5, 0, none⟩ = some (.int .i64 t.place) ∧ w'.cell? ⟨q5, 1, none⟩ = some (.int .i64 t.try_)) (first | exact ⟨cell_of_heap HX5.out, cell_of_heap HQ5.out, cell_of_heap HQ5.out⟩ | go_keep)
                (first
                  | (go_at_call 96; (with_reducible refine (CT.out _ (HF5.out.trans HG5.out)).mono ?_); rintro e w5 ⟨rfl, hf5⟩; have HG5 := Lib.hid (HG5.out.trans hf5); have HX5 := Lib.hid (blk_go HX5.out hf5); have HQ5 := Lib.hid (blk_go HQ5.out hf5); clear hf5)
                  | fail)
              all_goals
                cases q with
                | true =>
                  have HS4 : Hid (tk = 6) := by rw [Hid, HS3.out, if_pos rfl]
                  clear HS3
                  go_wp2_with fail
                  go_ret
                  exact ⟨retI (by rw [E2.out, HS4.out]; (repeat' split) <;> first | rfl | omega), ((HF1.out.trans HF.out).trans HF5.out).trans HG5.out⟩
                | false =>
                  have HS4 : Hid (tk = tookErr (x.took.take (k + 1)) (x.took.drop (k + 1))) := by rw [Hid, HS3.out, if_neg (by simp)]
                  clear HS3
                  go_wp2_with fail
                  go_roundw
                  case rel => exact ⟨k + 1, by omega, by go_num, HS4, (HF.out.trans HF5.out).trans HG5.out⟩
                  case measure => simp [intOf]; omega
            · have HE : Hid (tk = 0) := by
                rw [Hid, HS.out, List.drop_eq_nil_of_le (by have := Hl3.out; omega)]; rfl
              have E3 := Lib.hid (E2.out.trans (if_neg (fun e => e HE.out)))
              have hs1 : -9223372036854775808 ≤ x.shares + x.giving ∧ x.shares + x.giving ≤ 9223372036854775807 := by have := HN1.out; omega
              obtain ⟨bd, hbd⟩ : ∃ b, b = x.delivered := ⟨_, rfl⟩
              obtain ⟨bq, hbq⟩ : ∃ b, b = x.purged := ⟨_, rfl⟩
              rw [← hbd] at bx14 E3
              rw [← hbq] at bx15 E3
              clear E2 HS v1 v2 v3 v4 hbd hbq
              go_upto_region 13 with fail
              go_cut [136] (fun s136 wx => ∃ B : Bool, s136 = .bool B ∧ Hid (B = true ↔ ((bd = true ∧ (x.h.to ≠ me ∨ bq = true)) ∨ ((bd = true ∨ bq = true) ∧ (0 < n2 ∨ 0 < x.shares + x.giving)))) ∧ wx = wr)
              case first =>
                clear E3
                obtain ⟨b7, t7⟩ : ∃ b, (x.h.to != me) = b := ⟨_, rfl⟩
                obtain ⟨b8, t8⟩ : ∃ b, decide (0 < n2) = b := ⟨_, rfl⟩
                obtain ⟨b9, t9⟩ : ∃ b, decide (0 < x.shares + x.giving) = b := ⟨_, rfl⟩
                have t8' : decide ((0 : Int) < (n2 : Int)) = b8 := by rw [← t8]; simp
                have TT : Hid ((x.h.to ≠ me ↔ b7 = true) ∧ (0 < n2 ↔ b8 = true) ∧ (0 < x.shares + x.giving ↔ b9 = true)) := by rw [← t7, ← t8, ← t9]; simp [Hid]
                clear_value *
                go_wp2_with fail
                all_goals go_meet
                all_goals exact ⟨_, rfl, by rw [Hid, TT.out.1, TT.out.2.1, TT.out.2.2]; first | (simp; done) | (simp [*]; done), rfl⟩
              case rest =>
                obtain ⟨B3, rfl, HB3, hwc⟩ := hcut
                rw [hwc]
                clear hwc
                cases B3 with
                | true =>
                  have E4 := Lib.hid (E3.out.trans (if_pos (HB3.out.1 rfl)))
                  clear E3
                  go_wp2_with fail
                  go_ret
                  exact ⟨retI E4.out.symm, HF1.out.trans HF.out⟩
                | false =>
                  have E4 := Lib.hid (E3.out.trans (if_neg (fun e => absurd (HB3.out.2 e) (by simp))))
                  clear E3
                  go_wp2_with fail
                  go_ret
                  exact ⟨retI E4.out.symm, HF1.out.trans HF.out⟩
end Go.Proofs.YtmiaplgfbphfmaaGreatDoor
namespace Go.Proofs.YtmiaplgfbphfmaaGreatDoor
open Go.RowKit
attribute [local irreducible] wpList

set_option maxHeartbeats 1000000 in
theorem over_any (w : World) (T : Nat → Prop) (base g cap : Nat) (xs : List Kp) (i : Nat) (x : Kp) (A : Option Addr) (n c : Nat) (A2 : Option Addr) (n2 c2 : Nat) (vT : Value) (h : Foc T w base g cap xs i x A n c (.slice A2 n2 c2) vT) :
    Calls Tryz.prog 113 #[.pointer (some ⟨g, i * 16, none⟩)] w fun e w' => e = .returned (.tuple #[]) ∧ Chg (fun b => b = g) w w' ∧ Foc T w' base g cap xs i x.over A n c (.slice none 0 0) vT := by
  obtain ⟨m0, m1, m2, m3, m4, m5, m6, m7, m8, m9, m10, m11, m12, m13, m14, m15⟩ := h.cells
  have gf : ∀ o, w.frozen? ⟨g, o, none⟩ = false := h.free
  have hgl := h.gl
  have key : Hid (Chg (fun b => b = g) w ((((w.setCell ⟨g, i * 16 + 8, none⟩ (.slice none 0 0)).setCell ⟨g, i * 16 + 9, none⟩ (.int .i64 0)).setCell ⟨g, i * 16 + 10, none⟩ (.int .i64 0)).setCell ⟨g, i * 16 + 11, none⟩ (.int .i64 0)) ∧
      Foc T ((((w.setCell ⟨g, i * 16 + 8, none⟩ (.slice none 0 0)).setCell ⟨g, i * 16 + 9, none⟩ (.int .i64 0)).setCell ⟨g, i * 16 + 10, none⟩ (.int .i64 0)).setCell ⟨g, i * 16 + 11, none⟩ (.int .i64 0)) base g cap xs i x.over A n c (.slice none 0 0) vT) := by
    refine ⟨Chg.set (S := fun b => b = g) (p := ⟨g, i * 16 + 11, none⟩) (Chg.set (S := fun b => b = g) (p := ⟨g, i * 16 + 10, none⟩) (Chg.set (S := fun b => b = g) (p := ⟨g, i * 16 + 9, none⟩) (Chg.set (S := fun b => b = g) (p := ⟨g, i * 16 + 8, none⟩) (Chg.refl _ _) rfl _) rfl _) rfl _) rfl _, ?_⟩
    have w0 : wfI 0 := wfI.mk (by decide)
    obtain ⟨q1, q2, q3, q4, q5⟩ := h.wf
    have h1 : Foc T (w.setCell ⟨g, i * 16 + 8, none⟩ (.slice none 0 0)) base g cap xs i { x with syms := [] } A n c (.slice none 0 0) vT := h.set (t := 8) (by decide) rfl ⟨q1, q2, q3, q4, q5⟩ h.cargo Own.nil h.took (by simp) h.l2
    have h2 : Foc T ((w.setCell ⟨g, i * 16 + 8, none⟩ (.slice none 0 0)).setCell ⟨g, i * 16 + 9, none⟩ (.int .i64 0)) base g cap xs i { x with syms := [], shares := 0 } A n c (.slice none 0 0) vT := h1.set (t := 9) (by decide) rfl ⟨q1, w0, q3, q4, q5⟩ h1.cargo h1.syms h1.took h1.l1 h1.l2
    have h3 := h2.set (x' := { x with syms := [], shares := 0, giving := 0 }) (A' := A) (n' := n) (c' := c) (vS' := .slice none 0 0) (vT' := vT) (t := 10) (u := .int .i64 0) (by decide) rfl ⟨q1, w0, w0, q4, q5⟩ h2.cargo h2.syms h2.took h2.l1 h2.l2
    exact h3.set (x' := x.over) (A' := A) (n' := n) (c' := c) (vS' := .slice none 0 0) (vT' := vT) (t := 11) (u := .int .i64 0) (by decide) rfl ⟨q1, w0, w0, w0, q5⟩ h3.cargo h3.syms h3.took h3.l1 h3.l2
  clear h
  go_enter Tryz.func113, Tryz.ntmps113
  go_wp2_with fail
  go_end0
  exact ⟨rfl, key.out⟩

theorem Chg.tr2 {S T : Nat → Prop} {a b c : World} (h : Chg S a b) (k : Chg T b c) (hs : ∀ x, T x → S x ∨ a.heap.size ≤ x) : Chg S a c :=
  ⟨k.os.trans h.os, k.tape.trans h.tape, k.output.trans h.output, Nat.le_trans h.size k.size, fun x hx hn => (k.block x (Nat.lt_of_lt_of_le hx h.size) fun e => by
    rcases hs x e with q | q
    · exact hn q
    · omega).trans (h.block x hx hn)⟩
end Go.Proofs.YtmiaplgfbphfmaaGreatDoor
namespace Go.Proofs.YtmiaplgfbphfmaaGreatDoor
open Go.RowKit

theorem hq1 {α : Type} {l : List α} {i : Nat} {a : α} : l.toArray.setIfInBounds i a = (l.set i a).toArray := List.setIfInBounds_toArray ..
theorem hq2 {α : Type} {a b : α} {l : List α} : (a :: l).set 0 b = b :: l := rfl
theorem hq3 {α : Type} {a b : α} {l : List α} {i : Nat} : (a :: l).set (i + 1) b = a :: l.set i b := rfl

section
variable {P : Program} {ops : Array Oper} {Q : Exit → Act → World → Prop} {md : Region.Mode} {S : World → Prop}
theorem held_at {i : Nat} {oi : Oper} {rest : List Oper} (hd : ops.toList.drop i = oi :: rest) : ops[i]? = some oi := by
  rw [← Array.getElem?_toList, ← List.head?_drop, hd]; rfl
/-- The beginning, the marks written out. -/
theorem held_begin {id n : Nat} {bs : Array Bool} {a : Act} {w : World} (hn : ops.size = n) (hb : Array.replicate n false = bs) (hm : P.follows .mixedOrders = true) (hS : S w.drew)
    (h : S w.drew → wpAnyH P .any ops Q S n bs a w.drew) : (Code.region id ops true).wp P Q a w := by
  subst hn hb
  exact wp_region_held_drew hm hS h
/-- One that yields its value where S holds. -/
theorem held_take {i : Nat} {oi : Oper} {rest : List Oper} {v : Value} {fuel : Nat} {listed l' : Array Bool} {a a' : Act} {w : World} (hd : ops.toList.drop i = oi :: rest)
    (hs : Region.noSelect ops = true) (hf : Region.free md ops listed i = true) (hr : (Region.ready md ops listed).contains i = true)
    (hQ : ∀ c a w, Q (.panic c) (a.put oi.dst v) w → Q (.panic c) a w) (hw : Region.wanted oi (yielded ops a.tmps) = true) (hv : ∀ w, S w → (execOp a.eval oi).run P w = .ok (.value v) w) (hS : S w)
    (ha : a.put oi.dst v = a') (hl : listed.setIfInBounds i true = l') (h : wpAnyH P md ops Q S fuel l' a' w) : wpAnyH P md ops Q S (fuel + 1) listed a w := by
  subst ha hl
  exact wpAnyH_take (held_at hd) hs hf hr hQ (.inl ⟨hw, hv⟩) hS h
/-- One that isn't wanted. -/
theorem held_skip {i : Nat} {oi : Oper} {rest : List Oper} {fuel : Nat} {listed l' : Array Bool} {a a' : Act} {w : World} (hd : ops.toList.drop i = oi :: rest)
    (hs : Region.noSelect ops = true) (hf : Region.free md ops listed i = true) (hr : (Region.ready md ops listed).contains i = true)
    (hQ : ∀ c a w, Q (.panic c) (a.put oi.dst undef) w → Q (.panic c) a w) (hw : Region.wanted oi (yielded ops a.tmps) = false) (hS : S w)
    (ha : a.put oi.dst undef = a') (hl : listed.setIfInBounds i true = l') (h : wpAnyH P md ops Q S fuel l' a' w) : wpAnyH P md ops Q S (fuel + 1) listed a w := by
  subst ha hl
  exact wpAnyH_take (held_at hd) hs hf hr hQ (.inr ⟨hw, rfl⟩) hS h
/-- The same, what is reckoned left to Lean. -/
theorem held_tk {i : Nat} {oi : Oper} {rest : List Oper} {v : Value} {fuel : Nat} {listed l' : Array Bool} {a a' : Act} {w : World} (h : wpAnyH P md ops Q S fuel l' a' w) (hd : ops.toList.drop i = oi :: rest := by rfl)
    (hs : Region.noSelect ops = true := by kernel_rfl) (hf : Region.free md ops listed i = true := by kernel_rfl) (hr : (Region.ready md ops listed).contains i = true := by kernel_rfl)
    (hQ : ∀ c a w, Q (.panic c) (a.put oi.dst v) w → Q (.panic c) a w := by exact fun _ _ _ h => h) (hw : Region.wanted oi (yielded ops a.tmps) = true := by rfl) (hv : ∀ w, S w → (execOp a.eval oi).run P w = .ok (.value v) w := by (intro w hSw; (try dsimp only at hSw); go_simp; (try with_reducible rfl))) (hS : S w := by assumption)
    (ha : a.put oi.dst v = a' := by ((simp only [Act.put, hq1, hq2, hq3, Option.isNone, Bool.not_true, Bool.not_false]); (try with_reducible rfl))) (hl : listed.setIfInBounds i true = l' := by ((simp only [Act.put, hq1, hq2, hq3, Option.isNone, Bool.not_true, Bool.not_false]); (try with_reducible rfl))) : wpAnyH P md ops Q S (fuel + 1) listed a w :=
  held_take hd hs hf hr hQ hw hv hS ha hl h
theorem held_sk {i : Nat} {oi : Oper} {rest : List Oper} {fuel : Nat} {listed l' : Array Bool} {a a' : Act} {w : World} (h : wpAnyH P md ops Q S fuel l' a' w) (hd : ops.toList.drop i = oi :: rest := by rfl)
    (hs : Region.noSelect ops = true := by kernel_rfl) (hf : Region.free md ops listed i = true := by kernel_rfl) (hr : (Region.ready md ops listed).contains i = true := by kernel_rfl)
    (hQ : ∀ c a w, Q (.panic c) (a.put oi.dst undef) w → Q (.panic c) a w := by exact fun _ _ _ h => h) (hw : Region.wanted oi (yielded ops a.tmps) = false := by rfl) (hS : S w := by assumption)
    (ha : a.put oi.dst undef = a' := by ((simp only [Act.put, hq1, hq2, hq3, Option.isNone, Bool.not_true, Bool.not_false]); (try with_reducible rfl))) (hl : listed.setIfInBounds i true = l' := by ((simp only [Act.put, hq1, hq2, hq3, Option.isNone, Bool.not_true, Bool.not_false]); (try with_reducible rfl))) : wpAnyH P md ops Q S (fuel + 1) listed a w :=
  held_skip hd hs hf hr hQ hw hS ha hl h
/-- One that comes up alone. -/
theorem held_one {i : Nat} {oi : Oper} {rest : List Oper} {fuel : Nat} {listed : Array Bool} {a : Act} {w : World} (hd : ops.toList.drop i = oi :: rest) (hr : Region.ready md ops listed = [i])
    (h : ∀ K' : Act → World → Prop, Shut (∀ a w, S w → (S w → wpAnyH P md ops Q S fuel (listed.setIfInBounds i true) a w) → K' a w) → if Region.wanted oi (yielded ops a.tmps) = true then Oper.wp P oi a w K' Q else K' (a.put oi.dst undef) w) : wpAnyH P md ops Q S (fuel + 1) listed a w :=
  wpAnyH_ready hr (by simp) (AllReadyH.cons (held_at hd) h AllReadyH.nil)
/-- Back into the region behind a call. -/
theorem held_back {fuel : Nat} {l l' : Array Bool} {a a' : Act} {w : World} {K' : Act → World → Prop} (hK : Shut (∀ a w, S w → (S w → wpAnyH P md ops Q S fuel l a w) → K' a w)) (ha : a = a') (hl : l = l') (hS : S w) (h : S w → wpAnyH P md ops Q S fuel l' a' w) : K' a w := by
  subst ha hl
  exact hK.out a w hS h
end
end Go.Proofs.YtmiaplgfbphfmaaGreatDoor
namespace Go.Proofs.YtmiaplgfbphfmaaGreatDoor
open Go.RowKit
attribute [local irreducible] wpList

/-- A place that one has in hand: its block, its bundles in memory of the call's own. -/
structure PlM (w : World) (base pb : Nat) (p : Pc) (A : Option Addr) (c : Nat) : Prop where
  blk : w.heap[pb]? = some (.cells #[.int .i64 p.me, .slice A p.keep.length c, .int .i64 p.time, .int .i64 p.seq] 25 (0, 0))
  low : pb < base
  own : Own 16 (eHi base eKp) w base 96 (.slice A p.keep.length c) p.keep
theorem PlM.fr {w w' : World} {base pb : Nat} {p : Pc} {A : Option Addr} {c : Nat} (h : PlM w base pb p A c) (k : Fr w w') : PlM w' base pb p A c := ⟨blk_go h.blk k, h.low, h.own.fr (sKp.hi base) k⟩
theorem Chg.below {S : Nat → Prop} {a b : World} {B : Nat} (h : Chg S a b) (hs : ∀ x, S x → B ≤ x) (hB : B ≤ a.heap.size) : Below B a b :=
  ⟨h.os, h.tape, h.output, h.size, fun k hk => h.block k (Nat.lt_of_lt_of_le hk hB) fun e => by have := hs k e; omega⟩
/-- What may be changed of a place of one's own. -/
def PlS (base pb b : Nat) : Prop := b = pb ∨ base ≤ b
set_option maxRecDepth 100000 in
set_option maxHeartbeats 8000000 in
theorem tick_any (w : World) (base pb : Nat) (p : Pc) (A : Option Addr) (c : Nat) (h : PlM w base pb p A c) (h12 : p.keep.length ≤ 12) (t : Int) (hb : base ≤ w.heap.size) :
    Calls Tryz.prog 109 #[.pointer (some ⟨pb, 0, none⟩), .int .i64 t] w fun e w' => e = .returned (.int .i64 (tickF p t).2) ∧ Chg (PlS base pb) w w' ∧ ∃ A' c', PlM w' base pb (tickF p t).1 A' c' := by
  have E := Lib.hid (tickF.eq_1 p t)
  have hbb := h.blk
  have hpb := h.low
  have H := Lib.hid h
  have hpl := (Array.getElem?_eq_some_iff.1 hbb).1
  go_enter Tryz.func109, Tryz.ntmps109
  go_upto_region 1 with fail
  obtain ⟨W1, hW1⟩ : ∃ W1, W1 = w.alloc (.cells #[.int .i64 t] 3) := ⟨_, rfl⟩
  obtain ⟨q, hq⟩ : ∃ q, q = w.heap.size := ⟨_, rfl⟩
  have HQ : Hid (W1.heap[q]? = some (.cells #[.int .i64 t] 3 (0, 0))) := by rw [hW1]; exact heap_new hq
  have HF1 : Hid (Fr w W1) := by rw [hW1]; exact frAlloc _ _
  rw [← hW1, ← hq]
  have HQW : Hid (q = w.heap.size) := hq
  clear hW1 hq h hbb
  have hbx := blk_go H.out.blk HF1.out
  have hqx := HQ.out
  (obtain ⟨bx0, bx1, bx2, bx3⟩ := box4_ hbx)
  have k0 := cell_of_heap (i := 0) hqx
  clear hqx
  by_cases h1 : t ≤ p.time
  · have E1 := Lib.hid (E.out.trans (if_pos h1))
    have t1 : decide (t ≤ p.time) = true := by simp [h1]
    clear E h1
    go_quiet (fail)
    go_wp2_with fail
    go_ret
    rw [E1.out]
    have hF : Fr w (W1.drewN nq) := by (repeat' (first | exact Below.refl _ _ | refine below_drewN ?_ _ | refine Below.drew ?_ | refine frA ?_ _ | refine Fr.trans ?_ HF1.out))
    exact ⟨rfl, hF.chg, _, _, H.out.fr hF⟩
  · have E1 := Lib.hid (E.out.trans (if_neg h1))
    have t1 : decide (t ≤ p.time) = false := by simp; omega
    have hfe : filt t p.keep = p.keep.filter fun k => decide (t < k.h.till) := by
      unfold filt
      congr 1
      funext k
      by_cases hk : k.h.till ≤ t
      · simp [hk]
      · simp [hk]; omega
    clear E h1
    go_quiet (fail)
    go_upto_region 3 with fail
    obtain ⟨W2, hW2⟩ : ∃ W2, W2 = W1.drewN nq := ⟨_, rfl⟩
    have HF12 : Hid (Fr W1 W2) := by rw [hW2]; exact below_drewN (Below.refl _ _) _
    rw [← hW2]
    have HF2 : Hid (Fr w W2) := HF1.out.trans HF12.out
    clear hW2 bx0 bx1 bx2 bx3 k0
    have H2 := H.out.fr HF2.out
    have HQ2 := blk_go HQ.out HF12.out
    have hbx := H2.blk
    (obtain ⟨bx0, bx1, bx2, bx3⟩ := box4_ hbx)
    have k0 := cell_of_heap (i := 0) HQ2
    have y2 := blk_free (i := 2) hbx
    have hpl2 := (Array.getElem?_eq_some_iff.1 hbx).1
    obtain ⟨W3, hW3⟩ : ∃ W3, W3 = W2.setCell ⟨pb, 2, none⟩ (.int .i64 t) := ⟨_, rfl⟩
    have hC3 : Chg (fun b => b = pb) W2 W3 := by rw [hW3]; exact Chg.set (S := fun b => b = pb) (p := ⟨pb, 2, none⟩) (Chg.refl _ _) rfl _
    have hpq : q ≠ pb := by have := HQW.out; omega
    have hb3 : W3.heap[pb]? = some (.cells #[.int .i64 p.me, .slice A p.keep.length c, .int .i64 t, .int .i64 p.seq] 25 (0, 0)) := by rw [hW3]; have := heap_setCell_same W2 pb 2 _ _ (.int .i64 t) hbx; simpa using this
    have HQ3 := Lib.hid (hC3.blk HQ2 hpq)
    have HO3 := Lib.hid (H2.own.hiChg sKp hC3 (fun b hb => by rw [hb]; exact hpb))
    have HB3 := Lib.hid hb3
    have HW3 := Lib.hid hW3
    have HC3 := Lib.hid hC3
    clear hbx H2 HQ2 hb3 hW3 hC3
    go_wp2_with fail
    rw [← HW3.out]
    clear HW3 k0 bx0 bx1 bx2 bx3 y2 hpl2
    (with_reducible refine (deleteFunc_own W3 base _ p.keep t q HO3.out h12 (cell_of_heap HQ3.out) (fun e => by have := (H.out.own.ge e).2; have := HQW.out; omega)).mono ?_)
    rintro e w4 ⟨v4, rfl, ho4, hc4⟩
    obtain ⟨A4, n4, c4, rfl⟩ := own_isSl ho4
    obtain rfl : n4 = (filt t p.keep).length := ho4.len _ _ _ rfl
    have hno : ∀ b, (Value.slice A p.keep.length c).ownBlock = some b → base ≤ b := fun b hb => (HO3.out.ge hb).1
    have hb4 := hc4.blk HB3.out (fun e => by have := hno _ e; omega)
    have hpl4 := (Array.getElem?_eq_some_iff.1 hb4).1
    (obtain ⟨bx0, bx1, bx2, bx3⟩ := box4_ hb4)
    have y1 := blk_free (i := 1) hb4
    have hk5 : Chg (fun b => b = pb) w4 (w4.setCell ⟨pb, 1, none⟩ (.slice A4 (filt t p.keep).length c4)) := Chg.set (S := fun b => b = pb) (p := ⟨pb, 1, none⟩) (Chg.refl _ _) rfl _
    have HC5 : Hid (Chg (PlS base pb) w (w4.setCell ⟨pb, 1, none⟩ (.slice A4 (filt t p.keep).length c4))) := by
      have q1 : Chg (PlS base pb) w W2 := HF2.out.chg
      have q2 : Chg (PlS base pb) W2 W3 := HC3.out.more fun b hb => .inl hb
      have q3 : Chg (PlS base pb) W3 w4 := hc4.more fun b hb => .inr (hno b hb)
      exact ((q1.trans q2).trans q3).trans (hk5.more fun b hb => .inl hb)
    have HP5 : Hid (PlM (w4.setCell ⟨pb, 1, none⟩ (.slice A4 (filt t p.keep).length c4)) base pb { p with time := t, keep := filt t p.keep } A4 c4) := by
      refine ⟨?_, hpb, ho4.hiChg sKp hk5 fun b hb => by rw [hb]; exact hpb⟩
      have := heap_setCell_same w4 pb 1 _ _ (.slice A4 (filt t p.keep).length c4) hb4
      simpa using this
    clear hk5 ho4 hc4 hb4
    go_wp2_with fail
    go_ret
    rw [E1.out, ← hfe]
    exact ⟨rfl, HC5.out, _, _, HP5.out⟩
end Go.Proofs.YtmiaplgfbphfmaaGreatDoor
namespace Go.Proofs.YtmiaplgfbphfmaaGreatDoor
open Go.RowKit

section
variable {P : Program} {ops : Array Oper} {Q : Exit → Act → World → Prop} {md : Region.Mode} {S : World → Prop} {L : Nat}
/-- Whatever order comes; S holds behind each operation but number L. -/
def WL (P : Program) (md : Region.Mode) (ops : Array Oper) (Q : Exit → Act → World → Prop) (S : World → Prop) (L : Nat) : Nat → Array Bool → Act → World → Prop
  | 0, l, a, w => Region.ready md ops l = [] ∧ Q .normal a w
  | n + 1, l, a, w => (Region.ready md ops l = [] → Q .normal a w) ∧ ∀ i, i ∈ Region.ready md ops l → wpOp P ops Q i (fun a' w' => (i = L ∨ S w') ∧ WL P md ops Q S L n (l.setIfInBounds i true) a' w') a w
theorem WL.any : ∀ (n : Nat) (l : Array Bool) (a : Act) (w : World), WL P md ops Q S L n l a w → wpAny P md ops Q n l a w
  | 0, _, _, _, h => h
  | n + 1, _, _, _, h => ⟨h.1, fun i hi => wpOp_mono (fun a' w' k => WL.any n _ a' w' k.2) (h.2 i hi)⟩
/-- Does operation L wait for operation i? -/
def waitsFor (md : Region.Mode) (ops : Array Oper) (L i : Nat) : Bool := match ops[L]? with
  | some o => o.after.any fun e => Region.binds md e && e.on == i
  | none => false
theorem waitsFor_spec {i : Nat} (h : waitsFor md ops L i = true) {o : Oper} (ho : ops[L]? = some o) (hn : ∀ e ∈ o.after, Region.binds md e = true → e.on ≠ i) : False := by
  unfold waitsFor at h
  rw [ho] at h
  simp only [Array.any_eq_true] at h
  obtain ⟨k, hk, he⟩ := h
  rw [Bool.and_eq_true] at he
  exact hn _ (Array.getElem_mem hk) he.1 (by simpa using he.2)
theorem WL.first {i : Nat} {oi : Oper} {v : Value} (hi : ops[i]? = some oi) (hsel : ∀ (j : Nat) (o : Oper) cs b, ops[j]? = some o → o.op ≠ .select cs b) (hQ : ∀ c a w, Q (.panic c) (a.put oi.dst v) w → Q (.panic c) a w) (hL : waitsFor md ops L i = true) :
    ∀ (n : Nat) (l : Array Bool) (a : Act) (w : World), (∀ j oj, ops[j]? = some oj → j ≠ i → l.getD j true = false → (∀ e ∈ oj.after, Region.binds md e = true → e.on ≠ i) → oi.apart ops oj = true) →
      i ∈ Region.ready md ops l → YieldsIf P ops S oi v a → S w → WL P md ops Q S L n (l.setIfInBounds i true) (a.put oi.dst v) w → WL P md ops Q S L (n + 1) l a w := by
  intro n
  induction n with
  | zero =>
    intro l a w _ hr hy hS H
    refine ⟨fun h => by rw [h] at hr; exact absurd hr (by simp), fun j hj => ?_⟩
    rcases Nat.decEq j i with hji | hji
    · have hm := ready_mono hj hji
      rw [H.1] at hm
      exact absurd hm (by simp)
    · subst hji; exact hy.wpOp hi hS ⟨.inr hS, H⟩
  | succ n ih =>
    intro l a w hfree hr hy hS H
    refine ⟨fun h => by rw [h] at hr; exact absurd hr (by simp), fun j hj => ?_⟩
    rcases Nat.decEq j i with hji | hji
    · obtain ⟨hun, oj, hoj, hall⟩ := mem_ready.1 hj
      have hunI := (mem_ready.1 hr).1
      have hno : ∀ e ∈ oj.after, Region.binds md e = true → e.on ≠ i := fun e he hb e1 => by
        have k1 := hall e he hb
        rw [e1] at k1
        by_cases hs : i < l.size
        · simp [hs] at k1 hunI
          rw [hunI] at k1
          cases k1
        · simp [Array.getElem?_eq_none (by omega : l.size ≤ i)] at k1
      have hjL : j ≠ L := fun e => by subst e; exact waitsFor_spec hL hoj hno
      have h1 := wpOp_putIf hoj (hfree j oj hoj hji hun hno) (fun cs b => hsel i oi cs b hi) (fun cs b => hsel j oj cs b hoj) hQ hy (H.2 j (ready_mono hj hji))
      refine wpOp_mono (fun a' w' h3 => ?_) h1
      obtain ⟨hy', hS', hW'⟩ := h3
      have hS2 : S w' := hS'.resolve_left hjL
      refine ⟨.inr hS2, ih _ a' w' (fun k ok hk hki hun2 hn2 => hfree k ok hk hki ?_ hn2) (ready_mono hr (fun e => hji e.symm)) hy' hS2 ?_⟩
      · by_cases hjk : j = k
        · rw [← hjk]; exact hun
        · rw [getD_set_ne true hjk] at hun2; exact hun2
      · rw [Array.setIfInBounds_comm _ _ hji]; exact hW'
    · subst hji; exact hy.wpOp hi hS ⟨.inr hS, H⟩
/-- The beginning. -/
theorem last_begin (L : Nat) {id n : Nat} {bs : Array Bool} {a : Act} {w : World} (hn : ops.size = n) (hb : Array.replicate n false = bs) (hm : P.follows .mixedOrders = true) (hS : S w.drew) (h : S w.drew → WL P .any ops Q S L n bs a w.drew) : (Code.region id ops true).wp P Q a w := by
  subst hn hb
  exact wp_region_any hm (WL.any _ _ _ _ (h hS))
theorem last_take {i : Nat} {oi : Oper} {rest : List Oper} {v : Value} {fuel : Nat} {listed l' : Array Bool} {a a' : Act} {w : World} (hd : ops.toList.drop i = oi :: rest)
    (hs : Region.noSelect ops = true) (hf : Region.free md ops listed i = true) (hr : (Region.ready md ops listed).contains i = true) (hL : waitsFor md ops L i = true)
    (hQ : ∀ c a w, Q (.panic c) (a.put oi.dst v) w → Q (.panic c) a w) (hw : Region.wanted oi (yielded ops a.tmps) = true) (hv : ∀ w, S w → (execOp a.eval oi).run P w = .ok (.value v) w) (hS : S w)
    (ha : a.put oi.dst v = a') (hl : listed.setIfInBounds i true = l') (h : WL P md ops Q S L fuel l' a' w) : WL P md ops Q S L (fuel + 1) listed a w := by
  subst ha hl
  exact WL.first (held_at hd) (Region.noSelect_spec hs) hQ hL fuel listed a w (Region.free_spec (held_at hd) hf) (by simpa using hr) (.inl ⟨hw, hv⟩) hS h
theorem last_skip {i : Nat} {oi : Oper} {rest : List Oper} {fuel : Nat} {listed l' : Array Bool} {a a' : Act} {w : World} (hd : ops.toList.drop i = oi :: rest)
    (hs : Region.noSelect ops = true) (hf : Region.free md ops listed i = true) (hr : (Region.ready md ops listed).contains i = true) (hL : waitsFor md ops L i = true)
    (hQ : ∀ c a w, Q (.panic c) (a.put oi.dst undef) w → Q (.panic c) a w) (hw : Region.wanted oi (yielded ops a.tmps) = false) (hS : S w)
    (ha : a.put oi.dst undef = a') (hl : listed.setIfInBounds i true = l') (h : WL P md ops Q S L fuel l' a' w) : WL P md ops Q S L (fuel + 1) listed a w := by
  subst ha hl
  exact WL.first (held_at hd) (Region.noSelect_spec hs) hQ hL fuel listed a w (Region.free_spec (held_at hd) hf) (by simpa using hr) (.inr ⟨hw, rfl⟩) hS h
/-- The same, what is reckoned left to Lean. -/
theorem last_tk {i : Nat} {oi : Oper} {rest : List Oper} {v : Value} {fuel : Nat} {listed l' : Array Bool} {a a' : Act} {w : World} (h : WL P md ops Q S L fuel l' a' w) (hd : ops.toList.drop i = oi :: rest := by rfl)
    (hs : Region.noSelect ops = true := by kernel_rfl) (hf : Region.free md ops listed i = true := by kernel_rfl) (hr : (Region.ready md ops listed).contains i = true := by kernel_rfl)
    (hL : waitsFor md ops L i = true := by kernel_rfl) (hQ : ∀ c a w, Q (.panic c) (a.put oi.dst v) w → Q (.panic c) a w := by exact fun _ _ _ h => h) (hw : Region.wanted oi (yielded ops a.tmps) = true := by rfl) (hv : ∀ w, S w → (execOp a.eval oi).run P w = .ok (.value v) w := by (intro w hSw; (try dsimp only at hSw); go_simp; (try with_reducible rfl))) (hS : S w := by assumption)
    (ha : a.put oi.dst v = a' := by ((simp only [Act.put, hq1, hq2, hq3, Option.isNone, Bool.not_true, Bool.not_false]); (try with_reducible rfl))) (hl : listed.setIfInBounds i true = l' := by ((simp only [Act.put, hq1, hq2, hq3, Option.isNone, Bool.not_true, Bool.not_false]); (try with_reducible rfl))) : WL P md ops Q S L (fuel + 1) listed a w :=
  last_take hd hs hf hr hL hQ hw hv hS ha hl h
theorem last_sk {i : Nat} {oi : Oper} {rest : List Oper} {fuel : Nat} {listed l' : Array Bool} {a a' : Act} {w : World} (h : WL P md ops Q S L fuel l' a' w) (hd : ops.toList.drop i = oi :: rest := by rfl)
    (hs : Region.noSelect ops = true := by kernel_rfl) (hf : Region.free md ops listed i = true := by kernel_rfl) (hr : (Region.ready md ops listed).contains i = true := by kernel_rfl)
    (hL : waitsFor md ops L i = true := by kernel_rfl) (hQ : ∀ c a w, Q (.panic c) (a.put oi.dst undef) w → Q (.panic c) a w := by exact fun _ _ _ h => h) (hw : Region.wanted oi (yielded ops a.tmps) = false := by rfl) (hS : S w := by assumption)
    (ha : a.put oi.dst undef = a' := by ((simp only [Act.put, hq1, hq2, hq3, Option.isNone, Bool.not_true, Bool.not_false]); (try with_reducible rfl))) (hl : listed.setIfInBounds i true = l' := by ((simp only [Act.put, hq1, hq2, hq3, Option.isNone, Bool.not_true, Bool.not_false]); (try with_reducible rfl))) : WL P md ops Q S L (fuel + 1) listed a w :=
  last_skip hd hs hf hr hL hQ hw hS ha hl h
/-- One that comes up alone. -/
theorem last_one {i : Nat} {oi : Oper} {rest : List Oper} {fuel : Nat} {listed : Array Bool} {a : Act} {w : World} (hd : ops.toList.drop i = oi :: rest) (hr : Region.ready md ops listed = [i])
    (h : ∀ K' : Act → World → Prop, Shut (∀ a w, (i = L ∨ S w) → WL P md ops Q S L fuel (listed.setIfInBounds i true) a w → K' a w) → if Region.wanted oi (yielded ops a.tmps) = true then Oper.wp P oi a w K' Q else K' (a.put oi.dst undef) w) : WL P md ops Q S L (fuel + 1) listed a w := by
  refine ⟨fun h0 => (by rw [hr] at h0; cases h0), fun j hj => ?_⟩
  rw [hr] at hj
  obtain rfl : j = i := by simpa using hj
  exact wpOp_step (held_at hd) fun K' hK => h K' fun a w hS hW => hK a w ⟨hS, hW⟩
theorem last_back {i fuel : Nat} {l l' : Array Bool} {a a' : Act} {w : World} {K' : Act → World → Prop} (hK : Shut (∀ a w, (i = L ∨ S w) → WL P md ops Q S L fuel l a w → K' a w)) (ha : a = a') (hl : l = l') (hS : S w) (h : S w → WL P md ops Q S L fuel l' a' w) : K' a w := by
  subst ha hl
  exact hK.out a w (.inr hS) (h hS)
/-- Behind the last one. -/
theorem last_end {fuel : Nat} {l : Array Bool} {a : Act} {w : World} {K' : Act → World → Prop} (hK : Shut (∀ a w, (L = L ∨ S w) → WL P md ops Q S L fuel l a w → K' a w)) (hr : Region.ready md ops l = []) (h : Q .normal a w) : K' a w :=
  hK.out a w (.inl rfl) (match fuel with
    | 0 => ⟨hr, h⟩
    | _ + 1 => ⟨fun _ => h, fun i hi => by rw [hr] at hi; cases hi⟩)
end
end Go.Proofs.YtmiaplgfbphfmaaGreatDoor
namespace Go.Proofs.YtmiaplgfbphfmaaGreatDoor
open Go.RowKit
attribute [local irreducible] wpList

set_option maxRecDepth 100000 in
set_option maxHeartbeats 8000000 in
theorem keeps_any (w : World) (T : Nat → Prop) (base g cap : Nat) (xs : List Kp) (i : Nat) (x : Kp) (A : Option Addr) (n c : Nat) (vS vT : Value) (h : Foc0 T w base g cap xs i x A n c vS vT) (r : Rc) (B : Option Addr) (nb cb : Nat) (B2 : Option Addr) (nb2 cb2 : Nat) (hw : wfI r.s.id) (hy : Byt w (LT w.heap.size) B nb cb r.s.data) :
    Calls Tryz.prog 111 #[.pointer (some ⟨g, i * 16, none⟩), .agg #[.int .i64 r.kind, .int .i64 r.place, .int .i64 r.n, .int .i64 r.try_, .int .i64 r.h.frm, .int .i64 r.h.seq, .int .i64 r.h.to, .int .i64 r.h.till, .int .i64 r.h.bytes, .int .i64 r.h.block, .int .i64 r.s.id, .slice B nb cb, .slice B2 nb2 cb2]] w (FocPost T w base g cap xs i A n c vS vT (keepsF x r)) := by
  obtain ⟨A2, c2, rfl, ⟨hc2, hm2⟩, hs2⟩ := h.foc.syms.slC (sSm.inn T) (by decide)
  have hl60 := h.foc.l1
  have hcf : ∀ (args : Array Value) (W : World), (callFunc 142 args).run Tryz.prog W = .ok (.enter 142 args) W := entersW Tryz.func142 (by kernel_rfl) (by kernel_rfl)
  have E := Lib.hid (keepsF.eq_1 x r)
  obtain ⟨o, ho⟩ : ∃ o, o = x.own := ⟨_, rfl⟩
  obtain ⟨dl, hdl⟩ : ∃ o, o = x.delivered := ⟨_, rfl⟩
  obtain ⟨pg, hpg⟩ : ∃ o, o = x.purged := ⟨_, rfl⟩
  obtain ⟨q, hq⟩ : ∃ q, q = x.syms.any (fun s => decide (s.id = r.s.id)) := ⟨_, rfl⟩
  rw [← ho, ← hdl, ← hpg, ← hq] at E
  have H := Lib.hid h
  have hgl := h.foc.gl
  have HS2 := Lib.hid hs2
  have HY := Lib.hid hy
  have HQ := Lib.hid hq
  have HO := Lib.hid ho
  have HDL := Lib.hid hdl
  have HPG := Lib.hid hpg
  clear h hs2 hy hq ho hdl hpg
  go_enter Tryz.func111, Tryz.ntmps111
  go_upto_region 1 with fail
  obtain ⟨W1, hW1⟩ : ∃ W1, W1 = w.alloc (.cells #[.int .i64 r.kind, .int .i64 r.place, .int .i64 r.n, .int .i64 r.try_, .int .i64 r.h.frm, .int .i64 r.h.seq, .int .i64 r.h.to, .int .i64 r.h.till, .int .i64 r.h.bytes, .int .i64 r.h.block, .int .i64 r.s.id, .slice B nb cb, .slice B2 nb2 cb2] 40) := ⟨_, rfl⟩
  obtain ⟨p, hp⟩ : ∃ p, p = w.heap.size := ⟨_, rfl⟩
  have hbx : W1.heap[p]? = some (.cells #[.int .i64 r.kind, .int .i64 r.place, .int .i64 r.n, .int .i64 r.try_, .int .i64 r.h.frm, .int .i64 r.h.seq, .int .i64 r.h.to, .int .i64 r.h.till, .int .i64 r.h.bytes, .int .i64 r.h.block, .int .i64 r.s.id, .slice B nb cb, .slice B2 nb2 cb2] 40 (0, 0)) := by rw [hW1]; exact heap_new hp
  have HF1 : Hid (Fr w W1) := by rw [hW1]; exact frAlloc _ _
  rw [← hW1, ← hp]
  clear hW1 hp
  obtain ⟨m0, m1, m2, m3, m4, m5, m6, m7, m8, m9, m10, m11, m12, m13, m14, m15⟩ := (H.out.fr HF1.out).foc.cells
  rw [← HO.out] at m6
  rw [← HDL.out] at m14
  rw [← HPG.out] at m15
  (obtain ⟨bx0, bx1, bx2, bx3, bx4, bx5, bx6, bx7, bx8, bx9, bx10, bx11, bx12⟩ := box13_ hbx)
  have HBX := Lib.hid hbx
  clear hbx m0 m1 m2 m3 m4 m5 m7 m9 m10 m11 m12 m13 bx0 bx1 bx2 bx3 bx4 bx5 bx6 bx7 bx8 bx9 bx12
  cases o with
  | true =>
    have E1 := Lib.hid (E.out.trans (if_pos rfl))
    clear E
    go_wp2_with fail
    go_ret
    exact H.out.same HF1.out E1.out
  | false =>
  have E1 := Lib.hid (E.out.trans (if_neg (by simp)))
  clear E
  cases hdp : (dl || pg) with
  | true =>
    have E2 : Hid (keepsF x r = (x, 7)) := E1.out.trans (if_pos (by simpa using hdp))
    clear E1
    revert hdp
    cases dl <;> cases pg <;> intro hdp <;> first | (exact absurd hdp (by decide)) | (clear hdp; go_wp2_with fail; go_ret; exact H.out.same HF1.out E2.out)
  | false =>
  obtain ⟨rfl, rfl⟩ : dl = false ∧ pg = false := by revert hdp; cases dl <;> cases pg <;> decide
  have E2 := Lib.hid (E1.out.trans (if_neg (by simp)))
  clear E1 hdp
  have CT : Hid (Calls Tryz.prog 135 #[.slice A2 x.syms.length c2, .func (.func 142) #[] #[.pointer (some ⟨p, 0, none⟩)]] W1 fun e w' => e = .returned (.bool q) ∧ Fr W1 w') := by
    rw [HQ.out]
    refine containsFuncSm_any W1 _ _ hcf (fun s => decide (s.id = r.s.id)) (fun W y A n c hf => ?_) _ _ _ _ ?_ ?_
    · exact sameId_any W y A n c r.s.id p (cell_of_heap (blk_go HBX.out hf))
    · exact Sl.ofIn sSm (HS2.out.go (sSm.inn T) HF1.out)
    · unfold maxLen; omega
  clear HQ hcf HS2
  go_wp2_with fail
  (with_reducible refine (CT.out).mono ?_)
  rintro e w2 ⟨rfl, hf2⟩
  have HF2 : Hid (Fr w w2) := HF1.out.trans hf2
  have hbx := blk_go HBX.out hf2
  clear m6 m8 m14 m15 bx10 bx11 HBX hf2 CT HF1
  have H2 := Lib.hid (H.out.fr HF2.out)
  obtain ⟨m0, m1, m2, m3, m4, m5, m6, m7, m8, m9, m10, m11, m12, m13, m14, m15⟩ := H2.out.foc.cells
  (obtain ⟨bx0, bx1, bx2, bx3, bx4, bx5, bx6, bx7, bx8, bx9, bx10, bx11, bx12⟩ := box13_ hbx)
  have HBX := Lib.hid hbx
  clear hbx m0 m1 m2 m3 m4 m5 m7 m9 m10 m11 m12 m13 m14 m15 m6 bx0 bx1 bx2 bx3 bx4 bx5 bx6 bx7 bx8 bx9 bx12
  cases q with
  | true =>
    have E3 := Lib.hid (E2.out.trans (if_pos rfl))
    clear E2
    go_wp2_with fail
    go_ret
    exact H.out.same HF2.out E3.out
  | false =>
  have E3 := Lib.hid (E2.out.trans (if_neg (by simp)))
  clear E2
  by_cases h60 : x.syms.length = 60
  · have E4 := Lib.hid (E3.out.trans (if_pos h60))
    have t60 : ((x.syms.length : Int) == 60) = true := by simp [h60]
    clear E3 h60
    go_wp2_with fail
    go_ret
    exact H.out.same HF2.out E4.out
  · have E4 := Lib.hid (E3.out.trans (if_neg h60))
    have t60 : ((x.syms.length : Int) == 60) = false := by simp; omega
    have H60 : Hid (x.syms.length + 1 ≤ 60) := by unfold Hid; omega
    have EF : Hid (keepsF x r = ({ x with syms := x.syms ++ [r.s] }, 0)) := E4.out.trans (by simp only [HO.out.symm, HDL.out.symm, HPG.out.symm])
    clear E3 E4 h60 hl60 HO HDL HPG
    have hLm : x.syms.length + 1 ≤ maxLen := by have := H60.out; unfold maxLen; omega
    have hLs : (x.syms.length + 1) * 32 ≤ lim := by have := H60.out; unfold lim; omega
    have HY2 := Lib.hid (HY.out.2.go sByte HF2.out)
    have HYL : Hid (nb * 1 ≤ lim) := HY.out.1.1
    have HYN : Hid (r.s.data.length = nb) := HY.out.2.1
    have hONE : ∀ (D : Option Addr) (d e : Nat), ∀ u ∈ [Value.int .i64 r.s.id, .slice D d e], u.oneCell' = true := by simp [Value.oneCell']
    have HBB : Hid (base ≤ w2.heap.size) := Nat.le_trans H2.out.foc.hbg (Nat.le_of_lt H2.out.foc.gl)
    have hz2 := HF2.out.size
    have hpl : p < w2.heap.size := (Array.getElem?_eq_some_iff.1 HBX.out).1
    have hgl2 : g < w2.heap.size := by omega
    clear H HY hc2 hm2
    go_upto_region 9 with fail
    go_region_law (first
      | ((with_reducible refine stepPick (n := 46) rfl ?_); go_simp; go_at_call 107; (with_reducible refine (cloneBlock_any _ _ _ _ r.s.data (HY2.out.go sByte (by (repeat' (first | exact Below.refl _ _ | refine below_drewN ?_ _ | refine Below.drew ?_ | refine frA ?_ _)))) HYL.out).mono ?_); rintro e w8 ⟨v8, rfl, ho8, hf8⟩; obtain ⟨A8, c8, rfl, hd8, hs8⟩ := own_bytes ho8; have HF8 : Hid (Fr w2 w8) := Fr.trans (by (repeat' (first | exact Below.refl _ _ | refine below_drewN ?_ _ | refine Below.drew ?_ | refine frA ?_ _))) hf8; have H8 := Lib.hid (H2.out.fr HF8.out);
          have HS8 : Hid (Sl 1 eByte w8 (NW w2.heap.size w8.heap.size) A8 r.s.data.length r.s.data) := hs8.more sByte (fun b hb => ⟨by have := hb.1; simp at this; omega, hb.2⟩); have HD8 := Lib.hid hd8; have HYY : Hid (eIn T eSm w8 (fun b => b < w8.heap.size ∧ (Value.slice A2 x.syms.length c2).ownBlock ≠ some b) (fun j => [Value.int .i64 r.s.id, Value.slice A8 r.s.data.length c8][j]?) r.s) := eSm_iff.2 ⟨A8, r.s.data.length, c8, ⟨rfl, rfl⟩, hw, ⟨by rw [HYN.out]; exact HYL.out, hd8⟩, HS8.out.more sByte fun b hb => ⟨⟨hb.2, fun e => by have := (H2.out.foc.syms.ge e).2; have := hb.1; omega⟩, H2.out.new b hb.1⟩⟩; have hgl8 : g < w8.heap.size := Nat.lt_of_lt_of_le hgl2 HF8.out.size; have hpl8 : p < w8.heap.size := Nat.lt_of_lt_of_le hpl HF8.out.size;
          have hc8 := H8.out.foc.cell (t := 8) (by decide); simp only [kpCells] at hc8; have m8 := hc8; have hbx := blk_go HBX.out HF8.out; have bx10 := cell_of_heap (i := 10) hbx; have bx11 := cell_of_heap (i := 11) hbx; clear hbx hc8 ho8 hf8 hd8 hs8)
      | ((with_reducible refine stepPick (n := 49) rfl ?_); (refine step_app2o (by rfl) (.tmp 39) (.tmp 48) 93 (by rfl) base 38 (.agg #[.int .i64 0, .slice none 0 0]) 32 Tryz.underlying93 infoSymb rfl (by decide) (sSm.inn T) w8 (by first | exact Below.refl _ _ | exact frAlloc _ _) (.slice A2 x.syms.length c2) x.syms (by rfl) H8.out.foc.syms _ [.int .i64 r.s.id, .slice A8 r.s.data.length c8] 38 (0, 0) (by rfl) (by exact heap_new rfl) rfl (hONE _ _ _) r.s HYY.out hLm hLs (Nat.le_trans HBB.out HF8.out.size) ?_); intro v9 w9 HO9 HC9 HL9; obtain ⟨A9, n9, c9, rfl⟩ := own_isSl HO9.out; obtain ⟨cs9, rest9, hg9, _⟩ := H8.out.foc.blk; have hg9' := HC9.out.blk hg9 (fun e => H8.out.foc.syms.notBlk hg9 (by decide) e rfl); have y9 := blk_free (i := i * 16 + 8) hg9'; have hgl9 := (Array.getElem?_eq_some_iff.1 hg9').1; have m9 := (HC9.out.cell (p := ⟨g, i * 16 + 8, none⟩) hgl8 (fun e => H8.out.foc.syms.notBlk hg9 (by decide) e rfl)).trans m8; clear hg9 hg9'))
    all_goals
      have hF := H8.out.foc.appS (fun b hb => (H8.out.av b hb).1) H8.out.ne (chg_grown HC9.out) HO9.out (by rw [List.length_append]; exact H60.out)
      have hC : Chg (FocS g (.slice A2 x.syms.length c2) vT) w (w9.setCell ⟨g, i * 16 + 8, none⟩ (.slice A9 n9 c9)) := Chg.set (p := ⟨g, i * 16 + 8, none⟩) (Chg.tr2 ((HF2.out.trans HF8.out).chg) (T := FocS g (.slice A2 x.syms.length c2) vT) (HC9.out.more fun b hb => .inr (.inl hb)) fun b hb => .inl hb) (.inl rfl) _
      (have HF := Lib.hid hF; clear hF; have HC := Lib.hid hC; clear hC)
      go_wp2_with fail
      go_ret
      rw [EF.out]
      exact ⟨rfl, HC.out, _, _, HF.out⟩
end Go.Proofs.YtmiaplgfbphfmaaGreatDoor
