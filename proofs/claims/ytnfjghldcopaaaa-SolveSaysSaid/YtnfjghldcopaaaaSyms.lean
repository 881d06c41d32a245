/- The law's symbols of a cargo. No condition. -/
import Derived.Test.YtnfjghldcopaaaaSymP
import Derived.Test.YtnfjghldcopaaaaCode
import Derived.Test.YtnfjghldcopaaaaApp
import Derived.Test.YtnfjghldcopaaaaBox
import Derived.Test.YtnfjghldcopaaaaAt
import Derived.Test.YtnfjghldcopaaaaChg
import Derived.Deep.RegionHeld3
import Derived.Deep.DeepCutAuto
import Derived.Deep.Cut
set_option linter.unusedSimpArgs false
set_option linter.unusedVariables false
namespace Go.Proofs.Ytnfjghldcopaaaa
open Go.RowKit
attribute [local irreducible] wpList

theorem infoSym : (Try.prog.info? 53).map (fun i => (i.zero, i.size, i.bytes)) = some (some (.agg #[.int .i64 0, .slice none 0 0]), 2, 32) := by kernel_rfl

set_option maxRecDepth 100000 in
set_option maxHeartbeats 2000000 in
theorem symbols_any (w : World) (B K : Int) (wB : wfI B) (wK : wfI K) (A : Option Addr) (n c : Nat) (cargo : List UInt8) (h : Sl 1 eByte w (LT w.heap.size) A n cargo) (hnc : n ≤ c) (hcm : c ≤ maxLen) (A2 : Option Addr) (n2 c2 : Nat) (ids : List Int) (h2 : Sl 1 eInt w (LT w.heap.size) A2 n2 ids) (hnc2 : n2 ≤ c2) (hcm2 : c2 ≤ maxLen) :
    Calls Try.prog 28 #[.agg #[.int .i64 B, .int .i64 K], .slice A n c, .slice A2 n2 c2] w fun e w' => ∃ v, e = .returned v ∧ Own 2 (eHi w.heap.size eSm) w' w.heap.size 53 v (symsOf B K cargo ids) ∧ Fr w w' := by
  obtain ⟨m, hm⟩ : ∃ m, m = min n2 60 := ⟨_, rfl⟩
  have hm1 : m ≤ 60 := by omega
  have hm2 : m ≤ n2 := by omega
  have hm3 : m ≤ c2 := by omega
  have hmi : min (n2 : Int) 60 = (m : Int) := by omega
  have h3 := h2.pre (k := m) hm2
  have htk : Hid (ids.take m = ids.take 60) := by
    have := h2.1
    rw [Hid, hm]
    rcases Nat.le_total n2 60 with h0 | h0
    · rw [Nat.min_eq_left h0, List.take_of_length_le (by omega), List.take_of_length_le (by omega)]
    · rw [Nat.min_eq_right h0]
  rw [htk.out] at h3
  unfold maxLen at hcm2
  (have H := Lib.hid h; clear h; have H3 := Lib.hid h3; clear h3; have Hm := Lib.hid hm; clear hm)
  clear h2
  have HW1 : Hid ((w.alloc (.cells #[.int .i64 B, .int .i64 K] 47)).heap[w.heap.size]? = some (.cells #[.int .i64 B, .int .i64 K] 47 (0, 0))) := heap_new rfl
  obtain ⟨W1, hW1⟩ : ∃ W1, W1 = w.alloc (.cells #[.int .i64 B, .int .i64 K] 47) := ⟨_, rfl⟩
  have HF1 : Hid (Fr w W1) := by rw [hW1]; exact frAlloc _ _
  rw [← hW1] at HW1
  have HWE := Lib.hid hW1
  clear hW1
  go_enter Try.func28, Try.ntmps28
  go_upto_region 2 with fail
  go_cut [16, 17, 18] (fun s16 s17 s18 wx => s16 = .slice A2 m c2 ∧ s17 = .int .i64 m ∧ s18 = .int .i64 0 ∧ wx = w.alloc (.cells #[.int .i64 B, .int .i64 K] 47))
  case first =>
    by_cases hle : n2 ≤ 60
    · obtain rfl : m = n2 := by have := Hm.out; omega
      go_wp2_with fail
      go_meet
      exact ⟨rfl, rfl, rfl, rfl⟩
    · obtain rfl : m = 60 := by have := Hm.out; omega
      go_wp2_with fail
      go_meet
      exact ⟨rfl, rfl, rfl, rfl⟩
  case rest =>
    obtain ⟨rfl, rfl, rfl, rfl⟩ := hcut
    rw [← HWE.out]
    clear HWE
    go_wp2_with fail
    go_loopw [7, 18] (fun s7 s18 wr => ∃ k : Nat, k ≤ m ∧ s18 = .int .i64 k ∧ Hid (Own 2 (eHi W1.heap.size eSm) wr W1.heap.size 53 s7 (((ids.take 60).take k).flatMap (symOpt B K cargo))) ∧ Hid (Fr W1 wr)) (fun _ i _ => m - (intOf i).toNat)
    case atStart => exact ⟨0, Nat.zero_le _, rfl, Own.nil, Below.refl _ _⟩
    case round =>
      obtain ⟨k, hk, rfl, HO, HF⟩ := hrel
      by_cases hlt : k < m
      · obtain ⟨ad, rfl, hE⟩ := H3.out.els (by omega)
        obtain ⟨id, hid, hc, wid⟩ := hE.int hlt
        have hpb := hE.2.1
        have hc2 : wr.cell? (ad.add k) = some (.int .i64 id) := ((HF1.out.trans HF.out).cell (by rw [block_of_add]; exact hpb)).trans hc
        have HN : Hid (((ids.take 60).take (k + 1)).flatMap (symOpt B K cargo) = ((ids.take 60).take k).flatMap (symOpt B K cargo) ++ symOpt B K cargo id) := flat_snoc hid
        have hle : (((ids.take 60).take k).flatMap (symOpt B K cargo)).length ≤ k := by
          have := length_flat B K cargo ((ids.take 60).take k)
          have h2 : ((ids.take 60).take k).length ≤ k := by rw [List.length_take]; omega
          omega
        obtain ⟨L, hL⟩ : ∃ L, L = ((ids.take 60).take k).flatMap (symOpt B K cargo) := ⟨_, rfl⟩
        rw [← hL] at HO HN hle
        obtain ⟨q, hq⟩ : ∃ q, q = id % 10000 := ⟨_, rfl⟩
        obtain ⟨mi, md, me, hME⟩ : ∃ mi md me, makeSym B K cargo q = ((mi, md), me) := ⟨_, _, _, rfl⟩
        have HS : Hid (symOpt B K cargo id = if me = 0 then [⟨mi, md⟩] else []) := by
          unfold symOpt Hid; rw [← hq, hME]
        have CM := Lib.hid (fun W A n c h hn hc => codeMake_nw W A n c B K cargo q h hn hc wB wK)
        rw [hME] at CM
        have wmi : Hid (wfI mi) := by
          have : mi = 0 ∨ mi = q := by
            have e : (makeSym B K cargo q).1.1 = mi := by rw [hME]
            rw [← e]; unfold makeSym
            repeat' split
            all_goals simp
          rcases this with rfl | rfl
          · exact wfI.mk (by omega)
          · exact wfI.mk (by rw [hq]; omega)
        have HB0 := blk_go HW1.out HF.out
        (obtain ⟨x0, x1⟩ := box2_ HB0)
        have hbl := (Array.getElem?_eq_some_iff.1 HB0).1
        have HAT : Hid (∀ W : World, Calls Try.prog 36 #[.int .i64 id, .int .i64 10000] W fun e w' => e = .returned (.int .i64 q) ∧ W = w') := fun W => by
          have := at_any W id 10000 (by decide) (by decide)
          rw [hq]; exact this
        have HB : Hid (wr.drew.heap[w.heap.size]? = some (.cells #[.int .i64 B, .int .i64 K] 47 (0, 0))) := HB0
        have HBW := Lib.hid HB0
        have NE : wr.heap.size ≠ w.heap.size := by omega
        have HG : Hid (Fr wr wr.drew) := (Below.refl _ _).drew
        have HC := Lib.hid (H.out.go sByte (HF1.out.trans HF.out))
        clear hid hc hE hq hME HB0 hL
        go_upto_region 5 with fail
        go_cut [10, 11] (fun s10 s11 wx => ∃ A' n' c' g, s10 = .pointer (some ⟨g, 0, none⟩) ∧ s11 = .int .i64 me ∧ Hid (wx.heap[g]? = some (.cells #[.int .i64 mi, .slice A' n' c'] 53 (0, 0))) ∧ (n' ≤ 16 ∧ n' ≤ c' ∧ c' ≤ 16) ∧ Hid (Sl 1 eByte wx (NW wr.heap.size wx.heap.size) A' n' md) ∧ Hid (Fr wr wx))
        case first =>
          go_region_held3 (fun w' => w'.cell? ⟨w.heap.size, 0, none⟩ = some (.int .i64 B) ∧ w'.cell? ⟨w.heap.size, 1, none⟩ = some (.int .i64 K)) (first | exact box2_ HB.out | exact box2_ (heap_old HB.out) | exact ⟨(set2_far NE).trans (cell_of_heap HB.out), (set2_far NE).trans (cell_of_heap HB.out)⟩ | go_keep)
            (first
              | (go_at_call 36; (with_reducible refine (HAT.out _).mono ?_); rintro e w5 ⟨rfl, rfl⟩)
              | (go_at_call 43; (with_reducible refine (CM.out wr.drew _ _ _ (HC.out.go sByte HG.out) hnc hcm).mono ?_); rintro e w5 ⟨A5, n5, c5, rfl, hn5, _, hs5, hf5⟩; have HS5 := Lib.hid hs5; have HG5 := Lib.hid (HG.out.trans hf5); have HB := Lib.hid (blk_go HB.out hf5); clear hs5 hf5)
              | (go_at_call 43; (with_reducible refine (CM.out (wr.alloc (.cells #[.int .i64 0, .slice none 0 0] 53)).drew _ _ _ (HC.out.go sByte (frAlloc wr _).drew) hnc hcm).mono ?_); rintro e w5 ⟨A5, n5, c5, rfl, hn5, _, hs5, hf5⟩; have HS5 := Lib.hid hs5; have HG5 := Lib.hid (Fr.trans (frAlloc wr _).drew hf5); have HB := Lib.hid (blk_go (heap_d (w := wr.alloc (.cells #[.int .i64 0, .slice none 0 0] 53)) (heap_old HBW.out)) hf5); have hgz := blk_go (heap_d (w := wr.alloc (.cells #[.int .i64 0, .slice none 0 0] 53)) (heap_new (b := wr.heap.size) rfl)) hf5; have HGZ := Lib.hid hgz; have y0 := cell_of_heap (i := 0) hgz; have y1 := cell_of_heap (i := 1) hgz; have v0 := blk_free (i := 0) hgz; have v1 := blk_free (i := 1) hgz; have hgzl := (Array.getElem?_eq_some_iff.1 hgz).1; clear hs5 hf5 hgz)
              | fail)
          all_goals first
            | (have hA5 : Hid (Sl 1 eByte (w5.alloc (.cells #[.int .i64 mi, .slice A5 n5 c5] 53)) (NW wr.heap.size (w5.alloc (.cells #[.int .i64 mi, .slice A5 n5 c5] 53)).heap.size) A5 n5 md) :=
                (HS5.out.keep sByte fun p hp => (frAlloc w5 _).cell hp.2).more sByte fun b hb => ⟨hb.1, Nat.lt_of_lt_of_le hb.2 (frAlloc w5 _).size⟩
               have hA6 : Hid (Fr wr (w5.alloc (.cells #[.int .i64 mi, .slice A5 n5 c5] 53))) := HG5.out.trans (frAlloc _ _)
               go_wp2_with fail
               go_meet
               exact ⟨A5, n5, c5, _, rfl, rfl, heap_new rfl, hn5, hA5, hA6⟩)
            | (have hst : Hid (((w5.setCell ⟨wr.heap.size, 0, none⟩ (.int .i64 mi)).setCell ⟨wr.heap.size, 1, none⟩ (.slice A5 n5 c5)).heap[wr.heap.size]? = some (.cells #[.int .i64 mi, .slice A5 n5 c5] 53 (0, 0))) := stor2_ HGZ.out
               have hA5 : Hid (Sl 1 eByte ((w5.setCell ⟨wr.heap.size, 0, none⟩ (.int .i64 mi)).setCell ⟨wr.heap.size, 1, none⟩ (.slice A5 n5 c5)) (NW wr.heap.size ((w5.setCell ⟨wr.heap.size, 0, none⟩ (.int .i64 mi)).setCell ⟨wr.heap.size, 1, none⟩ (.slice A5 n5 c5)).heap.size) A5 n5 md) :=
                (((HS5.out.stored sByte (p := ⟨wr.heap.size, 0, none⟩) (by simp) (.int .i64 mi)).stored sByte (p := ⟨wr.heap.size, 1, none⟩) (by simp) (.slice A5 n5 c5))).more sByte fun b hb => ⟨by have := hb.1; simp at this; omega, by rw [size_setCell, size_setCell]; exact hb.2⟩
               have hA6 : Hid (Fr wr ((w5.setCell ⟨wr.heap.size, 0, none⟩ (.int .i64 mi)).setCell ⟨wr.heap.size, 1, none⟩ (.slice A5 n5 c5))) := bel2_ HG5.out (Nat.le_refl _)
               go_wp2_with fail
               go_meet
               exact ⟨A5, n5, c5, _, rfl, rfl, hst, hn5, hA5, hA6⟩)
        case rest =>
          obtain ⟨A', n', c', g, rfl, rfl, HG2, ⟨hn1, hc1, hc3⟩, HS2, HF2⟩ := hcut
          obtain ⟨W5, rfl⟩ : ∃ W5, W5 = wc := ⟨_, rfl⟩
          have hwc : w.heap.size ≤ wr.heap.size := (HF1.out.trans HF.out).size
          have HO5 := Lib.hid (HO.out.fr (sSm.hi _) HF2.out)
          have HF5 : Hid (Fr W1 W5) := HF.out.trans HF2.out
          by_cases he : me = 0
          · subst he
            have HN2 : Hid (((ids.take 60).take (k + 1)).flatMap (symOpt B K cargo) = L ++ [⟨mi, md⟩]) := by rw [Hid, HN.out, HS.out, if_pos rfl]
            have hg2 := HG2.out
            (obtain ⟨z0, z1⟩ := box2_ hg2)
            clear hg2
            have hrd : Hid (eHi W1.heap.size eSm W5 (fun b => b < W5.heap.size ∧ u7.ownBlock ≠ some b) (fun j => [Value.int .i64 mi, .slice A' n' c'][j]?) ⟨mi, md⟩) := by
              refine eSm_iff.2 ⟨A', n', c', ⟨rfl, rfl⟩, wmi.out, ⟨by unfold lim; omega, hc1, by unfold maxLen; omega⟩, HS2.out.more sByte fun b hb => ⟨⟨hb.2, fun e => ?_⟩, Nat.le_trans HF.out.size hb.1⟩⟩
              obtain ⟨cs, ho, _⟩ := HO.out
              have := (ho.lt b e).2
              have := hb.1
              omega
            have hLs : (L.length + 1) * 32 ≤ lim := by unfold lim; omega
            have hLm : L.length + 1 ≤ maxLen := by unfold maxLen; omega
            have hone : ∀ u ∈ [Value.int .i64 mi, .slice A' n' c'], u.oneCell' = true := by intro u hu; simp at hu; rcases hu with rfl | rfl <;> rfl
            have hbb : W1.heap.size ≤ W5.heap.size := HF5.out.size
            have HONE := Lib.hid hone
            clear hone
            go_wp2_with (at_builtin; refine wpList_app1 rfl _ _ 50 rfl W1.heap.size 53 (.agg #[.int .i64 0, .slice none 0 0]) 32 Try.underlying50 infoSym rfl (by decide) (sSm.hi _) W5 (frAlloc _ _) _ L rfl HO5.out W5.heap.size [.int .i64 mi, .slice A' n' c'] 53 (0, 0) rfl (heap_new rfl) rfl HONE.out ⟨mi, md⟩ hrd.out hLm hLs W1.heap.size W1 HF5.out (Nat.le_refl _) hbb ?_)
            intro v' w3 HO3 HF3
            rw [← HN2.out] at HO3
            clear z0 z1
            go_wp2_with fail
            go_roundw
            case rel => exact ⟨k + 1, by omega, by go_num, HO3, HF3⟩
            case measure => simp [intOf]; omega
          · have hme : (me == 0) = false := by simp [he]
            have HN2 : Hid (((ids.take 60).take (k + 1)).flatMap (symOpt B K cargo) = L) := by rw [Hid, HN.out, HS.out, if_neg he, List.append_nil]
            clear he
            go_wp2_with fail
            go_roundw
            case rel => exact ⟨k + 1, by omega, by go_num, by rw [HN2.out]; exact HO5, HF5⟩
            case measure => simp [intOf]; omega
      · obtain rfl : k = m := by omega
        have HE : Hid (((ids.take 60).take k).flatMap (symOpt B K cargo) = symsOf B K cargo ids) := by
          rw [Hid, List.take_of_length_le (by rw [H3.out.1]; exact Nat.le_refl _)]; rfl
        rw [HE.out] at HO
        go_wp2_with fail
        go_ret
        exact ⟨_, rfl, (HO.out.lower HF1.out.size).hiLower sSm HF1.out.size, HF1.out.trans HF.out⟩
end Go.Proofs.Ytnfjghldcopaaaa
