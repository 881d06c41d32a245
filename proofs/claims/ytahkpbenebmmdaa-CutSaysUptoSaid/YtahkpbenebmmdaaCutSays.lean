/- 'CutSays', walked; the blocks hold together fewer than 2^47 bytes. -/
import Derived.Test.YtahkpbenebmmdaaCutLaw
import Derived.Test.YtahkpbenebmmdaaRCut
import Derived.Deep.RegionWith
import Derived.Deep.RegionHeld3
import Derived.Deep.DeepCutAuto
import Derived.Deep.Cut
set_option linter.unusedSimpArgs false
set_option linter.unusedVariables false
namespace Go.Proofs.Ytahkpbenebmmdaa
open Go.RowKit

theorem saysEq3 : SaysEq Try.prog 38 := by
  intro W S T A A' n c n' c' xs ys h h' hm
  have H := Lib.hid h
  have H' := Lib.hid h'
  clear h h'
  go_enter Try.func38, Try.ntmps38
  go_wp2_with fail
  refine (equalBlock_any _ _ _ _ _ _ _ _ _ _ _ H.out H'.out hm).mono ?_
  rintro e w' ⟨rfl, m, rfl⟩
  go_wp2_with fail
  go_ret
  exact ⟨rfl, m, rfl⟩
theorem enters3 : ∀ (args : Array Value) (W : World), (callFunc 38 args).run Try.prog W = .ok (.enter 38 args) W :=
  enters Try.func38 (by kernel_rfl) (by kernel_rfl)

set_option maxRecDepth 100000 in
set_option maxHeartbeats 4000000 in
theorem cutSays_walk (w : World) (B K : Int) (wB : wfI B) (wK : wfI K) (A1 : Option Addr) (n1 c1 : Nat) (xs : List UInt8) (h1 : Sl 1 eByte w (LT w.heap.size) A1 n1 xs) (hc1 : n1 ≤ c1) (hx1 : c1 ≤ maxLen)
    (A2 : Option Addr) (n2 c2 : Nat) (ls : List (List UInt8)) (h2 : Sl 1 eBlock w (LT w.heap.size) A2 n2 ls) (hm2 : n2 * 24 ≤ lim) (hl2 : lens ls ≤ lim) :
    Calls Try.prog 9 #[.agg #[.int .i64 B, .int .i64 K], .slice A1 n1 c1, .slice A2 n2 c2] w fun e w' => e = .returned (.bool true) ∧ Fr w w' := by
  obtain ⟨j1, hj1⟩ : ∃ q, q = (joinUp B K ls).1 := ⟨_, rfl⟩
  obtain ⟨j2, hj2⟩ : ∃ q, q = (joinUp B K ls).2 := ⟨_, rfl⟩
  have CJ := Lib.hid (fun W A n c h => cutJoin_any W A n c B K ls h wB wK)
  have CR := Lib.hid (fun W A n c h => refJoined_any W A n c B K ls h hl2 wB wK)
  rw [← hj1, ← hj2] at CJ CR
  obtain ⟨k1, hk1⟩ : ∃ q, q = (cutUp B K xs).1 := ⟨_, rfl⟩
  obtain ⟨k2, hk2⟩ : ∃ q, q = (cutUp B K xs).2 := ⟨_, rfl⟩
  have CC := Lib.hid (fun W A n c h hn hc => cutCut_any W A n c B K xs h hn hc wB wK)
  have CU := Lib.hid (fun W A n c h => refCutUp_any W A n c B K xs h wB wK)
  rw [← hk1, ← hk2] at CC CU
  have hkl : k1.length ≤ maxLen := by
    rw [hk1]
    unfold cutUp
    split
    · simp
    · rename_i h3
      split
      · simp
      · rename_i h4
        have hck := Decidable.not_not.1 h3
        obtain ⟨⟨b1, b2⟩, ⟨b3, b4⟩, _⟩ := cutCheck_ok hck
        have := cutF_length (K := K.toNat) (by omega) xs.length xs (Nat.le_refl _)
        show (cutF K.toNat xs.length xs).length ≤ maxLen
        rw [this]
        have h5 := Nat.div_le_self (xs.length + K.toNat - 1) K.toNat
        have h6 := Decidable.not_not.1 h4
        unfold maxLen
        omega
  (have H1 := Lib.hid h1; clear h1; have H2 := Lib.hid h2; clear h2; have Hj1 := Lib.hid hj1; clear hj1; have Hj2 := Lib.hid hj2; clear hj2; have Hk1 := Lib.hid hk1; clear hk1; have Hk2 := Lib.hid hk2; clear hk2)
  go_enter Try.func9, Try.ntmps9
  go_wp2_with fail
  refine (CC.out _ _ _ _ (H1.out.go sByte (by (repeat' (first | exact Below.refl _ _ | refine below_drewN ?_ _ | refine Below.drew ?_ | refine frA ?_ _ | refine Fr.trans ?_ Hf1.out)))) hc1 hx1).mono ?_
  rintro e w1 ⟨v, rfl, ho, hf1⟩
  obtain ⟨hb0, hb1⟩ := box2 hf1
  have hF1 : Fr w w1 := (frAlloc _ _).trans hf1
  obtain ⟨B1, d1, rfl, ⟨hd1, hm1⟩, hs1⟩ := ho.slC wBlock (by decide)
  clear hf1 ho
  (have HF1 := Lib.hid hF1; clear hF1; have Hs1 := Lib.hid hs1; clear hs1)
  go_upto_region 2 with fail
  go_cut [9, 10] (fun s9 s10 wx => ∃ B3 n3 d3, s9 = .slice B3 n3 d3 ∧ s10 = .int .i64 j2 ∧ n3 ≤ 360 ∧ n3 ≤ d3 ∧ d3 ≤ maxLen ∧ Hid (Sl 1 eByte wx (LT wx.heap.size) B3 n3 j1) ∧ Hid (Fr w1 wx))
  case first =>
    go_region_with (first | (go_at_call 15; refine (blocks_sl _ _ _ _ ls (H2.out.go wBlock (by (repeat' (first | exact Below.refl _ _ | refine below_drewN ?_ _ | refine Below.drew ?_ | refine frA ?_ _ | refine Fr.trans ?_ HF1.out)))) hm2).mono ?_; rintro e w2 ⟨B2, d2, rfl, hs2, hf2⟩; have hb0 := (hf2.cell (World.block_lt_of_cell? _ _ hb0)).trans hb0; have hb1 := (hf2.cell (World.block_lt_of_cell? _ _ hb1)).trans hb1) | (go_at_call 33; refine (CJ.out _ _ _ _ hs2).mono ?_; rintro e w3 ⟨B3, n3, d3, rfl, hn3, hd3, hm3, hs3, hf3⟩))
    all_goals
      have hF3 : Hid (Fr w1 w3) := Fr.trans (Fr.trans (Fr.trans (Below.refl _ _) (by first | exact Below.refl _ _ | exact frDrewN _ 1)) hf2) hf3
      have Hs3 := Lib.hid hs3
      clear hs2 hf2 hf3 hs3
      go_wp2_with fail
      go_meet
      exact ⟨_, _, _, rfl, rfl, hn3, hd3, hm3, Hs3, hF3⟩
  case rest =>
    obtain ⟨B3, n3, d3, rfl, rfl, hn3, hd3, hm3, Hs3, HF3⟩ := hcut
    have hb0 := (HF3.out.cell (World.block_lt_of_cell? _ _ hb0)).trans hb0
    have hb1 := (HF3.out.cell (World.block_lt_of_cell? _ _ hb1)).trans hb1
    go_wp2_with fail
    refine (CU.out _ _ _ _ (H1.out.go sByte (by (repeat' (first | exact Below.refl _ _ | refine below_drewN ?_ _ | refine Below.drew ?_ | refine frA ?_ _ | refine Fr.trans ?_ HF3.out | refine Fr.trans ?_ HF1.out))))).mono ?_
    rintro e w4 ⟨v4, rfl, ho4, hf4⟩
    obtain ⟨B4, d4, rfl, ⟨hd4, hm4⟩, hs4⟩ := ho4.slC wBlock (by decide)
    have hb0 := (hf4.cell (World.block_lt_of_cell? _ _ hb0)).trans hb0
    have hb1 := (hf4.cell (World.block_lt_of_cell? _ _ hb1)).trans hb1
    clear ho4
    (have Hf4 := Lib.hid hf4; clear hf4; have Hs4 := Lib.hid hs4; clear hs4)
    go_upto_region 4 with fail
    go_cut [13, 14] (fun s13 s14 wx => ∃ B6 n6 d6, s13 = .slice B6 n6 d6 ∧ s14 = .int .i64 j2 ∧ n6 ≤ 360 ∧ n6 ≤ d6 ∧ d6 ≤ maxLen ∧ Hid (Sl 1 eByte wx (LT wx.heap.size) B6 n6 j1) ∧ Hid (Fr w4 wx))
    case first =>
      go_region_with (first | (go_at_call 15; refine (blocks_sl _ _ _ _ ls (H2.out.go wBlock (by (repeat' (first | exact Below.refl _ _ | refine below_drewN ?_ _ | refine Below.drew ?_ | refine frA ?_ _ | refine Fr.trans ?_ Hf4.out | refine Fr.trans ?_ HF3.out | refine Fr.trans ?_ HF1.out)))) hm2).mono ?_; rintro e w5 ⟨B5, d5, rfl, hs5, hf5⟩; have hb0 := (hf5.cell (World.block_lt_of_cell? _ _ hb0)).trans hb0; have hb1 := (hf5.cell (World.block_lt_of_cell? _ _ hb1)).trans hb1) | (go_at_call 37; refine (CR.out _ _ _ _ hs5).mono ?_; rintro e w6 ⟨B6, n6, d6, rfl, hn6, hd6, hm6, hs6, hf6⟩))
      all_goals
        have hF6 : Hid (Fr w4 w6) := Fr.trans (Fr.trans (Fr.trans (Below.refl _ _) (by first | exact Below.refl _ _ | exact frDrewN _ 1)) hf5) hf6
        have Hs6 := Lib.hid hs6
        clear hs5 hf5 hf6 hs6
        go_wp2_with fail
        go_meet
        exact ⟨_, _, _, rfl, rfl, hn6, hd6, hm6, Hs6, hF6⟩
    case rest =>
      obtain ⟨B6, n6, d6, rfl, rfl, hn6, hd6, hm6, Hs6, HF6⟩ := hcut
      have hb0 := (HF6.out.cell (World.block_lt_of_cell? _ _ hb0)).trans hb0
      have hb1 := (HF6.out.cell (World.block_lt_of_cell? _ _ hb1)).trans hb1
      go_wp2_with fail
      refine (equalFuncBlock_any _ _ enters3 saysEq3 _ _ _ _ _ _ _ _ k1 k1 (Hs1.out.go wBlock (by (repeat' (first | exact Below.refl _ _ | refine below_drewN ?_ _ | refine Below.drew ?_ | refine frA ?_ _ | refine Fr.trans ?_ HF6.out | refine Fr.trans ?_ Hf4.out | refine Fr.trans ?_ HF3.out)))) (Hs4.out.go wBlock (by (repeat' (first | exact Below.refl _ _ | refine below_drewN ?_ _ | refine Below.drew ?_ | refine frA ?_ _ | refine Fr.trans ?_ HF6.out)))) hkl).mono ?_
      rintro e w7 ⟨rfl, m7, hw7⟩
      have hF7 : Fr wc w7 := by rw [hw7]; exact frDrewN _ _
      have hb0 := (hF7.cell (World.block_lt_of_cell? _ _ hb0)).trans hb0
      have hb1 := (hF7.cell (World.block_lt_of_cell? _ _ hb1)).trans hb1
      have hs3 := Hs3.out.go sByte ((Hf4.out.trans HF6.out).trans hF7)
      have hF := (((HF1.out.trans HF3.out).trans Hf4.out).trans HF6.out).trans hF7
      have hs6 := Hs6.out.go sByte hF7
      have hn3m : n3 ≤ maxLen := by omega
      clear hw7 hF7
      (have HF := Lib.hid hF; clear hF; have Hs3 := Lib.hid hs3; clear hs3; have Hs6 := Lib.hid hs6; clear hs6)
      have hq : Fr w7 w7 := Below.refl _ _
      go_wp2_with fail
      go_region_held3 (fun w' => w'.cell? ⟨w.heap.size, 0, none⟩ = some (.int .i64 B) ∧ w'.cell? ⟨w.heap.size, 1, none⟩ = some (.int .i64 K)) (exact ⟨hb0, hb1⟩) (first
        | (go_at_call 30; refine (parted_any _).mono ?_; rintro e wq ⟨rfl, hfq⟩; have hb0 := (hfq.cell (World.block_lt_of_cell? _ _ hb0)).trans hb0; have hb1 := (hfq.cell (World.block_lt_of_cell? _ _ hb1)).trans hb1; have hq := Fr.trans (show Fr w7 _ by first | exact hq | exact hq.drew) hfq)
        | (go_at_call 39; refine (cutCheck_any _ _ _ wB wK).mono ?_; rintro e wq ⟨rfl, hfq⟩; have hb0 := (hfq.cell (World.block_lt_of_cell? _ _ hb0)).trans hb0; have hb1 := (hfq.cell (World.block_lt_of_cell? _ _ hb1)).trans hb1; have hq := Fr.trans (show Fr w7 _ by first | exact hq | exact hq.drew) hfq)
        | (go_at_call 40; refine (refCheckPlan_any _ _ _ wB wK).mono ?_; rintro e wq ⟨rfl, hfq⟩; have hb0 := (hfq.cell (World.block_lt_of_cell? _ _ hb0)).trans hb0; have hb1 := (hfq.cell (World.block_lt_of_cell? _ _ hb1)).trans hb1; have hq := Fr.trans (show Fr w7 _ by first | exact hq | exact hq.drew) hfq)
        | (go_at_call 34; refine (cutBlocks_any _ _ _ wB wK).mono ?_; rintro e wq ⟨rfl, hfq⟩; have hb0 := (hfq.cell (World.block_lt_of_cell? _ _ hb0)).trans hb0; have hb1 := (hfq.cell (World.block_lt_of_cell? _ _ hb1)).trans hb1; have hq := Fr.trans (show Fr w7 _ by first | exact hq | exact hq.drew) hfq)
        | (go_at_call 41; refine (refBlocks_any _ _ _ wB wK).mono ?_; rintro e wq ⟨rfl, hfq⟩; have hb0 := (hfq.cell (World.block_lt_of_cell? _ _ hb0)).trans hb0; have hb1 := (hfq.cell (World.block_lt_of_cell? _ _ hb1)).trans hb1; have hq := Fr.trans (show Fr w7 _ by first | exact hq | exact hq.drew) hfq)
        | (go_at_call 20; refine (equalBytes_any _ _ _ _ _ _ _ _ _ _ _ (Hs3.out.go sByte hq) (Hs6.out.go sByte hq) hn3m).mono ?_; rintro e wq ⟨rfl, mq, rfl⟩; have hq := hq.trans (frDrewN _ mq)))
      all_goals
        go_wp2_with fail
        go_ret
        exact ⟨by simp, HF.out.trans hq⟩
end Go.Proofs.Ytahkpbenebmmdaa
