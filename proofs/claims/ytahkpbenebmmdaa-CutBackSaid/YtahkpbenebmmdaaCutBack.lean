/- The walk of CutBack. No condition. -/
import Derived.Test.YtahkpbenebmmdaaCutLaw
import Derived.Deep.RegionWith
set_option linter.unusedSimpArgs false
set_option linter.unusedVariables false
namespace Go.Proofs.Ytahkpbenebmmdaa
open Go.RowKit

theorem saysEq2 : SaysEq Try.prog 35 := by
  intro W S T A A' n c n' c' xs ys h h' hm
  have H := Lib.hid h
  have H' := Lib.hid h'
  clear h h'
  go_enter Try.func35, Try.ntmps35
  go_wp2_with fail
  refine (equalBlock_any _ _ _ _ _ _ _ _ _ _ _ H.out H'.out hm).mono ?_
  rintro e w' ⟨rfl, m, rfl⟩
  go_wp2_with fail
  go_ret
  exact ⟨rfl, m, rfl⟩
theorem enters2 : ∀ (args : Array Value) (W : World), (callFunc 35 args).run Try.prog W = .ok (.enter 35 args) W :=
  enters Try.func35 (by kernel_rfl) (by kernel_rfl)

theorem blocks_slC (w : World) (A : Option Addr) (n c : Nat) (ls : List (List UInt8)) (h : Sl 1 eBlock w (LT w.heap.size) A n ls) (hm : n * 24 ≤ lim) :
    Calls Try.prog 15 #[.slice A n c] w fun e w' => ∃ A' c', e = .returned (.slice A' n c') ∧ Sl 1 eBlock w' (LT w'.heap.size) A' n ls ∧ Fr w w' := blocks_sl w A n c ls h hm

set_option maxRecDepth 100000 in
set_option maxHeartbeats 2000000 in
theorem cutBack_err (w : World) (B K : Int) (wB : wfI B) (wK : wfI K) (A1 : Option Addr) (n1 c1 : Nat) (xs : List UInt8) (h1 : Sl 1 eByte w (LT w.heap.size) A1 n1 xs) (hc1 : n1 ≤ c1) (hx1 : c1 ≤ maxLen)
    (A2 : Option Addr) (n2 c2 : Nat) (ls : List (List UInt8)) (h2 : Sl 1 eBlock w (LT w.heap.size) A2 n2 ls) (hm2 : n2 * 24 ≤ lim) (hne0 : (cutUp B K xs).2 ≠ 0) :
    Calls Try.prog 8 #[.agg #[.int .i64 B, .int .i64 K], .slice A1 n1 c1, .slice A2 n2 c2] w fun e w' => e = .returned (.bool true) ∧ Fr w w' := by
  have hne : ((cutUp B K xs).2 == 0) = false := by rw [beq_eq_false_iff_ne]; exact hne0
  clear hne0
  (have H1 := Lib.hid h1; clear h1; have H2 := Lib.hid h2; clear h2)
  go_enter Try.func8, Try.ntmps8
  go_wp2_with fail
  refine (cutCut_any _ _ _ _ _ _ xs (H1.out.go sByte (by (repeat' (first | exact Below.refl _ _ | refine below_drewN ?_ _ | refine Below.drew ?_ | refine frA ?_ _ | refine Fr.trans ?_ Hf1.out)))) hc1 hx1 wB wK).mono ?_
  rintro e w1 ⟨v, rfl, ho, hf1⟩
  obtain ⟨hb0, hb1⟩ := box2 hf1
  (have Hf1 := Lib.hid hf1; clear hf1; have Ho := Lib.hid ho; clear ho)
  by_cases hjj : (joinUp B K ls).2 = 0
  · skip
    have hj : ((joinUp B K ls).2 != 0) = false := by rw [hjj]; rfl
    have E := Lib.hid (cut_join hjj)
    clear hjj
    go_wp2_with fail
    go_region_with (first | (go_at_call 15; refine (blocks_sl _ _ _ _ ls (H2.out.go wBlock (by (repeat' (first | exact Below.refl _ _ | refine below_drewN ?_ _ | refine Below.drew ?_ | refine frA ?_ _ | refine Fr.trans ?_ Hf8.out | refine Fr.trans ?_ Hf7.out | refine Fr.trans ?_ Hf6.out | refine Fr.trans ?_ Hf5.out | refine Fr.trans ?_ Hf4.out | refine Fr.trans ?_ Hf3.out | refine Fr.trans ?_ Hf2.out | refine Fr.trans ?_ Hf1.out)))) hm2).mono ?_; rintro e w5 ⟨B5, d5, rfl, hs5, hf5⟩; have hb0 := (hf5.cell (World.block_lt_of_cell? _ _ hb0)).trans hb0; have hb1 := (hf5.cell (World.block_lt_of_cell? _ _ hb1)).trans hb1) | (go_at_call 33; refine (cutJoin_any _ _ _ _ _ _ ls hs5 wB wK).mono ?_; rintro e w6 ⟨B6, n6, d6, rfl, hn6, hd6, hm6, hs6, hf6⟩))
    all_goals
      have hb0 := (hf6.cell (World.block_lt_of_cell? _ _ hb0)).trans hb0
      have hb1 := (hf6.cell (World.block_lt_of_cell? _ _ hb1)).trans hb1
      (have Hs5 := Lib.hid hs5; clear hs5; have Hf5 := Lib.hid hf5; clear hf5; have Hs6 := Lib.hid hs6; clear hs6; have Hf6 := Lib.hid hf6; clear hf6)
      go_wp2_with fail
      refine (parted_any _).mono ?_
      rintro e w7 ⟨rfl, hf7⟩
      have hb0 := (hf7.cell (World.block_lt_of_cell? _ _ hb0)).trans hb0
      have hb1 := (hf7.cell (World.block_lt_of_cell? _ _ hb1)).trans hb1
      (have Hf7 := Lib.hid hf7; clear hf7)
    all_goals
      go_wp2_with fail
      refine (cutCut_any _ _ _ _ _ _ (joinUp B K ls).1 (Hs6.out.go sByte (by (repeat' (first | exact Below.refl _ _ | refine below_drewN ?_ _ | refine Below.drew ?_ | refine frA ?_ _ | refine Fr.trans ?_ Hf8.out | refine Fr.trans ?_ Hf7.out | refine Fr.trans ?_ Hf6.out | refine Fr.trans ?_ Hf5.out | refine Fr.trans ?_ Hf4.out | refine Fr.trans ?_ Hf3.out | refine Fr.trans ?_ Hf2.out | refine Fr.trans ?_ Hf1.out)))) hd6 hm6 wB wK).mono ?_
      rw [E.out]
      rintro e w8 ⟨v8, rfl, ho8, hf8⟩
      obtain ⟨B8, d8, rfl, ⟨hd8, hm8⟩, hs8⟩ := ho8.slC wBlock (by decide)
      (have Hf8 := Lib.hid hf8; clear hf8; have Hs8 := Lib.hid hs8; clear hs8; have Ho8 := Lib.hid ho8; clear ho8)
      go_wp2_with fail
      refine (blocks_sl _ _ _ _ ls (H2.out.go wBlock (by (repeat' (first | exact Below.refl _ _ | refine below_drewN ?_ _ | refine Below.drew ?_ | refine frA ?_ _ | refine Fr.trans ?_ Hf8.out | refine Fr.trans ?_ Hf7.out | refine Fr.trans ?_ Hf6.out | refine Fr.trans ?_ Hf5.out | refine Fr.trans ?_ Hf4.out | refine Fr.trans ?_ Hf3.out | refine Fr.trans ?_ Hf2.out | refine Fr.trans ?_ Hf1.out)))) hm2).mono ?_
      rintro e w9 ⟨B9, d9, rfl, hs9, hf9⟩
      (have Hf9 := Lib.hid hf9; clear hf9; have Hs9 := Lib.hid hs9; clear hs9)
      go_wp2_with fail
      refine (equalFuncBlock_any _ _ enters2 saysEq2 _ _ _ _ _ _ _ _ ls ls (Hs8.out.go wBlock Hf9.out) Hs9.out (by unfold maxLen at *; omega)).mono ?_
      rintro e w10 ⟨rfl, m10, rfl⟩
      go_wp2_with fail
      go_ret
      exact ⟨by simp, (by (repeat' (first | exact Below.refl _ _ | refine below_drewN ?_ _ | refine Below.drew ?_ | refine frA ?_ _ | refine Fr.trans ?_ Hf9.out | refine Fr.trans ?_ Hf8.out | refine Fr.trans ?_ Hf7.out | refine Fr.trans ?_ Hf6.out | refine Fr.trans ?_ Hf5.out | refine Fr.trans ?_ Hf4.out | refine Fr.trans ?_ Hf3.out | refine Fr.trans ?_ Hf2.out | refine Fr.trans ?_ Hf1.out)))⟩
  · skip
    have hj : ((joinUp B K ls).2 != 0) = true := by rw [bne_iff_ne]; exact hjj
    clear hjj
    go_wp2_with fail
    go_region_with (first | (go_at_call 15; refine (blocks_sl _ _ _ _ ls (H2.out.go wBlock (by (repeat' (first | exact Below.refl _ _ | refine below_drewN ?_ _ | refine Below.drew ?_ | refine frA ?_ _ | refine Fr.trans ?_ Hf8.out | refine Fr.trans ?_ Hf7.out | refine Fr.trans ?_ Hf6.out | refine Fr.trans ?_ Hf5.out | refine Fr.trans ?_ Hf4.out | refine Fr.trans ?_ Hf3.out | refine Fr.trans ?_ Hf2.out | refine Fr.trans ?_ Hf1.out)))) hm2).mono ?_; rintro e w5 ⟨B5, d5, rfl, hs5, hf5⟩; have hb0 := (hf5.cell (World.block_lt_of_cell? _ _ hb0)).trans hb0; have hb1 := (hf5.cell (World.block_lt_of_cell? _ _ hb1)).trans hb1) | (go_at_call 33; refine (cutJoin_any _ _ _ _ _ _ ls hs5 wB wK).mono ?_; rintro e w6 ⟨B6, n6, d6, rfl, hn6, hd6, hm6, hs6, hf6⟩))
    all_goals
      have hb0 := (hf6.cell (World.block_lt_of_cell? _ _ hb0)).trans hb0
      have hb1 := (hf6.cell (World.block_lt_of_cell? _ _ hb1)).trans hb1
      (have Hs5 := Lib.hid hs5; clear hs5; have Hf5 := Lib.hid hf5; clear hf5; have Hs6 := Lib.hid hs6; clear hs6; have Hf6 := Lib.hid hf6; clear hf6)
      go_wp2_with fail
      refine (parted_any _).mono ?_
      rintro e w7 ⟨rfl, hf7⟩
      have hb0 := (hf7.cell (World.block_lt_of_cell? _ _ hb0)).trans hb0
      have hb1 := (hf7.cell (World.block_lt_of_cell? _ _ hb1)).trans hb1
      (have Hf7 := Lib.hid hf7; clear hf7)
    all_goals
      go_wp2_with fail
      refine (parted_any _).mono ?_
      rintro e w8 ⟨rfl, hf8⟩
      (have Hf8 := Lib.hid hf8; clear hf8)
      go_wp2_with fail
      go_ret
      exact ⟨rfl, (by (repeat' (first | exact Below.refl _ _ | refine below_drewN ?_ _ | refine Below.drew ?_ | refine frA ?_ _ | refine Fr.trans ?_ Hf8.out | refine Fr.trans ?_ Hf7.out | refine Fr.trans ?_ Hf6.out | refine Fr.trans ?_ Hf5.out | refine Fr.trans ?_ Hf4.out | refine Fr.trans ?_ Hf3.out | refine Fr.trans ?_ Hf2.out | refine Fr.trans ?_ Hf1.out)))⟩

set_option maxRecDepth 100000 in
set_option maxHeartbeats 2000000 in
theorem cutBack_ok (w : World) (b k : Nat) (A1 : Option Addr) (n1 c1 : Nat) (xs : List UInt8) (h1 : Sl 1 eByte w (LT w.heap.size) A1 n1 xs) (hc1 : n1 ≤ c1) (hx1 : c1 ≤ maxLen)
    (A2 : Option Addr) (n2 c2 : Nat) (ls : List (List UInt8)) (h2 : Sl 1 eBlock w (LT w.heap.size) A2 n2 ls) (hm2 : n2 * 24 ≤ lim) (hck : cutCheck b k = 0) (hl : xs.length = b) :
    Calls Try.prog 8 #[.agg #[.int .i64 b, .int .i64 k], .slice A1 n1 c1, .slice A2 n2 c2] w fun e w' => e = .returned (.bool true) ∧ Fr w w' := by
  obtain ⟨⟨b1, b2⟩, ⟨b3, b4⟩, _⟩ := cutCheck_ok hck
  have hb : 1 ≤ b ∧ b ≤ 360 ∧ 1 ≤ k ∧ k ≤ 16 := by omega
  obtain ⟨b1, b2, b3, b4⟩ := hb
  obtain ⟨q1, q2, q3⟩ := cutF_count hck hl
  obtain ⟨t1, t2, _, _⟩ := blocks_tight hck q3
  have wB : wfI (b : Int) := wfI.mk (by omega)
  have wK : wfI (k : Int) := wfI.mk (by omega)
  obtain ⟨X, hX⟩ : ∃ X, X = cutF k b xs := ⟨_, rfl⟩
  have E1 : Hid (cutUp b k xs = (X, 0)) := by rw [hX]; exact cutUp_ok hck hl
  have E2 : Hid (joinUp b k X = (xs, 0)) := by rw [hX]; exact join_cut hck hl
  have E3 : Hid (sumCheck X = 0) := by
    have hall : ∀ y ∈ X, y.length = k := by rw [hX]; exact cutF_all b3 b xs
    have hd : (X.headD []).length = k := by
      rw [← hX] at q1
      cases X with
      | nil => simp at q1
      | cons y r => exact hall y (by simp)
    unfold Hid sumCheck
    rw [hd]
    exact sumCheckFrom_of b3 b4 hall
  rw [← hX] at q1 q2 q3 t1 t2
  obtain ⟨nb, hnb⟩ : ∃ nb, X.length = nb := ⟨_, rfl⟩
  rw [hnb] at q1 q2 q3 t1 t2
  have CB := Lib.hid (fun W : World => cutBlocks_any W b k wB wK)
  rw [← q3] at CB
  have hmul : nb * k ≤ 24 * 16 := Nat.mul_le_mul q2 b4
  obtain ⟨p1, hp1⟩ : ∃ p1, p1 = nb * k := ⟨_, rfl⟩
  obtain ⟨p2, hp2⟩ : ∃ p2, p2 = (nb - 1) * k := ⟨_, rfl⟩
  have hm1 : (nb : Int) * k = p1 := by rw [hp1]; simp
  have hm22 : ((nb : Int) - 1) * k = p2 := by rw [hp2, show ((nb : Int) - 1) = ((nb - 1 : Nat) : Int) from by omega]; simp
  rw [← hp1] at t1 hmul
  rw [← hp2] at t2
  have hlt1 : decide ((p1 : Int) < (b : Int)) = false := by simp; omega
  have hlt2 : decide ((b : Int) ≤ (p2 : Int)) = false := by simp; omega
  have hnn : ((nb : Int) != (nb : Int)) = false := by simp
  have HNB := Lib.hid hnb
  have HQ3 := Lib.hid q3
  have hn1 : Hid (n1 = b) := h1.1.symm.trans hl
  clear hX hp1 hp2 hnb q3 hck hl
  (have H1 := Lib.hid h1; clear h1; have H2 := Lib.hid h2; clear h2)
  go_enter Try.func8, Try.ntmps8
  go_wp2_with fail
  refine (cutCut_any _ _ _ _ _ _ xs (H1.out.go sByte (by (repeat' (first | exact Below.refl _ _ | refine below_drewN ?_ _ | refine Below.drew ?_ | refine frA ?_ _ | refine Fr.trans ?_ Hf1.out)))) hc1 hx1 wB wK).mono ?_
  rw [E1.out]
  rintro e w1 ⟨v, rfl, ho, hf1⟩
  obtain ⟨B1, d1, rfl, ⟨hd1, hd2⟩, hs1⟩ := ho.slC wBlock (by decide)
  rw [HNB.out] at hs1 hd1 ⊢
  obtain ⟨hb0, hb1⟩ := box2 hf1
  (have Hf1 := Lib.hid hf1; clear hf1; have Hs1 := Lib.hid hs1; clear hs1; have Ho := Lib.hid ho; clear ho)
  go_wp2_with fail
  refine (cutJoin_any _ _ _ _ _ _ X Hs1.out wB wK).mono ?_
  rw [E2.out]
  rintro e w2 ⟨B2, m2, d2, rfl, hm3, hd3, hm4, hs2, hf2⟩
  have hb0 := (hf2.cell (World.block_lt_of_cell? _ _ hb0)).trans hb0
  have hb1 := (hf2.cell (World.block_lt_of_cell? _ _ hb1)).trans hb1
  (have Hs2 := Lib.hid hs2; clear hs2; have Hf2 := Lib.hid hf2; clear hf2)
  go_wp2_with fail
  refine (equalBytes_any _ _ _ _ _ _ _ _ _ xs xs Hs2.out (H1.out.go sByte (by (repeat' (first | exact Below.refl _ _ | refine below_drewN ?_ _ | refine Below.drew ?_ | refine frA ?_ _ | refine Fr.trans ?_ Hf2.out | refine Fr.trans ?_ Hf1.out)))) (by unfold maxLen at *; omega)).mono ?_
  rintro e w3 ⟨rfl, m3, rfl⟩
  go_wp2_with fail
  refine (CB.out _).mono ?_
  rintro e w4 ⟨rfl, hf4⟩
  have hf3 : Fr w2 w4 := (frDrewN _ _).trans hf4
  have hb0 := (hf3.cell (World.block_lt_of_cell? _ _ hb0)).trans hb0
  have hb1 := (hf3.cell (World.block_lt_of_cell? _ _ hb1)).trans hb1
  clear hf4
  (have Hf3 := Lib.hid hf3; clear hf3)
  go_wp2_with fail
  refine (sumCheck_any _ _ _ _ _ X (Hs1.out.go wBlock (by (repeat' (first | exact Below.refl _ _ | refine below_drewN ?_ _ | refine Below.drew ?_ | refine frA ?_ _ | refine Fr.trans ?_ Hf3.out | refine Fr.trans ?_ Hf2.out | refine Fr.trans ?_ Hf1.out)))) (by unfold lim; omega)).mono ?_
  rw [E3.out]
  rintro e w5 ⟨rfl, rfl⟩
  by_cases hjj : (joinUp b k ls).2 = 0
  · skip
    have hj : ((joinUp b k ls).2 != 0) = false := by rw [hjj]; rfl
    have E := Lib.hid (cut_join hjj)
    clear hjj
    go_wp2_with fail
    go_region_with (first | (go_at_call 15; refine (blocks_sl _ _ _ _ ls (H2.out.go wBlock (by (repeat' (first | exact Below.refl _ _ | refine below_drewN ?_ _ | refine Below.drew ?_ | refine frA ?_ _ | refine Fr.trans ?_ Hf8.out | refine Fr.trans ?_ Hf7.out | refine Fr.trans ?_ Hf6.out | refine Fr.trans ?_ Hf5.out | refine Fr.trans ?_ Hf4.out | refine Fr.trans ?_ Hf3.out | refine Fr.trans ?_ Hf2.out | refine Fr.trans ?_ Hf1.out)))) hm2).mono ?_; rintro e w5 ⟨B5, d5, rfl, hs5, hf5⟩; have hb0 := (hf5.cell (World.block_lt_of_cell? _ _ hb0)).trans hb0; have hb1 := (hf5.cell (World.block_lt_of_cell? _ _ hb1)).trans hb1) | (go_at_call 33; refine (cutJoin_any _ _ _ _ _ _ ls hs5 wB wK).mono ?_; rintro e w6 ⟨B6, n6, d6, rfl, hn6, hd6, hm6, hs6, hf6⟩))
    all_goals
      have hb0 := (hf6.cell (World.block_lt_of_cell? _ _ hb0)).trans hb0
      have hb1 := (hf6.cell (World.block_lt_of_cell? _ _ hb1)).trans hb1
      (have Hs5 := Lib.hid hs5; clear hs5; have Hf5 := Lib.hid hf5; clear hf5; have Hs6 := Lib.hid hs6; clear hs6; have Hf6 := Lib.hid hf6; clear hf6)
      go_wp2_with fail
      refine (parted_any _).mono ?_
      rintro e w7 ⟨rfl, hf7⟩
      have hb0 := (hf7.cell (World.block_lt_of_cell? _ _ hb0)).trans hb0
      have hb1 := (hf7.cell (World.block_lt_of_cell? _ _ hb1)).trans hb1
      (have Hf7 := Lib.hid hf7; clear hf7)
    all_goals
      go_wp2_with fail
      refine (cutCut_any _ _ _ _ _ _ (joinUp b k ls).1 (Hs6.out.go sByte (by (repeat' (first | exact Below.refl _ _ | refine below_drewN ?_ _ | refine Below.drew ?_ | refine frA ?_ _ | refine Fr.trans ?_ Hf8.out | refine Fr.trans ?_ Hf7.out | refine Fr.trans ?_ Hf6.out | refine Fr.trans ?_ Hf5.out | refine Fr.trans ?_ Hf4.out | refine Fr.trans ?_ Hf3.out | refine Fr.trans ?_ Hf2.out | refine Fr.trans ?_ Hf1.out)))) hd6 hm6 wB wK).mono ?_
      rw [E.out]
      rintro e w8 ⟨v8, rfl, ho8, hf8⟩
      obtain ⟨B8, d8, rfl, ⟨hd8, hm8⟩, hs8⟩ := ho8.slC wBlock (by decide)
      (have Hf8 := Lib.hid hf8; clear hf8; have Hs8 := Lib.hid hs8; clear hs8; have Ho8 := Lib.hid ho8; clear ho8)
      go_wp2_with fail
      refine (blocks_sl _ _ _ _ ls (H2.out.go wBlock (by (repeat' (first | exact Below.refl _ _ | refine below_drewN ?_ _ | refine Below.drew ?_ | refine frA ?_ _ | refine Fr.trans ?_ Hf8.out | refine Fr.trans ?_ Hf7.out | refine Fr.trans ?_ Hf6.out | refine Fr.trans ?_ Hf5.out | refine Fr.trans ?_ Hf4.out | refine Fr.trans ?_ Hf3.out | refine Fr.trans ?_ Hf2.out | refine Fr.trans ?_ Hf1.out)))) hm2).mono ?_
      rintro e w9 ⟨B9, d9, rfl, hs9, hf9⟩
      (have Hf9 := Lib.hid hf9; clear hf9; have Hs9 := Lib.hid hs9; clear hs9)
      go_wp2_with fail
      refine (equalFuncBlock_any _ _ enters2 saysEq2 _ _ _ _ _ _ _ _ ls ls (Hs8.out.go wBlock Hf9.out) Hs9.out (by unfold maxLen at *; omega)).mono ?_
      rintro e w10 ⟨rfl, m10, rfl⟩
      go_wp2_with fail
      go_ret
      exact ⟨by simp, (by (repeat' (first | exact Below.refl _ _ | refine below_drewN ?_ _ | refine Below.drew ?_ | refine frA ?_ _ | refine Fr.trans ?_ Hf9.out | refine Fr.trans ?_ Hf8.out | refine Fr.trans ?_ Hf7.out | refine Fr.trans ?_ Hf6.out | refine Fr.trans ?_ Hf5.out | refine Fr.trans ?_ Hf4.out | refine Fr.trans ?_ Hf3.out | refine Fr.trans ?_ Hf2.out | refine Fr.trans ?_ Hf1.out)))⟩
  · skip
    have hj : ((joinUp b k ls).2 != 0) = true := by rw [bne_iff_ne]; exact hjj
    clear hjj
    go_wp2_with fail
    go_region_with (first | (go_at_call 15; refine (blocks_sl _ _ _ _ ls (H2.out.go wBlock (by (repeat' (first | exact Below.refl _ _ | refine below_drewN ?_ _ | refine Below.drew ?_ | refine frA ?_ _ | refine Fr.trans ?_ Hf8.out | refine Fr.trans ?_ Hf7.out | refine Fr.trans ?_ Hf6.out | refine Fr.trans ?_ Hf5.out | refine Fr.trans ?_ Hf4.out | refine Fr.trans ?_ Hf3.out | refine Fr.trans ?_ Hf2.out | refine Fr.trans ?_ Hf1.out)))) hm2).mono ?_; rintro e w5 ⟨B5, d5, rfl, hs5, hf5⟩; have hb0 := (hf5.cell (World.block_lt_of_cell? _ _ hb0)).trans hb0; have hb1 := (hf5.cell (World.block_lt_of_cell? _ _ hb1)).trans hb1) | (go_at_call 33; refine (cutJoin_any _ _ _ _ _ _ ls hs5 wB wK).mono ?_; rintro e w6 ⟨B6, n6, d6, rfl, hn6, hd6, hm6, hs6, hf6⟩))
    all_goals
      have hb0 := (hf6.cell (World.block_lt_of_cell? _ _ hb0)).trans hb0
      have hb1 := (hf6.cell (World.block_lt_of_cell? _ _ hb1)).trans hb1
      (have Hs5 := Lib.hid hs5; clear hs5; have Hf5 := Lib.hid hf5; clear hf5; have Hs6 := Lib.hid hs6; clear hs6; have Hf6 := Lib.hid hf6; clear hf6)
      go_wp2_with fail
      refine (parted_any _).mono ?_
      rintro e w7 ⟨rfl, hf7⟩
      have hb0 := (hf7.cell (World.block_lt_of_cell? _ _ hb0)).trans hb0
      have hb1 := (hf7.cell (World.block_lt_of_cell? _ _ hb1)).trans hb1
      (have Hf7 := Lib.hid hf7; clear hf7)
    all_goals
      go_wp2_with fail
      refine (parted_any _).mono ?_
      rintro e w8 ⟨rfl, hf8⟩
      (have Hf8 := Lib.hid hf8; clear hf8)
      go_wp2_with fail
      go_ret
      exact ⟨rfl, (by (repeat' (first | exact Below.refl _ _ | refine below_drewN ?_ _ | refine Below.drew ?_ | refine frA ?_ _ | refine Fr.trans ?_ Hf8.out | refine Fr.trans ?_ Hf7.out | refine Fr.trans ?_ Hf6.out | refine Fr.trans ?_ Hf5.out | refine Fr.trans ?_ Hf4.out | refine Fr.trans ?_ Hf3.out | refine Fr.trans ?_ Hf2.out | refine Fr.trans ?_ Hf1.out)))⟩

theorem cutBack_any (w : World) (B K : Int) (wB : wfI B) (wK : wfI K) (A1 : Option Addr) (n1 c1 : Nat) (xs : List UInt8) (h1 : Sl 1 eByte w (LT w.heap.size) A1 n1 xs) (hm1 : n1 * 1 ≤ lim) (hc1 : n1 ≤ c1) (hx1 : c1 ≤ maxLen)
    (A2 : Option Addr) (n2 c2 : Nat) (ls : List (List UInt8)) (h2 : Sl 1 eBlock w (LT w.heap.size) A2 n2 ls) (hm2 : n2 * 24 ≤ lim) (hc2 : n2 ≤ c2) (hx2 : c2 ≤ maxLen) :
    Calls Try.prog 8 #[.agg #[.int .i64 B, .int .i64 K], .slice A1 n1 c1, .slice A2 n2 c2] w fun e w' => e = .returned (.bool true) ∧ Fr w w' := by
  by_cases h : (cutUp B K xs).2 = 0
  · obtain ⟨h3, h4⟩ := cutUp_err h
    obtain ⟨b, rfl⟩ := Int.eq_ofNat_of_zero_le (show 0 ≤ B by omega)
    obtain ⟨k, rfl⟩ := Int.eq_ofNat_of_zero_le (show 0 ≤ K by have := (cutCheck_ok h3).2.1; omega)
    exact cutBack_ok w b k A1 n1 c1 xs h1 hc1 hx1 A2 n2 c2 ls h2 hm2 h3 (by omega)
  · exact cutBack_err w B K wB wK A1 n1 c1 xs h1 hc1 hx1 A2 n2 c2 ls h2 hm2 h
end Go.Proofs.Ytahkpbenebmmdaa
