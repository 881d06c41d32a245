/- The walk of CutBegins. No condition. -/
import Derived.Test.YtahkpbenebmmdaaCutLaw
import Derived.Deep.RegionWith
set_option linter.unusedSimpArgs false
set_option linter.unusedVariables false
namespace Go.Proofs.Ytahkpbenebmmdaa
open Go.RowKit

theorem saysEq1 : SaysEq Try.prog 32 := by
  intro W S T A A' n c n' c' xs ys h h' hm
  have H := Lib.hid h
  have H' := Lib.hid h'
  clear h h'
  go_enter Try.func32, Try.ntmps32
  go_wp2_with fail
  refine (equalBlock_any _ _ _ _ _ _ _ _ _ _ _ H.out H'.out hm).mono ?_
  rintro e w' ⟨rfl, m, rfl⟩
  go_wp2_with fail
  go_ret
  exact ⟨rfl, m, rfl⟩
theorem enters1 : ∀ (args : Array Value) (W : World), (callFunc 32 args).run Try.prog W = .ok (.enter 32 args) W :=
  enters Try.func32 (by kernel_rfl) (by kernel_rfl)

set_option maxRecDepth 100000 in
set_option maxHeartbeats 1000000 in
theorem cutBegins_ok (w : World) (B K : Nat) (A1 : Option Addr) (n1 c1 : Nat) (xs : List UInt8) (h1 : Sl 1 eByte w (LT w.heap.size) A1 n1 xs) (hc1 : n1 ≤ c1) (hm1 : c1 ≤ maxLen) (k : Int) (hck : cutCheck B K = 0) (hl : xs.length = B) :
    Calls Try.prog 7 #[.agg #[.int .i64 B, .int .i64 K], .slice A1 n1 c1, .int .i64 k] w fun e w' => e = .returned (.bool true) ∧ Fr w w' := by
  obtain rfl : n1 = B := h1.1.symm.trans hl
  obtain ⟨⟨b1, b2⟩, ⟨b3, b4⟩, _⟩ := cutCheck_ok hck
  have hb : 1 ≤ n1 ∧ n1 ≤ 360 ∧ 1 ≤ K ∧ K ≤ 16 := by omega
  obtain ⟨b1, b2, b3, b4⟩ := hb
  obtain ⟨q1, q2, _⟩ := cutF_count hck hl
  obtain ⟨X, hX⟩ : ∃ X, X = cutF K n1 xs := ⟨_, rfl⟩
  have E1 : Hid (cutUp n1 K xs = (X, 0)) := by rw [hX]; exact cutUp_ok hck hl
  have E2 : Hid (∀ j, 1 ≤ j → j ≤ X.length → cutUp (min (j * K) n1 : Nat) K (xs.take (min (j * K) n1)) = (X.take j, 0)) := by
    rw [hX]; exact fun j ha hb => cut_begins hck hl ha hb
  rw [← hX] at q1 q2
  obtain ⟨nb, hnb⟩ : ∃ nb, X.length = nb := ⟨_, rfl⟩
  rw [hnb] at q1 q2
  obtain ⟨j, hj1, hj2, hjk⟩ : ∃ j : Nat, 1 ≤ j ∧ j ≤ nb ∧ (1 : Int) + k % nb = j := by
    have := Int.emod_nonneg k (show (nb : Int) ≠ 0 by omega)
    have := Int.emod_lt_of_pos k (show (0 : Int) < nb by omega)
    exact ⟨(1 + k % nb).toNat, by omega, by omega, by omega⟩
  have E3 := Lib.hid (E2.out j hj1 (by omega))
  have hmul : j * K ≤ 24 * 16 := Nat.mul_le_mul (by omega) b4
  have hmul1 : 1 ≤ j * K := Nat.mul_le_mul hj1 b3
  obtain ⟨jk, hjkm⟩ : ∃ jk, jk = j * K := ⟨_, rfl⟩
  have hmI : (j : Int) * K = jk := by rw [hjkm]; simp
  rw [← hjkm] at hmul hmul1 E3
  obtain ⟨q, hq⟩ : ∃ q, q = k % (nb : Int) := ⟨_, rfl⟩
  rw [← hq] at hjk
  have AT := Lib.hid (fun W : World => at_any W k nb (by omega) (by unfold lim; omega))
  rw [← hq] at AT
  have HJ := Lib.hid hjk
  have hjk2 : (1 : Int) + q = j := hjk
  have HNB := Lib.hid hnb
  clear hX E2 hjk hq hjkm hck hl hnb
  (have H1 := Lib.hid h1; clear h1)
  go_enter Try.func7, Try.ntmps7
  go_wp2_with fail
  refine (cutCut_any _ _ _ _ _ _ xs (H1.out.go sByte (by (repeat' (first | exact Below.refl _ _ | refine below_drewN ?_ _ | refine Below.drew ?_ | refine frA ?_ _ | refine Fr.trans ?_ Hf1.out)))) hc1 hm1 (wfI.mk (by omega)) (wfI.mk (by omega))).mono ?_
  rw [E1.out]
  rintro e w1 ⟨v, rfl, ho, hf1⟩
  obtain ⟨B1, d1, rfl, ⟨hd1, hd2⟩, hs1⟩ := ho.slC wBlock (by decide)
  rw [HNB.out] at hs1 hd1 ⊢
  obtain ⟨hb0, hb1⟩ := box2 hf1
  (have Hf1 := Lib.hid hf1; clear hf1; have Hs1 := Lib.hid hs1; clear hs1; have Ho := Lib.hid ho; clear ho)
  go_wp2_with fail
  refine (parted_any _).mono ?_
  rintro e w2 ⟨rfl, hf2⟩
  have hb0' := (hf2.cell (World.block_lt_of_cell? w1 _ hb0)).trans hb0
  have hb1' := (hf2.cell (World.block_lt_of_cell? w1 _ hb1)).trans hb1
  (have Hf2 := Lib.hid hf2; clear hf2)
  go_wp2_with fail
  refine (AT.out _).mono ?_
  rintro e w3 ⟨rfl, rfl⟩
  rcases Nat.lt_or_ge n1 jk with hmn | hmn
  all_goals
    first | rw [Nat.min_eq_right (Nat.le_of_lt hmn)] at E3 | rw [Nat.min_eq_left hmn] at E3
    go_wp2_with fail
    go_region_with (go_at_call 29; refine (cutCut_any _ _ _ _ _ _ _ ((H1.out.go sByte (by (repeat' (first | exact Below.refl _ _ | refine below_drewN ?_ _ | refine Below.drew ?_ | refine frA ?_ _ | refine Fr.trans ?_ Hf3.out | refine Fr.trans ?_ Hf2.out | refine Fr.trans ?_ Hf1.out)))).pre (by omega)) (by omega) (by omega) (wfI.mk (by omega)) (wfI.mk (by omega))).mono ?_; rw [E3.out]; rintro e w4 ⟨v4, rfl, ho4, hf4⟩)
    all_goals
      obtain ⟨B4, d4, rfl, ⟨hd3, hd4⟩, hs4⟩ := ho4.slC wBlock (by decide)
      have hjl : (X.take j).length = j := by rw [List.length_take, HNB.out]; omega
      rw [hjl] at hs4 hd3 ⊢
      clear ho4 hjl
      (have Hs4 := Lib.hid hs4; clear hs4; have Hf4 := Lib.hid hf4; clear hf4)
      go_wp2_with fail
      refine (equalFuncBlock_any _ _ enters1 saysEq1 _ _ _ _ _ _ _ _ (X.take j) (X.take j) ((Hs1.out.go wBlock (by (repeat' (first | exact Below.refl _ _ | refine below_drewN ?_ _ | refine Below.drew ?_ | refine frA ?_ _ | refine Fr.trans ?_ Hf4.out | refine Fr.trans ?_ Hf3.out | refine Fr.trans ?_ Hf2.out | refine Fr.trans ?_ Hf1.out)))).pre hj2) Hs4.out (by unfold maxLen; omega)).mono ?_
      rintro e w5 ⟨rfl, m5, rfl⟩
      go_wp2_with fail
      go_ret
      exact ⟨by simp, by (repeat' (first | exact Below.refl _ _ | refine below_drewN ?_ _ | refine Below.drew ?_ | refine frA ?_ _ | refine Fr.trans ?_ Hf4.out | refine Fr.trans ?_ Hf2.out | refine Fr.trans ?_ Hf1.out))⟩

theorem cutBegins_any (w : World) (B K : Int) (wB : wfI B) (wK : wfI K) (A1 : Option Addr) (n1 c1 : Nat) (xs : List UInt8) (h1 : Sl 1 eByte w (LT w.heap.size) A1 n1 xs) (hm1 : n1 * 1 ≤ lim) (hc1 : n1 ≤ c1) (hx1 : c1 ≤ maxLen) (k : Int) (wk : wfI k) :
    Calls Try.prog 7 #[.agg #[.int .i64 B, .int .i64 K], .slice A1 n1 c1, .int .i64 k] w fun e w' => e = .returned (.bool true) ∧ Fr w w' := by
  by_cases h : (cutUp B K xs).2 = 0
  · obtain ⟨h2, h3⟩ := cutUp_err h
    obtain ⟨b, rfl⟩ := Int.eq_ofNat_of_zero_le (show 0 ≤ B by omega)
    obtain ⟨k', rfl⟩ := Int.eq_ofNat_of_zero_le (show 0 ≤ K by have := (cutCheck_ok h2).2.1; omega)
    exact cutBegins_ok w b k' A1 n1 c1 xs h1 hc1 hx1 k h2 (by omega)
  · have hne : ((cutUp B K xs).2 != 0) = true := by rw [bne_iff_ne]; exact h
    clear h wk
    (have H1 := Lib.hid h1; clear h1)
    go_enter Try.func7, Try.ntmps7
    go_wp2_with fail
    refine (cutCut_any _ _ _ _ _ _ xs (H1.out.go sByte (by (repeat' (first | exact Below.refl _ _ | refine below_drewN ?_ _ | refine Below.drew ?_ | refine frA ?_ _ | refine Fr.trans ?_ Hf1.out)))) hc1 hx1 wB wK).mono ?_
    rintro e w1 ⟨v, rfl, ho, hf1⟩
    (have Hf1 := Lib.hid hf1; clear hf1; have Ho := Lib.hid ho; clear ho)
    go_wp2_with fail
    refine (parted_any _).mono ?_
    rintro e w2 ⟨rfl, hf2⟩
    (have Hf2 := Lib.hid hf2; clear hf2)
    go_wp2_with fail
    refine (parted_any _).mono ?_
    rintro e w3 ⟨rfl, hf3⟩
    (have Hf3 := Lib.hid hf3; clear hf3)
    go_wp2_with fail
    go_ret
    exact ⟨rfl, (by (repeat' (first | exact Below.refl _ _ | refine below_drewN ?_ _ | refine Below.drew ?_ | refine frA ?_ _ | refine Fr.trans ?_ Hf3.out | refine Fr.trans ?_ Hf2.out | refine Fr.trans ?_ Hf1.out)))⟩
end Go.Proofs.Ytahkpbenebmmdaa
