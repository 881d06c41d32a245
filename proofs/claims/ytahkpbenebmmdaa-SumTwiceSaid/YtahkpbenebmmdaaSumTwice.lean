/- 'SumTwice', walked. No condition. -/
import Derived.Test.YtahkpbenebmmdaaTwiceP
import Derived.Test.YtahkpbenebmmdaaDel
import Derived.Test.YtahkpbenebmmdaaSumLaw
import Derived.Test.YtahkpbenebmmdaaCutLaw
set_option linter.unusedSimpArgs false
set_option linter.unusedVariables false
namespace Go.Proofs.Ytahkpbenebmmdaa
open Go.RowKit

/-- Blocks, laid in one row. -/
theorem Sl.pick {w : World} {b : Nat} {vs : List Value} {t : TypeId} {fr : Nat × Nat} {S : Nat → Prop} {n : Nat} {ls : List (List UInt8)}
    (hb : w.heap[b]? = some (.cells vs.toArray t fr)) (hS : S b) (hn : ls.length = n) (h : ∀ (i : Nat) (l : List UInt8), ls[i]? = some l → ∃ A m c, vs[i]? = some (Value.slice A m c) ∧ (m ≤ lim ∧ m ≤ c ∧ c ≤ maxLen) ∧ Sl 1 eByte w S A m l) : Sl 1 eBlock w S (some ⟨b, 0, none⟩) n ls :=
  .lit hb hS hn fun i x hx => by
    obtain ⟨A, m, c, h0, h1, h2⟩ := h i x hx
    exact ⟨A, m, c, by simpa using h0, by simpa using h1, h2⟩

set_option maxRecDepth 100000 in
set_option maxHeartbeats 2000000 in
theorem sumTwice_any (w : World) (A : Option Addr) (n c : Nat) (ls : List (List UInt8)) (h : Sl 1 eBlock w (LT w.heap.size) A n ls) (hm : n * 24 ≤ lim) (hc : n ≤ c) (hcm : c ≤ maxLen) (k : Int) (wk : wfI k) :
    Calls Try.prog 6 #[.slice A n c, .int .i64 k] w fun e w' => e = .returned (.bool true) ∧ Fr w w' := by
  have hm' : n ≤ lim := by omega
  have H := Lib.hid h
  have hn := h.1
  obtain ⟨s, hs⟩ : ∃ s, s = (sumAdd ls).1 := ⟨_, rfl⟩
  obtain ⟨q, hq⟩ : ∃ q, q = (sumAdd ls).2 := ⟨_, rfl⟩
  have E : Hid (sumAdd ls = (s, q)) := by rw [Hid, hs, hq]
  by_cases hz : q = 0
  · subst hz
    have hpos : 0 < n := by
      rcases Nat.eq_zero_or_pos n with h0 | h0
      · rw [sumAdd_none (by omega)] at hq; cases hq
      · exact h0
    have hk0 := Int.emod_nonneg k (show (n : Int) ≠ 0 by omega)
    have hk1 := Int.emod_lt_of_pos k (show (0 : Int) < n by omega)
    obtain ⟨kk, hkk⟩ : ∃ kk : Nat, (kk : Int) = k % n := ⟨(k % n).toNat, Int.toNat_of_nonneg hk0⟩
    have hkn : kk < n := by omega
    have Hkl : Hid (kk < ls.length) := by rw [Hid, hn]; exact hkn
    have Hwk : Hid (wrap64 ((kk : Int) + 1) = (kk : Int) + 1) := IntWalk.wrap64_in _ (by unfold lim at hm'; omega)
    obtain ⟨ad, rfl, hE⟩ := h.els hpos
    obtain ⟨A', n', c', x, hx, hcx, hm1, hm2, hm3, hsx⟩ := hE.blockC hkn
    obtain ⟨p1, p2, p3, p4, p5, p6, p7⟩ := sumTwice_plain E.out hx
    have hSx := hsx
    have had := hE.2.1
    clear hE hk0 hk1
    (have H := Lib.hid h; clear h; have Hn := Lib.hid hn; clear hn; have Hs := Lib.hid hs; clear hs; have Hq := Lib.hid hq; clear hq; have Hkk := Lib.hid hkk; clear hkk; have Hx := Lib.hid hx; clear hx; have P1 := Lib.hid p1; clear p1; have P2 := Lib.hid p2; clear p2; have P3 := Lib.hid p3; clear p3; have P4 := Lib.hid p4; clear p4; have P5 := Lib.hid p5; clear p5; have Hsx := Lib.hid hsx; clear hsx; have HSx := Lib.hid hSx; clear hSx)
    go_enter Try.func6, Try.ntmps6
    go_wp2_with fail
    refine (blocks_sl _ _ _ _ _ H.out hm).mono ?_
    rintro e w1 ⟨B1, d1, rfl, hs1, hf1⟩
    (have Hs1 := Lib.hid hs1; clear hs1; have Hf1 := Lib.hid hf1; clear hf1)
    go_wp2_with fail
    refine (sumAdd_any _ _ _ _ _ Hs1.out hm').mono ?_
    rw [E.out]
    rintro e w2 ⟨B2, m2, d2, rfl, hd2, _, hs2, hf2⟩
    (have Hs2 := Lib.hid hs2; clear hs2; have Hf2 := Lib.hid hf2; clear hf2; have Hd2 := Lib.hid hd2; clear hd2)
    go_wp2_with fail
    refine (added_any _).mono ?_
    rintro e w3 ⟨rfl, hf3⟩
    (have Hf3 := Lib.hid hf3; clear hf3)
    go_wp2_with fail
    refine (at_any _ _ _ hpos hm').mono ?_
    rintro e w4 ⟨rfl, rfl⟩
    rw [← Hkk.out]
    have hF3 : Fr w w3 := (by (repeat' (first | exact Below.refl _ _ | refine below_drewN ?_ _ | refine Below.drew ?_ | refine frA ?_ _ | refine Fr.trans ?_ Hf3.out | refine Fr.trans ?_ Hf2.out | refine Fr.trans ?_ Hf1.out)))
    have hcx3 := (hF3.cell (p := ad.add kk) (by rw [block_of_add]; exact had)).trans hcx
    clear hcx
    (have HF3 := Lib.hid hF3; clear hF3)
    go_wp2_with fail
    refine (sumAdd_any _ (some ⟨w3.heap.size, 0, none⟩) 3 _ [s, x, x] ?_ (by unfold lim; omega)).mono ?_
    · refine Sl.pick (t := 29) (fr := (0, 0)) (vs := [.slice B2 m2 d2, .slice A' n' c', .slice A' n' c']) (by (repeat' (first | (refine heap_new ?_; (first | (simp; done) | rfl); done) | refine heap_dn ?_ | refine heap_d ?_ | refine heap_old ?_))) (by simp [LT]) rfl ?_
      intro i y hy
      have hd := Hd2.out
      match i, hy with
      | 0, hy => obtain rfl : s = y := by simpa using hy
                 exact ⟨B2, m2, d2, rfl, ⟨by unfold lim; omega, hd.2.1, by unfold maxLen; omega⟩, Hs2.out.go sByte (Hf3.out.trans (frAlloc _ _))⟩
      | 1, hy => obtain rfl : x = y := by simpa using hy
                 exact ⟨A', n', c', rfl, ⟨hm1, hm2, hm3⟩, HSx.out.go sByte (HF3.out.trans (frAlloc _ _))⟩
      | 2, hy => obtain rfl : x = y := by simpa using hy
                 exact ⟨A', n', c', rfl, ⟨hm1, hm2, hm3⟩, HSx.out.go sByte (HF3.out.trans (frAlloc _ _))⟩
      | i + 3, hy => simp at hy
    rw [P1.out]
    rintro e w5 ⟨B5, m5, d5, rfl, hd5, _, hs5, hf5⟩
    have hf35 : Fr w3 w5 := (frAlloc _ _).trans hf5
    have hm2x : m2 ≤ maxLen := by have := Hd2.out; unfold maxLen; omega
    clear hd5 hf5
    (have Hs5 := Lib.hid hs5; clear hs5; have Hf35 := Lib.hid hf35; clear hf35)
    go_wp2_with fail
    refine (same_any _ _ _ _ _ _ _ _ _ s s (Hs2.out.go sByte (by (repeat' (first | exact Below.refl _ _ | refine below_drewN ?_ _ | refine Below.drew ?_ | refine frA ?_ _ | refine Fr.trans ?_ Hf35.out | refine Fr.trans ?_ Hf3.out)))) Hs5.out hm2x).mono ?_
    rintro e w6 ⟨rfl, m6, hw6⟩
    have hf6 : Fr w5 w6 := by rw [hw6]; exact frDrewN _ _
    clear hw6
    (have Hf6 := Lib.hid hf6; clear hf6)
    go_wp2_with fail
    refine (blocks_any _ _ _ _ _ (H.out.go wBlock (by (repeat' (first | exact Below.refl _ _ | refine below_drewN ?_ _ | refine Below.drew ?_ | refine frA ?_ _ | refine Fr.trans ?_ Hf6.out | refine Fr.trans ?_ Hf35.out | refine Fr.trans ?_ HF3.out)))) hm).mono ?_
    rintro e w7 ⟨v7, rfl, ho7, hf7⟩
    have hlp : 0 < ls.length := by have := Hn.out; omega
    (have Ho7 := Lib.hid ho7; clear ho7; have Hf7 := Lib.hid hf7; clear hf7)
    go_wp2_with fail
    refine (reverse_own _ _ _ _ Ho7.out hlp (by have := Hn.out; omega)).mono ?_
    rintro e w8 ⟨rfl, ho8, hg8, hb8⟩
    have hf8 : Fr w6 w8 := Hf7.out.grown hg8 Hf7.out.size hb8
    obtain ⟨A8, c8, rfl, hl8, hs8⟩ := ho8.slC wBlock (by decide)
    have hrl : ls.reverse.length = n := by rw [List.length_reverse]; exact Hn.out
    rw [hrl] at hs8 hl8 ⊢
    clear hg8 hb8
    (have Hf8 := Lib.hid hf8; clear hf8; have Hs8 := Lib.hid hs8; clear hs8; have Ho8 := Lib.hid ho8; clear ho8; have Hrl := Lib.hid hrl; clear hrl; have Ho7 := Lib.hid Ho7; clear Ho7)
    go_wp2_with fail
    refine (sumAdd_any _ _ _ _ _ Hs8.out hm').mono ?_
    rw [P2.out]
    rintro e w9 ⟨B9, m9, d9, rfl, hd9, _, hs9, hf9⟩
    clear hd9
    (have Hs9 := Lib.hid hs9; clear hs9; have Hf9 := Lib.hid hf9; clear hf9)
    go_wp2_with fail
    refine (same_any _ _ _ _ _ _ _ _ _ s s (Hs2.out.go sByte (by (repeat' (first | exact Below.refl _ _ | refine below_drewN ?_ _ | refine Below.drew ?_ | refine frA ?_ _ | refine Fr.trans ?_ Hf9.out | refine Fr.trans ?_ Hf8.out | refine Fr.trans ?_ Hf6.out | refine Fr.trans ?_ Hf35.out | refine Fr.trans ?_ Hf3.out)))) Hs9.out hm2x).mono ?_
    rintro e w10 ⟨rfl, m10, hw10⟩
    have hf10 : Fr w9 w10 := by rw [hw10]; exact frDrewN _ _
    clear hw10
    (have Hf10 := Lib.hid hf10; clear hf10)
    go_wp2_with fail
    refine (blocks_any _ _ _ _ _ (H.out.go wBlock (by (repeat' (first | exact Below.refl _ _ | refine below_drewN ?_ _ | refine Below.drew ?_ | refine frA ?_ _ | refine Fr.trans ?_ Hf10.out | refine Fr.trans ?_ Hf9.out | refine Fr.trans ?_ Hf8.out | refine Fr.trans ?_ Hf6.out | refine Fr.trans ?_ Hf35.out | refine Fr.trans ?_ HF3.out)))) hm).mono ?_
    rintro e w11 ⟨v11, rfl, ho11, hf11⟩
    (have Ho11 := Lib.hid ho11; clear ho11; have Hf11 := Lib.hid hf11; clear hf11)
    have hwk := Hwk.out
    go_wp2_with fail
    (with_reducible refine (deleteBlock_own _ _ kk _ _ Ho11.out Hkl.out).mono ?_)
    clear hwk
    rintro e w12 ⟨v12, rfl, ho12, hg12, hb12⟩
    have hf12 : Fr w10 w12 := Hf11.out.grown hg12 Hf11.out.size hb12
    obtain ⟨A12, c12, rfl, hl12, hs12⟩ := ho12.slC wBlock (by decide)
    have hel : (ls.eraseIdx kk).length = n - 1 := by rw [List.length_eraseIdx, if_pos Hkl.out, Hn.out]
    rw [hel] at hs12 hl12 ⊢
    (have Hf12 := Lib.hid hf12; clear hf12)
    have hFa : Fr w2 w12 := by (repeat' (first | exact Below.refl _ _ | refine below_drewN ?_ _ | refine Below.drew ?_ | refine frA ?_ _ | refine Fr.trans ?_ Hf12.out | refine Fr.trans ?_ Hf10.out | refine Fr.trans ?_ Hf9.out | refine Fr.trans ?_ Hf8.out | refine Fr.trans ?_ Hf6.out | refine Fr.trans ?_ Hf35.out | refine Fr.trans ?_ Hf3.out))
    have hFb : Fr w w12 := by (repeat' (first | exact Below.refl _ _ | refine below_drewN ?_ _ | refine Below.drew ?_ | refine frA ?_ _ | refine Fr.trans ?_ Hf12.out | refine Fr.trans ?_ Hf10.out | refine Fr.trans ?_ Hf9.out | refine Fr.trans ?_ Hf8.out | refine Fr.trans ?_ Hf6.out | refine Fr.trans ?_ Hf35.out | refine Fr.trans ?_ HF3.out))
    clear hg12 hb12
    (have Hs12 := Lib.hid hs12; clear hs12; have Ho12 := Lib.hid ho12; clear ho12; have Hel := Lib.hid hel; clear hel; have Ho11 := Lib.hid Ho11; clear Ho11; have HFa := Lib.hid hFa; clear hFa; have HFb := Lib.hid hFb; clear hFb)
    by_cases h1 : n = 1
    · have hen : ls.eraseIdx kk = [] := List.eq_nil_of_length_eq_zero (by rw [Hel.out]; omega)
      obtain rfl : x = s := P4.out hen
      have hn0 : n - 1 = 0 := by omega
      have hmx : n' ≤ maxLen := by omega
      clear h1 hen
      go_wp2_with fail
      refine (same_any _ _ _ _ _ _ _ _ _ x x (Hs2.out.go sByte HFa.out) (HSx.out.go sByte HFb.out) hm2x).mono ?_
      rintro e w13 ⟨rfl, m13, rfl⟩
      go_wp2_with fail
      go_ret
      exact ⟨by simp, by (repeat' (first | exact Below.refl _ _ | refine below_drewN ?_ _ | refine Below.drew ?_ | refine frA ?_ _ | refine Fr.trans ?_ HFb.out))⟩
    · have hn1 : 0 < n - 1 := by omega
      obtain ⟨u, hu, hux⟩ := P3.out (fun e => by have := Hel.out; rw [e] at this; simp at this; omega)
      clear h1
      (have Hu := Lib.hid hu; clear hu; have Hux := Lib.hid hux; clear hux)
      go_wp2_with fail
      refine (sumAdd_any _ _ _ _ _ Hs12.out (by omega)).mono ?_
      rw [Hu.out]
      rintro e w13 ⟨B13, m13, d13, rfl, hd13, _, hs13, hf13⟩
      (have Hs13 := Lib.hid hs13; clear hs13; have Hf13 := Lib.hid hf13; clear hf13; have Hd13 := Lib.hid hd13; clear hd13)
      go_wp2_with fail
      refine (sumAdd_any _ (some ⟨w13.heap.size, 0, none⟩) 2 _ [u, x] ?_ (by unfold lim; omega)).mono ?_
      · refine Sl.pick (t := 29) (fr := (0, 0)) (vs := [.slice B13 m13 d13, .slice A' n' c']) (by (repeat' (first | (refine heap_new ?_; (first | (simp; done) | rfl); done) | refine heap_dn ?_ | refine heap_d ?_ | refine heap_old ?_))) (by simp [LT]) rfl ?_
        intro i y hy
        have hd := Hd13.out
        match i, hy with
        | 0, hy => obtain rfl : u = y := by simpa using hy
                   exact ⟨B13, m13, d13, rfl, ⟨by unfold lim; omega, hd.2.1, by unfold maxLen; omega⟩, Hs13.out.go sByte (frAlloc _ _)⟩
        | 1, hy => obtain rfl : x = y := by simpa using hy
                   exact ⟨A', n', c', rfl, ⟨hm1, hm2, hm3⟩, HSx.out.go sByte ((HFb.out.trans Hf13.out).trans (frAlloc _ _))⟩
        | i + 2, hy => simp at hy
      rw [Hux.out]
      rintro e w14 ⟨B14, m14, d14, rfl, _, _, hs14, hf14⟩
      have hF14 : Fr w13 w14 := (frAlloc _ _).trans hf14
      clear hf14
      (have Hs14 := Lib.hid hs14; clear hs14; have HF14 := Lib.hid hF14; clear hF14)
      go_wp2_with fail
      refine (same_any _ _ _ _ _ _ _ _ _ s s (Hs2.out.go sByte (by (repeat' (first | exact Below.refl _ _ | refine below_drewN ?_ _ | refine Below.drew ?_ | refine frA ?_ _ | refine Fr.trans ?_ HF14.out | refine Fr.trans ?_ Hf13.out | refine Fr.trans ?_ HFa.out)))) Hs14.out hm2x).mono ?_
      rintro e w15 ⟨rfl, m15, rfl⟩
      go_wp2_with fail
      go_ret
      exact ⟨by simp, by (repeat' (first | exact Below.refl _ _ | refine below_drewN ?_ _ | refine Below.drew ?_ | refine frA ?_ _ | refine Fr.trans ?_ HF14.out | refine Fr.trans ?_ Hf13.out | refine Fr.trans ?_ HFb.out))⟩
  · have hq1 : (q != 0) = true := by rw [bne_iff_ne]; exact hz
    (have H := Lib.hid h; clear h; have Hn := Lib.hid hn; clear hn; have Hs := Lib.hid hs; clear hs; have Hq := Lib.hid hq; clear hq; have Hz := Lib.hid hz; clear hz)
    go_enter Try.func6, Try.ntmps6
    go_wp2_with fail
    refine (blocks_sl _ _ _ _ _ H.out hm).mono ?_
    rintro e w1 ⟨B1, d1, rfl, hs1, hf1⟩
    (have Hs1 := Lib.hid hs1; clear hs1; have Hf1 := Lib.hid hf1; clear hf1)
    go_wp2_with fail
    refine (sumAdd_any _ _ _ _ _ Hs1.out hm').mono ?_
    rw [E.out]
    rintro e w2 ⟨B2, m2, d2, rfl, hd2, _, hs2, hf2⟩
    (have Hs2 := Lib.hid hs2; clear hs2; have Hf2 := Lib.hid hf2; clear hf2; have Hd2 := Lib.hid hd2; clear hd2)
    go_wp2_with fail
    refine (added_any _).mono ?_
    rintro e w3 ⟨rfl, hf3⟩
    (have Hf3 := Lib.hid hf3; clear hf3)
    go_wp2_with fail
    refine (added_any _).mono ?_
    rintro e w4 ⟨rfl, hf4⟩
    (have Hf4 := Lib.hid hf4; clear hf4)
    go_wp2_with fail
    go_ret
    exact ⟨rfl, (by (repeat' (first | exact Below.refl _ _ | refine below_drewN ?_ _ | refine Below.drew ?_ | refine frA ?_ _ | refine Fr.trans ?_ Hf4.out | refine Fr.trans ?_ Hf3.out | refine Fr.trans ?_ Hf2.out | refine Fr.trans ?_ Hf1.out)))⟩
end Go.Proofs.Ytahkpbenebmmdaa
