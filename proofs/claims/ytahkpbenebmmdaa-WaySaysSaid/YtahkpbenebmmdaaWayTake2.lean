/- way.Take, where it takes one. No condition. -/
import Derived.Test.YtahkpbenebmmdaaWayTake
set_option linter.unusedSimpArgs false
set_option linter.unusedVariables false
namespace Go.Proofs.Ytahkpbenebmmdaa
open Go.RowKit
attribute [local irreducible] wpList

theorem blk_lt5 {w : World} {g : Nat} {o : Obj} (h : w.heap[g]? = some o) : g < w.heap.size := (Array.getElem?_eq_some_iff.1 h).1
set_option maxRecDepth 100000 in
set_option maxHeartbeats 1000000 in
theorem wayTake_ok (w : World) (A : Option Addr) (n c : Nat) (ls : List Ml) (h : Sl 13 eMl w (LT w.heap.size) A n ls) (hm : n * 120 ≤ lim) (hc : n ≤ c) (hcm : c ≤ maxLen) (kk : Nat) (twice : Bool) (h1 : mlCheck ls = 0) (hkn : kk < n) :
    Calls Try.prog 47 #[.slice A n c,   .int .i64 kk, .bool twice] w fun e w' => ∃ v A' n' c', e = .returned (.tuple #[v, .agg #[.int .i64 (mlTake ls kk twice).2.1.frm, .int .i64 (mlTake ls kk twice).2.1.to, .int .i64 (mlTake ls kk twice).2.1.f.kind, .int .i64 (mlTake ls kk twice).2.1.f.h.frm, .int .i64 (mlTake ls kk twice).2.1.f.h.seq, .int .i64 (mlTake ls kk twice).2.1.f.h.to, .int .i64 (mlTake ls kk twice).2.1.f.h.till, .int .i64 (mlTake ls kk twice).2.1.f.h.bytes, .int .i64 (mlTake ls kk twice).2.1.f.h.block, .int .i64 (mlTake ls kk twice).2.1.f.s.id, .slice A' n' c', .int .i64 (mlTake ls kk twice).2.1.f.n, .int .i64 (mlTake ls kk twice).2.1.f.try_], .int .i64 (mlTake ls kk twice).2.2]) ∧ Byt w' (LT w'.heap.size) A' n' c' (mlTake ls kk twice).2.1.f.s.data ∧ Own 13 eMl w' w.heap.size 73 v (mlTake ls kk twice).1 ∧ Fr w w' := by
  have hnl : n ≤ lim := by omega
  have hlen := h.1
  have CK := Lib.hid (fun W A n c hs hn => wayCheck_any W A n c ls hs hn)
  rw [h1] at CK
  have hn40 : n ≤ 40 := by
    unfold mlCheck at h1
    split at h1
    · cases h1
    · omega
  obtain ⟨x, hx⟩ : ∃ x, ls[kk]? = some x := ⟨_, List.getElem?_eq_getElem (by omega)⟩
  have E : Hid (mlTake ls kk twice = (if twice then ls else ls.eraseIdx kk, x, 0)) := by
    unfold mlTake Hid
    rw [if_neg (by simp [h1]), if_neg (by rw [hlen]; omega)]
    simp [List.getD, hx]
  have hki : (kk : Int) + 1 ≤ (n : Int) := by omega
  have Hm1 := Lib.hid hm
  have hkl : Hid (kk < ls.length) := by rw [Hid, hlen]; exact hkn
  (have H := Lib.hid h; clear h; have H1 := Lib.hid h1; clear h1; have Hlen := Lib.hid hlen; clear hlen; have Hm := Lib.hid hm; clear hm; have Hnl := Lib.hid hnl; clear hnl; have Hx := Lib.hid hx; clear hx)
  go_enter Try.func47, Try.ntmps47
  go_wp2_with fail
  (with_reducible refine (CK.out _ _ _ _ (H.out.go sMl (by (repeat' (first | exact Below.refl _ _ | refine below_drewN ?_ _ | refine Below.drew ?_ | refine frA ?_ _)))) Hnl.out).mono ?_)
  rintro e w1 ⟨rfl, hf1⟩
  have Hbx := Lib.hid (show w1.heap[w.heap.size]? = some (.cells #[.int .i64 0, .int .i64 0, .int .i64 0, .int .i64 0, .int .i64 0, .int .i64 0, .int .i64 0, .int .i64 0, .int .i64 0, .int .i64 0, .slice none 0 0, .int .i64 0, .int .i64 0] 73 (0, 0)) from blk_go (heap_new rfl) hf1)
  have HF1 : Hid (Fr w w1) := (frAlloc _ _).trans hf1
  have HL1 : Hid (w.heap.size < w1.heap.size) := (Array.getElem?_eq_some_iff.1 Hbx.out).1
  clear hf1
  go_wp2_with fail
  (with_reducible refine (wayCopy_any _ _ _ _ ls (H.out.go sMl HF1.out) Hm1.out).mono ?_)
  rintro e w3 ⟨v3, rfl, ho3, hf3⟩
  obtain ⟨g, c3, cs, rest, rfl, hbg, hg, hnc, hcm3, hl, hall, _, hr⟩ := ownR_row fMl (by decide) ho3 (by rw [Hlen.out]; omega)
  rw [Hlen.out] at hnc ho3 ⊢
  have HS4 : Hid (Sl 13 eMl w3 (LT w3.heap.size) (some ⟨g, kk * 13, none⟩) 1 [x]) := by
    refine ⟨rfl, fun _ => ⟨_, rfl, (Array.getElem?_eq_some_iff.1 hg).1, fun i y hy => ?_⟩⟩
    obtain rfl : i = 0 := by have := (List.getElem?_eq_some_iff.1 hy).1; simp at this; omega
    obtain rfl : x = y := by simpa using hy
    refine sMl.mono (fun j u hj hu => ?_) (sMl.more (S' := LT w3.heap.size) (fun b hb => hb.2.1) (hr kk x Hx.out))
    have e6 : (⟨g, kk * 13, none⟩ : Addr).add (0 * 13 + j) = ⟨g, kk * 13 + j, none⟩ := by rw [Nat.zero_mul, Nat.zero_add]; unfold Addr.add; split <;> simp_all
    show w3.cell? _ = _
    rw [e6]
    exact cells_at hg hu
  have HO3 := Lib.hid ho3
  have HF3 := Lib.hid hf3
  have hkc : kk < c3 := by omega
  have hck : ¬ c3 = kk := by omega
  have hkc1 : kk + 1 ≤ c3 := by omega
  clear ho3 hf3 hg hr hl hall
  go_wp2_with fail
  (with_reducible refine (wayCopy_any _ _ _ _ [x] HS4.out (by unfold lim; omega)).mono ?_)
  rintro e w4 ⟨v4, rfl, ho4, hf4⟩
  obtain ⟨g4, c4, cs4, rest4, rfl, hbg4, hg4, _, hcm4, _, _, _, hr4⟩ := ownR_row fMl (by decide) ho4 (by simp)
  obtain ⟨A5, n5, c5, hcc, hwx, hby⟩ := eMl_iff.1 (hr4 0 x rfl)
  have hcell : ∀ j u, cs4[0 * 13 + j]? = some u → w4.cell? ⟨g4, j, none⟩ = some u := fun j u hu => by rw [Nat.zero_mul, Nat.zero_add] at hu; exact cells_at hg4 hu
  obtain ⟨m0, m1, m2, m3, m4, m5, m6, m7, m8, m9, m10, m11, m12⟩ := hcc
  have m0 := hcell _ _ m0
  have m1 := hcell _ _ m1
  have m2 := hcell _ _ m2
  have m3 := hcell _ _ m3
  have m4 := hcell _ _ m4
  have m5 := hcell _ _ m5
  have m6 := hcell _ _ m6
  have m7 := hcell _ _ m7
  have m8 := hcell _ _ m8
  have m9 := hcell _ _ m9
  have m10 := hcell _ _ m10
  have m11 := hcell _ _ m11
  have m12 := hcell _ _ m12
  have HBY : Hid (Byt w4 (fun b => w3.heap.size ≤ b ∧ b < w4.heap.size) A5 n5 c5 x.f.s.data) := ⟨hby.1, hby.2.more sByte fun b hb => ⟨hb.1, hb.2.1⟩⟩
  have HF4 := Lib.hid hf4
  have HO34 := Lib.hid (HO3.out.fr sMl hf4)
  have HBX4 := Lib.hid (blk_go (blk_go Hbx.out HF3.out) hf4)
  have hg3 : g < w3.heap.size := by
    obtain ⟨cs', ho', _⟩ := HO3.out
    exact (ho'.lt g rfl).2
  have hg0 : w.heap.size < g := by have := HL1.out; omega
  clear hby ho4 hcell hr4 hg4 hbg4 hcm4 hf4
  have hsz : w1.heap.size ≤ w3.heap.size := HF3.out.size
  have hl1 := HL1.out
  have FB : Hid (∀ b, w3.heap.size ≤ b ∧ b < w4.heap.size → b < w4.heap.size ∧ b ≠ w.heap.size) := fun b hb => ⟨hb.2, by omega⟩
  have FO : Hid (∀ i b : Nat, w1.heap.size ≤ b → b ≠ w.heap.size) := fun i b hb => by omega
  have FW : Hid (w.heap.size ≤ w1.heap.size) := Nat.le_of_lt hl1
  have HF04 : Hid (Fr w w4) := (HF1.out.trans HF3.out).trans HF4.out
  have hsz4 : w3.heap.size ≤ w4.heap.size := HF4.out.size
  have FM : Hid (w4.heap.size < (w4.alloc (.cells #[.int .i64 x.frm, .int .i64 x.to, .int .i64 x.f.kind, .int .i64 x.f.h.frm, .int .i64 x.f.h.seq, .int .i64 x.f.h.to, .int .i64 x.f.h.till, .int .i64 x.f.h.bytes, .int .i64 x.f.h.block, .int .i64 x.f.s.id, .slice A5 n5 c5, .int .i64 x.f.n, .int .i64 x.f.try_] 73)).heap.size ∧ some w4.heap.size ≠ some g) := ⟨by simp, by simp; omega⟩
  have FZ : Hid (w.heap.size < (w4.alloc (.cells #[.int .i64 x.frm, .int .i64 x.to, .int .i64 x.f.kind, .int .i64 x.f.h.frm, .int .i64 x.f.h.seq, .int .i64 x.f.h.to, .int .i64 x.f.h.till, .int .i64 x.f.h.bytes, .int .i64 x.f.h.block, .int .i64 x.f.s.id, .slice A5 n5 c5, .int .i64 x.f.n, .int .i64 x.f.try_] 73)).heap.size ∧ some w.heap.size ≠ some g) := ⟨by simp; omega, by simp; omega⟩
  have FP : Hid (∀ b, w3.heap.size ≤ b ∧ b < w4.heap.size → b < (w4.alloc (.cells #[.int .i64 x.frm, .int .i64 x.to, .int .i64 x.f.kind, .int .i64 x.f.h.frm, .int .i64 x.f.h.seq, .int .i64 x.f.h.to, .int .i64 x.f.h.till, .int .i64 x.f.h.bytes, .int .i64 x.f.h.block, .int .i64 x.f.s.id, .slice A5 n5 c5, .int .i64 x.f.n, .int .i64 x.f.try_] 73)).heap.size ∧ some b ≠ some g) := fun b hb => ⟨by simp; omega, by simp; omega⟩
  have FN : Hid (∀ b, w3.heap.size ≤ b → b ≠ w.heap.size) := fun b hb => by omega
  have FG : Hid (∀ k, some g = some k → w.heap.size ≤ k) := fun k hk => by injection hk with hk; omega
  clear hsz hl1 hsz4
  cases twice with
  | true =>
    go_wp2_with fail
    have HZ : Hid (w.heap.size < w4.heap.size ∧ w4.heap[w.heap.size]? = some (.cells #[.int .i64 0, .int .i64 0, .int .i64 0, .int .i64 0, .int .i64 0, .int .i64 0, .int .i64 0, .int .i64 0, .int .i64 0, .int .i64 0, .slice none 0 0, .int .i64 0, .int .i64 0] 73 (0, 0))) := ⟨Nat.lt_of_lt_of_le HL1.out (Nat.le_trans HF3.out.size HF4.out.size), HBX4.out⟩
    have hzl := HZ.out.1
    have hz := HZ.out.2
    (obtain ⟨hz0, hz1, hz2, hz3, hz4, hz5, hz6, hz7, hz8, hz9, hz10, hz11, hz12⟩ := box13_ hz)
    have hfz : ∀ i, w4.frozen? ⟨w.heap.size, i, none⟩ = false := fun i => blk_free HBX4.out
    clear hz m0 m1 m2 m3 m4 m5 m6 m7 m8 m9 m10 m11 m12
    go_region_with (fail)
    all_goals
      go_wp2_with fail
      refine bodyPost_ret (v := .tuple #[.slice (some ⟨g, 0, none⟩) n c3, .agg #[.int .i64 x.frm, .int .i64 x.to, .int .i64 x.f.kind, .int .i64 x.f.h.frm, .int .i64 x.f.h.seq, .int .i64 x.f.h.to, .int .i64 x.f.h.till, .int .i64 x.f.h.bytes, .int .i64 x.f.h.block, .int .i64 x.f.s.id, .slice A5 n5 c5, .int .i64 x.f.n, .int .i64 x.f.try_], .int .i64 0]) ?_ rfl ?_
      · simp [results, Try.results47, go_sem, hz0, hz1, hz2, hz3, hz4, hz5, hz6, hz7, hz8, hz9, hz10, hz11, hz12, hzl, HZ.out.1]
      · have E2 : mlTake ls kk true = (ls, x, 0) := by rw [E.out]; rfl
        rw [E2]
        dsimp only
        exact takeEnd HBY.out HO34.out (grown_drew (grown_alloc (grw13_ (grown_refl _ _)))) (frA (bel13_ HF04.out (Nat.le_refl _)) _).drew HL1.out FB.out FO.out FW.out
  | false =>
    have e2 : mlTake ls kk false = (ls.eraseIdx kk, x, 0) := by rw [E.out]; rfl
    have HE2 := Lib.hid e2
    clear e2
    go_wp2_with fail
    (with_reducible refine (deleteMails_ownR _ w1.heap.size kk (fun b => w1.heap.size ≤ b) _ ls (HO34.out.fr sMl (frAlloc _ _)) hkl.out).mono ?_)
    rintro e w5 ⟨v5, rfl, ho5, hg5⟩
    have hg5' := hg5
    have HG5 : Hid ((w4.alloc (.cells #[.int .i64 x.frm, .int .i64 x.to, .int .i64 x.f.kind, .int .i64 x.f.h.frm, .int .i64 x.f.h.seq, .int .i64 x.f.h.to, .int .i64 x.f.h.till, .int .i64 x.f.h.bytes, .int .i64 x.f.h.block, .int .i64 x.f.s.id, .slice A5 n5 c5, .int .i64 x.f.n, .int .i64 x.f.try_] 73)).grownBy w5 (some g)) := hg5'
    have HM5 : Hid (w5.heap[w4.heap.size]? = some (.cells #[.int .i64 x.frm, .int .i64 x.to, .int .i64 x.f.kind, .int .i64 x.f.h.frm, .int .i64 x.f.h.seq, .int .i64 x.f.h.to, .int .i64 x.f.h.till, .int .i64 x.f.h.bytes, .int .i64 x.f.h.block, .int .i64 x.f.s.id, .slice A5 n5 c5, .int .i64 x.f.n, .int .i64 x.f.try_] 73 (0, 0))) := (HG5.out.block _ FM.out.1 FM.out.2).trans (heap_new rfl)
    have HZ5 : Hid (w5.heap[w.heap.size]? = some (.cells #[.int .i64 0, .int .i64 0, .int .i64 0, .int .i64 0, .int .i64 0, .int .i64 0, .int .i64 0, .int .i64 0, .int .i64 0, .int .i64 0, .slice none 0 0, .int .i64 0, .int .i64 0] 73 (0, 0))) := (HG5.out.block _ FZ.out.1 FZ.out.2).trans (heap_old HBX4.out)
    have HB5 : Hid (Byt w5 (fun b => w3.heap.size ≤ b ∧ b < w5.heap.size) A5 n5 c5 x.f.s.data) :=
      ⟨HBY.out.1, (HBY.out.2.keep sByte fun p hp => (World.cell?_of_block (HG5.out.block p.block (FP.out _ hp).1 (FP.out _ hp).2)).trans ((frAlloc w4 _).cell hp.2)).more sByte fun b hb => ⟨hb.1, Nat.lt_of_lt_of_le (FP.out b hb).1 HG5.out.size⟩⟩
    have HF5 : Hid (Fr w w5) := (frA HF04.out _).grown HG5.out (frA HF04.out (.cells #[.int .i64 x.frm, .int .i64 x.to, .int .i64 x.f.kind, .int .i64 x.f.h.frm, .int .i64 x.f.h.seq, .int .i64 x.f.h.to, .int .i64 x.f.h.till, .int .i64 x.f.h.bytes, .int .i64 x.f.h.block, .int .i64 x.f.s.id, .slice A5 n5 c5, .int .i64 x.f.n, .int .i64 x.f.try_] 73)).size FG.out
    have HO5 := Lib.hid ho5
    have FB5 : Hid (∀ b, w3.heap.size ≤ b ∧ b < w5.heap.size → b < w5.heap.size ∧ b ≠ w.heap.size) := fun b hb => ⟨hb.2, FN.out b hb.1⟩
    have hz := HZ5.out
    have hm5 := HM5.out
    have hzl := blk_lt5 hz
    (obtain ⟨hz0, hz1, hz2, hz3, hz4, hz5, hz6, hz7, hz8, hz9, hz10, hz11, hz12⟩ := box13_ hz)
    (obtain ⟨hb0, hb1, hb2, hb3, hb4, hb5, hb6, hb7, hb8, hb9, hb10, hb11, hb12⟩ := box13_ hm5)
    have hfz : ∀ i, w5.frozen? ⟨w.heap.size, i, none⟩ = false := fun i => blk_free HZ5.out
    clear hz hm5 hg5 hg5' ho5 m0 m1 m2 m3 m4 m5 m6 m7 m8 m9 m10 m11 m12
    go_wp2_with fail
    go_region_with (fail)
    all_goals
      go_wp2_with fail
      refine bodyPost_ret (v := .tuple #[v5, .agg #[.int .i64 x.frm, .int .i64 x.to, .int .i64 x.f.kind, .int .i64 x.f.h.frm, .int .i64 x.f.h.seq, .int .i64 x.f.h.to, .int .i64 x.f.h.till, .int .i64 x.f.h.bytes, .int .i64 x.f.h.block, .int .i64 x.f.s.id, .slice A5 n5 c5, .int .i64 x.f.n, .int .i64 x.f.try_], .int .i64 0]) ?_ rfl ?_
      · simp [results, Try.results47, go_sem, hz0, hz1, hz2, hz3, hz4, hz5, hz6, hz7, hz8, hz9, hz10, hz11, hz12, hzl]
      · rw [HE2.out]
        dsimp only
        first
          | exact takeEnd HB5.out HO5.out (grown_drew (grw13_ (grown_refl _ _))) (bel13_ HF5.out (Nat.le_refl _)).drew HL1.out FB5.out FO.out FW.out
          | exact takeEnd HB5.out HO5.out (grw13_ (grown_refl _ _)) (bel13_ HF5.out (Nat.le_refl _)) HL1.out FB5.out FO.out FW.out
end Go.Proofs.Ytahkpbenebmmdaa
