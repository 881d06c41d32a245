/- 'SolveNever', walked. No condition. -/
import Derived.Test.YtnfjghldcopaaaaDecode
import Derived.Test.YtnfjghldcopaaaaNeverP
import Derived.Test.YtnfjghldcopaaaaSyms
import Derived.Test.YtnfjghldcopaaaaSolveKeeps
import Derived.Test.YtnfjghldcopaaaaCloneR
set_option linter.unusedSimpArgs false
set_option linter.unusedVariables false
namespace Go.Proofs.Ytnfjghldcopaaaa
open Go.RowKit
attribute [local irreducible] wpList

/-- solve.Decode, where what it makes is known. -/
theorem decode_eq (w : World) (B K : Int) (wB : wfI B) (wK : wfI K) (A : Option Addr) (n c : Nat) (xs : List Sm) (h : Sl 2 eSm w (LT w.heap.size) A n xs) (hnm : n ≤ maxLen) (out : List UInt8) (er : Int) (E : decodeF B K xs = (out, er)) :
    Calls Try.prog 34 #[.agg #[.int .i64 B, .int .i64 K], .slice A n c] w fun e w' => ∃ A n c, e = .returned (.tuple #[.slice A n c, .int .i64 er]) ∧ (n ≤ 360 ∧ n ≤ c ∧ c ≤ maxLen) ∧ Sl 1 eByte w' (LT w'.heap.size) A n out ∧ Fr w w' :=
  (decode_any w B K wB wK A n c xs h hnm).mono fun e w' h => by rw [E] at h; exact h
theorem equalBytes_lit (w : World) (A A' : Option Addr) (n c n' c' : Nat) (xs ys : List UInt8) (b : Bool) (E : decide (xs = ys) = b) (h : Sl 1 eByte w (LT w.heap.size) A n xs) (h' : Sl 1 eByte w (LT w.heap.size) A' n' ys) (hm : n ≤ maxLen) :
    Calls Try.prog 35 #[.slice A n c, .slice A' n' c'] w fun e w' => e = .returned (.bool b) ∧ Fr w w' :=
  (equalBytes_any w _ _ A A' n c n' c' xs ys h h' hm).mono fun e w' ⟨he, m, hw⟩ => ⟨by rw [he, E], by rw [hw]; exact frDrewN _ _⟩

theorem flip_sl {v5 v6 : World} {g d L kq cd : Nat} {cs rest : List Value} {XS : List Sm} {x : Sm} {t : TypeId} {tu : TypeId} (hlen : XS.length = L) (hk : kq < L) (hx : XS[kq]? = some x) (hg : v5.heap[g]? = some (.cells (cs ++ rest).toArray t (0, 0))) (hcl : cs.length = L * 2)
    (hr : ∀ i y, XS[i]? = some y → eSm v5 (fun b => b < v5.heap.size ∧ b ≠ g) (fun j => cs[i * 2 + j]?) y) (hf : Fr v5 v6) (hd : v5.heap.size ≤ d) (hb : Blk bV v6 tu d x.data) (hdl : 0 < x.data.length) (hdl2 : x.data.length ≤ 16) (hcd : x.data.length ≤ cd ∧ cd ≤ maxLen) :
    Sl 2 eSm ((v6.setCell ⟨g, kq * 2 + 1, none⟩ (.slice (some ⟨d, 0, none⟩) x.data.length cd)).setCell ⟨d, 0, none⟩ (bV (x.data.getD 0 0 ^^^ 1))) (LT ((v6.setCell ⟨g, kq * 2 + 1, none⟩ (.slice (some ⟨d, 0, none⟩) x.data.length cd)).setCell ⟨d, 0, none⟩ (bV (x.data.getD 0 0 ^^^ 1))).heap.size) (some ⟨g, 0, none⟩) L (XS.set kq (flipSm x)) := by
  obtain ⟨sv, hsv⟩ : ∃ sv, sv = Value.slice (some ⟨d, 0, none⟩) x.data.length cd := ⟨_, rfl⟩
  obtain ⟨W6, hW6⟩ : ∃ W6, W6 = v6.setCell ⟨g, kq * 2 + 1, none⟩ sv := ⟨_, rfl⟩
  obtain ⟨W7, hW7⟩ : ∃ W7, W7 = W6.setCell ⟨d, 0, none⟩ (bV (x.data.getD 0 0 ^^^ 1)) := ⟨_, rfl⟩
  rw [← hsv, ← hW6, ← hW7]
  have hgl : g < v5.heap.size := (Array.getElem?_eq_some_iff.1 hg).1
  have hgd : g ≠ d := by omega
  have hg6 : W6.heap[g]? = some (.cells (cs.set (kq * 2 + 1) sv ++ rest).toArray t (0, 0)) := by rw [hW6]; exact cells_set (blk_go hg hf) (by omega)
  have hC6 : Chg (fun b => b = g) v6 W6 := by rw [hW6]; exact Chg.set (S := fun b => b = g) (p := ⟨g, kq * 2 + 1, none⟩) (Chg.refl _ _) rfl _
  have hC7 : Chg (fun b => b = d) W6 W7 := by rw [hW7]; exact Chg.set (S := fun b => b = d) (p := ⟨d, 0, none⟩) (Chg.refl _ _) rfl _
  have hb6 : Blk bV W6 tu d x.data := hb.chg hC6 (fun e => hgd e.symm)
  have hb7 : Blk bV W7 tu d (flip0 x.data) := by rw [hW7]; exact hb6.set hdl _
  have hg7 := hC7.blk hg6 hgd
  have hsz : v5.heap.size ≤ W7.heap.size := Nat.le_trans hf.size (Nat.le_trans hC6.size hC7.size)
  refine ⟨by rw [List.length_set]; exact hlen, fun _ => ⟨_, rfl, Nat.lt_of_lt_of_le hgl hsz, fun i z hz => ?_⟩⟩
  have hcell : ∀ j u, (cs.set (kq * 2 + 1) sv)[j]? = some u → W7.cell? ((⟨g, 0, none⟩ : Addr).add j) = some u := fun j u hu => by
    rw [zero_add_addr]; exact cells_at hg7 hu
  by_cases e : i = kq
  · subst e
    rw [List.getElem?_set_self (by omega)] at hz
    injection hz with hz
    subst hz
    obtain ⟨A1, n1, c1, ⟨f0, f1⟩, wi, _⟩ := eSm_iff.1 (hr i x hx)
    refine eSm_iff.2 ⟨some ⟨d, 0, none⟩, x.data.length, cd, ⟨hcell _ _ ?_, hcell _ _ ?_⟩, wi, ⟨by unfold lim; omega, hcd⟩, ?_⟩
    · rw [List.getElem?_set_ne (by omega)]; exact f0
    · rw [List.getElem?_set_self (by omega), hsv]
    · have := hb7.bytes (S := LT W7.heap.size) hb7.lt
      have e2 : (flip0 x.data).length = x.data.length := by unfold flip0; rw [List.length_set]
      rw [e2] at this
      exact this
  · rw [List.getElem?_set_ne (fun h => e h.symm)] at hz
    refine sSm.mono (fun j u hj hu => ?_) (sSm.more (S := fun b => b < v5.heap.size ∧ b ≠ g) (fun b hb => Nat.lt_of_lt_of_le hb.1 hsz) (sSm.keep (fun p hp => ?_) (hr i z hz)))
    · exact hcell _ _ (by rw [List.getElem?_set_ne (by omega)]; exact hu)
    · have h1 : p.block < v6.heap.size := Nat.lt_of_lt_of_le hp.1 hf.size
      exact (hC7.cell (Nat.lt_of_lt_of_le h1 hC6.size) (by have := hp.1; omega)).trans ((hC6.cell h1 hp.2).trans (hf.cell hp.1))

set_option maxRecDepth 100000 in
set_option maxHeartbeats 4000000 in
theorem solveNever_good (w : World) (K : Nat) (A : Option Addr) (n c : Nat) (cargo : List UInt8) (h : Sl 1 eByte w (LT w.heap.size) A n cargo) (hnc : n ≤ c) (hcm : c ≤ maxLen) (A2 : Option Addr) (n2 c2 : Nat) (ids : List Int) (h2 : Sl 1 eInt w (LT w.heap.size) A2 n2 ids) (hnc2 : n2 ≤ c2) (hcm2 : c2 ≤ maxLen) (hck : cutCheck n K = 0) (kk : Int) :
    Calls Try.prog 7 #[.agg #[.int .i64 n, .int .i64 K], .slice A n c, .slice A2 n2 c2, .int .i64 kk] w fun e w' => e = .returned (.bool true) ∧ Fr w w' := by
  have hl := h.1
  obtain ⟨q1, q2, q3, hall, hK⟩ := cutF_facts hck hl
  have hn : 1 ≤ n ∧ n ≤ 360 := by have := (cutCheck_ok hck).1; omega
  have hok := symsOk_of hck hl ids
  obtain ⟨XS, hXS⟩ : ∃ XS, XS = symsOf n K cargo ids := ⟨_, rfl⟩
  rw [← hXS] at hok
  have hxl := hok.many
  have HOK := Lib.hid hok
  have HXS := Lib.hid hXS
  have HCK := Lib.hid hck
  obtain ⟨K1, K2⟩ := hK
  obtain ⟨n1', n2'⟩ := hn
  have wn : wfI (n : Int) := wfI.mk (by omega)
  have wK : wfI (K : Int) := wfI.mk (by omega)
  have t1 : ((n : Int) != (n : Int)) = false := by simp
  obtain ⟨out, er, hD⟩ : ∃ out er, decodeF n K XS = (out, er) := ⟨_, _, rfl⟩
  have hDC : Hid ((out = [] ∧ er = 8) ∨ (out = cargo ∧ er = 0)) := by
    rcases hok.decode with e | e
    · rw [e] at hD; injection hD with e1 e2; exact .inl ⟨e1.symm, e2.symm⟩
    · rw [e] at hD; injection hD with e1 e2; exact .inr ⟨e1.symm, e2.symm⟩
  have HD := Lib.hid hD
  (have H := Lib.hid h; clear h; have H2 := Lib.hid h2; clear h2)
  clear hl hck hXS hall q3 hok hD q1 q2
  go_enter Try.func7, Try.ntmps7
  go_wp2_with fail
  (with_reducible refine (solved_any _).mono ?_)
  rintro e v1 ⟨rfl, hf⟩
  have HP1 : Hid (v1.heap[w.heap.size]? = some (.cells #[.int .i64 n, .int .i64 K] 47 (0, 0))) := blk_go (by (repeat' (with_reducible (first | (refine heap_new ?_; (first | (simp; done) | rfl); done) | refine heap_dn ?_ | refine heap_d ?_ | refine heap_old ?_)))) hf
  have HF1 : Hid (Fr w v1) := Fr.trans (by (repeat' (first | exact Below.refl _ _ | refine below_drewN ?_ _ | refine Below.drew ?_ | refine frA ?_ _))) hf
  have hp1 := HP1.out
  (obtain ⟨x0, x1⟩ := box2_ hp1)
  clear hf hp1
  go_wp2_with fail
  (with_reducible refine (cutCheck_any _ _ _ wn wK).mono ?_)
  rw [HCK.out]
  rintro e v2 ⟨rfl, hf⟩
  have HP2 := Lib.hid (blk_go HP1.out hf)
  have hw2v : w.heap.size < v2.heap.size := (Array.getElem?_eq_some_iff.1 HP2.out).1
  have HF2 : Hid (Fr w v2) := HF1.out.trans hf
  have hp2 := HP2.out
  (obtain ⟨x0, x1⟩ := box2_ hp2)
  clear hf hp2 HP1 HF1
  go_wp2_with fail
  (with_reducible refine (symbols_any _ _ _ wn wK _ _ _ cargo (H.out.go sByte HF2.out) hnc hcm _ _ _ ids (H2.out.go sInt HF2.out) hnc2 hcm2).mono ?_)
  rw [← HXS.out]
  rintro e v3 ⟨v, rfl, ho, hf⟩
  obtain ⟨A8, c8, rfl, ⟨hc8, hm8⟩, hs8⟩ := ho.toNw sSm
  have HP3 := Lib.hid (blk_go HP2.out hf)
  have HF3 : Hid (Fr w v3) := HF2.out.trans hf
  have HS8 : Hid (Sl 2 eSm v3 (LT v3.heap.size) A8 XS.length XS) := hs8.more sSm fun b hb => hb.2
  have HO8 := Lib.hid ho
  obtain ⟨L, hL⟩ : ∃ L, L = XS.length := ⟨_, rfl⟩
  rw [← hL] at hxl hc8 HS8 HO8 ⊢
  have HL := Lib.hid hL
  have hp3 := HP3.out
  (obtain ⟨x0, x1⟩ := box2_ hp3)
  have hLm : L ≤ maxLen := by unfold maxLen; omega
  clear ho hf hs8 hL hp3 HP2
  go_wp2_with fail
  (with_reducible refine (decode_eq _ _ _ wn wK _ _ _ XS HS8.out hLm out er HD.out).mono ?_)
  rintro e v4 ⟨A9, n9, c9, rfl, ⟨hn9, hc9, hm9⟩, hs9, hf⟩
  have HP4 := Lib.hid (blk_go HP3.out hf)
  have HF4 : Hid (Fr w v4) := HF3.out.trans hf
  have HF34 : Hid (Fr v3 v4) := hf
  have HS9 := Lib.hid hs9
  have hp4 := HP4.out
  (obtain ⟨x0, x1⟩ := box2_ hp4)
  clear hf hs9 hp4 HP3
  go_upto_region 5 with fail
  go_cut [54] (fun s54 wx => s54 = .bool false ∧ Hid (Fr v4 wx))
  case first =>
    rcases hDC.out with ⟨h0, h1⟩ | ⟨h0, h1⟩
    · subst h0 h1
      go_wp2_with fail
      go_meet
      exact ⟨rfl, Below.refl _ _⟩
    · subst h0 h1
      have hnm : n9 ≤ maxLen := by unfold maxLen; omega
      go_wp2_with fail
      (with_reducible refine (equalBytes_lit _ _ _ _ _ _ _ out out true (by simp) HS9.out (H.out.go sByte HF4.out) hnm).mono ?_)
      rintro e v5 ⟨rfl, hf⟩
      have HF5 := Lib.hid hf
      clear hf
      go_wp2_with fail
      go_meet
      exact ⟨rfl, HF5⟩
  case rest =>
    obtain ⟨rfl, HF45⟩ := hcut
    obtain ⟨v5, rfl⟩ : ∃ v5, v5 = wc := ⟨_, rfl⟩
    have HP5 := Lib.hid (blk_go HP4.out HF45.out)
    have HF35 : Hid (Fr v3 v5) := HF34.out.trans HF45.out
    have HF5 : Hid (Fr w v5) := HF3.out.trans HF35.out
    clear HP4 HF4 HF34 HF45 x0 x1
    by_cases hL0 : L = 0
    · have hx0 : XS = [] := List.eq_nil_of_length_eq_zero (by rw [← HL.out]; exact hL0)
      have her : er = 8 := by
        have h1 := HD.out
        have h2 := HOK.out
        rw [hx0] at h1 h2
        rw [decode_none h2] at h1
        injection h1 with _ h1
        exact h1.symm
      subst her
      have e0 : ((L : Int) == 0) = true := by simp [hL0]
      clear hx0 hL0
      go_wp2_with fail
      go_ret
      exact ⟨by first | rfl | simp, HF5.out⟩
    · have e0 : ((L : Int) == 0) = false := by simp; omega
      have hLp : 0 < L := by omega
      have hL60 : L ≤ lim := by unfold lim; omega
      clear hL0
      go_wp2_with fail
      obtain ⟨kq, hkq⟩ : ∃ kq : Nat, kk % (L : Int) = (kq : Int) := ⟨(kk % (L : Int)).toNat, by have := Int.emod_nonneg kk (show (L : Int) ≠ 0 by omega); omega⟩
      have hkL : kq < L := by have := Int.emod_lt_of_pos kk (show (0 : Int) < L by omega); omega
      have HKQ := Lib.hid hkq
      clear hkq
      (with_reducible refine (at_any _ kk L hLp hL60).mono ?_)
      rw [HKQ.out]
      rintro e v6 ⟨rfl, rfl⟩
      obtain ⟨x, hx⟩ : ∃ x, XS[kq]? = some x := ⟨_, List.getElem?_eq_getElem (by rw [← HL.out]; exact hkL)⟩
      obtain ⟨g, cap, cs, rest, e1, hbg, hg, hcap, hcm8, hcl, hall, hone, hrd⟩ := own_row (fSm.hi _) (by decide) (HO8.out.fr (sSm.hi _) HF35.out) (by rw [← HL.out]; exact hLp)
      injection e1 with e1 e2 e3
      subst e1 e3
      have HRD : Hid (∀ i y, XS[i]? = some y → eSm v5 (fun b => b < v5.heap.size ∧ b ≠ g) (fun j => cs[i * 2 + j]?) y) := fun i y hy => sSm.more (fun b hb => hb.1) (hrd i y hy)
      have hcl' : Hid (cs.length = L * 2) := by rw [Hid, hcl, ← HL.out]
      obtain ⟨A1, n1, c1, ⟨f0, f1⟩, wi, ⟨k1, k2, k3⟩, hby⟩ := eSm_iff.1 (HRD.out kq x hx)
      have hfx := (HOK.out.hold x (List.mem_of_getElem? hx)).1
      have hxd : x.data.length = K := hfx.2
      obtain rfl : n1 = K := hby.1.symm.trans hxd
      have m1 : v5.cell? ⟨g, kq * 2 + 1, none⟩ = some (.slice A1 n1 c1) := cells_at hg f1
      have hby2 := Lib.hid (hby.more sByte (S' := LT v5.heap.size) fun b hb => hb.1)
      have k1' := Lib.hid k1
      have hgl := (Array.getElem?_eq_some_iff.1 hg).1
      have HGB : Hid (v2.heap.size ≤ g) := hbg
      have HG := Lib.hid hg
      have HX := Lib.hid hx
      have HXD := Lib.hid hxd
      have p0 : 0 < n1 := K1
      have hfz := blk_free (i := kq * 2 + 1) hg
      clear hx hbg hg hcl hall hone hrd f0 f1 wi k1 k2 k3 hby hfx hxd e2
      go_wp2_with fail
      (with_reducible refine (cloneBlock_blk _ _ _ _ x.data hby2.out k1'.out p0).mono ?_)
      rintro e v6 ⟨d, cd, rfl, hdd, hbk, hcd, hf⟩
      have HF6 := Lib.hid hf
      have HBK := Lib.hid hbk
      have hg6 := blk_go HG.out hf
      have m2 := World.block_lt_of_cell? v5 _ m1
      have m1 : v6.cell? ⟨g, kq * 2 + 1, none⟩ = some (.slice A1 n1 c1) := (hf.cell (p := ⟨g, kq * 2 + 1, none⟩) m2).trans m1
      have hfz := blk_free (i := kq * 2 + 1) hg6
      obtain ⟨bt, hbt⟩ : ∃ bt, x.data[0]? = some bt := ⟨_, List.getElem?_eq_getElem (by rw [HXD.out]; exact p0)⟩
      have hbd : x.data.getD 0 0 = bt := by rw [List.getD_eq_getElem?_getD, hbt]; rfl
      have hgd : g ≠ d := by omega
      have md : v6.cell? ⟨d, 0, none⟩ = some (.int .u8 (bt.toNat : Int)) := hbk.cell hbt
      have md1 : (v6.setCell ⟨g, kq * 2 + 1, none⟩ (.slice (some ⟨d, 0, none⟩) n1 cd)).cell? ⟨d, 0, none⟩ = some (.int .u8 (bt.toNat : Int)) := (World.cell?_setCell_other _ _ _ _ (fun e => by injection e with e; exact hgd e)).trans md
      have mdf : v6.frozen? ⟨d, 0, none⟩ = false := hbk.free
      have hdl6 := hbk.lt
      have hgl6 := (Array.getElem?_eq_some_iff.1 hg6).1
      have HXO : Hid (bits .xor .u8 (bt.toNat : Int) 1 = ((bt ^^^ 1).toNat : Int)) := u8_xor_byte bt 1
      have HSF := Lib.hid (flip_sl (cd := cd) (tu := 5) (by rw [← HL.out]) hkL HX.out HG.out hcl'.out HRD.out hf hdd hbk (by rw [HXD.out]; exact p0) (by rw [HXD.out]; exact K2) (by rw [HXD.out]; exact hcd))
      rw [HXD.out, hbd] at HSF
      obtain ⟨W7, hW7⟩ : ∃ W7, W7 = (v6.setCell ⟨g, kq * 2 + 1, none⟩ (.slice (some ⟨d, 0, none⟩) n1 cd)).setCell ⟨d, 0, none⟩ (bV (bt ^^^ 1)) := ⟨_, rfl⟩
      have hCW : Chg (fun b => b = g ∨ b = d) v6 W7 := by
        rw [hW7]; exact Chg.set (S := fun b => b = g ∨ b = d) (p := ⟨d, 0, none⟩) (Chg.set (S := fun b => b = g ∨ b = d) (p := ⟨g, kq * 2 + 1, none⟩) (Chg.refl _ _) (.inl rfl) _) (.inr rfl) _
      have hbg3 : w.heap.size < g := by have := HGB.out; omega
      have hv5d : w.heap.size < d := by have := (Array.getElem?_eq_some_iff.1 HP5.out).1; omega
      have HP7 : Hid (W7.heap[w.heap.size]? = some (.cells #[.int .i64 n, .int .i64 n1] 47 (0, 0))) := hCW.blk (blk_go HP5.out hf) (by omega)
      have HFW : Hid (Fr w W7) := hCW.fr (HF5.out.trans hf) fun b hb => by rcases hb with rfl | rfl <;> omega
      rw [← hW7] at HSF
      have HW7 : Hid (W7 = (v6.setCell ⟨g, kq * 2 + 1, none⟩ (.slice (some ⟨d, 0, none⟩) n1 cd)).setCell ⟨d, 0, none⟩ (.int .u8 ((bt ^^^ 1).toNat : Int))) := hW7
      clear hf hbk hcd hg6 hbt hbd hCW hW7
      go_upto_region 12 with fail
      rw [HXO.out, ← HW7.out]
      have hp7 := HP7.out
      (obtain ⟨x0, x1⟩ := box2_ hp7)
      clear hp7 HW7 md md1 mdf m1 hfz
      obtain ⟨out2, er2, hD2⟩ : ∃ out2 er2, decodeF n n1 (XS.set kq (flipSm x)) = (out2, er2) := ⟨_, _, rfl⟩
      have HD2 := Lib.hid hD2
      have HNV : Hid (er2 = 0 → decide (out2 = cargo) = false) := fun h0 => by
        rw [decide_eq_false_iff_not]
        rintro rfl
        exact never_flip HOK.out HX.out (by rw [hD2, h0])
      clear hD2
      go_wp2_with fail
      (with_reducible refine (decode_eq _ _ _ wn wK _ _ _ (XS.set kq (flipSm x)) HSF.out hLm out2 er2 HD2.out).mono ?_)
      rintro e v8 ⟨A10, n10, c10, rfl, ⟨hn10, hc10, hm10⟩, hs10, hf⟩
      have HF8 : Hid (Fr w v8) := HFW.out.trans hf
      have HS10 := Lib.hid hs10
      clear hf hs10
      by_cases he2 : er2 = 0
      · subst he2
        have hnm : n10 ≤ maxLen := by unfold maxLen; omega
        have HNV2 := Lib.hid (HNV.out rfl)
        go_wp2_with fail
        (with_reducible refine (equalBytes_lit _ _ _ _ _ _ _ out2 cargo false HNV2.out HS10.out (H.out.go sByte HF8.out) hnm).mono ?_)
        rintro e v9 ⟨rfl, hf⟩
        have HF9 : Hid (Fr w v9) := HF8.out.trans hf
        clear hf
        go_wp2_with fail
        go_ret
        exact ⟨rfl, HF9.out⟩
      · have e2 : (er2 != 0) = true := by simp [he2]
        clear he2
        go_wp2_with fail
        go_ret
        exact ⟨rfl, HF8.out⟩

set_option maxRecDepth 100000 in
set_option maxHeartbeats 1000000 in
theorem solveNever_bad (w : World) (B K : Int) (wB : wfI B) (wK : wfI K) (A : Option Addr) (n c : Nat) (A2 : Option Addr) (n2 c2 : Nat) (kk : Int) (hbad : cutCheck B K ≠ 0 ∨ (n : Int) ≠ B) :
    Calls Try.prog 7 #[.agg #[.int .i64 B, .int .i64 K], .slice A n c, .slice A2 n2 c2, .int .i64 kk] w fun e w' => e = .returned (.bool true) ∧ Fr w w' := by
  obtain ⟨ck, hk⟩ : ∃ ck, ck = cutCheck B K := ⟨_, rfl⟩
  rw [← hk] at hbad
  (have Hk := Lib.hid hk; clear hk)
  by_cases h0 : ck = 0
  · have hne : (n : Int) ≠ B := by rcases hbad with h | h; · exact absurd h0 h
                                   · exact h
    have t1 : ((n : Int) != B) = true := by simp [hne]
    have e1 : (ck != 0) = false := by simp [h0]
    clear h0 hbad hne
    go_enter Try.func7, Try.ntmps7
    go_wp2_with fail
    (with_reducible refine (solved_any _).mono ?_)
    rintro e v1 ⟨rfl, hf⟩
    have HP1 : Hid (v1.heap[w.heap.size]? = some (.cells #[.int .i64 B, .int .i64 K] 47 (0, 0))) := blk_go (by (repeat' (with_reducible (first | (refine heap_new ?_; (first | (simp; done) | rfl); done) | refine heap_dn ?_ | refine heap_d ?_ | refine heap_old ?_)))) hf
    have HF1 : Hid (Fr w v1) := Fr.trans (by (repeat' (first | exact Below.refl _ _ | refine below_drewN ?_ _ | refine Below.drew ?_ | refine frA ?_ _))) hf
    have hp1 := HP1.out
    (obtain ⟨x0, x1⟩ := box2_ hp1)
    clear hf hp1
    go_wp2_with fail
    (with_reducible refine (cutCheck_any _ _ _ wB wK).mono ?_)
    rw [← Hk.out]
    rintro e v2 ⟨rfl, hf⟩
    have HF2 : Hid (Fr w v2) := HF1.out.trans hf
    have hp2 := blk_go HP1.out hf
    (obtain ⟨x0, x1⟩ := box2_ hp2)
    clear hf hp2
    go_wp2_with fail
    (with_reducible refine (solved_any _).mono ?_)
    rintro e v3 ⟨rfl, hf⟩
    have HF3 : Hid (Fr w v3) := HF2.out.trans hf
    clear hf
    go_wp2_with fail
    go_ret
    exact ⟨rfl, HF3.out⟩
  · have e1 : (ck != 0) = true := by simp [h0]
    clear h0 hbad
    go_enter Try.func7, Try.ntmps7
    go_wp2_with fail
    (with_reducible refine (solved_any _).mono ?_)
    rintro e v1 ⟨rfl, hf⟩
    have HP1 : Hid (v1.heap[w.heap.size]? = some (.cells #[.int .i64 B, .int .i64 K] 47 (0, 0))) := blk_go (by (repeat' (with_reducible (first | (refine heap_new ?_; (first | (simp; done) | rfl); done) | refine heap_dn ?_ | refine heap_d ?_ | refine heap_old ?_)))) hf
    have HF1 : Hid (Fr w v1) := Fr.trans (by (repeat' (first | exact Below.refl _ _ | refine below_drewN ?_ _ | refine Below.drew ?_ | refine frA ?_ _))) hf
    have hp1 := HP1.out
    (obtain ⟨x0, x1⟩ := box2_ hp1)
    clear hf hp1
    go_wp2_with fail
    (with_reducible refine (cutCheck_any _ _ _ wB wK).mono ?_)
    rw [← Hk.out]
    rintro e v2 ⟨rfl, hf⟩
    have HF2 : Hid (Fr w v2) := HF1.out.trans hf
    clear hf
    go_wp2_with fail
    (with_reducible refine (solved_any _).mono ?_)
    rintro e v3 ⟨rfl, hf⟩
    have HF3 : Hid (Fr w v3) := HF2.out.trans hf
    clear hf
    go_wp2_with fail
    go_ret
    exact ⟨rfl, HF3.out⟩
theorem plan_cases {B K : Int} {n : Nat} (h : ¬ (cutCheck B K ≠ 0 ∨ (n : Int) ≠ B)) : ∃ k : Nat, K = k ∧ B = (n : Int) ∧ cutCheck n k = 0 := by
  have h1 : cutCheck B K = 0 := by
    by_cases e : cutCheck B K = 0
    · exact e
    · exact absurd (.inl e) h
  have h2 : (n : Int) = B := by
    by_cases e : (n : Int) = B
    · exact e
    · exact absurd (.inr e) h
  subst h2
  have := (cutCheck_ok h1).2.1
  exact ⟨K.toNat, by omega, rfl, by rw [show ((K.toNat : Nat) : Int) = K by omega]; exact h1⟩
theorem solveNever_any (w : World) (B K : Int) (wB : wfI B) (wK : wfI K) (A : Option Addr) (n c : Nat) (cargo : List UInt8) (h : Sl 1 eByte w (LT w.heap.size) A n cargo) (_l : n * 1 ≤ lim) (hnc : n ≤ c) (hcm : c ≤ maxLen) (A2 : Option Addr) (n2 c2 : Nat) (ids : List Int) (h2 : Sl 1 eInt w (LT w.heap.size) A2 n2 ids) (_l2 : n2 * 8 ≤ lim) (hnc2 : n2 ≤ c2) (hcm2 : c2 ≤ maxLen) (kk : Int) (_wk : wfI kk) :
    Calls Try.prog 7 #[.agg #[.int .i64 B, .int .i64 K], .slice A n c, .slice A2 n2 c2, .int .i64 kk] w fun e w' => e = .returned (.bool true) ∧ Fr w w' := by
  by_cases hb : cutCheck B K ≠ 0 ∨ (n : Int) ≠ B
  · exact solveNever_bad w B K wB wK A n c A2 n2 c2 kk hb
  · obtain ⟨k, rfl, rfl, hck⟩ := plan_cases hb
    exact solveNever_good w k A n c cargo h hnc hcm A2 n2 c2 ids h2 hnc2 hcm2 hck kk
end Go.Proofs.Ytnfjghldcopaaaa
