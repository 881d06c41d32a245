/- keep.Copy. Condition: the place is one of few bundles. -/
import Derived.Test.YtmiaplgfbphfmaaGreatDoorMPGA
import Derived.Test.YtmiaplgfbphfmaaGreatDoorMPGB
import Derived.Test.YtmiaplgfbphfmaaGreatDoorMPJ
set_option linter.unusedSimpArgs false
set_option linter.unusedVariables false
namespace Go.Proofs.YtmiaplgfbphfmaaGreatDoor
open Go.RowKit
attribute [local irreducible] wpList

theorem set_same {α : Type} {l : List α} {j : Nat} {s : α} (h : l[j]? = some s) : l.set j s = l := by
  obtain ⟨hlt, e⟩ := List.getElem?_eq_some_iff.1 h
  rw [← e]; exact List.set_getElem_self hlt
theorem set1_far {w : World} {g p o o' : Nat} {v : Value} (h : g ≠ p) : (w.setCell ⟨g, o, none⟩ v).cell? ⟨p, o', none⟩ = w.cell? ⟨p, o', none⟩ :=
  World.cell?_setCell_other _ _ _ _ (fun e => by injection e with e; exact h e)
theorem AllM.lower {w : World} {base base' : Nat} {v : Value} {xs : List Kp} {lo : Nat → Nat} (h : AllM w base v xs lo) (hb : base' ≤ base) : AllM w base' v xs lo := by
  obtain ⟨cs, ho, hr⟩ := h.own
  refine ⟨⟨cs, ⟨ho.1, ?_⟩, hr⟩, h.mono, h.top, Nat.le_trans hb h.bot, h.far⟩
  rcases ho.2 with h0 | ⟨g, cap, cur, h1, h2, h3⟩
  · exact .inl h0
  · exact .inr ⟨g, cap, cur, h1, by omega, h3⟩
set_option maxRecDepth 100000 in
set_option maxHeartbeats 16000000 in
theorem placeCopy_pos (w : World) (me time seq : Int) (A : Option Addr) (n c : Nat) (l : List Kp) (h : Sl 16 eKp w (LT w.heap.size) A n l) (hn : 0 < n) (hn12 : n ≤ 12) (hsm : ∀ x ∈ l, x.syms.length ≤ 60 ∧ x.took.length ≤ 40) :
    Calls Tryz.prog 65 #[.agg #[.int .i64 me, .slice A n c, .int .i64 time, .int .i64 seq]] w fun e w' => ∃ g cap lo, e = .returned (.agg #[.int .i64 me, .slice (some ⟨g, 0, none⟩) n cap, .int .i64 time, .int .i64 seq]) ∧ Fr w w' ∧ AllM w' w.heap.size (.slice (some ⟨g, 0, none⟩) n cap) l lo := by
  have hlim : Hid (n * 168 ≤ lim) := by unfold lim Hid; omega
  have hlen := Lib.hid h.1
  have H := Lib.hid h
  have HSM := Lib.hid hsm
  obtain ⟨N, hN⟩ : ∃ N, N = w.heap.size := ⟨_, rfl⟩
  clear h hsm
  go_enter Tryz.func65, Tryz.ntmps65
  go_wp2_with fail
  (with_reducible refine (cloneKepts_any w.heap.size _ A n c l (H.out.low sKp (by (repeat' (first | exact Below.refl _ _ | refine below_drewN ?_ _ | refine Below.drew ?_ | refine frA ?_ _)))) hlim.out).mono ?_)
  rintro e w1 ⟨v, rfl, ho, hf1⟩
  obtain ⟨g, cap, cs, rest, rfl, hbg, hg, hcap, hcm, hl, hall, hone, hrd⟩ := own_row (fKp.low _) (by decide) ho (by rw [hlen.out]; exact hn)
  rw [hlen.out] at hcap hl ⊢
  have hb1 : w1.heap[w.heap.size]? = some (.cells #[.int .i64 me, .slice A n c, .int .i64 time, .int .i64 seq] 25 (0, 0)) := blk_go (by (repeat' (with_reducible (first | (refine heap_new ?_; (first | (simp; done) | rfl); done) | refine heap_dn ?_ | refine heap_d ?_ | refine heap_old ?_)))) hf1
  have hz1 : w1.heap[w.heap.size + 1]? = some (.cells #[.int .i64 0, .slice none 0 0, .int .i64 0, .int .i64 0] 25 (0, 0)) := blk_go (heap_new (by simp)) hf1
  simp only [World.size_alloc] at hbg
  have HF : Hid (Fr w w1) := Fr.trans (by (repeat' (first | exact Below.refl _ _ | refine below_drewN ?_ _ | refine Below.drew ?_ | refine frA ?_ _))) hf1
  have OLD : Hid (∀ i x, l[i]? = some x → eKp w (LT w.heap.size) (fun j => cs[i * 16 + j]?) x) := fun i x hx =>
    sKp.keep (fun p hp => (HF.out.cell hp).symm) (sKp.more (fun b hb => hb.2) (hrd i x hx))
  obtain ⟨W2, hW2⟩ : ∃ W2, W2 = w1.setCell ⟨w.heap.size, 1, none⟩ (.slice (some ⟨g, 0, none⟩) n cap) := ⟨_, rfl⟩
  have HB : Hid (W2.heap[w.heap.size]? = some (.cells #[.int .i64 me, .slice (some ⟨g, 0, none⟩) n cap, .int .i64 time, .int .i64 seq] 25 (0, 0))) := by
    unfold Hid; rw [hW2]; have := heap_setCell_same w1 w.heap.size 1 _ _ (.slice (some ⟨g, 0, none⟩) n cap) hb1; simpa using this
  have hoth : ∀ k, k ≠ w.heap.size → W2.heap[k]? = w1.heap[k]? := fun k hk => by rw [hW2]; simp [World.setCell, Array.getElem?_modify, Ne.symm hk]
  have HZ : Hid (W2.heap[w.heap.size + 1]? = some (.cells #[.int .i64 0, .slice none 0 0, .int .i64 0, .int .i64 0] 25 (0, 0))) := by rw [Hid, hoth _ (by omega)]; exact hz1
  have HG : Hid (W2.heap[g]? = some (.cells (cs ++ rest).toArray 96 (0, 0))) := by rw [Hid, hoth _ (by omega)]; exact hg
  have HF2 : Hid (Fr w W2) := by rw [hW2]; exact HF.out.setCell (by simp) _
  have hsz : g < W2.heap.size := (Array.getElem?_eq_some_iff.1 HG.out).1
  have HALL := Lib.hid hall
  have HL := Lib.hid hl
  (obtain ⟨bx0, bx1, bx2, bx3⟩ := box4_ hb1)
  have q2 := blk_free (i := 1) hb1
  have l0 := (Array.getElem?_eq_some_iff.1 hb1).1
  have HW2 := Lib.hid hW2
  clear ho hf1 hb1 hz1 hg hrd hall hone hoth hW2 hl
  have hbgi : w.heap.size + 1 < g := by omega
  clear hbg
  go_wp2_with fail
  rw [← HW2.out]
  clear HW2 bx0 bx1 bx2 bx3 q2 l0
  have HLO0 : Hid (LoOk (fun _ => W2.heap.size) 0 g (w.heap.size + 2) W2.heap.size) := ⟨fun _ _ _ => Nat.le_refl _, by omega, hsz, Nat.le_refl _⟩
  have HM0 : Hid (∀ i y, i < 0 → l[i]? = some y → KpM W2 ((fun _ => W2.heap.size) i) ((fun _ => W2.heap.size) (i + 1)) (fun j => cs[i * 16 + j]?) y) := fun i y hi _ => absurd hi (by omega)
  go_loopw [14] (fun s14 wr => ∃ (k : Nat) (lo : Nat → Nat) (cs' : List Value), k ≤ n ∧ s14 = .int .i64 k ∧ Hid (wr.heap[g]? = some (.cells (cs' ++ rest).toArray 96 (0, 0))) ∧ Hid (cs'.length = n * 16) ∧ Hid (∀ j, k * 16 ≤ j → cs'[j]? = cs[j]?) ∧
      Hid (LoOk lo k g (w.heap.size + 2) wr.heap.size) ∧ Hid (∀ i y, i < k → l[i]? = some y → KpM wr (lo i) (lo (i + 1)) (fun j => cs'[i * 16 + j]?) y) ∧ Hid (Chg (fun b => b = g) W2 wr)) (fun i _ => n - (intOf i).toNat)
  case atStart => exact ⟨0, _, cs, Nat.zero_le _, rfl, HG, HL, fun _ _ => rfl, HLO0, HM0, Chg.refl _ _⟩
  case round =>
    obtain ⟨k, lo, cs', hk, rfl, HG', HL', HO', HLO, HM, HC⟩ := hrel
    by_cases hlt : k < n
    · obtain ⟨x, hx⟩ : ∃ x, l[k]? = some x := ⟨_, List.getElem?_eq_getElem (by rw [hlen.out]; exact hlt)⟩
      obtain ⟨A1, n1, c1, A2, n2, c2, A3, n3, c3, ⟨f0, f1, f2, f3, f4, f5, f6, f7, f8, f9, f10, f11, f12, f13, f14, f15⟩, hwf, hcg, hsy, htk⟩ := eKp_iff.1 (OLD.out k x hx)
      have hlx := HSM.out x (List.mem_of_getElem? hx)
      have hWr : Fr w wr := HC.out.fr HF2.out fun b hb => by rw [hb]; omega
      have HCG := Lib.hid (hcg.go hWr)
      have HSY := Lib.hid (hsy.go hWr)
      have HTK := Lib.hid (htk.go hWr)
      have HSYL := Lib.hid (hsy.2.low sSm hWr)
      have hce : ∀ t u, t < 16 → cs[k * 16 + t]? = some u → wr.cell? ⟨g, k * 16 + t, none⟩ = some u := fun t u ht hu => cells_at HG'.out (by rw [HO'.out _ (by omega)]; exact hu)
      have m0 := hce 0 _ (by decide) f0
      have m1 := hce 1 _ (by decide) f1
      have m2 := hce 2 _ (by decide) f2
      have m3 := hce 3 _ (by decide) f3
      have m4 := hce 4 _ (by decide) f4
      have m5 := hce 5 _ (by decide) f5
      have m6 := hce 6 _ (by decide) f6
      have m7 := hce 7 _ (by decide) f7
      have m8 := hce 8 _ (by decide) f8
      have m9 := hce 9 _ (by decide) f9
      have m10 := hce 10 _ (by decide) f10
      have m11 := hce 11 _ (by decide) f11
      have m12 := hce 12 _ (by decide) f12
      have m13 := hce 13 _ (by decide) f13
      have m14 := hce 14 _ (by decide) f14
      have m15 := hce 15 _ (by decide) f15
      simp only [Nat.add_zero] at m0
      have hbw := HC.out.blk HB.out (by omega)
      (obtain ⟨bx0, bx1, bx2, bx3⟩ := box4_ hbw)
      have HX := Lib.hid hx
      have HWR := Lib.hid hWr
      have HWF := Lib.hid hwf
      have HLX := Lib.hid hlx
      have HCL : Hid (x.cargo.length ≤ lim) := by have := hcg.1.1; have := hcg.2.1; unfold Hid; omega
      clear hx hwf hcg hsy htk hWr hbw hlx hce f0 f1 f2 f3 f4 f5 f6 f7 f8 f9 f10 f11 f12 f13 f14 f15
      go_upto_region 5 with fail
      obtain ⟨W3, hW3⟩ : ∃ W3, W3 = wr.alloc (.cells #[.int .i64 x.h.frm, .int .i64 x.h.seq, .int .i64 x.h.to, .int .i64 x.h.till, .int .i64 x.h.bytes, .int .i64 x.h.block, .bool x.own, .slice A1 n1 c1, .slice A2 n2 c2, .int .i64 x.shares, .int .i64 x.giving, .int .i64 x.towards, .int .i64 x.try_, .slice A3 n3 c3, .bool x.delivered, .bool x.purged] 96) := ⟨_, rfl⟩
      obtain ⟨q, hq⟩ : ∃ q, q = wr.heap.size := ⟨_, rfl⟩
      have HQ : Hid (W3.drew.heap[q]? = some (.cells #[.int .i64 x.h.frm, .int .i64 x.h.seq, .int .i64 x.h.to, .int .i64 x.h.till, .int .i64 x.h.bytes, .int .i64 x.h.block, .bool x.own, .slice A1 n1 c1, .slice A2 n2 c2, .int .i64 x.shares, .int .i64 x.giving, .int .i64 x.towards, .int .i64 x.try_, .slice A3 n3 c3, .bool x.delivered, .bool x.purged] 96 (0, 0))) := by rw [hW3]; exact heap_new hq
      have hF3 : Fr wr W3 := by rw [hW3]; exact frAlloc _ _
      have hq3 : W3.heap.size = q + 1 := by rw [hW3, hq]; simp
      have HBX : Hid (W3.drew.heap[w.heap.size]? = some (.cells #[.int .i64 me, .slice (some ⟨g, 0, none⟩) n cap, .int .i64 time, .int .i64 seq] 25 (0, 0))) := blk_go (HC.out.blk HB.out (by omega)) hF3.drew
      rw [← hW3, ← hq]
      have HF3 := Lib.hid hF3
      have HG3 : Hid (Fr W3 W3.drew) := (Below.refl _ _).drew
      have HC0 := HCG
      have HS0 := HSYL
      have HT0 : Hid (Sl 2 eTk wr (LT wr.heap.size) A3 n3 x.took) := HTK.out.2
      have HQW := Lib.hid hq
      have HQ3 := Lib.hid hq3
      have HlS : Hid (n2 * 32 ≤ lim) := HSY.out.1.1
      have HlT : Hid (n3 * 16 ≤ lim) := HTK.out.1.1
      have HlC : Hid (n1 * 1 ≤ lim) := HCG.out.1.1
      clear hW3 hF3 hq hq3 HCG HSY HTK HSYL m0 m1 m2 m3 m4 m5 m6 m7 m8 m9 m10 m11 m12 m13 m14 m15 bx0 bx1 bx2 bx3
      have hNq : w.heap.size ≤ q := by rw [HQW.out]; exact HWR.out.size
      have HK3 : Hid (Chg (fun b => b = q) W3 W3.drew) := (Chg.refl _ _).drew
      have CC : Hid (∀ W, Chg (fun b => b = q) W3 W → Calls Tryz.prog 69 #[.slice A1 n1 c1] W fun e w' => ∃ AC cC, e = .returned (.slice AC x.cargo.length cC) ∧ Own 1 eByte w' W.heap.size 5 (.slice AC x.cargo.length cC) x.cargo ∧ Fr W w') := fun W hk => by
        refine (cloneBytes_any W A1 n1 c1 x.cargo ?_ HlC.out).mono ?_
        · exact ((HC0.out.2.keep (w' := W3) sByte fun p hp => HF3.out.cell hp).keep sByte fun p hp => hk.cell (Nat.lt_of_lt_of_le hp HF3.out.size) (by have : p.block < wr.heap.size := hp; have := HQW.out; omega)).more sByte fun b hb => Nat.lt_of_lt_of_le hb (Nat.le_trans HF3.out.size hk.size)
        · rintro e w' ⟨v, rfl, ho, hf⟩
          obtain ⟨AC, cC, rfl, _⟩ := ho.slC sByte (by decide)
          exact ⟨AC, cC, rfl, ho, hf⟩
      have CS : Hid (∀ W, Chg (fun b => b = q) W3 W → Calls Tryz.prog 105 #[.slice A2 n2 c2] W fun e w' => ∃ AS cS, e = .returned (.slice AS x.syms.length cS) ∧ Own 2 (eLow w.heap.size eSm) w' W.heap.size 38 (.slice AS x.syms.length cS) x.syms ∧ Fr W w') := fun W hk => by
        refine (cloneSymsL_any w.heap.size W A2 n2 c2 x.syms ?_ HlS.out).mono ?_
        · exact ((HS0.out.keep (w' := W3) (sSm.low _) fun p hp => HF3.out.cell hp).keep (sSm.low _) fun p hp => hk.cell (Nat.lt_of_lt_of_le hp HF3.out.size) (by have : p.block < wr.heap.size := hp; have := HQW.out; omega)).more (sSm.low _) fun b hb => Nat.lt_of_lt_of_le hb (Nat.le_trans HF3.out.size hk.size)
        · rintro e w' ⟨v, rfl, ho, hf⟩
          obtain ⟨AC, cC, rfl, _⟩ := ho.slC (sSm.low _) (by decide)
          exact ⟨AC, cC, rfl, ho, hf⟩
      have CT : Hid (∀ W, Chg (fun b => b = q) W3 W → Calls Tryz.prog 106 #[.slice A3 n3 c3] W fun e w' => ∃ AT cT, e = .returned (.slice AT x.took.length cT) ∧ Own 2 eTk w' W.heap.size 131 (.slice AT x.took.length cT) x.took ∧ Fr W w') := fun W hk => by
        refine (cloneToks_any W A3 n3 c3 x.took ?_ HlT.out).mono ?_
        · exact ((HT0.out.keep (w' := W3) sTk fun p hp => HF3.out.cell hp).keep sTk fun p hp => hk.cell (Nat.lt_of_lt_of_le hp HF3.out.size) (by have : p.block < wr.heap.size := hp; have := HQW.out; omega)).more sTk fun b hb => Nat.lt_of_lt_of_le hb (Nat.le_trans HF3.out.size hk.size)
        · rintro e w' ⟨v, rfl, ho, hf⟩
          obtain ⟨AC, cC, rfl, _⟩ := ho.slC sTk (by decide)
          exact ⟨AC, cC, rfl, ho, hf⟩
      have ST : Hid (∀ W v (o : Nat) (W0 : World), Chg (fun b => b = q) W0 W → Chg (fun b => b = q) W0 (W.setCell ⟨q, o, none⟩ v)) := fun W v o W0 hk => Chg.set (S := fun b => b = q) (p := ⟨q, o, none⟩) hk rfl _
      have KC : Hid (∀ a b v, Chg (fun b => b = q) a b → Own 1 eByte a W3.heap.size 5 v x.cargo → Own 1 eByte b W3.heap.size 5 v x.cargo) := fun a b v k h => h.chgG k (fun b hb e => by have := (h.ge hb).1; have := HQ3.out; omega) fun f x hx => hx
      have KS : Hid (∀ a b v, Chg (fun b => b = q) a b → Own 2 (eLow w.heap.size eSm) a W3.heap.size 38 v x.syms → Own 2 (eLow w.heap.size eSm) b W3.heap.size 38 v x.syms) := fun a b v k h => h.chgG k (fun b hb e => by have := (h.ge hb).1; have := HQ3.out; omega) fun f y hy => by
        unfold eLow at hy ⊢
        exact sSm.more (fun b hb => ⟨⟨Nat.lt_of_lt_of_le hb.1.1 k.size, hb.1.2⟩, hb.2⟩) (sSm.keep (fun p hp => k.cell hp.1.1 (by have := hp.2; omega)) hy)
      have hqq := HQ.out
      (obtain ⟨m0, m1, m2, m3, m4, m5, m6, m7, m8, m9, m10, m11, m12, m13, m14, m15⟩ := box16_ hqq)
      have y7 := blk_free (i := 7) hqq
      have y8 := blk_free (i := 8) hqq
      have y13 := blk_free (i := 13) hqq
      clear hqq
      go_cut [] (fun wx => ∃ AC cC AS cS AT cT, Hid (wx.heap[q]? = some (.cells #[.int .i64 x.h.frm, .int .i64 x.h.seq, .int .i64 x.h.to, .int .i64 x.h.till, .int .i64 x.h.bytes, .int .i64 x.h.block, .bool x.own, .slice AC x.cargo.length cC, .slice AS x.syms.length cS, .int .i64 x.shares, .int .i64 x.giving, .int .i64 x.towards, .int .i64 x.try_, .slice AT x.took.length cT, .bool x.delivered, .bool x.purged] 96 (0, 0))) ∧ Hid (Own 1 eByte wx W3.heap.size 5 (.slice AC x.cargo.length cC) x.cargo) ∧ Hid (Own 2 (eLow w.heap.size eSm) wx W3.heap.size 38 (.slice AS x.syms.length cS) x.syms) ∧ Hid (Own 2 eTk wx W3.heap.size 131 (.slice AT x.took.length cT) x.took) ∧
          Hid (∀ b, (Value.slice AC x.cargo.length cC).ownBlock = some b → (Value.slice AS x.syms.length cS).ownBlock ≠ some b ∧ (Value.slice AT x.took.length cT).ownBlock ≠ some b) ∧ Hid (∀ b, (Value.slice AS x.syms.length cS).ownBlock = some b → (Value.slice AT x.took.length cT).ownBlock ≠ some b) ∧ Hid (Chg (fun b => b = q) W3 wx))
      case first =>
        clear HM HLO HC HG' HL' HO' HB HZ HG HF HF2 HALL HL OLD HSM H HBX
        go_region_with (first
          | (go_at_call 69; (with_reducible refine (CC.out _ (by repeat' (first | exact HK3.out | refine ST.out _ _ _ _ ?_))).mono ?_); rintro e w5 ⟨AC, cC, rfl, ho5, hf5⟩;
              have HK5 := Lib.hid (Chg.trans HK3.out (Fr.chg hf5)); have HO5 := Lib.hid (ho5.lower (base' := W3.heap.size) HK3.out.size); have HQ5 := Lib.hid (blk_go HQ.out hf5); have hqq := HQ5.out;
              clear m0 m1 m2 m3 m4 m5 m6 m7 m8 m9 m10 m11 m12 m13 m14 m15 y7 y8 y13; (obtain ⟨m0, m1, m2, m3, m4, m5, m6, m7, m8, m9, m10, m11, m12, m13, m14, m15⟩ := box16_ hqq); have y7 := blk_free (i := 7) hqq; have y8 := blk_free (i := 8) hqq; have y13 := blk_free (i := 13) hqq; clear hqq ho5 hf5)
          | (go_at_call 105; (with_reducible refine (CS.out _ (by repeat' (first | exact HK5.out | refine ST.out _ _ _ _ ?_))).mono ?_); rintro e w6 ⟨AS, cS, rfl, ho6, hf6⟩;
              have HL6 : Hid (Chg (fun b => b = q) w5 w6) := (Chg.trans (by repeat' (first | exact Chg.refl _ _ | refine ST.out _ _ _ _ ?_)) (Fr.chg hf6)); have HK6 : Hid (Chg (fun b => b = q) W3 w6) := HK5.out.trans HL6.out;
              have HO6 : Hid (Own 2 (eLow w.heap.size eSm) w6 w5.heap.size 38 (.slice AS x.syms.length cS) x.syms) := ho6.lower (by simp);
              (first | (have hqq := blk_go HQ5.out hf6) | (have h := HQ5.out; have h := heap_setCell_same _ q 7 _ _ (.slice AC x.cargo.length cC) h; simp at h; have hqq := blk_go h hf6; clear h));
              have HQ6 := Lib.hid hqq; clear m0 m1 m2 m3 m4 m5 m6 m7 m8 m9 m10 m11 m12 m13 m14 m15 y7 y8 y13; (obtain ⟨m0, m1, m2, m3, m4, m5, m6, m7, m8, m9, m10, m11, m12, m13, m14, m15⟩ := box16_ hqq); have y7 := blk_free (i := 7) hqq; have y8 := blk_free (i := 8) hqq; have y13 := blk_free (i := 13) hqq; clear hqq ho6 hf6)
          | (go_at_call 106; (with_reducible refine (CT.out _ (by repeat' (first | exact HK6.out | refine ST.out _ _ _ _ ?_))).mono ?_); rintro e w7 ⟨AT, cT, rfl, ho7, hf7⟩;
              have HL7 : Hid (Chg (fun b => b = q) w6 w7) := (Chg.trans (by repeat' (first | exact Chg.refl _ _ | refine ST.out _ _ _ _ ?_)) (Fr.chg hf7)); have HK7 : Hid (Chg (fun b => b = q) W3 w7) := HK6.out.trans HL7.out;
              have HO7 : Hid (Own 2 eTk w7 w6.heap.size 131 (.slice AT x.took.length cT) x.took) := ho7.lower (by simp);
              (first | (have hqq := blk_go HQ6.out hf7) | (have h := HQ6.out; have h := heap_setCell_same _ q 7 _ _ (.slice AC x.cargo.length cC) h; simp at h; have hqq := blk_go h hf7; clear h) | (have h := HQ6.out; have h := heap_setCell_same _ q 8 _ _ (.slice AS x.syms.length cS) h; simp at h; have hqq := blk_go h hf7; clear h) | (have h := HQ6.out; have h := heap_setCell_same _ q 7 _ _ (.slice AC x.cargo.length cC) h; simp at h; have h := heap_setCell_same _ q 8 _ _ (.slice AS x.syms.length cS) h; simp at h; have hqq := blk_go h hf7; clear h));
              have HQ7 := Lib.hid hqq; clear m0 m1 m2 m3 m4 m5 m6 m7 m8 m9 m10 m11 m12 m13 m14 m15 y7 y8 y13; (obtain ⟨m0, m1, m2, m3, m4, m5, m6, m7, m8, m9, m10, m11, m12, m13, m14, m15⟩ := box16_ hqq); have y7 := blk_free (i := 7) hqq; have y8 := blk_free (i := 8) hqq; have y13 := blk_free (i := 13) hqq; clear hqq ho7 hf7)
          | fail)
        all_goals
          have s56 := HL6.out.size
          have s67 := HL7.out.size
          have s35 := HK5.out.size
          go_wp2_with fail
          go_meet
          refine ⟨AC, cC, AS, cS, AT, cT, ?_, KC.out _ _ _ (HL6.out.trans (HL7.out.trans ?_)) HO5.out, KS.out _ _ _ (HL7.out.trans ?_) (HO6.out.lower s35), Own.tk (S := fun b => b = q) (HO7.out.lower (Nat.le_trans s35 s56)) ?_ ?_, fun b hb => ⟨fun e => ?_, fun e => ?_⟩, fun b hb e => ?_, HK7.out.trans ?_⟩
          · first | (have h := HQ7.out; have h := heap_setCell_same _ q 13 _ _ (.slice AT x.took.length cT) h; simp at h; exact h) | (have h := HQ7.out; have h := heap_setCell_same _ q 8 _ _ (.slice AS x.syms.length cS) h; simp at h; have h := heap_setCell_same _ q 13 _ _ (.slice AT x.took.length cT) h; simp at h; exact h) | (have h := HQ7.out; have h := heap_setCell_same _ q 7 _ _ (.slice AC x.cargo.length cC) h; simp at h; have h := heap_setCell_same _ q 8 _ _ (.slice AS x.syms.length cS) h; simp at h; have h := heap_setCell_same _ q 13 _ _ (.slice AT x.took.length cT) h; simp at h; exact h)
          · repeat' (first | exact Chg.refl _ _ | refine ST.out _ _ _ _ ?_)
          · repeat' (first | exact Chg.refl _ _ | refine ST.out _ _ _ _ ?_)
          · repeat' (first | exact Chg.refl _ _ | refine ST.out _ _ _ _ ?_)
          · intro b hb e
            have := (HO7.out.ge hb).1
            have := HQ3.out
            omega
          · have := (HO5.out.ge hb).2; have := (HO6.out.ge e).1; omega
          · have := (HO5.out.ge hb).2; have := (HO7.out.ge e).1; omega
          · have := (HO6.out.ge hb).2; have := (HO7.out.ge e).1; omega
          · repeat' (first | exact Chg.refl _ _ | refine ST.out _ _ _ _ ?_)
      case rest =>
        obtain ⟨AC, cC, AS, cS, AT, cT, HQ6, HO5, HO6, HO7, HD1, HD2, HK6⟩ := hcut
        obtain ⟨W6, rfl⟩ : ∃ W6, W6 = wc := ⟨_, rfl⟩
        obtain ⟨Wr, rfl⟩ : ∃ Wr, Wr = wr := ⟨_, rfl⟩
        have HR6 : Hid (Fr Wr W6) := HK6.out.fr HF3.out fun b hb => by rw [hb, ← HQW.out]; exact Nat.le_refl _
        have HB6 : Hid (W6.heap[w.heap.size]? = some (.cells #[.int .i64 me, .slice (some ⟨g, 0, none⟩) n cap, .int .i64 time, .int .i64 seq] 25 (0, 0))) := blk_go (HC.out.blk HB.out (by omega)) HR6.out
        have HS6 : Hid (OwnR 2 eSm (fun t b => (t < 0 → W6.heap.size ≤ b) ∧ (¬ t < 0 → b < w.heap.size)) W6 W3.heap.size 38 (.slice AS x.syms.length cS) x.syms) := (HO6.out.lowR sSm).more sSm fun t b _ hb => ⟨fun h => absurd h (by omega), fun _ => hb⟩
        have hs36 : W3.heap.size ≤ W6.heap.size := HK6.out.size
        have hl60 := HLX.out.1
        have hqq := HQ6.out
        (obtain ⟨m0, m1, m2, m3, m4, m5, m6, m7, m8, m9, m10, m11, m12, m13, m14, m15⟩ := box16_ hqq)
        clear hqq HQ HK3 HG3 CC CS CT KC KS HO6 HC0 HS0 HT0 HlS HlT HlC HBX ST y7 y8 y13
        obtain ⟨n2s, hn2s⟩ : ∃ n2s, n2s = x.syms.length := ⟨_, rfl⟩
        go_wp2_with fail
        clear m0 m1 m2 m3 m4 m5 m6 m7 m8 m9 m10 m11 m12 m13 m14 m15
        go_loopw [34] (fun i wi => ∃ j : Nat, j ≤ x.syms.length ∧ i = .int .i64 j ∧ Hid (OwnR 2 eSm (fun t b => (t < j → W6.heap.size ≤ b) ∧ (¬ t < j → b < w.heap.size)) wi W3.heap.size 38 (.slice AS x.syms.length cS) x.syms) ∧ Hid (Chg (fun b => (Value.slice AS x.syms.length cS).ownBlock = some b) W6 wi)) (fun i _ => x.syms.length - (intOf i).toNat)
        case atStart => exact ⟨0, Nat.zero_le _, rfl, HS6, Chg.refl _ _⟩
        case round =>
          obtain ⟨j, hj, rfl, HO, HK⟩ := hrel
          have hs3 := HF3.out.size
          have HRi : Hid (Fr Wr wr) := HK.out.fr HR6.out fun b hb => by
            have := (HO.out.own sSm).ge hb
            omega
          have hbx := blk_go (HC.out.blk HB.out (by omega)) HRi.out
          have hqn : ∀ b, (Value.slice AS x.syms.length cS).ownBlock = some b → b ≠ q := fun b hb => by
            have := (HO.out.own sSm).ge hb
            have := HQ3.out
            omega
          have hqx := HK.out.blk HQ6.out (fun e => hqn q e rfl)
          (obtain ⟨bx0, bx1, bx2, bx3⟩ := box4_ hbx)
          (obtain ⟨m0, m1, m2, m3, m4, m5, m6, m7, m8, m9, m10, m11, m12, m13, m14, m15⟩ := box16_ hqx)
          (have Hbx := Lib.hid hbx; clear hbx; have Hqx := Lib.hid hqx; clear hqx; have Hqn := Lib.hid hqn; clear hqn)
          by_cases hjl : j < x.syms.length
          · obtain ⟨h, cap2, cs2, rest2, e1, hbg2, hg2, _, _, hl2, _, _, hr2⟩ := ownR_row fSm (by decide) HO.out (by omega)
            injection e1 with e2 e3 e4
            subst e2 e4
            obtain ⟨s, hs⟩ : ∃ s, x.syms[j]? = some s := ⟨_, List.getElem?_eq_getElem hjl⟩
            obtain ⟨A4, n4, c4, ⟨f0, f1⟩, hwi, hby⟩ := eSm_iff.1 (hr2 j s hs)
            have k0 : wr.cell? ⟨h, j * 2, none⟩ = some (.int .i64 s.id) := cells_at hg2 (by simpa using f0)
            have k1 : wr.cell? ⟨h, j * 2 + 1, none⟩ = some (.slice A4 n4 c4) := cells_at hg2 f1
            have hgl : h < wr.heap.size := (Array.getElem?_eq_some_iff.1 hg2).1
            have hnb := hby.1.1
            have hby1 := hby.2.more (S' := LT wr.heap.size) sByte fun b hb => hb.2.1
            have kfree := blk_free (i := j * 2 + 1) hg2
            have h1g : g ≠ h := by have := HC.out.size; omega
            have h2g : q ≠ h := by have := HQ3.out; omega
            clear f0 f1 hr2 e3 hby
            have Hk0 := Lib.hid k0
            (have Hs := Lib.hid hs; clear hs; have Hg2 := Lib.hid hg2; clear hg2; have Hl2 := Lib.hid hl2; clear hl2; have Hwi := Lib.hid hwi; clear hwi; have Hby1 := Lib.hid hby1; clear hby1; have Hnb := Lib.hid hnb; clear hnb)
            go_upto_region 9 with fail
            obtain ⟨W7, hW7⟩ : ∃ W7, W7 = wr.alloc (.cells #[.int .i64 s.id, .slice A4 n4 c4] 38) := ⟨_, rfl⟩
            obtain ⟨r6, hr6⟩ : ∃ r6, r6 = wr.heap.size := ⟨_, rfl⟩
            have HR7 : Hid (W7.drew.heap[r6]? = some (.cells #[.int .i64 s.id, .slice A4 n4 c4] 38 (0, 0))) := by rw [hW7]; exact heap_new hr6
            have hF7 : Fr wr W7 := by rw [hW7]; exact frAlloc _ _
            rw [← hW7, ← hr6]
            have HF7 := Lib.hid hF7
            have HG7 : Hid (Fr W7 W7.drew) := (Below.refl _ _).drew
            have HQ7 := Lib.hid (blk_go Hqx.out hF7.drew)
            have HY7 := Lib.hid (Hby1.out.go sByte hF7)
            have h3g : r6 ≠ h := by omega
            have HK1 := Lib.hid k1
            clear hW7 hr6 hF7 k0 k1 kfree m0 m1 m2 m3 m4 m5 m6 m7 m8 m9 m10 m11 m12 m13 m14 m15 bx0 bx1 bx2 bx3
            go_region_held3 (fun w' => w'.cell? ⟨q, 8, none⟩ = some (.slice (some ⟨h, 0, none⟩) x.syms.length cS) ∧ w'.cell? ⟨r6, 1, none⟩ = some (.slice A4 n4 c4)) (first | exact ⟨cell_of_heap HQ7.out, cell_of_heap HR7.out⟩ | exact ⟨(set1_far (Ne.symm h2g)).trans (cell_of_heap HQ7.out), (set1_far (Ne.symm h3g)).trans (cell_of_heap HR7.out)⟩ | go_keep)
              (first
                | (go_at_call 107; (with_reducible refine (cloneBlock_any _ _ _ _ s.data (HY7.out.go sByte HG7.out) Hnb.out).mono ?_); rintro e w8 ⟨v8, rfl, ho8, hf8⟩; obtain ⟨A8, c8, rfl, hd8, hs8⟩ := own_bytes ho8; have HQ7 := Lib.hid (blk_go HQ7.out hf8); have HR7 := Lib.hid (blk_go HR7.out hf8); have HZ7 := Lib.hid HG7.out.size; have HG7 := Lib.hid (HG7.out.trans hf8); have HD8 := Lib.hid hd8; have HS8 := Lib.hid hs8; have kfree := blk_free (i := j * 2 + 1) (blk_go Hg2.out (HF7.out.trans HG7.out)); have k1 := ((HF7.out.trans HG7.out).cell (p := ⟨h, j * 2 + 1, none⟩) hgl).trans HK1.out; clear hf8 ho8 hd8 hs8)
                | fail)
            all_goals
              have hWW : Fr wr w8 := HF7.out.trans HG7.out
              have hHK : Chg (fun b => (Value.slice (some ⟨h, 0, none⟩) x.syms.length cS).ownBlock = some b) W6 w8 := HK.out.trans (Fr.chg hWW)
              have hdl : s.data.length = n4 := Hby1.out.1
              subst hdl
              have hz7 := HF7.out.size
              have hz8 := HZ7.out
              have hz9 := HK.out.size
              have HO2 : Hid (OwnR 2 eSm (fun t b => (t < j + 1 → W6.heap.size ≤ b) ∧ (¬ t < j + 1 → b < w.heap.size)) (w8.setCell ⟨h, j * 2 + 1, none⟩ (.slice A8 s.data.length c8)) W3.heap.size 38 (.slice (some ⟨h, 0, none⟩) x.syms.length cS) x.syms) := by
                have e5 : x.syms.set j s = x.syms := set_same Hs.out
                have key := ownR_set (j := 1) (u := .slice A8 s.data.length c8) (x := s) (reg' := fun t b => (t < j + 1 → W6.heap.size ≤ b) ∧ (¬ t < j + 1 → b < w.heap.size)) sSm fSm (by decide) (HO.out.fr sSm hWW) hjl (by decide) rfl (fun t b ht h1 => ⟨fun h => h1.1 (by omega), fun h => h1.2 (by omega)⟩) fun f hf => by
                  refine eSm_iff.2 ⟨A8, s.data.length, c8, ⟨?_, by simp⟩, Hwi.out, ⟨Hnb.out, HD8.out⟩, HS8.out.more sByte fun b hb => ⟨⟨fun _ => ?_, fun e => absurd (Nat.lt_succ_self _) e⟩, hb.2, ?_⟩⟩
                  · rw [if_neg (by decide), hf 0 (by decide)]
                    have k0 := (hWW.cell (p := ⟨h, j * 2, none⟩) hgl).trans Hk0.out
                    simpa using k0
                  · have := hb.1
                    omega
                  · have := hb.1
                    omega
                rw [e5] at key
                exact key
              have HK2 : Hid (Chg (fun b => (Value.slice (some ⟨h, 0, none⟩) x.syms.length cS).ownBlock = some b) W6 (w8.setCell ⟨h, j * 2 + 1, none⟩ (.slice A8 s.data.length c8))) := Chg.set (p := ⟨h, j * 2 + 1, none⟩) hHK rfl _
              clear hWW hHK HQ7 HR7 HG7 HY7 HD8 HS8
              go_wp2_with fail
              go_roundw
              case rel => exact ⟨j + 1, by omega, by go_num, HO2, HK2⟩
              case measure => simp [intOf]; omega
          · obtain rfl : j = x.syms.length := by omega
            have HSf : Hid (OwnR 2 eSm (fun _ b => W6.heap.size ≤ b) wr W3.heap.size 38 (.slice AS x.syms.length cS) x.syms) := HO.out.more sSm fun t b ht hb => hb.1 ht
            have HCf : Hid (Own 1 eByte wr W3.heap.size 5 (.slice AC x.cargo.length cC) x.cargo) := HO5.out.chgG HK.out (fun b hb e => (HD1.out b hb).1 e) fun f y hy => hy
            have HTf := Lib.hid (HO7.out.tk HK.out fun b hb e => HD2.out b e hb)
            have HXf := (kpm_new HWF.out HLX.out.1 HLX.out.2 (HCL.out) HCf.out HSf.out HTf.out hs36 HD1.out HD2.out fun b hb => (HO7.out.ge hb).2).wide hs3 (Nat.le_refl _)
            obtain ⟨lo', cs2, r1, r2, r3, r4, r5, r6⟩ := kcopy_step (W2 := W2) (wr := Wr) (wi := wr) (vs := kpCells x AC x.cargo.length cC (.slice AS x.syms.length cS) (.slice AT x.took.length cT)) hlt hlen.out HX.out rfl HG'.out HL'.out HO'.out HLO.out HM.out HC.out HRi.out HXf
            rw [setsW_eq] at r1 r4 r5 r6
            obtain ⟨W9, hW9⟩ : ∃ W9, W9 = wr.setCells g (k * 16) (kpCells x AC x.cargo.length cC (.slice AS x.syms.length cS) (.slice AT x.took.length cT)) := ⟨_, rfl⟩
            rw [← hW9] at r1 r4 r5 r6
            (have R1 := Lib.hid r1; clear r1; have R2 := Lib.hid r2; clear r2; have R3 := Lib.hid r3; clear r3; have R4 := Lib.hid r4; clear r4; have R5 := Lib.hid r5; clear r5; have R6 := Lib.hid r6; clear r6; have HW9 := Lib.hid hW9; clear hW9)
            have ht : wr.there g (k * 16) 16 := fun t htt => by
              have hgr := blk_go HG'.out HRi.out
              have hlt' : k * 16 + t < cs'.length := by have := HL'.out; omega
              exact ⟨by rw [cells_at hgr (List.getElem?_eq_getElem hlt')]; rfl, blk_free hgr⟩
            have hrg : wr.rangeAt q 0 (kpCells x AC x.cargo.length cC (.slice AS x.syms.length cS) (.slice AT x.took.length cT)) := fun j v hv => by rw [Nat.zero_add, cell_of_heap Hqx.out]; simpa [kpCells] using hv
            clear m0 m1 m2 m3 m4 m5 m6 m7 m8 m9 m10 m11 m12 m13 m14 m15 HSf HCf HTf HXf HO HK HO5 HO7 HD1 HD2 HG' HL' HO' HLO HM HC
            go_upto_region 11 with fail
            go_step
            iterate 14 (first | (refine wpList_load_mid rfl 96 (.tmp 4) rfl q 0 rfl (kpCells x AC x.cargo.length cC (.slice AS x.syms.length cS) (.slice AT x.took.length cT)) _ hrg Tryz.underlying96 rfl (by kernel_rfl) ?_) | (refine wpList_store_mid rfl 96 (.tmp 52) (.tmp 51) rfl g (k * 16) (kpCells x AC x.cargo.length cC (.slice AS x.syms.length cS) (.slice AT x.took.length cT)).toArray rfl rfl ht (by kernel_rfl) kp_one ?_) | go_values | go_skip | go_guarded | go_step | go_upon | go_back)
            rw [List.toList_toArray, ← HW9.out]
            clear HW9 ht hrg
            simp only [Act.put]
            go_wp2_with fail
            go_roundw
            case rel => exact ⟨k + 1, lo', cs2, by omega, by go_num, R1, R2, R3, R4, R5, R6⟩
            case measure => simp [intOf]; omega
    · obtain rfl : k = n := by omega
      have hb3 := HC.out.blk HB.out (by omega)
      have hz3 := HC.out.blk HZ.out (by omega)
      (obtain ⟨bx0, bx1, bx2, bx3⟩ := box4_ hb3)
      (obtain ⟨bz0, bz1, bz2, bz3⟩ := box4_ hz3)
      have y0 := blk_free (i := 0) hz3
      have y1 := blk_free (i := 1) hz3
      have y2 := blk_free (i := 2) hz3
      have y3 := blk_free (i := 3) hz3
      have l1 := (Array.getElem?_eq_some_iff.1 hz3).1
      clear hb3 hz3
      go_wp2_with fail
      refine bodyPost_ret (v := .agg #[.int .i64 me, .slice (some ⟨g, 0, none⟩) k cap, .int .i64 time, .int .i64 seq]) ?_ rfl ⟨g, cap, rfl, ?_, lo, ?_⟩
      · simp [results, Tryz.results65, go_sem, bz0, bz1, bz2, bz3, l1]
      · exact ((((HC.out.fr HF2.out fun b hb => by rw [hb]; omega).setCell (by simp) _).setCell (by simp) _).setCell (by simp) _).setCell (by simp) _
      · have hM : AllM wr (w.heap.size + 2) (.slice (some ⟨g, 0, none⟩) k cap) l lo :=
          ⟨⟨cs', ⟨by rw [hlen.out]; exact HL'.out, .inr ⟨g, cap, _, by rw [hlen.out], by omega, HG'.out, by rw [hlen.out]; exact hcap, hcm, by simp; rw [HL'.out, ← HL.out]; exact HALL.out, by rw [hlen.out, ← HL'.out]; simp⟩⟩, fun i y hy => HM.out i y (by rw [← hlen.out]; exact (List.getElem?_eq_some_iff.1 hy).1) hy⟩, HLO.out.mono, by rw [hlen.out]; exact HLO.out.top, HLO.out.bot, fun b hb => by
            have : g = b := by simpa [Value.ownBlock] using hb
            rw [← this]; exact HLO.out.far⟩
        exact (hM.chg (Chg.of (grw4_ (g := w.heap.size + 1) ⟨rfl, rfl, rfl, Nat.le_refl _, fun _ _ _ => rfl⟩)) fun b h1 h2 e => by omega).lower (by omega)
end Go.Proofs.YtmiaplgfbphfmaaGreatDoor
