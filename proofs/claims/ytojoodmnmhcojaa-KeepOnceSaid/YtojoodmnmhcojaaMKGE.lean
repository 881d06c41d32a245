/- Plain laws of what a record makes of a place. No condition; no program in sight. -/
import Derived.Test.YtojoodmnmhcojaaMKGA
import Derived.Test.YtojoodmnmhcojaaMKGB
import Derived.Test.YtojoodmnmhcojaaBox2
import Derived.Test.YtojoodmnmhcojaaMKGC
set_option linter.unusedSimpArgs false
set_option linter.unusedVariables false
namespace Go.Proofs.Ytojoodmnmhcojaa
open Go.RowKit
attribute [local irreducible] wpList

theorem set_same {α : Type} {l : List α} {j : Nat} {s : α} (h : l[j]? = some s) : l.set j s = l := by
  obtain ⟨hlt, e⟩ := List.getElem?_eq_some_iff.1 h
  rw [← e]; exact List.set_getElem_self hlt
theorem set1_far {w : World} {g p o o' : Nat} {v : Value} (h : g ≠ p) : (w.setCell ⟨g, o, none⟩ v).cell? ⟨p, o', none⟩ = w.cell? ⟨p, o', none⟩ :=
  World.cell?_setCell_other _ _ _ _ (fun e => by injection e with e; exact h e)
theorem AllM.lower {w : World} {base base' : Nat} {v : Value} {xs : List Kp} {lo : Nat → Nat} (h : AllM w base v xs lo) (hb : base' ≤ base) : AllM w base' v xs lo := by
  obtain ⟨cs, ho, hr⟩ := h.own
  refine ⟨⟨cs, ⟨ho.1, ?_⟩, hr⟩, h.mono, h.top, Nat.le_trans hb h.bot, h.far⟩
  rcases ho.2 with h0 | ⟨g, cap, cur, h1, h2, h3⟩
  · exact .inl h0
  · exact .inr ⟨g, cap, cur, h1, by omega, h3⟩
set_option maxRecDepth 100000 in
set_option maxHeartbeats 16000000 in
theorem placeCopy_pos (w : World) (me time seq : Int) (A : Option Addr) (n c : Nat) (l : List Kp) (h : Sl 16 eKp w (LT w.heap.size) A n l) (hn : 0 < n) (hn12 : n ≤ 12) (hsm : ∀ x ∈ l, x.syms.length ≤ 60 ∧ x.took.length ≤ 40) :
    Calls Try.prog 13 #[.agg #[.int .i64 me, .slice A n c, .int .i64 time, .int .i64 seq]] w fun e w' => ∃ g cap lo, e = .returned (.agg #[.int .i64 me, .slice (some ⟨g, 0, none⟩) n cap, .int .i64 time, .int .i64 seq]) ∧ Fr w w' ∧ AllM w' w.heap.size (.slice (some ⟨g, 0, none⟩) n cap) l lo := by
  have hlim : Hid (n * 168 ≤ lim) := by unfold lim Hid; omega
  have hlen := Lib.hid h.1
  have H := Lib.hid h
  have HSM := Lib.hid hsm
  obtain ⟨N, hN⟩ : ∃ N, N = w.heap.size := ⟨_, rfl⟩
  clear h hsm
  go_enter Try.func13, Try.ntmps13
  go_wp2_with fail
  (with_reducible refine (cloneKepts_any w.heap.size _ A n c l (H.out.low sKp (by (repeat' (first | exact Below.refl _ _ | refine below_drewN ?_ _ | refine Below.drew ?_ | refine frA ?_ _)))) hlim.out).mono ?_)
  rintro e w1 ⟨v, rfl, ho, hf1⟩
  obtain ⟨g, cap, cs, rest, rfl, hbg, hg, hcap, hcm, hl, hall, hone, hrd⟩ := own_row (fKp.low _) (by decide) ho (by rw [hlen.out]; exact hn)
  rw [hlen.out] at hcap hl ⊢
  have hb1 : w1.heap[w.heap.size]? = some (.cells #[.int .i64 me, .slice A n c, .int .i64 time, .int .i64 seq] 25 (0, 0)) := blk_go (by (repeat' (with_reducible (first | (refine heap_new ?_; (first | (simp; done) | rfl); done) | refine heap_dn ?_ | refine heap_d ?_ | refine heap_old ?_)))) hf1
  have hz1 : w1.heap[w.heap.size + 1]? = some (.cells #[.int .i64 0, .slice none 0 0, .int .i64 0, .int .i64 0] 25 (0, 0)) := blk_go (heap_new (by simp)) hf1
  simp only [World.size_alloc] at hbg
  have HF : Hid (Fr w w1) := Fr.trans (by (repeat' (first | exact Below.refl _ _ | refine below_drewN ?_ _ | refine Below.drew ?_ | refine frA ?_ _))) hf1
  have OLD : Hid (∀ i x, l[i]? = some x → eKp w (LT w.heap.size) (fun j => cs[i * 16 + j]?) x) := fun i x hx =>
    sKp.keep (fun p hp => (HF.out.cell hp).symm) (sKp.more (fun b hb => hb.2) (hrd i x hx))
  obtain ⟨W2, hW2⟩ : ∃ W2, W2 = w1.setCell ⟨w.heap.size, 1, none⟩ (.slice (some ⟨g, 0, none⟩) n cap) := ⟨_, rfl⟩
  have HB : Hid (W2.heap[w.heap.size]? = some (.cells #[.int .i64 me, .slice (some ⟨g, 0, none⟩) n cap, .int .i64 time, .int .i64 seq] 25 (0, 0))) := by
    unfold Hid; rw [hW2]; have := heap_setCell_same w1 w.heap.size 1 _ _ (.slice (some ⟨g, 0, none⟩) n cap) hb1; simpa using this
  have hoth : ∀ k, k ≠ w.heap.size → W2.heap[k]? = w1.heap[k]? := fun k hk => by rw [hW2]; simp [World.setCell, Array.getElem?_modify, Ne.symm hk]
  have HZ : Hid (W2.heap[w.heap.size + 1]? = some (.cells #[.int .i64 0, .slice none 0 0, .int .i64 0, .int .i64 0] 25 (0, 0))) := by rw [Hid, hoth _ (by omega)]; exact hz1
  have HG : Hid (W2.heap[g]? = some (.cells (cs ++ rest).toArray 46 (0, 0))) := by rw [Hid, hoth _ (by omega)]; exact hg
  have HF2 : Hid (Fr w W2) := by rw [hW2]; exact HF.out.setCell (by simp) _
  have hsz : g < W2.heap.size := (Array.getElem?_eq_some_iff.1 HG.out).1
  have HALL := Lib.hid hall
  have HL := Lib.hid hl
  (obtain ⟨bx0, bx1, bx2, bx3⟩ := box4_ hb1)
  have q2 := blk_free (i := 1) hb1
  have l0 := (Array.getElem?_eq_some_iff.1 hb1).1
  have HW2 := Lib.hid hW2
  clear ho hf1 hb1 hz1 hg hrd hall hone hoth hW2 hl
  have hbgi : w.heap.size + 1 < g := by omega
  clear hbg
  go_wp2_with fail
  rw [← HW2.out]
  clear HW2 bx0 bx1 bx2 bx3 q2 l0
  have HLO0 : Hid (LoOk (fun _ => W2.heap.size) 0 g (w.heap.size + 2) W2.heap.size) := ⟨fun _ _ _ => Nat.le_refl _, by omega, hsz, Nat.le_refl _⟩
  have HM0 : Hid (∀ i y, i < 0 → l[i]? = some y → KpM W2 ((fun _ => W2.heap.size) i) ((fun _ => W2.heap.size) (i + 1)) (fun j => cs[i * 16 + j]?) y) := fun i y hi _ => absurd hi (by omega)
  go_loopw [14] (fun s14 wr => ∃ (k : Nat) (lo : Nat → Nat) (cs' : List Value), k ≤ n ∧ s14 = .int .i64 k ∧ Hid (wr.heap[g]? = some (.cells (cs' ++ rest).toArray 46 (0, 0))) ∧ Hid (cs'.length = n * 16) ∧ Hid (∀ j, k * 16 ≤ j → cs'[j]? = cs[j]?) ∧
      Hid (LoOk lo k g (w.heap.size + 2) wr.heap.size) ∧ Hid (∀ i y, i < k → l[i]? = some y → KpM wr (lo i) (lo (i + 1)) (fun j => cs'[i * 16 + j]?) y) ∧ Hid (Chg (fun b => b = g) W2 wr)) (fun i _ => n - (intOf i).toNat)
  case atStart => exact ⟨0, _, cs, Nat.zero_le _, rfl, HG, HL, fun _ _ => rfl, HLO0, HM0, Chg.refl _ _⟩
  case round =>
    obtain ⟨k, lo, cs', hk, rfl, HG', HL', HO', HLO, HM, HC⟩ := hrel
    by_cases hlt : k < n
    · obtain ⟨x, hx⟩ : ∃ x, l[k]? = some x := ⟨_, List.getElem?_eq_getElem (by rw [hlen.out]; exact hlt)⟩
      obtain ⟨A1, n1, c1, A2, n2, c2, A3, n3, c3, ⟨f0, f1, f2, f3, f4, f5, f6, f7, f8, f9, f10, f11, f12, f13, f14, f15⟩, hwf, hcg, hsy, htk⟩ := eKp_iff.1 (OLD.out k x hx)
      have hlx := HSM.out x (List.mem_of_getElem? hx)
      have hWr : Fr w wr := HC.out.fr HF2.out fun b hb => by rw [hb]; omega
      have HCG := Lib.hid (hcg.go hWr)
      have HSY := Lib.hid (hsy.go hWr)
      have HTK := Lib.hid (htk.go hWr)
      have HSYL := Lib.hid (hsy.2.low sSm hWr)
      have hce : ∀ t u, t < 16 → cs[k * 16 + t]? = some u → wr.cell? ⟨g, k * 16 + t, none⟩ = some u := fun t u ht hu => cells_at HG'.out (by rw [HO'.out _ (by omega)]; exact hu)
      have m0 := hce 0 _ (by decide) f0
      have m1 := hce 1 _ (by decide) f1
      have m2 := hce 2 _ (by decide) f2
      have m3 := hce 3 _ (by decide) f3
      have m4 := hce 4 _ (by decide) f4
      have m5 := hce 5 _ (by decide) f5
      have m6 := hce 6 _ (by decide) f6
      have m7 := hce 7 _ (by decide) f7
      have m8 := hce 8 _ (by decide) f8
      have m9 := hce 9 _ (by decide) f9
      have m10 := hce 10 _ (by decide) f10
      have m11 := hce 11 _ (by decide) f11
      have m12 := hce 12 _ (by decide) f12
      have m13 := hce 13 _ (by decide) f13
      have m14 := hce 14 _ (by decide) f14
      have m15 := hce 15 _ (by decide) f15
      simp only [Nat.add_zero] at m0
      have hbw := HC.out.blk HB.out (by omega)
      (obtain ⟨bx0, bx1, bx2, bx3⟩ := box4_ hbw)
      have HX := Lib.hid hx
      have HWR := Lib.hid hWr
      have HWF := Lib.hid hwf
      have HLX := Lib.hid hlx
      have HCL : Hid (x.cargo.length ≤ lim) := by have := hcg.1.1; have := hcg.2.1; unfold Hid; omega
      clear hx hwf hcg hsy htk hWr hbw hlx hce f0 f1 f2 f3 f4 f5 f6 f7 f8 f9 f10 f11 f12 f13 f14 f15
      go_upto_region 5 with fail
      obtain ⟨W3, hW3⟩ : ∃ W3, W3 = wr.alloc (.cells #[.int .i64 x.h.frm, .int .i64 x.h.seq, .int .i64 x.h.to, .int .i64 x.h.till, .int .i64 x.h.bytes, .int .i64 x.h.block, .bool x.own, .slice A1 n1 c1, .slice A2 n2 c2, .int .i64 x.shares, .int .i64 x.giving, .int .i64 x.towards, .int .i64 x.try_, .slice A3 n3 c3, .bool x.delivered, .bool x.purged] 46) := ⟨_, rfl⟩
      obtain ⟨q, hq⟩ : ∃ q, q = wr.heap.size := ⟨_, rfl⟩
      have HQ : Hid (W3.drew.heap[q]? = some (.cells #[.int .i64 x.h.frm, .int .i64 x.h.seq, .int .i64 x.h.to, .int .i64 x.h.till, .int .i64 x.h.bytes, .int .i64 x.h.block, .bool x.own, .slice A1 n1 c1, .slice A2 n2 c2, .int .i64 x.shares, .int .i64 x.giving, .int .i64 x.towards, .int .i64 x.try_, .slice A3 n3 c3, .bool x.delivered, .bool x.purged] 46 (0, 0))) := by rw [hW3]; exact heap_new hq
      have hF3 : Fr wr W3 := by rw [hW3]; exact frAlloc _ _
      have hq3 : W3.heap.size = q + 1 := by rw [hW3, hq]; simp
      have HBX : Hid (W3.drew.heap[w.heap.size]? = some (.cells #[.int .i64 me, .slice (some ⟨g, 0, none⟩) n cap, .int .i64 time, .int .i64 seq] 25 (0, 0))) := blk_go (HC.out.blk HB.out (by omega)) hF3.drew
      rw [← hW3, ← hq]
      have HF3 := Lib.hid hF3
      have HG3 : Hid (Fr W3 W3.drew) := (Below.refl _ _).drew
      have HC0 := HCG
      have HS0 := HSYL
      have HT0 : Hid (Sl 2 eTk wr (LT wr.heap.size) A3 n3 x.took) := HTK.out.2
      have HQW := Lib.hid hq
      have HQ3 := Lib.hid hq3
      have HlS : Hid (n2 * 32 ≤ lim) := HSY.out.1.1
      have HlT : Hid (n3 * 16 ≤ lim) := HTK.out.1.1
      have HlC : Hid (n1 * 1 ≤ lim) := HCG.out.1.1
      clear hW3 hF3 hq hq3 HCG HSY HTK HSYL m0 m1 m2 m3 m4 m5 m6 m7 m8 m9 m10 m11 m12 m13 m14 m15 bx0 bx1 bx2 bx3
      have hNq : w.heap.size ≤ q := by rw [HQW.out]; exact HWR.out.size
      have HK3 : Hid (Chg (fun b => b = q) W3 W3.drew) := (Chg.refl _ _).drew
      have CC : Hid (∀ W, Chg (fun b => b = q) W3 W → Calls Try.prog 25 #[.slice A1 n1 c1] W fun e w' => ∃ AC cC, e = .returned (.slice AC x.cargo.length cC) ∧ Own 1 eByte w' W.heap.size 5 (.slice AC x.cargo.length cC) x.cargo ∧ Fr W w') := fun W hk => by
        refine (cloneBytes_any W A1 n1 c1 x.cargo ?_ HlC.out).mono ?_
        · exact ((HC0.out.2.keep (w' := W3) sByte fun p hp => HF3.out.cell hp).keep sByte fun p hp => hk.cell (Nat.lt_of_lt_of_le hp HF3.out.size) (by have : p.block < wr.heap.size := hp; have := HQW.out; omega)).more sByte fun b hb => Nat.lt_of_lt_of_le hb (Nat.le_trans HF3.out.size hk.size)
        · rintro e w' ⟨v, rfl, ho, hf⟩
          obtain ⟨AC, cC, rfl, _⟩ := ho.slC sByte (by decide)
          exact ⟨AC, cC, rfl, ho, hf⟩
      have CS : Hid (∀ W, Chg (fun b => b = q) W3 W → Calls Try.prog 26 #[.slice A2 n2 c2] W fun e w' => ∃ AS cS, e = .returned (.slice AS x.syms.length cS) ∧ Own 2 (eLow w.heap.size eSm) w' W.heap.size 38 (.slice AS x.syms.length cS) x.syms ∧ Fr W w') := fun W hk => by
        refine (cloneSymsL_any w.heap.size W A2 n2 c2 x.syms ?_ HlS.out).mono ?_
        · exact ((HS0.out.keep (w' := W3) (sSm.low _) fun p hp => HF3.out.cell hp).keep (sSm.low _) fun p hp => hk.cell (Nat.lt_of_lt_of_le hp HF3.out.size) (by have : p.block < wr.heap.size := hp; have := HQW.out; omega)).more (sSm.low _) fun b hb => Nat.lt_of_lt_of_le hb (Nat.le_trans HF3.out.size hk.size)
        · rintro e w' ⟨v, rfl, ho, hf⟩
          obtain ⟨AC, cC, rfl, _⟩ := ho.slC (sSm.low _) (by decide)
          exact ⟨AC, cC, rfl, ho, hf⟩
      have CT : Hid (∀ W, Chg (fun b => b = q) W3 W → Calls Try.prog 27 #[.slice A3 n3 c3] W fun e w' => ∃ AT cT, e = .returned (.slice AT x.took.length cT) ∧ Own 2 eTk w' W.heap.size 70 (.slice AT x.took.length cT) x.took ∧ Fr W w') := fun W hk => by
        refine (cloneToks_any W A3 n3 c3 x.took ?_ HlT.out).mono ?_
        · exact ((HT0.out.keep (w' := W3) sTk fun p hp => HF3.out.cell hp).keep sTk fun p hp => hk.cell (Nat.lt_of_lt_of_le hp HF3.out.size) (by have : p.block < wr.heap.size := hp; have := HQW.out; omega)).more sTk fun b hb => Nat.lt_of_lt_of_le hb (Nat.le_trans HF3.out.size hk.size)
        · rintro e w' ⟨v, rfl, ho, hf⟩
          obtain ⟨AC, cC, rfl, _⟩ := ho.slC sTk (by decide)
          exact ⟨AC, cC, rfl, ho, hf⟩
      have ST : Hid (∀ W v (o : Nat) (W0 : World), Chg (fun b => b = q) W0 W → Chg (fun b => b = q) W0 (W.setCell ⟨q, o, none⟩ v)) := fun W v o W0 hk => Chg.set (S := fun b => b = q) (p := ⟨q, o, none⟩) hk rfl _
      have KC : Hid (∀ a b v, Chg (fun b => b = q) a b → Own 1 eByte a W3.heap.size 5 v x.cargo → Own 1 eByte b W3.heap.size 5 v x.cargo) := fun a b v k h => h.chgG k (fun b hb e => by have := (h.ge hb).1; have := HQ3.out; omega) fun f x hx => hx
      have KS : Hid (∀ a b v, Chg (fun b => b = q) a b → Own 2 (eLow w.heap.size eSm) a W3.heap.size 38 v x.syms → Own 2 (eLow w.heap.size eSm) b W3.heap.size 38 v x.syms) := fun a b v k h => h.chgG k (fun b hb e => by have := (h.ge hb).1; have := HQ3.out; omega) fun f y hy => by
        unfold eLow at hy ⊢
        exact sSm.more (fun b hb => ⟨⟨Nat.lt_of_lt_of_le hb.1.1 k.size, hb.1.2⟩, hb.2⟩) (sSm.keep (fun p hp => k.cell hp.1.1 (by have := hp.2; omega)) hy)
      have hqq := HQ.out
      (obtain ⟨m0, m1, m2, m3, m4, m5, m6, m7, m8, m9, m10, m11, m12, m13, m14, m15⟩ := box16_ hqq)
      have y7 := blk_free (i := 7) hqq
      have y8 := blk_free (i := 8) hqq
      have y13 := blk_free (i := 13) hqq
      clear hqq
      go_cut [] (fun wx => ∃ AC cC AS cS AT cT, Hid (wx.heap[q]? = some (.cells #[.int .i64 x.h.frm, .int .i64 x.h.seq, .int .i64 x.h.to, .int .i64 x.h.till, .int .i64 x.h.bytes, .int .i64 x.h.block, .bool x.own, .slice AC x.cargo.length cC, .slice AS x.syms.length cS, .int .i64 x.shares, .int .i64 x.giving, .int .i64 x.towards, .int .i64 x.try_, .slice AT x.took.length cT, .bool x.delivered, .bool x.purged] 46 (0, 0))) ∧ Hid (Own 1 eByte wx W3.heap.size 5 (.slice AC x.cargo.length cC) x.cargo) ∧ Hid (Own 2 (eLow w.heap.size eSm) wx W3.heap.size 38 (.slice AS x.syms.length cS) x.syms) ∧ Hid (Own 2 eTk wx W3.heap.size 70 (.slice AT x.took.length cT) x.took) ∧
          Hid (∀ b, (Value.slice AC x.cargo.length cC).ownBlock = some b → (Value.slice AS x.syms.length cS).ownBlock ≠ some b ∧ (Value.slice AT x.took.length cT).ownBlock ≠ some b) ∧ Hid (∀ b, (Value.slice AS x.syms.length cS).ownBlock = some b → (Value.slice AT x.took.length cT).ownBlock ≠ some b) ∧ Hid (Chg (fun b => b = q) W3 wx))
      case first =>
        clear HM HLO HC HG' HL' HO' HB HZ HG HF HF2 HALL HL OLD HSM H HBX
        go_region_with (first
          | (go_at_call 25; (with_reducible refine (CC.out _ (by repeat' (first | exact HK3.out | refine ST.out _ _ _ _ ?_))).mono ?_); rintro e w5 ⟨AC, cC, rfl, ho5, hf5⟩;
              have HK5 := Lib.hid (Chg.trans HK3.out (Fr.chg hf5)); have HO5 := Lib.hid (ho5.lower (base' := W3.heap.size) HK3.out.size); have HQ5 := Lib.hid (blk_go HQ.out hf5); have hqq := HQ5.out;
              clear m0 m1 m2 m3 m4 m5 m6 m7 m8 m9 m10 m11 m12 m13 m14 m15 y7 y8 y13; (obtain ⟨m0, m1, m2, m3, m4, m5, m6, m7, m8, m9, m10, m11, m12, m13, m14, m15⟩ := box16_ hqq); have y7 := blk_free (i := 7) hqq; have y8 := blk_free (i := 8) hqq; have y13 := blk_free (i := 13) hqq; clear hqq ho5 hf5)
          | (go_at_call 26; (with_reducible refine (CS.out _ (by repeat' (first | exact HK5.out | refine ST.out _ _ _ _ ?_))).mono ?_); rintro e w6 ⟨AS, cS, rfl, ho6, hf6⟩;
              have HL6 : Hid (Chg (fun b => b = q) w5 w6) := (Chg.trans (by repeat' (first | exact Chg.refl _ _ | refine ST.out _ _ _ _ ?_)) (Fr.chg hf6)); have HK6 : Hid (Chg (fun b => b = q) W3 w6) := HK5.out.trans HL6.out;
              have HO6 : Hid (Own 2 (eLow w.heap.size eSm) w6 w5.heap.size 38 (.slice AS x.syms.length cS) x.syms) := ho6.lower (by simp);
              (first | (have hqq := blk_go HQ5.out hf6) | (have h := HQ5.out; have h := heap_setCell_same _ q 7 _ _ (.slice AC x.cargo.length cC) h; simp at h; have hqq := blk_go h hf6; clear h));
              have HQ6 := Lib.hid hqq; clear m0 m1 m2 m3 m4 m5 m6 m7 m8 m9 m10 m11 m12 m13 m14 m15 y7 y8 y13; (obtain ⟨m0, m1, m2, m3, m4, m5, m6, m7, m8, m9, m10, m11, m12, m13, m14, m15⟩ := box16_ hqq); have y7 := blk_free (i := 7) hqq; have y8 := blk_free (i := 8) hqq; have y13 := blk_free (i := 13) hqq; clear hqq ho6 hf6)
          | (go_at_call 27; (with_reducible refine (CT.out _ (by repeat' (first | exact HK6.out | refine ST.out _ _ _ _ ?_))).mono ?_); rintro e w7 ⟨AT, cT, rfl, ho7, hf7⟩;
              have HL7 : Hid (Chg (fun b => b = q) w6 w7) := (Chg.trans (by repeat' (first | exact Chg.refl _ _ | refine ST.out _ _ _ _ ?_)) (Fr.chg hf7)); have HK7 : Hid (Chg (fun b => b = q) W3 w7) := HK6.out.trans HL7.out;
              have HO7 : Hid (Own 2 eTk w7 w6.heap.size 70 (.slice AT x.took.length cT) x.took) := ho7.lower (by simp);
              (first | (have hqq := blk_go HQ6.out hf7) | (have h := HQ6.out; have h := heap_setCell_same _ q 7 _ _ (.slice AC x.cargo.length cC) h; simp at h; have hqq := blk_go h hf7; clear h) | (have h := HQ6.out; have h := heap_setCell_same _ q 8 _ _ (.slice AS x.syms.length cS) h; simp at h; have hqq := blk_go h hf7; clear h) | (have h := HQ6.out; have h := heap_setCell_same _ q 7 _ _ (.slice AC x.cargo.length cC) h; simp at h; have h := heap_setCell_same _ q 8 _ _ (.slice AS x.syms.length cS) h; simp at h; have hqq := blk_go h hf7; clear h));
              have HQ7 := Lib.hid hqq; clear m0 m1 m2 m3 m4 m5 m6 m7 m8 m9 m10 m11 m12 m13 m14 m15 y7 y8 y13; (obtain ⟨m0, m1, m2, m3, m4, m5, m6, m7, m8, m9, m10, m11, m12, m13, m14, m15⟩ := box16_ hqq); have y7 := blk_free (i := 7) hqq; have y8 := blk_free (i := 8) hqq; have y13 := blk_free (i := 13) hqq; clear hqq ho7 hf7)
          | fail)
        all_goals
          have s56 := HL6.out.size
          have s67 := HL7.out.size
          have s35 := HK5.out.size
          go_wp2_with fail
          go_meet
          refine ⟨AC, cC, AS, cS, AT, cT, ?_, KC.out _ _ _ (HL6.out.trans (HL7.out.trans ?_)) HO5.out, KS.out _ _ _ (HL7.out.trans ?_) (HO6.out.lower s35), Own.tk (S := fun b => b = q) (HO7.out.lower (Nat.le_trans s35 s56)) ?_ ?_, fun b hb => ⟨fun e => ?_, fun e => ?_⟩, fun b hb e => ?_, HK7.out.trans ?_⟩
          · first | (have h := HQ7.out; have h := heap_setCell_same _ q 13 _ _ (.slice AT x.took.length cT) h; simp at h; exact h) | (have h := HQ7.out; have h := heap_setCell_same _ q 8 _ _ (.slice AS x.syms.length cS) h; simp at h; have h := heap_setCell_same _ q 13 _ _ (.slice AT x.took.length cT) h; simp at h; exact h) | (have h := HQ7.out; have h := heap_setCell_same _ q 7 _ _ (.slice AC x.cargo.length cC) h; simp at h; have h := heap_setCell_same _ q 8 _ _ (.slice AS x.syms.length cS) h; simp at h; have h := heap_setCell_same _ q 13 _ _ (.slice AT x.took.length cT) h; simp at h; exact h)
          · repeat' (first | exact Chg.refl _ _ | refine ST.out _ _ _ _ ?_)
          · repeat' (first | exact Chg.refl _ _ | refine ST.out _ _ _ _ ?_)
          · repeat' (first | exact Chg.refl _ _ | refine ST.out _ _ _ _ ?_)
          · intro b hb e
            have := (HO7.out.ge hb).1
            have := HQ3.out
            omega
          · have := (HO5.out.ge hb).2; have := (HO6.out.ge e).1; omega
          · have := (HO5.out.ge hb).2; have := (HO7.out.ge e).1; omega
          · have := (HO6.out.ge hb).2; have := (HO7.out.ge e).1; omega
          · repeat' (first | exact Chg.refl _ _ | refine ST.out _ _ _ _ ?_)
      case rest =>
        obtain ⟨AC, cC, AS, cS, AT, cT, HQ6, HO5, HO6, HO7, HD1, HD2, HK6⟩ := hcut
        obtain ⟨W6, rfl⟩ : ∃ W6, W6 = wc := ⟨_, rfl⟩
        obtain ⟨Wr, rfl⟩ : ∃ Wr, Wr = wr := ⟨_, rfl⟩
        have HR6 : Hid (Fr Wr W6) := HK6.out.fr HF3.out fun b hb => by rw [hb, ← HQW.out]; exact Nat.le_refl _
        have HB6 : Hid (W6.heap[w.heap.size]? = some (.cells #[.int .i64 me, .slice (some ⟨g, 0, none⟩) n cap, .int .i64 time, .int .i64 seq] 25 (0, 0))) := blk_go (HC.out.blk HB.out (by omega)) HR6.out
        have HS6 : Hid (OwnR 2 eSm (fun t b => (t < 0 → W6.heap.size ≤ b) ∧ (¬ t < 0 → b < w.heap.size)) W6 W3.heap.size 38 (.slice AS x.syms.length cS) x.syms) := (HO6.out.lowR sSm).more sSm fun t b _ hb => ⟨fun h => absurd h (by omega), fun _ => hb⟩
        have hs36 : W3.heap.size ≤ W6.heap.size := HK6.out.size
        have hl60 := HLX.out.1
        have hqq := HQ6.out
        (obtain ⟨m0, m1, m2, m3, m4, m5, m6, m7, m8, m9, m10, m11, m12, m13, m14, m15⟩ := box16_ hqq)
        clear hqq HQ HK3 HG3 CC CS CT KC KS HO6 HC0 HS0 HT0 HlS HlT HlC HBX ST y7 y8 y13
        obtain ⟨n2s, hn2s⟩ : ∃ n2s, n2s = x.syms.length := ⟨_, rfl⟩
        go_wp2_with fail
        clear m0 m1 m2 m3 m4 m5 m6 m7 m8 m9 m10 m11 m12 m13 m14 m15
        go_loopw [34] (fun i wi => ∃ j : Nat, j ≤ x.syms.length ∧ i = .int .i64 j ∧ Hid (OwnR 2 eSm (fun t b => (t < j → W6.heap.size ≤ b) ∧ (¬ t < j → b < w.heap.size)) wi W3.heap.size 38 (.slice AS x.syms.length cS) x.syms) ∧ Hid (Chg (fun b => (Value.slice AS x.syms.length cS).ownBlock = some b) W6 wi)) (fun i _ => x.syms.length - (intOf i).toNat)
        case atStart => exact ⟨0, Nat.zero_le _, rfl, HS6, Chg.refl _ _⟩
        case round =>
          obtain ⟨j, hj, rfl, HO, HK⟩ := hrel
          have hs3 := HF3.out.size
          have HRi : Hid (Fr Wr wr) := HK.out.fr HR6.out fun b hb => by
            have := (HO.out.own sSm).ge hb
            omega
          have hbx := blk_go (HC.out.blk HB.out (by omega)) HRi.out
          have hqn : ∀ b, (Value.slice AS x.syms.length cS).ownBlock = some b → b ≠ q := fun b hb => by
            have := (HO.out.own sSm).ge hb
            have := HQ3.out
            omega
          have hqx := HK.out.blk HQ6.out (fun e => hqn q e rfl)
          (obtain ⟨bx0, bx1, bx2, bx3⟩ := box4_ hbx)
          (obtain ⟨m0, m1, m2, m3, m4, m5, m6, m7, m8, m9, m10, m11, m12, m13, m14, m15⟩ := box16_ hqx)
          (have Hbx := Lib.hid hbx; clear hbx; have Hqx := Lib.hid hqx; clear hqx; have Hqn := Lib.hid hqn; clear hqn)
          by_cases hjl : j < x.syms.length
          · obtain ⟨h, cap2, cs2, rest2, e1, hbg2, hg2, _, _, hl2, _, _, hr2⟩ := ownR_row fSm (by decide) HO.out (by omega)
            injection e1 with e2 e3 e4
            subst e2 e4
            obtain ⟨s, hs⟩ : ∃ s, x.syms[j]? = some s := ⟨_, List.getElem?_eq_getElem hjl⟩
            obtain ⟨A4, n4, c4, ⟨f0, f1⟩, hwi, hby⟩ := eSm_iff.1 (hr2 j s hs)
            have k0 : wr.cell? ⟨h, j * 2, none⟩ = some (.int .i64 s.id) := cells_at hg2 (by simpa using f0)
            have k1 : wr.cell? ⟨h, j * 2 + 1, none⟩ = some (.slice A4 n4 c4) := cells_at hg2 f1
            have hgl : h < wr.heap.size := (Array.getElem?_eq_some_iff.1 hg2).1
            have hnb := hby.1.1
            have hby1 := hby.2.more (S' := LT wr.heap.size) sByte fun b hb => hb.2.1
            have kfree := blk_free (i := j * 2 + 1) hg2
            have h1g : g ≠ h := by have := HC.out.size; omega
            have h2g : q ≠ h := by have := HQ3.out; omega
            clear f0 f1 hr2 e3 hby
            have Hk0 := Lib.hid k0
            (have Hs := Lib.hid hs; clear hs; have Hg2 := Lib.hid hg2; clear hg2; have Hl2 := Lib.hid hl2; clear hl2; have Hwi := Lib.hid hwi; clear hwi; have Hby1 := Lib.hid hby1; clear hby1; have Hnb := Lib.hid hnb; clear hnb)
            go_upto_region 9 with fail
            obtain ⟨W7, hW7⟩ : ∃ W7, W7 = wr.alloc (.cells #[.int .i64 s.id, .slice A4 n4 c4] 38) := ⟨_, rfl⟩
            obtain ⟨r6, hr6⟩ : ∃ r6, r6 = wr.heap.size := ⟨_, rfl⟩
            have HR7 : Hid (W7.drew.heap[r6]? = some (.cells #[.int .i64 s.id, .slice A4 n4 c4] 38 (0, 0))) := by rw [hW7]; exact heap_new hr6
            have hF7 : Fr wr W7 := by rw [hW7]; exact frAlloc _ _
            rw [← hW7, ← hr6]
            have HF7 := Lib.hid hF7
            have HG7 : Hid (Fr W7 W7.drew) := (Below.refl _ _).drew
            have HQ7 := Lib.hid (blk_go Hqx.out hF7.drew)
            have HY7 := Lib.hid (Hby1.out.go sByte hF7)
            have h3g : r6 ≠ h := by omega
            have HK1 := Lib.hid k1
            clear hW7 hr6 hF7 k0 k1 kfree m0 m1 m2 m3 m4 m5 m6 m7 m8 m9 m10 m11 m12 m13 m14 m15 bx0 bx1 bx2 bx3
            go_region_held3 (fun w' => w'.cell? ⟨q, 8, none⟩ = some (.slice (some ⟨h, 0, none⟩) x.syms.length cS) ∧ w'.cell? ⟨r6, 1, none⟩ = some (.slice A4 n4 c4)) (first | exact ⟨cell_of_heap HQ7.out, cell_of_heap HR7.out⟩ | exact ⟨(set1_far (Ne.symm h2g)).trans (cell_of_heap HQ7.out), (set1_far (Ne.symm h3g)).trans (cell_of_heap HR7.out)⟩ | go_keep)
              (first
                | (go_at_call 28; (with_reducible refine (cloneBlock_any _ _ _ _ s.data (HY7.out.go sByte HG7.out) Hnb.out).mono ?_); rintro e w8 ⟨v8, rfl, ho8, hf8⟩; obtain ⟨A8, c8, rfl, hd8, hs8⟩ := own_bytes ho8; have HQ7 := Lib.hid (blk_go HQ7.out hf8); have HR7 := Lib.hid (blk_go HR7.out hf8); have HZ7 := Lib.hid HG7.out.size; have HG7 := Lib.hid (HG7.out.trans hf8); have HD8 := Lib.hid hd8; have HS8 := Lib.hid hs8; have kfree := blk_free (i := j * 2 + 1) (blk_go Hg2.out (HF7.out.trans HG7.out)); have k1 := ((HF7.out.trans HG7.out).cell (p := ⟨h, j * 2 + 1, none⟩) hgl).trans HK1.out; clear hf8 ho8 hd8 hs8)
                | fail)
            all_goals
              have hWW : Fr wr w8 := HF7.out.trans HG7.out
              have hHK : Chg (fun b => (Value.slice (some ⟨h, 0, none⟩) x.syms.length cS).ownBlock = some b) W6 w8 := HK.out.trans (Fr.chg hWW)
              have hdl : s.data.length = n4 := Hby1.out.1
              subst hdl
              have hz7 := HF7.out.size
              have hz8 := HZ7.out
              have hz9 := HK.out.size
              have HO2 : Hid (OwnR 2 eSm (fun t b => (t < j + 1 → W6.heap.size ≤ b) ∧ (¬ t < j + 1 → b < w.heap.size)) (w8.setCell ⟨h, j * 2 + 1, none⟩ (.slice A8 s.data.length c8)) W3.heap.size 38 (.slice (some ⟨h, 0, none⟩) x.syms.length cS) x.syms) := by
                have e5 : x.syms.set j s = x.syms := set_same Hs.out
                have key := ownR_set (j := 1) (u := .slice A8 s.data.length c8) (x := s) (reg' := fun t b => (t < j + 1 → W6.heap.size ≤ b) ∧ (¬ t < j + 1 → b < w.heap.size)) sSm fSm (by decide) (HO.out.fr sSm hWW) hjl (by decide) rfl (fun t b ht h1 => ⟨fun h => h1.1 (by omega), fun h => h1.2 (by omega)⟩) fun f hf => by
                  refine eSm_iff.2 ⟨A8, s.data.length, c8, ⟨?_, by simp⟩, Hwi.out, ⟨Hnb.out, HD8.out⟩, HS8.out.more sByte fun b hb => ⟨⟨fun _ => ?_, fun e => absurd (Nat.lt_succ_self _) e⟩, hb.2, ?_⟩⟩
                  · rw [if_neg (by decide), hf 0 (by decide)]
                    have k0 := (hWW.cell (p := ⟨h, j * 2, none⟩) hgl).trans Hk0.out
                    simpa using k0
                  · have := hb.1
                    omega
                  · have := hb.1
                    omega
                rw [e5] at key
                exact key
              have HK2 : Hid (Chg (fun b => (Value.slice (some ⟨h, 0, none⟩) x.syms.length cS).ownBlock = some b) W6 (w8.setCell ⟨h, j * 2 + 1, none⟩ (.slice A8 s.data.length c8))) := Chg.set (p := ⟨h, j * 2 + 1, none⟩) hHK rfl _
              clear hWW hHK HQ7 HR7 HG7 HY7 HD8 HS8
              go_wp2_with fail
              go_roundw
              case rel => exact ⟨j + 1, by omega, by go_num, HO2, HK2⟩
              case measure => simp [intOf]; omega
          · obtain rfl : j = x.syms.length := by omega
            have HSf : Hid (OwnR 2 eSm (fun _ b => W6.heap.size ≤ b) wr W3.heap.size 38 (.slice AS x.syms.length cS) x.syms) := HO.out.more sSm fun t b ht hb => hb.1 ht
            have HCf : Hid (Own 1 eByte wr W3.heap.size 5 (.slice AC x.cargo.length cC) x.cargo) := HO5.out.chgG HK.out (fun b hb e => (HD1.out b hb).1 e) fun f y hy => hy
            have HTf := Lib.hid (HO7.out.tk HK.out fun b hb e => HD2.out b e hb)
            have HXf := (kpm_new HWF.out HLX.out.1 HLX.out.2 (HCL.out) HCf.out HSf.out HTf.out hs36 HD1.out HD2.out fun b hb => (HO7.out.ge hb).2).wide hs3 (Nat.le_refl _)
            obtain ⟨lo', cs2, r1, r2, r3, r4, r5, r6⟩ := kcopy_step (W2 := W2) (wr := Wr) (wi := wr) (vs := kpCells x AC x.cargo.length cC (.slice AS x.syms.length cS) (.slice AT x.took.length cT)) hlt hlen.out HX.out rfl HG'.out HL'.out HO'.out HLO.out HM.out HC.out HRi.out HXf
            rw [setsW_eq] at r1 r4 r5 r6
            obtain ⟨W9, hW9⟩ : ∃ W9, W9 = wr.setCells g (k * 16) (kpCells x AC x.cargo.length cC (.slice AS x.syms.length cS) (.slice AT x.took.length cT)) := ⟨_, rfl⟩
            rw [← hW9] at r1 r4 r5 r6
            (have R1 := Lib.hid r1; clear r1; have R2 := Lib.hid r2; clear r2; have R3 := Lib.hid r3; clear r3; have R4 := Lib.hid r4; clear r4; have R5 := Lib.hid r5; clear r5; have R6 := Lib.hid r6; clear r6; have HW9 := Lib.hid hW9; clear hW9)
            have ht : wr.there g (k * 16) 16 := fun t htt => by
              have hgr := blk_go HG'.out HRi.out
              have hlt' : k * 16 + t < cs'.length := by have := HL'.out; omega
              exact ⟨by rw [cells_at hgr (List.getElem?_eq_getElem hlt')]; rfl, blk_free hgr⟩
            have hrg : wr.rangeAt q 0 (kpCells x AC x.cargo.length cC (.slice AS x.syms.length cS) (.slice AT x.took.length cT)) := fun j v hv => by rw [Nat.zero_add, cell_of_heap Hqx.out]; simpa [kpCells] using hv
            clear m0 m1 m2 m3 m4 m5 m6 m7 m8 m9 m10 m11 m12 m13 m14 m15 HSf HCf HTf HXf HO HK HO5 HO7 HD1 HD2 HG' HL' HO' HLO HM HC
            go_upto_region 11 with fail
            go_step
            iterate 14 (first | (refine wpList_load_mid rfl 46 (.tmp 4) rfl q 0 rfl (kpCells x AC x.cargo.length cC (.slice AS x.syms.length cS) (.slice AT x.took.length cT)) _ hrg Try.underlying46 rfl (by kernel_rfl) ?_) | (refine wpList_store_mid rfl 46 (.tmp 52) (.tmp 51) rfl g (k * 16) (kpCells x AC x.cargo.length cC (.slice AS x.syms.length cS) (.slice AT x.took.length cT)).toArray rfl rfl ht (by kernel_rfl) kp_one ?_) | go_values | go_skip | go_guarded | go_step | go_upon | go_back)
            rw [List.toList_toArray, ← HW9.out]
            clear HW9 ht hrg
            simp only [Act.put]
            go_wp2_with fail
            go_roundw
            case rel => exact ⟨k + 1, lo', cs2, by omega, by go_num, R1, R2, R3, R4, R5, R6⟩
            case measure => simp [intOf]; omega
    · obtain rfl : k = n := by omega
      have hb3 := HC.out.blk HB.out (by omega)
      have hz3 := HC.out.blk HZ.out (by omega)
      (obtain ⟨bx0, bx1, bx2, bx3⟩ := box4_ hb3)
      (obtain ⟨bz0, bz1, bz2, bz3⟩ := box4_ hz3)
      have y0 := blk_free (i := 0) hz3
      have y1 := blk_free (i := 1) hz3
      have y2 := blk_free (i := 2) hz3
      have y3 := blk_free (i := 3) hz3
      have l1 := (Array.getElem?_eq_some_iff.1 hz3).1
      clear hb3 hz3
      go_wp2_with fail
      refine bodyPost_ret (v := .agg #[.int .i64 me, .slice (some ⟨g, 0, none⟩) k cap, .int .i64 time, .int .i64 seq]) ?_ rfl ⟨g, cap, rfl, ?_, lo, ?_⟩
      · simp [results, Try.results13, go_sem, bz0, bz1, bz2, bz3, l1]
      · exact ((((HC.out.fr HF2.out fun b hb => by rw [hb]; omega).setCell (by simp) _).setCell (by simp) _).setCell (by simp) _).setCell (by simp) _
      · have hM : AllM wr (w.heap.size + 2) (.slice (some ⟨g, 0, none⟩) k cap) l lo :=
          ⟨⟨cs', ⟨by rw [hlen.out]; exact HL'.out, .inr ⟨g, cap, _, by rw [hlen.out], by omega, HG'.out, by rw [hlen.out]; exact hcap, hcm, by simp; rw [HL'.out, ← HL.out]; exact HALL.out, by rw [hlen.out, ← HL'.out]; simp⟩⟩, fun i y hy => HM.out i y (by rw [← hlen.out]; exact (List.getElem?_eq_some_iff.1 hy).1) hy⟩, HLO.out.mono, by rw [hlen.out]; exact HLO.out.top, HLO.out.bot, fun b hb => by
            have : g = b := by simpa [Value.ownBlock] using hb
            rw [← this]; exact HLO.out.far⟩
        exact (hM.chg (Chg.of (grw4_ (g := w.heap.size + 1) ⟨rfl, rfl, rfl, Nat.le_refl _, fun _ _ _ => rfl⟩)) fun b h1 h2 e => by omega).lower (by omega)
end Go.Proofs.Ytojoodmnmhcojaa
namespace Go.Proofs.Ytojoodmnmhcojaa
open Go.RowKit
attribute [local irreducible] wpList

set_option maxRecDepth 100000 in
set_option maxHeartbeats 16000000 in
theorem share_any (w : World) (T : Nat → Prop) (base g cap : Nat) (xs : List Kp) (i : Nat) (x : Kp) (A : Option Addr) (n c : Nat) (vS vT : Value) (h : Foc0 T w base g cap xs i x A n c vS vT) (me time seq : Int) (Ap : Option Addr) (np cp : Nat) (r : Rc) (B : Option Addr) (nb cb : Nat) (B2 : Option Addr) (nb2 cb2 : Nat) (hk : r.kind = 4 ∨ r.kind = 5 ∨ r.kind = 6) (hr : (0 ≤ r.place ∧ r.place < 4) ∧ (0 ≤ r.try_ ∧ r.try_ ≤ 9999) ∧ (0 ≤ r.n ∧ r.n ≤ 1000000)) (hx : (0 ≤ x.shares ∧ x.shares ≤ 64) ∧ (0 ≤ x.try_ ∧ x.try_ ≤ 9999)) :
    Calls Try.prog 35 #[.agg #[.int .i64 me, .slice Ap np cp, .int .i64 time, .int .i64 seq], .pointer (some ⟨g, i * 16, none⟩), .agg #[.int .i64 r.kind, .int .i64 r.place, .int .i64 r.n, .int .i64 r.try_, .int .i64 r.h.frm, .int .i64 r.h.seq, .int .i64 r.h.to, .int .i64 r.h.till, .int .i64 r.h.bytes, .int .i64 r.h.block, .int .i64 r.s.id, .slice B nb cb, .slice B2 nb2 cb2]] w (FocPost T w base g cap xs i A n c vS vT (shareF me x r)) := by
  obtain ⟨A3, c3, rfl, ⟨hc3, hm3⟩, hs3⟩ := h.foc.took.slC sTk (by decide)
  have hl40 := h.foc.l2
  obtain ⟨⟨p1, p2⟩, ⟨p3, p4⟩, p5, p6⟩ := hr
  obtain ⟨⟨s1, s2⟩, s3, s4⟩ := hx
  have E := Lib.hid (shareF.eq_1 me x r)
  obtain ⟨dl, hdl⟩ : ∃ o, o = x.delivered := ⟨_, rfl⟩
  obtain ⟨pg, hpg⟩ : ∃ o, o = x.purged := ⟨_, rfl⟩
  rw [← hdl, ← hpg] at E
  have H := Lib.hid h
  have hgl := h.foc.gl
  have HS3 := Lib.hid hs3
  have HDL := Lib.hid hdl
  have HPG := Lib.hid hpg
  clear h hdl hpg hs3
  obtain ⟨kd, hkd⟩ : ∃ k, k = r.kind := ⟨_, rfl⟩
  rw [← hkd] at hk E
  have HKD := Lib.hid hkd
  go_enter Try.func35, Try.ntmps35
  rw [← hkd]
  clear hkd
  go_upto_region 1 with fail
  obtain ⟨W1, hW1⟩ : ∃ W1, W1 = (w.alloc (.cells #[.int .i64 me, .slice Ap np cp, .int .i64 time, .int .i64 seq] 25)).alloc (.cells #[.int .i64 kd, .int .i64 r.place, .int .i64 r.n, .int .i64 r.try_, .int .i64 r.h.frm, .int .i64 r.h.seq, .int .i64 r.h.to, .int .i64 r.h.till, .int .i64 r.h.bytes, .int .i64 r.h.block, .int .i64 r.s.id, .slice B nb cb, .slice B2 nb2 cb2] 40) := ⟨_, rfl⟩
  obtain ⟨p, hp⟩ : ∃ p, p = w.heap.size := ⟨_, rfl⟩
  have hbp : W1.heap[p]? = some (.cells #[.int .i64 me, .slice Ap np cp, .int .i64 time, .int .i64 seq] 25 (0, 0)) := by rw [hW1]; exact heap_old (heap_new hp)
  have hbx : W1.heap[p + 1]? = some (.cells #[.int .i64 kd, .int .i64 r.place, .int .i64 r.n, .int .i64 r.try_, .int .i64 r.h.frm, .int .i64 r.h.seq, .int .i64 r.h.to, .int .i64 r.h.till, .int .i64 r.h.bytes, .int .i64 r.h.block, .int .i64 r.s.id, .slice B nb cb, .slice B2 nb2 cb2] 40 (0, 0)) := by rw [hW1]; exact heap_new (by rw [hp]; simp)
  have HF1 : Hid (Fr w W1) := by rw [hW1]; exact (frAlloc _ _).trans (frAlloc _ _)
  rw [← hW1, ← hp]
  have HPW : Hid (p = w.heap.size) := hp
  clear hW1 hp
  have hcl := (H.out.fr HF1.out).foc.cells
  rw [← HDL.out, ← HPG.out] at hcl
  obtain ⟨m0, m1, m2, m3, m4, m5, m6, m7, m8, m9, m10, m11, m12, m13, m14, m15⟩ := hcl
  (obtain ⟨bp0, bp1, bp2, bp3⟩ := box4_ hbp)
  (obtain ⟨bx0, bx1, bx2, bx3, bx4, bx5, bx6, bx7, bx8, bx9, bx10, bx11, bx12⟩ := box13_ hbx)
  have HBX := Lib.hid hbx
  have HBP := Lib.hid hbp
  clear hbx hbp m0 m1 m2 m3 m4 m5 m6 m7 m8 bx4 bx5 bx6 bx7 bx8 bx9 bx10 bx11 bx12 bp1 bp2 bp3
  cases hdp : (dl || pg) with
  | true =>
    have E2 : Hid (shareF me x r = (x, 7)) := E.out.trans (if_pos (by simpa using hdp))
    clear E
    revert hdp
    cases dl <;> cases pg <;> intro hdp <;> first | (exact absurd hdp (by decide)) | (clear hdp; go_wp2_with fail; go_ret; exact H.out.same HF1.out E2.out)
  | false =>
  obtain ⟨rfl, rfl⟩ : dl = false ∧ pg = false := by revert hdp; cases dl <;> cases pg <;> decide
  have E2 := Lib.hid (E.out.trans (if_neg (by simp)))
  clear E hdp
  rcases hk with rfl | rfl | rfl
  · have E3 := Lib.hid (E2.out.trans (if_pos rfl))
    have E4 := Lib.hid (E3.out.trans (giveF.eq_1 me x r))
    clear E2 E3
    by_cases h1 : r.place = me
    · have E5 := Lib.hid (E4.out.trans (if_pos h1))
      have t1 : (r.place == me) = true := by simp [h1]
      clear E4 h1
      go_wp2_with fail
      go_ret
      exact H.out.same HF1.out E5.out
    · have E5 := Lib.hid (E4.out.trans (if_neg h1))
      have t1 : (r.place == me) = false := by simp [h1]
      clear E4 h1
      have hw1 : IntKind.i64.wrap (x.try_ + 1) = x.try_ + 1 := by rw [IntKind.wrap_i64]; omega
      by_cases h2 : 0 < x.giving ∨ r.try_ ≠ x.try_ + 1
      · have E6 := Lib.hid (E5.out.trans (if_pos h2))
        clear E5
        by_cases h3 : 0 < x.giving
        · have t3 : decide (0 < x.giving) = true := by simp [h3]
          clear h2 h3
          go_upto_region 7 with fail
          go_quiet (fail)
          go_wp2_with fail
          go_ret
          exact H.out.same (by (repeat' (first | exact Below.refl _ _ | refine below_drewN ?_ _ | refine Below.drew ?_ | refine frA ?_ _ | refine Fr.trans ?_ HF1.out))) E6.out
        · have t3 : decide (0 < x.giving) = false := by simp; omega
          have t4 : (r.try_ != x.try_ + 1) = true := by simp; omega
          clear h2 h3
          go_upto_region 7 with fail
          go_quiet (fail)
          go_wp2_with fail
          go_ret
          exact H.out.same (by (repeat' (first | exact Below.refl _ _ | refine below_drewN ?_ _ | refine Below.drew ?_ | refine frA ?_ _ | refine Fr.trans ?_ HF1.out))) E6.out
      · have E6 := Lib.hid (E5.out.trans (if_neg h2))
        have t3 : decide (0 < x.giving) = false := by simp; omega
        have t4 : (r.try_ != x.try_ + 1) = false := by simp; omega
        have h2' : r.try_ = x.try_ + 1 := by omega
        have H2 := Lib.hid h2'
        clear E5 h2 h2'
        go_upto_region 7 with fail
        go_quiet (fail)
        go_upto_region 9 with fail
        obtain ⟨W2, hW2⟩ : ∃ W2, W2 = W1.drewN nq := ⟨_, rfl⟩
        have HF12 : Hid (Fr W1 W2) := by rw [hW2]; exact below_drewN (Below.refl _ _) _
        rw [← hW2]
        have HF2 : Hid (Fr w W2) := HF1.out.trans HF12.out
        clear hW2
        clear m9 m10 m11 m12 m13 m14 m15 bx0 bx1 bx2 bx3 bp0
        obtain ⟨m0, m1, m2, m3, m4, m5, m6, m7, m8, m9, m10, m11, m12, m13, m14, m15⟩ := (H.out.fr HF2.out).foc.cells
        have hbx := blk_go HBX.out HF12.out
        have hbp := blk_go HBP.out HF12.out
        (obtain ⟨bp0, bp1, bp2, bp3⟩ := box4_ hbp)
        (obtain ⟨bx0, bx1, bx2, bx3, bx4, bx5, bx6, bx7, bx8, bx9, bx10, bx11, bx12⟩ := box13_ hbx)
        clear hbx hbp m0 m1 m2 m3 m4 m5 m6 m7 m8 bx4 bx5 bx6 bx7 bx8 bx9 bx10 bx11 bx12 bp1 bp2 bp3
        have hq1 : x.shares.tdiv 2 = x.shares / 2 := Int.tdiv_eq_ediv_of_nonneg s1
        have hq2 : IntKind.i64.wrap (x.shares / 2) = x.shares / 2 := by rw [IntKind.wrap_i64]; omega
        by_cases h4 : x.shares < 2 ∨ r.n ≠ x.shares / 2
        · have E7 := Lib.hid (E6.out.trans (if_pos h4))
          clear E6
          by_cases h5 : x.shares < 2
          · have t5 : decide (x.shares < 2) = true := by simp [h5]
            clear h4 h5
            go_quiet (fail)
            go_wp2_with fail
            go_ret
            exact H.out.same (by (repeat' (first | exact Below.refl _ _ | refine below_drewN ?_ _ | refine Below.drew ?_ | refine frA ?_ _ | refine Fr.trans ?_ HF2.out))) E7.out
          · have t5 : decide (x.shares < 2) = false := by simp; omega
            have t6 : (r.n != x.shares / 2) = true := by simp; omega
            clear h4 h5
            go_quiet (fail)
            go_wp2_with fail
            go_ret
            exact H.out.same (by (repeat' (first | exact Below.refl _ _ | refine below_drewN ?_ _ | refine Below.drew ?_ | refine frA ?_ _ | refine Fr.trans ?_ HF2.out))) E7.out
        · have E7 := Lib.hid (E6.out.trans (if_neg h4))
          have t5 : decide (x.shares < 2) = false := by simp; omega
          have t6 : (r.n != x.shares / 2) = false := by simp; omega
          have hws : IntKind.i64.wrap (x.shares - r.n) = x.shares - r.n := by rw [IntKind.wrap_i64]; omega
          have H7 : Hid (0 ≤ x.shares - r.n ∧ x.shares - r.n ≤ 64) := by unfold Hid; omega
          clear E6 h4
          go_quiet (fail)
          go_upto_region 11 with fail
          obtain ⟨W3, hW3⟩ : ∃ W3, W3 = W2.drewN nq := ⟨_, rfl⟩
          have HF23 : Hid (Fr W2 W3) := by rw [hW3]; exact below_drewN (Below.refl _ _) _
          rw [← hW3]
          have HF13 : Hid (Fr W1 W3) := HF12.out.trans HF23.out
          have HF3 : Hid (Fr w W3) := HF1.out.trans HF13.out
          clear hW3
          clear m9 m10 m11 m12 m13 m14 m15 bx0 bx1 bx2 bx3 bp0
          obtain ⟨m0, m1, m2, m3, m4, m5, m6, m7, m8, m9, m10, m11, m12, m13, m14, m15⟩ := (H.out.fr HF3.out).foc.cells
          have hbx := blk_go HBX.out HF13.out
          have hbp := blk_go HBP.out HF13.out
          (obtain ⟨bp0, bp1, bp2, bp3⟩ := box4_ hbp)
          (obtain ⟨bx0, bx1, bx2, bx3, bx4, bx5, bx6, bx7, bx8, bx9, bx10, bx11, bx12⟩ := box13_ hbx)
          clear hbx hbp m0 m1 m2 m3 m4 m5 m6 m7 m8 bx4 bx5 bx6 bx7 bx8 bx9 bx10 bx11 bx12 bp1 bp2 bp3
          have gf := (H.out.fr HF3.out).foc.free (i * 16 + 9)
          have hgl3 := (H.out.fr HF3.out).foc.gl
          go_cut [] (fun wx => wx = (W3.setCell ⟨g, i * 16 + 9, none⟩ (.int .i64 (x.shares - r.n))).drew)
          case first =>
            go_region_with (fail)
            all_goals go_wp2_with fail
            all_goals go_meet
            all_goals rfl
          case rest =>
            have hwc := hcut
            obtain ⟨W4, hW4⟩ : ∃ W4, W4 = wc := ⟨_, rfl⟩
            rw [hwc] at hW4
            have wfx := H.out.foc.wf
            have w4 : wfI (x.shares - r.n) := wfI.mk (by have := H7.out; omega)
            have HX4 : Hid (Foc T W4 base g cap xs i { x with shares := x.shares - r.n } A n c vS (.slice A3 x.took.length c3)) := by
              have hf := (H.out.fr HF3.out).foc
              rw [hW4]; exact (hf.set (x' := { x with shares := x.shares - r.n }) (A' := A) (n' := n) (c' := c) (vS' := vS) (vT' := .slice A3 x.took.length c3) (t := 9) (by decide) rfl ⟨wfx.1, w4, wfx.2.2⟩ hf.cargo hf.syms hf.took hf.l1 hf.l2).fr (Below.refl _ _).drew
            have HC4 : Hid (Chg (FocS g vS (.slice A3 x.took.length c3)) w W4) := by rw [hW4]; exact (Chg.set (p := ⟨g, i * 16 + 9, none⟩) (HF3.out.chg) (.inl rfl) _).drew
            have hbx := blk_go HBX.out HF13.out
            have hcg : Chg (fun b => b = g) W3 W4 := by rw [hW4]; exact (Chg.set (S := fun b => b = g) (p := ⟨g, i * 16 + 9, none⟩) (Chg.refl _ _) rfl _).drew
            have NE : g ≠ p + 1 := by have := HPW.out; omega
            have hbx4 := hcg.blk hbx (fun e => NE e.symm)
            rw [hwc, ← hW4]
            clear hwc hcut hW4 hcg hbx m9 m10 m11 m12 m13 m14 m15 bx0 bx1 bx2 bx3 bp0 gf hgl3
            obtain ⟨m0, m1, m2, m3, m4, m5, m6, m7, m8, m9, m10, m11, m12, m13, m14, m15⟩ := HX4.out.cells
            (obtain ⟨bx0, bx1, bx2, bx3, bx4, bx5, bx6, bx7, bx8, bx9, bx10, bx11, bx12⟩ := box13_ hbx4)
            clear m0 m1 m2 m3 m4 m5 m6 m7 m8 m9 m13 m14 m15 bx0 bx4 bx5 bx6 bx7 bx8 bx9 bx10 bx11 bx12
            have gf10 := HX4.out.free (i * 16 + 10)
            have gf11 := HX4.out.free (i * 16 + 11)
            have gf12 := HX4.out.free (i * 16 + 12)
            have hgl4 := HX4.out.gl
            go_upto_region 12 with fail
            go_region_held3 (fun w' => w'.cell? ⟨p + 1, 1, none⟩ = some (.int .i64 r.place) ∧ w'.cell? ⟨p + 1, 2, none⟩ = some (.int .i64 r.n) ∧ w'.cell? ⟨p + 1, 3, none⟩ = some (.int .i64 r.try_)) (first | exact ⟨bx1, bx2, bx3⟩ | exact ⟨(set1_far NE).trans bx1, (set1_far NE).trans bx2, (set1_far NE).trans bx3⟩ | exact ⟨(set1_far NE).trans ((set1_far NE).trans bx1), (set1_far NE).trans ((set1_far NE).trans bx2), (set1_far NE).trans ((set1_far NE).trans bx3)⟩ | exact ⟨(set1_far NE).trans ((set1_far NE).trans ((set1_far NE).trans bx1)), (set1_far NE).trans ((set1_far NE).trans ((set1_far NE).trans bx2)), (set1_far NE).trans ((set1_far NE).trans ((set1_far NE).trans bx3))⟩ | go_keep) (fail)
            all_goals
              have wn : wfI r.n := wfI.mk (by omega)
              have wp : wfI r.place := wfI.mk (by omega)
              have wt : wfI r.try_ := wfI.mk (by omega)
              have h4 := HX4.out
              have h5 := h4.set (x' := { x with shares := x.shares - r.n, giving := r.n }) (A' := A) (n' := n) (c' := c) (vS' := vS) (vT' := .slice A3 x.took.length c3) (t := 10) (u := (.int .i64 r.n)) (by decide) rfl ⟨wfx.1, w4, wn, wfx.2.2.2⟩ h4.cargo h4.syms h4.took h4.l1 h4.l2
              have h6 := h5.set (x' := { x with shares := x.shares - r.n, giving := r.n, towards := r.place }) (A' := A) (n' := n) (c' := c) (vS' := vS) (vT' := .slice A3 x.took.length c3) (t := 11) (u := (.int .i64 r.place)) (by decide) rfl ⟨wfx.1, w4, wn, wp, wfx.2.2.2.2⟩ h5.cargo h5.syms h5.took h5.l1 h5.l2
              have h7 := h6.set (x' := { x with shares := x.shares - r.n, giving := r.n, towards := r.place, try_ := r.try_ }) (A' := A) (n' := n) (c' := c) (vS' := vS) (vT' := .slice A3 x.took.length c3) (t := 12) (u := (.int .i64 r.try_)) (by decide) rfl ⟨wfx.1, w4, wn, wp, wt⟩ h6.cargo h6.syms h6.took h6.l1 h6.l2
              have HX8 := Lib.hid (h7.fr (Below.refl _ _).drew)
              have HC8 : Hid (Chg (FocS g vS (.slice A3 x.took.length c3)) w (((W4.setCell ⟨g, i * 16 + 10, none⟩ (.int .i64 r.n)).setCell ⟨g, i * 16 + 11, none⟩ (.int .i64 r.place)).setCell ⟨g, i * 16 + 12, none⟩ (.int .i64 r.try_)).drew) := (Chg.set (p := ⟨g, i * 16 + 12, none⟩) (Chg.set (p := ⟨g, i * 16 + 11, none⟩) (Chg.set (p := ⟨g, i * 16 + 10, none⟩) HC4.out (.inl rfl) _) (.inl rfl) _) (.inl rfl) _).drew
              clear h4 h5 h6 h7
              go_wp2_with fail
              go_ret
              rw [E7.out]
              exact ⟨rfl, HC8.out, _, _, HX8.out⟩
  · have E3 := Lib.hid (E2.out.trans ((if_neg (by decide)).trans (if_pos rfl)))
    have E4 := Lib.hid (E3.out.trans (givenF.eq_1 x r))
    clear E2 E3
    by_cases h2 : x.giving = 0 ∨ r.try_ ≠ x.try_
    · have E5 := Lib.hid (E4.out.trans (if_pos h2))
      clear E4
      by_cases h3 : x.giving = 0
      · have t3 : (x.giving == 0) = true := by simp [h3]
        clear h2 h3
        go_upto_region 14 with fail
        go_quiet (fail)
        go_wp2_with fail
        go_ret
        exact H.out.same (by (repeat' (first | exact Below.refl _ _ | refine below_drewN ?_ _ | refine Below.drew ?_ | refine frA ?_ _ | refine Fr.trans ?_ HF1.out))) E5.out
      · have t3 : (x.giving == 0) = false := by simp [h3]
        have t4 : (r.try_ != x.try_) = true := by simp; omega
        clear h2 h3
        go_upto_region 14 with fail
        go_quiet (fail)
        go_wp2_with fail
        go_ret
        exact H.out.same (by (repeat' (first | exact Below.refl _ _ | refine below_drewN ?_ _ | refine Below.drew ?_ | refine frA ?_ _ | refine Fr.trans ?_ HF1.out))) E5.out
    · have E5 := Lib.hid (E4.out.trans (if_neg h2))
      have t3 : (x.giving == 0) = false := by simp; omega
      have t4 : (r.try_ != x.try_) = false := by simp; omega
      clear E4 h2
      go_upto_region 14 with fail
      go_quiet (fail)
      go_upto_region 16 with fail
      obtain ⟨W2, hW2⟩ : ∃ W2, W2 = W1.drewN nq := ⟨_, rfl⟩
      have HF12 : Hid (Fr W1 W2) := by rw [hW2]; exact below_drewN (Below.refl _ _) _
      rw [← hW2]
      have HF2 : Hid (Fr w W2) := HF1.out.trans HF12.out
      clear hW2
      clear m9 m10 m11 m12 m13 m14 m15 bx0 bx1 bx2 bx3 bp0
      obtain ⟨m0, m1, m2, m3, m4, m5, m6, m7, m8, m9, m10, m11, m12, m13, m14, m15⟩ := (H.out.fr HF2.out).foc.cells
      have hbx := blk_go HBX.out HF12.out
      have hbp := blk_go HBP.out HF12.out
      (obtain ⟨bp0, bp1, bp2, bp3⟩ := box4_ hbp)
      (obtain ⟨bx0, bx1, bx2, bx3, bx4, bx5, bx6, bx7, bx8, bx9, bx10, bx11, bx12⟩ := box13_ hbx)
      clear hbx hbp m0 m1 m2 m3 m4 m5 m6 m7 m8 bx4 bx5 bx6 bx7 bx8 bx9 bx10 bx11 bx12 bp1 bp2 bp3
      have h4 := (H.out.fr HF2.out).foc
      have gf10 := h4.free (i * 16 + 10)
      have gf11 := h4.free (i * 16 + 11)
      have hgl4 := h4.gl
      have w0 : wfI 0 := wfI.mk (by decide)
      have h5 := h4.set (x' := { x with giving := 0 }) (A' := A) (n' := n) (c' := c) (vS' := vS) (vT' := .slice A3 x.took.length c3) (t := 10) (u := (.int .i64 0)) (by decide) rfl ⟨h4.wf.1, h4.wf.2.1, w0, h4.wf.2.2.2⟩ h4.cargo h4.syms h4.took h4.l1 h4.l2
      have h6 := h5.set (x' := { x with giving := 0, towards := 0 }) (A' := A) (n' := n) (c' := c) (vS' := vS) (vT' := .slice A3 x.took.length c3) (t := 11) (u := (.int .i64 0)) (by decide) rfl ⟨h5.wf.1, h5.wf.2.1, w0, w0, h5.wf.2.2.2.2⟩ h5.cargo h5.syms h5.took h5.l1 h5.l2
      have HX8 := Lib.hid h6
      have HC8 : Hid (Chg (FocS g vS (.slice A3 x.took.length c3)) w ((W2.setCell ⟨g, i * 16 + 10, none⟩ (.int .i64 0)).setCell ⟨g, i * 16 + 11, none⟩ (.int .i64 0))) := Chg.set (p := ⟨g, i * 16 + 11, none⟩) (Chg.set (p := ⟨g, i * 16 + 10, none⟩) HF2.out.chg (.inl rfl) _) (.inl rfl) _
      clear h4 h5 h6
      go_wp2_with fail
      go_ret
      rw [E5.out]
      exact ⟨rfl, HC8.out, _, _, HX8.out⟩
  · have E3 := Lib.hid (E2.out.trans ((if_neg (by decide)).trans (if_neg (by decide))))
    have E4 := Lib.hid (E3.out.trans (takeF.eq_1 x r))
    clear E2 E3
    have hw1 : IntKind.i64.wrap (64 - x.shares) = 64 - x.shares := by rw [IntKind.wrap_i64]; omega
    go_upto_region 19 with fail
    obtain ⟨W2, hW2⟩ : ∃ W2, W2 = W1.alloc (.cells #[.int .i64 r.place, .int .i64 r.try_] 70) := ⟨_, rfl⟩
    obtain ⟨q5, hq5⟩ : ∃ q, q = W1.heap.size := ⟨_, rfl⟩
    have HQ2 : Hid (W2.heap[q5]? = some (.cells #[.int .i64 r.place, .int .i64 r.try_] 70 (0, 0))) := by rw [hW2]; exact heap_new hq5
    have HF12 : Hid (Fr W1 W2) := by rw [hW2]; exact frAlloc _ _
    rw [← hW2, ← hq5]
    have HF2 : Hid (Fr w W2) := HF1.out.trans HF12.out
    clear hW2 hq5
    clear m9 m10 m11 m12 m13 m14 m15 bx0 bx1 bx2 bx3 bp0
    obtain ⟨m0, m1, m2, m3, m4, m5, m6, m7, m8, m9, m10, m11, m12, m13, m14, m15⟩ := (H.out.fr HF2.out).foc.cells
    have hbx := blk_go HBX.out HF12.out
    have hbp := blk_go HBP.out HF12.out
    (obtain ⟨bp0, bp1, bp2, bp3⟩ := box4_ hbp)
    (obtain ⟨bx0, bx1, bx2, bx3, bx4, bx5, bx6, bx7, bx8, bx9, bx10, bx11, bx12⟩ := box13_ hbx)
    clear hbx hbp m0 m1 m2 m3 m4 m5 m6 m7 m8 bx4 bx5 bx6 bx7 bx8 bx9 bx10 bx11 bx12 bp1 bp2 bp3
    by_cases h2 : r.try_ < 1 ∨ r.n < 1 ∨ 64 - x.shares < r.n
    · have E5 := Lib.hid (E4.out.trans (if_pos h2))
      clear E4
      by_cases h3 : r.try_ < 1
      · have t3 : decide (r.try_ < 1) = true := by simp [h3]
        clear h2 h3
        go_quiet (fail)
        go_wp2_with fail
        go_ret
        exact H.out.same (by (repeat' (first | exact Below.refl _ _ | refine below_drewN ?_ _ | refine Below.drew ?_ | refine frA ?_ _ | refine Fr.trans ?_ HF2.out))) E5.out
      · have t3 : decide (r.try_ < 1) = false := by simp; omega
        by_cases h4 : r.n < 1
        · have t4 : decide (r.n < 1) = true := by simp [h4]
          clear h2 h3 h4
          go_quiet (fail)
          go_wp2_with fail
          go_ret
          exact H.out.same (by (repeat' (first | exact Below.refl _ _ | refine below_drewN ?_ _ | refine Below.drew ?_ | refine frA ?_ _ | refine Fr.trans ?_ HF2.out))) E5.out
        · have t4 : decide (r.n < 1) = false := by simp; omega
          have t5 : decide (64 - x.shares < r.n) = true := by simp; omega
          clear h2 h3 h4
          go_quiet (fail)
          go_wp2_with fail
          go_ret
          exact H.out.same (by (repeat' (first | exact Below.refl _ _ | refine below_drewN ?_ _ | refine Below.drew ?_ | refine frA ?_ _ | refine Fr.trans ?_ HF2.out))) E5.out
    · have E5 := Lib.hid (E4.out.trans (if_neg h2))
      have t3 : decide (r.try_ < 1) = false := by simp; omega
      have t4 : decide (r.n < 1) = false := by simp; omega
      have t5 : decide (64 - x.shares < r.n) = false := by simp; omega
      have h2' : 1 ≤ r.n ∧ r.n ≤ 64 - x.shares := by omega
      have H2 := Lib.hid h2'
      clear E4 h2 h2'
      go_quiet (fail)
      go_upto_region 21 with fail
      obtain ⟨W3, hW3⟩ : ∃ W3, W3 = W2.drewN nq := ⟨_, rfl⟩
      have HF23 : Hid (Fr W2 W3) := by rw [hW3]; exact below_drewN (Below.refl _ _) _
      rw [← hW3]
      have HF13 : Hid (Fr W1 W3) := HF12.out.trans HF23.out
      have HF3 : Hid (Fr w W3) := HF1.out.trans HF13.out
      have HQ3 := Lib.hid (blk_go HQ2.out HF23.out)
      clear hW3 t3 t4 t5
      clear m9 m10 m11 m12 m13 m14 m15 bx0 bx1 bx2 bx3 bp0
      obtain ⟨m0, m1, m2, m3, m4, m5, m6, m7, m8, m9, m10, m11, m12, m13, m14, m15⟩ := (H.out.fr HF3.out).foc.cells
      have hbx := blk_go HBX.out HF13.out
      have hbp := blk_go HBP.out HF13.out
      (obtain ⟨bp0, bp1, bp2, bp3⟩ := box4_ hbp)
      (obtain ⟨bx0, bx1, bx2, bx3, bx4, bx5, bx6, bx7, bx8, bx9, bx10, bx11, bx12⟩ := box13_ hbx)
      clear hbx hbp m0 m1 m2 m3 m4 m5 m6 m7 m8 bx4 bx5 bx6 bx7 bx8 bx9 bx10 bx11 bx12 bp1 bp2 bp3
      obtain ⟨q, hq⟩ : ∃ q, q = x.took.any (fun o => decide (o = ⟨r.place, r.try_⟩)) := ⟨_, rfl⟩
      rw [← hq] at E5
      have CT : Hid (∀ W, Fr W3 W → Calls Try.prog 47 #[.slice A3 x.took.length c3, .agg #[.int .i64 r.place, .int .i64 r.try_]] W fun e w' => e = .returned (.bool q) ∧ Fr W w') := fun W hf => by
        rw [hq]; exact containsTk_any W A3 _ c3 x.took ⟨r.place, r.try_⟩ (HS3.out.go sTk (HF3.out.trans hf)) (by unfold maxLen; omega)
      have hqx := HQ3.out
      (obtain ⟨k0, k1⟩ := box2_ hqx)
      have hSC : Hid (∀ w', Fr W3 w' → w'.cell? ⟨g, i * 16 + 13, none⟩ = some (.slice A3 x.took.length c3) ∧ w'.cell? ⟨q5, 0, none⟩ = some (.int .i64 r.place) ∧ w'.cell? ⟨q5, 1, none⟩ = some (.int .i64 r.try_)) := fun w' hf => ⟨(hf.cell (World.block_lt_of_cell? W3 _ m13)).trans m13, (hf.cell (World.block_lt_of_cell? W3 _ k0)).trans k0, (hf.cell (World.block_lt_of_cell? W3 _ k1)).trans k1⟩
      clear hq hqx m9 m10 m11 m12 m13 m14 m15 bx0 bx1 bx2 bx3 bp0 k0 k1
      go_upto_region 21 with fail
      refine held_begin (n := 7) (bs := #[false, false, false, false, false, false, false]) rfl rfl (by kernel_rfl) (S := fun w' => w'.cell? ⟨g, i * 16 + 13, none⟩ = some (.slice A3 x.took.length c3) ∧ w'.cell? ⟨q5, 0, none⟩ = some (.int .i64 r.place) ∧ w'.cell? ⟨q5, 1, none⟩ = some (.int .i64 r.try_)) (hSC.out _ (Below.refl _ _).drew) (fun hHeld => ?_)
      ((first | (refine held_skip (i := 0) (a' := ?hA124) (l' := ?hL124) rfl (by kernel_rfl) (by kernel_rfl) (by kernel_rfl) (fun _ _ _ h => h) (by rfl) (by assumption) ?ha124 ?hl124 ?hh124; (case ha124 => (simp only [Act.put, hq1, hq2, hq3, Option.isNone, Bool.not_true, Bool.not_false]; (try with_reducible rfl))); (case hl124 => (simp only [Act.put, hq1, hq2, hq3, Option.isNone, Bool.not_true, Bool.not_false]; (try with_reducible rfl)))) | (refine held_take (i := 0) (v := ?hV124) (a' := ?hA124) (l' := ?hL124) rfl (by kernel_rfl) (by kernel_rfl) (by kernel_rfl) (fun _ _ _ h => h) (by rfl) ?hv124 (by assumption) ?ha124 ?hl124 ?hh124; (case hv124 => (intro w hSw; (try dsimp only at hSw); go_simp; (try simp only [run_eql_slice_nil _ 36 _ _ _ _ Try.underlying36, Result.andThen_ok]); (try with_reducible rfl))); (case ha124 => (simp only [Act.put, hq1, hq2, hq3, Option.isNone, Bool.not_true, Bool.not_false]; (try with_reducible rfl))); (case hl124 => (simp only [Act.put, hq1, hq2, hq3, Option.isNone, Bool.not_true, Bool.not_false]; (try with_reducible rfl))))); (first | (refine held_skip (i := 1) (a' := ?hA125) (l' := ?hL125) rfl (by kernel_rfl) (by kernel_rfl) (by kernel_rfl) (fun _ _ _ h => h) (by rfl) (by assumption) ?ha125 ?hl125 ?hh125; (case ha125 => (simp only [Act.put, hq1, hq2, hq3, Option.isNone, Bool.not_true, Bool.not_false]; (try with_reducible rfl))); (case hl125 => (simp only [Act.put, hq1, hq2, hq3, Option.isNone, Bool.not_true, Bool.not_false]; (try with_reducible rfl)))) | (refine held_take (i := 1) (v := ?hV125) (a' := ?hA125) (l' := ?hL125) rfl (by kernel_rfl) (by kernel_rfl) (by kernel_rfl) (fun _ _ _ h => h) (by rfl) ?hv125 (by assumption) ?ha125 ?hl125 ?hh125; (case hv125 => (intro w hSw; (try dsimp only at hSw); go_simp; (try simp only [run_eql_slice_nil _ 36 _ _ _ _ Try.underlying36, Result.andThen_ok]); (try with_reducible rfl))); (case ha125 => (simp only [Act.put, hq1, hq2, hq3, Option.isNone, Bool.not_true, Bool.not_false]; (try with_reducible rfl))); (case hl125 => (simp only [Act.put, hq1, hq2, hq3, Option.isNone, Bool.not_true, Bool.not_false]; (try with_reducible rfl))))); (first | (refine held_skip (i := 2) (a' := ?hA126) (l' := ?hL126) rfl (by kernel_rfl) (by kernel_rfl) (by kernel_rfl) (fun _ _ _ h => h) (by rfl) (by assumption) ?ha126 ?hl126 ?hh126; (case ha126 => (simp only [Act.put, hq1, hq2, hq3, Option.isNone, Bool.not_true, Bool.not_false]; (try with_reducible rfl))); (case hl126 => (simp only [Act.put, hq1, hq2, hq3, Option.isNone, Bool.not_true, Bool.not_false]; (try with_reducible rfl)))) | (refine held_take (i := 2) (v := ?hV126) (a' := ?hA126) (l' := ?hL126) rfl (by kernel_rfl) (by kernel_rfl) (by kernel_rfl) (fun _ _ _ h => h) (by rfl) ?hv126 (by assumption) ?ha126 ?hl126 ?hh126; (case hv126 => (intro w hSw; (try dsimp only at hSw); go_simp; (try simp only [run_eql_slice_nil _ 36 _ _ _ _ Try.underlying36, Result.andThen_ok]); (try with_reducible rfl))); (case ha126 => (simp only [Act.put, hq1, hq2, hq3, Option.isNone, Bool.not_true, Bool.not_false]; (try with_reducible rfl))); (case hl126 => (simp only [Act.put, hq1, hq2, hq3, Option.isNone, Bool.not_true, Bool.not_false]; (try with_reducible rfl))))); (first | (refine held_skip (i := 3) (a' := ?hA127) (l' := ?hL127) rfl (by kernel_rfl) (by kernel_rfl) (by kernel_rfl) (fun _ _ _ h => h) (by rfl) (by assumption) ?ha127 ?hl127 ?hh127; (case ha127 => (simp only [Act.put, hq1, hq2, hq3, Option.isNone, Bool.not_true, Bool.not_false]; (try with_reducible rfl))); (case hl127 => (simp only [Act.put, hq1, hq2, hq3, Option.isNone, Bool.not_true, Bool.not_false]; (try with_reducible rfl)))) | (refine held_take (i := 3) (v := ?hV127) (a' := ?hA127) (l' := ?hL127) rfl (by kernel_rfl) (by kernel_rfl) (by kernel_rfl) (fun _ _ _ h => h) (by rfl) ?hv127 (by assumption) ?ha127 ?hl127 ?hh127; (case hv127 => (intro w hSw; (try dsimp only at hSw); go_simp; (try simp only [run_eql_slice_nil _ 36 _ _ _ _ Try.underlying36, Result.andThen_ok]); (try with_reducible rfl))); (case ha127 => (simp only [Act.put, hq1, hq2, hq3, Option.isNone, Bool.not_true, Bool.not_false]; (try with_reducible rfl))); (case hl127 => (simp only [Act.put, hq1, hq2, hq3, Option.isNone, Bool.not_true, Bool.not_false]; (try with_reducible rfl))))); (first | (refine held_skip (i := 4) (a' := ?hA128) (l' := ?hL128) rfl (by kernel_rfl) (by kernel_rfl) (by kernel_rfl) (fun _ _ _ h => h) (by rfl) (by assumption) ?ha128 ?hl128 ?hh128; (case ha128 => (simp only [Act.put, hq1, hq2, hq3, Option.isNone, Bool.not_true, Bool.not_false]; (try with_reducible rfl))); (case hl128 => (simp only [Act.put, hq1, hq2, hq3, Option.isNone, Bool.not_true, Bool.not_false]; (try with_reducible rfl)))) | (refine held_take (i := 4) (v := ?hV128) (a' := ?hA128) (l' := ?hL128) rfl (by kernel_rfl) (by kernel_rfl) (by kernel_rfl) (fun _ _ _ h => h) (by rfl) ?hv128 (by assumption) ?ha128 ?hl128 ?hh128; (case hv128 => (intro w hSw; (try dsimp only at hSw); go_simp; (try simp only [run_eql_slice_nil _ 36 _ _ _ _ Try.underlying36, Result.andThen_ok]); (try with_reducible rfl))); (case ha128 => (simp only [Act.put, hq1, hq2, hq3, Option.isNone, Bool.not_true, Bool.not_false]; (try with_reducible rfl))); (case hl128 => (simp only [Act.put, hq1, hq2, hq3, Option.isNone, Bool.not_true, Bool.not_false]; (try with_reducible rfl))))))
      refine held_one (i := 5) rfl (by kernel_rfl) (fun K hK => ?_)
      go_simp
      go_at_call 47
      (with_reducible refine (CT.out _ (Below.refl _ _).drew).mono ?_)
      rintro e w6 ⟨rfl, hf6⟩
      have HF36 : Hid (Fr W3 w6) := Fr.trans (Below.refl _ _).drew hf6
      clear hf6
      (refine held_back hK (a' := ?hA130) (l' := ?hL130) ?ha130 ?hl130 (hSC.out _ HF36.out) (fun hHeld => ?hh130); (case ha130 => first | with_reducible rfl | (simp only [Act.put, hq1, hq2, hq3, Option.isNone, Bool.not_true, Bool.not_false]; (try with_reducible rfl))); (case hl130 => (simp only [Act.put, hq1, hq2, hq3, Option.isNone, Bool.not_true, Bool.not_false]; (try with_reducible rfl))); clear hK K)
      ((first | (refine held_skip (i := 6) (a' := ?hA129) (l' := ?hL129) rfl (by kernel_rfl) (by kernel_rfl) (by kernel_rfl) (fun _ _ _ h => h) (by rfl) (by assumption) ?ha129 ?hl129 ?hh129; (case ha129 => (simp only [Act.put, hq1, hq2, hq3, Option.isNone, Bool.not_true, Bool.not_false]; (try with_reducible rfl))); (case hl129 => (simp only [Act.put, hq1, hq2, hq3, Option.isNone, Bool.not_true, Bool.not_false]; (try with_reducible rfl)))) | (refine held_take (i := 6) (v := ?hV129) (a' := ?hA129) (l' := ?hL129) rfl (by kernel_rfl) (by kernel_rfl) (by kernel_rfl) (fun _ _ _ h => h) (by rfl) ?hv129 (by assumption) ?ha129 ?hl129 ?hh129; (case hv129 => (intro w hSw; (try dsimp only at hSw); go_simp; (try simp only [run_eql_slice_nil _ 36 _ _ _ _ Try.underlying36, Result.andThen_ok]); (try with_reducible rfl))); (case ha129 => (simp only [Act.put, hq1, hq2, hq3, Option.isNone, Bool.not_true, Bool.not_false]; (try with_reducible rfl))); (case hl129 => (simp only [Act.put, hq1, hq2, hq3, Option.isNone, Bool.not_true, Bool.not_false]; (try with_reducible rfl))))))
      refine wpAnyH_done (by kernel_rfl) ?_ _
      have HF16 : Hid (Fr W1 w6) := HF13.out.trans HF36.out
      have HF6 : Hid (Fr w w6) := HF1.out.trans HF16.out
      have HQ6 := Lib.hid (blk_go HQ3.out HF36.out)
      obtain ⟨m0, m1, m2, m3, m4, m5, m6, m7, m8, m9, m10, m11, m12, m13, m14, m15⟩ := (H.out.fr HF6.out).foc.cells
      have hbx := blk_go HBX.out HF16.out
      (obtain ⟨bx0, bx1, bx2, bx3, bx4, bx5, bx6, bx7, bx8, bx9, bx10, bx11, bx12⟩ := box13_ hbx)
      have hqx := HQ6.out
      (obtain ⟨k0, k1⟩ := box2_ hqx)
      clear hbx hqx m0 m1 m2 m3 m4 m5 m6 m7 m8 m10 m11 m12 m14 m15 bx0 bx1 bx3 bx4 bx5 bx6 bx7 bx8 bx9 bx10 bx11 bx12 CT hSC hHeld
      cases q with
      | true =>
        have E6 := Lib.hid (E5.out.trans (if_pos rfl))
        clear E5
        go_wp2_with fail
        go_ret
        exact H.out.same HF6.out E6.out
      | false =>
      have E6 := Lib.hid (E5.out.trans (if_neg (by simp)))
      clear E5
      by_cases h40 : x.took.length = 40
      · have E7 := Lib.hid (E6.out.trans (if_pos h40))
        have t7 : ((x.took.length : Int) == 40) = true := by simp [h40]
        clear E6 h40
        go_wp2_with fail
        go_ret
        exact H.out.same HF6.out E7.out
      · have E7 := Lib.hid (E6.out.trans (if_neg h40))
        have t7 : ((x.took.length : Int) == 40) = false := by simp; omega
        have H40 : Hid (x.took.length + 1 ≤ 40) := by unfold Hid; omega
        clear E6 h40
        go_upto_region 25 with fail
        have hLm : x.took.length + 1 ≤ maxLen := by have := H40.out; unfold maxLen; omega
        have hLs : (x.took.length + 1) * 16 ≤ lim := by have := H40.out; unfold lim; omega
        have hONE : ∀ u ∈ [Value.int .i64 r.place, Value.int .i64 r.try_], u.oneCell' = true := by simp [Value.oneCell']
        have HX6 := Lib.hid (H.out.fr HF6.out)
        have hBB : base ≤ w6.heap.size := Nat.le_trans HX6.out.foc.hbg (Nat.le_of_lt HX6.out.foc.gl)
        have hgl6 := HX6.out.foc.gl
        have hql6 : q5 < w6.heap.size := (Array.getElem?_eq_some_iff.1 HQ6.out).1
        have wp : wfI r.place := wfI.mk (by omega)
        have wt : wfI r.try_ := wfI.mk (by omega)
        have HYY : Hid (eTk w6 (fun b => b < w6.heap.size ∧ (Value.slice A3 x.took.length c3).ownBlock ≠ some b) (fun j => [Value.int .i64 r.place, Value.int .i64 r.try_][j]?) ⟨r.place, r.try_⟩) := eTk_iff.2 ⟨⟨rfl, rfl⟩, wp, wt⟩
        clear hl40 hc3 hm3
        go_region_law ((with_reducible refine stepPick (n := 150) rfl ?_); (refine step_app2o (by rfl) (.tmp 147) (.tmp 149) 44 (by rfl) base 70 (.agg #[.int .i64 0, .int .i64 0]) 16 Try.underlying44 infoTaken rfl (by decide) sTk w6 (by (repeat' (first | exact Below.refl _ _ | refine below_drewN ?_ _ | refine Below.drew ?_ | refine frA ?_ _))) (.slice A3 x.took.length c3) x.took (by rfl) HX6.out.foc.took _ [.int .i64 r.place, .int .i64 r.try_] 70 (0, 0) (by rfl) (by first | exact heap_new rfl | exact heap_new (by simp)) rfl hONE ⟨r.place, r.try_⟩ HYY.out hLm hLs hBB ?_); intro v9 w9 HO9 HC9 HL9; obtain ⟨A9, n9, c9, rfl⟩ := own_isSl HO9.out; obtain ⟨cs9, rest9, hg9, _⟩ := HX6.out.foc.blk; have hg9' := HC9.out.blk hg9 (fun e => HX6.out.foc.took.notBlk hg9 (by decide) e rfl); have y9 := blk_free (i := i * 16 + 13) hg9'; have hgl9 := (Array.getElem?_eq_some_iff.1 hg9').1; have m9 := (HC9.out.cell (p := ⟨g, i * 16 + 13, none⟩) hgl6 (fun e => HX6.out.foc.took.notBlk hg9 (by decide) e rfl)).trans m13; clear hg9 hg9')
        all_goals
          have hX := HX6.out.foc.appT (fun b hb => (HX6.out.av b hb).2) HX6.out.ne (chg_grown HC9.out) HO9.out (by rw [List.length_append]; exact H40.out)
          have hC : Chg (FocS g vS (.slice A3 x.took.length c3)) w (w9.setCell ⟨g, i * 16 + 13, none⟩ (.slice A9 n9 c9)) := Chg.set (p := ⟨g, i * 16 + 13, none⟩) (Chg.tr2 (HF6.out.chg) (T := FocS g vS (.slice A3 x.took.length c3)) (HC9.out.more fun b hb => .inr (.inr hb)) fun b hb => .inl hb) (.inl rfl) _
          have NE : g ≠ p + 1 := by have := HPW.out; omega
          have hbx := blk_go HBX.out HF16.out
          have hbx9 := HC9.out.blk hbx (fun e => HX6.out.foc.took.notBlk hbx (by decide) e rfl)
          obtain ⟨W10, hW10⟩ : ∃ W10, W10 = w9.setCell ⟨g, i * 16 + 13, none⟩ (.slice A9 n9 c9) := ⟨_, rfl⟩
          have hcg : Chg (fun b => b = g) w9 W10 := by rw [hW10]; exact Chg.set (S := fun b => b = g) (p := ⟨g, i * 16 + 13, none⟩) (Chg.refl _ _) rfl _
          have hbx10 := hcg.blk hbx9 (fun e => NE e.symm)
          rw [← hW10] at hX hC ⊢
          clear hW10 hbx hbx9 hcg m9 m13 y9 bx2 k0 k1
          obtain ⟨m0, m1, m2, m3, m4, m5, m6, m7, m8, m9, m10, m11, m12, m13, m14, m15⟩ := hX.cells
          (obtain ⟨bx0, bx1, bx2, bx3, bx4, bx5, bx6, bx7, bx8, bx9, bx10, bx11, bx12⟩ := box13_ hbx10)
          have gf := hX.free (i * 16 + 9)
          have hgl10 := hX.gl
          have hws : IntKind.i64.wrap (x.shares + r.n) = x.shares + r.n := by have := H2.out; rw [IntKind.wrap_i64]; omega
          have wsn : wfI (x.shares + r.n) := wfI.mk (by have := H2.out; omega)
          have h5 := (hX.set (x' := { x with took := x.took ++ [⟨r.place, r.try_⟩], shares := x.shares + r.n }) (A' := A) (n' := n) (c' := c) (vS' := vS) (vT' := .slice A9 n9 c9) (t := 9) (u := .int .i64 (x.shares + r.n)) (by decide) rfl ⟨hX.wf.1, wsn, hX.wf.2.2⟩ hX.cargo hX.syms hX.took hX.l1 hX.l2).fr (Below.refl _ _).drew
          have HX11 := Lib.hid h5
          have HC11 : Hid (Chg (FocS g vS (.slice A3 x.took.length c3)) w (W10.setCell ⟨g, i * 16 + 9, none⟩ (.int .i64 (x.shares + r.n))).drew) := (Chg.set (p := ⟨g, i * 16 + 9, none⟩) hC (.inl rfl) _).drew
          clear h5 hX hC hbx10 m0 m1 m2 m3 m4 m5 m6 m7 m8 m10 m11 m12 m13 m14 m15 bx0 bx1 bx3 bx4 bx5 bx6 bx7 bx8 bx9 bx10 bx11 bx12 HX6 HYY
          go_upto_region 26 with fail
          go_region_with (fail)
          all_goals
            go_wp2_with fail
            go_ret
            rw [E7.out]
            exact ⟨rfl, HC11.out, _, _, HX11.out⟩
end Go.Proofs.Ytojoodmnmhcojaa
namespace Go.Proofs.Ytojoodmnmhcojaa

theorem nextF_ok {p q : Pc} {r : Rc} (h : nextF p r = (q, 0)) : PcOk p ∧ recCheck r = 0 ∧ stepF p r = (q, 0) := by
  unfold nextF at h
  split at h
  · rename_i h1; simp only [Prod.mk.injEq] at h; exact absurd h.2 h1
  split at h
  · rename_i h1; simp only [Prod.mk.injEq] at h; exact absurd h.2 h1
  split at h
  · rename_i h1; simp only [Prod.mk.injEq] at h; exact absurd h.2 h1
  rename_i h1 h2 h3
  simp only [ne_eq, Decidable.not_not] at h1 h2 h3
  exact ⟨placeCheck_iff.1 h1, h2, Prod.ext (Prod.mk.inj h).1 h3⟩
/-- Where a bundle is, or comes. -/
structure BdOk (p : Pc) (h : Hd) (l : List Kp) (i : Nat) (k : Kp) : Prop where
  till : p.time < h.till
  up : Up l
  at_ : l[i]? = some k
  head : k.h = h
  ok : KpOk k p.me p.time
  len : l.length ≤ 12
  mem : ∀ x ∈ l, x = k ∨ x ∈ p.keep
  sub : ∀ x ∈ p.keep, x ∈ l
  how : (findAt h.frm h.seq p.keep = some i ∧ l = p.keep) ∨ (findAt h.frm h.seq p.keep = none ∧ l = insKp p.keep (Kp.fresh h) ∧ i = placeAt p.keep h ∧ k = Kp.fresh h ∧ h.frm ≠ p.me)
theorem bundleF_ok {p : Pc} {h : Hd} {l : List Kp} {i : Nat} {k : Kp} (hp : PcOk p) (hh : hdCheck h = 0) (e : bundleF p h = ((l, i, k), 0)) : BdOk p h l i k := by
  unfold bundleF at e
  split at e
  · simp only [Prod.mk.injEq] at e; exact absurd e.2 (by decide)
  rename_i h1
  split at e
  · rename_i j hj
    obtain ⟨x, hx, hf⟩ := findAt_some hj
    split at e
    · simp only [Prod.mk.injEq] at e; exact absurd e.2 (by decide)
    rename_i h2
    simp only [Prod.mk.injEq, and_true] at e
    obtain ⟨rfl, rfl, rfl⟩ := e
    rw [hx] at h2 ⊢
    simp only [Option.getD_some, ne_eq, Decidable.not_not] at h2 ⊢
    exact ⟨by omega, hp.up, hx, h2, keptCheck_iff.1 (hp.kept x (List.mem_of_getElem? hx)), hp.len, fun y hy => .inr hy, fun _ hx => hx, .inl ⟨hj, rfl⟩⟩
  · rename_i hn
    split at e
    · simp only [Prod.mk.injEq] at e; exact absurd e.2 (by decide)
    split at e
    · simp only [Prod.mk.injEq] at e; exact absurd e.2 (by decide)
    rename_i h2 h3
    simp only [Prod.mk.injEq, and_true] at e
    obtain ⟨rfl, rfl, rfl⟩ := e
    have := hp.len
    exact ⟨by omega, insKp_up hp.up (findAt_none hn), insKp_at p.keep (Kp.fresh h), rfl, fresh_ok hh (by omega) h2, by rw [length_insKp]; omega, fun y hy => mem_insKp.1 hy, fun x hx => mem_insKp.2 (.inr hx), .inr ⟨hn, rfl, rfl, rfl, h2⟩⟩
/-- How a record is taken. -/
inductive Stp (p : Pc) (r : Rc) (q : Pc) : Prop
  | send (h1 : r.kind = 1) (h2 : r.h.frm = p.me) (h3 : r.h.seq = p.seq) (h4 : p.time < r.h.till) (h5 : 1 ≤ r.n ∧ r.n ≤ 64) (h6 : p.keep.length < 12) (h7 : q = { p with keep := insKp p.keep (Kp.sent r), seq := p.seq + 1 })
  | tick (h1 : r.kind = 8) (h2 : p.time < r.n) (h3 : q = { p with time := r.n, keep := p.keep.filter fun k => decide (r.n < k.h.till) })
  | elem (h1 : r.kind ≠ 1 ∧ r.kind ≠ 8) (l : List Kp) (i : Nat) (k k' : Kp) (hb : BdOk p r.h l i k) (he : elemF p.me k r = (k', 0)) (hq : q = { p with keep := l.set i k' }) (hf : (r.kind = 3 ∨ r.kind = 4 ∨ r.kind = 5) → findAt r.h.frm r.h.seq p.keep ≠ none)
theorem stepF_ok {p q : Pc} {r : Rc} (hp : PcOk p) (hr : RcOk r) (e : stepF p r = (q, 0)) : Stp p r q := by
  have hlen := hp.len
  unfold stepF at e
  split at e
  · rename_i h1
    unfold sendF at e
    repeat' split at e
    all_goals try (simp only [Prod.mk.injEq] at e; exact absurd e.2 (by decide))
    rename_i a1 a2 a3 a4
    simp only [Prod.mk.injEq, and_true] at e
    exact .send h1 (by simpa using a1) (by omega) (by omega) (by omega) (by omega) e.symm
  split at e
  · rename_i h1
    unfold tickF at e
    split at e
    · simp only [Prod.mk.injEq] at e; exact absurd e.2 (by decide)
    rename_i a1
    simp only [Prod.mk.injEq, and_true] at e
    exact .tick h1 (by omega) e.symm
  split at e
  · simp only [Prod.mk.injEq] at e; exact absurd e.2 (by decide)
  rename_i h1 h8 h3
  split at e
  · rename_i h4; simp only [Prod.mk.injEq] at e; exact absurd e.2 h4
  split at e
  · rename_i h5; simp only [Prod.mk.injEq] at e; exact absurd e.2 h5
  rename_i h4 h5
  simp only [Prod.mk.injEq, and_true, ne_eq, Decidable.not_not] at e h4 h5
  exact .elem ⟨h1, h8⟩ _ _ _ _ (bundleF_ok hp (hr.head h8) (Prod.ext rfl h4)) (Prod.ext rfl h5) e.symm fun hk hn => h3 ⟨hk, hn⟩
theorem KpOk.later {k : Kp} {me time time' : Int} (h : KpOk k me time) (ht : time' < k.h.till) : KpOk k me time' := { h with till := ht }
theorem sent_ok {r : Rc} {me time : Int} (hr : RcOk r) (h1 : r.kind = 1) (h2 : r.h.frm = me) (h4 : time < r.h.till) (h5 : 1 ≤ r.n ∧ r.n ≤ 64) : KpOk (Kp.sent r) me time := by
  have hc := hr.cargo (.inl h1)
  have hh := hr.head (by omega)
  have hb : 1 ≤ r.h.bytes := by
    unfold hdCheck at hh
    split at hh
    · cases hh
    split at hh
    · cases hh
    exact (cutCheck_ok hh).1.1
  have hpos : 0 < r.cargo.length := by omega
  refine ⟨hh, h4, by simp [Kp.sent, h2], ?_, fun _ => hc, fun _ => rfl, by simp [Kp.sent], by simp [Kp.sent], by simp [Kp.sent], ?_, by simp [Kp.sent], by simp [Kp.sent], by simp [Kp.sent], by simp [Kp.sent], by simp [Kp.sent], by simp [Kp.sent], by simp [Kp.sent], by simp [Kp.sent], by simp [Kp.sent]⟩
  · show true = decide (0 < r.cargo.length)
    rw [decide_eq_true hpos]
  · show 0 ≤ r.n ∧ r.n ≤ 64; omega
theorem Stp.ok {p q : Pc} {r : Rc} (hp : PcOk p) (hr : RcOk r) (h : Stp p r q) : PcOk q ∧ q.me = p.me ∧ p.time ≤ q.time ∧ p.seq ≤ q.seq := by
  cases h with
  | send h1 h2 h3 h4 h5 h6 h7 =>
    subst h7
    have hh := hr.head (by omega)
    have hs : r.h.seq < 50 := by
      unfold hdCheck at hh
      split at hh
      · cases hh
      · omega
    have hps := hp.seq
    refine ⟨⟨hp.me, hp.time, by simp only []; omega, by simp only [length_insKp]; omega, fun k hk => ?_, fun k hk ho => ?_, ?_⟩, rfl, Int.le_refl _, by simp only []; omega⟩
    · rcases mem_insKp.1 hk with rfl | hk
      · exact keptCheck_iff.2 (sent_ok hr h1 h2 h4 h5)
      · exact hp.kept k hk
    · simp only []
      rcases mem_insKp.1 hk with rfl | hk
      · show r.h.seq < _; omega
      · have := hp.own k hk ho; omega
    · refine insKp_up hp.up fun x hx hx2 => ?_
      have h8 := (keptCheck_iff.1 (hp.kept x hx)).own
      have h9 : x.own = true := by rw [h8]; simpa using hx2.1.trans h2
      have := hp.own x hx h9
      have e : x.h.seq = r.h.seq := hx2.2
      omega
  | tick h1 h2 h3 =>
    subst h3
    have hn := hr.n
    have ht := hp.time
    refine ⟨⟨hp.me, by simp only []; omega, hp.seq, Nat.le_trans (List.length_filter_le _ _) hp.len, fun k hk => ?_, fun k hk ho => hp.own k (List.mem_filter.1 hk).1 ho, hp.up.sublist List.filter_sublist⟩, rfl, by simp only []; omega, Int.le_refl _⟩
    obtain ⟨a, b⟩ := List.mem_filter.1 hk
    exact keptCheck_iff.2 ((keptCheck_iff.1 (hp.kept k a)).later (by simpa using b))
  | elem h1 l i k k' hb he hq hf =>
    subst hq
    obtain ⟨ok', eh⟩ := elemF_ok hb.ok hr hb.head he
    have hmem : ∀ x ∈ l.set i k', x = k' ∨ x ∈ p.keep := fun x hx => by
      rcases List.mem_or_eq_of_mem_set hx with hx | rfl
      · obtain ⟨j, hj⟩ := List.mem_iff_getElem?.1 hx
        rcases hb.mem x hx with rfl | h2
        · rcases hb.how with ⟨_, h3⟩ | ⟨h3, h4, h5, h6, h7⟩
          · exact .inr (by rw [← h3]; exact List.mem_of_getElem? hb.at_)
          · have e := hb.up.inj hj hb.at_ ⟨rfl, rfl⟩
            subst e
            have hjl := (List.getElem?_eq_some_iff.1 hj).1
            obtain ⟨j2, hj2⟩ := List.mem_iff_getElem?.1 ‹x ∈ l.set _ k'›
            rw [List.getElem?_set] at hj2
            split at hj2
            · rename_i he2
              first
                | exact .inl (by injection hj2 with e; exact e.symm)
                | (split at hj2
                   · exact .inl (by injection hj2 with e; exact e.symm)
                   · cases hj2)
            · rename_i hne
              exact absurd (hb.up.inj hj hj2 ⟨rfl, rfl⟩) hne
        · exact .inr h2
      · exact .inl rfl
    refine ⟨⟨hp.me, hp.time, hp.seq, by simp only [List.length_set]; exact hb.len, fun x hx => ?_, fun x hx ho => ?_, set_up hb.up hb.at_ eh⟩, rfl, Int.le_refl _, Int.le_refl _⟩
    · rcases hmem x hx with rfl | hx
      · exact keptCheck_iff.2 ok'
      · exact hp.kept x hx
    · simp only []
      rcases hmem x hx with rfl | hx
      · rcases hb.how with ⟨_, h3⟩ | ⟨h3, h4, h5, h6, h7⟩
        · have h8 : k ∈ p.keep := by rw [← h3]; exact List.mem_of_getElem? hb.at_
          have h9 : k.own = x.own := by rw [hb.ok.own, ok'.own, eh]
          have := hp.own k h8 (by rw [h9]; exact ho)
          rw [eh]; exact this
        · rw [ok'.own, eh, hb.head] at ho
          exact absurd (by simpa using ho) h7
      · exact hp.own x hx ho
/-- A place stays one; its time and number never go back. -/
theorem nextF_keeps {p q : Pc} {r : Rc} (h : nextF p r = (q, 0)) : PcOk q ∧ q.me = p.me ∧ p.time ≤ q.time ∧ p.seq ≤ q.seq := by
  obtain ⟨hp, hc, hs⟩ := nextF_ok h
  exact (stepF_ok hp (recCheck_ok hc) hs).ok hp (recCheck_ok hc)

/-- How many shares a bundle had. -/
def wasOf (p : Pc) (h : Hd) : Int := match findAt h.frm h.seq p.keep with
  | some i => ((p.keep[i]?).getD (Kp.fresh h)).shares
  | none => 0
theorem wasOf_mem {p : Pc} (hu : Up p.keep) {y : Kp} (hy : y ∈ p.keep) : wasOf p y.h = y.shares := by
  obtain ⟨j, hj⟩ := List.mem_iff_getElem?.1 hy
  unfold wasOf
  rw [findAt_mem hu hj ⟨rfl, rfl⟩]
  simp only [hj, Option.getD_some]
theorem Stp.shares {p q : Pc} {r : Rc} (hp : PcOk p) (hr : RcOk r) (h : Stp p r q) {y : Kp} (hy : y ∈ q.keep) :
    (r.h = y.h ∧ r.kind ≠ 8 ∧ ((r.kind = 1 ∨ r.kind = 6) ∧ y.shares = wasOf p y.h + r.n ∨ r.kind = 4 ∧ y.shares = wasOf p y.h - r.n ∧ y.giving = r.n ∨ (r.kind = 3 ∨ r.kind = 7) ∧ y.shares = 0 ∨ (r.kind = 2 ∨ r.kind = 5) ∧ y.shares = wasOf p y.h)) ∨ (¬ (r.h = y.h ∧ r.kind ≠ 8) ∧ y.shares = wasOf p y.h) := by
  cases h with
  | send h1 h2 h3 h4 h5 h6 h7 =>
    subst h7
    have hno : ∀ x ∈ p.keep, ¬ (x.h.frm = r.h.frm ∧ x.h.seq = r.h.seq) := fun x hx hx2 => by
      have h9 : x.own = true := by rw [(keptCheck_iff.1 (hp.kept x hx)).own]; simpa using hx2.1.trans h2
      have := hp.own x hx h9
      omega
    rcases mem_insKp.1 hy with rfl | hy
    · refine .inl ⟨rfl, by omega, .inl ⟨.inl h1, ?_⟩⟩
      have : wasOf p r.h = 0 := by
        unfold wasOf
        cases hf : findAt r.h.frm r.h.seq p.keep with
        | none => rfl
        | some i => obtain ⟨x, hx, e⟩ := findAt_some hf; exact absurd e (hno x (List.mem_of_getElem? hx))
      show r.n = wasOf p r.h + r.n
      omega
    · refine .inr ⟨fun e => hno y hy (by rw [e.1]; exact ⟨rfl, rfl⟩), (wasOf_mem hp.up hy).symm⟩
  | tick h1 h2 h3 =>
    subst h3
    exact .inr ⟨fun e => e.2 h1, (wasOf_mem hp.up (List.mem_filter.1 hy).1).symm⟩
  | elem h1 l i k k' hb he hq hf =>
    subst hq
    obtain ⟨ok', eh⟩ := elemF_ok hb.ok hr hb.head he
    have hw : wasOf p r.h = k.shares := by
      rcases hb.how with ⟨h2, h3⟩ | ⟨h2, h3, h4, h5, h6⟩
      · unfold wasOf
        have := hb.at_
        rw [h3] at this
        rw [h2]
        simp only [this, Option.getD_some]
      · unfold wasOf
        rw [h2, h5]; rfl
    obtain ⟨j, hj⟩ := List.mem_iff_getElem?.1 hy
    rw [List.getElem?_set] at hj
    split at hj
    · rename_i hij
      split at hj
      · injection hj with hj
        subst hj
        rw [eh, hb.head]
        refine .inl ⟨rfl, h1.2, ?_⟩
        rw [hw]
        have hk := hr.kind
        unfold elemF at he
        split at he
        · rename_i h2
          unfold keepsF at he
          repeat' split at he
          all_goals try (simp only [Prod.mk.injEq] at he; exact absurd he.2 (by decide))
          simp only [Prod.mk.injEq, and_true] at he
          subst he
          exact .inr (.inr (.inr ⟨.inl h2, rfl⟩))
        split at he
        · rename_i h2 h3
          unfold deliverF at he
          repeat' split at he
          all_goals try (simp only [Prod.mk.injEq] at he; exact absurd he.2 (by first | decide | assumption))
          simp only [Prod.mk.injEq, and_true] at he
          subst he
          exact .inr (.inr (.inl ⟨.inl h3, rfl⟩))
        split at he
        · rename_i h2 h3 h7
          unfold purgeF at he
          split at he
          · simp only [Prod.mk.injEq] at he; exact absurd he.2 (by decide)
          simp only [Prod.mk.injEq, and_true] at he
          subst he
          exact .inr (.inr (.inl ⟨.inr h7, rfl⟩))
        rename_i h2 h3 h7
        unfold shareF at he
        split at he
        · simp only [Prod.mk.injEq] at he; exact absurd he.2 (by decide)
        split at he
        · rename_i h4
          unfold giveF at he
          repeat' split at he
          all_goals try (simp only [Prod.mk.injEq] at he; exact absurd he.2 (by decide))
          simp only [Prod.mk.injEq, and_true] at he
          subst he
          exact .inr (.inl ⟨h4, rfl, rfl⟩)
        split at he
        · rename_i h5
          unfold givenF at he
          split at he
          · simp only [Prod.mk.injEq] at he; exact absurd he.2 (by decide)
          simp only [Prod.mk.injEq, and_true] at he
          subst he
          exact .inr (.inr (.inr ⟨.inr h5, rfl⟩))
        · unfold takeF at he
          repeat' split at he
          all_goals try (simp only [Prod.mk.injEq] at he; exact absurd he.2 (by decide))
          simp only [Prod.mk.injEq, and_true] at he
          subst he
          exact .inl ⟨.inr (by omega), rfl⟩
      · cases hj
    · rename_i hij
      have hne : ¬ (y.h.frm = k.h.frm ∧ y.h.seq = k.h.seq) := fun e => hij (hb.up.inj hb.at_ hj ⟨e.1.symm, e.2.symm⟩)
      have hyp : y ∈ p.keep := by
        rcases hb.mem y (List.mem_of_getElem? hj) with rfl | h2
        · exact absurd ⟨rfl, rfl⟩ hne
        · exact h2
      exact .inr ⟨fun e => hne (by rw [← e.1, hb.head]; exact ⟨rfl, rfl⟩), (wasOf_mem hp.up hyp).symm⟩

/-- What is delivered, and what was. -/
structure Once (me : Int) (p : Pc) (done : Hd → Bool) : Prop where
  ok : PcOk p
  me_ : p.me = me
  old : ∀ h, done h = true → h.till ≤ p.time ∨ ∃ k ∈ p.keep, k.h = h ∧ k.delivered = true
  now : ∀ k ∈ p.keep, k.h.to = me → k.delivered = done k.h
theorem once_new {me : Int} (h : 0 ≤ me ∧ me < 4) : Once me ⟨me, [], 0, 0⟩ fun _ => false :=
  ⟨⟨h, ⟨Int.le_refl _, by simp only []; omega⟩, ⟨Int.le_refl _, by simp only []; omega⟩, Nat.zero_le _, fun k hk => by simp at hk, fun k hk => by simp at hk, List.Pairwise.nil⟩, rfl, fun _ h => (by cases h), fun k hk => by simp at hk⟩
theorem elem_deliv {me : Int} {k k' : Kp} {r : Rc} (he : elemF me k r = (k', 0)) : (r.kind ≠ 3 ∧ k'.delivered = k.delivered) ∨ (r.kind = 3 ∧ k.h.to = me ∧ k.delivered = false ∧ k'.delivered = true) := by
  unfold elemF at he
  split at he
  · rename_i h2
    unfold keepsF at he
    repeat' split at he
    all_goals try (simp only [Prod.mk.injEq] at he; exact absurd he.2 (by decide))
    simp only [Prod.mk.injEq, and_true] at he
    subst he
    exact .inl ⟨by omega, rfl⟩
  split at he
  · rename_i h2 h3
    unfold deliverF at he
    repeat' split at he
    all_goals try (simp only [Prod.mk.injEq] at he; exact absurd he.2 (by first | decide | assumption))
    rename_i a1 a2 a3 a4
    simp only [Prod.mk.injEq, and_true] at he
    subst he
    simp only [ne_eq, Decidable.not_not, not_or, Bool.not_eq_true] at a1 a2
    exact .inr ⟨h3, a1, a2.1, rfl⟩
  rename_i h2 h3
  refine .inl ⟨h3, ?_⟩
  split at he
  · unfold purgeF at he
    split at he
    · simp only [Prod.mk.injEq] at he; exact absurd he.2 (by decide)
    simp only [Prod.mk.injEq, and_true] at he
    subst he; rfl
  unfold shareF at he
  split at he
  · simp only [Prod.mk.injEq] at he; exact absurd he.2 (by decide)
  split at he
  · unfold giveF at he
    repeat' split at he
    all_goals try (simp only [Prod.mk.injEq] at he; exact absurd he.2 (by decide))
    simp only [Prod.mk.injEq, and_true] at he
    subst he; rfl
  split at he
  · unfold givenF at he
    split at he
    · simp only [Prod.mk.injEq] at he; exact absurd he.2 (by decide)
    simp only [Prod.mk.injEq, and_true] at he
    subst he; rfl
  · unfold takeF at he
    repeat' split at he
    all_goals try (simp only [Prod.mk.injEq] at he; exact absurd he.2 (by decide))
    simp only [Prod.mk.injEq, and_true] at he
    subst he; rfl
theorem Once.step {me : Int} {p q : Pc} {r : Rc} {done : Hd → Bool} (hi : Once me p done) (h : nextF p r = (q, 0)) :
    (r.kind = 3 → done r.h = false ∧ p.time < r.h.till ∧ r.h.to = me) ∧ Once me q (fun x => if x = r.h then done r.h || decide (r.kind = 3) else done x) := by
  obtain ⟨hp, hc, hs⟩ := nextF_ok h
  have hr := recCheck_ok hc
  have hst := stepF_ok hp hr hs
  obtain ⟨hq, hqm, hqt, hqs⟩ := hst.ok hp hr
  cases hst with
  | send h1 h2 h3 h4 h5 h6 h7 =>
    subst h7
    have hto : r.h.to ≠ me := by
      have hh := hr.head (by omega)
      unfold hdCheck at hh
      split at hh
      · cases hh
      split at hh
      · cases hh
      have := hi.me_
      omega
    have e3 : decide (r.kind = 3) = false := by simp [h1]
    rw [e3]
    refine ⟨fun e => by omega, hq, hi.me_, fun x hx => ?_, fun k hk hm => ?_⟩
    · have hx' : done x = true := by
        split at hx
        · rename_i e; rw [e]; simpa using hx
        · exact hx
      rcases hi.old x hx' with h8 | ⟨k, hk, h8⟩
      · exact .inl h8
      · exact .inr ⟨k, mem_insKp.2 (.inr hk), h8⟩
    · rcases mem_insKp.1 hk with rfl | hk
      · exact absurd hm hto
      · rw [hi.now k hk hm]
        split
        · rename_i e; rw [e]; simp
        · rfl
  | tick h1 h2 h3 =>
    subst h3
    have e3 : decide (r.kind = 3) = false := by simp [h1]
    rw [e3]
    refine ⟨fun e => by omega, hq, hi.me_, fun x hx => ?_, fun k hk hm => ?_⟩
    · have hx' : done x = true := by
        split at hx
        · rename_i e; rw [e]; simpa using hx
        · exact hx
      rcases hi.old x hx' with h8 | ⟨k, hk, h8, h9⟩
      · exact .inl (by simp only []; omega)
      · by_cases ht : r.n < x.till
        · exact .inr ⟨k, List.mem_filter.2 ⟨hk, by rw [h8]; simpa using ht⟩, h8, h9⟩
        · exact .inl (by simp only []; omega)
    · rw [hi.now k (List.mem_filter.1 hk).1 hm]
      split
      · rename_i e; rw [e]; simp
      · rfl
  | elem h1 l i k k' hb he hq' hf =>
    subst hq'
    obtain ⟨ok', eh⟩ := elemF_ok hb.ok hr hb.head he
    have hel := elem_deliv he
    have hm := hi.me_
    have hset : (l.set i k')[i]? = some k' := by
      rw [List.getElem?_set_self (List.getElem?_eq_some_iff.1 hb.at_).1]
    have hkin : k ∈ p.keep ∨ (k = Kp.fresh r.h ∧ findAt r.h.frm r.h.seq p.keep = none) := by
      rcases hb.how with ⟨_, h3⟩ | ⟨h3, _, _, h4, _⟩
      · exact .inl (by rw [← h3]; exact List.mem_of_getElem? hb.at_)
      · exact .inr ⟨h4, h3⟩
    have hnone : (k = Kp.fresh r.h ∧ findAt r.h.frm r.h.seq p.keep = none) → done r.h = false := fun ⟨_, hn⟩ => by
      cases hd : done r.h with
      | false => rfl
      | true =>
        rcases hi.old r.h hd with h8 | ⟨x, hx, h8, _⟩
        · have := hb.till; omega
        · exact absurd (by rw [h8]; exact ⟨rfl, rfl⟩) (findAt_none hn x hx)
    have hkd : k.h.to = me → k.delivered = done r.h := fun ht => by
      rcases hkin with h8 | h8
      · rw [hi.now k h8 ht, hb.head]
      · rw [hnone h8, h8.1]; rfl
    have hmem : ∀ x ∈ l.set i k', x = k' ∨ (x ∈ p.keep ∧ x.h ≠ r.h) := fun x hx => by
      obtain ⟨j, hj⟩ := List.mem_iff_getElem?.1 hx
      rw [List.getElem?_set] at hj
      split at hj
      · split at hj
        · exact .inl (by injection hj with e; exact e.symm)
        · cases hj
      · rename_i hij
        have hne : x.h ≠ r.h := fun e => hij (hb.up.inj hb.at_ hj (by rw [hb.head, e]; exact ⟨rfl, rfl⟩))
        rcases hb.mem x (List.mem_of_getElem? hj) with rfl | h2
        · exact absurd hb.head hne
        · exact .inr ⟨h2, hne⟩
    refine ⟨fun e3 => ?_, hq, hi.me_, fun x hx => ?_, fun x hx ht => ?_⟩
    · rcases hel with ⟨h8, _⟩ | ⟨_, h9, h10, _⟩
      · exact absurd e3 h8
      · rw [hm] at h9
        exact ⟨by rw [← hkd h9]; exact h10, hb.till, by rw [← hb.head]; exact h9⟩
    · simp only []
      by_cases e : x = r.h
      · rw [if_pos e] at hx
        rcases hel with ⟨h8, h9⟩ | ⟨h8, h9, h10, h11⟩
        · have hd : done r.h = true := by simpa [h8] using hx
          rcases hi.old r.h hd with h12 | ⟨y, hy, h12, h13⟩
          · have := hb.till; omega
          · refine .inr ⟨k', List.mem_of_getElem? hset, by rw [eh, hb.head, e], ?_⟩
            rw [h9]
            have hyl := hb.sub y hy
            obtain ⟨j, hj⟩ := List.mem_iff_getElem?.1 hyl
            have := hb.up.inj hb.at_ hj (by rw [hb.head, h12]; exact ⟨rfl, rfl⟩)
            subst this
            have : k = y := by have := hb.at_.symm.trans hj; injection this
            rw [this]; exact h13
        · exact .inr ⟨k', List.mem_of_getElem? hset, by rw [eh, hb.head, e], h11⟩
      · rw [if_neg e] at hx
        rcases hi.old x hx with h8 | ⟨y, hy, h8, h9⟩
        · exact .inl h8
        · obtain ⟨j, hj⟩ := List.mem_iff_getElem?.1 (hb.sub y hy)
          refine .inr ⟨y, ?_, h8, h9⟩
          refine List.mem_of_getElem? (i := j) ?_
          rw [List.getElem?_set_ne]
          · exact hj
          · rintro rfl
            have : k = y := by have := hb.at_.symm.trans hj; injection this
            exact e (by rw [← h8, ← this, hb.head])
    · rcases hmem x hx with rfl | ⟨hx, hne⟩
      · rw [eh, hb.head, if_pos rfl]
        rw [eh] at ht
        rcases hel with ⟨h8, h9⟩ | ⟨h8, h9, h10, h11⟩
        · rw [h9, hkd ht]; simp [h8]
        · rw [h11]; simp [h8]
      · rw [if_neg hne]; exact hi.now x hx ht
end Go.Proofs.Ytojoodmnmhcojaa
