/- Contracts of the reference's SymbolOf and CheckSymbol. No condition. -/
import Derived.Test.YtnfjghldcopaaaaRSymP
import Derived.Test.YtnfjghldcopaaaaPickSays
import Derived.Test.YtnfjghldcopaaaaRCut
import Derived.Test.YtnfjghldcopaaaaRSum
import Derived.Test.YtnfjghldcopaaaaCode
import Derived.Test.YtnfjghldcopaaaaBox
import Derived.Deep.RegionWith
set_option linter.unusedSimpArgs false
set_option linter.unusedVariables false
namespace Go.Proofs.Ytnfjghldcopaaaa
open Go.RowKit
attribute [local irreducible] wpList

theorem blk_l {w : World} {b : Nat} {o : Obj} (h : w.heap[b]? = some o) : b < w.heap.size := (Array.getElem?_eq_some_iff.1 h).1
/-- Two blocks, laid in one row. -/
theorem Sl.two {w : World} {b : Nat} {t : TypeId} {fr : Nat × Nat} {S : Nat → Prop} {A B : Option Addr} {m c n d : Nat} {x y : List UInt8}
    (hb : w.heap[b]? = some (.cells #[.slice A m c, .slice B n d] t fr)) (hS : S b) (hm : m ≤ lim ∧ m ≤ c ∧ c ≤ maxLen) (hn : n ≤ lim ∧ n ≤ d ∧ d ≤ maxLen) (hx : Sl 1 eByte w S A m x) (hy : Sl 1 eByte w S B n y) : Sl 1 eBlock w S (some ⟨b, 0, none⟩) 2 [x, y] :=
  .lit hb hS rfl fun i z hz => by
    match i, hz with
    | 0, hz => obtain rfl : x = z := by simpa using hz
               exact ⟨A, m, c, by simp, ⟨by omega, hm.2⟩, hx⟩
    | 1, hz => obtain rfl : y = z := by simpa using hz
               exact ⟨B, n, d, by simp, ⟨by omega, hn.2⟩, hy⟩
    | i + 2, hz => simp at hz
/-- Bytes of the call's own lie in new blocks. -/
theorem Own.nwBytes {w : World} {base : Nat} {e : TypeId} {v : Value} {l : List UInt8} (h : Own 1 eByte w base e v l) : ∃ A c, v = .slice A l.length c ∧ (l.length ≤ c ∧ c ≤ maxLen) ∧ Sl 1 eByte w (NW base w.heap.size) A l.length l := by
  obtain ⟨A, c, rfl, hc, hs⟩ := h.slC sByte (by decide)
  refine ⟨A, c, rfl, hc, hs.1, fun hn => ?_⟩
  obtain ⟨ad, rfl, hb, hx⟩ := hs.2 hn
  refine ⟨ad, rfl, ⟨?_, hb⟩, hx⟩
  obtain ⟨cs, ho, _⟩ := h
  exact (ho.lt ad.block rfl).1

set_option maxRecDepth 100000 in
set_option maxHeartbeats 2000000 in
theorem refSym_ok (w : World) (A : Option Addr) (n c K : Nat) (cargo : List UInt8) (id : Int) (h : Sl 1 eByte w (LT w.heap.size) A n cargo) (hck : cutCheck n K = 0) (hid : 0 ≤ id ∧ id ≤ 9999) :
    Calls Try.prog 44 #[.agg #[.int .i64 n, .int .i64 K], .slice A n c, .int .i64 id] w fun e w' => ∃ A' n' c', e = .returned (.tuple #[.agg #[.int .i64 id, .slice A' n' c'], .int .i64 0]) ∧ (n' ≤ 16 ∧ n' ≤ c' ∧ c' ≤ maxLen) ∧ Sl 1 eByte w' (LT w'.heap.size) A' n' (makeSym n K cargo id).1.2 ∧ Fr w w' := by
  have hl := h.1
  obtain ⟨⟨b1, b2⟩, ⟨b3, b4⟩, _⟩ := cutCheck_ok hck
  have hb : 1 ≤ n ∧ n ≤ 360 ∧ 1 ≤ K ∧ K ≤ 16 := by omega
  obtain ⟨b1, b2, b3, b4⟩ := hb
  obtain ⟨q1, q2, _⟩ := cutF_count hck hl
  have hall := cutF_all (K := K) (by omega) n cargo
  obtain ⟨X, hX⟩ : ∃ X, X = cutF K n cargo := ⟨_, rfl⟩
  have E1 : Hid (cutUp n K cargo = (X, 0)) := by rw [hX]; exact cutUp_ok hck hl
  rw [← hX] at hall q1 q2
  obtain ⟨Y, hY⟩ : ∃ Y, Y = pickHas id.toNat X.length := ⟨_, rfl⟩
  have hYl : Y.length = X.length := by rw [hY]; exact length_pickHas _ _
  have E2 : Hid (pickedR id (X.length : Nat) = (selIdx Y, 0)) := by
    rw [Hid, hY]; unfold pickedR
    rw [if_pos (by omega), Int.toNat_natCast]
  have E4 : Hid ((makeSym n K cargo id).1.2 = symTo K X (selIdx Y)) := by
    rw [Hid, makeSym_ok hck hl hid, ← hX, ← hY]
    unfold symTo
    rw [sel_idx hYl]
  rw [E4.out]
  have hbd : Hid (∀ k ∈ selIdx Y, ∃ j : Nat, k = (j : Int) ∧ j < X.length) := fun k hk => by
    obtain ⟨j, e, hj⟩ := (Sel.idx Y).bd k hk
    exact ⟨j, e, by omega⟩
  have hget : Hid (∀ k ∈ selIdx Y, (X.getD k.toNat []).length = K) := fun k hk => by
    obtain ⟨j, rfl, hj⟩ := hbd.out k hk
    rw [Int.toNat_natCast, List.getD_eq_getElem?_getD, List.getElem?_eq_getElem hj]
    exact hall _ (List.getElem_mem hj)
  have hLl : Hid ((selIdx Y).length ≤ 24) := by
    have := (Sel.idx Y).length
    rw [Hid]; omega
  obtain ⟨L, hL⟩ : ∃ L, L = selIdx Y := ⟨_, rfl⟩
  rw [← hL] at E2 hbd hget hLl ⊢
  obtain ⟨nb, hnb⟩ : ∃ nb, X.length = nb := ⟨_, rfl⟩
  rw [hnb] at q1 q2 E2 hbd
  have HNB := Lib.hid hnb
  have hmk := run_make_ca (P := Try.prog) bV 0 27 5 1 Try.underlying27 infoByte rfl .i64 .i64 K (by omega) (by omega)
  clear hX hY hnb hYl hck hl hid hL hall
  (have H := Lib.hid h; clear h)
  go_enter Try.func44, Try.ntmps44
  go_wp2_with fail
  (with_reducible refine (refCutUp_any _ _ _ _ _ _ cargo (H.out.go sByte (by (repeat' (first | exact Below.refl _ _ | refine below_drewN ?_ _ | refine Below.drew ?_ | refine frA ?_ _ | refine Fr.trans ?_ Hf1.out)))) (wfI.mk (by omega)) (wfI.mk (by omega))).mono ?_)
  rw [E1.out]
  rintro e w1 ⟨v, rfl, ho, hf1⟩
  obtain ⟨B1, d1, rfl, ⟨hd1, hd2⟩, hs1⟩ := ho.slC wBlock (by decide)
  rw [HNB.out] at hs1 hd1 ⊢
  have hz := blk_go (heap_new (w := w.alloc (.cells #[.int .i64 n, .int .i64 K] 47)) (o := .cells #[.int .i64 0, .slice none 0 0] 53) rfl) hf1
  have hp := blk_go (heap_old (o := .cells #[.int .i64 0, .slice none 0 0] 53) (heap_new (w := w) (o := .cells #[.int .i64 n, .int .i64 K] 47) rfl)) hf1
  simp only [World.size_alloc] at hz
  have HF1 : Hid (Fr w w1) := Fr.trans ((frAlloc _ _).trans (frAlloc _ _)) hf1
  clear hf1
  (have Hz := Lib.hid hz; clear hz; have Hp := Lib.hid hp; clear hp; have Hs1 := Lib.hid hs1; clear hs1; have Ho := Lib.hid ho; clear ho)
  go_wp2_with fail
  (with_reducible refine (refPicked_any _ _ _).mono ?_)
  rw [E2.out]
  rintro e w2 ⟨B2, n2, d2, rfl, ⟨hn2, hx2⟩, hs2, hf2⟩
  obtain rfl : n2 = L.length := hs2.1.symm
  have hz2 := blk_go Hz.out hf2
  have hp2 := blk_go Hp.out hf2
  have hpl := blk_l hp2
  have hzl := blk_l hz2
  have hp20 := cell_of_heap (i := 1) hp2
  have hs1 := Hs1.out.go wBlock hf2
  have HF2 : Hid (Fr w w2) := HF1.out.trans hf2
  (have Hz2 := Lib.hid hz2; clear hz2; have Hp2 := Lib.hid hp2; clear hp2; have Hs2 := Lib.hid hs2; clear hs2; have Hs1 := Lib.hid hs1; clear hs1)
  clear hf2
  have hLl2 : L.length ≤ 24 := hLl.out
  go_wp2_with fail
  obtain ⟨p, hp⟩ : ∃ p, p = w2.heap.size + 1 := ⟨_, rfl⟩
  obtain ⟨W3, hW3⟩ : ∃ W3, W3 = w2.alloc (.cells (ca bV (List.replicate K 0)) 5) := ⟨_, rfl⟩
  have hz3 : W3.heap.size = p := by rw [hW3, hp]; simp
  have HF3 : Hid (Fr w2 W3) := by rw [hW3]; exact frAlloc _ _
  have HSZ : Hid (Sl 1 eByte W3 (fun b => b + 1 = p) (some ⟨w2.heap.size, 0, none⟩) K (symTo K X [])) := by
    rw [Hid, symTo_nil, hW3]
    exact ca_bytes (heap_new rfl) hp.symm (by simp [zeros])
  rw [← hW3, ← hp]
  have hpz : w.heap.size + 2 < p := by omega
  have HW3 : Hid (Fr w W3) := HF2.out.trans HF3.out
  have HZ3 := Lib.hid hz3
  have hpn : Hid ((W3.alloc (.cells #[.int .i64 id, .slice (some ⟨w2.heap.size, 0, none⟩) K K] 53)).heap[p]? = some (.cells #[.int .i64 id, .slice (some ⟨w2.heap.size, 0, none⟩) K K] 53 (0, 0))) := heap_new hz3.symm
  have hs2 := Hs2.out.go sInt HF3.out
  have hs1 := Hs1.out.go wBlock HF3.out
  have hz3 := blk_go Hz2.out HF3.out
  clear Hs1 Hs2 Hz2 Hp2 hp hW3 hmk hp20 hpl hzl
  (have Hs1 := Lib.hid hs1; clear hs1; have Hs2 := Lib.hid hs2; clear hs2; have Hz3 := Lib.hid hz3; clear hz3)
  go_loopw [42] (fun i wr => ∃ (j : Nat) (A5 : Option Addr) (c5 : Nat), j ≤ L.length ∧ i = .int .i64 j ∧ Hid (wr.heap[p]? = some (.cells #[.int .i64 id, .slice A5 K c5] 53 (0, 0))) ∧ (K ≤ c5 ∧ c5 ≤ maxLen) ∧ Hid (Sl 1 eByte wr (fun b => p ≤ b + 1 ∧ b < wr.heap.size ∧ b ≠ p) A5 K (symTo K X (L.take j))) ∧ Hid (Fr W3 wr)) (fun i _ => L.length - (intOf i).toNat)
  case atStart => exact ⟨0, _, _, Nat.zero_le _, rfl, hpn, ⟨Nat.le_refl _, by unfold maxLen; omega⟩, (HSZ.out.keep sByte fun q hq => (frAlloc W3 _).cell (by have := HZ3.out; have hq' : q.block + 1 = p := hq; omega)).more sByte fun b hb => by have := HZ3.out; have hb' : b + 1 = p := hb; simp; omega, frAlloc _ _⟩
  case round =>
    obtain ⟨j, A5, c5, hj, rfl, HP, ⟨hc5, hm5⟩, HS, HF⟩ := hrel
    by_cases hlt : j < L.length
    · obtain ⟨adl, rfl, hEl⟩ := Hs2.out.els (by omega)
      obtain ⟨k, hk, hck, _⟩ := hEl.int hlt
      obtain ⟨kk, rfl, hkn⟩ := hbd.out k (List.mem_of_getElem? hk)
      have hck2 : wr.cell? (adl.add j) = some (.int .i64 kk) := (HF.out.cell (p := adl.add j) (by rw [block_of_add]; exact hEl.2.1)).trans hck
      obtain ⟨adx, rfl, hEx⟩ := Hs1.out.els (by omega)
      obtain ⟨A', n', c', l, hl, hcl, hm', hcc, hcm', hsl⟩ := hEx.blockC hkn
      have hcw : wr.cell? (adx.add kk) = some (.slice A' n' c') := (HF.out.cell (p := adx.add kk) (by rw [block_of_add]; exact hEx.2.1)).trans hcl
      have hg : X.getD ((kk : Int)).toNat [] = l := by rw [Int.toNat_natCast, List.getD_eq_getElem?_getD, hl]; rfl
      have hlk : l.length = K := by rw [← hg]; exact hget.out _ (List.mem_of_getElem? hk)
      obtain rfl : n' = K := hsl.1.symm.trans hlk
      obtain ⟨cur, hcur⟩ : ∃ cur, cur = symTo n' X (L.take j) := ⟨_, rfl⟩
      obtain ⟨nxt, hnx⟩ : ∃ nxt, nxt = symTo n' X (L.take (j + 1)) := ⟨_, rfl⟩
      have hlc : cur.length = n' := by rw [hcur]; exact length_symTo fun k hk => hget.out k (List.mem_of_mem_take hk)
      have HSN : Hid (xorAll n' [cur, l] = nxt) := by
        rw [Hid, hcur, hnx, ← hg, symTo_snoc fun k hk => hget.out k (List.mem_of_mem_take hk), take_snoc' hk]
      have HNL : Hid (nxt.length = n') := by rw [Hid, hnx]; exact length_symTo fun k hk => hget.out k (List.mem_of_mem_take hk)
      have HSC : Hid (sumCheck [cur, l] = 0) := by
        unfold sumCheck Hid
        exact sumCheckFrom_of (by simp; omega) (by simp; omega) (by simp [hlc, hlk])
      have HD : Hid (n' = ([cur, l].headD []).length) := by simp [Hid, hlc]
      rw [← hcur] at HS
      have HX := Lib.hid (HS.out.more sByte (S' := LT wr.heap.size) fun b hb => hb.2.1)
      have HY := Lib.hid (hsl.go sByte HF.out)
      have HNX := Lib.hid hnx
      have hp0 := cell_of_heap (i := 0) HP.out
      have hp1 := cell_of_heap (i := 1) HP.out
      have hps : p < wr.heap.size := blk_l HP.out
      have h5a : n' ≤ lim ∧ n' ≤ c5 ∧ c5 ≤ maxLen := ⟨by unfold lim; omega, hc5, hm5⟩
      have h5b : n' ≤ lim ∧ n' ≤ c' ∧ c' ≤ maxLen := ⟨by unfold lim; omega, hcc, hcm'⟩
      have h2l : 2 ≤ lim := by unfold lim; omega
      have h02 : 0 < 2 := by omega
      (have H5a := Lib.hid h5a; clear h5a; have H5b := Lib.hid h5b; clear h5b; have H2l := Lib.hid h2l; clear h2l)
      clear hk hck hl hcl hsl hg hlk hcur hnx hlc hEl hEx HS
      go_wp2_with fail
      go_region_with (first
        | (go_at_call 78; (with_reducible refine (refSum_any _ _ 2 2 n' [cur, l] (Sl.two (by (repeat' (with_reducible (first | (refine heap_new ?_; (first | (simp; done) | rfl); done) | refine heap_dn ?_ | refine heap_d ?_ | refine heap_old ?_)))) (by simp [LT]) H5a.out H5b.out (HX.out.go sByte (by (repeat' (first | exact Below.refl _ _ | refine below_drewN ?_ _ | refine Below.drew ?_ | refine frA ?_ _)))) (HY.out.go sByte (by (repeat' (first | exact Below.refl _ _ | refine below_drewN ?_ _ | refine Below.drew ?_ | refine frA ?_ _))))) H2l.out HSC.out h02 HD.out).mono ?_); rintro e w5 ⟨v5, rfl, ho5, hf5⟩; rw [HSN.out] at ho5; have hb5 : w5.heap[p]? = some (.cells #[.int .i64 id, .slice A5 n' c5] 53 (0, 0)) := blk_go (by (repeat' (with_reducible (first | (refine heap_new ?_; (first | (simp; done) | rfl); done) | refine heap_dn ?_ | refine heap_d ?_ | refine heap_old ?_))); exact HP.out) hf5; obtain ⟨A6, c6, rfl, hc6, hs6⟩ := (ho5.lower (base' := p + 1) (by simp; omega)).nwBytes; rw [HNL.out] at hs6 hc6 ⊢; have HS6 := Lib.hid hs6; have HC6 := Lib.hid hc6; clear hs6 hc6; have HF5 : Hid (Fr wr w5) := Fr.trans (by (repeat' (first | exact Below.refl _ _ | refine below_drewN ?_ _ | refine Below.drew ?_ | refine frA ?_ _))) hf5; clear ho5 hf5; have q0 := cell_of_heap (i := 0) hb5; have q1 := cell_of_heap (i := 1) hb5; have q2 := blk_free (i := 1) hb5; have HB5 := Lib.hid hb5; clear hb5)
        | fail)
      all_goals
        have HB6 : Hid ((w5.setCell ⟨p, 1, none⟩ (.slice A6 n' c6)).heap[p]? = some (.cells #[.int .i64 id, .slice A6 n' c6] 53 (0, 0))) := by
          unfold Hid
          have := heap_setCell_same w5 p 1 _ _ (.slice A6 n' c6) HB5.out
          simpa using this
        have HS7 : Hid (Sl 1 eByte (w5.setCell ⟨p, 1, none⟩ (.slice A6 n' c6)) (fun b => p ≤ b + 1 ∧ b < (w5.setCell ⟨p, 1, none⟩ (.slice A6 n' c6)).heap.size ∧ b ≠ p) A6 n' nxt) :=
          (HS6.out.stored sByte (p := ⟨p, 1, none⟩) (by simp) _).more sByte fun b hb => by
            rw [size_setCell]
            exact ⟨by have := hb.1; omega, hb.2, by have := hb.1; omega⟩
        have HF7 : Hid (Fr W3 (w5.setCell ⟨p, 1, none⟩ (.slice A6 n' c6))) := (HF.out.trans HF5.out).setCell (by have := HZ3.out; simp; omega) _
        clear q0 q1 q2 HB5 HS6
        go_wp2_with fail
        go_roundw
        case rel => exact ⟨j + 1, A6, c6, by omega, by go_num, HB6, HC6.out, by rw [← HNX.out]; exact HS7, HF7⟩
        case measure => simp [intOf]; omega
    · obtain rfl : j = L.length := by omega
      rw [List.take_length] at HS
      have hp0 := cell_of_heap (i := 0) HP.out
      have hp1 := cell_of_heap (i := 1) HP.out
      have hps : p < wr.heap.size := blk_l HP.out
      have hzz := blk_go Hz3.out HF.out
      have z0 := cell_of_heap (i := 0) hzz
      have z1 := cell_of_heap (i := 1) hzz
      have zf0 := blk_free (i := 0) hzz
      have zf1 := blk_free (i := 1) hzz
      have hzl := blk_l hzz
      have HSF : Hid (Fr w wr) := HW3.out.trans HF.out
      have HSE : Hid (Sl 1 eByte ((wr.setCell ⟨w.heap.size + 1, 0, none⟩ (.int .i64 id)).setCell ⟨w.heap.size + 1, 1, none⟩ (.slice A5 K c5)) (LT wr.heap.size) A5 K (symTo K X L)) :=
        (HS.out.keep sByte fun q hq => by
          rw [World.cell?_setCell_other _ _ _ _ (fun e => by subst e; have := hq.1; simp at this; omega), World.cell?_setCell_other _ _ _ _ (fun e => by subst e; have := hq.1; simp at this; omega)]).more sByte fun b hb => hb.2.1
      clear hzz
      go_wp2_with fail
      refine bodyPost_ret (v := .tuple #[.agg #[.int .i64 id, .slice A5 K c5], .int .i64 0]) ?_ rfl ?_
      · simp [results, Try.results44, go_sem, z0, z1, hzl]
      · exact ⟨A5, K, c5, rfl, ⟨by omega, hc5, hm5⟩, by simpa [size_setCell] using HSE.out, (HSF.out.setCell (by simp) _).setCell (by simp) _⟩
end Go.Proofs.Ytnfjghldcopaaaa
