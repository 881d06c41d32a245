/- solve.Copy: a system in memory of the call's own. Condition: it is a right one. -/
import Derived.Test.YtojoodmnmhcojaaCloneR
import Derived.Test.YtojoodmnmhcojaaBox2
set_option linter.unusedSimpArgs false
set_option linter.unusedVariables false
namespace Go.Proofs.Ytojoodmnmhcojaa
open Go.RowKit
attribute [local irreducible] wpList

theorem copy_step {W2 wr w5 : World} {base g k n h ch d cd : Nat} {cs' rest cs : List Value} {rows : List Rw} {own : Nat → Option Nat} {x : Rw} (hbg : base ≤ wr.heap.size) (hk : k < n) (hx : rows[k]? = some x)
    (HG : w5.heap[g]? = some (.cells (cs' ++ rest).toArray 106 (0, 0))) (HL : cs'.length = n * 2) (HO : ∀ j, k * 2 ≤ j → cs'[j]? = cs[j]?) (hgl : g < wr.heap.size)
    (HOWN : ∀ b i, own b = some i → base ≤ b ∧ b ≠ g ∧ i < k ∧ b < wr.heap.size) (HROW : ∀ i x, i < k → rows[i]? = some x → RowM wr own g i x) (HC : Chg (fun b => b = g) W2 wr) (HF : Fr wr w5)
    (hh : wr.heap.size ≤ h) (hd : wr.heap.size ≤ d) (hne : h ≠ d) (K1 : Blk Value.bool w5 4 h x.has) (K2 : Blk bV w5 5 d x.data) (hch : x.has.length ≤ ch ∧ ch ≤ maxLen) (hcd : x.data.length ≤ cd ∧ cd ≤ maxLen) :
    ∃ (own' : Nat → Option Nat) (cs2 : List Value), ((w5.setCell ⟨g, k * 2, none⟩ (.slice (some ⟨h, 0, none⟩) x.has.length ch)).setCell ⟨g, k * 2 + 1, none⟩ (.slice (some ⟨d, 0, none⟩) x.data.length cd)).heap[g]? = some (.cells (cs2 ++ rest).toArray 106 (0, 0)) ∧ cs2.length = n * 2 ∧ (∀ j, (k + 1) * 2 ≤ j → cs2[j]? = cs[j]?) ∧
      (∀ b i, own' b = some i → base ≤ b ∧ b ≠ g ∧ i < k + 1 ∧ b < ((w5.setCell ⟨g, k * 2, none⟩ (.slice (some ⟨h, 0, none⟩) x.has.length ch)).setCell ⟨g, k * 2 + 1, none⟩ (.slice (some ⟨d, 0, none⟩) x.data.length cd)).heap.size) ∧
      (∀ i y, i < k + 1 → rows[i]? = some y → RowM ((w5.setCell ⟨g, k * 2, none⟩ (.slice (some ⟨h, 0, none⟩) x.has.length ch)).setCell ⟨g, k * 2 + 1, none⟩ (.slice (some ⟨d, 0, none⟩) x.data.length cd)) own' g i y) ∧
      Chg (fun b => b = g) W2 ((w5.setCell ⟨g, k * 2, none⟩ (.slice (some ⟨h, 0, none⟩) x.has.length ch)).setCell ⟨g, k * 2 + 1, none⟩ (.slice (some ⟨d, 0, none⟩) x.data.length cd)) := by
  obtain ⟨va, hva⟩ : ∃ va, va = Value.slice (some ⟨h, 0, none⟩) x.has.length ch := ⟨_, rfl⟩
  obtain ⟨vb, hvb⟩ : ∃ vb, vb = Value.slice (some ⟨d, 0, none⟩) x.data.length cd := ⟨_, rfl⟩
  rw [← hva, ← hvb]
  have hg1 := cells_set (y := va) HG (i := k * 2) (by omega)
  have hg2 := cells_set (y := vb) hg1 (i := k * 2 + 1) (by rw [List.length_set]; omega)
  have hC5 : Chg (fun b => b = g) wr ((w5.setCell ⟨g, k * 2, none⟩ va).setCell ⟨g, k * 2 + 1, none⟩ vb) := Chg.set (S := fun b => b = g) (p := ⟨g, k * 2 + 1, none⟩) (Chg.set (S := fun b => b = g) (p := ⟨g, k * 2, none⟩) (Fr.chg HF) rfl _) rfl _
  have hC6 : Chg (fun b => b = g) w5 ((w5.setCell ⟨g, k * 2, none⟩ va).setCell ⟨g, k * 2 + 1, none⟩ vb) := Chg.set (S := fun b => b = g) (p := ⟨g, k * 2 + 1, none⟩) (Chg.set (S := fun b => b = g) (p := ⟨g, k * 2, none⟩) (Chg.refl _ _) rfl _) rfl _
  have hsz : ((w5.setCell ⟨g, k * 2, none⟩ va).setCell ⟨g, k * 2 + 1, none⟩ vb).heap.size = w5.heap.size := by rw [size_setCell, size_setCell]
  have hs5 := HF.size
  have hlh := K1.lt
  have hld := K2.lt
  have hhg : h ≠ g := by omega
  have hdg : d ≠ g := by omega
  have hold : ∀ b i, own b = some i → b ≠ h ∧ b ≠ d := fun b i e => by have := (HOWN b i e).2.2.2; omega
  refine ⟨fun b => if b = h ∨ b = d then some k else own b, _, hg2, by rw [List.length_set, List.length_set]; exact HL, fun j hj => ?_, fun b i e => ?_, fun i y hi hy => ?_, HC.trans hC5⟩
  · rw [List.getElem?_set_ne (by omega), List.getElem?_set_ne (by omega)]
    exact HO j (by omega)
  · simp only [] at e
    rw [hsz]
    split at e
    · rename_i hb
      injection e with e
      rcases hb with hb | hb <;> subst hb <;> exact ⟨by omega, by omega, by omega, by omega⟩
    · have := HOWN b i e; exact ⟨this.1, this.2.1, by omega, by omega⟩
  · by_cases hik : i = k
    · subst hik
      obtain rfl : x = y := by have := hx.symm.trans hy; injection this
      refine ⟨h, ch, d, cd, if_pos (.inl rfl), if_pos (.inr rfl), hne, ?_, ?_, hch, hcd, K1.chg hC6 hhg, K2.chg hC6 hdg⟩
      · rw [cells_at hg2 (i := i * 2) (x := va)]
        · rw [hva]
        · rw [List.getElem?_set_ne (by omega), List.getElem?_set_self (by omega)]
      · rw [cells_at hg2 (i := i * 2 + 1) (x := vb)]
        · rw [hvb]
        · rw [List.getElem?_set_self (by rw [List.length_set]; omega)]
    · obtain ⟨h', ch', d', cd', p1, p2, p3, p4, p5, p6, p7, p8, p9⟩ := HROW i y (by omega) hy
      obtain ⟨_, o2, _, _⟩ := HOWN _ _ p1
      obtain ⟨_, o3, _, _⟩ := HOWN _ _ p2
      have e1 := hold _ _ p1
      have e2 := hold _ _ p2
      have far : ∀ o, o ≠ k * 2 → o ≠ k * 2 + 1 → ((w5.setCell ⟨g, k * 2, none⟩ va).setCell ⟨g, k * 2 + 1, none⟩ vb).cell? ⟨g, o, none⟩ = wr.cell? ⟨g, o, none⟩ := fun o q1 q2 => by
        rw [World.cell?_setCell_other _ _ _ _ (fun e => by injection e with _ e; exact q2 e.symm), World.cell?_setCell_other _ _ _ _ (fun e => by injection e with _ e; exact q1 e.symm)]
        exact HF.cell (p := ⟨g, o, none⟩) hgl
      exact ⟨h', ch', d', cd', (if_neg (by omega)).trans p1, (if_neg (by omega)).trans p2, p3, (far _ (by omega) (by omega)).trans p4, (far _ (by omega) (by omega)).trans p5, p6, p7, p8.chg hC5 o2, p9.chg hC5 o3⟩
set_option maxRecDepth 100000 in
set_option maxHeartbeats 1000000 in
theorem sysCopy_nil (w : World) (B K : Int) (A : Option Addr) (c : Nat) :
    Calls Try.prog 67 #[.agg #[.int .i64 B, .int .i64 K, .slice A 0 c]] w fun e w' => ∃ A' c', e = .returned (.agg #[.int .i64 B, .int .i64 K, .slice A' 0 c']) ∧ Own 2 eRw w' w.heap.size 106 (.slice A' 0 c') ([] : List Rw) ∧ Fr w w' := by
  have hlim : 0 * 48 ≤ lim := by unfold lim; omega
  go_enter Try.func67, Try.ntmps67
  go_wp2_with fail
  (with_reducible refine (cloneRows_any w.heap.size _ A 0 c [] Sl.nil hlim).mono ?_)
  rintro e w1 ⟨v, rfl, ho, hf1⟩
  obtain ⟨A1, c1, rfl, ⟨hc1, hm1⟩, hs1⟩ := ho.slC (sRw.low _) (by decide)
  have hb1 : w1.heap[w.heap.size]? = some (.cells #[.int .i64 B, .int .i64 K, .slice A 0 c] 97 (0, 0)) := blk_go (by (repeat' (with_reducible (first | (refine heap_new ?_; (first | (simp; done) | rfl); done) | refine heap_dn ?_ | refine heap_d ?_ | refine heap_old ?_)))) hf1
  have hz1 : w1.heap[w.heap.size + 1]? = some (.cells #[.int .i64 0, .int .i64 0, .slice none 0 0] 97 (0, 0)) := blk_go (heap_new (by simp)) hf1
  (obtain ⟨u0, u1, u2⟩ := box3_ hb1)
  (obtain ⟨z0, z1, z2⟩ := box3_ hz1)
  have q2 := blk_free (i := 2) hb1
  have y0 := blk_free (i := 0) hz1
  have y1 := blk_free (i := 1) hz1
  have y2 := blk_free (i := 2) hz1
  have l0 := (Array.getElem?_eq_some_iff.1 hb1).1
  have l1 := (Array.getElem?_eq_some_iff.1 hz1).1
  have HF : Hid (Fr w w1) := Fr.trans (by (repeat' (first | exact Below.refl _ _ | refine below_drewN ?_ _ | refine Below.drew ?_ | refine frA ?_ _))) hf1
  have HO := Lib.hid ho
  clear ho hs1 hf1 hb1 hz1
  go_wp2_with fail
  go_loop [12] (fun i => i = .int .i64 0) (fun i => 0)
  case atStart => rfl
  case round =>
    subst hrel
    go_wp2_with fail
    refine bodyPost_ret (v := .agg #[.int .i64 B, .int .i64 K, .slice A1 0 c1]) ?_ rfl ⟨A1, c1, rfl, ?_, ?_⟩
    · simp [results, Try.results67, go_sem, z0, z1, z2, l1]
    · have hc : Chg (fun b => b < w.heap.size + 2) w1 ((((w1.setCell ⟨w.heap.size, 2, none⟩ (.slice A1 0 c1)).setCell ⟨w.heap.size + 1, 0, none⟩ (.int .i64 B)).setCell ⟨w.heap.size + 1, 1, none⟩ (.int .i64 K)).setCell ⟨w.heap.size + 1, 2, none⟩ (.slice A1 0 c1)) :=
        Chg.set (p := ⟨w.heap.size + 1, 2, none⟩) (Chg.set (p := ⟨w.heap.size + 1, 1, none⟩) (Chg.set (p := ⟨w.heap.size + 1, 0, none⟩) (Chg.set (p := ⟨w.heap.size, 2, none⟩) (Chg.refl _ _) (by simp) _) (by simp) _) (by simp) _) (by simp) _
      exact HO.out.nilChg hc (by simp; omega) fun b h1 _ h2 => by simp at h1; omega
    · exact (((HF.out.setCell (by simp) _).setCell (by simp) _).setCell (by simp) _).setCell (by simp) _

set_option maxRecDepth 100000 in
set_option maxHeartbeats 2000000 in
theorem sysCopy_pos (w : World) (B K : Nat) (A : Option Addr) (n c : Nat) (rows : List Rw) (h : Sl 2 eRw w (LT w.heap.size) A n rows) (hn : 0 < n) (hn24 : n ≤ 24) (hB : 1 ≤ B ∧ B ≤ 24) (hK : 1 ≤ K ∧ K ≤ 16) (hfit : ∀ r ∈ rows, Fit B K r) :
    Calls Try.prog 67 #[.agg #[.int .i64 B, .int .i64 K, .slice A n c]] w fun e w' => ∃ own g cap, e = .returned (.agg #[.int .i64 B, .int .i64 K, .slice (some ⟨g, 0, none⟩) n cap]) ∧ Fr w w' ∧ SysM w' own w.heap.size g cap rows := by
  have hlim : Hid (n * 48 ≤ lim) := by unfold lim Hid; omega
  have hlen := Lib.hid h.1
  have H := Lib.hid h
  have HFIT := Lib.hid hfit
  obtain ⟨B1, B2⟩ := hB
  obtain ⟨K1, K2⟩ := hK
  clear h hfit
  go_enter Try.func67, Try.ntmps67
  go_wp2_with fail
  (with_reducible refine (cloneRows_any w.heap.size _ A n c rows (H.out.low sRw (by (repeat' (first | exact Below.refl _ _ | refine below_drewN ?_ _ | refine Below.drew ?_ | refine frA ?_ _)))) hlim.out).mono ?_)
  rintro e w1 ⟨v, rfl, ho, hf1⟩
  obtain ⟨g, cap, cs, rest, rfl, hbg, hg, hcap, hcm, hl, hall, hone, hrd⟩ := own_row (fRw.low _) (by decide) ho (by rw [hlen.out]; exact hn)
  rw [hlen.out] at hcap hl ⊢
  have hb1 : w1.heap[w.heap.size]? = some (.cells #[.int .i64 B, .int .i64 K, .slice A n c] 97 (0, 0)) := blk_go (by (repeat' (with_reducible (first | (refine heap_new ?_; (first | (simp; done) | rfl); done) | refine heap_dn ?_ | refine heap_d ?_ | refine heap_old ?_)))) hf1
  have hz1 : w1.heap[w.heap.size + 1]? = some (.cells #[.int .i64 0, .int .i64 0, .slice none 0 0] 97 (0, 0)) := blk_go (heap_new (by simp)) hf1
  simp only [World.size_alloc] at hbg
  have HF : Hid (Fr w w1) := Fr.trans (by (repeat' (first | exact Below.refl _ _ | refine below_drewN ?_ _ | refine Below.drew ?_ | refine frA ?_ _))) hf1
  have OLD : Hid (∀ i x, rows[i]? = some x → eRw w (LT w.heap.size) (fun j => cs[i * 2 + j]?) x) := fun i x hx =>
    sRw.keep (fun p hp => (HF.out.cell hp).symm) (sRw.more (fun b hb => hb.2) (hrd i x hx))
  obtain ⟨W2, hW2⟩ : ∃ W2, W2 = w1.setCell ⟨w.heap.size, 2, none⟩ (.slice (some ⟨g, 0, none⟩) n cap) := ⟨_, rfl⟩
  have HB : Hid (W2.heap[w.heap.size]? = some (.cells #[.int .i64 B, .int .i64 K, .slice (some ⟨g, 0, none⟩) n cap] 97 (0, 0))) := by
    unfold Hid; rw [hW2]; have := heap_setCell_same w1 w.heap.size 2 _ _ (.slice (some ⟨g, 0, none⟩) n cap) hb1; simpa using this
  have hoth : ∀ k, k ≠ w.heap.size → W2.heap[k]? = w1.heap[k]? := fun k hk => by rw [hW2]; simp [World.setCell, Array.getElem?_modify, Ne.symm hk]
  have HZ : Hid (W2.heap[w.heap.size + 1]? = some (.cells #[.int .i64 0, .int .i64 0, .slice none 0 0] 97 (0, 0))) := by rw [Hid, hoth _ (by omega)]; exact hz1
  have HG : Hid (W2.heap[g]? = some (.cells (cs ++ rest).toArray 106 (0, 0))) := by rw [Hid, hoth _ (by omega)]; exact hg
  have HF2 : Hid (Fr w W2) := by rw [hW2]; exact HF.out.setCell (by simp) _
  have hsz : g < W2.heap.size := (Array.getElem?_eq_some_iff.1 HG.out).1
  have HALL := Lib.hid hall
  have HL := Lib.hid hl
  (obtain ⟨u0, u1, u2⟩ := box3_ hb1)
  have q2 := blk_free (i := 2) hb1
  have l0 := (Array.getElem?_eq_some_iff.1 hb1).1
  have HW2 := Lib.hid hW2
  clear ho hf1 hb1 hz1 hg hrd hall hone hoth hW2 hl
  have hbgi : w.heap.size + 1 < g := by omega
  clear hbg
  go_wp2_with fail
  rw [← HW2.out]
  clear HW2 u0 u1 u2 q2 l0
  have hv : Hid (∀ b i, (fun _ => Option.none : Nat → Option Nat) b = some i → w.heap.size + 2 ≤ b ∧ b ≠ g ∧ i < 0 ∧ b < W2.heap.size) := fun b i e => by cases e
  go_loopw [12] (fun s12 wr => ∃ (k : Nat) (own : Nat → Option Nat) (cs' : List Value), k ≤ n ∧ s12 = .int .i64 k ∧ Hid (wr.heap[g]? = some (.cells (cs' ++ rest).toArray 106 (0, 0))) ∧ Hid (cs'.length = n * 2) ∧ Hid (∀ j, k * 2 ≤ j → cs'[j]? = cs[j]?) ∧
      Hid (∀ b i, own b = some i → w.heap.size + 2 ≤ b ∧ b ≠ g ∧ i < k ∧ b < wr.heap.size) ∧ Hid (∀ i x, i < k → rows[i]? = some x → RowM wr own g i x) ∧ Hid (Chg (fun b => b = g) W2 wr)) (fun i _ => n - (intOf i).toNat)
  case atStart => exact ⟨0, _, cs, Nat.zero_le _, rfl, HG, HL, fun _ _ => rfl, hv, fun i x hi _ => by omega, Chg.refl _ _⟩
  case round =>
    obtain ⟨k, own, cs', hk, rfl, HG', HL', HO', HOWN, HROW, HC⟩ := hrel
    by_cases hlt : k < n
    · obtain ⟨x, hx⟩ : ∃ x, rows[k]? = some x := ⟨_, List.getElem?_eq_getElem (by rw [hlen.out]; exact hlt)⟩
      obtain ⟨A1, n1, c1, A2, n2, c2, ⟨f0, f1⟩, ⟨⟨e1, e2, e3⟩, ha⟩, ⟨⟨e4, e5, e6⟩, hd⟩⟩ := eRw_iff.1 (OLD.out k x hx)
      have hfx := HFIT.out x (List.mem_of_getElem? hx)
      obtain rfl : n1 = B := ha.1.symm.trans hfx.1
      obtain rfl : n2 = K := hd.1.symm.trans hfx.2
      have hWr : Fr w wr := HC.out.fr HF2.out fun b hb => by rw [hb]; omega
      have ha' := ha.go sBool hWr
      have hd' := hd.go sByte hWr
      have m0 : wr.cell? ⟨g, k * 2, none⟩ = some (.slice A1 n1 c1) := cells_at HG'.out (by rw [HO'.out _ (Nat.le_refl _)]; simpa using f0)
      have m1 : wr.cell? ⟨g, k * 2 + 1, none⟩ = some (.slice A2 n2 c2) := cells_at HG'.out (by rw [HO'.out _ (by omega)]; simpa using f1)
      have hbw := HC.out.blk HB.out (by omega)
      have hz := (Array.getElem?_eq_some_iff.1 hbw).1
      have hgz := (Array.getElem?_eq_some_iff.1 HG'.out).1
      (obtain ⟨u0, u1, u2⟩ := box3_ hbw)
      have HX := Lib.hid hx
      have HWR := Lib.hid hWr
      have hfz0 := blk_free (i := k * 2) HG'.out
      have hfz1 := blk_free (i := k * 2 + 1) HG'.out
      (have Ha' := Lib.hid ha'; clear ha'; have Hd' := Lib.hid hd'; clear hd'; have Hfx := Lib.hid hfx; clear hfx; have E1 := Lib.hid e1; clear e1; have E4 := Lib.hid e4; clear e4; have F0 := Lib.hid f0; clear f0; have F1 := Lib.hid f1; clear f1)
      clear hx ha hd hWr hbw e2 e3 e5 e6
      go_wp2_with fail
      obtain ⟨W3, hW3⟩ : ∃ W3, W3 = wr.alloc (.cells #[.slice A1 n1 c1, .slice A2 n2 c2] 106) := ⟨_, rfl⟩
      obtain ⟨p, hp⟩ : ∃ p, p = wr.heap.size := ⟨_, rfl⟩
      have HP : Hid (W3.drew.heap[p]? = some (.cells #[.slice A1 n1 c1, .slice A2 n2 c2] 106 (0, 0))) := by rw [hW3]; exact heap_new hp
      have hF3 : Fr wr W3 := by rw [hW3]; exact frAlloc _ _
      have hp3 : W3.heap.size = p + 1 := by rw [hW3, hp]; simp
      have HBX : Hid (W3.drew.heap[w.heap.size]? = some (.cells #[.int .i64 n1, .int .i64 n2, .slice (some ⟨g, 0, none⟩) n cap] 97 (0, 0))) := blk_go (HC.out.blk HB.out (by omega)) hF3.drew
      have HGX : Hid (W3.drew.heap[g]? = some (.cells (cs' ++ rest).toArray 106 (0, 0))) := blk_go HG'.out hF3.drew
      have HA := Lib.hid (Ha'.out.go sBool hF3)
      have HD := Lib.hid (Hd'.out.go sByte hF3)
      rw [← hp, ← hW3]
      rw [← hp] at hz hgz
      have HF3 := Lib.hid hF3
      have C0 : Hid (cs'[k * 2]? = some (.slice A1 n1 c1)) := by rw [Hid, HO'.out _ (Nat.le_refl _)]; simpa using F0.out
      have C1 : Hid (cs'[k * 2 + 1]? = some (.slice A2 n2 c2)) := by rw [Hid, HO'.out _ (by omega)]; exact F1.out
      have NE1 : g ≠ w.heap.size := by omega
      have NE2 : g ≠ p := by omega
      have P1 : 0 < n1 := B1
      have P2 : 0 < n2 := K1
      have HP3 := Lib.hid hp3
      have HG3 : Hid (Fr W3 W3.drew) := (Below.refl _ _).drew
      have HPW : Hid (p = wr.heap.size) := hp
      clear hF3 hW3 hp hp3 Ha' Hd' u0 u1 u2 m0 m1 hfz0 hfz1
      go_region_held3 (fun w' => w'.cell? ⟨w.heap.size, 2, none⟩ = some (.slice (some ⟨g, 0, none⟩) n cap) ∧ w'.cell? ⟨p, 0, none⟩ = some (.slice A1 n1 c1) ∧ w'.cell? ⟨p, 1, none⟩ = some (.slice A2 n2 c2)) (first | exact ⟨cell_of_heap HBX.out, cell_of_heap HP.out, cell_of_heap HP.out⟩ | exact ⟨(set2_far NE1).trans (cell_of_heap HBX.out), (set2_far NE2).trans (cell_of_heap HP.out), (set2_far NE2).trans (cell_of_heap HP.out)⟩ | go_keep)
        (first
          | (go_at_call 68; (with_reducible refine (cloneBools_blk _ _ _ _ x.has (HA.out.go sBool HG3.out) E1.out P1).mono ?_); rintro e w5 ⟨h, ch, rfl, hh, hk1, hch, hf5⟩; have HH := Lib.hid (Nat.le_trans HG3.out.size hh); (try (have HNE := Lib.hid (Nat.ne_of_gt (Nat.lt_of_lt_of_le HK2.out.lt hh)))); (try (have HK2 := Lib.hid (HK2.out.fr hf5))); have HK1 := Lib.hid hk1; have HCH := Lib.hid hch; have HG3 := Lib.hid (HG3.out.trans hf5); have HP := Lib.hid (blk_go HP.out hf5); have HBX := Lib.hid (blk_go HBX.out hf5); have HGX := Lib.hid (blk_go HGX.out hf5); have m0 := cells_at HGX.out C0.out; have m1 := cells_at HGX.out C1.out; have z0 := blk_free (i := k * 2) HGX.out; have z1 := blk_free (i := k * 2 + 1) HGX.out; clear hf5 hk1 hh hch)
          | (go_at_call 28; (with_reducible refine (cloneBlock_blk _ _ _ _ x.data (HD.out.go sByte HG3.out) E4.out P2).mono ?_); rintro e w5 ⟨d, cd, rfl, hh, hk2, hcd, hf5⟩; have HD2 := Lib.hid (Nat.le_trans HG3.out.size hh); (try (have HNE := Lib.hid (Nat.ne_of_lt (Nat.lt_of_lt_of_le HK1.out.lt hh)))); (try (have HK1 := Lib.hid (HK1.out.fr hf5))); have HK2 := Lib.hid hk2; have HCD := Lib.hid hcd; have HG3 := Lib.hid (HG3.out.trans hf5); have HP := Lib.hid (blk_go HP.out hf5); have HBX := Lib.hid (blk_go HBX.out hf5); have HGX := Lib.hid (blk_go HGX.out hf5); have m0 := cells_at HGX.out C0.out; have m1 := cells_at HGX.out C1.out; have z0 := blk_free (i := k * 2) HGX.out; have z1 := blk_free (i := k * 2 + 1) HGX.out; clear hf5 hk2 hh hcd)
          | fail)
      all_goals
        obtain ⟨own', cs2, r1, r2, r3, r4, r5, r6⟩ := copy_step (base := w.heap.size + 2) (k := k) (n := n) (ch := ch) (cd := cd) (by have := HPW.out; omega) hlt HX.out HGX.out HL'.out HO'.out (by rw [← HPW.out]; exact hgz) HOWN.out HROW.out HC.out (HF3.out.trans HG3.out)
          (by have := HH.out; have := HP3.out; have := HPW.out; omega) (by have := HD2.out; have := HP3.out; have := HPW.out; omega) HNE.out HK1.out HK2.out (by rw [Hfx.out.1]; exact HCH.out) (by rw [Hfx.out.2]; exact HCD.out)
        rw [Hfx.out.1, Hfx.out.2] at r1 r4 r5 r6
        (have R1 := Lib.hid r1; clear r1; have R2 := Lib.hid r2; clear r2; have R3 := Lib.hid r3; clear r3; have R4 := Lib.hid r4; clear r4; have R5 := Lib.hid r5; clear r5; have R6 := Lib.hid r6; clear r6)
        clear HGX HG3 HK1 HK2 HH HD2 HP HBX m0 m1 z0 z1
        go_wp2_with fail
        go_roundw
        case rel => exact ⟨k + 1, own', cs2, by omega, by go_num, R1, R2, R3, R4, R5, R6⟩
        case measure => simp [intOf]; omega
    · obtain rfl : k = n := by omega
      have hb3 := HC.out.blk HB.out (by omega)
      have hz3 := HC.out.blk HZ.out (by omega)
      (obtain ⟨u0, u1, u2⟩ := box3_ hb3)
      (obtain ⟨z0, z1, z2⟩ := box3_ hz3)
      have y0 := blk_free (i := 0) hz3
      have y1 := blk_free (i := 1) hz3
      have y2 := blk_free (i := 2) hz3
      have l0 := (Array.getElem?_eq_some_iff.1 hb3).1
      have l1 := (Array.getElem?_eq_some_iff.1 hz3).1
      clear hb3 hz3
      go_wp2_with fail
      refine bodyPost_ret (v := .agg #[.int .i64 B, .int .i64 K, .slice (some ⟨g, 0, none⟩) k cap]) ?_ rfl ⟨own, g, cap, rfl, ?_, ?_⟩
      · simp [results, Try.results67, go_sem, z0, z1, z2, l1]
      · exact (((HC.out.fr HF2.out fun b hb => by rw [hb]; omega).setCell (by simp) _).setCell (by simp) _).setCell (by simp) _
      · have hM : SysM wr own w.heap.size g cap rows := ⟨⟨cs', rest, HG'.out, by rw [hlen.out]; exact HL'.out, by rw [HL'.out, ← HL.out]; exact HALL.out⟩, by rw [hlen.out]; exact ⟨hcap, hcm⟩, by omega, fun b i e => ⟨by have := (HOWN.out b i e).1; omega, (HOWN.out b i e).2.1, (HOWN.out b i e).2.2.2⟩, fun i x hx => HROW.out i x (by rw [← hlen.out]; exact (List.getElem?_eq_some_iff.1 hx).1) hx⟩
        refine hM.chg (S := fun b => b = w.heap.size + 1) (Chg.set (S := fun b => b = w.heap.size + 1) (p := ⟨w.heap.size + 1, 2, none⟩) (Chg.set (S := fun b => b = w.heap.size + 1) (p := ⟨w.heap.size + 1, 1, none⟩) (Chg.set (S := fun b => b = w.heap.size + 1) (p := ⟨w.heap.size + 1, 0, none⟩) (Chg.refl _ _) rfl _) rfl _) rfl _) (by omega) fun b i e => ?_
        have := (HOWN.out b i e).1
        omega
end Go.Proofs.Ytojoodmnmhcojaa
