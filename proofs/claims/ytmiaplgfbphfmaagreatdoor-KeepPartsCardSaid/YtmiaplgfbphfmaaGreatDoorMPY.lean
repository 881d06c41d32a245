/- slices.Insert at rows. No condition. -/
import Derived.Test.YtmiaplgfbphfmaaGreatDoorMPJ
import Derived.Test.YtmiaplgfbphfmaaGreatDoorMPB
import Derived.Lib.Overlaps
import Derived.Lib.AppendZerosOnto
import Derived.Test.YtmiaplgfbphfmaaGreatDoorMPI
import Derived.Laws.Externs
set_option linter.unusedSimpArgs false
set_option linter.unusedVariables false
namespace Go.Proofs.YtmiaplgfbphfmaaGreatDoor
open Go.RowKit
attribute [local irreducible] wpList

theorem copy_step {W2 wr w5 : World} {base g k n h ch d cd : Nat} {cs' rest cs : List Value} {rows : List Rw} {own : Nat → Option Nat} {x : Rw} (hbg : base ≤ wr.heap.size) (hk : k < n) (hx : rows[k]? = some x)
    (HG : w5.heap[g]? = some (.cells (cs' ++ rest).toArray 242 (0, 0))) (HL : cs'.length = n * 2) (HO : ∀ j, k * 2 ≤ j → cs'[j]? = cs[j]?) (hgl : g < wr.heap.size)
    (HOWN : ∀ b i, own b = some i → base ≤ b ∧ b ≠ g ∧ i < k ∧ b < wr.heap.size) (HROW : ∀ i x, i < k → rows[i]? = some x → RowM wr own g i x) (HC : Chg (fun b => b = g) W2 wr) (HF : Fr wr w5)
    (hh : wr.heap.size ≤ h) (hd : wr.heap.size ≤ d) (hne : h ≠ d) (K1 : Blk Value.bool w5 4 h x.has) (K2 : Blk bV w5 5 d x.data) (hch : x.has.length ≤ ch ∧ ch ≤ maxLen) (hcd : x.data.length ≤ cd ∧ cd ≤ maxLen) :
    ∃ (own' : Nat → Option Nat) (cs2 : List Value), ((w5.setCell ⟨g, k * 2, none⟩ (.slice (some ⟨h, 0, none⟩) x.has.length ch)).setCell ⟨g, k * 2 + 1, none⟩ (.slice (some ⟨d, 0, none⟩) x.data.length cd)).heap[g]? = some (.cells (cs2 ++ rest).toArray 242 (0, 0)) ∧ cs2.length = n * 2 ∧ (∀ j, (k + 1) * 2 ≤ j → cs2[j]? = cs[j]?) ∧
      (∀ b i, own' b = some i → base ≤ b ∧ b ≠ g ∧ i < k + 1 ∧ b < ((w5.setCell ⟨g, k * 2, none⟩ (.slice (some ⟨h, 0, none⟩) x.has.length ch)).setCell ⟨g, k * 2 + 1, none⟩ (.slice (some ⟨d, 0, none⟩) x.data.length cd)).heap.size) ∧
      (∀ i y, i < k + 1 → rows[i]? = some y → RowM ((w5.setCell ⟨g, k * 2, none⟩ (.slice (some ⟨h, 0, none⟩) x.has.length ch)).setCell ⟨g, k * 2 + 1, none⟩ (.slice (some ⟨d, 0, none⟩) x.data.length cd)) own' g i y) ∧
      Chg (fun b => b = g) W2 ((w5.setCell ⟨g, k * 2, none⟩ (.slice (some ⟨h, 0, none⟩) x.has.length ch)).setCell ⟨g, k * 2 + 1, none⟩ (.slice (some ⟨d, 0, none⟩) x.data.length cd)) := by
  obtain ⟨va, hva⟩ : ∃ va, va = Value.slice (some ⟨h, 0, none⟩) x.has.length ch := ⟨_, rfl⟩
  obtain ⟨vb, hvb⟩ : ∃ vb, vb = Value.slice (some ⟨d, 0, none⟩) x.data.length cd := ⟨_, rfl⟩
  rw [← hva, ← hvb]
  have hg1 := cells_set (y := va) HG (i := k * 2) (by omega)
  have hg2 := cells_set (y := vb) hg1 (i := k * 2 + 1) (by rw [List.length_set]; omega)
  have hC5 : Chg (fun b => b = g) wr ((w5.setCell ⟨g, k * 2, none⟩ va).setCell ⟨g, k * 2 + 1, none⟩ vb) := Chg.set (S := fun b => b = g) (p := ⟨g, k * 2 + 1, none⟩) (Chg.set (S := fun b => b = g) (p := ⟨g, k * 2, none⟩) (Fr.chg HF) rfl _) rfl _
  have hC6 : Chg (fun b => b = g) w5 ((w5.setCell ⟨g, k * 2, none⟩ va).setCell ⟨g, k * 2 + 1, none⟩ vb) := Chg.set (S := fun b => b = g) (p := ⟨g, k * 2 + 1, none⟩) (Chg.set (S := fun b => b = g) (p := ⟨g, k * 2, none⟩) (Chg.refl _ _) rfl _) rfl _
  have hsz : ((w5.setCell ⟨g, k * 2, none⟩ va).setCell ⟨g, k * 2 + 1, none⟩ vb).heap.size = w5.heap.size := by rw [size_setCell, size_setCell]
  have hs5 := HF.size
  have hlh := K1.lt
  have hld := K2.lt
  have hhg : h ≠ g := by omega
  have hdg : d ≠ g := by omega
  have hold : ∀ b i, own b = some i → b ≠ h ∧ b ≠ d := fun b i e => by have := (HOWN b i e).2.2.2; omega
  refine ⟨fun b => if b = h ∨ b = d then some k else own b, _, hg2, by rw [List.length_set, List.length_set]; exact HL, fun j hj => ?_, fun b i e => ?_, fun i y hi hy => ?_, HC.trans hC5⟩
  · rw [List.getElem?_set_ne (by omega), List.getElem?_set_ne (by omega)]
    exact HO j (by omega)
  · simp only [] at e
    rw [hsz]
    split at e
    · rename_i hb
      injection e with e
      rcases hb with hb | hb <;> subst hb <;> exact ⟨by omega, by omega, by omega, by omega⟩
    · have := HOWN b i e; exact ⟨this.1, this.2.1, by omega, by omega⟩
  · by_cases hik : i = k
    · subst hik
      obtain rfl : x = y := by have := hx.symm.trans hy; injection this
      refine ⟨h, ch, d, cd, if_pos (.inl rfl), if_pos (.inr rfl), hne, ?_, ?_, hch, hcd, K1.chg hC6 hhg, K2.chg hC6 hdg⟩
      · rw [cells_at hg2 (i := i * 2) (x := va)]
        · rw [hva]
        · rw [List.getElem?_set_ne (by omega), List.getElem?_set_self (by omega)]
      · rw [cells_at hg2 (i := i * 2 + 1) (x := vb)]
        · rw [hvb]
        · rw [List.getElem?_set_self (by rw [List.length_set]; omega)]
    · obtain ⟨h', ch', d', cd', p1, p2, p3, p4, p5, p6, p7, p8, p9⟩ := HROW i y (by omega) hy
      obtain ⟨_, o2, _, _⟩ := HOWN _ _ p1
      obtain ⟨_, o3, _, _⟩ := HOWN _ _ p2
      have e1 := hold _ _ p1
      have e2 := hold _ _ p2
      have far : ∀ o, o ≠ k * 2 → o ≠ k * 2 + 1 → ((w5.setCell ⟨g, k * 2, none⟩ va).setCell ⟨g, k * 2 + 1, none⟩ vb).cell? ⟨g, o, none⟩ = wr.cell? ⟨g, o, none⟩ := fun o q1 q2 => by
        rw [World.cell?_setCell_other _ _ _ _ (fun e => by injection e with _ e; exact q2 e.symm), World.cell?_setCell_other _ _ _ _ (fun e => by injection e with _ e; exact q1 e.symm)]
        exact HF.cell (p := ⟨g, o, none⟩) hgl
      exact ⟨h', ch', d', cd', (if_neg (by omega)).trans p1, (if_neg (by omega)).trans p2, p3, (far _ (by omega) (by omega)).trans p4, (far _ (by omega) (by omega)).trans p5, p6, p7, p8.chg hC5 o2, p9.chg hC5 o3⟩
set_option maxRecDepth 100000 in
set_option maxHeartbeats 1000000 in
theorem sysCopy_nil (w : World) (B K : Int) (A : Option Addr) (c : Nat) :
    Calls Tryz.prog 186 #[.agg #[.int .i64 B, .int .i64 K, .slice A 0 c]] w fun e w' => ∃ A' c', e = .returned (.agg #[.int .i64 B, .int .i64 K, .slice A' 0 c']) ∧ Own 2 eRw w' w.heap.size 242 (.slice A' 0 c') ([] : List Rw) ∧ Fr w w' := by
  have hlim : 0 * 48 ≤ lim := by unfold lim; omega
  go_enter Tryz.func186, Tryz.ntmps186
  go_wp2_with fail
  (with_reducible refine (cloneRows_any w.heap.size _ A 0 c [] Sl.nil hlim).mono ?_)
  rintro e w1 ⟨v, rfl, ho, hf1⟩
  obtain ⟨A1, c1, rfl, ⟨hc1, hm1⟩, hs1⟩ := ho.slC (sRw.low _) (by decide)
  have hb1 : w1.heap[w.heap.size]? = some (.cells #[.int .i64 B, .int .i64 K, .slice A 0 c] 233 (0, 0)) := blk_go (by (repeat' (with_reducible (first | (refine heap_new ?_; (first | (simp; done) | rfl); done) | refine heap_dn ?_ | refine heap_d ?_ | refine heap_old ?_)))) hf1
  have hz1 : w1.heap[w.heap.size + 1]? = some (.cells #[.int .i64 0, .int .i64 0, .slice none 0 0] 233 (0, 0)) := blk_go (heap_new (by simp)) hf1
  (obtain ⟨u0, u1, u2⟩ := box3_ hb1)
  (obtain ⟨z0, z1, z2⟩ := box3_ hz1)
  have q2 := blk_free (i := 2) hb1
  have y0 := blk_free (i := 0) hz1
  have y1 := blk_free (i := 1) hz1
  have y2 := blk_free (i := 2) hz1
  have l0 := (Array.getElem?_eq_some_iff.1 hb1).1
  have l1 := (Array.getElem?_eq_some_iff.1 hz1).1
  have HF : Hid (Fr w w1) := Fr.trans (by (repeat' (first | exact Below.refl _ _ | refine below_drewN ?_ _ | refine Below.drew ?_ | refine frA ?_ _))) hf1
  have HO := Lib.hid ho
  clear ho hs1 hf1 hb1 hz1
  go_wp2_with fail
  go_loop [12] (fun i => i = .int .i64 0) (fun i => 0)
  case atStart => rfl
  case round =>
    subst hrel
    go_wp2_with fail
    refine bodyPost_ret (v := .agg #[.int .i64 B, .int .i64 K, .slice A1 0 c1]) ?_ rfl ⟨A1, c1, rfl, ?_, ?_⟩
    · simp [results, Tryz.results186, go_sem, z0, z1, z2, l1]
    · have hc : Chg (fun b => b < w.heap.size + 2) w1 ((((w1.setCell ⟨w.heap.size, 2, none⟩ (.slice A1 0 c1)).setCell ⟨w.heap.size + 1, 0, none⟩ (.int .i64 B)).setCell ⟨w.heap.size + 1, 1, none⟩ (.int .i64 K)).setCell ⟨w.heap.size + 1, 2, none⟩ (.slice A1 0 c1)) :=
        Chg.set (p := ⟨w.heap.size + 1, 2, none⟩) (Chg.set (p := ⟨w.heap.size + 1, 1, none⟩) (Chg.set (p := ⟨w.heap.size + 1, 0, none⟩) (Chg.set (p := ⟨w.heap.size, 2, none⟩) (Chg.refl _ _) (by simp) _) (by simp) _) (by simp) _) (by simp) _
      exact HO.out.nilChg hc (by simp; omega) fun b h1 _ h2 => by simp at h1; omega
    · exact (((HF.out.setCell (by simp) _).setCell (by simp) _).setCell (by simp) _).setCell (by simp) _

set_option maxRecDepth 100000 in
set_option maxHeartbeats 2000000 in
theorem sysCopy_pos (w : World) (B K : Nat) (A : Option Addr) (n c : Nat) (rows : List Rw) (h : Sl 2 eRw w (LT w.heap.size) A n rows) (hn : 0 < n) (hn24 : n ≤ 24) (hB : 1 ≤ B ∧ B ≤ 24) (hK : 1 ≤ K ∧ K ≤ 16) (hfit : ∀ r ∈ rows, Fit B K r) :
    Calls Tryz.prog 186 #[.agg #[.int .i64 B, .int .i64 K, .slice A n c]] w fun e w' => ∃ own g cap, e = .returned (.agg #[.int .i64 B, .int .i64 K, .slice (some ⟨g, 0, none⟩) n cap]) ∧ Fr w w' ∧ SysM w' own w.heap.size g cap rows := by
  have hlim : Hid (n * 48 ≤ lim) := by unfold lim Hid; omega
  have hlen := Lib.hid h.1
  have H := Lib.hid h
  have HFIT := Lib.hid hfit
  obtain ⟨B1, B2⟩ := hB
  obtain ⟨K1, K2⟩ := hK
  clear h hfit
  go_enter Tryz.func186, Tryz.ntmps186
  go_wp2_with fail
  (with_reducible refine (cloneRows_any w.heap.size _ A n c rows (H.out.low sRw (by (repeat' (first | exact Below.refl _ _ | refine below_drewN ?_ _ | refine Below.drew ?_ | refine frA ?_ _)))) hlim.out).mono ?_)
  rintro e w1 ⟨v, rfl, ho, hf1⟩
  obtain ⟨g, cap, cs, rest, rfl, hbg, hg, hcap, hcm, hl, hall, hone, hrd⟩ := own_row (fRw.low _) (by decide) ho (by rw [hlen.out]; exact hn)
  rw [hlen.out] at hcap hl ⊢
  have hb1 : w1.heap[w.heap.size]? = some (.cells #[.int .i64 B, .int .i64 K, .slice A n c] 233 (0, 0)) := blk_go (by (repeat' (with_reducible (first | (refine heap_new ?_; (first | (simp; done) | rfl); done) | refine heap_dn ?_ | refine heap_d ?_ | refine heap_old ?_)))) hf1
  have hz1 : w1.heap[w.heap.size + 1]? = some (.cells #[.int .i64 0, .int .i64 0, .slice none 0 0] 233 (0, 0)) := blk_go (heap_new (by simp)) hf1
  simp only [World.size_alloc] at hbg
  have HF : Hid (Fr w w1) := Fr.trans (by (repeat' (first | exact Below.refl _ _ | refine below_drewN ?_ _ | refine Below.drew ?_ | refine frA ?_ _))) hf1
  have OLD : Hid (∀ i x, rows[i]? = some x → eRw w (LT w.heap.size) (fun j => cs[i * 2 + j]?) x) := fun i x hx =>
    sRw.keep (fun p hp => (HF.out.cell hp).symm) (sRw.more (fun b hb => hb.2) (hrd i x hx))
  obtain ⟨W2, hW2⟩ : ∃ W2, W2 = w1.setCell ⟨w.heap.size, 2, none⟩ (.slice (some ⟨g, 0, none⟩) n cap) := ⟨_, rfl⟩
  have HB : Hid (W2.heap[w.heap.size]? = some (.cells #[.int .i64 B, .int .i64 K, .slice (some ⟨g, 0, none⟩) n cap] 233 (0, 0))) := by
    unfold Hid; rw [hW2]; have := heap_setCell_same w1 w.heap.size 2 _ _ (.slice (some ⟨g, 0, none⟩) n cap) hb1; simpa using this
  have hoth : ∀ k, k ≠ w.heap.size → W2.heap[k]? = w1.heap[k]? := fun k hk => by rw [hW2]; simp [World.setCell, Array.getElem?_modify, Ne.symm hk]
  have HZ : Hid (W2.heap[w.heap.size + 1]? = some (.cells #[.int .i64 0, .int .i64 0, .slice none 0 0] 233 (0, 0))) := by rw [Hid, hoth _ (by omega)]; exact hz1
  have HG : Hid (W2.heap[g]? = some (.cells (cs ++ rest).toArray 242 (0, 0))) := by rw [Hid, hoth _ (by omega)]; exact hg
  have HF2 : Hid (Fr w W2) := by rw [hW2]; exact HF.out.setCell (by simp) _
  have hsz : g < W2.heap.size := (Array.getElem?_eq_some_iff.1 HG.out).1
  have HALL := Lib.hid hall
  have HL := Lib.hid hl
  (obtain ⟨u0, u1, u2⟩ := box3_ hb1)
  have q2 := blk_free (i := 2) hb1
  have l0 := (Array.getElem?_eq_some_iff.1 hb1).1
  have HW2 := Lib.hid hW2
  clear ho hf1 hb1 hz1 hg hrd hall hone hoth hW2 hl
  have hbgi : w.heap.size + 1 < g := by omega
  clear hbg
  go_wp2_with fail
  rw [← HW2.out]
  clear HW2 u0 u1 u2 q2 l0
  have hv : Hid (∀ b i, (fun _ => Option.none : Nat → Option Nat) b = some i → w.heap.size + 2 ≤ b ∧ b ≠ g ∧ i < 0 ∧ b < W2.heap.size) := fun b i e => by cases e
  go_loopw [12] (fun s12 wr => ∃ (k : Nat) (own : Nat → Option Nat) (cs' : List Value), k ≤ n ∧ s12 = .int .i64 k ∧ Hid (wr.heap[g]? = some (.cells (cs' ++ rest).toArray 242 (0, 0))) ∧ Hid (cs'.length = n * 2) ∧ Hid (∀ j, k * 2 ≤ j → cs'[j]? = cs[j]?) ∧
      Hid (∀ b i, own b = some i → w.heap.size + 2 ≤ b ∧ b ≠ g ∧ i < k ∧ b < wr.heap.size) ∧ Hid (∀ i x, i < k → rows[i]? = some x → RowM wr own g i x) ∧ Hid (Chg (fun b => b = g) W2 wr)) (fun i _ => n - (intOf i).toNat)
  case atStart => exact ⟨0, _, cs, Nat.zero_le _, rfl, HG, HL, fun _ _ => rfl, hv, fun i x hi _ => by omega, Chg.refl _ _⟩
  case round =>
    obtain ⟨k, own, cs', hk, rfl, HG', HL', HO', HOWN, HROW, HC⟩ := hrel
    by_cases hlt : k < n
    · obtain ⟨x, hx⟩ : ∃ x, rows[k]? = some x := ⟨_, List.getElem?_eq_getElem (by rw [hlen.out]; exact hlt)⟩
      obtain ⟨A1, n1, c1, A2, n2, c2, ⟨f0, f1⟩, ⟨⟨e1, e2, e3⟩, ha⟩, ⟨⟨e4, e5, e6⟩, hd⟩⟩ := eRw_iff.1 (OLD.out k x hx)
      have hfx := HFIT.out x (List.mem_of_getElem? hx)
      obtain rfl : n1 = B := ha.1.symm.trans hfx.1
      obtain rfl : n2 = K := hd.1.symm.trans hfx.2
      have hWr : Fr w wr := HC.out.fr HF2.out fun b hb => by rw [hb]; omega
      have ha' := ha.go sBool hWr
      have hd' := hd.go sByte hWr
      have m0 : wr.cell? ⟨g, k * 2, none⟩ = some (.slice A1 n1 c1) := cells_at HG'.out (by rw [HO'.out _ (Nat.le_refl _)]; simpa using f0)
      have m1 : wr.cell? ⟨g, k * 2 + 1, none⟩ = some (.slice A2 n2 c2) := cells_at HG'.out (by rw [HO'.out _ (by omega)]; simpa using f1)
      have hbw := HC.out.blk HB.out (by omega)
      have hz := (Array.getElem?_eq_some_iff.1 hbw).1
      have hgz := (Array.getElem?_eq_some_iff.1 HG'.out).1
      (obtain ⟨u0, u1, u2⟩ := box3_ hbw)
      have HX := Lib.hid hx
      have HWR := Lib.hid hWr
      have hfz0 := blk_free (i := k * 2) HG'.out
      have hfz1 := blk_free (i := k * 2 + 1) HG'.out
      (have Ha' := Lib.hid ha'; clear ha'; have Hd' := Lib.hid hd'; clear hd'; have Hfx := Lib.hid hfx; clear hfx; have E1 := Lib.hid e1; clear e1; have E4 := Lib.hid e4; clear e4; have F0 := Lib.hid f0; clear f0; have F1 := Lib.hid f1; clear f1)
      clear hx ha hd hWr hbw e2 e3 e5 e6
      go_wp2_with fail
      obtain ⟨W3, hW3⟩ : ∃ W3, W3 = wr.alloc (.cells #[.slice A1 n1 c1, .slice A2 n2 c2] 242) := ⟨_, rfl⟩
      obtain ⟨p, hp⟩ : ∃ p, p = wr.heap.size := ⟨_, rfl⟩
      have HP : Hid (W3.drew.heap[p]? = some (.cells #[.slice A1 n1 c1, .slice A2 n2 c2] 242 (0, 0))) := by rw [hW3]; exact heap_new hp
      have hF3 : Fr wr W3 := by rw [hW3]; exact frAlloc _ _
      have hp3 : W3.heap.size = p + 1 := by rw [hW3, hp]; simp
      have HBX : Hid (W3.drew.heap[w.heap.size]? = some (.cells #[.int .i64 n1, .int .i64 n2, .slice (some ⟨g, 0, none⟩) n cap] 233 (0, 0))) := blk_go (HC.out.blk HB.out (by omega)) hF3.drew
      have HGX : Hid (W3.drew.heap[g]? = some (.cells (cs' ++ rest).toArray 242 (0, 0))) := blk_go HG'.out hF3.drew
      have HA := Lib.hid (Ha'.out.go sBool hF3)
      have HD := Lib.hid (Hd'.out.go sByte hF3)
      rw [← hp, ← hW3]
      rw [← hp] at hz hgz
      have HF3 := Lib.hid hF3
      have C0 : Hid (cs'[k * 2]? = some (.slice A1 n1 c1)) := by rw [Hid, HO'.out _ (Nat.le_refl _)]; simpa using F0.out
      have C1 : Hid (cs'[k * 2 + 1]? = some (.slice A2 n2 c2)) := by rw [Hid, HO'.out _ (by omega)]; exact F1.out
      have NE1 : g ≠ w.heap.size := by omega
      have NE2 : g ≠ p := by omega
      have P1 : 0 < n1 := B1
      have P2 : 0 < n2 := K1
      have HP3 := Lib.hid hp3
      have HG3 : Hid (Fr W3 W3.drew) := (Below.refl _ _).drew
      have HPW : Hid (p = wr.heap.size) := hp
      clear hF3 hW3 hp hp3 Ha' Hd' u0 u1 u2 m0 m1 hfz0 hfz1
      go_region_held3 (fun w' => w'.cell? ⟨w.heap.size, 2, none⟩ = some (.slice (some ⟨g, 0, none⟩) n cap) ∧ w'.cell? ⟨p, 0, none⟩ = some (.slice A1 n1 c1) ∧ w'.cell? ⟨p, 1, none⟩ = some (.slice A2 n2 c2)) (first | exact ⟨cell_of_heap HBX.out, cell_of_heap HP.out, cell_of_heap HP.out⟩ | exact ⟨(set2_far NE1).trans (cell_of_heap HBX.out), (set2_far NE2).trans (cell_of_heap HP.out), (set2_far NE2).trans (cell_of_heap HP.out)⟩ | go_keep)
        (first
          | (go_at_call 187; (with_reducible refine (cloneBools_blk _ _ _ _ x.has (HA.out.go sBool HG3.out) E1.out P1).mono ?_); rintro e w5 ⟨h, ch, rfl, hh, hk1, hch, hf5⟩; have HH := Lib.hid (Nat.le_trans HG3.out.size hh); (try (have HNE := Lib.hid (Nat.ne_of_gt (Nat.lt_of_lt_of_le HK2.out.lt hh)))); (try (have HK2 := Lib.hid (HK2.out.fr hf5))); have HK1 := Lib.hid hk1; have HCH := Lib.hid hch; have HG3 := Lib.hid (HG3.out.trans hf5); have HP := Lib.hid (blk_go HP.out hf5); have HBX := Lib.hid (blk_go HBX.out hf5); have HGX := Lib.hid (blk_go HGX.out hf5); have m0 := cells_at HGX.out C0.out; have m1 := cells_at HGX.out C1.out; have z0 := blk_free (i := k * 2) HGX.out; have z1 := blk_free (i := k * 2 + 1) HGX.out; clear hf5 hk1 hh hch)
          | (go_at_call 107; (with_reducible refine (cloneBlock_blk _ _ _ _ x.data (HD.out.go sByte HG3.out) E4.out P2).mono ?_); rintro e w5 ⟨d, cd, rfl, hh, hk2, hcd, hf5⟩; have HD2 := Lib.hid (Nat.le_trans HG3.out.size hh); (try (have HNE := Lib.hid (Nat.ne_of_lt (Nat.lt_of_lt_of_le HK1.out.lt hh)))); (try (have HK1 := Lib.hid (HK1.out.fr hf5))); have HK2 := Lib.hid hk2; have HCD := Lib.hid hcd; have HG3 := Lib.hid (HG3.out.trans hf5); have HP := Lib.hid (blk_go HP.out hf5); have HBX := Lib.hid (blk_go HBX.out hf5); have HGX := Lib.hid (blk_go HGX.out hf5); have m0 := cells_at HGX.out C0.out; have m1 := cells_at HGX.out C1.out; have z0 := blk_free (i := k * 2) HGX.out; have z1 := blk_free (i := k * 2 + 1) HGX.out; clear hf5 hk2 hh hcd)
          | fail)
      all_goals
        obtain ⟨own', cs2, r1, r2, r3, r4, r5, r6⟩ := copy_step (base := w.heap.size + 2) (k := k) (n := n) (ch := ch) (cd := cd) (by have := HPW.out; omega) hlt HX.out HGX.out HL'.out HO'.out (by rw [← HPW.out]; exact hgz) HOWN.out HROW.out HC.out (HF3.out.trans HG3.out)
          (by have := HH.out; have := HP3.out; have := HPW.out; omega) (by have := HD2.out; have := HP3.out; have := HPW.out; omega) HNE.out HK1.out HK2.out (by rw [Hfx.out.1]; exact HCH.out) (by rw [Hfx.out.2]; exact HCD.out)
        rw [Hfx.out.1, Hfx.out.2] at r1 r4 r5 r6
        (have R1 := Lib.hid r1; clear r1; have R2 := Lib.hid r2; clear r2; have R3 := Lib.hid r3; clear r3; have R4 := Lib.hid r4; clear r4; have R5 := Lib.hid r5; clear r5; have R6 := Lib.hid r6; clear r6)
        clear HGX HG3 HK1 HK2 HH HD2 HP HBX m0 m1 z0 z1
        go_wp2_with fail
        go_roundw
        case rel => exact ⟨k + 1, own', cs2, by omega, by go_num, R1, R2, R3, R4, R5, R6⟩
        case measure => simp [intOf]; omega
    · obtain rfl : k = n := by omega
      have hb3 := HC.out.blk HB.out (by omega)
      have hz3 := HC.out.blk HZ.out (by omega)
      (obtain ⟨u0, u1, u2⟩ := box3_ hb3)
      (obtain ⟨z0, z1, z2⟩ := box3_ hz3)
      have y0 := blk_free (i := 0) hz3
      have y1 := blk_free (i := 1) hz3
      have y2 := blk_free (i := 2) hz3
      have l0 := (Array.getElem?_eq_some_iff.1 hb3).1
      have l1 := (Array.getElem?_eq_some_iff.1 hz3).1
      clear hb3 hz3
      go_wp2_with fail
      refine bodyPost_ret (v := .agg #[.int .i64 B, .int .i64 K, .slice (some ⟨g, 0, none⟩) k cap]) ?_ rfl ⟨own, g, cap, rfl, ?_, ?_⟩
      · simp [results, Tryz.results186, go_sem, z0, z1, z2, l1]
      · exact (((HC.out.fr HF2.out fun b hb => by rw [hb]; omega).setCell (by simp) _).setCell (by simp) _).setCell (by simp) _
      · have hM : SysM wr own w.heap.size g cap rows := ⟨⟨cs', rest, HG'.out, by rw [hlen.out]; exact HL'.out, by rw [HL'.out, ← HL.out]; exact HALL.out⟩, by rw [hlen.out]; exact ⟨hcap, hcm⟩, by omega, fun b i e => ⟨by have := (HOWN.out b i e).1; omega, (HOWN.out b i e).2.1, (HOWN.out b i e).2.2.2⟩, fun i x hx => HROW.out i x (by rw [← hlen.out]; exact (List.getElem?_eq_some_iff.1 hx).1) hx⟩
        refine hM.chg (S := fun b => b = w.heap.size + 1) (Chg.set (S := fun b => b = w.heap.size + 1) (p := ⟨w.heap.size + 1, 2, none⟩) (Chg.set (S := fun b => b = w.heap.size + 1) (p := ⟨w.heap.size + 1, 1, none⟩) (Chg.set (S := fun b => b = w.heap.size + 1) (p := ⟨w.heap.size + 1, 0, none⟩) (Chg.refl _ _) rfl _) rfl _) rfl _) (by omega) fun b i e => ?_
        have := (HOWN.out b i e).1
        omega
end Go.Proofs.YtmiaplgfbphfmaaGreatDoor
namespace Go.Proofs.YtmiaplgfbphfmaaGreatDoor
open Go.RowKit

theorem run_copyN {P : Program} (w : World) (dT sT ty elem : TypeId) (size g o dLen dCap : Nat) (a : Addr) (sLen sCap : Nat) (cur : List Value) (t : TypeId) (cs : List Value)
    (hu : P.underlying dT = some (.slice elem)) (hs : (P.info? elem).map (·.size) = some size)
    (hg : w.heap[g]? = some (.cells cur.toArray t (0, 0))) (hn : cs.length = Nat.min sLen dLen * size)
    (hsrc : ∀ j v, cs[j]? = some v → w.cell? (a.add j) = some v) (hfit : o + cs.length ≤ cur.length) (h1 : ∀ v ∈ cs, v.oneCell' = true) :
    (Builtin.copy_ #[dT, sT] ty #[.slice (some ⟨g, o, none⟩) dLen dCap, .slice (some a) sLen sCap]).run P w =
      .ok (goInt (Nat.min sLen dLen)) (w.setRow g (cur.take o ++ cs ++ cur.drop (o + cs.length)).toArray) := by
  have hl := run_loadCells_list (P := P) w a cs hsrc
  have hst := run_storeCells_at P g o t cs 0 cur.toArray w hg (by simpa using hfit) h1
  cases hq : P.info? elem with
  | none => simp [hq] at hs
  | some i =>
    have hi : i.size = size := by simpa [hq] using hs
    simp [Builtin.copy_, run_underlying hu, Builtin.lenOf, Builtin.firstCells, sizeOf, typeInfo, hq, hi, ← hn, hl, hst]
theorem wpList_copy_eq {P : Program} (w : World) {ops : Array Oper} {rest : List Oper} {o : Oper} {a : Act} {Q : Exit → Act → World → Prop} (hgd : o.guard = none) (d s : Operand) (t t' : TypeId)
    (ho : o.op = .call { callee := .builtin .copy, args := #[d, s], argTypes := #[t, t'] }) (v u : Value) (hd : a.eval d = v) (hs : a.eval s = u) {v' : Value} {w' : World}
    (hr : (Builtin.copy_ #[t, t'] o.type #[v, u]).run P w = .ok v' w') (h : wpList P ops Q rest (a.put o.dst v') w') : wpList P ops Q (o :: rest) a w :=
  wpList_plain hgd fun _ hK => by
    unfold Oper.wp execOp
    simp only [ho, resolve, invoke, builtin, Sem.run_bind, Sem.run_pure, Result.andThen_ok, List.map_toArray, List.map_cons, List.map_nil, hd, hs, hr]
    exact hK _ _ h
theorem step_copy_eq {P : Program} {ops : Array Oper} {o : Oper} {a : Act} {w : World} {K : Act → World → Prop} {Q : Exit → Act → World → Prop} {E : Prop}
    (hg : o.guard = none) (d x : Operand) (dT sT : TypeId) (hop : o.op = Op.call { callee := Callee.builtin Builtin.copy, args := #[d, x], argTypes := #[dT, sT] })
    (v u : Value) (hd : a.eval d = v) (hx : a.eval x = u) {v' : Value} {w' : World} (hr : (Builtin.copy_ #[dT, sT] o.type #[v, u]).run P w = .ok v' w') (hK : K (a.put o.dst v') w') :
    if Region.wanted o (yielded ops a.tmps) = true then Oper.wp P o a w K Q else E := by
  have hw : Region.wanted o (yielded ops a.tmps) = true := by simp [Region.wanted, hg]
  rw [if_pos hw]
  unfold Oper.wp
  simp [execOp, hop, resolve, invoke, builtin, hd, hx, hr, Result.andThen]
  exact hK

/-- The cells of a list with one put in. -/
theorem ins_get {α : Type} {size k i j : Nat} {xs : List α} {y z : α} {cs vs : List Value} {u : Value} (hl : cs.length = xs.length * size) (hv : vs.length = size) (hk : k ≤ xs.length) (hj : j < size)
    (h : (xs.take k ++ y :: xs.drop k)[i]? = some z) (hu : (if i = k then vs[j]? else cs[(if i < k then i else i - 1) * size + j]?) = some u) : (cs.take (k * size) ++ vs ++ cs.drop (k * size))[i * size + j]? = some u := by
  have hkl : k * size ≤ cs.length := by rw [hl]; exact Nat.mul_le_mul_right _ hk
  have htl : (cs.take (k * size)).length = k * size := by rw [List.length_take]; omega
  rcases Nat.lt_trichotomy i k with h1 | h1 | h1
  · rw [if_neg (by omega), if_pos h1] at hu
    have : (i + 1) * size ≤ k * size := Nat.mul_le_mul_right _ h1
    rw [Nat.add_mul, Nat.one_mul] at this
    rw [List.append_assoc, List.getElem?_append_left (by omega), List.getElem?_take, if_pos (by omega)]
    exact hu
  · subst h1
    rw [if_pos rfl] at hu
    rw [List.append_assoc, List.getElem?_append_right (by omega), htl, show i * size + j - i * size = j by omega, List.getElem?_append_left (by omega)]
    exact hu
  · rw [if_neg (by omega), if_neg (by omega)] at hu
    obtain ⟨m, rfl⟩ : ∃ m, i = m + 1 := ⟨i - 1, by omega⟩
    rw [Nat.add_sub_cancel] at hu
    have : k * size ≤ m * size := Nat.mul_le_mul_right _ (by omega)
    rw [Nat.add_mul, Nat.one_mul, List.getElem?_append_right (by rw [List.length_append]; omega), List.length_append, htl, hv, List.getElem?_drop, show k * size + (m * size + size + j - (k * size + size)) = m * size + j by omega]
    exact hu
theorem ins_list {α : Type} {k i : Nat} {xs : List α} {y z : α} (hk : k ≤ xs.length) (h : (xs.take k ++ y :: xs.drop k)[i]? = some z) : (i = k ∧ y = z) ∨ (i ≠ k ∧ xs[if i < k then i else i - 1]? = some z) := by
  have htl : (xs.take k).length = k := by rw [List.length_take]; omega
  rcases Nat.lt_trichotomy i k with h1 | h1 | h1
  · rw [List.getElem?_append_left (by omega), List.getElem?_take, if_pos h1] at h
    exact .inr ⟨by omega, by rw [if_pos h1]; exact h⟩
  · subst h1
    rw [List.getElem?_append_right (by omega), htl, Nat.sub_self] at h
    exact .inl ⟨rfl, by simpa using h⟩
  · obtain ⟨m, rfl⟩ : ∃ m, i = m + 1 := ⟨i - 1, by omega⟩
    rw [List.getElem?_append_right (by omega), htl, show m + 1 - k = (m - k) + 1 by omega, List.getElem?_cons_succ, List.getElem?_drop, show k + (m - k) = m by omega] at h
    exact .inr ⟨by omega, by rw [if_neg (by omega), Nat.add_sub_cancel]; exact h⟩
theorem shape_cells {w : World} {b : Nat} {cs : Array Value} {t : TypeId} {fr : Nat × Nat} (h : w.heap[b]? = some (.cells cs t fr)) : w.shape? b = some (t, cs.size) := by simp [World.shape?, h]
end Go.Proofs.YtmiaplgfbphfmaaGreatDoor
namespace Go.Proofs.YtmiaplgfbphfmaaGreatDoor
open Go.RowKit

theorem grown_setRow {w wr : World} {g : Nat} (h : w.grownBy wr (some g)) (cs : Array Value) : w.grownBy (wr.setRow g cs) (some g) :=
  ⟨h.os, h.tape, h.output, by rw [size_setRow]; exact h.size, fun k hk hne => by rw [setRow_other wr g k cs (fun e => hne (by rw [e]))]; exact h.block k hk hne⟩

end Go.Proofs.YtmiaplgfbphfmaaGreatDoor
namespace Go.Proofs.YtmiaplgfbphfmaaGreatDoor
open Go.RowKit

section
variable {N : Nat}
set_option maxRecDepth 100000 in
set_option maxHeartbeats 2000000 in
theorem insertRows_room (w : World) (g n cap k vb : Nat) (cs rest vs : List Value) (tv : TypeId) (hg : w.heap[g]? = some (.cells (cs ++ rest).toArray 242 (0, 0))) (hv : w.heap[vb]? = some (.cells vs.toArray tv (0, 0))) (hvb : vb ≠ g)
    (hl : cs.length = n * 2) (hvl : vs.length = 2) (hall : cs.length + rest.length = cap * 2) (hroom : n + 1 ≤ cap) (hcm : cap ≤ maxLen) (hk : k < n) (h1 : ∀ u ∈ cs, u.oneCell' = true) (h2 : ∀ u ∈ vs, u.oneCell' = true) :
    Calls Tryz.prog 192 #[.slice (some ⟨g, 0, none⟩) n cap, .int .i64 (k : Int), .slice (some ⟨vb, 0, none⟩) 1 1] w fun e w' => e = .returned (.slice (some ⟨g, 0, none⟩) (n + 1) cap) ∧ (∃ rest', ((cs.take (k * 2) ++ vs ++ cs.drop (k * 2)) ++ rest').length = cap * 2 ∧ w'.heap[g]? = some (.cells ((cs.take (k * 2) ++ vs ++ cs.drop (k * 2)) ++ rest').toArray 242 (0, 0))) ∧ w.grownBy w' (some g) := by
  unfold maxLen at hcm
  obtain ⟨i0, hi0, hi1⟩ := Option.map_eq_some_iff.1 infoRow
  simp only [Prod.mk.injEq] at hi1
  have hsz : (Tryz.prog.info? 242).map (·.size) = some 2 := by rw [hi0]; simp [hi1.2.1]
  have hkn : k * 2 + 2 ≤ n * 2 := by have := Nat.mul_le_mul_right 2 (show k + 1 ≤ n from hk); rw [Nat.add_mul] at this; omega
  have hnc : n * 2 + 2 ≤ cap * 2 := by have := Nat.mul_le_mul_right 2 hroom; rw [Nat.add_mul] at this; omega
  have hov : ∀ la ca lb cb, (callFunc 216 #[.slice (some ⟨vb, 0, none⟩) la ca, .slice (some ⟨g, (k + 1) * 2, none⟩) lb cb]).run Tryz.prog w = .ok (.value (.bool false)) w := fun la ca lb cb => by
    rw [run_callFunc_extern Tryz.func216 (by kernel_rfl) (by kernel_rfl) (by kernel_rfl) (e := Extern.SlicesOverlaps.overlaps #[231, 231] #[4]) (by kernel_rfl),
      Lib.run_overlaps_apart w 231 4 242 Tryz.underlying231 2 (fun w => by kernel_rfl) ⟨vb, 0, none⟩ ⟨g, (k + 1) * 2, none⟩ la ca lb cb hvb _ _ _ _ (shape_cells hv) (shape_cells hg) (by rw [List.size_toArray, List.length_append]; omega) (blk_free hv) (blk_free hv)]
    rfl
  obtain ⟨cur1, hcur1⟩ : ∃ cur1, cur1 = (cs ++ rest).take ((k + 1) * 2) ++ cs.drop (k * 2) ++ (cs ++ rest).drop ((k + 1) * 2 + (cs.drop (k * 2)).length) := ⟨_, rfl⟩
  have hdl : (cs.drop (k * 2)).length = (n - k) * 2 := by rw [List.length_drop, hl, ← Nat.sub_mul]
  have hdk : (k + 1) * 2 = k * 2 + 2 := by rw [Nat.add_mul, Nat.one_mul]
  have hcl1 : cur1.length = cap * 2 := by
    rw [hcur1]; simp only [List.length_append, List.length_take, List.length_drop]; omega
  obtain ⟨W1, hW1⟩ : ∃ W1, W1 = w.drew.setRow g cur1.toArray := ⟨_, rfl⟩
  have hcp1 : Hid (∀ ty dc sc, (Builtin.copy_ #[231, 231] ty #[.slice (some ⟨g, (k + 1) * 2, none⟩) (n + 1 - (k + 1)) dc, .slice (some ⟨g, k * 2, none⟩) (n + 1 - k) sc]).run Tryz.prog w.drew = .ok (goInt (Nat.min (n + 1 - k) (n + 1 - (k + 1)))) W1) := fun ty dc sc => by
    rw [hW1, hcur1]
    refine run_copyN w.drew _ _ ty 242 2 g ((k + 1) * 2) (n + 1 - (k + 1)) dc ⟨g, k * 2, none⟩ (n + 1 - k) sc (cs ++ rest) 242 (cs.drop (k * 2)) Tryz.underlying231 hsz hg ?_ (fun j v hj => ?_) (by rw [List.length_append]; omega) (fun u hu => h1 u (List.mem_of_mem_drop hu))
    · rw [hdl]; congr 1; simp only [Nat.min_def]; split <;> omega
    · rw [Addr.add_lit]
      rw [List.getElem?_drop] at hj
      exact cells_at (w := w.drew) hg hj
  have hg1 : W1.heap[g]? = some (.cells cur1.toArray 242 (0, 0)) := by rw [hW1]; exact setRow_heap w.drew g _ _ 242 _ hg
  have hv1 : W1.heap[vb]? = some (.cells vs.toArray tv (0, 0)) := by rw [hW1, setRow_other w.drew g vb _ hvb]; exact hv
  have hG1 : w.grownBy W1 (some g) := by rw [hW1]; exact grown_setRow (w := w) (wr := w.drew) ⟨rfl, rfl, rfl, Nat.le_refl _, fun _ _ _ => rfl⟩ _
  obtain ⟨W2, hW2⟩ : ∃ W2, W2 = W1.setRow g (cur1.take (k * 2) ++ vs ++ cur1.drop (k * 2 + vs.length)).toArray := ⟨_, rfl⟩
  have hcp2 : Hid (∀ ty dc, (Builtin.copy_ #[231, 231] ty #[.slice (some ⟨g, k * 2, none⟩) (n + 1 - k) dc, .slice (some ⟨vb, 0, none⟩) 1 1]).run Tryz.prog W1 = .ok (goInt (Nat.min 1 (n + 1 - k))) W2) := fun ty dc => by
    rw [hW2]
    refine run_copyN W1 _ _ ty 242 2 g (k * 2) (n + 1 - k) dc ⟨vb, 0, none⟩ 1 1 cur1 242 vs Tryz.underlying231 hsz hg1 ?_ (fun j v hj => ?_) (by rw [hcl1, hvl]; omega) h2
    · rw [hvl, show Nat.min 1 (n + 1 - k) = 1 by simp only [Nat.min_def]; split <;> omega, Nat.one_mul]
    · rw [zero_add_addr, cell_of_heap hv1, List.getElem?_toArray]; exact hj
  have R : Hid (∃ rest', ((cs.take (k * 2) ++ vs ++ cs.drop (k * 2)) ++ rest').length = cap * 2 ∧ W2.heap[g]? = some (.cells ((cs.take (k * 2) ++ vs ++ cs.drop (k * 2)) ++ rest').toArray 242 (0, 0))) := by
    have htl : (cs.take (k * 2)).length = k * 2 := by rw [List.length_take]; omega
    refine ⟨(cs ++ rest).drop ((k + 1) * 2 + (cs.drop (k * 2)).length), by simp only [List.length_append, List.length_take, List.length_drop]; omega, ?_⟩
    rw [hW2, setRow_heap W1 g _ _ 242 _ hg1]
    have e1 : cur1.take (k * 2) = cs.take (k * 2) := by
      rw [hcur1, List.append_assoc, List.take_append_of_le_length (by rw [List.length_take, List.length_append]; omega), List.take_take, Nat.min_eq_left (by omega), List.take_append_of_le_length (by omega)]
    have e2 : cur1.drop (k * 2 + vs.length) = cs.drop (k * 2) ++ (cs ++ rest).drop ((k + 1) * 2 + (cs.drop (k * 2)).length) := by
      rw [hcur1, hvl, ← hdk, List.append_assoc, List.drop_left' (by rw [List.length_take, List.length_append]; omega)]
    rw [e1, e2]
    simp only [List.append_assoc]
  have R2 : Hid (w.grownBy W2 (some g)) := by rw [hW2]; exact grown_setRow hG1 _
  have q1 : ¬ ((k : Int) = (n : Int)) := by omega
  have q2 : ((k : Int) == (n : Int)) = false := by simp; omega
  have q3 : ¬ ((n : Int) + 1 > (cap : Int)) := by omega
  have q4 : ¬ cap = k + 1 := by omega
  have q5 : ¬ cap = k := by omega
  have q6 : (k : Int) ≤ (n : Int) := by omega
  have q7 : n + 1 ≤ cap := hroom
  have q8 : (k : Int) + 1 ≤ (n : Int) + 1 := by omega
  have q9 : (0 : Int) ≤ (k : Int) + 1 := by omega
  have q10 : (k : Int) ≤ (n : Int) + 1 := by omega
  have HW1 := Lib.hid hW1
  clear hg hv hl hvl hall h1 h2 hi0 hi1 hsz hcur1 hdl hdk hcl1 hg1 hv1 hG1 hW1 hW2 hkn hnc hvb
  have HOV := Lib.hid hov
  clear hov
  have hov := HOV.out
  try simp only [Nat.mul_one] at hov
  have hcpA := hcp1.out
  have hcpB := hcp2.out
  try simp only [Nat.mul_one] at hcpA hcpB
  have HA := Lib.hid hcpA
  have HB := Lib.hid hcpB
  clear hcpA hcpB
  have qw : IntKind.i64.wrap ((k : Int) + 1) = (k : Int) + 1 := by rw [IntKind.wrap_i64]; omega
  have qt : ((k : Int) + 1).toNat = k + 1 := by omega
  go_enter Tryz.func192, Tryz.ntmps192
  go_wp2_with (simp only [hov])
  go_region_law (refine step_copy_eq rfl (.tmp 73) (.tmp 76) 231 231 rfl _ _ (by simp [Act.eval, Act.put]) (by simp [Act.eval, Act.put]) (HA.out _ (cap - (k + 1)) (cap - k)) ?_)
  go_wp2_with (refine wpList_copy_eq _ rfl (.tmp 80) (.tmp 81) 231 231 rfl _ _ rfl rfl (HB.out _ (cap - k)) ?_)
  go_ret
  exact ⟨rfl, R.out, R2.out⟩
set_option maxRecDepth 100000 in
set_option maxHeartbeats 2000000 in
theorem insertRows_grow (w : World) (g n cap k vb : Nat) (cs rest vs : List Value) (tv : TypeId) (hg : w.heap[g]? = some (.cells (cs ++ rest).toArray 242 (0, 0))) (hv : w.heap[vb]? = some (.cells vs.toArray tv (0, 0)))
    (hl : cs.length = n * 2) (hvl : vs.length = 2) (hnc : n ≤ cap) (hroom : cap < n + 1) (hlim : (n + 1) * 48 ≤ lim) (hk : k < n) (h1 : ∀ u ∈ cs, u.oneCell' = true) (h2 : ∀ u ∈ vs, u.oneCell' = true) :
    Calls Tryz.prog 192 #[.slice (some ⟨g, 0, none⟩) n cap, .int .i64 (k : Int), .slice (some ⟨vb, 0, none⟩) 1 1] w fun e w' => ∃ cap' rest', e = .returned (.slice (some ⟨w.heap.size, 0, none⟩) (n + 1) cap') ∧ (n + 1 ≤ cap' ∧ cap' ≤ maxLen) ∧ ((cs.take (k * 2) ++ vs ++ cs.drop (k * 2)) ++ rest').length = cap' * 2 ∧ w'.heap[w.heap.size]? = some (.cells ((cs.take (k * 2) ++ vs ++ cs.drop (k * 2)) ++ rest').toArray 242 (0, 0)) ∧ Fr w w' := by
  obtain ⟨i0, hi0, hi1⟩ := Option.map_eq_some_iff.1 infoRow
  simp only [Prod.mk.injEq] at hi1
  obtain ⟨hz0, hz1, hz2⟩ := hi1
  have hlim2 := hlim
  unfold lim at hlim2
  have hsz : (Tryz.prog.info? 242).map (·.size) = some 2 := by rw [hi0]; simp [hz1]
  have hgl : g < w.heap.size := (Array.getElem?_eq_some_iff.1 hg).1
  have hvl2 : vb < w.heap.size := (Array.getElem?_eq_some_iff.1 hv).1
  have hkn : k * 2 + 2 ≤ n * 2 := by have := Nat.mul_le_mul_right 2 (show k + 1 ≤ n from hk); rw [Nat.add_mul] at this; omega
  have hcap : n = cap := by omega
  obtain ⟨G, hG⟩ : ∃ G, G = grownCap w (k + (n + 1 - k)) cap 242 := ⟨_, rfl⟩
  have hge := grownCap_ge w (k + (n + 1 - k)) cap 242
  have hle := grownCap_le_maxLen w (k + (n + 1 - k)) cap 242 (by unfold maxLen; omega)
  rw [← hG] at hge hle
  unfold maxLen at hle
  obtain ⟨olds, hol⟩ : ∃ olds, olds = cs.take (k * 2) := ⟨_, rfl⟩
  have holl : olds.length = k * 2 := by rw [hol, List.length_take]; omega
  obtain ⟨cur, hcur⟩ : ∃ cur : List Value, cur = (olds.toArray ++ Builtin.zeroCells (.agg #[.slice none 0 0, .slice none 0 0] : Value).cells (n + 1 - k) ++ Builtin.zeroCells (.agg #[.slice none 0 0, .slice none 0 0] : Value).cells (G - (k + (n + 1 - k)))).toList := ⟨_, rfl⟩
  have hcl : cur.length = G * 2 := by
    rw [hcur, Array.length_toList, Array.size_append, Array.size_append, size_zeroCells, size_zeroCells, List.size_toArray, holl]
    show k * 2 + (n + 1 - k) * 2 + (G - (k + (n + 1 - k))) * 2 = G * 2
    rw [← Nat.add_mul, ← Nat.add_mul]; congr 1; omega
  have hct : cur.take (k * 2) = olds := by
    rw [hcur, Array.toList_append, Array.toList_append, List.append_assoc]
    exact List.take_left' holl
  have hfirst : (Builtin.firstCells i0.size k (.slice (some ⟨g, 0, none⟩) k cap)).run Tryz.prog w.drew = .ok olds.toArray w.drew := by
    have := run_loadCells_list (P := Tryz.prog) w.drew ⟨g, 0, none⟩ olds fun j v hj => by
      rw [zero_add_addr]
      refine cells_at (w := w.drew) hg ?_
      rw [hol, List.getElem?_take] at hj
      split at hj
      · exact hj
      · cases hj
    unfold Builtin.firstCells
    rw [hz1, ← holl]
    exact this
  obtain ⟨W1, hW1⟩ : ∃ W1, W1 = w.drew.alloc (.cells cur.toArray 242) := ⟨_, rfl⟩
  have hn1 : k + (n + 1 - k) = n + 1 := by omega
  have hrz : Hid (∀ ty, (Builtin.append_ #[231, 3] ty #[.slice (some ⟨g, 0, none⟩) k cap, .int .i64 ((n : Int) + 1 - (k : Int))]).run Tryz.prog w = .ok (.slice (some ⟨w.heap.size, 0, none⟩) (n + 1) G) W1) := fun ty => by
    have h := Lib.run_append_grow_zeros (P := Tryz.prog) w 231 3 ty 242 i0 (.agg #[.slice none 0 0, .slice none 0 0]) .i64 .i64 Tryz.underlying231 Tryz.underlying3 hi0 hz0 (some ⟨g, 0, none⟩) k cap olds hfirst (n + 1 - k) (by omega) (by rw [hz1]; decide) (by omega) (by omega)
      (by rw [hz2]; exact Nat.le_trans (Nat.mul_le_mul_right _ (by omega : n + 1 - k ≤ n + 1)) (by unfold lim at hlim; omega)) (by rw [hz2, hn1]; exact growslice_fits (by omega) (by unfold lim at hlim; exact hlim))
    have ec : ((n + 1 - k : Nat) : Int) = (n : Int) + 1 - (k : Int) := by omega
    rw [ec] at h
    rw [h, hW1, hcur, hG, hn1, Array.toArray_toList]
  have hg1 : W1.heap[w.heap.size]? = some (.cells cur.toArray 242 (0, 0)) := by rw [hW1]; exact heap_alloc_new w.drew _
  have hv1 : W1.heap[vb]? = some (.cells vs.toArray tv (0, 0)) := by rw [hW1]; exact heap_old (w := w.drew) hv
  have hgo1 : W1.heap[g]? = some (.cells (cs ++ rest).toArray 242 (0, 0)) := by rw [hW1]; exact heap_old (w := w.drew) hg
  have hF1 : Fr w W1 := by rw [hW1]; exact (Below.refl _ _).drew.alloc (Nat.le_refl _) _
  obtain ⟨cur1, hcur1⟩ : ∃ cur1, cur1 = cur.take (k * 2) ++ vs ++ cur.drop (k * 2 + vs.length) := ⟨_, rfl⟩
  have hcG : k * 2 + 2 + (n - k) * 2 ≤ G * 2 := by
    have : k * 2 + 2 + (n - k) * 2 = (n + 1) * 2 := by
      rw [Nat.sub_mul, Nat.add_mul]; omega
    rw [this]; exact Nat.mul_le_mul_right _ (by omega)
  have hcl1 : cur1.length = G * 2 := by rw [hcur1]; simp only [List.length_append, List.length_take, List.length_drop]; omega
  obtain ⟨W2, hW2⟩ : ∃ W2, W2 = W1.setRow w.heap.size cur1.toArray := ⟨_, rfl⟩
  have hcp1 : Hid (∀ ty dc, (Builtin.copy_ #[231, 231] ty #[.slice (some ⟨w.heap.size, k * 2, none⟩) (n + 1 - k) dc, .slice (some ⟨vb, 0, none⟩) 1 1]).run Tryz.prog W1 = .ok (goInt (Nat.min 1 (n + 1 - k))) W2) := fun ty dc => by
    rw [hW2, hcur1]
    refine run_copyN W1 _ _ ty 242 2 w.heap.size (k * 2) (n + 1 - k) dc ⟨vb, 0, none⟩ 1 1 cur 242 vs Tryz.underlying231 hsz hg1 ?_ (fun j v hj => ?_) (by rw [hcl, hvl]; omega) h2
    · rw [hvl, show Nat.min 1 (n + 1 - k) = 1 by simp only [Nat.min_def]; split <;> omega, Nat.one_mul]
    · rw [zero_add_addr, cell_of_heap hv1, List.getElem?_toArray]; exact hj
  have hg2 : W2.heap[w.heap.size]? = some (.cells cur1.toArray 242 (0, 0)) := by rw [hW2]; exact setRow_heap W1 _ _ _ 242 _ hg1
  have hgo2 : W2.heap[g]? = some (.cells (cs ++ rest).toArray 242 (0, 0)) := by rw [hW2, setRow_other W1 _ _ _ (by omega)]; exact hgo1
  obtain ⟨W3, hW3⟩ : ∃ W3, W3 = W2.drew.setRow w.heap.size (cur1.take ((k + 1) * 2) ++ cs.drop (k * 2) ++ cur1.drop ((k + 1) * 2 + (cs.drop (k * 2)).length)).toArray := ⟨_, rfl⟩
  have hdl : (cs.drop (k * 2)).length = (n - k) * 2 := by rw [List.length_drop, hl, ← Nat.sub_mul]
  have hdk : (k + 1) * 2 = k * 2 + 2 := by rw [Nat.add_mul, Nat.one_mul]
  have hcp2 : Hid (∀ ty dc sc, (Builtin.copy_ #[231, 231] ty #[.slice (some ⟨w.heap.size, (k + 1) * 2, none⟩) (n + 1 - (k + 1)) dc, .slice (some ⟨g, k * 2, none⟩) (n - k) sc]).run Tryz.prog W2.drew = .ok (goInt (Nat.min (n - k) (n + 1 - (k + 1)))) W3) := fun ty dc sc => by
    rw [hW3]
    refine run_copyN W2.drew _ _ ty 242 2 w.heap.size ((k + 1) * 2) (n + 1 - (k + 1)) dc ⟨g, k * 2, none⟩ (n - k) sc cur1 242 (cs.drop (k * 2)) Tryz.underlying231 hsz hg2 ?_ (fun j v hj => ?_) (by rw [hcl1, hdl]; omega) (fun u hu => h1 u (List.mem_of_mem_drop hu))
    · rw [hdl]; congr 1; simp only [Nat.min_def]; split <;> omega
    · rw [Addr.add_lit]
      rw [List.getElem?_drop] at hj
      exact cells_at (w := W2.drew) hgo2 hj
  have R : Hid (∃ rest', ((cs.take (k * 2) ++ vs ++ cs.drop (k * 2)) ++ rest').length = G * 2 ∧ W3.heap[w.heap.size]? = some (.cells ((cs.take (k * 2) ++ vs ++ cs.drop (k * 2)) ++ rest').toArray 242 (0, 0))) := by
    refine ⟨cur1.drop ((k + 1) * 2 + (cs.drop (k * 2)).length), by simp only [List.length_append, List.length_take, List.length_drop]; omega, ?_⟩
    rw [hW3, setRow_heap W2.drew w.heap.size _ _ 242 _ hg2]
    have e1 : cur1.take ((k + 1) * 2) = cs.take (k * 2) ++ vs := by
      rw [hcur1, hct, hol]
      exact List.take_left' (by rw [List.length_append, List.length_take, hvl]; omega)
    rw [e1]
  have R2 : Hid (Fr w W3) := by
    rw [hW3, hW2]
    exact below_setRow (below_setRow hF1 (Nat.le_refl _) _).drew (Nat.le_refl _) _
  have RG : Hid (n + 1 ≤ G ∧ G ≤ maxLen) := ⟨by omega, by unfold maxLen; omega⟩
  have q1 : ¬ ((k : Int) = (n : Int)) := by omega
  have q2 : ((k : Int) == (n : Int)) = false := by simp; omega
  have q3 : (n : Int) + 1 > (cap : Int) := by omega
  have q4 : ¬ G = k + 1 := by omega
  have q5 : ¬ G = k := by omega
  have q55 : ¬ cap = k := by omega
  have q6 : (k : Int) ≤ (n : Int) := by omega
  have q8 : (k : Int) + 1 ≤ (n : Int) + 1 := by omega
  have q9 : (0 : Int) ≤ (k : Int) + 1 := by omega
  have q10 : (k : Int) ≤ (n : Int) + 1 := by omega
  have q11 : k ≤ cap := by omega
  have q12 : (k : Int) ≤ (cap : Int) := by omega
  have hnz : n ≤ 140737488355328 := by omega
  clear hg hv hl hvl h1 h2 hi0 hz0 hz1 hz2 hsz hcur hcur1 hdl hdk hcl hcl1 hg1 hg2 hgo1 hgo2 hv1 hW1 hW2 hW3 hkn hcG hct hfirst hF1 hG hol holl hcap hlim hlim2 hn1 hge
  have hcpA := hcp1.out
  have hcpB := hcp2.out
  try simp only [Nat.mul_one] at hcpA hcpB
  have HA := Lib.hid hcpA
  have HB := Lib.hid hcpB
  clear hcpA hcpB
  have qw : IntKind.i64.wrap ((k : Int) + 1) = (k : Int) + 1 := by rw [IntKind.wrap_i64]; omega
  have qt : ((k : Int) + 1).toNat = k + 1 := by omega
  go_enter Tryz.func192, Tryz.ntmps192
  go_wp2_with (first | (refine wpList_copy_eq _ rfl (.tmp 43) (.tmp 44) 231 231 rfl _ _ rfl rfl (HA.out _ (G - k)) ?_) | (at_builtin; refine Lib.wpList_append_run _ rfl _ _ _ _ rfl _ _ rfl rfl _ _ (hrz.out _) ?_))
  go_region_law (refine step_copy_eq rfl (.tmp 50) (.tmp 53) 231 231 rfl _ _ (by simp [Act.eval, Act.put]) (by simp [Act.eval, Act.put]) (HB.out _ (G - (k + 1)) (cap - k)) ?_)
  go_wp2
  go_ret
  obtain ⟨rest', r1, r2⟩ := R.out
  exact ⟨G, rest', rfl, RG.out, r1, r2, R2.out⟩
set_option maxHeartbeats 1000000 in
theorem insertRows_end (w : World) (base vb : Nat) (A : Option Addr) (n c : Nat) (xs : List (Rw)) (x : Rw) (vs : List Value) (tv : TypeId) (ho : Own 2 (eHi N eRw) w base 242 (.slice A n c) xs) (hn : n = xs.length) (hv : w.heap[vb]? = some (.cells vs.toArray tv (0, 0)))
    (hvl : vs.length = 2) (h2 : ∀ u ∈ vs, u.oneCell' = true) (hx : (eHi N eRw) w (fun b => b < w.heap.size ∧ (Value.slice A n c).ownBlock ≠ some b) (fun j => vs[j]?) x) (hlim : (xs.length + 1) * 48 ≤ lim) (hb : base ≤ w.heap.size) (hnc : n ≤ c) (hcm : c ≤ maxLen) :
    Calls Tryz.prog 192 #[.slice A n c, .int .i64 (n : Int), .slice (some ⟨vb, 0, none⟩) 1 1] w fun e w' => ∃ v', e = .returned v' ∧ Own 2 (eHi N eRw) w' base 242 v' (xs ++ [x]) ∧ w.grownBy w' (Value.slice A n c).ownBlock := by
  have q1 : ((n : Int) == (n : Int)) = true := by simp
  have hcm2 := hcm
  unfold maxLen at hcm2
  have hlim2 := hlim
  unfold lim at hlim2
  have hml : xs.length + 1 ≤ maxLen := by unfold maxLen; omega
  have hys : Hid (∀ (i : Nat) (y : Rw), [x][i]? = some y → (eHi N eRw) w (fun b => b < w.heap.size ∧ (Value.slice A n c).ownBlock ≠ some b) (fun j => vs[i * 2 + j]?) y) := fun i y hy => by
    cases i with
    | zero => obtain rfl : x = y := by simpa using hy
              simpa using hx
    | succ i => simp at hy
  have hcell : Hid (∀ j u, vs[j]? = some u → w.cell? ((⟨vb, 0, none⟩ : Addr).add j) = some u) := fun j u hu => by rw [zero_add_addr, cell_of_heap hv, List.getElem?_toArray]; exact hu
  have hvl2 : Hid (vs.length = 1 * 2) := by rw [Hid, hvl]
  clear hx hv hvl hlim2
  (have H2 := Lib.hid h2; clear h2; have Ho := Lib.hid ho; clear ho; have Hn := Lib.hid hn; clear hn; have Hlim := Lib.hid hlim; clear hlim)
  by_cases hcn : c = n
  · subst hcn
    go_enter Tryz.func192, Tryz.ntmps192
    go_wp2_with (at_builtin; refine wpList_apps _ rfl _ _ 231 rfl base 242 _ _ _ Tryz.underlying231 infoRow rfl (by decide) (sRw.hi N) _ xs rfl Ho.out ⟨vb, 0, none⟩ 1 1 vs rfl hvl2.out hcell.out H2.out [x] rfl hys.out hml Hlim.out hb ?_)
    intro v' w1 hown hg hge
    have HO := Lib.hid hown
    have HG := Lib.hid hg
    clear hown hg hge
    go_wp2
    go_ret
    exact ⟨v', rfl, HO.out, HG.out⟩
  · go_enter Tryz.func192, Tryz.ntmps192
    go_wp2_with (at_builtin; refine wpList_apps _ rfl _ _ 231 rfl base 242 _ _ _ Tryz.underlying231 infoRow rfl (by decide) (sRw.hi N) _ xs rfl Ho.out ⟨vb, 0, none⟩ 1 1 vs rfl hvl2.out hcell.out H2.out [x] rfl hys.out hml Hlim.out hb ?_)
    intro v' w1 hown hg hge
    have HO := Lib.hid hown
    have HG := Lib.hid hg
    clear hown hg hge
    go_wp2
    go_ret
    exact ⟨v', rfl, HO.out, HG.out⟩

theorem insertRows_own (w : World) (base k vb : Nat) (v : Value) (xs : List (Rw)) (x : Rw) (vs : List Value) (tv : TypeId) (ho : Own 2 (eHi N eRw) w base 242 v xs) (hk : k ≤ xs.length) (hv : w.heap[vb]? = some (.cells vs.toArray tv (0, 0))) (hvb : v.ownBlock ≠ some vb)
    (hvl : vs.length = 2) (h2 : ∀ u ∈ vs, u.oneCell' = true) (hx : (eHi N eRw) w (fun b => b < w.heap.size ∧ v.ownBlock ≠ some b) (fun j => vs[j]?) x) (hlim : (xs.length + 1) * 48 ≤ lim) (hb : base ≤ w.heap.size) :
    Calls Tryz.prog 192 #[v, .int .i64 (k : Int), .slice (some ⟨vb, 0, none⟩) 1 1] w fun e w' => ∃ v', e = .returned v' ∧ Own 2 (eHi N eRw) w' base 242 v' (xs.take k ++ x :: xs.drop k) ∧ w.grownBy w' v.ownBlock := by
  by_cases hkn : k = xs.length
  · obtain ⟨A, c, rfl, ⟨hc1, hc2⟩, _⟩ := ho.slC (sRw.hi N) (by decide)
    rw [hkn]
    refine (insertRows_end w base vb A xs.length c xs x vs tv ho rfl hv hvl h2 hx hlim hb hc1 hc2).mono fun e w' ⟨v', h1, h2, h3⟩ => ⟨v', h1, ?_, h3⟩
    rw [List.take_length, List.drop_length]; exact h2
  · have hlt : k < xs.length := by omega
    obtain ⟨g, cap, cs, rest, rfl, hbg, hg, hnc, hcm, hl, hall, h1, hr⟩ := own_row (fRw.hi N) (by decide) ho (by omega)
    have hne : vb ≠ g := fun e => hvb (by rw [e]; rfl)
    have hins : (xs.take k ++ x :: xs.drop k).length = xs.length + 1 := by simp only [List.length_append, List.length_take, List.length_cons, List.length_drop]; omega
    have hcl : (cs.take (k * 2) ++ vs ++ cs.drop (k * 2)).length = (xs.take k ++ x :: xs.drop k).length * 2 := by
      have : k * 2 ≤ xs.length * 2 := Nat.mul_le_mul_right _ (by omega)
      rw [hins, Nat.add_mul, Nat.one_mul]
      simp only [List.length_append, List.length_take, List.length_drop]; omega
    have hrd : ∀ (S : Nat → Prop) (W : World) , (∀ b, b < w.heap.size ∧ b ≠ g → S b) → (∀ p : Addr, p.block < w.heap.size → p.block ≠ g → W.cell? p = w.cell? p) → ∀ i y, (xs.take k ++ x :: xs.drop k)[i]? = some y → (eHi N eRw) W S (fun j => (cs.take (k * 2) ++ vs ++ cs.drop (k * 2))[i * 2 + j]?) y := by
      intro S W hS hW i y hy
      rcases ins_list hk hy with ⟨e1, e2⟩ | ⟨e1, e2⟩
      · subst e1 e2
        refine ((sRw.hi N)).mono (fun j u hj hu => ins_get hl hvl hk hj hy (by rw [if_pos rfl]; exact hu)) (((sRw.hi N)).more (S := fun b => b < w.heap.size ∧ (Value.slice (some ⟨g, 0, none⟩) xs.length cap).ownBlock ≠ some b) (fun b hb => hS b ⟨hb.1, fun e => hb.2 (by rw [e]; rfl)⟩) (((sRw.hi N)).keep (fun p hp => hW p hp.1 fun e => hp.2 (by rw [e]; rfl)) hx))
      · refine ((sRw.hi N)).mono (fun j u hj hu => ins_get hl hvl hk hj hy (by rw [if_neg e1]; exact hu)) (((sRw.hi N)).more hS (((sRw.hi N)).keep (fun p hp => hW p hp.1 hp.2) (hr _ y e2)))
    by_cases hroom : xs.length + 1 ≤ cap
    · refine (insertRows_room w g xs.length cap k vb cs rest vs tv hg hv hne hl hvl hall hroom hcm hlt h1 h2).mono ?_
      rintro e w' ⟨rfl, ⟨rest', hrl, hg'⟩, hG⟩
      refine ⟨_, rfl, ?_, hG⟩
      rw [← hins]
      exact row_own (w := w) (sRw.hi N) hbg hg' hG (by rw [hins]; exact hroom) hcm hcl (by rw [← List.length_append]; exact hrl) fun i y hy => hrd _ w (fun b hb => hb) (fun _ _ _ => rfl) i y hy
    · refine (insertRows_grow w g xs.length cap k vb cs rest vs tv hg hv hl hvl hnc (by omega) hlim hlt h1 h2).mono ?_
      rintro e w' ⟨cap', rest', rfl, hcap', hrl, hg', hF⟩
      refine ⟨_, rfl, ?_, ⟨hF.os, hF.tape, hF.output, hF.size, fun b hb _ => hF.block b hb⟩⟩
      rw [← hins]
      exact row_own (w := w') (sRw.hi N) hb hg' ⟨rfl, rfl, rfl, Nat.le_refl _, fun _ _ _ => rfl⟩ (by rw [hins]; exact hcap'.1) hcap'.2 hcl (by rw [← List.length_append]; exact hrl) fun i y hy => hrd _ w' (fun b hb => ⟨Nat.lt_of_lt_of_le hb.1 hF.size, by omega⟩) (fun p hp _ => hF.cell hp) i y hy
end
end Go.Proofs.YtmiaplgfbphfmaaGreatDoor
