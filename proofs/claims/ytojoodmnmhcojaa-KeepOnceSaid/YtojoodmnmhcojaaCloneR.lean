/- Bools and rows cloned; rows in memory of the call's own. No condition. -/
import Derived.Test.YtojoodmnmhcojaaAdd
import Derived.Test.YtojoodmnmhcojaaClone
import Derived.Test.YtojoodmnmhcojaaAddP
import Derived.Test.YtojoodmnmhcojaaOwnR
set_option linter.unusedSimpArgs false
set_option linter.unusedVariables false
namespace Go.Proofs.Ytojoodmnmhcojaa
open Go.RowKit
attribute [local irreducible] wpList

theorem infoRow : (Try.prog.info? 106).map (fun i => (i.zero, i.size, i.bytes)) = some (some (.agg #[.slice none 0 0, .slice none 0 0]), 2, 48) := by kernel_rfl
set_option maxHeartbeats 400000 in
theorem cloneBools_any (w : World) (A : Option Addr) (n c : Nat) (l : List Bool) (h : Sl 1 eBool w (LT w.heap.size) A n l) (hm : n * 1 ≤ lim) :
    Calls Try.prog 68 #[.slice A n c] w fun e w' => ∃ v, e = .returned v ∧ Own 1 eBool w' w.heap.size 4 v l ∧ Fr w w' := by
  have hm2 := hm
  unfold lim at hm2
  cases A with
  | none =>
    have hn : n = 0 := by
      rcases Nat.eq_zero_or_pos n with h0 | h0
      · exact h0
      · obtain ⟨ad, e, _⟩ := h.2 h0; cases e
    have hl : l = [] := List.eq_nil_of_length_eq_zero (by rw [h.1]; exact hn)
    subst hl
    subst hn
    have hnil := fun (W : World) => Lib.run_eql_slice_nil (P := Try.prog) W 100 _ Option.none 0 c 0 0 Try.underlying100
    clear h
    go_enter Try.func68, Try.ntmps68
    go_wp2_with fail
    go_ret
    exact ⟨_, rfl, Own.nil, Below.refl _ _⟩
  | some ad =>
    have hnil := fun (W : World) => Lib.run_eql_slice_nil (P := Try.prog) W 100 _ (some ad) n c 0 0 Try.underlying100
    simp only [Option.isNone_some] at hnil
    obtain ⟨cs, hcl, hcc, hc1, hcr⟩ : ∃ cs : List Value, cs.length = n * 1 ∧ (∀ j u, cs[j]? = some u → w.cell? (ad.add j) = some u ∧ ad.block < w.heap.size) ∧ (∀ u ∈ cs, u.oneCell' = true) ∧ ∀ i x, l[i]? = some x → eBool w (LT w.heap.size) (fun j => cs[i * 1 + j]?) x := by
      rcases Nat.eq_zero_or_pos n with h0 | h0
      · have hl : l = [] := List.eq_nil_of_length_eq_zero (by rw [h.1]; exact h0)
        exact ⟨[], by simp [h0], fun j u hu => by simp at hu, fun u hu => by simp at hu, fun i x hx => by simp [hl] at hx⟩
      · obtain ⟨ad', e, hE⟩ := h.els h0
        injection e with e
        subst e
        obtain ⟨cs, k1, k2, k3, k4⟩ := hE.cells fBool sBool (by decide)
        exact ⟨cs, k1, fun j u hu => ⟨k2 j u hu, hE.2.1⟩, k3, k4⟩
    have hll := h.1
    (have H := Lib.hid h; clear h; have Hcl := Lib.hid hcl; clear hcl; have Hcc := Lib.hid hcc; clear hcc; have Hc1 := Lib.hid hc1; clear hc1; have Hcr := Lib.hid hcr; clear hcr; have Hll := Lib.hid hll; clear hll)
    go_enter Try.func68, Try.ntmps68
    go_wp2_with (at_builtin; refine wpList_apps _ rfl _ _ 100 rfl w.heap.size 4 _ _ _ Try.underlying100 infoBool rfl (by decide) sBool _ ([] : List Bool) rfl (Own.empty (Nat.le_refl _)) ad n c cs rfl Hcl.out ?c1 Hc1.out l Hll.out ?c3 ?c4 ?c5 ?c6 ?_)
    case c1 => intro j u hu; obtain ⟨k1, k2⟩ := Hcc.out j u hu; exact ((frAlloc w _).cell (by rw [block_of_add]; exact k2)).trans k1
    case c3 =>
      intro i x hx
      refine (sBool).more (S := LT w.heap.size) (fun b hb => ?_) ((sBool).keep (fun p hp => (frAlloc w _).cell hp) (Hcr.out i x hx))
      have hb' : b < w.heap.size := hb
      refine ⟨by simp; omega, ?_⟩
      intro e
      have e2 : some w.heap.size = some b := e
      have : w.heap.size = b := by injection e2
      omega
    case c4 => unfold maxLen; simp; omega
    case c5 => unfold lim; simp; omega
    case c6 => simp
    · intro v' w1 hown hg hge
      have HO : Hid (Own 1 eBool w1 w.heap.size 4 v' l) := hown
      have HF : Hid (Fr w w1) := (frAlloc w _).grown hg (by simp) hge
      clear hown hg hge
      go_wp2_with fail
      go_ret
      exact ⟨v', rfl, HO.out, HF.out⟩
section
variable (N : Nat)
set_option maxHeartbeats 400000 in
theorem cloneRows_any (w : World) (A : Option Addr) (n c : Nat) (l : List Rw) (h : Sl 2 (eLow N eRw) w (LT w.heap.size) A n l) (hm : n * 48 ≤ lim) :
    Calls Try.prog 78 #[.slice A n c] w fun e w' => ∃ v, e = .returned v ∧ Own 2 (eLow N eRw) w' w.heap.size 106 v l ∧ Fr w w' := by
  have hm2 := hm
  unfold lim at hm2
  cases A with
  | none =>
    have hn : n = 0 := by
      rcases Nat.eq_zero_or_pos n with h0 | h0
      · exact h0
      · obtain ⟨ad, e, _⟩ := h.2 h0; cases e
    have hl : l = [] := List.eq_nil_of_length_eq_zero (by rw [h.1]; exact hn)
    subst hl
    subst hn
    have hnil := fun (W : World) => Lib.run_eql_slice_nil (P := Try.prog) W 95 _ Option.none 0 c 0 0 Try.underlying95
    clear h
    go_enter Try.func78, Try.ntmps78
    go_wp2_with fail
    go_ret
    exact ⟨_, rfl, Own.nil, Below.refl _ _⟩
  | some ad =>
    have hnil := fun (W : World) => Lib.run_eql_slice_nil (P := Try.prog) W 95 _ (some ad) n c 0 0 Try.underlying95
    simp only [Option.isNone_some] at hnil
    obtain ⟨cs, hcl, hcc, hc1, hcr⟩ : ∃ cs : List Value, cs.length = n * 2 ∧ (∀ j u, cs[j]? = some u → w.cell? (ad.add j) = some u ∧ ad.block < w.heap.size) ∧ (∀ u ∈ cs, u.oneCell' = true) ∧ ∀ i x, l[i]? = some x → (eLow N eRw) w (LT w.heap.size) (fun j => cs[i * 2 + j]?) x := by
      rcases Nat.eq_zero_or_pos n with h0 | h0
      · have hl : l = [] := List.eq_nil_of_length_eq_zero (by rw [h.1]; exact h0)
        exact ⟨[], by simp [h0], fun j u hu => by simp at hu, fun u hu => by simp at hu, fun i x hx => by simp [hl] at hx⟩
      · obtain ⟨ad', e, hE⟩ := h.els h0
        injection e with e
        subst e
        obtain ⟨cs, k1, k2, k3, k4⟩ := hE.cells (fRw.low N) (sRw.low N) (by decide)
        exact ⟨cs, k1, fun j u hu => ⟨k2 j u hu, hE.2.1⟩, k3, k4⟩
    have hll := h.1
    (have H := Lib.hid h; clear h; have Hcl := Lib.hid hcl; clear hcl; have Hcc := Lib.hid hcc; clear hcc; have Hc1 := Lib.hid hc1; clear hc1; have Hcr := Lib.hid hcr; clear hcr; have Hll := Lib.hid hll; clear hll)
    go_enter Try.func78, Try.ntmps78
    go_wp2_with (at_builtin; refine wpList_apps _ rfl _ _ 95 rfl w.heap.size 106 _ _ _ Try.underlying95 infoRow rfl (by decide) (sRw.low N) _ ([] : List Rw) rfl (Own.empty (Nat.le_refl _)) ad n c cs rfl Hcl.out ?c1 Hc1.out l Hll.out ?c3 ?c4 ?c5 ?c6 ?_)
    case c1 => intro j u hu; obtain ⟨k1, k2⟩ := Hcc.out j u hu; exact ((frAlloc w _).cell (by rw [block_of_add]; exact k2)).trans k1
    case c3 =>
      intro i x hx
      refine ((sRw.low N)).more (S := LT w.heap.size) (fun b hb => ?_) (((sRw.low N)).keep (fun p hp => (frAlloc w _).cell hp) (Hcr.out i x hx))
      have hb' : b < w.heap.size := hb
      refine ⟨by simp; omega, ?_⟩
      intro e
      have e2 : some w.heap.size = some b := e
      have : w.heap.size = b := by injection e2
      omega
    case c4 => unfold maxLen; simp; omega
    case c5 => unfold lim; simp; omega
    case c6 => simp
    · intro v' w1 hown hg hge
      have HO : Hid (Own 2 (eLow N eRw) w1 w.heap.size 106 v' l) := hown
      have HF : Hid (Fr w w1) := (frAlloc w _).grown hg (by simp) hge
      clear hown hg hge
      go_wp2_with fail
      go_ret
      exact ⟨v', rfl, HO.out, HF.out⟩
end
theorem own_blk {α : Type} {en : α → Value} {r : ERd α} (hr0 : ∀ {w S f x}, r w S f x → f 0 = some (en x)) {w : World} {base : Nat} {e : TypeId} {v : Value} {l : List α} (h : Own 1 r w base e v l) (hn : 0 < l.length) :
    ∃ g cap, v = .slice (some ⟨g, 0, none⟩) l.length cap ∧ base ≤ g ∧ Blk en w e g l ∧ l.length ≤ cap ∧ cap ≤ maxLen := by
  obtain ⟨cs, ho, hr⟩ := h
  have hlen := ho.1
  rcases ho.2 with ⟨rfl, h0⟩ | ⟨g, cap, cur, rfl, hbg, hg, hnc, hcm, hcs, htake⟩
  · omega
  · have hcs' : cs = l.map en := by
      apply List.ext_getElem?
      intro i
      by_cases hi : i < l.length
      · have h2 : cs[i * 1 + 0]? = some (en l[i]) := hr0 (hr i l[i] (List.getElem?_eq_getElem hi))
        simp only [Nat.mul_one, Nat.add_zero] at h2
        rw [h2, List.getElem?_map, List.getElem?_eq_getElem hi]; rfl
      · rw [List.getElem?_eq_none (by omega), List.getElem?_eq_none (by simp; omega)]
    refine ⟨g, cap, rfl, hbg, ⟨cur.toList.drop (l.length * 1), ?_⟩, hnc, hcm⟩
    rw [hg, ← hcs', ← htake, List.take_append_drop]
/-- Bools cloned: a block of their own. -/
theorem cloneBools_blk (w : World) (A : Option Addr) (n c : Nat) (l : List Bool) (h : Sl 1 eBool w (LT w.heap.size) A n l) (hm : n * 1 ≤ lim) (hn : 0 < n) :
    Calls Try.prog 68 #[.slice A n c] w fun e w' => ∃ g cap, e = .returned (.slice (some ⟨g, 0, none⟩) n cap) ∧ w.heap.size ≤ g ∧ Blk Value.bool w' 4 g l ∧ (n ≤ cap ∧ cap ≤ maxLen) ∧ Fr w w' :=
  (cloneBools_any w A n c l h hm).mono fun e w' ⟨v, he, ho, hf⟩ => by
    obtain ⟨g, cap, rfl, h1, h2, h3⟩ := own_blk (en := Value.bool) (fun h => h) ho (by rw [h.1]; exact hn)
    rw [h.1] at he h3
    exact ⟨g, cap, he, h1, h2, h3, hf⟩
theorem cloneBlock_blk (w : World) (A : Option Addr) (n c : Nat) (l : List UInt8) (h : Sl 1 eByte w (LT w.heap.size) A n l) (hm : n * 1 ≤ lim) (hn : 0 < n) :
    Calls Try.prog 28 #[.slice A n c] w fun e w' => ∃ g cap, e = .returned (.slice (some ⟨g, 0, none⟩) n cap) ∧ w.heap.size ≤ g ∧ Blk bV w' 5 g l ∧ (n ≤ cap ∧ cap ≤ maxLen) ∧ Fr w w' :=
  (cloneBlock_any w A n c l h hm).mono fun e w' ⟨v, he, ho, hf⟩ => by
    obtain ⟨g, cap, rfl, h1, h2, h3⟩ := own_blk (en := bV) (fun h => h) ho (by rw [h.1]; exact hn)
    rw [h.1] at he h3
    exact ⟨g, cap, he, h1, h2, h3, hf⟩

/-- A row whose two slices lie in blocks of its own. -/
def RowM (w : World) (own : Nat → Option Nat) (g i : Nat) (r : Rw) : Prop :=
  ∃ h ch d cd, own h = some i ∧ own d = some i ∧ h ≠ d ∧ w.cell? ⟨g, i * 2, none⟩ = some (.slice (some ⟨h, 0, none⟩) r.has.length ch) ∧ w.cell? ⟨g, i * 2 + 1, none⟩ = some (.slice (some ⟨d, 0, none⟩) r.data.length cd) ∧
    (r.has.length ≤ ch ∧ ch ≤ maxLen) ∧ (r.data.length ≤ cd ∧ cd ≤ maxLen) ∧ Blk Value.bool w 4 h r.has ∧ Blk bV w 5 d r.data
theorem RowM.chg {w w' : World} {own : Nat → Option Nat} {g i : Nat} {r : Rw} {S : Nat → Prop} (h : RowM w own g i r) (k : Chg S w w') (hg : ¬ S g) (hS : ∀ b, own b = some i → ¬ S b) : RowM w' own g i r := by
  obtain ⟨h, ch, d, cd, h1, h2, h3, h4, h5, h6, h7, h8, h9⟩ := h
  have hl := World.block_lt_of_cell? w _ h4
  exact ⟨h, ch, d, cd, h1, h2, h3, (k.cell (p := ⟨g, i * 2, none⟩) hl hg).trans h4, (k.cell (p := ⟨g, i * 2 + 1, none⟩) hl hg).trans h5, h6, h7, h8.chg k (hS _ h1), h9.chg k (hS _ h2)⟩
theorem RowM.own {w : World} {own own' : Nat → Option Nat} {g i : Nat} {r : Rw} (h : RowM w own g i r) (ho : ∀ b, own b = some i → own' b = some i) : RowM w own' g i r := by
  obtain ⟨h, ch, d, cd, h1, h2, h3⟩ := h
  exact ⟨h, ch, d, cd, ho _ h1, ho _ h2, h3⟩
theorem RowM.rd {w : World} {own : Nat → Option Nat} {g i : Nat} {r : Rw} {S : Nat → Prop} {f : Nat → Option Value} (h : RowM w own g i r) (hl : r.has.length ≤ 24 ∧ r.data.length ≤ 16) (hS : ∀ b, own b = some i → b < w.heap.size → S b) (hf : ∀ j, j < 2 → f j = w.cell? ⟨g, i * 2 + j, none⟩) : eRw w S f r := by
  obtain ⟨h, ch, d, cd, h1, h2, h3, h4, h5, h6, h7, h8, h9⟩ := h
  refine eRw_iff.2 ⟨_, _, _, _, _, _, ⟨(hf 0 (by decide)).trans h4, (hf 1 (by decide)).trans h5⟩, ⟨⟨by unfold lim; omega, h6⟩, h8.bools (hS _ h1 h8.lt)⟩, ⟨⟨by unfold lim; omega, h7⟩, h9.bytes (hS _ h2 h9.lt)⟩⟩

/-- Rows in memory of the call's own, each in blocks of its own. -/
structure SysM (w : World) (own : Nat → Option Nat) (base g cap : Nat) (rows : List Rw) : Prop where
  hblk : ∃ cs rest : List Value, w.heap[g]? = some (.cells (cs ++ rest).toArray 106 (0, 0)) ∧ cs.length = rows.length * 2 ∧ cs.length + rest.length = cap * 2
  hcap : rows.length ≤ cap ∧ cap ≤ maxLen
  hbase : base ≤ g
  hown : ∀ b i, own b = some i → base ≤ b ∧ b ≠ g ∧ b < w.heap.size
  hrow : ∀ i x, rows[i]? = some x → RowM w own g i x
theorem SysM.chg {w w' : World} {own : Nat → Option Nat} {base g cap : Nat} {rows : List Rw} {S : Nat → Prop} (h : SysM w own base g cap rows) (k : Chg S w w') (hg : ¬ S g) (hS : ∀ b i, own b = some i → ¬ S b) : SysM w' own base g cap rows := by
  obtain ⟨cs, rest, h1, h2⟩ := h.hblk
  exact ⟨⟨cs, rest, k.blk h1 hg, h2⟩, h.hcap, h.hbase, fun b i e => ⟨(h.hown b i e).1, (h.hown b i e).2.1, Nat.lt_of_lt_of_le (h.hown b i e).2.2 k.size⟩, fun i x hx => (h.hrow i x hx).chg k hg fun b hb => hS b i hb⟩
/-- As an own slice. -/
theorem SysM.toOwn {w : World} {own : Nat → Option Nat} {base g cap : Nat} {rows : List Rw} (h : SysM w own base g cap rows) (hl : ∀ r ∈ rows, r.has.length ≤ 24 ∧ r.data.length ≤ 16) : Own 2 (eHi base eRw) w base 106 (.slice (some ⟨g, 0, none⟩) rows.length cap) rows := by
  obtain ⟨cs, rest, hg, hc, hall⟩ := h.hblk
  refine row_own (w := w) (sRw.hi base) h.hbase hg ⟨rfl, rfl, rfl, Nat.le_refl _, fun _ _ _ => rfl⟩ h.hcap.1 h.hcap.2 hc hall fun i x hx => ?_
  refine (h.hrow i x hx).rd (hl x (List.mem_of_getElem? hx)) (fun b hb hlt => ⟨⟨hlt, (h.hown b i hb).2.1⟩, (h.hown b i hb).1⟩) fun j hj => ?_
  have hi := (List.getElem?_eq_some_iff.1 hx).1
  have hlt : i * 2 + j < cs.length := by omega
  rw [cells_at hg (List.getElem?_eq_getElem hlt), List.getElem?_eq_getElem hlt]
/-- An own slice of no element, behind stores elsewhere. -/
theorem Own.nilChg {α β : Type} {size : Nat} {r : ERd α} {r' : ERd β} {w w' : World} {base base' : Nat} {e : TypeId} {v : Value} {S : Nat → Prop} (h : Own size r w base e v ([] : List α)) (k : Chg S w w') (hb : base' ≤ base) (hS : ∀ b, base ≤ b → b < w.heap.size → ¬ S b) : Own size r' w' base' e v ([] : List β) := by
  obtain ⟨cs, ho, _⟩ := h
  refine ⟨cs, ⟨ho.1, ?_⟩, fun i x hx => by simp at hx⟩
  rcases ho.2 with h0 | ⟨g, cap, cur, h1, h2, h3, h4⟩
  · exact .inl h0
  · exact .inr ⟨g, cap, cur, h1, Nat.le_trans hb h2, k.blk h3 (hS g h2 (Array.getElem?_eq_some_iff.1 h3).1), h4⟩
end Go.Proofs.Ytojoodmnmhcojaa
