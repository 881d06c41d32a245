/- Regions that draw their order, walked by hand: an operation that yields its value is taken first, one that isn't wanted is passed over. No condition; no function in sight. -/
import Derived.Test.YtnfjghldcopaaaaPickP
import Derived.Test.YtnfjghldcopaaaaKnown
import Derived.Test.YtnfjghldcopaaaaCodeP
import Derived.Test.YtnfjghldcopaaaaAddP
import Derived.Test.YtnfjghldcopaaaaSt
import Derived.Test.YtnfjghldcopaaaaCode
import Derived.Test.YtnfjghldcopaaaaPick
import Derived.Test.YtnfjghldcopaaaaCut
import Derived.Test.YtnfjghldcopaaaaSolved
import Derived.Deep.DeepCutAuto
import Derived.Deep.Cut
import Derived.Test.YtnfjghldcopaaaaRow
import Derived.Test.YtnfjghldcopaaaaBox
import Derived.Test.YtnfjghldcopaaaaBase
import Derived.Deep.RegionHeld3
set_option linter.unusedSimpArgs false
set_option linter.unusedVariables false
namespace Go.Proofs.Ytnfjghldcopaaaa

/-- The numbers that are in, rising. -/
def selIdx (l : List Bool) : List Int := ((List.range l.length).filter fun k => l.getD k false).map fun k : Nat => (k : Int)
/-- The same numbers, in some order. -/
structure Sel (has : List Bool) (ls : List Int) : Prop where
  nd : ls.Nodup
  bd : ∀ x ∈ ls, ∃ k : Nat, x = k ∧ k < has.length
  iff : ∀ k : Nat, k < has.length → (has.getD k false = true ↔ (k : Int) ∈ ls)
theorem Sel.new (b : Nat) : Sel (noHas b) [] := ⟨List.nodup_nil, fun x hx => (List.not_mem_nil hx).elim, fun k hk => by
  have : (noHas b).getD k false = false := by
    have hk' : k < b := by simpa [noHas] using hk
    simp [noHas, List.getD_eq_getElem?_getD, List.getElem?_replicate, hk']
  rw [this]; simp⟩
theorem Sel.add {has : List Bool} {ls : List Int} {k : Nat} (h : Sel has ls) (hk : k < has.length) (hf : has.getD k false = false) : Sel (has.set k true) (ls ++ [(k : Int)]) := by
  have hn : (k : Int) ∉ ls := fun e => by
    have := (h.iff k hk).2 e
    rw [hf] at this; cases this
  refine ⟨?_, ?_, ?_⟩
  · rw [List.nodup_append]
    exact ⟨h.nd, by simp, fun a ha b hb e => by simp at hb; subst hb; subst e; exact hn ha⟩
  · intro x hx
    rcases List.mem_append.1 hx with h1 | h1
    · obtain ⟨j, e, hj⟩ := h.bd x h1
      exact ⟨j, e, by simpa using hj⟩
    · exact ⟨k, by simpa using h1, by simpa using hk⟩
  · intro j hj
    have hj' : j < has.length := by simpa using hj
    by_cases e : j = k
    · subst e
      simp [List.getD_eq_getElem?_getD, hj']
    · have h1 := h.iff j hj'
      rw [List.getD_eq_getElem?_getD, List.getElem?_set_ne (fun e' => e e'.symm), ← List.getD_eq_getElem?_getD, h1]
      simp only [List.mem_append, List.mem_singleton]
      constructor
      · exact .inl
      · rintro (h | h)
        · exact h
        · exact absurd (by omega) e
theorem Sel.idx (has : List Bool) : Sel has (selIdx has) := by
  refine ⟨?_, ?_, ?_⟩
  · unfold selIdx
    refine List.Pairwise.map (R := fun a b : Nat => a ≠ b) _ (fun a b h e => h (by omega)) ?_
    exact List.Pairwise.filter _ List.nodup_range
  · intro x hx
    obtain ⟨k, hk, rfl⟩ := List.mem_map.1 hx
    exact ⟨k, rfl, List.mem_range.1 (List.mem_filter.1 hk).1⟩
  · intro k hk
    unfold selIdx
    constructor
    · intro h
      exact List.mem_map.2 ⟨k, List.mem_filter.2 ⟨List.mem_range.2 hk, h⟩, rfl⟩
    · intro h
      obtain ⟨j, hj, e⟩ := List.mem_map.1 h
      obtain rfl : j = k := by omega
      exact (List.mem_filter.1 hj).2
theorem selIdx_sorted (has : List Bool) : (selIdx has).Pairwise fun x y => decide (x ≤ y) = true := by
  unfold selIdx
  refine List.Pairwise.map (R := fun a b : Nat => a < b) _ (fun a b (h : a < b) => by simp; omega) ?_
  exact List.pairwise_lt_range.filter _
theorem Sel.perm {has : List Bool} {l m : List Int} (h : Sel has l) (k : Sel has m) : l.Perm m := by
  rw [List.perm_ext_iff_of_nodup h.nd k.nd]
  intro a
  constructor
  · intro ha
    obtain ⟨j, rfl, hj⟩ := h.bd a ha
    exact (k.iff j hj).1 ((h.iff j hj).2 ha)
  · intro ha
    obtain ⟨j, rfl, hj⟩ := k.bd a ha
    exact (h.iff j hj).1 ((k.iff j hj).2 ha)
theorem Sel.sorted {has : List Bool} {ls : List Int} (h : Sel has ls) : ls.mergeSort (fun x y => decide (x ≤ y)) = selIdx has := by
  refine List.Perm.eq_of_pairwise (le := fun x y => decide (x ≤ y) = true) (fun a b _ _ h1 h2 => ?_) ?_ (selIdx_sorted has) ((List.mergeSort_perm _ _).trans (h.perm (Sel.idx has)))
  · simp at h1 h2; omega
  · exact List.pairwise_mergeSort (fun a b c h1 h2 => by simp at h1 h2 ⊢; omega) (fun a b => by simp; omega) ls
theorem selIdx_one {b id : Nat} (h : id < b) : selIdx ((noHas b).set id true) = [(id : Int)] := by
  have := (Sel.new b).add (k := id) (by simp [noHas]; exact h) (by simp [noHas, List.getD_eq_getElem?_getD, List.getElem?_replicate, h])
  have h2 := this.sorted
  rw [← h2]; simp
theorem Sel.length {has : List Bool} {ls : List Int} (h : Sel has ls) : ls.length ≤ has.length := by
  rw [(h.perm (Sel.idx has)).length_eq]
  unfold selIdx
  rw [List.length_map]
  exact Nat.le_trans (List.length_filter_le _ _) (by simp)
/-- What the reference picks. -/
def pickedR (id b : Int) : List Int × Int := if 0 ≤ id ∧ id ≤ 9999 ∧ 1 ≤ b ∧ b ≤ 24 then (selIdx (pickHas id.toNat b.toNat), 0) else ([], 3)
end Go.Proofs.Ytnfjghldcopaaaa
namespace Go.Proofs.Ytnfjghldcopaaaa

def setAll : List Bool → List Int → List Bool
  | U, [] => U
  | U, k :: ks => setAll (U.set k.toNat true) ks
theorem length_setAll (U : List Bool) (ks : List Int) : (setAll U ks).length = U.length := by
  induction ks generalizing U with
  | nil => rfl
  | cons k ks ih => rw [setAll, ih, List.length_set]
theorem getD_setAll (ks : List Int) (U : List Bool) (i : Nat) (hi : i < U.length) (hk : ∀ k ∈ ks, 0 ≤ k) : (setAll U ks).getD i false = (U.getD i false || decide ((i : Int) ∈ ks)) := by
  induction ks generalizing U with
  | nil => simp [setAll]
  | cons k ks ih =>
    rw [setAll, ih _ (by simpa using hi) fun x hx => hk x (List.mem_cons_of_mem _ hx)]
    have h0 := hk k List.mem_cons_self
    by_cases he : (i : Int) = k
    · have e : k.toNat = i := by omega
      subst e
      simp [List.getD_eq_getElem?_getD, List.getElem?_set, hi, he]
    · have e : k.toNat ≠ i := by omega
      simp [List.getD_eq_getElem?_getD, List.getElem?_set, e, he]
theorem setAll_idx (h : List Bool) : setAll (List.replicate h.length false) (selIdx h) = h := by
  have hs := Sel.idx h
  refine List.ext_getElem? fun i => ?_
  by_cases hi : i < h.length
  · have hl : i < (setAll (List.replicate h.length false) (selIdx h)).length := by rw [length_setAll]; simpa using hi
    have h1 := getD_setAll (selIdx h) (List.replicate h.length false) i (by simpa using hi) fun k hk => by
      obtain ⟨a, e, _⟩ := hs.bd k hk
      omega
    rw [List.getD_eq_getElem?_getD, List.getElem?_eq_getElem hl] at h1
    have h2 : (decide ((i : Int) ∈ selIdx h)) = h.getD i false := by
      have := hs.iff i hi
      by_cases hm : (i : Int) ∈ selIdx h
      · rw [decide_eq_true hm, this.2 hm]
      · rw [decide_eq_false hm]
        cases hb : h.getD i false
        · rfl
        · exact absurd (this.1 hb) hm
    rw [h2, List.getD_eq_getElem?_getD, List.getD_eq_getElem?_getD, List.getElem?_eq_getElem hi] at h1
    rw [List.getElem?_eq_getElem hl, List.getElem?_eq_getElem hi]
    simp at h1
    rw [h1]
    simp [List.getElem?_replicate, hi]
  · rw [List.getElem?_eq_none (by rw [length_setAll]; simpa using Nat.le_of_not_lt hi), List.getElem?_eq_none (by omega)]
end Go.Proofs.Ytnfjghldcopaaaa
namespace Go.Proofs.Ytnfjghldcopaaaa

theorem mem_insRow {rows : List Rw} {k : Nat} {r x : Rw} : x ∈ insRow rows k r ↔ x = r ∨ ∃ o ∈ rows, outOf k r o = x := by
  unfold insRow
  have e := List.take_append_drop (insAt k (rows.map (outOf k r))) (rows.map (outOf k r))
  rw [← List.mem_map (f := outOf k r) (l := rows)]
  conv => rhs; rw [← e]
  simp only [List.mem_append, List.mem_cons]
  constructor
  · rintro (h | h | h)
    · exact .inr (.inl h)
    · exact .inl h
    · exact .inr (.inr h)
  · rintro (h | h | h)
    · exact .inr (.inl h)
    · exact .inl h
    · exact .inr (.inr h)

/-- A right system and a right row: what solve.Add makes. -/
theorem sysAdd_ok0 {B K : Int} {rows : List Rw} {r : Rw} (h : (sysAdd ⟨B, K, rows⟩ r).2.2 = 0) :
    ∃ b k : Nat, B = b ∧ K = k ∧ (1 ≤ b ∧ b ≤ 24) ∧ (1 ≤ k ∧ k ≤ 16) ∧ sysCheck b k rows = 0 ∧ Sys b k rows ∧ Fit b k r ∧ (sysAdd ⟨B, K, rows⟩ r).1.blocks = b ∧ (sysAdd ⟨B, K, rows⟩ r).1.block = k ∧
      (((sysAdd ⟨B, K, rows⟩ r).1.rows = rows ∧ (sysAdd ⟨B, K, rows⟩ r).2.1 = false ∧ Sp (pl rows) (vc r)) ∨
        (∃ i, (sysAdd ⟨B, K, rows⟩ r).1.rows = insRow rows i (redRow rows r) ∧ (sysAdd ⟨B, K, rows⟩ r).2.1 = true ∧ Lead (vc (redRow rows r)) i ∧ Sys b k (insRow rows i (redRow rows r)) ∧ ∀ v, Sp (pl (insRow rows i (redRow rows r))) v ↔ Span (With rows r) v)) := by
  unfold sysAdd at h ⊢
  by_cases h0 : sysCheck B K rows = 0
  · rw [if_neg (by simp [h0])] at h ⊢
    by_cases h1 : (r.has.length : Int) ≠ B ∨ (r.data.length : Int) ≠ K
    · rw [if_pos h1] at h; cases h
    · rw [if_neg h1] at h ⊢
      obtain ⟨⟨b1, b2⟩, ⟨k1, k2⟩, _, hR⟩ := sysCheck_ok h0
      obtain ⟨b, rfl⟩ := Int.eq_ofNat_of_zero_le (show 0 ≤ B by omega)
      obtain ⟨k, rfl⟩ := Int.eq_ofNat_of_zero_le (show 0 ≤ K by omega)
      have hs := rowsOk_sys hR
      have hf : Fit b k r := ⟨by omega, by omega⟩
      rcases addRow_cases hs hf with ⟨e, hsp⟩ | ⟨e, _⟩ | ⟨rows', i, e, rfl, hl, _, hs', hsp⟩
      · rw [e] at h ⊢
        exact ⟨b, k, rfl, rfl, by omega, by omega, h0, hs, hf, rfl, rfl, .inl ⟨rfl, rfl, hsp⟩⟩
      · rw [e] at h; cases h
      · rw [e] at h ⊢
        exact ⟨b, k, rfl, rfl, by omega, by omega, h0, hs, hf, rfl, rfl, .inr ⟨i, rfl, rfl, hl, hs', hsp⟩⟩
  · rw [if_pos h0] at h
    exact absurd h h0

/-- What follows already says nothing new. -/
theorem addRow_again {B K : Nat} {rows : List Rw} {r : Rw} (hs : Sys B K rows) (h : Fit B K r) (hsp : Sp (pl rows) (vc r)) : addRow rows r = (rows, false, 0) := by
  have hv := redRow_vc hs h
  rw [pj_span hs.ech hsp, Vc.self] at hv
  have h0 : (redRow rows r).fst < 0 := fst_none.2 fun i => by rw [hv]; rfl
  have hd : (redRow rows r).data.all (fun c => c == 0) = true := by
    rw [List.all_eq_true]
    intro c hc
    obtain ⟨i, hi⟩ := List.mem_iff_getElem?.1 hc
    have : (vc (redRow rows r)).d i = 0 := by rw [hv]; rfl
    have h2 : (redRow rows r).data.getD i 0 = 0 := this
    rw [List.getD_eq_getElem?_getD, hi] at h2
    simpa using h2
  unfold addRow
  rw [if_pos h0, if_pos hd]
theorem sysAdd_again {b k : Nat} {rows : List Rw} {r : Rw} (hB : 1 ≤ b ∧ b ≤ 24) (hK : 1 ≤ k ∧ k ≤ 16) (hs : Sys b k rows) (h : Fit b k r) (hsp : Sp (pl rows) (vc r)) : sysAdd ⟨b, k, rows⟩ r = (⟨b, k, rows⟩, false, 0) := by
  unfold sysAdd
  rw [if_neg (by simp [sysCheck_of hB hK hs]), if_neg (by simp [h.1, h.2]), addRow_again hs h hsp, if_pos rfl]

/-- One block alone. -/
theorem unit_iff {r : Rw} {k : Nat} (hk : r.fst = (k : Int)) : r.unit = true ↔ ∀ j, j ≠ k → (vc r).h j = false := by
  have hl := fst_lead.1 hk
  unfold Rw.unit
  rw [hk, Int.toNat_natCast]
  simp only [Bool.not_eq_true', decide_eq_false_iff_not]
  constructor
  · intro h j hj
    rcases Nat.lt_or_ge j k with h1 | h1
    · exact hl.2 j h1
    · cases e : (vc r).h j with
      | false => rfl
      | true =>
        refine absurd ?_ h
        have e2 : r.has.getD j false = true := e
        rw [List.getD_eq_getElem?_getD] at e2
        cases e3 : r.has[j]? with
        | none => rw [e3] at e2; cases e2
        | some b =>
          rw [e3] at e2
          have : b = true := e2
          subst this
          refine List.mem_of_getElem? (i := j - (k + 1)) ?_
          rw [List.getElem?_drop, show k + 1 + (j - (k + 1)) = j by omega]
          exact e3
  · intro h hm
    obtain ⟨i, hi⟩ := List.mem_iff_getElem?.1 hm
    rw [List.getElem?_drop] at hi
    have := h (k + 1 + i) (by omega)
    have e2 : r.has.getD (k + 1 + i) false = false := this
    rw [List.getD_eq_getElem?_getD, hi] at e2
    cases e2

theorem foldKnown_far {k : Nat} : ∀ {rows : List Rw} {out : List (List UInt8)}, (∀ o ∈ rows, o.unit = true → o.fst.toNat ≠ k) → (rows.foldl knownStep out)[k]? = out[k]?
  | [], _, _ => rfl
  | r :: rows, out, h => by
    rw [List.foldl_cons, foldKnown_far fun o ho => h o (List.mem_cons_of_mem _ ho)]
    unfold knownStep
    split
    · rename_i e
      rw [List.getElem?_set_ne (h r (by simp) e)]
    · rfl
theorem foldKnown_mem {k : Nat} : ∀ {rows : List Rw} {out : List (List UInt8)} {o : Rw}, (rows.Pairwise fun a b => a.fst.toNat ≠ b.fst.toNat) → o ∈ rows → o.unit = true → o.fst.toNat = k → k < out.length → (rows.foldl knownStep out)[k]? = some o.data
  | r :: rows, out, o, hp, ho, hu, hk, hl => by
    obtain ⟨p1, p2⟩ := List.pairwise_cons.1 hp
    rw [List.foldl_cons]
    rcases List.mem_cons.1 ho with rfl | ho
    · rw [foldKnown_far fun o' ho' _ => by rw [← hk]; exact (p1 o' ho').symm]
      unfold knownStep
      rw [if_pos hu, hk, List.getElem?_set_self hl]
    · exact foldKnown_mem p2 ho hu hk (by rw [length_knownStep]; exact hl)
theorem foldKnown_of {k : Nat} {b : List UInt8} : ∀ {rows : List Rw} {out : List (List UInt8)}, (rows.foldl knownStep out)[k]? = some b → out[k]? = some b ∨ ∃ o ∈ rows, o.unit = true ∧ o.fst.toNat = k ∧ o.data = b
  | [], _, h => .inl h
  | r :: rows, out, h => by
    rw [List.foldl_cons] at h
    rcases foldKnown_of h with h1 | ⟨o, ho, h1⟩
    · unfold knownStep at h1
      split at h1
      · rename_i e
        rw [List.getElem?_set] at h1
        split at h1
        · rename_i ek
          split at h1
          · injection h1 with h1
            exact .inr ⟨r, by simp, e, ek, h1⟩
          · cases h1
        · exact .inl h1
      · exact .inl h1
    · exact .inr ⟨o, List.mem_cons_of_mem _ ho, h1⟩
theorem Sys.apart {B K : Nat} {rows : List Rw} (h : Sys B K rows) : rows.Pairwise fun a b => a.fst.toNat ≠ b.fst.toNat := by
  have := h.ech.up
  unfold pl at this
  rw [List.pairwise_map] at this
  exact this.imp fun x => Nat.ne_of_lt x.1
theorem known_mem {B K : Nat} {rows : List Rw} (h : Sys B K rows) {o : Rw} (ho : o ∈ rows) (hu : o.unit = true) : (knownF B rows)[o.fst.toNat]? = some o.data := by
  obtain ⟨k, e, _, hlt⟩ := h.leads ho
  exact foldKnown_mem h.apart ho hu rfl (by simp; omega)
theorem known_of {B K : Nat} {rows : List Rw} (h : Sys B K rows) {k : Nat} {b : List UInt8} (hb : (knownF B rows)[k]? = some b) : b = [] ∨ ∃ o ∈ rows, o.unit = true ∧ o.fst.toNat = k ∧ o.data = b := by
  rcases foldKnown_of hb with h1 | h1
  · left
    have hk := (List.getElem?_eq_some_iff.1 h1).1
    rw [List.getElem?_replicate, if_pos (by simpa using hk)] at h1
    injection h1 with h1
    exact h1.symm
  · exact .inr h1
theorem length_knownF (B : Nat) (rows : List Rw) : (knownF B rows).length = B := by unfold knownF; rw [length_foldKnown]; simp

/-- What was known stays known. -/
theorem known_stays {B K i : Nat} {rows : List Rw} {r : Rw} (hs : Sys B K rows) (h : Fit B K r) (hl : Lead (vc (redRow rows r)) i) (hs' : Sys B K (insRow rows i (redRow rows r))) {k : Nat} {b : List UInt8} (hb : (knownF B rows)[k]? = some b) (hne : b ≠ []) :
    (knownF B (insRow rows i (redRow rows r)))[k]? = some b := by
  rcases known_of hs hb with h1 | ⟨o, ho, hu, rfl, rfl⟩
  · exact absurd h1 hne
  · obtain ⟨l, e, hl2, _⟩ := hs.leads ho
    have hc := redRow_clean hs h o ho
    have hne2 : i ≠ l := by
      rintro rfl
      rw [e, Int.toNat_natCast, hl.1] at hc
      cases hc
    have hbit : o.bit i = false := (unit_iff e).1 hu i hne2
    have hm : o ∈ insRow rows i (redRow rows r) := mem_insRow.2 (.inr ⟨o, ho, by unfold outOf; rw [if_neg (by simp [hbit])]⟩)
    exact known_mem hs' hm hu

/-- All that SolveKeeps says, plainly. -/
structure KeepsP (B K : Int) (rows rows' : List Rw) (m : Bool) (r : Rw) : Prop where
  chk : sysCheck B K rows = 0
  again : sysAdd ⟨B, K, rows'⟩ r = (⟨B, K, rows'⟩, false, 0)
  chk' : sysCheck B K rows' = 0
  len : m = decide (rows'.length = rows.length + 1)
  same : m = false → rows' = rows
  known : ∀ (k : Nat) (b : List UInt8), (knownF B.toNat rows)[k]? = some b → b ≠ [] → (knownF B.toNat rows')[k]? = some b
theorem keepsP {B K b k : Int} {rows rows' : List Rw} {m : Bool} {r : Rw} (h : sysAdd ⟨B, K, rows⟩ r = (⟨b, k, rows'⟩, m, 0)) : b = B ∧ k = K ∧ KeepsP B K rows rows' m r := by
  obtain ⟨b', k', rfl, rfl, hB, hK, hc, hs, hf, e1, e2, hcase⟩ := sysAdd_ok0 (B := B) (K := K) (rows := rows) (r := r) (by rw [h])
  rw [h] at e1 e2 hcase
  simp only [] at e1 e2 hcase
  subst e1 e2
  refine ⟨rfl, rfl, ?_⟩
  rcases hcase with ⟨rfl, rfl, hsp⟩ | ⟨i, rfl, rfl, hl, hs', hsp⟩
  · exact ⟨hc, sysAdd_again hB hK hs hf hsp, hc, by simp, fun _ => rfl, fun _ _ h _ => h⟩
  · refine ⟨hc, sysAdd_again hB hK hs' hf ((hsp _).2 (.of (.inr rfl))), sysCheck_of hB hK hs', ?_, (fun e => by cases e), fun j x hx hne => ?_⟩
    · rw [length_insRow]; simp
    · rw [Int.toNat_natCast] at hx ⊢
      exact known_stays hs hf hl hs' hx hne
end Go.Proofs.Ytnfjghldcopaaaa
namespace Go.Proofs.Ytnfjghldcopaaaa

/-- The symbol of an id, brought within bounds, if there is one. -/
def symOpt (B K : Int) (c : List UInt8) (id : Int) : List Sm := if (makeSym B K c (id % 10000)).2 = 0 then [⟨(makeSym B K c (id % 10000)).1.1, (makeSym B K c (id % 10000)).1.2⟩] else []
def symsOf (B K : Int) (c : List UInt8) (ids : List Int) : List Sm := (ids.take 60).flatMap (symOpt B K c)
theorem length_symOpt (B K : Int) (c : List UInt8) (id : Int) : (symOpt B K c id).length ≤ 1 := by unfold symOpt; split <;> simp
theorem length_flat (B K : Int) (c : List UInt8) : ∀ l : List Int, (l.flatMap (symOpt B K c)).length ≤ l.length
  | [] => by simp
  | a :: l => by
    have := length_symOpt B K c a
    have := length_flat B K c l
    simp only [List.flatMap_cons, List.length_append, List.length_cons]
    omega
theorem length_symsOf (B K : Int) (c : List UInt8) (ids : List Int) : (symsOf B K c ids).length ≤ 60 := by
  have := length_flat B K c (ids.take 60)
  unfold symsOf
  have h2 : (ids.take 60).length ≤ 60 := by simp; omega
  omega
theorem flat_snoc {B K : Int} {c : List UInt8} {l : List Int} {k : Nat} {id : Int} (h : l[k]? = some id) : (l.take (k + 1)).flatMap (symOpt B K c) = (l.take k).flatMap (symOpt B K c) ++ symOpt B K c id := by
  rw [take_snoc' h, List.flatMap_append]; simp
/-- A symbol that is made, is right. -/
structure SymOk (B K : Nat) (c : List UInt8) (s : Sm) : Prop where
  id : 0 ≤ s.id ∧ s.id ≤ 9999
  data : s.data = xorAll K (sel (pickHas s.id.toNat (cutF K B c).length) (cutF K B c))
theorem symOpt_ok {B K : Nat} {c : List UInt8} (h : cutCheck B K = 0) (hl : c.length = B) (id : Int) : ∃ s, symOpt B K c id = [s] ∧ s.id = id % 10000 ∧ SymOk B K c s := by
  have hid : 0 ≤ id % 10000 ∧ id % 10000 ≤ 9999 := by omega
  have e := makeSym_ok (id := id % 10000) h hl hid
  unfold symOpt
  rw [e, if_pos rfl]
  exact ⟨_, rfl, rfl, ⟨hid, rfl⟩⟩
theorem symsOf_ok {B K : Nat} {c : List UInt8} (h : cutCheck B K = 0) (hl : c.length = B) (ids : List Int) : ∀ s ∈ symsOf B K c ids, SymOk B K c s := by
  intro s hs
  obtain ⟨id, _, h2⟩ := List.mem_flatMap.1 hs
  obtain ⟨s', e, _, h3⟩ := symOpt_ok h hl id
  rw [e] at h2
  obtain rfl := List.mem_singleton.1 h2
  exact h3
theorem symsOf_len {B K : Nat} {c : List UInt8} (h : cutCheck B K = 0) (hl : c.length = B) (ids : List Int) : (symsOf B K c ids).length = min ids.length 60 := by
  have : ∀ l : List Int, (l.flatMap (symOpt B K c)).length = l.length := by
    intro l
    induction l with
    | nil => rfl
    | cons a l ih =>
      obtain ⟨s, e, _⟩ := symOpt_ok h hl a
      simp only [List.flatMap_cons, List.length_append, List.length_cons, e, ih, List.length_nil]
      omega
  unfold symsOf
  rw [this, List.length_take]; omega
theorem symsOf_bad {B K : Int} {c : List UInt8} (h : (cutUp B K c).2 ≠ 0) (ids : List Int) : symsOf B K c ids = [] := by
  have : ∀ id, symOpt B K c id = [] := fun id => by
    unfold symOpt makeSym
    rw [if_pos h, if_neg h]
  unfold symsOf
  rw [List.flatMap_eq_nil_iff]
  exact fun id _ => this id
end Go.Proofs.Ytnfjghldcopaaaa
namespace Go.Proofs.Ytnfjghldcopaaaa

/-- The sum of the blocks that are in, at a byte. -/
def evf : List (List UInt8) → (Nat → Bool) → Nat → UInt8
  | [], _, _ => 0
  | x :: xs, h, i => (if h 0 then x.getD i 0 else 0) ^^^ evf xs (fun k => h (k + 1)) i
theorem ev_key (a b : Bool) (X P Q : UInt8) : ((if (a ^^ b) then X else 0) ^^^ (P ^^^ Q)) = (((if a then X else 0) ^^^ P) ^^^ ((if b then X else 0) ^^^ Q)) := by
  cases a <;> cases b <;> simp
  · ac_rfl
  · ac_rfl
  · rw [show X ^^^ P ^^^ (X ^^^ Q) = (X ^^^ X) ^^^ (P ^^^ Q) by ac_rfl, UInt8.xor_self, UInt8.zero_xor]
theorem evf_add (i : Nat) : ∀ (bl : List (List UInt8)) (h h' : Nat → Bool), evf bl (fun k => h k ^^ h' k) i = (evf bl h i ^^^ evf bl h' i)
  | [], _, _ => by simp [evf]
  | x :: xs, h, h' => by
    simp only [evf]
    rw [evf_add i xs (fun k => h (k + 1)) (fun k => h' (k + 1))]
    exact ev_key _ _ _ _ _
theorem evf_none (i : Nat) : ∀ (bl : List (List UInt8)) (h : Nat → Bool), (∀ k, h k = false) → evf bl h i = 0
  | [], _, _ => rfl
  | x :: xs, h, h0 => by simp [evf, h0 0, evf_none i xs (fun k => h (k + 1)) fun k => h0 (k + 1)]
theorem evf_unit (i : Nat) : ∀ (bl : List (List UInt8)) (h : Nat → Bool) (k : Nat), h k = true → (∀ j, j ≠ k → h j = false) → evf bl h i = (bl.getD k []).getD i 0
  | [], _, _, _, _ => by simp [evf]
  | x :: xs, h, 0, h0, hn => by
    rw [evf, if_pos h0, evf_none i xs _ fun k => hn (k + 1) (by omega)]
    simp
  | x :: xs, h, k + 1, h0, hn => by
    rw [evf, if_neg (by simp [hn 0 (by omega)]), evf_unit i xs (fun k => h (k + 1)) k h0 fun j hj => hn (j + 1) (by omega)]
    simp
/-- What a row says holds of the blocks. -/
def Hold (bl : List (List UInt8)) (v : Vc) : Prop := ∀ i, v.d i = evf bl v.h i
theorem hold_zero (bl : List (List UInt8)) : Hold bl Vc.zero := fun i => (evf_none i bl _ fun _ => rfl).symm
theorem Hold.add {bl : List (List UInt8)} {u v : Vc} (h : Hold bl u) (k : Hold bl v) : Hold bl (u + v) := fun i => by
  rw [Vc.add_d, h i, k i]
  exact (evf_add i bl u.h v.h).symm
theorem Hold.span {bl : List (List UInt8)} {G : Vc → Prop} (h : ∀ g, G g → Hold bl g) {v : Vc} (hv : Span G v) : Hold bl v := hv.all (hold_zero bl) (fun _ _ a b => a.add b) h

theorem foldl_getD {K i : Nat} : ∀ (ls : List (List UInt8)) (acc : List UInt8), (∀ l ∈ ls, l.length = K) → acc.length = K → (ls.foldl zx acc).getD i 0 = (acc.getD i 0 ^^^ ls.foldr (fun l a => l.getD i 0 ^^^ a) 0)
  | [], acc, _, _ => by simp
  | l :: ls, acc, h, ha => by
    have hl := h l (by simp)
    rw [List.foldl_cons, foldl_getD ls (zx acc l) (fun x hx => h x (List.mem_cons_of_mem _ hx)) (by rw [length_zx (by omega), ha]), zx_getD (by omega), List.foldr_cons, UInt8.xor_assoc]
theorem sel_ev (i : Nat) : ∀ (has : List Bool) (bl : List (List UInt8)), has.length = bl.length → (sel has bl).foldr (fun l a => l.getD i 0 ^^^ a) 0 = evf bl (fun k => has.getD k false) i
  | [], [], _ => rfl
  | a :: has, x :: bl, h => by
    have ih := sel_ev i has bl (by simpa using h)
    have e : sel (a :: has) (x :: bl) = if a then x :: sel has bl else sel has bl := by cases a <;> simp [sel]
    rw [e, evf]
    have e2 : (fun k => (a :: has).getD (k + 1) false) = fun k => has.getD k false := by funext k; simp
    rw [e2, ← ih]
    cases a <;> simp
/-- The row of a symbol. -/
def symRow (b : Nat) (s : Sm) : Rw := ⟨pickHas s.id.toNat b, s.data⟩
theorem cutF_facts {B K : Nat} {c : List UInt8} (h : cutCheck B K = 0) (hl : c.length = B) : 1 ≤ (cutF K B c).length ∧ (cutF K B c).length ≤ 24 ∧ ((cutF K B c).length : Int) = blocksOf B K ∧ (∀ y ∈ cutF K B c, y.length = K) ∧ (1 ≤ K ∧ K ≤ 16) := by
  obtain ⟨q1, q2, q3⟩ := cutF_count h hl
  obtain ⟨h1, h2, _⟩ := cutCheck_ok h
  exact ⟨q1, q2, q3, cutF_all (by omega) B c, by omega⟩
theorem symOk_hold {B K : Nat} {c : List UInt8} (h : cutCheck B K = 0) (hl : c.length = B) {s : Sm} (hs : SymOk B K c s) : Fit (cutF K B c).length K (symRow (cutF K B c).length s) ∧ Hold (cutF K B c) (vc (symRow (cutF K B c).length s)) := by
  obtain ⟨_, _, _, hall, _⟩ := cutF_facts h hl
  have hsel : ∀ y ∈ sel (pickHas s.id.toNat (cutF K B c).length) (cutF K B c), y.length = K := fun y hy => hall y (sel_mem hy)
  refine ⟨⟨length_pickHas _ _, ?_⟩, fun i => ?_⟩
  · show s.data.length = K
    rw [hs.data]
    exact length_xorAll hsel (by simp [zeros])
  · show s.data.getD i 0 = evf _ (fun k => (pickHas s.id.toNat (cutF K B c).length).getD k false) i
    rw [hs.data]
    unfold xorAll
    rw [foldl_getD _ _ hsel (by simp [zeros]), sel_ev i _ _ (length_pickHas _ _)]
    have : (zeros K).getD i 0 = 0 := by unfold zeros; simp [List.getD_eq_getElem?_getD, List.getElem?_replicate]; split <;> rfl
    rw [this, UInt8.zero_xor]

/-- The rows of symbols. -/
def GS (b : Nat) (xs : List Sm) (g : Vc) : Prop := ∃ x ∈ xs, g = vc (symRow b x)
/-- A system that symbols made. -/
structure Made (b K : Nat) (xs : List Sm) (rows : List Rw) : Prop where
  sys : Sys b K rows
  span : ∀ v, Sp (pl rows) v ↔ Span (GS b xs) v
theorem made_nil (b K : Nat) : Made b K [] [] := ⟨⟨fun _ h => (by cases h), fun _ h => (by cases h), Ech.nil⟩, fun v => ⟨fun h => h.le fun g ⟨a, ha, _⟩ => (by cases ha), fun h => h.le fun g ⟨a, ha, _⟩ => (by cases ha)⟩⟩
/-- One symbol more. -/
theorem made_snoc {b K : Nat} {xs : List Sm} {rows rows' : List Rw} {x : Sm} {m : Bool} (hB : 1 ≤ b ∧ b ≤ 24) (hK : 1 ≤ K ∧ K ≤ 16) (h : Made b K xs rows) (hf : Fit b K (symRow b x)) (e : sysAdd ⟨b, K, rows⟩ (symRow b x) = (⟨b, K, rows'⟩, m, 0)) :
    Made b K (xs ++ [x]) rows' ∧ rows'.length = rows.length + (if m then 1 else 0) := by
  obtain ⟨b', k', e1, e2, _, _, _, hs, _, _, _, hcase⟩ := sysAdd_ok0 (B := b) (K := K) (rows := rows) (r := symRow b x) (by rw [e])
  obtain rfl : b' = b := by omega
  obtain rfl : k' = K := by omega
  rw [e] at hcase
  have hw : ∀ v, Span (With rows (symRow b' x)) v ↔ Span (GS b' (xs ++ [x])) v := by
    intro v
    constructor
    · refine Span.le fun g hg => ?_
      rcases hg with hg | rfl
      · exact ((h.span g).1 (.of hg)).mono fun g ⟨y, hy, e⟩ => ⟨y, List.mem_append_left _ hy, e⟩
      · exact .of ⟨x, by simp, rfl⟩
    · refine Span.le fun g hg => ?_
      obtain ⟨y, hy, rfl⟩ := hg
      rcases List.mem_append.1 hy with hy | hy
      · exact ((h.span _).2 (.of ⟨y, hy, rfl⟩)).mono fun g hg => .inl hg
      · obtain rfl := List.mem_singleton.1 hy
        exact .of (.inr rfl)
  rcases hcase with ⟨h1, h2, hsp⟩ | ⟨i, h1, h2, hl, hs', hsp⟩
  · simp only [] at h1 h2
    subst h1 h2
    refine ⟨⟨hs, fun v => Iff.trans ?_ (hw v)⟩, by simp⟩
    constructor
    · exact fun hv => hv.mono fun g hg => .inl hg
    · refine Span.le fun g hg => ?_
      rcases hg with hg | rfl
      · exact .of hg
      · exact hsp
  · simp only [] at h1 h2
    subst h1 h2
    exact ⟨⟨hs', fun v => (hsp v).trans (hw v)⟩, by rw [length_insRow]; simp⟩
/-- Symbols of one cargo never contradict. -/
theorem hold_add {b K : Nat} {bl : List (List UInt8)} {rows : List Rw} {r : Rw} (hB : 1 ≤ b ∧ b ≤ 24) (hK : 1 ≤ K ∧ K ≤ 16) (hs : Sys b K rows) (hf : Fit b K r) (hr : ∀ v, Sp (pl rows) v → Hold bl v) (hh : Hold bl (vc r)) : ∃ rows' m, sysAdd ⟨b, K, rows⟩ r = (⟨b, K, rows'⟩, m, 0) := by
  unfold sysAdd
  rw [if_neg (by simp [sysCheck_of hB hK hs]), if_neg (by simp [hf.1, hf.2])]
  rcases addRow_cases hs hf with ⟨e, _⟩ | ⟨e, v, hv, h0, hne⟩ | ⟨rows', k, e, _⟩
  · rw [e]; exact ⟨_, _, rfl⟩
  · exfalso
    have : Hold bl v := Hold.span (fun g hg => by
      rcases hg with hg | rfl
      · exact hr g (.of hg)
      · exact hh) hv
    refine hne (Vc.ext' h0 fun i => ?_)
    rw [this i, evf_none i bl _ h0]; rfl
  · rw [e]; exact ⟨_, _, rfl⟩
/-- What is known is a block of it. -/
theorem known_block {b K : Nat} {bl : List (List UInt8)} {rows : List Rw} (hs : Sys b K rows) (hl : bl.length = b) (hall : ∀ y ∈ bl, y.length = K) (hr : ∀ v, Sp (pl rows) v → Hold bl v) {k : Nat} {x : List UInt8} (hx : (knownF b rows)[k]? = some x) (hne : x ≠ []) : bl[k]? = some x := by
  rcases known_of hs hx with h1 | ⟨o, ho, hu, rfl, rfl⟩
  · exact absurd h1 hne
  · obtain ⟨l, e, hl2, hlt⟩ := hs.leads ho
    have hh := hr _ (.of (of_mem ho))
    have hun := (unit_iff e).1 hu
    rw [e, Int.toNat_natCast]
    have hlb : l < bl.length := by omega
    rw [List.getElem?_eq_getElem hlb]
    congr 1
    refine list_ext_getD (d := 0) ?_ fun i => ?_
    · rw [hall _ (List.getElem_mem hlb), (hs.fit o ho).2]
    · have h1 := hh i
      rw [evf_unit i bl _ l hl2.1 hun] at h1
      have h2 : (bl.getD l []) = bl[l] := by rw [List.getD_eq_getElem?_getD, List.getElem?_eq_getElem hlb]; rfl
      rw [h2] at h1
      exact h1.symm
/-- As many rows as blocks: all is known. -/
theorem full_unit {b K : Nat} {rows : List Rw} (hs : Sys b K rows) (hfull : b ≤ rows.length) : ∀ k, k < b → ∃ o ∈ rows, o.fst = (k : Int) ∧ o.unit = true := by
  have hn : ((pl rows).map (·.1)).Nodup := by
    rw [List.Nodup, List.pairwise_map]
    exact hs.ech.up.imp fun x => Nat.ne_of_lt x.1
  have hin : ∀ j ∈ (pl rows).map (·.1), j < b := fun j hj => by
    obtain ⟨a, ha, rfl⟩ := List.mem_map.1 hj
    obtain ⟨r, hr, rfl⟩ := List.mem_map.1 ha
    obtain ⟨k, e, _, hlt⟩ := hs.leads hr
    simp only []; omega
  have hall : ∀ k, k < b → ∃ o ∈ rows, o.fst = (k : Int) := fun k hk => by
    by_cases h : k ∈ (pl rows).map (·.1)
    · obtain ⟨a, ha, e⟩ := List.mem_map.1 h
      obtain ⟨r, hr, rfl⟩ := List.mem_map.1 ha
      obtain ⟨j, e2, _⟩ := hs.leads hr
      exact ⟨r, hr, by simp only [] at e; omega⟩
    · exfalso
      have := nodup_le hn (m := (List.range b).erase k) fun j hj => by
        refine (List.mem_erase_of_ne (fun e => h (by rw [← e]; exact hj))).2 (List.mem_range.2 (hin j hj))
      rw [List.length_erase_of_mem (List.mem_range.2 hk), List.length_range] at this
      simp [pl] at this
      omega
  intro k hk
  obtain ⟨o, ho, e⟩ := hall k hk
  refine ⟨o, ho, e, (unit_iff e).2 fun j hj => ?_⟩
  rcases Nat.lt_or_ge j b with hjb | hjb
  · obtain ⟨o', ho', e'⟩ := hall j hjb
    have := hs.ech.apart (List.mem_map.2 ⟨o, ho, rfl⟩) (List.mem_map.2 ⟨o', ho', rfl⟩) (by simp only []; omega)
    simp only [e', Int.toNat_natCast] at this
    exact this
  · show o.has.getD j false = false
    rw [List.getD_eq_getElem?_getD, List.getElem?_eq_none (by rw [(hs.fit o ho).1]; exact hjb)]; rfl
theorem known_full {b K : Nat} {bl : List (List UInt8)} {rows : List Rw} (hs : Sys b K rows) (hK : 1 ≤ K) (hl : bl.length = b) (hall : ∀ y ∈ bl, y.length = K) (hr : ∀ v, Sp (pl rows) v → Hold bl v) (hfull : b ≤ rows.length) : knownF b rows = bl := by
  apply List.ext_getElem?
  intro k
  rcases Nat.lt_or_ge k b with hk | hk
  · obtain ⟨o, ho, e, hu⟩ := full_unit hs hfull k hk
    have h1 := known_mem hs ho hu
    rw [e, Int.toNat_natCast] at h1
    rw [h1]
    exact (known_block hs hl hall hr h1 (fun e => by have := (hs.fit o ho).2; rw [e] at this; simp at this; omega)).symm
  · rw [List.getElem?_eq_none (by rw [length_knownF]; exact hk), List.getElem?_eq_none (by omega)]
/-- More that is said, no fewer rows. -/
theorem made_le {b K : Nat} {xs ys : List Sm} {rows rows' : List Rw} (h : Made b K xs rows) (h' : Made b K ys rows') (hle : ∀ x ∈ xs, x ∈ ys) : rows.length ≤ rows'.length := by
  have := ech_card (ps := pl rows) (qs := pl rows') h.sys.ech fun a ha => by
    obtain ⟨r, hr, rfl⟩ := List.mem_map.1 ha
    have h1 : Sp (pl rows') (vc r) := (h'.span _).2 (((h.span _).1 (.of (of_mem hr))).mono fun g ⟨y, hy, e⟩ => ⟨y, hle y hy, e⟩)
    exact span_lead h'.sys.ech h1 (h.sys.ech.lead _ ha)
  simpa [pl] using this
end Go.Proofs.Ytnfjghldcopaaaa
namespace Go.Proofs.Ytnfjghldcopaaaa

def decRows (b : Nat) (B K : Int) : List Rw → List Sm → List Rw × Int
  | rows, [] => (rows, 0)
  | rows, x :: xs =>
    if codeCheck B K x.id x.data.length ≠ 0 then ([], codeCheck B K x.id x.data.length)
    else if (sysAdd ⟨b, K, rows⟩ (symRow b x)).2.2 ≠ 0 then ([], (sysAdd ⟨b, K, rows⟩ (symRow b x)).2.2)
    else decRows b B K (sysAdd ⟨b, K, rows⟩ (symRow b x)).1.rows xs
/-- What solve.Decode answers. -/
def decodeF (B K : Int) (xs : List Sm) : List UInt8 × Int :=
  if cutCheck B K ≠ 0 then ([], cutCheck B K)
  else if 60 < xs.length then ([], 2)
  else if (decRows (blocksOf B K).toNat B K [] xs).2 ≠ 0 then ([], (decRows (blocksOf B K).toNat B K [] xs).2)
  else if (decRows (blocksOf B K).toNat B K [] xs).1.length < (blocksOf B K).toNat then ([], 8)
  else joinUp B K (knownF (blocksOf B K).toNat (decRows (blocksOf B K).toNat B K [] xs).1)
theorem codeCheck_ok {B K id : Int} {len : Nat} (h : codeCheck B K id len = 0) : cutCheck B K = 0 ∧ (0 ≤ id ∧ id ≤ 9999) ∧ (len : Int) = K := by
  unfold codeCheck at h
  split at h
  · rename_i h1; exact absurd h h1
  · split at h
    · cases h
    · split at h
      · cases h
      · rename_i h1 h2 h3
        simp only [ne_eq, Decidable.not_not] at h1 h3
        exact ⟨h1, by omega, h3⟩
theorem codeCheck_of {B K id : Int} {len : Nat} (h1 : cutCheck B K = 0) (h2 : 0 ≤ id ∧ id ≤ 9999) (h3 : (len : Int) = K) : codeCheck B K id len = 0 := by
  unfold codeCheck
  rw [if_neg (by simp [h1]), if_neg (by omega), if_neg (by simp [h3])]
/-- Where no symbol was refused. -/
theorem decRows_made {b K : Nat} {B : Int} (hB : 1 ≤ b ∧ b ≤ 24) (hK : 1 ≤ K ∧ K ≤ 16) : ∀ (xs ys : List Sm) (rows : List Rw), Made b K ys rows → (decRows b B K rows xs).2 = 0 → Made b K (ys ++ xs) (decRows b B K rows xs).1 ∧ ∀ x ∈ xs, codeCheck B K x.id x.data.length = 0
  | [], ys, rows, h, _ => ⟨by rw [List.append_nil]; exact h, fun _ h => by cases h⟩
  | x :: xs, ys, rows, h, h0 => by
    rw [decRows] at h0 ⊢
    by_cases h1 : codeCheck B K x.id x.data.length = 0
    · rw [if_neg (by simp [h1])] at h0 ⊢
      by_cases h2 : (sysAdd ⟨b, K, rows⟩ (symRow b x)).2.2 = 0
      · rw [if_neg (by simp [h2])] at h0 ⊢
        have hf : Fit b K (symRow b x) := ⟨length_pickHas _ _, by have := (codeCheck_ok h1).2.2; show x.data.length = K; omega⟩
        obtain ⟨b', k', e1, e2, _, _, _, _, _, e3, e4, _⟩ := sysAdd_ok0 h2
        have e : sysAdd ⟨b, K, rows⟩ (symRow b x) = (⟨b, K, (sysAdd ⟨b, K, rows⟩ (symRow b x)).1.rows⟩, (sysAdd ⟨b, K, rows⟩ (symRow b x)).2.1, 0) := by
          refine Prod.ext ?_ (Prod.ext rfl h2)
          cases hq : (sysAdd ⟨b, K, rows⟩ (symRow b x)).1 with
          | mk q1 q2 q3 =>
            rw [hq] at e3 e4
            simp only [] at e3 e4
            rw [e3, e4, ← e1, ← e2]
        have hm := (made_snoc hB hK h hf e).1
        obtain ⟨h3, h4⟩ := decRows_made hB hK xs (ys ++ [x]) _ hm h0
        refine ⟨by rw [List.append_assoc] at h3; exact h3, fun y hy => ?_⟩
        rcases List.mem_cons.1 hy with rfl | hy
        · exact h1
        · exact h4 y hy
      · rw [if_pos h2] at h0; exact absurd h0 h2
    · rw [if_pos h1] at h0; exact absurd h0 h1
/-- Symbols of one cargo are never refused. -/
theorem decRows_hold {b K : Nat} {B : Int} {bl : List (List UInt8)} (hB : 1 ≤ b ∧ b ≤ 24) (hK : 1 ≤ K ∧ K ≤ 16) (hc : cutCheck B K = 0) : ∀ (xs ys : List Sm) (rows : List Rw), Made b K ys rows → (∀ x ∈ ys ++ xs, Fit b K (symRow b x) ∧ Hold bl (vc (symRow b x)) ∧ 0 ≤ x.id ∧ x.id ≤ 9999) → (decRows b B K rows xs).2 = 0
  | [], _, _, _, _ => rfl
  | x :: xs, ys, rows, h, hall => by
    obtain ⟨hf, hh, hid⟩ := hall x (by simp)
    have h1 : codeCheck B K x.id x.data.length = 0 := codeCheck_of hc hid (by have := hf.2; show ((x.data.length : Nat) : Int) = K; have e : x.data.length = K := this; omega)
    have hspan : ∀ v, Sp (pl rows) v → Hold bl v := fun v hv => Hold.span (fun g ⟨y, hy, e⟩ => by rw [e]; exact (hall y (List.mem_append_left _ hy)).2.1) ((h.span v).1 hv)
    obtain ⟨rows', m, e⟩ := hold_add hB hK h.sys hf hspan hh
    rw [decRows, if_neg (by simp [h1]), e, if_neg (by simp)]
    exact decRows_hold hB hK hc xs (ys ++ [x]) rows' (made_snoc hB hK h hf e).1 (by rw [List.append_assoc]; exact hall)

/-- Symbols that hold of a cargo's blocks. -/
structure SymsOk (B K : Nat) (c : List UInt8) (xs : List Sm) : Prop where
  cut : cutCheck B K = 0
  len : c.length = B
  many : xs.length ≤ 60
  all : ∀ x ∈ xs, SymOk B K c x
theorem SymsOk.hold {B K : Nat} {c : List UInt8} {xs : List Sm} (h : SymsOk B K c xs) : ∀ x ∈ xs, Fit (cutF K B c).length K (symRow (cutF K B c).length x) ∧ Hold (cutF K B c) (vc (symRow (cutF K B c).length x)) ∧ 0 ≤ x.id ∧ x.id ≤ 9999 := fun x hx => by
  obtain ⟨h1, h2⟩ := symOk_hold h.cut h.len (h.all x hx)
  exact ⟨h1, h2, (h.all x hx).id⟩
/-- The rows that symbols of a cargo make. -/
theorem SymsOk.rows {B K : Nat} {c : List UInt8} {xs : List Sm} (h : SymsOk B K c xs) : ∃ rows, Made (cutF K B c).length K xs rows ∧ decodeF B K xs = if rows.length < (cutF K B c).length then ([], 8) else (c, 0) := by
  obtain ⟨q1, q2, q3, hall, hK⟩ := cutF_facts h.cut h.len
  have e0 := decRows_hold (B := (B : Int)) ⟨q1, q2⟩ hK h.cut xs [] [] (made_nil _ _) (by simpa using h.hold)
  obtain ⟨hm, _⟩ := decRows_made (B := (B : Int)) ⟨q1, q2⟩ hK xs [] [] (made_nil _ _) e0
  rw [List.nil_append] at hm
  refine ⟨_, hm, ?_⟩
  unfold decodeF
  have hb : (blocksOf B K).toNat = (cutF K B c).length := by omega
  rw [if_neg (by simp [h.cut]), if_neg (by have := h.many; omega), hb, if_neg (by simp [e0])]
  split
  · rfl
  · rename_i hlt
    have hspan : ∀ v, Sp (pl (decRows (cutF K B c).length B K [] xs).1) v → Hold (cutF K B c) v := fun v hv => Hold.span (fun g ⟨y, hy, e⟩ => by rw [e]; exact (h.hold y hy).2.1) ((hm.span v).1 hv)
    rw [known_full hm.sys hK.1 rfl hall hspan (by omega)]
    exact join_cut h.cut h.len
/-- It is known, or it isn't yet. -/
theorem SymsOk.decode {B K : Nat} {c : List UInt8} {xs : List Sm} (h : SymsOk B K c xs) : decodeF B K xs = ([], 8) ∨ decodeF B K xs = (c, 0) := by
  obtain ⟨rows, _, e⟩ := h.rows
  rw [e]; split
  · exact .inl rfl
  · exact .inr rfl
/-- Whatever else is told, no less is known. -/
theorem SymsOk.more {B K : Nat} {c : List UInt8} {xs ys : List Sm} (h : SymsOk B K c xs) (h' : SymsOk B K c ys) (hle : ∀ x ∈ xs, x ∈ ys) (e : (decodeF B K xs).2 = 0) : decodeF B K ys = (c, 0) := by
  obtain ⟨rows, hm, e1⟩ := h.rows
  obtain ⟨rows', hm', e2⟩ := h'.rows
  have := made_le hm hm' hle
  rw [e1] at e
  rw [e2]
  split at e
  · cases e
  · rw [if_neg (by omega)]
theorem SymsOk.same {B K : Nat} {c : List UInt8} {xs ys : List Sm} (h : SymsOk B K c xs) (h' : SymsOk B K c ys) (hle : ∀ x, x ∈ xs ↔ x ∈ ys) : decodeF B K xs = decodeF B K ys := by
  rcases h.decode with e | e
  · rcases h'.decode with e' | e'
    · rw [e, e']
    · have := h'.more h (fun x hx => (hle x).2 hx) (by rw [e'])
      rw [e] at this; cases this
  · rw [e, h.more h' (fun x hx => (hle x).1 hx) (by rw [e])]
end Go.Proofs.Ytnfjghldcopaaaa
namespace Go.Proofs.Ytnfjghldcopaaaa
open Go.RowKit
theorem pick_eq (w : World) (id : Int) (b : Nat) (h1 : 0 ≤ id) (h2 : id ≤ 9999) (h3 : 1 ≤ b) (h4 : b ≤ 24) :
    Calls Try.prog 29 #[.int .i64 id, .int .i64 (b : Int)] w fun e w' => ∃ A c, e = .returned (.tuple #[.slice A b c, .int .i64 0]) ∧ Sl 1 eBool w' (LT w'.heap.size) A b (pickHas id.toNat b) ∧ Fr w w' := by
  have E : pickOf id (b : Nat) = (pickHas id.toNat b, 0) := by
    unfold pickOf
    rw [if_pos (by omega), Int.toNat_natCast]
  refine (pickOf_any w id b).mono ?_
  rw [E]
  rintro e w' ⟨A, n, c, he, _, hn, hs, hf⟩
  obtain rfl : n = b := by have := hn rfl; omega
  exact ⟨A, c, he, hs, hf⟩
end Go.Proofs.Ytnfjghldcopaaaa
namespace Go.Proofs.Ytnfjghldcopaaaa
open Go.RowKit

set_option maxHeartbeats 2000000 in
theorem cutJoin_body (w : World) (A : Option Addr) (n c B K : Nat) (ls : List (List UInt8)) (h : Sl 1 eBlock w (LT w.heap.size) A n ls) (hck : cutCheck B K = 0) (hn : (n : Int) = blocksOf B K) :
    Calls Try.prog 73 #[.agg #[.int .i64 B, .int .i64 K], .slice A n c] w fun e w' => ∃ A' n' c', e = .returned (.tuple #[.slice A' n' c', .int .i64 (joinUp B K ls).2]) ∧ n' ≤ 360 ∧ n' ≤ c' ∧ c' ≤ maxLen ∧ Sl 1 eByte w' (LT w'.heap.size) A' n' (joinUp B K ls).1 ∧ Fr w w' := by
  obtain ⟨⟨h1, h2⟩, ⟨h3, h4⟩, h5, h6, _⟩ := cutCheck_ok hck
  have CC := Lib.hid (fun W : World => cutCheck_any W (B : Int) (K : Int) (wfI.mk (by omega)) (wfI.mk (by omega)))
  rw [hck] at CC
  have CB := Lib.hid (fun W : World => cutBlocks_any W (B : Int) (K : Int) (wfI.mk (by omega)) (wfI.mk (by omega)))
  rw [← hn] at CB
  have hlen := h.1
  obtain ⟨hm1, hm2⟩ := blocks_hold hck hn
  have hb : 1 ≤ B ∧ B ≤ 360 ∧ 1 ≤ K ∧ K ≤ 16 ∧ 1 ≤ n := by omega
  obtain ⟨hB1, hB2, hK1, hK2, hn1⟩ := hb
  have HN : Hid ((ls.length : Int) = blocksOf B K) := by rw [Hid, hlen]; exact hn
  have hne : ((n : Int) != (n : Int)) = false := by simp
  clear h1 h2 h3 h4 h5 h6 hn
  (have H := Lib.hid h; clear h; have Hck := Lib.hid hck; clear hck; have Hlen := Lib.hid hlen; clear hlen)
  go_enter Try.func73, Try.ntmps73
  go_wp2_with fail
  refine (CC.out _).mono ?_
  rintro e w1 ⟨rfl, hf1⟩
  have hf0 : Fr w w1 := (frAlloc _ _).trans hf1
  obtain ⟨hb0, hb1⟩ := box2 hf1
  (have Hf1 := Lib.hid hf1; clear hf1; have Hf0 := Lib.hid hf0; clear hf0)
  go_wp2_with fail
  refine (CB.out _).mono ?_
  rintro e w2 ⟨rfl, hf2⟩
  have hb0 := (hf2.cell (World.block_lt_of_cell? w1 _ hb0)).trans hb0
  have hb1 := (hf2.cell (World.block_lt_of_cell? w1 _ hb1)).trans hb1
  have hs2 := H.out.go wBlock (Hf0.out.trans hf2)
  (have Hf2 := Lib.hid hf2; clear hf2; have Hs2 := Lib.hid hs2; clear hs2)
  go_wp2_with fail
  go_loopw [7, 24] (fun v i wr => ∃ k : Nat, k ≤ n ∧ i = .int .i64 k ∧ Hid (Own 1 eByte wr w2.heap.size 5 v (ls.take k).flatten) ∧ Hid (∀ b ∈ ls.take k, b.length = K) ∧ Hid (Fr w2 wr)) (fun _ i _ => n - (intOf i).toNat)
  case atStart => exact ⟨0, Nat.zero_le _, rfl, Own.nil, by simp [Hid], Below.refl _ _⟩
  case round =>
    obtain ⟨k, hk, rfl, HO, HL, HF⟩ := hrel
    have hb0' : wr.cell? ⟨w.heap.size, 0, none⟩ = some (.int .i64 B) := (HF.out.cell (World.block_lt_of_cell? w2 _ hb0)).trans hb0
    have hb1' : wr.cell? ⟨w.heap.size, 1, none⟩ = some (.int .i64 K) := (HF.out.cell (World.block_lt_of_cell? w2 _ hb1)).trans hb1
    have hfl : Hid ((ls.take k).flatten.length = k * K) := by
      rw [Hid, length_flatten HL.out, List.length_take, Hlen.out, Nat.min_eq_left hk]
    by_cases hlt : k < n
    · obtain ⟨ad, rfl, hE⟩ := Hs2.out.els (by omega)
      obtain ⟨A', n', c', l, hl, hcl, hm', hs⟩ := hE.block hlt
      have hcw : wr.cell? (ad.add k) = some (.slice A' n' c') := (HF.out.cell (p := ad.add k) (by rw [block_of_add]; exact hE.2.1)).trans hcl
      have hkK : k * K ≤ 24 * 16 := Nat.mul_le_mul (by omega) hK2
      by_cases hnK : n' = K
      · subst hnK
        have hne2 : ((n' : Int) != (n' : Int)) = false := by simp
        obtain ⟨adb, rfl, hbE⟩ := hs.els (by omega)
        have HC : Hid (∀ j u, (l.map bV)[j]? = some u → wr.cell? (adb.add j) = some u) := by
          intro j u hu
          rw [List.getElem?_map] at hu
          obtain ⟨y, hy, rfl⟩ := Option.map_eq_some_iff.1 hu
          refine (HF.out.cell (p := adb.add j) (by rw [block_of_add]; exact hbE.2.1)).trans ?_
          simpa [eByte, bV] using hbE.2.2 j y hy
        have HT : Hid ((ls.take (k + 1)).flatten = (ls.take k).flatten ++ l) := by rw [Hid, take_snoc' hl, List.flatten_append]; simp
        have HL' : Hid (∀ b ∈ ls.take (k + 1), b.length = n') := by
          intro b hb
          rw [take_snoc' hl] at hb
          rcases List.mem_append.1 hb with hb | hb
          · exact HL.out b hb
          · rw [List.mem_singleton.1 hb]; exact hs.1
        have hll := Lib.hid hs.1
        clear hl hcl hs
        go_wp2_with (at_builtin; refine wpList_apps2 _ rfl _ _ 26 27 rfl w2.heap.size 5 (bV 0) 1 1 Try.underlying26 Try.underlying27 infoByte rfl (by decide) sByte _ (ls.take k).flatten rfl HO.out adb n' c' (l.map bV) rfl ?c1 HC.out ?c2 l ?c3 ?c4 ?c5 ?c6 ?c7 ?_)
        case c1 => have := hll.out; simp; omega
        case c2 => intro u hu; obtain ⟨y, _, rfl⟩ := List.mem_map.1 hu; rfl
        case c3 => exact hll.out
        case c4 => intro i x hx; simp [eByte, hx, bV]
        case c5 => have := hfl.out; unfold maxLen; omega
        case c6 => have := hfl.out; unfold lim; omega
        case c7 => exact HF.out.size
        · intro v' w3 ho3 hg3 hge3
          have HO3 : Hid (Own 1 eByte w3 w2.heap.size 5 v' (ls.take (k + 1)).flatten) := by rw [HT.out]; exact ho3
          have HF3 : Hid (Fr w2 w3) := HF.out.grown hg3 HF.out.size hge3
          clear ho3 hg3 hge3 hcw hb0' hb1'
          go_wp2
          go_roundw
          case rel => exact ⟨k + 1, by omega, by go_num, HO3, HL', HF3⟩
          case measure => simp [intOf]; omega
      · have hne2 : ((n' : Int) != (K : Int)) = true := by rw [bne_iff_ne]; omega
        have E : Hid (joinUp B K ls = ([], 4)) := join_form Hck.out HN.out (List.mem_of_getElem? hl) (by rw [hs.1]; omega)
        clear hl hcl hs hnK
        go_wp2_with fail
        go_ret2
        rw [E.out]
        exact ⟨none, 0, 0, rfl, by omega, by omega, by unfold maxLen; omega, Sl.nil, by (repeat' (first | exact Below.refl _ _ | refine below_drewN ?_ _ | refine Below.drew ?_ | refine frA ?_ _ | refine Fr.trans ?_ HF.out | refine Fr.trans ?_ Hf2.out | refine Fr.trans ?_ Hf0.out))⟩
    · obtain rfl : k = n := by omega
      have ht : Hid (ls.take k = ls) := List.take_of_length_le (by have := Hlen.out; omega)
      rw [ht.out] at HO HL hfl
      obtain ⟨X, hX⟩ : ∃ X, X = ls.flatten := ⟨_, rfl⟩
      rw [← hX] at HO hfl
      have HX := Lib.hid hX
      have hkK : k * K ≤ 24 * 16 := Nat.mul_le_mul (by omega) hK2
      obtain ⟨T, hT⟩ : ∃ T, T = k * K := ⟨_, rfl⟩
      rw [← hT] at hfl hkK hm1
      obtain ⟨A2, c2, rfl, ⟨hc1, hc2⟩, hsl⟩ := HO.out.slC sByte (by decide)
      rw [hfl.out] at hsl hc1 ⊢
      have HC := Lib.hid (hsl.cut (k := B) (cap := c2) hm1 hc1)
      have HS := Lib.hid hsl
      have HHL : Hid (∀ b ∈ ls, (b.length : Int) = K) := fun b hb => by rw [HL.out b hb]
      obtain ⟨adX, rfl, hXE⟩ := hsl.els (by omega)
      clear hX hT hsl HL
      have HPRE : Hid (Sl 1 eByte wr (LT wr.heap.size) (some adX) B (X.take B)) := hXE.sl.pre hm1
      by_cases hcB : c2 = B
      · have hTB : T = B := by omega
        have E : Hid (joinUp B K ls = (X.take B, 0)) := by
          rw [HX.out]
          refine join_ok Hck.out HN.out HHL.out fun x hx => ?_
          rw [← HX.out, List.drop_eq_nil_of_le (by have := hfl.out; omega)] at hx
          simp at hx
        subst hTB
        subst hcB
        clear HC
        go_wp2_with fail
        refine wp_loop_rounds 1 ?_
        rw [rounds_succ]
        go_wp2_with fail
        go_ret2
        rw [E.out]
        exact ⟨some adX, c2, c2, rfl, hB2, by omega, hc2, HPRE.out, by (repeat' (first | exact Below.refl _ _ | refine below_drewN ?_ _ | refine Below.drew ?_ | refine frA ?_ _ | refine Fr.trans ?_ HF.out | refine Fr.trans ?_ Hf2.out | refine Fr.trans ?_ Hf0.out))⟩
      · rw [if_neg hcB] at HC
        have HHN := HN
        go_wp2_with fail
        go_loop [42] (fun i => ∃ j : Nat, j ≤ T - B ∧ i = .int .i64 j ∧ Hid (∀ x ∈ (X.drop B).take j, x = 0)) (fun i => (T - B) - (intOf i).toNat)
        case atStart => exact ⟨0, Nat.zero_le _, rfl, by simp [Hid]⟩
        case round =>
          obtain ⟨j, hj, rfl, HZ⟩ := hrel
          by_cases hlt : j < T - B
          · obtain ⟨ad3, had3, hE3⟩ := HC.out.els (by omega)
            obtain rfl : adX.add (B * 1) = ad3 := by simpa using had3
            obtain ⟨x, hx, hcx⟩ := hE3.byte hlt
            rw [Nat.mul_one] at hcx
            by_cases hx0 : x = 0
            · subst hx0
              have HZ' : Hid (∀ x ∈ (X.drop B).take (j + 1), x = 0) := by
                intro y hy
                rw [take_snoc' hx] at hy
                rcases List.mem_append.1 hy with hy | hy
                · exact HZ.out y hy
                · exact List.mem_singleton.1 hy
              have hcx2 : wr.cell? ((adX.add B).add j) = some (.int .u8 0) := hcx
              clear hx hcx had3
              go_wp2_with fail
              go_round
              case rel => exact ⟨j + 1, by omega, by go_num, HZ'⟩
              case measure => simp [intOf]; omega
            · have hxb : ((x.toNat : Int) != 0) = true := by
                rw [bne_iff_ne]; intro e; exact hx0 (UInt8.toNat_inj.1 (by simpa using e))
              have E : Hid (joinUp B K ls = ([], 4)) := join_behind Hck.out HN.out HHL.out (by rw [← HX.out]; exact hx) hx0
              clear hx had3 hx0
              go_wp2_with fail
              go_ret2
              rw [E.out]
              exact ⟨none, 0, 0, rfl, by omega, by omega, by unfold maxLen; omega, Sl.nil, by (repeat' (first | exact Below.refl _ _ | refine below_drewN ?_ _ | refine Below.drew ?_ | refine frA ?_ _ | refine Fr.trans ?_ HF.out | refine Fr.trans ?_ Hf2.out | refine Fr.trans ?_ Hf0.out))⟩
          · have E : Hid (joinUp B K ls = (X.take B, 0)) := by
              rw [HX.out]
              refine join_ok Hck.out HN.out HHL.out fun x hx => HZ.out x ?_
              rw [List.take_of_length_le (by rw [List.length_drop, hfl.out]; omega), HX.out]
              exact hx
            clear HC
            go_wp2_with fail
            go_ret2
            rw [E.out]
            exact ⟨some adX, B, B, rfl, hB2, by omega, by unfold maxLen; omega, HPRE.out, by (repeat' (first | exact Below.refl _ _ | refine below_drewN ?_ _ | refine Below.drew ?_ | refine frA ?_ _ | refine Fr.trans ?_ HF.out | refine Fr.trans ?_ Hf2.out | refine Fr.trans ?_ Hf0.out))⟩

set_option maxHeartbeats 400000 in
/-- What cut.Join answers. -/
theorem cutJoin_any (w : World) (A : Option Addr) (n c : Nat) (B K : Int) (ls : List (List UInt8)) (h : Sl 1 eBlock w (LT w.heap.size) A n ls) (wB : wfI B) (wK : wfI K) :
    Calls Try.prog 73 #[.agg #[.int .i64 B, .int .i64 K], .slice A n c] w fun e w' => ∃ A' n' c', e = .returned (.tuple #[.slice A' n' c', .int .i64 (joinUp B K ls).2]) ∧ n' ≤ 360 ∧ n' ≤ c' ∧ c' ≤ maxLen ∧ Sl 1 eByte w' (LT w'.heap.size) A' n' (joinUp B K ls).1 ∧ Fr w w' := by
  have hl := h.1
  by_cases hck : cutCheck B K = 0
  · obtain ⟨b, rfl⟩ := Int.eq_ofNat_of_zero_le (show 0 ≤ B by have := (cutCheck_ok hck).1; omega)
    obtain ⟨k, rfl⟩ := Int.eq_ofNat_of_zero_le (show 0 ≤ K by have := (cutCheck_ok hck).2.1; omega)
    by_cases hn : (n : Int) = blocksOf b k
    · exact cutJoin_body w A n c b k ls h hck hn
    · have E : Hid (joinUp b k ls = ([], 8)) := join_short hck (by rw [hl]; exact hn)
      have CC := Lib.hid (fun W : World => cutCheck_any W b k wB wK)
      rw [hck] at CC
      have CB := Lib.hid (fun W : World => cutBlocks_any W b k wB wK)
      obtain ⟨q, hq⟩ : ∃ q, q = blocksOf b k := ⟨_, rfl⟩
      rw [← hq] at hn CB
      have hne : ((n : Int) != q) = true := by rw [bne_iff_ne]; exact hn
      clear hck hn hl h hq
      go_enter Try.func73, Try.ntmps73
      go_wp2_with fail
      refine (CC.out _).mono ?_
      rintro e w1 ⟨rfl, hf1⟩
      have hf0 : Fr w w1 := (frAlloc _ _).trans hf1
      obtain ⟨hb0, hb1⟩ := box2 hf1
      (have Hf1 := Lib.hid hf1; clear hf1; have Hf0 := Lib.hid hf0; clear hf0)
      go_wp2_with fail
      refine (CB.out _).mono ?_
      rintro e w2 ⟨rfl, hf2⟩
      (have Hf2 := Lib.hid hf2; clear hf2)
      go_wp2_with fail
      go_ret2
      rw [E.out]
      exact ⟨none, 0, 0, rfl, by omega, by omega, by unfold maxLen; omega, Sl.nil, by (repeat' (first | exact Below.refl _ _ | refine below_drewN ?_ _ | refine Below.drew ?_ | refine frA ?_ _ | refine Fr.trans ?_ Hf2.out | refine Fr.trans ?_ Hf0.out))⟩
  · have E : Hid (joinUp B K ls = ([], cutCheck B K)) := join_err hck
    have CC := Lib.hid (fun W : World => cutCheck_any W B K wB wK)
    have hne : (cutCheck B K != 0) = true := by rw [bne_iff_ne]; exact hck
    clear hck hl h
    go_enter Try.func73, Try.ntmps73
    go_wp2_with fail
    refine (CC.out _).mono ?_
    rintro e w1 ⟨rfl, hf1⟩
    have hf0 : Fr w w1 := (frAlloc _ _).trans hf1
    (have Hf1 := Lib.hid hf1; clear hf1; have Hf0 := Lib.hid hf0; clear hf0)
    go_wp2_with fail
    go_ret2
    rw [E.out]
    exact ⟨none, 0, 0, rfl, by omega, by omega, by unfold maxLen; omega, Sl.nil, Hf0.out⟩
end Go.Proofs.Ytnfjghldcopaaaa
namespace Go.Proofs.Ytnfjghldcopaaaa
open Go.RowKit
attribute [local irreducible] wpList

/-- What solve.Decode leaves. -/
def DecPost (w : World) (x : List UInt8 × Int) (e : Ending) (w' : World) : Prop :=
  ∃ A n c, e = .returned (.tuple #[.slice A n c, .int .i64 x.2]) ∧ (n ≤ 360 ∧ n ≤ c ∧ c ≤ maxLen) ∧ Sl 1 eByte w' (LT w'.heap.size) A n x.1 ∧ Fr w w'
theorem decPost_err {w w' : World} {x : List UInt8 × Int} {e : Int} (E : x = ([], e)) (hf : Fr w w') : DecPost w x (.returned (.tuple #[.slice none 0 0, .int .i64 e])) w' := by
  subst E
  exact ⟨none, 0, 0, rfl, ⟨by omega, by omega, by unfold maxLen; omega⟩, Sl.nil, hf⟩

theorem set3_far {w : World} {g q o : Nat} {a b c : Value} (h : g ≠ q) : (((w.setCell ⟨g, 0, none⟩ a).setCell ⟨g, 1, none⟩ b).setCell ⟨g, 2, none⟩ c).cell? ⟨q, o, none⟩ = w.cell? ⟨q, o, none⟩ := by
  rw [World.cell?_setCell_other _ _ _ _ (fun e => by injection e with e; exact h e), set2_far h]
set_option maxRecDepth 100000 in
set_option maxHeartbeats 4000000 in
theorem decode_good (w : World) (B : Int) (K b : Nat) (A : Option Addr) (n c : Nat) (xs : List Sm) (h : Sl 2 eSm w (LT w.heap.size) A n xs) (hn : n ≤ 60) (hck : cutCheck B K = 0) (hb : blocksOf B K = b) :
    Calls Try.prog 34 #[.agg #[.int .i64 B, .int .i64 K], .slice A n c] w (DecPost w (decodeF B K xs)) := by
  obtain ⟨⟨c1, c2⟩, ⟨c3, c4⟩, c5, c6, c7⟩ := cutCheck_ok hck
  have hd60 : decide ((60 : Int) < (n : Int)) = false := by simp; omega
  have hd61 : decide (60 < n) = false := by simp; omega
  have hlen := h.1
  have D0 : Hid (decodeF B K xs = if (decRows b B K [] xs).2 ≠ 0 then ([], (decRows b B K [] xs).2) else if (decRows b B K [] xs).1.length < b then ([], 8) else joinUp B K (knownF b (decRows b B K [] xs).1)) := by
    unfold decodeF Hid
    rw [if_neg (by simp [hck]), if_neg (by omega), hb, Int.toNat_natCast]
  have b1 : 1 ≤ b := by omega
  have b2 : b ≤ 24 := by omega
  have K1 : 1 ≤ K := by omega
  have K2 : K ≤ 16 := by omega
  have wB : wfI B := wfI.mk (by omega)
  have wK : wfI (K : Int) := wfI.mk (by omega)
  have wb : wfI (b : Int) := wfI.mk (by omega)
  have EN : Hid (sysNew b K = (⟨b, K, []⟩, 0)) := by
    unfold sysNew Hid
    rw [if_neg (by simp [sysCheck_of (rows := []) (by omega : 1 ≤ b ∧ b ≤ 24) (by omega : 1 ≤ K ∧ K ≤ 16) (made_nil b K).sys])]
  have CB : Hid (∀ W : World, Calls Try.prog 41 #[.agg #[.int .i64 B, .int .i64 K]] W fun e w' => e = .returned (.int .i64 (b : Int)) ∧ Fr W w') := fun W => by
    have := cutBlocks_any W B K wB wK
    rw [hb] at this; exact this
  have CN : Hid (∀ W : World, Calls Try.prog 14 #[.int .i64 (b : Int), .int .i64 (K : Int)] W fun e w' => e = .returned (.tuple #[.agg #[.int .i64 (b : Int), .int .i64 (K : Int), .slice none 0 0], .int .i64 0]) ∧ Fr W w') := fun W => by
    have := solNew_any W b K wb wK
    rw [EN.out] at this; exact this
  have HCK := Lib.hid hck
  have HL := Lib.hid hlen
  (have H := Lib.hid h; clear h)
  clear hck hb hlen c1 c2 c3 c4 c5 c6 c7
  go_enter Try.func34, Try.ntmps34
  go_wp2_with fail
  (with_reducible refine (cutCheck_any _ _ _ wB wK).mono ?_)
  rw [HCK.out]
  rintro e v1 ⟨rfl, hf⟩
  have HP1 : Hid (v1.heap[w.heap.size]? = some (.cells #[.int .i64 B, .int .i64 K] 47 (0, 0))) := blk_go (by (repeat' (with_reducible (first | (refine heap_new ?_; (first | (simp; done) | rfl); done) | refine heap_dn ?_ | refine heap_d ?_ | refine heap_old ?_)))) hf
  have HF1 : Hid (Fr w v1) := Fr.trans (by (repeat' (first | exact Below.refl _ _ | refine below_drewN ?_ _ | refine Below.drew ?_ | refine frA ?_ _))) hf
  have hp1 := HP1.out
  (obtain ⟨x0, x1⟩ := box2_ hp1)
  have hwl := (Array.getElem?_eq_some_iff.1 hp1).1
  clear hf hp1
  go_upto_region 6 with fail
  go_cut [7] (fun s7 wx => ∃ g : Nat, s7 = .pointer (some ⟨g, 0, none⟩) ∧ Hid (wx.heap[g]? = some (.cells #[.int .i64 b, .int .i64 K, .slice none 0 0] 24 (0, 0))) ∧ Hid (v1.heap.size ≤ g) ∧ Hid (Fr v1 wx))
  case first =>
    have HB : Hid (v1.drew.heap[w.heap.size]? = some (.cells #[.int .i64 B, .int .i64 K] 47 (0, 0))) := HP1.out
    have HG : Hid (Fr v1 v1.drew) := (Below.refl _ _).drew
    go_region_held3 (fun w' => w'.cell? ⟨w.heap.size, 0, none⟩ = some (.int .i64 B) ∧ w'.cell? ⟨w.heap.size, 1, none⟩ = some (.int .i64 K)) (first | exact box2_ HB.out | exact box2_ (heap_old HB.out) | exact ⟨(set3_far NE).trans (cell_of_heap HB.out), (set3_far NE).trans (cell_of_heap HB.out)⟩ | go_keep)
      (first
        | (go_at_call 41; (with_reducible refine (CB.out v1.drew).mono ?_); rintro e w5 ⟨rfl, hf5⟩; have HB := Lib.hid (blk_go HB.out hf5); have HG := Lib.hid (HG.out.trans hf5); clear hf5)
        | (go_at_call 41; (with_reducible refine (CB.out (v1.alloc (.cells #[.int .i64 0, .int .i64 0, .slice none 0 0] 24)).drew).mono ?_); rintro e w5 ⟨rfl, hf5⟩; have HGZ := Lib.hid (blk_go (heap_d (w := v1.alloc (.cells #[.int .i64 0, .int .i64 0, .slice none 0 0] 24)) (heap_new (b := v1.heap.size) rfl)) hf5); have HB := Lib.hid (blk_go (heap_d (w := v1.alloc (.cells #[.int .i64 0, .int .i64 0, .slice none 0 0] 24)) (heap_old HP1.out)) hf5); have HG := Lib.hid (Fr.trans (frAlloc v1 (.cells #[.int .i64 0, .int .i64 0, .slice none 0 0] 24)).drew hf5); obtain ⟨gz, hgz⟩ : ∃ gz, gz = v1.heap.size := ⟨_, rfl⟩; have HGE : Hid (v1.heap.size ≤ gz) := Nat.le_of_eq hgz.symm; rw [← hgz] at HGZ; rw [← hgz]; clear hf5 hgz)
        | (go_at_call 14; (with_reducible refine (CN.out w5).mono ?_); rintro e w6 ⟨rfl, hf5⟩; have HB := Lib.hid (blk_go HB.out hf5); have HGZ := Lib.hid (blk_go HGZ.out hf5); have HG := Lib.hid (HG.out.trans hf5); have y0 := cell_of_heap (i := 0) HGZ.out; have y1 := cell_of_heap (i := 1) HGZ.out; have y2 := cell_of_heap (i := 2) HGZ.out; have f0 := blk_free (i := 0) HGZ.out; have f1 := blk_free (i := 1) HGZ.out; have f2 := blk_free (i := 2) HGZ.out; have hgl := (Array.getElem?_eq_some_iff.1 HGZ.out).1; have NE : gz ≠ w.heap.size := Nat.ne_of_gt (Nat.lt_of_lt_of_le hwl HGE.out); clear hf5)
        | (go_at_call 14; (with_reducible refine (CN.out w5).mono ?_); rintro e w6 ⟨rfl, hf5⟩; have HB := Lib.hid (blk_go HB.out hf5); have HG := Lib.hid (HG.out.trans hf5); clear hf5)
        | (go_at_call 14; (with_reducible refine (CN.out (w5.alloc (.cells #[.int .i64 0, .int .i64 0, .slice none 0 0] 24))).mono ?_); rintro e w6 ⟨rfl, hf5⟩; obtain ⟨gz, hgz⟩ : ∃ gz, gz = w5.heap.size := ⟨_, rfl⟩; have HGZ := Lib.hid (blk_go (heap_new (w := w5) (o := (.cells #[.int .i64 0, .int .i64 0, .slice none 0 0] 24)) hgz) hf5); have HB := Lib.hid (blk_go (heap_old (o := (.cells #[.int .i64 0, .int .i64 0, .slice none 0 0] 24)) HB.out) hf5); have HGE : Hid (v1.heap.size ≤ gz) := (by rw [hgz]; exact HG.out.size); have HG := Lib.hid ((HG.out.trans (frAlloc w5 (.cells #[.int .i64 0, .int .i64 0, .slice none 0 0] 24))).trans hf5); rw [← hgz]; have y0 := cell_of_heap (i := 0) HGZ.out; have y1 := cell_of_heap (i := 1) HGZ.out; have y2 := cell_of_heap (i := 2) HGZ.out; have f0 := blk_free (i := 0) HGZ.out; have f1 := blk_free (i := 1) HGZ.out; have f2 := blk_free (i := 2) HGZ.out; have hgl := (Array.getElem?_eq_some_iff.1 HGZ.out).1; have NE : gz ≠ w.heap.size := Nat.ne_of_gt (Nat.lt_of_lt_of_le hwl HGE.out); clear hf5 hgz)
        | fail)
    all_goals first
      | (have hst : Hid ((((w6.setCell ⟨gz, 0, none⟩ (.int .i64 b)).setCell ⟨gz, 1, none⟩ (.int .i64 K)).setCell ⟨gz, 2, none⟩ (.slice none 0 0)).heap[gz]? = some (.cells #[.int .i64 b, .int .i64 K, .slice none 0 0] 24 (0, 0))) := stor3_ HGZ.out
         have hfr : Hid (Fr v1 (((w6.setCell ⟨gz, 0, none⟩ (.int .i64 b)).setCell ⟨gz, 1, none⟩ (.int .i64 K)).setCell ⟨gz, 2, none⟩ (.slice none 0 0))) := bel3_ HG.out HGE.out
         go_wp2_with fail
         go_meet
         exact ⟨gz, rfl, hst, HGE, hfr⟩)
      | (have hge : Hid (v1.heap.size ≤ w6.heap.size) := HG.out.size
         have hfr : Hid (Fr v1 (w6.alloc (.cells #[.int .i64 b, .int .i64 K, .slice none 0 0] 24))) := HG.out.trans (frAlloc _ _)
         go_wp2_with fail
         go_meet
         exact ⟨_, rfl, heap_new rfl, hge, hfr⟩)
  case rest =>
    obtain ⟨p7, rfl, HB2, HG2, HF2⟩ := hcut
    obtain ⟨W2, rfl⟩ : ∃ W2, W2 = wc := ⟨_, rfl⟩
    have HWP : Hid (w.heap.size < p7) := Nat.lt_of_lt_of_le hwl HG2.out
    have HP2 := Lib.hid (blk_go HP1.out HF2.out)
    have HFW : Hid (Fr w W2) := HF1.out.trans HF2.out
    have hwp := HWP.out
    clear HP1 x0 x1
    go_wp2_with fail
    go_loopw [37] (fun s37 wr => ∃ (i : Nat) (rows : List Rw) (A9 : Option Addr) (n9 c9 : Nat), i ≤ n ∧ s37 = .int .i64 i ∧ Hid (wr.heap[p7]? = some (.cells #[.int .i64 b, .int .i64 K, .slice A9 n9 c9] 24 (0, 0))) ∧ (n9 ≤ 24 ∧ n9 ≤ c9 ∧ c9 ≤ maxLen) ∧ Hid (Sl 2 eRw wr (LT wr.heap.size) A9 n9 rows) ∧ Hid (Sys b K rows) ∧ Hid (decRows b B K [] xs = decRows b B K rows (xs.drop i)) ∧ Hid (Fr w wr) ∧ Hid (wr.heap[w.heap.size]? = some (.cells #[.int .i64 B, .int .i64 K] 47 (0, 0)))) (fun i _ => n - (intOf i).toNat)
    case atStart => exact ⟨0, [], none, 0, 0, Nat.zero_le _, rfl, HB2, ⟨by omega, by omega, by unfold maxLen; omega⟩, Sl.nil, (made_nil b K).sys, rfl, HFW, HP2⟩
    case round =>
      obtain ⟨i, rows, A9, n9, c9, hi, rfl, HB, ⟨hn9, hc9, hm9⟩, HR, HS, HD, HF, HP⟩ := hrel
      have hpw := HP.out
      (obtain ⟨x0, x1⟩ := box2_ hpw)
      have hbw := HB.out
      (obtain ⟨y0, y1, y2⟩ := box3_ hbw)
      have hwr7 := (Array.getElem?_eq_some_iff.1 hbw).1
      have hwr0 := (Array.getElem?_eq_some_iff.1 hpw).1
      clear hpw hbw
      by_cases hlt : i < n
      · obtain ⟨ad, rfl, hE⟩ := (H.out.go sSm HF.out).els (by omega)
        obtain ⟨x, hx, hrx⟩ := hE.row hlt
        obtain ⟨A3, n3, c3, ⟨m0, m1⟩, wx, ⟨k1, k2, k3⟩, hby⟩ := eSm_iff.1 hrx
        have m0 : wr.cell? (ad.add (i * 2)) = some (.int .i64 x.id) := by simpa [Addr.add] using m0
        have m1 : wr.cell? ⟨(ad.add (i * 2)).block, (ad.add (i * 2)).off + 1, none⟩ = some (.slice A3 n3 c3) := by simpa [Addr.add] using m1
        have HDX : Hid (decRows b B K [] xs = decRows b B K rows (x :: xs.drop (i + 1))) := by rw [Hid, HD.out, drop_cons hx]
        have hdl := hby.1
        obtain ⟨q, hq⟩ : ∃ q, q = wr.heap.size := ⟨_, rfl⟩
        obtain ⟨W4, hW4⟩ : ∃ W4, W4 = wr.alloc (.cells #[.int .i64 x.id, .slice A3 n3 c3] 53) := ⟨_, rfl⟩
        have HX4 : Hid (W4.heap[q]? = some (.cells #[.int .i64 x.id, .slice A3 n3 c3] 53 (0, 0))) := by rw [hW4]; exact heap_new hq
        have HB4 : Hid (W4.heap[p7]? = some (.cells #[.int .i64 b, .int .i64 K, .slice A9 n9 c9] 24 (0, 0))) := by rw [hW4]; exact heap_old HB.out
        have HP4 : Hid (W4.heap[w.heap.size]? = some (.cells #[.int .i64 B, .int .i64 K] 47 (0, 0))) := by rw [hW4]; exact heap_old HP.out
        have HF4 : Hid (Fr wr W4) := by rw [hW4]; exact frAlloc _ _
        have HQ := Lib.hid hq
        have HW4 := Lib.hid hW4
        obtain ⟨ck, hck⟩ : ∃ ck, ck = codeCheck B K x.id n3 := ⟨_, rfl⟩
        have CC := Lib.hid (fun W A c => codeCheck_any W B K x.id A n3 c wB wK)
        rw [← hck] at CC
        have HCK2 : Hid (codeCheck B K x.id x.data.length = ck) := by rw [Hid, hdl, hck]
        have HBY := Lib.hid hby
        (have Hdl := Lib.hid hdl; clear hdl; have Hck := Lib.hid hck; clear hck)
        clear hrx hE hx k1 k2 k3 hby hq hW4 wx HD
        go_wp2_with fail
        rw [← HW4.out, ← HQ.out]
        clear x0 x1 y0 y1 y2 m0 m1 HW4
        (with_reducible refine (CC.out _ _ _).mono ?_)
        rintro e v5 ⟨rfl, hf⟩
        have HX5 := Lib.hid (blk_go HX4.out hf)
        have HB5 := Lib.hid (blk_go HB4.out hf)
        have HP5 := Lib.hid (blk_go HP4.out hf)
        have HF5 : Hid (Fr wr v5) := HF4.out.trans hf
        clear hf HX4 HB4 HP4 HF4 CC
        by_cases hc0 : ck = 0
        · have e1 : (ck != 0) = false := by simp [hc0]
          have hcc := codeCheck_ok (HCK2.out.trans hc0)
          obtain ⟨hid1, hid2⟩ := hcc.2.1
          have hfx : Fit b K (symRow b x) := ⟨length_pickHas _ _, by have := hcc.2.2; show x.data.length = K; omega⟩
          have HD2 : Hid (decRows b B K [] xs = if (sysAdd ⟨b, K, rows⟩ (symRow b x)).2.2 ≠ 0 then ([], (sysAdd ⟨b, K, rows⟩ (symRow b x)).2.2) else decRows b B K (sysAdd ⟨b, K, rows⟩ (symRow b x)).1.rows (xs.drop (i + 1))) := by
            rw [Hid, HDX.out, decRows, if_neg (by rw [HCK2.out, hc0]; simp)]
          obtain ⟨b', k', rows', mo, er, hadd⟩ : ∃ b' k' rows' mo er, sysAdd ⟨b, K, rows⟩ (symRow b x) = (⟨b', k', rows'⟩, mo, er) := ⟨_, _, _, _, _, rfl⟩
          have EA := Lib.hid hadd
          rw [hadd] at HD2
          have HS' : Hid (er = 0 → b' = (b : Int) ∧ k' = (K : Int) ∧ Sys b K rows') := fun h0 => by
            obtain ⟨b2, k2, e2, e3, _, _, _, hs2, _, e4, e5, hcase⟩ := sysAdd_ok0 (B := (b : Int)) (K := (K : Int)) (rows := rows) (r := symRow b x) (by rw [hadd]; exact h0)
            rw [hadd] at e4 e5 hcase
            simp only [] at e4 e5 hcase
            obtain rfl : b2 = b := by omega
            obtain rfl : k2 = K := by omega
            refine ⟨e4, e5, ?_⟩
            rcases hcase with ⟨rfl, _⟩ | ⟨_, rfl, _, _, hs3, _⟩
            · exact hs2
            · exact hs3
          have hx5 := HX5.out
          (obtain ⟨z0, z1⟩ := box2_ hx5)
          have hb5 := HB5.out
          (obtain ⟨y0, y1, y2⟩ := box3_ hb5)
          clear hx5 hb5 hc0 hcc hfx hadd HDX HCK2
          go_wp2_with fail
          (with_reducible refine (pick_eq _ _ _ hid1 hid2 b1 b2).mono ?_)
          rintro e v6 ⟨A6, c6, rfl, hs6, hf⟩
          have HX6 := Lib.hid (blk_go HX5.out hf)
          have HB6 := Lib.hid (blk_go HB5.out hf)
          have HP6 := Lib.hid (blk_go HP5.out hf)
          have HF6 : Hid (Fr wr v6) := HF5.out.trans hf
          have HS6 := Lib.hid hs6
          have hx6 := HX6.out
          (obtain ⟨z0, z1⟩ := box2_ hx6)
          have hb6 := HB6.out
          (obtain ⟨y0, y1, y2⟩ := box3_ hb6)
          have hp96 := (Array.getElem?_eq_some_iff.1 hb6).1
          have hrm : n9 ≤ maxLen := by omega
          clear hf hs6 hx6 hb6 HX5 HB5 HP5 HF5
          go_wp2_with fail
          (with_reducible refine (solAdd_eq _ _ _ wb wK _ _ _ rows (HR.out.go sRw HF6.out) hrm (symRow b x) _ _ _ _ _ _ HS6.out (HBY.out.go sByte HF6.out) _ _ _ _ _ EA.out).mono ?_)
          rintro e v7 ⟨A10, n10, c10, rfl, ⟨hn10, hc10, hm10⟩, hs10, hf⟩
          have HF7 : Hid (Fr wr v7) := HF6.out.trans hf
          by_cases he0 : er = 0
          · subst he0
            obtain ⟨rfl, rfl, hsys⟩ := HS'.out rfl
            have HD3 : Hid (decRows b B K [] xs = decRows b B K rows' (xs.drop (i + 1))) := by rw [Hid, HD2.out, if_neg (by simp)]
            have hb7 := blk_go HB6.out hf
            have hp7 := blk_go HP6.out hf
            (obtain ⟨y0, y1, y2⟩ := box3_ hb7)
            have yf0 := blk_free (i := 0) hb7
            have yf1 := blk_free (i := 1) hb7
            have yf2 := blk_free (i := 2) hb7
            have hbl7 := (Array.getElem?_eq_some_iff.1 hb7).1
            obtain ⟨W8, hW8⟩ : ∃ W8, W8 = (((v7.setCell ⟨p7, 0, none⟩ (.int .i64 b)).setCell ⟨p7, 1, none⟩ (.int .i64 K)).setCell ⟨p7, 2, none⟩ (.slice A10 n10 c10)).alloc (.cells #[.int .i64 b, .int .i64 K, .slice A10 n10 c10] 24) := ⟨_, rfl⟩
            have HB8 : Hid (W8.heap[p7]? = some (.cells #[.int .i64 b, .int .i64 K, .slice A10 n10 c10] 24 (0, 0))) := by rw [hW8]; exact heap_old (stor3_ hb7)
            have hC8 : Chg (fun x => x = p7) v7 W8 := by rw [hW8]; exact (Chg.of (grw3_ ⟨rfl, rfl, rfl, Nat.le_refl _, fun _ _ _ => rfl⟩)).trans (frAlloc _ _).chg
            have HP8 : Hid (W8.heap[w.heap.size]? = some (.cells #[.int .i64 B, .int .i64 K] 47 (0, 0))) := hC8.blk hp7 (by omega)
            have HR8 : Hid (Sl 2 eRw W8 (LT W8.heap.size) A10 n10 rows') := by
              have q2 := hs10.chg sRw hC8 fun bb hb => ⟨hb.2, fun e => by have := hb.1; omega⟩
              exact q2.more sRw fun bb hb => Nat.lt_of_lt_of_le hb.2 hC8.size
            have HF8 : Hid (Fr w W8) := hC8.fr (HF.out.trans HF7.out) fun bb hb => by rw [hb]; omega
            have HSY := Lib.hid hsys
            rw [hW8] at HB8 HP8 HR8 HF8
            clear hf hb7 hp7 hs10 hC8 hW8 HB6 HX6 HP6 z0 z1 HS6 HBY hsys HS' HD2 EA
            go_wp2_with fail
            go_roundw
            case rel => exact ⟨i + 1, rows', A10, n10, c10, by omega, by go_num, HB8, ⟨hn10, hc10, hm10⟩, HR8, HSY, HD3, HF8, HP8⟩
            case measure => simp [intOf]; omega
          · have e2 : (er != 0) = true := by simp [he0]
            have ED : Hid (decodeF B K xs = ([], er)) := by
              rw [Hid, D0.out, HD2.out, if_pos he0]
              exact if_pos he0
            clear he0 hf hs10 HS' HD2 EA
            go_wp2_with fail
            go_ret2
            exact decPost_err ED.out ((HF.out.trans HF7.out).trans (frAlloc _ _))
        · have e1 : (ck != 0) = true := by simp [hc0]
          have ED : Hid (decodeF B K xs = ([], ck)) := by
            rw [Hid, D0.out, HDX.out, decRows, HCK2.out, if_pos hc0]
            exact if_pos hc0
          clear hc0 HDX HCK2
          go_wp2_with fail
          go_ret2
          exact decPost_err ED.out (HF.out.trans HF5.out)
      · obtain rfl : i = n := by omega
        have hde : xs.drop i = [] := List.drop_eq_nil_of_le (by rw [HL.out]; exact Nat.le_refl _)
        have HD2 : Hid (decRows b B K [] xs = (rows, 0)) := by rw [Hid, HD.out, hde]; rfl
        have hrl : rows.length = n9 := HR.out.1
        have D1 : Hid (decodeF B K xs = if n9 < b then ([], 8) else joinUp B K (knownF b rows)) := by
          rw [Hid, D0.out, HD2.out, if_neg (by simp), hrl]
        have hck8 : Hid (sysCheck (b : Int) K rows = 0) := sysCheck_of (by omega) ⟨K1, K2⟩ HS.out
        clear hde hrl HD HD2 D0
        by_cases hfull : n9 < b
        · have ED : Hid (decodeF B K xs = ([], 8)) := by rw [Hid, D1.out, if_pos hfull]
          go_wp2_with fail
          go_ret2
          exact decPost_err ED.out HF.out
        · have ED : Hid (decodeF B K xs = joinUp B K (knownF b rows)) := by rw [Hid, D1.out, if_neg hfull]
          go_wp2_with fail
          (with_reducible refine (solKnown_eq _ _ _ _ _ _ rows HR.out hck8.out).mono ?_)
          rintro e v9 ⟨g1, m1, rfl, hm1, hm24, hk1, hf⟩
          obtain rfl : m1 = b := by omega
          have hp9 := blk_go HP.out hf
          (obtain ⟨x0, x1⟩ := box2_ hp9)
          have HF9 : Hid (Fr w v9) := HF.out.trans hf
          have HK1 := Lib.hid hk1.nb
          clear hf hp9 hk1 hm1
          go_wp2_with fail
          (with_reducible refine (cutJoin_any _ _ _ _ _ _ (knownF m1 rows) HK1.out wB wK).mono ?_)
          rintro e v10 ⟨A11, n11, c11, rfl, hn11, hc11, hm11, hs11, hf⟩
          have HF10 : Hid (Fr w v10) := HF9.out.trans hf
          have HS11 := Lib.hid hs11
          clear hf hs11
          go_wp2_with fail
          go_ret2
          rw [ED.out]
          exact ⟨A11, n11, c11, rfl, ⟨hn11, hc11, hm11⟩, HS11.out, HF10.out⟩

set_option maxRecDepth 100000 in
set_option maxHeartbeats 1000000 in
theorem decode_any (w : World) (B K : Int) (wB : wfI B) (wK : wfI K) (A : Option Addr) (n c : Nat) (xs : List Sm) (h : Sl 2 eSm w (LT w.heap.size) A n xs) (hnm : n ≤ maxLen) :
    Calls Try.prog 34 #[.agg #[.int .i64 B, .int .i64 K], .slice A n c] w (DecPost w (decodeF B K xs)) := by
  by_cases hck : cutCheck B K = 0
  · obtain ⟨c1, c2, c3, c4, _⟩ := cutCheck_ok hck
    by_cases hn : n ≤ 60
    · obtain ⟨k, rfl⟩ := Int.eq_ofNat_of_zero_le (show 0 ≤ K by omega)
      obtain ⟨b, hb⟩ := Int.eq_ofNat_of_zero_le (show 0 ≤ blocksOf B k by omega)
      exact decode_good w B k b A n c xs h hn hck hb
    · have ED : Hid (decodeF B K xs = ([], 2)) := by
        unfold decodeF Hid
        rw [if_neg (by simp [hck]), if_pos (by rw [h.1]; omega)]
      have hn1 : decide ((60 : Int) < (n : Int)) = true := by simp; omega
      have hn2 : decide (60 < n) = true := by simp; omega
      have HC := Lib.hid hck
      unfold maxLen at hnm
      clear h hck c1 c2 c3 c4 hn
      go_enter Try.func34, Try.ntmps34
      go_wp2_with fail
      (with_reducible refine (cutCheck_any _ _ _ wB wK).mono ?_)
      rw [HC.out]
      rintro e v1 ⟨rfl, hf⟩
      have HF1 : Hid (Fr w v1) := Fr.trans (by (repeat' (first | exact Below.refl _ _ | refine below_drewN ?_ _ | refine Below.drew ?_ | refine frA ?_ _))) hf
      clear hf
      go_wp2_with fail
      go_ret2
      exact decPost_err ED.out HF1.out
  · obtain ⟨ck, hk⟩ : ∃ ck, ck = cutCheck B K := ⟨_, rfl⟩
    have ED : Hid (decodeF B K xs = ([], ck)) := by
      unfold decodeF Hid
      rw [if_pos hck, hk]
    have e1 : (ck != 0) = true := by rw [hk, bne_iff_ne]; exact hck
    (have Hk := Lib.hid hk; clear hk)
    clear h hck
    go_enter Try.func34, Try.ntmps34
    go_wp2_with fail
    (with_reducible refine (cutCheck_any _ _ _ wB wK).mono ?_)
    rw [← Hk.out]
    rintro e v1 ⟨rfl, hf⟩
    have HF1 : Hid (Fr w v1) := Fr.trans (by (repeat' (first | exact Below.refl _ _ | refine below_drewN ?_ _ | refine Below.drew ?_ | refine frA ?_ _))) hf
    clear hf
    go_wp2_with fail
    go_ret2
    exact decPost_err ED.out HF1.out
end Go.Proofs.Ytnfjghldcopaaaa
namespace Go.Proofs.Ytnfjghldcopaaaa
open Go.RowKit
attribute [local irreducible] wpList

theorem idxF_at {xs : List Bool} {i : Nat} (h : xs[i]? = some true) (hb : ∀ j, j < i → xs[j]? ≠ some true) : idxF true xs = (i : Int) := by
  rcases idxF_spec true xs with ⟨_, e⟩ | ⟨j, e, e2, e3⟩
  · exact absurd (List.mem_of_getElem? h) e
  · rcases Nat.lt_trichotomy i j with h1 | h1 | h1
    · exact absurd h (e3 i h1)
    · rw [e, h1]
    · exact absurd e2 (hb j h1)
theorem idxF_no {xs : List Bool} (hb : ∀ j, j < xs.length → xs[j]? ≠ some true) : idxF true xs = -1 := by
  rcases idxF_spec true xs with ⟨e, _⟩ | ⟨j, _, e2, _⟩
  · exact e
  · exact absurd e2 (hb j (List.getElem?_eq_some_iff.1 e2).1)

set_option maxRecDepth 100000 in
set_option maxHeartbeats 1000000 in
theorem firstOf_any (w : World) (A A2 : Option Addr) (n c n2 c2 : Nat) (xs : List Bool) (h : Sl 1 eBool w (LT w.heap.size) A n xs) (hm : n ≤ lim) :
    Calls Try.prog 62 #[.agg #[.slice A n c, .slice A2 n2 c2]] w fun e w' => e = .returned (.int .i64 (idxF true xs)) ∧ Fr w w' := by
  unfold lim at hm
  obtain ⟨W1, hW1⟩ : ∃ W1, W1 = w.alloc (.cells #[.slice A n c, .slice A2 n2 c2] 29) := ⟨_, rfl⟩
  have HF1 : Hid (Fr w W1) := by rw [hW1]; exact frAlloc _ _
  have hl := h.1
  have H := Lib.hid (h.go sBool HF1.out)
  have HW1 := Lib.hid hW1
  have HL := Lib.hid hl
  clear h hW1 hl
  go_enter Try.func62, Try.ntmps62
  go_wp2_with fail
  rw [← HW1.out]
  clear HW1
  go_loopw [8] (fun s8 wr => ∃ i : Nat, i ≤ n ∧ s8 = .int .i64 i ∧ Hid (∀ j, j < i → xs[j]? ≠ some true) ∧ Hid (Fr W1 wr)) (fun s8 _ => n - (intOf s8).toNat)
  case atStart => exact ⟨0, Nat.zero_le _, rfl, fun j hj => by omega, Below.refl _ _⟩
  case round =>
    obtain ⟨i, hi, rfl, HN, HF⟩ := hrel
    by_cases hlt : i < n
    · obtain ⟨ad, rfl, hE⟩ := (H.out.go sBool HF.out).els (by omega)
      obtain ⟨b, hb, hc⟩ := hE.bool hlt
      cases b with
      | true =>
        have E : Hid (idxF true xs = (i : Int)) := idxF_at hb HN.out
        clear hE hb
        go_wp2_with fail
        go_ret
        exact ⟨retI E.out.symm, HF1.out.trans HF.out⟩
      | false =>
        have HN2 : Hid (∀ j, j < i + 1 → xs[j]? ≠ some true) := fun j hj => by
          by_cases e : j = i
          · subst e; rw [hb]; simp
          · exact HN.out j (by omega)
        clear hE hb
        go_wp2_with fail
        go_roundw
        case rel => exact ⟨i + 1, by omega, by go_num, HN2, HF⟩
        case measure => simp [intOf]; omega
    · obtain rfl : i = n := by omega
      have E : Hid (idxF true xs = -1) := idxF_no (by rw [HL.out]; exact HN.out)
      go_wp2_with fail
      go_ret
      exact ⟨retI E.out.symm, HF1.out.trans HF.out⟩
end Go.Proofs.Ytnfjghldcopaaaa
namespace Go.Proofs.Ytnfjghldcopaaaa
open Go.RowKit

theorem hq1 {α : Type} {l : List α} {i : Nat} {a : α} : l.toArray.setIfInBounds i a = (l.set i a).toArray := List.setIfInBounds_toArray ..
theorem hq2 {α : Type} {a b : α} {l : List α} : (a :: l).set 0 b = b :: l := rfl
theorem hq3 {α : Type} {a b : α} {l : List α} {i : Nat} : (a :: l).set (i + 1) b = a :: l.set i b := rfl

section
variable {P : Program} {ops : Array Oper} {Q : Exit → Act → World → Prop} {md : Region.Mode} {S : World → Prop}
theorem held_at {i : Nat} {oi : Oper} {rest : List Oper} (hd : ops.toList.drop i = oi :: rest) : ops[i]? = some oi := by
  rw [← Array.getElem?_toList, ← List.head?_drop, hd]; rfl
/-- The beginning, the marks written out. -/
theorem held_begin {id n : Nat} {bs : Array Bool} {a : Act} {w : World} (hn : ops.size = n) (hb : Array.replicate n false = bs) (hm : P.follows .mixedOrders = true) (hS : S w.drew)
    (h : S w.drew → wpAnyH P .any ops Q S n bs a w.drew) : (Code.region id ops true).wp P Q a w := by
  subst hn hb
  exact wp_region_held_drew hm hS h
/-- One that yields its value where S holds. -/
theorem held_take {i : Nat} {oi : Oper} {rest : List Oper} {v : Value} {fuel : Nat} {listed l' : Array Bool} {a a' : Act} {w : World} (hd : ops.toList.drop i = oi :: rest)
    (hs : Region.noSelect ops = true) (hf : Region.free md ops listed i = true) (hr : (Region.ready md ops listed).contains i = true)
    (hQ : ∀ c a w, Q (.panic c) (a.put oi.dst v) w → Q (.panic c) a w) (hw : Region.wanted oi (yielded ops a.tmps) = true) (hv : ∀ w, S w → (execOp a.eval oi).run P w = .ok (.value v) w) (hS : S w)
    (ha : a.put oi.dst v = a') (hl : listed.setIfInBounds i true = l') (h : wpAnyH P md ops Q S fuel l' a' w) : wpAnyH P md ops Q S (fuel + 1) listed a w := by
  subst ha hl
  exact wpAnyH_take (held_at hd) hs hf hr hQ (.inl ⟨hw, hv⟩) hS h
/-- One that isn't wanted. -/
theorem held_skip {i : Nat} {oi : Oper} {rest : List Oper} {fuel : Nat} {listed l' : Array Bool} {a a' : Act} {w : World} (hd : ops.toList.drop i = oi :: rest)
    (hs : Region.noSelect ops = true) (hf : Region.free md ops listed i = true) (hr : (Region.ready md ops listed).contains i = true)
    (hQ : ∀ c a w, Q (.panic c) (a.put oi.dst undef) w → Q (.panic c) a w) (hw : Region.wanted oi (yielded ops a.tmps) = false) (hS : S w)
    (ha : a.put oi.dst undef = a') (hl : listed.setIfInBounds i true = l') (h : wpAnyH P md ops Q S fuel l' a' w) : wpAnyH P md ops Q S (fuel + 1) listed a w := by
  subst ha hl
  exact wpAnyH_take (held_at hd) hs hf hr hQ (.inr ⟨hw, rfl⟩) hS h
/-- One that comes up alone. -/
theorem held_one {i : Nat} {oi : Oper} {rest : List Oper} {fuel : Nat} {listed : Array Bool} {a : Act} {w : World} (hd : ops.toList.drop i = oi :: rest) (hr : Region.ready md ops listed = [i])
    (h : ∀ K' : Act → World → Prop, Shut (∀ a w, S w → (S w → wpAnyH P md ops Q S fuel (listed.setIfInBounds i true) a w) → K' a w) → if Region.wanted oi (yielded ops a.tmps) = true then Oper.wp P oi a w K' Q else K' (a.put oi.dst undef) w) : wpAnyH P md ops Q S (fuel + 1) listed a w :=
  wpAnyH_ready hr (by simp) (AllReadyH.cons (held_at hd) h AllReadyH.nil)
/-- Back into the region behind a call. -/
theorem held_back {fuel : Nat} {l l' : Array Bool} {a a' : Act} {w : World} {K' : Act → World → Prop} (hK : Shut (∀ a w, S w → (S w → wpAnyH P md ops Q S fuel l a w) → K' a w)) (ha : a = a') (hl : l = l') (hS : S w) (h : S w → wpAnyH P md ops Q S fuel l' a' w) : K' a w := by
  subst ha hl
  exact hK.out a w hS h
end
end Go.Proofs.Ytnfjghldcopaaaa
