/- Plain laws of systems: what was known stays known; what is told again says nothing new. No condition; no program in sight. -/
import Derived.Test.YtojoodmnmhcojaaKnown
set_option linter.unusedSimpArgs false
set_option linter.unusedVariables false
namespace Go.Proofs.Ytojoodmnmhcojaa

theorem mem_insRow {rows : List Rw} {k : Nat} {r x : Rw} : x ∈ insRow rows k r ↔ x = r ∨ ∃ o ∈ rows, outOf k r o = x := by
  unfold insRow
  have e := List.take_append_drop (insAt k (rows.map (outOf k r))) (rows.map (outOf k r))
  rw [← List.mem_map (f := outOf k r) (l := rows)]
  conv => rhs; rw [← e]
  simp only [List.mem_append, List.mem_cons]
  constructor
  · rintro (h | h | h)
    · exact .inr (.inl h)
    · exact .inl h
    · exact .inr (.inr h)
  · rintro (h | h | h)
    · exact .inr (.inl h)
    · exact .inl h
    · exact .inr (.inr h)

/-- A right system and a right row: what solve.Add makes. -/
theorem sysAdd_ok0 {B K : Int} {rows : List Rw} {r : Rw} (h : (sysAdd ⟨B, K, rows⟩ r).2.2 = 0) :
    ∃ b k : Nat, B = b ∧ K = k ∧ (1 ≤ b ∧ b ≤ 24) ∧ (1 ≤ k ∧ k ≤ 16) ∧ sysCheck b k rows = 0 ∧ Sys b k rows ∧ Fit b k r ∧ (sysAdd ⟨B, K, rows⟩ r).1.blocks = b ∧ (sysAdd ⟨B, K, rows⟩ r).1.block = k ∧
      (((sysAdd ⟨B, K, rows⟩ r).1.rows = rows ∧ (sysAdd ⟨B, K, rows⟩ r).2.1 = false ∧ Sp (pl rows) (vc r)) ∨
        (∃ i, (sysAdd ⟨B, K, rows⟩ r).1.rows = insRow rows i (redRow rows r) ∧ (sysAdd ⟨B, K, rows⟩ r).2.1 = true ∧ Lead (vc (redRow rows r)) i ∧ Sys b k (insRow rows i (redRow rows r)) ∧ ∀ v, Sp (pl (insRow rows i (redRow rows r))) v ↔ Span (With rows r) v)) := by
  unfold sysAdd at h ⊢
  by_cases h0 : sysCheck B K rows = 0
  · rw [if_neg (by simp [h0])] at h ⊢
    by_cases h1 : (r.has.length : Int) ≠ B ∨ (r.data.length : Int) ≠ K
    · rw [if_pos h1] at h; cases h
    · rw [if_neg h1] at h ⊢
      obtain ⟨⟨b1, b2⟩, ⟨k1, k2⟩, _, hR⟩ := sysCheck_ok h0
      obtain ⟨b, rfl⟩ := Int.eq_ofNat_of_zero_le (show 0 ≤ B by omega)
      obtain ⟨k, rfl⟩ := Int.eq_ofNat_of_zero_le (show 0 ≤ K by omega)
      have hs := rowsOk_sys hR
      have hf : Fit b k r := ⟨by omega, by omega⟩
      rcases addRow_cases hs hf with ⟨e, hsp⟩ | ⟨e, _⟩ | ⟨rows', i, e, rfl, hl, _, hs', hsp⟩
      · rw [e] at h ⊢
        exact ⟨b, k, rfl, rfl, by omega, by omega, h0, hs, hf, rfl, rfl, .inl ⟨rfl, rfl, hsp⟩⟩
      · rw [e] at h; cases h
      · rw [e] at h ⊢
        exact ⟨b, k, rfl, rfl, by omega, by omega, h0, hs, hf, rfl, rfl, .inr ⟨i, rfl, rfl, hl, hs', hsp⟩⟩
  · rw [if_pos h0] at h
    exact absurd h h0

/-- What follows already says nothing new. -/
theorem addRow_again {B K : Nat} {rows : List Rw} {r : Rw} (hs : Sys B K rows) (h : Fit B K r) (hsp : Sp (pl rows) (vc r)) : addRow rows r = (rows, false, 0) := by
  have hv := redRow_vc hs h
  rw [pj_span hs.ech hsp, Vc.self] at hv
  have h0 : (redRow rows r).fst < 0 := fst_none.2 fun i => by rw [hv]; rfl
  have hd : (redRow rows r).data.all (fun c => c == 0) = true := by
    rw [List.all_eq_true]
    intro c hc
    obtain ⟨i, hi⟩ := List.mem_iff_getElem?.1 hc
    have : (vc (redRow rows r)).d i = 0 := by rw [hv]; rfl
    have h2 : (redRow rows r).data.getD i 0 = 0 := this
    rw [List.getD_eq_getElem?_getD, hi] at h2
    simpa using h2
  unfold addRow
  rw [if_pos h0, if_pos hd]
theorem sysAdd_again {b k : Nat} {rows : List Rw} {r : Rw} (hB : 1 ≤ b ∧ b ≤ 24) (hK : 1 ≤ k ∧ k ≤ 16) (hs : Sys b k rows) (h : Fit b k r) (hsp : Sp (pl rows) (vc r)) : sysAdd ⟨b, k, rows⟩ r = (⟨b, k, rows⟩, false, 0) := by
  unfold sysAdd
  rw [if_neg (by simp [sysCheck_of hB hK hs]), if_neg (by simp [h.1, h.2]), addRow_again hs h hsp, if_pos rfl]

/-- One block alone. -/
theorem unit_iff {r : Rw} {k : Nat} (hk : r.fst = (k : Int)) : r.unit = true ↔ ∀ j, j ≠ k → (vc r).h j = false := by
  have hl := fst_lead.1 hk
  unfold Rw.unit
  rw [hk, Int.toNat_natCast]
  simp only [Bool.not_eq_true', decide_eq_false_iff_not]
  constructor
  · intro h j hj
    rcases Nat.lt_or_ge j k with h1 | h1
    · exact hl.2 j h1
    · cases e : (vc r).h j with
      | false => rfl
      | true =>
        refine absurd ?_ h
        have e2 : r.has.getD j false = true := e
        rw [List.getD_eq_getElem?_getD] at e2
        cases e3 : r.has[j]? with
        | none => rw [e3] at e2; cases e2
        | some b =>
          rw [e3] at e2
          have : b = true := e2
          subst this
          refine List.mem_of_getElem? (i := j - (k + 1)) ?_
          rw [List.getElem?_drop, show k + 1 + (j - (k + 1)) = j by omega]
          exact e3
  · intro h hm
    obtain ⟨i, hi⟩ := List.mem_iff_getElem?.1 hm
    rw [List.getElem?_drop] at hi
    have := h (k + 1 + i) (by omega)
    have e2 : r.has.getD (k + 1 + i) false = false := this
    rw [List.getD_eq_getElem?_getD, hi] at e2
    cases e2

theorem foldKnown_far {k : Nat} : ∀ {rows : List Rw} {out : List (List UInt8)}, (∀ o ∈ rows, o.unit = true → o.fst.toNat ≠ k) → (rows.foldl knownStep out)[k]? = out[k]?
  | [], _, _ => rfl
  | r :: rows, out, h => by
    rw [List.foldl_cons, foldKnown_far fun o ho => h o (List.mem_cons_of_mem _ ho)]
    unfold knownStep
    split
    · rename_i e
      rw [List.getElem?_set_ne (h r (by simp) e)]
    · rfl
theorem foldKnown_mem {k : Nat} : ∀ {rows : List Rw} {out : List (List UInt8)} {o : Rw}, (rows.Pairwise fun a b => a.fst.toNat ≠ b.fst.toNat) → o ∈ rows → o.unit = true → o.fst.toNat = k → k < out.length → (rows.foldl knownStep out)[k]? = some o.data
  | r :: rows, out, o, hp, ho, hu, hk, hl => by
    obtain ⟨p1, p2⟩ := List.pairwise_cons.1 hp
    rw [List.foldl_cons]
    rcases List.mem_cons.1 ho with rfl | ho
    · rw [foldKnown_far fun o' ho' _ => by rw [← hk]; exact (p1 o' ho').symm]
      unfold knownStep
      rw [if_pos hu, hk, List.getElem?_set_self hl]
    · exact foldKnown_mem p2 ho hu hk (by rw [length_knownStep]; exact hl)
theorem foldKnown_of {k : Nat} {b : List UInt8} : ∀ {rows : List Rw} {out : List (List UInt8)}, (rows.foldl knownStep out)[k]? = some b → out[k]? = some b ∨ ∃ o ∈ rows, o.unit = true ∧ o.fst.toNat = k ∧ o.data = b
  | [], _, h => .inl h
  | r :: rows, out, h => by
    rw [List.foldl_cons] at h
    rcases foldKnown_of h with h1 | ⟨o, ho, h1⟩
    · unfold knownStep at h1
      split at h1
      · rename_i e
        rw [List.getElem?_set] at h1
        split at h1
        · rename_i ek
          split at h1
          · injection h1 with h1
            exact .inr ⟨r, by simp, e, ek, h1⟩
          · cases h1
        · exact .inl h1
      · exact .inl h1
    · exact .inr ⟨o, List.mem_cons_of_mem _ ho, h1⟩
theorem Sys.apart {B K : Nat} {rows : List Rw} (h : Sys B K rows) : rows.Pairwise fun a b => a.fst.toNat ≠ b.fst.toNat := by
  have := h.ech.up
  unfold pl at this
  rw [List.pairwise_map] at this
  exact this.imp fun x => Nat.ne_of_lt x.1
theorem known_mem {B K : Nat} {rows : List Rw} (h : Sys B K rows) {o : Rw} (ho : o ∈ rows) (hu : o.unit = true) : (knownF B rows)[o.fst.toNat]? = some o.data := by
  obtain ⟨k, e, _, hlt⟩ := h.leads ho
  exact foldKnown_mem h.apart ho hu rfl (by simp; omega)
theorem known_of {B K : Nat} {rows : List Rw} (h : Sys B K rows) {k : Nat} {b : List UInt8} (hb : (knownF B rows)[k]? = some b) : b = [] ∨ ∃ o ∈ rows, o.unit = true ∧ o.fst.toNat = k ∧ o.data = b := by
  rcases foldKnown_of hb with h1 | h1
  · left
    have hk := (List.getElem?_eq_some_iff.1 h1).1
    rw [List.getElem?_replicate, if_pos (by simpa using hk)] at h1
    injection h1 with h1
    exact h1.symm
  · exact .inr h1
theorem length_knownF (B : Nat) (rows : List Rw) : (knownF B rows).length = B := by unfold knownF; rw [length_foldKnown]; simp

/-- What was known stays known. -/
theorem known_stays {B K i : Nat} {rows : List Rw} {r : Rw} (hs : Sys B K rows) (h : Fit B K r) (hl : Lead (vc (redRow rows r)) i) (hs' : Sys B K (insRow rows i (redRow rows r))) {k : Nat} {b : List UInt8} (hb : (knownF B rows)[k]? = some b) (hne : b ≠ []) :
    (knownF B (insRow rows i (redRow rows r)))[k]? = some b := by
  rcases known_of hs hb with h1 | ⟨o, ho, hu, rfl, rfl⟩
  · exact absurd h1 hne
  · obtain ⟨l, e, hl2, _⟩ := hs.leads ho
    have hc := redRow_clean hs h o ho
    have hne2 : i ≠ l := by
      rintro rfl
      rw [e, Int.toNat_natCast, hl.1] at hc
      cases hc
    have hbit : o.bit i = false := (unit_iff e).1 hu i hne2
    have hm : o ∈ insRow rows i (redRow rows r) := mem_insRow.2 (.inr ⟨o, ho, by unfold outOf; rw [if_neg (by simp [hbit])]⟩)
    exact known_mem hs' hm hu

/-- All that SolveKeeps says, plainly. -/
structure KeepsP (B K : Int) (rows rows' : List Rw) (m : Bool) (r : Rw) : Prop where
  chk : sysCheck B K rows = 0
  again : sysAdd ⟨B, K, rows'⟩ r = (⟨B, K, rows'⟩, false, 0)
  chk' : sysCheck B K rows' = 0
  len : m = decide (rows'.length = rows.length + 1)
  same : m = false → rows' = rows
  known : ∀ (k : Nat) (b : List UInt8), (knownF B.toNat rows)[k]? = some b → b ≠ [] → (knownF B.toNat rows')[k]? = some b
theorem keepsP {B K b k : Int} {rows rows' : List Rw} {m : Bool} {r : Rw} (h : sysAdd ⟨B, K, rows⟩ r = (⟨b, k, rows'⟩, m, 0)) : b = B ∧ k = K ∧ KeepsP B K rows rows' m r := by
  obtain ⟨b', k', rfl, rfl, hB, hK, hc, hs, hf, e1, e2, hcase⟩ := sysAdd_ok0 (B := B) (K := K) (rows := rows) (r := r) (by rw [h])
  rw [h] at e1 e2 hcase
  simp only [] at e1 e2 hcase
  subst e1 e2
  refine ⟨rfl, rfl, ?_⟩
  rcases hcase with ⟨rfl, rfl, hsp⟩ | ⟨i, rfl, rfl, hl, hs', hsp⟩
  · exact ⟨hc, sysAdd_again hB hK hs hf hsp, hc, by simp, fun _ => rfl, fun _ _ h _ => h⟩
  · refine ⟨hc, sysAdd_again hB hK hs' hf ((hsp _).2 (.of (.inr rfl))), sysCheck_of hB hK hs', ?_, (fun e => by cases e), fun j x hx hne => ?_⟩
    · rw [length_insRow]; simp
    · rw [Int.toNat_natCast] at hx ⊢
      exact known_stays hs hf hl hs' hx hne
end Go.Proofs.Ytojoodmnmhcojaa
