/- Plain laws of the reference's picked numbers. No condition; no program in sight. -/
import Derived.Test.YtnfjghldcopaaaaPickP
set_option linter.unusedSimpArgs false
set_option linter.unusedVariables false
namespace Go.Proofs.Ytnfjghldcopaaaa

/-- The numbers that are in, rising. -/
def selIdx (l : List Bool) : List Int := ((List.range l.length).filter fun k => l.getD k false).map fun k : Nat => (k : Int)
/-- The same numbers, in some order. -/
structure Sel (has : List Bool) (ls : List Int) : Prop where
  nd : ls.Nodup
  bd : ∀ x ∈ ls, ∃ k : Nat, x = k ∧ k < has.length
  iff : ∀ k : Nat, k < has.length → (has.getD k false = true ↔ (k : Int) ∈ ls)
theorem Sel.new (b : Nat) : Sel (noHas b) [] := ⟨List.nodup_nil, fun x hx => (List.not_mem_nil hx).elim, fun k hk => by
  have : (noHas b).getD k false = false := by
    have hk' : k < b := by simpa [noHas] using hk
    simp [noHas, List.getD_eq_getElem?_getD, List.getElem?_replicate, hk']
  rw [this]; simp⟩
theorem Sel.add {has : List Bool} {ls : List Int} {k : Nat} (h : Sel has ls) (hk : k < has.length) (hf : has.getD k false = false) : Sel (has.set k true) (ls ++ [(k : Int)]) := by
  have hn : (k : Int) ∉ ls := fun e => by
    have := (h.iff k hk).2 e
    rw [hf] at this; cases this
  refine ⟨?_, ?_, ?_⟩
  · rw [List.nodup_append]
    exact ⟨h.nd, by simp, fun a ha b hb e => by simp at hb; subst hb; subst e; exact hn ha⟩
  · intro x hx
    rcases List.mem_append.1 hx with h1 | h1
    · obtain ⟨j, e, hj⟩ := h.bd x h1
      exact ⟨j, e, by simpa using hj⟩
    · exact ⟨k, by simpa using h1, by simpa using hk⟩
  · intro j hj
    have hj' : j < has.length := by simpa using hj
    by_cases e : j = k
    · subst e
      simp [List.getD_eq_getElem?_getD, hj']
    · have h1 := h.iff j hj'
      rw [List.getD_eq_getElem?_getD, List.getElem?_set_ne (fun e' => e e'.symm), ← List.getD_eq_getElem?_getD, h1]
      simp only [List.mem_append, List.mem_singleton]
      constructor
      · exact .inl
      · rintro (h | h)
        · exact h
        · exact absurd (by omega) e
theorem Sel.idx (has : List Bool) : Sel has (selIdx has) := by
  refine ⟨?_, ?_, ?_⟩
  · unfold selIdx
    refine List.Pairwise.map (R := fun a b : Nat => a ≠ b) _ (fun a b h e => h (by omega)) ?_
    exact List.Pairwise.filter _ List.nodup_range
  · intro x hx
    obtain ⟨k, hk, rfl⟩ := List.mem_map.1 hx
    exact ⟨k, rfl, List.mem_range.1 (List.mem_filter.1 hk).1⟩
  · intro k hk
    unfold selIdx
    constructor
    · intro h
      exact List.mem_map.2 ⟨k, List.mem_filter.2 ⟨List.mem_range.2 hk, h⟩, rfl⟩
    · intro h
      obtain ⟨j, hj, e⟩ := List.mem_map.1 h
      obtain rfl : j = k := by omega
      exact (List.mem_filter.1 hj).2
theorem selIdx_sorted (has : List Bool) : (selIdx has).Pairwise fun x y => decide (x ≤ y) = true := by
  unfold selIdx
  refine List.Pairwise.map (R := fun a b : Nat => a < b) _ (fun a b (h : a < b) => by simp; omega) ?_
  exact List.pairwise_lt_range.filter _
theorem Sel.perm {has : List Bool} {l m : List Int} (h : Sel has l) (k : Sel has m) : l.Perm m := by
  rw [List.perm_ext_iff_of_nodup h.nd k.nd]
  intro a
  constructor
  · intro ha
    obtain ⟨j, rfl, hj⟩ := h.bd a ha
    exact (k.iff j hj).1 ((h.iff j hj).2 ha)
  · intro ha
    obtain ⟨j, rfl, hj⟩ := k.bd a ha
    exact (h.iff j hj).1 ((k.iff j hj).2 ha)
theorem Sel.sorted {has : List Bool} {ls : List Int} (h : Sel has ls) : ls.mergeSort (fun x y => decide (x ≤ y)) = selIdx has := by
  refine List.Perm.eq_of_pairwise (le := fun x y => decide (x ≤ y) = true) (fun a b _ _ h1 h2 => ?_) ?_ (selIdx_sorted has) ((List.mergeSort_perm _ _).trans (h.perm (Sel.idx has)))
  · simp at h1 h2; omega
  · exact List.pairwise_mergeSort (fun a b c h1 h2 => by simp at h1 h2 ⊢; omega) (fun a b => by simp; omega) ls
theorem selIdx_one {b id : Nat} (h : id < b) : selIdx ((noHas b).set id true) = [(id : Int)] := by
  have := (Sel.new b).add (k := id) (by simp [noHas]; exact h) (by simp [noHas, List.getD_eq_getElem?_getD, List.getElem?_replicate, h])
  have h2 := this.sorted
  rw [← h2]; simp
theorem Sel.length {has : List Bool} {ls : List Int} (h : Sel has ls) : ls.length ≤ has.length := by
  rw [(h.perm (Sel.idx has)).length_eq]
  unfold selIdx
  rw [List.length_map]
  exact Nat.le_trans (List.length_filter_le _ _) (by simp)
/-- What the reference picks. -/
def pickedR (id b : Int) : List Int × Int := if 0 ≤ id ∧ id ≤ 9999 ∧ 1 ≤ b ∧ b ≤ 24 then (selIdx (pickHas id.toNat b.toNat), 0) else ([], 3)
end Go.Proofs.Ytnfjghldcopaaaa
