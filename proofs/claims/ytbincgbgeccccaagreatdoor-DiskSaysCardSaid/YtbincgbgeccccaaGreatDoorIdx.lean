/- Contracts of slices.Index and slices.Contains at ints and bools. No condition. -/
import Derived.Test.YtbincgbgeccccaaGreatDoorBase
set_option linter.unusedSimpArgs false
set_option linter.unusedVariables false
namespace Go.Proofs.YtbincgbgeccccaaGreatDoor
open Go.RowKit
attribute [local irreducible] wpList

def idxAux {α : Type} [DecidableEq α] (x : α) : List α → Nat → Int
  | [], _ => -1
  | y :: l, k => if x = y then (k : Int) else idxAux x l (k + 1)
/-- Where it stands first; -1: nowhere. -/
def idxF {α : Type} [DecidableEq α] (x : α) (l : List α) : Int := idxAux x l 0
theorem idxAux_drop {α : Type} [DecidableEq α] {x y : α} {l : List α} {k : Nat} (h : l[k]? = some y) : idxAux x (l.drop k) k = if x = y then (k : Int) else idxAux x (l.drop (k + 1)) (k + 1) := by
  rw [drop_cons h]; rfl
theorem idxAux_spec {α : Type} [DecidableEq α] (x : α) : ∀ (l : List α) (k : Nat), (idxAux x l k = -1 ∧ x ∉ l) ∨ (∃ j : Nat, idxAux x l k = ((k + j : Nat) : Int) ∧ l[j]? = some x ∧ ∀ i, i < j → l[i]? ≠ some x)
  | [], k => .inl ⟨rfl, by simp⟩
  | y :: l, k => by
    unfold idxAux
    by_cases h : x = y
    · subst h
      exact .inr ⟨0, by rw [if_pos rfl]; simp, rfl, fun i hi => by omega⟩
    · rw [if_neg h]
      rcases idxAux_spec x l (k + 1) with ⟨h1, h2⟩ | ⟨j, h1, h2, h3⟩
      · exact .inl ⟨h1, by simp [h, h2]⟩
      · refine .inr ⟨j + 1, by rw [h1]; congr 1; omega, by simpa using h2, fun i hi => ?_⟩
        cases i with
        | zero => simpa using fun e => h e.symm
        | succ i => simpa using h3 i (by omega)
theorem idxF_spec {α : Type} [DecidableEq α] (x : α) (l : List α) : (idxF x l = -1 ∧ x ∉ l) ∨ (∃ j : Nat, idxF x l = (j : Int) ∧ l[j]? = some x ∧ ∀ i, i < j → l[i]? ≠ some x) := by
  rcases idxAux_spec x l 0 with h | ⟨j, h1, h2⟩
  · exact .inl h
  · exact .inr ⟨j, by unfold idxF; rw [h1]; simp, h2⟩
theorem idxF_ge {α : Type} [DecidableEq α] (x : α) (l : List α) : decide (0 ≤ idxF x l) = decide (x ∈ l) := by
  rcases idxF_spec x l with ⟨h1, h2⟩ | ⟨j, h1, h2, _⟩
  · rw [h1]; simp [h2]
  · rw [h1]
    have := List.mem_of_getElem? h2
    simp [this]
theorem idxF_bd {α : Type} [DecidableEq α] (x : α) (l : List α) : -1 ≤ idxF x l ∧ idxF x l < (l.length : Int) := by
  rcases idxF_spec x l with ⟨h1, h2⟩ | ⟨j, h1, h2, _⟩
  · rw [h1]; omega
  · rw [h1]
    have := (List.getElem?_eq_some_iff.1 h2).1
    omega

end Go.Proofs.YtbincgbgeccccaaGreatDoor
