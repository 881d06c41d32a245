/- slices.Reverse at blocks, on a row of cells. No condition. -/
import Derived.Test.YtbincgbgeccccaaGreatDoorAddP
set_option linter.unusedSimpArgs false
set_option linter.unusedVariables false
namespace Go.Proofs.YtbincgbgeccccaaGreatDoor
open Go.RowKit

/-- The first k and the last k stand turned. -/
def TurnTo {α : Type} (cs ds : List α) (n k : Nat) : Prop := ds.length = n ∧ ∀ i, i < n → ds[i]? = if i < k ∨ n < i + 1 + k then cs[n - 1 - i]? else cs[i]?
theorem TurnTo.zero {α : Type} {cs : List α} {n : Nat} (h : cs.length = n) : TurnTo cs cs n 0 := ⟨h, fun i hi => by rw [if_neg (by omega)]⟩
theorem TurnTo.done {α : Type} {cs ds : List α} {n k : Nat} (h : TurnTo cs ds n k) (hc : cs.length = n) (hk : n ≤ 2 * k + 1) : ds = cs.reverse := by
  apply List.ext_getElem?
  intro i
  by_cases hi : i < n
  · rw [h.2 i hi, List.getElem?_reverse (by omega), hc]
    split
    · rfl
    · rw [show n - 1 - i = i from by omega]
  · rw [List.getElem?_eq_none (by have := h.1; omega), List.getElem?_eq_none (by simp; omega)]
theorem TurnTo.step {α : Type} {cs ds : List α} {n k : Nat} {x y : α} (h : TurnTo cs ds n k) (hk : 2 * k + 1 < n) (hx : ds[k]? = some x) (hy : ds[n - 1 - k]? = some y) : TurnTo cs ((ds.set k y).set (n - 1 - k) x) n (k + 1) := by
  refine ⟨by simp [h.1], fun i hi => ?_⟩
  have hx' := h.2 k (by omega)
  have hy' := h.2 (n - 1 - k) (by omega)
  rw [if_neg (by omega)] at hx' hy'
  rw [hx] at hx'
  rw [hy] at hy'
  by_cases h1 : i = n - 1 - k
  · subst h1
    rw [List.getElem?_set_self (by simp [h.1]; omega), if_pos (by omega), show n - 1 - (n - 1 - k) = k from by omega, ← hx']
  · rw [List.getElem?_set_ne (by omega)]
    by_cases h2 : i = k
    · subst h2
      rw [List.getElem?_set_self (by rw [h.1]; omega), if_pos (by omega), ← hy']
    · rw [List.getElem?_set_ne (by omega), h.2 i hi]
      by_cases h3 : i < k ∨ n < i + 1 + k
      · rw [if_pos h3, if_pos (by omega)]
      · rw [if_neg h3, if_neg (by omega)]

theorem cells_set {w : World} {g i : Nat} {t : TypeId} {cs rest : List Value} {y : Value} (h : w.heap[g]? = some (.cells (cs ++ rest).toArray t (0, 0))) (hi : i < cs.length) :
    (w.setCell ⟨g, i, none⟩ y).heap[g]? = some (.cells (cs.set i y ++ rest).toArray t (0, 0)) := by
  have e : ((cs ++ rest).set i y) = cs.set i y ++ rest := List.set_append_left _ _ hi
  rw [← e]
  simp [World.setCell, Array.getElem?_modify, h]
theorem cells_at {w : World} {g i : Nat} {t : TypeId} {cs rest : List Value} {x : Value} (h : w.heap[g]? = some (.cells (cs ++ rest).toArray t (0, 0))) (hx : cs[i]? = some x) : w.cell? ⟨g, i, none⟩ = some x := by
  rw [cell_of_heap h, List.getElem?_toArray, List.getElem?_append_left (List.getElem?_eq_some_iff.1 hx).1, hx]

theorem grown_set {w wr : World} {g i : Nat} {v : Value} (h : w.grownBy wr (some g)) : w.grownBy (wr.setCell ⟨g, i, none⟩ v) (some g) :=
  ⟨h.os, h.tape, h.output, by rw [size_setCell]; exact h.size, fun k hk hne => by
    have hkg : g ≠ k := fun e => hne (by rw [e])
    rw [← h.block k hk hne]
    simp [World.setCell, Array.getElem?_modify, hkg]⟩

end Go.Proofs.YtbincgbgeccccaaGreatDoor
