/- One cell of an own slice, set. No condition; no function in sight. -/
import Derived.Test.YtojoodmnmhcojaaOwnRow
import Derived.Test.YtojoodmnmhcojaaRev
set_option linter.unusedSimpArgs false
set_option linter.unusedVariables false
namespace Go.Proofs.Ytojoodmnmhcojaa
open Go.RowKit

section
variable {α : Type} {size : Nat} {r : ERd α} {w w' : World} {base : Nat} {e : TypeId} {xs : List α}

theorem idx_ne {size i i' j j' : Nat} (hj : j < size) (hj' : j' < size) (h : i' ≠ i ∨ j' ≠ j) : i' * size + j' ≠ i * size + j := by
  intro e
  rcases Nat.lt_trichotomy i' i with h1 | h1 | h1
  · have : (i' + 1) * size ≤ i * size := Nat.mul_le_mul_right _ h1
    rw [Nat.add_mul, Nat.one_mul] at this; omega
  · subst h1; omega
  · have : (i + 1) * size ≤ i' * size := Nat.mul_le_mul_right _ h1
    rw [Nat.add_mul, Nat.one_mul] at this; omega

/-- A cell of the i-th element is set: what the element reads as then is told by the caller, off the cells that it had. -/
theorem own_set (s : Stable size r) (F : Full size r) (hs : 0 < size) {g cap i j n : Nat} {u : Value} {x : α} (h : Own size r w base e (.slice (some ⟨g, 0, none⟩) n cap) xs) (hi : i < n) (hj : j < size) (h1 : u.oneCell' = true)
    (hx : ∀ f : Nat → Option Value, (∀ j', j' < size → f j' = w.cell? ⟨g, i * size + j', none⟩) → r w (fun b => b < w.heap.size ∧ b ≠ g) (fun j' => if j' = j then some u else f j') x) :
    Own size r (w.setCell ⟨g, i * size + j, none⟩ u) base e (.slice (some ⟨g, 0, none⟩) n cap) (xs.set i x) := by
  have hn : n = xs.length := by
    obtain ⟨cs, ho, _⟩ := h
    rcases ho.2 with ⟨e1, _⟩ | ⟨_, _, _, e1, _⟩
    · cases e1
    · injection e1
  obtain ⟨g', cap', cs, rest, e1, hbg, hg, hnc, hcm, hl, hall, ho1, hr⟩ := own_row F hs h (by omega)
  injection e1 with e2 e3 e4
  injection e2 with e2
  injection e2 with e2
  subst e2 e4 hn
  have hlt : i * size + j < cs.length := by
    have : (i + 1) * size ≤ xs.length * size := Nat.mul_le_mul_right _ hi
    rw [Nat.add_mul, Nat.one_mul] at this; omega
  have hg2 := cells_set (y := u) hg hlt
  have hG : w.grownBy (w.setCell ⟨g, i * size + j, none⟩ u) (some g) := grown_set ⟨rfl, rfl, rfl, Nat.le_refl _, fun _ _ _ => rfl⟩
  have key := row_own (ys := xs.set i x) (w := w) (cap := cap) s hbg hg2 hG (by rw [List.length_set]; exact hnc) hcm (by rw [List.length_set, List.length_set]; exact hl) (by rw [List.length_set]; exact hall) fun k y hy => by
    by_cases hk : k = i
    · subst hk
      rw [List.getElem?_set_self hi] at hy
      injection hy with hy
      subst hy
      refine s.mono (fun j' v hj' hv => ?_) (hx (fun j' => cs[k * size + j']?) fun j' hj' => ?_)
      · by_cases e5 : j' = j
        · subst e5
          rw [if_pos rfl] at hv
          rw [List.getElem?_set_self hlt]; exact hv
        · rw [if_neg e5] at hv
          rw [List.getElem?_set_ne (idx_ne hj hj' (.inr e5)).symm]
          exact hv
      · have hlt' : k * size + j' < cs.length := by
          have : (k + 1) * size ≤ xs.length * size := Nat.mul_le_mul_right _ hi
          rw [Nat.add_mul, Nat.one_mul] at this; omega
        rw [cells_at hg (List.getElem?_eq_getElem hlt'), List.getElem?_eq_getElem hlt']
    · rw [List.getElem?_set_ne (fun e => hk e.symm)] at hy
      refine s.mono (fun j' v hj' hv => ?_) (hr k y hy)
      rw [List.getElem?_set_ne (idx_ne hj hj' (.inl hk)).symm]
      exact hv
  rw [List.length_set] at key
  exact key
end
end Go.Proofs.Ytojoodmnmhcojaa
