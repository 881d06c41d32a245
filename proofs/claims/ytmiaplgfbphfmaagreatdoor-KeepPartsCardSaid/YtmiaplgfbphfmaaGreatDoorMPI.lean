/- Slices of the call's own whose elements lie in told blocks. No condition; no function in sight. -/
import Derived.Test.YtmiaplgfbphfmaaGreatDoorMPB
import Derived.Test.YtmiaplgfbphfmaaGreatDoorMPP
set_option linter.unusedSimpArgs false
set_option linter.unusedVariables false
namespace Go.Proofs.YtmiaplgfbphfmaaGreatDoor
open Go.RowKit

theorem box2_ {w : World} {g : Nat} {v0 v1 : Value} {t : TypeId} {fr : Nat × Nat} (h : w.heap[g]? = some (.cells #[v0, v1] t fr)) :
    w.cell? ⟨g, 0, none⟩ = some v0 ∧ w.cell? ⟨g, 1, none⟩ = some v1 :=
  ⟨cell_of_heap h, cell_of_heap h⟩
theorem box3_ {w : World} {g : Nat} {v0 v1 v2 : Value} {t : TypeId} {fr : Nat × Nat} (h : w.heap[g]? = some (.cells #[v0, v1, v2] t fr)) :
    w.cell? ⟨g, 0, none⟩ = some v0 ∧ w.cell? ⟨g, 1, none⟩ = some v1 ∧ w.cell? ⟨g, 2, none⟩ = some v2 :=
  ⟨cell_of_heap h, cell_of_heap h, cell_of_heap h⟩
theorem box4_ {w : World} {g : Nat} {v0 v1 v2 v3 : Value} {t : TypeId} {fr : Nat × Nat} (h : w.heap[g]? = some (.cells #[v0, v1, v2, v3] t fr)) :
    w.cell? ⟨g, 0, none⟩ = some v0 ∧ w.cell? ⟨g, 1, none⟩ = some v1 ∧ w.cell? ⟨g, 2, none⟩ = some v2 ∧ w.cell? ⟨g, 3, none⟩ = some v3 :=
  ⟨cell_of_heap h, cell_of_heap h, cell_of_heap h, cell_of_heap h⟩
theorem box6_ {w : World} {g : Nat} {v0 v1 v2 v3 v4 v5 : Value} {t : TypeId} {fr : Nat × Nat} (h : w.heap[g]? = some (.cells #[v0, v1, v2, v3, v4, v5] t fr)) :
    w.cell? ⟨g, 0, none⟩ = some v0 ∧ w.cell? ⟨g, 1, none⟩ = some v1 ∧ w.cell? ⟨g, 2, none⟩ = some v2 ∧ w.cell? ⟨g, 3, none⟩ = some v3 ∧ w.cell? ⟨g, 4, none⟩ = some v4 ∧ w.cell? ⟨g, 5, none⟩ = some v5 :=
  ⟨cell_of_heap h, cell_of_heap h, cell_of_heap h, cell_of_heap h, cell_of_heap h, cell_of_heap h⟩
theorem box11_ {w : World} {g : Nat} {v0 v1 v2 v3 v4 v5 v6 v7 v8 v9 v10 : Value} {t : TypeId} {fr : Nat × Nat} (h : w.heap[g]? = some (.cells #[v0, v1, v2, v3, v4, v5, v6, v7, v8, v9, v10] t fr)) :
    w.cell? ⟨g, 0, none⟩ = some v0 ∧ w.cell? ⟨g, 1, none⟩ = some v1 ∧ w.cell? ⟨g, 2, none⟩ = some v2 ∧ w.cell? ⟨g, 3, none⟩ = some v3 ∧ w.cell? ⟨g, 4, none⟩ = some v4 ∧ w.cell? ⟨g, 5, none⟩ = some v5 ∧ w.cell? ⟨g, 6, none⟩ = some v6 ∧ w.cell? ⟨g, 7, none⟩ = some v7 ∧ w.cell? ⟨g, 8, none⟩ = some v8 ∧ w.cell? ⟨g, 9, none⟩ = some v9 ∧ w.cell? ⟨g, 10, none⟩ = some v10 :=
  ⟨cell_of_heap h, cell_of_heap h, cell_of_heap h, cell_of_heap h, cell_of_heap h, cell_of_heap h, cell_of_heap h, cell_of_heap h, cell_of_heap h, cell_of_heap h, cell_of_heap h⟩
theorem box13_ {w : World} {g : Nat} {v0 v1 v2 v3 v4 v5 v6 v7 v8 v9 v10 v11 v12 : Value} {t : TypeId} {fr : Nat × Nat} (h : w.heap[g]? = some (.cells #[v0, v1, v2, v3, v4, v5, v6, v7, v8, v9, v10, v11, v12] t fr)) :
    w.cell? ⟨g, 0, none⟩ = some v0 ∧ w.cell? ⟨g, 1, none⟩ = some v1 ∧ w.cell? ⟨g, 2, none⟩ = some v2 ∧ w.cell? ⟨g, 3, none⟩ = some v3 ∧ w.cell? ⟨g, 4, none⟩ = some v4 ∧ w.cell? ⟨g, 5, none⟩ = some v5 ∧ w.cell? ⟨g, 6, none⟩ = some v6 ∧ w.cell? ⟨g, 7, none⟩ = some v7 ∧ w.cell? ⟨g, 8, none⟩ = some v8 ∧ w.cell? ⟨g, 9, none⟩ = some v9 ∧ w.cell? ⟨g, 10, none⟩ = some v10 ∧ w.cell? ⟨g, 11, none⟩ = some v11 ∧ w.cell? ⟨g, 12, none⟩ = some v12 :=
  ⟨cell_of_heap h, cell_of_heap h, cell_of_heap h, cell_of_heap h, cell_of_heap h, cell_of_heap h, cell_of_heap h, cell_of_heap h, cell_of_heap h, cell_of_heap h, cell_of_heap h, cell_of_heap h, cell_of_heap h⟩
theorem box16_ {w : World} {g : Nat} {v0 v1 v2 v3 v4 v5 v6 v7 v8 v9 v10 v11 v12 v13 v14 v15 : Value} {t : TypeId} {fr : Nat × Nat} (h : w.heap[g]? = some (.cells #[v0, v1, v2, v3, v4, v5, v6, v7, v8, v9, v10, v11, v12, v13, v14, v15] t fr)) :
    w.cell? ⟨g, 0, none⟩ = some v0 ∧ w.cell? ⟨g, 1, none⟩ = some v1 ∧ w.cell? ⟨g, 2, none⟩ = some v2 ∧ w.cell? ⟨g, 3, none⟩ = some v3 ∧ w.cell? ⟨g, 4, none⟩ = some v4 ∧ w.cell? ⟨g, 5, none⟩ = some v5 ∧ w.cell? ⟨g, 6, none⟩ = some v6 ∧ w.cell? ⟨g, 7, none⟩ = some v7 ∧ w.cell? ⟨g, 8, none⟩ = some v8 ∧ w.cell? ⟨g, 9, none⟩ = some v9 ∧ w.cell? ⟨g, 10, none⟩ = some v10 ∧ w.cell? ⟨g, 11, none⟩ = some v11 ∧ w.cell? ⟨g, 12, none⟩ = some v12 ∧ w.cell? ⟨g, 13, none⟩ = some v13 ∧ w.cell? ⟨g, 14, none⟩ = some v14 ∧ w.cell? ⟨g, 15, none⟩ = some v15 :=
  ⟨cell_of_heap h, cell_of_heap h, cell_of_heap h, cell_of_heap h, cell_of_heap h, cell_of_heap h, cell_of_heap h, cell_of_heap h, cell_of_heap h, cell_of_heap h, cell_of_heap h, cell_of_heap h, cell_of_heap h, cell_of_heap h, cell_of_heap h, cell_of_heap h⟩
theorem stor2_ {w : World} {g : Nat} {o0 o1 v0 v1 : Value} {t : TypeId} (h : w.heap[g]? = some (.cells #[o0, o1] t (0, 0))) :
    ((w.setCell ⟨g, 0, none⟩ v0).setCell ⟨g, 1, none⟩ v1).heap[g]? = some (.cells #[v0, v1] t (0, 0)) := by
  have h := heap_setCell_same _ g 0 _ t v0 h
  have h := heap_setCell_same _ g 1 _ t v1 h
  simpa using h
theorem bel2_ {B g : Nat} {a w : World} {v0 v1 : Value} (h : Below B a w) (hg : B ≤ g) : Below B a ((w.setCell ⟨g, 0, none⟩ v0).setCell ⟨g, 1, none⟩ v1) := ((h.setCell (p := ⟨g, 0, none⟩) hg v0).setCell (p := ⟨g, 1, none⟩) hg v1)
theorem stor3_ {w : World} {g : Nat} {o0 o1 o2 v0 v1 v2 : Value} {t : TypeId} (h : w.heap[g]? = some (.cells #[o0, o1, o2] t (0, 0))) :
    (((w.setCell ⟨g, 0, none⟩ v0).setCell ⟨g, 1, none⟩ v1).setCell ⟨g, 2, none⟩ v2).heap[g]? = some (.cells #[v0, v1, v2] t (0, 0)) := by
  have h := heap_setCell_same _ g 0 _ t v0 h
  have h := heap_setCell_same _ g 1 _ t v1 h
  have h := heap_setCell_same _ g 2 _ t v2 h
  simpa using h
theorem bel3_ {B g : Nat} {a w : World} {v0 v1 v2 : Value} (h : Below B a w) (hg : B ≤ g) : Below B a (((w.setCell ⟨g, 0, none⟩ v0).setCell ⟨g, 1, none⟩ v1).setCell ⟨g, 2, none⟩ v2) := (((h.setCell (p := ⟨g, 0, none⟩) hg v0).setCell (p := ⟨g, 1, none⟩) hg v1).setCell (p := ⟨g, 2, none⟩) hg v2)
theorem stor4_ {w : World} {g : Nat} {o0 o1 o2 o3 v0 v1 v2 v3 : Value} {t : TypeId} (h : w.heap[g]? = some (.cells #[o0, o1, o2, o3] t (0, 0))) :
    ((((w.setCell ⟨g, 0, none⟩ v0).setCell ⟨g, 1, none⟩ v1).setCell ⟨g, 2, none⟩ v2).setCell ⟨g, 3, none⟩ v3).heap[g]? = some (.cells #[v0, v1, v2, v3] t (0, 0)) := by
  have h := heap_setCell_same _ g 0 _ t v0 h
  have h := heap_setCell_same _ g 1 _ t v1 h
  have h := heap_setCell_same _ g 2 _ t v2 h
  have h := heap_setCell_same _ g 3 _ t v3 h
  simpa using h
theorem bel4_ {B g : Nat} {a w : World} {v0 v1 v2 v3 : Value} (h : Below B a w) (hg : B ≤ g) : Below B a ((((w.setCell ⟨g, 0, none⟩ v0).setCell ⟨g, 1, none⟩ v1).setCell ⟨g, 2, none⟩ v2).setCell ⟨g, 3, none⟩ v3) := ((((h.setCell (p := ⟨g, 0, none⟩) hg v0).setCell (p := ⟨g, 1, none⟩) hg v1).setCell (p := ⟨g, 2, none⟩) hg v2).setCell (p := ⟨g, 3, none⟩) hg v3)
theorem bel13_ {B g : Nat} {a w : World} {v0 v1 v2 v3 v4 v5 v6 v7 v8 v9 v10 v11 v12 : Value} (h : Below B a w) (hg : B ≤ g) : Below B a (((((((((((((w.setCell ⟨g, 0, none⟩ v0).setCell ⟨g, 1, none⟩ v1).setCell ⟨g, 2, none⟩ v2).setCell ⟨g, 3, none⟩ v3).setCell ⟨g, 4, none⟩ v4).setCell ⟨g, 5, none⟩ v5).setCell ⟨g, 6, none⟩ v6).setCell ⟨g, 7, none⟩ v7).setCell ⟨g, 8, none⟩ v8).setCell ⟨g, 9, none⟩ v9).setCell ⟨g, 10, none⟩ v10).setCell ⟨g, 11, none⟩ v11).setCell ⟨g, 12, none⟩ v12) := (((((((((((((h.setCell (p := ⟨g, 0, none⟩) hg v0).setCell (p := ⟨g, 1, none⟩) hg v1).setCell (p := ⟨g, 2, none⟩) hg v2).setCell (p := ⟨g, 3, none⟩) hg v3).setCell (p := ⟨g, 4, none⟩) hg v4).setCell (p := ⟨g, 5, none⟩) hg v5).setCell (p := ⟨g, 6, none⟩) hg v6).setCell (p := ⟨g, 7, none⟩) hg v7).setCell (p := ⟨g, 8, none⟩) hg v8).setCell (p := ⟨g, 9, none⟩) hg v9).setCell (p := ⟨g, 10, none⟩) hg v10).setCell (p := ⟨g, 11, none⟩) hg v11).setCell (p := ⟨g, 12, none⟩) hg v12)
end Go.Proofs.YtmiaplgfbphfmaaGreatDoor
namespace Go.Proofs.YtmiaplgfbphfmaaGreatDoor
open Go.RowKit

/-- The first k and the last k stand turned. -/
def TurnTo {α : Type} (cs ds : List α) (n k : Nat) : Prop := ds.length = n ∧ ∀ i, i < n → ds[i]? = if i < k ∨ n < i + 1 + k then cs[n - 1 - i]? else cs[i]?
theorem TurnTo.zero {α : Type} {cs : List α} {n : Nat} (h : cs.length = n) : TurnTo cs cs n 0 := ⟨h, fun i hi => by rw [if_neg (by omega)]⟩
theorem TurnTo.done {α : Type} {cs ds : List α} {n k : Nat} (h : TurnTo cs ds n k) (hc : cs.length = n) (hk : n ≤ 2 * k + 1) : ds = cs.reverse := by
  apply List.ext_getElem?
  intro i
  by_cases hi : i < n
  · rw [h.2 i hi, List.getElem?_reverse (by omega), hc]
    split
    · rfl
    · rw [show n - 1 - i = i from by omega]
  · rw [List.getElem?_eq_none (by have := h.1; omega), List.getElem?_eq_none (by simp; omega)]
theorem TurnTo.step {α : Type} {cs ds : List α} {n k : Nat} {x y : α} (h : TurnTo cs ds n k) (hk : 2 * k + 1 < n) (hx : ds[k]? = some x) (hy : ds[n - 1 - k]? = some y) : TurnTo cs ((ds.set k y).set (n - 1 - k) x) n (k + 1) := by
  refine ⟨by simp [h.1], fun i hi => ?_⟩
  have hx' := h.2 k (by omega)
  have hy' := h.2 (n - 1 - k) (by omega)
  rw [if_neg (by omega)] at hx' hy'
  rw [hx] at hx'
  rw [hy] at hy'
  by_cases h1 : i = n - 1 - k
  · subst h1
    rw [List.getElem?_set_self (by simp [h.1]; omega), if_pos (by omega), show n - 1 - (n - 1 - k) = k from by omega, ← hx']
  · rw [List.getElem?_set_ne (by omega)]
    by_cases h2 : i = k
    · subst h2
      rw [List.getElem?_set_self (by rw [h.1]; omega), if_pos (by omega), ← hy']
    · rw [List.getElem?_set_ne (by omega), h.2 i hi]
      by_cases h3 : i < k ∨ n < i + 1 + k
      · rw [if_pos h3, if_pos (by omega)]
      · rw [if_neg h3, if_neg (by omega)]

theorem cells_set {w : World} {g i : Nat} {t : TypeId} {cs rest : List Value} {y : Value} (h : w.heap[g]? = some (.cells (cs ++ rest).toArray t (0, 0))) (hi : i < cs.length) :
    (w.setCell ⟨g, i, none⟩ y).heap[g]? = some (.cells (cs.set i y ++ rest).toArray t (0, 0)) := by
  have e : ((cs ++ rest).set i y) = cs.set i y ++ rest := List.set_append_left _ _ hi
  rw [← e]
  simp [World.setCell, Array.getElem?_modify, h]
theorem cells_at {w : World} {g i : Nat} {t : TypeId} {cs rest : List Value} {x : Value} (h : w.heap[g]? = some (.cells (cs ++ rest).toArray t (0, 0))) (hx : cs[i]? = some x) : w.cell? ⟨g, i, none⟩ = some x := by
  rw [cell_of_heap h, List.getElem?_toArray, List.getElem?_append_left (List.getElem?_eq_some_iff.1 hx).1, hx]

theorem grown_set {w wr : World} {g i : Nat} {v : Value} (h : w.grownBy wr (some g)) : w.grownBy (wr.setCell ⟨g, i, none⟩ v) (some g) :=
  ⟨h.os, h.tape, h.output, by rw [size_setCell]; exact h.size, fun k hk hne => by
    have hkg : g ≠ k := fun e => hne (by rw [e])
    rw [← h.block k hk hne]
    simp [World.setCell, Array.getElem?_modify, hkg]⟩

end Go.Proofs.YtmiaplgfbphfmaaGreatDoor
namespace Go.Proofs.YtmiaplgfbphfmaaGreatDoor
open Go.RowKit

section
variable {α : Type} {size : Nat} {r : ERd α} {w w' : World} {base : Nat} {e : TypeId} {xs : List α}

theorem idx_ne {size i i' j j' : Nat} (hj : j < size) (hj' : j' < size) (h : i' ≠ i ∨ j' ≠ j) : i' * size + j' ≠ i * size + j := by
  intro e
  rcases Nat.lt_trichotomy i' i with h1 | h1 | h1
  · have : (i' + 1) * size ≤ i * size := Nat.mul_le_mul_right _ h1
    rw [Nat.add_mul, Nat.one_mul] at this; omega
  · subst h1; omega
  · have : (i + 1) * size ≤ i' * size := Nat.mul_le_mul_right _ h1
    rw [Nat.add_mul, Nat.one_mul] at this; omega

/-- A cell of the i-th element is set: what the element reads as then is told by the caller, off the cells that it had. -/
theorem own_set (s : Stable size r) (F : Full size r) (hs : 0 < size) {g cap i j n : Nat} {u : Value} {x : α} (h : Own size r w base e (.slice (some ⟨g, 0, none⟩) n cap) xs) (hi : i < n) (hj : j < size) (h1 : u.oneCell' = true)
    (hx : ∀ f : Nat → Option Value, (∀ j', j' < size → f j' = w.cell? ⟨g, i * size + j', none⟩) → r w (fun b => b < w.heap.size ∧ b ≠ g) (fun j' => if j' = j then some u else f j') x) :
    Own size r (w.setCell ⟨g, i * size + j, none⟩ u) base e (.slice (some ⟨g, 0, none⟩) n cap) (xs.set i x) := by
  have hn : n = xs.length := by
    obtain ⟨cs, ho, _⟩ := h
    rcases ho.2 with ⟨e1, _⟩ | ⟨_, _, _, e1, _⟩
    · cases e1
    · injection e1
  obtain ⟨g', cap', cs, rest, e1, hbg, hg, hnc, hcm, hl, hall, ho1, hr⟩ := own_row F hs h (by omega)
  injection e1 with e2 e3 e4
  injection e2 with e2
  injection e2 with e2
  subst e2 e4 hn
  have hlt : i * size + j < cs.length := by
    have : (i + 1) * size ≤ xs.length * size := Nat.mul_le_mul_right _ hi
    rw [Nat.add_mul, Nat.one_mul] at this; omega
  have hg2 := cells_set (y := u) hg hlt
  have hG : w.grownBy (w.setCell ⟨g, i * size + j, none⟩ u) (some g) := grown_set ⟨rfl, rfl, rfl, Nat.le_refl _, fun _ _ _ => rfl⟩
  have key := row_own (ys := xs.set i x) (w := w) (cap := cap) s hbg hg2 hG (by rw [List.length_set]; exact hnc) hcm (by rw [List.length_set, List.length_set]; exact hl) (by rw [List.length_set]; exact hall) fun k y hy => by
    by_cases hk : k = i
    · subst hk
      rw [List.getElem?_set_self hi] at hy
      injection hy with hy
      subst hy
      refine s.mono (fun j' v hj' hv => ?_) (hx (fun j' => cs[k * size + j']?) fun j' hj' => ?_)
      · by_cases e5 : j' = j
        · subst e5
          rw [if_pos rfl] at hv
          rw [List.getElem?_set_self hlt]; exact hv
        · rw [if_neg e5] at hv
          rw [List.getElem?_set_ne (idx_ne hj hj' (.inr e5)).symm]
          exact hv
      · have hlt' : k * size + j' < cs.length := by
          have : (k + 1) * size ≤ xs.length * size := Nat.mul_le_mul_right _ hi
          rw [Nat.add_mul, Nat.one_mul] at this; omega
        rw [cells_at hg (List.getElem?_eq_getElem hlt'), List.getElem?_eq_getElem hlt']
    · rw [List.getElem?_set_ne (fun e => hk e.symm)] at hy
      refine s.mono (fun j' v hj' hv => ?_) (hr k y hy)
      rw [List.getElem?_set_ne (idx_ne hj hj' (.inl hk)).symm]
      exact hv
  rw [List.length_set] at key
  exact key
end
end Go.Proofs.YtmiaplgfbphfmaaGreatDoor
namespace Go.Proofs.YtmiaplgfbphfmaaGreatDoor
open Go.RowKit

/-- As 'Own'; what lies behind the i-th element lies in blocks of 'reg i'. -/
def OwnR {α : Type} (size : Nat) (r : ERd α) (reg : Nat → Nat → Prop) (w : World) (base : Nat) (e : TypeId) (v : Value) (xs : List α) : Prop :=
  ∃ cs : List Value, w.ownsRow base e size v xs.length cs ∧ ∀ i x, xs[i]? = some x → r w (fun b => reg i b ∧ b < w.heap.size ∧ v.ownBlock ≠ some b) (fun j => cs[i * size + j]?) x

section
variable {α : Type} {size : Nat} {r : ERd α} {reg reg' : Nat → Nat → Prop} {w w' : World} {base : Nat} {e : TypeId} {v : Value} {xs ys : List α}

theorem OwnR.own (s : Stable size r) (h : OwnR size r reg w base e v xs) : Own size r w base e v xs := by
  obtain ⟨cs, ho, hr⟩ := h
  exact ⟨cs, ho, fun i x hx => s.more (fun b hb => hb.2) (hr i x hx)⟩
theorem OwnR.more (s : Stable size r) (h : OwnR size r reg w base e v xs) (hr : ∀ i b, i < xs.length → reg i b → reg' i b) : OwnR size r reg' w base e v xs := by
  obtain ⟨cs, ho, hrd⟩ := h
  exact ⟨cs, ho, fun i x hx => s.more (fun b hb => ⟨hr i b (List.getElem?_eq_some_iff.1 hx).1 hb.1, hb.2⟩) (hrd i x hx)⟩
theorem OwnR.nil : OwnR size r reg w base e (.slice none 0 0) ([] : List α) := ⟨[], World.ownsRow_nil w base e size, fun i x h => by simp at h⟩
theorem OwnR.fr (s : Stable size r) (h : OwnR size r reg w base e v xs) (hb : Fr w w') : OwnR size r reg w' base e v xs := by
  obtain ⟨cs, ho, hr⟩ := h
  have hg : w.grownBy w' none := ⟨hb.os, hb.tape, hb.output, hb.size, fun k hk _ => hb.block k hk⟩
  refine ⟨cs, ho.kept hg (by cases v.ownBlock <;> simp), fun i x hx => s.more (fun b hb' => ⟨hb'.1, Nat.lt_of_lt_of_le hb'.2.1 hb.size, hb'.2.2⟩) (s.keep (fun p hp => hb.cell hp.2.1) (hr i x hx))⟩
theorem OwnR.lower {base' : Nat} (h : OwnR size r reg w base e v xs) (hb : base' ≤ base) : OwnR size r reg w base' e v xs := by
  obtain ⟨cs, ho, hr⟩ := h
  refine ⟨cs, ⟨ho.1, ?_⟩, hr⟩
  rcases ho.2 with h0 | ⟨g, cap, cur, h1, h2, h3⟩
  · exact .inl h0
  · exact .inr ⟨g, cap, cur, h1, by omega, h3⟩

theorem ownR_row (F : Full size r) (hs : 0 < size) (h : OwnR size r reg w base e v xs) (hn : 0 < xs.length) :
    ∃ (g cap : Nat) (cs rest : List Value), v = .slice (some ⟨g, 0, none⟩) xs.length cap ∧ base ≤ g ∧ w.heap[g]? = some (.cells (cs ++ rest).toArray e (0, 0)) ∧ xs.length ≤ cap ∧ cap ≤ maxLen ∧ cs.length = xs.length * size ∧ cs.length + rest.length = cap * size ∧
      (∀ u ∈ cs, u.oneCell' = true) ∧ ∀ i x, xs[i]? = some x → r w (fun b => reg i b ∧ b < w.heap.size ∧ b ≠ g) (fun j => cs[i * size + j]?) x := by
  obtain ⟨cs, ho, hr⟩ := h
  have hlen := ho.1
  rcases ho.2 with ⟨rfl, h0⟩ | ⟨g, cap, cur, rfl, hbg, hg, hnc, hcm, hcs, htake⟩
  · omega
  · refine ⟨g, cap, cs, cur.toList.drop (xs.length * size), rfl, hbg, ?_, hnc, hcm, hlen, ?_, ?_, ?_⟩
    · rw [hg, ← htake, List.take_append_drop]
    · have : xs.length * size ≤ cap * size := Nat.mul_le_mul_right _ hnc
      have e2 : cur.toList.length = cap * size := by rw [Array.length_toList]; exact hcs
      rw [hlen, List.length_drop, e2]; omega
    · intro u hu
      obtain ⟨k, hk, rfl⟩ := List.mem_iff_getElem.1 hu
      have hi : k / size < xs.length := by rw [Nat.div_lt_iff_lt_mul hs]; omega
      obtain ⟨u', hu', h1⟩ := F (hr (k / size) _ (List.getElem?_eq_getElem hi)) (k % size) (Nat.mod_lt _ hs)
      have e1 : k / size * size + k % size = k := by rw [Nat.mul_comm]; exact Nat.div_add_mod k size
      simp only [e1] at hu'
      rw [List.getElem?_eq_getElem hk] at hu'
      injection hu' with hu'
      rw [hu']; exact h1
    · intro i x hx
      have := hr i x hx
      have e1 : (fun b => reg i b ∧ b < w.heap.size ∧ (Value.slice (some ⟨g, 0, none⟩) xs.length cap).ownBlock ≠ some b) = fun b => reg i b ∧ b < w.heap.size ∧ b ≠ g := by
        funext b
        simp [Value.ownBlock, eq_comm]
      rw [e1] at this
      exact this

theorem row_ownR (s : Stable size r) {g cap : Nat} {cs rest : List Value} (hbg : base ≤ g) (hg : w'.heap[g]? = some (.cells (cs ++ rest).toArray e (0, 0))) (hG : w.grownBy w' (some g)) (hnc : ys.length ≤ cap) (hcm : cap ≤ maxLen) (hcs : cs.length = ys.length * size) (hall : cs.length + rest.length = cap * size)
    (hr : ∀ i x, ys[i]? = some x → r w (fun b => reg i b ∧ b < w.heap.size ∧ b ≠ g) (fun j => cs[i * size + j]?) x) : OwnR size r reg w' base e (.slice (some ⟨g, 0, none⟩) ys.length cap) ys := by
  refine ⟨cs, ⟨hcs, .inr ⟨g, cap, _, rfl, hbg, hg, hnc, hcm, by simp; omega, by rw [← hcs]; simp⟩⟩, fun i x hx => ?_⟩
  refine s.more (fun b hb => ⟨hb.1, Nat.lt_of_lt_of_le hb.2.1 hG.size, ?_⟩) (s.keep (fun p hp => World.cell?_of_block (hG.block p.block hp.2.1 (fun e => hp.2.2 (by injection e)))) (hr i x hx))
  simp [Value.ownBlock]
  exact fun e => hb.2.2 e.symm

theorem ownR_len {g cap n : Nat} (h : OwnR size r reg w base e (.slice (some ⟨g, 0, none⟩) n cap) xs) : n = xs.length := by
  obtain ⟨cs, ho, _⟩ := h
  rcases ho.2 with ⟨e1, _⟩ | ⟨_, _, _, e1, _⟩
  · cases e1
  · injection e1

/-- A cell of the i-th element is set: what the element reads as then is told by the caller, off the cells that it had; the others stay. -/
theorem ownR_set (s : Stable size r) (F : Full size r) (hs : 0 < size) {g cap i j n : Nat} {u : Value} {x : α} (h : OwnR size r reg w base e (.slice (some ⟨g, 0, none⟩) n cap) xs) (hi : i < n) (hj : j < size) (h1 : u.oneCell' = true)
    (hreg : ∀ k b, k ≠ i → reg k b → reg' k b)
    (hx : ∀ f : Nat → Option Value, (∀ j', j' < size → f j' = w.cell? ⟨g, i * size + j', none⟩) → r w (fun b => reg' i b ∧ b < w.heap.size ∧ b ≠ g) (fun j' => if j' = j then some u else f j') x) :
    OwnR size r reg' (w.setCell ⟨g, i * size + j, none⟩ u) base e (.slice (some ⟨g, 0, none⟩) n cap) (xs.set i x) := by
  have hn := ownR_len h
  obtain ⟨g', cap', cs, rest, e1, hbg, hg, hnc, hcm, hl, hall, ho1, hr⟩ := ownR_row F hs h (by omega)
  injection e1 with e2 e3 e4
  injection e2 with e2
  injection e2 with e2
  subst e2 e4 hn
  have hlt : i * size + j < cs.length := by
    have : (i + 1) * size ≤ xs.length * size := Nat.mul_le_mul_right _ hi
    rw [Nat.add_mul, Nat.one_mul] at this; omega
  have hg2 := cells_set (y := u) hg hlt
  have hG : w.grownBy (w.setCell ⟨g, i * size + j, none⟩ u) (some g) := grown_set ⟨rfl, rfl, rfl, Nat.le_refl _, fun _ _ _ => rfl⟩
  have key := row_ownR (ys := xs.set i x) (reg := reg') (w := w) (cap := cap) s hbg hg2 hG (by rw [List.length_set]; exact hnc) hcm (by rw [List.length_set, List.length_set]; exact hl) (by rw [List.length_set]; exact hall) fun k y hy => by
    by_cases hk : k = i
    · subst hk
      rw [List.getElem?_set_self hi] at hy
      injection hy with hy
      subst hy
      refine s.mono (fun j' v hj' hv => ?_) (hx (fun j' => cs[k * size + j']?) fun j' hj' => ?_)
      · by_cases e5 : j' = j
        · subst e5
          rw [if_pos rfl] at hv
          rw [List.getElem?_set_self hlt]; exact hv
        · rw [if_neg e5] at hv
          rw [List.getElem?_set_ne (idx_ne hj hj' (.inr e5)).symm]
          exact hv
      · have hlt' : k * size + j' < cs.length := by
          have : (k + 1) * size ≤ xs.length * size := Nat.mul_le_mul_right _ hi
          rw [Nat.add_mul, Nat.one_mul] at this; omega
        rw [cells_at hg (List.getElem?_eq_getElem hlt'), List.getElem?_eq_getElem hlt']
    · rw [List.getElem?_set_ne (fun e => hk e.symm)] at hy
      refine s.more (fun b hb => ⟨hreg k b hk hb.1, hb.2⟩) (s.mono (fun j' v hj' hv => ?_) (hr k y hy))
      rw [List.getElem?_set_ne (idx_ne hj hj' (.inl hk)).symm]
      exact hv
  rw [List.length_set] at key
  exact key
end
end Go.Proofs.YtmiaplgfbphfmaaGreatDoor
