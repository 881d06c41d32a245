/- Slices of the call's own whose elements lie in told blocks. No condition; no function in sight. -/
import Derived.Test.YtojoodmnmhcojaaOwnSet
import Derived.Test.YtojoodmnmhcojaaApp
set_option linter.unusedSimpArgs false
set_option linter.unusedVariables false
namespace Go.Proofs.Ytojoodmnmhcojaa
open Go.RowKit

/-- As 'Own'; what lies behind the i-th element lies in blocks of 'reg i'. -/
def OwnR {α : Type} (size : Nat) (r : ERd α) (reg : Nat → Nat → Prop) (w : World) (base : Nat) (e : TypeId) (v : Value) (xs : List α) : Prop :=
  ∃ cs : List Value, w.ownsRow base e size v xs.length cs ∧ ∀ i x, xs[i]? = some x → r w (fun b => reg i b ∧ b < w.heap.size ∧ v.ownBlock ≠ some b) (fun j => cs[i * size + j]?) x

section
variable {α : Type} {size : Nat} {r : ERd α} {reg reg' : Nat → Nat → Prop} {w w' : World} {base : Nat} {e : TypeId} {v : Value} {xs ys : List α}

theorem OwnR.own (s : Stable size r) (h : OwnR size r reg w base e v xs) : Own size r w base e v xs := by
  obtain ⟨cs, ho, hr⟩ := h
  exact ⟨cs, ho, fun i x hx => s.more (fun b hb => hb.2) (hr i x hx)⟩
theorem Own.ownR (s : Stable size r) (h : Own size r w base e v xs) : OwnR size r (fun _ _ => True) w base e v xs := by
  obtain ⟨cs, ho, hr⟩ := h
  exact ⟨cs, ho, fun i x hx => s.more (fun b hb => ⟨trivial, hb⟩) (hr i x hx)⟩
theorem OwnR.more (s : Stable size r) (h : OwnR size r reg w base e v xs) (hr : ∀ i b, i < xs.length → reg i b → reg' i b) : OwnR size r reg' w base e v xs := by
  obtain ⟨cs, ho, hrd⟩ := h
  exact ⟨cs, ho, fun i x hx => s.more (fun b hb => ⟨hr i b (List.getElem?_eq_some_iff.1 hx).1 hb.1, hb.2⟩) (hrd i x hx)⟩
theorem OwnR.nil : OwnR size r reg w base e (.slice none 0 0) ([] : List α) := ⟨[], World.ownsRow_nil w base e size, fun i x h => by simp at h⟩
theorem OwnR.fr (s : Stable size r) (h : OwnR size r reg w base e v xs) (hb : Fr w w') : OwnR size r reg w' base e v xs := by
  obtain ⟨cs, ho, hr⟩ := h
  have hg : w.grownBy w' none := ⟨hb.os, hb.tape, hb.output, hb.size, fun k hk _ => hb.block k hk⟩
  refine ⟨cs, ho.kept hg (by cases v.ownBlock <;> simp), fun i x hx => s.more (fun b hb' => ⟨hb'.1, Nat.lt_of_lt_of_le hb'.2.1 hb.size, hb'.2.2⟩) (s.keep (fun p hp => hb.cell hp.2.1) (hr i x hx))⟩
theorem OwnR.lower {base' : Nat} (h : OwnR size r reg w base e v xs) (hb : base' ≤ base) : OwnR size r reg w base' e v xs := by
  obtain ⟨cs, ho, hr⟩ := h
  refine ⟨cs, ⟨ho.1, ?_⟩, hr⟩
  rcases ho.2 with h0 | ⟨g, cap, cur, h1, h2, h3⟩
  · exact .inl h0
  · exact .inr ⟨g, cap, cur, h1, by omega, h3⟩

theorem ownR_row (F : Full size r) (hs : 0 < size) (h : OwnR size r reg w base e v xs) (hn : 0 < xs.length) :
    ∃ (g cap : Nat) (cs rest : List Value), v = .slice (some ⟨g, 0, none⟩) xs.length cap ∧ base ≤ g ∧ w.heap[g]? = some (.cells (cs ++ rest).toArray e (0, 0)) ∧ xs.length ≤ cap ∧ cap ≤ maxLen ∧ cs.length = xs.length * size ∧ cs.length + rest.length = cap * size ∧
      (∀ u ∈ cs, u.oneCell' = true) ∧ ∀ i x, xs[i]? = some x → r w (fun b => reg i b ∧ b < w.heap.size ∧ b ≠ g) (fun j => cs[i * size + j]?) x := by
  obtain ⟨cs, ho, hr⟩ := h
  have hlen := ho.1
  rcases ho.2 with ⟨rfl, h0⟩ | ⟨g, cap, cur, rfl, hbg, hg, hnc, hcm, hcs, htake⟩
  · omega
  · refine ⟨g, cap, cs, cur.toList.drop (xs.length * size), rfl, hbg, ?_, hnc, hcm, hlen, ?_, ?_, ?_⟩
    · rw [hg, ← htake, List.take_append_drop]
    · have : xs.length * size ≤ cap * size := Nat.mul_le_mul_right _ hnc
      have e2 : cur.toList.length = cap * size := by rw [Array.length_toList]; exact hcs
      rw [hlen, List.length_drop, e2]; omega
    · intro u hu
      obtain ⟨k, hk, rfl⟩ := List.mem_iff_getElem.1 hu
      have hi : k / size < xs.length := by rw [Nat.div_lt_iff_lt_mul hs]; omega
      obtain ⟨u', hu', h1⟩ := F (hr (k / size) _ (List.getElem?_eq_getElem hi)) (k % size) (Nat.mod_lt _ hs)
      have e1 : k / size * size + k % size = k := by rw [Nat.mul_comm]; exact Nat.div_add_mod k size
      simp only [e1] at hu'
      rw [List.getElem?_eq_getElem hk] at hu'
      injection hu' with hu'
      rw [hu']; exact h1
    · intro i x hx
      have := hr i x hx
      have e1 : (fun b => reg i b ∧ b < w.heap.size ∧ (Value.slice (some ⟨g, 0, none⟩) xs.length cap).ownBlock ≠ some b) = fun b => reg i b ∧ b < w.heap.size ∧ b ≠ g := by
        funext b
        simp [Value.ownBlock, eq_comm]
      rw [e1] at this
      exact this

theorem row_ownR (s : Stable size r) {g cap : Nat} {cs rest : List Value} (hbg : base ≤ g) (hg : w'.heap[g]? = some (.cells (cs ++ rest).toArray e (0, 0))) (hG : w.grownBy w' (some g)) (hnc : ys.length ≤ cap) (hcm : cap ≤ maxLen) (hcs : cs.length = ys.length * size) (hall : cs.length + rest.length = cap * size)
    (hr : ∀ i x, ys[i]? = some x → r w (fun b => reg i b ∧ b < w.heap.size ∧ b ≠ g) (fun j => cs[i * size + j]?) x) : OwnR size r reg w' base e (.slice (some ⟨g, 0, none⟩) ys.length cap) ys := by
  refine ⟨cs, ⟨hcs, .inr ⟨g, cap, _, rfl, hbg, hg, hnc, hcm, by simp; omega, by rw [← hcs]; simp⟩⟩, fun i x hx => ?_⟩
  refine s.more (fun b hb => ⟨hb.1, Nat.lt_of_lt_of_le hb.2.1 hG.size, ?_⟩) (s.keep (fun p hp => World.cell?_of_block (hG.block p.block hp.2.1 (fun e => hp.2.2 (by injection e)))) (hr i x hx))
  simp [Value.ownBlock]
  exact fun e => hb.2.2 e.symm

theorem ownR_len {g cap n : Nat} (h : OwnR size r reg w base e (.slice (some ⟨g, 0, none⟩) n cap) xs) : n = xs.length := by
  obtain ⟨cs, ho, _⟩ := h
  rcases ho.2 with ⟨e1, _⟩ | ⟨_, _, _, e1, _⟩
  · cases e1
  · injection e1

/-- A cell of the i-th element is set: what the element reads as then is told by the caller, off the cells that it had; the others stay. -/
theorem ownR_set (s : Stable size r) (F : Full size r) (hs : 0 < size) {g cap i j n : Nat} {u : Value} {x : α} (h : OwnR size r reg w base e (.slice (some ⟨g, 0, none⟩) n cap) xs) (hi : i < n) (hj : j < size) (h1 : u.oneCell' = true)
    (hreg : ∀ k b, k ≠ i → reg k b → reg' k b)
    (hx : ∀ f : Nat → Option Value, (∀ j', j' < size → f j' = w.cell? ⟨g, i * size + j', none⟩) → r w (fun b => reg' i b ∧ b < w.heap.size ∧ b ≠ g) (fun j' => if j' = j then some u else f j') x) :
    OwnR size r reg' (w.setCell ⟨g, i * size + j, none⟩ u) base e (.slice (some ⟨g, 0, none⟩) n cap) (xs.set i x) := by
  have hn := ownR_len h
  obtain ⟨g', cap', cs, rest, e1, hbg, hg, hnc, hcm, hl, hall, ho1, hr⟩ := ownR_row F hs h (by omega)
  injection e1 with e2 e3 e4
  injection e2 with e2
  injection e2 with e2
  subst e2 e4 hn
  have hlt : i * size + j < cs.length := by
    have : (i + 1) * size ≤ xs.length * size := Nat.mul_le_mul_right _ hi
    rw [Nat.add_mul, Nat.one_mul] at this; omega
  have hg2 := cells_set (y := u) hg hlt
  have hG : w.grownBy (w.setCell ⟨g, i * size + j, none⟩ u) (some g) := grown_set ⟨rfl, rfl, rfl, Nat.le_refl _, fun _ _ _ => rfl⟩
  have key := row_ownR (ys := xs.set i x) (reg := reg') (w := w) (cap := cap) s hbg hg2 hG (by rw [List.length_set]; exact hnc) hcm (by rw [List.length_set, List.length_set]; exact hl) (by rw [List.length_set]; exact hall) fun k y hy => by
    by_cases hk : k = i
    · subst hk
      rw [List.getElem?_set_self hi] at hy
      injection hy with hy
      subst hy
      refine s.mono (fun j' v hj' hv => ?_) (hx (fun j' => cs[k * size + j']?) fun j' hj' => ?_)
      · by_cases e5 : j' = j
        · subst e5
          rw [if_pos rfl] at hv
          rw [List.getElem?_set_self hlt]; exact hv
        · rw [if_neg e5] at hv
          rw [List.getElem?_set_ne (idx_ne hj hj' (.inr e5)).symm]
          exact hv
      · have hlt' : k * size + j' < cs.length := by
          have : (k + 1) * size ≤ xs.length * size := Nat.mul_le_mul_right _ hi
          rw [Nat.add_mul, Nat.one_mul] at this; omega
        rw [cells_at hg (List.getElem?_eq_getElem hlt'), List.getElem?_eq_getElem hlt']
    · rw [List.getElem?_set_ne (fun e => hk e.symm)] at hy
      refine s.more (fun b hb => ⟨hreg k b hk hb.1, hb.2⟩) (s.mono (fun j' v hj' hv => ?_) (hr k y hy))
      rw [List.getElem?_set_ne (idx_ne hj hj' (.inl hk)).symm]
      exact hv
  rw [List.length_set] at key
  exact key
end
end Go.Proofs.Ytojoodmnmhcojaa
