/- Slices of the call's own as rows of cells, and back; a row cleared. No condition; no function in sight. -/
import Derived.Test.YtbincgbgeccccaaGreatDoorOwn
import Derived.Deep.RegionLaw
import Derived.Laws.CopyRow
set_option linter.unusedSimpArgs false
set_option linter.unusedVariables false
namespace Go.Proofs.YtbincgbgeccccaaGreatDoor
open Go.RowKit

section
variable {α : Type} {size : Nat} {r : ERd α} {w w' : World} {base : Nat} {e : TypeId} {v : Value} {xs ys : List α}

/-- Its row of cells. -/
theorem own_row (F : Full size r) (hs : 0 < size) (h : Own size r w base e v xs) (hn : 0 < xs.length) :
    ∃ (g cap : Nat) (cs rest : List Value), v = .slice (some ⟨g, 0, none⟩) xs.length cap ∧ base ≤ g ∧ w.heap[g]? = some (.cells (cs ++ rest).toArray e (0, 0)) ∧ xs.length ≤ cap ∧ cap ≤ maxLen ∧ cs.length = xs.length * size ∧ cs.length + rest.length = cap * size ∧
      (∀ u ∈ cs, u.oneCell' = true) ∧ ∀ i x, xs[i]? = some x → r w (fun b => b < w.heap.size ∧ b ≠ g) (fun j => cs[i * size + j]?) x := by
  obtain ⟨cs, ho, hr⟩ := h
  have hlen := ho.1
  rcases ho.2 with ⟨rfl, h0⟩ | ⟨g, cap, cur, rfl, hbg, hg, hnc, hcm, hcs, htake⟩
  · omega
  · refine ⟨g, cap, cs, cur.toList.drop (xs.length * size), rfl, hbg, ?_, hnc, hcm, hlen, ?_, ?_, ?_⟩
    · rw [hg, ← htake, List.take_append_drop]
    · have : xs.length * size ≤ cap * size := Nat.mul_le_mul_right _ hnc
      have e2 : cur.toList.length = cap * size := by rw [Array.length_toList]; exact hcs
      rw [hlen, List.length_drop, e2]; omega
    · intro u hu
      obtain ⟨k, hk, rfl⟩ := List.mem_iff_getElem.1 hu
      have hi : k / size < xs.length := by rw [Nat.div_lt_iff_lt_mul hs]; omega
      obtain ⟨u', hu', h1⟩ := F (hr (k / size) _ (List.getElem?_eq_getElem hi)) (k % size) (Nat.mod_lt _ hs)
      have e1 : k / size * size + k % size = k := by rw [Nat.mul_comm]; exact Nat.div_add_mod k size
      simp only [e1] at hu'
      rw [List.getElem?_eq_getElem hk] at hu'
      injection hu' with hu'
      rw [hu']; exact h1
    · intro i x hx
      have := hr i x hx
      have e1 : (fun b => b < w.heap.size ∧ (Value.slice (some ⟨g, 0, none⟩) xs.length cap).ownBlock ≠ some b) = fun b => b < w.heap.size ∧ b ≠ g := by
        funext b
        simp [Value.ownBlock, eq_comm]
      rw [e1] at this
      exact this

/-- And back: the row's cells may have been moved. -/
theorem row_own (s : Stable size r) {g cap : Nat} {cs rest : List Value} (hbg : base ≤ g) (hg : w'.heap[g]? = some (.cells (cs ++ rest).toArray e (0, 0))) (hG : w.grownBy w' (some g)) (hnc : ys.length ≤ cap) (hcm : cap ≤ maxLen) (hcs : cs.length = ys.length * size) (hall : cs.length + rest.length = cap * size)
    (hr : ∀ i x, ys[i]? = some x → r w (fun b => b < w.heap.size ∧ b ≠ g) (fun j => cs[i * size + j]?) x) : Own size r w' base e (.slice (some ⟨g, 0, none⟩) ys.length cap) ys := by
  refine ⟨cs, ⟨hcs, .inr ⟨g, cap, _, rfl, hbg, hg, hnc, hcm, by simp; omega, by rw [← hcs]; simp⟩⟩, fun i x hx => ?_⟩
  refine s.more (fun b hb => ⟨Nat.lt_of_lt_of_le hb.1 hG.size, ?_⟩) (s.keep (fun p hp => World.cell?_of_block (hG.block p.block hp.1 (fun e => hp.2 (by injection e)))) (hr i x hx))
  simp [Value.ownBlock]
  exact fun e => hb.2 e.symm
end

/-- 'clear(s)', s the end of a row. -/
theorem run_clear_row {P : Program} (w : World) (t e ty : TypeId) (z : Value) (ht : P.underlying t = some (.slice e)) (hv : ∀ w, (zeroValue e).run P w = .ok z w) (h1 : ∀ u ∈ z.cells.toList, u.oneCell' = true) (g o n c : Nat) (hn : 0 < n) (cur : List Value) (tc : TypeId)
    (hg : w.heap[g]? = some (.cells cur.toArray tc (0, 0))) (ho : o + n * z.cells.size ≤ cur.length) :
    (Builtin.clear_ #[t] ty #[.slice (some ⟨g, o, none⟩) n c]).run P w = .ok (.tuple #[]) (w.setRow g (cur.take o ++ (Builtin.zeroCells z.cells n).toList ++ cur.drop (o + n * z.cells.size)).toArray) := by
  have hl : (Builtin.zeroCells z.cells n).toList.length = n * z.cells.size := by rw [Array.length_toList, size_zeroCells]
  have hst := run_storeCells_at (P := P) g o tc (Builtin.zeroCells z.cells n).toList 0 cur.toArray w hg (by rw [hl]; simpa using ho) (by
    intro v hv'
    simp only [Builtin.zeroCells, Array.toList_map, List.mem_map] at hv'
    obtain ⟨i, hi, rfl⟩ := hv'
    have hz : i % z.cells.size < z.cells.size := by
      rcases Nat.eq_zero_or_pos z.cells.size with h0 | h0
      · rw [h0] at hi; simp at hi
      · exact Nat.mod_lt _ h0
    rw [getElem!_pos z.cells _ hz]
    exact h1 _ (by rw [Array.mem_toList_iff]; exact Array.getElem_mem hz))
  rw [hl] at hst
  simp only [Nat.add_zero] at hst
  obtain ⟨m, rfl⟩ : ∃ m, n = m + 1 := ⟨n - 1, by omega⟩
  simp [Builtin.clear_, run_underlying ht, hv, hst]
end Go.Proofs.YtbincgbgeccccaaGreatDoor
