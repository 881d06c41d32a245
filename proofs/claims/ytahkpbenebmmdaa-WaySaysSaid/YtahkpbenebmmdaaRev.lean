/- slices.Reverse at blocks, on a row of cells. No condition. -/
import Derived.Test.YtahkpbenebmmdaaAddP
set_option linter.unusedSimpArgs false
set_option linter.unusedVariables false
namespace Go.Proofs.Ytahkpbenebmmdaa
open Go.RowKit

/-- The first k and the last k stand turned. -/
def TurnTo {α : Type} (cs ds : List α) (n k : Nat) : Prop := ds.length = n ∧ ∀ i, i < n → ds[i]? = if i < k ∨ n < i + 1 + k then cs[n - 1 - i]? else cs[i]?
theorem TurnTo.zero {α : Type} {cs : List α} {n : Nat} (h : cs.length = n) : TurnTo cs cs n 0 := ⟨h, fun i hi => by rw [if_neg (by omega)]⟩
theorem TurnTo.done {α : Type} {cs ds : List α} {n k : Nat} (h : TurnTo cs ds n k) (hc : cs.length = n) (hk : n ≤ 2 * k + 1) : ds = cs.reverse := by
  apply List.ext_getElem?
  intro i
  by_cases hi : i < n
  · rw [h.2 i hi, List.getElem?_reverse (by omega), hc]
    split
    · rfl
    · rw [show n - 1 - i = i from by omega]
  · rw [List.getElem?_eq_none (by have := h.1; omega), List.getElem?_eq_none (by simp; omega)]
theorem TurnTo.step {α : Type} {cs ds : List α} {n k : Nat} {x y : α} (h : TurnTo cs ds n k) (hk : 2 * k + 1 < n) (hx : ds[k]? = some x) (hy : ds[n - 1 - k]? = some y) : TurnTo cs ((ds.set k y).set (n - 1 - k) x) n (k + 1) := by
  refine ⟨by simp [h.1], fun i hi => ?_⟩
  have hx' := h.2 k (by omega)
  have hy' := h.2 (n - 1 - k) (by omega)
  rw [if_neg (by omega)] at hx' hy'
  rw [hx] at hx'
  rw [hy] at hy'
  by_cases h1 : i = n - 1 - k
  · subst h1
    rw [List.getElem?_set_self (by simp [h.1]; omega), if_pos (by omega), show n - 1 - (n - 1 - k) = k from by omega, ← hx']
  · rw [List.getElem?_set_ne (by omega)]
    by_cases h2 : i = k
    · subst h2
      rw [List.getElem?_set_self (by rw [h.1]; omega), if_pos (by omega), ← hy']
    · rw [List.getElem?_set_ne (by omega), h.2 i hi]
      by_cases h3 : i < k ∨ n < i + 1 + k
      · rw [if_pos h3, if_pos (by omega)]
      · rw [if_neg h3, if_neg (by omega)]

theorem cells_set {w : World} {g i : Nat} {t : TypeId} {cs rest : List Value} {y : Value} (h : w.heap[g]? = some (.cells (cs ++ rest).toArray t (0, 0))) (hi : i < cs.length) :
    (w.setCell ⟨g, i, none⟩ y).heap[g]? = some (.cells (cs.set i y ++ rest).toArray t (0, 0)) := by
  have e : ((cs ++ rest).set i y) = cs.set i y ++ rest := List.set_append_left _ _ hi
  rw [← e]
  simp [World.setCell, Array.getElem?_modify, h]
theorem cells_at {w : World} {g i : Nat} {t : TypeId} {cs rest : List Value} {x : Value} (h : w.heap[g]? = some (.cells (cs ++ rest).toArray t (0, 0))) (hx : cs[i]? = some x) : w.cell? ⟨g, i, none⟩ = some x := by
  rw [cell_of_heap h, List.getElem?_toArray, List.getElem?_append_left (List.getElem?_eq_some_iff.1 hx).1, hx]

theorem grown_set {w wr : World} {g i : Nat} {v : Value} (h : w.grownBy wr (some g)) : w.grownBy (wr.setCell ⟨g, i, none⟩ v) (some g) :=
  ⟨h.os, h.tape, h.output, by rw [size_setCell]; exact h.size, fun k hk hne => by
    have hkg : g ≠ k := fun e => hne (by rw [e])
    rw [← h.block k hk hne]
    simp [World.setCell, Array.getElem?_modify, hkg]⟩

set_option maxRecDepth 100000 in
set_option maxHeartbeats 1000000 in
theorem reverse_row (w : World) (g n cap : Nat) (t : TypeId) (cs rest : List Value) (hg : w.heap[g]? = some (.cells (cs ++ rest).toArray t (0, 0))) (hn : cs.length = n) (hm : n ≤ lim) (hsl : ∀ u ∈ cs, ∃ A m c, u = .slice A m c) :
    Calls Try.prog 27 #[.slice (some ⟨g, 0, none⟩) n cap] w fun e w' => e = .returned (.tuple #[]) ∧ w'.heap[g]? = some (.cells (cs.reverse ++ rest).toArray t (0, 0)) ∧ w.grownBy w' (some g) := by
  unfold lim at hm
  go_enter Try.func27, Try.ntmps27
  go_wp2_with fail
  go_loopw [2, 3] (fun i j wr => ∃ (k : Nat) (ds : List Value), 2 * k ≤ n + 1 ∧ i = .int .i64 k ∧ j = .int .i64 ((n : Int) - 1 - k) ∧ Hid (TurnTo cs ds n k) ∧ Hid (wr.heap[g]? = some (.cells (ds ++ rest).toArray t (0, 0))) ∧ Hid (w.grownBy wr (some g))) (fun i j _ => n - (intOf i).toNat)
  case atStart => exact ⟨0, cs, by omega, rfl, by simp, TurnTo.zero hn, hg, ⟨rfl, rfl, rfl, Nat.le_refl _, fun _ _ _ => rfl⟩⟩
  case round =>
    obtain ⟨k, ds, hk, rfl, rfl, HT, HG, HW⟩ := hrel
    by_cases hlt : 2 * k + 1 < n
    · obtain ⟨jn, hjn⟩ : ∃ jn : Nat, jn = n - 1 - k := ⟨_, rfl⟩
      have hji : (n : Int) - 1 - k = jn := by omega
      rw [hji]
      obtain ⟨x, hx⟩ : ∃ x, ds[k]? = some x := ⟨_, List.getElem?_eq_getElem (by rw [HT.out.1]; omega)⟩
      obtain ⟨y, hy⟩ : ∃ y, ds[jn]? = some y := ⟨_, List.getElem?_eq_getElem (by rw [HT.out.1]; omega)⟩
      have hx' := HT.out.2 k (by omega)
      have hy' := HT.out.2 jn (by omega)
      rw [hx, if_neg (by omega)] at hx'
      rw [hy, if_neg (by omega)] at hy'
      obtain ⟨A1, m1, d1, rfl⟩ := hsl x (List.mem_of_getElem? hx'.symm)
      obtain ⟨A2, m2, d2, rfl⟩ := hsl y (List.mem_of_getElem? hy'.symm)
      clear hx' hy'
      have hcx := cells_at HG.out hx
      have hcy := cells_at HG.out hy
      have hfx : wr.frozen? ⟨g, k, none⟩ = false := blk_free HG.out
      have hfy : wr.frozen? ⟨g, jn, none⟩ = false := blk_free HG.out
      have R : Hid (TurnTo cs ((ds.set k (.slice A2 m2 d2)).set jn (.slice A1 m1 d1)) n (k + 1)) := by rw [Hid, hjn]; exact HT.out.step hlt hx (by rw [← hjn]; exact hy)
      have hklt : k < n := by omega
      have hjlt : jn < n := by omega
      have hne : k ≠ jn := by omega
      have hne2 : jn ≠ k := by omega
      have hkj : (k : Int) < (jn : Int) := by omega
      have R3 : Hid (((wr.setCell ⟨g, k, none⟩ (.slice A2 m2 d2)).setCell ⟨g, jn, none⟩ (.slice A1 m1 d1)).heap[g]? = some (.cells ((ds.set k (.slice A2 m2 d2)).set jn (.slice A1 m1 d1) ++ rest).toArray t (0, 0))) :=
        cells_set (cells_set HG.out (by rw [HT.out.1]; exact hklt)) (by rw [List.length_set, HT.out.1]; exact hjlt)
      have R4 : Hid (w.grownBy ((wr.setCell ⟨g, k, none⟩ (.slice A2 m2 d2)).setCell ⟨g, jn, none⟩ (.slice A1 m1 d1)) (some g)) := grown_set (grown_set HW.out)
      clear hx hy
      (have Hjn := Lib.hid hjn; clear hjn; have Hji := Lib.hid hji; clear hji)
      go_wp2_with fail
      go_region_with (fail)
      all_goals (try go_wp2_with fail)
      all_goals (
        refine ⟨⟨k + 1, _, by omega, by simp, congrArg _ (by have := Hjn.out; omega), R.out, R3.out, ?_⟩, ?_⟩
        · have q := R4.out
          exact ⟨q.os, q.tape, q.output, q.size, q.block⟩
        · simp only [intOf]; omega)
    · have R : Hid (ds = cs.reverse) := HT.out.done hn (by omega)
      go_wp2_with fail
      go_end0
      exact ⟨rfl, by rw [← R.out]; exact HG.out, HW.out⟩
end Go.Proofs.Ytahkpbenebmmdaa
