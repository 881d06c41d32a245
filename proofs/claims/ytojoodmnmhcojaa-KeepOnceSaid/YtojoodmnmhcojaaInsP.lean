/- copy at elements of several cells, as steps of a walk; a row put into rows of cells. No condition; no function in sight. -/
import Derived.Test.YtojoodmnmhcojaaOwnRow
import Derived.Lib.Overlaps
import Derived.Lib.AppendZerosOnto
set_option linter.unusedSimpArgs false
set_option linter.unusedVariables false
namespace Go.Proofs.Ytojoodmnmhcojaa
open Go.RowKit

theorem run_copyN {P : Program} (w : World) (dT sT ty elem : TypeId) (size g o dLen dCap : Nat) (a : Addr) (sLen sCap : Nat) (cur : List Value) (t : TypeId) (cs : List Value)
    (hu : P.underlying dT = some (.slice elem)) (hs : (P.info? elem).map (·.size) = some size)
    (hg : w.heap[g]? = some (.cells cur.toArray t (0, 0))) (hn : cs.length = Nat.min sLen dLen * size)
    (hsrc : ∀ j v, cs[j]? = some v → w.cell? (a.add j) = some v) (hfit : o + cs.length ≤ cur.length) (h1 : ∀ v ∈ cs, v.oneCell' = true) :
    (Builtin.copy_ #[dT, sT] ty #[.slice (some ⟨g, o, none⟩) dLen dCap, .slice (some a) sLen sCap]).run P w =
      .ok (goInt (Nat.min sLen dLen)) (w.setRow g (cur.take o ++ cs ++ cur.drop (o + cs.length)).toArray) := by
  have hl := run_loadCells_list (P := P) w a cs hsrc
  have hst := run_storeCells_at P g o t cs 0 cur.toArray w hg (by simpa using hfit) h1
  cases hq : P.info? elem with
  | none => simp [hq] at hs
  | some i =>
    have hi : i.size = size := by simpa [hq] using hs
    simp [Builtin.copy_, run_underlying hu, Builtin.lenOf, Builtin.firstCells, sizeOf, typeInfo, hq, hi, ← hn, hl, hst]
theorem wpList_copy_eq {P : Program} (w : World) {ops : Array Oper} {rest : List Oper} {o : Oper} {a : Act} {Q : Exit → Act → World → Prop} (hgd : o.guard = none) (d s : Operand) (t t' : TypeId)
    (ho : o.op = .call { callee := .builtin .copy, args := #[d, s], argTypes := #[t, t'] }) (v u : Value) (hd : a.eval d = v) (hs : a.eval s = u) {v' : Value} {w' : World}
    (hr : (Builtin.copy_ #[t, t'] o.type #[v, u]).run P w = .ok v' w') (h : wpList P ops Q rest (a.put o.dst v') w') : wpList P ops Q (o :: rest) a w :=
  wpList_plain hgd fun _ hK => by
    unfold Oper.wp execOp
    simp only [ho, resolve, invoke, builtin, Sem.run_bind, Sem.run_pure, Result.andThen_ok, List.map_toArray, List.map_cons, List.map_nil, hd, hs, hr]
    exact hK _ _ h
theorem step_copy_eq {P : Program} {ops : Array Oper} {o : Oper} {a : Act} {w : World} {K : Act → World → Prop} {Q : Exit → Act → World → Prop} {E : Prop}
    (hg : o.guard = none) (d x : Operand) (dT sT : TypeId) (hop : o.op = Op.call { callee := Callee.builtin Builtin.copy, args := #[d, x], argTypes := #[dT, sT] })
    (v u : Value) (hd : a.eval d = v) (hx : a.eval x = u) {v' : Value} {w' : World} (hr : (Builtin.copy_ #[dT, sT] o.type #[v, u]).run P w = .ok v' w') (hK : K (a.put o.dst v') w') :
    if Region.wanted o (yielded ops a.tmps) = true then Oper.wp P o a w K Q else E := by
  have hw : Region.wanted o (yielded ops a.tmps) = true := by simp [Region.wanted, hg]
  rw [if_pos hw]
  unfold Oper.wp
  simp [execOp, hop, resolve, invoke, builtin, hd, hx, hr, Result.andThen]
  exact hK

/-- The cells of a list with one put in. -/
theorem ins_get {α : Type} {size k i j : Nat} {xs : List α} {y z : α} {cs vs : List Value} {u : Value} (hl : cs.length = xs.length * size) (hv : vs.length = size) (hk : k ≤ xs.length) (hj : j < size)
    (h : (xs.take k ++ y :: xs.drop k)[i]? = some z) (hu : (if i = k then vs[j]? else cs[(if i < k then i else i - 1) * size + j]?) = some u) : (cs.take (k * size) ++ vs ++ cs.drop (k * size))[i * size + j]? = some u := by
  have hkl : k * size ≤ cs.length := by rw [hl]; exact Nat.mul_le_mul_right _ hk
  have htl : (cs.take (k * size)).length = k * size := by rw [List.length_take]; omega
  rcases Nat.lt_trichotomy i k with h1 | h1 | h1
  · rw [if_neg (by omega), if_pos h1] at hu
    have : (i + 1) * size ≤ k * size := Nat.mul_le_mul_right _ h1
    rw [Nat.add_mul, Nat.one_mul] at this
    rw [List.append_assoc, List.getElem?_append_left (by omega), List.getElem?_take, if_pos (by omega)]
    exact hu
  · subst h1
    rw [if_pos rfl] at hu
    rw [List.append_assoc, List.getElem?_append_right (by omega), htl, show i * size + j - i * size = j by omega, List.getElem?_append_left (by omega)]
    exact hu
  · rw [if_neg (by omega), if_neg (by omega)] at hu
    obtain ⟨m, rfl⟩ : ∃ m, i = m + 1 := ⟨i - 1, by omega⟩
    rw [Nat.add_sub_cancel] at hu
    have : k * size ≤ m * size := Nat.mul_le_mul_right _ (by omega)
    rw [Nat.add_mul, Nat.one_mul, List.getElem?_append_right (by rw [List.length_append]; omega), List.length_append, htl, hv, List.getElem?_drop, show k * size + (m * size + size + j - (k * size + size)) = m * size + j by omega]
    exact hu
theorem ins_list {α : Type} {k i : Nat} {xs : List α} {y z : α} (hk : k ≤ xs.length) (h : (xs.take k ++ y :: xs.drop k)[i]? = some z) : (i = k ∧ y = z) ∨ (i ≠ k ∧ xs[if i < k then i else i - 1]? = some z) := by
  have htl : (xs.take k).length = k := by rw [List.length_take]; omega
  rcases Nat.lt_trichotomy i k with h1 | h1 | h1
  · rw [List.getElem?_append_left (by omega), List.getElem?_take, if_pos h1] at h
    exact .inr ⟨by omega, by rw [if_pos h1]; exact h⟩
  · subst h1
    rw [List.getElem?_append_right (by omega), htl, Nat.sub_self] at h
    exact .inl ⟨rfl, by simpa using h⟩
  · obtain ⟨m, rfl⟩ : ∃ m, i = m + 1 := ⟨i - 1, by omega⟩
    rw [List.getElem?_append_right (by omega), htl, show m + 1 - k = (m - k) + 1 by omega, List.getElem?_cons_succ, List.getElem?_drop, show k + (m - k) = m by omega] at h
    exact .inr ⟨by omega, by rw [if_neg (by omega), Nat.add_sub_cancel]; exact h⟩
theorem shape_cells {w : World} {b : Nat} {cs : Array Value} {t : TypeId} {fr : Nat × Nat} (h : w.heap[b]? = some (.cells cs t fr)) : w.shape? b = some (t, cs.size) := by simp [World.shape?, h]
end Go.Proofs.Ytojoodmnmhcojaa
