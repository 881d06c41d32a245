/- slices.Grow of nil, slices.Concat. No condition. -/
import Derived.Test.YtbincgbgeccccaaGreatDoorOwn
import Derived.Laws.AppendOwnNone
import Derived.Lib.AppendZerosOnto
set_option maxRecDepth 100000
set_option linter.unusedSimpArgs false
set_option linter.unusedVariables false
namespace Go.Proofs.YtbincgbgeccccaaGreatDoor
open Go.RowKit

/-- append of nothing, from nil. -/
theorem wpList_apps_nil {α : Type} {r : ERd α} {size : Nat} {P : Program} (w : World) {ops : Array Oper} {rest : List Oper} {o : Oper} {a : Act} {Q : Exit → Act → World → Prop} (hgd : o.guard = none) (s x : Operand) (t : TypeId)
    (ho : o.op = .call { callee := .builtin .append, args := #[s, x], argTypes := #[t, t] })
    (base : Nat) (e : TypeId) (i : TypeInfo) (ht : P.underlying t = some (.slice e)) (hi : P.info? e = some i)
    (v : Value) (xs : List α) (c : Nat) (hs : a.eval s = v) (hown : Own size r w base e v xs) (hx : a.eval x = .slice none 0 c)
    (h : wpList P ops Q rest (a.put o.dst v) w) : wpList P ops Q (o :: rest) a w := by
  obtain ⟨cs, hrow, _⟩ := hown
  refine wpList_plain hgd fun K hK => ?_
  have hrun : (Builtin.append_ #[t, t] o.type #[v, .slice none 0 c]).run P w = .ok v w := by
    rcases hrow.2 with ⟨rfl, _⟩ | ⟨g, cap, cur, rfl, _, _, hnc, _⟩
    · simp [Builtin.append_, run_underlying ht, sizeOf, typeInfo, hi, Builtin.lenOf, Builtin.firstCells]
    · simp [Builtin.append_, run_underlying ht, sizeOf, typeInfo, hi, Builtin.lenOf, Builtin.firstCells, hnc, storeCells]
  unfold Oper.wp
  simp [execOp, ho, resolve, invoke, builtin, hs, hx, hrun, Result.andThen]
  exact hK _ _ h

/-- How many in all. -/
def lens {α : Type} (ls : List (List α)) : Nat := (ls.map List.length).sum
theorem lens_take_succ {α : Type} {ls : List (List α)} {k : Nat} {l : List α} (h : ls[k]? = some l) : lens (ls.take (k + 1)) = lens (ls.take k) + l.length := by
  unfold lens
  rw [take_snoc' h, List.map_append, List.sum_append]; simp
theorem lens_take_le {α : Type} (ls : List (List α)) (k : Nat) : lens (ls.take k) ≤ lens ls := by
  unfold lens
  have : ls = ls.take k ++ ls.drop k := (List.take_append_drop k ls).symm
  conv => rhs; rw [this, List.map_append, List.sum_append]
  omega
theorem length_flatten_lens {α : Type} (ls : List (List α)) : ls.flatten.length = lens ls := by unfold lens; rw [List.length_flatten]

theorem Els.slC {α : Type} {size bytes : Nat} {r : ERd α} {w : World} {S : Nat → Prop} {n k : Nat} {ad : Addr} {ls : List (List α)} (h : Els 1 (eSl size bytes r) w S ad n ls) (hk : k < n) :
    ∃ A' n' c' l, ls[k]? = some l ∧ w.cell? (ad.add k) = some (.slice A' n' c') ∧ n' * bytes ≤ lim ∧ n' ≤ c' ∧ c' ≤ maxLen ∧ Sl size r w S A' n' l := by
  obtain ⟨x, hx, A', n', c', h0, h1, h2⟩ := h.at_ hk
  exact ⟨A', n', c', x, hx, by simpa using h0, h1.1, h1.2.1, h1.2.2, h2⟩


end Go.Proofs.YtbincgbgeccccaaGreatDoor
