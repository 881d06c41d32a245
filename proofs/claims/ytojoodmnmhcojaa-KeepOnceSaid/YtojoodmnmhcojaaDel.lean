/- slices.Delete of one element, and slices.Reverse, at slices of the call's own. No condition. -/
import Derived.Test.YtojoodmnmhcojaaRev
import Derived.Test.YtojoodmnmhcojaaOwnRow
set_option linter.unusedSimpArgs false
set_option linter.unusedVariables false
namespace Go.Proofs.Ytojoodmnmhcojaa
open Go.RowKit

theorem erase_get {α : Type} {size k i j : Nat} {xs : List α} {cs : List Value} (hl : cs.length = xs.length * size) (hk : k < xs.length) (hj : j < size) (hi : i < xs.length - 1) :
    (cs.take (k * size) ++ cs.drop ((k + 1) * size))[i * size + j]? = cs[(if i < k then i else i + 1) * size + j]? := by
  have h1 : k * size ≤ xs.length * size := Nat.mul_le_mul_right _ (by omega)
  have hkl : (cs.take (k * size)).length = k * size := by rw [List.length_take, hl]; omega
  have e1 : (k + 1) * size = k * size + size := by rw [Nat.add_mul, Nat.one_mul]
  split
  · rename_i h
    have h2 : (i + 1) * size ≤ k * size := Nat.mul_le_mul_right _ h
    rw [Nat.add_mul, Nat.one_mul] at h2
    rw [List.getElem?_append_left (by omega), List.getElem?_take, if_pos (by omega)]
  · rename_i h
    have h2 : k * size ≤ i * size := Nat.mul_le_mul_right _ (by omega)
    rw [List.getElem?_append_right (by omega), List.getElem?_drop, hkl, Nat.add_mul i 1 size, Nat.one_mul]
    congr 1; omega

theorem eraseIdx_get {α : Type} {xs : List α} {k i : Nat} {x : α} (h : (xs.eraseIdx k)[i]? = some x) (hk : k < xs.length) : xs[if i < k then i else i + 1]? = some x ∧ i < xs.length - 1 := by
  have hi := (List.getElem?_eq_some_iff.1 h).1
  rw [List.length_eraseIdx, if_pos hk] at hi
  refine ⟨?_, hi⟩
  rw [List.getElem?_eraseIdx] at h
  split at h <;> rename_i h' <;> simp [h'] <;> exact h

/-- append where there is room, in a row, as one step of a region that draws. -/
theorem step_append_row {P : Program} {ops : Array Oper} {o : Oper} {a : Act} {w : World} {K : Act → World → Prop} {Q : Exit → Act → World → Prop} {E : Prop}
    (hg : o.guard = none) (s x : Operand) (t : TypeId) (hop : o.op = Op.call { callee := Callee.builtin Builtin.append, args := #[s, x], argTypes := #[t, t] })
    (e : TypeId) (i : TypeInfo) (size : Nat) (h1 : P.underlying t = some (.slice e)) (h2 : P.info? e = some i) (h4 : i.size = size)
    (g n cap : Nat) (cur : List Value) (hr : w.heap[g]? = some (.cells cur.toArray e (0, 0))) (hs : a.eval s = .slice (some ⟨g, 0, none⟩) n cap)
    (ad : Addr) (m c : Nat) (news : List Value) (hx : a.eval x = .slice (some ad) m c) (hn : news.length = m * size) (hc : ∀ j u, news[j]? = some u → w.cell? (ad.add j) = some u) (h1c : ∀ u ∈ news, u.oneCell' = true)
    (hroom : n + m ≤ cap) (hfit : n * size + news.length ≤ cur.length)
    (hK : K (a.put o.dst (.slice (some ⟨g, 0, none⟩) (n + m) cap)) (w.setRow g (cur.take (n * size) ++ (news ++ cur.drop (n * size + news.length))).toArray)) :
    if Region.wanted o (yielded ops a.tmps) = true then Oper.wp P o a w K Q else E := by
  have hw : Region.wanted o (yielded ops a.tmps) = true := by simp [Region.wanted, hg]
  rw [if_pos hw]
  subst h4
  have hrun := run_append_room (P := P) w t o.type e i h1 h2 g n cap cur.toArray hr ad m c news hn hc h1c hroom (by simpa using hfit)
  unfold Oper.wp
  simp [execOp, hop, resolve, invoke, builtin, hs, hx, hrun, Result.andThen]
  exact hK
theorem grown_setRow {w wr : World} {g : Nat} (h : w.grownBy wr (some g)) (cs : Array Value) : w.grownBy (wr.setRow g cs) (some g) :=
  ⟨h.os, h.tape, h.output, by rw [size_setRow]; exact h.size, fun k hk hne => by rw [setRow_other wr g k cs (fun e => hne (by rw [e]))]; exact h.block k hk hne⟩

end Go.Proofs.Ytojoodmnmhcojaa
