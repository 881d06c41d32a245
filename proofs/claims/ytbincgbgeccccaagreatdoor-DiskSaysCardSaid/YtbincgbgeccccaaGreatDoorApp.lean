/- One element appended to a slice of the call's own: as a step of a walk. No condition. -/
import Derived.Test.YtbincgbgeccccaaGreatDoorOwnRow
set_option linter.unusedSimpArgs false
set_option linter.unusedVariables false
namespace Go.Proofs.YtbincgbgeccccaaGreatDoor
open Go.RowKit

section
variable {α : Type} {size : Nat} {r : ERd α}

/-- What was read below B, read beside a slice of the call's own. -/
theorem ERd.beside {β : Type} {size' : Nat} {r' : ERd β} {w wr : World} {B base : Nat} {e : TypeId} {v : Value} {xs : List β} {f : Nat → Option Value} {y : α} (s : Stable size r) (h : r w (LT B) f y)
    (hb : Below B w wr) (hB : B ≤ base) (hs : B ≤ wr.heap.size) (ho : Own size' r' wr base e v xs) : r wr (fun b => b < wr.heap.size ∧ v.ownBlock ≠ some b) f y :=
  s.more (fun b hb' => ⟨Nat.lt_of_lt_of_le hb' hs, ho.far (Nat.lt_of_lt_of_le hb' hB)⟩) (s.keep (fun p hp => hb.cell hp) h)

theorem app1_pre {P : Program} {W0 W1 : World} {base e b : Nat} {news : List Value} {te : TypeId} {v : Value} {xs : List α} {y : α} {fr : Nat × Nat} (st : Stable size r)
    (hown : Own size r W0 base e v xs) (hf : Fr W0 W1) (hblk : W1.heap[b]? = some (.cells news.toArray te fr)) (hl : news.length = size)
    (hy : r W0 (fun b => b < W0.heap.size ∧ v.ownBlock ≠ some b) (fun j => news[j]?) y) :
    Own size r W1 base e v xs ∧ (∀ j u, news[j]? = some u → W1.cell? ((⟨b, 0, none⟩ : Addr).add j) = some u) ∧ (∀ i x, [y][i]? = some x → r W1 (fun b => b < W1.heap.size ∧ v.ownBlock ≠ some b) (fun j => news[i * size + j]?) x) := by
  refine ⟨hown.fr st hf, fun j u hu => ?_, fun i x hx => ?_⟩
  · rw [zero_add_addr, cell_of_heap hblk, List.getElem?_toArray]; exact hu
  · obtain rfl : i = 0 := by have := (List.getElem?_eq_some_iff.1 hx).1; simp at this; omega
    obtain rfl : y = x := by simpa using hx
    simp only [Nat.zero_mul, Nat.zero_add]
    exact st.more (fun b hb => ⟨Nat.lt_of_lt_of_le hb.1 hf.size, hb.2⟩) (st.keep (fun p hp => hf.cell hp.1) hy)

/-- 'append(v, y)' at a slice of the call's own; y's cells lie in a block of their own. W0: the world ahead of that block. -/
theorem wpList_app1 {P : Program} {W1 : World} {ops : Array Oper} {rest : List Oper} {o : Oper} {a : Act} {Q : Exit → Act → World → Prop} (hgd : o.guard = none) (s x : Operand) (t : TypeId)
    (ho : o.op = .call { callee := .builtin .append, args := #[s, x], argTypes := #[t, t] })
    (base : Nat) (e : TypeId) (z : Value) (bytes : Nat) (ht : P.underlying t = some (.slice e)) (hi : (P.info? e).map (fun i => (i.zero, i.size, i.bytes)) = some (some z, size, bytes))
    (hzs : z.cells.size = size) (hsz : 0 < size) (st : Stable size r)
    (W0 : World) (hf : Fr W0 W1) (v : Value) (xs : List α) (hs : a.eval s = v) (hown : Own size r W0 base e v xs)
    (b : Nat) (news : List Value) (te : TypeId) (fr : Nat × Nat) (hx : a.eval x = .slice (some ⟨b, 0, none⟩) 1 1) (hblk : W1.heap[b]? = some (.cells news.toArray te fr)) (hl : news.length = size) (h1 : ∀ u ∈ news, u.oneCell' = true)
    (y : α) (hy : r W0 (fun b => b < W0.heap.size ∧ v.ownBlock ≠ some b) (fun j => news[j]?) y)
    (h63 : xs.length + 1 ≤ maxLen) (hbytes : (xs.length + 1) * bytes ≤ lim) (B : Nat) (A0 : World) (hbel : Below B A0 W0) (hB : B ≤ base) (hbase : base ≤ W0.heap.size)
    (h : ∀ v' w', Hid (Own size r w' base e v' (xs ++ [y])) → Hid (Below B A0 w') → wpList P ops Q rest (a.put o.dst v') w') : wpList P ops Q (o :: rest) a W1 := by
  obtain ⟨q1, q2, q3⟩ := app1_pre (P := P) st hown hf hblk hl hy
  refine wpList_apps W1 hgd s x t ho base e z size bytes ht hi hzs hsz st v xs hs q1 ⟨b, 0, none⟩ 1 1 news hx (by rw [Nat.one_mul]; exact hl) q2 h1 [y] rfl q3 h63 hbytes (Nat.le_trans hbase hf.size) fun v' w' k1 k2 k3 => h v' w' k1 ?_
  exact (hbel.trans (hf.mono (Nat.le_trans hB hbase))).grown k2 (Nat.le_trans (Nat.le_trans hB hbase) hf.size) fun k hk => Nat.le_trans hB (k3 k hk)

/-- The same as a step of a region that draws its order. -/
theorem step_app1 {P : Program} {W1 : World} {ops : Array Oper} {o : Oper} {a : Act} {K : Act → World → Prop} {Q : Exit → Act → World → Prop} {E : Prop} (hgd : o.guard = none) (s x : Operand) (t : TypeId)
    (ho : o.op = .call { callee := .builtin .append, args := #[s, x], argTypes := #[t, t] })
    (base : Nat) (e : TypeId) (z : Value) (bytes : Nat) (ht : P.underlying t = some (.slice e)) (hi : (P.info? e).map (fun i => (i.zero, i.size, i.bytes)) = some (some z, size, bytes))
    (hzs : z.cells.size = size) (hsz : 0 < size) (st : Stable size r)
    (W0 : World) (hf : Fr W0 W1) (v : Value) (xs : List α) (hs : a.eval s = v) (hown : Own size r W0 base e v xs)
    (b : Nat) (news : List Value) (te : TypeId) (fr : Nat × Nat) (hx : a.eval x = .slice (some ⟨b, 0, none⟩) 1 1) (hblk : W1.heap[b]? = some (.cells news.toArray te fr)) (hl : news.length = size) (h1 : ∀ u ∈ news, u.oneCell' = true)
    (y : α) (hy : r W0 (fun b => b < W0.heap.size ∧ v.ownBlock ≠ some b) (fun j => news[j]?) y)
    (h63 : xs.length + 1 ≤ maxLen) (hbytes : (xs.length + 1) * bytes ≤ lim) (B : Nat) (A0 : World) (hbel : Below B A0 W0) (hB : B ≤ base) (hbase : base ≤ W0.heap.size)
    (h : ∀ v' w', Hid (Own size r w' base e v' (xs ++ [y])) → Hid (Below B A0 w') → K (a.put o.dst v') w') :
    if Region.wanted o (yielded ops a.tmps) = true then Oper.wp P o a W1 K Q else E := by
  obtain ⟨q1, q2, q3⟩ := app1_pre (P := P) st hown hf hblk hl hy
  refine step_apps hgd s x t ho base e z size bytes ht hi hzs hsz st v xs hs q1 ⟨b, 0, none⟩ 1 1 news hx (by rw [Nat.one_mul]; exact hl) q2 h1 [y] rfl q3 h63 hbytes (Nat.le_trans hbase hf.size) fun v' w' k1 k2 k3 => h v' w' k1 ?_
  exact (hbel.trans (hf.mono (Nat.le_trans hB hbase))).grown k2 (Nat.le_trans (Nat.le_trans hB hbase) hf.size) fun k hk => Nat.le_trans hB (k3 k hk)
end
end Go.Proofs.YtbincgbgeccccaaGreatDoor
