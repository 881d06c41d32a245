/- Slices of the call's own that grow by append, as lists. No condition. -/
import Derived.Test.YtbincgbgeccccaaGreatDoorBase
import Derived.Maps.AppendAt
import Derived.Deep.AppendLies
import Derived.RegionTactic
set_option linter.unusedSimpArgs false
set_option linter.unusedVariables false
namespace Go.Proofs.YtbincgbgeccccaaGreatDoor
open Go.RowKit

/-- Every cell of an element is there, and is one cell. -/
def Full {α : Type} (size : Nat) (r : ERd α) : Prop := ∀ {w : World} {S : Nat → Prop} {f : Nat → Option Value} {x : α}, r w S f x → ∀ j, j < size → ∃ u, f j = some u ∧ u.oneCell' = true
theorem fByte : Full 1 eByte := fun h j hj => by obtain rfl : j = 0 := by omega
                                                 exact ⟨_, h, rfl⟩
theorem fBool : Full 1 eBool := fun h j hj => by obtain rfl : j = 0 := by omega
                                                 exact ⟨_, h, rfl⟩
theorem fInt : Full 1 eInt := fun h j hj => by obtain rfl : j = 0 := by omega
                                               exact ⟨_, h.1, rfl⟩
theorem fSl {α : Type} {size bytes : Nat} {r : ERd α} : Full 1 (eSl size bytes r) := fun h j hj => by
  obtain rfl : j = 0 := by omega
  obtain ⟨A, n, c, h0, _⟩ := h
  exact ⟨_, h0, rfl⟩

section
variable {α : Type} {size : Nat} {r : ERd α} {w w' : World} {S : Nat → Prop} {base n : Nat} {e : TypeId} {v : Value} {xs : List α} {A : Option Addr}

/-- The cells of a slice that reads as a list. -/
theorem Els.cells {ad : Addr} (F : Full size r) (s : Stable size r) (hs : 0 < size) (h : Els size r w S ad n xs) :
    ∃ cs : List Value, cs.length = n * size ∧ (∀ j u, cs[j]? = some u → w.cell? (ad.add j) = some u) ∧ (∀ u ∈ cs, u.oneCell' = true) ∧ ∀ i x, xs[i]? = some x → r w S (fun j => cs[i * size + j]?) x := by
  obtain ⟨hl, hS, hr⟩ := h
  have hcell : ∀ j, j < n * size → ∃ u, w.cell? (ad.add j) = some u ∧ u.oneCell' = true := by
    intro j hj
    have hi : j / size < n := by rw [Nat.div_lt_iff_lt_mul hs]; exact hj
    have hx : xs[j / size]? = some xs[j / size] := List.getElem?_eq_getElem (by omega)
    obtain ⟨u, hu, h1⟩ := F (hr _ _ hx) (j % size) (Nat.mod_lt _ hs)
    refine ⟨u, ?_, h1⟩
    rw [show j = j / size * size + j % size from by rw [Nat.mul_comm]; exact (Nat.div_add_mod j size).symm]
    exact hu
  refine ⟨(List.range (n * size)).map fun j => (w.cell? (ad.add j)).getD undef, by simp, ?_, ?_, ?_⟩
  · intro j u hu
    rw [List.getElem?_map] at hu
    have hj : j < n * size := by
      rcases Nat.lt_or_ge j (n * size) with h | h
      · exact h
      · rw [List.getElem?_eq_none (by simpa using h)] at hu; simp at hu
    rw [List.getElem?_range hj] at hu
    obtain ⟨u', hu', _⟩ := hcell j hj
    simp [hu'] at hu
    rw [hu', hu]
  · intro u hu
    obtain ⟨j, hj, rfl⟩ := List.mem_map.1 hu
    obtain ⟨u', hu', h1⟩ := hcell j (List.mem_range.1 hj)
    simpa [hu'] using h1
  · intro i x hx
    refine s.mono (fun j u hjs hu => ?_) (hr i x hx)
    have hi : i < n := by have := (List.getElem?_eq_some_iff.1 hx).1; omega
    have hlt : i * size + j < n * size := by
      have : (i + 1) * size ≤ n * size := Nat.mul_le_mul_right _ hi
      rw [Nat.add_mul] at this
      omega
    simp only [List.getElem?_map, List.getElem?_range hlt, Option.map_some, hu, Option.getD_some]

theorem Own.nil : Own size r w base e (.slice none 0 0) ([] : List α) := ⟨[], World.ownsRow_nil w base e size, fun i x h => by simp at h⟩

/-- What was read of old blocks lies in none of the call's own. -/
theorem Own.far (h : Own size r w base e v xs) {b : Nat} (hb : b < base) : v.ownBlock ≠ some b := by
  obtain ⟨cs, ho, _⟩ := h
  intro e
  have := (ho.lt b e).1
  omega

/-- A slice of the call's own reads as a list. -/
theorem Own.sl (s : Stable size r) (hs : 0 < size) (h : Own size r w base e v xs) : ∃ A c, v = .slice A xs.length c ∧ xs.length ≤ maxLen ∧ (v.ownBlock = none ↔ A = none) ∧ Sl size r w (LT w.heap.size) A xs.length xs := by
  obtain ⟨cs, ho, hr⟩ := h
  rcases ho.2 with ⟨rfl, h0⟩ | ⟨g, cap, cur, rfl, hbg, hg, hnc, hcm, hcs, htake⟩
  · refine ⟨none, 0, by rw [h0], by omega, by simp [Value.ownBlock], rfl, fun hn => ?_⟩
    omega
  · refine ⟨some ⟨g, 0, none⟩, cap, rfl, by omega, by simp [Value.ownBlock], rfl, fun hn => ⟨_, rfl, (Array.getElem?_eq_some_iff.1 hg).1, fun i x hx => ?_⟩⟩
    refine s.mono (fun j u hj hu => ?_) (s.more (fun b hb => hb.1) (hr i x hx))
    have hi : i < xs.length := (List.getElem?_eq_some_iff.1 hx).1
    rw [zero_add_addr, cell_of_heap hg]
    rw [← htake, List.getElem?_take] at hu
    split at hu
    · simpa using hu
    · cases hu

theorem Own.lower {base' : Nat} (h : Own size r w base e v xs) (hb : base' ≤ base) : Own size r w base' e v xs := by
  obtain ⟨cs, ho, hr⟩ := h
  refine ⟨cs, ⟨ho.1, ?_⟩, hr⟩
  rcases ho.2 with h0 | ⟨g, cap, cur, h1, h2, h3⟩
  · exact .inl h0
  · exact .inr ⟨g, cap, cur, h1, by omega, h3⟩

/-- It stays so over blocks that are new. -/
theorem Own.fr (s : Stable size r) (h : Own size r w base e v xs) (hb : Fr w w') : Own size r w' base e v xs := by
  obtain ⟨cs, ho, hr⟩ := h
  have hg : w.grownBy w' none := ⟨hb.os, hb.tape, hb.output, hb.size, fun k hk _ => hb.block k hk⟩
  refine ⟨cs, ho.kept hg (by cases v.ownBlock <;> simp), fun i x hx => s.more (fun b hb' => ⟨Nat.lt_of_lt_of_le hb'.1 hb.size, hb'.2⟩) (s.keep (fun p hp => hb.cell hp.1) (hr i x hx))⟩

theorem Own.slC (s : Stable size r) (hs : 0 < size) (h : Own size r w base e v xs) : ∃ A c, v = .slice A xs.length c ∧ (xs.length ≤ c ∧ c ≤ maxLen) ∧ Sl size r w (LT w.heap.size) A xs.length xs := by
  obtain ⟨A, c, e1, _, _, hsl⟩ := h.sl s hs
  refine ⟨A, c, e1, ?_, hsl⟩
  obtain ⟨cs, ho, _⟩ := h
  subst e1
  rcases ho.2 with ⟨h0, h1⟩ | ⟨g, cap, cur, h0, _, _, h1, h2, _⟩
  · injection h0 with _ _ h0; subst h0; exact ⟨by omega, by unfold maxLen; omega⟩
  · injection h0 with _ _ h0; subst h0; exact ⟨h1, h2⟩
theorem frAlloc (w : World) (o : Obj) : Fr w (w.alloc o) := (Below.refl _ _).alloc (Nat.le_refl _) _

/-- What append leaves. -/
theorem own_apps (s : Stable size r) {ys : List α} {cs news : List Value} {v' : Value} {m : Nat} (hr : ∀ i x, xs[i]? = some x → r w (fun b => b < w.heap.size ∧ v.ownBlock ≠ some b) (fun j => cs[i * size + j]?) x)
    (hcs : cs.length = xs.length * size) (hm : ys.length = m) (hy : ∀ i x, ys[i]? = some x → r w (fun b => b < w.heap.size ∧ v.ownBlock ≠ some b) (fun j => news[i * size + j]?) x)
    (ho : w'.ownsRow base e size v' (xs.length + m) (cs ++ news)) (hg : w.grownBy w' v.ownBlock) (hl : v'.ownBlock = v.ownBlock ∨ v'.ownBlock = some w.heap.size) : Own size r w' base e v' (xs ++ ys) := by
  have keep : ∀ {f : Nat → Option Value} {x : α}, r w (fun b => b < w.heap.size ∧ v.ownBlock ≠ some b) f x → r w' (fun b => b < w'.heap.size ∧ v'.ownBlock ≠ some b) f x := by
    intro f x h
    refine s.more (fun b hb => ⟨Nat.lt_of_lt_of_le hb.1 hg.size, ?_⟩) (s.keep (fun p hp => World.cell?_of_block (hg.block p.block hp.1 (fun e => hp.2 e.symm))) h)
    rcases hl with hl | hl
    · rw [hl]; exact hb.2
    · rw [hl]; intro e; injection e with e; omega
  refine ⟨cs ++ news, by rw [List.length_append, hm]; exact ho, fun i x hx => ?_⟩
  rw [List.getElem?_append] at hx
  split at hx
  · rename_i hi
    refine s.mono (fun j u hj hu => ?_) (keep (hr i x hx))
    rw [List.getElem?_append_left (by rw [hcs]; have : (i + 1) * size ≤ xs.length * size := Nat.mul_le_mul_right _ hi
                                      rw [Nat.add_mul] at this; omega)]
    exact hu
  · rename_i hi
    refine s.mono (fun j u hj hu => ?_) (keep (hy _ x hx))
    have e1 : i * size = xs.length * size + (i - xs.length) * size := by rw [← Nat.add_mul]; congr 1; omega
    rw [List.getElem?_append_right (by rw [hcs, e1]; omega), hcs, show i * size + j - xs.length * size = (i - xs.length) * size + j from by omega]
    exact hu
end

/-- What was read of old memory, read beside a slice of the call's own. -/
theorem Sl.beside {α β : Type} {size size' : Nat} {r : ERd α} {r' : ERd β} {w wr : World} {e : TypeId} {v : Value} {xs : List β} {A : Option Addr} {n : Nat} {ys : List α} (s : Stable size r) (h : Sl size r w (LT w.heap.size) A n ys)
    (hb : Below w.heap.size w wr) (ho : Own size' r' wr w.heap.size e v xs) : Sl size r wr (fun b => b < wr.heap.size ∧ v.ownBlock ≠ some b) A n ys :=
  (h.keep s fun _ hp => hb.cell hp).more s fun _ hp => ⟨Nat.lt_of_lt_of_le hp hb.size, ho.far hp⟩

theorem run_append_type {P : Program} (w : World) {t t' e e' : TypeId} {ty : TypeId} {A A' : Option Addr} {n c n' c' : Nat} (ht : P.underlying t = some (.slice e)) (ht' : P.underlying t' = some (.slice e')) :
    (Builtin.append_ #[t, t'] ty #[.slice A n c, .slice A' n' c']).run P w = (Builtin.append_ #[t, t] ty #[.slice A n c, .slice A' n' c']).run P w := by
  unfold Builtin.append_
  simp only [List.getElem?_toArray, List.getElem?_cons_zero, List.getElem?_cons_succ, Sem.run_bind, run_underlying ht, run_underlying ht', Result.andThen_ok]
/-- 'append(v, ..)' at a slice of the call's own: one element, or more, or none. -/
theorem wpList_apps2 {α : Type} {r : ERd α} {P : Program} (w : World) {ops : Array Oper} {rest : List Oper} {o : Oper} {a : Act} {Q : Exit → Act → World → Prop} (hgd : o.guard = none) (s x : Operand) (t t' : TypeId)
    (ho : o.op = .call { callee := .builtin .append, args := #[s, x], argTypes := #[t, t'] })
    (base : Nat) (e : TypeId) (z : Value) (size bytes : Nat) (ht : P.underlying t = some (.slice e)) {e' : TypeId} (ht' : P.underlying t' = some (.slice e')) (hi : (P.info? e).map (fun i => (i.zero, i.size, i.bytes)) = some (some z, size, bytes))
    (hzs : z.cells.size = size) (hsz : 0 < size) (st : Stable size r)
    (v : Value) (xs : List α) (hs : a.eval s = v) (hown : Own size r w base e v xs)
    (ad : Addr) (m c : Nat) (news : List Value) (hx : a.eval x = .slice (some ad) m c) (hl : news.length = m * size) (hnews : ∀ j u, news[j]? = some u → w.cell? (ad.add j) = some u) (h1 : ∀ u ∈ news, u.oneCell' = true)
    (ys : List α) (hm : ys.length = m) (hy : ∀ i x, ys[i]? = some x → r w (fun b => b < w.heap.size ∧ v.ownBlock ≠ some b) (fun j => news[i * size + j]?) x)
    (h63 : xs.length + m ≤ maxLen) (hbytes : (xs.length + m) * bytes ≤ lim) (hbase : base ≤ w.heap.size)
    (h : ∀ v' w', Own size r w' base e v' (xs ++ ys) → w.grownBy w' v.ownBlock → (∀ k, v.ownBlock = some k → base ≤ k) → wpList P ops Q rest (a.put o.dst v') w') : wpList P ops Q (o :: rest) a w := by
  obtain ⟨i, hi1, hi2⟩ := Option.map_eq_some_iff.1 hi
  simp only [Prod.mk.injEq] at hi2
  obtain ⟨cs, hrow, hr⟩ := hown
  refine wpList_plain hgd fun K hK => ?_
  obtain ⟨v', w', hrun, g2, g3, g4, g5⟩ := run_append_own_at (P := P) w base t o.type e i z size bytes ht hi1 hi2.1 hi2.2.1 hi2.2.2 hzs hsz v xs.length cs hrow ad m c news hl hnews h1 h63 hbytes hbase
  obtain ⟨vA, vn, vc, rfl⟩ : ∃ vA vn vc, v = .slice vA vn vc := by
    rcases hrow.2 with ⟨h0, _⟩ | ⟨g, cap, cur, h0, _⟩
    · exact ⟨_, _, _, h0⟩
    · exact ⟨_, _, _, h0⟩
  rw [← run_append_type (P := P) w ht ht'] at hrun
  unfold Oper.wp execOp
  simp only [ho, resolve, invoke, builtin, Sem.run_bind, Sem.run_pure, Result.andThen_ok, List.map_toArray, List.map_cons, List.map_nil, hs, hx, hrun]
  exact hK _ _ (h v' w' (own_apps st hr hrow.1 hm hy g2 g3 g5) g3 fun k hk => (hrow.lt k hk).1)
/-- 'append(v, ..)' at a slice of the call's own: one element, or more, or none. -/
theorem wpList_apps {α : Type} {r : ERd α} {P : Program} (w : World) {ops : Array Oper} {rest : List Oper} {o : Oper} {a : Act} {Q : Exit → Act → World → Prop} (hgd : o.guard = none) (s x : Operand) (t : TypeId)
    (ho : o.op = .call { callee := .builtin .append, args := #[s, x], argTypes := #[t, t] })
    (base : Nat) (e : TypeId) (z : Value) (size bytes : Nat) (ht : P.underlying t = some (.slice e)) (hi : (P.info? e).map (fun i => (i.zero, i.size, i.bytes)) = some (some z, size, bytes))
    (hzs : z.cells.size = size) (hsz : 0 < size) (st : Stable size r)
    (v : Value) (xs : List α) (hs : a.eval s = v) (hown : Own size r w base e v xs)
    (ad : Addr) (m c : Nat) (news : List Value) (hx : a.eval x = .slice (some ad) m c) (hl : news.length = m * size) (hnews : ∀ j u, news[j]? = some u → w.cell? (ad.add j) = some u) (h1 : ∀ u ∈ news, u.oneCell' = true)
    (ys : List α) (hm : ys.length = m) (hy : ∀ i x, ys[i]? = some x → r w (fun b => b < w.heap.size ∧ v.ownBlock ≠ some b) (fun j => news[i * size + j]?) x)
    (h63 : xs.length + m ≤ maxLen) (hbytes : (xs.length + m) * bytes ≤ lim) (hbase : base ≤ w.heap.size)
    (h : ∀ v' w', Own size r w' base e v' (xs ++ ys) → w.grownBy w' v.ownBlock → (∀ k, v.ownBlock = some k → base ≤ k) → wpList P ops Q rest (a.put o.dst v') w') : wpList P ops Q (o :: rest) a w :=
  wpList_apps2 w hgd s x t t ho base e z size bytes ht ht hi hzs hsz st v xs hs hown ad m c news hx hl hnews h1 ys hm hy h63 hbytes hbase h
/-- The same as one step of a region that draws its order. -/
theorem step_apps {α : Type} {r : ERd α} {P : Program} {w : World} {ops : Array Oper} {o : Oper} {a : Act} {K : Act → World → Prop} {Q : Exit → Act → World → Prop} {E : Prop} (hgd : o.guard = none) (s x : Operand) (t : TypeId)
    (ho : o.op = .call { callee := .builtin .append, args := #[s, x], argTypes := #[t, t] })
    (base : Nat) (e : TypeId) (z : Value) (size bytes : Nat) (ht : P.underlying t = some (.slice e)) (hi : (P.info? e).map (fun i => (i.zero, i.size, i.bytes)) = some (some z, size, bytes))
    (hzs : z.cells.size = size) (hsz : 0 < size) (st : Stable size r)
    (v : Value) (xs : List α) (hs : a.eval s = v) (hown : Own size r w base e v xs)
    (ad : Addr) (m c : Nat) (news : List Value) (hx : a.eval x = .slice (some ad) m c) (hl : news.length = m * size) (hnews : ∀ j u, news[j]? = some u → w.cell? (ad.add j) = some u) (h1 : ∀ u ∈ news, u.oneCell' = true)
    (ys : List α) (hm : ys.length = m) (hy : ∀ i x, ys[i]? = some x → r w (fun b => b < w.heap.size ∧ v.ownBlock ≠ some b) (fun j => news[i * size + j]?) x)
    (h63 : xs.length + m ≤ maxLen) (hbytes : (xs.length + m) * bytes ≤ lim) (hbase : base ≤ w.heap.size)
    (h : ∀ v' w', Own size r w' base e v' (xs ++ ys) → w.grownBy w' v.ownBlock → (∀ k, v.ownBlock = some k → base ≤ k) → K (a.put o.dst v') w') :
    if Region.wanted o (yielded ops a.tmps) = true then Oper.wp P o a w K Q else E := by
  have hw : Region.wanted o (yielded ops a.tmps) = true := by simp [Region.wanted, hgd]
  rw [if_pos hw]
  obtain ⟨i, hi1, hi2⟩ := Option.map_eq_some_iff.1 hi
  simp only [Prod.mk.injEq] at hi2
  obtain ⟨cs, hrow, hr⟩ := hown
  obtain ⟨v', w', hrun, g2, g3, g4, g5⟩ := run_append_own_at (P := P) w base t o.type e i z size bytes ht hi1 hi2.1 hi2.2.1 hi2.2.2 hzs hsz v xs.length cs hrow ad m c news hl hnews h1 h63 hbytes hbase
  unfold Oper.wp execOp
  simp only [ho, resolve, invoke, builtin, Sem.run_bind, Sem.run_pure, Result.andThen_ok, List.map_toArray, List.map_cons, List.map_nil, hs, hx, hrun]
  exact h v' w' (own_apps st hr hrow.1 hm hy g2 g3 g5) g3 fun k hk => (hrow.lt k hk).1
theorem infoByte : (Tryz.prog.info? 5).map (fun i => (i.zero, i.size, i.bytes)) = some (some (bV 0), 1, 1) := by kernel_rfl
theorem infoBlock : (Tryz.prog.info? 29).map (fun i => (i.zero, i.size, i.bytes)) = some (some (.slice none 0 0), 1, 24) := by kernel_rfl
theorem infoBool : (Tryz.prog.info? 4).map (fun i => (i.zero, i.size, i.bytes)) = some (some (.bool false), 1, 1) := by kernel_rfl
end Go.Proofs.YtbincgbgeccccaaGreatDoor
