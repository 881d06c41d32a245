/- What a call changes: some told blocks, and new ones. Blocks of a kind of cells. No condition. -/
import Derived.Test.YtnfjghldcopaaaaRow
set_option linter.unusedSimpArgs false
set_option linter.unusedVariables false
namespace Go.Proofs.Ytnfjghldcopaaaa
open Go.RowKit

/-- Only the blocks S have changed, of those that were. -/
structure Chg (S : Nat → Prop) (w w' : World) : Prop where
  os : w'.os = w.os
  tape : w'.tape = w.tape
  output : w'.output = w.output
  size : w.heap.size ≤ w'.heap.size
  block : ∀ k, k < w.heap.size → ¬ S k → w'.heap[k]? = w.heap[k]?
theorem Chg.refl (S : Nat → Prop) (w : World) : Chg S w w := ⟨rfl, rfl, rfl, Nat.le_refl _, fun _ _ _ => rfl⟩
theorem Chg.trans {S : Nat → Prop} {a b c : World} (h : Chg S a b) (k : Chg S b c) : Chg S a c :=
  ⟨k.os.trans h.os, k.tape.trans h.tape, k.output.trans h.output, Nat.le_trans h.size k.size, fun i hi hs => (k.block i (Nat.lt_of_lt_of_le hi h.size) hs).trans (h.block i hi hs)⟩
theorem Chg.drew {S : Nat → Prop} {a b : World} (h : Chg S a b) : Chg S a b.drew := ⟨h.os, h.tape, h.output, h.size, h.block⟩
theorem Chg.drewN {S : Nat → Prop} {a b : World} (h : Chg S a b) (n : Nat) : Chg S a (b.drewN n) := ⟨h.os, h.tape, h.output, h.size, h.block⟩
theorem Chg.more {S T : Nat → Prop} {a b : World} (h : Chg S a b) (hs : ∀ k, S k → T k) : Chg T a b := ⟨h.os, h.tape, h.output, h.size, fun k hk ht => h.block k hk fun e => ht (hs k e)⟩
theorem Fr.chg {S : Nat → Prop} {a b : World} (h : Fr a b) : Chg S a b := ⟨h.os, h.tape, h.output, h.size, fun k hk _ => h.block k hk⟩
theorem Chg.of {a b : World} {g : Nat} (h : a.grownBy b (some g)) : Chg (fun x => x = g) a b := ⟨h.os, h.tape, h.output, h.size, fun k hk hs => h.block k hk fun e => hs (Option.some.inj e)⟩
theorem Chg.fr {S : Nat → Prop} {W a b : World} (h : Fr W a) (k : Chg S a b) (hs : ∀ x, S x → W.heap.size ≤ x) : Fr W b :=
  ⟨k.os.trans h.os, k.tape.trans h.tape, k.output.trans h.output, Nat.le_trans h.size k.size, fun i hi => (k.block i (Nat.lt_of_lt_of_le hi h.size) fun e => by have := hs i e; omega).trans (h.block i hi)⟩
theorem Chg.set {S : Nat → Prop} {a w : World} (h : Chg S a w) {p : Addr} (hp : S p.block) (u : Value) : Chg S a (w.setCell p u) :=
  ⟨h.os, h.tape, h.output, by rw [size_setCell]; exact h.size, fun k hk hs => by
    have : p.block ≠ k := fun e => hs (e ▸ hp)
    rw [← h.block k hk hs]
    simp [World.setCell, Array.getElem?_modify, this]⟩
theorem Chg.cell {S : Nat → Prop} {a b : World} (h : Chg S a b) {p : Addr} (hp : p.block < a.heap.size) (hs : ¬ S p.block) : b.cell? p = a.cell? p := World.cell?_of_block (h.block p.block hp hs)
theorem Chg.blk {S : Nat → Prop} {a b : World} (h : Chg S a b) {g : Nat} {o : Obj} (hg : a.heap[g]? = some o) (hs : ¬ S g) : b.heap[g]? = some o := (h.block g (Array.getElem?_eq_some_iff.1 hg).1 hs).trans hg
theorem Sl.chg {α : Type} {size : Nat} {r : ERd α} {S T : Nat → Prop} {w w' : World} {A : Option Addr} {n : Nat} {xs : List α} (s : Stable size r) (h : Sl size r w T A n xs) (k : Chg S w w') (hd : ∀ b, T b → b < w.heap.size ∧ ¬ S b) : Sl size r w' T A n xs :=
  h.keep s fun p hp => k.cell (hd _ hp).1 (hd _ hp).2

/-- A block whose first cells are the list's. -/
def Blk {α : Type} (en : α → Value) (w : World) (e : TypeId) (g : Nat) (l : List α) : Prop := ∃ rest : List Value, w.heap[g]? = some (.cells (l.map en ++ rest).toArray e (0, 0))
section
variable {α : Type} {en : α → Value} {w w' : World} {e : TypeId} {g i : Nat} {l : List α} {x : α}
theorem Blk.lt (h : Blk en w e g l) : g < w.heap.size := by obtain ⟨_, h⟩ := h; exact (Array.getElem?_eq_some_iff.1 h).1
theorem Blk.cell (h : Blk en w e g l) (hi : l[i]? = some x) : w.cell? ⟨g, i, none⟩ = some (en x) := by
  obtain ⟨rest, h⟩ := h
  have hl := (List.getElem?_eq_some_iff.1 hi).1
  rw [cell_of_heap h, List.getElem?_toArray, List.getElem?_append_left (by simpa using hl)]
  simp [hi]
theorem Blk.free (h : Blk en w e g l) : w.frozen? ⟨g, i, none⟩ = false := by obtain ⟨rest, h⟩ := h; exact blk_free h
theorem Blk.set (h : Blk en w e g l) (hi : i < l.length) (y : α) : Blk en (w.setCell ⟨g, i, none⟩ (en y)) e g (l.set i y) := by
  obtain ⟨rest, h⟩ := h
  refine ⟨rest, ?_⟩
  have : (w.setCell ⟨g, i, none⟩ (en y)).heap[g]? = some (.cells ((l.map en ++ rest).set i (en y)).toArray e (0, 0)) := by
    simp [World.setCell, Array.getElem?_modify, h]
  rw [this, List.set_append_left _ _ (by simpa using hi), List.map_set]
theorem Blk.chg {S : Nat → Prop} (h : Blk en w e g l) (k : Chg S w w') (hs : ¬ S g) : Blk en w' e g l := by
  obtain ⟨rest, h⟩ := h
  exact ⟨rest, k.blk h hs⟩
theorem Blk.fr (h : Blk en w e g l) (k : Fr w w') : Blk en w' e g l := by
  obtain ⟨rest, h⟩ := h
  exact ⟨rest, blk_go h k⟩
end
theorem Blk.bools {w : World} {e : TypeId} {g : Nat} {l : List Bool} {S : Nat → Prop} (h : Blk Value.bool w e g l) (hS : S g) : Sl 1 eBool w S (some ⟨g, 0, none⟩) l.length l :=
  ⟨rfl, fun _ => ⟨_, rfl, hS, fun i x hx => by
    show w.cell? ((⟨g, 0, none⟩ : Addr).add (i * 1 + 0)) = _
    rw [zero_add_addr]
    simpa using h.cell hx⟩⟩
theorem Blk.bytes {w : World} {e : TypeId} {g : Nat} {l : List UInt8} {S : Nat → Prop} (h : Blk bV w e g l) (hS : S g) : Sl 1 eByte w S (some ⟨g, 0, none⟩) l.length l :=
  ⟨rfl, fun _ => ⟨_, rfl, hS, fun i x hx => by
    show w.cell? ((⟨g, 0, none⟩ : Addr).add (i * 1 + 0)) = _
    rw [zero_add_addr]
    simpa [bV] using h.cell hx⟩⟩
end Go.Proofs.Ytnfjghldcopaaaa
