/- What a call changes: some told blocks, and new ones. Blocks of a kind of cells. No condition. -/
import Derived.Test.YtbincgbgeccccaaGreatDoorRow
set_option linter.unusedSimpArgs false
set_option linter.unusedVariables false
namespace Go.Proofs.YtbincgbgeccccaaGreatDoor
open Go.RowKit

/-- Only the blocks S have changed, of those that were. -/
structure Chg (S : Nat → Prop) (w w' : World) : Prop where
  os : w'.os = w.os
  tape : w'.tape = w.tape
  output : w'.output = w.output
  size : w.heap.size ≤ w'.heap.size
  block : ∀ k, k < w.heap.size → ¬ S k → w'.heap[k]? = w.heap[k]?
theorem Chg.refl (S : Nat → Prop) (w : World) : Chg S w w := ⟨rfl, rfl, rfl, Nat.le_refl _, fun _ _ _ => rfl⟩
theorem Chg.trans {S : Nat → Prop} {a b c : World} (h : Chg S a b) (k : Chg S b c) : Chg S a c :=
  ⟨k.os.trans h.os, k.tape.trans h.tape, k.output.trans h.output, Nat.le_trans h.size k.size, fun i hi hs => (k.block i (Nat.lt_of_lt_of_le hi h.size) hs).trans (h.block i hi hs)⟩
theorem Chg.drew {S : Nat → Prop} {a b : World} (h : Chg S a b) : Chg S a b.drew := ⟨h.os, h.tape, h.output, h.size, h.block⟩
theorem Chg.drewN {S : Nat → Prop} {a b : World} (h : Chg S a b) (n : Nat) : Chg S a (b.drewN n) := ⟨h.os, h.tape, h.output, h.size, h.block⟩
theorem Chg.more {S T : Nat → Prop} {a b : World} (h : Chg S a b) (hs : ∀ k, S k → T k) : Chg T a b := ⟨h.os, h.tape, h.output, h.size, fun k hk ht => h.block k hk fun e => ht (hs k e)⟩
theorem Fr.chg {S : Nat → Prop} {a b : World} (h : Fr a b) : Chg S a b := ⟨h.os, h.tape, h.output, h.size, fun k hk _ => h.block k hk⟩
theorem Chg.of {a b : World} {g : Nat} (h : a.grownBy b (some g)) : Chg (fun x => x = g) a b := ⟨h.os, h.tape, h.output, h.size, fun k hk hs => h.block k hk fun e => hs (Option.some.inj e)⟩
theorem Chg.fr {S : Nat → Prop} {W a b : World} (h : Fr W a) (k : Chg S a b) (hs : ∀ x, S x → W.heap.size ≤ x) : Fr W b :=
  ⟨k.os.trans h.os, k.tape.trans h.tape, k.output.trans h.output, Nat.le_trans h.size k.size, fun i hi => (k.block i (Nat.lt_of_lt_of_le hi h.size) fun e => by have := hs i e; omega).trans (h.block i hi)⟩
theorem Chg.set {S : Nat → Prop} {a w : World} (h : Chg S a w) {p : Addr} (hp : S p.block) (u : Value) : Chg S a (w.setCell p u) :=
  ⟨h.os, h.tape, h.output, by rw [size_setCell]; exact h.size, fun k hk hs => by
    have : p.block ≠ k := fun e => hs (e ▸ hp)
    rw [← h.block k hk hs]
    simp [World.setCell, Array.getElem?_modify, this]⟩
theorem Chg.cell {S : Nat → Prop} {a b : World} (h : Chg S a b) {p : Addr} (hp : p.block < a.heap.size) (hs : ¬ S p.block) : b.cell? p = a.cell? p := World.cell?_of_block (h.block p.block hp hs)
theorem Chg.blk {S : Nat → Prop} {a b : World} (h : Chg S a b) {g : Nat} {o : Obj} (hg : a.heap[g]? = some o) (hs : ¬ S g) : b.heap[g]? = some o := (h.block g (Array.getElem?_eq_some_iff.1 hg).1 hs).trans hg
theorem Sl.chg {α : Type} {size : Nat} {r : ERd α} {S T : Nat → Prop} {w w' : World} {A : Option Addr} {n : Nat} {xs : List α} (s : Stable size r) (h : Sl size r w T A n xs) (k : Chg S w w') (hd : ∀ b, T b → b < w.heap.size ∧ ¬ S b) : Sl size r w' T A n xs :=
  h.keep s fun p hp => k.cell (hd _ hp).1 (hd _ hp).2

theorem set2_far {w : World} {g i j q o : Nat} {a b : Value} (h : g ≠ q) : ((w.setCell ⟨g, i, none⟩ a).setCell ⟨g, j, none⟩ b).cell? ⟨q, o, none⟩ = w.cell? ⟨q, o, none⟩ := by
  rw [World.cell?_setCell_other _ _ _ _ (fun e => by injection e with e; exact h e), World.cell?_setCell_other _ _ _ _ (fun e => by injection e with e; exact h e)]

/-- A block whose first cells are the list's. -/
def Blk {α : Type} (en : α → Value) (w : World) (e : TypeId) (g : Nat) (l : List α) : Prop := ∃ rest : List Value, w.heap[g]? = some (.cells (l.map en ++ rest).toArray e (0, 0))
section
variable {α : Type} {en : α → Value} {w w' : World} {e : TypeId} {g i : Nat} {l : List α} {x : α}
theorem Blk.lt (h : Blk en w e g l) : g < w.heap.size := by obtain ⟨_, h⟩ := h; exact (Array.getElem?_eq_some_iff.1 h).1
theorem Blk.cell (h : Blk en w e g l) (hi : l[i]? = some x) : w.cell? ⟨g, i, none⟩ = some (en x) := by
  obtain ⟨rest, h⟩ := h
  have hl := (List.getElem?_eq_some_iff.1 hi).1
  rw [cell_of_heap h, List.getElem?_toArray, List.getElem?_append_left (by simpa using hl)]
  simp [hi]
theorem Blk.free (h : Blk en w e g l) : w.frozen? ⟨g, i, none⟩ = false := by obtain ⟨rest, h⟩ := h; exact blk_free h
theorem Blk.set (h : Blk en w e g l) (hi : i < l.length) (y : α) : Blk en (w.setCell ⟨g, i, none⟩ (en y)) e g (l.set i y) := by
  obtain ⟨rest, h⟩ := h
  refine ⟨rest, ?_⟩
  have : (w.setCell ⟨g, i, none⟩ (en y)).heap[g]? = some (.cells ((l.map en ++ rest).set i (en y)).toArray e (0, 0)) := by
    simp [World.setCell, Array.getElem?_modify, h]
  rw [this, List.set_append_left _ _ (by simpa using hi), List.map_set]
theorem Blk.chg {S : Nat → Prop} (h : Blk en w e g l) (k : Chg S w w') (hs : ¬ S g) : Blk en w' e g l := by
  obtain ⟨rest, h⟩ := h
  exact ⟨rest, k.blk h hs⟩
theorem Blk.fr (h : Blk en w e g l) (k : Fr w w') : Blk en w' e g l := by
  obtain ⟨rest, h⟩ := h
  exact ⟨rest, blk_go h k⟩
end
theorem Blk.bools {w : World} {e : TypeId} {g : Nat} {l : List Bool} {S : Nat → Prop} (h : Blk Value.bool w e g l) (hS : S g) : Sl 1 eBool w S (some ⟨g, 0, none⟩) l.length l :=
  ⟨rfl, fun _ => ⟨_, rfl, hS, fun i x hx => by
    show w.cell? ((⟨g, 0, none⟩ : Addr).add (i * 1 + 0)) = _
    rw [zero_add_addr]
    simpa using h.cell hx⟩⟩
theorem Blk.bytes {w : World} {e : TypeId} {g : Nat} {l : List UInt8} {S : Nat → Prop} (h : Blk bV w e g l) (hS : S g) : Sl 1 eByte w S (some ⟨g, 0, none⟩) l.length l :=
  ⟨rfl, fun _ => ⟨_, rfl, hS, fun i x hx => by
    show w.cell? ((⟨g, 0, none⟩ : Addr).add (i * 1 + 0)) = _
    rw [zero_add_addr]
    simpa [bV] using h.cell hx⟩⟩
/-- A reading off the blocks below N. -/
def eLow {α : Type} (N : Nat) (r : ERd α) : ERd α := fun w S f x => r w (fun b => S b ∧ b < N) f x
theorem Stable.low {α : Type} {size : Nat} {r : ERd α} (s : Stable size r) (N : Nat) : Stable size (eLow N r) :=
  ⟨fun hk h => s.keep (fun p hp => hk p hp.1) h, fun hB h => s.more (fun b hb => ⟨hB b hb.1, hb.2⟩) h, fun hf h => s.mono hf h⟩
theorem Full.low {α : Type} {size : Nat} {r : ERd α} (F : Full size r) (N : Nat) : Full size (eLow N r) := fun h j hj => F h j hj
theorem Sl.low {α : Type} {size : Nat} {r : ERd α} {w w' : World} {A : Option Addr} {n : Nat} {xs : List α} (s : Stable size r) (h : Sl size r w (LT w.heap.size) A n xs) (hb : Fr w w') : Sl size (eLow w.heap.size r) w' (LT w'.heap.size) A n xs := by
  refine ⟨h.1, fun hn => ?_⟩
  obtain ⟨ad, e, hS, hr⟩ := h.2 hn
  refine ⟨ad, e, Nat.lt_of_lt_of_le hS hb.size, fun i x hx => ?_⟩
  have h1 := s.more (S' := fun b => LT w'.heap.size b ∧ b < w.heap.size) (fun b hb' => ⟨Nat.lt_of_lt_of_le hb' hb.size, hb'⟩) (s.keep (w' := w') (fun p hp => hb.cell hp) (hr i x hx))
  have e2 : (fun j => w.cell? (ad.add (i * size + j))) = fun j => w'.cell? (ad.add (i * size + j)) := funext fun j => (hb.cell (by rw [block_of_add]; exact hS)).symm
  rw [e2] at h1
  exact h1
/-- A reading off the blocks from N on. -/
def eHi {α : Type} (N : Nat) (r : ERd α) : ERd α := fun w S f x => r w (fun b => S b ∧ N ≤ b) f x
theorem Stable.hi {α : Type} {size : Nat} {r : ERd α} (s : Stable size r) (N : Nat) : Stable size (eHi N r) :=
  ⟨fun hk h => s.keep (fun p hp => hk p hp.1) h, fun hB h => s.more (fun b hb => ⟨hB b hb.1, hb.2⟩) h, fun hf h => s.mono hf h⟩
theorem Full.hi {α : Type} {size : Nat} {r : ERd α} (F : Full size r) (N : Nat) : Full size (eHi N r) := fun h j hj => F h j hj
theorem Own.ofHi {α : Type} {size N : Nat} {r : ERd α} {w : World} {base : Nat} {e : TypeId} {v : Value} {xs : List α} (s : Stable size r) (h : Own size (eHi N r) w base e v xs) : Own size r w base e v xs := by
  obtain ⟨cs, ho, hr⟩ := h
  exact ⟨cs, ho, fun i x hx => s.more (fun b hb => hb.1) (hr i x hx)⟩
/-- Stores below turn nothing of what lies above. -/
theorem Own.hiChg {α : Type} {size base : Nat} {r : ERd α} {w w' : World} {e : TypeId} {v : Value} {xs : List α} {S : Nat → Prop} (s : Stable size r) (h : Own size (eHi base r) w base e v xs) (k : Chg S w w') (hS : ∀ b, S b → b < base) : Own size (eHi base r) w' base e v xs := by
  obtain ⟨cs, ho, hr⟩ := h
  refine ⟨cs, ⟨ho.1, ?_⟩, fun i x hx => ?_⟩
  · rcases ho.2 with h0 | ⟨g, cap, cur, h1, h2, h3, h4⟩
    · exact .inl h0
    · exact .inr ⟨g, cap, cur, h1, h2, k.blk h3 (fun e => by have := hS g e; omega), h4⟩
  · exact s.more (fun b hb => ⟨⟨Nat.lt_of_lt_of_le hb.1.1 k.size, hb.1.2⟩, hb.2⟩) (s.keep (fun p hp => k.cell hp.1.1 fun e => by have := hS _ e; have := hp.2; omega) (hr i x hx))
/-- As a slice of new blocks. -/
theorem Own.toNw {α : Type} {size base : Nat} {r : ERd α} {w : World} {e : TypeId} {v : Value} {xs : List α} (s : Stable size r) (h : Own size (eHi base r) w base e v xs) : ∃ A c, v = .slice A xs.length c ∧ (xs.length ≤ c ∧ c ≤ maxLen) ∧ Sl size r w (NW base w.heap.size) A xs.length xs := by
  obtain ⟨cs, ho, hr⟩ := h
  rcases ho.2 with ⟨rfl, h0⟩ | ⟨g, cap, cur, rfl, hbg, hg, hnc, hcm, hcs, htake⟩
  · exact ⟨none, 0, by rw [h0], ⟨by omega, by unfold maxLen; omega⟩, rfl, fun hn => by omega⟩
  · refine ⟨some ⟨g, 0, none⟩, cap, rfl, ⟨hnc, hcm⟩, rfl, fun hn => ⟨_, rfl, ⟨hbg, (Array.getElem?_eq_some_iff.1 hg).1⟩, fun i x hx => ?_⟩⟩
    refine s.mono (fun j u hj hu => ?_) (s.more (fun b hb => ⟨hb.2, hb.1.1⟩) (hr i x hx))
    rw [zero_add_addr, cell_of_heap hg]
    rw [← htake, List.getElem?_take] at hu
    split at hu
    · simpa using hu
    · cases hu
theorem Own.hiLower {α : Type} {size N N' : Nat} {r : ERd α} {w : World} {base : Nat} {e : TypeId} {v : Value} {xs : List α} (s : Stable size r) (h : Own size (eHi N r) w base e v xs) (hn : N' ≤ N) : Own size (eHi N' r) w base e v xs := by
  obtain ⟨cs, ho, hr⟩ := h
  exact ⟨cs, ho, fun i x hx => s.more (fun b hb => ⟨hb.1, Nat.le_trans hn hb.2⟩) (hr i x hx)⟩
end Go.Proofs.YtbincgbgeccccaaGreatDoor
