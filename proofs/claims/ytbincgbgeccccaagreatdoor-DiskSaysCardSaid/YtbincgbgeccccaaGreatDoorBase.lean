/- Readings of memory as lists, and what keeps them: plain lemmas for the walks of this seat. No condition. -/
import Derived.Test.YtbincgbgeccccaaGreatDoorRows
import Derived.WalkKit
import Derived.WalkSpells
import Derived.WalkLawsBesides
import Derived.Lib.Hide
import Derived.Deep.QuietTactic
import Derived.BigQuiet
import Derived.Laws.CopyOwn
import Derived.Deep.OwnRows
import Derived.Laws.BitsAllLaws
set_option linter.unusedSimpArgs false
set_option linter.unusedVariables false
namespace Go.Proofs.YtbincgbgeccccaaGreatDoor
open Go.RowKit

theorem block_of_add (a : Addr) (n : Nat) : (a.add n).block = a.block := by unfold Addr.add; split <;> rfl
theorem add_of_add (a : Addr) (i j : Nat) : (a.add i).add j = a.add (i + j) := by
  unfold Addr.add
  by_cases hi : i = 0 <;> by_cases hj : j = 0 <;> simp [hi, hj, Nat.add_assoc]

/-- An element's reading: out of the cells at its place; what lies behind it lies in the blocks S. -/
abbrev ERd (α : Type) := World → (Nat → Prop) → (Nat → Option Value) → α → Prop

/-- The blocks below a number. -/
def LT (B : Nat) : Nat → Prop := fun b => b < B

/-- A slice whose elements read as the list's. -/
def Sl {α : Type} (size : Nat) (r : ERd α) (w : World) (S : Nat → Prop) (A : Option Addr) (n : Nat) (xs : List α) : Prop :=
  xs.length = n ∧ (0 < n → ∃ ad, A = some ad ∧ S ad.block ∧ ∀ i x, xs[i]? = some x → r w S (fun j => w.cell? (ad.add (i * size + j))) x)

/-- A reading hangs on the blocks S alone. -/
structure Stable {α : Type} (size : Nat) (r : ERd α) : Prop where
  keep : ∀ {w w' : World} {S : Nat → Prop} {f : Nat → Option Value} {x : α}, (∀ p : Addr, S p.block → w'.cell? p = w.cell? p) → r w S f x → r w' S f x
  more : ∀ {w : World} {S S' : Nat → Prop} {f : Nat → Option Value} {x : α}, (∀ b, S b → S' b) → r w S f x → r w S' f x
  mono : ∀ {w : World} {S : Nat → Prop} {f f' : Nat → Option Value} {x : α}, (∀ j u, j < size → f j = some u → f' j = some u) → r w S f x → r w S f' x

def eByte : ERd UInt8 := fun _ _ f b => f 0 = some (.int .u8 (b.toNat : Int))
def eBool : ERd Bool := fun _ _ f b => f 0 = some (.bool b)
/-- It fits an int. -/
def wfI (n : Int) : Prop := (Lit.int .i64 n).wf = true
theorem wfI.bd {n : Int} (h : wfI n) : -9223372036854775808 ≤ n ∧ n ≤ 9223372036854775807 := by simpa [wfI, Lit.wf, IntKind.min, IntKind.max, IntKind.signed, IntKind.bits] using h
theorem wfI.mk {n : Int} (h : -9223372036854775808 ≤ n ∧ n ≤ 9223372036854775807) : wfI n := by simpa [wfI, Lit.wf, IntKind.min, IntKind.max, IntKind.signed, IntKind.bits] using h
def eInt : ERd Int := fun _ _ f n => f 0 = some (.int .i64 n) ∧ wfI n
/-- What no slice passes: 2^47 bytes. -/
def lim : Nat := 140737488355328
def eSl {α : Type} (size bytes : Nat) (r : ERd α) : ERd (List α) := fun w S f xs => ∃ A n c, f 0 = some (.slice A n c) ∧ (n * bytes ≤ lim ∧ n ≤ c ∧ c ≤ maxLen) ∧ Sl size r w S A n xs
abbrev eBlock : ERd (List UInt8) := eSl 1 1 eByte
abbrev eBlocks : ERd (List (List UInt8)) := eSl 1 24 eBlock

theorem sByte : Stable 1 eByte := ⟨fun _ h => h, fun _ h => h, fun hf h => hf _ _ (by omega) h⟩
theorem sBool : Stable 1 eBool := ⟨fun _ h => h, fun _ h => h, fun hf h => hf _ _ (by omega) h⟩
instance (n : Int) : Decidable (wfI n) := inferInstanceAs (Decidable (_ = true))
theorem sInt : Stable 1 eInt := ⟨fun _ h => h, fun _ h => h, fun hf h => ⟨hf _ _ (by omega) h.1, h.2⟩⟩

section
variable {α : Type} {size : Nat} {r : ERd α} {w w' : World} {S S' : Nat → Prop} {B n : Nat} {A : Option Addr} {xs : List α}

theorem Sl.keep (s : Stable size r) (hk : ∀ p : Addr, S p.block → w'.cell? p = w.cell? p) (h : Sl size r w S A n xs) : Sl size r w' S A n xs :=
  ⟨h.1, fun hn => by
    obtain ⟨ad, e, hb, hc⟩ := h.2 hn
    refine ⟨ad, e, hb, fun i x hx => ?_⟩
    have h1 := s.keep (w' := w') hk (hc i x hx)
    have : (fun j => w'.cell? (ad.add (i * size + j))) = fun j => w.cell? (ad.add (i * size + j)) := funext fun j => hk _ (by rw [block_of_add]; exact hb)
    rw [this]
    exact h1⟩

theorem Sl.more (s : Stable size r) (hB : ∀ b, S b → S' b) (h : Sl size r w S A n xs) : Sl size r w S' A n xs :=
  ⟨h.1, fun hn => by
    obtain ⟨ad, e, hb, hc⟩ := h.2 hn
    exact ⟨ad, e, hB _ hb, fun i x hx => s.more hB (hc i x hx)⟩⟩

theorem sSl {bytes : Nat} (s : Stable size r) : Stable 1 (eSl size bytes r) :=
  ⟨fun hk ⟨A, n, c, h0, h1, h2⟩ => ⟨A, n, c, h0, h1, h2.keep s hk⟩, fun hB ⟨A, n, c, h0, h1, h2⟩ => ⟨A, n, c, h0, h1, h2.more s hB⟩, fun hf ⟨A, n, c, h0, h1, h2⟩ => ⟨A, n, c, hf _ _ (by omega) h0, h1, h2⟩⟩

theorem Sl.nil : Sl size r w S A 0 [] := ⟨rfl, fun h => absurd h (by omega)⟩

/-- 's[k:]': at the capacity's end the address stays. -/
theorem Sl.cut {k cap : Nat} (h : Sl size r w S A n xs) (hk : k ≤ n) (hc : n ≤ cap) : Sl size r w S (if cap = k then A else A.map (·.add (k * size))) (n - k) (xs.drop k) := by
  refine ⟨by rw [List.length_drop, h.1], fun hn => ?_⟩
  obtain ⟨ad, rfl, hb, hcell⟩ := h.2 (by omega)
  rw [if_neg (by omega)]
  refine ⟨ad.add (k * size), rfl, by rw [block_of_add]; exact hb, fun i x hx => ?_⟩
  have := hcell (k + i) x (by rw [← hx, List.getElem?_drop])
  rw [Nat.add_mul] at this
  simp only [add_of_add, ← Nat.add_assoc]
  exact this
/-- 's[:k]'. -/
theorem Sl.pre {k : Nat} (h : Sl size r w S A n xs) (hk : k ≤ n) : Sl size r w S A k (xs.take k) := by
  refine ⟨by rw [List.length_take, h.1]; omega, fun hn => ?_⟩
  obtain ⟨ad, rfl, hb, hcell⟩ := h.2 (by omega)
  refine ⟨ad, rfl, hb, fun i x hx => hcell i x ?_⟩
  rw [List.getElem?_take] at hx
  split at hx
  · exact hx
  · cases hx

/-- The elements behind an address. -/
def Els {α : Type} (size : Nat) (r : ERd α) (w : World) (S : Nat → Prop) (ad : Addr) (n : Nat) (xs : List α) : Prop :=
  xs.length = n ∧ S ad.block ∧ ∀ i x, xs[i]? = some x → r w S (fun j => w.cell? (ad.add (i * size + j))) x

theorem Sl.els (h : Sl size r w S A n xs) (hn : 0 < n) : ∃ ad, A = some ad ∧ Els size r w S ad n xs := by
  obtain ⟨ad, e, hb, hc⟩ := h.2 hn
  exact ⟨ad, e, h.1, hb, hc⟩

theorem Els.at_ {ad : Addr} (h : Els size r w S ad n xs) {k : Nat} (hk : k < n) :
    ∃ x, xs[k]? = some x ∧ r w S (fun j => w.cell? (ad.add (k * size + j))) x := by
  have hl : k < xs.length := by have := h.1; omega
  exact ⟨xs[k], List.getElem?_eq_getElem hl, h.2.2 k _ (List.getElem?_eq_getElem hl)⟩

theorem Els.sl {ad : Addr} (h : Els size r w S ad n xs) : Sl size r w S (some ad) n xs := ⟨h.1, fun _ => ⟨ad, rfl, h.2⟩⟩
end

/-- The k-th byte. -/
theorem Els.byte {w : World} {S : Nat → Prop} {n k : Nat} {ad : Addr} {l : List UInt8} (h : Els 1 eByte w S ad n l) (hk : k < n) :
    ∃ b, l[k]? = some b ∧ w.cell? (ad.add k) = some (.int .u8 (b.toNat : Int)) := by
  obtain ⟨x, hx, hr⟩ := h.at_ hk
  exact ⟨x, hx, by simpa [eByte] using hr⟩

/-- The k-th bool. -/
theorem Els.bool {w : World} {S : Nat → Prop} {n k : Nat} {ad : Addr} {l : List Bool} (h : Els 1 eBool w S ad n l) (hk : k < n) :
    ∃ b, l[k]? = some b ∧ w.cell? (ad.add k) = some (.bool b) := by
  obtain ⟨x, hx, hr⟩ := h.at_ hk
  exact ⟨x, hx, by simpa [eBool] using hr⟩

/-- The k-th int. -/
theorem Els.int {w : World} {S : Nat → Prop} {n k : Nat} {ad : Addr} {l : List Int} (h : Els 1 eInt w S ad n l) (hk : k < n) :
    ∃ b, l[k]? = some b ∧ w.cell? (ad.add k) = some (.int .i64 b) ∧ wfI b := by
  obtain ⟨x, hx, hr⟩ := h.at_ hk
  exact ⟨x, hx, by simpa [eInt] using hr⟩

/-- The k-th block. -/
theorem Els.block {w : World} {S : Nat → Prop} {n k : Nat} {ad : Addr} {ls : List (List UInt8)} (h : Els 1 eBlock w S ad n ls) (hk : k < n) :
    ∃ A' n' c' l, ls[k]? = some l ∧ w.cell? (ad.add k) = some (.slice A' n' c') ∧ n' ≤ lim ∧ Sl 1 eByte w S A' n' l := by
  obtain ⟨x, hx, A', n', c', h0, h1, h2⟩ := h.at_ hk
  exact ⟨A', n', c', x, hx, by simpa using h0, by omega, h2⟩
theorem Els.blockC {w : World} {S : Nat → Prop} {n k : Nat} {ad : Addr} {ls : List (List UInt8)} (h : Els 1 eBlock w S ad n ls) (hk : k < n) :
    ∃ A' n' c' l, ls[k]? = some l ∧ w.cell? (ad.add k) = some (.slice A' n' c') ∧ n' ≤ lim ∧ n' ≤ c' ∧ c' ≤ maxLen ∧ Sl 1 eByte w S A' n' l := by
  obtain ⟨x, hx, A', n', c', h0, h1, h2⟩ := h.at_ hk
  exact ⟨A', n', c', x, hx, by simpa using h0, by omega, h1.2.1, h1.2.2, h2⟩

theorem Els.block0 {w : World} {S : Nat → Prop} {n : Nat} {ad : Addr} {ls : List (List UInt8)} (h : Els 1 eBlock w S ad n ls) (hk : 0 < n) :
    ∃ A' n' c' l, ls.head? = some l ∧ w.cell? ad = some (.slice A' n' c') ∧ n' ≤ lim ∧ Sl 1 eByte w S A' n' l := by
  obtain ⟨A', n', c', l, h0, h1, h2⟩ := h.block hk
  exact ⟨A', n', c', l, by rw [List.head?_eq_getElem?]; exact h0, by simpa [Addr.add] using h1, h2⟩

theorem wBlock : Stable 1 eBlock := sSl sByte

/-- What a call leaves: all that was is as it was. -/
abbrev Fr (w w' : World) : Prop := Below w.heap.size w w'
theorem Fr.trans {a b c : World} (h : Fr a b) (k : Fr b c) : Fr a c := Below.trans h (k.mono h.size)
theorem frDrewN (w : World) (n : Nat) : Fr w (w.drewN n) := ⟨rfl, rfl, rfl, Nat.le_refl _, fun _ _ => rfl⟩
theorem below_drewN {B : Nat} {a w : World} (h : Below B a w) (n : Nat) : Below B a (w.drewN n) := ⟨h.os, h.tape, h.output, h.size, h.block⟩
theorem drew2 (w : World) (m n : Nat) : ∃ k, (w.drewN m).drewN n = w.drewN k := ⟨_, World.drewN_drewN _ _ _⟩
theorem frA {a w : World} (h : Below a.heap.size a w) (o : Obj) : Below a.heap.size a (w.alloc o) := h.alloc h.size o
theorem bcell {W w1 : World} (hb : Below W.heap.size W w1) : (∀ b o, b < W.heap.size → w1.cell? ⟨b, o, none⟩ = W.cell? ⟨b, o, none⟩) ∧ (∀ b o, b < W.heap.size → w1.frozen? ⟨b, o, none⟩ = W.frozen? ⟨b, o, none⟩) :=
  ⟨fun b o h => hb.cell (p := ⟨b, o, none⟩) h, fun b o h => hb.frozen (p := ⟨b, o, none⟩) h⟩

/-- A reading below the heap's end is handed on. -/
theorem Sl.go {α : Type} {size : Nat} {r : ERd α} {w w' : World} {n : Nat} {A : Option Addr} {xs : List α} (s : Stable size r) (h : Sl size r w (LT w.heap.size) A n xs) (hb : Fr w w') : Sl size r w' (LT w'.heap.size) A n xs :=
  (h.keep s fun _ hp => hb.cell hp).more s fun _ hp => Nat.lt_of_lt_of_le hp hb.size

/-- The blocks that a call made. -/
def NW (a b : Nat) : Nat → Prop := fun x => a ≤ x ∧ x < b
theorem Sl.nw {α : Type} {size : Nat} {r : ERd α} {w : World} {a n : Nat} {A : Option Addr} {xs : List α} (s : Stable size r) (h : Sl size r w (NW a w.heap.size) A n xs) : Sl size r w (LT w.heap.size) A n xs := h.more s fun _ hb => hb.2
/-- A store into an old block turns nothing of a new one. -/
theorem Sl.stored {α : Type} {size : Nat} {r : ERd α} {w : World} {a b n : Nat} {A : Option Addr} {xs : List α} (s : Stable size r) (h : Sl size r w (NW a b) A n xs) {p : Addr} (hp : p.block < a) (u : Value) : Sl size r (w.setCell p u) (NW a b) A n xs :=
  h.keep s fun q hq => World.cell?_setCell_other w p q u (fun e => by subst e; have := hq.1; omega)
theorem size_setCell (w : World) (p : Addr) (u : Value) : (w.setCell p u).heap.size = w.heap.size := by simp [World.setCell]

/-- A slice of the call's own whose elements read as the list's: what lies behind the elements lies elsewhere. -/
def Own {α : Type} (size : Nat) (r : ERd α) (w : World) (base : Nat) (e : TypeId) (v : Value) (xs : List α) : Prop :=
  ∃ cs : List Value, w.ownsRow base e size v xs.length cs ∧ ∀ i x, xs[i]? = some x → r w (fun b => b < w.heap.size ∧ v.ownBlock ≠ some b) (fun j => cs[i * size + j]?) x

theorem cell_of_heap {w : World} {b i : Nat} {cs : Array Value} {t : TypeId} {fr : Nat × Nat} (h : w.heap[b]? = some (.cells cs t fr)) : w.cell? ⟨b, i, none⟩ = cs[i]? := by
  simp [World.cell?, h]
theorem blk_go {w w' : World} {g : Nat} {o : Obj} (h : w.heap[g]? = some o) (hf : Below w.heap.size w w') : w'.heap[g]? = some o := (hf.block g (Array.getElem?_eq_some_iff.1 h).1).trans h
theorem blk_free {w : World} {g i : Nat} {cs : Array Value} {t : TypeId} (h : w.heap[g]? = some (.cells cs t (0, 0))) : w.frozen? ⟨g, i, none⟩ = false := by
  unfold World.frozen?
  rw [h]
  simp
theorem zero_add_addr (b i : Nat) : (⟨b, 0, none⟩ : Addr).add i = ⟨b, i, none⟩ := by unfold Addr.add; split <;> simp_all

/-- A block known whole, read from its first cell on. -/
theorem Sl.lit {α : Type} {size : Nat} {r : ERd α} {w : World} {b : Nat} {cs : Array Value} {t : TypeId} {fr : Nat × Nat} {S : Nat → Prop} {n : Nat} {xs : List α}
    (hb : w.heap[b]? = some (.cells cs t fr)) (hS : S b) (hn : xs.length = n) (h : ∀ i x, xs[i]? = some x → r w S (fun j => cs[i * size + j]?) x) : Sl size r w S (some ⟨b, 0, none⟩) n xs := by
  refine ⟨hn, fun _ => ⟨_, rfl, hS, fun i x hx => ?_⟩⟩
  have : (fun j => w.cell? ((⟨b, 0, none⟩ : Addr).add (i * size + j))) = fun j => cs[i * size + j]? := funext fun j => by rw [zero_add_addr, cell_of_heap hb]
  rw [this]
  exact h i x hx
theorem Sl.litInts {w : World} {b : Nat} {cs : Array Value} {t : TypeId} {fr : Nat × Nat} {S : Nat → Prop} {n : Nat} {xs : List Int}
    (hb : w.heap[b]? = some (.cells cs t fr)) (hS : S b) (hn : xs.length = n) (hw : ∀ x ∈ xs, wfI x) (hc : cs = (xs.map (Value.int .i64)).toArray) : Sl 1 eInt w S (some ⟨b, 0, none⟩) n xs :=
  .lit hb hS hn fun i x hx => by subst hc; simp [eInt, hx, hw x (List.mem_of_getElem? hx)]
theorem Sl.litBytes {w : World} {b : Nat} {cs : Array Value} {t : TypeId} {fr : Nat × Nat} {S : Nat → Prop} {n : Nat} {xs : List UInt8}
    (hb : w.heap[b]? = some (.cells cs t fr)) (hS : S b) (hn : xs.length = n) (hc : cs = (xs.map fun x => Value.int .u8 (x.toNat : Int)).toArray) : Sl 1 eByte w S (some ⟨b, 0, none⟩) n xs :=
  .lit hb hS hn fun i x hx => by subst hc; simp [eByte, hx]
theorem Sl.litBools {w : World} {b : Nat} {cs : Array Value} {t : TypeId} {fr : Nat × Nat} {S : Nat → Prop} {n : Nat} {xs : List Bool}
    (hb : w.heap[b]? = some (.cells cs t fr)) (hS : S b) (hn : xs.length = n) (hc : cs = (xs.map Value.bool).toArray) : Sl 1 eBool w S (some ⟨b, 0, none⟩) n xs :=
  .lit hb hS hn fun i x hx => by subst hc; simp [eBool, hx]
theorem heap_old {w : World} {o : Obj} {b : Nat} {x : Obj} (h : w.heap[b]? = some x) : (w.alloc o).heap[b]? = some x := by
  rw [Below.heap_alloc w o b (Array.getElem?_eq_some_iff.1 h).1]; exact h
theorem heap_new {w : World} {o : Obj} {b : Nat} (h : b = w.heap.size) : (w.alloc o).heap[b]? = some o := by subst h; exact heap_alloc_new w o
theorem heap_dn {w : World} {n : Nat} {b : Nat} {x : Obj} (h : w.heap[b]? = some x) : (w.drewN n).heap[b]? = some x := h
theorem heap_d {w : World} {b : Nat} {x : Obj} (h : w.heap[b]? = some x) : w.drew.heap[b]? = some x := h
/-- Everywhere. -/
def Any : Nat → Prop := fun _ => True

/-- Cells of one kind, a list of them. -/
def ca {α : Type} (en : α → Value) (l : List α) : Array Value := (l.map en).toArray
def bV (b : UInt8) : Value := .int .u8 (b.toNat : Int)

section
variable {α : Type} {en : α → Value} {w : World} {g i : Nat} {t : TypeId} {l : List α} {b : α}
theorem ca_cell (h : w.heap[g]? = some (.cells (ca en l) t (0, 0))) (hi : l[i]? = some b) : w.cell? ⟨g, i, none⟩ = some (en b) := by
  rw [cell_of_heap h]; simp [ca, hi]
theorem ca_free (h : w.heap[g]? = some (.cells (ca en l) t (0, 0))) : w.frozen? ⟨g, i, none⟩ = false := by
  simp [World.frozen?, h]
theorem ca_set (h : w.heap[g]? = some (.cells (ca en l) t (0, 0))) : (w.setCell ⟨g, i, none⟩ (en b)).heap[g]? = some (.cells (ca en (l.set i b)) t (0, 0)) := by
  simp [World.setCell, Array.getElem?_modify, h, ca, List.map_set]
theorem ca_lt (h : w.heap[g]? = some (.cells (ca en l) t (0, 0))) : g < w.heap.size := (Array.getElem?_eq_some_iff.1 h).1
end
theorem ca_bytes {w : World} {g n : Nat} {t : TypeId} {l : List UInt8} {S : Nat → Prop} (h : w.heap[g]? = some (.cells (ca bV l) t (0, 0))) (hS : S g) (hn : l.length = n) : Sl 1 eByte w S (some ⟨g, 0, none⟩) n l :=
  Sl.litBytes h hS hn rfl
theorem ca_bools {w : World} {g n : Nat} {t : TypeId} {l : List Bool} {S : Nat → Prop} (h : w.heap[g]? = some (.cells (ca Value.bool l) t (0, 0))) (hS : S g) (hn : l.length = n) : Sl 1 eBool w S (some ⟨g, 0, none⟩) n l :=
  Sl.litBools h hS hn rfl
theorem madeCells_one (z : Value) (n : Nat) : madeCells #[z] n = (List.replicate n z).toArray := by
  apply Array.ext'
  simp only [madeCells, List.size_toArray, List.length_cons, List.length_nil, Nat.zero_add, Nat.mod_one]
  rw [Array.toList_map, Array.toList_range]
  apply List.ext_getElem (by simp)
  intro i h1 h2
  simp
theorem run_make_ca {α : Type} {P : Program} (en : α → Value) (z : α) (t e : TypeId) (bytes : Nat) (ht : P.underlying t = some (.slice e)) (hinfo : (P.info? e).map (fun i => (i.zero, i.size, i.bytes)) = some (some (en z), 1, bytes)) (hz1 : (en z).cells = #[en z])
    (kl kc : IntKind) (n : Nat) (hbytes : bytes * n ≤ 281474976710656) (h63 : n ≤ 9223372036854775807) (w : World) :
    (Instr.makeSlice t (.int kl (n : Int)) (.int kc (n : Int))).run P w = .ok (.slice (some ⟨w.heap.size, 0, none⟩) n n) (w.alloc (.cells (ca en (List.replicate n z)) e)) := by
  rw [run_make_row' t e (en z) bytes ht hinfo hz1 kl kc n hbytes h63 w, madeCells_one]
  simp [ca]
theorem u8_xor_byte (a b : UInt8) : bits .xor .u8 (a.toNat : Int) (b.toNat : Int) = ((a ^^^ b).toNat : Int) := by
  rw [u8_xor_nat _ _ a.toNat_lt b.toNat_lt, UInt8.toNat_xor]

theorem retI {k : IntKind} {a b : Int} (h : a = b) : Ending.returned (.int k a) = .returned (.int k b) := by rw [h]
theorem retB {a b : Bool} (h : a = b) : Ending.returned (.bool a) = .returned (.bool b) := by rw [h]

theorem drop_cons {α : Type} {l : List α} {k : Nat} {x : α} (h : l[k]? = some x) : l.drop k = x :: l.drop (k + 1) := by
  obtain ⟨hk, rfl⟩ := List.getElem?_eq_some_iff.1 h
  exact List.drop_eq_getElem_cons hk
theorem take_snoc' {α : Type} {l : List α} {k : Nat} {x : α} (h : l[k]? = some x) : l.take (k + 1) = l.take k ++ [x] := by
  obtain ⟨hk, rfl⟩ := List.getElem?_eq_some_iff.1 h
  exact List.take_succ_eq_append_getElem hk

end Go.Proofs.YtbincgbgeccccaaGreatDoor
