/- Readings of structs: one behind the other. No condition. -/
import Derived.Test.YtmiaplgfbphfmaaGreatDoorRows
import Derived.WalkKit
import Derived.WalkSpells
import Derived.WalkLawsBesides
import Derived.Lib.Hide
import Derived.Deep.QuietTactic
import Derived.BigQuiet
import Derived.Laws.CopyOwn
import Derived.Deep.OwnRows
import Derived.Laws.BitsAllLaws
import Derived.ProofKit
import Derived.OpenShut
import Derived.ChangeOld
import Derived.SizedLaws
import Derived.Deep.Slices
import Derived.Lib.SmallJoins
import Derived.Maps.AppendAt
import Derived.Deep.AppendLies
import Derived.RegionTactic
import Derived.Deep.RegionLaw
import Derived.Laws.CopyRow
set_option linter.unusedSimpArgs false
set_option linter.unusedVariables false
namespace Go.Proofs.YtmiaplgfbphfmaaGreatDoor
open Go.RowKit

theorem block_of_add (a : Addr) (n : Nat) : (a.add n).block = a.block := by unfold Addr.add; split <;> rfl
theorem add_of_add (a : Addr) (i j : Nat) : (a.add i).add j = a.add (i + j) := by
  unfold Addr.add
  by_cases hi : i = 0 <;> by_cases hj : j = 0 <;> simp [hi, hj, Nat.add_assoc]

/-- An element's reading: out of the cells at its place; what lies behind it lies in the blocks S. -/
abbrev ERd (α : Type) := World → (Nat → Prop) → (Nat → Option Value) → α → Prop

/-- The blocks below a number. -/
def LT (B : Nat) : Nat → Prop := fun b => b < B

/-- A slice whose elements read as the list's. -/
def Sl {α : Type} (size : Nat) (r : ERd α) (w : World) (S : Nat → Prop) (A : Option Addr) (n : Nat) (xs : List α) : Prop :=
  xs.length = n ∧ (0 < n → ∃ ad, A = some ad ∧ S ad.block ∧ ∀ i x, xs[i]? = some x → r w S (fun j => w.cell? (ad.add (i * size + j))) x)

/-- A reading hangs on the blocks S alone. -/
structure Stable {α : Type} (size : Nat) (r : ERd α) : Prop where
  keep : ∀ {w w' : World} {S : Nat → Prop} {f : Nat → Option Value} {x : α}, (∀ p : Addr, S p.block → w'.cell? p = w.cell? p) → r w S f x → r w' S f x
  more : ∀ {w : World} {S S' : Nat → Prop} {f : Nat → Option Value} {x : α}, (∀ b, S b → S' b) → r w S f x → r w S' f x
  mono : ∀ {w : World} {S : Nat → Prop} {f f' : Nat → Option Value} {x : α}, (∀ j u, j < size → f j = some u → f' j = some u) → r w S f x → r w S f' x

def eByte : ERd UInt8 := fun _ _ f b => f 0 = some (.int .u8 (b.toNat : Int))
def eBool : ERd Bool := fun _ _ f b => f 0 = some (.bool b)
/-- It fits an int. -/
def wfI (n : Int) : Prop := (Lit.int .i64 n).wf = true
theorem wfI.bd {n : Int} (h : wfI n) : -9223372036854775808 ≤ n ∧ n ≤ 9223372036854775807 := by simpa [wfI, Lit.wf, IntKind.min, IntKind.max, IntKind.signed, IntKind.bits] using h
theorem wfI.mk {n : Int} (h : -9223372036854775808 ≤ n ∧ n ≤ 9223372036854775807) : wfI n := by simpa [wfI, Lit.wf, IntKind.min, IntKind.max, IntKind.signed, IntKind.bits] using h
def eInt : ERd Int := fun _ _ f n => f 0 = some (.int .i64 n) ∧ wfI n
/-- What no slice passes: 2^47 bytes. -/
def lim : Nat := 140737488355328
def eSl {α : Type} (size bytes : Nat) (r : ERd α) : ERd (List α) := fun w S f xs => ∃ A n c, f 0 = some (.slice A n c) ∧ (n * bytes ≤ lim ∧ n ≤ c ∧ c ≤ maxLen) ∧ Sl size r w S A n xs
abbrev eBlock : ERd (List UInt8) := eSl 1 1 eByte
abbrev eBlocks : ERd (List (List UInt8)) := eSl 1 24 eBlock

theorem sByte : Stable 1 eByte := ⟨fun _ h => h, fun _ h => h, fun hf h => hf _ _ (by omega) h⟩
theorem sBool : Stable 1 eBool := ⟨fun _ h => h, fun _ h => h, fun hf h => hf _ _ (by omega) h⟩
instance (n : Int) : Decidable (wfI n) := inferInstanceAs (Decidable (_ = true))
theorem sInt : Stable 1 eInt := ⟨fun _ h => h, fun _ h => h, fun hf h => ⟨hf _ _ (by omega) h.1, h.2⟩⟩

section
variable {α : Type} {size : Nat} {r : ERd α} {w w' : World} {S S' : Nat → Prop} {B n : Nat} {A : Option Addr} {xs : List α}

theorem Sl.keep (s : Stable size r) (hk : ∀ p : Addr, S p.block → w'.cell? p = w.cell? p) (h : Sl size r w S A n xs) : Sl size r w' S A n xs :=
  ⟨h.1, fun hn => by
    obtain ⟨ad, e, hb, hc⟩ := h.2 hn
    refine ⟨ad, e, hb, fun i x hx => ?_⟩
    have h1 := s.keep (w' := w') hk (hc i x hx)
    have : (fun j => w'.cell? (ad.add (i * size + j))) = fun j => w.cell? (ad.add (i * size + j)) := funext fun j => hk _ (by rw [block_of_add]; exact hb)
    rw [this]
    exact h1⟩

theorem Sl.more (s : Stable size r) (hB : ∀ b, S b → S' b) (h : Sl size r w S A n xs) : Sl size r w S' A n xs :=
  ⟨h.1, fun hn => by
    obtain ⟨ad, e, hb, hc⟩ := h.2 hn
    exact ⟨ad, e, hB _ hb, fun i x hx => s.more hB (hc i x hx)⟩⟩

theorem sSl {bytes : Nat} (s : Stable size r) : Stable 1 (eSl size bytes r) :=
  ⟨fun hk ⟨A, n, c, h0, h1, h2⟩ => ⟨A, n, c, h0, h1, h2.keep s hk⟩, fun hB ⟨A, n, c, h0, h1, h2⟩ => ⟨A, n, c, h0, h1, h2.more s hB⟩, fun hf ⟨A, n, c, h0, h1, h2⟩ => ⟨A, n, c, hf _ _ (by omega) h0, h1, h2⟩⟩

theorem Sl.nil : Sl size r w S A 0 [] := ⟨rfl, fun h => absurd h (by omega)⟩

/-- 's[k:]': at the capacity's end the address stays. -/
theorem Sl.cut {k cap : Nat} (h : Sl size r w S A n xs) (hk : k ≤ n) (hc : n ≤ cap) : Sl size r w S (if cap = k then A else A.map (·.add (k * size))) (n - k) (xs.drop k) := by
  refine ⟨by rw [List.length_drop, h.1], fun hn => ?_⟩
  obtain ⟨ad, rfl, hb, hcell⟩ := h.2 (by omega)
  rw [if_neg (by omega)]
  refine ⟨ad.add (k * size), rfl, by rw [block_of_add]; exact hb, fun i x hx => ?_⟩
  have := hcell (k + i) x (by rw [← hx, List.getElem?_drop])
  rw [Nat.add_mul] at this
  simp only [add_of_add, ← Nat.add_assoc]
  exact this
/-- 's[:k]'. -/
theorem Sl.pre {k : Nat} (h : Sl size r w S A n xs) (hk : k ≤ n) : Sl size r w S A k (xs.take k) := by
  refine ⟨by rw [List.length_take, h.1]; omega, fun hn => ?_⟩
  obtain ⟨ad, rfl, hb, hcell⟩ := h.2 (by omega)
  refine ⟨ad, rfl, hb, fun i x hx => hcell i x ?_⟩
  rw [List.getElem?_take] at hx
  split at hx
  · exact hx
  · cases hx

/-- The elements behind an address. -/
def Els {α : Type} (size : Nat) (r : ERd α) (w : World) (S : Nat → Prop) (ad : Addr) (n : Nat) (xs : List α) : Prop :=
  xs.length = n ∧ S ad.block ∧ ∀ i x, xs[i]? = some x → r w S (fun j => w.cell? (ad.add (i * size + j))) x

theorem Sl.els (h : Sl size r w S A n xs) (hn : 0 < n) : ∃ ad, A = some ad ∧ Els size r w S ad n xs := by
  obtain ⟨ad, e, hb, hc⟩ := h.2 hn
  exact ⟨ad, e, h.1, hb, hc⟩

theorem Els.at_ {ad : Addr} (h : Els size r w S ad n xs) {k : Nat} (hk : k < n) :
    ∃ x, xs[k]? = some x ∧ r w S (fun j => w.cell? (ad.add (k * size + j))) x := by
  have hl : k < xs.length := by have := h.1; omega
  exact ⟨xs[k], List.getElem?_eq_getElem hl, h.2.2 k _ (List.getElem?_eq_getElem hl)⟩

theorem Els.sl {ad : Addr} (h : Els size r w S ad n xs) : Sl size r w S (some ad) n xs := ⟨h.1, fun _ => ⟨ad, rfl, h.2⟩⟩
end

/-- The k-th byte. -/
theorem Els.byte {w : World} {S : Nat → Prop} {n k : Nat} {ad : Addr} {l : List UInt8} (h : Els 1 eByte w S ad n l) (hk : k < n) :
    ∃ b, l[k]? = some b ∧ w.cell? (ad.add k) = some (.int .u8 (b.toNat : Int)) := by
  obtain ⟨x, hx, hr⟩ := h.at_ hk
  exact ⟨x, hx, by simpa [eByte] using hr⟩

/-- The k-th bool. -/
theorem Els.bool {w : World} {S : Nat → Prop} {n k : Nat} {ad : Addr} {l : List Bool} (h : Els 1 eBool w S ad n l) (hk : k < n) :
    ∃ b, l[k]? = some b ∧ w.cell? (ad.add k) = some (.bool b) := by
  obtain ⟨x, hx, hr⟩ := h.at_ hk
  exact ⟨x, hx, by simpa [eBool] using hr⟩

/-- The k-th int. -/
theorem Els.int {w : World} {S : Nat → Prop} {n k : Nat} {ad : Addr} {l : List Int} (h : Els 1 eInt w S ad n l) (hk : k < n) :
    ∃ b, l[k]? = some b ∧ w.cell? (ad.add k) = some (.int .i64 b) ∧ wfI b := by
  obtain ⟨x, hx, hr⟩ := h.at_ hk
  exact ⟨x, hx, by simpa [eInt] using hr⟩

/-- The k-th block. -/
theorem Els.block {w : World} {S : Nat → Prop} {n k : Nat} {ad : Addr} {ls : List (List UInt8)} (h : Els 1 eBlock w S ad n ls) (hk : k < n) :
    ∃ A' n' c' l, ls[k]? = some l ∧ w.cell? (ad.add k) = some (.slice A' n' c') ∧ n' ≤ lim ∧ Sl 1 eByte w S A' n' l := by
  obtain ⟨x, hx, A', n', c', h0, h1, h2⟩ := h.at_ hk
  exact ⟨A', n', c', x, hx, by simpa using h0, by omega, h2⟩
theorem wBlock : Stable 1 eBlock := sSl sByte

/-- What a call leaves: all that was is as it was. -/
abbrev Fr (w w' : World) : Prop := Below w.heap.size w w'
theorem Fr.trans {a b c : World} (h : Fr a b) (k : Fr b c) : Fr a c := Below.trans h (k.mono h.size)
theorem frDrewN (w : World) (n : Nat) : Fr w (w.drewN n) := ⟨rfl, rfl, rfl, Nat.le_refl _, fun _ _ => rfl⟩
theorem below_drewN {B : Nat} {a w : World} (h : Below B a w) (n : Nat) : Below B a (w.drewN n) := ⟨h.os, h.tape, h.output, h.size, h.block⟩
theorem drew2 (w : World) (m n : Nat) : ∃ k, (w.drewN m).drewN n = w.drewN k := ⟨_, World.drewN_drewN _ _ _⟩
theorem frA {a w : World} (h : Below a.heap.size a w) (o : Obj) : Below a.heap.size a (w.alloc o) := h.alloc h.size o
/-- A reading below the heap's end is handed on. -/
theorem Sl.go {α : Type} {size : Nat} {r : ERd α} {w w' : World} {n : Nat} {A : Option Addr} {xs : List α} (s : Stable size r) (h : Sl size r w (LT w.heap.size) A n xs) (hb : Fr w w') : Sl size r w' (LT w'.heap.size) A n xs :=
  (h.keep s fun _ hp => hb.cell hp).more s fun _ hp => Nat.lt_of_lt_of_le hp hb.size

/-- The blocks that a call made. -/
def NW (a b : Nat) : Nat → Prop := fun x => a ≤ x ∧ x < b
theorem Sl.nw {α : Type} {size : Nat} {r : ERd α} {w : World} {a n : Nat} {A : Option Addr} {xs : List α} (s : Stable size r) (h : Sl size r w (NW a w.heap.size) A n xs) : Sl size r w (LT w.heap.size) A n xs := h.more s fun _ hb => hb.2
/-- A store into an old block turns nothing of a new one. -/
theorem Sl.stored {α : Type} {size : Nat} {r : ERd α} {w : World} {a b n : Nat} {A : Option Addr} {xs : List α} (s : Stable size r) (h : Sl size r w (NW a b) A n xs) {p : Addr} (hp : p.block < a) (u : Value) : Sl size r (w.setCell p u) (NW a b) A n xs :=
  h.keep s fun q hq => World.cell?_setCell_other w p q u (fun e => by subst e; have := hq.1; omega)
theorem size_setCell (w : World) (p : Addr) (u : Value) : (w.setCell p u).heap.size = w.heap.size := by simp [World.setCell]

/-- A slice of the call's own whose elements read as the list's: what lies behind the elements lies elsewhere. -/
def Own {α : Type} (size : Nat) (r : ERd α) (w : World) (base : Nat) (e : TypeId) (v : Value) (xs : List α) : Prop :=
  ∃ cs : List Value, w.ownsRow base e size v xs.length cs ∧ ∀ i x, xs[i]? = some x → r w (fun b => b < w.heap.size ∧ v.ownBlock ≠ some b) (fun j => cs[i * size + j]?) x

theorem cell_of_heap {w : World} {b i : Nat} {cs : Array Value} {t : TypeId} {fr : Nat × Nat} (h : w.heap[b]? = some (.cells cs t fr)) : w.cell? ⟨b, i, none⟩ = cs[i]? := by
  simp [World.cell?, h]
theorem blk_go {w w' : World} {g : Nat} {o : Obj} (h : w.heap[g]? = some o) (hf : Below w.heap.size w w') : w'.heap[g]? = some o := (hf.block g (Array.getElem?_eq_some_iff.1 h).1).trans h
theorem blk_free {w : World} {g i : Nat} {cs : Array Value} {t : TypeId} (h : w.heap[g]? = some (.cells cs t (0, 0))) : w.frozen? ⟨g, i, none⟩ = false := by
  unfold World.frozen?
  rw [h]
  simp
theorem zero_add_addr (b i : Nat) : (⟨b, 0, none⟩ : Addr).add i = ⟨b, i, none⟩ := by unfold Addr.add; split <;> simp_all

/-- A block known whole, read from its first cell on. -/
theorem Sl.lit {α : Type} {size : Nat} {r : ERd α} {w : World} {b : Nat} {cs : Array Value} {t : TypeId} {fr : Nat × Nat} {S : Nat → Prop} {n : Nat} {xs : List α}
    (hb : w.heap[b]? = some (.cells cs t fr)) (hS : S b) (hn : xs.length = n) (h : ∀ i x, xs[i]? = some x → r w S (fun j => cs[i * size + j]?) x) : Sl size r w S (some ⟨b, 0, none⟩) n xs := by
  refine ⟨hn, fun _ => ⟨_, rfl, hS, fun i x hx => ?_⟩⟩
  have : (fun j => w.cell? ((⟨b, 0, none⟩ : Addr).add (i * size + j))) = fun j => cs[i * size + j]? := funext fun j => by rw [zero_add_addr, cell_of_heap hb]
  rw [this]
  exact h i x hx
theorem Sl.litBytes {w : World} {b : Nat} {cs : Array Value} {t : TypeId} {fr : Nat × Nat} {S : Nat → Prop} {n : Nat} {xs : List UInt8}
    (hb : w.heap[b]? = some (.cells cs t fr)) (hS : S b) (hn : xs.length = n) (hc : cs = (xs.map fun x => Value.int .u8 (x.toNat : Int)).toArray) : Sl 1 eByte w S (some ⟨b, 0, none⟩) n xs :=
  .lit hb hS hn fun i x hx => by subst hc; simp [eByte, hx]
theorem Sl.litBools {w : World} {b : Nat} {cs : Array Value} {t : TypeId} {fr : Nat × Nat} {S : Nat → Prop} {n : Nat} {xs : List Bool}
    (hb : w.heap[b]? = some (.cells cs t fr)) (hS : S b) (hn : xs.length = n) (hc : cs = (xs.map Value.bool).toArray) : Sl 1 eBool w S (some ⟨b, 0, none⟩) n xs :=
  .lit hb hS hn fun i x hx => by subst hc; simp [eBool, hx]
theorem heap_old {w : World} {o : Obj} {b : Nat} {x : Obj} (h : w.heap[b]? = some x) : (w.alloc o).heap[b]? = some x := by
  rw [Below.heap_alloc w o b (Array.getElem?_eq_some_iff.1 h).1]; exact h
theorem heap_new {w : World} {o : Obj} {b : Nat} (h : b = w.heap.size) : (w.alloc o).heap[b]? = some o := by subst h; exact heap_alloc_new w o
theorem heap_dn {w : World} {n : Nat} {b : Nat} {x : Obj} (h : w.heap[b]? = some x) : (w.drewN n).heap[b]? = some x := h
theorem heap_d {w : World} {b : Nat} {x : Obj} (h : w.heap[b]? = some x) : w.drew.heap[b]? = some x := h
/-- Everywhere. -/
def Any : Nat → Prop := fun _ => True

/-- Cells of one kind, a list of them. -/
def ca {α : Type} (en : α → Value) (l : List α) : Array Value := (l.map en).toArray
def bV (b : UInt8) : Value := .int .u8 (b.toNat : Int)

section
variable {α : Type} {en : α → Value} {w : World} {g i : Nat} {t : TypeId} {l : List α} {b : α}
theorem ca_cell (h : w.heap[g]? = some (.cells (ca en l) t (0, 0))) (hi : l[i]? = some b) : w.cell? ⟨g, i, none⟩ = some (en b) := by
  rw [cell_of_heap h]; simp [ca, hi]
theorem ca_free (h : w.heap[g]? = some (.cells (ca en l) t (0, 0))) : w.frozen? ⟨g, i, none⟩ = false := by
  simp [World.frozen?, h]
theorem ca_set (h : w.heap[g]? = some (.cells (ca en l) t (0, 0))) : (w.setCell ⟨g, i, none⟩ (en b)).heap[g]? = some (.cells (ca en (l.set i b)) t (0, 0)) := by
  simp [World.setCell, Array.getElem?_modify, h, ca, List.map_set]
theorem ca_lt (h : w.heap[g]? = some (.cells (ca en l) t (0, 0))) : g < w.heap.size := (Array.getElem?_eq_some_iff.1 h).1
end
theorem ca_bools {w : World} {g n : Nat} {t : TypeId} {l : List Bool} {S : Nat → Prop} (h : w.heap[g]? = some (.cells (ca Value.bool l) t (0, 0))) (hS : S g) (hn : l.length = n) : Sl 1 eBool w S (some ⟨g, 0, none⟩) n l :=
  Sl.litBools h hS hn rfl
theorem madeCells_one (z : Value) (n : Nat) : madeCells #[z] n = (List.replicate n z).toArray := by
  apply Array.ext'
  simp only [madeCells, List.size_toArray, List.length_cons, List.length_nil, Nat.zero_add, Nat.mod_one]
  rw [Array.toList_map, Array.toList_range]
  apply List.ext_getElem (by simp)
  intro i h1 h2
  simp
theorem run_make_ca {α : Type} {P : Program} (en : α → Value) (z : α) (t e : TypeId) (bytes : Nat) (ht : P.underlying t = some (.slice e)) (hinfo : (P.info? e).map (fun i => (i.zero, i.size, i.bytes)) = some (some (en z), 1, bytes)) (hz1 : (en z).cells = #[en z])
    (kl kc : IntKind) (n : Nat) (hbytes : bytes * n ≤ 281474976710656) (h63 : n ≤ 9223372036854775807) (w : World) :
    (Instr.makeSlice t (.int kl (n : Int)) (.int kc (n : Int))).run P w = .ok (.slice (some ⟨w.heap.size, 0, none⟩) n n) (w.alloc (.cells (ca en (List.replicate n z)) e)) := by
  rw [run_make_row' t e (en z) bytes ht hinfo hz1 kl kc n hbytes h63 w, madeCells_one]
  simp [ca]
theorem u8_xor_byte (a b : UInt8) : bits .xor .u8 (a.toNat : Int) (b.toNat : Int) = ((a ^^^ b).toNat : Int) := by
  rw [u8_xor_nat _ _ a.toNat_lt b.toNat_lt, UInt8.toNat_xor]

theorem retI {k : IntKind} {a b : Int} (h : a = b) : Ending.returned (.int k a) = .returned (.int k b) := by rw [h]
theorem retB {a b : Bool} (h : a = b) : Ending.returned (.bool a) = .returned (.bool b) := by rw [h]

theorem drop_cons {α : Type} {l : List α} {k : Nat} {x : α} (h : l[k]? = some x) : l.drop k = x :: l.drop (k + 1) := by
  obtain ⟨hk, rfl⟩ := List.getElem?_eq_some_iff.1 h
  exact List.drop_eq_getElem_cons hk
theorem take_snoc' {α : Type} {l : List α} {k : Nat} {x : α} (h : l[k]? = some x) : l.take (k + 1) = l.take k ++ [x] := by
  obtain ⟨hk, rfl⟩ := List.getElem?_eq_some_iff.1 h
  exact List.take_succ_eq_append_getElem hk

end Go.Proofs.YtmiaplgfbphfmaaGreatDoor
namespace Go.Proofs.YtmiaplgfbphfmaaGreatDoor
set_option maxRecDepth 100000
open Go.RowKit Go.ChangeShapes Go.WideShapes Go.ChangeAt Go.Deep Go.Joins

theorem own : ownKnob Tryz.prog.godebug = none := by kernel_rfl
theorem laidOut : laidOutB Tryz.prog = true := by kernel_rfl

/-- Whatever reads as a datum of type T reads so. -/
def Opens {α : Type} (P : Program) (T : TypeId) (size : Nat) (r : ERd α) : Prop :=
  ∀ (H : Type) (enc : TypeId × Value → H) (w : World) (fuel : Nat) (cs : List Value) (x : DataW H × List MemPlace), DataW.trod enc P w 0 (fun _ => true) true fuel T cs = some x →
    (∀ n ∈ x.1.weights P T, n ≤ reachBytes) → cs.length = size ∧ ∃ y, r w (LT w.heap.size) (fun j => cs[j]?) y

theorem opens_int {P : Program} {T : TypeId} (hT : P.underlying T = some (.int .i64)) : Opens P T 1 eInt := by
  intro H enc w fuel cs x h _
  obtain ⟨n, rfl, _, hw⟩ := DataW.trod_int hT h
  exact ⟨rfl, n, rfl, hw⟩
theorem opens_byte {P : Program} {T : TypeId} (hT : P.underlying T = some (.int .u8)) : Opens P T 1 eByte := by
  intro H enc w fuel cs x h _
  obtain ⟨n, rfl, _, hw⟩ := DataW.trod_int hT h
  have hb : 0 ≤ n ∧ n ≤ 255 := by simpa [Lit.wf, IntKind.min, IntKind.max, IntKind.signed, IntKind.bits] using hw
  refine ⟨rfl, UInt8.ofNat n.toNat, ?_⟩
  have : ((UInt8.ofNat n.toNat).toNat : Int) = n := by
    obtain ⟨m, rfl⟩ := Int.eq_ofNat_of_zero_le hb.1
    rw [Int.toNat_natCast, UInt8.toNat_ofNat']; omega
  show some (Value.int .u8 n) = _
  rw [this]

theorem list_of {α : Type} (n : Nat) (p : Nat → α → Prop) (h : ∀ i, i < n → ∃ y, p i y) : ∃ ys : List α, ys.length = n ∧ ∀ i y, ys[i]? = some y → p i y := by
  induction n with
  | zero => exact ⟨[], rfl, fun i y h => by simp at h⟩
  | succ n ih =>
    obtain ⟨ys, hl, hy⟩ := ih fun i hi => h i (by omega)
    obtain ⟨y, hp⟩ := h n (by omega)
    refine ⟨ys ++ [y], by simp [hl], fun i z hz => ?_⟩
    rw [List.getElem?_append] at hz
    split at hz
    · exact hy i z hz
    · have : i - ys.length = 0 := by
        rcases Nat.eq_zero_or_pos (i - ys.length) with h0 | h0
        · exact h0
        · rw [List.getElem?_eq_none (by simp; omega)] at hz; cases hz
      rw [this] at hz
      simp at hz
      subst hz
      obtain rfl : i = n := by omega
      exact hp

theorem weightsAll_mem {H : Type} {P : Program} {e : TypeId} : ∀ {ds : List (DataW H)} {d : DataW H}, d ∈ ds → ∀ n ∈ d.weights P e, n ∈ DataW.weightsAll P e ds
  | d0 :: ds, d, hd, n, hn => by
    simp only [DataW.weightsAll, List.mem_append]
    rcases List.mem_cons.1 hd with rfl | hd
    · exact .inl hn
    · exact .inr (weightsAll_mem hd n hn)

end Go.Proofs.YtmiaplgfbphfmaaGreatDoor
namespace Go.Proofs.YtmiaplgfbphfmaaGreatDoor
open Go.RowKit

/-- Every cell of an element is there, and is one cell. -/
def Full {α : Type} (size : Nat) (r : ERd α) : Prop := ∀ {w : World} {S : Nat → Prop} {f : Nat → Option Value} {x : α}, r w S f x → ∀ j, j < size → ∃ u, f j = some u ∧ u.oneCell' = true
theorem fByte : Full 1 eByte := fun h j hj => by obtain rfl : j = 0 := by omega
                                                 exact ⟨_, h, rfl⟩
theorem fBool : Full 1 eBool := fun h j hj => by obtain rfl : j = 0 := by omega
                                                 exact ⟨_, h, rfl⟩
theorem fInt : Full 1 eInt := fun h j hj => by obtain rfl : j = 0 := by omega
                                               exact ⟨_, h.1, rfl⟩
theorem fSl {α : Type} {size bytes : Nat} {r : ERd α} : Full 1 (eSl size bytes r) := fun h j hj => by
  obtain rfl : j = 0 := by omega
  obtain ⟨A, n, c, h0, _⟩ := h
  exact ⟨_, h0, rfl⟩

section
variable {α : Type} {size : Nat} {r : ERd α} {w w' : World} {S : Nat → Prop} {base n : Nat} {e : TypeId} {v : Value} {xs : List α} {A : Option Addr}

/-- The cells of a slice that reads as a list. -/
theorem Els.cells {ad : Addr} (F : Full size r) (s : Stable size r) (hs : 0 < size) (h : Els size r w S ad n xs) :
    ∃ cs : List Value, cs.length = n * size ∧ (∀ j u, cs[j]? = some u → w.cell? (ad.add j) = some u) ∧ (∀ u ∈ cs, u.oneCell' = true) ∧ ∀ i x, xs[i]? = some x → r w S (fun j => cs[i * size + j]?) x := by
  obtain ⟨hl, hS, hr⟩ := h
  have hcell : ∀ j, j < n * size → ∃ u, w.cell? (ad.add j) = some u ∧ u.oneCell' = true := by
    intro j hj
    have hi : j / size < n := by rw [Nat.div_lt_iff_lt_mul hs]; exact hj
    have hx : xs[j / size]? = some xs[j / size] := List.getElem?_eq_getElem (by omega)
    obtain ⟨u, hu, h1⟩ := F (hr _ _ hx) (j % size) (Nat.mod_lt _ hs)
    refine ⟨u, ?_, h1⟩
    rw [show j = j / size * size + j % size from by rw [Nat.mul_comm]; exact (Nat.div_add_mod j size).symm]
    exact hu
  refine ⟨(List.range (n * size)).map fun j => (w.cell? (ad.add j)).getD undef, by simp, ?_, ?_, ?_⟩
  · intro j u hu
    rw [List.getElem?_map] at hu
    have hj : j < n * size := by
      rcases Nat.lt_or_ge j (n * size) with h | h
      · exact h
      · rw [List.getElem?_eq_none (by simpa using h)] at hu; simp at hu
    rw [List.getElem?_range hj] at hu
    obtain ⟨u', hu', _⟩ := hcell j hj
    simp [hu'] at hu
    rw [hu', hu]
  · intro u hu
    obtain ⟨j, hj, rfl⟩ := List.mem_map.1 hu
    obtain ⟨u', hu', h1⟩ := hcell j (List.mem_range.1 hj)
    simpa [hu'] using h1
  · intro i x hx
    refine s.mono (fun j u hjs hu => ?_) (hr i x hx)
    have hi : i < n := by have := (List.getElem?_eq_some_iff.1 hx).1; omega
    have hlt : i * size + j < n * size := by
      have : (i + 1) * size ≤ n * size := Nat.mul_le_mul_right _ hi
      rw [Nat.add_mul] at this
      omega
    simp only [List.getElem?_map, List.getElem?_range hlt, Option.map_some, hu, Option.getD_some]

theorem Own.nil : Own size r w base e (.slice none 0 0) ([] : List α) := ⟨[], World.ownsRow_nil w base e size, fun i x h => by simp at h⟩

/-- What was read of old blocks lies in none of the call's own. -/
theorem Own.far (h : Own size r w base e v xs) {b : Nat} (hb : b < base) : v.ownBlock ≠ some b := by
  obtain ⟨cs, ho, _⟩ := h
  intro e
  have := (ho.lt b e).1
  omega

/-- A slice of the call's own reads as a list. -/
theorem Own.sl (s : Stable size r) (hs : 0 < size) (h : Own size r w base e v xs) : ∃ A c, v = .slice A xs.length c ∧ xs.length ≤ maxLen ∧ (v.ownBlock = none ↔ A = none) ∧ Sl size r w (LT w.heap.size) A xs.length xs := by
  obtain ⟨cs, ho, hr⟩ := h
  rcases ho.2 with ⟨rfl, h0⟩ | ⟨g, cap, cur, rfl, hbg, hg, hnc, hcm, hcs, htake⟩
  · refine ⟨none, 0, by rw [h0], by omega, by simp [Value.ownBlock], rfl, fun hn => ?_⟩
    omega
  · refine ⟨some ⟨g, 0, none⟩, cap, rfl, by omega, by simp [Value.ownBlock], rfl, fun hn => ⟨_, rfl, (Array.getElem?_eq_some_iff.1 hg).1, fun i x hx => ?_⟩⟩
    refine s.mono (fun j u hj hu => ?_) (s.more (fun b hb => hb.1) (hr i x hx))
    have hi : i < xs.length := (List.getElem?_eq_some_iff.1 hx).1
    rw [zero_add_addr, cell_of_heap hg]
    rw [← htake, List.getElem?_take] at hu
    split at hu
    · simpa using hu
    · cases hu

theorem Own.lower {base' : Nat} (h : Own size r w base e v xs) (hb : base' ≤ base) : Own size r w base' e v xs := by
  obtain ⟨cs, ho, hr⟩ := h
  refine ⟨cs, ⟨ho.1, ?_⟩, hr⟩
  rcases ho.2 with h0 | ⟨g, cap, cur, h1, h2, h3⟩
  · exact .inl h0
  · exact .inr ⟨g, cap, cur, h1, by omega, h3⟩

/-- It stays so over blocks that are new. -/
theorem Own.fr (s : Stable size r) (h : Own size r w base e v xs) (hb : Fr w w') : Own size r w' base e v xs := by
  obtain ⟨cs, ho, hr⟩ := h
  have hg : w.grownBy w' none := ⟨hb.os, hb.tape, hb.output, hb.size, fun k hk _ => hb.block k hk⟩
  refine ⟨cs, ho.kept hg (by cases v.ownBlock <;> simp), fun i x hx => s.more (fun b hb' => ⟨Nat.lt_of_lt_of_le hb'.1 hb.size, hb'.2⟩) (s.keep (fun p hp => hb.cell hp.1) (hr i x hx))⟩

theorem Own.slC (s : Stable size r) (hs : 0 < size) (h : Own size r w base e v xs) : ∃ A c, v = .slice A xs.length c ∧ (xs.length ≤ c ∧ c ≤ maxLen) ∧ Sl size r w (LT w.heap.size) A xs.length xs := by
  obtain ⟨A, c, e1, _, _, hsl⟩ := h.sl s hs
  refine ⟨A, c, e1, ?_, hsl⟩
  obtain ⟨cs, ho, _⟩ := h
  subst e1
  rcases ho.2 with ⟨h0, h1⟩ | ⟨g, cap, cur, h0, _, _, h1, h2, _⟩
  · injection h0 with _ _ h0; subst h0; exact ⟨by omega, by unfold maxLen; omega⟩
  · injection h0 with _ _ h0; subst h0; exact ⟨h1, h2⟩
theorem frAlloc (w : World) (o : Obj) : Fr w (w.alloc o) := (Below.refl _ _).alloc (Nat.le_refl _) _

/-- What append leaves. -/
theorem own_apps (s : Stable size r) {ys : List α} {cs news : List Value} {v' : Value} {m : Nat} (hr : ∀ i x, xs[i]? = some x → r w (fun b => b < w.heap.size ∧ v.ownBlock ≠ some b) (fun j => cs[i * size + j]?) x)
    (hcs : cs.length = xs.length * size) (hm : ys.length = m) (hy : ∀ i x, ys[i]? = some x → r w (fun b => b < w.heap.size ∧ v.ownBlock ≠ some b) (fun j => news[i * size + j]?) x)
    (ho : w'.ownsRow base e size v' (xs.length + m) (cs ++ news)) (hg : w.grownBy w' v.ownBlock) (hl : v'.ownBlock = v.ownBlock ∨ v'.ownBlock = some w.heap.size) : Own size r w' base e v' (xs ++ ys) := by
  have keep : ∀ {f : Nat → Option Value} {x : α}, r w (fun b => b < w.heap.size ∧ v.ownBlock ≠ some b) f x → r w' (fun b => b < w'.heap.size ∧ v'.ownBlock ≠ some b) f x := by
    intro f x h
    refine s.more (fun b hb => ⟨Nat.lt_of_lt_of_le hb.1 hg.size, ?_⟩) (s.keep (fun p hp => World.cell?_of_block (hg.block p.block hp.1 (fun e => hp.2 e.symm))) h)
    rcases hl with hl | hl
    · rw [hl]; exact hb.2
    · rw [hl]; intro e; injection e with e; omega
  refine ⟨cs ++ news, by rw [List.length_append, hm]; exact ho, fun i x hx => ?_⟩
  rw [List.getElem?_append] at hx
  split at hx
  · rename_i hi
    refine s.mono (fun j u hj hu => ?_) (keep (hr i x hx))
    rw [List.getElem?_append_left (by rw [hcs]; have : (i + 1) * size ≤ xs.length * size := Nat.mul_le_mul_right _ hi
                                      rw [Nat.add_mul] at this; omega)]
    exact hu
  · rename_i hi
    refine s.mono (fun j u hj hu => ?_) (keep (hy _ x hx))
    have e1 : i * size = xs.length * size + (i - xs.length) * size := by rw [← Nat.add_mul]; congr 1; omega
    rw [List.getElem?_append_right (by rw [hcs, e1]; omega), hcs, show i * size + j - xs.length * size = (i - xs.length) * size + j from by omega]
    exact hu
end

/-- What was read of old memory, read beside a slice of the call's own. -/
theorem Sl.beside {α β : Type} {size size' : Nat} {r : ERd α} {r' : ERd β} {w wr : World} {e : TypeId} {v : Value} {xs : List β} {A : Option Addr} {n : Nat} {ys : List α} (s : Stable size r) (h : Sl size r w (LT w.heap.size) A n ys)
    (hb : Below w.heap.size w wr) (ho : Own size' r' wr w.heap.size e v xs) : Sl size r wr (fun b => b < wr.heap.size ∧ v.ownBlock ≠ some b) A n ys :=
  (h.keep s fun _ hp => hb.cell hp).more s fun _ hp => ⟨Nat.lt_of_lt_of_le hp hb.size, ho.far hp⟩

theorem run_append_type {P : Program} (w : World) {t t' e e' : TypeId} {ty : TypeId} {A A' : Option Addr} {n c n' c' : Nat} (ht : P.underlying t = some (.slice e)) (ht' : P.underlying t' = some (.slice e')) :
    (Builtin.append_ #[t, t'] ty #[.slice A n c, .slice A' n' c']).run P w = (Builtin.append_ #[t, t] ty #[.slice A n c, .slice A' n' c']).run P w := by
  unfold Builtin.append_
  simp only [List.getElem?_toArray, List.getElem?_cons_zero, List.getElem?_cons_succ, Sem.run_bind, run_underlying ht, run_underlying ht', Result.andThen_ok]
/-- 'append(v, ..)' at a slice of the call's own: one element, or more, or none. -/
theorem wpList_apps2 {α : Type} {r : ERd α} {P : Program} (w : World) {ops : Array Oper} {rest : List Oper} {o : Oper} {a : Act} {Q : Exit → Act → World → Prop} (hgd : o.guard = none) (s x : Operand) (t t' : TypeId)
    (ho : o.op = .call { callee := .builtin .append, args := #[s, x], argTypes := #[t, t'] })
    (base : Nat) (e : TypeId) (z : Value) (size bytes : Nat) (ht : P.underlying t = some (.slice e)) {e' : TypeId} (ht' : P.underlying t' = some (.slice e')) (hi : (P.info? e).map (fun i => (i.zero, i.size, i.bytes)) = some (some z, size, bytes))
    (hzs : z.cells.size = size) (hsz : 0 < size) (st : Stable size r)
    (v : Value) (xs : List α) (hs : a.eval s = v) (hown : Own size r w base e v xs)
    (ad : Addr) (m c : Nat) (news : List Value) (hx : a.eval x = .slice (some ad) m c) (hl : news.length = m * size) (hnews : ∀ j u, news[j]? = some u → w.cell? (ad.add j) = some u) (h1 : ∀ u ∈ news, u.oneCell' = true)
    (ys : List α) (hm : ys.length = m) (hy : ∀ i x, ys[i]? = some x → r w (fun b => b < w.heap.size ∧ v.ownBlock ≠ some b) (fun j => news[i * size + j]?) x)
    (h63 : xs.length + m ≤ maxLen) (hbytes : (xs.length + m) * bytes ≤ lim) (hbase : base ≤ w.heap.size)
    (h : ∀ v' w', Own size r w' base e v' (xs ++ ys) → w.grownBy w' v.ownBlock → (∀ k, v.ownBlock = some k → base ≤ k) → wpList P ops Q rest (a.put o.dst v') w') : wpList P ops Q (o :: rest) a w := by
  obtain ⟨i, hi1, hi2⟩ := Option.map_eq_some_iff.1 hi
  simp only [Prod.mk.injEq] at hi2
  obtain ⟨cs, hrow, hr⟩ := hown
  refine wpList_plain hgd fun K hK => ?_
  obtain ⟨v', w', hrun, g2, g3, g4, g5⟩ := run_append_own_at (P := P) w base t o.type e i z size bytes ht hi1 hi2.1 hi2.2.1 hi2.2.2 hzs hsz v xs.length cs hrow ad m c news hl hnews h1 h63 hbytes hbase
  obtain ⟨vA, vn, vc, rfl⟩ : ∃ vA vn vc, v = .slice vA vn vc := by
    rcases hrow.2 with ⟨h0, _⟩ | ⟨g, cap, cur, h0, _⟩
    · exact ⟨_, _, _, h0⟩
    · exact ⟨_, _, _, h0⟩
  rw [← run_append_type (P := P) w ht ht'] at hrun
  unfold Oper.wp execOp
  simp only [ho, resolve, invoke, builtin, Sem.run_bind, Sem.run_pure, Result.andThen_ok, List.map_toArray, List.map_cons, List.map_nil, hs, hx, hrun]
  exact hK _ _ (h v' w' (own_apps st hr hrow.1 hm hy g2 g3 g5) g3 fun k hk => (hrow.lt k hk).1)
/-- 'append(v, ..)' at a slice of the call's own: one element, or more, or none. -/
theorem wpList_apps {α : Type} {r : ERd α} {P : Program} (w : World) {ops : Array Oper} {rest : List Oper} {o : Oper} {a : Act} {Q : Exit → Act → World → Prop} (hgd : o.guard = none) (s x : Operand) (t : TypeId)
    (ho : o.op = .call { callee := .builtin .append, args := #[s, x], argTypes := #[t, t] })
    (base : Nat) (e : TypeId) (z : Value) (size bytes : Nat) (ht : P.underlying t = some (.slice e)) (hi : (P.info? e).map (fun i => (i.zero, i.size, i.bytes)) = some (some z, size, bytes))
    (hzs : z.cells.size = size) (hsz : 0 < size) (st : Stable size r)
    (v : Value) (xs : List α) (hs : a.eval s = v) (hown : Own size r w base e v xs)
    (ad : Addr) (m c : Nat) (news : List Value) (hx : a.eval x = .slice (some ad) m c) (hl : news.length = m * size) (hnews : ∀ j u, news[j]? = some u → w.cell? (ad.add j) = some u) (h1 : ∀ u ∈ news, u.oneCell' = true)
    (ys : List α) (hm : ys.length = m) (hy : ∀ i x, ys[i]? = some x → r w (fun b => b < w.heap.size ∧ v.ownBlock ≠ some b) (fun j => news[i * size + j]?) x)
    (h63 : xs.length + m ≤ maxLen) (hbytes : (xs.length + m) * bytes ≤ lim) (hbase : base ≤ w.heap.size)
    (h : ∀ v' w', Own size r w' base e v' (xs ++ ys) → w.grownBy w' v.ownBlock → (∀ k, v.ownBlock = some k → base ≤ k) → wpList P ops Q rest (a.put o.dst v') w') : wpList P ops Q (o :: rest) a w :=
  wpList_apps2 w hgd s x t t ho base e z size bytes ht ht hi hzs hsz st v xs hs hown ad m c news hx hl hnews h1 ys hm hy h63 hbytes hbase h
/-- The same as one step of a region that draws its order. -/
theorem step_apps {α : Type} {r : ERd α} {P : Program} {w : World} {ops : Array Oper} {o : Oper} {a : Act} {K : Act → World → Prop} {Q : Exit → Act → World → Prop} {E : Prop} (hgd : o.guard = none) (s x : Operand) (t : TypeId)
    (ho : o.op = .call { callee := .builtin .append, args := #[s, x], argTypes := #[t, t] })
    (base : Nat) (e : TypeId) (z : Value) (size bytes : Nat) (ht : P.underlying t = some (.slice e)) (hi : (P.info? e).map (fun i => (i.zero, i.size, i.bytes)) = some (some z, size, bytes))
    (hzs : z.cells.size = size) (hsz : 0 < size) (st : Stable size r)
    (v : Value) (xs : List α) (hs : a.eval s = v) (hown : Own size r w base e v xs)
    (ad : Addr) (m c : Nat) (news : List Value) (hx : a.eval x = .slice (some ad) m c) (hl : news.length = m * size) (hnews : ∀ j u, news[j]? = some u → w.cell? (ad.add j) = some u) (h1 : ∀ u ∈ news, u.oneCell' = true)
    (ys : List α) (hm : ys.length = m) (hy : ∀ i x, ys[i]? = some x → r w (fun b => b < w.heap.size ∧ v.ownBlock ≠ some b) (fun j => news[i * size + j]?) x)
    (h63 : xs.length + m ≤ maxLen) (hbytes : (xs.length + m) * bytes ≤ lim) (hbase : base ≤ w.heap.size)
    (h : ∀ v' w', Own size r w' base e v' (xs ++ ys) → w.grownBy w' v.ownBlock → (∀ k, v.ownBlock = some k → base ≤ k) → K (a.put o.dst v') w') :
    if Region.wanted o (yielded ops a.tmps) = true then Oper.wp P o a w K Q else E := by
  have hw : Region.wanted o (yielded ops a.tmps) = true := by simp [Region.wanted, hgd]
  rw [if_pos hw]
  obtain ⟨i, hi1, hi2⟩ := Option.map_eq_some_iff.1 hi
  simp only [Prod.mk.injEq] at hi2
  obtain ⟨cs, hrow, hr⟩ := hown
  obtain ⟨v', w', hrun, g2, g3, g4, g5⟩ := run_append_own_at (P := P) w base t o.type e i z size bytes ht hi1 hi2.1 hi2.2.1 hi2.2.2 hzs hsz v xs.length cs hrow ad m c news hl hnews h1 h63 hbytes hbase
  unfold Oper.wp execOp
  simp only [ho, resolve, invoke, builtin, Sem.run_bind, Sem.run_pure, Result.andThen_ok, List.map_toArray, List.map_cons, List.map_nil, hs, hx, hrun]
  exact h v' w' (own_apps st hr hrow.1 hm hy g2 g3 g5) g3 fun k hk => (hrow.lt k hk).1
theorem infoByte : (Tryz.prog.info? 5).map (fun i => (i.zero, i.size, i.bytes)) = some (some (bV 0), 1, 1) := by kernel_rfl
theorem infoBool : (Tryz.prog.info? 4).map (fun i => (i.zero, i.size, i.bytes)) = some (some (.bool false), 1, 1) := by kernel_rfl
end Go.Proofs.YtmiaplgfbphfmaaGreatDoor
namespace Go.Proofs.YtmiaplgfbphfmaaGreatDoor
open Go.RowKit

section
variable {α : Type} {size : Nat} {r : ERd α} {w w' : World} {base : Nat} {e : TypeId} {v : Value} {xs ys : List α}

/-- Its row of cells. -/
theorem own_row (F : Full size r) (hs : 0 < size) (h : Own size r w base e v xs) (hn : 0 < xs.length) :
    ∃ (g cap : Nat) (cs rest : List Value), v = .slice (some ⟨g, 0, none⟩) xs.length cap ∧ base ≤ g ∧ w.heap[g]? = some (.cells (cs ++ rest).toArray e (0, 0)) ∧ xs.length ≤ cap ∧ cap ≤ maxLen ∧ cs.length = xs.length * size ∧ cs.length + rest.length = cap * size ∧
      (∀ u ∈ cs, u.oneCell' = true) ∧ ∀ i x, xs[i]? = some x → r w (fun b => b < w.heap.size ∧ b ≠ g) (fun j => cs[i * size + j]?) x := by
  obtain ⟨cs, ho, hr⟩ := h
  have hlen := ho.1
  rcases ho.2 with ⟨rfl, h0⟩ | ⟨g, cap, cur, rfl, hbg, hg, hnc, hcm, hcs, htake⟩
  · omega
  · refine ⟨g, cap, cs, cur.toList.drop (xs.length * size), rfl, hbg, ?_, hnc, hcm, hlen, ?_, ?_, ?_⟩
    · rw [hg, ← htake, List.take_append_drop]
    · have : xs.length * size ≤ cap * size := Nat.mul_le_mul_right _ hnc
      have e2 : cur.toList.length = cap * size := by rw [Array.length_toList]; exact hcs
      rw [hlen, List.length_drop, e2]; omega
    · intro u hu
      obtain ⟨k, hk, rfl⟩ := List.mem_iff_getElem.1 hu
      have hi : k / size < xs.length := by rw [Nat.div_lt_iff_lt_mul hs]; omega
      obtain ⟨u', hu', h1⟩ := F (hr (k / size) _ (List.getElem?_eq_getElem hi)) (k % size) (Nat.mod_lt _ hs)
      have e1 : k / size * size + k % size = k := by rw [Nat.mul_comm]; exact Nat.div_add_mod k size
      simp only [e1] at hu'
      rw [List.getElem?_eq_getElem hk] at hu'
      injection hu' with hu'
      rw [hu']; exact h1
    · intro i x hx
      have := hr i x hx
      have e1 : (fun b => b < w.heap.size ∧ (Value.slice (some ⟨g, 0, none⟩) xs.length cap).ownBlock ≠ some b) = fun b => b < w.heap.size ∧ b ≠ g := by
        funext b
        simp [Value.ownBlock, eq_comm]
      rw [e1] at this
      exact this

/-- And back: the row's cells may have been moved. -/
theorem row_own (s : Stable size r) {g cap : Nat} {cs rest : List Value} (hbg : base ≤ g) (hg : w'.heap[g]? = some (.cells (cs ++ rest).toArray e (0, 0))) (hG : w.grownBy w' (some g)) (hnc : ys.length ≤ cap) (hcm : cap ≤ maxLen) (hcs : cs.length = ys.length * size) (hall : cs.length + rest.length = cap * size)
    (hr : ∀ i x, ys[i]? = some x → r w (fun b => b < w.heap.size ∧ b ≠ g) (fun j => cs[i * size + j]?) x) : Own size r w' base e (.slice (some ⟨g, 0, none⟩) ys.length cap) ys := by
  refine ⟨cs, ⟨hcs, .inr ⟨g, cap, _, rfl, hbg, hg, hnc, hcm, by simp; omega, by rw [← hcs]; simp⟩⟩, fun i x hx => ?_⟩
  refine s.more (fun b hb => ⟨Nat.lt_of_lt_of_le hb.1 hG.size, ?_⟩) (s.keep (fun p hp => World.cell?_of_block (hG.block p.block hp.1 (fun e => hp.2 (by injection e)))) (hr i x hx))
  simp [Value.ownBlock]
  exact fun e => hb.2 e.symm
end

/-- 'clear(s)', s the end of a row. -/
theorem run_clear_row {P : Program} (w : World) (t e ty : TypeId) (z : Value) (ht : P.underlying t = some (.slice e)) (hv : ∀ w, (zeroValue e).run P w = .ok z w) (h1 : ∀ u ∈ z.cells.toList, u.oneCell' = true) (g o n c : Nat) (hn : 0 < n) (cur : List Value) (tc : TypeId)
    (hg : w.heap[g]? = some (.cells cur.toArray tc (0, 0))) (ho : o + n * z.cells.size ≤ cur.length) :
    (Builtin.clear_ #[t] ty #[.slice (some ⟨g, o, none⟩) n c]).run P w = .ok (.tuple #[]) (w.setRow g (cur.take o ++ (Builtin.zeroCells z.cells n).toList ++ cur.drop (o + n * z.cells.size)).toArray) := by
  have hl : (Builtin.zeroCells z.cells n).toList.length = n * z.cells.size := by rw [Array.length_toList, size_zeroCells]
  have hst := run_storeCells_at (P := P) g o tc (Builtin.zeroCells z.cells n).toList 0 cur.toArray w hg (by rw [hl]; simpa using ho) (by
    intro v hv'
    simp only [Builtin.zeroCells, Array.toList_map, List.mem_map] at hv'
    obtain ⟨i, hi, rfl⟩ := hv'
    have hz : i % z.cells.size < z.cells.size := by
      rcases Nat.eq_zero_or_pos z.cells.size with h0 | h0
      · rw [h0] at hi; simp at hi
      · exact Nat.mod_lt _ h0
    rw [getElem!_pos z.cells _ hz]
    exact h1 _ (by rw [Array.mem_toList_iff]; exact Array.getElem_mem hz))
  rw [hl] at hst
  simp only [Nat.add_zero] at hst
  obtain ⟨m, rfl⟩ : ∃ m, n = m + 1 := ⟨n - 1, by omega⟩
  simp [Builtin.clear_, run_underlying ht, hv, hst]
end Go.Proofs.YtmiaplgfbphfmaaGreatDoor
namespace Go.Proofs.YtmiaplgfbphfmaaGreatDoor
open Go.RowKit

section
variable {α : Type} {size : Nat} {r : ERd α}

/-- What was read below B, read beside a slice of the call's own. -/
theorem ERd.beside {β : Type} {size' : Nat} {r' : ERd β} {w wr : World} {B base : Nat} {e : TypeId} {v : Value} {xs : List β} {f : Nat → Option Value} {y : α} (s : Stable size r) (h : r w (LT B) f y)
    (hb : Below B w wr) (hB : B ≤ base) (hs : B ≤ wr.heap.size) (ho : Own size' r' wr base e v xs) : r wr (fun b => b < wr.heap.size ∧ v.ownBlock ≠ some b) f y :=
  s.more (fun b hb' => ⟨Nat.lt_of_lt_of_le hb' hs, ho.far (Nat.lt_of_lt_of_le hb' hB)⟩) (s.keep (fun p hp => hb.cell hp) h)

theorem app1_pre {P : Program} {W0 W1 : World} {base e b : Nat} {news : List Value} {te : TypeId} {v : Value} {xs : List α} {y : α} {fr : Nat × Nat} (st : Stable size r)
    (hown : Own size r W0 base e v xs) (hf : Fr W0 W1) (hblk : W1.heap[b]? = some (.cells news.toArray te fr)) (hl : news.length = size)
    (hy : r W0 (fun b => b < W0.heap.size ∧ v.ownBlock ≠ some b) (fun j => news[j]?) y) :
    Own size r W1 base e v xs ∧ (∀ j u, news[j]? = some u → W1.cell? ((⟨b, 0, none⟩ : Addr).add j) = some u) ∧ (∀ i x, [y][i]? = some x → r W1 (fun b => b < W1.heap.size ∧ v.ownBlock ≠ some b) (fun j => news[i * size + j]?) x) := by
  refine ⟨hown.fr st hf, fun j u hu => ?_, fun i x hx => ?_⟩
  · rw [zero_add_addr, cell_of_heap hblk, List.getElem?_toArray]; exact hu
  · obtain rfl : i = 0 := by have := (List.getElem?_eq_some_iff.1 hx).1; simp at this; omega
    obtain rfl : y = x := by simpa using hx
    simp only [Nat.zero_mul, Nat.zero_add]
    exact st.more (fun b hb => ⟨Nat.lt_of_lt_of_le hb.1 hf.size, hb.2⟩) (st.keep (fun p hp => hf.cell hp.1) hy)

/-- 'append(v, y)' at a slice of the call's own; y's cells lie in a block of their own. W0: the world ahead of that block. -/
theorem wpList_app1 {P : Program} {W1 : World} {ops : Array Oper} {rest : List Oper} {o : Oper} {a : Act} {Q : Exit → Act → World → Prop} (hgd : o.guard = none) (s x : Operand) (t : TypeId)
    (ho : o.op = .call { callee := .builtin .append, args := #[s, x], argTypes := #[t, t] })
    (base : Nat) (e : TypeId) (z : Value) (bytes : Nat) (ht : P.underlying t = some (.slice e)) (hi : (P.info? e).map (fun i => (i.zero, i.size, i.bytes)) = some (some z, size, bytes))
    (hzs : z.cells.size = size) (hsz : 0 < size) (st : Stable size r)
    (W0 : World) (hf : Fr W0 W1) (v : Value) (xs : List α) (hs : a.eval s = v) (hown : Own size r W0 base e v xs)
    (b : Nat) (news : List Value) (te : TypeId) (fr : Nat × Nat) (hx : a.eval x = .slice (some ⟨b, 0, none⟩) 1 1) (hblk : W1.heap[b]? = some (.cells news.toArray te fr)) (hl : news.length = size) (h1 : ∀ u ∈ news, u.oneCell' = true)
    (y : α) (hy : r W0 (fun b => b < W0.heap.size ∧ v.ownBlock ≠ some b) (fun j => news[j]?) y)
    (h63 : xs.length + 1 ≤ maxLen) (hbytes : (xs.length + 1) * bytes ≤ lim) (B : Nat) (A0 : World) (hbel : Below B A0 W0) (hB : B ≤ base) (hbase : base ≤ W0.heap.size)
    (h : ∀ v' w', Hid (Own size r w' base e v' (xs ++ [y])) → Hid (Below B A0 w') → wpList P ops Q rest (a.put o.dst v') w') : wpList P ops Q (o :: rest) a W1 := by
  obtain ⟨q1, q2, q3⟩ := app1_pre (P := P) st hown hf hblk hl hy
  refine wpList_apps W1 hgd s x t ho base e z size bytes ht hi hzs hsz st v xs hs q1 ⟨b, 0, none⟩ 1 1 news hx (by rw [Nat.one_mul]; exact hl) q2 h1 [y] rfl q3 h63 hbytes (Nat.le_trans hbase hf.size) fun v' w' k1 k2 k3 => h v' w' k1 ?_
  exact (hbel.trans (hf.mono (Nat.le_trans hB hbase))).grown k2 (Nat.le_trans (Nat.le_trans hB hbase) hf.size) fun k hk => Nat.le_trans hB (k3 k hk)

/-- The same as a step of a region that draws its order. -/
theorem step_app1 {P : Program} {W1 : World} {ops : Array Oper} {o : Oper} {a : Act} {K : Act → World → Prop} {Q : Exit → Act → World → Prop} {E : Prop} (hgd : o.guard = none) (s x : Operand) (t : TypeId)
    (ho : o.op = .call { callee := .builtin .append, args := #[s, x], argTypes := #[t, t] })
    (base : Nat) (e : TypeId) (z : Value) (bytes : Nat) (ht : P.underlying t = some (.slice e)) (hi : (P.info? e).map (fun i => (i.zero, i.size, i.bytes)) = some (some z, size, bytes))
    (hzs : z.cells.size = size) (hsz : 0 < size) (st : Stable size r)
    (W0 : World) (hf : Fr W0 W1) (v : Value) (xs : List α) (hs : a.eval s = v) (hown : Own size r W0 base e v xs)
    (b : Nat) (news : List Value) (te : TypeId) (fr : Nat × Nat) (hx : a.eval x = .slice (some ⟨b, 0, none⟩) 1 1) (hblk : W1.heap[b]? = some (.cells news.toArray te fr)) (hl : news.length = size) (h1 : ∀ u ∈ news, u.oneCell' = true)
    (y : α) (hy : r W0 (fun b => b < W0.heap.size ∧ v.ownBlock ≠ some b) (fun j => news[j]?) y)
    (h63 : xs.length + 1 ≤ maxLen) (hbytes : (xs.length + 1) * bytes ≤ lim) (B : Nat) (A0 : World) (hbel : Below B A0 W0) (hB : B ≤ base) (hbase : base ≤ W0.heap.size)
    (h : ∀ v' w', Hid (Own size r w' base e v' (xs ++ [y])) → Hid (Below B A0 w') → K (a.put o.dst v') w') :
    if Region.wanted o (yielded ops a.tmps) = true then Oper.wp P o a W1 K Q else E := by
  obtain ⟨q1, q2, q3⟩ := app1_pre (P := P) st hown hf hblk hl hy
  refine step_apps hgd s x t ho base e z size bytes ht hi hzs hsz st v xs hs q1 ⟨b, 0, none⟩ 1 1 news hx (by rw [Nat.one_mul]; exact hl) q2 h1 [y] rfl q3 h63 hbytes (Nat.le_trans hbase hf.size) fun v' w' k1 k2 k3 => h v' w' k1 ?_
  exact (hbel.trans (hf.mono (Nat.le_trans hB hbase))).grown k2 (Nat.le_trans (Nat.le_trans hB hbase) hf.size) fun k hk => Nat.le_trans hB (k3 k hk)
end
end Go.Proofs.YtmiaplgfbphfmaaGreatDoor
namespace Go.Proofs.YtmiaplgfbphfmaaGreatDoor
open Go.RowKit

/-- Two readings, one behind the other. -/
def ePair {α β : Type} (s : Nat) (r : ERd α) (q : ERd β) : ERd (α × β) := fun w S f p => r w S f p.1 ∧ q w S (fun j => f (s + j)) p.2
/-- A reading under other names. -/
def eMap {α β : Type} (g : β → α) (r : ERd α) : ERd β := fun w S f x => r w S f (g x)

theorem Stable.pair {α β : Type} {a b : Nat} {r : ERd α} {q : ERd β} (h : Stable a r) (k : Stable b q) : Stable (a + b) (ePair a r q) where
  keep hk hx := ⟨h.keep hk hx.1, k.keep hk hx.2⟩
  more hS hx := ⟨h.more hS hx.1, k.more hS hx.2⟩
  mono hf hx := ⟨h.mono (fun j u hj => hf j u (by omega)) hx.1, k.mono (fun j u hj => hf (a + j) u (by omega)) hx.2⟩
theorem Full.pair {α β : Type} {a b : Nat} {r : ERd α} {q : ERd β} (h : Full a r) (k : Full b q) : Full (a + b) (ePair a r q) := fun hx j hj => by
  rcases Nat.lt_or_ge j a with h1 | h1
  · exact h hx.1 j h1
  · obtain ⟨u, hu, h2⟩ := k hx.2 (j - a) (by omega)
    exact ⟨u, by rw [← hu]; congr 1; omega, h2⟩
theorem Stable.map {α β : Type} {a : Nat} {r : ERd α} (g : β → α) (h : Stable a r) : Stable a (eMap g r) := ⟨fun hk hx => h.keep hk hx, fun hS hx => h.more hS hx, fun hf hx => h.mono hf hx⟩
theorem Full.map {α β : Type} {a : Nat} {r : ERd α} (g : β → α) (h : Full a r) : Full a (eMap g r) := fun hx j hj => h hx j hj

/-- Heads of bundles. -/
structure Hd where
  frm : Int
  seq : Int
  to : Int
  till : Int
  bytes : Int
  block : Int
deriving DecidableEq
def Hd.tup (h : Hd) : Int × Int × Int × Int × Int × Int := (h.frm, h.seq, h.to, h.till, h.bytes, h.block)
abbrev eHdT : ERd (Int × Int × Int × Int × Int × Int) := ePair 1 eInt (ePair 1 eInt (ePair 1 eInt (ePair 1 eInt (ePair 1 eInt eInt))))
def eHd : ERd Hd := eMap Hd.tup eHdT
theorem sHd : Stable 6 eHd := .map _ (sInt.pair (sInt.pair (sInt.pair (sInt.pair (sInt.pair sInt)))))
theorem fHd : Full 6 eHd := Full.map _ (fInt.pair (fInt.pair (fInt.pair (fInt.pair (fInt.pair fInt)))))
def Hd.wf (h : Hd) : Prop := wfI h.frm ∧ wfI h.seq ∧ wfI h.to ∧ wfI h.till ∧ wfI h.bytes ∧ wfI h.block

/-- Symbols. -/
structure Sm where
  id : Int
  data : List UInt8
deriving DecidableEq
def Sm.tup (s : Sm) : Int × List UInt8 := (s.id, s.data)
def eSm : ERd Sm := eMap Sm.tup (ePair 1 eInt eBlock)
theorem sSm : Stable 2 eSm := .map _ (sInt.pair wBlock)
theorem fSm : Full 2 eSm := Full.map _ (fInt.pair fSl)

/-- Frames. -/
structure Fm where
  kind : Int
  h : Hd
  s : Sm
  n : Int
  try_ : Int
deriving DecidableEq
def Fm.tup (f : Fm) : Int × Hd × Sm × Int × Int := (f.kind, f.h, f.s, f.n, f.try_)
def Fm.wf (f : Fm) : Prop := wfI f.kind ∧ f.h.wf ∧ wfI f.s.id ∧ wfI f.n ∧ wfI f.try_

/-- Mail. -/
structure Ml where
  frm : Int
  to : Int
  f : Fm
deriving DecidableEq
def Ml.tup (m : Ml) : Int × Int × Fm := (m.frm, m.to, m.f)
def Ml.wf (m : Ml) : Prop := wfI m.frm ∧ wfI m.to ∧ m.f.wf

/-- A slice of bytes that may be handed on. -/
def Byt (w : World) (S : Nat → Prop) (A : Option Addr) (n c : Nat) (l : List UInt8) : Prop := (n * 1 ≤ lim ∧ n ≤ c ∧ c ≤ maxLen) ∧ Sl 1 eByte w S A n l

theorem eHd_iff {w : World} {S : Nat → Prop} {f : Nat → Option Value} {h : Hd} : eHd w S f h ↔ (f 0 = some (.int .i64 h.frm) ∧ f 1 = some (.int .i64 h.seq) ∧ f 2 = some (.int .i64 h.to) ∧ f 3 = some (.int .i64 h.till) ∧ f 4 = some (.int .i64 h.bytes) ∧ f 5 = some (.int .i64 h.block)) ∧ h.wf := by
  simp only [eHd, eMap, Hd.tup, ePair, eInt, Hd.wf, Nat.add_zero, Nat.reduceAdd]
  constructor
  · rintro ⟨⟨a1, b1⟩, ⟨a2, b2⟩, ⟨a3, b3⟩, ⟨a4, b4⟩, ⟨a5, b5⟩, a6, b6⟩
    exact ⟨⟨a1, a2, a3, a4, a5, a6⟩, b1, b2, b3, b4, b5, b6⟩
  · rintro ⟨⟨a1, a2, a3, a4, a5, a6⟩, b1, b2, b3, b4, b5, b6⟩
    exact ⟨⟨a1, b1⟩, ⟨a2, b2⟩, ⟨a3, b3⟩, ⟨a4, b4⟩, ⟨a5, b5⟩, a6, b6⟩
theorem eSm_iff {w : World} {S : Nat → Prop} {f : Nat → Option Value} {s : Sm} : eSm w S f s ↔ ∃ A n c, (f 0 = some (.int .i64 s.id) ∧ f 1 = some (.slice A n c)) ∧ wfI s.id ∧ Byt w S A n c s.data := by
  simp only [eSm, eMap, Sm.tup, ePair, eInt, eBlock, eSl, Nat.add_zero, Byt]
  constructor
  · rintro ⟨⟨a1, b1⟩, A, n, c, a2, b2, b3⟩
    exact ⟨A, n, c, ⟨a1, a2⟩, b1, b2, b3⟩
  · rintro ⟨A, n, c, ⟨a1, a2⟩, b1, b2, b3⟩
    exact ⟨⟨a1, b1⟩, A, n, c, a2, b2, b3⟩
/-- The k-th element, of however many cells. -/
theorem Els.row {α : Type} {size : Nat} {r : ERd α} {w : World} {S : Nat → Prop} {n : Nat} {ad : Addr} {xs : List α} (h : Els size r w S ad n xs) {k : Nat} (hk : k < n) : ∃ x, xs[k]? = some x ∧ r w S (fun j => w.cell? ((ad.add (k * size)).add j)) x := by
  obtain ⟨x, hx, hr⟩ := h.at_ hk
  refine ⟨x, hx, ?_⟩
  have e : (fun j => w.cell? ((ad.add (k * size)).add j)) = fun j => w.cell? (ad.add (k * size + j)) := funext fun j => by rw [add_of_add]
  rw [e]; exact hr
theorem Byt.go {w w' : World} {A : Option Addr} {n c : Nat} {l : List UInt8} (h : Byt w (LT w.heap.size) A n c l) (hb : Fr w w') : Byt w' (LT w'.heap.size) A n c l := ⟨h.1, h.2.go sByte hb⟩
theorem blk_LT {w : World} {g : Nat} {o : Obj} (h : w.heap[g]? = some o) : LT w.heap.size g := (Array.getElem?_eq_some_iff.1 h).1
end Go.Proofs.YtmiaplgfbphfmaaGreatDoor
