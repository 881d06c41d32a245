/- A known block's cells, all set: what grew. No condition. -/
import Derived.Test.YtmiaplgfbphfmaaGreatDoorMPB
import Derived.Below
import Derived.Test.YtmiaplgfbphfmaaGreatDoorMPP
import Derived.Test.YtmiaplgfbphfmaaGreatDoorMPI
import Derived.Deep.RegionWith
import Derived.Deep.RegionHeld3
import Derived.StillTailTactics
set_option linter.unusedSimpArgs false
set_option linter.unusedVariables false
namespace Go.Proofs.YtmiaplgfbphfmaaGreatDoor
open Go.RowKit
attribute [local irreducible] wpList

def idxAux {α : Type} [DecidableEq α] (x : α) : List α → Nat → Int
  | [], _ => -1
  | y :: l, k => if x = y then (k : Int) else idxAux x l (k + 1)
/-- Where it stands first; -1: nowhere. -/
def idxF {α : Type} [DecidableEq α] (x : α) (l : List α) : Int := idxAux x l 0
theorem idxAux_drop {α : Type} [DecidableEq α] {x y : α} {l : List α} {k : Nat} (h : l[k]? = some y) : idxAux x (l.drop k) k = if x = y then (k : Int) else idxAux x (l.drop (k + 1)) (k + 1) := by
  rw [drop_cons h]; rfl
theorem idxAux_spec {α : Type} [DecidableEq α] (x : α) : ∀ (l : List α) (k : Nat), (idxAux x l k = -1 ∧ x ∉ l) ∨ (∃ j : Nat, idxAux x l k = ((k + j : Nat) : Int) ∧ l[j]? = some x ∧ ∀ i, i < j → l[i]? ≠ some x)
  | [], k => .inl ⟨rfl, by simp⟩
  | y :: l, k => by
    unfold idxAux
    by_cases h : x = y
    · subst h
      exact .inr ⟨0, by rw [if_pos rfl]; simp, rfl, fun i hi => by omega⟩
    · rw [if_neg h]
      rcases idxAux_spec x l (k + 1) with ⟨h1, h2⟩ | ⟨j, h1, h2, h3⟩
      · exact .inl ⟨h1, by simp [h, h2]⟩
      · refine .inr ⟨j + 1, by rw [h1]; congr 1; omega, by simpa using h2, fun i hi => ?_⟩
        cases i with
        | zero => simpa using fun e => h e.symm
        | succ i => simpa using h3 i (by omega)
theorem idxF_spec {α : Type} [DecidableEq α] (x : α) (l : List α) : (idxF x l = -1 ∧ x ∉ l) ∨ (∃ j : Nat, idxF x l = (j : Int) ∧ l[j]? = some x ∧ ∀ i, i < j → l[i]? ≠ some x) := by
  rcases idxAux_spec x l 0 with h | ⟨j, h1, h2⟩
  · exact .inl h
  · exact .inr ⟨j, by unfold idxF; rw [h1]; simp, h2⟩
theorem idxF_ge {α : Type} [DecidableEq α] (x : α) (l : List α) : decide (0 ≤ idxF x l) = decide (x ∈ l) := by
  rcases idxF_spec x l with ⟨h1, h2⟩ | ⟨j, h1, h2, _⟩
  · rw [h1]; simp [h2]
  · rw [h1]
    have := List.mem_of_getElem? h2
    simp [this]
theorem idxF_bd {α : Type} [DecidableEq α] (x : α) (l : List α) : -1 ≤ idxF x l ∧ idxF x l < (l.length : Int) := by
  rcases idxF_spec x l with ⟨h1, h2⟩ | ⟨j, h1, h2, _⟩
  · rw [h1]; omega
  · rw [h1]
    have := (List.getElem?_eq_some_iff.1 h2).1
    omega

set_option maxHeartbeats 400000 in
theorem indexBool_any (w : World) (S : Nat → Prop) (A : Option Addr) (n c : Nat) (xs : List Bool) (h : Sl 1 eBool w S A n xs) (hm : n ≤ maxLen) :
    Calls Tryz.prog 214 #[.slice A n c, .bool true] w fun e w' => e = .returned (.int .i64 (idxF true xs)) ∧ w = w' := by
  unfold maxLen at hm
  have H := Lib.hid h
  clear h
  go_enter Tryz.func214, Tryz.ntmps214
  go_wp2_with fail
  go_loop [8] (fun i => ∃ k : Nat, k ≤ n ∧ i = .int .i64 k ∧ Hid (idxF true xs = idxAux true (xs.drop k) k)) (fun i => n - (intOf i).toNat)
  case atStart => exact ⟨0, Nat.zero_le _, rfl, rfl⟩
  case round =>
    obtain ⟨k, hk, rfl, HS⟩ := hrel
    by_cases hlt : k < n
    · obtain ⟨ad, rfl, hE⟩ := H.out.els (by omega)
      obtain ⟨b, hb, hc⟩ := hE.bool hlt
      have HS' : Hid (idxF true xs = if true = b then (k : Int) else idxAux true (xs.drop (k + 1)) (k + 1)) := by rw [Hid, HS.out, idxAux_drop hb]
      clear HS hb hE
      cases b with
      | true =>
        have HR : Hid (idxF true xs = (k : Int)) := by rw [Hid, HS'.out, if_pos rfl]
        clear HS'
        go_wp2_with fail
        go_ret
        exact ⟨retI HR.out.symm, rfl⟩
      | false =>
        have HR : Hid (idxF true xs = idxAux true (xs.drop (k + 1)) (k + 1)) := by rw [Hid, HS'.out, if_neg (by simp)]
        clear HS'
        go_wp2_with fail
        go_round
        case rel => exact ⟨k + 1, by omega, by go_num, HR⟩
        case measure => simp [intOf]; omega
    · have HF : Hid (idxF true xs = -1) := by
        have h1 := H.out.1
        rw [Hid, HS.out, List.drop_eq_nil_of_le (by omega)]; rfl
      go_wp2_with fail
      go_ret
      exact ⟨retI HF.out.symm, rfl⟩
theorem containsBool_any (w : World) (S : Nat → Prop) (A : Option Addr) (n c : Nat) (xs : List Bool) (h : Sl 1 eBool w S A n xs) (hm : n ≤ maxLen) :
    Calls Tryz.prog 193 #[.slice A n c, .bool true] w fun e w' => e = .returned (.bool (decide (true ∈ xs))) ∧ w = w' := by
  have E := Lib.hid (idxF_ge true xs)
  have H := Lib.hid h
  clear h
  go_enter Tryz.func193, Tryz.ntmps193
  go_wp2_with fail
  refine (indexBool_any _ S _ _ _ xs H.out hm).mono ?_
  rintro e w' ⟨rfl, rfl⟩
  go_wp2_with fail
  go_ret
  exact ⟨retB E.out, rfl⟩
end Go.Proofs.YtmiaplgfbphfmaaGreatDoor
namespace Go.Proofs.YtmiaplgfbphfmaaGreatDoor
open Go.RowKit
attribute [local irreducible] wpList

structure Rw where
  has : List Bool
  data : List UInt8
deriving DecidableEq
def Rw.tup (r : Rw) : List Bool × List UInt8 := (r.has, r.data)
abbrev eBools : ERd (List Bool) := eSl 1 1 eBool
theorem wBools : Stable 1 eBools := sSl sBool
def eRw : ERd Rw := eMap Rw.tup (ePair 1 eBools eBlock)
theorem sRw : Stable 2 eRw := .map _ (wBools.pair wBlock)
theorem fRw : Full 2 eRw := Full.map _ (fSl.pair fSl)
/-- Bools, read, of a right length. -/
def Bol (w : World) (S : Nat → Prop) (A : Option Addr) (n c : Nat) (l : List Bool) : Prop := (n * 1 ≤ lim ∧ n ≤ c ∧ c ≤ maxLen) ∧ Sl 1 eBool w S A n l
theorem Bol.go {w w' : World} {A : Option Addr} {n c : Nat} {l : List Bool} (h : Bol w (LT w.heap.size) A n c l) (hb : Fr w w') : Bol w' (LT w'.heap.size) A n c l := ⟨h.1, h.2.go sBool hb⟩
theorem eRw_iff {w : World} {S : Nat → Prop} {f : Nat → Option Value} {x : Rw} : eRw w S f x ↔ ∃ A n c A2 n2 c2, (f 0 = some (.slice A n c) ∧ f 1 = some (.slice A2 n2 c2)) ∧ Bol w S A n c x.has ∧ Byt w S A2 n2 c2 x.data := by
  unfold eRw eMap Rw.tup ePair
  constructor
  · rintro ⟨⟨A, n, c, h1, h2, h3⟩, A2, n2, c2, h4, h5, h6⟩
    exact ⟨A, n, c, A2, n2, c2, ⟨h1, h4⟩, ⟨h2, h3⟩, h5, h6⟩
  · rintro ⟨A, n, c, A2, n2, c2, ⟨h1, h4⟩, ⟨h2, h3⟩, h5, h6⟩
    exact ⟨⟨A, n, c, h1, h2, h3⟩, A2, n2, c2, h4, h5, h6⟩
theorem eRw_at {w : World} {S : Nat → Prop} {q : Addr} {x : Rw} (h : eRw w S (fun j => w.cell? (q.add j)) x) : ∃ A n c A2 n2 c2, (w.cell? q = some (.slice A n c) ∧ w.cell? ⟨q.block, q.off + 1, none⟩ = some (.slice A2 n2 c2)) ∧ Bol w S A n c x.has ∧ Byt w S A2 n2 c2 x.data := by
  obtain ⟨A, n, c, A2, n2, c2, ⟨h1, h2⟩, h3⟩ := eRw_iff.1 h
  refine ⟨A, n, c, A2, n2, c2, ⟨by simpa [Addr.add] using h1, ?_⟩, h3⟩
  simpa [Addr.add] using h2

def Rw.fst (r : Rw) : Int := idxF true r.has
def lastOf (rows : List Rw) : Nat → Int
  | 0 => -1
  | i + 1 => match rows[i]? with
    | some q => q.fst
    | none => -1
theorem fst_ge (r : Rw) : -1 ≤ r.fst := (idxF_bd true r.has).1
theorem lastOf_ge (rows : List Rw) : ∀ i, -1 ≤ lastOf rows i
  | 0 => Int.le_refl _
  | i + 1 => by
    simp only [lastOf]
    split
    · exact fst_ge _
    · exact Int.le_refl _
theorem lastOf_succ {rows : List Rw} {i : Nat} {r : Rw} (h : rows[i]? = some r) : lastOf rows (i + 1) = r.fst := by simp only [lastOf, h]
/-- Is a row right, at its place? -/
structure RowOk (B K : Int) (rows : List Rw) (i : Nat) (r : Rw) : Prop where
  has : (r.has.length : Int) = B
  data : (r.data.length : Int) = K
  up : lastOf rows i < r.fst
  alone : ∀ (j : Nat) (o : Rw), j ≠ i → rows[j]? = some o → o.has.getD r.fst.toNat false = false
def RowsOk (B K : Int) (rows : List Rw) : Prop := ∀ (i : Nat) (r : Rw), rows[i]? = some r → RowOk B K rows i r
def rowOkB (B K : Int) (rows : List Rw) (i : Nat) (r : Rw) : Bool :=
  decide ((r.has.length : Int) = B) && decide ((r.data.length : Int) = K) && decide (lastOf rows i < r.fst) && (List.range rows.length).all fun j => decide (j = i) || !((rows.getD j ⟨[], []⟩).has.getD r.fst.toNat false)
def rowsOkB (B K : Int) (rows : List Rw) : Bool := (List.range rows.length).all fun i => rowOkB B K rows i (rows.getD i ⟨[], []⟩)
theorem rowOkB_iff {B K : Int} {rows : List Rw} {i : Nat} {r : Rw} : rowOkB B K rows i r = true ↔ RowOk B K rows i r := by
  unfold rowOkB
  simp only [Bool.and_eq_true, decide_eq_true_eq, List.all_eq_true, List.mem_range, Bool.or_eq_true, Bool.not_eq_true']
  constructor
  · rintro ⟨⟨⟨h1, h2⟩, h3⟩, h4⟩
    refine ⟨h1, h2, h3, fun j o hj ho => ?_⟩
    have hl := (List.getElem?_eq_some_iff.1 ho).1
    rcases h4 j hl with h | h
    · exact absurd h hj
    · rw [show rows.getD j ⟨[], []⟩ = o by rw [List.getD_eq_getElem?_getD, ho]; rfl] at h; exact h
  · rintro ⟨h1, h2, h3, h4⟩
    refine ⟨⟨⟨h1, h2⟩, h3⟩, fun j hj => ?_⟩
    by_cases e : j = i
    · exact .inl e
    · refine .inr ?_
      rw [show rows.getD j ⟨[], []⟩ = rows[j] by rw [List.getD_eq_getElem?_getD, List.getElem?_eq_getElem hj]; rfl]
      exact h4 j _ e (List.getElem?_eq_getElem hj)
theorem rowsOkB_iff {B K : Int} {rows : List Rw} : rowsOkB B K rows = true ↔ RowsOk B K rows := by
  unfold rowsOkB RowsOk
  simp only [List.all_eq_true, List.mem_range]
  constructor
  · intro h i r hr
    have hl := (List.getElem?_eq_some_iff.1 hr).1
    have := h i hl
    rw [show rows.getD i ⟨[], []⟩ = r by rw [List.getD_eq_getElem?_getD, hr]; rfl] at this
    exact rowOkB_iff.1 this
  · intro h i hi
    rw [rowOkB_iff, show rows.getD i ⟨[], []⟩ = rows[i] by rw [List.getD_eq_getElem?_getD, List.getElem?_eq_getElem hi]; rfl]
    exact h i _ (List.getElem?_eq_getElem hi)
/-- What solve.Check answers. -/
def sysCheck (B K : Int) (rows : List Rw) : Int :=
  if B < 1 ∨ 24 < B ∨ K < 1 ∨ 16 < K then 3 else if B < (rows.length : Int) then 2 else if rowsOkB B K rows then 0 else 4
theorem sysCheck_bad {B K : Int} {rows : List Rw} (h1 : ¬ (B < 1 ∨ 24 < B ∨ K < 1 ∨ 16 < K)) (h2 : ¬ B < (rows.length : Int)) {i : Nat} {r : Rw} (hr : rows[i]? = some r) (h : ¬ RowOk B K rows i r) : sysCheck B K rows = 4 := by
  unfold sysCheck
  rw [if_neg h1, if_neg h2, if_neg]
  intro e
  exact h (rowsOkB_iff.1 e i r hr)
theorem sysCheck_good {B K : Int} {rows : List Rw} (h1 : ¬ (B < 1 ∨ 24 < B ∨ K < 1 ∨ 16 < K)) (h2 : ¬ B < (rows.length : Int)) (h : RowsOk B K rows) : sysCheck B K rows = 0 := by
  unfold sysCheck
  rw [if_neg h1, if_neg h2, if_pos (rowsOkB_iff.2 h)]
theorem sysCheck_ok {B K : Int} {rows : List Rw} (h : sysCheck B K rows = 0) : (1 ≤ B ∧ B ≤ 24) ∧ (1 ≤ K ∧ K ≤ 16) ∧ (rows.length : Int) ≤ B ∧ RowsOk B K rows := by
  unfold sysCheck at h
  split at h
  · cases h
  · split at h
    · cases h
    · split at h
      · rename_i h1 h2 h3
        exact ⟨by omega, by omega, by omega, rowsOkB_iff.1 h3⟩
      · cases h

theorem first_any (w : World) (A A2 : Option Addr) (n c n2 c2 : Nat) (xs : List Bool) (h : Sl 1 eBool w (LT w.heap.size) A n xs) (hm : n ≤ maxLen) :
    Calls Tryz.prog 188 #[.agg #[.slice A n c, .slice A2 n2 c2]] w fun e w' => e = .returned (.int .i64 (idxF true xs)) ∧ Fr w w' := by
  have H := Lib.hid (h.go sBool (frAlloc w (.cells #[.slice A n c, .slice A2 n2 c2] 242)))
  clear h
  go_enter Tryz.func188, Tryz.ntmps188
  go_wp2_with fail
  (with_reducible refine (indexBool_any _ _ _ _ _ xs H.out hm).mono ?_)
  rintro e w' ⟨rfl, rfl⟩
  go_wp2_with fail
  go_ret
  exact ⟨rfl, frAlloc _ _⟩
end Go.Proofs.YtmiaplgfbphfmaaGreatDoor
namespace Go.Proofs.YtmiaplgfbphfmaaGreatDoor
open Go.RowKit

/-- Only the blocks S have changed, of those that were. -/
structure Chg (S : Nat → Prop) (w w' : World) : Prop where
  os : w'.os = w.os
  tape : w'.tape = w.tape
  output : w'.output = w.output
  size : w.heap.size ≤ w'.heap.size
  block : ∀ k, k < w.heap.size → ¬ S k → w'.heap[k]? = w.heap[k]?
theorem Chg.refl (S : Nat → Prop) (w : World) : Chg S w w := ⟨rfl, rfl, rfl, Nat.le_refl _, fun _ _ _ => rfl⟩
theorem Chg.trans {S : Nat → Prop} {a b c : World} (h : Chg S a b) (k : Chg S b c) : Chg S a c :=
  ⟨k.os.trans h.os, k.tape.trans h.tape, k.output.trans h.output, Nat.le_trans h.size k.size, fun i hi hs => (k.block i (Nat.lt_of_lt_of_le hi h.size) hs).trans (h.block i hi hs)⟩
theorem Chg.drew {S : Nat → Prop} {a b : World} (h : Chg S a b) : Chg S a b.drew := ⟨h.os, h.tape, h.output, h.size, h.block⟩
theorem Chg.drewN {S : Nat → Prop} {a b : World} (h : Chg S a b) (n : Nat) : Chg S a (b.drewN n) := ⟨h.os, h.tape, h.output, h.size, h.block⟩
theorem Chg.more {S T : Nat → Prop} {a b : World} (h : Chg S a b) (hs : ∀ k, S k → T k) : Chg T a b := ⟨h.os, h.tape, h.output, h.size, fun k hk ht => h.block k hk fun e => ht (hs k e)⟩
theorem Fr.chg {S : Nat → Prop} {a b : World} (h : Fr a b) : Chg S a b := ⟨h.os, h.tape, h.output, h.size, fun k hk _ => h.block k hk⟩
theorem Chg.of {a b : World} {g : Nat} (h : a.grownBy b (some g)) : Chg (fun x => x = g) a b := ⟨h.os, h.tape, h.output, h.size, fun k hk hs => h.block k hk fun e => hs (Option.some.inj e)⟩
theorem Chg.fr {S : Nat → Prop} {W a b : World} (h : Fr W a) (k : Chg S a b) (hs : ∀ x, S x → W.heap.size ≤ x) : Fr W b :=
  ⟨k.os.trans h.os, k.tape.trans h.tape, k.output.trans h.output, Nat.le_trans h.size k.size, fun i hi => (k.block i (Nat.lt_of_lt_of_le hi h.size) fun e => by have := hs i e; omega).trans (h.block i hi)⟩
theorem Chg.set {S : Nat → Prop} {a w : World} (h : Chg S a w) {p : Addr} (hp : S p.block) (u : Value) : Chg S a (w.setCell p u) :=
  ⟨h.os, h.tape, h.output, by rw [size_setCell]; exact h.size, fun k hk hs => by
    have : p.block ≠ k := fun e => hs (e ▸ hp)
    rw [← h.block k hk hs]
    simp [World.setCell, Array.getElem?_modify, this]⟩
theorem Chg.cell {S : Nat → Prop} {a b : World} (h : Chg S a b) {p : Addr} (hp : p.block < a.heap.size) (hs : ¬ S p.block) : b.cell? p = a.cell? p := World.cell?_of_block (h.block p.block hp hs)
theorem Chg.blk {S : Nat → Prop} {a b : World} (h : Chg S a b) {g : Nat} {o : Obj} (hg : a.heap[g]? = some o) (hs : ¬ S g) : b.heap[g]? = some o := (h.block g (Array.getElem?_eq_some_iff.1 hg).1 hs).trans hg
theorem Sl.chg {α : Type} {size : Nat} {r : ERd α} {S T : Nat → Prop} {w w' : World} {A : Option Addr} {n : Nat} {xs : List α} (s : Stable size r) (h : Sl size r w T A n xs) (k : Chg S w w') (hd : ∀ b, T b → b < w.heap.size ∧ ¬ S b) : Sl size r w' T A n xs :=
  h.keep s fun p hp => k.cell (hd _ hp).1 (hd _ hp).2

theorem set2_far {w : World} {g i j q o : Nat} {a b : Value} (h : g ≠ q) : ((w.setCell ⟨g, i, none⟩ a).setCell ⟨g, j, none⟩ b).cell? ⟨q, o, none⟩ = w.cell? ⟨q, o, none⟩ := by
  rw [World.cell?_setCell_other _ _ _ _ (fun e => by injection e with e; exact h e), World.cell?_setCell_other _ _ _ _ (fun e => by injection e with e; exact h e)]

/-- A block whose first cells are the list's. -/
def Blk {α : Type} (en : α → Value) (w : World) (e : TypeId) (g : Nat) (l : List α) : Prop := ∃ rest : List Value, w.heap[g]? = some (.cells (l.map en ++ rest).toArray e (0, 0))
section
variable {α : Type} {en : α → Value} {w w' : World} {e : TypeId} {g i : Nat} {l : List α} {x : α}
theorem Blk.lt (h : Blk en w e g l) : g < w.heap.size := by obtain ⟨_, h⟩ := h; exact (Array.getElem?_eq_some_iff.1 h).1
theorem Blk.cell (h : Blk en w e g l) (hi : l[i]? = some x) : w.cell? ⟨g, i, none⟩ = some (en x) := by
  obtain ⟨rest, h⟩ := h
  have hl := (List.getElem?_eq_some_iff.1 hi).1
  rw [cell_of_heap h, List.getElem?_toArray, List.getElem?_append_left (by simpa using hl)]
  simp [hi]
theorem Blk.free (h : Blk en w e g l) : w.frozen? ⟨g, i, none⟩ = false := by obtain ⟨rest, h⟩ := h; exact blk_free h
theorem Blk.set (h : Blk en w e g l) (hi : i < l.length) (y : α) : Blk en (w.setCell ⟨g, i, none⟩ (en y)) e g (l.set i y) := by
  obtain ⟨rest, h⟩ := h
  refine ⟨rest, ?_⟩
  have : (w.setCell ⟨g, i, none⟩ (en y)).heap[g]? = some (.cells ((l.map en ++ rest).set i (en y)).toArray e (0, 0)) := by
    simp [World.setCell, Array.getElem?_modify, h]
  rw [this, List.set_append_left _ _ (by simpa using hi), List.map_set]
theorem Blk.chg {S : Nat → Prop} (h : Blk en w e g l) (k : Chg S w w') (hs : ¬ S g) : Blk en w' e g l := by
  obtain ⟨rest, h⟩ := h
  exact ⟨rest, k.blk h hs⟩
theorem Blk.fr (h : Blk en w e g l) (k : Fr w w') : Blk en w' e g l := by
  obtain ⟨rest, h⟩ := h
  exact ⟨rest, blk_go h k⟩
end
theorem Blk.bools {w : World} {e : TypeId} {g : Nat} {l : List Bool} {S : Nat → Prop} (h : Blk Value.bool w e g l) (hS : S g) : Sl 1 eBool w S (some ⟨g, 0, none⟩) l.length l :=
  ⟨rfl, fun _ => ⟨_, rfl, hS, fun i x hx => by
    show w.cell? ((⟨g, 0, none⟩ : Addr).add (i * 1 + 0)) = _
    rw [zero_add_addr]
    simpa using h.cell hx⟩⟩
theorem Blk.bytes {w : World} {e : TypeId} {g : Nat} {l : List UInt8} {S : Nat → Prop} (h : Blk bV w e g l) (hS : S g) : Sl 1 eByte w S (some ⟨g, 0, none⟩) l.length l :=
  ⟨rfl, fun _ => ⟨_, rfl, hS, fun i x hx => by
    show w.cell? ((⟨g, 0, none⟩ : Addr).add (i * 1 + 0)) = _
    rw [zero_add_addr]
    simpa [bV] using h.cell hx⟩⟩
/-- A reading off the blocks below N. -/
def eLow {α : Type} (N : Nat) (r : ERd α) : ERd α := fun w S f x => r w (fun b => S b ∧ b < N) f x
theorem Stable.low {α : Type} {size : Nat} {r : ERd α} (s : Stable size r) (N : Nat) : Stable size (eLow N r) :=
  ⟨fun hk h => s.keep (fun p hp => hk p hp.1) h, fun hB h => s.more (fun b hb => ⟨hB b hb.1, hb.2⟩) h, fun hf h => s.mono hf h⟩
theorem Full.low {α : Type} {size : Nat} {r : ERd α} (F : Full size r) (N : Nat) : Full size (eLow N r) := fun h j hj => F h j hj
theorem Sl.low {α : Type} {size : Nat} {r : ERd α} {w w' : World} {A : Option Addr} {n : Nat} {xs : List α} (s : Stable size r) (h : Sl size r w (LT w.heap.size) A n xs) (hb : Fr w w') : Sl size (eLow w.heap.size r) w' (LT w'.heap.size) A n xs := by
  refine ⟨h.1, fun hn => ?_⟩
  obtain ⟨ad, e, hS, hr⟩ := h.2 hn
  refine ⟨ad, e, Nat.lt_of_lt_of_le hS hb.size, fun i x hx => ?_⟩
  have h1 := s.more (S' := fun b => LT w'.heap.size b ∧ b < w.heap.size) (fun b hb' => ⟨Nat.lt_of_lt_of_le hb' hb.size, hb'⟩) (s.keep (w' := w') (fun p hp => hb.cell hp) (hr i x hx))
  have e2 : (fun j => w.cell? (ad.add (i * size + j))) = fun j => w'.cell? (ad.add (i * size + j)) := funext fun j => (hb.cell (by rw [block_of_add]; exact hS)).symm
  rw [e2] at h1
  exact h1
/-- A reading off the blocks from N on. -/
def eHi {α : Type} (N : Nat) (r : ERd α) : ERd α := fun w S f x => r w (fun b => S b ∧ N ≤ b) f x
theorem Stable.hi {α : Type} {size : Nat} {r : ERd α} (s : Stable size r) (N : Nat) : Stable size (eHi N r) :=
  ⟨fun hk h => s.keep (fun p hp => hk p hp.1) h, fun hB h => s.more (fun b hb => ⟨hB b hb.1, hb.2⟩) h, fun hf h => s.mono hf h⟩
theorem Full.hi {α : Type} {size : Nat} {r : ERd α} (F : Full size r) (N : Nat) : Full size (eHi N r) := fun h j hj => F h j hj
theorem Own.ofHi {α : Type} {size N : Nat} {r : ERd α} {w : World} {base : Nat} {e : TypeId} {v : Value} {xs : List α} (s : Stable size r) (h : Own size (eHi N r) w base e v xs) : Own size r w base e v xs := by
  obtain ⟨cs, ho, hr⟩ := h
  exact ⟨cs, ho, fun i x hx => s.more (fun b hb => hb.1) (hr i x hx)⟩
/-- Stores below turn nothing of what lies above. -/
theorem Own.hiChg {α : Type} {size base : Nat} {r : ERd α} {w w' : World} {e : TypeId} {v : Value} {xs : List α} {S : Nat → Prop} (s : Stable size r) (h : Own size (eHi base r) w base e v xs) (k : Chg S w w') (hS : ∀ b, S b → b < base) : Own size (eHi base r) w' base e v xs := by
  obtain ⟨cs, ho, hr⟩ := h
  refine ⟨cs, ⟨ho.1, ?_⟩, fun i x hx => ?_⟩
  · rcases ho.2 with h0 | ⟨g, cap, cur, h1, h2, h3, h4⟩
    · exact .inl h0
    · exact .inr ⟨g, cap, cur, h1, h2, k.blk h3 (fun e => by have := hS g e; omega), h4⟩
  · exact s.more (fun b hb => ⟨⟨Nat.lt_of_lt_of_le hb.1.1 k.size, hb.1.2⟩, hb.2⟩) (s.keep (fun p hp => k.cell hp.1.1 fun e => by have := hS _ e; have := hp.2; omega) (hr i x hx))
/-- As a slice of new blocks. -/
theorem Own.toNw {α : Type} {size base : Nat} {r : ERd α} {w : World} {e : TypeId} {v : Value} {xs : List α} (s : Stable size r) (h : Own size (eHi base r) w base e v xs) : ∃ A c, v = .slice A xs.length c ∧ (xs.length ≤ c ∧ c ≤ maxLen) ∧ Sl size r w (NW base w.heap.size) A xs.length xs := by
  obtain ⟨cs, ho, hr⟩ := h
  rcases ho.2 with ⟨rfl, h0⟩ | ⟨g, cap, cur, rfl, hbg, hg, hnc, hcm, hcs, htake⟩
  · exact ⟨none, 0, by rw [h0], ⟨by omega, by unfold maxLen; omega⟩, rfl, fun hn => by omega⟩
  · refine ⟨some ⟨g, 0, none⟩, cap, rfl, ⟨hnc, hcm⟩, rfl, fun hn => ⟨_, rfl, ⟨hbg, (Array.getElem?_eq_some_iff.1 hg).1⟩, fun i x hx => ?_⟩⟩
    refine s.mono (fun j u hj hu => ?_) (s.more (fun b hb => ⟨hb.2, hb.1.1⟩) (hr i x hx))
    rw [zero_add_addr, cell_of_heap hg]
    rw [← htake, List.getElem?_take] at hu
    split at hu
    · simpa using hu
    · cases hu
end Go.Proofs.YtmiaplgfbphfmaaGreatDoor
namespace Go.Proofs.YtmiaplgfbphfmaaGreatDoor

/-- A row without an end: which blocks, what data. -/
structure Vc where
  h : Nat → Bool
  d : Nat → UInt8
theorem Vc.ext' {a b : Vc} (h1 : ∀ i, a.h i = b.h i) (h2 : ∀ i, a.d i = b.d i) : a = b := by
  cases a; cases b
  congr
  · exact funext h1
  · exact funext h2
def Vc.zero : Vc := ⟨fun _ => false, fun _ => 0⟩
instance : Add Vc := ⟨fun a b => ⟨fun i => a.h i ^^ b.h i, fun i => a.d i ^^^ b.d i⟩⟩
theorem Vc.add_h (a b : Vc) (i : Nat) : (a + b).h i = (a.h i ^^ b.h i) := rfl
theorem Vc.add_d (a b : Vc) (i : Nat) : (a + b).d i = (a.d i ^^^ b.d i) := rfl
theorem Vc.comm (a b : Vc) : a + b = b + a := Vc.ext' (fun i => by simp only [Vc.add_h, Bool.xor_comm]) (fun i => by simp only [Vc.add_d, UInt8.xor_comm])
theorem Vc.assoc (a b c : Vc) : a + b + c = a + (b + c) := Vc.ext' (fun i => by simp only [Vc.add_h, Bool.xor_assoc]) (fun i => by simp only [Vc.add_d, UInt8.xor_assoc])
instance : Std.Commutative (α := Vc) (· + ·) := ⟨Vc.comm⟩
instance : Std.Associative (α := Vc) (· + ·) := ⟨Vc.assoc⟩
theorem Vc.self (a : Vc) : a + a = Vc.zero := Vc.ext' (fun i => by simp [Vc.add_h, Vc.zero]) (fun i => by simp [Vc.add_d, Vc.zero])
theorem Vc.zero_add (a : Vc) : Vc.zero + a = a := Vc.ext' (fun i => by simp [Vc.add_h, Vc.zero]) (fun i => by simp [Vc.add_d, Vc.zero])
theorem Vc.add_zero (a : Vc) : a + Vc.zero = a := by rw [Vc.comm, Vc.zero_add]
theorem Vc.cancel (a b : Vc) : a + (a + b) = b := by rw [← Vc.assoc, Vc.self, Vc.zero_add]
theorem Vc.eq_of_add {a b : Vc} (h : a + b = Vc.zero) : a = b := by
  have := Vc.cancel a b
  rw [h, Vc.add_zero] at this
  exact this

/-- What some rows span. -/
inductive Span (G : Vc → Prop) : Vc → Prop
  | zero : Span G Vc.zero
  | add {g v : Vc} : G g → Span G v → Span G (g + v)
theorem Span.of {G : Vc → Prop} {g : Vc} (h : G g) : Span G g := by
  have := Span.add h Span.zero
  rwa [Vc.add_zero] at this
theorem Span.plus {G : Vc → Prop} {u v : Vc} (h : Span G u) (k : Span G v) : Span G (u + v) := by
  induction h with
  | zero => rwa [Vc.zero_add]
  | add hg _ ih => rw [Vc.assoc]; exact .add hg ih
theorem Span.le {G H : Vc → Prop} (hg : ∀ g, G g → Span H g) {v : Vc} (h : Span G v) : Span H v := by
  induction h with
  | zero => exact .zero
  | add h _ ih => exact (hg _ h).plus ih
theorem Span.mono {G H : Vc → Prop} (hg : ∀ g, G g → H g) {v : Vc} (h : Span G v) : Span H v := h.le fun g k => .of (hg g k)
/-- What holds of all rows, and of sums, holds of all that they span. -/
theorem Span.all {G : Vc → Prop} {P : Vc → Prop} (h0 : P Vc.zero) (ha : ∀ u v, P u → P v → P (u + v)) (hg : ∀ g, G g → P g) {v : Vc} (h : Span G v) : P v := by
  induction h with
  | zero => exact h0
  | add h _ ih => exact ha _ _ (hg _ h) ih
/-- One row more. -/
theorem Span.one {G H : Vc → Prop} {r : Vc} (hH : ∀ g, H g → G g ∨ g = r) {v : Vc} (h : Span H v) : Span G v ∨ ∃ s, Span G s ∧ v = s + r := by
  induction h with
  | zero => exact .inl .zero
  | add hg _ ih =>
    rcases hH _ hg with h1 | rfl
    · rcases ih with ih | ⟨s, hs, rfl⟩
      · exact .inl (.add h1 ih)
      · exact .inr ⟨_, .add h1 hs, (Vc.assoc _ _ _).symm⟩
    · rcases ih with ih | ⟨s, hs, rfl⟩
      · exact .inr ⟨_, ih, Vc.comm _ _⟩
      · refine .inl ?_
        rw [Vc.comm s, Vc.cancel]; exact hs

/-- The first block of a row. -/
def Lead (v : Vc) (k : Nat) : Prop := v.h k = true ∧ ∀ j, j < k → v.h j = false
theorem Lead.uniq {v : Vc} {k l : Nat} (h : Lead v k) (g : Lead v l) : k = l := by
  rcases Nat.lt_trichotomy k l with h1 | h1 | h1
  · have := g.2 k h1; rw [h.1] at this; cases this
  · exact h1
  · have := h.2 l h1; rw [g.1] at this; cases this
theorem lead_of {v : Vc} : ∀ {k : Nat}, v.h k = true → ∃ j, j ≤ k ∧ Lead v j := by
  intro k
  induction k using Nat.strongRecOn with
  | ind k ih =>
    intro hk
    by_cases h : ∃ j, j < k ∧ v.h j = true
    · obtain ⟨j, h1, h2⟩ := h
      obtain ⟨i, h3, h4⟩ := ih j h1 h2
      exact ⟨i, by omega, h4⟩
    · exact ⟨k, Nat.le_refl _, hk, fun j hj => by
        cases e : v.h j with
        | false => rfl
        | true => exact absurd ⟨j, hj, e⟩ h⟩

/-- Rows with their first blocks, rising; the first block of one is in no other one. -/
structure Ech (ps : List (Nat × Vc)) : Prop where
  up : ps.Pairwise fun a b => a.1 < b.1 ∧ a.2.h b.1 = false
  lead : ∀ a ∈ ps, Lead a.2 a.1
theorem Ech.tail {a : Nat × Vc} {ps : List (Nat × Vc)} (h : Ech (a :: ps)) : Ech ps := ⟨(List.pairwise_cons.1 h.up).2, fun b hb => h.lead b (List.mem_cons_of_mem _ hb)⟩
theorem Ech.nil : Ech [] := ⟨.nil, fun _ h => by cases h⟩
def Of (ps : List (Nat × Vc)) (g : Vc) : Prop := ∃ a ∈ ps, a.2 = g
abbrev Sp (ps : List (Nat × Vc)) : Vc → Prop := Span (Of ps)
/-- The sum of those whose first blocks it has. -/
def pj (ps : List (Nat × Vc)) (v : Vc) : Vc := ps.foldr (fun a acc => if v.h a.1 then a.2 + acc else acc) Vc.zero
theorem pj_cons (a : Nat × Vc) (ps : List (Nat × Vc)) (v : Vc) : pj (a :: ps) v = if v.h a.1 then a.2 + pj ps v else pj ps v := rfl
theorem pj_add (u v : Vc) : ∀ ps, pj ps (u + v) = pj ps u + pj ps v
  | [] => (Vc.zero_add _).symm
  | a :: ps => by
    rw [pj_cons, pj_cons, pj_cons, pj_add u v ps, Vc.add_h]
    cases u.h a.1 <;> cases v.h a.1
    · rfl
    · simp only [Bool.false_xor, if_true, Bool.false_eq_true, if_false]; ac_rfl
    · simp only [Bool.xor_false, if_true, Bool.false_eq_true, if_false]; ac_rfl
    · simp only [Bool.xor_self, if_true, Bool.false_eq_true, if_false]
      rw [show a.2 + pj ps u + (a.2 + pj ps v) = (a.2 + a.2) + (pj ps u + pj ps v) by ac_rfl, Vc.self, Vc.zero_add]
theorem pj_none {v : Vc} : ∀ {ps : List (Nat × Vc)}, (∀ a ∈ ps, v.h a.1 = false) → pj ps v = Vc.zero
  | [], _ => rfl
  | a :: ps, h => by
    rw [pj_cons, if_neg (by simp [h a (by simp)]), pj_none fun b hb => h b (List.mem_cons_of_mem _ hb)]
theorem pj_mem {ps : List (Nat × Vc)} (hE : Ech ps) : ∀ a ∈ ps, pj ps a.2 = a.2 := by
  induction ps with
  | nil => intro a h; cases h
  | cons b ps ih =>
    intro a ha
    rw [pj_cons]
    rcases List.mem_cons.1 ha with rfl | ha
    · rw [if_pos (hE.lead _ (by simp)).1, pj_none fun c hc => ((List.pairwise_cons.1 hE.up).1 c hc).2, Vc.add_zero]
    · have : a.2.h b.1 = false := (hE.lead a (List.mem_cons_of_mem _ ha)).2 _ ((List.pairwise_cons.1 hE.up).1 a ha).1
      rw [if_neg (by simp [this]), ih hE.tail a ha]
theorem pj_zero (ps : List (Nat × Vc)) : pj ps Vc.zero = Vc.zero := pj_none fun _ _ => rfl
theorem pj_span {ps : List (Nat × Vc)} (hE : Ech ps) {v : Vc} (h : Sp ps v) : pj ps v = v := by
  induction h with
  | zero => exact pj_zero ps
  | add hg _ ih =>
    obtain ⟨a, ha, rfl⟩ := hg
    rw [pj_add, ih, pj_mem hE a ha]
theorem span_pj (ps : List (Nat × Vc)) (v : Vc) : Sp ps (pj ps v) := by
  have : ∀ qs : List (Nat × Vc), (∀ a ∈ qs, a ∈ ps) → Sp ps (pj qs v) := by
    intro qs
    induction qs with
    | nil => intro _; exact .zero
    | cons a qs ih =>
      intro h
      rw [pj_cons]
      split
      · exact .add ⟨a, h a (by simp), rfl⟩ (ih fun b hb => h b (List.mem_cons_of_mem _ hb))
      · exact ih fun b hb => h b (List.mem_cons_of_mem _ hb)
  exact this ps fun _ h => h
theorem pj_low {v : Vc} {k : Nat} : ∀ {ps : List (Nat × Vc)}, (∀ a ∈ ps, a.2.h k = false) → (pj ps v).h k = false
  | [], _ => rfl
  | a :: ps, h => by
    rw [pj_cons]
    have ih := pj_low (v := v) fun b hb => h b (List.mem_cons_of_mem a hb)
    split
    · rw [Vc.add_h, h a (by simp), ih]; rfl
    · exact ih
theorem pj_lead (v : Vc) : ∀ {ps : List (Nat × Vc)}, Ech ps → pj ps v = Vc.zero ∨ ∃ a ∈ ps, Lead (pj ps v) a.1
  | [], _ => .inl rfl
  | a :: ps, hE => by
    rw [pj_cons]
    have hup := (List.pairwise_cons.1 hE.up).1
    split
    · refine .inr ⟨a, by simp, ?_, fun j hj => ?_⟩
      · rw [Vc.add_h, (hE.lead a (by simp)).1, pj_low fun b hb => (hE.lead b (List.mem_cons_of_mem _ hb)).2 _ (hup b hb).1]; rfl
      · rw [Vc.add_h, (hE.lead a (by simp)).2 j hj, pj_low fun b hb => (hE.lead b (List.mem_cons_of_mem _ hb)).2 _ (Nat.lt_trans hj (hup b hb).1)]; rfl
    · rcases pj_lead v hE.tail with h | ⟨b, hb, h⟩
      · exact .inl h
      · exact .inr ⟨b, List.mem_cons_of_mem _ hb, h⟩
/-- The first blocks of what they span are theirs. -/
theorem span_lead {ps : List (Nat × Vc)} (hE : Ech ps) {v : Vc} (h : Sp ps v) {k : Nat} (hl : Lead v k) : ∃ a ∈ ps, a.1 = k := by
  rcases pj_lead v hE with h0 | ⟨a, ha, h1⟩
  · rw [pj_span hE h] at h0
    rw [h0] at hl
    cases hl.1
  · rw [pj_span hE h] at h1
    exact ⟨a, ha, h1.uniq hl⟩
theorem Ech.inj {ps : List (Nat × Vc)} (hE : Ech ps) {a b : Nat × Vc} (ha : a ∈ ps) (hb : b ∈ ps) (h : a.1 = b.1) : a = b := by
  induction ps with
  | nil => cases ha
  | cons c ps ih =>
    have hup := (List.pairwise_cons.1 hE.up).1
    rcases List.mem_cons.1 ha with e1 | ha
    · rcases List.mem_cons.1 hb with e2 | hb
      · rw [e1, e2]
      · have := (hup b hb).1; rw [e1] at h; omega
    · rcases List.mem_cons.1 hb with e2 | hb
      · have := (hup a ha).1; rw [e2] at h; omega
      · exact ih hE.tail ha hb
/-- Of two first blocks, neither is in the other's row. -/
theorem Ech.apart {ps : List (Nat × Vc)} (hE : Ech ps) {a b : Nat × Vc} (ha : a ∈ ps) (hb : b ∈ ps) (h : a.1 ≠ b.1) : a.2.h b.1 = false := by
  induction ps with
  | nil => cases ha
  | cons c ps ih =>
    have hup := (List.pairwise_cons.1 hE.up).1
    rcases List.mem_cons.1 ha with e1 | ha
    · rcases List.mem_cons.1 hb with e2 | hb
      · exact absurd (by rw [e1, e2]) h
      · rw [e1]; exact (hup b hb).2
    · rcases List.mem_cons.1 hb with e2 | hb
      · rw [e2]; exact (hE.lead a (List.mem_cons_of_mem _ ha)).2 _ (hup a ha).1
      · exact ih hE.tail ha hb

theorem nodup_le : ∀ {l m : List Nat}, l.Nodup → (∀ k ∈ l, k ∈ m) → l.length ≤ m.length
  | [], _, _, _ => Nat.zero_le _
  | a :: l, m, hn, h => by
    obtain ⟨h1, h2⟩ := List.nodup_cons.1 hn
    have ha := h a (by simp)
    have := nodup_le (m := m.erase a) h2 fun k hk => (List.mem_erase_of_ne (fun e => h1 (by rw [← e]; exact hk))).2 (h k (List.mem_cons_of_mem _ hk))
    rw [List.length_erase_of_mem ha] at this
    have := List.length_pos_of_mem ha
    simp only [List.length_cons]
    omega
/-- As many first blocks, no fewer rows. -/
theorem ech_card {ps qs : List (Nat × Vc)} (hp : Ech ps) (h : ∀ a ∈ ps, ∃ b ∈ qs, b.1 = a.1) : ps.length ≤ qs.length := by
  have hn : (ps.map (·.1)).Nodup := by
    rw [List.Nodup, List.pairwise_map]
    exact hp.up.imp fun x => Nat.ne_of_lt x.1
  have := nodup_le hn (m := qs.map (·.1)) fun k hk => by
    obtain ⟨a, ha, rfl⟩ := List.mem_map.1 hk
    obtain ⟨b, hb, e⟩ := h a ha
    exact List.mem_map.2 ⟨b, hb, e⟩
  simpa using this
end Go.Proofs.YtmiaplgfbphfmaaGreatDoor
namespace Go.Proofs.YtmiaplgfbphfmaaGreatDoor

def bx (a b : List Bool) : List Bool := List.zipWith (fun x y => x != y) a b
def rowAdd (a b : Rw) : Rw := ⟨bx a.has b.has, zx a.data b.data⟩
def Rw.bit (r : Rw) (k : Nat) : Bool := r.has.getD k false
/-- Lengths are right. -/
def Fit (B K : Nat) (r : Rw) : Prop := r.has.length = B ∧ r.data.length = K
def vc (r : Rw) : Vc := ⟨fun i => r.has.getD i false, fun i => r.data.getD i 0⟩

theorem Fit.add {B K : Nat} {a b : Rw} (h : Fit B K a) (k : Fit B K b) : Fit B K (rowAdd a b) := ⟨by simp [rowAdd, bx, h.1, k.1], by simp [rowAdd, zx, h.2, k.2]⟩
theorem bx_getD {a b : List Bool} (h : a.length = b.length) (i : Nat) : (bx a b).getD i false = (a.getD i false ^^ b.getD i false) := by
  unfold bx
  simp only [List.getD_eq_getElem?_getD, List.getElem?_zipWith]
  by_cases hi : i < a.length
  · rw [List.getElem?_eq_getElem hi, List.getElem?_eq_getElem (by omega)]; simp
  · rw [List.getElem?_eq_none (by omega), List.getElem?_eq_none (by omega)]; rfl
theorem zx_getD {a b : List UInt8} (h : a.length = b.length) (i : Nat) : (zx a b).getD i 0 = (a.getD i 0 ^^^ b.getD i 0) := by
  unfold zx
  simp only [List.getD_eq_getElem?_getD, List.getElem?_zipWith]
  by_cases hi : i < a.length
  · rw [List.getElem?_eq_getElem hi, List.getElem?_eq_getElem (by omega)]; rfl
  · rw [List.getElem?_eq_none (by omega), List.getElem?_eq_none (by omega)]; rfl
theorem vc_add {B K : Nat} {a b : Rw} (h : Fit B K a) (k : Fit B K b) : vc (rowAdd a b) = vc a + vc b :=
  Vc.ext' (fun i => bx_getD (h.1.trans k.1.symm) i) (fun i => zx_getD (h.2.trans k.2.symm) i)
theorem list_ext_getD {α : Type} {a b : List α} {d : α} (hl : a.length = b.length) (h : ∀ i, a.getD i d = b.getD i d) : a = b := by
  apply List.ext_getElem hl
  intro i h1 h2
  have := h i
  simpa [List.getD_eq_getElem?_getD, List.getElem?_eq_getElem h1, List.getElem?_eq_getElem h2] using this
theorem fst_lead {r : Rw} {k : Nat} : r.fst = (k : Int) ↔ Lead (vc r) k := by
  have bit : ∀ i, (vc r).h i = true ↔ r.has[i]? = some true := fun i => by
    show r.has.getD i false = true ↔ _
    rw [List.getD_eq_getElem?_getD]
    cases r.has[i]? <;> simp
  have spec : ∀ j : Nat, r.has[j]? = some true → (∀ i, i < j → r.has[i]? ≠ some true) → Lead (vc r) j := fun j h2 h3 =>
    ⟨(bit j).2 h2, fun i hi => by
      cases e : (vc r).h i with
      | false => rfl
      | true => exact absurd ((bit i).1 e) (h3 i hi)⟩
  constructor
  · intro h
    rcases idxF_spec true r.has with ⟨h1, _⟩ | ⟨j, h1, h2, h3⟩
    · unfold Rw.fst at h; omega
    · unfold Rw.fst at h
      obtain rfl : j = k := by omega
      exact spec j h2 h3
  · intro h
    rcases idxF_spec true r.has with ⟨h1, h2⟩ | ⟨j, h1, h2, h3⟩
    · exact absurd (List.mem_of_getElem? ((bit k).1 h.1)) h2
    · unfold Rw.fst
      rw [h1, (spec j h2 h3).uniq h]
theorem fst_none {r : Rw} : r.fst < 0 ↔ ∀ i, (vc r).h i = false := by
  constructor
  · intro h i
    cases e : (vc r).h i with
    | false => rfl
    | true =>
      obtain ⟨j, _, hj⟩ := lead_of e
      have := fst_lead.2 hj
      omega
  · intro h
    rcases (by omega : r.fst < 0 ∨ 0 ≤ r.fst) with h1 | h1
    · exact h1
    · obtain ⟨k, hk⟩ := Int.eq_ofNat_of_zero_le h1
      have := (fst_lead.1 hk).1
      rw [h k] at this; cases this
theorem lead_lt {B K : Nat} {r : Rw} (h : Fit B K r) {k : Nat} (hk : (vc r).h k = true) : k < B := by
  rcases Nat.lt_or_ge k B with h1 | h1
  · exact h1
  · have : (vc r).h k = false := by
      show r.has.getD k false = false
      rw [List.getD_eq_getElem?_getD, List.getElem?_eq_none (by rw [h.1]; exact h1)]; rfl
    rw [this] at hk; cases hk

def pl (rows : List Rw) : List (Nat × Vc) := rows.map fun r => (r.fst.toNat, vc r)
/-- Rows of a right system. -/
structure Sys (B K : Nat) (rows : List Rw) : Prop where
  fit : ∀ r ∈ rows, Fit B K r
  fst : ∀ r ∈ rows, 0 ≤ r.fst
  ech : Ech (pl rows)
theorem Sys.leads {B K : Nat} {rows : List Rw} (h : Sys B K rows) {r : Rw} (hr : r ∈ rows) : ∃ k : Nat, r.fst = (k : Int) ∧ Lead (vc r) k ∧ k < B := by
  obtain ⟨k, hk⟩ := Int.eq_ofNat_of_zero_le (h.fst r hr)
  have := fst_lead.1 hk
  exact ⟨k, hk, this, lead_lt (h.fit r hr) this.1⟩
theorem Sys.tail {B K : Nat} {r : Rw} {rows : List Rw} (h : Sys B K (r :: rows)) : Sys B K rows :=
  ⟨fun x hx => h.fit x (List.mem_cons_of_mem _ hx), fun x hx => h.fst x (List.mem_cons_of_mem _ hx), h.ech.tail⟩
theorem rowsOk_sys {B K : Nat} {rows : List Rw} (h : RowsOk B K rows) : Sys B K rows := by
  have hlt : ∀ (d i : Nat) (a b : Rw), rows[i]? = some a → rows[i + 1 + d]? = some b → a.fst < b.fst := by
    intro d
    induction d with
    | zero =>
      intro i a b ha hb
      have := (h _ b hb).up
      rwa [Nat.add_zero, lastOf_succ ha] at this
    | succ d ih =>
      intro i a b ha hb
      have hl := (List.getElem?_eq_some_iff.1 hb).1
      have hc : rows[i + 1 + d]? = some rows[i + 1 + d] := List.getElem?_eq_getElem (by omega)
      have h1 := ih i a _ ha hc
      have h2 := (h _ b hb).up
      rw [show i + 1 + (d + 1) = (i + 1 + d) + 1 from rfl, lastOf_succ hc] at h2
      omega
  have hfit : ∀ r ∈ rows, Fit B K r := fun r hr => by
    obtain ⟨i, hi⟩ := List.mem_iff_getElem?.1 hr
    have := h i r hi
    exact ⟨by have := this.has; omega, by have := this.data; omega⟩
  have hfst : ∀ r ∈ rows, 0 ≤ r.fst := fun r hr => by
    obtain ⟨i, hi⟩ := List.mem_iff_getElem?.1 hr
    have := (h i r hi).up
    have := lastOf_ge rows i
    omega
  refine ⟨hfit, hfst, ?_, ?_⟩
  · unfold pl
    rw [List.pairwise_map, List.pairwise_iff_getElem]
    intro i j hi hj hij
    have ha := List.getElem?_eq_getElem hi
    have hb := List.getElem?_eq_getElem hj
    have h1 := hlt (j - (i + 1)) i _ _ ha (by rw [show i + 1 + (j - (i + 1)) = j by omega]; exact hb)
    have h2 := hfst _ (List.getElem_mem hi)
    refine ⟨by simp only []; omega, ?_⟩
    exact (h j _ hb).alone i _ (by omega) ha
  · intro a ha
    obtain ⟨r, hr, rfl⟩ := List.mem_map.1 ha
    exact fst_lead.1 (by have := hfst r hr; simp only []; omega)
theorem sys_rowsOk {B K : Nat} {rows : List Rw} (h : Sys B K rows) : RowsOk B K rows := by
  intro i r hr
  have hm := List.mem_of_getElem? hr
  have hp := h.ech.up
  unfold pl at hp
  rw [List.pairwise_map, List.pairwise_iff_getElem] at hp
  have hi := (List.getElem?_eq_some_iff.1 hr).1
  have er : rows[i] = r := (List.getElem?_eq_some_iff.1 hr).2
  refine ⟨by rw [(h.fit r hm).1], by rw [(h.fit r hm).2], ?_, fun j o hj ho => ?_⟩
  · cases i with
    | zero => have := h.fst r hm; simp only [lastOf]; omega
    | succ i =>
      rw [lastOf_succ (List.getElem?_eq_getElem (by omega : i < rows.length))]
      have := (hp i (i + 1) (by omega) hi (by omega)).1
      have h1 := h.fst _ (List.getElem_mem (by omega : i < rows.length))
      rw [er] at this
      simp only [] at this
      have h2 := h.fst r hm
      omega
  · have ho' := List.mem_of_getElem? ho
    have hjl := (List.getElem?_eq_some_iff.1 ho).1
    have eo : rows[j] = o := (List.getElem?_eq_some_iff.1 ho).2
    have hne : (o.fst.toNat, vc o).1 ≠ (r.fst.toNat, vc r).1 := by
      rcases Nat.lt_or_ge j i with h1 | h1
      · have := (hp j i hjl hi h1).1; rw [er, eo] at this; exact Nat.ne_of_lt this
      · have := (hp i j hi hjl (by omega)).1; rw [er, eo] at this; exact (Nat.ne_of_lt this).symm
    exact h.ech.apart (List.mem_map.2 ⟨o, ho', rfl⟩) (List.mem_map.2 ⟨r, hm, rfl⟩) hne
theorem Sys.card {B K : Nat} {rows : List Rw} (h : Sys B K rows) : rows.length ≤ B := by
  have hn : ((pl rows).map (·.1)).Nodup := by
    rw [List.Nodup, List.pairwise_map]
    exact h.ech.up.imp fun x => Nat.ne_of_lt x.1
  have := nodup_le hn (m := List.range B) fun k hk => by
    obtain ⟨a, ha, rfl⟩ := List.mem_map.1 hk
    obtain ⟨r, hr, rfl⟩ := List.mem_map.1 ha
    obtain ⟨k, hk, _, hlt⟩ := h.leads hr
    rw [List.mem_range]
    simp only []
    omega
  simpa [pl] using this
theorem sysCheck_of {B K : Nat} {rows : List Rw} (hB : 1 ≤ B ∧ B ≤ 24) (hK : 1 ≤ K ∧ K ≤ 16) (h : Sys B K rows) : sysCheck B K rows = 0 := by
  have := h.card
  exact sysCheck_good (by omega) (by omega) (sys_rowsOk h)

/-- All first blocks of the rows out of a row. -/
def redRow : List Rw → Rw → Rw
  | [], r => r
  | o :: rows, r => redRow rows (if r.bit o.fst.toNat then rowAdd r o else r)
def insAt (k : Nat) (rows : List Rw) : Nat := rows.findIdx fun o => decide ((k : Int) < o.fst)
def outOf (k : Nat) (r o : Rw) : Rw := if o.bit k then rowAdd o r else o
def insRow (rows : List Rw) (k : Nat) (r : Rw) : List Rw := ((rows.map (outOf k r)).take (insAt k (rows.map (outOf k r)))) ++ r :: (rows.map (outOf k r)).drop (insAt k (rows.map (outOf k r)))
/-- What solve.Add makes of a right system's rows. -/
def addRow (rows : List Rw) (r : Rw) : List Rw × Bool × Int :=
  if (redRow rows r).fst < 0 then (if (redRow rows r).data.all (fun c => c == 0) then (rows, false, 0) else ([], false, 9))
  else (insRow rows (redRow rows r).fst.toNat (redRow rows r), true, 0)
structure Sy where
  blocks : Int
  block : Int
  rows : List Rw
deriving DecidableEq
def Sy.none : Sy := ⟨0, 0, []⟩
def sysAdd (s : Sy) (r : Rw) : Sy × Bool × Int :=
  if sysCheck s.blocks s.block s.rows ≠ 0 then (Sy.none, false, sysCheck s.blocks s.block s.rows)
  else if (r.has.length : Int) ≠ s.blocks ∨ (r.data.length : Int) ≠ s.block then (Sy.none, false, 4)
  else if (addRow s.rows r).2.2 = 0 then (⟨s.blocks, s.block, (addRow s.rows r).1⟩, (addRow s.rows r).2.1, 0) else (Sy.none, false, (addRow s.rows r).2.2)

theorem redRow_fit {B K : Nat} : ∀ {rows : List Rw} {r : Rw}, (∀ o ∈ rows, Fit B K o) → Fit B K r → Fit B K (redRow rows r)
  | [], r, _, h => h
  | o :: rows, r, hf, h => by
    rw [redRow]
    refine redRow_fit (fun x hx => hf x (List.mem_cons_of_mem _ hx)) ?_
    split
    · exact h.add (hf o (by simp))
    · exact h
theorem redRow_vc {B K : Nat} : ∀ {rows : List Rw} {r : Rw}, Sys B K rows → Fit B K r → vc (redRow rows r) = vc r + pj (pl rows) (vc r)
  | [], r, _, h => (Vc.add_zero _).symm
  | o :: rows, r, hs, h => by
    have ho := hs.fit o (by simp)
    rw [redRow]
    have hp0 : pj (pl rows) (vc o) = Vc.zero := pj_none fun a ha => ((List.pairwise_cons.1 hs.ech.up).1 a ha).2
    have hb : r.bit o.fst.toNat = (vc r).h o.fst.toNat := rfl
    rw [show pl (o :: rows) = (o.fst.toNat, vc o) :: pl rows from rfl, pj_cons, hb]
    by_cases e : (vc r).h o.fst.toNat = true
    · rw [if_pos e, redRow_vc hs.tail (h.add ho), vc_add h ho, pj_add, hp0, Vc.add_zero, if_pos e, Vc.assoc]
    · rw [if_neg e, if_neg e, redRow_vc hs.tail h]
theorem pj_at {v : Vc} : ∀ {ps : List (Nat × Vc)}, Ech ps → ∀ a ∈ ps, (pj ps v).h a.1 = v.h a.1
  | [], _, _, h => by cases h
  | c :: ps, hE, a, ha => by
    have hup := (List.pairwise_cons.1 hE.up).1
    rw [pj_cons]
    rcases List.mem_cons.1 ha with e | ha
    · subst e
      have hl : (pj ps v).h a.1 = false := pj_low fun b hb => (hE.lead b (List.mem_cons_of_mem _ hb)).2 _ (hup b hb).1
      split
      · rename_i e; rw [Vc.add_h, (hE.lead a (by simp)).1, hl, e]; rfl
      · rename_i e; rw [hl]; simpa using e
    · have ih := pj_at (v := v) hE.tail a ha
      split
      · rw [Vc.add_h, (hup a ha).2, ih, Bool.false_xor]
      · exact ih
/-- A row with no first block of another one's. -/
def Clean (rows : List Rw) (r : Rw) : Prop := ∀ o ∈ rows, (vc r).h o.fst.toNat = false
theorem redRow_clean {B K : Nat} {rows : List Rw} {r : Rw} (hs : Sys B K rows) (h : Fit B K r) : Clean rows (redRow rows r) := by
  intro o ho
  rw [redRow_vc hs h, Vc.add_h]
  have := pj_at (v := vc r) hs.ech _ (List.mem_map.2 ⟨o, ho, rfl⟩)
  simp only [] at this
  rw [this]; simp

/-- The rows, and one more: what they span. -/
def With (rows : List Rw) (r : Rw) (g : Vc) : Prop := Of (pl rows) g ∨ g = vc r
theorem of_mem {rows : List Rw} {r : Rw} (h : r ∈ rows) : Of (pl rows) (vc r) := ⟨_, List.mem_map.2 ⟨r, h, rfl⟩, rfl⟩
theorem red_span {B K : Nat} {rows : List Rw} {r : Rw} (hs : Sys B K rows) (h : Fit B K r) (v : Vc) : Span (With rows r) v ↔ Span (With rows (redRow rows r)) v := by
  have hv := redRow_vc hs h
  constructor
  · refine Span.le fun g hg => ?_
    rcases hg with hg | rfl
    · exact .of (.inl hg)
    · rw [show vc r = vc (redRow rows r) + pj (pl rows) (vc r) by rw [hv, Vc.assoc, Vc.self, Vc.add_zero]]
      exact .add (.inr rfl) ((span_pj _ _).mono fun g h => .inl h)
  · refine Span.le fun g hg => ?_
    rcases hg with hg | rfl
    · exact .of (.inl hg)
    · rw [hv]
      exact .add (.inr rfl) ((span_pj _ _).mono fun g h => .inl h)
theorem outOf_fit {B K k : Nat} {r o : Rw} (h : Fit B K r) (ho : Fit B K o) : Fit B K (outOf k r o) := by
  unfold outOf; split
  · exact ho.add h
  · exact ho
theorem outOf_vc {B K k : Nat} {r o : Rw} (h : Fit B K r) (ho : Fit B K o) : vc (outOf k r o) = if (vc o).h k then vc o + vc r else vc o := by
  unfold outOf
  show vc (if (vc o).h k then _ else _) = _
  split
  · exact vc_add ho h
  · rfl
theorem outOf_lead {B K k l : Nat} {r o : Rw} (h : Fit B K r) (ho : Fit B K o) (hk : Lead (vc r) k) (hl : Lead (vc o) l) (hc : (vc r).h l = false) : Lead (vc (outOf k r o)) l := by
  rw [outOf_vc h ho]
  split
  · rename_i e
    have hlk : l < k := by
      rcases Nat.lt_trichotomy l k with h1 | h1 | h1
      · exact h1
      · subst h1; rw [hk.1] at hc; cases hc
      · have := hl.2 k h1; rw [this] at e; cases e
    refine ⟨by rw [Vc.add_h, hl.1, hc]; rfl, fun j hj => by rw [Vc.add_h, hl.2 j hj, hk.2 j (by omega)]; rfl⟩
  · exact hl
theorem outOf_k {B K k : Nat} {r o : Rw} (h : Fit B K r) (ho : Fit B K o) (hk : Lead (vc r) k) : (vc (outOf k r o)).h k = false := by
  rw [outOf_vc h ho]
  split
  · rename_i e; rw [Vc.add_h, e, hk.1]; rfl
  · rename_i e; simpa using e
theorem outOf_other {B K k l : Nat} {r o : Rw} (h : Fit B K r) (ho : Fit B K o) (hc : (vc r).h l = false) : (vc (outOf k r o)).h l = (vc o).h l := by
  rw [outOf_vc h ho]
  split
  · rw [Vc.add_h, hc, Bool.xor_false]
  · rfl
theorem pairwise_drop_gt {rows : List Rw} (hp : rows.Pairwise fun a b => a.fst < b.fst) (k : Nat) : (∀ o ∈ rows.take (insAt k rows), o.fst ≤ k) ∧ ∀ o ∈ rows.drop (insAt k rows), (k : Int) < o.fst := by
  induction rows with
  | nil => exact ⟨fun _ h => by simp at h, fun _ h => by simp at h⟩
  | cons a rows ih =>
    obtain ⟨h1, h2⟩ := List.pairwise_cons.1 hp
    obtain ⟨i1, i2⟩ := ih h2
    unfold insAt at *
    rw [List.findIdx_cons]
    by_cases e : (k : Int) < a.fst
    · simp only [e, decide_true, cond_true]
      refine ⟨fun _ h => by simp at h, fun o ho => ?_⟩
      rcases List.mem_cons.1 ho with rfl | ho
      · exact e
      · have := h1 o ho; omega
    · simp only [e, decide_false, cond_false]
      refine ⟨fun o ho => ?_, fun o ho => i2 o ho⟩
      rcases List.mem_cons.1 ho with rfl | ho
      · omega
      · exact i1 o ho
/-- A clean row put in. -/
theorem insRow_sys {B K k : Nat} {rows : List Rw} {r : Rw} (hs : Sys B K rows) (h : Fit B K r) (hk : Lead (vc r) k) (hc : Clean rows r) :
    Sys B K (insRow rows k r) ∧ ∀ v, Sp (pl (insRow rows k r)) v ↔ Span (With rows r) v := by
  have hmem : ∀ x, x ∈ insRow rows k r ↔ x = r ∨ ∃ o ∈ rows, outOf k r o = x := by
    intro x
    unfold insRow
    have e := List.take_append_drop (insAt k (rows.map (outOf k r))) (rows.map (outOf k r))
    rw [← List.mem_map (f := outOf k r) (l := rows)]
    conv => rhs; rw [← e]
    simp only [List.mem_append, List.mem_cons]
    constructor
    · rintro (h | h | h)
      · exact .inr (.inl h)
      · exact .inl h
      · exact .inr (.inr h)
    · rintro (h | h | h)
      · exact .inr (.inl h)
      · exact .inl h
      · exact .inr (.inr h)
  have hof : ∀ o ∈ rows, (outOf k r o).fst = o.fst := fun o ho => by
    obtain ⟨l, h1, h2, _⟩ := hs.leads ho
    have := hc o ho
    rw [h1, Int.toNat_natCast] at this
    rw [h1]
    exact fst_lead.2 (outOf_lead h (hs.fit o ho) hk h2 this)
  have hr0 : r.fst = (k : Int) := fst_lead.2 hk
  have hp0 : rows.Pairwise fun a b => a.fst < b.fst ∧ (vc a).h b.fst.toNat = false := by
    have := hs.ech.up
    unfold pl at this
    rw [List.pairwise_map] at this
    refine this.imp_of_mem fun ha hb x => ⟨?_, x.2⟩
    have := x.1
    simp only [] at this
    have := hs.fst _ ha
    have := hs.fst _ hb
    omega
  have hp1 : (rows.map (outOf k r)).Pairwise fun a b => a.fst < b.fst ∧ (vc a).h b.fst.toNat = false := by
    rw [List.pairwise_map]
    refine hp0.imp_of_mem fun ha hb x => ?_
    rw [hof _ ha, hof _ hb]
    refine ⟨x.1, ?_⟩
    rw [outOf_other h (hs.fit _ ha) (hc _ hb)]
    exact x.2
  have hgt := pairwise_drop_gt (hp1.imp fun x => x.1) k
  have hsys : Sys B K (insRow rows k r) := by
    refine ⟨fun x hx => ?_, fun x hx => ?_, ?_, ?_⟩
    · rcases (hmem x).1 hx with rfl | ⟨o, ho, rfl⟩
      · exact h
      · exact outOf_fit h (hs.fit o ho)
    · rcases (hmem x).1 hx with rfl | ⟨o, ho, rfl⟩
      · omega
      · rw [hof o ho]; exact hs.fst o ho
    · have key : (insRow rows k r).Pairwise fun a b => (0 ≤ a.fst) → a.fst < b.fst ∧ (vc a).h b.fst.toNat = false := by
        unfold insRow
        have hp2 := hp1
        rw [← List.take_append_drop (insAt k (rows.map (outOf k r))) (rows.map (outOf k r)), List.pairwise_append] at hp2
        rw [List.pairwise_append, List.pairwise_cons]
        refine ⟨hp2.1.imp (fun {a b} x (_ : 0 ≤ a.fst) => x), ⟨fun b hb _ => ?_, hp2.2.1.imp (fun {a b} x (_ : 0 ≤ a.fst) => x)⟩, fun a ha b hb _ => ?_⟩
        · refine ⟨by rw [hr0]; exact hgt.2 b hb, ?_⟩
          obtain ⟨o, ho, rfl⟩ := List.mem_map.1 (List.mem_of_mem_drop hb)
          rw [hof o ho]; exact hc o ho
        · rcases List.mem_cons.1 hb with rfl | hb
          · have h1 := hgt.1 a ha
            obtain ⟨o, ho, rfl⟩ := List.mem_map.1 (List.mem_of_mem_take ha)
            have hk0 := outOf_k (k := k) h (hs.fit o ho) hk
            obtain ⟨l, e1, e2, _⟩ := hs.leads ho
            have hl := hof o ho
            refine ⟨?_, by rw [hr0, Int.toNat_natCast]; exact hk0⟩
            rw [hr0]
            have : l ≠ k := by
              rintro rfl
              have := hc o ho
              rw [e1, Int.toNat_natCast, hk.1] at this; cases this
            omega
          · exact hp2.2.2 a ha b hb
      unfold pl
      rw [List.pairwise_map]
      refine key.imp_of_mem fun ha hb x => ?_
      have h0 : ∀ {y}, y ∈ insRow rows k r → 0 ≤ y.fst := fun {y} hy => by
        rcases (hmem y).1 hy with rfl | ⟨o, ho, rfl⟩
        · omega
        · rw [hof o ho]; exact hs.fst o ho
      have h1 := x (h0 ha)
      have h2 := h0 ha
      exact ⟨by simp only []; omega, h1.2⟩
    · intro a ha
      obtain ⟨x, hx, rfl⟩ := List.mem_map.1 ha
      refine fst_lead.1 ?_
      have : 0 ≤ x.fst := by
        rcases (hmem x).1 hx with rfl | ⟨o, ho, rfl⟩
        · omega
        · rw [hof o ho]; exact hs.fst o ho
      simp only []; omega
  refine ⟨hsys, fun v => ⟨Span.le fun g hg => ?_, Span.le fun g hg => ?_⟩⟩
  · obtain ⟨a, ha, rfl⟩ := hg
    obtain ⟨x, hx, rfl⟩ := List.mem_map.1 ha
    rcases (hmem x).1 hx with rfl | ⟨o, ho, rfl⟩
    · exact .of (.inr rfl)
    · simp only []
      rw [outOf_vc h (hs.fit o ho)]
      split
      · exact .add (.inl (of_mem ho)) (.of (.inr rfl))
      · exact .of (.inl (of_mem ho))
  · have hr : Of (pl (insRow rows k r)) (vc r) := of_mem ((hmem r).2 (.inl rfl))
    rcases hg with ⟨a, ha, rfl⟩ | rfl
    · obtain ⟨o, ho, rfl⟩ := List.mem_map.1 ha
      have ho' : Of (pl (insRow rows k r)) (vc (outOf k r o)) := of_mem ((hmem _).2 (.inr ⟨o, ho, rfl⟩))
      rw [outOf_vc h (hs.fit o ho)] at ho'
      simp only []
      split at ho'
      · rw [show vc o = (vc o + vc r) + vc r by rw [Vc.assoc, Vc.self, Vc.add_zero]]
        exact .add ho' (.of hr)
      · exact .of ho'
    · exact .of hr
theorem length_insRow (rows : List Rw) (k : Nat) (r : Rw) : (insRow rows k r).length = rows.length + 1 := by
  unfold insRow
  simp only [List.length_append, List.length_take, List.length_cons, List.length_drop, List.length_map]
  have : insAt k (rows.map (outOf k r)) ≤ (rows.map (outOf k r)).length := List.findIdx_le_length
  simp at this
  omega

theorem zero_of {B K : Nat} {r : Rw} (h : Fit B K r) (h0 : ∀ i, (vc r).h i = false) (hd : r.data.all (fun c => c == 0) = true) : vc r = Vc.zero :=
  Vc.ext' h0 fun i => by
    show r.data.getD i 0 = 0
    rw [List.getD_eq_getElem?_getD]
    cases e : r.data[i]? with
    | none => rfl
    | some c => simpa using List.all_eq_true.1 hd c (List.mem_of_getElem? e)
/-- What a row that is added makes. -/
theorem addRow_cases {B K : Nat} {rows : List Rw} {r : Rw} (hs : Sys B K rows) (h : Fit B K r) :
    (addRow rows r = (rows, false, 0) ∧ Sp (pl rows) (vc r)) ∨ (addRow rows r = ([], false, 9) ∧ ∃ v, Span (With rows r) v ∧ (∀ i, v.h i = false) ∧ v ≠ Vc.zero) ∨
      (∃ rows' k, addRow rows r = (rows', true, 0) ∧ rows' = insRow rows k (redRow rows r) ∧ Lead (vc (redRow rows r)) k ∧ rows'.length = rows.length + 1 ∧ Sys B K rows' ∧ ∀ v, Sp (pl rows') v ↔ Span (With rows r) v) := by
  have hf := redRow_fit (r := r) hs.fit h
  have hv := redRow_vc hs h
  have hcl := redRow_clean hs h
  unfold addRow
  by_cases h0 : (redRow rows r).fst < 0
  · rw [if_pos h0]
    have hz := fst_none.1 h0
    by_cases hd : (redRow rows r).data.all (fun c => c == 0) = true
    · rw [if_pos hd]
      refine .inl ⟨rfl, ?_⟩
      have := zero_of hf hz hd
      rw [hv] at this
      rw [Vc.eq_of_add this]
      exact span_pj _ _
    · rw [if_neg hd]
      refine .inr (.inl ⟨rfl, vc (redRow rows r), (red_span hs h _).2 (.of (.inr rfl)), hz, fun e => hd ?_⟩)
      rw [List.all_eq_true]
      intro c hc
      obtain ⟨i, hi⟩ := List.mem_iff_getElem?.1 hc
      have : (vc (redRow rows r)).d i = 0 := by rw [e]; rfl
      have h2 : (redRow rows r).data.getD i 0 = 0 := this
      rw [List.getD_eq_getElem?_getD, hi] at h2
      simpa using h2
  · rw [if_neg h0]
    obtain ⟨k, hk⟩ := Int.eq_ofNat_of_zero_le (show 0 ≤ (redRow rows r).fst by omega)
    have hl := fst_lead.1 hk
    obtain ⟨h1, h2⟩ := insRow_sys hs hf hl hcl
    rw [hk]
    exact .inr (.inr ⟨_, k, rfl, rfl, hl, length_insRow _ _ _, h1, fun v => (h2 v).trans (red_span hs h v).symm⟩)
end Go.Proofs.YtmiaplgfbphfmaaGreatDoor
namespace Go.Proofs.YtmiaplgfbphfmaaGreatDoor
open Go.RowKit
attribute [local irreducible] wpList

def bxTo (acc b : List Bool) (i : Nat) : List Bool := (bx acc b).take i ++ acc.drop i
theorem bxTo_zero (acc b : List Bool) : bxTo acc b 0 = acc := by simp [bxTo]
theorem length_bx {a b : List Bool} (h : a.length = b.length) : (bx a b).length = a.length := by simp [bx, h]
theorem bxTo_all {acc b : List Bool} {n : Nat} (ha : acc.length = n) (hb : b.length = n) : bxTo acc b n = bx acc b := by
  rw [bxTo, List.drop_eq_nil_of_le (by omega), List.take_of_length_le (by rw [length_bx (by omega)]; omega), List.append_nil]
theorem length_bxTo {acc b : List Bool} {i : Nat} (h : acc.length = b.length) (hi : i ≤ acc.length) : (bxTo acc b i).length = acc.length := by
  simp [bxTo, length_bx h]; omega
theorem bxTo_get {acc b : List Bool} {i : Nat} {x : Bool} (h : acc.length = b.length) (hx : acc[i]? = some x) : (bxTo acc b i)[i]? = some x := by
  have hi := (List.getElem?_eq_some_iff.1 hx).1
  rw [bxTo, List.getElem?_append_right (by rw [List.length_take]; omega), List.length_take, length_bx h, Nat.min_eq_left (by omega), Nat.sub_self, List.getElem?_drop]
  simpa using hx
theorem bxTo_succ {acc b : List Bool} {i : Nat} {x y : Bool} (h : acc.length = b.length) (hx : acc[i]? = some x) (hy : b[i]? = some y) : (bxTo acc b i).set i (x != y) = bxTo acc b (i + 1) := by
  have hi := (List.getElem?_eq_some_iff.1 hx).1
  have hz : (bx acc b)[i]? = some (x != y) := by simp [bx, List.getElem?_zipWith, hx, hy]
  have hl : ((bx acc b).take i).length = i := by rw [List.length_take, length_bx h]; omega
  rw [bxTo, bxTo, take_snoc' hz, drop_cons hx, List.set_append_right _ _ (by omega), hl, Nat.sub_self, List.set_cons_zero, List.append_assoc]
  rfl

set_option maxRecDepth 100000 in
set_option maxHeartbeats 2000000 in
theorem rowAdd_any (w : World) (g o h d : Nat) (n ch m cd : Nat) (a b : Rw) (tb tu : TypeId) (A2 A3 : Option Addr) (c2 c3 : Nat)
    (c0 : w.cell? ⟨g, o, none⟩ = some (.slice (some ⟨h, 0, none⟩) n ch)) (c1 : w.cell? ⟨g, o + 1, none⟩ = some (.slice (some ⟨d, 0, none⟩) m cd))
    (k1 : Blk Value.bool w tb h a.has) (k2 : Blk bV w tu d a.data) (hd : h ≠ d) (hg : g ≠ h) (gd : g ≠ d)
    (la : a.has.length = n) (lb : a.data.length = m) (h1 : n ≤ lim) (h2 : m ≤ lim)
    (b1 : Sl 1 eBool w (fun x => x < w.heap.size ∧ x ≠ h ∧ x ≠ d) A2 n b.has) (b2 : Sl 1 eByte w (fun x => x < w.heap.size ∧ x ≠ h ∧ x ≠ d) A3 m b.data) :
    Calls Tryz.prog 189 #[.pointer (some ⟨g, o, none⟩), .agg #[.slice A2 n c2, .slice A3 m c3]] w fun e w' => e = .returned (.tuple #[]) ∧ Blk Value.bool w' tb h (bx a.has b.has) ∧ Blk bV w' tu d (zx a.data b.data) ∧ Chg (fun x => x = h ∨ x = d) w w' := by
  unfold lim at h1 h2
  have hgl : g < w.heap.size := World.block_lt_of_cell? w _ c0
  have hhl := k1.lt
  have hdl := k2.lt
  obtain ⟨W1, hW1⟩ : ∃ W1, W1 = w.alloc (.cells #[.slice A2 n c2, .slice A3 m c3] 242) := ⟨_, rfl⟩
  have HF1 : Hid (Fr w W1) := by rw [hW1]; exact frAlloc _ _
  have HB : Hid (W1.heap[w.heap.size]? = some (.cells #[.slice A2 n c2, .slice A3 m c3] 242 (0, 0))) := by rw [hW1]; exact heap_new rfl
  have q0 : W1.cell? ⟨g, o, none⟩ = some (.slice (some ⟨h, 0, none⟩) n ch) := (HF1.out.cell (p := ⟨g, o, none⟩) hgl).trans c0
  have q1 : W1.cell? ⟨g, o + 1, none⟩ = some (.slice (some ⟨d, 0, none⟩) m cd) := (HF1.out.cell (p := ⟨g, o + 1, none⟩) hgl).trans c1
  have B1 : Hid (Sl 1 eBool W1 (fun x => x < w.heap.size ∧ x ≠ h ∧ x ≠ d) A2 n b.has) := b1.keep sBool fun p hp => HF1.out.cell hp.1
  have B2 : Hid (Sl 1 eByte W1 (fun x => x < w.heap.size ∧ x ≠ h ∧ x ≠ d) A3 m b.data) := b2.keep sByte fun p hp => HF1.out.cell hp.1
  have K1 := Lib.hid (k1.fr HF1.out)
  have K2 := Lib.hid (k2.fr HF1.out)
  have hz1 : w.heap.size < W1.heap.size := (Array.getElem?_eq_some_iff.1 HB.out).1
  have HW1 := Lib.hid hW1
  have p0 := q0
  rw [hW1] at p0
  have lhb := b1.1
  have ldb := b2.1
  clear k1 k2 b1 b2 c0 c1 hW1
  (have La := Lib.hid la; clear la; have Lb := Lib.hid lb; clear lb; have Lhb := Lib.hid lhb; clear lhb; have Ldb := Lib.hid ldb; clear ldb)
  go_enter Tryz.func189, Tryz.ntmps189
  go_wp2_with fail
  rw [← HW1.out]
  clear HW1 p0
  have hb0 := HB.out
  (obtain ⟨z0, z1⟩ := box2_ hb0)
  clear hb0
  go_wp2_with fail
  go_loopw [11] (fun s11 wr => ∃ k : Nat, k ≤ n ∧ s11 = .int .i64 k ∧ Hid (Blk Value.bool wr tb h (bxTo a.has b.has k)) ∧ Hid (Chg (fun x => x = h) W1 wr)) (fun i _ => n - (intOf i).toNat)
  case atStart => exact ⟨0, Nat.zero_le _, rfl, by rw [bxTo_zero]; exact K1, Chg.refl _ _⟩
  case round =>
    obtain ⟨k, hk, rfl, HK, HC⟩ := hrel
    by_cases hlt : k < n
    · obtain ⟨ab, rfl, hEb⟩ := B1.out.els (by omega)
      obtain ⟨y, hy, hcy⟩ := hEb.bool hlt
      have hpb := hEb.2.1
      have hcy2 : wr.cell? (ab.add k) = some (.bool y) := (HC.out.cell (by rw [block_of_add]; exact Nat.lt_of_lt_of_le hpb.1 HF1.out.size) (by rw [block_of_add]; exact hpb.2.1)).trans hcy
      obtain ⟨x, hx⟩ : ∃ x, a.has[k]? = some x := ⟨_, List.getElem?_eq_getElem (by rw [La.out]; exact hlt)⟩
      have hlen : a.has.length = b.has.length := La.out.trans Lhb.out.symm
      have hcx := HK.out.cell (bxTo_get hlen hx)
      have hfx := HK.out.free (i := k)
      have g0 : wr.cell? ⟨g, o, none⟩ = some (.slice (some ⟨h, 0, none⟩) n ch) := (HC.out.cell (Nat.lt_of_lt_of_le hgl HF1.out.size) hg).trans q0
      have hbw := HC.out.blk HB.out (by omega)
      (obtain ⟨u0, u1⟩ := box2_ hbw)
      have R : Hid (Blk Value.bool (wr.setCell ⟨h, k, none⟩ (.bool (x != y))) tb h (bxTo a.has b.has (k + 1))) := by
        rw [← bxTo_succ hlen hx hy]
        exact HK.out.set (by rw [length_bxTo hlen (by rw [La.out]; omega), La.out]; exact hlt) _
      have R2 : Hid (Chg (fun x => x = h) W1 (wr.setCell ⟨h, k, none⟩ (.bool (!x == y))).drew) := (HC.out.set rfl _).drew
      clear hEb hy hcy hx hlen hbw HK
      go_wp2_with fail
      go_still_tail 19, (by kernel_rfl)
      go_wp2_with fail
      go_roundw
      case rel => exact ⟨k + 1, by omega, by go_num, R, R2⟩
      case measure => simp [intOf]; omega
    · obtain rfl : k = n := by omega
      rw [bxTo_all La.out Lhb.out] at HK
      have g1 : wr.cell? ⟨g, o + 1, none⟩ = some (.slice (some ⟨d, 0, none⟩) m cd) := (HC.out.cell (Nat.lt_of_lt_of_le hgl HF1.out.size) hg).trans q1
      have K3 := Lib.hid (K2.out.chg HC.out (fun e => hd e.symm))
      obtain ⟨Wm, hWm⟩ : ∃ Wm, Wm = wr := ⟨_, rfl⟩
      rw [← hWm] at g1 K3 HK HC ⊢
      clear hWm
      go_wp2_with fail
      go_loopw [39] (fun s39 wr => ∃ k : Nat, k ≤ m ∧ s39 = .int .i64 k ∧ Hid (Blk bV wr tu d (xorTo a.data b.data k)) ∧ Hid (Chg (fun x => x = d) Wm wr)) (fun i _ => m - (intOf i).toNat)
      case atStart => exact ⟨0, Nat.zero_le _, rfl, by rw [xorTo_zero]; exact K3, Chg.refl _ _⟩
      case round =>
        obtain ⟨k, hk, rfl, HK3, HC3⟩ := hrel
        by_cases hlt : k < m
        · obtain ⟨ab, rfl, hEb⟩ := B2.out.els (by omega)
          obtain ⟨y, hy, hcy⟩ := hEb.byte hlt
          have hpb := hEb.2.1
          have hpl : ab.block < Wm.heap.size := Nat.lt_of_lt_of_le (Nat.lt_of_lt_of_le hpb.1 HF1.out.size) HC.out.size
          have hcy2 : wr.cell? (ab.add k) = some (.int .u8 (y.toNat : Int)) := ((HC3.out.cell (by rw [block_of_add]; exact hpl) (by rw [block_of_add]; exact hpb.2.2)).trans (HC.out.cell (by rw [block_of_add]; exact Nat.lt_of_lt_of_le hpb.1 HF1.out.size) (by rw [block_of_add]; exact hpb.2.1))).trans hcy
          obtain ⟨x, hx⟩ : ∃ x, a.data[k]? = some x := ⟨_, List.getElem?_eq_getElem (by rw [Lb.out]; exact hlt)⟩
          have hlen : a.data.length = b.data.length := Lb.out.trans Ldb.out.symm
          have hcx : wr.cell? ⟨d, k, none⟩ = some (.int .u8 (x.toNat : Int)) := HK3.out.cell (xorTo_get hlen hx)
          have hfx := HK3.out.free (i := k)
          have g0 : wr.cell? ⟨g, o + 1, none⟩ = some (.slice (some ⟨d, 0, none⟩) m cd) := (HC3.out.cell (Nat.lt_of_lt_of_le (Nat.lt_of_lt_of_le hgl HF1.out.size) HC.out.size) gd).trans g1
          have hbw := HC3.out.blk (HC.out.blk HB.out (by omega)) (by omega)
          (obtain ⟨u0, u1⟩ := box2_ hbw)
          have hxor := u8_xor_byte x y
          have R : Hid (Blk bV (wr.setCell ⟨d, k, none⟩ (.int .u8 ((x.toNat ^^^ y.toNat : Nat) : Int))).drew tu d (xorTo a.data b.data (k + 1))) := by
            rw [← UInt8.toNat_xor, ← xorTo_succ hlen hx hy]
            exact HK3.out.set (by rw [length_xorTo hlen (by rw [Lb.out]; omega), Lb.out]; exact hlt) _
          have R2 : Hid (Chg (fun x => x = d) Wm (wr.setCell ⟨d, k, none⟩ (.int .u8 ((x.toNat ^^^ y.toNat : Nat) : Int))).drew) := (HC3.out.set rfl _).drew
          clear hEb hy hcy hx hlen hbw HK3
          go_wp2_with fail
          go_still_tail 14, (by kernel_rfl)
          go_wp2_with fail
          go_roundw
          case rel => exact ⟨k + 1, by omega, by go_num, R, R2⟩
          case measure => simp [intOf]; omega
        · obtain rfl : k = m := by omega
          rw [xorTo_all Lb.out Ldb.out] at HK3
          go_wp2_with fail
          go_end0
          exact ⟨rfl, HK.out.chg HC3.out (fun e => hd e), HK3.out, HF1.out.chg.trans ((HC.out.more fun _ e => .inl e).trans (HC3.out.more fun _ e => .inr e))⟩
end Go.Proofs.YtmiaplgfbphfmaaGreatDoor
namespace Go.Proofs.YtmiaplgfbphfmaaGreatDoor
open Go.RowKit

/-- A slice of no element, made anew, is the call's own. -/
theorem Own.empty {α : Type} {size : Nat} {r : ERd α} {w : World} {base : Nat} {e : TypeId} (hb : base ≤ w.heap.size) : Own size r (w.alloc (.cells #[] e)) base e (.slice (some ⟨w.heap.size, 0, none⟩) 0 0) ([] : List α) :=
  ⟨[], World.ownsRow_lit w #[] 0 hb (by unfold maxLen; omega) (by simp), fun i x h => by simp at h⟩


set_option maxHeartbeats 400000 in
theorem cloneBytes_any (w : World) (A : Option Addr) (n c : Nat) (l : List UInt8) (h : Sl 1 eByte w (LT w.heap.size) A n l) (hm : n * 1 ≤ lim) :
    Calls Tryz.prog 69 #[.slice A n c] w fun e w' => ∃ v, e = .returned v ∧ Own 1 eByte w' w.heap.size 5 v l ∧ Fr w w' := by
  have hm2 := hm
  unfold lim at hm2
  cases A with
  | none =>
    have hn : n = 0 := by
      rcases Nat.eq_zero_or_pos n with h0 | h0
      · exact h0
      · obtain ⟨ad, e, _⟩ := h.2 h0; cases e
    have hl : l = [] := List.eq_nil_of_length_eq_zero (by rw [h.1]; exact hn)
    subst hl
    subst hn
    have hnil := fun (W : World) => Lib.run_eql_slice_nil (P := Tryz.prog) W 35 _ Option.none 0 c 0 0 Tryz.underlying35
    clear h
    go_enter Tryz.func69, Tryz.ntmps69
    go_wp2_with fail
    go_ret
    exact ⟨_, rfl, Own.nil, Below.refl _ _⟩
  | some ad =>
    have hnil := fun (W : World) => Lib.run_eql_slice_nil (P := Tryz.prog) W 35 _ (some ad) n c 0 0 Tryz.underlying35
    simp only [Option.isNone_some] at hnil
    obtain ⟨cs, hcl, hcc, hc1, hcr⟩ : ∃ cs : List Value, cs.length = n * 1 ∧ (∀ j u, cs[j]? = some u → w.cell? (ad.add j) = some u ∧ ad.block < w.heap.size) ∧ (∀ u ∈ cs, u.oneCell' = true) ∧ ∀ i x, l[i]? = some x → eByte w (LT w.heap.size) (fun j => cs[i * 1 + j]?) x := by
      rcases Nat.eq_zero_or_pos n with h0 | h0
      · have hl : l = [] := List.eq_nil_of_length_eq_zero (by rw [h.1]; exact h0)
        exact ⟨[], by simp [h0], fun j u hu => by simp at hu, fun u hu => by simp at hu, fun i x hx => by simp [hl] at hx⟩
      · obtain ⟨ad', e, hE⟩ := h.els h0
        injection e with e
        subst e
        obtain ⟨cs, k1, k2, k3, k4⟩ := hE.cells fByte sByte (by decide)
        exact ⟨cs, k1, fun j u hu => ⟨k2 j u hu, hE.2.1⟩, k3, k4⟩
    have hll := h.1
    (have H := Lib.hid h; clear h; have Hcl := Lib.hid hcl; clear hcl; have Hcc := Lib.hid hcc; clear hcc; have Hc1 := Lib.hid hc1; clear hc1; have Hcr := Lib.hid hcr; clear hcr; have Hll := Lib.hid hll; clear hll)
    go_enter Tryz.func69, Tryz.ntmps69
    go_wp2_with (at_builtin; refine wpList_apps _ rfl _ _ 35 rfl w.heap.size 5 _ _ _ Tryz.underlying35 infoByte rfl (by decide) sByte _ ([] : List UInt8) rfl (Own.empty (Nat.le_refl _)) ad n c cs rfl Hcl.out ?c1 Hc1.out l Hll.out ?c3 ?c4 ?c5 ?c6 ?_)
    case c1 => intro j u hu; obtain ⟨k1, k2⟩ := Hcc.out j u hu; exact ((frAlloc w _).cell (by rw [block_of_add]; exact k2)).trans k1
    case c3 =>
      intro i x hx
      refine (sByte).more (S := LT w.heap.size) (fun b hb => ?_) ((sByte).keep (fun p hp => (frAlloc w _).cell hp) (Hcr.out i x hx))
      have hb' : b < w.heap.size := hb
      refine ⟨by simp; omega, ?_⟩
      intro e
      have e2 : some w.heap.size = some b := e
      have : w.heap.size = b := by injection e2
      omega
    case c4 => unfold maxLen; simp; omega
    case c5 => unfold lim; simp; omega
    case c6 => simp
    · intro v' w1 hown hg hge
      have HO : Hid (Own 1 eByte w1 w.heap.size 5 v' l) := hown
      have HF : Hid (Fr w w1) := (frAlloc w _).grown hg (by simp) hge
      clear hown hg hge
      go_wp2_with fail
      go_ret
      exact ⟨v', rfl, HO.out, HF.out⟩
set_option maxHeartbeats 400000 in
theorem cloneBlock_any (w : World) (A : Option Addr) (n c : Nat) (l : List UInt8) (h : Sl 1 eByte w (LT w.heap.size) A n l) (hm : n * 1 ≤ lim) :
    Calls Tryz.prog 107 #[.slice A n c] w fun e w' => ∃ v, e = .returned v ∧ Own 1 eByte w' w.heap.size 5 v l ∧ Fr w w' := by
  have hm2 := hm
  unfold lim at hm2
  cases A with
  | none =>
    have hn : n = 0 := by
      rcases Nat.eq_zero_or_pos n with h0 | h0
      · exact h0
      · obtain ⟨ad, e, _⟩ := h.2 h0; cases e
    have hl : l = [] := List.eq_nil_of_length_eq_zero (by rw [h.1]; exact hn)
    subst hl
    subst hn
    have hnil := fun (W : World) => Lib.run_eql_slice_nil (P := Tryz.prog) W 36 _ Option.none 0 c 0 0 Tryz.underlying36
    clear h
    go_enter Tryz.func107, Tryz.ntmps107
    go_wp2_with fail
    go_ret
    exact ⟨_, rfl, Own.nil, Below.refl _ _⟩
  | some ad =>
    have hnil := fun (W : World) => Lib.run_eql_slice_nil (P := Tryz.prog) W 36 _ (some ad) n c 0 0 Tryz.underlying36
    simp only [Option.isNone_some] at hnil
    obtain ⟨cs, hcl, hcc, hc1, hcr⟩ : ∃ cs : List Value, cs.length = n * 1 ∧ (∀ j u, cs[j]? = some u → w.cell? (ad.add j) = some u ∧ ad.block < w.heap.size) ∧ (∀ u ∈ cs, u.oneCell' = true) ∧ ∀ i x, l[i]? = some x → eByte w (LT w.heap.size) (fun j => cs[i * 1 + j]?) x := by
      rcases Nat.eq_zero_or_pos n with h0 | h0
      · have hl : l = [] := List.eq_nil_of_length_eq_zero (by rw [h.1]; exact h0)
        exact ⟨[], by simp [h0], fun j u hu => by simp at hu, fun u hu => by simp at hu, fun i x hx => by simp [hl] at hx⟩
      · obtain ⟨ad', e, hE⟩ := h.els h0
        injection e with e
        subst e
        obtain ⟨cs, k1, k2, k3, k4⟩ := hE.cells fByte sByte (by decide)
        exact ⟨cs, k1, fun j u hu => ⟨k2 j u hu, hE.2.1⟩, k3, k4⟩
    have hll := h.1
    (have H := Lib.hid h; clear h; have Hcl := Lib.hid hcl; clear hcl; have Hcc := Lib.hid hcc; clear hcc; have Hc1 := Lib.hid hc1; clear hc1; have Hcr := Lib.hid hcr; clear hcr; have Hll := Lib.hid hll; clear hll)
    go_enter Tryz.func107, Tryz.ntmps107
    go_wp2_with (at_builtin; refine wpList_apps _ rfl _ _ 36 rfl w.heap.size 5 _ _ _ Tryz.underlying36 infoByte rfl (by decide) sByte _ ([] : List UInt8) rfl (Own.empty (Nat.le_refl _)) ad n c cs rfl Hcl.out ?c1 Hc1.out l Hll.out ?c3 ?c4 ?c5 ?c6 ?_)
    case c1 => intro j u hu; obtain ⟨k1, k2⟩ := Hcc.out j u hu; exact ((frAlloc w _).cell (by rw [block_of_add]; exact k2)).trans k1
    case c3 =>
      intro i x hx
      refine (sByte).more (S := LT w.heap.size) (fun b hb => ?_) ((sByte).keep (fun p hp => (frAlloc w _).cell hp) (Hcr.out i x hx))
      have hb' : b < w.heap.size := hb
      refine ⟨by simp; omega, ?_⟩
      intro e
      have e2 : some w.heap.size = some b := e
      have : w.heap.size = b := by injection e2
      omega
    case c4 => unfold maxLen; simp; omega
    case c5 => unfold lim; simp; omega
    case c6 => simp
    · intro v' w1 hown hg hge
      have HO : Hid (Own 1 eByte w1 w.heap.size 5 v' l) := hown
      have HF : Hid (Fr w w1) := (frAlloc w _).grown hg (by simp) hge
      clear hown hg hge
      go_wp2_with fail
      go_ret
      exact ⟨v', rfl, HO.out, HF.out⟩
end Go.Proofs.YtmiaplgfbphfmaaGreatDoor
namespace Go.Proofs.YtmiaplgfbphfmaaGreatDoor
open Go.RowKit
attribute [local irreducible] wpList

theorem infoRow : (Tryz.prog.info? 242).map (fun i => (i.zero, i.size, i.bytes)) = some (some (.agg #[.slice none 0 0, .slice none 0 0]), 2, 48) := by kernel_rfl
set_option maxHeartbeats 400000 in
theorem cloneBools_any (w : World) (A : Option Addr) (n c : Nat) (l : List Bool) (h : Sl 1 eBool w (LT w.heap.size) A n l) (hm : n * 1 ≤ lim) :
    Calls Tryz.prog 187 #[.slice A n c] w fun e w' => ∃ v, e = .returned v ∧ Own 1 eBool w' w.heap.size 4 v l ∧ Fr w w' := by
  have hm2 := hm
  unfold lim at hm2
  cases A with
  | none =>
    have hn : n = 0 := by
      rcases Nat.eq_zero_or_pos n with h0 | h0
      · exact h0
      · obtain ⟨ad, e, _⟩ := h.2 h0; cases e
    have hl : l = [] := List.eq_nil_of_length_eq_zero (by rw [h.1]; exact hn)
    subst hl
    subst hn
    have hnil := fun (W : World) => Lib.run_eql_slice_nil (P := Tryz.prog) W 236 _ Option.none 0 c 0 0 Tryz.underlying236
    clear h
    go_enter Tryz.func187, Tryz.ntmps187
    go_wp2_with fail
    go_ret
    exact ⟨_, rfl, Own.nil, Below.refl _ _⟩
  | some ad =>
    have hnil := fun (W : World) => Lib.run_eql_slice_nil (P := Tryz.prog) W 236 _ (some ad) n c 0 0 Tryz.underlying236
    simp only [Option.isNone_some] at hnil
    obtain ⟨cs, hcl, hcc, hc1, hcr⟩ : ∃ cs : List Value, cs.length = n * 1 ∧ (∀ j u, cs[j]? = some u → w.cell? (ad.add j) = some u ∧ ad.block < w.heap.size) ∧ (∀ u ∈ cs, u.oneCell' = true) ∧ ∀ i x, l[i]? = some x → eBool w (LT w.heap.size) (fun j => cs[i * 1 + j]?) x := by
      rcases Nat.eq_zero_or_pos n with h0 | h0
      · have hl : l = [] := List.eq_nil_of_length_eq_zero (by rw [h.1]; exact h0)
        exact ⟨[], by simp [h0], fun j u hu => by simp at hu, fun u hu => by simp at hu, fun i x hx => by simp [hl] at hx⟩
      · obtain ⟨ad', e, hE⟩ := h.els h0
        injection e with e
        subst e
        obtain ⟨cs, k1, k2, k3, k4⟩ := hE.cells fBool sBool (by decide)
        exact ⟨cs, k1, fun j u hu => ⟨k2 j u hu, hE.2.1⟩, k3, k4⟩
    have hll := h.1
    (have H := Lib.hid h; clear h; have Hcl := Lib.hid hcl; clear hcl; have Hcc := Lib.hid hcc; clear hcc; have Hc1 := Lib.hid hc1; clear hc1; have Hcr := Lib.hid hcr; clear hcr; have Hll := Lib.hid hll; clear hll)
    go_enter Tryz.func187, Tryz.ntmps187
    go_wp2_with (at_builtin; refine wpList_apps _ rfl _ _ 236 rfl w.heap.size 4 _ _ _ Tryz.underlying236 infoBool rfl (by decide) sBool _ ([] : List Bool) rfl (Own.empty (Nat.le_refl _)) ad n c cs rfl Hcl.out ?c1 Hc1.out l Hll.out ?c3 ?c4 ?c5 ?c6 ?_)
    case c1 => intro j u hu; obtain ⟨k1, k2⟩ := Hcc.out j u hu; exact ((frAlloc w _).cell (by rw [block_of_add]; exact k2)).trans k1
    case c3 =>
      intro i x hx
      refine (sBool).more (S := LT w.heap.size) (fun b hb => ?_) ((sBool).keep (fun p hp => (frAlloc w _).cell hp) (Hcr.out i x hx))
      have hb' : b < w.heap.size := hb
      refine ⟨by simp; omega, ?_⟩
      intro e
      have e2 : some w.heap.size = some b := e
      have : w.heap.size = b := by injection e2
      omega
    case c4 => unfold maxLen; simp; omega
    case c5 => unfold lim; simp; omega
    case c6 => simp
    · intro v' w1 hown hg hge
      have HO : Hid (Own 1 eBool w1 w.heap.size 4 v' l) := hown
      have HF : Hid (Fr w w1) := (frAlloc w _).grown hg (by simp) hge
      clear hown hg hge
      go_wp2_with fail
      go_ret
      exact ⟨v', rfl, HO.out, HF.out⟩
section
variable (N : Nat)
set_option maxHeartbeats 400000 in
theorem cloneRows_any (w : World) (A : Option Addr) (n c : Nat) (l : List Rw) (h : Sl 2 (eLow N eRw) w (LT w.heap.size) A n l) (hm : n * 48 ≤ lim) :
    Calls Tryz.prog 213 #[.slice A n c] w fun e w' => ∃ v, e = .returned v ∧ Own 2 (eLow N eRw) w' w.heap.size 242 v l ∧ Fr w w' := by
  have hm2 := hm
  unfold lim at hm2
  cases A with
  | none =>
    have hn : n = 0 := by
      rcases Nat.eq_zero_or_pos n with h0 | h0
      · exact h0
      · obtain ⟨ad, e, _⟩ := h.2 h0; cases e
    have hl : l = [] := List.eq_nil_of_length_eq_zero (by rw [h.1]; exact hn)
    subst hl
    subst hn
    have hnil := fun (W : World) => Lib.run_eql_slice_nil (P := Tryz.prog) W 231 _ Option.none 0 c 0 0 Tryz.underlying231
    clear h
    go_enter Tryz.func213, Tryz.ntmps213
    go_wp2_with fail
    go_ret
    exact ⟨_, rfl, Own.nil, Below.refl _ _⟩
  | some ad =>
    have hnil := fun (W : World) => Lib.run_eql_slice_nil (P := Tryz.prog) W 231 _ (some ad) n c 0 0 Tryz.underlying231
    simp only [Option.isNone_some] at hnil
    obtain ⟨cs, hcl, hcc, hc1, hcr⟩ : ∃ cs : List Value, cs.length = n * 2 ∧ (∀ j u, cs[j]? = some u → w.cell? (ad.add j) = some u ∧ ad.block < w.heap.size) ∧ (∀ u ∈ cs, u.oneCell' = true) ∧ ∀ i x, l[i]? = some x → (eLow N eRw) w (LT w.heap.size) (fun j => cs[i * 2 + j]?) x := by
      rcases Nat.eq_zero_or_pos n with h0 | h0
      · have hl : l = [] := List.eq_nil_of_length_eq_zero (by rw [h.1]; exact h0)
        exact ⟨[], by simp [h0], fun j u hu => by simp at hu, fun u hu => by simp at hu, fun i x hx => by simp [hl] at hx⟩
      · obtain ⟨ad', e, hE⟩ := h.els h0
        injection e with e
        subst e
        obtain ⟨cs, k1, k2, k3, k4⟩ := hE.cells (fRw.low N) (sRw.low N) (by decide)
        exact ⟨cs, k1, fun j u hu => ⟨k2 j u hu, hE.2.1⟩, k3, k4⟩
    have hll := h.1
    (have H := Lib.hid h; clear h; have Hcl := Lib.hid hcl; clear hcl; have Hcc := Lib.hid hcc; clear hcc; have Hc1 := Lib.hid hc1; clear hc1; have Hcr := Lib.hid hcr; clear hcr; have Hll := Lib.hid hll; clear hll)
    go_enter Tryz.func213, Tryz.ntmps213
    go_wp2_with (at_builtin; refine wpList_apps _ rfl _ _ 231 rfl w.heap.size 242 _ _ _ Tryz.underlying231 infoRow rfl (by decide) (sRw.low N) _ ([] : List Rw) rfl (Own.empty (Nat.le_refl _)) ad n c cs rfl Hcl.out ?c1 Hc1.out l Hll.out ?c3 ?c4 ?c5 ?c6 ?_)
    case c1 => intro j u hu; obtain ⟨k1, k2⟩ := Hcc.out j u hu; exact ((frAlloc w _).cell (by rw [block_of_add]; exact k2)).trans k1
    case c3 =>
      intro i x hx
      refine ((sRw.low N)).more (S := LT w.heap.size) (fun b hb => ?_) (((sRw.low N)).keep (fun p hp => (frAlloc w _).cell hp) (Hcr.out i x hx))
      have hb' : b < w.heap.size := hb
      refine ⟨by simp; omega, ?_⟩
      intro e
      have e2 : some w.heap.size = some b := e
      have : w.heap.size = b := by injection e2
      omega
    case c4 => unfold maxLen; simp; omega
    case c5 => unfold lim; simp; omega
    case c6 => simp
    · intro v' w1 hown hg hge
      have HO : Hid (Own 2 (eLow N eRw) w1 w.heap.size 242 v' l) := hown
      have HF : Hid (Fr w w1) := (frAlloc w _).grown hg (by simp) hge
      clear hown hg hge
      go_wp2_with fail
      go_ret
      exact ⟨v', rfl, HO.out, HF.out⟩
end
theorem own_blk {α : Type} {en : α → Value} {r : ERd α} (hr0 : ∀ {w S f x}, r w S f x → f 0 = some (en x)) {w : World} {base : Nat} {e : TypeId} {v : Value} {l : List α} (h : Own 1 r w base e v l) (hn : 0 < l.length) :
    ∃ g cap, v = .slice (some ⟨g, 0, none⟩) l.length cap ∧ base ≤ g ∧ Blk en w e g l ∧ l.length ≤ cap ∧ cap ≤ maxLen := by
  obtain ⟨cs, ho, hr⟩ := h
  have hlen := ho.1
  rcases ho.2 with ⟨rfl, h0⟩ | ⟨g, cap, cur, rfl, hbg, hg, hnc, hcm, hcs, htake⟩
  · omega
  · have hcs' : cs = l.map en := by
      apply List.ext_getElem?
      intro i
      by_cases hi : i < l.length
      · have h2 : cs[i * 1 + 0]? = some (en l[i]) := hr0 (hr i l[i] (List.getElem?_eq_getElem hi))
        simp only [Nat.mul_one, Nat.add_zero] at h2
        rw [h2, List.getElem?_map, List.getElem?_eq_getElem hi]; rfl
      · rw [List.getElem?_eq_none (by omega), List.getElem?_eq_none (by simp; omega)]
    refine ⟨g, cap, rfl, hbg, ⟨cur.toList.drop (l.length * 1), ?_⟩, hnc, hcm⟩
    rw [hg, ← hcs', ← htake, List.take_append_drop]
/-- Bools cloned: a block of their own. -/
theorem cloneBools_blk (w : World) (A : Option Addr) (n c : Nat) (l : List Bool) (h : Sl 1 eBool w (LT w.heap.size) A n l) (hm : n * 1 ≤ lim) (hn : 0 < n) :
    Calls Tryz.prog 187 #[.slice A n c] w fun e w' => ∃ g cap, e = .returned (.slice (some ⟨g, 0, none⟩) n cap) ∧ w.heap.size ≤ g ∧ Blk Value.bool w' 4 g l ∧ (n ≤ cap ∧ cap ≤ maxLen) ∧ Fr w w' :=
  (cloneBools_any w A n c l h hm).mono fun e w' ⟨v, he, ho, hf⟩ => by
    obtain ⟨g, cap, rfl, h1, h2, h3⟩ := own_blk (en := Value.bool) (fun h => h) ho (by rw [h.1]; exact hn)
    rw [h.1] at he h3
    exact ⟨g, cap, he, h1, h2, h3, hf⟩
theorem cloneBlock_blk (w : World) (A : Option Addr) (n c : Nat) (l : List UInt8) (h : Sl 1 eByte w (LT w.heap.size) A n l) (hm : n * 1 ≤ lim) (hn : 0 < n) :
    Calls Tryz.prog 107 #[.slice A n c] w fun e w' => ∃ g cap, e = .returned (.slice (some ⟨g, 0, none⟩) n cap) ∧ w.heap.size ≤ g ∧ Blk bV w' 5 g l ∧ (n ≤ cap ∧ cap ≤ maxLen) ∧ Fr w w' :=
  (cloneBlock_any w A n c l h hm).mono fun e w' ⟨v, he, ho, hf⟩ => by
    obtain ⟨g, cap, rfl, h1, h2, h3⟩ := own_blk (en := bV) (fun h => h) ho (by rw [h.1]; exact hn)
    rw [h.1] at he h3
    exact ⟨g, cap, he, h1, h2, h3, hf⟩

/-- A row whose two slices lie in blocks of its own. -/
def RowM (w : World) (own : Nat → Option Nat) (g i : Nat) (r : Rw) : Prop :=
  ∃ h ch d cd, own h = some i ∧ own d = some i ∧ h ≠ d ∧ w.cell? ⟨g, i * 2, none⟩ = some (.slice (some ⟨h, 0, none⟩) r.has.length ch) ∧ w.cell? ⟨g, i * 2 + 1, none⟩ = some (.slice (some ⟨d, 0, none⟩) r.data.length cd) ∧
    (r.has.length ≤ ch ∧ ch ≤ maxLen) ∧ (r.data.length ≤ cd ∧ cd ≤ maxLen) ∧ Blk Value.bool w 4 h r.has ∧ Blk bV w 5 d r.data
theorem RowM.chg {w w' : World} {own : Nat → Option Nat} {g i : Nat} {r : Rw} {S : Nat → Prop} (h : RowM w own g i r) (k : Chg S w w') (hg : ¬ S g) (hS : ∀ b, own b = some i → ¬ S b) : RowM w' own g i r := by
  obtain ⟨h, ch, d, cd, h1, h2, h3, h4, h5, h6, h7, h8, h9⟩ := h
  have hl := World.block_lt_of_cell? w _ h4
  exact ⟨h, ch, d, cd, h1, h2, h3, (k.cell (p := ⟨g, i * 2, none⟩) hl hg).trans h4, (k.cell (p := ⟨g, i * 2 + 1, none⟩) hl hg).trans h5, h6, h7, h8.chg k (hS _ h1), h9.chg k (hS _ h2)⟩
theorem RowM.own {w : World} {own own' : Nat → Option Nat} {g i : Nat} {r : Rw} (h : RowM w own g i r) (ho : ∀ b, own b = some i → own' b = some i) : RowM w own' g i r := by
  obtain ⟨h, ch, d, cd, h1, h2, h3⟩ := h
  exact ⟨h, ch, d, cd, ho _ h1, ho _ h2, h3⟩
theorem RowM.rd {w : World} {own : Nat → Option Nat} {g i : Nat} {r : Rw} {S : Nat → Prop} {f : Nat → Option Value} (h : RowM w own g i r) (hl : r.has.length ≤ 24 ∧ r.data.length ≤ 16) (hS : ∀ b, own b = some i → b < w.heap.size → S b) (hf : ∀ j, j < 2 → f j = w.cell? ⟨g, i * 2 + j, none⟩) : eRw w S f r := by
  obtain ⟨h, ch, d, cd, h1, h2, h3, h4, h5, h6, h7, h8, h9⟩ := h
  refine eRw_iff.2 ⟨_, _, _, _, _, _, ⟨(hf 0 (by decide)).trans h4, (hf 1 (by decide)).trans h5⟩, ⟨⟨by unfold lim; omega, h6⟩, h8.bools (hS _ h1 h8.lt)⟩, ⟨⟨by unfold lim; omega, h7⟩, h9.bytes (hS _ h2 h9.lt)⟩⟩

/-- Rows in memory of the call's own, each in blocks of its own. -/
structure SysM (w : World) (own : Nat → Option Nat) (base g cap : Nat) (rows : List Rw) : Prop where
  hblk : ∃ cs rest : List Value, w.heap[g]? = some (.cells (cs ++ rest).toArray 242 (0, 0)) ∧ cs.length = rows.length * 2 ∧ cs.length + rest.length = cap * 2
  hcap : rows.length ≤ cap ∧ cap ≤ maxLen
  hbase : base ≤ g
  hown : ∀ b i, own b = some i → base ≤ b ∧ b ≠ g ∧ b < w.heap.size
  hrow : ∀ i x, rows[i]? = some x → RowM w own g i x
theorem SysM.chg {w w' : World} {own : Nat → Option Nat} {base g cap : Nat} {rows : List Rw} {S : Nat → Prop} (h : SysM w own base g cap rows) (k : Chg S w w') (hg : ¬ S g) (hS : ∀ b i, own b = some i → ¬ S b) : SysM w' own base g cap rows := by
  obtain ⟨cs, rest, h1, h2⟩ := h.hblk
  exact ⟨⟨cs, rest, k.blk h1 hg, h2⟩, h.hcap, h.hbase, fun b i e => ⟨(h.hown b i e).1, (h.hown b i e).2.1, Nat.lt_of_lt_of_le (h.hown b i e).2.2 k.size⟩, fun i x hx => (h.hrow i x hx).chg k hg fun b hb => hS b i hb⟩
/-- As an own slice. -/
theorem SysM.toOwn {w : World} {own : Nat → Option Nat} {base g cap : Nat} {rows : List Rw} (h : SysM w own base g cap rows) (hl : ∀ r ∈ rows, r.has.length ≤ 24 ∧ r.data.length ≤ 16) : Own 2 (eHi base eRw) w base 242 (.slice (some ⟨g, 0, none⟩) rows.length cap) rows := by
  obtain ⟨cs, rest, hg, hc, hall⟩ := h.hblk
  refine row_own (w := w) (sRw.hi base) h.hbase hg ⟨rfl, rfl, rfl, Nat.le_refl _, fun _ _ _ => rfl⟩ h.hcap.1 h.hcap.2 hc hall fun i x hx => ?_
  refine (h.hrow i x hx).rd (hl x (List.mem_of_getElem? hx)) (fun b hb hlt => ⟨⟨hlt, (h.hown b i hb).2.1⟩, (h.hown b i hb).1⟩) fun j hj => ?_
  have hi := (List.getElem?_eq_some_iff.1 hx).1
  have hlt : i * 2 + j < cs.length := by omega
  rw [cells_at hg (List.getElem?_eq_getElem hlt), List.getElem?_eq_getElem hlt]
/-- An own slice of no element, behind stores elsewhere. -/
theorem Own.nilChg {α β : Type} {size : Nat} {r : ERd α} {r' : ERd β} {w w' : World} {base base' : Nat} {e : TypeId} {v : Value} {S : Nat → Prop} (h : Own size r w base e v ([] : List α)) (k : Chg S w w') (hb : base' ≤ base) (hS : ∀ b, base ≤ b → b < w.heap.size → ¬ S b) : Own size r' w' base' e v ([] : List β) := by
  obtain ⟨cs, ho, _⟩ := h
  refine ⟨cs, ⟨ho.1, ?_⟩, fun i x hx => by simp at hx⟩
  rcases ho.2 with h0 | ⟨g, cap, cur, h1, h2, h3, h4⟩
  · exact .inl h0
  · exact .inr ⟨g, cap, cur, h1, Nat.le_trans hb h2, k.blk h3 (hS g h2 (Array.getElem?_eq_some_iff.1 h3).1), h4⟩
end Go.Proofs.YtmiaplgfbphfmaaGreatDoor
namespace Go.Proofs.YtmiaplgfbphfmaaGreatDoor
open Go.RowKit

theorem grw2_ {g : Nat} {a w : World} {v0 v1 : Value} (h : a.grownBy w (some g)) : a.grownBy ((w.setCell ⟨g, 0, none⟩ v0).setCell ⟨g, 1, none⟩ v1) (some g) := (grown_set (grown_set h))
theorem grw3_ {g : Nat} {a w : World} {v0 v1 v2 : Value} (h : a.grownBy w (some g)) : a.grownBy (((w.setCell ⟨g, 0, none⟩ v0).setCell ⟨g, 1, none⟩ v1).setCell ⟨g, 2, none⟩ v2) (some g) := (grown_set (grown_set (grown_set h)))
theorem grw4_ {g : Nat} {a w : World} {v0 v1 v2 v3 : Value} (h : a.grownBy w (some g)) : a.grownBy ((((w.setCell ⟨g, 0, none⟩ v0).setCell ⟨g, 1, none⟩ v1).setCell ⟨g, 2, none⟩ v2).setCell ⟨g, 3, none⟩ v3) (some g) := (grown_set (grown_set (grown_set (grown_set h))))
theorem grw13_ {g : Nat} {a w : World} {v0 v1 v2 v3 v4 v5 v6 v7 v8 v9 v10 v11 v12 : Value} (h : a.grownBy w (some g)) : a.grownBy (((((((((((((w.setCell ⟨g, 0, none⟩ v0).setCell ⟨g, 1, none⟩ v1).setCell ⟨g, 2, none⟩ v2).setCell ⟨g, 3, none⟩ v3).setCell ⟨g, 4, none⟩ v4).setCell ⟨g, 5, none⟩ v5).setCell ⟨g, 6, none⟩ v6).setCell ⟨g, 7, none⟩ v7).setCell ⟨g, 8, none⟩ v8).setCell ⟨g, 9, none⟩ v9).setCell ⟨g, 10, none⟩ v10).setCell ⟨g, 11, none⟩ v11).setCell ⟨g, 12, none⟩ v12) (some g) := (grown_set (grown_set (grown_set (grown_set (grown_set (grown_set (grown_set (grown_set (grown_set (grown_set (grown_set (grown_set (grown_set h)))))))))))))
end Go.Proofs.YtmiaplgfbphfmaaGreatDoor
