/- Rows of a system, as memory reads and as lists. No condition. -/
import Derived.Test.YtbincgbgeccccaaGreatDoorIdx
import Derived.Test.YtbincgbgeccccaaGreatDoorSt
set_option linter.unusedSimpArgs false
set_option linter.unusedVariables false
namespace Go.Proofs.YtbincgbgeccccaaGreatDoor
open Go.RowKit
attribute [local irreducible] wpList

structure Rw where
  has : List Bool
  data : List UInt8
deriving DecidableEq
def Rw.tup (r : Rw) : List Bool × List UInt8 := (r.has, r.data)
abbrev eBools : ERd (List Bool) := eSl 1 1 eBool
theorem wBools : Stable 1 eBools := sSl sBool
def eRw : ERd Rw := eMap Rw.tup (ePair 1 eBools eBlock)
theorem sRw : Stable 2 eRw := .map _ (wBools.pair wBlock)
theorem fRw : Full 2 eRw := Full.map _ (fSl.pair fSl)
/-- Bools, read, of a right length. -/
def Bol (w : World) (S : Nat → Prop) (A : Option Addr) (n c : Nat) (l : List Bool) : Prop := (n * 1 ≤ lim ∧ n ≤ c ∧ c ≤ maxLen) ∧ Sl 1 eBool w S A n l
theorem Bol.go {w w' : World} {A : Option Addr} {n c : Nat} {l : List Bool} (h : Bol w (LT w.heap.size) A n c l) (hb : Fr w w') : Bol w' (LT w'.heap.size) A n c l := ⟨h.1, h.2.go sBool hb⟩
theorem eRw_iff {w : World} {S : Nat → Prop} {f : Nat → Option Value} {x : Rw} : eRw w S f x ↔ ∃ A n c A2 n2 c2, (f 0 = some (.slice A n c) ∧ f 1 = some (.slice A2 n2 c2)) ∧ Bol w S A n c x.has ∧ Byt w S A2 n2 c2 x.data := by
  unfold eRw eMap Rw.tup ePair
  constructor
  · rintro ⟨⟨A, n, c, h1, h2, h3⟩, A2, n2, c2, h4, h5, h6⟩
    exact ⟨A, n, c, A2, n2, c2, ⟨h1, h4⟩, ⟨h2, h3⟩, h5, h6⟩
  · rintro ⟨A, n, c, A2, n2, c2, ⟨h1, h4⟩, ⟨h2, h3⟩, h5, h6⟩
    exact ⟨⟨A, n, c, h1, h2, h3⟩, A2, n2, c2, h4, h5, h6⟩
theorem add_one_addr (q : Addr) (h : q.spot = none) : q.add 1 = ⟨q.block, q.off + 1, none⟩ := by unfold Addr.add; simp [h]
theorem eRw_at {w : World} {S : Nat → Prop} {q : Addr} {x : Rw} (h : eRw w S (fun j => w.cell? (q.add j)) x) : ∃ A n c A2 n2 c2, (w.cell? q = some (.slice A n c) ∧ w.cell? ⟨q.block, q.off + 1, none⟩ = some (.slice A2 n2 c2)) ∧ Bol w S A n c x.has ∧ Byt w S A2 n2 c2 x.data := by
  obtain ⟨A, n, c, A2, n2, c2, ⟨h1, h2⟩, h3⟩ := eRw_iff.1 h
  refine ⟨A, n, c, A2, n2, c2, ⟨by simpa [Addr.add] using h1, ?_⟩, h3⟩
  simpa [Addr.add] using h2

def Rw.fst (r : Rw) : Int := idxF true r.has
def lastOf (rows : List Rw) : Nat → Int
  | 0 => -1
  | i + 1 => match rows[i]? with
    | some q => q.fst
    | none => -1
theorem fst_ge (r : Rw) : -1 ≤ r.fst := (idxF_bd true r.has).1
theorem lastOf_ge (rows : List Rw) : ∀ i, -1 ≤ lastOf rows i
  | 0 => Int.le_refl _
  | i + 1 => by
    simp only [lastOf]
    split
    · exact fst_ge _
    · exact Int.le_refl _
theorem lastOf_succ {rows : List Rw} {i : Nat} {r : Rw} (h : rows[i]? = some r) : lastOf rows (i + 1) = r.fst := by simp only [lastOf, h]
/-- Is a row right, at its place? -/
structure RowOk (B K : Int) (rows : List Rw) (i : Nat) (r : Rw) : Prop where
  has : (r.has.length : Int) = B
  data : (r.data.length : Int) = K
  up : lastOf rows i < r.fst
  alone : ∀ (j : Nat) (o : Rw), j ≠ i → rows[j]? = some o → o.has.getD r.fst.toNat false = false
def RowsOk (B K : Int) (rows : List Rw) : Prop := ∀ (i : Nat) (r : Rw), rows[i]? = some r → RowOk B K rows i r
def rowOkB (B K : Int) (rows : List Rw) (i : Nat) (r : Rw) : Bool :=
  decide ((r.has.length : Int) = B) && decide ((r.data.length : Int) = K) && decide (lastOf rows i < r.fst) && (List.range rows.length).all fun j => decide (j = i) || !((rows.getD j ⟨[], []⟩).has.getD r.fst.toNat false)
def rowsOkB (B K : Int) (rows : List Rw) : Bool := (List.range rows.length).all fun i => rowOkB B K rows i (rows.getD i ⟨[], []⟩)
theorem rowOkB_iff {B K : Int} {rows : List Rw} {i : Nat} {r : Rw} : rowOkB B K rows i r = true ↔ RowOk B K rows i r := by
  unfold rowOkB
  simp only [Bool.and_eq_true, decide_eq_true_eq, List.all_eq_true, List.mem_range, Bool.or_eq_true, Bool.not_eq_true']
  constructor
  · rintro ⟨⟨⟨h1, h2⟩, h3⟩, h4⟩
    refine ⟨h1, h2, h3, fun j o hj ho => ?_⟩
    have hl := (List.getElem?_eq_some_iff.1 ho).1
    rcases h4 j hl with h | h
    · exact absurd h hj
    · rw [show rows.getD j ⟨[], []⟩ = o by rw [List.getD_eq_getElem?_getD, ho]; rfl] at h; exact h
  · rintro ⟨h1, h2, h3, h4⟩
    refine ⟨⟨⟨h1, h2⟩, h3⟩, fun j hj => ?_⟩
    by_cases e : j = i
    · exact .inl e
    · refine .inr ?_
      rw [show rows.getD j ⟨[], []⟩ = rows[j] by rw [List.getD_eq_getElem?_getD, List.getElem?_eq_getElem hj]; rfl]
      exact h4 j _ e (List.getElem?_eq_getElem hj)
theorem rowsOkB_iff {B K : Int} {rows : List Rw} : rowsOkB B K rows = true ↔ RowsOk B K rows := by
  unfold rowsOkB RowsOk
  simp only [List.all_eq_true, List.mem_range]
  constructor
  · intro h i r hr
    have hl := (List.getElem?_eq_some_iff.1 hr).1
    have := h i hl
    rw [show rows.getD i ⟨[], []⟩ = r by rw [List.getD_eq_getElem?_getD, hr]; rfl] at this
    exact rowOkB_iff.1 this
  · intro h i hi
    rw [rowOkB_iff, show rows.getD i ⟨[], []⟩ = rows[i] by rw [List.getD_eq_getElem?_getD, List.getElem?_eq_getElem hi]; rfl]
    exact h i _ (List.getElem?_eq_getElem hi)
/-- What solve.Check answers. -/
def sysCheck (B K : Int) (rows : List Rw) : Int :=
  if B < 1 ∨ 24 < B ∨ K < 1 ∨ 16 < K then 3 else if B < (rows.length : Int) then 2 else if rowsOkB B K rows then 0 else 4
theorem sysCheck_bad {B K : Int} {rows : List Rw} (h1 : ¬ (B < 1 ∨ 24 < B ∨ K < 1 ∨ 16 < K)) (h2 : ¬ B < (rows.length : Int)) {i : Nat} {r : Rw} (hr : rows[i]? = some r) (h : ¬ RowOk B K rows i r) : sysCheck B K rows = 4 := by
  unfold sysCheck
  rw [if_neg h1, if_neg h2, if_neg]
  intro e
  exact h (rowsOkB_iff.1 e i r hr)
theorem sysCheck_good {B K : Int} {rows : List Rw} (h1 : ¬ (B < 1 ∨ 24 < B ∨ K < 1 ∨ 16 < K)) (h2 : ¬ B < (rows.length : Int)) (h : RowsOk B K rows) : sysCheck B K rows = 0 := by
  unfold sysCheck
  rw [if_neg h1, if_neg h2, if_pos (rowsOkB_iff.2 h)]
theorem sysCheck_ok {B K : Int} {rows : List Rw} (h : sysCheck B K rows = 0) : (1 ≤ B ∧ B ≤ 24) ∧ (1 ≤ K ∧ K ≤ 16) ∧ (rows.length : Int) ≤ B ∧ RowsOk B K rows := by
  unfold sysCheck at h
  split at h
  · cases h
  · split at h
    · cases h
    · split at h
      · rename_i h1 h2 h3
        exact ⟨by omega, by omega, by omega, rowsOkB_iff.1 h3⟩
      · cases h

end Go.Proofs.YtbincgbgeccccaaGreatDoor
