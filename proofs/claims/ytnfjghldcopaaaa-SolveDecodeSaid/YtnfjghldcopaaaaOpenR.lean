/- Symbols, rows and systems as arguments, opened to readings. No condition. -/
import Derived.Test.YtnfjghldcopaaaaOpenS
import Derived.Test.YtnfjghldcopaaaaSolP
set_option maxRecDepth 100000
set_option linter.unusedSimpArgs false
set_option linter.unusedVariables false
namespace Go.Proofs.Ytnfjghldcopaaaa
open Go.RowKit Go.ChangeShapes Go.WideShapes Go.ChangeAt Go.Deep Go.Joins

/-- A symbol, by value. -/
theorem openSym {H : Type} {enc : TypeId × Value → H} {W : World} {r : Reach} {base : Nat} {v : Value} {d : DataW H} {p : List MemPlace} (hv : Value.okWide Try.prog W r base 53 v) (h : DataW.Trod enc Try.prog W 0 (fun _ => true) true 53 v d p) (hs : ∀ n ∈ d.weights Try.prog 53, n ≤ reachBytes) :
    ∃ (s : Sm) (A : Option Addr) (n c : Nat), v = .agg #[.int .i64 s.id, .slice A n c] ∧ wfI s.id ∧ Byt W (LT W.heap.size) A n c s.data := by
  obtain ⟨cs, rfl, hsz⟩ := okWide_struct Try.underlying53 hv
  obtain ⟨fuel, hf⟩ := h
  obtain ⟨_, s, hm⟩ := bSm.plain _ _ _ _ _ _ hf hs
  obtain ⟨l⟩ := cs
  have hl : l.length = 2 := hsz.trans (by kernel_rfl)
  obtain ⟨⟨h1, h2⟩, A, n, c, h3, h4, h5⟩ := hm
  match l, hl with
  | [c0, c1], _ =>
    simp [Value.cells, Sm.tup] at h1 h2 h3
    subst h1 h3
    exact ⟨s, A, n, c, rfl, h2, h4, h5⟩
theorem bBools : OpensB Try.prog 25 1 eBools (fun l => (l.map fun _ => 1).sum) := opensB_slice sBool (by decide) Try.underlying25 bBool (by kernel_rfl) (by kernel_rfl)
theorem bRw : OpensB Try.prog 29 2 eRw (fun r => (r.has.map fun _ => 1).sum + (r.data.map fun _ => 1).sum) :=
  opensB_struct Rw.tup (fun ⟨a, b⟩ => ⟨⟨a, b⟩, rfl⟩) Try.underlying29 (by kernel_rfl) (opensF_cons wBools rfl (by kernel_rfl) bBools (opensF_one wBlock rfl (by kernel_rfl) bBlock))
theorem bRows : OpensB Try.prog 22 1 (eSl 2 48 eRw) (fun l => (l.map fun r => (r.has.map fun _ => 1).sum + (r.data.map fun _ => 1).sum).sum) := opensB_slice sRw (by decide) Try.underlying22 bRw (by kernel_rfl) (by kernel_rfl)
def Sy.tup (s : Sy) : Int × Int × List Rw := (s.blocks, s.block, s.rows)
def eSy : ERd Sy := eMap Sy.tup (ePair 1 eInt (ePair 1 eInt (eSl 2 48 eRw)))
theorem bSy : OpensB Try.prog 24 3 eSy (fun s => 1 + (1 + (s.rows.map fun r => (r.has.map fun _ => 1).sum + (r.data.map fun _ => 1).sum).sum)) :=
  opensB_struct Sy.tup (fun ⟨a, b, c⟩ => ⟨⟨a, b, c⟩, rfl⟩) Try.underlying24 (by kernel_rfl) (opensF_cons sInt rfl (by kernel_rfl) bInt (opensF_cons sInt rfl (by kernel_rfl) bInt (opensF_one (sSl sRw) rfl (by kernel_rfl) bRows)))
/-- A row, by value. -/
theorem openRow {H : Type} {enc : TypeId × Value → H} {W : World} {r : Reach} {base : Nat} {v : Value} {d : DataW H} {p : List MemPlace} (hv : Value.okWide Try.prog W r base 29 v) (h : DataW.Trod enc Try.prog W 0 (fun _ => true) true 29 v d p) (hs : ∀ n ∈ d.weights Try.prog 29, n ≤ reachBytes) :
    ∃ (s : Rw) (A : Option Addr) (n c : Nat) (A2 : Option Addr) (n2 c2 : Nat), v = .agg #[.slice A n c, .slice A2 n2 c2] ∧ Bol W (LT W.heap.size) A n c s.has ∧ Byt W (LT W.heap.size) A2 n2 c2 s.data := by
  obtain ⟨cs, rfl, hsz⟩ := okWide_struct Try.underlying29 hv
  obtain ⟨fuel, hf⟩ := h
  obtain ⟨_, s, hm⟩ := bRw.plain _ _ _ _ _ _ hf hs
  obtain ⟨l⟩ := cs
  have hl : l.length = 2 := hsz.trans (by kernel_rfl)
  obtain ⟨A, n, c, A2, n2, c2, ⟨h1, h2⟩, h3, h4⟩ := eRw_iff.1 hm
  match l, hl with
  | [c0, c1], _ =>
    simp [Value.cells] at h1 h2
    subst h1 h2
    exact ⟨s, A, n, c, A2, n2, c2, rfl, h3, h4⟩
/-- A system, by value. -/
theorem openSys {H : Type} {enc : TypeId × Value → H} {W : World} {r : Reach} {base : Nat} {v : Value} {d : DataW H} {p : List MemPlace} (hv : Value.okWide Try.prog W r base 24 v) (h : DataW.Trod enc Try.prog W 0 (fun _ => true) true 24 v d p) (hs : ∀ n ∈ d.weights Try.prog 24, n ≤ reachBytes) :
    ∃ (B K : Int) (A : Option Addr) (n c : Nat) (rows : List Rw), v = .agg #[.int .i64 B, .int .i64 K, .slice A n c] ∧ wfI B ∧ wfI K ∧ Sl 2 eRw W (LT W.heap.size) A n rows ∧ n * 48 ≤ lim ∧ n ≤ c ∧ c ≤ maxLen := by
  obtain ⟨cs, rfl, hsz⟩ := okWide_struct Try.underlying24 hv
  obtain ⟨fuel, hf⟩ := h
  obtain ⟨_, s, hm⟩ := bSy.plain _ _ _ _ _ _ hf hs
  obtain ⟨l⟩ := cs
  have hl : l.length = 3 := hsz.trans (by kernel_rfl)
  obtain ⟨⟨h1, h2⟩, ⟨h3, h4⟩, A, n, c, h5, ⟨h6, h7, h8⟩, h9⟩ := hm
  match l, hl with
  | [c0, c1, c2], _ =>
    simp [Value.cells, Sy.tup] at h1 h2 h3 h4 h5
    subst h1 h3 h5
    exact ⟨_, _, A, n, c, s.rows, rfl, h2, h4, h9, h6, h7, h8⟩
theorem openSyms : Opens Try.prog 50 1 (eSl 2 32 eSm) := (opensB_slice sSm (by decide) Try.underlying50 bSm (by kernel_rfl) (by kernel_rfl)).plain
end Go.Proofs.Ytnfjghldcopaaaa
