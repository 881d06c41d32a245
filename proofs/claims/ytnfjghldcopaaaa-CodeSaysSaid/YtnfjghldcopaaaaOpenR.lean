/- Symbols, rows and systems as arguments, opened to readings. No condition. -/
import Derived.Test.YtnfjghldcopaaaaOpenS
set_option maxRecDepth 100000
set_option linter.unusedSimpArgs false
set_option linter.unusedVariables false
namespace Go.Proofs.Ytnfjghldcopaaaa
open Go.RowKit Go.ChangeShapes Go.WideShapes Go.ChangeAt Go.Deep Go.Joins

/-- A symbol, by value. -/
theorem openSym {H : Type} {enc : TypeId × Value → H} {W : World} {r : Reach} {base : Nat} {v : Value} {d : DataW H} {p : List MemPlace} (hv : Value.okWide Try.prog W r base 53 v) (h : DataW.Trod enc Try.prog W 0 (fun _ => true) true 53 v d p) (hs : ∀ n ∈ d.weights Try.prog 53, n ≤ reachBytes) :
    ∃ (s : Sm) (A : Option Addr) (n c : Nat), v = .agg #[.int .i64 s.id, .slice A n c] ∧ wfI s.id ∧ Byt W (LT W.heap.size) A n c s.data := by
  obtain ⟨cs, rfl, hsz⟩ := okWide_struct Try.underlying53 hv
  obtain ⟨fuel, hf⟩ := h
  obtain ⟨_, s, hm⟩ := bSm.plain _ _ _ _ _ _ hf hs
  obtain ⟨l⟩ := cs
  have hl : l.length = 2 := hsz.trans (by kernel_rfl)
  obtain ⟨⟨h1, h2⟩, A, n, c, h3, h4, h5⟩ := hm
  match l, hl with
  | [c0, c1], _ =>
    simp [Value.cells, Sm.tup] at h1 h2 h3
    subst h1 h3
    exact ⟨s, A, n, c, rfl, h2, h4, h5⟩
end Go.Proofs.Ytnfjghldcopaaaa
