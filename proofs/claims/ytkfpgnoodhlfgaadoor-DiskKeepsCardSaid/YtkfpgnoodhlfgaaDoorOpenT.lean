/- A string as an argument. No condition. -/
import Derived.Test.YtkfpgnoodhlfgaaDoorStr
import Derived.Test.YtkfpgnoodhlfgaaDoorOpenRc
import Derived.ChangeMaps5
import Derived.SizedLaws
set_option linter.unusedSimpArgs false
set_option linter.unusedVariables false
set_option maxRecDepth 100000
namespace Go.Proofs.YtkfpgnoodhlfgaaDoor
open Go.RowKit Go.ChangeShapes Go.WideShapes Go.ChangeAt
/-- A string, by value. -/
theorem openStrA {H : Type} {enc : TypeId × Value → H} {W : World} {r : Reach} {base : Nat} {v : Value} {d : DataW H} {p : List MemPlace} (hv : Value.okWide Tryd.prog W r base 9 v) (h : DataW.Trod enc Tryd.prog W 0 (fun _ => true) true 9 v d p) (hs : ∀ n ∈ d.weights Tryd.prog 9, n ≤ reachBytes) :
    ∃ l : List UInt8, v = sV l ∧ l.length ≤ lim := by
  obtain ⟨s, rfl, rfl, _, _⟩ := Go.ChangeMaps.open_string Tryd.underlying9 hv h
  refine ⟨s.data.toList, str_eta s, ?_⟩
  have h1 := hs s.data.toList.length (by simp [DataW.weights])
  have h2 := reachBytes_lt
  have e3 : (2 : Nat) ^ 47 = 140737488355328 := by decide
  unfold lim
  omega
end Go.Proofs.YtkfpgnoodhlfgaaDoor
