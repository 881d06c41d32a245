/- A string as an argument. No condition. -/
import Derived.Test.YtkfpgnoodhlfgaaDoorStr
import Derived.Test.YtkfpgnoodhlfgaaDoorOpenRc
import Derived.ChangeMaps5
import Derived.SizedLaws
set_option linter.unusedSimpArgs false
set_option linter.unusedVariables false
set_option maxRecDepth 100000
namespace Go.Proofs.YtkfpgnoodhlfgaaDoor
open Go.RowKit Go.ChangeShapes Go.WideShapes Go.ChangeAt
/-- A string, by value. -/
theorem openStrA {H : Type} {enc : TypeId × Value → H} {W : World} {r : Reach} {base : Nat} {v : Value} {d : DataW H} {p : List MemPlace} (hv : Value.okWide Tryd.prog W r base 9 v) (h : DataW.Trod enc Tryd.prog W 0 (fun _ => true) true 9 v d p) (hs : ∀ n ∈ d.weights Tryd.prog 9, n ≤ reachBytes) :
    ∃ l : List UInt8, v = sV l ∧ l.length ≤ lim := by
  obtain ⟨s, rfl, rfl, _, _⟩ := Go.ChangeMaps.open_string Tryd.underlying9 hv h
  refine ⟨s.data.toList, str_eta s, ?_⟩
  have h1 := hs s.data.toList.length (by simp [DataW.weights])
  have h2 := reachBytes_lt
  have e3 : (2 : Nat) ^ 47 = 140737488355328 := by decide
  unfold lim
  omega
/-- A head, by value. -/
theorem openHead {H : Type} {enc : TypeId × Value → H} {W : World} {r : Reach} {base : Nat} {v : Value} {d : DataW H} {p : List MemPlace} (hv : Value.okWide Tryd.prog W r base 25 v) (h : DataW.Trod enc Tryd.prog W 0 (fun _ => true) true 25 v d p) (hs : ∀ n ∈ d.weights Tryd.prog 25, n ≤ reachBytes) :
    ∃ m : Hd, v = .agg #[.int .i64 m.frm, .int .i64 m.seq, .int .i64 m.to, .int .i64 m.till, .int .i64 m.bytes, .int .i64 m.block] ∧ m.wf := by
  obtain ⟨cs, rfl, hsz⟩ := okWide_struct Tryd.underlying25 hv
  obtain ⟨fuel, hf⟩ := h
  obtain ⟨_, m, hm⟩ := bHd.plain _ _ _ _ _ _ hf hs
  obtain ⟨l⟩ := cs
  have hl : l.length = 6 := hsz.trans (by kernel_rfl)
  obtain ⟨hc, hw⟩ := eHd_iff.1 hm
  match l, hl with
  | [c0, c1, c2, c3, c4, c5], _ =>
    simp [Value.cells] at hc
    obtain ⟨rfl, rfl, rfl, rfl, rfl, rfl⟩ := hc
    exact ⟨m, rfl, hw⟩
end Go.Proofs.YtkfpgnoodhlfgaaDoor
