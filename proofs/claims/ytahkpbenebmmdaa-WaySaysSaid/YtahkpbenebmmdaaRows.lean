/-
  No cell of these rows narrows 'for every input' (looked for: loops, veiled, ifaces, maps, wideKeys, modest, calm, conditions, laid).
  DERIVED. THE GIVEN ROWS OF THIS SEAT. 10 by the template 'for every input the law returns true; each argument reads behind the call as it read before'; 0 by the template 'total and deterministic' (their statements: YtahkpbenebmmdaaTotals.lean).
  GIVEN WITH THE SEED: the statements are not yours to turn. If you find one false, say at which input.
  Laid BY PROGRAM, IN A SANDBOX (cutbox-rows.mjs): the forced cells as the released guide's own fill.sh prints them over the translation 6bd50e0fcdd2727c… (all of the seat's roots in one cut). By AI agents, Wed Nov 11 2026. No macro, syntax, notation, axiom, sorry.
-/
import Derived.Test.YtahkpbenebmmdaaChecked
import GoSem.Claim
import GoSem.ClaimJoined
import GoSem.ClaimMapViews
import Derived.JoinedTies
import Derived.KernelRfl
namespace Go.Proofs.Ytahkpbenebmmdaa
/- THE CELL 'sum', in the pinned program and in every row, IS THE sha256 OF THE DUMP (.gsa) THAT YtahkpbenebmmdaaProg.lean LOADS. Nothing in Lean hashes anything: it is a label: what it is worth is what the hold of that sum in a sandbox is worth. -/
noncomputable def Try.pinned : Pinned := { name := "ytahkpbenebmmdaa", sum := "6bd50e0fcdd2727c7fe15799d1de498c3a40e6245361a09584f99b1d71ed2eb4", checked := Try.checked }
namespace Rows
def none {H : Type} : Left H := { results := [], args := [] }

/-- 'bottlepostlaw.Names': WHATEVER THE INPUT: true; the input reads as it did. -/
def namesSpec : ChangeSpec := { name := "names", fn := fun _ => fun
  | [] => { results := [.lit (.bool true)], args := [] }
  | _ => none }
def namesRow : OpenClaim := { program := "ytahkpbenebmmdaa", sum := "6bd50e0fcdd2727c7fe15799d1de498c3a40e6245361a09584f99b1d71ed2eb4", func := "bottlepost/bottlepostlaw.Names", spec := "names", apart := false }
def NamesSaid : Prop := namesRow.holds Try.pinned (OpenSpec.ofChange namesSpec)

/-- ITS FALSE NEIGHBOUR: 'it returns false'. Refute it at one input. -/
def namesWrong : ChangeSpec := { name := "names", fn := fun _ => fun
  | [] => { results := [.lit (.bool false)], args := [] }
  | _ => none }
def NamesWrongFalsely : Prop := namesRow.holds Try.pinned (OpenSpec.ofChange namesWrong)

/-- 'bottlepostlaw.SumSays': WHATEVER THE INPUT: true; the input reads as it did. -/
def sumSaysSpec : ChangeSpec := { name := "sumSays", fn := fun _ => fun
  | [d1, d2, d3] => { results := [.lit (.bool true)], args := [d1, d2, d3] }
  | _ => none }
def sumSaysRow : OpenClaim := { program := "ytahkpbenebmmdaa", sum := "6bd50e0fcdd2727c7fe15799d1de498c3a40e6245361a09584f99b1d71ed2eb4", func := "bottlepost/bottlepostlaw.SumSays", spec := "sumSays", apart := false }
def SumSaysSaid : Prop := sumSaysRow.holds Try.pinned (OpenSpec.ofChange sumSaysSpec)

/-- ITS FALSE NEIGHBOUR: 'it returns false'. Refute it at one input. -/
def sumSaysWrong : ChangeSpec := { name := "sumSays", fn := fun _ => fun
  | [d1, d2, d3] => { results := [.lit (.bool false)], args := [d1, d2, d3] }
  | _ => none }
def SumSaysWrongFalsely : Prop := sumSaysRow.holds Try.pinned (OpenSpec.ofChange sumSaysWrong)

/-- 'bottlepostlaw.PickSome': WHATEVER THE INPUT: true; the input reads as it did. -/
def pickSomeSpec : ChangeSpec := { name := "pickSome", fn := fun _ => fun
  | [d1, d2] => { results := [.lit (.bool true)], args := [d1, d2] }
  | _ => none }
def pickSomeRow : OpenClaim := { program := "ytahkpbenebmmdaa", sum := "6bd50e0fcdd2727c7fe15799d1de498c3a40e6245361a09584f99b1d71ed2eb4", func := "bottlepost/bottlepostlaw.PickSome", spec := "pickSome", apart := false }
def PickSomeSaid : Prop := pickSomeRow.holds Try.pinned (OpenSpec.ofChange pickSomeSpec)

/-- ITS FALSE NEIGHBOUR: 'it returns false'. Refute it at one input. -/
def pickSomeWrong : ChangeSpec := { name := "pickSome", fn := fun _ => fun
  | [d1, d2] => { results := [.lit (.bool false)], args := [d1, d2] }
  | _ => none }
def PickSomeWrongFalsely : Prop := pickSomeRow.holds Try.pinned (OpenSpec.ofChange pickSomeWrong)

/-- 'bottlepostlaw.SumTwice': WHATEVER THE INPUT: true; the input reads as it did. -/
def sumTwiceSpec : ChangeSpec := { name := "sumTwice", fn := fun _ => fun
  | [d1, d2] => { results := [.lit (.bool true)], args := [d1, d2] }
  | _ => none }
def sumTwiceRow : OpenClaim := { program := "ytahkpbenebmmdaa", sum := "6bd50e0fcdd2727c7fe15799d1de498c3a40e6245361a09584f99b1d71ed2eb4", func := "bottlepost/bottlepostlaw.SumTwice", spec := "sumTwice", apart := false }
def SumTwiceSaid : Prop := sumTwiceRow.holds Try.pinned (OpenSpec.ofChange sumTwiceSpec)

/-- ITS FALSE NEIGHBOUR: 'it returns false'. Refute it at one input. -/
def sumTwiceWrong : ChangeSpec := { name := "sumTwice", fn := fun _ => fun
  | [d1, d2] => { results := [.lit (.bool false)], args := [d1, d2] }
  | _ => none }
def SumTwiceWrongFalsely : Prop := sumTwiceRow.holds Try.pinned (OpenSpec.ofChange sumTwiceWrong)

/-- 'bottlepostlaw.CutBegins': WHATEVER THE INPUT: true; the input reads as it did. -/
def cutBeginsSpec : ChangeSpec := { name := "cutBegins", fn := fun _ => fun
  | [d1, d2, d3] => { results := [.lit (.bool true)], args := [d1, d2, d3] }
  | _ => none }
def cutBeginsRow : OpenClaim := { program := "ytahkpbenebmmdaa", sum := "6bd50e0fcdd2727c7fe15799d1de498c3a40e6245361a09584f99b1d71ed2eb4", func := "bottlepost/bottlepostlaw.CutBegins", spec := "cutBegins", unfollowed := true, recurses := true, apart := false }
def CutBeginsSaid : Prop := cutBeginsRow.holds Try.pinned (OpenSpec.ofChange cutBeginsSpec)

/-- ITS FALSE NEIGHBOUR: 'it returns false'. Refute it at one input. -/
def cutBeginsWrong : ChangeSpec := { name := "cutBegins", fn := fun _ => fun
  | [d1, d2, d3] => { results := [.lit (.bool false)], args := [d1, d2, d3] }
  | _ => none }
def CutBeginsWrongFalsely : Prop := cutBeginsRow.holds Try.pinned (OpenSpec.ofChange cutBeginsWrong)

/-- 'bottlepostlaw.CutBack': WHATEVER THE INPUT: true; the input reads as it did. -/
def cutBackSpec : ChangeSpec := { name := "cutBack", fn := fun _ => fun
  | [d1, d2, d3] => { results := [.lit (.bool true)], args := [d1, d2, d3] }
  | _ => none }
def cutBackRow : OpenClaim := { program := "ytahkpbenebmmdaa", sum := "6bd50e0fcdd2727c7fe15799d1de498c3a40e6245361a09584f99b1d71ed2eb4", func := "bottlepost/bottlepostlaw.CutBack", spec := "cutBack", unfollowed := true, recurses := true, apart := false }
def CutBackSaid : Prop := cutBackRow.holds Try.pinned (OpenSpec.ofChange cutBackSpec)

/-- ITS FALSE NEIGHBOUR: 'it returns false'. Refute it at one input. -/
def cutBackWrong : ChangeSpec := { name := "cutBack", fn := fun _ => fun
  | [d1, d2, d3] => { results := [.lit (.bool false)], args := [d1, d2, d3] }
  | _ => none }
def CutBackWrongFalsely : Prop := cutBackRow.holds Try.pinned (OpenSpec.ofChange cutBackWrong)

/-- 'bottlepostlaw.CutSays': WHATEVER THE INPUT: true; the input reads as it did. -/
def cutSaysSpec : ChangeSpec := { name := "cutSays", fn := fun _ => fun
  | [d1, d2, d3] => { results := [.lit (.bool true)], args := [d1, d2, d3] }
  | _ => none }
def cutSaysRow : OpenClaim := { program := "ytahkpbenebmmdaa", sum := "6bd50e0fcdd2727c7fe15799d1de498c3a40e6245361a09584f99b1d71ed2eb4", func := "bottlepost/bottlepostlaw.CutSays", spec := "cutSays", unfollowed := true, recurses := true, apart := false }
def CutSaysSaid : Prop := cutSaysRow.holds Try.pinned (OpenSpec.ofChange cutSaysSpec)

/-- ITS FALSE NEIGHBOUR: 'it returns false'. Refute it at one input. -/
def cutSaysWrong : ChangeSpec := { name := "cutSays", fn := fun _ => fun
  | [d1, d2, d3] => { results := [.lit (.bool false)], args := [d1, d2, d3] }
  | _ => none }
def CutSaysWrongFalsely : Prop := cutSaysRow.holds Try.pinned (OpenSpec.ofChange cutSaysWrong)

/-- 'bottlepostlaw.CodeAdds': WHATEVER THE INPUT: true; the input reads as it did. -/
def codeAddsSpec : ChangeSpec := { name := "codeAdds", fn := fun _ => fun
  | [d1, d2, d3, d4] => { results := [.lit (.bool true)], args := [d1, d2, d3, d4] }
  | _ => none }
def codeAddsRow : OpenClaim := { program := "ytahkpbenebmmdaa", sum := "6bd50e0fcdd2727c7fe15799d1de498c3a40e6245361a09584f99b1d71ed2eb4", func := "bottlepost/bottlepostlaw.CodeAdds", spec := "codeAdds", apart := false }
def CodeAddsSaid : Prop := codeAddsRow.holds Try.pinned (OpenSpec.ofChange codeAddsSpec)

/-- ITS FALSE NEIGHBOUR: 'it returns false'. Refute it at one input. -/
def codeAddsWrong : ChangeSpec := { name := "codeAdds", fn := fun _ => fun
  | [d1, d2, d3, d4] => { results := [.lit (.bool false)], args := [d1, d2, d3, d4] }
  | _ => none }
def CodeAddsWrongFalsely : Prop := codeAddsRow.holds Try.pinned (OpenSpec.ofChange codeAddsWrong)

/-- 'bottlepostlaw.WaySays': WHATEVER THE INPUT: true; the input reads as it did. -/
def waySaysSpec : ChangeSpec := { name := "waySays", fn := fun _ => fun
  | [d1, d2, d3, d4, d5] => { results := [.lit (.bool true)], args := [d1, d2, d3, d4, d5] }
  | _ => none }
def waySaysRow : OpenClaim := { program := "ytahkpbenebmmdaa", sum := "6bd50e0fcdd2727c7fe15799d1de498c3a40e6245361a09584f99b1d71ed2eb4", func := "bottlepost/bottlepostlaw.WaySays", spec := "waySays", unfollowed := true, recurses := true, apart := false }
def WaySaysSaid : Prop := waySaysRow.holds Try.pinned (OpenSpec.ofChange waySaysSpec)

/-- ITS FALSE NEIGHBOUR: 'it returns false'. Refute it at one input. -/
def waySaysWrong : ChangeSpec := { name := "waySays", fn := fun _ => fun
  | [d1, d2, d3, d4, d5] => { results := [.lit (.bool false)], args := [d1, d2, d3, d4, d5] }
  | _ => none }
def WaySaysWrongFalsely : Prop := waySaysRow.holds Try.pinned (OpenSpec.ofChange waySaysWrong)

/-- 'bottlepostlaw.WayBack': WHATEVER THE INPUT: true; the input reads as it did. -/
def wayBackSpec : ChangeSpec := { name := "wayBack", fn := fun _ => fun
  | [d1, d2, d3] => { results := [.lit (.bool true)], args := [d1, d2, d3] }
  | _ => none }
def wayBackRow : OpenClaim := { program := "ytahkpbenebmmdaa", sum := "6bd50e0fcdd2727c7fe15799d1de498c3a40e6245361a09584f99b1d71ed2eb4", func := "bottlepost/bottlepostlaw.WayBack", spec := "wayBack", unfollowed := true, recurses := true, apart := false }
def WayBackSaid : Prop := wayBackRow.holds Try.pinned (OpenSpec.ofChange wayBackSpec)

/-- ITS FALSE NEIGHBOUR: 'it returns false'. Refute it at one input. -/
def wayBackWrong : ChangeSpec := { name := "wayBack", fn := fun _ => fun
  | [d1, d2, d3] => { results := [.lit (.bool false)], args := [d1, d2, d3] }
  | _ => none }
def WayBackWrongFalsely : Prop := wayBackRow.holds Try.pinned (OpenSpec.ofChange wayBackWrong)

/- THE SECOND FORM. 'bulk': how many values and letters a reading holds, each counted each time it is reached (what is shared counts as often as it is met; a slice's spare places count too). A statement '..UptoSaid' is the law's where the arguments, and the package variables that the reading takes, are together of bulk at most 1048576: NARROWER than '..Said'. Prove '..Said' where nothing that the law and all that it calls make is longer than what came in: it says more and counts as full. Else prove '..UptoSaid'. A law counts once. -/
mutual
def uptoBulk {H : Type} : DataW H → Nat
  | .lit (.string bytes) => bytes.length + 1
  | .lit _ => 1
  | .nil => 1
  | .ptr d => uptoBulk d + 1
  | .slice elems spare => uptoBulkAll elems + uptoBulkAll spare + 1
  | .agg parts => uptoBulkAll parts + 1
  | .iface _ d => uptoBulk d + 1
  | .map entries => uptoBulkEntries entries + 1
  | .held _ => 1
def uptoBulkAll {H : Type} : List (DataW H) → Nat
  | [] => 0
  | d :: r => uptoBulk d + uptoBulkAll r
def uptoBulkEntries {H : Type} : List (Lit × DataW H) → Nat
  | [] => 0
  | x :: r => uptoBulkEntry x + uptoBulkEntries r
def uptoBulkEntry {H : Type} : Lit × DataW H → Nat
  | (.string bytes, d) => bytes.length + uptoBulk d + 1
  | (_, d) => uptoBulk d + 1
 end
def uptoSmall : (H : Type) → List (DataW H) → Bool := fun _ ds => decide (uptoBulkAll ds ≤ 1048576)
def OpenSpec.upto (s : _root_.Go.ChangeSpec) : _root_.Go.OpenSpec := { _root_.Go.OpenSpec.ofChange s with cond := some uptoSmall }

/-- 'bottlepostlaw.Names', WHERE WHAT IT READS IS OF BULK AT MOST 1048576: true; the input reads as it did. -/
def namesUptoRow : OpenClaim := { program := "ytahkpbenebmmdaa", sum := "6bd50e0fcdd2727c7fe15799d1de498c3a40e6245361a09584f99b1d71ed2eb4", func := "bottlepost/bottlepostlaw.Names", spec := "names", apart := false, narrowed := true }
def NamesUptoSaid : Prop := namesUptoRow.holds Try.pinned (OpenSpec.upto namesSpec)

/-- 'bottlepostlaw.SumSays', WHERE WHAT IT READS IS OF BULK AT MOST 1048576: true; the input reads as it did. -/
def sumSaysUptoRow : OpenClaim := { program := "ytahkpbenebmmdaa", sum := "6bd50e0fcdd2727c7fe15799d1de498c3a40e6245361a09584f99b1d71ed2eb4", func := "bottlepost/bottlepostlaw.SumSays", spec := "sumSays", apart := false, narrowed := true }
def SumSaysUptoSaid : Prop := sumSaysUptoRow.holds Try.pinned (OpenSpec.upto sumSaysSpec)

/-- 'bottlepostlaw.PickSome', WHERE WHAT IT READS IS OF BULK AT MOST 1048576: true; the input reads as it did. -/
def pickSomeUptoRow : OpenClaim := { program := "ytahkpbenebmmdaa", sum := "6bd50e0fcdd2727c7fe15799d1de498c3a40e6245361a09584f99b1d71ed2eb4", func := "bottlepost/bottlepostlaw.PickSome", spec := "pickSome", apart := false, narrowed := true }
def PickSomeUptoSaid : Prop := pickSomeUptoRow.holds Try.pinned (OpenSpec.upto pickSomeSpec)

/-- 'bottlepostlaw.SumTwice', WHERE WHAT IT READS IS OF BULK AT MOST 1048576: true; the input reads as it did. -/
def sumTwiceUptoRow : OpenClaim := { program := "ytahkpbenebmmdaa", sum := "6bd50e0fcdd2727c7fe15799d1de498c3a40e6245361a09584f99b1d71ed2eb4", func := "bottlepost/bottlepostlaw.SumTwice", spec := "sumTwice", apart := false, narrowed := true }
def SumTwiceUptoSaid : Prop := sumTwiceUptoRow.holds Try.pinned (OpenSpec.upto sumTwiceSpec)

/-- 'bottlepostlaw.CutBegins', WHERE WHAT IT READS IS OF BULK AT MOST 1048576: true; the input reads as it did. -/
def cutBeginsUptoRow : OpenClaim := { program := "ytahkpbenebmmdaa", sum := "6bd50e0fcdd2727c7fe15799d1de498c3a40e6245361a09584f99b1d71ed2eb4", func := "bottlepost/bottlepostlaw.CutBegins", spec := "cutBegins", unfollowed := true, recurses := true, apart := false, narrowed := true }
def CutBeginsUptoSaid : Prop := cutBeginsUptoRow.holds Try.pinned (OpenSpec.upto cutBeginsSpec)

/-- 'bottlepostlaw.CutBack', WHERE WHAT IT READS IS OF BULK AT MOST 1048576: true; the input reads as it did. -/
def cutBackUptoRow : OpenClaim := { program := "ytahkpbenebmmdaa", sum := "6bd50e0fcdd2727c7fe15799d1de498c3a40e6245361a09584f99b1d71ed2eb4", func := "bottlepost/bottlepostlaw.CutBack", spec := "cutBack", unfollowed := true, recurses := true, apart := false, narrowed := true }
def CutBackUptoSaid : Prop := cutBackUptoRow.holds Try.pinned (OpenSpec.upto cutBackSpec)

/-- 'bottlepostlaw.CutSays', WHERE WHAT IT READS IS OF BULK AT MOST 1048576: true; the input reads as it did. -/
def cutSaysUptoRow : OpenClaim := { program := "ytahkpbenebmmdaa", sum := "6bd50e0fcdd2727c7fe15799d1de498c3a40e6245361a09584f99b1d71ed2eb4", func := "bottlepost/bottlepostlaw.CutSays", spec := "cutSays", unfollowed := true, recurses := true, apart := false, narrowed := true }
def CutSaysUptoSaid : Prop := cutSaysUptoRow.holds Try.pinned (OpenSpec.upto cutSaysSpec)

/-- 'bottlepostlaw.CodeAdds', WHERE WHAT IT READS IS OF BULK AT MOST 1048576: true; the input reads as it did. -/
def codeAddsUptoRow : OpenClaim := { program := "ytahkpbenebmmdaa", sum := "6bd50e0fcdd2727c7fe15799d1de498c3a40e6245361a09584f99b1d71ed2eb4", func := "bottlepost/bottlepostlaw.CodeAdds", spec := "codeAdds", apart := false, narrowed := true }
def CodeAddsUptoSaid : Prop := codeAddsUptoRow.holds Try.pinned (OpenSpec.upto codeAddsSpec)

/-- 'bottlepostlaw.WaySays', WHERE WHAT IT READS IS OF BULK AT MOST 1048576: true; the input reads as it did. -/
def waySaysUptoRow : OpenClaim := { program := "ytahkpbenebmmdaa", sum := "6bd50e0fcdd2727c7fe15799d1de498c3a40e6245361a09584f99b1d71ed2eb4", func := "bottlepost/bottlepostlaw.WaySays", spec := "waySays", unfollowed := true, recurses := true, apart := false, narrowed := true }
def WaySaysUptoSaid : Prop := waySaysUptoRow.holds Try.pinned (OpenSpec.upto waySaysSpec)

/-- 'bottlepostlaw.WayBack', WHERE WHAT IT READS IS OF BULK AT MOST 1048576: true; the input reads as it did. -/
def wayBackUptoRow : OpenClaim := { program := "ytahkpbenebmmdaa", sum := "6bd50e0fcdd2727c7fe15799d1de498c3a40e6245361a09584f99b1d71ed2eb4", func := "bottlepost/bottlepostlaw.WayBack", spec := "wayBack", unfollowed := true, recurses := true, apart := false, narrowed := true }
def WayBackUptoSaid : Prop := wayBackUptoRow.holds Try.pinned (OpenSpec.upto wayBackSpec)

end Rows
end Go.Proofs.Ytahkpbenebmmdaa
