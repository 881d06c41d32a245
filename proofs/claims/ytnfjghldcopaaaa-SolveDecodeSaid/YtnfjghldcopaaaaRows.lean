/-
  No cell of these rows narrows 'for every input' (looked for: loops, veiled, ifaces, maps, wideKeys, modest, calm, conditions, laid).
  DERIVED. THE GIVEN ROWS OF THIS SEAT. 11 by the template 'for every input the law returns true; each argument reads behind the call as it read before'; 0 by the template 'total and deterministic' (their statements: YtnfjghldcopaaaaTotals.lean).
  GIVEN WITH THE SEED: the statements are not yours to turn. If you find one false, say at which input.
  Laid BY PROGRAM, IN A SANDBOX (cutbox-rows.mjs): the forced cells as the released guide's own fill.sh prints them over the translation ed2d7cbb31d09241… (all of the seat's roots in one cut). By AI agents, Wed Nov 11 2026. No macro, syntax, notation, axiom, sorry.
-/
import Derived.Test.YtnfjghldcopaaaaChecked
import GoSem.Claim
import GoSem.ClaimJoined
import GoSem.ClaimMapViews
import Derived.JoinedTies
import Derived.KernelRfl
namespace Go.Proofs.Ytnfjghldcopaaaa
/- THE CELL 'sum', in the pinned program and in every row, IS THE sha256 OF THE DUMP (.gsa) THAT YtnfjghldcopaaaaProg.lean LOADS. Nothing in Lean hashes anything: it is a label: what it is worth is what the hold of that sum in a sandbox is worth. -/
noncomputable def Try.pinned : Pinned := { name := "ytnfjghldcopaaaa", sum := "ed2d7cbb31d092413220161620e48e97a25fe2d4cef40f25255a9fecfd1ccf66", checked := Try.checked }
namespace Rows
def none {H : Type} : Left H := { results := [], args := [] }

/-- 'bottlepostlaw.SolveSays': WHATEVER THE INPUT: true; the input reads as it did. -/
def solveSaysSpec : ChangeSpec := { name := "solveSays", fn := fun _ => fun
  | [d1, d2, d3, d4, d5] => { results := [.lit (.bool true)], args := [d1, d2, d3, d4, d5] }
  | _ => none }
def solveSaysRow : OpenClaim := { program := "ytnfjghldcopaaaa", sum := "ed2d7cbb31d092413220161620e48e97a25fe2d4cef40f25255a9fecfd1ccf66", func := "bottlepost/bottlepostlaw.SolveSays", spec := "solveSays", inPlace := ["slices.overlaps[bottlepost/api.Row]"], unfollowed := true, recurses := true, apart := false }
def SolveSaysSaid : Prop := solveSaysRow.holds Try.pinned (OpenSpec.ofChange solveSaysSpec)

/-- ITS FALSE NEIGHBOUR: 'it returns false'. Refute it at one input. -/
def solveSaysWrong : ChangeSpec := { name := "solveSays", fn := fun _ => fun
  | [d1, d2, d3, d4, d5] => { results := [.lit (.bool false)], args := [d1, d2, d3, d4, d5] }
  | _ => none }
def SolveSaysWrongFalsely : Prop := solveSaysRow.holds Try.pinned (OpenSpec.ofChange solveSaysWrong)

/-- 'bottlepostlaw.SolveKeeps': WHATEVER THE INPUT: true; the input reads as it did. -/
def solveKeepsSpec : ChangeSpec := { name := "solveKeeps", fn := fun _ => fun
  | [d1, d2] => { results := [.lit (.bool true)], args := [d1, d2] }
  | _ => none }
def solveKeepsRow : OpenClaim := { program := "ytnfjghldcopaaaa", sum := "ed2d7cbb31d092413220161620e48e97a25fe2d4cef40f25255a9fecfd1ccf66", func := "bottlepost/bottlepostlaw.SolveKeeps", spec := "solveKeeps", inPlace := ["slices.overlaps[bottlepost/api.Row]"], unfollowed := true, recurses := true, apart := false }
def SolveKeepsSaid : Prop := solveKeepsRow.holds Try.pinned (OpenSpec.ofChange solveKeepsSpec)

/-- ITS FALSE NEIGHBOUR: 'it returns false'. Refute it at one input. -/
def solveKeepsWrong : ChangeSpec := { name := "solveKeeps", fn := fun _ => fun
  | [d1, d2] => { results := [.lit (.bool false)], args := [d1, d2] }
  | _ => none }
def SolveKeepsWrongFalsely : Prop := solveKeepsRow.holds Try.pinned (OpenSpec.ofChange solveKeepsWrong)

/-- 'bottlepostlaw.SolveKnown': WHATEVER THE INPUT: true; the input reads as it did. -/
def solveKnownSpec : ChangeSpec := { name := "solveKnown", fn := fun _ => fun
  | [d1, d2, d3] => { results := [.lit (.bool true)], args := [d1, d2, d3] }
  | _ => none }
def solveKnownRow : OpenClaim := { program := "ytnfjghldcopaaaa", sum := "ed2d7cbb31d092413220161620e48e97a25fe2d4cef40f25255a9fecfd1ccf66", func := "bottlepost/bottlepostlaw.SolveKnown", spec := "solveKnown", inPlace := ["slices.overlaps[bottlepost/api.Row]"], unfollowed := true, recurses := true, apart := false }
def SolveKnownSaid : Prop := solveKnownRow.holds Try.pinned (OpenSpec.ofChange solveKnownSpec)

/-- ITS FALSE NEIGHBOUR: 'it returns false'. Refute it at one input. -/
def solveKnownWrong : ChangeSpec := { name := "solveKnown", fn := fun _ => fun
  | [d1, d2, d3] => { results := [.lit (.bool false)], args := [d1, d2, d3] }
  | _ => none }
def SolveKnownWrongFalsely : Prop := solveKnownRow.holds Try.pinned (OpenSpec.ofChange solveKnownWrong)

/-- 'bottlepostlaw.PickSays': WHATEVER THE INPUT: true; the input reads as it did. -/
def pickSaysSpec : ChangeSpec := { name := "pickSays", fn := fun _ => fun
  | [d1, d2] => { results := [.lit (.bool true)], args := [d1, d2] }
  | _ => none }
def pickSaysRow : OpenClaim := { program := "ytnfjghldcopaaaa", sum := "ed2d7cbb31d092413220161620e48e97a25fe2d4cef40f25255a9fecfd1ccf66", func := "bottlepost/bottlepostlaw.PickSays", spec := "pickSays", recurses := true, apart := false }
def PickSaysSaid : Prop := pickSaysRow.holds Try.pinned (OpenSpec.ofChange pickSaysSpec)

/-- ITS FALSE NEIGHBOUR: 'it returns false'. Refute it at one input. -/
def pickSaysWrong : ChangeSpec := { name := "pickSays", fn := fun _ => fun
  | [d1, d2] => { results := [.lit (.bool false)], args := [d1, d2] }
  | _ => none }
def PickSaysWrongFalsely : Prop := pickSaysRow.holds Try.pinned (OpenSpec.ofChange pickSaysWrong)

/-- 'bottlepostlaw.SolveNever': WHATEVER THE INPUT: true; the input reads as it did. -/
def solveNeverSpec : ChangeSpec := { name := "solveNever", fn := fun _ => fun
  | [d1, d2, d3, d4] => { results := [.lit (.bool true)], args := [d1, d2, d3, d4] }
  | _ => none }
def solveNeverRow : OpenClaim := { program := "ytnfjghldcopaaaa", sum := "ed2d7cbb31d092413220161620e48e97a25fe2d4cef40f25255a9fecfd1ccf66", func := "bottlepost/bottlepostlaw.SolveNever", spec := "solveNever", inPlace := ["slices.overlaps[bottlepost/api.Row]"], unfollowed := true, recurses := true, apart := false }
def SolveNeverSaid : Prop := solveNeverRow.holds Try.pinned (OpenSpec.ofChange solveNeverSpec)

/-- ITS FALSE NEIGHBOUR: 'it returns false'. Refute it at one input. -/
def solveNeverWrong : ChangeSpec := { name := "solveNever", fn := fun _ => fun
  | [d1, d2, d3, d4] => { results := [.lit (.bool false)], args := [d1, d2, d3, d4] }
  | _ => none }
def SolveNeverWrongFalsely : Prop := solveNeverRow.holds Try.pinned (OpenSpec.ofChange solveNeverWrong)

/-- 'bottlepostlaw.SolveOrder': WHATEVER THE INPUT: true; the input reads as it did. -/
def solveOrderSpec : ChangeSpec := { name := "solveOrder", fn := fun _ => fun
  | [d1, d2, d3, d4] => { results := [.lit (.bool true)], args := [d1, d2, d3, d4] }
  | _ => none }
def solveOrderRow : OpenClaim := { program := "ytnfjghldcopaaaa", sum := "ed2d7cbb31d092413220161620e48e97a25fe2d4cef40f25255a9fecfd1ccf66", func := "bottlepost/bottlepostlaw.SolveOrder", spec := "solveOrder", inPlace := ["slices.overlaps[bottlepost/api.Row]"], unfollowed := true, recurses := true, apart := false }
def SolveOrderSaid : Prop := solveOrderRow.holds Try.pinned (OpenSpec.ofChange solveOrderSpec)

/-- ITS FALSE NEIGHBOUR: 'it returns false'. Refute it at one input. -/
def solveOrderWrong : ChangeSpec := { name := "solveOrder", fn := fun _ => fun
  | [d1, d2, d3, d4] => { results := [.lit (.bool false)], args := [d1, d2, d3, d4] }
  | _ => none }
def SolveOrderWrongFalsely : Prop := solveOrderRow.holds Try.pinned (OpenSpec.ofChange solveOrderWrong)

/-- 'bottlepostlaw.SolveEnough': WHATEVER THE INPUT: true; the input reads as it did. -/
def solveEnoughSpec : ChangeSpec := { name := "solveEnough", fn := fun _ => fun
  | [d1, d2, d3] => { results := [.lit (.bool true)], args := [d1, d2, d3] }
  | _ => none }
def solveEnoughRow : OpenClaim := { program := "ytnfjghldcopaaaa", sum := "ed2d7cbb31d092413220161620e48e97a25fe2d4cef40f25255a9fecfd1ccf66", func := "bottlepost/bottlepostlaw.SolveEnough", spec := "solveEnough", inPlace := ["slices.overlaps[bottlepost/api.Row]"], unfollowed := true, recurses := true, apart := false }
def SolveEnoughSaid : Prop := solveEnoughRow.holds Try.pinned (OpenSpec.ofChange solveEnoughSpec)

/-- ITS FALSE NEIGHBOUR: 'it returns false'. Refute it at one input. -/
def solveEnoughWrong : ChangeSpec := { name := "solveEnough", fn := fun _ => fun
  | [d1, d2, d3] => { results := [.lit (.bool false)], args := [d1, d2, d3] }
  | _ => none }
def SolveEnoughWrongFalsely : Prop := solveEnoughRow.holds Try.pinned (OpenSpec.ofChange solveEnoughWrong)

/-- 'bottlepostlaw.CodeSays': WHATEVER THE INPUT: true; the input reads as it did. -/
def codeSaysSpec : ChangeSpec := { name := "codeSays", fn := fun _ => fun
  | [d1, d2, d3, d4] => { results := [.lit (.bool true)], args := [d1, d2, d3, d4] }
  | _ => none }
def codeSaysRow : OpenClaim := { program := "ytnfjghldcopaaaa", sum := "ed2d7cbb31d092413220161620e48e97a25fe2d4cef40f25255a9fecfd1ccf66", func := "bottlepost/bottlepostlaw.CodeSays", spec := "codeSays", recurses := true, apart := false }
def CodeSaysSaid : Prop := codeSaysRow.holds Try.pinned (OpenSpec.ofChange codeSaysSpec)

/-- ITS FALSE NEIGHBOUR: 'it returns false'. Refute it at one input. -/
def codeSaysWrong : ChangeSpec := { name := "codeSays", fn := fun _ => fun
  | [d1, d2, d3, d4] => { results := [.lit (.bool false)], args := [d1, d2, d3, d4] }
  | _ => none }
def CodeSaysWrongFalsely : Prop := codeSaysRow.holds Try.pinned (OpenSpec.ofChange codeSaysWrong)

/-- 'bottlepostlaw.PeelTrue': WHATEVER THE INPUT: true; the input reads as it did. -/
def peelTrueSpec : ChangeSpec := { name := "peelTrue", fn := fun _ => fun
  | [d1, d2, d3, d4] => { results := [.lit (.bool true)], args := [d1, d2, d3, d4] }
  | _ => none }
def peelTrueRow : OpenClaim := { program := "ytnfjghldcopaaaa", sum := "ed2d7cbb31d092413220161620e48e97a25fe2d4cef40f25255a9fecfd1ccf66", func := "bottlepost/bottlepostlaw.PeelTrue", spec := "peelTrue", inPlace := ["slices.overlaps[bottlepost/api.Row]"], unfollowed := true, recurses := true, apart := false }
def PeelTrueSaid : Prop := peelTrueRow.holds Try.pinned (OpenSpec.ofChange peelTrueSpec)

/-- ITS FALSE NEIGHBOUR: 'it returns false'. Refute it at one input. -/
def peelTrueWrong : ChangeSpec := { name := "peelTrue", fn := fun _ => fun
  | [d1, d2, d3, d4] => { results := [.lit (.bool false)], args := [d1, d2, d3, d4] }
  | _ => none }
def PeelTrueWrongFalsely : Prop := peelTrueRow.holds Try.pinned (OpenSpec.ofChange peelTrueWrong)

/-- 'bottlepostlaw.PeelSays': WHATEVER THE INPUT: true; the input reads as it did. -/
def peelSaysSpec : ChangeSpec := { name := "peelSays", fn := fun _ => fun
  | [d1, d2] => { results := [.lit (.bool true)], args := [d1, d2] }
  | _ => none }
def peelSaysRow : OpenClaim := { program := "ytnfjghldcopaaaa", sum := "ed2d7cbb31d092413220161620e48e97a25fe2d4cef40f25255a9fecfd1ccf66", func := "bottlepost/bottlepostlaw.PeelSays", spec := "peelSays", unfollowed := true, recurses := true, apart := false }
def PeelSaysSaid : Prop := peelSaysRow.holds Try.pinned (OpenSpec.ofChange peelSaysSpec)

/-- ITS FALSE NEIGHBOUR: 'it returns false'. Refute it at one input. -/
def peelSaysWrong : ChangeSpec := { name := "peelSays", fn := fun _ => fun
  | [d1, d2] => { results := [.lit (.bool false)], args := [d1, d2] }
  | _ => none }
def PeelSaysWrongFalsely : Prop := peelSaysRow.holds Try.pinned (OpenSpec.ofChange peelSaysWrong)

/-- 'bottlepostlaw.SolveDecode': WHATEVER THE INPUT: true; the input reads as it did. -/
def solveDecodeSpec : ChangeSpec := { name := "solveDecode", fn := fun _ => fun
  | [d1, d2] => { results := [.lit (.bool true)], args := [d1, d2] }
  | _ => none }
def solveDecodeRow : OpenClaim := { program := "ytnfjghldcopaaaa", sum := "ed2d7cbb31d092413220161620e48e97a25fe2d4cef40f25255a9fecfd1ccf66", func := "bottlepost/bottlepostlaw.SolveDecode", spec := "solveDecode", inPlace := ["slices.overlaps[bottlepost/api.Row]"], unfollowed := true, recurses := true, apart := false }
def SolveDecodeSaid : Prop := solveDecodeRow.holds Try.pinned (OpenSpec.ofChange solveDecodeSpec)

/-- ITS FALSE NEIGHBOUR: 'it returns false'. Refute it at one input. -/
def solveDecodeWrong : ChangeSpec := { name := "solveDecode", fn := fun _ => fun
  | [d1, d2] => { results := [.lit (.bool false)], args := [d1, d2] }
  | _ => none }
def SolveDecodeWrongFalsely : Prop := solveDecodeRow.holds Try.pinned (OpenSpec.ofChange solveDecodeWrong)

/- THE SECOND FORM. 'bulk': how many values and letters a reading holds, each counted each time it is reached (what is shared counts as often as it is met; a slice's spare places count too). A statement '..UptoSaid' is the law's where the arguments, and the package variables that the reading takes, are together of bulk at most 1048576: NARROWER than '..Said'. Prove '..Said' where nothing that the law and all that it calls make is longer than what came in: it says more and counts as full. Else prove '..UptoSaid'. A law counts once. -/
mutual
def uptoBulk {H : Type} : DataW H → Nat
  | .lit (.string bytes) => bytes.length + 1
  | .lit _ => 1
  | .nil => 1
  | .ptr d => uptoBulk d + 1
  | .slice elems spare => uptoBulkAll elems + uptoBulkAll spare + 1
  | .agg parts => uptoBulkAll parts + 1
  | .iface _ d => uptoBulk d + 1
  | .map entries => uptoBulkEntries entries + 1
  | .held _ => 1
def uptoBulkAll {H : Type} : List (DataW H) → Nat
  | [] => 0
  | d :: r => uptoBulk d + uptoBulkAll r
def uptoBulkEntries {H : Type} : List (Lit × DataW H) → Nat
  | [] => 0
  | x :: r => uptoBulkEntry x + uptoBulkEntries r
def uptoBulkEntry {H : Type} : Lit × DataW H → Nat
  | (.string bytes, d) => bytes.length + uptoBulk d + 1
  | (_, d) => uptoBulk d + 1
 end
def uptoSmall : (H : Type) → List (DataW H) → Bool := fun _ ds => decide (uptoBulkAll ds ≤ 1048576)
def OpenSpec.upto (s : _root_.Go.ChangeSpec) : _root_.Go.OpenSpec := { _root_.Go.OpenSpec.ofChange s with cond := some uptoSmall }

/-- 'bottlepostlaw.SolveSays', WHERE WHAT IT READS IS OF BULK AT MOST 1048576: true; the input reads as it did. -/
def solveSaysUptoRow : OpenClaim := { program := "ytnfjghldcopaaaa", sum := "ed2d7cbb31d092413220161620e48e97a25fe2d4cef40f25255a9fecfd1ccf66", func := "bottlepost/bottlepostlaw.SolveSays", spec := "solveSays", inPlace := ["slices.overlaps[bottlepost/api.Row]"], unfollowed := true, recurses := true, apart := false, narrowed := true }
def SolveSaysUptoSaid : Prop := solveSaysUptoRow.holds Try.pinned (OpenSpec.upto solveSaysSpec)

/-- 'bottlepostlaw.SolveKeeps', WHERE WHAT IT READS IS OF BULK AT MOST 1048576: true; the input reads as it did. -/
def solveKeepsUptoRow : OpenClaim := { program := "ytnfjghldcopaaaa", sum := "ed2d7cbb31d092413220161620e48e97a25fe2d4cef40f25255a9fecfd1ccf66", func := "bottlepost/bottlepostlaw.SolveKeeps", spec := "solveKeeps", inPlace := ["slices.overlaps[bottlepost/api.Row]"], unfollowed := true, recurses := true, apart := false, narrowed := true }
def SolveKeepsUptoSaid : Prop := solveKeepsUptoRow.holds Try.pinned (OpenSpec.upto solveKeepsSpec)

/-- 'bottlepostlaw.SolveKnown', WHERE WHAT IT READS IS OF BULK AT MOST 1048576: true; the input reads as it did. -/
def solveKnownUptoRow : OpenClaim := { program := "ytnfjghldcopaaaa", sum := "ed2d7cbb31d092413220161620e48e97a25fe2d4cef40f25255a9fecfd1ccf66", func := "bottlepost/bottlepostlaw.SolveKnown", spec := "solveKnown", inPlace := ["slices.overlaps[bottlepost/api.Row]"], unfollowed := true, recurses := true, apart := false, narrowed := true }
def SolveKnownUptoSaid : Prop := solveKnownUptoRow.holds Try.pinned (OpenSpec.upto solveKnownSpec)

/-- 'bottlepostlaw.PickSays', WHERE WHAT IT READS IS OF BULK AT MOST 1048576: true; the input reads as it did. -/
def pickSaysUptoRow : OpenClaim := { program := "ytnfjghldcopaaaa", sum := "ed2d7cbb31d092413220161620e48e97a25fe2d4cef40f25255a9fecfd1ccf66", func := "bottlepost/bottlepostlaw.PickSays", spec := "pickSays", recurses := true, apart := false, narrowed := true }
def PickSaysUptoSaid : Prop := pickSaysUptoRow.holds Try.pinned (OpenSpec.upto pickSaysSpec)

/-- 'bottlepostlaw.SolveNever', WHERE WHAT IT READS IS OF BULK AT MOST 1048576: true; the input reads as it did. -/
def solveNeverUptoRow : OpenClaim := { program := "ytnfjghldcopaaaa", sum := "ed2d7cbb31d092413220161620e48e97a25fe2d4cef40f25255a9fecfd1ccf66", func := "bottlepost/bottlepostlaw.SolveNever", spec := "solveNever", inPlace := ["slices.overlaps[bottlepost/api.Row]"], unfollowed := true, recurses := true, apart := false, narrowed := true }
def SolveNeverUptoSaid : Prop := solveNeverUptoRow.holds Try.pinned (OpenSpec.upto solveNeverSpec)

/-- 'bottlepostlaw.SolveOrder', WHERE WHAT IT READS IS OF BULK AT MOST 1048576: true; the input reads as it did. -/
def solveOrderUptoRow : OpenClaim := { program := "ytnfjghldcopaaaa", sum := "ed2d7cbb31d092413220161620e48e97a25fe2d4cef40f25255a9fecfd1ccf66", func := "bottlepost/bottlepostlaw.SolveOrder", spec := "solveOrder", inPlace := ["slices.overlaps[bottlepost/api.Row]"], unfollowed := true, recurses := true, apart := false, narrowed := true }
def SolveOrderUptoSaid : Prop := solveOrderUptoRow.holds Try.pinned (OpenSpec.upto solveOrderSpec)

/-- 'bottlepostlaw.SolveEnough', WHERE WHAT IT READS IS OF BULK AT MOST 1048576: true; the input reads as it did. -/
def solveEnoughUptoRow : OpenClaim := { program := "ytnfjghldcopaaaa", sum := "ed2d7cbb31d092413220161620e48e97a25fe2d4cef40f25255a9fecfd1ccf66", func := "bottlepost/bottlepostlaw.SolveEnough", spec := "solveEnough", inPlace := ["slices.overlaps[bottlepost/api.Row]"], unfollowed := true, recurses := true, apart := false, narrowed := true }
def SolveEnoughUptoSaid : Prop := solveEnoughUptoRow.holds Try.pinned (OpenSpec.upto solveEnoughSpec)

/-- 'bottlepostlaw.CodeSays', WHERE WHAT IT READS IS OF BULK AT MOST 1048576: true; the input reads as it did. -/
def codeSaysUptoRow : OpenClaim := { program := "ytnfjghldcopaaaa", sum := "ed2d7cbb31d092413220161620e48e97a25fe2d4cef40f25255a9fecfd1ccf66", func := "bottlepost/bottlepostlaw.CodeSays", spec := "codeSays", recurses := true, apart := false, narrowed := true }
def CodeSaysUptoSaid : Prop := codeSaysUptoRow.holds Try.pinned (OpenSpec.upto codeSaysSpec)

/-- 'bottlepostlaw.PeelTrue', WHERE WHAT IT READS IS OF BULK AT MOST 1048576: true; the input reads as it did. -/
def peelTrueUptoRow : OpenClaim := { program := "ytnfjghldcopaaaa", sum := "ed2d7cbb31d092413220161620e48e97a25fe2d4cef40f25255a9fecfd1ccf66", func := "bottlepost/bottlepostlaw.PeelTrue", spec := "peelTrue", inPlace := ["slices.overlaps[bottlepost/api.Row]"], unfollowed := true, recurses := true, apart := false, narrowed := true }
def PeelTrueUptoSaid : Prop := peelTrueUptoRow.holds Try.pinned (OpenSpec.upto peelTrueSpec)

/-- 'bottlepostlaw.PeelSays', WHERE WHAT IT READS IS OF BULK AT MOST 1048576: true; the input reads as it did. -/
def peelSaysUptoRow : OpenClaim := { program := "ytnfjghldcopaaaa", sum := "ed2d7cbb31d092413220161620e48e97a25fe2d4cef40f25255a9fecfd1ccf66", func := "bottlepost/bottlepostlaw.PeelSays", spec := "peelSays", unfollowed := true, recurses := true, apart := false, narrowed := true }
def PeelSaysUptoSaid : Prop := peelSaysUptoRow.holds Try.pinned (OpenSpec.upto peelSaysSpec)

/-- 'bottlepostlaw.SolveDecode', WHERE WHAT IT READS IS OF BULK AT MOST 1048576: true; the input reads as it did. -/
def solveDecodeUptoRow : OpenClaim := { program := "ytnfjghldcopaaaa", sum := "ed2d7cbb31d092413220161620e48e97a25fe2d4cef40f25255a9fecfd1ccf66", func := "bottlepost/bottlepostlaw.SolveDecode", spec := "solveDecode", inPlace := ["slices.overlaps[bottlepost/api.Row]"], unfollowed := true, recurses := true, apart := false, narrowed := true }
def SolveDecodeUptoSaid : Prop := solveDecodeUptoRow.holds Try.pinned (OpenSpec.upto solveDecodeSpec)

end Rows
end Go.Proofs.Ytnfjghldcopaaaa
