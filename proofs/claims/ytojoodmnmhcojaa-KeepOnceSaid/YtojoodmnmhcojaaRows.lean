/-
  No cell of these rows narrows 'for every input' (looked for: loops, veiled, ifaces, maps, wideKeys, modest, calm, conditions, laid).
  DERIVED. THE GIVEN ROWS OF THIS SEAT. 2 by the template 'for every input the law returns true; each argument reads behind the call as it read before'; 0 by the template 'total and deterministic' (their statements: YtojoodmnmhcojaaTotals.lean).
  GIVEN WITH THE SEED: the statements are not yours to turn. If you find one false, say at which input.
  Laid BY PROGRAM, IN A SANDBOX (cutbox-rows.mjs): the forced cells as the released guide's own fill.sh prints them over the translation 6adc71af7ad9dfd7… (all of the seat's roots in one cut). By AI agents, Wed Nov 11 2026. No macro, syntax, notation, axiom, sorry.
-/
import Derived.Test.YtojoodmnmhcojaaChecked
import GoSem.Claim
import GoSem.ClaimJoined
import GoSem.ClaimMapViews
import Derived.JoinedTies
import Derived.KernelRfl
namespace Go.Proofs.Ytojoodmnmhcojaa
/- THE CELL 'sum', in the pinned program and in every row, IS THE sha256 OF THE DUMP (.gsa) THAT YtojoodmnmhcojaaProg.lean LOADS. Nothing in Lean hashes anything: it is a label: what it is worth is what the hold of that sum in a sandbox is worth. -/
noncomputable def Try.pinned : Pinned := { name := "ytojoodmnmhcojaa", sum := "6adc71af7ad9dfd704411afd489061a03912b0d6c08e644ca94e92d74bb78651", checked := Try.checked }
namespace Rows
def none {H : Type} : Left H := { results := [], args := [] }

/-- 'bottlepostlaw.KeepOnce': WHATEVER THE INPUT: true; the input reads as it did. -/
def keepOnceSpec : ChangeSpec := { name := "keepOnce", fn := fun _ => fun
  | [d1, d2] => { results := [.lit (.bool true)], args := [d1, d2] }
  | _ => none }
def keepOnceRow : OpenClaim := { program := "ytojoodmnmhcojaa", sum := "6adc71af7ad9dfd704411afd489061a03912b0d6c08e644ca94e92d74bb78651", func := "bottlepost/bottlepostlaw.KeepOnce", spec := "keepOnce", inPlace := ["internal/bytealg.IndexByteString", "internal/bytealg.IndexString", "slices.overlaps[bottlepost/api.Kept]", "slices.overlaps[bottlepost/api.Row]"], unfollowed := true, recurses := true, named := ["internal/bytealg.MaxLen"], plainKeys := false, apart := false }
def KeepOnceSaid : Prop := keepOnceRow.holds Try.pinned (OpenSpec.ofChange keepOnceSpec)

/-- ITS FALSE NEIGHBOUR: 'it returns false'. Refute it at one input. -/
def keepOnceWrong : ChangeSpec := { name := "keepOnce", fn := fun _ => fun
  | [d1, d2] => { results := [.lit (.bool false)], args := [d1, d2] }
  | _ => none }
def KeepOnceWrongFalsely : Prop := keepOnceRow.holds Try.pinned (OpenSpec.ofChange keepOnceWrong)

/-- 'bottlepostlaw.KeepShares': WHATEVER THE INPUT: true; the input reads as it did. -/
def keepSharesSpec : ChangeSpec := { name := "keepShares", fn := fun _ => fun
  | [d1, d2] => { results := [.lit (.bool true)], args := [d1, d2] }
  | _ => none }
def keepSharesRow : OpenClaim := { program := "ytojoodmnmhcojaa", sum := "6adc71af7ad9dfd704411afd489061a03912b0d6c08e644ca94e92d74bb78651", func := "bottlepost/bottlepostlaw.KeepShares", spec := "keepShares", inPlace := ["internal/bytealg.IndexByteString", "internal/bytealg.IndexString", "slices.overlaps[bottlepost/api.Kept]", "slices.overlaps[bottlepost/api.Row]"], unfollowed := true, recurses := true, named := ["internal/bytealg.MaxLen"], plainKeys := false, apart := false }
def KeepSharesSaid : Prop := keepSharesRow.holds Try.pinned (OpenSpec.ofChange keepSharesSpec)

/-- ITS FALSE NEIGHBOUR: 'it returns false'. Refute it at one input. -/
def keepSharesWrong : ChangeSpec := { name := "keepShares", fn := fun _ => fun
  | [d1, d2] => { results := [.lit (.bool false)], args := [d1, d2] }
  | _ => none }
def KeepSharesWrongFalsely : Prop := keepSharesRow.holds Try.pinned (OpenSpec.ofChange keepSharesWrong)

/- THE SECOND FORM. 'bulk': how many values and letters a reading holds, each counted each time it is reached (what is shared counts as often as it is met; a slice's spare places count too). A statement '..UptoSaid' is the law's where the arguments, and the package variables that the reading takes, are together of bulk at most 1048576: NARROWER than '..Said'. Prove '..Said' where nothing that the law and all that it calls make is longer than what came in: it says more and counts as full. Else prove '..UptoSaid'. A law counts once. -/
mutual
def uptoBulk {H : Type} : DataW H → Nat
  | .lit (.string bytes) => bytes.length + 1
  | .lit _ => 1
  | .nil => 1
  | .ptr d => uptoBulk d + 1
  | .slice elems spare => uptoBulkAll elems + uptoBulkAll spare + 1
  | .agg parts => uptoBulkAll parts + 1
  | .iface _ d => uptoBulk d + 1
  | .map entries => uptoBulkEntries entries + 1
  | .held _ => 1
def uptoBulkAll {H : Type} : List (DataW H) → Nat
  | [] => 0
  | d :: r => uptoBulk d + uptoBulkAll r
def uptoBulkEntries {H : Type} : List (Lit × DataW H) → Nat
  | [] => 0
  | x :: r => uptoBulkEntry x + uptoBulkEntries r
def uptoBulkEntry {H : Type} : Lit × DataW H → Nat
  | (.string bytes, d) => bytes.length + uptoBulk d + 1
  | (_, d) => uptoBulk d + 1
 end
def uptoSmall : (H : Type) → List (DataW H) → Bool := fun _ ds => decide (uptoBulkAll ds ≤ 1048576)
def OpenSpec.upto (s : _root_.Go.ChangeSpec) : _root_.Go.OpenSpec := { _root_.Go.OpenSpec.ofChange s with cond := some uptoSmall }

/-- 'bottlepostlaw.KeepOnce', WHERE WHAT IT READS IS OF BULK AT MOST 1048576: true; the input reads as it did. -/
def keepOnceUptoRow : OpenClaim := { program := "ytojoodmnmhcojaa", sum := "6adc71af7ad9dfd704411afd489061a03912b0d6c08e644ca94e92d74bb78651", func := "bottlepost/bottlepostlaw.KeepOnce", spec := "keepOnce", inPlace := ["internal/bytealg.IndexByteString", "internal/bytealg.IndexString", "slices.overlaps[bottlepost/api.Kept]", "slices.overlaps[bottlepost/api.Row]"], unfollowed := true, recurses := true, named := ["internal/bytealg.MaxLen"], plainKeys := false, apart := false, narrowed := true }
def KeepOnceUptoSaid : Prop := keepOnceUptoRow.holds Try.pinned (OpenSpec.upto keepOnceSpec)

/-- 'bottlepostlaw.KeepShares', WHERE WHAT IT READS IS OF BULK AT MOST 1048576: true; the input reads as it did. -/
def keepSharesUptoRow : OpenClaim := { program := "ytojoodmnmhcojaa", sum := "6adc71af7ad9dfd704411afd489061a03912b0d6c08e644ca94e92d74bb78651", func := "bottlepost/bottlepostlaw.KeepShares", spec := "keepShares", inPlace := ["internal/bytealg.IndexByteString", "internal/bytealg.IndexString", "slices.overlaps[bottlepost/api.Kept]", "slices.overlaps[bottlepost/api.Row]"], unfollowed := true, recurses := true, named := ["internal/bytealg.MaxLen"], plainKeys := false, apart := false, narrowed := true }
def KeepSharesUptoSaid : Prop := keepSharesUptoRow.holds Try.pinned (OpenSpec.upto keepSharesSpec)

end Rows
end Go.Proofs.Ytojoodmnmhcojaa
