/-
  DERIVED. GIVEN WITH THE SEED: THE CARDS: each row of YtbincgbgeccccaaGreatDoorRows.lean that lists a variable, with what it lists TIED to the program's text (the seventh form; the later family's looks); each row that meets fmt, with fmt's text TOLD by the authors' own Lean function (tested against real Go, not proved from fmt's source: count such statements apart). THE CARD IS WHAT COUNTS. Prove the row's statement (the work); the ties are given (YtbincgbgeccccaaGreatDoorTie.lean); close each card by the builder's one call (the guide's Derived/Test/ToyasCard.lean, 'card_holds'). Laid BY PROGRAM, IN A SANDBOX (cutbox-door.mjs). By AI agents, Wed Nov 11 2026. No macro, syntax, notation, axiom, sorry.
-/
import Derived.Test.YtbincgbgeccccaaGreatDoorRows
import GoSem.ClaimSeven
namespace Go.Proofs.YtbincgbgeccccaaGreatDoor
namespace Rows

/-- THE TIED CARD OF 'bottlepostlaw.DiskSays'. -/
def diskSaysCard : Claim7 := { stood := { row := diskSaysRow, standIns := [], harness := (true, "b419842a01858f31df3313e00f8449eb1fa7c6c8ba1cef3c213420404ecb08e8"), looks := true }, kinds := [], alts := [], laidByText := true, laidKinds := [.data, .data, .data, .data, .sentinel, .sentinel, .pinned], laidTests := true, laidLooks := .later }
def DiskSaysCardSaid : Prop := Claim7.holds Tryz.pinned (.plain (OpenSpec.ofChange diskSaysSpec)) diskSaysCard

/-- THE SECOND FORM's CARD OF 'bottlepostlaw.DiskSays'. -/
def diskSaysUptoCard : Claim7 := { stood := { row := diskSaysUptoRow, standIns := [], harness := (true, "b419842a01858f31df3313e00f8449eb1fa7c6c8ba1cef3c213420404ecb08e8"), looks := true }, kinds := [], alts := [], laidByText := true, laidKinds := [.data, .data, .data, .data, .sentinel, .sentinel, .pinned], laidTests := true, laidLooks := .later }
def DiskSaysUptoCardSaid : Prop := Claim7.holds Tryz.pinned (.plain (OpenSpec.upto diskSaysSpec)) diskSaysUptoCard
end Rows
end Go.Proofs.YtbincgbgeccccaaGreatDoor
