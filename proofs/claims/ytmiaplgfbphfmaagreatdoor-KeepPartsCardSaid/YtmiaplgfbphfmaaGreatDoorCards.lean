/-
  DERIVED. GIVEN WITH THE SEED: THE CARDS: each row of YtmiaplgfbphfmaaGreatDoorRows.lean that lists a variable, with what it lists TIED to the program's text (the seventh form; the later family's looks); each row that meets fmt, with fmt's text TOLD by the authors' own Lean function (tested against real Go, not proved from fmt's source: count such statements apart). THE CARD IS WHAT COUNTS. Prove the row's statement (the work); the ties are given (YtmiaplgfbphfmaaGreatDoorTie.lean); close each card by the builder's one call (the guide's Derived/Test/ToyasCard.lean, 'card_holds'). Laid BY PROGRAM, IN A SANDBOX (cutbox-door.mjs). By AI agents, Wed Nov 11 2026. No macro, syntax, notation, axiom, sorry.
-/
import Derived.Test.YtmiaplgfbphfmaaGreatDoorRows
import GoSem.ClaimSeven
namespace Go.Proofs.YtmiaplgfbphfmaaGreatDoor
namespace Rows

/-- THE TIED CARD OF 'bottlepostlaw.KeepParts'. -/
def keepPartsCard : Claim7 := { stood := { row := keepPartsRow, standIns := [], harness := (true, "2b0787dfc8e772828664ff454fbfeb459dd18ce4e240ad5254fd8bd286c25f2a"), looks := true }, kinds := [], alts := [], laidByText := true, laidKinds := [.data, .data, .data, .data, .sentinel, .sentinel, .pinned], laidTests := true, laidLooks := .later }
def KeepPartsCardSaid : Prop := Claim7.holds Tryz.pinned (.plain (OpenSpec.ofChange keepPartsSpec)) keepPartsCard

/-- THE TIED CARD OF 'bottlepostlaw.WorldTwice'. -/
def worldTwiceCard : Claim7 := { stood := { row := worldTwiceRow, standIns := [], harness := (true, "2b0787dfc8e772828664ff454fbfeb459dd18ce4e240ad5254fd8bd286c25f2a"), looks := true }, kinds := [], alts := [], laidByText := true, laidKinds := [.data, .data, .data, .data, .sentinel, .sentinel, .pinned], laidTests := true, laidLooks := .later }
def WorldTwiceCardSaid : Prop := Claim7.holds Tryz.pinned (.plain (OpenSpec.ofChange worldTwiceSpec)) worldTwiceCard

/-- THE TIED CARD OF 'bottlepostlaw.WorldParts'. -/
def worldPartsCard : Claim7 := { stood := { row := worldPartsRow, standIns := [], harness := (true, "2b0787dfc8e772828664ff454fbfeb459dd18ce4e240ad5254fd8bd286c25f2a"), looks := true }, kinds := [], alts := [], laidByText := true, laidKinds := [.data, .data, .data, .data, .sentinel, .sentinel, .pinned], laidTests := true, laidLooks := .later }
def WorldPartsCardSaid : Prop := Claim7.holds Tryz.pinned (.plain (OpenSpec.ofChange worldPartsSpec)) worldPartsCard

/-- THE TIED CARD OF 'bottlepostlaw.WorldSilent'. -/
def worldSilentCard : Claim7 := { stood := { row := worldSilentRow, standIns := [], harness := (true, "2b0787dfc8e772828664ff454fbfeb459dd18ce4e240ad5254fd8bd286c25f2a"), looks := true }, kinds := [], alts := [], laidByText := true, laidKinds := [.data, .data, .data, .data, .sentinel, .sentinel, .pinned], laidTests := true, laidLooks := .later }
def WorldSilentCardSaid : Prop := Claim7.holds Tryz.pinned (.plain (OpenSpec.ofChange worldSilentSpec)) worldSilentCard

/-- THE TIED CARD OF 'bottlepostlaw.WorldKeeps'. -/
def worldKeepsCard : Claim7 := { stood := { row := worldKeepsRow, standIns := [], harness := (true, "2b0787dfc8e772828664ff454fbfeb459dd18ce4e240ad5254fd8bd286c25f2a"), looks := true }, kinds := [], alts := [], laidByText := true, laidKinds := [.data, .data, .data, .data, .sentinel, .sentinel, .pinned], laidTests := true, laidLooks := .later }
def WorldKeepsCardSaid : Prop := Claim7.holds Tryz.pinned (.plain (OpenSpec.ofChange worldKeepsSpec)) worldKeepsCard

/-- THE TIED CARD OF 'bottlepostlaw.WorldStands'. -/
def worldStandsCard : Claim7 := { stood := { row := worldStandsRow, standIns := [], harness := (true, "2b0787dfc8e772828664ff454fbfeb459dd18ce4e240ad5254fd8bd286c25f2a"), looks := true }, kinds := [], alts := [], laidByText := true, laidKinds := [.data, .data, .data, .data, .sentinel, .sentinel, .pinned], laidTests := true, laidLooks := .later }
def WorldStandsCardSaid : Prop := Claim7.holds Tryz.pinned (.plain (OpenSpec.ofChange worldStandsSpec)) worldStandsCard

/-- THE TIED CARD OF 'bottlepostlaw.StoryGrows'. -/
def storyGrowsCard : Claim7 := { stood := { row := storyGrowsRow, standIns := [], harness := (true, "2b0787dfc8e772828664ff454fbfeb459dd18ce4e240ad5254fd8bd286c25f2a"), looks := true }, kinds := [], alts := [], laidByText := true, laidKinds := [.data, .data, .data, .data, .sentinel, .sentinel, .pinned], laidTests := true, laidLooks := .later }
def StoryGrowsCardSaid : Prop := Claim7.holds Tryz.pinned (.plain (OpenSpec.ofChange storyGrowsSpec)) storyGrowsCard

/-- THE TIED CARD OF 'bottlepostlaw.StoryPurged'. -/
def storyPurgedCard : Claim7 := { stood := { row := storyPurgedRow, standIns := [], harness := (true, "2b0787dfc8e772828664ff454fbfeb459dd18ce4e240ad5254fd8bd286c25f2a"), looks := true }, kinds := [], alts := [], laidByText := true, laidKinds := [.data, .data, .data, .data, .sentinel, .sentinel, .pinned], laidTests := true, laidLooks := .later }
def StoryPurgedCardSaid : Prop := Claim7.holds Tryz.pinned (.plain (OpenSpec.ofChange storyPurgedSpec)) storyPurgedCard

/-- THE TIED CARD OF 'bottlepostlaw.StoryTrue'. -/
def storyTrueCard : Claim7 := { stood := { row := storyTrueRow, standIns := [], harness := (true, "2b0787dfc8e772828664ff454fbfeb459dd18ce4e240ad5254fd8bd286c25f2a"), looks := true }, kinds := [], alts := [], laidByText := true, laidKinds := [.data, .data, .data, .data, .sentinel, .sentinel, .pinned], laidTests := true, laidLooks := .later }
def StoryTrueCardSaid : Prop := Claim7.holds Tryz.pinned (.plain (OpenSpec.ofChange storyTrueSpec)) storyTrueCard

/-- THE TIED CARD OF 'bottlepostlaw.StoryShares'. -/
def storySharesCard : Claim7 := { stood := { row := storySharesRow, standIns := [], harness := (true, "2b0787dfc8e772828664ff454fbfeb459dd18ce4e240ad5254fd8bd286c25f2a"), looks := true }, kinds := [], alts := [], laidByText := true, laidKinds := [.data, .data, .data, .data, .sentinel, .sentinel, .pinned], laidTests := true, laidLooks := .later }
def StorySharesCardSaid : Prop := Claim7.holds Tryz.pinned (.plain (OpenSpec.ofChange storySharesSpec)) storySharesCard

/-- THE TIED CARD OF 'bottlepostlaw.StoryComes'. -/
def storyComesCard : Claim7 := { stood := { row := storyComesRow, standIns := [], harness := (true, "2b0787dfc8e772828664ff454fbfeb459dd18ce4e240ad5254fd8bd286c25f2a"), looks := true }, kinds := [], alts := [], laidByText := true, laidKinds := [.data, .data, .data, .data, .sentinel, .sentinel, .pinned], laidTests := true, laidLooks := .later }
def StoryComesCardSaid : Prop := Claim7.holds Tryz.pinned (.plain (OpenSpec.ofChange storyComesSpec)) storyComesCard

/-- THE SECOND FORM's CARD OF 'bottlepostlaw.KeepParts'. -/
def keepPartsUptoCard : Claim7 := { stood := { row := keepPartsUptoRow, standIns := [], harness := (true, "2b0787dfc8e772828664ff454fbfeb459dd18ce4e240ad5254fd8bd286c25f2a"), looks := true }, kinds := [], alts := [], laidByText := true, laidKinds := [.data, .data, .data, .data, .sentinel, .sentinel, .pinned], laidTests := true, laidLooks := .later }
def KeepPartsUptoCardSaid : Prop := Claim7.holds Tryz.pinned (.plain (OpenSpec.upto keepPartsSpec)) keepPartsUptoCard

/-- THE SECOND FORM's CARD OF 'bottlepostlaw.WorldTwice'. -/
def worldTwiceUptoCard : Claim7 := { stood := { row := worldTwiceUptoRow, standIns := [], harness := (true, "2b0787dfc8e772828664ff454fbfeb459dd18ce4e240ad5254fd8bd286c25f2a"), looks := true }, kinds := [], alts := [], laidByText := true, laidKinds := [.data, .data, .data, .data, .sentinel, .sentinel, .pinned], laidTests := true, laidLooks := .later }
def WorldTwiceUptoCardSaid : Prop := Claim7.holds Tryz.pinned (.plain (OpenSpec.upto worldTwiceSpec)) worldTwiceUptoCard

/-- THE SECOND FORM's CARD OF 'bottlepostlaw.WorldParts'. -/
def worldPartsUptoCard : Claim7 := { stood := { row := worldPartsUptoRow, standIns := [], harness := (true, "2b0787dfc8e772828664ff454fbfeb459dd18ce4e240ad5254fd8bd286c25f2a"), looks := true }, kinds := [], alts := [], laidByText := true, laidKinds := [.data, .data, .data, .data, .sentinel, .sentinel, .pinned], laidTests := true, laidLooks := .later }
def WorldPartsUptoCardSaid : Prop := Claim7.holds Tryz.pinned (.plain (OpenSpec.upto worldPartsSpec)) worldPartsUptoCard

/-- THE SECOND FORM's CARD OF 'bottlepostlaw.WorldSilent'. -/
def worldSilentUptoCard : Claim7 := { stood := { row := worldSilentUptoRow, standIns := [], harness := (true, "2b0787dfc8e772828664ff454fbfeb459dd18ce4e240ad5254fd8bd286c25f2a"), looks := true }, kinds := [], alts := [], laidByText := true, laidKinds := [.data, .data, .data, .data, .sentinel, .sentinel, .pinned], laidTests := true, laidLooks := .later }
def WorldSilentUptoCardSaid : Prop := Claim7.holds Tryz.pinned (.plain (OpenSpec.upto worldSilentSpec)) worldSilentUptoCard

/-- THE SECOND FORM's CARD OF 'bottlepostlaw.WorldKeeps'. -/
def worldKeepsUptoCard : Claim7 := { stood := { row := worldKeepsUptoRow, standIns := [], harness := (true, "2b0787dfc8e772828664ff454fbfeb459dd18ce4e240ad5254fd8bd286c25f2a"), looks := true }, kinds := [], alts := [], laidByText := true, laidKinds := [.data, .data, .data, .data, .sentinel, .sentinel, .pinned], laidTests := true, laidLooks := .later }
def WorldKeepsUptoCardSaid : Prop := Claim7.holds Tryz.pinned (.plain (OpenSpec.upto worldKeepsSpec)) worldKeepsUptoCard

/-- THE SECOND FORM's CARD OF 'bottlepostlaw.WorldStands'. -/
def worldStandsUptoCard : Claim7 := { stood := { row := worldStandsUptoRow, standIns := [], harness := (true, "2b0787dfc8e772828664ff454fbfeb459dd18ce4e240ad5254fd8bd286c25f2a"), looks := true }, kinds := [], alts := [], laidByText := true, laidKinds := [.data, .data, .data, .data, .sentinel, .sentinel, .pinned], laidTests := true, laidLooks := .later }
def WorldStandsUptoCardSaid : Prop := Claim7.holds Tryz.pinned (.plain (OpenSpec.upto worldStandsSpec)) worldStandsUptoCard

/-- THE SECOND FORM's CARD OF 'bottlepostlaw.StoryGrows'. -/
def storyGrowsUptoCard : Claim7 := { stood := { row := storyGrowsUptoRow, standIns := [], harness := (true, "2b0787dfc8e772828664ff454fbfeb459dd18ce4e240ad5254fd8bd286c25f2a"), looks := true }, kinds := [], alts := [], laidByText := true, laidKinds := [.data, .data, .data, .data, .sentinel, .sentinel, .pinned], laidTests := true, laidLooks := .later }
def StoryGrowsUptoCardSaid : Prop := Claim7.holds Tryz.pinned (.plain (OpenSpec.upto storyGrowsSpec)) storyGrowsUptoCard

/-- THE SECOND FORM's CARD OF 'bottlepostlaw.StoryPurged'. -/
def storyPurgedUptoCard : Claim7 := { stood := { row := storyPurgedUptoRow, standIns := [], harness := (true, "2b0787dfc8e772828664ff454fbfeb459dd18ce4e240ad5254fd8bd286c25f2a"), looks := true }, kinds := [], alts := [], laidByText := true, laidKinds := [.data, .data, .data, .data, .sentinel, .sentinel, .pinned], laidTests := true, laidLooks := .later }
def StoryPurgedUptoCardSaid : Prop := Claim7.holds Tryz.pinned (.plain (OpenSpec.upto storyPurgedSpec)) storyPurgedUptoCard

/-- THE SECOND FORM's CARD OF 'bottlepostlaw.StoryTrue'. -/
def storyTrueUptoCard : Claim7 := { stood := { row := storyTrueUptoRow, standIns := [], harness := (true, "2b0787dfc8e772828664ff454fbfeb459dd18ce4e240ad5254fd8bd286c25f2a"), looks := true }, kinds := [], alts := [], laidByText := true, laidKinds := [.data, .data, .data, .data, .sentinel, .sentinel, .pinned], laidTests := true, laidLooks := .later }
def StoryTrueUptoCardSaid : Prop := Claim7.holds Tryz.pinned (.plain (OpenSpec.upto storyTrueSpec)) storyTrueUptoCard

/-- THE SECOND FORM's CARD OF 'bottlepostlaw.StoryShares'. -/
def storySharesUptoCard : Claim7 := { stood := { row := storySharesUptoRow, standIns := [], harness := (true, "2b0787dfc8e772828664ff454fbfeb459dd18ce4e240ad5254fd8bd286c25f2a"), looks := true }, kinds := [], alts := [], laidByText := true, laidKinds := [.data, .data, .data, .data, .sentinel, .sentinel, .pinned], laidTests := true, laidLooks := .later }
def StorySharesUptoCardSaid : Prop := Claim7.holds Tryz.pinned (.plain (OpenSpec.upto storySharesSpec)) storySharesUptoCard

/-- THE SECOND FORM's CARD OF 'bottlepostlaw.StoryComes'. -/
def storyComesUptoCard : Claim7 := { stood := { row := storyComesUptoRow, standIns := [], harness := (true, "2b0787dfc8e772828664ff454fbfeb459dd18ce4e240ad5254fd8bd286c25f2a"), looks := true }, kinds := [], alts := [], laidByText := true, laidKinds := [.data, .data, .data, .data, .sentinel, .sentinel, .pinned], laidTests := true, laidLooks := .later }
def StoryComesUptoCardSaid : Prop := Claim7.holds Tryz.pinned (.plain (OpenSpec.upto storyComesSpec)) storyComesUptoCard
end Rows
end Go.Proofs.YtmiaplgfbphfmaaGreatDoor
