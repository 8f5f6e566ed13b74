/-
  DERIVED. GIVEN WITH THE SEED: THE CARDS: each row of YtbbdoibmcmkmnaaGreatDoorRows.lean that lists a variable, with what it lists TIED to the program's text (the seventh form; the later family's looks); each row that meets fmt, with fmt's text TOLD by the authors' own Lean function (tested against real Go, not proved from fmt's source: count such statements apart). THE CARD IS WHAT COUNTS. Prove the row's statement (the work); the ties are given (YtbbdoibmcmkmnaaGreatDoorTie.lean); close each card by the builder's one call (the guide's Derived/Test/ToyasCard.lean, 'card_holds'). Laid BY PROGRAM, IN A SANDBOX (cutbox-door.mjs). By AI agents, Wed Nov 11 2026. No macro, syntax, notation, axiom, sorry.
-/
import Derived.Test.YtbbdoibmcmkmnaaGreatDoorRows
import GoSem.ClaimSeven
namespace Go.Proofs.YtbbdoibmcmkmnaaGreatDoor
namespace Rows

/-- THE TIED CARD OF 'configlanglaw44.ManifestCheck'. -/
def manifestCheckCard : Claim7 := { stood := { row := manifestCheckRow, standIns := [], harness := (true, "01cbeb50b58922007f137914c52a94acd155877cb00e8f0390f81b2c0b853a46"), looks := true }, kinds := [], alts := [], laidByText := true, laidKinds := [.data, .data, .data, .data, .sentinel, .sentinel, .pinned], laidTests := true, laidLooks := .later }
def ManifestCheckCardSaid : Prop := Claim7.holds Tryz.pinned (.plain (OpenSpec.ofChange manifestCheckSpec)) manifestCheckCard

/-- THE TIED CARD OF 'configlanglaw44.ManifestText'. -/
def manifestTextCard : Claim7 := { stood := { row := manifestTextRow, standIns := [], harness := (true, "01cbeb50b58922007f137914c52a94acd155877cb00e8f0390f81b2c0b853a46"), looks := true }, kinds := [], alts := [], laidByText := true, laidKinds := [.data, .data, .data, .data, .sentinel, .sentinel, .pinned], laidTests := true, laidLooks := .later }
def ManifestTextCardSaid : Prop := Claim7.holds Tryz.pinned (.plain (OpenSpec.ofChange manifestTextSpec)) manifestTextCard

/-- THE TIED CARD OF 'configlanglaw44.ManifestParse'. -/
def manifestParseCard : Claim7 := { stood := { row := manifestParseRow, standIns := [], harness := (true, "01cbeb50b58922007f137914c52a94acd155877cb00e8f0390f81b2c0b853a46"), looks := true }, kinds := [], alts := [], laidByText := true, laidKinds := [.data, .data, .data, .data, .sentinel, .sentinel, .pinned], laidTests := true, laidLooks := .later }
def ManifestParseCardSaid : Prop := Claim7.holds Tryz.pinned (.plain (OpenSpec.ofChange manifestParseSpec)) manifestParseCard

/-- THE TIED CARD OF 'configlanglaw44.ManifestBack'. -/
def manifestBackCard : Claim7 := { stood := { row := manifestBackRow, standIns := [], harness := (true, "01cbeb50b58922007f137914c52a94acd155877cb00e8f0390f81b2c0b853a46"), looks := true }, kinds := [], alts := [], laidByText := true, laidKinds := [.data, .data, .data, .data, .sentinel, .sentinel, .pinned], laidTests := true, laidLooks := .later }
def ManifestBackCardSaid : Prop := Claim7.holds Tryz.pinned (.plain (OpenSpec.ofChange manifestBackSpec)) manifestBackCard

/-- THE TIED CARD OF 'configlanglaw44.ManifestLoose'. -/
def manifestLooseCard : Claim7 := { stood := { row := manifestLooseRow, standIns := [], harness := (true, "01cbeb50b58922007f137914c52a94acd155877cb00e8f0390f81b2c0b853a46"), looks := true }, kinds := [], alts := [], laidByText := true, laidKinds := [.data, .data, .data, .data, .sentinel, .sentinel, .pinned], laidTests := true, laidLooks := .later }
def ManifestLooseCardSaid : Prop := Claim7.holds Tryz.pinned (.plain (OpenSpec.ofChange manifestLooseSpec)) manifestLooseCard

/-- THE TIED CARD OF 'configlanglaw44.ManifestOrder'. -/
def manifestOrderCard : Claim7 := { stood := { row := manifestOrderRow, standIns := [], harness := (true, "01cbeb50b58922007f137914c52a94acd155877cb00e8f0390f81b2c0b853a46"), looks := true }, kinds := [], alts := [], laidByText := true, laidKinds := [.data, .data, .data, .data, .sentinel, .sentinel, .pinned], laidTests := true, laidLooks := .later }
def ManifestOrderCardSaid : Prop := Claim7.holds Tryz.pinned (.plain (OpenSpec.ofChange manifestOrderSpec)) manifestOrderCard

/-- THE TIED CARD OF 'configlanglaw44.ManifestOwner'. -/
def manifestOwnerCard : Claim7 := { stood := { row := manifestOwnerRow, standIns := [], harness := (true, "01cbeb50b58922007f137914c52a94acd155877cb00e8f0390f81b2c0b853a46"), looks := true }, kinds := [], alts := [], laidByText := true, laidKinds := [.data, .data, .data, .data, .sentinel, .sentinel, .pinned], laidTests := true, laidLooks := .later }
def ManifestOwnerCardSaid : Prop := Claim7.holds Tryz.pinned (.plain (OpenSpec.ofChange manifestOwnerSpec)) manifestOwnerCard

/-- THE TIED CARD OF 'configlanglaw44.ManifestLimit'. -/
def manifestLimitCard : Claim7 := { stood := { row := manifestLimitRow, standIns := [], harness := (true, "01cbeb50b58922007f137914c52a94acd155877cb00e8f0390f81b2c0b853a46"), looks := true }, kinds := [], alts := [], laidByText := true, laidKinds := [.data, .data, .data, .data, .sentinel, .sentinel, .pinned], laidTests := true, laidLooks := .later }
def ManifestLimitCardSaid : Prop := Claim7.holds Tryz.pinned (.plain (OpenSpec.ofChange manifestLimitSpec)) manifestLimitCard

/-- THE TIED CARD OF 'configlanglaw44.ManifestPaths'. -/
def manifestPathsCard : Claim7 := { stood := { row := manifestPathsRow, standIns := [], harness := (true, "01cbeb50b58922007f137914c52a94acd155877cb00e8f0390f81b2c0b853a46"), looks := true }, kinds := [], alts := [], laidByText := true, laidKinds := [.data, .data, .data, .data, .sentinel, .sentinel, .pinned], laidTests := true, laidLooks := .later }
def ManifestPathsCardSaid : Prop := Claim7.holds Tryz.pinned (.plain (OpenSpec.ofChange manifestPathsSpec)) manifestPathsCard

/-- THE SECOND FORM's CARD OF 'configlanglaw44.ManifestCheck'. -/
def manifestCheckUptoCard : Claim7 := { stood := { row := manifestCheckUptoRow, standIns := [], harness := (true, "01cbeb50b58922007f137914c52a94acd155877cb00e8f0390f81b2c0b853a46"), looks := true }, kinds := [], alts := [], laidByText := true, laidKinds := [.data, .data, .data, .data, .sentinel, .sentinel, .pinned], laidTests := true, laidLooks := .later }
def ManifestCheckUptoCardSaid : Prop := Claim7.holds Tryz.pinned (.plain (OpenSpec.upto manifestCheckSpec)) manifestCheckUptoCard

/-- THE SECOND FORM's CARD OF 'configlanglaw44.ManifestText'. -/
def manifestTextUptoCard : Claim7 := { stood := { row := manifestTextUptoRow, standIns := [], harness := (true, "01cbeb50b58922007f137914c52a94acd155877cb00e8f0390f81b2c0b853a46"), looks := true }, kinds := [], alts := [], laidByText := true, laidKinds := [.data, .data, .data, .data, .sentinel, .sentinel, .pinned], laidTests := true, laidLooks := .later }
def ManifestTextUptoCardSaid : Prop := Claim7.holds Tryz.pinned (.plain (OpenSpec.upto manifestTextSpec)) manifestTextUptoCard

/-- THE SECOND FORM's CARD OF 'configlanglaw44.ManifestParse'. -/
def manifestParseUptoCard : Claim7 := { stood := { row := manifestParseUptoRow, standIns := [], harness := (true, "01cbeb50b58922007f137914c52a94acd155877cb00e8f0390f81b2c0b853a46"), looks := true }, kinds := [], alts := [], laidByText := true, laidKinds := [.data, .data, .data, .data, .sentinel, .sentinel, .pinned], laidTests := true, laidLooks := .later }
def ManifestParseUptoCardSaid : Prop := Claim7.holds Tryz.pinned (.plain (OpenSpec.upto manifestParseSpec)) manifestParseUptoCard

/-- THE SECOND FORM's CARD OF 'configlanglaw44.ManifestBack'. -/
def manifestBackUptoCard : Claim7 := { stood := { row := manifestBackUptoRow, standIns := [], harness := (true, "01cbeb50b58922007f137914c52a94acd155877cb00e8f0390f81b2c0b853a46"), looks := true }, kinds := [], alts := [], laidByText := true, laidKinds := [.data, .data, .data, .data, .sentinel, .sentinel, .pinned], laidTests := true, laidLooks := .later }
def ManifestBackUptoCardSaid : Prop := Claim7.holds Tryz.pinned (.plain (OpenSpec.upto manifestBackSpec)) manifestBackUptoCard

/-- THE SECOND FORM's CARD OF 'configlanglaw44.ManifestLoose'. -/
def manifestLooseUptoCard : Claim7 := { stood := { row := manifestLooseUptoRow, standIns := [], harness := (true, "01cbeb50b58922007f137914c52a94acd155877cb00e8f0390f81b2c0b853a46"), looks := true }, kinds := [], alts := [], laidByText := true, laidKinds := [.data, .data, .data, .data, .sentinel, .sentinel, .pinned], laidTests := true, laidLooks := .later }
def ManifestLooseUptoCardSaid : Prop := Claim7.holds Tryz.pinned (.plain (OpenSpec.upto manifestLooseSpec)) manifestLooseUptoCard

/-- THE SECOND FORM's CARD OF 'configlanglaw44.ManifestOrder'. -/
def manifestOrderUptoCard : Claim7 := { stood := { row := manifestOrderUptoRow, standIns := [], harness := (true, "01cbeb50b58922007f137914c52a94acd155877cb00e8f0390f81b2c0b853a46"), looks := true }, kinds := [], alts := [], laidByText := true, laidKinds := [.data, .data, .data, .data, .sentinel, .sentinel, .pinned], laidTests := true, laidLooks := .later }
def ManifestOrderUptoCardSaid : Prop := Claim7.holds Tryz.pinned (.plain (OpenSpec.upto manifestOrderSpec)) manifestOrderUptoCard

/-- THE SECOND FORM's CARD OF 'configlanglaw44.ManifestOwner'. -/
def manifestOwnerUptoCard : Claim7 := { stood := { row := manifestOwnerUptoRow, standIns := [], harness := (true, "01cbeb50b58922007f137914c52a94acd155877cb00e8f0390f81b2c0b853a46"), looks := true }, kinds := [], alts := [], laidByText := true, laidKinds := [.data, .data, .data, .data, .sentinel, .sentinel, .pinned], laidTests := true, laidLooks := .later }
def ManifestOwnerUptoCardSaid : Prop := Claim7.holds Tryz.pinned (.plain (OpenSpec.upto manifestOwnerSpec)) manifestOwnerUptoCard

/-- THE SECOND FORM's CARD OF 'configlanglaw44.ManifestLimit'. -/
def manifestLimitUptoCard : Claim7 := { stood := { row := manifestLimitUptoRow, standIns := [], harness := (true, "01cbeb50b58922007f137914c52a94acd155877cb00e8f0390f81b2c0b853a46"), looks := true }, kinds := [], alts := [], laidByText := true, laidKinds := [.data, .data, .data, .data, .sentinel, .sentinel, .pinned], laidTests := true, laidLooks := .later }
def ManifestLimitUptoCardSaid : Prop := Claim7.holds Tryz.pinned (.plain (OpenSpec.upto manifestLimitSpec)) manifestLimitUptoCard

/-- THE SECOND FORM's CARD OF 'configlanglaw44.ManifestPaths'. -/
def manifestPathsUptoCard : Claim7 := { stood := { row := manifestPathsUptoRow, standIns := [], harness := (true, "01cbeb50b58922007f137914c52a94acd155877cb00e8f0390f81b2c0b853a46"), looks := true }, kinds := [], alts := [], laidByText := true, laidKinds := [.data, .data, .data, .data, .sentinel, .sentinel, .pinned], laidTests := true, laidLooks := .later }
def ManifestPathsUptoCardSaid : Prop := Claim7.holds Tryz.pinned (.plain (OpenSpec.upto manifestPathsSpec)) manifestPathsUptoCard
end Rows
end Go.Proofs.YtbbdoibmcmkmnaaGreatDoor
