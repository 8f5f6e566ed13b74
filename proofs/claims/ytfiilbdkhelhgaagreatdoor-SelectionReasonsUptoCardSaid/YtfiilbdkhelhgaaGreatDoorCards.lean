/-
  DERIVED. GIVEN WITH THE SEED: THE CARDS: each row of YtfiilbdkhelhgaaGreatDoorRows.lean that lists a variable, with what it lists TIED to the program's text (the seventh form; the later family's looks); each row that meets fmt, with fmt's text TOLD by the authors' own Lean function (tested against real Go, not proved from fmt's source: count such statements apart). THE CARD IS WHAT COUNTS. Prove the row's statement (the work); the ties are given (YtfiilbdkhelhgaaGreatDoorTie.lean); close each card by the builder's one call (the guide's Derived/Test/ToyasCard.lean, 'card_holds'). Laid BY PROGRAM, IN A SANDBOX (cutbox-door.mjs). By AI agents, Wed Nov 11 2026. No macro, syntax, notation, axiom, sorry.
-/
import Derived.Test.YtfiilbdkhelhgaaGreatDoorRows
import GoSem.ClaimSeven
namespace Go.Proofs.YtfiilbdkhelhgaaGreatDoor
namespace Rows

/-- THE TIED CARD OF 'configlanglaw46.SelectionChecks'. -/
def selectionChecksCard : Claim7 := { stood := { row := selectionChecksRow, standIns := [], harness := (true, "b03f7ad69b60d685387e2e549112bed4eee55fb023744b08de2e1c734f1f5ced"), looks := false }, kinds := [], alts := [], laidByText := true, laidKinds := [.data, .pinned], laidTests := true, laidLooks := .later }
def SelectionChecksCardSaid : Prop := Claim7.holds Tryz.pinned (.plain (OpenSpec.ofChange selectionChecksSpec)) selectionChecksCard

/-- THE TIED CARD OF 'configlanglaw46.SelectionBuilds'. -/
def selectionBuildsCard : Claim7 := { stood := { row := selectionBuildsRow, standIns := [], harness := (true, "b03f7ad69b60d685387e2e549112bed4eee55fb023744b08de2e1c734f1f5ced"), looks := false }, kinds := [], alts := [], laidByText := true, laidKinds := [.data, .pinned], laidTests := true, laidLooks := .later }
def SelectionBuildsCardSaid : Prop := Claim7.holds Tryz.pinned (.plain (OpenSpec.ofChange selectionBuildsSpec)) selectionBuildsCard

/-- THE TIED CARD OF 'configlanglaw46.SelectionDowngrades'. -/
def selectionDowngradesCard : Claim7 := { stood := { row := selectionDowngradesRow, standIns := [], harness := (true, "b03f7ad69b60d685387e2e549112bed4eee55fb023744b08de2e1c734f1f5ced"), looks := false }, kinds := [], alts := [], laidByText := true, laidKinds := [.data, .pinned], laidTests := true, laidLooks := .later }
def SelectionDowngradesCardSaid : Prop := Claim7.holds Tryz.pinned (.plain (OpenSpec.ofChange selectionDowngradesSpec)) selectionDowngradesCard

/-- THE TIED CARD OF 'configlanglaw46.SelectionReasons'. -/
def selectionReasonsCard : Claim7 := { stood := { row := selectionReasonsRow, standIns := [], harness := (true, "b03f7ad69b60d685387e2e549112bed4eee55fb023744b08de2e1c734f1f5ced"), looks := false }, kinds := [], alts := [], laidByText := true, laidKinds := [.data, .pinned], laidTests := true, laidLooks := .later }
def SelectionReasonsCardSaid : Prop := Claim7.holds Tryz.pinned (.plain (OpenSpec.ofChange selectionReasonsSpec)) selectionReasonsCard

/-- THE TIED CARD OF 'configlanglaw46.SelectionUpgrades'. -/
def selectionUpgradesCard : Claim7 := { stood := { row := selectionUpgradesRow, standIns := [], harness := (true, "b03f7ad69b60d685387e2e549112bed4eee55fb023744b08de2e1c734f1f5ced"), looks := false }, kinds := [], alts := [], laidByText := true, laidKinds := [.data, .pinned], laidTests := true, laidLooks := .later }
def SelectionUpgradesCardSaid : Prop := Claim7.holds Tryz.pinned (.plain (OpenSpec.ofChange selectionUpgradesSpec)) selectionUpgradesCard

/-- THE SECOND FORM's CARD OF 'configlanglaw46.SelectionChecks'. -/
def selectionChecksUptoCard : Claim7 := { stood := { row := selectionChecksUptoRow, standIns := [], harness := (true, "b03f7ad69b60d685387e2e549112bed4eee55fb023744b08de2e1c734f1f5ced"), looks := false }, kinds := [], alts := [], laidByText := true, laidKinds := [.data, .pinned], laidTests := true, laidLooks := .later }
def SelectionChecksUptoCardSaid : Prop := Claim7.holds Tryz.pinned (.plain (OpenSpec.upto selectionChecksSpec)) selectionChecksUptoCard

/-- THE SECOND FORM's CARD OF 'configlanglaw46.SelectionBuilds'. -/
def selectionBuildsUptoCard : Claim7 := { stood := { row := selectionBuildsUptoRow, standIns := [], harness := (true, "b03f7ad69b60d685387e2e549112bed4eee55fb023744b08de2e1c734f1f5ced"), looks := false }, kinds := [], alts := [], laidByText := true, laidKinds := [.data, .pinned], laidTests := true, laidLooks := .later }
def SelectionBuildsUptoCardSaid : Prop := Claim7.holds Tryz.pinned (.plain (OpenSpec.upto selectionBuildsSpec)) selectionBuildsUptoCard

/-- THE SECOND FORM's CARD OF 'configlanglaw46.SelectionDowngrades'. -/
def selectionDowngradesUptoCard : Claim7 := { stood := { row := selectionDowngradesUptoRow, standIns := [], harness := (true, "b03f7ad69b60d685387e2e549112bed4eee55fb023744b08de2e1c734f1f5ced"), looks := false }, kinds := [], alts := [], laidByText := true, laidKinds := [.data, .pinned], laidTests := true, laidLooks := .later }
def SelectionDowngradesUptoCardSaid : Prop := Claim7.holds Tryz.pinned (.plain (OpenSpec.upto selectionDowngradesSpec)) selectionDowngradesUptoCard

/-- THE SECOND FORM's CARD OF 'configlanglaw46.SelectionReasons'. -/
def selectionReasonsUptoCard : Claim7 := { stood := { row := selectionReasonsUptoRow, standIns := [], harness := (true, "b03f7ad69b60d685387e2e549112bed4eee55fb023744b08de2e1c734f1f5ced"), looks := false }, kinds := [], alts := [], laidByText := true, laidKinds := [.data, .pinned], laidTests := true, laidLooks := .later }
def SelectionReasonsUptoCardSaid : Prop := Claim7.holds Tryz.pinned (.plain (OpenSpec.upto selectionReasonsSpec)) selectionReasonsUptoCard

/-- THE SECOND FORM's CARD OF 'configlanglaw46.SelectionUpgrades'. -/
def selectionUpgradesUptoCard : Claim7 := { stood := { row := selectionUpgradesUptoRow, standIns := [], harness := (true, "b03f7ad69b60d685387e2e549112bed4eee55fb023744b08de2e1c734f1f5ced"), looks := false }, kinds := [], alts := [], laidByText := true, laidKinds := [.data, .pinned], laidTests := true, laidLooks := .later }
def SelectionUpgradesUptoCardSaid : Prop := Claim7.holds Tryz.pinned (.plain (OpenSpec.upto selectionUpgradesSpec)) selectionUpgradesUptoCard
end Rows
end Go.Proofs.YtfiilbdkhelhgaaGreatDoor
