/-
  DERIVED. GIVEN WITH THE SEED: THE CARDS: each row of YtabmidnamaaklaaGreatDoorRows.lean that lists a variable, with what it lists TIED to the program's text (the seventh form; the later family's looks); each row that meets fmt, with fmt's text TOLD by the authors' own Lean function (tested against real Go, not proved from fmt's source: count such statements apart). THE CARD IS WHAT COUNTS. Prove the row's statement (the work); the ties are given (YtabmidnamaaklaaGreatDoorTie.lean); close each card by the builder's one call (the guide's Derived/Test/ToyasCard.lean, 'card_holds'). Laid BY PROGRAM, IN A SANDBOX (cutbox-door.mjs). By AI agents, Wed Nov 11 2026. No macro, syntax, notation, axiom, sorry.
-/
import Derived.Test.YtabmidnamaaklaaGreatDoorRows
import GoSem.ClaimSeven
namespace Go.Proofs.YtabmidnamaaklaaGreatDoor
namespace Rows

/-- THE TIED CARD OF 'configlanglaw47.DigestSum'. -/
def digestSumCard : Claim7 := { stood := { row := digestSumRow, standIns := [], harness := (true, "41f09faa7a72de42f68361c5b985068c1a08756a504dba2e95a0cea455748b3b"), looks := false }, kinds := [], alts := [], laidByText := true, laidKinds := [.data, .data, .data, .data, .pinned], laidTests := true, laidLooks := .later }
def DigestSumCardSaid : Prop := Claim7.holds Tryz.pinned (.plain (OpenSpec.ofChange digestSumSpec)) digestSumCard

/-- THE TIED CARD OF 'configlanglaw47.DigestParse'. -/
def digestParseCard : Claim7 := { stood := { row := digestParseRow, standIns := [], harness := (true, "41f09faa7a72de42f68361c5b985068c1a08756a504dba2e95a0cea455748b3b"), looks := false }, kinds := [], alts := [], laidByText := true, laidKinds := [.data, .data, .data, .data, .pinned], laidTests := true, laidLooks := .later }
def DigestParseCardSaid : Prop := Claim7.holds Tryz.pinned (.plain (OpenSpec.ofChange digestParseSpec)) digestParseCard

/-- THE TIED CARD OF 'configlanglaw47.DigestBack'. -/
def digestBackCard : Claim7 := { stood := { row := digestBackRow, standIns := [], harness := (true, "41f09faa7a72de42f68361c5b985068c1a08756a504dba2e95a0cea455748b3b"), looks := false }, kinds := [], alts := [], laidByText := true, laidKinds := [.data, .data, .data, .data, .pinned], laidTests := true, laidLooks := .later }
def DigestBackCardSaid : Prop := Claim7.holds Tryz.pinned (.plain (OpenSpec.ofChange digestBackSpec)) digestBackCard

/-- THE TIED CARD OF 'configlanglaw47.DigestRelease'. -/
def digestReleaseCard : Claim7 := { stood := { row := digestReleaseRow, standIns := [], harness := (true, "41f09faa7a72de42f68361c5b985068c1a08756a504dba2e95a0cea455748b3b"), looks := false }, kinds := [], alts := [], laidByText := true, laidKinds := [.data, .data, .data, .data, .pinned], laidTests := true, laidLooks := .later }
def DigestReleaseCardSaid : Prop := Claim7.holds Tryz.pinned (.plain (OpenSpec.ofChange digestReleaseSpec)) digestReleaseCard

/-- THE TIED CARD OF 'configlanglaw47.DigestList'. -/
def digestListCard : Claim7 := { stood := { row := digestListRow, standIns := [], harness := (true, "41f09faa7a72de42f68361c5b985068c1a08756a504dba2e95a0cea455748b3b"), looks := false }, kinds := [], alts := [], laidByText := true, laidKinds := [.data, .data, .data, .data, .pinned], laidTests := true, laidLooks := .later }
def DigestListCardSaid : Prop := Claim7.holds Tryz.pinned (.plain (OpenSpec.ofChange digestListSpec)) digestListCard

/-- THE TIED CARD OF 'configlanglaw47.DigestOrder'. -/
def digestOrderCard : Claim7 := { stood := { row := digestOrderRow, standIns := [], harness := (true, "41f09faa7a72de42f68361c5b985068c1a08756a504dba2e95a0cea455748b3b"), looks := false }, kinds := [], alts := [], laidByText := true, laidKinds := [.data, .data, .data, .data, .pinned], laidTests := true, laidLooks := .later }
def DigestOrderCardSaid : Prop := Claim7.holds Tryz.pinned (.plain (OpenSpec.ofChange digestOrderSpec)) digestOrderCard

/-- THE TIED CARD OF 'configlanglaw47.DigestPrefix'. -/
def digestPrefixCard : Claim7 := { stood := { row := digestPrefixRow, standIns := [], harness := (true, "41f09faa7a72de42f68361c5b985068c1a08756a504dba2e95a0cea455748b3b"), looks := false }, kinds := [], alts := [], laidByText := true, laidKinds := [.data, .data, .data, .data, .pinned], laidTests := true, laidLooks := .later }
def DigestPrefixCardSaid : Prop := Claim7.holds Tryz.pinned (.plain (OpenSpec.ofChange digestPrefixSpec)) digestPrefixCard

/-- THE TIED CARD OF 'configlanglaw47.DigestLines'. -/
def digestLinesCard : Claim7 := { stood := { row := digestLinesRow, standIns := [], harness := (true, "41f09faa7a72de42f68361c5b985068c1a08756a504dba2e95a0cea455748b3b"), looks := false }, kinds := [], alts := [], laidByText := true, laidKinds := [.data, .data, .data, .data, .pinned], laidTests := true, laidLooks := .later }
def DigestLinesCardSaid : Prop := Claim7.holds Tryz.pinned (.plain (OpenSpec.ofChange digestLinesSpec)) digestLinesCard

/-- THE SECOND FORM's CARD OF 'configlanglaw47.DigestSum'. -/
def digestSumUptoCard : Claim7 := { stood := { row := digestSumUptoRow, standIns := [], harness := (true, "41f09faa7a72de42f68361c5b985068c1a08756a504dba2e95a0cea455748b3b"), looks := false }, kinds := [], alts := [], laidByText := true, laidKinds := [.data, .data, .data, .data, .pinned], laidTests := true, laidLooks := .later }
def DigestSumUptoCardSaid : Prop := Claim7.holds Tryz.pinned (.plain (OpenSpec.upto digestSumSpec)) digestSumUptoCard

/-- THE SECOND FORM's CARD OF 'configlanglaw47.DigestParse'. -/
def digestParseUptoCard : Claim7 := { stood := { row := digestParseUptoRow, standIns := [], harness := (true, "41f09faa7a72de42f68361c5b985068c1a08756a504dba2e95a0cea455748b3b"), looks := false }, kinds := [], alts := [], laidByText := true, laidKinds := [.data, .data, .data, .data, .pinned], laidTests := true, laidLooks := .later }
def DigestParseUptoCardSaid : Prop := Claim7.holds Tryz.pinned (.plain (OpenSpec.upto digestParseSpec)) digestParseUptoCard

/-- THE SECOND FORM's CARD OF 'configlanglaw47.DigestBack'. -/
def digestBackUptoCard : Claim7 := { stood := { row := digestBackUptoRow, standIns := [], harness := (true, "41f09faa7a72de42f68361c5b985068c1a08756a504dba2e95a0cea455748b3b"), looks := false }, kinds := [], alts := [], laidByText := true, laidKinds := [.data, .data, .data, .data, .pinned], laidTests := true, laidLooks := .later }
def DigestBackUptoCardSaid : Prop := Claim7.holds Tryz.pinned (.plain (OpenSpec.upto digestBackSpec)) digestBackUptoCard

/-- THE SECOND FORM's CARD OF 'configlanglaw47.DigestRelease'. -/
def digestReleaseUptoCard : Claim7 := { stood := { row := digestReleaseUptoRow, standIns := [], harness := (true, "41f09faa7a72de42f68361c5b985068c1a08756a504dba2e95a0cea455748b3b"), looks := false }, kinds := [], alts := [], laidByText := true, laidKinds := [.data, .data, .data, .data, .pinned], laidTests := true, laidLooks := .later }
def DigestReleaseUptoCardSaid : Prop := Claim7.holds Tryz.pinned (.plain (OpenSpec.upto digestReleaseSpec)) digestReleaseUptoCard

/-- THE SECOND FORM's CARD OF 'configlanglaw47.DigestList'. -/
def digestListUptoCard : Claim7 := { stood := { row := digestListUptoRow, standIns := [], harness := (true, "41f09faa7a72de42f68361c5b985068c1a08756a504dba2e95a0cea455748b3b"), looks := false }, kinds := [], alts := [], laidByText := true, laidKinds := [.data, .data, .data, .data, .pinned], laidTests := true, laidLooks := .later }
def DigestListUptoCardSaid : Prop := Claim7.holds Tryz.pinned (.plain (OpenSpec.upto digestListSpec)) digestListUptoCard

/-- THE SECOND FORM's CARD OF 'configlanglaw47.DigestOrder'. -/
def digestOrderUptoCard : Claim7 := { stood := { row := digestOrderUptoRow, standIns := [], harness := (true, "41f09faa7a72de42f68361c5b985068c1a08756a504dba2e95a0cea455748b3b"), looks := false }, kinds := [], alts := [], laidByText := true, laidKinds := [.data, .data, .data, .data, .pinned], laidTests := true, laidLooks := .later }
def DigestOrderUptoCardSaid : Prop := Claim7.holds Tryz.pinned (.plain (OpenSpec.upto digestOrderSpec)) digestOrderUptoCard

/-- THE SECOND FORM's CARD OF 'configlanglaw47.DigestPrefix'. -/
def digestPrefixUptoCard : Claim7 := { stood := { row := digestPrefixUptoRow, standIns := [], harness := (true, "41f09faa7a72de42f68361c5b985068c1a08756a504dba2e95a0cea455748b3b"), looks := false }, kinds := [], alts := [], laidByText := true, laidKinds := [.data, .data, .data, .data, .pinned], laidTests := true, laidLooks := .later }
def DigestPrefixUptoCardSaid : Prop := Claim7.holds Tryz.pinned (.plain (OpenSpec.upto digestPrefixSpec)) digestPrefixUptoCard

/-- THE SECOND FORM's CARD OF 'configlanglaw47.DigestLines'. -/
def digestLinesUptoCard : Claim7 := { stood := { row := digestLinesUptoRow, standIns := [], harness := (true, "41f09faa7a72de42f68361c5b985068c1a08756a504dba2e95a0cea455748b3b"), looks := false }, kinds := [], alts := [], laidByText := true, laidKinds := [.data, .data, .data, .data, .pinned], laidTests := true, laidLooks := .later }
def DigestLinesUptoCardSaid : Prop := Claim7.holds Tryz.pinned (.plain (OpenSpec.upto digestLinesSpec)) digestLinesUptoCard
end Rows
end Go.Proofs.YtabmidnamaaklaaGreatDoor
