/-
  DERIVED. GIVEN WITH THE SEED: THE CARDS: each row of YtfiilbdkhelhgaaDoorRows.lean that lists a variable, with what it lists TIED to the program's text (the seventh form; the later family's looks); each row that meets fmt, with fmt's text TOLD by the authors' own Lean function (tested against real Go, not proved from fmt's source: count such statements apart). THE CARD IS WHAT COUNTS. Prove the row's statement (the work); the ties are given (YtfiilbdkhelhgaaDoorTie.lean); close each card by the builder's one call (the guide's Derived/Test/ToyasCard.lean, 'card_holds'). Laid BY PROGRAM, IN A SANDBOX (cutbox-door.mjs). By AI agents, Wed Nov 11 2026. No macro, syntax, notation, axiom, sorry.
-/
import Derived.Test.YtfiilbdkhelhgaaDoorRows
import GoSem.ClaimSeven
namespace Go.Proofs.YtfiilbdkhelhgaaDoor
namespace Rows

/-- THE TIED CARD OF 'configlanglaw46.SelectionSatisfies'. -/
def selectionSatisfiesCard : Claim7 := { stood := { row := selectionSatisfiesRow, standIns := [], harness := (true, "705aa26b88f3aa10203651129205116885c2a8c6a472336ec171ffb6a68a12cb"), looks := false }, kinds := [], alts := [], laidByText := true, laidKinds := [.data, .pinned], laidTests := true, laidLooks := .later }
def SelectionSatisfiesCardSaid : Prop := Claim7.holds Tryd.pinned (.plain (OpenSpec.ofChange selectionSatisfiesSpec)) selectionSatisfiesCard

/-- THE TIED CARD OF 'configlanglaw46.SelectionTurns'. -/
def selectionTurnsCard : Claim7 := { stood := { row := selectionTurnsRow, standIns := [], harness := (true, "705aa26b88f3aa10203651129205116885c2a8c6a472336ec171ffb6a68a12cb"), looks := false }, kinds := [], alts := [], laidByText := true, laidKinds := [.data, .pinned], laidTests := true, laidLooks := .later }
def SelectionTurnsCardSaid : Prop := Claim7.holds Tryd.pinned (.plain (OpenSpec.ofChange selectionTurnsSpec)) selectionTurnsCard

/-- THE TIED CARD OF 'configlanglaw46.SelectionChains'. -/
def selectionChainsCard : Claim7 := { stood := { row := selectionChainsRow, standIns := [], harness := (true, "705aa26b88f3aa10203651129205116885c2a8c6a472336ec171ffb6a68a12cb"), looks := false }, kinds := [], alts := [], laidByText := true, laidKinds := [.data, .pinned], laidTests := true, laidLooks := .later }
def SelectionChainsCardSaid : Prop := Claim7.holds Tryd.pinned (.plain (OpenSpec.ofChange selectionChainsSpec)) selectionChainsCard

/-- THE TIED CARD OF 'configlanglaw46.SelectionLatest'. -/
def selectionLatestCard : Claim7 := { stood := { row := selectionLatestRow, standIns := [], harness := (true, "705aa26b88f3aa10203651129205116885c2a8c6a472336ec171ffb6a68a12cb"), looks := false }, kinds := [], alts := [], laidByText := true, laidKinds := [.data, .pinned], laidTests := true, laidLooks := .later }
def SelectionLatestCardSaid : Prop := Claim7.holds Tryd.pinned (.plain (OpenSpec.ofChange selectionLatestSpec)) selectionLatestCard

/-- THE TIED CARD OF 'configlanglaw46.SelectionMoves'. -/
def selectionMovesCard : Claim7 := { stood := { row := selectionMovesRow, standIns := [], harness := (true, "705aa26b88f3aa10203651129205116885c2a8c6a472336ec171ffb6a68a12cb"), looks := false }, kinds := [], alts := [], laidByText := true, laidKinds := [.data, .pinned], laidTests := true, laidLooks := .later }
def SelectionMovesCardSaid : Prop := Claim7.holds Tryd.pinned (.plain (OpenSpec.ofChange selectionMovesSpec)) selectionMovesCard

/-- THE SECOND FORM's CARD OF 'configlanglaw46.SelectionSatisfies'. -/
def selectionSatisfiesUptoCard : Claim7 := { stood := { row := selectionSatisfiesUptoRow, standIns := [], harness := (true, "705aa26b88f3aa10203651129205116885c2a8c6a472336ec171ffb6a68a12cb"), looks := false }, kinds := [], alts := [], laidByText := true, laidKinds := [.data, .pinned], laidTests := true, laidLooks := .later }
def SelectionSatisfiesUptoCardSaid : Prop := Claim7.holds Tryd.pinned (.plain (OpenSpec.upto selectionSatisfiesSpec)) selectionSatisfiesUptoCard

/-- THE SECOND FORM's CARD OF 'configlanglaw46.SelectionTurns'. -/
def selectionTurnsUptoCard : Claim7 := { stood := { row := selectionTurnsUptoRow, standIns := [], harness := (true, "705aa26b88f3aa10203651129205116885c2a8c6a472336ec171ffb6a68a12cb"), looks := false }, kinds := [], alts := [], laidByText := true, laidKinds := [.data, .pinned], laidTests := true, laidLooks := .later }
def SelectionTurnsUptoCardSaid : Prop := Claim7.holds Tryd.pinned (.plain (OpenSpec.upto selectionTurnsSpec)) selectionTurnsUptoCard

/-- THE SECOND FORM's CARD OF 'configlanglaw46.SelectionChains'. -/
def selectionChainsUptoCard : Claim7 := { stood := { row := selectionChainsUptoRow, standIns := [], harness := (true, "705aa26b88f3aa10203651129205116885c2a8c6a472336ec171ffb6a68a12cb"), looks := false }, kinds := [], alts := [], laidByText := true, laidKinds := [.data, .pinned], laidTests := true, laidLooks := .later }
def SelectionChainsUptoCardSaid : Prop := Claim7.holds Tryd.pinned (.plain (OpenSpec.upto selectionChainsSpec)) selectionChainsUptoCard

/-- THE SECOND FORM's CARD OF 'configlanglaw46.SelectionLatest'. -/
def selectionLatestUptoCard : Claim7 := { stood := { row := selectionLatestUptoRow, standIns := [], harness := (true, "705aa26b88f3aa10203651129205116885c2a8c6a472336ec171ffb6a68a12cb"), looks := false }, kinds := [], alts := [], laidByText := true, laidKinds := [.data, .pinned], laidTests := true, laidLooks := .later }
def SelectionLatestUptoCardSaid : Prop := Claim7.holds Tryd.pinned (.plain (OpenSpec.upto selectionLatestSpec)) selectionLatestUptoCard

/-- THE SECOND FORM's CARD OF 'configlanglaw46.SelectionMoves'. -/
def selectionMovesUptoCard : Claim7 := { stood := { row := selectionMovesUptoRow, standIns := [], harness := (true, "705aa26b88f3aa10203651129205116885c2a8c6a472336ec171ffb6a68a12cb"), looks := false }, kinds := [], alts := [], laidByText := true, laidKinds := [.data, .pinned], laidTests := true, laidLooks := .later }
def SelectionMovesUptoCardSaid : Prop := Claim7.holds Tryd.pinned (.plain (OpenSpec.upto selectionMovesSpec)) selectionMovesUptoCard
end Rows
end Go.Proofs.YtfiilbdkhelhgaaDoor
