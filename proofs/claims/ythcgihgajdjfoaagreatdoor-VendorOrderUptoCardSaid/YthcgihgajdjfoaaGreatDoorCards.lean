/-
  DERIVED. GIVEN WITH THE SEED: THE CARDS: each row of YthcgihgajdjfoaaGreatDoorRows.lean that lists a variable, with what it lists TIED to the program's text (the seventh form; the later family's looks); each row that meets fmt, with fmt's text TOLD by the authors' own Lean function (tested against real Go, not proved from fmt's source: count such statements apart). THE CARD IS WHAT COUNTS. Prove the row's statement (the work); the ties are given (YthcgihgajdjfoaaGreatDoorTie.lean); close each card by the builder's one call (the guide's Derived/Test/ToyasCard.lean, 'card_holds'). Laid BY PROGRAM, IN A SANDBOX (cutbox-door.mjs). By AI agents, Wed Nov 11 2026. No macro, syntax, notation, axiom, sorry.
-/
import Derived.Test.YthcgihgajdjfoaaGreatDoorRows
import GoSem.ClaimSeven
namespace Go.Proofs.YthcgihgajdjfoaaGreatDoor
namespace Rows

/-- THE TIED CARD OF 'configlanglaw48.VendorCollects'. -/
def vendorCollectsCard : Claim7 := { stood := { row := vendorCollectsRow, standIns := [], harness := (true, "e06d7b3a1433ec42eb6d97fa91123b27c56d65d316612c27a4c1eecdc4a48f01"), looks := true }, kinds := [], alts := [], laidByText := true, laidKinds := [.data, .data, .data, .data, .sentinel, .sentinel, .pinned], laidTests := true, laidLooks := .later }
def VendorCollectsCardSaid : Prop := Claim7.holds Tryz.pinned (.plain (OpenSpec.ofChange vendorCollectsSpec)) vendorCollectsCard

/-- THE TIED CARD OF 'configlanglaw48.VendorLocks'. -/
def vendorLocksCard : Claim7 := { stood := { row := vendorLocksRow, standIns := [], harness := (true, "e06d7b3a1433ec42eb6d97fa91123b27c56d65d316612c27a4c1eecdc4a48f01"), looks := true }, kinds := [], alts := [], laidByText := true, laidKinds := [.data, .data, .data, .data, .sentinel, .sentinel, .pinned], laidTests := true, laidLooks := .later }
def VendorLocksCardSaid : Prop := Claim7.holds Tryz.pinned (.plain (OpenSpec.ofChange vendorLocksSpec)) vendorLocksCard

/-- THE TIED CARD OF 'configlanglaw48.VendorUnlocks'. -/
def vendorUnlocksCard : Claim7 := { stood := { row := vendorUnlocksRow, standIns := [], harness := (true, "e06d7b3a1433ec42eb6d97fa91123b27c56d65d316612c27a4c1eecdc4a48f01"), looks := true }, kinds := [], alts := [], laidByText := true, laidKinds := [.data, .data, .data, .data, .sentinel, .sentinel, .pinned], laidTests := true, laidLooks := .later }
def VendorUnlocksCardSaid : Prop := Claim7.holds Tryz.pinned (.plain (OpenSpec.ofChange vendorUnlocksSpec)) vendorUnlocksCard

/-- THE TIED CARD OF 'configlanglaw48.VendorVerifies'. -/
def vendorVerifiesCard : Claim7 := { stood := { row := vendorVerifiesRow, standIns := [], harness := (true, "e06d7b3a1433ec42eb6d97fa91123b27c56d65d316612c27a4c1eecdc4a48f01"), looks := true }, kinds := [], alts := [], laidByText := true, laidKinds := [.data, .data, .data, .data, .sentinel, .sentinel, .pinned], laidTests := true, laidLooks := .later }
def VendorVerifiesCardSaid : Prop := Claim7.holds Tryz.pinned (.plain (OpenSpec.ofChange vendorVerifiesSpec)) vendorVerifiesCard

/-- THE TIED CARD OF 'configlanglaw48.VendorClean'. -/
def vendorCleanCard : Claim7 := { stood := { row := vendorCleanRow, standIns := [], harness := (true, "e06d7b3a1433ec42eb6d97fa91123b27c56d65d316612c27a4c1eecdc4a48f01"), looks := true }, kinds := [], alts := [], laidByText := true, laidKinds := [.data, .data, .data, .data, .sentinel, .sentinel, .pinned], laidTests := true, laidLooks := .later }
def VendorCleanCardSaid : Prop := Claim7.holds Tryz.pinned (.plain (OpenSpec.ofChange vendorCleanSpec)) vendorCleanCard

/-- THE TIED CARD OF 'configlanglaw48.VendorBack'. -/
def vendorBackCard : Claim7 := { stood := { row := vendorBackRow, standIns := [], harness := (true, "e06d7b3a1433ec42eb6d97fa91123b27c56d65d316612c27a4c1eecdc4a48f01"), looks := true }, kinds := [], alts := [], laidByText := true, laidKinds := [.data, .data, .data, .data, .sentinel, .sentinel, .pinned], laidTests := true, laidLooks := .later }
def VendorBackCardSaid : Prop := Claim7.holds Tryz.pinned (.plain (OpenSpec.ofChange vendorBackSpec)) vendorBackCard

/-- THE TIED CARD OF 'configlanglaw48.VendorChanged'. -/
def vendorChangedCard : Claim7 := { stood := { row := vendorChangedRow, standIns := [], harness := (true, "e06d7b3a1433ec42eb6d97fa91123b27c56d65d316612c27a4c1eecdc4a48f01"), looks := true }, kinds := [], alts := [], laidByText := true, laidKinds := [.data, .data, .data, .data, .sentinel, .sentinel, .pinned], laidTests := true, laidLooks := .later }
def VendorChangedCardSaid : Prop := Claim7.holds Tryz.pinned (.plain (OpenSpec.ofChange vendorChangedSpec)) vendorChangedCard

/-- THE TIED CARD OF 'configlanglaw48.VendorOrder'. -/
def vendorOrderCard : Claim7 := { stood := { row := vendorOrderRow, standIns := [], harness := (true, "e06d7b3a1433ec42eb6d97fa91123b27c56d65d316612c27a4c1eecdc4a48f01"), looks := true }, kinds := [], alts := [], laidByText := true, laidKinds := [.data, .data, .data, .data, .sentinel, .sentinel, .pinned], laidTests := true, laidLooks := .later }
def VendorOrderCardSaid : Prop := Claim7.holds Tryz.pinned (.plain (OpenSpec.ofChange vendorOrderSpec)) vendorOrderCard

/-- THE SECOND FORM's CARD OF 'configlanglaw48.VendorCollects'. -/
def vendorCollectsUptoCard : Claim7 := { stood := { row := vendorCollectsUptoRow, standIns := [], harness := (true, "e06d7b3a1433ec42eb6d97fa91123b27c56d65d316612c27a4c1eecdc4a48f01"), looks := true }, kinds := [], alts := [], laidByText := true, laidKinds := [.data, .data, .data, .data, .sentinel, .sentinel, .pinned], laidTests := true, laidLooks := .later }
def VendorCollectsUptoCardSaid : Prop := Claim7.holds Tryz.pinned (.plain (OpenSpec.upto vendorCollectsSpec)) vendorCollectsUptoCard

/-- THE SECOND FORM's CARD OF 'configlanglaw48.VendorLocks'. -/
def vendorLocksUptoCard : Claim7 := { stood := { row := vendorLocksUptoRow, standIns := [], harness := (true, "e06d7b3a1433ec42eb6d97fa91123b27c56d65d316612c27a4c1eecdc4a48f01"), looks := true }, kinds := [], alts := [], laidByText := true, laidKinds := [.data, .data, .data, .data, .sentinel, .sentinel, .pinned], laidTests := true, laidLooks := .later }
def VendorLocksUptoCardSaid : Prop := Claim7.holds Tryz.pinned (.plain (OpenSpec.upto vendorLocksSpec)) vendorLocksUptoCard

/-- THE SECOND FORM's CARD OF 'configlanglaw48.VendorUnlocks'. -/
def vendorUnlocksUptoCard : Claim7 := { stood := { row := vendorUnlocksUptoRow, standIns := [], harness := (true, "e06d7b3a1433ec42eb6d97fa91123b27c56d65d316612c27a4c1eecdc4a48f01"), looks := true }, kinds := [], alts := [], laidByText := true, laidKinds := [.data, .data, .data, .data, .sentinel, .sentinel, .pinned], laidTests := true, laidLooks := .later }
def VendorUnlocksUptoCardSaid : Prop := Claim7.holds Tryz.pinned (.plain (OpenSpec.upto vendorUnlocksSpec)) vendorUnlocksUptoCard

/-- THE SECOND FORM's CARD OF 'configlanglaw48.VendorVerifies'. -/
def vendorVerifiesUptoCard : Claim7 := { stood := { row := vendorVerifiesUptoRow, standIns := [], harness := (true, "e06d7b3a1433ec42eb6d97fa91123b27c56d65d316612c27a4c1eecdc4a48f01"), looks := true }, kinds := [], alts := [], laidByText := true, laidKinds := [.data, .data, .data, .data, .sentinel, .sentinel, .pinned], laidTests := true, laidLooks := .later }
def VendorVerifiesUptoCardSaid : Prop := Claim7.holds Tryz.pinned (.plain (OpenSpec.upto vendorVerifiesSpec)) vendorVerifiesUptoCard

/-- THE SECOND FORM's CARD OF 'configlanglaw48.VendorClean'. -/
def vendorCleanUptoCard : Claim7 := { stood := { row := vendorCleanUptoRow, standIns := [], harness := (true, "e06d7b3a1433ec42eb6d97fa91123b27c56d65d316612c27a4c1eecdc4a48f01"), looks := true }, kinds := [], alts := [], laidByText := true, laidKinds := [.data, .data, .data, .data, .sentinel, .sentinel, .pinned], laidTests := true, laidLooks := .later }
def VendorCleanUptoCardSaid : Prop := Claim7.holds Tryz.pinned (.plain (OpenSpec.upto vendorCleanSpec)) vendorCleanUptoCard

/-- THE SECOND FORM's CARD OF 'configlanglaw48.VendorBack'. -/
def vendorBackUptoCard : Claim7 := { stood := { row := vendorBackUptoRow, standIns := [], harness := (true, "e06d7b3a1433ec42eb6d97fa91123b27c56d65d316612c27a4c1eecdc4a48f01"), looks := true }, kinds := [], alts := [], laidByText := true, laidKinds := [.data, .data, .data, .data, .sentinel, .sentinel, .pinned], laidTests := true, laidLooks := .later }
def VendorBackUptoCardSaid : Prop := Claim7.holds Tryz.pinned (.plain (OpenSpec.upto vendorBackSpec)) vendorBackUptoCard

/-- THE SECOND FORM's CARD OF 'configlanglaw48.VendorChanged'. -/
def vendorChangedUptoCard : Claim7 := { stood := { row := vendorChangedUptoRow, standIns := [], harness := (true, "e06d7b3a1433ec42eb6d97fa91123b27c56d65d316612c27a4c1eecdc4a48f01"), looks := true }, kinds := [], alts := [], laidByText := true, laidKinds := [.data, .data, .data, .data, .sentinel, .sentinel, .pinned], laidTests := true, laidLooks := .later }
def VendorChangedUptoCardSaid : Prop := Claim7.holds Tryz.pinned (.plain (OpenSpec.upto vendorChangedSpec)) vendorChangedUptoCard

/-- THE SECOND FORM's CARD OF 'configlanglaw48.VendorOrder'. -/
def vendorOrderUptoCard : Claim7 := { stood := { row := vendorOrderUptoRow, standIns := [], harness := (true, "e06d7b3a1433ec42eb6d97fa91123b27c56d65d316612c27a4c1eecdc4a48f01"), looks := true }, kinds := [], alts := [], laidByText := true, laidKinds := [.data, .data, .data, .data, .sentinel, .sentinel, .pinned], laidTests := true, laidLooks := .later }
def VendorOrderUptoCardSaid : Prop := Claim7.holds Tryz.pinned (.plain (OpenSpec.upto vendorOrderSpec)) vendorOrderUptoCard
end Rows
end Go.Proofs.YthcgihgajdjfoaaGreatDoor
