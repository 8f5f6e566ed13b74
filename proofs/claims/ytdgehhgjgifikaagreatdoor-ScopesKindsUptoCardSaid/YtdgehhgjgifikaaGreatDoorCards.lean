/-
  DERIVED. GIVEN WITH THE SEED: THE CARDS: each row of YtdgehhgjgifikaaGreatDoorRows.lean that lists a variable, with what it lists TIED to the program's text (the seventh form; the later family's looks); each row that meets fmt, with fmt's text TOLD by the authors' own Lean function (tested against real Go, not proved from fmt's source: count such statements apart). THE CARD IS WHAT COUNTS. Prove the row's statement (the work); the ties are given (YtdgehhgjgifikaaGreatDoorTie.lean); close each card by the builder's one call (the guide's Derived/Test/ToyasCard.lean, 'card_holds'). Laid BY PROGRAM, IN A SANDBOX (cutbox-door.mjs). By AI agents, Wed Nov 11 2026. No macro, syntax, notation, axiom, sorry.
-/
import Derived.Test.YtdgehhgjgifikaaGreatDoorRows
import GoSem.ClaimSeven
namespace Go.Proofs.YtdgehhgjgifikaaGreatDoor
namespace Rows

/-- THE TIED CARD OF 'configlanglaw28.ScopesUses'. -/
def scopesUsesCard : Claim7 := { stood := { row := scopesUsesRow, standIns := [], harness := (true, "b65603401f5be5ad086abd9038e9bdb6ab6634434d723daf78c40691f8f0be7e"), looks := true }, kinds := [], alts := [], laidByText := true, laidKinds := [.data, .pinned], laidTests := true, laidLooks := .later }
def ScopesUsesCardSaid : Prop := Claim7.holds Tryz.pinned (.plain (OpenSpec.ofChange scopesUsesSpec)) scopesUsesCard

/-- THE TIED CARD OF 'configlanglaw28.ScopesUnused'. -/
def scopesUnusedCard : Claim7 := { stood := { row := scopesUnusedRow, standIns := [], harness := (true, "b65603401f5be5ad086abd9038e9bdb6ab6634434d723daf78c40691f8f0be7e"), looks := true }, kinds := [], alts := [], laidByText := true, laidKinds := [.data, .pinned], laidTests := true, laidLooks := .later }
def ScopesUnusedCardSaid : Prop := Claim7.holds Tryz.pinned (.plain (OpenSpec.ofChange scopesUnusedSpec)) scopesUnusedCard

/-- THE TIED CARD OF 'configlanglaw28.ScopesDeclared'. -/
def scopesDeclaredCard : Claim7 := { stood := { row := scopesDeclaredRow, standIns := [], harness := (true, "b65603401f5be5ad086abd9038e9bdb6ab6634434d723daf78c40691f8f0be7e"), looks := true }, kinds := [], alts := [], laidByText := true, laidKinds := [.data, .pinned], laidTests := true, laidLooks := .later }
def ScopesDeclaredCardSaid : Prop := Claim7.holds Tryz.pinned (.plain (OpenSpec.ofChange scopesDeclaredSpec)) scopesDeclaredCard

/-- THE TIED CARD OF 'configlanglaw28.ScopesResolve'. -/
def scopesResolveCard : Claim7 := { stood := { row := scopesResolveRow, standIns := [], harness := (true, "b65603401f5be5ad086abd9038e9bdb6ab6634434d723daf78c40691f8f0be7e"), looks := true }, kinds := [], alts := [], laidByText := true, laidKinds := [.data, .pinned], laidTests := true, laidLooks := .later }
def ScopesResolveCardSaid : Prop := Claim7.holds Tryz.pinned (.plain (OpenSpec.ofChange scopesResolveSpec)) scopesResolveCard

/-- THE TIED CARD OF 'configlanglaw28.ScopesAgain'. -/
def scopesAgainCard : Claim7 := { stood := { row := scopesAgainRow, standIns := [], harness := (true, "b65603401f5be5ad086abd9038e9bdb6ab6634434d723daf78c40691f8f0be7e"), looks := true }, kinds := [], alts := [], laidByText := true, laidKinds := [.data, .pinned], laidTests := true, laidLooks := .later }
def ScopesAgainCardSaid : Prop := Claim7.holds Tryz.pinned (.plain (OpenSpec.ofChange scopesAgainSpec)) scopesAgainCard

/-- THE TIED CARD OF 'configlanglaw28.ScopesOrder'. -/
def scopesOrderCard : Claim7 := { stood := { row := scopesOrderRow, standIns := [], harness := (true, "b65603401f5be5ad086abd9038e9bdb6ab6634434d723daf78c40691f8f0be7e"), looks := true }, kinds := [], alts := [], laidByText := true, laidKinds := [.data, .pinned], laidTests := true, laidLooks := .later }
def ScopesOrderCardSaid : Prop := Claim7.holds Tryz.pinned (.plain (OpenSpec.ofChange scopesOrderSpec)) scopesOrderCard

/-- THE TIED CARD OF 'configlanglaw28.ScopesKinds'. -/
def scopesKindsCard : Claim7 := { stood := { row := scopesKindsRow, standIns := [], harness := (true, "b65603401f5be5ad086abd9038e9bdb6ab6634434d723daf78c40691f8f0be7e"), looks := true }, kinds := [], alts := [], laidByText := true, laidKinds := [.data, .pinned], laidTests := true, laidLooks := .later }
def ScopesKindsCardSaid : Prop := Claim7.holds Tryz.pinned (.plain (OpenSpec.ofChange scopesKindsSpec)) scopesKindsCard

/-- THE TIED CARD OF 'configlanglaw28.ScopesNested'. -/
def scopesNestedCard : Claim7 := { stood := { row := scopesNestedRow, standIns := [], harness := (true, "b65603401f5be5ad086abd9038e9bdb6ab6634434d723daf78c40691f8f0be7e"), looks := true }, kinds := [], alts := [], laidByText := true, laidKinds := [.data, .pinned], laidTests := true, laidLooks := .later }
def ScopesNestedCardSaid : Prop := Claim7.holds Tryz.pinned (.plain (OpenSpec.ofChange scopesNestedSpec)) scopesNestedCard

/-- THE TIED CARD OF 'configlanglaw28.ScopesCycle'. -/
def scopesCycleCard : Claim7 := { stood := { row := scopesCycleRow, standIns := [], harness := (true, "b65603401f5be5ad086abd9038e9bdb6ab6634434d723daf78c40691f8f0be7e"), looks := true }, kinds := [], alts := [], laidByText := true, laidKinds := [.data, .pinned], laidTests := true, laidLooks := .later }
def ScopesCycleCardSaid : Prop := Claim7.holds Tryz.pinned (.plain (OpenSpec.ofChange scopesCycleSpec)) scopesCycleCard

/-- THE SECOND FORM's CARD OF 'configlanglaw28.ScopesUses'. -/
def scopesUsesUptoCard : Claim7 := { stood := { row := scopesUsesUptoRow, standIns := [], harness := (true, "b65603401f5be5ad086abd9038e9bdb6ab6634434d723daf78c40691f8f0be7e"), looks := true }, kinds := [], alts := [], laidByText := true, laidKinds := [.data, .pinned], laidTests := true, laidLooks := .later }
def ScopesUsesUptoCardSaid : Prop := Claim7.holds Tryz.pinned (.plain (OpenSpec.upto scopesUsesSpec)) scopesUsesUptoCard

/-- THE SECOND FORM's CARD OF 'configlanglaw28.ScopesUnused'. -/
def scopesUnusedUptoCard : Claim7 := { stood := { row := scopesUnusedUptoRow, standIns := [], harness := (true, "b65603401f5be5ad086abd9038e9bdb6ab6634434d723daf78c40691f8f0be7e"), looks := true }, kinds := [], alts := [], laidByText := true, laidKinds := [.data, .pinned], laidTests := true, laidLooks := .later }
def ScopesUnusedUptoCardSaid : Prop := Claim7.holds Tryz.pinned (.plain (OpenSpec.upto scopesUnusedSpec)) scopesUnusedUptoCard

/-- THE SECOND FORM's CARD OF 'configlanglaw28.ScopesDeclared'. -/
def scopesDeclaredUptoCard : Claim7 := { stood := { row := scopesDeclaredUptoRow, standIns := [], harness := (true, "b65603401f5be5ad086abd9038e9bdb6ab6634434d723daf78c40691f8f0be7e"), looks := true }, kinds := [], alts := [], laidByText := true, laidKinds := [.data, .pinned], laidTests := true, laidLooks := .later }
def ScopesDeclaredUptoCardSaid : Prop := Claim7.holds Tryz.pinned (.plain (OpenSpec.upto scopesDeclaredSpec)) scopesDeclaredUptoCard

/-- THE SECOND FORM's CARD OF 'configlanglaw28.ScopesResolve'. -/
def scopesResolveUptoCard : Claim7 := { stood := { row := scopesResolveUptoRow, standIns := [], harness := (true, "b65603401f5be5ad086abd9038e9bdb6ab6634434d723daf78c40691f8f0be7e"), looks := true }, kinds := [], alts := [], laidByText := true, laidKinds := [.data, .pinned], laidTests := true, laidLooks := .later }
def ScopesResolveUptoCardSaid : Prop := Claim7.holds Tryz.pinned (.plain (OpenSpec.upto scopesResolveSpec)) scopesResolveUptoCard

/-- THE SECOND FORM's CARD OF 'configlanglaw28.ScopesAgain'. -/
def scopesAgainUptoCard : Claim7 := { stood := { row := scopesAgainUptoRow, standIns := [], harness := (true, "b65603401f5be5ad086abd9038e9bdb6ab6634434d723daf78c40691f8f0be7e"), looks := true }, kinds := [], alts := [], laidByText := true, laidKinds := [.data, .pinned], laidTests := true, laidLooks := .later }
def ScopesAgainUptoCardSaid : Prop := Claim7.holds Tryz.pinned (.plain (OpenSpec.upto scopesAgainSpec)) scopesAgainUptoCard

/-- THE SECOND FORM's CARD OF 'configlanglaw28.ScopesOrder'. -/
def scopesOrderUptoCard : Claim7 := { stood := { row := scopesOrderUptoRow, standIns := [], harness := (true, "b65603401f5be5ad086abd9038e9bdb6ab6634434d723daf78c40691f8f0be7e"), looks := true }, kinds := [], alts := [], laidByText := true, laidKinds := [.data, .pinned], laidTests := true, laidLooks := .later }
def ScopesOrderUptoCardSaid : Prop := Claim7.holds Tryz.pinned (.plain (OpenSpec.upto scopesOrderSpec)) scopesOrderUptoCard

/-- THE SECOND FORM's CARD OF 'configlanglaw28.ScopesKinds'. -/
def scopesKindsUptoCard : Claim7 := { stood := { row := scopesKindsUptoRow, standIns := [], harness := (true, "b65603401f5be5ad086abd9038e9bdb6ab6634434d723daf78c40691f8f0be7e"), looks := true }, kinds := [], alts := [], laidByText := true, laidKinds := [.data, .pinned], laidTests := true, laidLooks := .later }
def ScopesKindsUptoCardSaid : Prop := Claim7.holds Tryz.pinned (.plain (OpenSpec.upto scopesKindsSpec)) scopesKindsUptoCard

/-- THE SECOND FORM's CARD OF 'configlanglaw28.ScopesNested'. -/
def scopesNestedUptoCard : Claim7 := { stood := { row := scopesNestedUptoRow, standIns := [], harness := (true, "b65603401f5be5ad086abd9038e9bdb6ab6634434d723daf78c40691f8f0be7e"), looks := true }, kinds := [], alts := [], laidByText := true, laidKinds := [.data, .pinned], laidTests := true, laidLooks := .later }
def ScopesNestedUptoCardSaid : Prop := Claim7.holds Tryz.pinned (.plain (OpenSpec.upto scopesNestedSpec)) scopesNestedUptoCard

/-- THE SECOND FORM's CARD OF 'configlanglaw28.ScopesCycle'. -/
def scopesCycleUptoCard : Claim7 := { stood := { row := scopesCycleUptoRow, standIns := [], harness := (true, "b65603401f5be5ad086abd9038e9bdb6ab6634434d723daf78c40691f8f0be7e"), looks := true }, kinds := [], alts := [], laidByText := true, laidKinds := [.data, .pinned], laidTests := true, laidLooks := .later }
def ScopesCycleUptoCardSaid : Prop := Claim7.holds Tryz.pinned (.plain (OpenSpec.upto scopesCycleSpec)) scopesCycleUptoCard
end Rows
end Go.Proofs.YtdgehhgjgifikaaGreatDoor
