/-
  NARROWER THAN 'FOR EVERY INPUT', by the rows' own cells (each row's printed sentence says how): ScopesUses: loops, laid · ScopesUnused: loops, laid · ScopesDeclared: loops, laid · ScopesResolve: loops, laid · ScopesAgain: loops, laid · ScopesOrder: loops, laid · ScopesKinds: loops, laid · ScopesNested: laid · ScopesCycle: laid.
  DERIVED. THE GIVEN ROWS OF THIS SEAT. 9 by the template 'for every input the law returns true; each argument reads behind the call as it read before'; 0 by the template 'total and deterministic' (their statements: YtdgehhgjgifikaaGreatDoorTotals.lean).
  GIVEN WITH THE SEED: the statements are not yours to turn. If you find one false, say at which input.
  Laid BY PROGRAM, IN A SANDBOX (cutbox-rows.mjs): the forced cells as the released guide's own fill.sh prints them over the translation e638a67e0c89dc22… (all of the seat's roots in one cut). By AI agents, Wed Nov 11 2026. No macro, syntax, notation, axiom, sorry.
-/
import Derived.Test.YtdgehhgjgifikaaGreatDoorChecked
import GoSem.PinnedTables
import GoSem.Claim
import GoSem.ClaimJoined
import GoSem.ClaimMapViews
import Derived.JoinedTies
import Derived.KernelRfl
namespace Go.Proofs.YtdgehhgjgifikaaGreatDoor
/- THE CELL 'sum', in the pinned program and in every row, IS THE sha256 OF THE DUMP (.gsa) THAT YtdgehhgjgifikaaGreatDoorProg.lean LOADS. Nothing in Lean hashes anything: it is a label: what it is worth is what the hold of that sum in a sandbox is worth. -/
noncomputable def Tryz.pinned : Pinned := { name := "ytdgehhgjgifikaagreatdoor", sum := "e638a67e0c89dc22416742fb70324f0e87c1faafe331ddaaea9363bd6cbccb33", checked := Tryz.checked }
namespace Rows
def none {H : Type} : Left H := { results := [], args := [] }

/- WHAT THE LISTED PACKAGE-LEVEL VARIABLES READ AS WHEN THE CALL BEGINS. Each datum BY PROGRAM (the guide's laid-datum.mjs) off the statement by which the dump's own 'gosem.cut.vars' lays the variable. In a bare row this is a premise. The card (YtdgehhgjgifikaaGreatDoorCards.lean) ties it to the program's text. -/
def laid_unicode_utf8_acceptRanges {H : Type} : DataW H := .agg [.agg [.lit (.int .u8 128), .lit (.int .u8 191)], .agg [.lit (.int .u8 160), .lit (.int .u8 191)], .agg [.lit (.int .u8 128), .lit (.int .u8 159)], .agg [.lit (.int .u8 144), .lit (.int .u8 191)], .agg [.lit (.int .u8 128), .lit (.int .u8 143)], .agg [.lit (.int .u8 0), .lit (.int .u8 0)], .agg [.lit (.int .u8 0), .lit (.int .u8 0)], .agg [.lit (.int .u8 0), .lit (.int .u8 0)], .agg [.lit (.int .u8 0), .lit (.int .u8 0)], .agg [.lit (.int .u8 0), .lit (.int .u8 0)], .agg [.lit (.int .u8 0), .lit (.int .u8 0)], .agg [.lit (.int .u8 0), .lit (.int .u8 0)], .agg [.lit (.int .u8 0), .lit (.int .u8 0)], .agg [.lit (.int .u8 0), .lit (.int .u8 0)], .agg [.lit (.int .u8 0), .lit (.int .u8 0)], .agg [.lit (.int .u8 0), .lit (.int .u8 0)]]
/-- One of Go's own tables, pinned by name: the form's constant. -/
def laid_unicode_utf8_first : DataW Unit := Go.Pinned.utf8First

/-- 'configlanglaw28.ScopesUses': WHATEVER THE INPUT: true; the input reads as it did. -/
def scopesUsesSpec : ChangeSpec := { name := "scopesUses", fn := fun _ => fun
  | [d] => { results := [.lit (.bool true)], args := [d] }
  | _ => none }
def scopesUsesRow : OpenClaim := { program := "ytdgehhgjgifikaagreatdoor", sum := "e638a67e0c89dc22416742fb70324f0e87c1faafe331ddaaea9363bd6cbccb33", func := "configlang/configlanglaw28.ScopesUses", spec := "scopesUses", inPlace := ["internal/bytealg.IndexByteString", "internal/bytealg.IndexString", "internal/bytealg.CountString", "maps.clone"], unfollowed := true, recurses := true, named := ["internal/bytealg.MaxLen", "unicode/utf8.first", "unicode/utf8.acceptRanges"], loops := true, apart := false, laid := [("unicode/utf8.acceptRanges", laid_unicode_utf8_acceptRanges), ("unicode/utf8.first", laid_unicode_utf8_first)] }
def ScopesUsesSaid : Prop := scopesUsesRow.holds Tryz.pinned (OpenSpec.ofChange scopesUsesSpec)

/-- ITS FALSE NEIGHBOUR: 'it returns false'. Refute it at one input. -/
def scopesUsesWrong : ChangeSpec := { name := "scopesUses", fn := fun _ => fun
  | [d] => { results := [.lit (.bool false)], args := [d] }
  | _ => none }
def ScopesUsesWrongFalsely : Prop := scopesUsesRow.holds Tryz.pinned (OpenSpec.ofChange scopesUsesWrong)

/-- 'configlanglaw28.ScopesUnused': WHATEVER THE INPUT: true; the input reads as it did. -/
def scopesUnusedSpec : ChangeSpec := { name := "scopesUnused", fn := fun _ => fun
  | [d] => { results := [.lit (.bool true)], args := [d] }
  | _ => none }
def scopesUnusedRow : OpenClaim := { program := "ytdgehhgjgifikaagreatdoor", sum := "e638a67e0c89dc22416742fb70324f0e87c1faafe331ddaaea9363bd6cbccb33", func := "configlang/configlanglaw28.ScopesUnused", spec := "scopesUnused", inPlace := ["internal/bytealg.IndexByteString", "internal/bytealg.IndexString", "internal/bytealg.CountString", "maps.clone"], unfollowed := true, recurses := true, named := ["internal/bytealg.MaxLen", "unicode/utf8.first", "unicode/utf8.acceptRanges"], loops := true, apart := false, laid := [("unicode/utf8.acceptRanges", laid_unicode_utf8_acceptRanges), ("unicode/utf8.first", laid_unicode_utf8_first)] }
def ScopesUnusedSaid : Prop := scopesUnusedRow.holds Tryz.pinned (OpenSpec.ofChange scopesUnusedSpec)

/-- ITS FALSE NEIGHBOUR: 'it returns false'. Refute it at one input. -/
def scopesUnusedWrong : ChangeSpec := { name := "scopesUnused", fn := fun _ => fun
  | [d] => { results := [.lit (.bool false)], args := [d] }
  | _ => none }
def ScopesUnusedWrongFalsely : Prop := scopesUnusedRow.holds Tryz.pinned (OpenSpec.ofChange scopesUnusedWrong)

/-- 'configlanglaw28.ScopesDeclared': WHATEVER THE INPUT: true; the input reads as it did. -/
def scopesDeclaredSpec : ChangeSpec := { name := "scopesDeclared", fn := fun _ => fun
  | [d] => { results := [.lit (.bool true)], args := [d] }
  | _ => none }
def scopesDeclaredRow : OpenClaim := { program := "ytdgehhgjgifikaagreatdoor", sum := "e638a67e0c89dc22416742fb70324f0e87c1faafe331ddaaea9363bd6cbccb33", func := "configlang/configlanglaw28.ScopesDeclared", spec := "scopesDeclared", inPlace := ["internal/bytealg.IndexByteString", "internal/bytealg.IndexString", "internal/bytealg.CountString", "maps.clone"], unfollowed := true, recurses := true, named := ["internal/bytealg.MaxLen", "unicode/utf8.first", "unicode/utf8.acceptRanges"], loops := true, apart := false, laid := [("unicode/utf8.acceptRanges", laid_unicode_utf8_acceptRanges), ("unicode/utf8.first", laid_unicode_utf8_first)] }
def ScopesDeclaredSaid : Prop := scopesDeclaredRow.holds Tryz.pinned (OpenSpec.ofChange scopesDeclaredSpec)

/-- ITS FALSE NEIGHBOUR: 'it returns false'. Refute it at one input. -/
def scopesDeclaredWrong : ChangeSpec := { name := "scopesDeclared", fn := fun _ => fun
  | [d] => { results := [.lit (.bool false)], args := [d] }
  | _ => none }
def ScopesDeclaredWrongFalsely : Prop := scopesDeclaredRow.holds Tryz.pinned (OpenSpec.ofChange scopesDeclaredWrong)

/-- 'configlanglaw28.ScopesResolve': WHATEVER THE INPUT: true; the input reads as it did. -/
def scopesResolveSpec : ChangeSpec := { name := "scopesResolve", fn := fun _ => fun
  | [d] => { results := [.lit (.bool true)], args := [d] }
  | _ => none }
def scopesResolveRow : OpenClaim := { program := "ytdgehhgjgifikaagreatdoor", sum := "e638a67e0c89dc22416742fb70324f0e87c1faafe331ddaaea9363bd6cbccb33", func := "configlang/configlanglaw28.ScopesResolve", spec := "scopesResolve", inPlace := ["internal/bytealg.IndexByteString", "internal/bytealg.IndexString", "internal/bytealg.CountString", "maps.clone"], unfollowed := true, recurses := true, named := ["internal/bytealg.MaxLen", "unicode/utf8.first", "unicode/utf8.acceptRanges"], loops := true, apart := false, laid := [("unicode/utf8.acceptRanges", laid_unicode_utf8_acceptRanges), ("unicode/utf8.first", laid_unicode_utf8_first)] }
def ScopesResolveSaid : Prop := scopesResolveRow.holds Tryz.pinned (OpenSpec.ofChange scopesResolveSpec)

/-- ITS FALSE NEIGHBOUR: 'it returns false'. Refute it at one input. -/
def scopesResolveWrong : ChangeSpec := { name := "scopesResolve", fn := fun _ => fun
  | [d] => { results := [.lit (.bool false)], args := [d] }
  | _ => none }
def ScopesResolveWrongFalsely : Prop := scopesResolveRow.holds Tryz.pinned (OpenSpec.ofChange scopesResolveWrong)

/-- 'configlanglaw28.ScopesAgain': WHATEVER THE INPUT: true; the input reads as it did. -/
def scopesAgainSpec : ChangeSpec := { name := "scopesAgain", fn := fun _ => fun
  | [d] => { results := [.lit (.bool true)], args := [d] }
  | _ => none }
def scopesAgainRow : OpenClaim := { program := "ytdgehhgjgifikaagreatdoor", sum := "e638a67e0c89dc22416742fb70324f0e87c1faafe331ddaaea9363bd6cbccb33", func := "configlang/configlanglaw28.ScopesAgain", spec := "scopesAgain", inPlace := ["internal/bytealg.IndexByteString", "internal/bytealg.IndexString", "internal/bytealg.CountString", "maps.clone"], unfollowed := true, recurses := true, named := ["internal/bytealg.MaxLen", "unicode/utf8.first", "unicode/utf8.acceptRanges"], loops := true, apart := false, laid := [("unicode/utf8.acceptRanges", laid_unicode_utf8_acceptRanges), ("unicode/utf8.first", laid_unicode_utf8_first)] }
def ScopesAgainSaid : Prop := scopesAgainRow.holds Tryz.pinned (OpenSpec.ofChange scopesAgainSpec)

/-- ITS FALSE NEIGHBOUR: 'it returns false'. Refute it at one input. -/
def scopesAgainWrong : ChangeSpec := { name := "scopesAgain", fn := fun _ => fun
  | [d] => { results := [.lit (.bool false)], args := [d] }
  | _ => none }
def ScopesAgainWrongFalsely : Prop := scopesAgainRow.holds Tryz.pinned (OpenSpec.ofChange scopesAgainWrong)

/-- 'configlanglaw28.ScopesOrder': WHATEVER THE INPUT: true; the input reads as it did. -/
def scopesOrderSpec : ChangeSpec := { name := "scopesOrder", fn := fun _ => fun
  | [d] => { results := [.lit (.bool true)], args := [d] }
  | _ => none }
def scopesOrderRow : OpenClaim := { program := "ytdgehhgjgifikaagreatdoor", sum := "e638a67e0c89dc22416742fb70324f0e87c1faafe331ddaaea9363bd6cbccb33", func := "configlang/configlanglaw28.ScopesOrder", spec := "scopesOrder", inPlace := ["internal/bytealg.IndexByteString", "internal/bytealg.IndexString", "internal/bytealg.CountString", "maps.clone"], unfollowed := true, recurses := true, named := ["internal/bytealg.MaxLen", "unicode/utf8.first", "unicode/utf8.acceptRanges"], loops := true, apart := false, laid := [("unicode/utf8.acceptRanges", laid_unicode_utf8_acceptRanges), ("unicode/utf8.first", laid_unicode_utf8_first)] }
def ScopesOrderSaid : Prop := scopesOrderRow.holds Tryz.pinned (OpenSpec.ofChange scopesOrderSpec)

/-- ITS FALSE NEIGHBOUR: 'it returns false'. Refute it at one input. -/
def scopesOrderWrong : ChangeSpec := { name := "scopesOrder", fn := fun _ => fun
  | [d] => { results := [.lit (.bool false)], args := [d] }
  | _ => none }
def ScopesOrderWrongFalsely : Prop := scopesOrderRow.holds Tryz.pinned (OpenSpec.ofChange scopesOrderWrong)

/-- 'configlanglaw28.ScopesKinds': WHATEVER THE INPUT: true; the input reads as it did. -/
def scopesKindsSpec : ChangeSpec := { name := "scopesKinds", fn := fun _ => fun
  | [d] => { results := [.lit (.bool true)], args := [d] }
  | _ => none }
def scopesKindsRow : OpenClaim := { program := "ytdgehhgjgifikaagreatdoor", sum := "e638a67e0c89dc22416742fb70324f0e87c1faafe331ddaaea9363bd6cbccb33", func := "configlang/configlanglaw28.ScopesKinds", spec := "scopesKinds", inPlace := ["internal/bytealg.IndexByteString", "internal/bytealg.IndexString", "internal/bytealg.CountString", "maps.clone"], unfollowed := true, recurses := true, named := ["internal/bytealg.MaxLen", "unicode/utf8.first", "unicode/utf8.acceptRanges"], loops := true, apart := false, laid := [("unicode/utf8.acceptRanges", laid_unicode_utf8_acceptRanges), ("unicode/utf8.first", laid_unicode_utf8_first)] }
def ScopesKindsSaid : Prop := scopesKindsRow.holds Tryz.pinned (OpenSpec.ofChange scopesKindsSpec)

/-- ITS FALSE NEIGHBOUR: 'it returns false'. Refute it at one input. -/
def scopesKindsWrong : ChangeSpec := { name := "scopesKinds", fn := fun _ => fun
  | [d] => { results := [.lit (.bool false)], args := [d] }
  | _ => none }
def ScopesKindsWrongFalsely : Prop := scopesKindsRow.holds Tryz.pinned (OpenSpec.ofChange scopesKindsWrong)

/-- 'configlanglaw28.ScopesNested': WHATEVER THE INPUT: true; the input reads as it did. -/
def scopesNestedSpec : ChangeSpec := { name := "scopesNested", fn := fun _ => fun
  | [d1, d2, d3] => { results := [.lit (.bool true)], args := [d1, d2, d3] }
  | _ => none }
def scopesNestedRow : OpenClaim := { program := "ytdgehhgjgifikaagreatdoor", sum := "e638a67e0c89dc22416742fb70324f0e87c1faafe331ddaaea9363bd6cbccb33", func := "configlang/configlanglaw28.ScopesNested", spec := "scopesNested", inPlace := ["internal/bytealg.IndexByteString", "internal/bytealg.IndexString", "internal/bytealg.CountString", "maps.clone"], unfollowed := true, recurses := true, named := ["internal/bytealg.MaxLen", "unicode/utf8.first", "unicode/utf8.acceptRanges"], apart := false, laid := [("unicode/utf8.acceptRanges", laid_unicode_utf8_acceptRanges), ("unicode/utf8.first", laid_unicode_utf8_first)] }
def ScopesNestedSaid : Prop := scopesNestedRow.holds Tryz.pinned (OpenSpec.ofChange scopesNestedSpec)

/-- ITS FALSE NEIGHBOUR: 'it returns false'. Refute it at one input. -/
def scopesNestedWrong : ChangeSpec := { name := "scopesNested", fn := fun _ => fun
  | [d1, d2, d3] => { results := [.lit (.bool false)], args := [d1, d2, d3] }
  | _ => none }
def ScopesNestedWrongFalsely : Prop := scopesNestedRow.holds Tryz.pinned (OpenSpec.ofChange scopesNestedWrong)

/-- 'configlanglaw28.ScopesCycle': WHATEVER THE INPUT: true; the input reads as it did. -/
def scopesCycleSpec : ChangeSpec := { name := "scopesCycle", fn := fun _ => fun
  | [d1, d2] => { results := [.lit (.bool true)], args := [d1, d2] }
  | _ => none }
def scopesCycleRow : OpenClaim := { program := "ytdgehhgjgifikaagreatdoor", sum := "e638a67e0c89dc22416742fb70324f0e87c1faafe331ddaaea9363bd6cbccb33", func := "configlang/configlanglaw28.ScopesCycle", spec := "scopesCycle", inPlace := ["internal/bytealg.IndexByteString", "internal/bytealg.IndexString", "internal/bytealg.CountString", "maps.clone"], unfollowed := true, recurses := true, named := ["internal/bytealg.MaxLen", "unicode/utf8.first", "unicode/utf8.acceptRanges"], apart := false, laid := [("unicode/utf8.acceptRanges", laid_unicode_utf8_acceptRanges), ("unicode/utf8.first", laid_unicode_utf8_first)] }
def ScopesCycleSaid : Prop := scopesCycleRow.holds Tryz.pinned (OpenSpec.ofChange scopesCycleSpec)

/-- ITS FALSE NEIGHBOUR: 'it returns false'. Refute it at one input. -/
def scopesCycleWrong : ChangeSpec := { name := "scopesCycle", fn := fun _ => fun
  | [d1, d2] => { results := [.lit (.bool false)], args := [d1, d2] }
  | _ => none }
def ScopesCycleWrongFalsely : Prop := scopesCycleRow.holds Tryz.pinned (OpenSpec.ofChange scopesCycleWrong)

/- THE SECOND FORM. 'bulk': how many values and letters a reading holds, each counted each time it is reached (what is shared counts as often as it is met; a slice's spare places count too). A statement '..UptoSaid' is the law's where the arguments, and the package variables that the reading takes, are together of bulk at most 1048576: NARROWER than '..Said'. Prove '..Said' where nothing that the law and all that it calls make is longer than what came in: it says more and counts as full. Else prove '..UptoSaid'. A law counts once. -/
mutual
def uptoBulk {H : Type} : DataW H → Nat
  | .lit (.string bytes) => bytes.length + 1
  | .lit _ => 1
  | .nil => 1
  | .ptr d => uptoBulk d + 1
  | .slice elems spare => uptoBulkAll elems + uptoBulkAll spare + 1
  | .agg parts => uptoBulkAll parts + 1
  | .iface _ d => uptoBulk d + 1
  | .map entries => uptoBulkEntries entries + 1
  | .held _ => 1
def uptoBulkAll {H : Type} : List (DataW H) → Nat
  | [] => 0
  | d :: r => uptoBulk d + uptoBulkAll r
def uptoBulkEntries {H : Type} : List (Lit × DataW H) → Nat
  | [] => 0
  | x :: r => uptoBulkEntry x + uptoBulkEntries r
def uptoBulkEntry {H : Type} : Lit × DataW H → Nat
  | (.string bytes, d) => bytes.length + uptoBulk d + 1
  | (_, d) => uptoBulk d + 1
 end
def uptoSmall : (H : Type) → List (DataW H) → Bool := fun _ ds => decide (uptoBulkAll ds ≤ 1048576)
def OpenSpec.upto (s : _root_.Go.ChangeSpec) : _root_.Go.OpenSpec := { _root_.Go.OpenSpec.ofChange s with cond := some uptoSmall }

/-- 'configlanglaw28.ScopesUses', WHERE WHAT IT READS IS OF BULK AT MOST 1048576: true; the input reads as it did. -/
def scopesUsesUptoRow : OpenClaim := { program := "ytdgehhgjgifikaagreatdoor", sum := "e638a67e0c89dc22416742fb70324f0e87c1faafe331ddaaea9363bd6cbccb33", func := "configlang/configlanglaw28.ScopesUses", spec := "scopesUses", inPlace := ["internal/bytealg.IndexByteString", "internal/bytealg.IndexString", "internal/bytealg.CountString", "maps.clone"], unfollowed := true, recurses := true, named := ["internal/bytealg.MaxLen", "unicode/utf8.first", "unicode/utf8.acceptRanges"], loops := true, apart := false, laid := [("unicode/utf8.acceptRanges", laid_unicode_utf8_acceptRanges), ("unicode/utf8.first", laid_unicode_utf8_first)], narrowed := true }
def ScopesUsesUptoSaid : Prop := scopesUsesUptoRow.holds Tryz.pinned (OpenSpec.upto scopesUsesSpec)

/-- 'configlanglaw28.ScopesUnused', WHERE WHAT IT READS IS OF BULK AT MOST 1048576: true; the input reads as it did. -/
def scopesUnusedUptoRow : OpenClaim := { program := "ytdgehhgjgifikaagreatdoor", sum := "e638a67e0c89dc22416742fb70324f0e87c1faafe331ddaaea9363bd6cbccb33", func := "configlang/configlanglaw28.ScopesUnused", spec := "scopesUnused", inPlace := ["internal/bytealg.IndexByteString", "internal/bytealg.IndexString", "internal/bytealg.CountString", "maps.clone"], unfollowed := true, recurses := true, named := ["internal/bytealg.MaxLen", "unicode/utf8.first", "unicode/utf8.acceptRanges"], loops := true, apart := false, laid := [("unicode/utf8.acceptRanges", laid_unicode_utf8_acceptRanges), ("unicode/utf8.first", laid_unicode_utf8_first)], narrowed := true }
def ScopesUnusedUptoSaid : Prop := scopesUnusedUptoRow.holds Tryz.pinned (OpenSpec.upto scopesUnusedSpec)

/-- 'configlanglaw28.ScopesDeclared', WHERE WHAT IT READS IS OF BULK AT MOST 1048576: true; the input reads as it did. -/
def scopesDeclaredUptoRow : OpenClaim := { program := "ytdgehhgjgifikaagreatdoor", sum := "e638a67e0c89dc22416742fb70324f0e87c1faafe331ddaaea9363bd6cbccb33", func := "configlang/configlanglaw28.ScopesDeclared", spec := "scopesDeclared", inPlace := ["internal/bytealg.IndexByteString", "internal/bytealg.IndexString", "internal/bytealg.CountString", "maps.clone"], unfollowed := true, recurses := true, named := ["internal/bytealg.MaxLen", "unicode/utf8.first", "unicode/utf8.acceptRanges"], loops := true, apart := false, laid := [("unicode/utf8.acceptRanges", laid_unicode_utf8_acceptRanges), ("unicode/utf8.first", laid_unicode_utf8_first)], narrowed := true }
def ScopesDeclaredUptoSaid : Prop := scopesDeclaredUptoRow.holds Tryz.pinned (OpenSpec.upto scopesDeclaredSpec)

/-- 'configlanglaw28.ScopesResolve', WHERE WHAT IT READS IS OF BULK AT MOST 1048576: true; the input reads as it did. -/
def scopesResolveUptoRow : OpenClaim := { program := "ytdgehhgjgifikaagreatdoor", sum := "e638a67e0c89dc22416742fb70324f0e87c1faafe331ddaaea9363bd6cbccb33", func := "configlang/configlanglaw28.ScopesResolve", spec := "scopesResolve", inPlace := ["internal/bytealg.IndexByteString", "internal/bytealg.IndexString", "internal/bytealg.CountString", "maps.clone"], unfollowed := true, recurses := true, named := ["internal/bytealg.MaxLen", "unicode/utf8.first", "unicode/utf8.acceptRanges"], loops := true, apart := false, laid := [("unicode/utf8.acceptRanges", laid_unicode_utf8_acceptRanges), ("unicode/utf8.first", laid_unicode_utf8_first)], narrowed := true }
def ScopesResolveUptoSaid : Prop := scopesResolveUptoRow.holds Tryz.pinned (OpenSpec.upto scopesResolveSpec)

/-- 'configlanglaw28.ScopesAgain', WHERE WHAT IT READS IS OF BULK AT MOST 1048576: true; the input reads as it did. -/
def scopesAgainUptoRow : OpenClaim := { program := "ytdgehhgjgifikaagreatdoor", sum := "e638a67e0c89dc22416742fb70324f0e87c1faafe331ddaaea9363bd6cbccb33", func := "configlang/configlanglaw28.ScopesAgain", spec := "scopesAgain", inPlace := ["internal/bytealg.IndexByteString", "internal/bytealg.IndexString", "internal/bytealg.CountString", "maps.clone"], unfollowed := true, recurses := true, named := ["internal/bytealg.MaxLen", "unicode/utf8.first", "unicode/utf8.acceptRanges"], loops := true, apart := false, laid := [("unicode/utf8.acceptRanges", laid_unicode_utf8_acceptRanges), ("unicode/utf8.first", laid_unicode_utf8_first)], narrowed := true }
def ScopesAgainUptoSaid : Prop := scopesAgainUptoRow.holds Tryz.pinned (OpenSpec.upto scopesAgainSpec)

/-- 'configlanglaw28.ScopesOrder', WHERE WHAT IT READS IS OF BULK AT MOST 1048576: true; the input reads as it did. -/
def scopesOrderUptoRow : OpenClaim := { program := "ytdgehhgjgifikaagreatdoor", sum := "e638a67e0c89dc22416742fb70324f0e87c1faafe331ddaaea9363bd6cbccb33", func := "configlang/configlanglaw28.ScopesOrder", spec := "scopesOrder", inPlace := ["internal/bytealg.IndexByteString", "internal/bytealg.IndexString", "internal/bytealg.CountString", "maps.clone"], unfollowed := true, recurses := true, named := ["internal/bytealg.MaxLen", "unicode/utf8.first", "unicode/utf8.acceptRanges"], loops := true, apart := false, laid := [("unicode/utf8.acceptRanges", laid_unicode_utf8_acceptRanges), ("unicode/utf8.first", laid_unicode_utf8_first)], narrowed := true }
def ScopesOrderUptoSaid : Prop := scopesOrderUptoRow.holds Tryz.pinned (OpenSpec.upto scopesOrderSpec)

/-- 'configlanglaw28.ScopesKinds', WHERE WHAT IT READS IS OF BULK AT MOST 1048576: true; the input reads as it did. -/
def scopesKindsUptoRow : OpenClaim := { program := "ytdgehhgjgifikaagreatdoor", sum := "e638a67e0c89dc22416742fb70324f0e87c1faafe331ddaaea9363bd6cbccb33", func := "configlang/configlanglaw28.ScopesKinds", spec := "scopesKinds", inPlace := ["internal/bytealg.IndexByteString", "internal/bytealg.IndexString", "internal/bytealg.CountString", "maps.clone"], unfollowed := true, recurses := true, named := ["internal/bytealg.MaxLen", "unicode/utf8.first", "unicode/utf8.acceptRanges"], loops := true, apart := false, laid := [("unicode/utf8.acceptRanges", laid_unicode_utf8_acceptRanges), ("unicode/utf8.first", laid_unicode_utf8_first)], narrowed := true }
def ScopesKindsUptoSaid : Prop := scopesKindsUptoRow.holds Tryz.pinned (OpenSpec.upto scopesKindsSpec)

/-- 'configlanglaw28.ScopesNested', WHERE WHAT IT READS IS OF BULK AT MOST 1048576: true; the input reads as it did. -/
def scopesNestedUptoRow : OpenClaim := { program := "ytdgehhgjgifikaagreatdoor", sum := "e638a67e0c89dc22416742fb70324f0e87c1faafe331ddaaea9363bd6cbccb33", func := "configlang/configlanglaw28.ScopesNested", spec := "scopesNested", inPlace := ["internal/bytealg.IndexByteString", "internal/bytealg.IndexString", "internal/bytealg.CountString", "maps.clone"], unfollowed := true, recurses := true, named := ["internal/bytealg.MaxLen", "unicode/utf8.first", "unicode/utf8.acceptRanges"], apart := false, laid := [("unicode/utf8.acceptRanges", laid_unicode_utf8_acceptRanges), ("unicode/utf8.first", laid_unicode_utf8_first)], narrowed := true }
def ScopesNestedUptoSaid : Prop := scopesNestedUptoRow.holds Tryz.pinned (OpenSpec.upto scopesNestedSpec)

/-- 'configlanglaw28.ScopesCycle', WHERE WHAT IT READS IS OF BULK AT MOST 1048576: true; the input reads as it did. -/
def scopesCycleUptoRow : OpenClaim := { program := "ytdgehhgjgifikaagreatdoor", sum := "e638a67e0c89dc22416742fb70324f0e87c1faafe331ddaaea9363bd6cbccb33", func := "configlang/configlanglaw28.ScopesCycle", spec := "scopesCycle", inPlace := ["internal/bytealg.IndexByteString", "internal/bytealg.IndexString", "internal/bytealg.CountString", "maps.clone"], unfollowed := true, recurses := true, named := ["internal/bytealg.MaxLen", "unicode/utf8.first", "unicode/utf8.acceptRanges"], apart := false, laid := [("unicode/utf8.acceptRanges", laid_unicode_utf8_acceptRanges), ("unicode/utf8.first", laid_unicode_utf8_first)], narrowed := true }
def ScopesCycleUptoSaid : Prop := scopesCycleUptoRow.holds Tryz.pinned (OpenSpec.upto scopesCycleSpec)

end Rows
end Go.Proofs.YtdgehhgjgifikaaGreatDoor
