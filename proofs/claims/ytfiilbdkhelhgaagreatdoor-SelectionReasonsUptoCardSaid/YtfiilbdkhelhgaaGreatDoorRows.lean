/-
  NARROWER THAN 'FOR EVERY INPUT', by the rows' own cells (each row's printed sentence says how): SelectionChecks: laid · SelectionBuilds: laid · SelectionDowngrades: laid · SelectionReasons: laid · SelectionUpgrades: laid.
  DERIVED. THE GIVEN ROWS OF THIS SEAT. 5 by the template 'for every input the law returns true; each argument reads behind the call as it read before'; 0 by the template 'total and deterministic' (their statements: YtfiilbdkhelhgaaGreatDoorTotals.lean).
  GIVEN WITH THE SEED: the statements are not yours to turn. If you find one false, say at which input.
  Laid BY PROGRAM, IN A SANDBOX (cutbox-rows.mjs): the forced cells as the released guide's own fill.sh prints them over the translation c4346a15feb48953… (all of the seat's roots in one cut). By AI agents, Wed Nov 11 2026. No macro, syntax, notation, axiom, sorry.
-/
import Derived.Test.YtfiilbdkhelhgaaGreatDoorChecked
import GoSem.PinnedTables
import GoSem.Claim
import GoSem.ClaimJoined
import GoSem.ClaimMapViews
import Derived.JoinedTies
import Derived.KernelRfl
namespace Go.Proofs.YtfiilbdkhelhgaaGreatDoor
/- THE CELL 'sum', in the pinned program and in every row, IS THE sha256 OF THE DUMP (.gsa) THAT YtfiilbdkhelhgaaGreatDoorProg.lean LOADS. Nothing in Lean hashes anything: it is a label: what it is worth is what the hold of that sum in a sandbox is worth. -/
noncomputable def Tryz.pinned : Pinned := { name := "ytfiilbdkhelhgaagreatdoor", sum := "c4346a15feb48953366e3ef7907e59a9b4c7edabafbcaeb87e0318ec8eb2362f", checked := Tryz.checked }
namespace Rows
def none {H : Type} : Left H := { results := [], args := [] }

/- WHAT THE LISTED PACKAGE-LEVEL VARIABLES READ AS WHEN THE CALL BEGINS. Each datum BY PROGRAM (the guide's laid-datum.mjs) off the statement by which the dump's own 'gosem.cut.vars' lays the variable. In a bare row this is a premise. The card (YtfiilbdkhelhgaaGreatDoorCards.lean) ties it to the program's text. -/
def laid_unicode_utf8_acceptRanges {H : Type} : DataW H := .agg [.agg [.lit (.int .u8 128), .lit (.int .u8 191)], .agg [.lit (.int .u8 160), .lit (.int .u8 191)], .agg [.lit (.int .u8 128), .lit (.int .u8 159)], .agg [.lit (.int .u8 144), .lit (.int .u8 191)], .agg [.lit (.int .u8 128), .lit (.int .u8 143)], .agg [.lit (.int .u8 0), .lit (.int .u8 0)], .agg [.lit (.int .u8 0), .lit (.int .u8 0)], .agg [.lit (.int .u8 0), .lit (.int .u8 0)], .agg [.lit (.int .u8 0), .lit (.int .u8 0)], .agg [.lit (.int .u8 0), .lit (.int .u8 0)], .agg [.lit (.int .u8 0), .lit (.int .u8 0)], .agg [.lit (.int .u8 0), .lit (.int .u8 0)], .agg [.lit (.int .u8 0), .lit (.int .u8 0)], .agg [.lit (.int .u8 0), .lit (.int .u8 0)], .agg [.lit (.int .u8 0), .lit (.int .u8 0)], .agg [.lit (.int .u8 0), .lit (.int .u8 0)]]
/-- One of Go's own tables, pinned by name: the form's constant. -/
def laid_unicode_utf8_first : DataW Unit := Go.Pinned.utf8First

/-- 'configlanglaw46.SelectionChecks': WHATEVER THE INPUT: true; the input reads as it did. -/
def selectionChecksSpec : ChangeSpec := { name := "selectionChecks", fn := fun _ => fun
  | [d] => { results := [.lit (.bool true)], args := [d] }
  | _ => none }
def selectionChecksRow : OpenClaim := { program := "ytfiilbdkhelhgaagreatdoor", sum := "c4346a15feb48953366e3ef7907e59a9b4c7edabafbcaeb87e0318ec8eb2362f", func := "configlang/configlanglaw46.SelectionChecks", spec := "selectionChecks", inPlace := ["internal/bytealg.CountString", "internal/bytealg.IndexByteString", "internal/bytealg.IndexString", "slices.overlaps[configlang/api.Module]"], unfollowed := true, recurses := true, named := ["unicode/utf8.first", "unicode/utf8.acceptRanges", "internal/bytealg.MaxLen"], plainKeys := false, apart := false, laid := [("unicode/utf8.acceptRanges", laid_unicode_utf8_acceptRanges), ("unicode/utf8.first", laid_unicode_utf8_first)] }
def SelectionChecksSaid : Prop := selectionChecksRow.holds Tryz.pinned (OpenSpec.ofChange selectionChecksSpec)

/-- ITS FALSE NEIGHBOUR: 'it returns false'. Refute it at one input. -/
def selectionChecksWrong : ChangeSpec := { name := "selectionChecks", fn := fun _ => fun
  | [d] => { results := [.lit (.bool false)], args := [d] }
  | _ => none }
def SelectionChecksWrongFalsely : Prop := selectionChecksRow.holds Tryz.pinned (OpenSpec.ofChange selectionChecksWrong)

/-- 'configlanglaw46.SelectionBuilds': WHATEVER THE INPUT: true; the input reads as it did. -/
def selectionBuildsSpec : ChangeSpec := { name := "selectionBuilds", fn := fun _ => fun
  | [d1, d2] => { results := [.lit (.bool true)], args := [d1, d2] }
  | _ => none }
def selectionBuildsRow : OpenClaim := { program := "ytfiilbdkhelhgaagreatdoor", sum := "c4346a15feb48953366e3ef7907e59a9b4c7edabafbcaeb87e0318ec8eb2362f", func := "configlang/configlanglaw46.SelectionBuilds", spec := "selectionBuilds", inPlace := ["internal/bytealg.CountString", "internal/bytealg.IndexByteString", "internal/bytealg.IndexString", "slices.overlaps[configlang/api.Module]"], unfollowed := true, recurses := true, named := ["unicode/utf8.first", "unicode/utf8.acceptRanges", "internal/bytealg.MaxLen"], plainKeys := false, apart := false, laid := [("unicode/utf8.acceptRanges", laid_unicode_utf8_acceptRanges), ("unicode/utf8.first", laid_unicode_utf8_first)] }
def SelectionBuildsSaid : Prop := selectionBuildsRow.holds Tryz.pinned (OpenSpec.ofChange selectionBuildsSpec)

/-- ITS FALSE NEIGHBOUR: 'it returns false'. Refute it at one input. -/
def selectionBuildsWrong : ChangeSpec := { name := "selectionBuilds", fn := fun _ => fun
  | [d1, d2] => { results := [.lit (.bool false)], args := [d1, d2] }
  | _ => none }
def SelectionBuildsWrongFalsely : Prop := selectionBuildsRow.holds Tryz.pinned (OpenSpec.ofChange selectionBuildsWrong)

/-- 'configlanglaw46.SelectionDowngrades': WHATEVER THE INPUT: true; the input reads as it did. -/
def selectionDowngradesSpec : ChangeSpec := { name := "selectionDowngrades", fn := fun _ => fun
  | [d1, d2, d3] => { results := [.lit (.bool true)], args := [d1, d2, d3] }
  | _ => none }
def selectionDowngradesRow : OpenClaim := { program := "ytfiilbdkhelhgaagreatdoor", sum := "c4346a15feb48953366e3ef7907e59a9b4c7edabafbcaeb87e0318ec8eb2362f", func := "configlang/configlanglaw46.SelectionDowngrades", spec := "selectionDowngrades", inPlace := ["internal/bytealg.CountString", "internal/bytealg.IndexByteString", "internal/bytealg.IndexString", "slices.overlaps[configlang/api.Module]"], unfollowed := true, recurses := true, named := ["unicode/utf8.first", "unicode/utf8.acceptRanges", "internal/bytealg.MaxLen"], plainKeys := false, apart := false, laid := [("unicode/utf8.acceptRanges", laid_unicode_utf8_acceptRanges), ("unicode/utf8.first", laid_unicode_utf8_first)] }
def SelectionDowngradesSaid : Prop := selectionDowngradesRow.holds Tryz.pinned (OpenSpec.ofChange selectionDowngradesSpec)

/-- ITS FALSE NEIGHBOUR: 'it returns false'. Refute it at one input. -/
def selectionDowngradesWrong : ChangeSpec := { name := "selectionDowngrades", fn := fun _ => fun
  | [d1, d2, d3] => { results := [.lit (.bool false)], args := [d1, d2, d3] }
  | _ => none }
def SelectionDowngradesWrongFalsely : Prop := selectionDowngradesRow.holds Tryz.pinned (OpenSpec.ofChange selectionDowngradesWrong)

/-- 'configlanglaw46.SelectionReasons': WHATEVER THE INPUT: true; the input reads as it did. -/
def selectionReasonsSpec : ChangeSpec := { name := "selectionReasons", fn := fun _ => fun
  | [d1, d2, d3] => { results := [.lit (.bool true)], args := [d1, d2, d3] }
  | _ => none }
def selectionReasonsRow : OpenClaim := { program := "ytfiilbdkhelhgaagreatdoor", sum := "c4346a15feb48953366e3ef7907e59a9b4c7edabafbcaeb87e0318ec8eb2362f", func := "configlang/configlanglaw46.SelectionReasons", spec := "selectionReasons", inPlace := ["internal/bytealg.CountString", "internal/bytealg.IndexByteString", "internal/bytealg.IndexString", "slices.overlaps[configlang/api.Module]"], unfollowed := true, recurses := true, named := ["unicode/utf8.first", "unicode/utf8.acceptRanges", "internal/bytealg.MaxLen"], plainKeys := false, apart := false, laid := [("unicode/utf8.acceptRanges", laid_unicode_utf8_acceptRanges), ("unicode/utf8.first", laid_unicode_utf8_first)] }
def SelectionReasonsSaid : Prop := selectionReasonsRow.holds Tryz.pinned (OpenSpec.ofChange selectionReasonsSpec)

/-- ITS FALSE NEIGHBOUR: 'it returns false'. Refute it at one input. -/
def selectionReasonsWrong : ChangeSpec := { name := "selectionReasons", fn := fun _ => fun
  | [d1, d2, d3] => { results := [.lit (.bool false)], args := [d1, d2, d3] }
  | _ => none }
def SelectionReasonsWrongFalsely : Prop := selectionReasonsRow.holds Tryz.pinned (OpenSpec.ofChange selectionReasonsWrong)

/-- 'configlanglaw46.SelectionUpgrades': WHATEVER THE INPUT: true; the input reads as it did. -/
def selectionUpgradesSpec : ChangeSpec := { name := "selectionUpgrades", fn := fun _ => fun
  | [d1, d2, d3] => { results := [.lit (.bool true)], args := [d1, d2, d3] }
  | _ => none }
def selectionUpgradesRow : OpenClaim := { program := "ytfiilbdkhelhgaagreatdoor", sum := "c4346a15feb48953366e3ef7907e59a9b4c7edabafbcaeb87e0318ec8eb2362f", func := "configlang/configlanglaw46.SelectionUpgrades", spec := "selectionUpgrades", inPlace := ["internal/bytealg.CountString", "internal/bytealg.IndexByteString", "internal/bytealg.IndexString", "slices.overlaps[configlang/api.Module]"], unfollowed := true, recurses := true, named := ["unicode/utf8.first", "unicode/utf8.acceptRanges", "internal/bytealg.MaxLen"], plainKeys := false, apart := false, laid := [("unicode/utf8.acceptRanges", laid_unicode_utf8_acceptRanges), ("unicode/utf8.first", laid_unicode_utf8_first)] }
def SelectionUpgradesSaid : Prop := selectionUpgradesRow.holds Tryz.pinned (OpenSpec.ofChange selectionUpgradesSpec)

/-- ITS FALSE NEIGHBOUR: 'it returns false'. Refute it at one input. -/
def selectionUpgradesWrong : ChangeSpec := { name := "selectionUpgrades", fn := fun _ => fun
  | [d1, d2, d3] => { results := [.lit (.bool false)], args := [d1, d2, d3] }
  | _ => none }
def SelectionUpgradesWrongFalsely : Prop := selectionUpgradesRow.holds Tryz.pinned (OpenSpec.ofChange selectionUpgradesWrong)

/- THE SECOND FORM. 'bulk': how many values and letters a reading holds, each counted each time it is reached (what is shared counts as often as it is met; a slice's spare places count too). A statement '..UptoSaid' is the law's where the arguments, and the package variables that the reading takes, are together of bulk at most 1048576: NARROWER than '..Said'. Prove '..Said' where nothing that the law and all that it calls make is longer than what came in: it says more and counts as full. Else prove '..UptoSaid'. A law counts once. -/
mutual
def uptoBulk {H : Type} : DataW H → Nat
  | .lit (.string bytes) => bytes.length + 1
  | .lit _ => 1
  | .nil => 1
  | .ptr d => uptoBulk d + 1
  | .slice elems spare => uptoBulkAll elems + uptoBulkAll spare + 1
  | .agg parts => uptoBulkAll parts + 1
  | .iface _ d => uptoBulk d + 1
  | .map entries => uptoBulkEntries entries + 1
  | .held _ => 1
def uptoBulkAll {H : Type} : List (DataW H) → Nat
  | [] => 0
  | d :: r => uptoBulk d + uptoBulkAll r
def uptoBulkEntries {H : Type} : List (Lit × DataW H) → Nat
  | [] => 0
  | x :: r => uptoBulkEntry x + uptoBulkEntries r
def uptoBulkEntry {H : Type} : Lit × DataW H → Nat
  | (.string bytes, d) => bytes.length + uptoBulk d + 1
  | (_, d) => uptoBulk d + 1
 end
def uptoSmall : (H : Type) → List (DataW H) → Bool := fun _ ds => decide (uptoBulkAll ds ≤ 1048576)
def OpenSpec.upto (s : _root_.Go.ChangeSpec) : _root_.Go.OpenSpec := { _root_.Go.OpenSpec.ofChange s with cond := some uptoSmall }

/-- 'configlanglaw46.SelectionChecks', WHERE WHAT IT READS IS OF BULK AT MOST 1048576: true; the input reads as it did. -/
def selectionChecksUptoRow : OpenClaim := { program := "ytfiilbdkhelhgaagreatdoor", sum := "c4346a15feb48953366e3ef7907e59a9b4c7edabafbcaeb87e0318ec8eb2362f", func := "configlang/configlanglaw46.SelectionChecks", spec := "selectionChecks", inPlace := ["internal/bytealg.CountString", "internal/bytealg.IndexByteString", "internal/bytealg.IndexString", "slices.overlaps[configlang/api.Module]"], unfollowed := true, recurses := true, named := ["unicode/utf8.first", "unicode/utf8.acceptRanges", "internal/bytealg.MaxLen"], plainKeys := false, apart := false, laid := [("unicode/utf8.acceptRanges", laid_unicode_utf8_acceptRanges), ("unicode/utf8.first", laid_unicode_utf8_first)], narrowed := true }
def SelectionChecksUptoSaid : Prop := selectionChecksUptoRow.holds Tryz.pinned (OpenSpec.upto selectionChecksSpec)

/-- 'configlanglaw46.SelectionBuilds', WHERE WHAT IT READS IS OF BULK AT MOST 1048576: true; the input reads as it did. -/
def selectionBuildsUptoRow : OpenClaim := { program := "ytfiilbdkhelhgaagreatdoor", sum := "c4346a15feb48953366e3ef7907e59a9b4c7edabafbcaeb87e0318ec8eb2362f", func := "configlang/configlanglaw46.SelectionBuilds", spec := "selectionBuilds", inPlace := ["internal/bytealg.CountString", "internal/bytealg.IndexByteString", "internal/bytealg.IndexString", "slices.overlaps[configlang/api.Module]"], unfollowed := true, recurses := true, named := ["unicode/utf8.first", "unicode/utf8.acceptRanges", "internal/bytealg.MaxLen"], plainKeys := false, apart := false, laid := [("unicode/utf8.acceptRanges", laid_unicode_utf8_acceptRanges), ("unicode/utf8.first", laid_unicode_utf8_first)], narrowed := true }
def SelectionBuildsUptoSaid : Prop := selectionBuildsUptoRow.holds Tryz.pinned (OpenSpec.upto selectionBuildsSpec)

/-- 'configlanglaw46.SelectionDowngrades', WHERE WHAT IT READS IS OF BULK AT MOST 1048576: true; the input reads as it did. -/
def selectionDowngradesUptoRow : OpenClaim := { program := "ytfiilbdkhelhgaagreatdoor", sum := "c4346a15feb48953366e3ef7907e59a9b4c7edabafbcaeb87e0318ec8eb2362f", func := "configlang/configlanglaw46.SelectionDowngrades", spec := "selectionDowngrades", inPlace := ["internal/bytealg.CountString", "internal/bytealg.IndexByteString", "internal/bytealg.IndexString", "slices.overlaps[configlang/api.Module]"], unfollowed := true, recurses := true, named := ["unicode/utf8.first", "unicode/utf8.acceptRanges", "internal/bytealg.MaxLen"], plainKeys := false, apart := false, laid := [("unicode/utf8.acceptRanges", laid_unicode_utf8_acceptRanges), ("unicode/utf8.first", laid_unicode_utf8_first)], narrowed := true }
def SelectionDowngradesUptoSaid : Prop := selectionDowngradesUptoRow.holds Tryz.pinned (OpenSpec.upto selectionDowngradesSpec)

/-- 'configlanglaw46.SelectionReasons', WHERE WHAT IT READS IS OF BULK AT MOST 1048576: true; the input reads as it did. -/
def selectionReasonsUptoRow : OpenClaim := { program := "ytfiilbdkhelhgaagreatdoor", sum := "c4346a15feb48953366e3ef7907e59a9b4c7edabafbcaeb87e0318ec8eb2362f", func := "configlang/configlanglaw46.SelectionReasons", spec := "selectionReasons", inPlace := ["internal/bytealg.CountString", "internal/bytealg.IndexByteString", "internal/bytealg.IndexString", "slices.overlaps[configlang/api.Module]"], unfollowed := true, recurses := true, named := ["unicode/utf8.first", "unicode/utf8.acceptRanges", "internal/bytealg.MaxLen"], plainKeys := false, apart := false, laid := [("unicode/utf8.acceptRanges", laid_unicode_utf8_acceptRanges), ("unicode/utf8.first", laid_unicode_utf8_first)], narrowed := true }
def SelectionReasonsUptoSaid : Prop := selectionReasonsUptoRow.holds Tryz.pinned (OpenSpec.upto selectionReasonsSpec)

/-- 'configlanglaw46.SelectionUpgrades', WHERE WHAT IT READS IS OF BULK AT MOST 1048576: true; the input reads as it did. -/
def selectionUpgradesUptoRow : OpenClaim := { program := "ytfiilbdkhelhgaagreatdoor", sum := "c4346a15feb48953366e3ef7907e59a9b4c7edabafbcaeb87e0318ec8eb2362f", func := "configlang/configlanglaw46.SelectionUpgrades", spec := "selectionUpgrades", inPlace := ["internal/bytealg.CountString", "internal/bytealg.IndexByteString", "internal/bytealg.IndexString", "slices.overlaps[configlang/api.Module]"], unfollowed := true, recurses := true, named := ["unicode/utf8.first", "unicode/utf8.acceptRanges", "internal/bytealg.MaxLen"], plainKeys := false, apart := false, laid := [("unicode/utf8.acceptRanges", laid_unicode_utf8_acceptRanges), ("unicode/utf8.first", laid_unicode_utf8_first)], narrowed := true }
def SelectionUpgradesUptoSaid : Prop := selectionUpgradesUptoRow.holds Tryz.pinned (OpenSpec.upto selectionUpgradesSpec)

end Rows
end Go.Proofs.YtfiilbdkhelhgaaGreatDoor
