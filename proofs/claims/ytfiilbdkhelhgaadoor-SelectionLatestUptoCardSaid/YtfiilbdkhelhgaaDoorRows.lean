/-
  NARROWER THAN 'FOR EVERY INPUT', by the rows' own cells (each row's printed sentence says how): SelectionSatisfies: laid · SelectionTurns: laid · SelectionChains: laid · SelectionLatest: laid · SelectionMoves: laid.
  DERIVED. THE GIVEN ROWS OF THIS SEAT. 5 by the template 'for every input the law returns true; each argument reads behind the call as it read before'; 0 by the template 'total and deterministic' (their statements: YtfiilbdkhelhgaaDoorTotals.lean).
  GIVEN WITH THE SEED: the statements are not yours to turn. If you find one false, say at which input.
  Laid BY PROGRAM, IN A SANDBOX (cutbox-rows.mjs): the forced cells as the released guide's own fill.sh prints them over the translation f7ef654a6432eb01… (all of the seat's roots in one cut). By AI agents, Wed Nov 11 2026. No macro, syntax, notation, axiom, sorry.
-/
import Derived.Test.YtfiilbdkhelhgaaDoorChecked
import GoSem.PinnedTables
import GoSem.Claim
import GoSem.ClaimJoined
import GoSem.ClaimMapViews
import Derived.JoinedTies
import Derived.KernelRfl
namespace Go.Proofs.YtfiilbdkhelhgaaDoor
/- THE CELL 'sum', in the pinned program and in every row, IS THE sha256 OF THE DUMP (.gsa) THAT YtfiilbdkhelhgaaDoorProg.lean LOADS. Nothing in Lean hashes anything: it is a label: what it is worth is what the hold of that sum in a sandbox is worth. -/
noncomputable def Tryd.pinned : Pinned := { name := "ytfiilbdkhelhgaadoor", sum := "f7ef654a6432eb01179543866abe6bad9b0a9c789ed28dc5b0c4c2fad734bfc8", checked := Tryd.checked }
namespace Rows
def none {H : Type} : Left H := { results := [], args := [] }

/- WHAT THE LISTED PACKAGE-LEVEL VARIABLES READ AS WHEN THE CALL BEGINS. Each datum BY PROGRAM (the guide's laid-datum.mjs) off the statement by which the dump's own 'gosem.cut.vars' lays the variable. In a bare row this is a premise. The card (YtfiilbdkhelhgaaDoorCards.lean) ties it to the program's text. -/
def laid_unicode_utf8_acceptRanges {H : Type} : DataW H := .agg [.agg [.lit (.int .u8 128), .lit (.int .u8 191)], .agg [.lit (.int .u8 160), .lit (.int .u8 191)], .agg [.lit (.int .u8 128), .lit (.int .u8 159)], .agg [.lit (.int .u8 144), .lit (.int .u8 191)], .agg [.lit (.int .u8 128), .lit (.int .u8 143)], .agg [.lit (.int .u8 0), .lit (.int .u8 0)], .agg [.lit (.int .u8 0), .lit (.int .u8 0)], .agg [.lit (.int .u8 0), .lit (.int .u8 0)], .agg [.lit (.int .u8 0), .lit (.int .u8 0)], .agg [.lit (.int .u8 0), .lit (.int .u8 0)], .agg [.lit (.int .u8 0), .lit (.int .u8 0)], .agg [.lit (.int .u8 0), .lit (.int .u8 0)], .agg [.lit (.int .u8 0), .lit (.int .u8 0)], .agg [.lit (.int .u8 0), .lit (.int .u8 0)], .agg [.lit (.int .u8 0), .lit (.int .u8 0)], .agg [.lit (.int .u8 0), .lit (.int .u8 0)]]
/-- One of Go's own tables, pinned by name: the form's constant. -/
def laid_unicode_utf8_first : DataW Unit := Go.Pinned.utf8First

/-- 'configlanglaw46.SelectionSatisfies': WHATEVER THE INPUT: true; the input reads as it did. -/
def selectionSatisfiesSpec : ChangeSpec := { name := "selectionSatisfies", fn := fun _ => fun
  | [d1, d2] => { results := [.lit (.bool true)], args := [d1, d2] }
  | _ => none }
def selectionSatisfiesRow : OpenClaim := { program := "ytfiilbdkhelhgaadoor", sum := "f7ef654a6432eb01179543866abe6bad9b0a9c789ed28dc5b0c4c2fad734bfc8", func := "configlang/configlanglaw46.SelectionSatisfies", spec := "selectionSatisfies", inPlace := ["internal/bytealg.CountString", "internal/bytealg.IndexByteString", "internal/bytealg.IndexString", "slices.overlaps[configlang/api.Module]"], unfollowed := true, recurses := true, named := ["unicode/utf8.first", "unicode/utf8.acceptRanges", "internal/bytealg.MaxLen"], plainKeys := false, apart := false, laid := [("unicode/utf8.acceptRanges", laid_unicode_utf8_acceptRanges), ("unicode/utf8.first", laid_unicode_utf8_first)] }
def SelectionSatisfiesSaid : Prop := selectionSatisfiesRow.holds Tryd.pinned (OpenSpec.ofChange selectionSatisfiesSpec)

/-- ITS FALSE NEIGHBOUR: 'it returns false'. Refute it at one input. -/
def selectionSatisfiesWrong : ChangeSpec := { name := "selectionSatisfies", fn := fun _ => fun
  | [d1, d2] => { results := [.lit (.bool false)], args := [d1, d2] }
  | _ => none }
def SelectionSatisfiesWrongFalsely : Prop := selectionSatisfiesRow.holds Tryd.pinned (OpenSpec.ofChange selectionSatisfiesWrong)

/-- 'configlanglaw46.SelectionTurns': WHATEVER THE INPUT: true; the input reads as it did. -/
def selectionTurnsSpec : ChangeSpec := { name := "selectionTurns", fn := fun _ => fun
  | [d1, d2, d3] => { results := [.lit (.bool true)], args := [d1, d2, d3] }
  | _ => none }
def selectionTurnsRow : OpenClaim := { program := "ytfiilbdkhelhgaadoor", sum := "f7ef654a6432eb01179543866abe6bad9b0a9c789ed28dc5b0c4c2fad734bfc8", func := "configlang/configlanglaw46.SelectionTurns", spec := "selectionTurns", inPlace := ["internal/bytealg.CountString", "internal/bytealg.IndexByteString", "internal/bytealg.IndexString", "slices.overlaps[configlang/api.Module]"], unfollowed := true, recurses := true, named := ["unicode/utf8.first", "unicode/utf8.acceptRanges", "internal/bytealg.MaxLen"], plainKeys := false, apart := false, laid := [("unicode/utf8.acceptRanges", laid_unicode_utf8_acceptRanges), ("unicode/utf8.first", laid_unicode_utf8_first)] }
def SelectionTurnsSaid : Prop := selectionTurnsRow.holds Tryd.pinned (OpenSpec.ofChange selectionTurnsSpec)

/-- ITS FALSE NEIGHBOUR: 'it returns false'. Refute it at one input. -/
def selectionTurnsWrong : ChangeSpec := { name := "selectionTurns", fn := fun _ => fun
  | [d1, d2, d3] => { results := [.lit (.bool false)], args := [d1, d2, d3] }
  | _ => none }
def SelectionTurnsWrongFalsely : Prop := selectionTurnsRow.holds Tryd.pinned (OpenSpec.ofChange selectionTurnsWrong)

/-- 'configlanglaw46.SelectionChains': WHATEVER THE INPUT: true; the input reads as it did. -/
def selectionChainsSpec : ChangeSpec := { name := "selectionChains", fn := fun _ => fun
  | [d1, d2] => { results := [.lit (.bool true)], args := [d1, d2] }
  | _ => none }
def selectionChainsRow : OpenClaim := { program := "ytfiilbdkhelhgaadoor", sum := "f7ef654a6432eb01179543866abe6bad9b0a9c789ed28dc5b0c4c2fad734bfc8", func := "configlang/configlanglaw46.SelectionChains", spec := "selectionChains", inPlace := ["internal/bytealg.CountString", "internal/bytealg.IndexByteString", "internal/bytealg.IndexString", "slices.overlaps[configlang/api.Module]"], unfollowed := true, recurses := true, named := ["unicode/utf8.first", "unicode/utf8.acceptRanges", "internal/bytealg.MaxLen"], plainKeys := false, apart := false, laid := [("unicode/utf8.acceptRanges", laid_unicode_utf8_acceptRanges), ("unicode/utf8.first", laid_unicode_utf8_first)] }
def SelectionChainsSaid : Prop := selectionChainsRow.holds Tryd.pinned (OpenSpec.ofChange selectionChainsSpec)

/-- ITS FALSE NEIGHBOUR: 'it returns false'. Refute it at one input. -/
def selectionChainsWrong : ChangeSpec := { name := "selectionChains", fn := fun _ => fun
  | [d1, d2] => { results := [.lit (.bool false)], args := [d1, d2] }
  | _ => none }
def SelectionChainsWrongFalsely : Prop := selectionChainsRow.holds Tryd.pinned (OpenSpec.ofChange selectionChainsWrong)

/-- 'configlanglaw46.SelectionLatest': WHATEVER THE INPUT: true; the input reads as it did. -/
def selectionLatestSpec : ChangeSpec := { name := "selectionLatest", fn := fun _ => fun
  | [d1, d2] => { results := [.lit (.bool true)], args := [d1, d2] }
  | _ => none }
def selectionLatestRow : OpenClaim := { program := "ytfiilbdkhelhgaadoor", sum := "f7ef654a6432eb01179543866abe6bad9b0a9c789ed28dc5b0c4c2fad734bfc8", func := "configlang/configlanglaw46.SelectionLatest", spec := "selectionLatest", inPlace := ["internal/bytealg.CountString", "internal/bytealg.IndexByteString", "internal/bytealg.IndexString", "slices.overlaps[configlang/api.Module]"], unfollowed := true, recurses := true, named := ["unicode/utf8.first", "unicode/utf8.acceptRanges", "internal/bytealg.MaxLen"], plainKeys := false, apart := false, laid := [("unicode/utf8.acceptRanges", laid_unicode_utf8_acceptRanges), ("unicode/utf8.first", laid_unicode_utf8_first)] }
def SelectionLatestSaid : Prop := selectionLatestRow.holds Tryd.pinned (OpenSpec.ofChange selectionLatestSpec)

/-- ITS FALSE NEIGHBOUR: 'it returns false'. Refute it at one input. -/
def selectionLatestWrong : ChangeSpec := { name := "selectionLatest", fn := fun _ => fun
  | [d1, d2] => { results := [.lit (.bool false)], args := [d1, d2] }
  | _ => none }
def SelectionLatestWrongFalsely : Prop := selectionLatestRow.holds Tryd.pinned (OpenSpec.ofChange selectionLatestWrong)

/-- 'configlanglaw46.SelectionMoves': WHATEVER THE INPUT: true; the input reads as it did. -/
def selectionMovesSpec : ChangeSpec := { name := "selectionMoves", fn := fun _ => fun
  | [d1, d2, d3] => { results := [.lit (.bool true)], args := [d1, d2, d3] }
  | _ => none }
def selectionMovesRow : OpenClaim := { program := "ytfiilbdkhelhgaadoor", sum := "f7ef654a6432eb01179543866abe6bad9b0a9c789ed28dc5b0c4c2fad734bfc8", func := "configlang/configlanglaw46.SelectionMoves", spec := "selectionMoves", inPlace := ["internal/bytealg.CountString", "internal/bytealg.IndexByteString", "internal/bytealg.IndexString", "slices.overlaps[configlang/api.Module]"], unfollowed := true, recurses := true, named := ["unicode/utf8.first", "unicode/utf8.acceptRanges", "internal/bytealg.MaxLen"], plainKeys := false, apart := false, laid := [("unicode/utf8.acceptRanges", laid_unicode_utf8_acceptRanges), ("unicode/utf8.first", laid_unicode_utf8_first)] }
def SelectionMovesSaid : Prop := selectionMovesRow.holds Tryd.pinned (OpenSpec.ofChange selectionMovesSpec)

/-- ITS FALSE NEIGHBOUR: 'it returns false'. Refute it at one input. -/
def selectionMovesWrong : ChangeSpec := { name := "selectionMoves", fn := fun _ => fun
  | [d1, d2, d3] => { results := [.lit (.bool false)], args := [d1, d2, d3] }
  | _ => none }
def SelectionMovesWrongFalsely : Prop := selectionMovesRow.holds Tryd.pinned (OpenSpec.ofChange selectionMovesWrong)

/- THE SECOND FORM. 'bulk': how many values and letters a reading holds, each counted each time it is reached (what is shared counts as often as it is met; a slice's spare places count too). A statement '..UptoSaid' is the law's where the arguments, and the package variables that the reading takes, are together of bulk at most 1048576: NARROWER than '..Said'. Prove '..Said' where nothing that the law and all that it calls make is longer than what came in: it says more and counts as full. Else prove '..UptoSaid'. A law counts once. -/
mutual
def uptoBulk {H : Type} : DataW H → Nat
  | .lit (.string bytes) => bytes.length + 1
  | .lit _ => 1
  | .nil => 1
  | .ptr d => uptoBulk d + 1
  | .slice elems spare => uptoBulkAll elems + uptoBulkAll spare + 1
  | .agg parts => uptoBulkAll parts + 1
  | .iface _ d => uptoBulk d + 1
  | .map entries => uptoBulkEntries entries + 1
  | .held _ => 1
def uptoBulkAll {H : Type} : List (DataW H) → Nat
  | [] => 0
  | d :: r => uptoBulk d + uptoBulkAll r
def uptoBulkEntries {H : Type} : List (Lit × DataW H) → Nat
  | [] => 0
  | x :: r => uptoBulkEntry x + uptoBulkEntries r
def uptoBulkEntry {H : Type} : Lit × DataW H → Nat
  | (.string bytes, d) => bytes.length + uptoBulk d + 1
  | (_, d) => uptoBulk d + 1
 end
def uptoSmall : (H : Type) → List (DataW H) → Bool := fun _ ds => decide (uptoBulkAll ds ≤ 1048576)
def OpenSpec.upto (s : _root_.Go.ChangeSpec) : _root_.Go.OpenSpec := { _root_.Go.OpenSpec.ofChange s with cond := some uptoSmall }

/-- 'configlanglaw46.SelectionSatisfies', WHERE WHAT IT READS IS OF BULK AT MOST 1048576: true; the input reads as it did. -/
def selectionSatisfiesUptoRow : OpenClaim := { program := "ytfiilbdkhelhgaadoor", sum := "f7ef654a6432eb01179543866abe6bad9b0a9c789ed28dc5b0c4c2fad734bfc8", func := "configlang/configlanglaw46.SelectionSatisfies", spec := "selectionSatisfies", inPlace := ["internal/bytealg.CountString", "internal/bytealg.IndexByteString", "internal/bytealg.IndexString", "slices.overlaps[configlang/api.Module]"], unfollowed := true, recurses := true, named := ["unicode/utf8.first", "unicode/utf8.acceptRanges", "internal/bytealg.MaxLen"], plainKeys := false, apart := false, laid := [("unicode/utf8.acceptRanges", laid_unicode_utf8_acceptRanges), ("unicode/utf8.first", laid_unicode_utf8_first)], narrowed := true }
def SelectionSatisfiesUptoSaid : Prop := selectionSatisfiesUptoRow.holds Tryd.pinned (OpenSpec.upto selectionSatisfiesSpec)

/-- 'configlanglaw46.SelectionTurns', WHERE WHAT IT READS IS OF BULK AT MOST 1048576: true; the input reads as it did. -/
def selectionTurnsUptoRow : OpenClaim := { program := "ytfiilbdkhelhgaadoor", sum := "f7ef654a6432eb01179543866abe6bad9b0a9c789ed28dc5b0c4c2fad734bfc8", func := "configlang/configlanglaw46.SelectionTurns", spec := "selectionTurns", inPlace := ["internal/bytealg.CountString", "internal/bytealg.IndexByteString", "internal/bytealg.IndexString", "slices.overlaps[configlang/api.Module]"], unfollowed := true, recurses := true, named := ["unicode/utf8.first", "unicode/utf8.acceptRanges", "internal/bytealg.MaxLen"], plainKeys := false, apart := false, laid := [("unicode/utf8.acceptRanges", laid_unicode_utf8_acceptRanges), ("unicode/utf8.first", laid_unicode_utf8_first)], narrowed := true }
def SelectionTurnsUptoSaid : Prop := selectionTurnsUptoRow.holds Tryd.pinned (OpenSpec.upto selectionTurnsSpec)

/-- 'configlanglaw46.SelectionChains', WHERE WHAT IT READS IS OF BULK AT MOST 1048576: true; the input reads as it did. -/
def selectionChainsUptoRow : OpenClaim := { program := "ytfiilbdkhelhgaadoor", sum := "f7ef654a6432eb01179543866abe6bad9b0a9c789ed28dc5b0c4c2fad734bfc8", func := "configlang/configlanglaw46.SelectionChains", spec := "selectionChains", inPlace := ["internal/bytealg.CountString", "internal/bytealg.IndexByteString", "internal/bytealg.IndexString", "slices.overlaps[configlang/api.Module]"], unfollowed := true, recurses := true, named := ["unicode/utf8.first", "unicode/utf8.acceptRanges", "internal/bytealg.MaxLen"], plainKeys := false, apart := false, laid := [("unicode/utf8.acceptRanges", laid_unicode_utf8_acceptRanges), ("unicode/utf8.first", laid_unicode_utf8_first)], narrowed := true }
def SelectionChainsUptoSaid : Prop := selectionChainsUptoRow.holds Tryd.pinned (OpenSpec.upto selectionChainsSpec)

/-- 'configlanglaw46.SelectionLatest', WHERE WHAT IT READS IS OF BULK AT MOST 1048576: true; the input reads as it did. -/
def selectionLatestUptoRow : OpenClaim := { program := "ytfiilbdkhelhgaadoor", sum := "f7ef654a6432eb01179543866abe6bad9b0a9c789ed28dc5b0c4c2fad734bfc8", func := "configlang/configlanglaw46.SelectionLatest", spec := "selectionLatest", inPlace := ["internal/bytealg.CountString", "internal/bytealg.IndexByteString", "internal/bytealg.IndexString", "slices.overlaps[configlang/api.Module]"], unfollowed := true, recurses := true, named := ["unicode/utf8.first", "unicode/utf8.acceptRanges", "internal/bytealg.MaxLen"], plainKeys := false, apart := false, laid := [("unicode/utf8.acceptRanges", laid_unicode_utf8_acceptRanges), ("unicode/utf8.first", laid_unicode_utf8_first)], narrowed := true }
def SelectionLatestUptoSaid : Prop := selectionLatestUptoRow.holds Tryd.pinned (OpenSpec.upto selectionLatestSpec)

/-- 'configlanglaw46.SelectionMoves', WHERE WHAT IT READS IS OF BULK AT MOST 1048576: true; the input reads as it did. -/
def selectionMovesUptoRow : OpenClaim := { program := "ytfiilbdkhelhgaadoor", sum := "f7ef654a6432eb01179543866abe6bad9b0a9c789ed28dc5b0c4c2fad734bfc8", func := "configlang/configlanglaw46.SelectionMoves", spec := "selectionMoves", inPlace := ["internal/bytealg.CountString", "internal/bytealg.IndexByteString", "internal/bytealg.IndexString", "slices.overlaps[configlang/api.Module]"], unfollowed := true, recurses := true, named := ["unicode/utf8.first", "unicode/utf8.acceptRanges", "internal/bytealg.MaxLen"], plainKeys := false, apart := false, laid := [("unicode/utf8.acceptRanges", laid_unicode_utf8_acceptRanges), ("unicode/utf8.first", laid_unicode_utf8_first)], narrowed := true }
def SelectionMovesUptoSaid : Prop := selectionMovesUptoRow.holds Tryd.pinned (OpenSpec.upto selectionMovesSpec)

end Rows
end Go.Proofs.YtfiilbdkhelhgaaDoor
