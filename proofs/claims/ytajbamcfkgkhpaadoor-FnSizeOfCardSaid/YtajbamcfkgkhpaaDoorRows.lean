/-
  NARROWER THAN 'FOR EVERY INPUT', by the rows' own cells (each row's printed sentence says how): FnExactNamesAbove: laid · FnExactSizeOf: laid · FnResolveName: laid · FnPartsOf: laid · FnRelativeName: laid · FnSizeOf: laid · FnValidBody: laid · FnExactHashOf: laid · FnExactValidFinder: laid · FnIsUnder: laid · FnJoinParts: laid · FnHashOf: laid.
  DERIVED. THE GIVEN ROWS OF THIS SEAT. 12 by the template 'for every input the law returns true; each argument reads behind the call as it read before'; 0 by the template 'total and deterministic' (their statements: YtajbamcfkgkhpaaDoorTotals.lean).
  GIVEN WITH THE SEED: the statements are not yours to turn. If you find one false, say at which input.
  Laid BY PROGRAM, IN A SANDBOX (cutbox-rows.mjs): the forced cells as the released guide's own fill.sh prints them over the translation f814ab8b0a53efb9… (all of the seat's roots in one cut). By AI agents, Wed Nov 11 2026. No macro, syntax, notation, axiom, sorry.
-/
import Derived.Test.YtajbamcfkgkhpaaDoorChecked
import GoSem.PinnedTables
import GoSem.Claim
import GoSem.ClaimJoined
import GoSem.ClaimMapViews
import Derived.JoinedTies
import Derived.KernelRfl
namespace Go.Proofs.YtajbamcfkgkhpaaDoor
/- THE CELL 'sum', in the pinned program and in every row, IS THE sha256 OF THE DUMP (.gsa) THAT YtajbamcfkgkhpaaDoorProg.lean LOADS. Nothing in Lean hashes anything: it is a label: what it is worth is what the hold of that sum in a sandbox is worth. -/
noncomputable def Tryd.pinned : Pinned := { name := "ytajbamcfkgkhpaadoor", sum := "f814ab8b0a53efb9ab6848f737a1a2a07709e5706f017bc0273ec11a2af783f8", checked := Tryd.checked }
namespace Rows
def none {H : Type} : Left H := { results := [], args := [] }

/- WHAT THE LISTED PACKAGE-LEVEL VARIABLES READ AS WHEN THE CALL BEGINS. Each datum BY PROGRAM (the guide's laid-datum.mjs) off the statement by which the dump's own 'gosem.cut.vars' lays the variable. In a bare row this is a premise. The card (YtajbamcfkgkhpaaDoorCards.lean) ties it to the program's text. -/
def laid_unicode_utf8_acceptRanges {H : Type} : DataW H := .agg [.agg [.lit (.int .u8 128), .lit (.int .u8 191)], .agg [.lit (.int .u8 160), .lit (.int .u8 191)], .agg [.lit (.int .u8 128), .lit (.int .u8 159)], .agg [.lit (.int .u8 144), .lit (.int .u8 191)], .agg [.lit (.int .u8 128), .lit (.int .u8 143)], .agg [.lit (.int .u8 0), .lit (.int .u8 0)], .agg [.lit (.int .u8 0), .lit (.int .u8 0)], .agg [.lit (.int .u8 0), .lit (.int .u8 0)], .agg [.lit (.int .u8 0), .lit (.int .u8 0)], .agg [.lit (.int .u8 0), .lit (.int .u8 0)], .agg [.lit (.int .u8 0), .lit (.int .u8 0)], .agg [.lit (.int .u8 0), .lit (.int .u8 0)], .agg [.lit (.int .u8 0), .lit (.int .u8 0)], .agg [.lit (.int .u8 0), .lit (.int .u8 0)], .agg [.lit (.int .u8 0), .lit (.int .u8 0)], .agg [.lit (.int .u8 0), .lit (.int .u8 0)]]
/-- One of Go's own tables, pinned by name: the form's constant. -/
def laid_unicode_utf8_first : DataW Unit := Go.Pinned.utf8First

/-- 'laws.FnExactNamesAbove': WHATEVER THE INPUT: true; the input reads as it did. -/
def fnExactNamesAboveSpec : ChangeSpec := { name := "fnExactNamesAbove", fn := fun _ => fun
  | [d] => { results := [.lit (.bool true)], args := [d] }
  | _ => none }
def fnExactNamesAboveRow : OpenClaim := { program := "ytajbamcfkgkhpaadoor", sum := "f814ab8b0a53efb9ab6848f737a1a2a07709e5706f017bc0273ec11a2af783f8", func := "loop.example/importhouse/laws.FnExactNamesAbove", spec := "fnExactNamesAbove", inPlace := ["internal/bytealg.CountString", "internal/bytealg.IndexByteString", "internal/bytealg.IndexString", "internal/abi.NoEscape", "internal/bytealg.MakeNoZero"], named := ["unicode/utf8.first", "unicode/utf8.acceptRanges", "internal/bytealg.MaxLen"], apart := false, laid := [("unicode/utf8.acceptRanges", laid_unicode_utf8_acceptRanges), ("unicode/utf8.first", laid_unicode_utf8_first)] }
def FnExactNamesAboveSaid : Prop := fnExactNamesAboveRow.holds Tryd.pinned (OpenSpec.ofChange fnExactNamesAboveSpec)

/-- ITS FALSE NEIGHBOUR: 'it returns false'. Refute it at one input. -/
def fnExactNamesAboveWrong : ChangeSpec := { name := "fnExactNamesAbove", fn := fun _ => fun
  | [d] => { results := [.lit (.bool false)], args := [d] }
  | _ => none }
def FnExactNamesAboveWrongFalsely : Prop := fnExactNamesAboveRow.holds Tryd.pinned (OpenSpec.ofChange fnExactNamesAboveWrong)

/-- 'laws.FnExactSizeOf': WHATEVER THE INPUT: true; the input reads as it did. -/
def fnExactSizeOfSpec : ChangeSpec := { name := "fnExactSizeOf", fn := fun _ => fun
  | [d] => { results := [.lit (.bool true)], args := [d] }
  | _ => none }
def fnExactSizeOfRow : OpenClaim := { program := "ytajbamcfkgkhpaadoor", sum := "f814ab8b0a53efb9ab6848f737a1a2a07709e5706f017bc0273ec11a2af783f8", func := "loop.example/importhouse/laws.FnExactSizeOf", spec := "fnExactSizeOf", inPlace := ["internal/bytealg.CountString", "internal/bytealg.IndexByteString", "internal/bytealg.IndexString"], named := ["unicode/utf8.first", "unicode/utf8.acceptRanges", "internal/bytealg.MaxLen"], apart := false, laid := [("unicode/utf8.acceptRanges", laid_unicode_utf8_acceptRanges), ("unicode/utf8.first", laid_unicode_utf8_first)] }
def FnExactSizeOfSaid : Prop := fnExactSizeOfRow.holds Tryd.pinned (OpenSpec.ofChange fnExactSizeOfSpec)

/-- ITS FALSE NEIGHBOUR: 'it returns false'. Refute it at one input. -/
def fnExactSizeOfWrong : ChangeSpec := { name := "fnExactSizeOf", fn := fun _ => fun
  | [d] => { results := [.lit (.bool false)], args := [d] }
  | _ => none }
def FnExactSizeOfWrongFalsely : Prop := fnExactSizeOfRow.holds Tryd.pinned (OpenSpec.ofChange fnExactSizeOfWrong)

/-- 'laws.FnResolveName': WHATEVER THE INPUT: true; the input reads as it did. -/
def fnResolveNameSpec : ChangeSpec := { name := "fnResolveName", fn := fun _ => fun
  | [d] => { results := [.lit (.bool true)], args := [d] }
  | _ => none }
def fnResolveNameRow : OpenClaim := { program := "ytajbamcfkgkhpaadoor", sum := "f814ab8b0a53efb9ab6848f737a1a2a07709e5706f017bc0273ec11a2af783f8", func := "loop.example/importhouse/laws.FnResolveName", spec := "fnResolveName", inPlace := ["internal/bytealg.CountString", "internal/bytealg.IndexByteString", "internal/bytealg.IndexString"], named := ["unicode/utf8.first", "unicode/utf8.acceptRanges", "internal/bytealg.MaxLen"], apart := false, laid := [("unicode/utf8.acceptRanges", laid_unicode_utf8_acceptRanges), ("unicode/utf8.first", laid_unicode_utf8_first)] }
def FnResolveNameSaid : Prop := fnResolveNameRow.holds Tryd.pinned (OpenSpec.ofChange fnResolveNameSpec)

/-- ITS FALSE NEIGHBOUR: 'it returns false'. Refute it at one input. -/
def fnResolveNameWrong : ChangeSpec := { name := "fnResolveName", fn := fun _ => fun
  | [d] => { results := [.lit (.bool false)], args := [d] }
  | _ => none }
def FnResolveNameWrongFalsely : Prop := fnResolveNameRow.holds Tryd.pinned (OpenSpec.ofChange fnResolveNameWrong)

/-- 'laws.FnPartsOf': WHATEVER THE INPUT: true; the input reads as it did. -/
def fnPartsOfSpec : ChangeSpec := { name := "fnPartsOf", fn := fun _ => fun
  | [d] => { results := [.lit (.bool true)], args := [d] }
  | _ => none }
def fnPartsOfRow : OpenClaim := { program := "ytajbamcfkgkhpaadoor", sum := "f814ab8b0a53efb9ab6848f737a1a2a07709e5706f017bc0273ec11a2af783f8", func := "loop.example/importhouse/laws.FnPartsOf", spec := "fnPartsOf", inPlace := ["internal/bytealg.CountString", "internal/bytealg.IndexByteString", "internal/bytealg.IndexString", "internal/abi.NoEscape", "internal/bytealg.MakeNoZero"], named := ["unicode/utf8.first", "unicode/utf8.acceptRanges", "internal/bytealg.MaxLen"], apart := false, laid := [("unicode/utf8.acceptRanges", laid_unicode_utf8_acceptRanges), ("unicode/utf8.first", laid_unicode_utf8_first)] }
def FnPartsOfSaid : Prop := fnPartsOfRow.holds Tryd.pinned (OpenSpec.ofChange fnPartsOfSpec)

/-- ITS FALSE NEIGHBOUR: 'it returns false'. Refute it at one input. -/
def fnPartsOfWrong : ChangeSpec := { name := "fnPartsOf", fn := fun _ => fun
  | [d] => { results := [.lit (.bool false)], args := [d] }
  | _ => none }
def FnPartsOfWrongFalsely : Prop := fnPartsOfRow.holds Tryd.pinned (OpenSpec.ofChange fnPartsOfWrong)

/-- 'laws.FnRelativeName': WHATEVER THE INPUT: true; the input reads as it did. -/
def fnRelativeNameSpec : ChangeSpec := { name := "fnRelativeName", fn := fun _ => fun
  | [d] => { results := [.lit (.bool true)], args := [d] }
  | _ => none }
def fnRelativeNameRow : OpenClaim := { program := "ytajbamcfkgkhpaadoor", sum := "f814ab8b0a53efb9ab6848f737a1a2a07709e5706f017bc0273ec11a2af783f8", func := "loop.example/importhouse/laws.FnRelativeName", spec := "fnRelativeName", inPlace := ["internal/bytealg.CountString", "internal/bytealg.IndexByteString", "internal/bytealg.IndexString"], named := ["unicode/utf8.first", "unicode/utf8.acceptRanges", "internal/bytealg.MaxLen"], apart := false, laid := [("unicode/utf8.acceptRanges", laid_unicode_utf8_acceptRanges), ("unicode/utf8.first", laid_unicode_utf8_first)] }
def FnRelativeNameSaid : Prop := fnRelativeNameRow.holds Tryd.pinned (OpenSpec.ofChange fnRelativeNameSpec)

/-- ITS FALSE NEIGHBOUR: 'it returns false'. Refute it at one input. -/
def fnRelativeNameWrong : ChangeSpec := { name := "fnRelativeName", fn := fun _ => fun
  | [d] => { results := [.lit (.bool false)], args := [d] }
  | _ => none }
def FnRelativeNameWrongFalsely : Prop := fnRelativeNameRow.holds Tryd.pinned (OpenSpec.ofChange fnRelativeNameWrong)

/-- 'laws.FnSizeOf': WHATEVER THE INPUT: true; the input reads as it did. -/
def fnSizeOfSpec : ChangeSpec := { name := "fnSizeOf", fn := fun _ => fun
  | [d] => { results := [.lit (.bool true)], args := [d] }
  | _ => none }
def fnSizeOfRow : OpenClaim := { program := "ytajbamcfkgkhpaadoor", sum := "f814ab8b0a53efb9ab6848f737a1a2a07709e5706f017bc0273ec11a2af783f8", func := "loop.example/importhouse/laws.FnSizeOf", spec := "fnSizeOf", inPlace := ["internal/bytealg.CountString", "internal/bytealg.IndexByteString", "internal/bytealg.IndexString"], named := ["unicode/utf8.first", "unicode/utf8.acceptRanges", "internal/bytealg.MaxLen"], apart := false, laid := [("unicode/utf8.acceptRanges", laid_unicode_utf8_acceptRanges), ("unicode/utf8.first", laid_unicode_utf8_first)] }
def FnSizeOfSaid : Prop := fnSizeOfRow.holds Tryd.pinned (OpenSpec.ofChange fnSizeOfSpec)

/-- ITS FALSE NEIGHBOUR: 'it returns false'. Refute it at one input. -/
def fnSizeOfWrong : ChangeSpec := { name := "fnSizeOf", fn := fun _ => fun
  | [d] => { results := [.lit (.bool false)], args := [d] }
  | _ => none }
def FnSizeOfWrongFalsely : Prop := fnSizeOfRow.holds Tryd.pinned (OpenSpec.ofChange fnSizeOfWrong)

/-- 'laws.FnValidBody': WHATEVER THE INPUT: true; the input reads as it did. -/
def fnValidBodySpec : ChangeSpec := { name := "fnValidBody", fn := fun _ => fun
  | [d] => { results := [.lit (.bool true)], args := [d] }
  | _ => none }
def fnValidBodyRow : OpenClaim := { program := "ytajbamcfkgkhpaadoor", sum := "f814ab8b0a53efb9ab6848f737a1a2a07709e5706f017bc0273ec11a2af783f8", func := "loop.example/importhouse/laws.FnValidBody", spec := "fnValidBody", inPlace := ["internal/bytealg.CountString", "internal/bytealg.IndexByteString", "internal/bytealg.IndexString"], unfollowed := true, recurses := true, named := ["unicode/utf8.first", "unicode/utf8.acceptRanges", "internal/bytealg.MaxLen"], apart := false, laid := [("unicode/utf8.acceptRanges", laid_unicode_utf8_acceptRanges), ("unicode/utf8.first", laid_unicode_utf8_first)] }
def FnValidBodySaid : Prop := fnValidBodyRow.holds Tryd.pinned (OpenSpec.ofChange fnValidBodySpec)

/-- ITS FALSE NEIGHBOUR: 'it returns false'. Refute it at one input. -/
def fnValidBodyWrong : ChangeSpec := { name := "fnValidBody", fn := fun _ => fun
  | [d] => { results := [.lit (.bool false)], args := [d] }
  | _ => none }
def FnValidBodyWrongFalsely : Prop := fnValidBodyRow.holds Tryd.pinned (OpenSpec.ofChange fnValidBodyWrong)

/-- 'laws.FnExactHashOf': WHATEVER THE INPUT: true; the input reads as it did. -/
def fnExactHashOfSpec : ChangeSpec := { name := "fnExactHashOf", fn := fun _ => fun
  | [d] => { results := [.lit (.bool true)], args := [d] }
  | _ => none }
def fnExactHashOfRow : OpenClaim := { program := "ytajbamcfkgkhpaadoor", sum := "f814ab8b0a53efb9ab6848f737a1a2a07709e5706f017bc0273ec11a2af783f8", func := "loop.example/importhouse/laws.FnExactHashOf", spec := "fnExactHashOf", inPlace := ["internal/bytealg.CountString", "internal/bytealg.IndexByteString", "internal/bytealg.IndexString"], unfollowed := true, recurses := true, named := ["unicode/utf8.first", "unicode/utf8.acceptRanges", "internal/bytealg.MaxLen"], apart := false, laid := [("unicode/utf8.acceptRanges", laid_unicode_utf8_acceptRanges), ("unicode/utf8.first", laid_unicode_utf8_first)] }
def FnExactHashOfSaid : Prop := fnExactHashOfRow.holds Tryd.pinned (OpenSpec.ofChange fnExactHashOfSpec)

/-- ITS FALSE NEIGHBOUR: 'it returns false'. Refute it at one input. -/
def fnExactHashOfWrong : ChangeSpec := { name := "fnExactHashOf", fn := fun _ => fun
  | [d] => { results := [.lit (.bool false)], args := [d] }
  | _ => none }
def FnExactHashOfWrongFalsely : Prop := fnExactHashOfRow.holds Tryd.pinned (OpenSpec.ofChange fnExactHashOfWrong)

/-- 'laws.FnExactValidFinder': WHATEVER THE INPUT: true; the input reads as it did. -/
def fnExactValidFinderSpec : ChangeSpec := { name := "fnExactValidFinder", fn := fun _ => fun
  | [d] => { results := [.lit (.bool true)], args := [d] }
  | _ => none }
def fnExactValidFinderRow : OpenClaim := { program := "ytajbamcfkgkhpaadoor", sum := "f814ab8b0a53efb9ab6848f737a1a2a07709e5706f017bc0273ec11a2af783f8", func := "loop.example/importhouse/laws.FnExactValidFinder", spec := "fnExactValidFinder", inPlace := ["internal/bytealg.CountString", "internal/bytealg.IndexByteString", "internal/bytealg.IndexString"], unfollowed := true, recurses := true, named := ["unicode/utf8.first", "unicode/utf8.acceptRanges", "internal/bytealg.MaxLen"], apart := false, laid := [("unicode/utf8.acceptRanges", laid_unicode_utf8_acceptRanges), ("unicode/utf8.first", laid_unicode_utf8_first)] }
def FnExactValidFinderSaid : Prop := fnExactValidFinderRow.holds Tryd.pinned (OpenSpec.ofChange fnExactValidFinderSpec)

/-- ITS FALSE NEIGHBOUR: 'it returns false'. Refute it at one input. -/
def fnExactValidFinderWrong : ChangeSpec := { name := "fnExactValidFinder", fn := fun _ => fun
  | [d] => { results := [.lit (.bool false)], args := [d] }
  | _ => none }
def FnExactValidFinderWrongFalsely : Prop := fnExactValidFinderRow.holds Tryd.pinned (OpenSpec.ofChange fnExactValidFinderWrong)

/-- 'laws.FnIsUnder': WHATEVER THE INPUT: true; the input reads as it did. -/
def fnIsUnderSpec : ChangeSpec := { name := "fnIsUnder", fn := fun _ => fun
  | [d] => { results := [.lit (.bool true)], args := [d] }
  | _ => none }
def fnIsUnderRow : OpenClaim := { program := "ytajbamcfkgkhpaadoor", sum := "f814ab8b0a53efb9ab6848f737a1a2a07709e5706f017bc0273ec11a2af783f8", func := "loop.example/importhouse/laws.FnIsUnder", spec := "fnIsUnder", inPlace := ["internal/bytealg.CountString", "internal/bytealg.IndexByteString", "internal/bytealg.IndexString", "internal/abi.NoEscape", "internal/bytealg.MakeNoZero"], named := ["unicode/utf8.first", "unicode/utf8.acceptRanges", "internal/bytealg.MaxLen"], apart := false, laid := [("unicode/utf8.acceptRanges", laid_unicode_utf8_acceptRanges), ("unicode/utf8.first", laid_unicode_utf8_first)] }
def FnIsUnderSaid : Prop := fnIsUnderRow.holds Tryd.pinned (OpenSpec.ofChange fnIsUnderSpec)

/-- ITS FALSE NEIGHBOUR: 'it returns false'. Refute it at one input. -/
def fnIsUnderWrong : ChangeSpec := { name := "fnIsUnder", fn := fun _ => fun
  | [d] => { results := [.lit (.bool false)], args := [d] }
  | _ => none }
def FnIsUnderWrongFalsely : Prop := fnIsUnderRow.holds Tryd.pinned (OpenSpec.ofChange fnIsUnderWrong)

/-- 'laws.FnJoinParts': WHATEVER THE INPUT: true; the input reads as it did. -/
def fnJoinPartsSpec : ChangeSpec := { name := "fnJoinParts", fn := fun _ => fun
  | [d] => { results := [.lit (.bool true)], args := [d] }
  | _ => none }
def fnJoinPartsRow : OpenClaim := { program := "ytajbamcfkgkhpaadoor", sum := "f814ab8b0a53efb9ab6848f737a1a2a07709e5706f017bc0273ec11a2af783f8", func := "loop.example/importhouse/laws.FnJoinParts", spec := "fnJoinParts", inPlace := ["internal/abi.NoEscape", "internal/bytealg.MakeNoZero", "internal/bytealg.CountString", "internal/bytealg.IndexByteString", "internal/bytealg.IndexString"], named := ["unicode/utf8.first", "unicode/utf8.acceptRanges", "internal/bytealg.MaxLen"], apart := false, laid := [("unicode/utf8.acceptRanges", laid_unicode_utf8_acceptRanges), ("unicode/utf8.first", laid_unicode_utf8_first)] }
def FnJoinPartsSaid : Prop := fnJoinPartsRow.holds Tryd.pinned (OpenSpec.ofChange fnJoinPartsSpec)

/-- ITS FALSE NEIGHBOUR: 'it returns false'. Refute it at one input. -/
def fnJoinPartsWrong : ChangeSpec := { name := "fnJoinParts", fn := fun _ => fun
  | [d] => { results := [.lit (.bool false)], args := [d] }
  | _ => none }
def FnJoinPartsWrongFalsely : Prop := fnJoinPartsRow.holds Tryd.pinned (OpenSpec.ofChange fnJoinPartsWrong)

/-- 'laws.FnHashOf': WHATEVER THE INPUT: true; the input reads as it did. -/
def fnHashOfSpec : ChangeSpec := { name := "fnHashOf", fn := fun _ => fun
  | [d] => { results := [.lit (.bool true)], args := [d] }
  | _ => none }
def fnHashOfRow : OpenClaim := { program := "ytajbamcfkgkhpaadoor", sum := "f814ab8b0a53efb9ab6848f737a1a2a07709e5706f017bc0273ec11a2af783f8", func := "loop.example/importhouse/laws.FnHashOf", spec := "fnHashOf", inPlace := ["internal/bytealg.CountString", "internal/bytealg.IndexByteString", "internal/bytealg.IndexString"], unfollowed := true, recurses := true, named := ["unicode/utf8.first", "unicode/utf8.acceptRanges", "internal/bytealg.MaxLen"], apart := false, laid := [("unicode/utf8.acceptRanges", laid_unicode_utf8_acceptRanges), ("unicode/utf8.first", laid_unicode_utf8_first)] }
def FnHashOfSaid : Prop := fnHashOfRow.holds Tryd.pinned (OpenSpec.ofChange fnHashOfSpec)

/-- ITS FALSE NEIGHBOUR: 'it returns false'. Refute it at one input. -/
def fnHashOfWrong : ChangeSpec := { name := "fnHashOf", fn := fun _ => fun
  | [d] => { results := [.lit (.bool false)], args := [d] }
  | _ => none }
def FnHashOfWrongFalsely : Prop := fnHashOfRow.holds Tryd.pinned (OpenSpec.ofChange fnHashOfWrong)

/- THE SECOND FORM. 'bulk': how many values and letters a reading holds, each counted each time it is reached (what is shared counts as often as it is met; a slice's spare places count too). A statement '..UptoSaid' is the law's where the arguments, and the package variables that the reading takes, are together of bulk at most 1048576: NARROWER than '..Said'. Prove '..Said' where nothing that the law and all that it calls make is longer than what came in: it says more and counts as full. Else prove '..UptoSaid'. A law counts once. -/
mutual
def uptoBulk {H : Type} : DataW H → Nat
  | .lit (.string bytes) => bytes.length + 1
  | .lit _ => 1
  | .nil => 1
  | .ptr d => uptoBulk d + 1
  | .slice elems spare => uptoBulkAll elems + uptoBulkAll spare + 1
  | .agg parts => uptoBulkAll parts + 1
  | .iface _ d => uptoBulk d + 1
  | .map entries => uptoBulkEntries entries + 1
  | .held _ => 1
def uptoBulkAll {H : Type} : List (DataW H) → Nat
  | [] => 0
  | d :: r => uptoBulk d + uptoBulkAll r
def uptoBulkEntries {H : Type} : List (Lit × DataW H) → Nat
  | [] => 0
  | x :: r => uptoBulkEntry x + uptoBulkEntries r
def uptoBulkEntry {H : Type} : Lit × DataW H → Nat
  | (.string bytes, d) => bytes.length + uptoBulk d + 1
  | (_, d) => uptoBulk d + 1
 end
def uptoSmall : (H : Type) → List (DataW H) → Bool := fun _ ds => decide (uptoBulkAll ds ≤ 1048576)
def OpenSpec.upto (s : _root_.Go.ChangeSpec) : _root_.Go.OpenSpec := { _root_.Go.OpenSpec.ofChange s with cond := some uptoSmall }

/-- 'laws.FnExactNamesAbove', WHERE WHAT IT READS IS OF BULK AT MOST 1048576: true; the input reads as it did. -/
def fnExactNamesAboveUptoRow : OpenClaim := { program := "ytajbamcfkgkhpaadoor", sum := "f814ab8b0a53efb9ab6848f737a1a2a07709e5706f017bc0273ec11a2af783f8", func := "loop.example/importhouse/laws.FnExactNamesAbove", spec := "fnExactNamesAbove", inPlace := ["internal/bytealg.CountString", "internal/bytealg.IndexByteString", "internal/bytealg.IndexString", "internal/abi.NoEscape", "internal/bytealg.MakeNoZero"], named := ["unicode/utf8.first", "unicode/utf8.acceptRanges", "internal/bytealg.MaxLen"], apart := false, laid := [("unicode/utf8.acceptRanges", laid_unicode_utf8_acceptRanges), ("unicode/utf8.first", laid_unicode_utf8_first)], narrowed := true }
def FnExactNamesAboveUptoSaid : Prop := fnExactNamesAboveUptoRow.holds Tryd.pinned (OpenSpec.upto fnExactNamesAboveSpec)

/-- 'laws.FnExactSizeOf', WHERE WHAT IT READS IS OF BULK AT MOST 1048576: true; the input reads as it did. -/
def fnExactSizeOfUptoRow : OpenClaim := { program := "ytajbamcfkgkhpaadoor", sum := "f814ab8b0a53efb9ab6848f737a1a2a07709e5706f017bc0273ec11a2af783f8", func := "loop.example/importhouse/laws.FnExactSizeOf", spec := "fnExactSizeOf", inPlace := ["internal/bytealg.CountString", "internal/bytealg.IndexByteString", "internal/bytealg.IndexString"], named := ["unicode/utf8.first", "unicode/utf8.acceptRanges", "internal/bytealg.MaxLen"], apart := false, laid := [("unicode/utf8.acceptRanges", laid_unicode_utf8_acceptRanges), ("unicode/utf8.first", laid_unicode_utf8_first)], narrowed := true }
def FnExactSizeOfUptoSaid : Prop := fnExactSizeOfUptoRow.holds Tryd.pinned (OpenSpec.upto fnExactSizeOfSpec)

/-- 'laws.FnResolveName', WHERE WHAT IT READS IS OF BULK AT MOST 1048576: true; the input reads as it did. -/
def fnResolveNameUptoRow : OpenClaim := { program := "ytajbamcfkgkhpaadoor", sum := "f814ab8b0a53efb9ab6848f737a1a2a07709e5706f017bc0273ec11a2af783f8", func := "loop.example/importhouse/laws.FnResolveName", spec := "fnResolveName", inPlace := ["internal/bytealg.CountString", "internal/bytealg.IndexByteString", "internal/bytealg.IndexString"], named := ["unicode/utf8.first", "unicode/utf8.acceptRanges", "internal/bytealg.MaxLen"], apart := false, laid := [("unicode/utf8.acceptRanges", laid_unicode_utf8_acceptRanges), ("unicode/utf8.first", laid_unicode_utf8_first)], narrowed := true }
def FnResolveNameUptoSaid : Prop := fnResolveNameUptoRow.holds Tryd.pinned (OpenSpec.upto fnResolveNameSpec)

/-- 'laws.FnPartsOf', WHERE WHAT IT READS IS OF BULK AT MOST 1048576: true; the input reads as it did. -/
def fnPartsOfUptoRow : OpenClaim := { program := "ytajbamcfkgkhpaadoor", sum := "f814ab8b0a53efb9ab6848f737a1a2a07709e5706f017bc0273ec11a2af783f8", func := "loop.example/importhouse/laws.FnPartsOf", spec := "fnPartsOf", inPlace := ["internal/bytealg.CountString", "internal/bytealg.IndexByteString", "internal/bytealg.IndexString", "internal/abi.NoEscape", "internal/bytealg.MakeNoZero"], named := ["unicode/utf8.first", "unicode/utf8.acceptRanges", "internal/bytealg.MaxLen"], apart := false, laid := [("unicode/utf8.acceptRanges", laid_unicode_utf8_acceptRanges), ("unicode/utf8.first", laid_unicode_utf8_first)], narrowed := true }
def FnPartsOfUptoSaid : Prop := fnPartsOfUptoRow.holds Tryd.pinned (OpenSpec.upto fnPartsOfSpec)

/-- 'laws.FnRelativeName', WHERE WHAT IT READS IS OF BULK AT MOST 1048576: true; the input reads as it did. -/
def fnRelativeNameUptoRow : OpenClaim := { program := "ytajbamcfkgkhpaadoor", sum := "f814ab8b0a53efb9ab6848f737a1a2a07709e5706f017bc0273ec11a2af783f8", func := "loop.example/importhouse/laws.FnRelativeName", spec := "fnRelativeName", inPlace := ["internal/bytealg.CountString", "internal/bytealg.IndexByteString", "internal/bytealg.IndexString"], named := ["unicode/utf8.first", "unicode/utf8.acceptRanges", "internal/bytealg.MaxLen"], apart := false, laid := [("unicode/utf8.acceptRanges", laid_unicode_utf8_acceptRanges), ("unicode/utf8.first", laid_unicode_utf8_first)], narrowed := true }
def FnRelativeNameUptoSaid : Prop := fnRelativeNameUptoRow.holds Tryd.pinned (OpenSpec.upto fnRelativeNameSpec)

/-- 'laws.FnSizeOf', WHERE WHAT IT READS IS OF BULK AT MOST 1048576: true; the input reads as it did. -/
def fnSizeOfUptoRow : OpenClaim := { program := "ytajbamcfkgkhpaadoor", sum := "f814ab8b0a53efb9ab6848f737a1a2a07709e5706f017bc0273ec11a2af783f8", func := "loop.example/importhouse/laws.FnSizeOf", spec := "fnSizeOf", inPlace := ["internal/bytealg.CountString", "internal/bytealg.IndexByteString", "internal/bytealg.IndexString"], named := ["unicode/utf8.first", "unicode/utf8.acceptRanges", "internal/bytealg.MaxLen"], apart := false, laid := [("unicode/utf8.acceptRanges", laid_unicode_utf8_acceptRanges), ("unicode/utf8.first", laid_unicode_utf8_first)], narrowed := true }
def FnSizeOfUptoSaid : Prop := fnSizeOfUptoRow.holds Tryd.pinned (OpenSpec.upto fnSizeOfSpec)

/-- 'laws.FnValidBody', WHERE WHAT IT READS IS OF BULK AT MOST 1048576: true; the input reads as it did. -/
def fnValidBodyUptoRow : OpenClaim := { program := "ytajbamcfkgkhpaadoor", sum := "f814ab8b0a53efb9ab6848f737a1a2a07709e5706f017bc0273ec11a2af783f8", func := "loop.example/importhouse/laws.FnValidBody", spec := "fnValidBody", inPlace := ["internal/bytealg.CountString", "internal/bytealg.IndexByteString", "internal/bytealg.IndexString"], unfollowed := true, recurses := true, named := ["unicode/utf8.first", "unicode/utf8.acceptRanges", "internal/bytealg.MaxLen"], apart := false, laid := [("unicode/utf8.acceptRanges", laid_unicode_utf8_acceptRanges), ("unicode/utf8.first", laid_unicode_utf8_first)], narrowed := true }
def FnValidBodyUptoSaid : Prop := fnValidBodyUptoRow.holds Tryd.pinned (OpenSpec.upto fnValidBodySpec)

/-- 'laws.FnExactHashOf', WHERE WHAT IT READS IS OF BULK AT MOST 1048576: true; the input reads as it did. -/
def fnExactHashOfUptoRow : OpenClaim := { program := "ytajbamcfkgkhpaadoor", sum := "f814ab8b0a53efb9ab6848f737a1a2a07709e5706f017bc0273ec11a2af783f8", func := "loop.example/importhouse/laws.FnExactHashOf", spec := "fnExactHashOf", inPlace := ["internal/bytealg.CountString", "internal/bytealg.IndexByteString", "internal/bytealg.IndexString"], unfollowed := true, recurses := true, named := ["unicode/utf8.first", "unicode/utf8.acceptRanges", "internal/bytealg.MaxLen"], apart := false, laid := [("unicode/utf8.acceptRanges", laid_unicode_utf8_acceptRanges), ("unicode/utf8.first", laid_unicode_utf8_first)], narrowed := true }
def FnExactHashOfUptoSaid : Prop := fnExactHashOfUptoRow.holds Tryd.pinned (OpenSpec.upto fnExactHashOfSpec)

/-- 'laws.FnExactValidFinder', WHERE WHAT IT READS IS OF BULK AT MOST 1048576: true; the input reads as it did. -/
def fnExactValidFinderUptoRow : OpenClaim := { program := "ytajbamcfkgkhpaadoor", sum := "f814ab8b0a53efb9ab6848f737a1a2a07709e5706f017bc0273ec11a2af783f8", func := "loop.example/importhouse/laws.FnExactValidFinder", spec := "fnExactValidFinder", inPlace := ["internal/bytealg.CountString", "internal/bytealg.IndexByteString", "internal/bytealg.IndexString"], unfollowed := true, recurses := true, named := ["unicode/utf8.first", "unicode/utf8.acceptRanges", "internal/bytealg.MaxLen"], apart := false, laid := [("unicode/utf8.acceptRanges", laid_unicode_utf8_acceptRanges), ("unicode/utf8.first", laid_unicode_utf8_first)], narrowed := true }
def FnExactValidFinderUptoSaid : Prop := fnExactValidFinderUptoRow.holds Tryd.pinned (OpenSpec.upto fnExactValidFinderSpec)

/-- 'laws.FnIsUnder', WHERE WHAT IT READS IS OF BULK AT MOST 1048576: true; the input reads as it did. -/
def fnIsUnderUptoRow : OpenClaim := { program := "ytajbamcfkgkhpaadoor", sum := "f814ab8b0a53efb9ab6848f737a1a2a07709e5706f017bc0273ec11a2af783f8", func := "loop.example/importhouse/laws.FnIsUnder", spec := "fnIsUnder", inPlace := ["internal/bytealg.CountString", "internal/bytealg.IndexByteString", "internal/bytealg.IndexString", "internal/abi.NoEscape", "internal/bytealg.MakeNoZero"], named := ["unicode/utf8.first", "unicode/utf8.acceptRanges", "internal/bytealg.MaxLen"], apart := false, laid := [("unicode/utf8.acceptRanges", laid_unicode_utf8_acceptRanges), ("unicode/utf8.first", laid_unicode_utf8_first)], narrowed := true }
def FnIsUnderUptoSaid : Prop := fnIsUnderUptoRow.holds Tryd.pinned (OpenSpec.upto fnIsUnderSpec)

/-- 'laws.FnJoinParts', WHERE WHAT IT READS IS OF BULK AT MOST 1048576: true; the input reads as it did. -/
def fnJoinPartsUptoRow : OpenClaim := { program := "ytajbamcfkgkhpaadoor", sum := "f814ab8b0a53efb9ab6848f737a1a2a07709e5706f017bc0273ec11a2af783f8", func := "loop.example/importhouse/laws.FnJoinParts", spec := "fnJoinParts", inPlace := ["internal/abi.NoEscape", "internal/bytealg.MakeNoZero", "internal/bytealg.CountString", "internal/bytealg.IndexByteString", "internal/bytealg.IndexString"], named := ["unicode/utf8.first", "unicode/utf8.acceptRanges", "internal/bytealg.MaxLen"], apart := false, laid := [("unicode/utf8.acceptRanges", laid_unicode_utf8_acceptRanges), ("unicode/utf8.first", laid_unicode_utf8_first)], narrowed := true }
def FnJoinPartsUptoSaid : Prop := fnJoinPartsUptoRow.holds Tryd.pinned (OpenSpec.upto fnJoinPartsSpec)

/-- 'laws.FnHashOf', WHERE WHAT IT READS IS OF BULK AT MOST 1048576: true; the input reads as it did. -/
def fnHashOfUptoRow : OpenClaim := { program := "ytajbamcfkgkhpaadoor", sum := "f814ab8b0a53efb9ab6848f737a1a2a07709e5706f017bc0273ec11a2af783f8", func := "loop.example/importhouse/laws.FnHashOf", spec := "fnHashOf", inPlace := ["internal/bytealg.CountString", "internal/bytealg.IndexByteString", "internal/bytealg.IndexString"], unfollowed := true, recurses := true, named := ["unicode/utf8.first", "unicode/utf8.acceptRanges", "internal/bytealg.MaxLen"], apart := false, laid := [("unicode/utf8.acceptRanges", laid_unicode_utf8_acceptRanges), ("unicode/utf8.first", laid_unicode_utf8_first)], narrowed := true }
def FnHashOfUptoSaid : Prop := fnHashOfUptoRow.holds Tryd.pinned (OpenSpec.upto fnHashOfSpec)

end Rows
end Go.Proofs.YtajbamcfkgkhpaaDoor
