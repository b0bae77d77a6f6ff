/-
  NARROWER THAN 'FOR EVERY INPUT', by the rows' own cells (each row's printed sentence says how): FnCommonPackage: laid · FnNamesAbove: laid · FnValidCommands: laid · FnExactModuleOf: laid · FnExactForgetAll: laid · FnValidActs: laid · FnModuleOf: laid · FnValidTree: laid · FnExactValidTree: laid · FnExactValidStore: laid · FnExactValidActs: laid · FnValidStore: laid.
  DERIVED. THE GIVEN ROWS OF THIS SEAT. 12 by the template 'for every input the law returns true; each argument reads behind the call as it read before'; 0 by the template 'total and deterministic' (their statements: YtipklobcfmcebaaDoorTotals.lean).
  GIVEN WITH THE SEED: the statements are not yours to turn. If you find one false, say at which input.
  Laid BY PROGRAM, IN A SANDBOX (cutbox-rows.mjs): the forced cells as the released guide's own fill.sh prints them over the translation a4f5205a7305f1c6… (all of the seat's roots in one cut). By AI agents, Wed Nov 11 2026. No macro, syntax, notation, axiom, sorry.
-/
import Derived.Test.YtipklobcfmcebaaDoorChecked
import GoSem.PinnedTables
import GoSem.Claim
import GoSem.ClaimJoined
import GoSem.ClaimMapViews
import Derived.JoinedTies
import Derived.KernelRfl
namespace Go.Proofs.YtipklobcfmcebaaDoor
/- THE CELL 'sum', in the pinned program and in every row, IS THE sha256 OF THE DUMP (.gsa) THAT YtipklobcfmcebaaDoorProg.lean LOADS. Nothing in Lean hashes anything: it is a label: what it is worth is what the hold of that sum in a sandbox is worth. -/
noncomputable def Tryd.pinned : Pinned := { name := "ytipklobcfmcebaadoor", sum := "a4f5205a7305f1c6816cde7cdc9cba4a446d451124c627699272be5728570a72", checked := Tryd.checked }
namespace Rows
def none {H : Type} : Left H := { results := [], args := [] }

/- WHAT THE LISTED PACKAGE-LEVEL VARIABLES READ AS WHEN THE CALL BEGINS. Each datum BY PROGRAM (the guide's laid-datum.mjs) off the statement by which the dump's own 'gosem.cut.vars' lays the variable. In a bare row this is a premise. The card (YtipklobcfmcebaaDoorCards.lean) ties it to the program's text. -/
def laid_unicode_utf8_acceptRanges {H : Type} : DataW H := .agg [.agg [.lit (.int .u8 128), .lit (.int .u8 191)], .agg [.lit (.int .u8 160), .lit (.int .u8 191)], .agg [.lit (.int .u8 128), .lit (.int .u8 159)], .agg [.lit (.int .u8 144), .lit (.int .u8 191)], .agg [.lit (.int .u8 128), .lit (.int .u8 143)], .agg [.lit (.int .u8 0), .lit (.int .u8 0)], .agg [.lit (.int .u8 0), .lit (.int .u8 0)], .agg [.lit (.int .u8 0), .lit (.int .u8 0)], .agg [.lit (.int .u8 0), .lit (.int .u8 0)], .agg [.lit (.int .u8 0), .lit (.int .u8 0)], .agg [.lit (.int .u8 0), .lit (.int .u8 0)], .agg [.lit (.int .u8 0), .lit (.int .u8 0)], .agg [.lit (.int .u8 0), .lit (.int .u8 0)], .agg [.lit (.int .u8 0), .lit (.int .u8 0)], .agg [.lit (.int .u8 0), .lit (.int .u8 0)], .agg [.lit (.int .u8 0), .lit (.int .u8 0)]]
/-- One of Go's own tables, pinned by name: the form's constant. -/
def laid_unicode_utf8_first : DataW Unit := Go.Pinned.utf8First

/-- 'laws.FnCommonPackage': WHATEVER THE INPUT: true; the input reads as it did. -/
def fnCommonPackageSpec : ChangeSpec := { name := "fnCommonPackage", fn := fun _ => fun
  | [d] => { results := [.lit (.bool true)], args := [d] }
  | _ => none }
def fnCommonPackageRow : OpenClaim := { program := "ytipklobcfmcebaadoor", sum := "a4f5205a7305f1c6816cde7cdc9cba4a446d451124c627699272be5728570a72", func := "loop.example/importhouse/laws.FnCommonPackage", spec := "fnCommonPackage", inPlace := ["internal/bytealg.CountString", "internal/bytealg.IndexByteString", "internal/bytealg.IndexString", "internal/abi.NoEscape", "internal/bytealg.MakeNoZero"], named := ["unicode/utf8.first", "unicode/utf8.acceptRanges", "internal/bytealg.MaxLen"], apart := false, laid := [("unicode/utf8.acceptRanges", laid_unicode_utf8_acceptRanges), ("unicode/utf8.first", laid_unicode_utf8_first)] }
def FnCommonPackageSaid : Prop := fnCommonPackageRow.holds Tryd.pinned (OpenSpec.ofChange fnCommonPackageSpec)

/-- ITS FALSE NEIGHBOUR: 'it returns false'. Refute it at one input. -/
def fnCommonPackageWrong : ChangeSpec := { name := "fnCommonPackage", fn := fun _ => fun
  | [d] => { results := [.lit (.bool false)], args := [d] }
  | _ => none }
def FnCommonPackageWrongFalsely : Prop := fnCommonPackageRow.holds Tryd.pinned (OpenSpec.ofChange fnCommonPackageWrong)

/-- 'laws.FnNamesAbove': WHATEVER THE INPUT: true; the input reads as it did. -/
def fnNamesAboveSpec : ChangeSpec := { name := "fnNamesAbove", fn := fun _ => fun
  | [d] => { results := [.lit (.bool true)], args := [d] }
  | _ => none }
def fnNamesAboveRow : OpenClaim := { program := "ytipklobcfmcebaadoor", sum := "a4f5205a7305f1c6816cde7cdc9cba4a446d451124c627699272be5728570a72", func := "loop.example/importhouse/laws.FnNamesAbove", spec := "fnNamesAbove", inPlace := ["internal/bytealg.CountString", "internal/bytealg.IndexByteString", "internal/bytealg.IndexString", "internal/abi.NoEscape", "internal/bytealg.MakeNoZero"], named := ["unicode/utf8.first", "unicode/utf8.acceptRanges", "internal/bytealg.MaxLen"], apart := false, laid := [("unicode/utf8.acceptRanges", laid_unicode_utf8_acceptRanges), ("unicode/utf8.first", laid_unicode_utf8_first)] }
def FnNamesAboveSaid : Prop := fnNamesAboveRow.holds Tryd.pinned (OpenSpec.ofChange fnNamesAboveSpec)

/-- ITS FALSE NEIGHBOUR: 'it returns false'. Refute it at one input. -/
def fnNamesAboveWrong : ChangeSpec := { name := "fnNamesAbove", fn := fun _ => fun
  | [d] => { results := [.lit (.bool false)], args := [d] }
  | _ => none }
def FnNamesAboveWrongFalsely : Prop := fnNamesAboveRow.holds Tryd.pinned (OpenSpec.ofChange fnNamesAboveWrong)

/-- 'laws.FnValidCommands': WHATEVER THE INPUT: true; the input reads as it did. -/
def fnValidCommandsSpec : ChangeSpec := { name := "fnValidCommands", fn := fun _ => fun
  | [d] => { results := [.lit (.bool true)], args := [d] }
  | _ => none }
def fnValidCommandsRow : OpenClaim := { program := "ytipklobcfmcebaadoor", sum := "a4f5205a7305f1c6816cde7cdc9cba4a446d451124c627699272be5728570a72", func := "loop.example/importhouse/laws.FnValidCommands", spec := "fnValidCommands", inPlace := ["internal/bytealg.CountString", "internal/bytealg.IndexByteString", "internal/bytealg.IndexString"], named := ["unicode/utf8.first", "unicode/utf8.acceptRanges", "internal/bytealg.MaxLen"], apart := false, laid := [("unicode/utf8.acceptRanges", laid_unicode_utf8_acceptRanges), ("unicode/utf8.first", laid_unicode_utf8_first)] }
def FnValidCommandsSaid : Prop := fnValidCommandsRow.holds Tryd.pinned (OpenSpec.ofChange fnValidCommandsSpec)

/-- ITS FALSE NEIGHBOUR: 'it returns false'. Refute it at one input. -/
def fnValidCommandsWrong : ChangeSpec := { name := "fnValidCommands", fn := fun _ => fun
  | [d] => { results := [.lit (.bool false)], args := [d] }
  | _ => none }
def FnValidCommandsWrongFalsely : Prop := fnValidCommandsRow.holds Tryd.pinned (OpenSpec.ofChange fnValidCommandsWrong)

/-- 'laws.FnExactModuleOf': WHATEVER THE INPUT: true; the input reads as it did. -/
def fnExactModuleOfSpec : ChangeSpec := { name := "fnExactModuleOf", fn := fun _ => fun
  | [d] => { results := [.lit (.bool true)], args := [d] }
  | _ => none }
def fnExactModuleOfRow : OpenClaim := { program := "ytipklobcfmcebaadoor", sum := "a4f5205a7305f1c6816cde7cdc9cba4a446d451124c627699272be5728570a72", func := "loop.example/importhouse/laws.FnExactModuleOf", spec := "fnExactModuleOf", inPlace := ["internal/bytealg.CountString", "internal/bytealg.IndexByteString", "internal/bytealg.IndexString"], named := ["unicode/utf8.first", "unicode/utf8.acceptRanges", "internal/bytealg.MaxLen"], apart := false, laid := [("unicode/utf8.acceptRanges", laid_unicode_utf8_acceptRanges), ("unicode/utf8.first", laid_unicode_utf8_first)] }
def FnExactModuleOfSaid : Prop := fnExactModuleOfRow.holds Tryd.pinned (OpenSpec.ofChange fnExactModuleOfSpec)

/-- ITS FALSE NEIGHBOUR: 'it returns false'. Refute it at one input. -/
def fnExactModuleOfWrong : ChangeSpec := { name := "fnExactModuleOf", fn := fun _ => fun
  | [d] => { results := [.lit (.bool false)], args := [d] }
  | _ => none }
def FnExactModuleOfWrongFalsely : Prop := fnExactModuleOfRow.holds Tryd.pinned (OpenSpec.ofChange fnExactModuleOfWrong)

/-- 'laws.FnExactForgetAll': WHATEVER THE INPUT: true; the input reads as it did. -/
def fnExactForgetAllSpec : ChangeSpec := { name := "fnExactForgetAll", fn := fun _ => fun
  | [d] => { results := [.lit (.bool true)], args := [d] }
  | _ => none }
def fnExactForgetAllRow : OpenClaim := { program := "ytipklobcfmcebaadoor", sum := "a4f5205a7305f1c6816cde7cdc9cba4a446d451124c627699272be5728570a72", func := "loop.example/importhouse/laws.FnExactForgetAll", spec := "fnExactForgetAll", inPlace := ["internal/bytealg.CountString", "internal/bytealg.IndexByteString", "internal/bytealg.IndexString"], unfollowed := true, recurses := true, named := ["unicode/utf8.first", "unicode/utf8.acceptRanges", "internal/bytealg.MaxLen"], apart := false, laid := [("unicode/utf8.acceptRanges", laid_unicode_utf8_acceptRanges), ("unicode/utf8.first", laid_unicode_utf8_first)] }
def FnExactForgetAllSaid : Prop := fnExactForgetAllRow.holds Tryd.pinned (OpenSpec.ofChange fnExactForgetAllSpec)

/-- ITS FALSE NEIGHBOUR: 'it returns false'. Refute it at one input. -/
def fnExactForgetAllWrong : ChangeSpec := { name := "fnExactForgetAll", fn := fun _ => fun
  | [d] => { results := [.lit (.bool false)], args := [d] }
  | _ => none }
def FnExactForgetAllWrongFalsely : Prop := fnExactForgetAllRow.holds Tryd.pinned (OpenSpec.ofChange fnExactForgetAllWrong)

/-- 'laws.FnValidActs': WHATEVER THE INPUT: true; the input reads as it did. -/
def fnValidActsSpec : ChangeSpec := { name := "fnValidActs", fn := fun _ => fun
  | [d] => { results := [.lit (.bool true)], args := [d] }
  | _ => none }
def fnValidActsRow : OpenClaim := { program := "ytipklobcfmcebaadoor", sum := "a4f5205a7305f1c6816cde7cdc9cba4a446d451124c627699272be5728570a72", func := "loop.example/importhouse/laws.FnValidActs", spec := "fnValidActs", inPlace := ["internal/bytealg.CountString", "internal/bytealg.IndexByteString", "internal/bytealg.IndexString"], named := ["unicode/utf8.first", "unicode/utf8.acceptRanges", "internal/bytealg.MaxLen"], apart := false, laid := [("unicode/utf8.acceptRanges", laid_unicode_utf8_acceptRanges), ("unicode/utf8.first", laid_unicode_utf8_first)] }
def FnValidActsSaid : Prop := fnValidActsRow.holds Tryd.pinned (OpenSpec.ofChange fnValidActsSpec)

/-- ITS FALSE NEIGHBOUR: 'it returns false'. Refute it at one input. -/
def fnValidActsWrong : ChangeSpec := { name := "fnValidActs", fn := fun _ => fun
  | [d] => { results := [.lit (.bool false)], args := [d] }
  | _ => none }
def FnValidActsWrongFalsely : Prop := fnValidActsRow.holds Tryd.pinned (OpenSpec.ofChange fnValidActsWrong)

/-- 'laws.FnModuleOf': WHATEVER THE INPUT: true; the input reads as it did. -/
def fnModuleOfSpec : ChangeSpec := { name := "fnModuleOf", fn := fun _ => fun
  | [d] => { results := [.lit (.bool true)], args := [d] }
  | _ => none }
def fnModuleOfRow : OpenClaim := { program := "ytipklobcfmcebaadoor", sum := "a4f5205a7305f1c6816cde7cdc9cba4a446d451124c627699272be5728570a72", func := "loop.example/importhouse/laws.FnModuleOf", spec := "fnModuleOf", inPlace := ["internal/bytealg.CountString", "internal/bytealg.IndexByteString", "internal/bytealg.IndexString"], named := ["unicode/utf8.first", "unicode/utf8.acceptRanges", "internal/bytealg.MaxLen"], apart := false, laid := [("unicode/utf8.acceptRanges", laid_unicode_utf8_acceptRanges), ("unicode/utf8.first", laid_unicode_utf8_first)] }
def FnModuleOfSaid : Prop := fnModuleOfRow.holds Tryd.pinned (OpenSpec.ofChange fnModuleOfSpec)

/-- ITS FALSE NEIGHBOUR: 'it returns false'. Refute it at one input. -/
def fnModuleOfWrong : ChangeSpec := { name := "fnModuleOf", fn := fun _ => fun
  | [d] => { results := [.lit (.bool false)], args := [d] }
  | _ => none }
def FnModuleOfWrongFalsely : Prop := fnModuleOfRow.holds Tryd.pinned (OpenSpec.ofChange fnModuleOfWrong)

/-- 'laws.FnValidTree': WHATEVER THE INPUT: true; the input reads as it did. -/
def fnValidTreeSpec : ChangeSpec := { name := "fnValidTree", fn := fun _ => fun
  | [d] => { results := [.lit (.bool true)], args := [d] }
  | _ => none }
def fnValidTreeRow : OpenClaim := { program := "ytipklobcfmcebaadoor", sum := "a4f5205a7305f1c6816cde7cdc9cba4a446d451124c627699272be5728570a72", func := "loop.example/importhouse/laws.FnValidTree", spec := "fnValidTree", inPlace := ["internal/bytealg.CountString", "internal/bytealg.IndexByteString", "internal/bytealg.IndexString"], named := ["unicode/utf8.first", "unicode/utf8.acceptRanges", "internal/bytealg.MaxLen"], apart := false, laid := [("unicode/utf8.acceptRanges", laid_unicode_utf8_acceptRanges), ("unicode/utf8.first", laid_unicode_utf8_first)] }
def FnValidTreeSaid : Prop := fnValidTreeRow.holds Tryd.pinned (OpenSpec.ofChange fnValidTreeSpec)

/-- ITS FALSE NEIGHBOUR: 'it returns false'. Refute it at one input. -/
def fnValidTreeWrong : ChangeSpec := { name := "fnValidTree", fn := fun _ => fun
  | [d] => { results := [.lit (.bool false)], args := [d] }
  | _ => none }
def FnValidTreeWrongFalsely : Prop := fnValidTreeRow.holds Tryd.pinned (OpenSpec.ofChange fnValidTreeWrong)

/-- 'laws.FnExactValidTree': WHATEVER THE INPUT: true; the input reads as it did. -/
def fnExactValidTreeSpec : ChangeSpec := { name := "fnExactValidTree", fn := fun _ => fun
  | [d] => { results := [.lit (.bool true)], args := [d] }
  | _ => none }
def fnExactValidTreeRow : OpenClaim := { program := "ytipklobcfmcebaadoor", sum := "a4f5205a7305f1c6816cde7cdc9cba4a446d451124c627699272be5728570a72", func := "loop.example/importhouse/laws.FnExactValidTree", spec := "fnExactValidTree", inPlace := ["internal/bytealg.CountString", "internal/bytealg.IndexByteString", "internal/bytealg.IndexString"], named := ["unicode/utf8.first", "unicode/utf8.acceptRanges", "internal/bytealg.MaxLen"], apart := false, laid := [("unicode/utf8.acceptRanges", laid_unicode_utf8_acceptRanges), ("unicode/utf8.first", laid_unicode_utf8_first)] }
def FnExactValidTreeSaid : Prop := fnExactValidTreeRow.holds Tryd.pinned (OpenSpec.ofChange fnExactValidTreeSpec)

/-- ITS FALSE NEIGHBOUR: 'it returns false'. Refute it at one input. -/
def fnExactValidTreeWrong : ChangeSpec := { name := "fnExactValidTree", fn := fun _ => fun
  | [d] => { results := [.lit (.bool false)], args := [d] }
  | _ => none }
def FnExactValidTreeWrongFalsely : Prop := fnExactValidTreeRow.holds Tryd.pinned (OpenSpec.ofChange fnExactValidTreeWrong)

/-- 'laws.FnExactValidStore': WHATEVER THE INPUT: true; the input reads as it did. -/
def fnExactValidStoreSpec : ChangeSpec := { name := "fnExactValidStore", fn := fun _ => fun
  | [d] => { results := [.lit (.bool true)], args := [d] }
  | _ => none }
def fnExactValidStoreRow : OpenClaim := { program := "ytipklobcfmcebaadoor", sum := "a4f5205a7305f1c6816cde7cdc9cba4a446d451124c627699272be5728570a72", func := "loop.example/importhouse/laws.FnExactValidStore", spec := "fnExactValidStore", inPlace := ["internal/bytealg.CountString", "internal/bytealg.IndexByteString", "internal/bytealg.IndexString"], unfollowed := true, recurses := true, named := ["unicode/utf8.first", "unicode/utf8.acceptRanges", "internal/bytealg.MaxLen"], apart := false, laid := [("unicode/utf8.acceptRanges", laid_unicode_utf8_acceptRanges), ("unicode/utf8.first", laid_unicode_utf8_first)] }
def FnExactValidStoreSaid : Prop := fnExactValidStoreRow.holds Tryd.pinned (OpenSpec.ofChange fnExactValidStoreSpec)

/-- ITS FALSE NEIGHBOUR: 'it returns false'. Refute it at one input. -/
def fnExactValidStoreWrong : ChangeSpec := { name := "fnExactValidStore", fn := fun _ => fun
  | [d] => { results := [.lit (.bool false)], args := [d] }
  | _ => none }
def FnExactValidStoreWrongFalsely : Prop := fnExactValidStoreRow.holds Tryd.pinned (OpenSpec.ofChange fnExactValidStoreWrong)

/-- 'laws.FnExactValidActs': WHATEVER THE INPUT: true; the input reads as it did. -/
def fnExactValidActsSpec : ChangeSpec := { name := "fnExactValidActs", fn := fun _ => fun
  | [d] => { results := [.lit (.bool true)], args := [d] }
  | _ => none }
def fnExactValidActsRow : OpenClaim := { program := "ytipklobcfmcebaadoor", sum := "a4f5205a7305f1c6816cde7cdc9cba4a446d451124c627699272be5728570a72", func := "loop.example/importhouse/laws.FnExactValidActs", spec := "fnExactValidActs", inPlace := ["internal/bytealg.CountString", "internal/bytealg.IndexByteString", "internal/bytealg.IndexString"], named := ["unicode/utf8.first", "unicode/utf8.acceptRanges", "internal/bytealg.MaxLen"], apart := false, laid := [("unicode/utf8.acceptRanges", laid_unicode_utf8_acceptRanges), ("unicode/utf8.first", laid_unicode_utf8_first)] }
def FnExactValidActsSaid : Prop := fnExactValidActsRow.holds Tryd.pinned (OpenSpec.ofChange fnExactValidActsSpec)

/-- ITS FALSE NEIGHBOUR: 'it returns false'. Refute it at one input. -/
def fnExactValidActsWrong : ChangeSpec := { name := "fnExactValidActs", fn := fun _ => fun
  | [d] => { results := [.lit (.bool false)], args := [d] }
  | _ => none }
def FnExactValidActsWrongFalsely : Prop := fnExactValidActsRow.holds Tryd.pinned (OpenSpec.ofChange fnExactValidActsWrong)

/-- 'laws.FnValidStore': WHATEVER THE INPUT: true; the input reads as it did. -/
def fnValidStoreSpec : ChangeSpec := { name := "fnValidStore", fn := fun _ => fun
  | [d] => { results := [.lit (.bool true)], args := [d] }
  | _ => none }
def fnValidStoreRow : OpenClaim := { program := "ytipklobcfmcebaadoor", sum := "a4f5205a7305f1c6816cde7cdc9cba4a446d451124c627699272be5728570a72", func := "loop.example/importhouse/laws.FnValidStore", spec := "fnValidStore", inPlace := ["internal/bytealg.CountString", "internal/bytealg.IndexByteString", "internal/bytealg.IndexString"], unfollowed := true, recurses := true, named := ["unicode/utf8.first", "unicode/utf8.acceptRanges", "internal/bytealg.MaxLen"], apart := false, laid := [("unicode/utf8.acceptRanges", laid_unicode_utf8_acceptRanges), ("unicode/utf8.first", laid_unicode_utf8_first)] }
def FnValidStoreSaid : Prop := fnValidStoreRow.holds Tryd.pinned (OpenSpec.ofChange fnValidStoreSpec)

/-- ITS FALSE NEIGHBOUR: 'it returns false'. Refute it at one input. -/
def fnValidStoreWrong : ChangeSpec := { name := "fnValidStore", fn := fun _ => fun
  | [d] => { results := [.lit (.bool false)], args := [d] }
  | _ => none }
def FnValidStoreWrongFalsely : Prop := fnValidStoreRow.holds Tryd.pinned (OpenSpec.ofChange fnValidStoreWrong)

/- THE SECOND FORM. 'bulk': how many values and letters a reading holds, each counted each time it is reached (what is shared counts as often as it is met; a slice's spare places count too). A statement '..UptoSaid' is the law's where the arguments, and the package variables that the reading takes, are together of bulk at most 1048576: NARROWER than '..Said'. Prove '..Said' where nothing that the law and all that it calls make is longer than what came in: it says more and counts as full. Else prove '..UptoSaid'. A law counts once. -/
mutual
def uptoBulk {H : Type} : DataW H → Nat
  | .lit (.string bytes) => bytes.length + 1
  | .lit _ => 1
  | .nil => 1
  | .ptr d => uptoBulk d + 1
  | .slice elems spare => uptoBulkAll elems + uptoBulkAll spare + 1
  | .agg parts => uptoBulkAll parts + 1
  | .iface _ d => uptoBulk d + 1
  | .map entries => uptoBulkEntries entries + 1
  | .held _ => 1
def uptoBulkAll {H : Type} : List (DataW H) → Nat
  | [] => 0
  | d :: r => uptoBulk d + uptoBulkAll r
def uptoBulkEntries {H : Type} : List (Lit × DataW H) → Nat
  | [] => 0
  | x :: r => uptoBulkEntry x + uptoBulkEntries r
def uptoBulkEntry {H : Type} : Lit × DataW H → Nat
  | (.string bytes, d) => bytes.length + uptoBulk d + 1
  | (_, d) => uptoBulk d + 1
 end
def uptoSmall : (H : Type) → List (DataW H) → Bool := fun _ ds => decide (uptoBulkAll ds ≤ 1048576)
def OpenSpec.upto (s : _root_.Go.ChangeSpec) : _root_.Go.OpenSpec := { _root_.Go.OpenSpec.ofChange s with cond := some uptoSmall }

/-- 'laws.FnCommonPackage', WHERE WHAT IT READS IS OF BULK AT MOST 1048576: true; the input reads as it did. -/
def fnCommonPackageUptoRow : OpenClaim := { program := "ytipklobcfmcebaadoor", sum := "a4f5205a7305f1c6816cde7cdc9cba4a446d451124c627699272be5728570a72", func := "loop.example/importhouse/laws.FnCommonPackage", spec := "fnCommonPackage", inPlace := ["internal/bytealg.CountString", "internal/bytealg.IndexByteString", "internal/bytealg.IndexString", "internal/abi.NoEscape", "internal/bytealg.MakeNoZero"], named := ["unicode/utf8.first", "unicode/utf8.acceptRanges", "internal/bytealg.MaxLen"], apart := false, laid := [("unicode/utf8.acceptRanges", laid_unicode_utf8_acceptRanges), ("unicode/utf8.first", laid_unicode_utf8_first)], narrowed := true }
def FnCommonPackageUptoSaid : Prop := fnCommonPackageUptoRow.holds Tryd.pinned (OpenSpec.upto fnCommonPackageSpec)

/-- 'laws.FnNamesAbove', WHERE WHAT IT READS IS OF BULK AT MOST 1048576: true; the input reads as it did. -/
def fnNamesAboveUptoRow : OpenClaim := { program := "ytipklobcfmcebaadoor", sum := "a4f5205a7305f1c6816cde7cdc9cba4a446d451124c627699272be5728570a72", func := "loop.example/importhouse/laws.FnNamesAbove", spec := "fnNamesAbove", inPlace := ["internal/bytealg.CountString", "internal/bytealg.IndexByteString", "internal/bytealg.IndexString", "internal/abi.NoEscape", "internal/bytealg.MakeNoZero"], named := ["unicode/utf8.first", "unicode/utf8.acceptRanges", "internal/bytealg.MaxLen"], apart := false, laid := [("unicode/utf8.acceptRanges", laid_unicode_utf8_acceptRanges), ("unicode/utf8.first", laid_unicode_utf8_first)], narrowed := true }
def FnNamesAboveUptoSaid : Prop := fnNamesAboveUptoRow.holds Tryd.pinned (OpenSpec.upto fnNamesAboveSpec)

/-- 'laws.FnValidCommands', WHERE WHAT IT READS IS OF BULK AT MOST 1048576: true; the input reads as it did. -/
def fnValidCommandsUptoRow : OpenClaim := { program := "ytipklobcfmcebaadoor", sum := "a4f5205a7305f1c6816cde7cdc9cba4a446d451124c627699272be5728570a72", func := "loop.example/importhouse/laws.FnValidCommands", spec := "fnValidCommands", inPlace := ["internal/bytealg.CountString", "internal/bytealg.IndexByteString", "internal/bytealg.IndexString"], named := ["unicode/utf8.first", "unicode/utf8.acceptRanges", "internal/bytealg.MaxLen"], apart := false, laid := [("unicode/utf8.acceptRanges", laid_unicode_utf8_acceptRanges), ("unicode/utf8.first", laid_unicode_utf8_first)], narrowed := true }
def FnValidCommandsUptoSaid : Prop := fnValidCommandsUptoRow.holds Tryd.pinned (OpenSpec.upto fnValidCommandsSpec)

/-- 'laws.FnExactModuleOf', WHERE WHAT IT READS IS OF BULK AT MOST 1048576: true; the input reads as it did. -/
def fnExactModuleOfUptoRow : OpenClaim := { program := "ytipklobcfmcebaadoor", sum := "a4f5205a7305f1c6816cde7cdc9cba4a446d451124c627699272be5728570a72", func := "loop.example/importhouse/laws.FnExactModuleOf", spec := "fnExactModuleOf", inPlace := ["internal/bytealg.CountString", "internal/bytealg.IndexByteString", "internal/bytealg.IndexString"], named := ["unicode/utf8.first", "unicode/utf8.acceptRanges", "internal/bytealg.MaxLen"], apart := false, laid := [("unicode/utf8.acceptRanges", laid_unicode_utf8_acceptRanges), ("unicode/utf8.first", laid_unicode_utf8_first)], narrowed := true }
def FnExactModuleOfUptoSaid : Prop := fnExactModuleOfUptoRow.holds Tryd.pinned (OpenSpec.upto fnExactModuleOfSpec)

/-- 'laws.FnExactForgetAll', WHERE WHAT IT READS IS OF BULK AT MOST 1048576: true; the input reads as it did. -/
def fnExactForgetAllUptoRow : OpenClaim := { program := "ytipklobcfmcebaadoor", sum := "a4f5205a7305f1c6816cde7cdc9cba4a446d451124c627699272be5728570a72", func := "loop.example/importhouse/laws.FnExactForgetAll", spec := "fnExactForgetAll", inPlace := ["internal/bytealg.CountString", "internal/bytealg.IndexByteString", "internal/bytealg.IndexString"], unfollowed := true, recurses := true, named := ["unicode/utf8.first", "unicode/utf8.acceptRanges", "internal/bytealg.MaxLen"], apart := false, laid := [("unicode/utf8.acceptRanges", laid_unicode_utf8_acceptRanges), ("unicode/utf8.first", laid_unicode_utf8_first)], narrowed := true }
def FnExactForgetAllUptoSaid : Prop := fnExactForgetAllUptoRow.holds Tryd.pinned (OpenSpec.upto fnExactForgetAllSpec)

/-- 'laws.FnValidActs', WHERE WHAT IT READS IS OF BULK AT MOST 1048576: true; the input reads as it did. -/
def fnValidActsUptoRow : OpenClaim := { program := "ytipklobcfmcebaadoor", sum := "a4f5205a7305f1c6816cde7cdc9cba4a446d451124c627699272be5728570a72", func := "loop.example/importhouse/laws.FnValidActs", spec := "fnValidActs", inPlace := ["internal/bytealg.CountString", "internal/bytealg.IndexByteString", "internal/bytealg.IndexString"], named := ["unicode/utf8.first", "unicode/utf8.acceptRanges", "internal/bytealg.MaxLen"], apart := false, laid := [("unicode/utf8.acceptRanges", laid_unicode_utf8_acceptRanges), ("unicode/utf8.first", laid_unicode_utf8_first)], narrowed := true }
def FnValidActsUptoSaid : Prop := fnValidActsUptoRow.holds Tryd.pinned (OpenSpec.upto fnValidActsSpec)

/-- 'laws.FnModuleOf', WHERE WHAT IT READS IS OF BULK AT MOST 1048576: true; the input reads as it did. -/
def fnModuleOfUptoRow : OpenClaim := { program := "ytipklobcfmcebaadoor", sum := "a4f5205a7305f1c6816cde7cdc9cba4a446d451124c627699272be5728570a72", func := "loop.example/importhouse/laws.FnModuleOf", spec := "fnModuleOf", inPlace := ["internal/bytealg.CountString", "internal/bytealg.IndexByteString", "internal/bytealg.IndexString"], named := ["unicode/utf8.first", "unicode/utf8.acceptRanges", "internal/bytealg.MaxLen"], apart := false, laid := [("unicode/utf8.acceptRanges", laid_unicode_utf8_acceptRanges), ("unicode/utf8.first", laid_unicode_utf8_first)], narrowed := true }
def FnModuleOfUptoSaid : Prop := fnModuleOfUptoRow.holds Tryd.pinned (OpenSpec.upto fnModuleOfSpec)

/-- 'laws.FnValidTree', WHERE WHAT IT READS IS OF BULK AT MOST 1048576: true; the input reads as it did. -/
def fnValidTreeUptoRow : OpenClaim := { program := "ytipklobcfmcebaadoor", sum := "a4f5205a7305f1c6816cde7cdc9cba4a446d451124c627699272be5728570a72", func := "loop.example/importhouse/laws.FnValidTree", spec := "fnValidTree", inPlace := ["internal/bytealg.CountString", "internal/bytealg.IndexByteString", "internal/bytealg.IndexString"], named := ["unicode/utf8.first", "unicode/utf8.acceptRanges", "internal/bytealg.MaxLen"], apart := false, laid := [("unicode/utf8.acceptRanges", laid_unicode_utf8_acceptRanges), ("unicode/utf8.first", laid_unicode_utf8_first)], narrowed := true }
def FnValidTreeUptoSaid : Prop := fnValidTreeUptoRow.holds Tryd.pinned (OpenSpec.upto fnValidTreeSpec)

/-- 'laws.FnExactValidTree', WHERE WHAT IT READS IS OF BULK AT MOST 1048576: true; the input reads as it did. -/
def fnExactValidTreeUptoRow : OpenClaim := { program := "ytipklobcfmcebaadoor", sum := "a4f5205a7305f1c6816cde7cdc9cba4a446d451124c627699272be5728570a72", func := "loop.example/importhouse/laws.FnExactValidTree", spec := "fnExactValidTree", inPlace := ["internal/bytealg.CountString", "internal/bytealg.IndexByteString", "internal/bytealg.IndexString"], named := ["unicode/utf8.first", "unicode/utf8.acceptRanges", "internal/bytealg.MaxLen"], apart := false, laid := [("unicode/utf8.acceptRanges", laid_unicode_utf8_acceptRanges), ("unicode/utf8.first", laid_unicode_utf8_first)], narrowed := true }
def FnExactValidTreeUptoSaid : Prop := fnExactValidTreeUptoRow.holds Tryd.pinned (OpenSpec.upto fnExactValidTreeSpec)

/-- 'laws.FnExactValidStore', WHERE WHAT IT READS IS OF BULK AT MOST 1048576: true; the input reads as it did. -/
def fnExactValidStoreUptoRow : OpenClaim := { program := "ytipklobcfmcebaadoor", sum := "a4f5205a7305f1c6816cde7cdc9cba4a446d451124c627699272be5728570a72", func := "loop.example/importhouse/laws.FnExactValidStore", spec := "fnExactValidStore", inPlace := ["internal/bytealg.CountString", "internal/bytealg.IndexByteString", "internal/bytealg.IndexString"], unfollowed := true, recurses := true, named := ["unicode/utf8.first", "unicode/utf8.acceptRanges", "internal/bytealg.MaxLen"], apart := false, laid := [("unicode/utf8.acceptRanges", laid_unicode_utf8_acceptRanges), ("unicode/utf8.first", laid_unicode_utf8_first)], narrowed := true }
def FnExactValidStoreUptoSaid : Prop := fnExactValidStoreUptoRow.holds Tryd.pinned (OpenSpec.upto fnExactValidStoreSpec)

/-- 'laws.FnExactValidActs', WHERE WHAT IT READS IS OF BULK AT MOST 1048576: true; the input reads as it did. -/
def fnExactValidActsUptoRow : OpenClaim := { program := "ytipklobcfmcebaadoor", sum := "a4f5205a7305f1c6816cde7cdc9cba4a446d451124c627699272be5728570a72", func := "loop.example/importhouse/laws.FnExactValidActs", spec := "fnExactValidActs", inPlace := ["internal/bytealg.CountString", "internal/bytealg.IndexByteString", "internal/bytealg.IndexString"], named := ["unicode/utf8.first", "unicode/utf8.acceptRanges", "internal/bytealg.MaxLen"], apart := false, laid := [("unicode/utf8.acceptRanges", laid_unicode_utf8_acceptRanges), ("unicode/utf8.first", laid_unicode_utf8_first)], narrowed := true }
def FnExactValidActsUptoSaid : Prop := fnExactValidActsUptoRow.holds Tryd.pinned (OpenSpec.upto fnExactValidActsSpec)

/-- 'laws.FnValidStore', WHERE WHAT IT READS IS OF BULK AT MOST 1048576: true; the input reads as it did. -/
def fnValidStoreUptoRow : OpenClaim := { program := "ytipklobcfmcebaadoor", sum := "a4f5205a7305f1c6816cde7cdc9cba4a446d451124c627699272be5728570a72", func := "loop.example/importhouse/laws.FnValidStore", spec := "fnValidStore", inPlace := ["internal/bytealg.CountString", "internal/bytealg.IndexByteString", "internal/bytealg.IndexString"], unfollowed := true, recurses := true, named := ["unicode/utf8.first", "unicode/utf8.acceptRanges", "internal/bytealg.MaxLen"], apart := false, laid := [("unicode/utf8.acceptRanges", laid_unicode_utf8_acceptRanges), ("unicode/utf8.first", laid_unicode_utf8_first)], narrowed := true }
def FnValidStoreUptoSaid : Prop := fnValidStoreUptoRow.holds Tryd.pinned (OpenSpec.upto fnValidStoreSpec)

end Rows
end Go.Proofs.YtipklobcfmcebaaDoor
