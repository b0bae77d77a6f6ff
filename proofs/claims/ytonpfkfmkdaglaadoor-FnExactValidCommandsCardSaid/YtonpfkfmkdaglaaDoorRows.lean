/-
  NARROWER THAN 'FOR EVERY INPUT', by the rows' own cells (each row's printed sentence says how): FnExactValidCommands: laid · FnExactAddFile: laid · FnLastOf: laid · FnExactRelativeName: laid · FnValidName: laid · FnExactResolveName: laid · FnParentOf: laid · FnChildOf: laid · FnExactEditFile: laid · FnExactValidBody: laid · FnExactJoinParts: laid · FnExactCommonPackage: laid.
  DERIVED. THE GIVEN ROWS OF THIS SEAT. 12 by the template 'for every input the law returns true; each argument reads behind the call as it read before'; 0 by the template 'total and deterministic' (their statements: YtonpfkfmkdaglaaDoorTotals.lean).
  GIVEN WITH THE SEED: the statements are not yours to turn. If you find one false, say at which input.
  Laid BY PROGRAM, IN A SANDBOX (cutbox-rows.mjs): the forced cells as the released guide's own fill.sh prints them over the translation bb08672ee8f211e1… (all of the seat's roots in one cut). By AI agents, Wed Nov 11 2026. No macro, syntax, notation, axiom, sorry.
-/
import Derived.Test.YtonpfkfmkdaglaaDoorChecked
import GoSem.PinnedTables
import GoSem.Claim
import GoSem.ClaimJoined
import GoSem.ClaimMapViews
import Derived.JoinedTies
import Derived.KernelRfl
namespace Go.Proofs.YtonpfkfmkdaglaaDoor
/- THE CELL 'sum', in the pinned program and in every row, IS THE sha256 OF THE DUMP (.gsa) THAT YtonpfkfmkdaglaaDoorProg.lean LOADS. Nothing in Lean hashes anything: it is a label: what it is worth is what the hold of that sum in a sandbox is worth. -/
noncomputable def Tryd.pinned : Pinned := { name := "ytonpfkfmkdaglaadoor", sum := "bb08672ee8f211e106b24ade5e99fc1931708c60123353dca8a8a67b137f59e7", checked := Tryd.checked }
namespace Rows
def none {H : Type} : Left H := { results := [], args := [] }

/- WHAT THE LISTED PACKAGE-LEVEL VARIABLES READ AS WHEN THE CALL BEGINS. Each datum BY PROGRAM (the guide's laid-datum.mjs) off the statement by which the dump's own 'gosem.cut.vars' lays the variable. In a bare row this is a premise. The card (YtonpfkfmkdaglaaDoorCards.lean) ties it to the program's text. -/
def laid_unicode_utf8_acceptRanges {H : Type} : DataW H := .agg [.agg [.lit (.int .u8 128), .lit (.int .u8 191)], .agg [.lit (.int .u8 160), .lit (.int .u8 191)], .agg [.lit (.int .u8 128), .lit (.int .u8 159)], .agg [.lit (.int .u8 144), .lit (.int .u8 191)], .agg [.lit (.int .u8 128), .lit (.int .u8 143)], .agg [.lit (.int .u8 0), .lit (.int .u8 0)], .agg [.lit (.int .u8 0), .lit (.int .u8 0)], .agg [.lit (.int .u8 0), .lit (.int .u8 0)], .agg [.lit (.int .u8 0), .lit (.int .u8 0)], .agg [.lit (.int .u8 0), .lit (.int .u8 0)], .agg [.lit (.int .u8 0), .lit (.int .u8 0)], .agg [.lit (.int .u8 0), .lit (.int .u8 0)], .agg [.lit (.int .u8 0), .lit (.int .u8 0)], .agg [.lit (.int .u8 0), .lit (.int .u8 0)], .agg [.lit (.int .u8 0), .lit (.int .u8 0)], .agg [.lit (.int .u8 0), .lit (.int .u8 0)]]
/-- One of Go's own tables, pinned by name: the form's constant. -/
def laid_unicode_utf8_first : DataW Unit := Go.Pinned.utf8First

/-- 'laws.FnExactValidCommands': WHATEVER THE INPUT: true; the input reads as it did. -/
def fnExactValidCommandsSpec : ChangeSpec := { name := "fnExactValidCommands", fn := fun _ => fun
  | [d] => { results := [.lit (.bool true)], args := [d] }
  | _ => none }
def fnExactValidCommandsRow : OpenClaim := { program := "ytonpfkfmkdaglaadoor", sum := "bb08672ee8f211e106b24ade5e99fc1931708c60123353dca8a8a67b137f59e7", func := "loop.example/importhouse/laws.FnExactValidCommands", spec := "fnExactValidCommands", inPlace := ["internal/bytealg.CountString", "internal/bytealg.IndexByteString", "internal/bytealg.IndexString"], named := ["unicode/utf8.first", "unicode/utf8.acceptRanges", "internal/bytealg.MaxLen"], apart := false, laid := [("unicode/utf8.acceptRanges", laid_unicode_utf8_acceptRanges), ("unicode/utf8.first", laid_unicode_utf8_first)] }
def FnExactValidCommandsSaid : Prop := fnExactValidCommandsRow.holds Tryd.pinned (OpenSpec.ofChange fnExactValidCommandsSpec)

/-- ITS FALSE NEIGHBOUR: 'it returns false'. Refute it at one input. -/
def fnExactValidCommandsWrong : ChangeSpec := { name := "fnExactValidCommands", fn := fun _ => fun
  | [d] => { results := [.lit (.bool false)], args := [d] }
  | _ => none }
def FnExactValidCommandsWrongFalsely : Prop := fnExactValidCommandsRow.holds Tryd.pinned (OpenSpec.ofChange fnExactValidCommandsWrong)

/-- 'laws.FnExactAddFile': WHATEVER THE INPUT: true; the input reads as it did. -/
def fnExactAddFileSpec : ChangeSpec := { name := "fnExactAddFile", fn := fun _ => fun
  | [d1, d2] => { results := [.lit (.bool true)], args := [d1, d2] }
  | _ => none }
def fnExactAddFileRow : OpenClaim := { program := "ytonpfkfmkdaglaadoor", sum := "bb08672ee8f211e106b24ade5e99fc1931708c60123353dca8a8a67b137f59e7", func := "loop.example/importhouse/laws.FnExactAddFile", spec := "fnExactAddFile", inPlace := ["internal/bytealg.CountString", "internal/bytealg.IndexByteString", "internal/bytealg.IndexString"], named := ["unicode/utf8.first", "unicode/utf8.acceptRanges", "internal/bytealg.MaxLen"], apart := false, laid := [("unicode/utf8.acceptRanges", laid_unicode_utf8_acceptRanges), ("unicode/utf8.first", laid_unicode_utf8_first)] }
def FnExactAddFileSaid : Prop := fnExactAddFileRow.holds Tryd.pinned (OpenSpec.ofChange fnExactAddFileSpec)

/-- ITS FALSE NEIGHBOUR: 'it returns false'. Refute it at one input. -/
def fnExactAddFileWrong : ChangeSpec := { name := "fnExactAddFile", fn := fun _ => fun
  | [d1, d2] => { results := [.lit (.bool false)], args := [d1, d2] }
  | _ => none }
def FnExactAddFileWrongFalsely : Prop := fnExactAddFileRow.holds Tryd.pinned (OpenSpec.ofChange fnExactAddFileWrong)

/-- 'laws.FnLastOf': WHATEVER THE INPUT: true; the input reads as it did. -/
def fnLastOfSpec : ChangeSpec := { name := "fnLastOf", fn := fun _ => fun
  | [d] => { results := [.lit (.bool true)], args := [d] }
  | _ => none }
def fnLastOfRow : OpenClaim := { program := "ytonpfkfmkdaglaadoor", sum := "bb08672ee8f211e106b24ade5e99fc1931708c60123353dca8a8a67b137f59e7", func := "loop.example/importhouse/laws.FnLastOf", spec := "fnLastOf", inPlace := ["internal/bytealg.CountString", "internal/bytealg.IndexByteString", "internal/bytealg.IndexString"], named := ["unicode/utf8.first", "unicode/utf8.acceptRanges", "internal/bytealg.MaxLen"], apart := false, laid := [("unicode/utf8.acceptRanges", laid_unicode_utf8_acceptRanges), ("unicode/utf8.first", laid_unicode_utf8_first)] }
def FnLastOfSaid : Prop := fnLastOfRow.holds Tryd.pinned (OpenSpec.ofChange fnLastOfSpec)

/-- ITS FALSE NEIGHBOUR: 'it returns false'. Refute it at one input. -/
def fnLastOfWrong : ChangeSpec := { name := "fnLastOf", fn := fun _ => fun
  | [d] => { results := [.lit (.bool false)], args := [d] }
  | _ => none }
def FnLastOfWrongFalsely : Prop := fnLastOfRow.holds Tryd.pinned (OpenSpec.ofChange fnLastOfWrong)

/-- 'laws.FnExactRelativeName': WHATEVER THE INPUT: true; the input reads as it did. -/
def fnExactRelativeNameSpec : ChangeSpec := { name := "fnExactRelativeName", fn := fun _ => fun
  | [d1, d2] => { results := [.lit (.bool true)], args := [d1, d2] }
  | _ => none }
def fnExactRelativeNameRow : OpenClaim := { program := "ytonpfkfmkdaglaadoor", sum := "bb08672ee8f211e106b24ade5e99fc1931708c60123353dca8a8a67b137f59e7", func := "loop.example/importhouse/laws.FnExactRelativeName", spec := "fnExactRelativeName", inPlace := ["internal/bytealg.CountString", "internal/bytealg.IndexByteString", "internal/bytealg.IndexString"], named := ["unicode/utf8.first", "unicode/utf8.acceptRanges", "internal/bytealg.MaxLen"], apart := false, laid := [("unicode/utf8.acceptRanges", laid_unicode_utf8_acceptRanges), ("unicode/utf8.first", laid_unicode_utf8_first)] }
def FnExactRelativeNameSaid : Prop := fnExactRelativeNameRow.holds Tryd.pinned (OpenSpec.ofChange fnExactRelativeNameSpec)

/-- ITS FALSE NEIGHBOUR: 'it returns false'. Refute it at one input. -/
def fnExactRelativeNameWrong : ChangeSpec := { name := "fnExactRelativeName", fn := fun _ => fun
  | [d1, d2] => { results := [.lit (.bool false)], args := [d1, d2] }
  | _ => none }
def FnExactRelativeNameWrongFalsely : Prop := fnExactRelativeNameRow.holds Tryd.pinned (OpenSpec.ofChange fnExactRelativeNameWrong)

/-- 'laws.FnValidName': WHATEVER THE INPUT: true; the input reads as it did. -/
def fnValidNameSpec : ChangeSpec := { name := "fnValidName", fn := fun _ => fun
  | [d] => { results := [.lit (.bool true)], args := [d] }
  | _ => none }
def fnValidNameRow : OpenClaim := { program := "ytonpfkfmkdaglaadoor", sum := "bb08672ee8f211e106b24ade5e99fc1931708c60123353dca8a8a67b137f59e7", func := "loop.example/importhouse/laws.FnValidName", spec := "fnValidName", inPlace := ["internal/bytealg.CountString", "internal/bytealg.IndexByteString", "internal/bytealg.IndexString"], named := ["unicode/utf8.first", "unicode/utf8.acceptRanges", "internal/bytealg.MaxLen"], apart := false, laid := [("unicode/utf8.acceptRanges", laid_unicode_utf8_acceptRanges), ("unicode/utf8.first", laid_unicode_utf8_first)] }
def FnValidNameSaid : Prop := fnValidNameRow.holds Tryd.pinned (OpenSpec.ofChange fnValidNameSpec)

/-- ITS FALSE NEIGHBOUR: 'it returns false'. Refute it at one input. -/
def fnValidNameWrong : ChangeSpec := { name := "fnValidName", fn := fun _ => fun
  | [d] => { results := [.lit (.bool false)], args := [d] }
  | _ => none }
def FnValidNameWrongFalsely : Prop := fnValidNameRow.holds Tryd.pinned (OpenSpec.ofChange fnValidNameWrong)

/-- 'laws.FnExactResolveName': WHATEVER THE INPUT: true; the input reads as it did. -/
def fnExactResolveNameSpec : ChangeSpec := { name := "fnExactResolveName", fn := fun _ => fun
  | [d1, d2, d3] => { results := [.lit (.bool true)], args := [d1, d2, d3] }
  | _ => none }
def fnExactResolveNameRow : OpenClaim := { program := "ytonpfkfmkdaglaadoor", sum := "bb08672ee8f211e106b24ade5e99fc1931708c60123353dca8a8a67b137f59e7", func := "loop.example/importhouse/laws.FnExactResolveName", spec := "fnExactResolveName", inPlace := ["internal/bytealg.CountString", "internal/bytealg.IndexByteString", "internal/bytealg.IndexString"], named := ["unicode/utf8.first", "unicode/utf8.acceptRanges", "internal/bytealg.MaxLen"], apart := false, laid := [("unicode/utf8.acceptRanges", laid_unicode_utf8_acceptRanges), ("unicode/utf8.first", laid_unicode_utf8_first)] }
def FnExactResolveNameSaid : Prop := fnExactResolveNameRow.holds Tryd.pinned (OpenSpec.ofChange fnExactResolveNameSpec)

/-- ITS FALSE NEIGHBOUR: 'it returns false'. Refute it at one input. -/
def fnExactResolveNameWrong : ChangeSpec := { name := "fnExactResolveName", fn := fun _ => fun
  | [d1, d2, d3] => { results := [.lit (.bool false)], args := [d1, d2, d3] }
  | _ => none }
def FnExactResolveNameWrongFalsely : Prop := fnExactResolveNameRow.holds Tryd.pinned (OpenSpec.ofChange fnExactResolveNameWrong)

/-- 'laws.FnParentOf': WHATEVER THE INPUT: true; the input reads as it did. -/
def fnParentOfSpec : ChangeSpec := { name := "fnParentOf", fn := fun _ => fun
  | [d] => { results := [.lit (.bool true)], args := [d] }
  | _ => none }
def fnParentOfRow : OpenClaim := { program := "ytonpfkfmkdaglaadoor", sum := "bb08672ee8f211e106b24ade5e99fc1931708c60123353dca8a8a67b137f59e7", func := "loop.example/importhouse/laws.FnParentOf", spec := "fnParentOf", inPlace := ["internal/bytealg.CountString", "internal/bytealg.IndexByteString", "internal/bytealg.IndexString"], named := ["unicode/utf8.first", "unicode/utf8.acceptRanges", "internal/bytealg.MaxLen"], apart := false, laid := [("unicode/utf8.acceptRanges", laid_unicode_utf8_acceptRanges), ("unicode/utf8.first", laid_unicode_utf8_first)] }
def FnParentOfSaid : Prop := fnParentOfRow.holds Tryd.pinned (OpenSpec.ofChange fnParentOfSpec)

/-- ITS FALSE NEIGHBOUR: 'it returns false'. Refute it at one input. -/
def fnParentOfWrong : ChangeSpec := { name := "fnParentOf", fn := fun _ => fun
  | [d] => { results := [.lit (.bool false)], args := [d] }
  | _ => none }
def FnParentOfWrongFalsely : Prop := fnParentOfRow.holds Tryd.pinned (OpenSpec.ofChange fnParentOfWrong)

/-- 'laws.FnChildOf': WHATEVER THE INPUT: true; the input reads as it did. -/
def fnChildOfSpec : ChangeSpec := { name := "fnChildOf", fn := fun _ => fun
  | [d] => { results := [.lit (.bool true)], args := [d] }
  | _ => none }
def fnChildOfRow : OpenClaim := { program := "ytonpfkfmkdaglaadoor", sum := "bb08672ee8f211e106b24ade5e99fc1931708c60123353dca8a8a67b137f59e7", func := "loop.example/importhouse/laws.FnChildOf", spec := "fnChildOf", inPlace := ["internal/bytealg.CountString", "internal/bytealg.IndexByteString", "internal/bytealg.IndexString"], named := ["unicode/utf8.first", "unicode/utf8.acceptRanges", "internal/bytealg.MaxLen"], apart := false, laid := [("unicode/utf8.acceptRanges", laid_unicode_utf8_acceptRanges), ("unicode/utf8.first", laid_unicode_utf8_first)] }
def FnChildOfSaid : Prop := fnChildOfRow.holds Tryd.pinned (OpenSpec.ofChange fnChildOfSpec)

/-- ITS FALSE NEIGHBOUR: 'it returns false'. Refute it at one input. -/
def fnChildOfWrong : ChangeSpec := { name := "fnChildOf", fn := fun _ => fun
  | [d] => { results := [.lit (.bool false)], args := [d] }
  | _ => none }
def FnChildOfWrongFalsely : Prop := fnChildOfRow.holds Tryd.pinned (OpenSpec.ofChange fnChildOfWrong)

/-- 'laws.FnExactEditFile': WHATEVER THE INPUT: true; the input reads as it did. -/
def fnExactEditFileSpec : ChangeSpec := { name := "fnExactEditFile", fn := fun _ => fun
  | [d1, d2, d3, d4] => { results := [.lit (.bool true)], args := [d1, d2, d3, d4] }
  | _ => none }
def fnExactEditFileRow : OpenClaim := { program := "ytonpfkfmkdaglaadoor", sum := "bb08672ee8f211e106b24ade5e99fc1931708c60123353dca8a8a67b137f59e7", func := "loop.example/importhouse/laws.FnExactEditFile", spec := "fnExactEditFile", inPlace := ["internal/bytealg.CountString", "internal/bytealg.IndexByteString", "internal/bytealg.IndexString"], named := ["unicode/utf8.first", "unicode/utf8.acceptRanges", "internal/bytealg.MaxLen"], apart := false, laid := [("unicode/utf8.acceptRanges", laid_unicode_utf8_acceptRanges), ("unicode/utf8.first", laid_unicode_utf8_first)] }
def FnExactEditFileSaid : Prop := fnExactEditFileRow.holds Tryd.pinned (OpenSpec.ofChange fnExactEditFileSpec)

/-- ITS FALSE NEIGHBOUR: 'it returns false'. Refute it at one input. -/
def fnExactEditFileWrong : ChangeSpec := { name := "fnExactEditFile", fn := fun _ => fun
  | [d1, d2, d3, d4] => { results := [.lit (.bool false)], args := [d1, d2, d3, d4] }
  | _ => none }
def FnExactEditFileWrongFalsely : Prop := fnExactEditFileRow.holds Tryd.pinned (OpenSpec.ofChange fnExactEditFileWrong)

/-- 'laws.FnExactValidBody': WHATEVER THE INPUT: true; the input reads as it did. -/
def fnExactValidBodySpec : ChangeSpec := { name := "fnExactValidBody", fn := fun _ => fun
  | [d] => { results := [.lit (.bool true)], args := [d] }
  | _ => none }
def fnExactValidBodyRow : OpenClaim := { program := "ytonpfkfmkdaglaadoor", sum := "bb08672ee8f211e106b24ade5e99fc1931708c60123353dca8a8a67b137f59e7", func := "loop.example/importhouse/laws.FnExactValidBody", spec := "fnExactValidBody", inPlace := ["internal/bytealg.CountString", "internal/bytealg.IndexByteString", "internal/bytealg.IndexString"], named := ["unicode/utf8.first", "unicode/utf8.acceptRanges", "internal/bytealg.MaxLen"], apart := false, laid := [("unicode/utf8.acceptRanges", laid_unicode_utf8_acceptRanges), ("unicode/utf8.first", laid_unicode_utf8_first)] }
def FnExactValidBodySaid : Prop := fnExactValidBodyRow.holds Tryd.pinned (OpenSpec.ofChange fnExactValidBodySpec)

/-- ITS FALSE NEIGHBOUR: 'it returns false'. Refute it at one input. -/
def fnExactValidBodyWrong : ChangeSpec := { name := "fnExactValidBody", fn := fun _ => fun
  | [d] => { results := [.lit (.bool false)], args := [d] }
  | _ => none }
def FnExactValidBodyWrongFalsely : Prop := fnExactValidBodyRow.holds Tryd.pinned (OpenSpec.ofChange fnExactValidBodyWrong)

/-- 'laws.FnExactJoinParts': WHATEVER THE INPUT: true; the input reads as it did. -/
def fnExactJoinPartsSpec : ChangeSpec := { name := "fnExactJoinParts", fn := fun _ => fun
  | [d] => { results := [.lit (.bool true)], args := [d] }
  | _ => none }
def fnExactJoinPartsRow : OpenClaim := { program := "ytonpfkfmkdaglaadoor", sum := "bb08672ee8f211e106b24ade5e99fc1931708c60123353dca8a8a67b137f59e7", func := "loop.example/importhouse/laws.FnExactJoinParts", spec := "fnExactJoinParts", inPlace := ["internal/abi.NoEscape", "internal/bytealg.MakeNoZero", "internal/bytealg.CountString", "internal/bytealg.IndexByteString", "internal/bytealg.IndexString"], named := ["unicode/utf8.first", "unicode/utf8.acceptRanges", "internal/bytealg.MaxLen"], apart := false, laid := [("unicode/utf8.acceptRanges", laid_unicode_utf8_acceptRanges), ("unicode/utf8.first", laid_unicode_utf8_first)] }
def FnExactJoinPartsSaid : Prop := fnExactJoinPartsRow.holds Tryd.pinned (OpenSpec.ofChange fnExactJoinPartsSpec)

/-- ITS FALSE NEIGHBOUR: 'it returns false'. Refute it at one input. -/
def fnExactJoinPartsWrong : ChangeSpec := { name := "fnExactJoinParts", fn := fun _ => fun
  | [d] => { results := [.lit (.bool false)], args := [d] }
  | _ => none }
def FnExactJoinPartsWrongFalsely : Prop := fnExactJoinPartsRow.holds Tryd.pinned (OpenSpec.ofChange fnExactJoinPartsWrong)

/-- 'laws.FnExactCommonPackage': WHATEVER THE INPUT: true; the input reads as it did. -/
def fnExactCommonPackageSpec : ChangeSpec := { name := "fnExactCommonPackage", fn := fun _ => fun
  | [d1, d2] => { results := [.lit (.bool true)], args := [d1, d2] }
  | _ => none }
def fnExactCommonPackageRow : OpenClaim := { program := "ytonpfkfmkdaglaadoor", sum := "bb08672ee8f211e106b24ade5e99fc1931708c60123353dca8a8a67b137f59e7", func := "loop.example/importhouse/laws.FnExactCommonPackage", spec := "fnExactCommonPackage", inPlace := ["internal/bytealg.CountString", "internal/bytealg.IndexByteString", "internal/bytealg.IndexString", "internal/abi.NoEscape", "internal/bytealg.MakeNoZero"], named := ["unicode/utf8.first", "unicode/utf8.acceptRanges", "internal/bytealg.MaxLen"], apart := false, laid := [("unicode/utf8.acceptRanges", laid_unicode_utf8_acceptRanges), ("unicode/utf8.first", laid_unicode_utf8_first)] }
def FnExactCommonPackageSaid : Prop := fnExactCommonPackageRow.holds Tryd.pinned (OpenSpec.ofChange fnExactCommonPackageSpec)

/-- ITS FALSE NEIGHBOUR: 'it returns false'. Refute it at one input. -/
def fnExactCommonPackageWrong : ChangeSpec := { name := "fnExactCommonPackage", fn := fun _ => fun
  | [d1, d2] => { results := [.lit (.bool false)], args := [d1, d2] }
  | _ => none }
def FnExactCommonPackageWrongFalsely : Prop := fnExactCommonPackageRow.holds Tryd.pinned (OpenSpec.ofChange fnExactCommonPackageWrong)

/- THE SECOND FORM. 'bulk': how many values and letters a reading holds, each counted each time it is reached (what is shared counts as often as it is met; a slice's spare places count too). A statement '..UptoSaid' is the law's where the arguments, and the package variables that the reading takes, are together of bulk at most 1048576: NARROWER than '..Said'. Prove '..Said' where nothing that the law and all that it calls make is longer than what came in: it says more and counts as full. Else prove '..UptoSaid'. A law counts once. -/
mutual
def uptoBulk {H : Type} : DataW H → Nat
  | .lit (.string bytes) => bytes.length + 1
  | .lit _ => 1
  | .nil => 1
  | .ptr d => uptoBulk d + 1
  | .slice elems spare => uptoBulkAll elems + uptoBulkAll spare + 1
  | .agg parts => uptoBulkAll parts + 1
  | .iface _ d => uptoBulk d + 1
  | .map entries => uptoBulkEntries entries + 1
  | .held _ => 1
def uptoBulkAll {H : Type} : List (DataW H) → Nat
  | [] => 0
  | d :: r => uptoBulk d + uptoBulkAll r
def uptoBulkEntries {H : Type} : List (Lit × DataW H) → Nat
  | [] => 0
  | x :: r => uptoBulkEntry x + uptoBulkEntries r
def uptoBulkEntry {H : Type} : Lit × DataW H → Nat
  | (.string bytes, d) => bytes.length + uptoBulk d + 1
  | (_, d) => uptoBulk d + 1
 end
def uptoSmall : (H : Type) → List (DataW H) → Bool := fun _ ds => decide (uptoBulkAll ds ≤ 1048576)
def OpenSpec.upto (s : _root_.Go.ChangeSpec) : _root_.Go.OpenSpec := { _root_.Go.OpenSpec.ofChange s with cond := some uptoSmall }

/-- 'laws.FnExactValidCommands', WHERE WHAT IT READS IS OF BULK AT MOST 1048576: true; the input reads as it did. -/
def fnExactValidCommandsUptoRow : OpenClaim := { program := "ytonpfkfmkdaglaadoor", sum := "bb08672ee8f211e106b24ade5e99fc1931708c60123353dca8a8a67b137f59e7", func := "loop.example/importhouse/laws.FnExactValidCommands", spec := "fnExactValidCommands", inPlace := ["internal/bytealg.CountString", "internal/bytealg.IndexByteString", "internal/bytealg.IndexString"], named := ["unicode/utf8.first", "unicode/utf8.acceptRanges", "internal/bytealg.MaxLen"], apart := false, laid := [("unicode/utf8.acceptRanges", laid_unicode_utf8_acceptRanges), ("unicode/utf8.first", laid_unicode_utf8_first)], narrowed := true }
def FnExactValidCommandsUptoSaid : Prop := fnExactValidCommandsUptoRow.holds Tryd.pinned (OpenSpec.upto fnExactValidCommandsSpec)

/-- 'laws.FnExactAddFile', WHERE WHAT IT READS IS OF BULK AT MOST 1048576: true; the input reads as it did. -/
def fnExactAddFileUptoRow : OpenClaim := { program := "ytonpfkfmkdaglaadoor", sum := "bb08672ee8f211e106b24ade5e99fc1931708c60123353dca8a8a67b137f59e7", func := "loop.example/importhouse/laws.FnExactAddFile", spec := "fnExactAddFile", inPlace := ["internal/bytealg.CountString", "internal/bytealg.IndexByteString", "internal/bytealg.IndexString"], named := ["unicode/utf8.first", "unicode/utf8.acceptRanges", "internal/bytealg.MaxLen"], apart := false, laid := [("unicode/utf8.acceptRanges", laid_unicode_utf8_acceptRanges), ("unicode/utf8.first", laid_unicode_utf8_first)], narrowed := true }
def FnExactAddFileUptoSaid : Prop := fnExactAddFileUptoRow.holds Tryd.pinned (OpenSpec.upto fnExactAddFileSpec)

/-- 'laws.FnLastOf', WHERE WHAT IT READS IS OF BULK AT MOST 1048576: true; the input reads as it did. -/
def fnLastOfUptoRow : OpenClaim := { program := "ytonpfkfmkdaglaadoor", sum := "bb08672ee8f211e106b24ade5e99fc1931708c60123353dca8a8a67b137f59e7", func := "loop.example/importhouse/laws.FnLastOf", spec := "fnLastOf", inPlace := ["internal/bytealg.CountString", "internal/bytealg.IndexByteString", "internal/bytealg.IndexString"], named := ["unicode/utf8.first", "unicode/utf8.acceptRanges", "internal/bytealg.MaxLen"], apart := false, laid := [("unicode/utf8.acceptRanges", laid_unicode_utf8_acceptRanges), ("unicode/utf8.first", laid_unicode_utf8_first)], narrowed := true }
def FnLastOfUptoSaid : Prop := fnLastOfUptoRow.holds Tryd.pinned (OpenSpec.upto fnLastOfSpec)

/-- 'laws.FnExactRelativeName', WHERE WHAT IT READS IS OF BULK AT MOST 1048576: true; the input reads as it did. -/
def fnExactRelativeNameUptoRow : OpenClaim := { program := "ytonpfkfmkdaglaadoor", sum := "bb08672ee8f211e106b24ade5e99fc1931708c60123353dca8a8a67b137f59e7", func := "loop.example/importhouse/laws.FnExactRelativeName", spec := "fnExactRelativeName", inPlace := ["internal/bytealg.CountString", "internal/bytealg.IndexByteString", "internal/bytealg.IndexString"], named := ["unicode/utf8.first", "unicode/utf8.acceptRanges", "internal/bytealg.MaxLen"], apart := false, laid := [("unicode/utf8.acceptRanges", laid_unicode_utf8_acceptRanges), ("unicode/utf8.first", laid_unicode_utf8_first)], narrowed := true }
def FnExactRelativeNameUptoSaid : Prop := fnExactRelativeNameUptoRow.holds Tryd.pinned (OpenSpec.upto fnExactRelativeNameSpec)

/-- 'laws.FnValidName', WHERE WHAT IT READS IS OF BULK AT MOST 1048576: true; the input reads as it did. -/
def fnValidNameUptoRow : OpenClaim := { program := "ytonpfkfmkdaglaadoor", sum := "bb08672ee8f211e106b24ade5e99fc1931708c60123353dca8a8a67b137f59e7", func := "loop.example/importhouse/laws.FnValidName", spec := "fnValidName", inPlace := ["internal/bytealg.CountString", "internal/bytealg.IndexByteString", "internal/bytealg.IndexString"], named := ["unicode/utf8.first", "unicode/utf8.acceptRanges", "internal/bytealg.MaxLen"], apart := false, laid := [("unicode/utf8.acceptRanges", laid_unicode_utf8_acceptRanges), ("unicode/utf8.first", laid_unicode_utf8_first)], narrowed := true }
def FnValidNameUptoSaid : Prop := fnValidNameUptoRow.holds Tryd.pinned (OpenSpec.upto fnValidNameSpec)

/-- 'laws.FnExactResolveName', WHERE WHAT IT READS IS OF BULK AT MOST 1048576: true; the input reads as it did. -/
def fnExactResolveNameUptoRow : OpenClaim := { program := "ytonpfkfmkdaglaadoor", sum := "bb08672ee8f211e106b24ade5e99fc1931708c60123353dca8a8a67b137f59e7", func := "loop.example/importhouse/laws.FnExactResolveName", spec := "fnExactResolveName", inPlace := ["internal/bytealg.CountString", "internal/bytealg.IndexByteString", "internal/bytealg.IndexString"], named := ["unicode/utf8.first", "unicode/utf8.acceptRanges", "internal/bytealg.MaxLen"], apart := false, laid := [("unicode/utf8.acceptRanges", laid_unicode_utf8_acceptRanges), ("unicode/utf8.first", laid_unicode_utf8_first)], narrowed := true }
def FnExactResolveNameUptoSaid : Prop := fnExactResolveNameUptoRow.holds Tryd.pinned (OpenSpec.upto fnExactResolveNameSpec)

/-- 'laws.FnParentOf', WHERE WHAT IT READS IS OF BULK AT MOST 1048576: true; the input reads as it did. -/
def fnParentOfUptoRow : OpenClaim := { program := "ytonpfkfmkdaglaadoor", sum := "bb08672ee8f211e106b24ade5e99fc1931708c60123353dca8a8a67b137f59e7", func := "loop.example/importhouse/laws.FnParentOf", spec := "fnParentOf", inPlace := ["internal/bytealg.CountString", "internal/bytealg.IndexByteString", "internal/bytealg.IndexString"], named := ["unicode/utf8.first", "unicode/utf8.acceptRanges", "internal/bytealg.MaxLen"], apart := false, laid := [("unicode/utf8.acceptRanges", laid_unicode_utf8_acceptRanges), ("unicode/utf8.first", laid_unicode_utf8_first)], narrowed := true }
def FnParentOfUptoSaid : Prop := fnParentOfUptoRow.holds Tryd.pinned (OpenSpec.upto fnParentOfSpec)

/-- 'laws.FnChildOf', WHERE WHAT IT READS IS OF BULK AT MOST 1048576: true; the input reads as it did. -/
def fnChildOfUptoRow : OpenClaim := { program := "ytonpfkfmkdaglaadoor", sum := "bb08672ee8f211e106b24ade5e99fc1931708c60123353dca8a8a67b137f59e7", func := "loop.example/importhouse/laws.FnChildOf", spec := "fnChildOf", inPlace := ["internal/bytealg.CountString", "internal/bytealg.IndexByteString", "internal/bytealg.IndexString"], named := ["unicode/utf8.first", "unicode/utf8.acceptRanges", "internal/bytealg.MaxLen"], apart := false, laid := [("unicode/utf8.acceptRanges", laid_unicode_utf8_acceptRanges), ("unicode/utf8.first", laid_unicode_utf8_first)], narrowed := true }
def FnChildOfUptoSaid : Prop := fnChildOfUptoRow.holds Tryd.pinned (OpenSpec.upto fnChildOfSpec)

/-- 'laws.FnExactEditFile', WHERE WHAT IT READS IS OF BULK AT MOST 1048576: true; the input reads as it did. -/
def fnExactEditFileUptoRow : OpenClaim := { program := "ytonpfkfmkdaglaadoor", sum := "bb08672ee8f211e106b24ade5e99fc1931708c60123353dca8a8a67b137f59e7", func := "loop.example/importhouse/laws.FnExactEditFile", spec := "fnExactEditFile", inPlace := ["internal/bytealg.CountString", "internal/bytealg.IndexByteString", "internal/bytealg.IndexString"], named := ["unicode/utf8.first", "unicode/utf8.acceptRanges", "internal/bytealg.MaxLen"], apart := false, laid := [("unicode/utf8.acceptRanges", laid_unicode_utf8_acceptRanges), ("unicode/utf8.first", laid_unicode_utf8_first)], narrowed := true }
def FnExactEditFileUptoSaid : Prop := fnExactEditFileUptoRow.holds Tryd.pinned (OpenSpec.upto fnExactEditFileSpec)

/-- 'laws.FnExactValidBody', WHERE WHAT IT READS IS OF BULK AT MOST 1048576: true; the input reads as it did. -/
def fnExactValidBodyUptoRow : OpenClaim := { program := "ytonpfkfmkdaglaadoor", sum := "bb08672ee8f211e106b24ade5e99fc1931708c60123353dca8a8a67b137f59e7", func := "loop.example/importhouse/laws.FnExactValidBody", spec := "fnExactValidBody", inPlace := ["internal/bytealg.CountString", "internal/bytealg.IndexByteString", "internal/bytealg.IndexString"], named := ["unicode/utf8.first", "unicode/utf8.acceptRanges", "internal/bytealg.MaxLen"], apart := false, laid := [("unicode/utf8.acceptRanges", laid_unicode_utf8_acceptRanges), ("unicode/utf8.first", laid_unicode_utf8_first)], narrowed := true }
def FnExactValidBodyUptoSaid : Prop := fnExactValidBodyUptoRow.holds Tryd.pinned (OpenSpec.upto fnExactValidBodySpec)

/-- 'laws.FnExactJoinParts', WHERE WHAT IT READS IS OF BULK AT MOST 1048576: true; the input reads as it did. -/
def fnExactJoinPartsUptoRow : OpenClaim := { program := "ytonpfkfmkdaglaadoor", sum := "bb08672ee8f211e106b24ade5e99fc1931708c60123353dca8a8a67b137f59e7", func := "loop.example/importhouse/laws.FnExactJoinParts", spec := "fnExactJoinParts", inPlace := ["internal/abi.NoEscape", "internal/bytealg.MakeNoZero", "internal/bytealg.CountString", "internal/bytealg.IndexByteString", "internal/bytealg.IndexString"], named := ["unicode/utf8.first", "unicode/utf8.acceptRanges", "internal/bytealg.MaxLen"], apart := false, laid := [("unicode/utf8.acceptRanges", laid_unicode_utf8_acceptRanges), ("unicode/utf8.first", laid_unicode_utf8_first)], narrowed := true }
def FnExactJoinPartsUptoSaid : Prop := fnExactJoinPartsUptoRow.holds Tryd.pinned (OpenSpec.upto fnExactJoinPartsSpec)

/-- 'laws.FnExactCommonPackage', WHERE WHAT IT READS IS OF BULK AT MOST 1048576: true; the input reads as it did. -/
def fnExactCommonPackageUptoRow : OpenClaim := { program := "ytonpfkfmkdaglaadoor", sum := "bb08672ee8f211e106b24ade5e99fc1931708c60123353dca8a8a67b137f59e7", func := "loop.example/importhouse/laws.FnExactCommonPackage", spec := "fnExactCommonPackage", inPlace := ["internal/bytealg.CountString", "internal/bytealg.IndexByteString", "internal/bytealg.IndexString", "internal/abi.NoEscape", "internal/bytealg.MakeNoZero"], named := ["unicode/utf8.first", "unicode/utf8.acceptRanges", "internal/bytealg.MaxLen"], apart := false, laid := [("unicode/utf8.acceptRanges", laid_unicode_utf8_acceptRanges), ("unicode/utf8.first", laid_unicode_utf8_first)], narrowed := true }
def FnExactCommonPackageUptoSaid : Prop := fnExactCommonPackageUptoRow.holds Tryd.pinned (OpenSpec.upto fnExactCommonPackageSpec)

end Rows
end Go.Proofs.YtonpfkfmkdaglaaDoor
