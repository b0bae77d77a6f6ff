/-
  NARROWER THAN 'FOR EVERY INPUT', by the rows' own cells (each row's printed sentence says how): FnExactValidName: laid · FnExactIsUnder: laid · FnStampOf: laid · FnValidPart: laid · FnExactLastOf: laid · FnExactChildOf: laid · FnExactParentOf: laid · FnExactPartsOf: laid.
  DERIVED. THE GIVEN ROWS OF THIS SEAT. 8 by the template 'for every input the law returns true; each argument reads behind the call as it read before'; 0 by the template 'total and deterministic' (their statements: YtfjdmcbcojlnmaaDoorTotals.lean).
  GIVEN WITH THE SEED: the statements are not yours to turn. If you find one false, say at which input.
  Laid BY PROGRAM, IN A SANDBOX (cutbox-rows.mjs): the forced cells as the released guide's own fill.sh prints them over the translation 3f70dcc6de80c2ab… (all of the seat's roots in one cut). By AI agents, Wed Nov 11 2026. No macro, syntax, notation, axiom, sorry.
-/
import Derived.Test.YtfjdmcbcojlnmaaDoorChecked
import GoSem.PinnedTables
import GoSem.Claim
import GoSem.ClaimJoined
import GoSem.ClaimMapViews
import Derived.JoinedTies
import Derived.KernelRfl
namespace Go.Proofs.YtfjdmcbcojlnmaaDoor
/- THE CELL 'sum', in the pinned program and in every row, IS THE sha256 OF THE DUMP (.gsa) THAT YtfjdmcbcojlnmaaDoorProg.lean LOADS. Nothing in Lean hashes anything: it is a label: what it is worth is what the hold of that sum in a sandbox is worth. -/
noncomputable def Tryd.pinned : Pinned := { name := "ytfjdmcbcojlnmaadoor", sum := "3f70dcc6de80c2ab9dad66451832789d6035e9cb5b18f42eb7a09632740431a4", checked := Tryd.checked }
namespace Rows
def none {H : Type} : Left H := { results := [], args := [] }

/- WHAT THE LISTED PACKAGE-LEVEL VARIABLES READ AS WHEN THE CALL BEGINS. Each datum BY PROGRAM (the guide's laid-datum.mjs) off the statement by which the dump's own 'gosem.cut.vars' lays the variable. In a bare row this is a premise. The card (YtfjdmcbcojlnmaaDoorCards.lean) ties it to the program's text. -/
def laid_unicode_utf8_acceptRanges {H : Type} : DataW H := .agg [.agg [.lit (.int .u8 128), .lit (.int .u8 191)], .agg [.lit (.int .u8 160), .lit (.int .u8 191)], .agg [.lit (.int .u8 128), .lit (.int .u8 159)], .agg [.lit (.int .u8 144), .lit (.int .u8 191)], .agg [.lit (.int .u8 128), .lit (.int .u8 143)], .agg [.lit (.int .u8 0), .lit (.int .u8 0)], .agg [.lit (.int .u8 0), .lit (.int .u8 0)], .agg [.lit (.int .u8 0), .lit (.int .u8 0)], .agg [.lit (.int .u8 0), .lit (.int .u8 0)], .agg [.lit (.int .u8 0), .lit (.int .u8 0)], .agg [.lit (.int .u8 0), .lit (.int .u8 0)], .agg [.lit (.int .u8 0), .lit (.int .u8 0)], .agg [.lit (.int .u8 0), .lit (.int .u8 0)], .agg [.lit (.int .u8 0), .lit (.int .u8 0)], .agg [.lit (.int .u8 0), .lit (.int .u8 0)], .agg [.lit (.int .u8 0), .lit (.int .u8 0)]]
/-- One of Go's own tables, pinned by name: the form's constant. -/
def laid_unicode_utf8_first : DataW Unit := Go.Pinned.utf8First

/-- 'laws.FnExactValidName': WHATEVER THE INPUT: true; the input reads as it did. -/
def fnExactValidNameSpec : ChangeSpec := { name := "fnExactValidName", fn := fun _ => fun
  | [d] => { results := [.lit (.bool true)], args := [d] }
  | _ => none }
def fnExactValidNameRow : OpenClaim := { program := "ytfjdmcbcojlnmaadoor", sum := "3f70dcc6de80c2ab9dad66451832789d6035e9cb5b18f42eb7a09632740431a4", func := "loop.example/importhouse/laws.FnExactValidName", spec := "fnExactValidName", inPlace := ["internal/bytealg.CountString", "internal/bytealg.IndexByteString", "internal/bytealg.IndexString"], named := ["unicode/utf8.first", "unicode/utf8.acceptRanges", "internal/bytealg.MaxLen"], apart := false, laid := [("unicode/utf8.acceptRanges", laid_unicode_utf8_acceptRanges), ("unicode/utf8.first", laid_unicode_utf8_first)] }
def FnExactValidNameSaid : Prop := fnExactValidNameRow.holds Tryd.pinned (OpenSpec.ofChange fnExactValidNameSpec)

/-- ITS FALSE NEIGHBOUR: 'it returns false'. Refute it at one input. -/
def fnExactValidNameWrong : ChangeSpec := { name := "fnExactValidName", fn := fun _ => fun
  | [d] => { results := [.lit (.bool false)], args := [d] }
  | _ => none }
def FnExactValidNameWrongFalsely : Prop := fnExactValidNameRow.holds Tryd.pinned (OpenSpec.ofChange fnExactValidNameWrong)

/-- 'laws.FnExactIsUnder': WHATEVER THE INPUT: true; the input reads as it did. -/
def fnExactIsUnderSpec : ChangeSpec := { name := "fnExactIsUnder", fn := fun _ => fun
  | [d1, d2] => { results := [.lit (.bool true)], args := [d1, d2] }
  | _ => none }
def fnExactIsUnderRow : OpenClaim := { program := "ytfjdmcbcojlnmaadoor", sum := "3f70dcc6de80c2ab9dad66451832789d6035e9cb5b18f42eb7a09632740431a4", func := "loop.example/importhouse/laws.FnExactIsUnder", spec := "fnExactIsUnder", inPlace := ["internal/bytealg.CountString", "internal/bytealg.IndexByteString", "internal/bytealg.IndexString"], named := ["unicode/utf8.first", "unicode/utf8.acceptRanges", "internal/bytealg.MaxLen"], apart := false, laid := [("unicode/utf8.acceptRanges", laid_unicode_utf8_acceptRanges), ("unicode/utf8.first", laid_unicode_utf8_first)] }
def FnExactIsUnderSaid : Prop := fnExactIsUnderRow.holds Tryd.pinned (OpenSpec.ofChange fnExactIsUnderSpec)

/-- ITS FALSE NEIGHBOUR: 'it returns false'. Refute it at one input. -/
def fnExactIsUnderWrong : ChangeSpec := { name := "fnExactIsUnder", fn := fun _ => fun
  | [d1, d2] => { results := [.lit (.bool false)], args := [d1, d2] }
  | _ => none }
def FnExactIsUnderWrongFalsely : Prop := fnExactIsUnderRow.holds Tryd.pinned (OpenSpec.ofChange fnExactIsUnderWrong)

/-- 'laws.FnStampOf': WHATEVER THE INPUT: true; the input reads as it did. -/
def fnStampOfSpec : ChangeSpec := { name := "fnStampOf", fn := fun _ => fun
  | [d] => { results := [.lit (.bool true)], args := [d] }
  | _ => none }
def fnStampOfRow : OpenClaim := { program := "ytfjdmcbcojlnmaadoor", sum := "3f70dcc6de80c2ab9dad66451832789d6035e9cb5b18f42eb7a09632740431a4", func := "loop.example/importhouse/laws.FnStampOf", spec := "fnStampOf", inPlace := ["internal/bytealg.CountString", "internal/bytealg.IndexByteString", "internal/bytealg.IndexString"], unfollowed := true, recurses := true, named := ["unicode/utf8.first", "unicode/utf8.acceptRanges", "internal/bytealg.MaxLen"], apart := false, laid := [("unicode/utf8.acceptRanges", laid_unicode_utf8_acceptRanges), ("unicode/utf8.first", laid_unicode_utf8_first)] }
def FnStampOfSaid : Prop := fnStampOfRow.holds Tryd.pinned (OpenSpec.ofChange fnStampOfSpec)

/-- ITS FALSE NEIGHBOUR: 'it returns false'. Refute it at one input. -/
def fnStampOfWrong : ChangeSpec := { name := "fnStampOf", fn := fun _ => fun
  | [d] => { results := [.lit (.bool false)], args := [d] }
  | _ => none }
def FnStampOfWrongFalsely : Prop := fnStampOfRow.holds Tryd.pinned (OpenSpec.ofChange fnStampOfWrong)

/-- 'laws.FnValidPart': WHATEVER THE INPUT: true; the input reads as it did. -/
def fnValidPartSpec : ChangeSpec := { name := "fnValidPart", fn := fun _ => fun
  | [d] => { results := [.lit (.bool true)], args := [d] }
  | _ => none }
def fnValidPartRow : OpenClaim := { program := "ytfjdmcbcojlnmaadoor", sum := "3f70dcc6de80c2ab9dad66451832789d6035e9cb5b18f42eb7a09632740431a4", func := "loop.example/importhouse/laws.FnValidPart", spec := "fnValidPart", inPlace := ["internal/bytealg.CountString", "internal/bytealg.IndexByteString", "internal/bytealg.IndexString"], named := ["unicode/utf8.first", "unicode/utf8.acceptRanges", "internal/bytealg.MaxLen"], apart := false, laid := [("unicode/utf8.acceptRanges", laid_unicode_utf8_acceptRanges), ("unicode/utf8.first", laid_unicode_utf8_first)] }
def FnValidPartSaid : Prop := fnValidPartRow.holds Tryd.pinned (OpenSpec.ofChange fnValidPartSpec)

/-- ITS FALSE NEIGHBOUR: 'it returns false'. Refute it at one input. -/
def fnValidPartWrong : ChangeSpec := { name := "fnValidPart", fn := fun _ => fun
  | [d] => { results := [.lit (.bool false)], args := [d] }
  | _ => none }
def FnValidPartWrongFalsely : Prop := fnValidPartRow.holds Tryd.pinned (OpenSpec.ofChange fnValidPartWrong)

/-- 'laws.FnExactLastOf': WHATEVER THE INPUT: true; the input reads as it did. -/
def fnExactLastOfSpec : ChangeSpec := { name := "fnExactLastOf", fn := fun _ => fun
  | [d] => { results := [.lit (.bool true)], args := [d] }
  | _ => none }
def fnExactLastOfRow : OpenClaim := { program := "ytfjdmcbcojlnmaadoor", sum := "3f70dcc6de80c2ab9dad66451832789d6035e9cb5b18f42eb7a09632740431a4", func := "loop.example/importhouse/laws.FnExactLastOf", spec := "fnExactLastOf", inPlace := ["internal/bytealg.CountString", "internal/bytealg.IndexByteString", "internal/bytealg.IndexString"], named := ["unicode/utf8.first", "unicode/utf8.acceptRanges", "internal/bytealg.MaxLen"], apart := false, laid := [("unicode/utf8.acceptRanges", laid_unicode_utf8_acceptRanges), ("unicode/utf8.first", laid_unicode_utf8_first)] }
def FnExactLastOfSaid : Prop := fnExactLastOfRow.holds Tryd.pinned (OpenSpec.ofChange fnExactLastOfSpec)

/-- ITS FALSE NEIGHBOUR: 'it returns false'. Refute it at one input. -/
def fnExactLastOfWrong : ChangeSpec := { name := "fnExactLastOf", fn := fun _ => fun
  | [d] => { results := [.lit (.bool false)], args := [d] }
  | _ => none }
def FnExactLastOfWrongFalsely : Prop := fnExactLastOfRow.holds Tryd.pinned (OpenSpec.ofChange fnExactLastOfWrong)

/-- 'laws.FnExactChildOf': WHATEVER THE INPUT: true; the input reads as it did. -/
def fnExactChildOfSpec : ChangeSpec := { name := "fnExactChildOf", fn := fun _ => fun
  | [d1, d2] => { results := [.lit (.bool true)], args := [d1, d2] }
  | _ => none }
def fnExactChildOfRow : OpenClaim := { program := "ytfjdmcbcojlnmaadoor", sum := "3f70dcc6de80c2ab9dad66451832789d6035e9cb5b18f42eb7a09632740431a4", func := "loop.example/importhouse/laws.FnExactChildOf", spec := "fnExactChildOf", inPlace := ["internal/bytealg.CountString", "internal/bytealg.IndexByteString", "internal/bytealg.IndexString"], named := ["unicode/utf8.first", "unicode/utf8.acceptRanges", "internal/bytealg.MaxLen"], apart := false, laid := [("unicode/utf8.acceptRanges", laid_unicode_utf8_acceptRanges), ("unicode/utf8.first", laid_unicode_utf8_first)] }
def FnExactChildOfSaid : Prop := fnExactChildOfRow.holds Tryd.pinned (OpenSpec.ofChange fnExactChildOfSpec)

/-- ITS FALSE NEIGHBOUR: 'it returns false'. Refute it at one input. -/
def fnExactChildOfWrong : ChangeSpec := { name := "fnExactChildOf", fn := fun _ => fun
  | [d1, d2] => { results := [.lit (.bool false)], args := [d1, d2] }
  | _ => none }
def FnExactChildOfWrongFalsely : Prop := fnExactChildOfRow.holds Tryd.pinned (OpenSpec.ofChange fnExactChildOfWrong)

/-- 'laws.FnExactParentOf': WHATEVER THE INPUT: true; the input reads as it did. -/
def fnExactParentOfSpec : ChangeSpec := { name := "fnExactParentOf", fn := fun _ => fun
  | [d] => { results := [.lit (.bool true)], args := [d] }
  | _ => none }
def fnExactParentOfRow : OpenClaim := { program := "ytfjdmcbcojlnmaadoor", sum := "3f70dcc6de80c2ab9dad66451832789d6035e9cb5b18f42eb7a09632740431a4", func := "loop.example/importhouse/laws.FnExactParentOf", spec := "fnExactParentOf", inPlace := ["internal/bytealg.CountString", "internal/bytealg.IndexByteString", "internal/bytealg.IndexString"], named := ["unicode/utf8.first", "unicode/utf8.acceptRanges", "internal/bytealg.MaxLen"], apart := false, laid := [("unicode/utf8.acceptRanges", laid_unicode_utf8_acceptRanges), ("unicode/utf8.first", laid_unicode_utf8_first)] }
def FnExactParentOfSaid : Prop := fnExactParentOfRow.holds Tryd.pinned (OpenSpec.ofChange fnExactParentOfSpec)

/-- ITS FALSE NEIGHBOUR: 'it returns false'. Refute it at one input. -/
def fnExactParentOfWrong : ChangeSpec := { name := "fnExactParentOf", fn := fun _ => fun
  | [d] => { results := [.lit (.bool false)], args := [d] }
  | _ => none }
def FnExactParentOfWrongFalsely : Prop := fnExactParentOfRow.holds Tryd.pinned (OpenSpec.ofChange fnExactParentOfWrong)

/-- 'laws.FnExactPartsOf': WHATEVER THE INPUT: true; the input reads as it did. -/
def fnExactPartsOfSpec : ChangeSpec := { name := "fnExactPartsOf", fn := fun _ => fun
  | [d] => { results := [.lit (.bool true)], args := [d] }
  | _ => none }
def fnExactPartsOfRow : OpenClaim := { program := "ytfjdmcbcojlnmaadoor", sum := "3f70dcc6de80c2ab9dad66451832789d6035e9cb5b18f42eb7a09632740431a4", func := "loop.example/importhouse/laws.FnExactPartsOf", spec := "fnExactPartsOf", inPlace := ["internal/bytealg.CountString", "internal/bytealg.IndexByteString", "internal/bytealg.IndexString"], named := ["unicode/utf8.first", "unicode/utf8.acceptRanges", "internal/bytealg.MaxLen"], apart := false, laid := [("unicode/utf8.acceptRanges", laid_unicode_utf8_acceptRanges), ("unicode/utf8.first", laid_unicode_utf8_first)] }
def FnExactPartsOfSaid : Prop := fnExactPartsOfRow.holds Tryd.pinned (OpenSpec.ofChange fnExactPartsOfSpec)

/-- ITS FALSE NEIGHBOUR: 'it returns false'. Refute it at one input. -/
def fnExactPartsOfWrong : ChangeSpec := { name := "fnExactPartsOf", fn := fun _ => fun
  | [d] => { results := [.lit (.bool false)], args := [d] }
  | _ => none }
def FnExactPartsOfWrongFalsely : Prop := fnExactPartsOfRow.holds Tryd.pinned (OpenSpec.ofChange fnExactPartsOfWrong)

/- THE SECOND FORM. 'bulk': how many values and letters a reading holds, each counted each time it is reached (what is shared counts as often as it is met; a slice's spare places count too). A statement '..UptoSaid' is the law's where the arguments, and the package variables that the reading takes, are together of bulk at most 1048576: NARROWER than '..Said'. Prove '..Said' where nothing that the law and all that it calls make is longer than what came in: it says more and counts as full. Else prove '..UptoSaid'. A law counts once. -/
mutual
def uptoBulk {H : Type} : DataW H → Nat
  | .lit (.string bytes) => bytes.length + 1
  | .lit _ => 1
  | .nil => 1
  | .ptr d => uptoBulk d + 1
  | .slice elems spare => uptoBulkAll elems + uptoBulkAll spare + 1
  | .agg parts => uptoBulkAll parts + 1
  | .iface _ d => uptoBulk d + 1
  | .map entries => uptoBulkEntries entries + 1
  | .held _ => 1
def uptoBulkAll {H : Type} : List (DataW H) → Nat
  | [] => 0
  | d :: r => uptoBulk d + uptoBulkAll r
def uptoBulkEntries {H : Type} : List (Lit × DataW H) → Nat
  | [] => 0
  | x :: r => uptoBulkEntry x + uptoBulkEntries r
def uptoBulkEntry {H : Type} : Lit × DataW H → Nat
  | (.string bytes, d) => bytes.length + uptoBulk d + 1
  | (_, d) => uptoBulk d + 1
 end
def uptoSmall : (H : Type) → List (DataW H) → Bool := fun _ ds => decide (uptoBulkAll ds ≤ 1048576)
def OpenSpec.upto (s : _root_.Go.ChangeSpec) : _root_.Go.OpenSpec := { _root_.Go.OpenSpec.ofChange s with cond := some uptoSmall }

/-- 'laws.FnExactValidName', WHERE WHAT IT READS IS OF BULK AT MOST 1048576: true; the input reads as it did. -/
def fnExactValidNameUptoRow : OpenClaim := { program := "ytfjdmcbcojlnmaadoor", sum := "3f70dcc6de80c2ab9dad66451832789d6035e9cb5b18f42eb7a09632740431a4", func := "loop.example/importhouse/laws.FnExactValidName", spec := "fnExactValidName", inPlace := ["internal/bytealg.CountString", "internal/bytealg.IndexByteString", "internal/bytealg.IndexString"], named := ["unicode/utf8.first", "unicode/utf8.acceptRanges", "internal/bytealg.MaxLen"], apart := false, laid := [("unicode/utf8.acceptRanges", laid_unicode_utf8_acceptRanges), ("unicode/utf8.first", laid_unicode_utf8_first)], narrowed := true }
def FnExactValidNameUptoSaid : Prop := fnExactValidNameUptoRow.holds Tryd.pinned (OpenSpec.upto fnExactValidNameSpec)

/-- 'laws.FnExactIsUnder', WHERE WHAT IT READS IS OF BULK AT MOST 1048576: true; the input reads as it did. -/
def fnExactIsUnderUptoRow : OpenClaim := { program := "ytfjdmcbcojlnmaadoor", sum := "3f70dcc6de80c2ab9dad66451832789d6035e9cb5b18f42eb7a09632740431a4", func := "loop.example/importhouse/laws.FnExactIsUnder", spec := "fnExactIsUnder", inPlace := ["internal/bytealg.CountString", "internal/bytealg.IndexByteString", "internal/bytealg.IndexString"], named := ["unicode/utf8.first", "unicode/utf8.acceptRanges", "internal/bytealg.MaxLen"], apart := false, laid := [("unicode/utf8.acceptRanges", laid_unicode_utf8_acceptRanges), ("unicode/utf8.first", laid_unicode_utf8_first)], narrowed := true }
def FnExactIsUnderUptoSaid : Prop := fnExactIsUnderUptoRow.holds Tryd.pinned (OpenSpec.upto fnExactIsUnderSpec)

/-- 'laws.FnStampOf', WHERE WHAT IT READS IS OF BULK AT MOST 1048576: true; the input reads as it did. -/
def fnStampOfUptoRow : OpenClaim := { program := "ytfjdmcbcojlnmaadoor", sum := "3f70dcc6de80c2ab9dad66451832789d6035e9cb5b18f42eb7a09632740431a4", func := "loop.example/importhouse/laws.FnStampOf", spec := "fnStampOf", inPlace := ["internal/bytealg.CountString", "internal/bytealg.IndexByteString", "internal/bytealg.IndexString"], unfollowed := true, recurses := true, named := ["unicode/utf8.first", "unicode/utf8.acceptRanges", "internal/bytealg.MaxLen"], apart := false, laid := [("unicode/utf8.acceptRanges", laid_unicode_utf8_acceptRanges), ("unicode/utf8.first", laid_unicode_utf8_first)], narrowed := true }
def FnStampOfUptoSaid : Prop := fnStampOfUptoRow.holds Tryd.pinned (OpenSpec.upto fnStampOfSpec)

/-- 'laws.FnValidPart', WHERE WHAT IT READS IS OF BULK AT MOST 1048576: true; the input reads as it did. -/
def fnValidPartUptoRow : OpenClaim := { program := "ytfjdmcbcojlnmaadoor", sum := "3f70dcc6de80c2ab9dad66451832789d6035e9cb5b18f42eb7a09632740431a4", func := "loop.example/importhouse/laws.FnValidPart", spec := "fnValidPart", inPlace := ["internal/bytealg.CountString", "internal/bytealg.IndexByteString", "internal/bytealg.IndexString"], named := ["unicode/utf8.first", "unicode/utf8.acceptRanges", "internal/bytealg.MaxLen"], apart := false, laid := [("unicode/utf8.acceptRanges", laid_unicode_utf8_acceptRanges), ("unicode/utf8.first", laid_unicode_utf8_first)], narrowed := true }
def FnValidPartUptoSaid : Prop := fnValidPartUptoRow.holds Tryd.pinned (OpenSpec.upto fnValidPartSpec)

/-- 'laws.FnExactLastOf', WHERE WHAT IT READS IS OF BULK AT MOST 1048576: true; the input reads as it did. -/
def fnExactLastOfUptoRow : OpenClaim := { program := "ytfjdmcbcojlnmaadoor", sum := "3f70dcc6de80c2ab9dad66451832789d6035e9cb5b18f42eb7a09632740431a4", func := "loop.example/importhouse/laws.FnExactLastOf", spec := "fnExactLastOf", inPlace := ["internal/bytealg.CountString", "internal/bytealg.IndexByteString", "internal/bytealg.IndexString"], named := ["unicode/utf8.first", "unicode/utf8.acceptRanges", "internal/bytealg.MaxLen"], apart := false, laid := [("unicode/utf8.acceptRanges", laid_unicode_utf8_acceptRanges), ("unicode/utf8.first", laid_unicode_utf8_first)], narrowed := true }
def FnExactLastOfUptoSaid : Prop := fnExactLastOfUptoRow.holds Tryd.pinned (OpenSpec.upto fnExactLastOfSpec)

/-- 'laws.FnExactChildOf', WHERE WHAT IT READS IS OF BULK AT MOST 1048576: true; the input reads as it did. -/
def fnExactChildOfUptoRow : OpenClaim := { program := "ytfjdmcbcojlnmaadoor", sum := "3f70dcc6de80c2ab9dad66451832789d6035e9cb5b18f42eb7a09632740431a4", func := "loop.example/importhouse/laws.FnExactChildOf", spec := "fnExactChildOf", inPlace := ["internal/bytealg.CountString", "internal/bytealg.IndexByteString", "internal/bytealg.IndexString"], named := ["unicode/utf8.first", "unicode/utf8.acceptRanges", "internal/bytealg.MaxLen"], apart := false, laid := [("unicode/utf8.acceptRanges", laid_unicode_utf8_acceptRanges), ("unicode/utf8.first", laid_unicode_utf8_first)], narrowed := true }
def FnExactChildOfUptoSaid : Prop := fnExactChildOfUptoRow.holds Tryd.pinned (OpenSpec.upto fnExactChildOfSpec)

/-- 'laws.FnExactParentOf', WHERE WHAT IT READS IS OF BULK AT MOST 1048576: true; the input reads as it did. -/
def fnExactParentOfUptoRow : OpenClaim := { program := "ytfjdmcbcojlnmaadoor", sum := "3f70dcc6de80c2ab9dad66451832789d6035e9cb5b18f42eb7a09632740431a4", func := "loop.example/importhouse/laws.FnExactParentOf", spec := "fnExactParentOf", inPlace := ["internal/bytealg.CountString", "internal/bytealg.IndexByteString", "internal/bytealg.IndexString"], named := ["unicode/utf8.first", "unicode/utf8.acceptRanges", "internal/bytealg.MaxLen"], apart := false, laid := [("unicode/utf8.acceptRanges", laid_unicode_utf8_acceptRanges), ("unicode/utf8.first", laid_unicode_utf8_first)], narrowed := true }
def FnExactParentOfUptoSaid : Prop := fnExactParentOfUptoRow.holds Tryd.pinned (OpenSpec.upto fnExactParentOfSpec)

/-- 'laws.FnExactPartsOf', WHERE WHAT IT READS IS OF BULK AT MOST 1048576: true; the input reads as it did. -/
def fnExactPartsOfUptoRow : OpenClaim := { program := "ytfjdmcbcojlnmaadoor", sum := "3f70dcc6de80c2ab9dad66451832789d6035e9cb5b18f42eb7a09632740431a4", func := "loop.example/importhouse/laws.FnExactPartsOf", spec := "fnExactPartsOf", inPlace := ["internal/bytealg.CountString", "internal/bytealg.IndexByteString", "internal/bytealg.IndexString"], named := ["unicode/utf8.first", "unicode/utf8.acceptRanges", "internal/bytealg.MaxLen"], apart := false, laid := [("unicode/utf8.acceptRanges", laid_unicode_utf8_acceptRanges), ("unicode/utf8.first", laid_unicode_utf8_first)], narrowed := true }
def FnExactPartsOfUptoSaid : Prop := fnExactPartsOfUptoRow.holds Tryd.pinned (OpenSpec.upto fnExactPartsOfSpec)

end Rows
end Go.Proofs.YtfjdmcbcojlnmaaDoor
