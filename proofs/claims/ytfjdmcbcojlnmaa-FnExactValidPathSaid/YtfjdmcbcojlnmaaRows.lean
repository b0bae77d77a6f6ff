/-
  No cell of these rows narrows 'for every input' (looked for: loops, veiled, ifaces, maps, wideKeys, modest, calm, conditions, laid).
  DERIVED. THE GIVEN ROWS OF THIS SEAT. 4 by the template 'for every input the law returns true; each argument reads behind the call as it read before'; 0 by the template 'total and deterministic' (their statements: YtfjdmcbcojlnmaaTotals.lean).
  GIVEN WITH THE SEED: the statements are not yours to turn. If you find one false, say at which input.
  Laid BY PROGRAM, IN A SANDBOX (cutbox-rows.mjs): the forced cells as the released guide's own fill.sh prints them over the translation 60285e1d8ad43210… (all of the seat's roots in one cut). By AI agents, Wed Nov 11 2026. No macro, syntax, notation, axiom, sorry.
-/
import Derived.Test.YtfjdmcbcojlnmaaChecked
import GoSem.Claim
import GoSem.ClaimJoined
import GoSem.ClaimMapViews
import Derived.JoinedTies
import Derived.KernelRfl
namespace Go.Proofs.Ytfjdmcbcojlnmaa
/- THE CELL 'sum', in the pinned program and in every row, IS THE sha256 OF THE DUMP (.gsa) THAT YtfjdmcbcojlnmaaProg.lean LOADS. Nothing in Lean hashes anything: it is a label: what it is worth is what the hold of that sum in a sandbox is worth. -/
noncomputable def Try.pinned : Pinned := { name := "ytfjdmcbcojlnmaa", sum := "60285e1d8ad432104afa1fb3c157f2d9887992ebf1f2de21888003c70a3ba5f7", checked := Try.checked }
namespace Rows
def none {H : Type} : Left H := { results := [], args := [] }

/-- 'laws.FnExactConstants': WHATEVER THE INPUT: true; the input reads as it did. -/
def fnExactConstantsSpec : ChangeSpec := { name := "fnExactConstants", fn := fun _ => fun
  | [] => { results := [.lit (.bool true)], args := [] }
  | _ => none }
def fnExactConstantsRow : OpenClaim := { program := "ytfjdmcbcojlnmaa", sum := "60285e1d8ad432104afa1fb3c157f2d9887992ebf1f2de21888003c70a3ba5f7", func := "loop.example/importhouse/laws.FnExactConstants", spec := "fnExactConstants", apart := false }
def FnExactConstantsSaid : Prop := fnExactConstantsRow.holds Try.pinned (OpenSpec.ofChange fnExactConstantsSpec)

/-- ITS FALSE NEIGHBOUR: 'it returns false'. Refute it at one input. -/
def fnExactConstantsWrong : ChangeSpec := { name := "fnExactConstants", fn := fun _ => fun
  | [] => { results := [.lit (.bool false)], args := [] }
  | _ => none }
def FnExactConstantsWrongFalsely : Prop := fnExactConstantsRow.holds Try.pinned (OpenSpec.ofChange fnExactConstantsWrong)

/-- 'laws.FnExactValidPart': WHATEVER THE INPUT: true; the input reads as it did. -/
def fnExactValidPartSpec : ChangeSpec := { name := "fnExactValidPart", fn := fun _ => fun
  | [d] => { results := [.lit (.bool true)], args := [d] }
  | _ => none }
def fnExactValidPartRow : OpenClaim := { program := "ytfjdmcbcojlnmaa", sum := "60285e1d8ad432104afa1fb3c157f2d9887992ebf1f2de21888003c70a3ba5f7", func := "loop.example/importhouse/laws.FnExactValidPart", spec := "fnExactValidPart", apart := false }
def FnExactValidPartSaid : Prop := fnExactValidPartRow.holds Try.pinned (OpenSpec.ofChange fnExactValidPartSpec)

/-- ITS FALSE NEIGHBOUR: 'it returns false'. Refute it at one input. -/
def fnExactValidPartWrong : ChangeSpec := { name := "fnExactValidPart", fn := fun _ => fun
  | [d] => { results := [.lit (.bool false)], args := [d] }
  | _ => none }
def FnExactValidPartWrongFalsely : Prop := fnExactValidPartRow.holds Try.pinned (OpenSpec.ofChange fnExactValidPartWrong)

/-- 'laws.FnExactValidPath': WHATEVER THE INPUT: true; the input reads as it did. -/
def fnExactValidPathSpec : ChangeSpec := { name := "fnExactValidPath", fn := fun _ => fun
  | [d] => { results := [.lit (.bool true)], args := [d] }
  | _ => none }
def fnExactValidPathRow : OpenClaim := { program := "ytfjdmcbcojlnmaa", sum := "60285e1d8ad432104afa1fb3c157f2d9887992ebf1f2de21888003c70a3ba5f7", func := "loop.example/importhouse/laws.FnExactValidPath", spec := "fnExactValidPath", apart := false }
def FnExactValidPathSaid : Prop := fnExactValidPathRow.holds Try.pinned (OpenSpec.ofChange fnExactValidPathSpec)

/-- ITS FALSE NEIGHBOUR: 'it returns false'. Refute it at one input. -/
def fnExactValidPathWrong : ChangeSpec := { name := "fnExactValidPath", fn := fun _ => fun
  | [d] => { results := [.lit (.bool false)], args := [d] }
  | _ => none }
def FnExactValidPathWrongFalsely : Prop := fnExactValidPathRow.holds Try.pinned (OpenSpec.ofChange fnExactValidPathWrong)

/-- 'laws.FnValidPath': WHATEVER THE INPUT: true; the input reads as it did. -/
def fnValidPathSpec : ChangeSpec := { name := "fnValidPath", fn := fun _ => fun
  | [d] => { results := [.lit (.bool true)], args := [d] }
  | _ => none }
def fnValidPathRow : OpenClaim := { program := "ytfjdmcbcojlnmaa", sum := "60285e1d8ad432104afa1fb3c157f2d9887992ebf1f2de21888003c70a3ba5f7", func := "loop.example/importhouse/laws.FnValidPath", spec := "fnValidPath", apart := false }
def FnValidPathSaid : Prop := fnValidPathRow.holds Try.pinned (OpenSpec.ofChange fnValidPathSpec)

/-- ITS FALSE NEIGHBOUR: 'it returns false'. Refute it at one input. -/
def fnValidPathWrong : ChangeSpec := { name := "fnValidPath", fn := fun _ => fun
  | [d] => { results := [.lit (.bool false)], args := [d] }
  | _ => none }
def FnValidPathWrongFalsely : Prop := fnValidPathRow.holds Try.pinned (OpenSpec.ofChange fnValidPathWrong)

/- THE SECOND FORM. 'bulk': how many values and letters a reading holds, each counted each time it is reached (what is shared counts as often as it is met; a slice's spare places count too). A statement '..UptoSaid' is the law's where the arguments, and the package variables that the reading takes, are together of bulk at most 1048576: NARROWER than '..Said'. Prove '..Said' where nothing that the law and all that it calls make is longer than what came in: it says more and counts as full. Else prove '..UptoSaid'. A law counts once. -/
mutual
def uptoBulk {H : Type} : DataW H → Nat
  | .lit (.string bytes) => bytes.length + 1
  | .lit _ => 1
  | .nil => 1
  | .ptr d => uptoBulk d + 1
  | .slice elems spare => uptoBulkAll elems + uptoBulkAll spare + 1
  | .agg parts => uptoBulkAll parts + 1
  | .iface _ d => uptoBulk d + 1
  | .map entries => uptoBulkEntries entries + 1
  | .held _ => 1
def uptoBulkAll {H : Type} : List (DataW H) → Nat
  | [] => 0
  | d :: r => uptoBulk d + uptoBulkAll r
def uptoBulkEntries {H : Type} : List (Lit × DataW H) → Nat
  | [] => 0
  | x :: r => uptoBulkEntry x + uptoBulkEntries r
def uptoBulkEntry {H : Type} : Lit × DataW H → Nat
  | (.string bytes, d) => bytes.length + uptoBulk d + 1
  | (_, d) => uptoBulk d + 1
 end
def uptoSmall : (H : Type) → List (DataW H) → Bool := fun _ ds => decide (uptoBulkAll ds ≤ 1048576)
def OpenSpec.upto (s : _root_.Go.ChangeSpec) : _root_.Go.OpenSpec := { _root_.Go.OpenSpec.ofChange s with cond := some uptoSmall }

/-- 'laws.FnExactConstants', WHERE WHAT IT READS IS OF BULK AT MOST 1048576: true; the input reads as it did. -/
def fnExactConstantsUptoRow : OpenClaim := { program := "ytfjdmcbcojlnmaa", sum := "60285e1d8ad432104afa1fb3c157f2d9887992ebf1f2de21888003c70a3ba5f7", func := "loop.example/importhouse/laws.FnExactConstants", spec := "fnExactConstants", apart := false, narrowed := true }
def FnExactConstantsUptoSaid : Prop := fnExactConstantsUptoRow.holds Try.pinned (OpenSpec.upto fnExactConstantsSpec)

/-- 'laws.FnExactValidPart', WHERE WHAT IT READS IS OF BULK AT MOST 1048576: true; the input reads as it did. -/
def fnExactValidPartUptoRow : OpenClaim := { program := "ytfjdmcbcojlnmaa", sum := "60285e1d8ad432104afa1fb3c157f2d9887992ebf1f2de21888003c70a3ba5f7", func := "loop.example/importhouse/laws.FnExactValidPart", spec := "fnExactValidPart", apart := false, narrowed := true }
def FnExactValidPartUptoSaid : Prop := fnExactValidPartUptoRow.holds Try.pinned (OpenSpec.upto fnExactValidPartSpec)

/-- 'laws.FnExactValidPath', WHERE WHAT IT READS IS OF BULK AT MOST 1048576: true; the input reads as it did. -/
def fnExactValidPathUptoRow : OpenClaim := { program := "ytfjdmcbcojlnmaa", sum := "60285e1d8ad432104afa1fb3c157f2d9887992ebf1f2de21888003c70a3ba5f7", func := "loop.example/importhouse/laws.FnExactValidPath", spec := "fnExactValidPath", apart := false, narrowed := true }
def FnExactValidPathUptoSaid : Prop := fnExactValidPathUptoRow.holds Try.pinned (OpenSpec.upto fnExactValidPathSpec)

/-- 'laws.FnValidPath', WHERE WHAT IT READS IS OF BULK AT MOST 1048576: true; the input reads as it did. -/
def fnValidPathUptoRow : OpenClaim := { program := "ytfjdmcbcojlnmaa", sum := "60285e1d8ad432104afa1fb3c157f2d9887992ebf1f2de21888003c70a3ba5f7", func := "loop.example/importhouse/laws.FnValidPath", spec := "fnValidPath", apart := false, narrowed := true }
def FnValidPathUptoSaid : Prop := fnValidPathUptoRow.holds Try.pinned (OpenSpec.upto fnValidPathSpec)

end Rows
end Go.Proofs.Ytfjdmcbcojlnmaa
