/-
  DERIVED. GIVEN WITH THE SEED: THE CARDS: each row of YtaohgpjjbhojlaaDoorRows.lean that lists a variable, with what it lists TIED to the program's text (the seventh form; the later family's looks); each row that meets fmt, with fmt's text TOLD by the authors' own Lean function (tested against real Go, not proved from fmt's source: count such statements apart). THE CARD IS WHAT COUNTS. Prove the row's statement (the work); the ties are given (YtaohgpjjbhojlaaDoorTie.lean); close each card by the builder's one call (the guide's Derived/Test/ToyasCard.lean, 'card_holds'). Laid BY PROGRAM, IN A SANDBOX (cutbox-door.mjs). By AI agents, Wed Nov 11 2026. No macro, syntax, notation, axiom, sorry.
-/
import Derived.Test.YtaohgpjjbhojlaaDoorRows
import GoSem.ClaimSeven
namespace Go.Proofs.YtaohgpjjbhojlaaDoor
namespace Rows

/-- THE TIED CARD OF 'laws.FnExactCompileFile'. -/
def fnExactCompileFileCard : Claim7 := { stood := { row := fnExactCompileFileRow, standIns := [], harness := (true, "94df913ff014238960b9d8523ddb9b9dbd00a1ecc9a6a8228fee366bc75b1839"), looks := false }, kinds := [], alts := [], laidByText := true, laidKinds := [.data, .pinned], laidTests := true, laidLooks := .later }
def FnExactCompileFileCardSaid : Prop := Claim7.holds Tryd.pinned (.plain (OpenSpec.ofChange fnExactCompileFileSpec)) fnExactCompileFileCard

/-- THE SECOND FORM's CARD OF 'laws.FnExactCompileFile'. -/
def fnExactCompileFileUptoCard : Claim7 := { stood := { row := fnExactCompileFileUptoRow, standIns := [], harness := (true, "94df913ff014238960b9d8523ddb9b9dbd00a1ecc9a6a8228fee366bc75b1839"), looks := false }, kinds := [], alts := [], laidByText := true, laidKinds := [.data, .pinned], laidTests := true, laidLooks := .later }
def FnExactCompileFileUptoCardSaid : Prop := Claim7.holds Tryd.pinned (.plain (OpenSpec.upto fnExactCompileFileSpec)) fnExactCompileFileUptoCard
end Rows
end Go.Proofs.YtaohgpjjbhojlaaDoor
