/-
  DERIVED. GIVEN WITH THE SEED: THE CARDS: each row of YtdlccnlhgobdlaaDoorRows.lean that lists a variable, with what it lists TIED to the program's text (the seventh form; the later family's looks); each row that meets fmt, with fmt's text TOLD by the authors' own Lean function (tested against real Go, not proved from fmt's source: count such statements apart). THE CARD IS WHAT COUNTS. Prove the row's statement (the work); the ties are given (YtdlccnlhgobdlaaDoorTie.lean); close each card by the builder's one call (the guide's Derived/Test/ToyasCard.lean, 'card_holds'). Laid BY PROGRAM, IN A SANDBOX (cutbox-door.mjs). By AI agents, Wed Nov 11 2026. No macro, syntax, notation, axiom, sorry.
-/
import Derived.Test.YtdlccnlhgobdlaaDoorRows
import GoSem.ClaimSeven
namespace Go.Proofs.YtdlccnlhgobdlaaDoor
namespace Rows

/-- THE TIED CARD OF 'laws.FnExactHasDir'. -/
def fnExactHasDirCard : Claim7 := { stood := { row := fnExactHasDirRow, standIns := [], harness := (true, "8cac96f99ec8943b8ee37620a3626b4e2604d42607d0a2b3afa28e8569a40772"), looks := false }, kinds := [], alts := [], laidByText := true, laidKinds := [.data, .pinned], laidTests := true, laidLooks := .later }
def FnExactHasDirCardSaid : Prop := Claim7.holds Tryd.pinned (.plain (OpenSpec.ofChange fnExactHasDirSpec)) fnExactHasDirCard

/-- THE SECOND FORM's CARD OF 'laws.FnExactHasDir'. -/
def fnExactHasDirUptoCard : Claim7 := { stood := { row := fnExactHasDirUptoRow, standIns := [], harness := (true, "8cac96f99ec8943b8ee37620a3626b4e2604d42607d0a2b3afa28e8569a40772"), looks := false }, kinds := [], alts := [], laidByText := true, laidKinds := [.data, .pinned], laidTests := true, laidLooks := .later }
def FnExactHasDirUptoCardSaid : Prop := Claim7.holds Tryd.pinned (.plain (OpenSpec.upto fnExactHasDirSpec)) fnExactHasDirUptoCard
end Rows
end Go.Proofs.YtdlccnlhgobdlaaDoor
