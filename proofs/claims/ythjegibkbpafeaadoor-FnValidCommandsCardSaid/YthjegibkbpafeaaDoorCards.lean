/-
  DERIVED. GIVEN WITH THE SEED: THE CARDS: each row of YthjegibkbpafeaaDoorRows.lean that lists a variable, with what it lists TIED to the program's text (the seventh form; the later family's looks); each row that meets fmt, with fmt's text TOLD by the authors' own Lean function (tested against real Go, not proved from fmt's source: count such statements apart). THE CARD IS WHAT COUNTS. Prove the row's statement (the work); the ties are given (YthjegibkbpafeaaDoorTie.lean); close each card by the builder's one call (the guide's Derived/Test/ToyasCard.lean, 'card_holds'). Laid BY PROGRAM, IN A SANDBOX (cutbox-door.mjs). By AI agents, Wed Nov 11 2026. No macro, syntax, notation, axiom, sorry.
-/
import Derived.Test.YthjegibkbpafeaaDoorRows
import GoSem.ClaimSeven
namespace Go.Proofs.YthjegibkbpafeaaDoor
namespace Rows

/-- THE TIED CARD OF 'laws.FnValidCommands'. -/
def fnValidCommandsCard : Claim7 := { stood := { row := fnValidCommandsRow, standIns := [], harness := (true, "e6d7f019d92c54d371453c459d7bd5086303e6452ed96aa5455b1e9e2996417e"), looks := false }, kinds := [], alts := [], laidByText := true, laidKinds := [.data, .pinned], laidTests := true, laidLooks := .later }
def FnValidCommandsCardSaid : Prop := Claim7.holds Tryd.pinned (.plain (OpenSpec.ofChange fnValidCommandsSpec)) fnValidCommandsCard

/-- THE TIED CARD OF 'laws.FnValidTree'. -/
def fnValidTreeCard : Claim7 := { stood := { row := fnValidTreeRow, standIns := [], harness := (true, "e6d7f019d92c54d371453c459d7bd5086303e6452ed96aa5455b1e9e2996417e"), looks := false }, kinds := [], alts := [], laidByText := true, laidKinds := [.data, .pinned], laidTests := true, laidLooks := .later }
def FnValidTreeCardSaid : Prop := Claim7.holds Tryd.pinned (.plain (OpenSpec.ofChange fnValidTreeSpec)) fnValidTreeCard

/-- THE TIED CARD OF 'laws.FnRemoveFile'. -/
def fnRemoveFileCard : Claim7 := { stood := { row := fnRemoveFileRow, standIns := [], harness := (true, "e6d7f019d92c54d371453c459d7bd5086303e6452ed96aa5455b1e9e2996417e"), looks := false }, kinds := [], alts := [], laidByText := true, laidKinds := [.data, .pinned], laidTests := true, laidLooks := .later }
def FnRemoveFileCardSaid : Prop := Claim7.holds Tryd.pinned (.plain (OpenSpec.ofChange fnRemoveFileSpec)) fnRemoveFileCard

/-- THE SECOND FORM's CARD OF 'laws.FnValidCommands'. -/
def fnValidCommandsUptoCard : Claim7 := { stood := { row := fnValidCommandsUptoRow, standIns := [], harness := (true, "e6d7f019d92c54d371453c459d7bd5086303e6452ed96aa5455b1e9e2996417e"), looks := false }, kinds := [], alts := [], laidByText := true, laidKinds := [.data, .pinned], laidTests := true, laidLooks := .later }
def FnValidCommandsUptoCardSaid : Prop := Claim7.holds Tryd.pinned (.plain (OpenSpec.upto fnValidCommandsSpec)) fnValidCommandsUptoCard

/-- THE SECOND FORM's CARD OF 'laws.FnValidTree'. -/
def fnValidTreeUptoCard : Claim7 := { stood := { row := fnValidTreeUptoRow, standIns := [], harness := (true, "e6d7f019d92c54d371453c459d7bd5086303e6452ed96aa5455b1e9e2996417e"), looks := false }, kinds := [], alts := [], laidByText := true, laidKinds := [.data, .pinned], laidTests := true, laidLooks := .later }
def FnValidTreeUptoCardSaid : Prop := Claim7.holds Tryd.pinned (.plain (OpenSpec.upto fnValidTreeSpec)) fnValidTreeUptoCard

/-- THE SECOND FORM's CARD OF 'laws.FnRemoveFile'. -/
def fnRemoveFileUptoCard : Claim7 := { stood := { row := fnRemoveFileUptoRow, standIns := [], harness := (true, "e6d7f019d92c54d371453c459d7bd5086303e6452ed96aa5455b1e9e2996417e"), looks := false }, kinds := [], alts := [], laidByText := true, laidKinds := [.data, .pinned], laidTests := true, laidLooks := .later }
def FnRemoveFileUptoCardSaid : Prop := Claim7.holds Tryd.pinned (.plain (OpenSpec.upto fnRemoveFileSpec)) fnRemoveFileUptoCard
end Rows
end Go.Proofs.YthjegibkbpafeaaDoor
