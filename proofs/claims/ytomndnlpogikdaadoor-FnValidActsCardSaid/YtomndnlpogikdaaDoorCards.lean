/-
  DERIVED. GIVEN WITH THE SEED: THE CARDS: each row of YtomndnlpogikdaaDoorRows.lean that lists a variable, with what it lists TIED to the program's text (the seventh form; the later family's looks); each row that meets fmt, with fmt's text TOLD by the authors' own Lean function (tested against real Go, not proved from fmt's source: count such statements apart). THE CARD IS WHAT COUNTS. Prove the row's statement (the work); the ties are given (YtomndnlpogikdaaDoorTie.lean); close each card by the builder's one call (the guide's Derived/Test/ToyasCard.lean, 'card_holds'). Laid BY PROGRAM, IN A SANDBOX (cutbox-door.mjs). By AI agents, Wed Nov 11 2026. No macro, syntax, notation, axiom, sorry.
-/
import Derived.Test.YtomndnlpogikdaaDoorRows
import GoSem.ClaimSeven
namespace Go.Proofs.YtomndnlpogikdaaDoor
namespace Rows

/-- THE TIED CARD OF 'laws.FnExactAddFile'. -/
def fnExactAddFileCard : Claim7 := { stood := { row := fnExactAddFileRow, standIns := [], harness := (true, "c9b0cb061dedc864c21a10af5ce3f8b7b220bf8cb63d4231c14f09e13ba936bd"), looks := false }, kinds := [], alts := [], laidByText := true, laidKinds := [.data, .pinned], laidTests := true, laidLooks := .later }
def FnExactAddFileCardSaid : Prop := Claim7.holds Tryd.pinned (.plain (OpenSpec.ofChange fnExactAddFileSpec)) fnExactAddFileCard

/-- THE TIED CARD OF 'laws.FnExactEditFile'. -/
def fnExactEditFileCard : Claim7 := { stood := { row := fnExactEditFileRow, standIns := [], harness := (true, "c9b0cb061dedc864c21a10af5ce3f8b7b220bf8cb63d4231c14f09e13ba936bd"), looks := false }, kinds := [], alts := [], laidByText := true, laidKinds := [.data, .pinned], laidTests := true, laidLooks := .later }
def FnExactEditFileCardSaid : Prop := Claim7.holds Tryd.pinned (.plain (OpenSpec.ofChange fnExactEditFileSpec)) fnExactEditFileCard

/-- THE TIED CARD OF 'laws.FnValidCommands'. -/
def fnValidCommandsCard : Claim7 := { stood := { row := fnValidCommandsRow, standIns := [], harness := (true, "c9b0cb061dedc864c21a10af5ce3f8b7b220bf8cb63d4231c14f09e13ba936bd"), looks := false }, kinds := [], alts := [], laidByText := true, laidKinds := [.data, .pinned], laidTests := true, laidLooks := .later }
def FnValidCommandsCardSaid : Prop := Claim7.holds Tryd.pinned (.plain (OpenSpec.ofChange fnValidCommandsSpec)) fnValidCommandsCard

/-- THE TIED CARD OF 'laws.FnValidActs'. -/
def fnValidActsCard : Claim7 := { stood := { row := fnValidActsRow, standIns := [], harness := (true, "c9b0cb061dedc864c21a10af5ce3f8b7b220bf8cb63d4231c14f09e13ba936bd"), looks := false }, kinds := [], alts := [], laidByText := true, laidKinds := [.data, .pinned], laidTests := true, laidLooks := .later }
def FnValidActsCardSaid : Prop := Claim7.holds Tryd.pinned (.plain (OpenSpec.ofChange fnValidActsSpec)) fnValidActsCard

/-- THE TIED CARD OF 'laws.FnValidTree'. -/
def fnValidTreeCard : Claim7 := { stood := { row := fnValidTreeRow, standIns := [], harness := (true, "c9b0cb061dedc864c21a10af5ce3f8b7b220bf8cb63d4231c14f09e13ba936bd"), looks := false }, kinds := [], alts := [], laidByText := true, laidKinds := [.data, .pinned], laidTests := true, laidLooks := .later }
def FnValidTreeCardSaid : Prop := Claim7.holds Tryd.pinned (.plain (OpenSpec.ofChange fnValidTreeSpec)) fnValidTreeCard

/-- THE TIED CARD OF 'laws.FnExactValidActs'. -/
def fnExactValidActsCard : Claim7 := { stood := { row := fnExactValidActsRow, standIns := [], harness := (true, "c9b0cb061dedc864c21a10af5ce3f8b7b220bf8cb63d4231c14f09e13ba936bd"), looks := false }, kinds := [], alts := [], laidByText := true, laidKinds := [.data, .pinned], laidTests := true, laidLooks := .later }
def FnExactValidActsCardSaid : Prop := Claim7.holds Tryd.pinned (.plain (OpenSpec.ofChange fnExactValidActsSpec)) fnExactValidActsCard

/-- THE TIED CARD OF 'laws.FnRemoveFile'. -/
def fnRemoveFileCard : Claim7 := { stood := { row := fnRemoveFileRow, standIns := [], harness := (true, "c9b0cb061dedc864c21a10af5ce3f8b7b220bf8cb63d4231c14f09e13ba936bd"), looks := false }, kinds := [], alts := [], laidByText := true, laidKinds := [.data, .pinned], laidTests := true, laidLooks := .later }
def FnRemoveFileCardSaid : Prop := Claim7.holds Tryd.pinned (.plain (OpenSpec.ofChange fnRemoveFileSpec)) fnRemoveFileCard

/-- THE SECOND FORM's CARD OF 'laws.FnExactAddFile'. -/
def fnExactAddFileUptoCard : Claim7 := { stood := { row := fnExactAddFileUptoRow, standIns := [], harness := (true, "c9b0cb061dedc864c21a10af5ce3f8b7b220bf8cb63d4231c14f09e13ba936bd"), looks := false }, kinds := [], alts := [], laidByText := true, laidKinds := [.data, .pinned], laidTests := true, laidLooks := .later }
def FnExactAddFileUptoCardSaid : Prop := Claim7.holds Tryd.pinned (.plain (OpenSpec.upto fnExactAddFileSpec)) fnExactAddFileUptoCard

/-- THE SECOND FORM's CARD OF 'laws.FnExactEditFile'. -/
def fnExactEditFileUptoCard : Claim7 := { stood := { row := fnExactEditFileUptoRow, standIns := [], harness := (true, "c9b0cb061dedc864c21a10af5ce3f8b7b220bf8cb63d4231c14f09e13ba936bd"), looks := false }, kinds := [], alts := [], laidByText := true, laidKinds := [.data, .pinned], laidTests := true, laidLooks := .later }
def FnExactEditFileUptoCardSaid : Prop := Claim7.holds Tryd.pinned (.plain (OpenSpec.upto fnExactEditFileSpec)) fnExactEditFileUptoCard

/-- THE SECOND FORM's CARD OF 'laws.FnValidCommands'. -/
def fnValidCommandsUptoCard : Claim7 := { stood := { row := fnValidCommandsUptoRow, standIns := [], harness := (true, "c9b0cb061dedc864c21a10af5ce3f8b7b220bf8cb63d4231c14f09e13ba936bd"), looks := false }, kinds := [], alts := [], laidByText := true, laidKinds := [.data, .pinned], laidTests := true, laidLooks := .later }
def FnValidCommandsUptoCardSaid : Prop := Claim7.holds Tryd.pinned (.plain (OpenSpec.upto fnValidCommandsSpec)) fnValidCommandsUptoCard

/-- THE SECOND FORM's CARD OF 'laws.FnValidActs'. -/
def fnValidActsUptoCard : Claim7 := { stood := { row := fnValidActsUptoRow, standIns := [], harness := (true, "c9b0cb061dedc864c21a10af5ce3f8b7b220bf8cb63d4231c14f09e13ba936bd"), looks := false }, kinds := [], alts := [], laidByText := true, laidKinds := [.data, .pinned], laidTests := true, laidLooks := .later }
def FnValidActsUptoCardSaid : Prop := Claim7.holds Tryd.pinned (.plain (OpenSpec.upto fnValidActsSpec)) fnValidActsUptoCard

/-- THE SECOND FORM's CARD OF 'laws.FnValidTree'. -/
def fnValidTreeUptoCard : Claim7 := { stood := { row := fnValidTreeUptoRow, standIns := [], harness := (true, "c9b0cb061dedc864c21a10af5ce3f8b7b220bf8cb63d4231c14f09e13ba936bd"), looks := false }, kinds := [], alts := [], laidByText := true, laidKinds := [.data, .pinned], laidTests := true, laidLooks := .later }
def FnValidTreeUptoCardSaid : Prop := Claim7.holds Tryd.pinned (.plain (OpenSpec.upto fnValidTreeSpec)) fnValidTreeUptoCard

/-- THE SECOND FORM's CARD OF 'laws.FnExactValidActs'. -/
def fnExactValidActsUptoCard : Claim7 := { stood := { row := fnExactValidActsUptoRow, standIns := [], harness := (true, "c9b0cb061dedc864c21a10af5ce3f8b7b220bf8cb63d4231c14f09e13ba936bd"), looks := false }, kinds := [], alts := [], laidByText := true, laidKinds := [.data, .pinned], laidTests := true, laidLooks := .later }
def FnExactValidActsUptoCardSaid : Prop := Claim7.holds Tryd.pinned (.plain (OpenSpec.upto fnExactValidActsSpec)) fnExactValidActsUptoCard

/-- THE SECOND FORM's CARD OF 'laws.FnRemoveFile'. -/
def fnRemoveFileUptoCard : Claim7 := { stood := { row := fnRemoveFileUptoRow, standIns := [], harness := (true, "c9b0cb061dedc864c21a10af5ce3f8b7b220bf8cb63d4231c14f09e13ba936bd"), looks := false }, kinds := [], alts := [], laidByText := true, laidKinds := [.data, .pinned], laidTests := true, laidLooks := .later }
def FnRemoveFileUptoCardSaid : Prop := Claim7.holds Tryd.pinned (.plain (OpenSpec.upto fnRemoveFileSpec)) fnRemoveFileUptoCard
end Rows
end Go.Proofs.YtomndnlpogikdaaDoor
