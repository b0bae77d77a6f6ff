/-
  DERIVED. GIVEN WITH THE SEED: THE CARDS: each row of YteccopgnlbphbaaDoorRows.lean that lists a variable, with what it lists TIED to the program's text (the seventh form; the later family's looks); each row that meets fmt, with fmt's text TOLD by the authors' own Lean function (tested against real Go, not proved from fmt's source: count such statements apart). THE CARD IS WHAT COUNTS. Prove the row's statement (the work); the ties are given (YteccopgnlbphbaaDoorTie.lean); close each card by the builder's one call (the guide's Derived/Test/ToyasCard.lean, 'card_holds'). Laid BY PROGRAM, IN A SANDBOX (cutbox-door.mjs). By AI agents, Wed Nov 11 2026. No macro, syntax, notation, axiom, sorry.
-/
import Derived.Test.YteccopgnlbphbaaDoorRows
import GoSem.ClaimSeven
namespace Go.Proofs.YteccopgnlbphbaaDoor
namespace Rows

/-- THE TIED CARD OF 'laws.FnExactForgetAll'. -/
def fnExactForgetAllCard : Claim7 := { stood := { row := fnExactForgetAllRow, standIns := [], harness := (true, "79604ff8fd9e95fac20241c0c1f67fbc9986830bec12a38b5f00c9857ad5c36c"), looks := false }, kinds := [], alts := [], laidByText := true, laidKinds := [.data, .pinned], laidTests := true, laidLooks := .later }
def FnExactForgetAllCardSaid : Prop := Claim7.holds Tryd.pinned (.plain (OpenSpec.ofChange fnExactForgetAllSpec)) fnExactForgetAllCard

/-- THE TIED CARD OF 'laws.FnExactValidStore'. -/
def fnExactValidStoreCard : Claim7 := { stood := { row := fnExactValidStoreRow, standIns := [], harness := (true, "79604ff8fd9e95fac20241c0c1f67fbc9986830bec12a38b5f00c9857ad5c36c"), looks := false }, kinds := [], alts := [], laidByText := true, laidKinds := [.data, .pinned], laidTests := true, laidLooks := .later }
def FnExactValidStoreCardSaid : Prop := Claim7.holds Tryd.pinned (.plain (OpenSpec.ofChange fnExactValidStoreSpec)) fnExactValidStoreCard

/-- THE TIED CARD OF 'laws.FnValidStore'. -/
def fnValidStoreCard : Claim7 := { stood := { row := fnValidStoreRow, standIns := [], harness := (true, "79604ff8fd9e95fac20241c0c1f67fbc9986830bec12a38b5f00c9857ad5c36c"), looks := false }, kinds := [], alts := [], laidByText := true, laidKinds := [.data, .pinned], laidTests := true, laidLooks := .later }
def FnValidStoreCardSaid : Prop := Claim7.holds Tryd.pinned (.plain (OpenSpec.ofChange fnValidStoreSpec)) fnValidStoreCard

/-- THE TIED CARD OF 'laws.FnExactIsUsable'. -/
def fnExactIsUsableCard : Claim7 := { stood := { row := fnExactIsUsableRow, standIns := [], harness := (true, "79604ff8fd9e95fac20241c0c1f67fbc9986830bec12a38b5f00c9857ad5c36c"), looks := false }, kinds := [], alts := [], laidByText := true, laidKinds := [.data, .pinned], laidTests := true, laidLooks := .later }
def FnExactIsUsableCardSaid : Prop := Claim7.holds Tryd.pinned (.plain (OpenSpec.ofChange fnExactIsUsableSpec)) fnExactIsUsableCard

/-- THE TIED CARD OF 'laws.FnIsUsable'. -/
def fnIsUsableCard : Claim7 := { stood := { row := fnIsUsableRow, standIns := [], harness := (true, "79604ff8fd9e95fac20241c0c1f67fbc9986830bec12a38b5f00c9857ad5c36c"), looks := false }, kinds := [], alts := [], laidByText := true, laidKinds := [.data, .pinned], laidTests := true, laidLooks := .later }
def FnIsUsableCardSaid : Prop := Claim7.holds Tryd.pinned (.plain (OpenSpec.ofChange fnIsUsableSpec)) fnIsUsableCard

/-- THE TIED CARD OF 'laws.FnCompileFile'. -/
def fnCompileFileCard : Claim7 := { stood := { row := fnCompileFileRow, standIns := [], harness := (true, "79604ff8fd9e95fac20241c0c1f67fbc9986830bec12a38b5f00c9857ad5c36c"), looks := false }, kinds := [], alts := [], laidByText := true, laidKinds := [.data, .pinned], laidTests := true, laidLooks := .later }
def FnCompileFileCardSaid : Prop := Claim7.holds Tryd.pinned (.plain (OpenSpec.ofChange fnCompileFileSpec)) fnCompileFileCard

/-- THE SECOND FORM's CARD OF 'laws.FnExactForgetAll'. -/
def fnExactForgetAllUptoCard : Claim7 := { stood := { row := fnExactForgetAllUptoRow, standIns := [], harness := (true, "79604ff8fd9e95fac20241c0c1f67fbc9986830bec12a38b5f00c9857ad5c36c"), looks := false }, kinds := [], alts := [], laidByText := true, laidKinds := [.data, .pinned], laidTests := true, laidLooks := .later }
def FnExactForgetAllUptoCardSaid : Prop := Claim7.holds Tryd.pinned (.plain (OpenSpec.upto fnExactForgetAllSpec)) fnExactForgetAllUptoCard

/-- THE SECOND FORM's CARD OF 'laws.FnExactValidStore'. -/
def fnExactValidStoreUptoCard : Claim7 := { stood := { row := fnExactValidStoreUptoRow, standIns := [], harness := (true, "79604ff8fd9e95fac20241c0c1f67fbc9986830bec12a38b5f00c9857ad5c36c"), looks := false }, kinds := [], alts := [], laidByText := true, laidKinds := [.data, .pinned], laidTests := true, laidLooks := .later }
def FnExactValidStoreUptoCardSaid : Prop := Claim7.holds Tryd.pinned (.plain (OpenSpec.upto fnExactValidStoreSpec)) fnExactValidStoreUptoCard

/-- THE SECOND FORM's CARD OF 'laws.FnValidStore'. -/
def fnValidStoreUptoCard : Claim7 := { stood := { row := fnValidStoreUptoRow, standIns := [], harness := (true, "79604ff8fd9e95fac20241c0c1f67fbc9986830bec12a38b5f00c9857ad5c36c"), looks := false }, kinds := [], alts := [], laidByText := true, laidKinds := [.data, .pinned], laidTests := true, laidLooks := .later }
def FnValidStoreUptoCardSaid : Prop := Claim7.holds Tryd.pinned (.plain (OpenSpec.upto fnValidStoreSpec)) fnValidStoreUptoCard

/-- THE SECOND FORM's CARD OF 'laws.FnExactIsUsable'. -/
def fnExactIsUsableUptoCard : Claim7 := { stood := { row := fnExactIsUsableUptoRow, standIns := [], harness := (true, "79604ff8fd9e95fac20241c0c1f67fbc9986830bec12a38b5f00c9857ad5c36c"), looks := false }, kinds := [], alts := [], laidByText := true, laidKinds := [.data, .pinned], laidTests := true, laidLooks := .later }
def FnExactIsUsableUptoCardSaid : Prop := Claim7.holds Tryd.pinned (.plain (OpenSpec.upto fnExactIsUsableSpec)) fnExactIsUsableUptoCard

/-- THE SECOND FORM's CARD OF 'laws.FnIsUsable'. -/
def fnIsUsableUptoCard : Claim7 := { stood := { row := fnIsUsableUptoRow, standIns := [], harness := (true, "79604ff8fd9e95fac20241c0c1f67fbc9986830bec12a38b5f00c9857ad5c36c"), looks := false }, kinds := [], alts := [], laidByText := true, laidKinds := [.data, .pinned], laidTests := true, laidLooks := .later }
def FnIsUsableUptoCardSaid : Prop := Claim7.holds Tryd.pinned (.plain (OpenSpec.upto fnIsUsableSpec)) fnIsUsableUptoCard

/-- THE SECOND FORM's CARD OF 'laws.FnCompileFile'. -/
def fnCompileFileUptoCard : Claim7 := { stood := { row := fnCompileFileUptoRow, standIns := [], harness := (true, "79604ff8fd9e95fac20241c0c1f67fbc9986830bec12a38b5f00c9857ad5c36c"), looks := false }, kinds := [], alts := [], laidByText := true, laidKinds := [.data, .pinned], laidTests := true, laidLooks := .later }
def FnCompileFileUptoCardSaid : Prop := Claim7.holds Tryd.pinned (.plain (OpenSpec.upto fnCompileFileSpec)) fnCompileFileUptoCard
end Rows
end Go.Proofs.YteccopgnlbphbaaDoor
