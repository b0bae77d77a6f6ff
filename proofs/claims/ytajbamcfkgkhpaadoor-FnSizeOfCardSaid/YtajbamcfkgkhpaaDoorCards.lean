/-
  DERIVED. GIVEN WITH THE SEED: THE CARDS: each row of YtajbamcfkgkhpaaDoorRows.lean that lists a variable, with what it lists TIED to the program's text (the seventh form; the later family's looks); each row that meets fmt, with fmt's text TOLD by the authors' own Lean function (tested against real Go, not proved from fmt's source: count such statements apart). THE CARD IS WHAT COUNTS. Prove the row's statement (the work); the ties are given (YtajbamcfkgkhpaaDoorTie.lean); close each card by the builder's one call (the guide's Derived/Test/ToyasCard.lean, 'card_holds'). Laid BY PROGRAM, IN A SANDBOX (cutbox-door.mjs). By AI agents, Wed Nov 11 2026. No macro, syntax, notation, axiom, sorry.
-/
import Derived.Test.YtajbamcfkgkhpaaDoorRows
import GoSem.ClaimSeven
namespace Go.Proofs.YtajbamcfkgkhpaaDoor
namespace Rows

/-- THE TIED CARD OF 'laws.FnExactNamesAbove'. -/
def fnExactNamesAboveCard : Claim7 := { stood := { row := fnExactNamesAboveRow, standIns := [], harness := (true, "468b92c88d3a0c6e3e225ae655b2324b44012e450577d38f51fcbde2ae8b40b6"), looks := false }, kinds := [], alts := [], laidByText := true, laidKinds := [.data, .pinned], laidTests := true, laidLooks := .later }
def FnExactNamesAboveCardSaid : Prop := Claim7.holds Tryd.pinned (.plain (OpenSpec.ofChange fnExactNamesAboveSpec)) fnExactNamesAboveCard

/-- THE TIED CARD OF 'laws.FnExactSizeOf'. -/
def fnExactSizeOfCard : Claim7 := { stood := { row := fnExactSizeOfRow, standIns := [], harness := (true, "468b92c88d3a0c6e3e225ae655b2324b44012e450577d38f51fcbde2ae8b40b6"), looks := false }, kinds := [], alts := [], laidByText := true, laidKinds := [.data, .pinned], laidTests := true, laidLooks := .later }
def FnExactSizeOfCardSaid : Prop := Claim7.holds Tryd.pinned (.plain (OpenSpec.ofChange fnExactSizeOfSpec)) fnExactSizeOfCard

/-- THE TIED CARD OF 'laws.FnResolveName'. -/
def fnResolveNameCard : Claim7 := { stood := { row := fnResolveNameRow, standIns := [], harness := (true, "468b92c88d3a0c6e3e225ae655b2324b44012e450577d38f51fcbde2ae8b40b6"), looks := false }, kinds := [], alts := [], laidByText := true, laidKinds := [.data, .pinned], laidTests := true, laidLooks := .later }
def FnResolveNameCardSaid : Prop := Claim7.holds Tryd.pinned (.plain (OpenSpec.ofChange fnResolveNameSpec)) fnResolveNameCard

/-- THE TIED CARD OF 'laws.FnPartsOf'. -/
def fnPartsOfCard : Claim7 := { stood := { row := fnPartsOfRow, standIns := [], harness := (true, "468b92c88d3a0c6e3e225ae655b2324b44012e450577d38f51fcbde2ae8b40b6"), looks := false }, kinds := [], alts := [], laidByText := true, laidKinds := [.data, .pinned], laidTests := true, laidLooks := .later }
def FnPartsOfCardSaid : Prop := Claim7.holds Tryd.pinned (.plain (OpenSpec.ofChange fnPartsOfSpec)) fnPartsOfCard

/-- THE TIED CARD OF 'laws.FnRelativeName'. -/
def fnRelativeNameCard : Claim7 := { stood := { row := fnRelativeNameRow, standIns := [], harness := (true, "468b92c88d3a0c6e3e225ae655b2324b44012e450577d38f51fcbde2ae8b40b6"), looks := false }, kinds := [], alts := [], laidByText := true, laidKinds := [.data, .pinned], laidTests := true, laidLooks := .later }
def FnRelativeNameCardSaid : Prop := Claim7.holds Tryd.pinned (.plain (OpenSpec.ofChange fnRelativeNameSpec)) fnRelativeNameCard

/-- THE TIED CARD OF 'laws.FnSizeOf'. -/
def fnSizeOfCard : Claim7 := { stood := { row := fnSizeOfRow, standIns := [], harness := (true, "468b92c88d3a0c6e3e225ae655b2324b44012e450577d38f51fcbde2ae8b40b6"), looks := false }, kinds := [], alts := [], laidByText := true, laidKinds := [.data, .pinned], laidTests := true, laidLooks := .later }
def FnSizeOfCardSaid : Prop := Claim7.holds Tryd.pinned (.plain (OpenSpec.ofChange fnSizeOfSpec)) fnSizeOfCard

/-- THE TIED CARD OF 'laws.FnValidBody'. -/
def fnValidBodyCard : Claim7 := { stood := { row := fnValidBodyRow, standIns := [], harness := (true, "468b92c88d3a0c6e3e225ae655b2324b44012e450577d38f51fcbde2ae8b40b6"), looks := false }, kinds := [], alts := [], laidByText := true, laidKinds := [.data, .pinned], laidTests := true, laidLooks := .later }
def FnValidBodyCardSaid : Prop := Claim7.holds Tryd.pinned (.plain (OpenSpec.ofChange fnValidBodySpec)) fnValidBodyCard

/-- THE TIED CARD OF 'laws.FnExactHashOf'. -/
def fnExactHashOfCard : Claim7 := { stood := { row := fnExactHashOfRow, standIns := [], harness := (true, "468b92c88d3a0c6e3e225ae655b2324b44012e450577d38f51fcbde2ae8b40b6"), looks := false }, kinds := [], alts := [], laidByText := true, laidKinds := [.data, .pinned], laidTests := true, laidLooks := .later }
def FnExactHashOfCardSaid : Prop := Claim7.holds Tryd.pinned (.plain (OpenSpec.ofChange fnExactHashOfSpec)) fnExactHashOfCard

/-- THE TIED CARD OF 'laws.FnExactValidFinder'. -/
def fnExactValidFinderCard : Claim7 := { stood := { row := fnExactValidFinderRow, standIns := [], harness := (true, "468b92c88d3a0c6e3e225ae655b2324b44012e450577d38f51fcbde2ae8b40b6"), looks := false }, kinds := [], alts := [], laidByText := true, laidKinds := [.data, .pinned], laidTests := true, laidLooks := .later }
def FnExactValidFinderCardSaid : Prop := Claim7.holds Tryd.pinned (.plain (OpenSpec.ofChange fnExactValidFinderSpec)) fnExactValidFinderCard

/-- THE TIED CARD OF 'laws.FnIsUnder'. -/
def fnIsUnderCard : Claim7 := { stood := { row := fnIsUnderRow, standIns := [], harness := (true, "468b92c88d3a0c6e3e225ae655b2324b44012e450577d38f51fcbde2ae8b40b6"), looks := false }, kinds := [], alts := [], laidByText := true, laidKinds := [.data, .pinned], laidTests := true, laidLooks := .later }
def FnIsUnderCardSaid : Prop := Claim7.holds Tryd.pinned (.plain (OpenSpec.ofChange fnIsUnderSpec)) fnIsUnderCard

/-- THE TIED CARD OF 'laws.FnJoinParts'. -/
def fnJoinPartsCard : Claim7 := { stood := { row := fnJoinPartsRow, standIns := [], harness := (true, "468b92c88d3a0c6e3e225ae655b2324b44012e450577d38f51fcbde2ae8b40b6"), looks := false }, kinds := [], alts := [], laidByText := true, laidKinds := [.data, .pinned], laidTests := true, laidLooks := .later }
def FnJoinPartsCardSaid : Prop := Claim7.holds Tryd.pinned (.plain (OpenSpec.ofChange fnJoinPartsSpec)) fnJoinPartsCard

/-- THE TIED CARD OF 'laws.FnHashOf'. -/
def fnHashOfCard : Claim7 := { stood := { row := fnHashOfRow, standIns := [], harness := (true, "468b92c88d3a0c6e3e225ae655b2324b44012e450577d38f51fcbde2ae8b40b6"), looks := false }, kinds := [], alts := [], laidByText := true, laidKinds := [.data, .pinned], laidTests := true, laidLooks := .later }
def FnHashOfCardSaid : Prop := Claim7.holds Tryd.pinned (.plain (OpenSpec.ofChange fnHashOfSpec)) fnHashOfCard

/-- THE SECOND FORM's CARD OF 'laws.FnExactNamesAbove'. -/
def fnExactNamesAboveUptoCard : Claim7 := { stood := { row := fnExactNamesAboveUptoRow, standIns := [], harness := (true, "468b92c88d3a0c6e3e225ae655b2324b44012e450577d38f51fcbde2ae8b40b6"), looks := false }, kinds := [], alts := [], laidByText := true, laidKinds := [.data, .pinned], laidTests := true, laidLooks := .later }
def FnExactNamesAboveUptoCardSaid : Prop := Claim7.holds Tryd.pinned (.plain (OpenSpec.upto fnExactNamesAboveSpec)) fnExactNamesAboveUptoCard

/-- THE SECOND FORM's CARD OF 'laws.FnExactSizeOf'. -/
def fnExactSizeOfUptoCard : Claim7 := { stood := { row := fnExactSizeOfUptoRow, standIns := [], harness := (true, "468b92c88d3a0c6e3e225ae655b2324b44012e450577d38f51fcbde2ae8b40b6"), looks := false }, kinds := [], alts := [], laidByText := true, laidKinds := [.data, .pinned], laidTests := true, laidLooks := .later }
def FnExactSizeOfUptoCardSaid : Prop := Claim7.holds Tryd.pinned (.plain (OpenSpec.upto fnExactSizeOfSpec)) fnExactSizeOfUptoCard

/-- THE SECOND FORM's CARD OF 'laws.FnResolveName'. -/
def fnResolveNameUptoCard : Claim7 := { stood := { row := fnResolveNameUptoRow, standIns := [], harness := (true, "468b92c88d3a0c6e3e225ae655b2324b44012e450577d38f51fcbde2ae8b40b6"), looks := false }, kinds := [], alts := [], laidByText := true, laidKinds := [.data, .pinned], laidTests := true, laidLooks := .later }
def FnResolveNameUptoCardSaid : Prop := Claim7.holds Tryd.pinned (.plain (OpenSpec.upto fnResolveNameSpec)) fnResolveNameUptoCard

/-- THE SECOND FORM's CARD OF 'laws.FnPartsOf'. -/
def fnPartsOfUptoCard : Claim7 := { stood := { row := fnPartsOfUptoRow, standIns := [], harness := (true, "468b92c88d3a0c6e3e225ae655b2324b44012e450577d38f51fcbde2ae8b40b6"), looks := false }, kinds := [], alts := [], laidByText := true, laidKinds := [.data, .pinned], laidTests := true, laidLooks := .later }
def FnPartsOfUptoCardSaid : Prop := Claim7.holds Tryd.pinned (.plain (OpenSpec.upto fnPartsOfSpec)) fnPartsOfUptoCard

/-- THE SECOND FORM's CARD OF 'laws.FnRelativeName'. -/
def fnRelativeNameUptoCard : Claim7 := { stood := { row := fnRelativeNameUptoRow, standIns := [], harness := (true, "468b92c88d3a0c6e3e225ae655b2324b44012e450577d38f51fcbde2ae8b40b6"), looks := false }, kinds := [], alts := [], laidByText := true, laidKinds := [.data, .pinned], laidTests := true, laidLooks := .later }
def FnRelativeNameUptoCardSaid : Prop := Claim7.holds Tryd.pinned (.plain (OpenSpec.upto fnRelativeNameSpec)) fnRelativeNameUptoCard

/-- THE SECOND FORM's CARD OF 'laws.FnSizeOf'. -/
def fnSizeOfUptoCard : Claim7 := { stood := { row := fnSizeOfUptoRow, standIns := [], harness := (true, "468b92c88d3a0c6e3e225ae655b2324b44012e450577d38f51fcbde2ae8b40b6"), looks := false }, kinds := [], alts := [], laidByText := true, laidKinds := [.data, .pinned], laidTests := true, laidLooks := .later }
def FnSizeOfUptoCardSaid : Prop := Claim7.holds Tryd.pinned (.plain (OpenSpec.upto fnSizeOfSpec)) fnSizeOfUptoCard

/-- THE SECOND FORM's CARD OF 'laws.FnValidBody'. -/
def fnValidBodyUptoCard : Claim7 := { stood := { row := fnValidBodyUptoRow, standIns := [], harness := (true, "468b92c88d3a0c6e3e225ae655b2324b44012e450577d38f51fcbde2ae8b40b6"), looks := false }, kinds := [], alts := [], laidByText := true, laidKinds := [.data, .pinned], laidTests := true, laidLooks := .later }
def FnValidBodyUptoCardSaid : Prop := Claim7.holds Tryd.pinned (.plain (OpenSpec.upto fnValidBodySpec)) fnValidBodyUptoCard

/-- THE SECOND FORM's CARD OF 'laws.FnExactHashOf'. -/
def fnExactHashOfUptoCard : Claim7 := { stood := { row := fnExactHashOfUptoRow, standIns := [], harness := (true, "468b92c88d3a0c6e3e225ae655b2324b44012e450577d38f51fcbde2ae8b40b6"), looks := false }, kinds := [], alts := [], laidByText := true, laidKinds := [.data, .pinned], laidTests := true, laidLooks := .later }
def FnExactHashOfUptoCardSaid : Prop := Claim7.holds Tryd.pinned (.plain (OpenSpec.upto fnExactHashOfSpec)) fnExactHashOfUptoCard

/-- THE SECOND FORM's CARD OF 'laws.FnExactValidFinder'. -/
def fnExactValidFinderUptoCard : Claim7 := { stood := { row := fnExactValidFinderUptoRow, standIns := [], harness := (true, "468b92c88d3a0c6e3e225ae655b2324b44012e450577d38f51fcbde2ae8b40b6"), looks := false }, kinds := [], alts := [], laidByText := true, laidKinds := [.data, .pinned], laidTests := true, laidLooks := .later }
def FnExactValidFinderUptoCardSaid : Prop := Claim7.holds Tryd.pinned (.plain (OpenSpec.upto fnExactValidFinderSpec)) fnExactValidFinderUptoCard

/-- THE SECOND FORM's CARD OF 'laws.FnIsUnder'. -/
def fnIsUnderUptoCard : Claim7 := { stood := { row := fnIsUnderUptoRow, standIns := [], harness := (true, "468b92c88d3a0c6e3e225ae655b2324b44012e450577d38f51fcbde2ae8b40b6"), looks := false }, kinds := [], alts := [], laidByText := true, laidKinds := [.data, .pinned], laidTests := true, laidLooks := .later }
def FnIsUnderUptoCardSaid : Prop := Claim7.holds Tryd.pinned (.plain (OpenSpec.upto fnIsUnderSpec)) fnIsUnderUptoCard

/-- THE SECOND FORM's CARD OF 'laws.FnJoinParts'. -/
def fnJoinPartsUptoCard : Claim7 := { stood := { row := fnJoinPartsUptoRow, standIns := [], harness := (true, "468b92c88d3a0c6e3e225ae655b2324b44012e450577d38f51fcbde2ae8b40b6"), looks := false }, kinds := [], alts := [], laidByText := true, laidKinds := [.data, .pinned], laidTests := true, laidLooks := .later }
def FnJoinPartsUptoCardSaid : Prop := Claim7.holds Tryd.pinned (.plain (OpenSpec.upto fnJoinPartsSpec)) fnJoinPartsUptoCard

/-- THE SECOND FORM's CARD OF 'laws.FnHashOf'. -/
def fnHashOfUptoCard : Claim7 := { stood := { row := fnHashOfUptoRow, standIns := [], harness := (true, "468b92c88d3a0c6e3e225ae655b2324b44012e450577d38f51fcbde2ae8b40b6"), looks := false }, kinds := [], alts := [], laidByText := true, laidKinds := [.data, .pinned], laidTests := true, laidLooks := .later }
def FnHashOfUptoCardSaid : Prop := Claim7.holds Tryd.pinned (.plain (OpenSpec.upto fnHashOfSpec)) fnHashOfUptoCard
end Rows
end Go.Proofs.YtajbamcfkgkhpaaDoor
