/-
  DERIVED. GIVEN WITH THE SEED: THE CARDS: each row of YtfjdmcbcojlnmaaDoorRows.lean that lists a variable, with what it lists TIED to the program's text (the seventh form; the later family's looks); each row that meets fmt, with fmt's text TOLD by the authors' own Lean function (tested against real Go, not proved from fmt's source: count such statements apart). THE CARD IS WHAT COUNTS. Prove the row's statement (the work); the ties are given (YtfjdmcbcojlnmaaDoorTie.lean); close each card by the builder's one call (the guide's Derived/Test/ToyasCard.lean, 'card_holds'). Laid BY PROGRAM, IN A SANDBOX (cutbox-door.mjs). By AI agents, Wed Nov 11 2026. No macro, syntax, notation, axiom, sorry.
-/
import Derived.Test.YtfjdmcbcojlnmaaDoorRows
import GoSem.ClaimSeven
namespace Go.Proofs.YtfjdmcbcojlnmaaDoor
namespace Rows

/-- THE TIED CARD OF 'laws.FnExactValidName'. -/
def fnExactValidNameCard : Claim7 := { stood := { row := fnExactValidNameRow, standIns := [], harness := (true, "e20ea66a4df8e69d078de46f95960f0acafd8f95c547da0311b65a9ea8895285"), looks := false }, kinds := [], alts := [], laidByText := true, laidKinds := [.data, .pinned], laidTests := true, laidLooks := .later }
def FnExactValidNameCardSaid : Prop := Claim7.holds Tryd.pinned (.plain (OpenSpec.ofChange fnExactValidNameSpec)) fnExactValidNameCard

/-- THE TIED CARD OF 'laws.FnExactIsUnder'. -/
def fnExactIsUnderCard : Claim7 := { stood := { row := fnExactIsUnderRow, standIns := [], harness := (true, "e20ea66a4df8e69d078de46f95960f0acafd8f95c547da0311b65a9ea8895285"), looks := false }, kinds := [], alts := [], laidByText := true, laidKinds := [.data, .pinned], laidTests := true, laidLooks := .later }
def FnExactIsUnderCardSaid : Prop := Claim7.holds Tryd.pinned (.plain (OpenSpec.ofChange fnExactIsUnderSpec)) fnExactIsUnderCard

/-- THE TIED CARD OF 'laws.FnStampOf'. -/
def fnStampOfCard : Claim7 := { stood := { row := fnStampOfRow, standIns := [], harness := (true, "e20ea66a4df8e69d078de46f95960f0acafd8f95c547da0311b65a9ea8895285"), looks := false }, kinds := [], alts := [], laidByText := true, laidKinds := [.data, .pinned], laidTests := true, laidLooks := .later }
def FnStampOfCardSaid : Prop := Claim7.holds Tryd.pinned (.plain (OpenSpec.ofChange fnStampOfSpec)) fnStampOfCard

/-- THE TIED CARD OF 'laws.FnValidPart'. -/
def fnValidPartCard : Claim7 := { stood := { row := fnValidPartRow, standIns := [], harness := (true, "e20ea66a4df8e69d078de46f95960f0acafd8f95c547da0311b65a9ea8895285"), looks := false }, kinds := [], alts := [], laidByText := true, laidKinds := [.data, .pinned], laidTests := true, laidLooks := .later }
def FnValidPartCardSaid : Prop := Claim7.holds Tryd.pinned (.plain (OpenSpec.ofChange fnValidPartSpec)) fnValidPartCard

/-- THE TIED CARD OF 'laws.FnExactLastOf'. -/
def fnExactLastOfCard : Claim7 := { stood := { row := fnExactLastOfRow, standIns := [], harness := (true, "e20ea66a4df8e69d078de46f95960f0acafd8f95c547da0311b65a9ea8895285"), looks := false }, kinds := [], alts := [], laidByText := true, laidKinds := [.data, .pinned], laidTests := true, laidLooks := .later }
def FnExactLastOfCardSaid : Prop := Claim7.holds Tryd.pinned (.plain (OpenSpec.ofChange fnExactLastOfSpec)) fnExactLastOfCard

/-- THE TIED CARD OF 'laws.FnExactChildOf'. -/
def fnExactChildOfCard : Claim7 := { stood := { row := fnExactChildOfRow, standIns := [], harness := (true, "e20ea66a4df8e69d078de46f95960f0acafd8f95c547da0311b65a9ea8895285"), looks := false }, kinds := [], alts := [], laidByText := true, laidKinds := [.data, .pinned], laidTests := true, laidLooks := .later }
def FnExactChildOfCardSaid : Prop := Claim7.holds Tryd.pinned (.plain (OpenSpec.ofChange fnExactChildOfSpec)) fnExactChildOfCard

/-- THE TIED CARD OF 'laws.FnExactParentOf'. -/
def fnExactParentOfCard : Claim7 := { stood := { row := fnExactParentOfRow, standIns := [], harness := (true, "e20ea66a4df8e69d078de46f95960f0acafd8f95c547da0311b65a9ea8895285"), looks := false }, kinds := [], alts := [], laidByText := true, laidKinds := [.data, .pinned], laidTests := true, laidLooks := .later }
def FnExactParentOfCardSaid : Prop := Claim7.holds Tryd.pinned (.plain (OpenSpec.ofChange fnExactParentOfSpec)) fnExactParentOfCard

/-- THE TIED CARD OF 'laws.FnExactPartsOf'. -/
def fnExactPartsOfCard : Claim7 := { stood := { row := fnExactPartsOfRow, standIns := [], harness := (true, "e20ea66a4df8e69d078de46f95960f0acafd8f95c547da0311b65a9ea8895285"), looks := false }, kinds := [], alts := [], laidByText := true, laidKinds := [.data, .pinned], laidTests := true, laidLooks := .later }
def FnExactPartsOfCardSaid : Prop := Claim7.holds Tryd.pinned (.plain (OpenSpec.ofChange fnExactPartsOfSpec)) fnExactPartsOfCard

/-- THE SECOND FORM's CARD OF 'laws.FnExactValidName'. -/
def fnExactValidNameUptoCard : Claim7 := { stood := { row := fnExactValidNameUptoRow, standIns := [], harness := (true, "e20ea66a4df8e69d078de46f95960f0acafd8f95c547da0311b65a9ea8895285"), looks := false }, kinds := [], alts := [], laidByText := true, laidKinds := [.data, .pinned], laidTests := true, laidLooks := .later }
def FnExactValidNameUptoCardSaid : Prop := Claim7.holds Tryd.pinned (.plain (OpenSpec.upto fnExactValidNameSpec)) fnExactValidNameUptoCard

/-- THE SECOND FORM's CARD OF 'laws.FnExactIsUnder'. -/
def fnExactIsUnderUptoCard : Claim7 := { stood := { row := fnExactIsUnderUptoRow, standIns := [], harness := (true, "e20ea66a4df8e69d078de46f95960f0acafd8f95c547da0311b65a9ea8895285"), looks := false }, kinds := [], alts := [], laidByText := true, laidKinds := [.data, .pinned], laidTests := true, laidLooks := .later }
def FnExactIsUnderUptoCardSaid : Prop := Claim7.holds Tryd.pinned (.plain (OpenSpec.upto fnExactIsUnderSpec)) fnExactIsUnderUptoCard

/-- THE SECOND FORM's CARD OF 'laws.FnStampOf'. -/
def fnStampOfUptoCard : Claim7 := { stood := { row := fnStampOfUptoRow, standIns := [], harness := (true, "e20ea66a4df8e69d078de46f95960f0acafd8f95c547da0311b65a9ea8895285"), looks := false }, kinds := [], alts := [], laidByText := true, laidKinds := [.data, .pinned], laidTests := true, laidLooks := .later }
def FnStampOfUptoCardSaid : Prop := Claim7.holds Tryd.pinned (.plain (OpenSpec.upto fnStampOfSpec)) fnStampOfUptoCard

/-- THE SECOND FORM's CARD OF 'laws.FnValidPart'. -/
def fnValidPartUptoCard : Claim7 := { stood := { row := fnValidPartUptoRow, standIns := [], harness := (true, "e20ea66a4df8e69d078de46f95960f0acafd8f95c547da0311b65a9ea8895285"), looks := false }, kinds := [], alts := [], laidByText := true, laidKinds := [.data, .pinned], laidTests := true, laidLooks := .later }
def FnValidPartUptoCardSaid : Prop := Claim7.holds Tryd.pinned (.plain (OpenSpec.upto fnValidPartSpec)) fnValidPartUptoCard

/-- THE SECOND FORM's CARD OF 'laws.FnExactLastOf'. -/
def fnExactLastOfUptoCard : Claim7 := { stood := { row := fnExactLastOfUptoRow, standIns := [], harness := (true, "e20ea66a4df8e69d078de46f95960f0acafd8f95c547da0311b65a9ea8895285"), looks := false }, kinds := [], alts := [], laidByText := true, laidKinds := [.data, .pinned], laidTests := true, laidLooks := .later }
def FnExactLastOfUptoCardSaid : Prop := Claim7.holds Tryd.pinned (.plain (OpenSpec.upto fnExactLastOfSpec)) fnExactLastOfUptoCard

/-- THE SECOND FORM's CARD OF 'laws.FnExactChildOf'. -/
def fnExactChildOfUptoCard : Claim7 := { stood := { row := fnExactChildOfUptoRow, standIns := [], harness := (true, "e20ea66a4df8e69d078de46f95960f0acafd8f95c547da0311b65a9ea8895285"), looks := false }, kinds := [], alts := [], laidByText := true, laidKinds := [.data, .pinned], laidTests := true, laidLooks := .later }
def FnExactChildOfUptoCardSaid : Prop := Claim7.holds Tryd.pinned (.plain (OpenSpec.upto fnExactChildOfSpec)) fnExactChildOfUptoCard

/-- THE SECOND FORM's CARD OF 'laws.FnExactParentOf'. -/
def fnExactParentOfUptoCard : Claim7 := { stood := { row := fnExactParentOfUptoRow, standIns := [], harness := (true, "e20ea66a4df8e69d078de46f95960f0acafd8f95c547da0311b65a9ea8895285"), looks := false }, kinds := [], alts := [], laidByText := true, laidKinds := [.data, .pinned], laidTests := true, laidLooks := .later }
def FnExactParentOfUptoCardSaid : Prop := Claim7.holds Tryd.pinned (.plain (OpenSpec.upto fnExactParentOfSpec)) fnExactParentOfUptoCard

/-- THE SECOND FORM's CARD OF 'laws.FnExactPartsOf'. -/
def fnExactPartsOfUptoCard : Claim7 := { stood := { row := fnExactPartsOfUptoRow, standIns := [], harness := (true, "e20ea66a4df8e69d078de46f95960f0acafd8f95c547da0311b65a9ea8895285"), looks := false }, kinds := [], alts := [], laidByText := true, laidKinds := [.data, .pinned], laidTests := true, laidLooks := .later }
def FnExactPartsOfUptoCardSaid : Prop := Claim7.holds Tryd.pinned (.plain (OpenSpec.upto fnExactPartsOfSpec)) fnExactPartsOfUptoCard
end Rows
end Go.Proofs.YtfjdmcbcojlnmaaDoor
