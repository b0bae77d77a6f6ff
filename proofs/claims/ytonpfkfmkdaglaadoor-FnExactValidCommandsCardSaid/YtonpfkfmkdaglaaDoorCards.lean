/-
  DERIVED. GIVEN WITH THE SEED: THE CARDS: each row of YtonpfkfmkdaglaaDoorRows.lean that lists a variable, with what it lists TIED to the program's text (the seventh form; the later family's looks); each row that meets fmt, with fmt's text TOLD by the authors' own Lean function (tested against real Go, not proved from fmt's source: count such statements apart). THE CARD IS WHAT COUNTS. Prove the row's statement (the work); the ties are given (YtonpfkfmkdaglaaDoorTie.lean); close each card by the builder's one call (the guide's Derived/Test/ToyasCard.lean, 'card_holds'). Laid BY PROGRAM, IN A SANDBOX (cutbox-door.mjs). By AI agents, Wed Nov 11 2026. No macro, syntax, notation, axiom, sorry.
-/
import Derived.Test.YtonpfkfmkdaglaaDoorRows
import GoSem.ClaimSeven
namespace Go.Proofs.YtonpfkfmkdaglaaDoor
namespace Rows

/-- THE TIED CARD OF 'laws.FnExactValidCommands'. -/
def fnExactValidCommandsCard : Claim7 := { stood := { row := fnExactValidCommandsRow, standIns := [], harness := (true, "c37aca6b9bd0983fe8f22bdde9c436487fb76c99fadb1aa7869101160e870365"), looks := false }, kinds := [], alts := [], laidByText := true, laidKinds := [.data, .pinned], laidTests := true, laidLooks := .later }
def FnExactValidCommandsCardSaid : Prop := Claim7.holds Tryd.pinned (.plain (OpenSpec.ofChange fnExactValidCommandsSpec)) fnExactValidCommandsCard

/-- THE TIED CARD OF 'laws.FnExactAddFile'. -/
def fnExactAddFileCard : Claim7 := { stood := { row := fnExactAddFileRow, standIns := [], harness := (true, "c37aca6b9bd0983fe8f22bdde9c436487fb76c99fadb1aa7869101160e870365"), looks := false }, kinds := [], alts := [], laidByText := true, laidKinds := [.data, .pinned], laidTests := true, laidLooks := .later }
def FnExactAddFileCardSaid : Prop := Claim7.holds Tryd.pinned (.plain (OpenSpec.ofChange fnExactAddFileSpec)) fnExactAddFileCard

/-- THE TIED CARD OF 'laws.FnLastOf'. -/
def fnLastOfCard : Claim7 := { stood := { row := fnLastOfRow, standIns := [], harness := (true, "c37aca6b9bd0983fe8f22bdde9c436487fb76c99fadb1aa7869101160e870365"), looks := false }, kinds := [], alts := [], laidByText := true, laidKinds := [.data, .pinned], laidTests := true, laidLooks := .later }
def FnLastOfCardSaid : Prop := Claim7.holds Tryd.pinned (.plain (OpenSpec.ofChange fnLastOfSpec)) fnLastOfCard

/-- THE TIED CARD OF 'laws.FnExactRelativeName'. -/
def fnExactRelativeNameCard : Claim7 := { stood := { row := fnExactRelativeNameRow, standIns := [], harness := (true, "c37aca6b9bd0983fe8f22bdde9c436487fb76c99fadb1aa7869101160e870365"), looks := false }, kinds := [], alts := [], laidByText := true, laidKinds := [.data, .pinned], laidTests := true, laidLooks := .later }
def FnExactRelativeNameCardSaid : Prop := Claim7.holds Tryd.pinned (.plain (OpenSpec.ofChange fnExactRelativeNameSpec)) fnExactRelativeNameCard

/-- THE TIED CARD OF 'laws.FnValidName'. -/
def fnValidNameCard : Claim7 := { stood := { row := fnValidNameRow, standIns := [], harness := (true, "c37aca6b9bd0983fe8f22bdde9c436487fb76c99fadb1aa7869101160e870365"), looks := false }, kinds := [], alts := [], laidByText := true, laidKinds := [.data, .pinned], laidTests := true, laidLooks := .later }
def FnValidNameCardSaid : Prop := Claim7.holds Tryd.pinned (.plain (OpenSpec.ofChange fnValidNameSpec)) fnValidNameCard

/-- THE TIED CARD OF 'laws.FnExactResolveName'. -/
def fnExactResolveNameCard : Claim7 := { stood := { row := fnExactResolveNameRow, standIns := [], harness := (true, "c37aca6b9bd0983fe8f22bdde9c436487fb76c99fadb1aa7869101160e870365"), looks := false }, kinds := [], alts := [], laidByText := true, laidKinds := [.data, .pinned], laidTests := true, laidLooks := .later }
def FnExactResolveNameCardSaid : Prop := Claim7.holds Tryd.pinned (.plain (OpenSpec.ofChange fnExactResolveNameSpec)) fnExactResolveNameCard

/-- THE TIED CARD OF 'laws.FnParentOf'. -/
def fnParentOfCard : Claim7 := { stood := { row := fnParentOfRow, standIns := [], harness := (true, "c37aca6b9bd0983fe8f22bdde9c436487fb76c99fadb1aa7869101160e870365"), looks := false }, kinds := [], alts := [], laidByText := true, laidKinds := [.data, .pinned], laidTests := true, laidLooks := .later }
def FnParentOfCardSaid : Prop := Claim7.holds Tryd.pinned (.plain (OpenSpec.ofChange fnParentOfSpec)) fnParentOfCard

/-- THE TIED CARD OF 'laws.FnChildOf'. -/
def fnChildOfCard : Claim7 := { stood := { row := fnChildOfRow, standIns := [], harness := (true, "c37aca6b9bd0983fe8f22bdde9c436487fb76c99fadb1aa7869101160e870365"), looks := false }, kinds := [], alts := [], laidByText := true, laidKinds := [.data, .pinned], laidTests := true, laidLooks := .later }
def FnChildOfCardSaid : Prop := Claim7.holds Tryd.pinned (.plain (OpenSpec.ofChange fnChildOfSpec)) fnChildOfCard

/-- THE TIED CARD OF 'laws.FnExactEditFile'. -/
def fnExactEditFileCard : Claim7 := { stood := { row := fnExactEditFileRow, standIns := [], harness := (true, "c37aca6b9bd0983fe8f22bdde9c436487fb76c99fadb1aa7869101160e870365"), looks := false }, kinds := [], alts := [], laidByText := true, laidKinds := [.data, .pinned], laidTests := true, laidLooks := .later }
def FnExactEditFileCardSaid : Prop := Claim7.holds Tryd.pinned (.plain (OpenSpec.ofChange fnExactEditFileSpec)) fnExactEditFileCard

/-- THE TIED CARD OF 'laws.FnExactValidBody'. -/
def fnExactValidBodyCard : Claim7 := { stood := { row := fnExactValidBodyRow, standIns := [], harness := (true, "c37aca6b9bd0983fe8f22bdde9c436487fb76c99fadb1aa7869101160e870365"), looks := false }, kinds := [], alts := [], laidByText := true, laidKinds := [.data, .pinned], laidTests := true, laidLooks := .later }
def FnExactValidBodyCardSaid : Prop := Claim7.holds Tryd.pinned (.plain (OpenSpec.ofChange fnExactValidBodySpec)) fnExactValidBodyCard

/-- THE TIED CARD OF 'laws.FnExactJoinParts'. -/
def fnExactJoinPartsCard : Claim7 := { stood := { row := fnExactJoinPartsRow, standIns := [], harness := (true, "c37aca6b9bd0983fe8f22bdde9c436487fb76c99fadb1aa7869101160e870365"), looks := false }, kinds := [], alts := [], laidByText := true, laidKinds := [.data, .pinned], laidTests := true, laidLooks := .later }
def FnExactJoinPartsCardSaid : Prop := Claim7.holds Tryd.pinned (.plain (OpenSpec.ofChange fnExactJoinPartsSpec)) fnExactJoinPartsCard

/-- THE TIED CARD OF 'laws.FnExactCommonPackage'. -/
def fnExactCommonPackageCard : Claim7 := { stood := { row := fnExactCommonPackageRow, standIns := [], harness := (true, "c37aca6b9bd0983fe8f22bdde9c436487fb76c99fadb1aa7869101160e870365"), looks := false }, kinds := [], alts := [], laidByText := true, laidKinds := [.data, .pinned], laidTests := true, laidLooks := .later }
def FnExactCommonPackageCardSaid : Prop := Claim7.holds Tryd.pinned (.plain (OpenSpec.ofChange fnExactCommonPackageSpec)) fnExactCommonPackageCard

/-- THE SECOND FORM's CARD OF 'laws.FnExactValidCommands'. -/
def fnExactValidCommandsUptoCard : Claim7 := { stood := { row := fnExactValidCommandsUptoRow, standIns := [], harness := (true, "c37aca6b9bd0983fe8f22bdde9c436487fb76c99fadb1aa7869101160e870365"), looks := false }, kinds := [], alts := [], laidByText := true, laidKinds := [.data, .pinned], laidTests := true, laidLooks := .later }
def FnExactValidCommandsUptoCardSaid : Prop := Claim7.holds Tryd.pinned (.plain (OpenSpec.upto fnExactValidCommandsSpec)) fnExactValidCommandsUptoCard

/-- THE SECOND FORM's CARD OF 'laws.FnExactAddFile'. -/
def fnExactAddFileUptoCard : Claim7 := { stood := { row := fnExactAddFileUptoRow, standIns := [], harness := (true, "c37aca6b9bd0983fe8f22bdde9c436487fb76c99fadb1aa7869101160e870365"), looks := false }, kinds := [], alts := [], laidByText := true, laidKinds := [.data, .pinned], laidTests := true, laidLooks := .later }
def FnExactAddFileUptoCardSaid : Prop := Claim7.holds Tryd.pinned (.plain (OpenSpec.upto fnExactAddFileSpec)) fnExactAddFileUptoCard

/-- THE SECOND FORM's CARD OF 'laws.FnLastOf'. -/
def fnLastOfUptoCard : Claim7 := { stood := { row := fnLastOfUptoRow, standIns := [], harness := (true, "c37aca6b9bd0983fe8f22bdde9c436487fb76c99fadb1aa7869101160e870365"), looks := false }, kinds := [], alts := [], laidByText := true, laidKinds := [.data, .pinned], laidTests := true, laidLooks := .later }
def FnLastOfUptoCardSaid : Prop := Claim7.holds Tryd.pinned (.plain (OpenSpec.upto fnLastOfSpec)) fnLastOfUptoCard

/-- THE SECOND FORM's CARD OF 'laws.FnExactRelativeName'. -/
def fnExactRelativeNameUptoCard : Claim7 := { stood := { row := fnExactRelativeNameUptoRow, standIns := [], harness := (true, "c37aca6b9bd0983fe8f22bdde9c436487fb76c99fadb1aa7869101160e870365"), looks := false }, kinds := [], alts := [], laidByText := true, laidKinds := [.data, .pinned], laidTests := true, laidLooks := .later }
def FnExactRelativeNameUptoCardSaid : Prop := Claim7.holds Tryd.pinned (.plain (OpenSpec.upto fnExactRelativeNameSpec)) fnExactRelativeNameUptoCard

/-- THE SECOND FORM's CARD OF 'laws.FnValidName'. -/
def fnValidNameUptoCard : Claim7 := { stood := { row := fnValidNameUptoRow, standIns := [], harness := (true, "c37aca6b9bd0983fe8f22bdde9c436487fb76c99fadb1aa7869101160e870365"), looks := false }, kinds := [], alts := [], laidByText := true, laidKinds := [.data, .pinned], laidTests := true, laidLooks := .later }
def FnValidNameUptoCardSaid : Prop := Claim7.holds Tryd.pinned (.plain (OpenSpec.upto fnValidNameSpec)) fnValidNameUptoCard

/-- THE SECOND FORM's CARD OF 'laws.FnExactResolveName'. -/
def fnExactResolveNameUptoCard : Claim7 := { stood := { row := fnExactResolveNameUptoRow, standIns := [], harness := (true, "c37aca6b9bd0983fe8f22bdde9c436487fb76c99fadb1aa7869101160e870365"), looks := false }, kinds := [], alts := [], laidByText := true, laidKinds := [.data, .pinned], laidTests := true, laidLooks := .later }
def FnExactResolveNameUptoCardSaid : Prop := Claim7.holds Tryd.pinned (.plain (OpenSpec.upto fnExactResolveNameSpec)) fnExactResolveNameUptoCard

/-- THE SECOND FORM's CARD OF 'laws.FnParentOf'. -/
def fnParentOfUptoCard : Claim7 := { stood := { row := fnParentOfUptoRow, standIns := [], harness := (true, "c37aca6b9bd0983fe8f22bdde9c436487fb76c99fadb1aa7869101160e870365"), looks := false }, kinds := [], alts := [], laidByText := true, laidKinds := [.data, .pinned], laidTests := true, laidLooks := .later }
def FnParentOfUptoCardSaid : Prop := Claim7.holds Tryd.pinned (.plain (OpenSpec.upto fnParentOfSpec)) fnParentOfUptoCard

/-- THE SECOND FORM's CARD OF 'laws.FnChildOf'. -/
def fnChildOfUptoCard : Claim7 := { stood := { row := fnChildOfUptoRow, standIns := [], harness := (true, "c37aca6b9bd0983fe8f22bdde9c436487fb76c99fadb1aa7869101160e870365"), looks := false }, kinds := [], alts := [], laidByText := true, laidKinds := [.data, .pinned], laidTests := true, laidLooks := .later }
def FnChildOfUptoCardSaid : Prop := Claim7.holds Tryd.pinned (.plain (OpenSpec.upto fnChildOfSpec)) fnChildOfUptoCard

/-- THE SECOND FORM's CARD OF 'laws.FnExactEditFile'. -/
def fnExactEditFileUptoCard : Claim7 := { stood := { row := fnExactEditFileUptoRow, standIns := [], harness := (true, "c37aca6b9bd0983fe8f22bdde9c436487fb76c99fadb1aa7869101160e870365"), looks := false }, kinds := [], alts := [], laidByText := true, laidKinds := [.data, .pinned], laidTests := true, laidLooks := .later }
def FnExactEditFileUptoCardSaid : Prop := Claim7.holds Tryd.pinned (.plain (OpenSpec.upto fnExactEditFileSpec)) fnExactEditFileUptoCard

/-- THE SECOND FORM's CARD OF 'laws.FnExactValidBody'. -/
def fnExactValidBodyUptoCard : Claim7 := { stood := { row := fnExactValidBodyUptoRow, standIns := [], harness := (true, "c37aca6b9bd0983fe8f22bdde9c436487fb76c99fadb1aa7869101160e870365"), looks := false }, kinds := [], alts := [], laidByText := true, laidKinds := [.data, .pinned], laidTests := true, laidLooks := .later }
def FnExactValidBodyUptoCardSaid : Prop := Claim7.holds Tryd.pinned (.plain (OpenSpec.upto fnExactValidBodySpec)) fnExactValidBodyUptoCard

/-- THE SECOND FORM's CARD OF 'laws.FnExactJoinParts'. -/
def fnExactJoinPartsUptoCard : Claim7 := { stood := { row := fnExactJoinPartsUptoRow, standIns := [], harness := (true, "c37aca6b9bd0983fe8f22bdde9c436487fb76c99fadb1aa7869101160e870365"), looks := false }, kinds := [], alts := [], laidByText := true, laidKinds := [.data, .pinned], laidTests := true, laidLooks := .later }
def FnExactJoinPartsUptoCardSaid : Prop := Claim7.holds Tryd.pinned (.plain (OpenSpec.upto fnExactJoinPartsSpec)) fnExactJoinPartsUptoCard

/-- THE SECOND FORM's CARD OF 'laws.FnExactCommonPackage'. -/
def fnExactCommonPackageUptoCard : Claim7 := { stood := { row := fnExactCommonPackageUptoRow, standIns := [], harness := (true, "c37aca6b9bd0983fe8f22bdde9c436487fb76c99fadb1aa7869101160e870365"), looks := false }, kinds := [], alts := [], laidByText := true, laidKinds := [.data, .pinned], laidTests := true, laidLooks := .later }
def FnExactCommonPackageUptoCardSaid : Prop := Claim7.holds Tryd.pinned (.plain (OpenSpec.upto fnExactCommonPackageSpec)) fnExactCommonPackageUptoCard
end Rows
end Go.Proofs.YtonpfkfmkdaglaaDoor
