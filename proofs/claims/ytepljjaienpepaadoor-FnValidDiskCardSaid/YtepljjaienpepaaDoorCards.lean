/-
  DERIVED. GIVEN WITH THE SEED: THE CARDS: each row of YtepljjaienpepaaDoorRows.lean that lists a variable, with what it lists TIED to the program's text (the seventh form; the later family's looks); each row that meets fmt, with fmt's text TOLD by the authors' own Lean function (tested against real Go, not proved from fmt's source: count such statements apart). THE CARD IS WHAT COUNTS. Prove the row's statement (the work); the ties are given (YtepljjaienpepaaDoorTie.lean); close each card by the builder's one call (the guide's Derived/Test/ToyasCard.lean, 'card_holds'). Laid BY PROGRAM, IN A SANDBOX (cutbox-door.mjs). By AI agents, Wed Nov 11 2026. No macro, syntax, notation, axiom, sorry.
-/
import Derived.Test.YtepljjaienpepaaDoorRows
import GoSem.ClaimSeven
namespace Go.Proofs.YtepljjaienpepaaDoor
namespace Rows

/-- THE TIED CARD OF 'laws.FnStampOf'. -/
def fnStampOfCard : Claim7 := { stood := { row := fnStampOfRow, standIns := [], harness := (true, "406421ad1a066abf140a8c322a6b43237c3d7a53c7046755f374125cf599490f"), looks := false }, kinds := [], alts := [], laidByText := true, laidKinds := [.data, .pinned], laidTests := true, laidLooks := .later }
def FnStampOfCardSaid : Prop := Claim7.holds Tryd.pinned (.plain (OpenSpec.ofChange fnStampOfSpec)) fnStampOfCard

/-- THE TIED CARD OF 'laws.FnValidDisk'. -/
def fnValidDiskCard : Claim7 := { stood := { row := fnValidDiskRow, standIns := [], harness := (true, "406421ad1a066abf140a8c322a6b43237c3d7a53c7046755f374125cf599490f"), looks := false }, kinds := [], alts := [], laidByText := true, laidKinds := [.data, .pinned], laidTests := true, laidLooks := .later }
def FnValidDiskCardSaid : Prop := Claim7.holds Tryd.pinned (.plain (OpenSpec.ofChange fnValidDiskSpec)) fnValidDiskCard

/-- THE SECOND FORM's CARD OF 'laws.FnStampOf'. -/
def fnStampOfUptoCard : Claim7 := { stood := { row := fnStampOfUptoRow, standIns := [], harness := (true, "406421ad1a066abf140a8c322a6b43237c3d7a53c7046755f374125cf599490f"), looks := false }, kinds := [], alts := [], laidByText := true, laidKinds := [.data, .pinned], laidTests := true, laidLooks := .later }
def FnStampOfUptoCardSaid : Prop := Claim7.holds Tryd.pinned (.plain (OpenSpec.upto fnStampOfSpec)) fnStampOfUptoCard

/-- THE SECOND FORM's CARD OF 'laws.FnValidDisk'. -/
def fnValidDiskUptoCard : Claim7 := { stood := { row := fnValidDiskUptoRow, standIns := [], harness := (true, "406421ad1a066abf140a8c322a6b43237c3d7a53c7046755f374125cf599490f"), looks := false }, kinds := [], alts := [], laidByText := true, laidKinds := [.data, .pinned], laidTests := true, laidLooks := .later }
def FnValidDiskUptoCardSaid : Prop := Claim7.holds Tryd.pinned (.plain (OpenSpec.upto fnValidDiskSpec)) fnValidDiskUptoCard
end Rows
end Go.Proofs.YtepljjaienpepaaDoor
