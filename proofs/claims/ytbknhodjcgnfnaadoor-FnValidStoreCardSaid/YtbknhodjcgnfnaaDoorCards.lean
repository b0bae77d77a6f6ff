/-
  DERIVED. GIVEN WITH THE SEED: THE CARDS: each row of YtbknhodjcgnfnaaDoorRows.lean that lists a variable, with what it lists TIED to the program's text (the seventh form; the later family's looks); each row that meets fmt, with fmt's text TOLD by the authors' own Lean function (tested against real Go, not proved from fmt's source: count such statements apart). THE CARD IS WHAT COUNTS. Prove the row's statement (the work); the ties are given (YtbknhodjcgnfnaaDoorTie.lean); close each card by the builder's one call (the guide's Derived/Test/ToyasCard.lean, 'card_holds'). Laid BY PROGRAM, IN A SANDBOX (cutbox-door.mjs). By AI agents, Wed Nov 11 2026. No macro, syntax, notation, axiom, sorry.
-/
import Derived.Test.YtbknhodjcgnfnaaDoorRows
import GoSem.ClaimSeven
namespace Go.Proofs.YtbknhodjcgnfnaaDoor
namespace Rows

/-- THE TIED CARD OF 'laws.FnValidStore'. -/
def fnValidStoreCard : Claim7 := { stood := { row := fnValidStoreRow, standIns := [], harness := (true, "31d0d61f496abb6fc1e26a6f5ad637eaec70b8072eda1702462401080806ed92"), looks := false }, kinds := [], alts := [], laidByText := true, laidKinds := [.data, .pinned], laidTests := true, laidLooks := .later }
def FnValidStoreCardSaid : Prop := Claim7.holds Tryd.pinned (.plain (OpenSpec.ofChange fnValidStoreSpec)) fnValidStoreCard

/-- THE TIED CARD OF 'laws.FnIsUsable'. -/
def fnIsUsableCard : Claim7 := { stood := { row := fnIsUsableRow, standIns := [], harness := (true, "31d0d61f496abb6fc1e26a6f5ad637eaec70b8072eda1702462401080806ed92"), looks := false }, kinds := [], alts := [], laidByText := true, laidKinds := [.data, .pinned], laidTests := true, laidLooks := .later }
def FnIsUsableCardSaid : Prop := Claim7.holds Tryd.pinned (.plain (OpenSpec.ofChange fnIsUsableSpec)) fnIsUsableCard

/-- THE SECOND FORM's CARD OF 'laws.FnValidStore'. -/
def fnValidStoreUptoCard : Claim7 := { stood := { row := fnValidStoreUptoRow, standIns := [], harness := (true, "31d0d61f496abb6fc1e26a6f5ad637eaec70b8072eda1702462401080806ed92"), looks := false }, kinds := [], alts := [], laidByText := true, laidKinds := [.data, .pinned], laidTests := true, laidLooks := .later }
def FnValidStoreUptoCardSaid : Prop := Claim7.holds Tryd.pinned (.plain (OpenSpec.upto fnValidStoreSpec)) fnValidStoreUptoCard

/-- THE SECOND FORM's CARD OF 'laws.FnIsUsable'. -/
def fnIsUsableUptoCard : Claim7 := { stood := { row := fnIsUsableUptoRow, standIns := [], harness := (true, "31d0d61f496abb6fc1e26a6f5ad637eaec70b8072eda1702462401080806ed92"), looks := false }, kinds := [], alts := [], laidByText := true, laidKinds := [.data, .pinned], laidTests := true, laidLooks := .later }
def FnIsUsableUptoCardSaid : Prop := Claim7.holds Tryd.pinned (.plain (OpenSpec.upto fnIsUsableSpec)) fnIsUsableUptoCard
end Rows
end Go.Proofs.YtbknhodjcgnfnaaDoor
