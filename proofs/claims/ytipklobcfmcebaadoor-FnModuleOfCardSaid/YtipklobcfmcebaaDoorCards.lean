/-
  DERIVED. GIVEN WITH THE SEED: THE CARDS: each row of YtipklobcfmcebaaDoorRows.lean that lists a variable, with what it lists TIED to the program's text (the seventh form; the later family's looks); each row that meets fmt, with fmt's text TOLD by the authors' own Lean function (tested against real Go, not proved from fmt's source: count such statements apart). THE CARD IS WHAT COUNTS. Prove the row's statement (the work); the ties are given (YtipklobcfmcebaaDoorTie.lean); close each card by the builder's one call (the guide's Derived/Test/ToyasCard.lean, 'card_holds'). Laid BY PROGRAM, IN A SANDBOX (cutbox-door.mjs). By AI agents, Wed Nov 11 2026. No macro, syntax, notation, axiom, sorry.
-/
import Derived.Test.YtipklobcfmcebaaDoorRows
import GoSem.ClaimSeven
namespace Go.Proofs.YtipklobcfmcebaaDoor
namespace Rows

/-- THE TIED CARD OF 'laws.FnCommonPackage'. -/
def fnCommonPackageCard : Claim7 := { stood := { row := fnCommonPackageRow, standIns := [], harness := (true, "8018b5b1d0bd14d0c20fa734ea5369688f963f8ceb21895d706e48954eec2efc"), looks := false }, kinds := [], alts := [], laidByText := true, laidKinds := [.data, .pinned], laidTests := true, laidLooks := .later }
def FnCommonPackageCardSaid : Prop := Claim7.holds Tryd.pinned (.plain (OpenSpec.ofChange fnCommonPackageSpec)) fnCommonPackageCard

/-- THE TIED CARD OF 'laws.FnNamesAbove'. -/
def fnNamesAboveCard : Claim7 := { stood := { row := fnNamesAboveRow, standIns := [], harness := (true, "8018b5b1d0bd14d0c20fa734ea5369688f963f8ceb21895d706e48954eec2efc"), looks := false }, kinds := [], alts := [], laidByText := true, laidKinds := [.data, .pinned], laidTests := true, laidLooks := .later }
def FnNamesAboveCardSaid : Prop := Claim7.holds Tryd.pinned (.plain (OpenSpec.ofChange fnNamesAboveSpec)) fnNamesAboveCard

/-- THE TIED CARD OF 'laws.FnValidCommands'. -/
def fnValidCommandsCard : Claim7 := { stood := { row := fnValidCommandsRow, standIns := [], harness := (true, "8018b5b1d0bd14d0c20fa734ea5369688f963f8ceb21895d706e48954eec2efc"), looks := false }, kinds := [], alts := [], laidByText := true, laidKinds := [.data, .pinned], laidTests := true, laidLooks := .later }
def FnValidCommandsCardSaid : Prop := Claim7.holds Tryd.pinned (.plain (OpenSpec.ofChange fnValidCommandsSpec)) fnValidCommandsCard

/-- THE TIED CARD OF 'laws.FnExactModuleOf'. -/
def fnExactModuleOfCard : Claim7 := { stood := { row := fnExactModuleOfRow, standIns := [], harness := (true, "8018b5b1d0bd14d0c20fa734ea5369688f963f8ceb21895d706e48954eec2efc"), looks := false }, kinds := [], alts := [], laidByText := true, laidKinds := [.data, .pinned], laidTests := true, laidLooks := .later }
def FnExactModuleOfCardSaid : Prop := Claim7.holds Tryd.pinned (.plain (OpenSpec.ofChange fnExactModuleOfSpec)) fnExactModuleOfCard

/-- THE TIED CARD OF 'laws.FnExactForgetAll'. -/
def fnExactForgetAllCard : Claim7 := { stood := { row := fnExactForgetAllRow, standIns := [], harness := (true, "8018b5b1d0bd14d0c20fa734ea5369688f963f8ceb21895d706e48954eec2efc"), looks := false }, kinds := [], alts := [], laidByText := true, laidKinds := [.data, .pinned], laidTests := true, laidLooks := .later }
def FnExactForgetAllCardSaid : Prop := Claim7.holds Tryd.pinned (.plain (OpenSpec.ofChange fnExactForgetAllSpec)) fnExactForgetAllCard

/-- THE TIED CARD OF 'laws.FnValidActs'. -/
def fnValidActsCard : Claim7 := { stood := { row := fnValidActsRow, standIns := [], harness := (true, "8018b5b1d0bd14d0c20fa734ea5369688f963f8ceb21895d706e48954eec2efc"), looks := false }, kinds := [], alts := [], laidByText := true, laidKinds := [.data, .pinned], laidTests := true, laidLooks := .later }
def FnValidActsCardSaid : Prop := Claim7.holds Tryd.pinned (.plain (OpenSpec.ofChange fnValidActsSpec)) fnValidActsCard

/-- THE TIED CARD OF 'laws.FnModuleOf'. -/
def fnModuleOfCard : Claim7 := { stood := { row := fnModuleOfRow, standIns := [], harness := (true, "8018b5b1d0bd14d0c20fa734ea5369688f963f8ceb21895d706e48954eec2efc"), looks := false }, kinds := [], alts := [], laidByText := true, laidKinds := [.data, .pinned], laidTests := true, laidLooks := .later }
def FnModuleOfCardSaid : Prop := Claim7.holds Tryd.pinned (.plain (OpenSpec.ofChange fnModuleOfSpec)) fnModuleOfCard

/-- THE TIED CARD OF 'laws.FnValidTree'. -/
def fnValidTreeCard : Claim7 := { stood := { row := fnValidTreeRow, standIns := [], harness := (true, "8018b5b1d0bd14d0c20fa734ea5369688f963f8ceb21895d706e48954eec2efc"), looks := false }, kinds := [], alts := [], laidByText := true, laidKinds := [.data, .pinned], laidTests := true, laidLooks := .later }
def FnValidTreeCardSaid : Prop := Claim7.holds Tryd.pinned (.plain (OpenSpec.ofChange fnValidTreeSpec)) fnValidTreeCard

/-- THE TIED CARD OF 'laws.FnExactValidTree'. -/
def fnExactValidTreeCard : Claim7 := { stood := { row := fnExactValidTreeRow, standIns := [], harness := (true, "8018b5b1d0bd14d0c20fa734ea5369688f963f8ceb21895d706e48954eec2efc"), looks := false }, kinds := [], alts := [], laidByText := true, laidKinds := [.data, .pinned], laidTests := true, laidLooks := .later }
def FnExactValidTreeCardSaid : Prop := Claim7.holds Tryd.pinned (.plain (OpenSpec.ofChange fnExactValidTreeSpec)) fnExactValidTreeCard

/-- THE TIED CARD OF 'laws.FnExactValidStore'. -/
def fnExactValidStoreCard : Claim7 := { stood := { row := fnExactValidStoreRow, standIns := [], harness := (true, "8018b5b1d0bd14d0c20fa734ea5369688f963f8ceb21895d706e48954eec2efc"), looks := false }, kinds := [], alts := [], laidByText := true, laidKinds := [.data, .pinned], laidTests := true, laidLooks := .later }
def FnExactValidStoreCardSaid : Prop := Claim7.holds Tryd.pinned (.plain (OpenSpec.ofChange fnExactValidStoreSpec)) fnExactValidStoreCard

/-- THE TIED CARD OF 'laws.FnExactValidActs'. -/
def fnExactValidActsCard : Claim7 := { stood := { row := fnExactValidActsRow, standIns := [], harness := (true, "8018b5b1d0bd14d0c20fa734ea5369688f963f8ceb21895d706e48954eec2efc"), looks := false }, kinds := [], alts := [], laidByText := true, laidKinds := [.data, .pinned], laidTests := true, laidLooks := .later }
def FnExactValidActsCardSaid : Prop := Claim7.holds Tryd.pinned (.plain (OpenSpec.ofChange fnExactValidActsSpec)) fnExactValidActsCard

/-- THE TIED CARD OF 'laws.FnValidStore'. -/
def fnValidStoreCard : Claim7 := { stood := { row := fnValidStoreRow, standIns := [], harness := (true, "8018b5b1d0bd14d0c20fa734ea5369688f963f8ceb21895d706e48954eec2efc"), looks := false }, kinds := [], alts := [], laidByText := true, laidKinds := [.data, .pinned], laidTests := true, laidLooks := .later }
def FnValidStoreCardSaid : Prop := Claim7.holds Tryd.pinned (.plain (OpenSpec.ofChange fnValidStoreSpec)) fnValidStoreCard

/-- THE SECOND FORM's CARD OF 'laws.FnCommonPackage'. -/
def fnCommonPackageUptoCard : Claim7 := { stood := { row := fnCommonPackageUptoRow, standIns := [], harness := (true, "8018b5b1d0bd14d0c20fa734ea5369688f963f8ceb21895d706e48954eec2efc"), looks := false }, kinds := [], alts := [], laidByText := true, laidKinds := [.data, .pinned], laidTests := true, laidLooks := .later }
def FnCommonPackageUptoCardSaid : Prop := Claim7.holds Tryd.pinned (.plain (OpenSpec.upto fnCommonPackageSpec)) fnCommonPackageUptoCard

/-- THE SECOND FORM's CARD OF 'laws.FnNamesAbove'. -/
def fnNamesAboveUptoCard : Claim7 := { stood := { row := fnNamesAboveUptoRow, standIns := [], harness := (true, "8018b5b1d0bd14d0c20fa734ea5369688f963f8ceb21895d706e48954eec2efc"), looks := false }, kinds := [], alts := [], laidByText := true, laidKinds := [.data, .pinned], laidTests := true, laidLooks := .later }
def FnNamesAboveUptoCardSaid : Prop := Claim7.holds Tryd.pinned (.plain (OpenSpec.upto fnNamesAboveSpec)) fnNamesAboveUptoCard

/-- THE SECOND FORM's CARD OF 'laws.FnValidCommands'. -/
def fnValidCommandsUptoCard : Claim7 := { stood := { row := fnValidCommandsUptoRow, standIns := [], harness := (true, "8018b5b1d0bd14d0c20fa734ea5369688f963f8ceb21895d706e48954eec2efc"), looks := false }, kinds := [], alts := [], laidByText := true, laidKinds := [.data, .pinned], laidTests := true, laidLooks := .later }
def FnValidCommandsUptoCardSaid : Prop := Claim7.holds Tryd.pinned (.plain (OpenSpec.upto fnValidCommandsSpec)) fnValidCommandsUptoCard

/-- THE SECOND FORM's CARD OF 'laws.FnExactModuleOf'. -/
def fnExactModuleOfUptoCard : Claim7 := { stood := { row := fnExactModuleOfUptoRow, standIns := [], harness := (true, "8018b5b1d0bd14d0c20fa734ea5369688f963f8ceb21895d706e48954eec2efc"), looks := false }, kinds := [], alts := [], laidByText := true, laidKinds := [.data, .pinned], laidTests := true, laidLooks := .later }
def FnExactModuleOfUptoCardSaid : Prop := Claim7.holds Tryd.pinned (.plain (OpenSpec.upto fnExactModuleOfSpec)) fnExactModuleOfUptoCard

/-- THE SECOND FORM's CARD OF 'laws.FnExactForgetAll'. -/
def fnExactForgetAllUptoCard : Claim7 := { stood := { row := fnExactForgetAllUptoRow, standIns := [], harness := (true, "8018b5b1d0bd14d0c20fa734ea5369688f963f8ceb21895d706e48954eec2efc"), looks := false }, kinds := [], alts := [], laidByText := true, laidKinds := [.data, .pinned], laidTests := true, laidLooks := .later }
def FnExactForgetAllUptoCardSaid : Prop := Claim7.holds Tryd.pinned (.plain (OpenSpec.upto fnExactForgetAllSpec)) fnExactForgetAllUptoCard

/-- THE SECOND FORM's CARD OF 'laws.FnValidActs'. -/
def fnValidActsUptoCard : Claim7 := { stood := { row := fnValidActsUptoRow, standIns := [], harness := (true, "8018b5b1d0bd14d0c20fa734ea5369688f963f8ceb21895d706e48954eec2efc"), looks := false }, kinds := [], alts := [], laidByText := true, laidKinds := [.data, .pinned], laidTests := true, laidLooks := .later }
def FnValidActsUptoCardSaid : Prop := Claim7.holds Tryd.pinned (.plain (OpenSpec.upto fnValidActsSpec)) fnValidActsUptoCard

/-- THE SECOND FORM's CARD OF 'laws.FnModuleOf'. -/
def fnModuleOfUptoCard : Claim7 := { stood := { row := fnModuleOfUptoRow, standIns := [], harness := (true, "8018b5b1d0bd14d0c20fa734ea5369688f963f8ceb21895d706e48954eec2efc"), looks := false }, kinds := [], alts := [], laidByText := true, laidKinds := [.data, .pinned], laidTests := true, laidLooks := .later }
def FnModuleOfUptoCardSaid : Prop := Claim7.holds Tryd.pinned (.plain (OpenSpec.upto fnModuleOfSpec)) fnModuleOfUptoCard

/-- THE SECOND FORM's CARD OF 'laws.FnValidTree'. -/
def fnValidTreeUptoCard : Claim7 := { stood := { row := fnValidTreeUptoRow, standIns := [], harness := (true, "8018b5b1d0bd14d0c20fa734ea5369688f963f8ceb21895d706e48954eec2efc"), looks := false }, kinds := [], alts := [], laidByText := true, laidKinds := [.data, .pinned], laidTests := true, laidLooks := .later }
def FnValidTreeUptoCardSaid : Prop := Claim7.holds Tryd.pinned (.plain (OpenSpec.upto fnValidTreeSpec)) fnValidTreeUptoCard

/-- THE SECOND FORM's CARD OF 'laws.FnExactValidTree'. -/
def fnExactValidTreeUptoCard : Claim7 := { stood := { row := fnExactValidTreeUptoRow, standIns := [], harness := (true, "8018b5b1d0bd14d0c20fa734ea5369688f963f8ceb21895d706e48954eec2efc"), looks := false }, kinds := [], alts := [], laidByText := true, laidKinds := [.data, .pinned], laidTests := true, laidLooks := .later }
def FnExactValidTreeUptoCardSaid : Prop := Claim7.holds Tryd.pinned (.plain (OpenSpec.upto fnExactValidTreeSpec)) fnExactValidTreeUptoCard

/-- THE SECOND FORM's CARD OF 'laws.FnExactValidStore'. -/
def fnExactValidStoreUptoCard : Claim7 := { stood := { row := fnExactValidStoreUptoRow, standIns := [], harness := (true, "8018b5b1d0bd14d0c20fa734ea5369688f963f8ceb21895d706e48954eec2efc"), looks := false }, kinds := [], alts := [], laidByText := true, laidKinds := [.data, .pinned], laidTests := true, laidLooks := .later }
def FnExactValidStoreUptoCardSaid : Prop := Claim7.holds Tryd.pinned (.plain (OpenSpec.upto fnExactValidStoreSpec)) fnExactValidStoreUptoCard

/-- THE SECOND FORM's CARD OF 'laws.FnExactValidActs'. -/
def fnExactValidActsUptoCard : Claim7 := { stood := { row := fnExactValidActsUptoRow, standIns := [], harness := (true, "8018b5b1d0bd14d0c20fa734ea5369688f963f8ceb21895d706e48954eec2efc"), looks := false }, kinds := [], alts := [], laidByText := true, laidKinds := [.data, .pinned], laidTests := true, laidLooks := .later }
def FnExactValidActsUptoCardSaid : Prop := Claim7.holds Tryd.pinned (.plain (OpenSpec.upto fnExactValidActsSpec)) fnExactValidActsUptoCard

/-- THE SECOND FORM's CARD OF 'laws.FnValidStore'. -/
def fnValidStoreUptoCard : Claim7 := { stood := { row := fnValidStoreUptoRow, standIns := [], harness := (true, "8018b5b1d0bd14d0c20fa734ea5369688f963f8ceb21895d706e48954eec2efc"), looks := false }, kinds := [], alts := [], laidByText := true, laidKinds := [.data, .pinned], laidTests := true, laidLooks := .later }
def FnValidStoreUptoCardSaid : Prop := Claim7.holds Tryd.pinned (.plain (OpenSpec.upto fnValidStoreSpec)) fnValidStoreUptoCard
end Rows
end Go.Proofs.YtipklobcfmcebaaDoor
