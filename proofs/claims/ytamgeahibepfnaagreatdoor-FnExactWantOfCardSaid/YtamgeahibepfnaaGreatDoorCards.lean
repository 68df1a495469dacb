/-
  DERIVED. GIVEN WITH THE SEED: THE CARDS: each row of YtamgeahibepfnaaGreatDoorRows.lean that lists a variable, with what it lists TIED to the program's text (the seventh form; the later family's looks); each row that meets fmt, with fmt's text TOLD by the authors' own Lean function (tested against real Go, not proved from fmt's source: count such statements apart). THE CARD IS WHAT COUNTS. Prove the row's statement (the work); the ties are given (YtamgeahibepfnaaGreatDoorTie.lean); close each card by the builder's one call (the guide's Derived/Test/ToyasCard.lean, 'card_holds'). Laid BY PROGRAM, IN A SANDBOX (cutbox-door.mjs). By AI agents, Wed Nov 11 2026. No macro, syntax, notation, axiom, sorry.
-/
import Derived.Test.YtamgeahibepfnaaGreatDoorRows
import GoSem.ClaimSeven
namespace Go.Proofs.YtamgeahibepfnaaGreatDoor
namespace Rows

/-- THE TIED CARD OF 'laws.FnExactInFlow'. -/
def fnExactInFlowCard : Claim7 := { stood := { row := fnExactInFlowRow, standIns := [], harness := (true, "0be011b785186173f11f43fc3e822680a46b9cbfc3dfe996096d6908edf5d6ec"), looks := false }, kinds := [], alts := [], laidByText := true, laidKinds := [.data, .pinned], laidTests := true, laidLooks := .later }
def FnExactInFlowCardSaid : Prop := Claim7.holds Tryz.pinned (.plain (OpenSpec.ofChange fnExactInFlowSpec)) fnExactInFlowCard

/-- THE TIED CARD OF 'laws.FnExactWantOf'. -/
def fnExactWantOfCard : Claim7 := { stood := { row := fnExactWantOfRow, standIns := [], harness := (true, "0be011b785186173f11f43fc3e822680a46b9cbfc3dfe996096d6908edf5d6ec"), looks := false }, kinds := [], alts := [], laidByText := true, laidKinds := [.data, .pinned], laidTests := true, laidLooks := .later }
def FnExactWantOfCardSaid : Prop := Claim7.holds Tryz.pinned (.plain (OpenSpec.ofChange fnExactWantOfSpec)) fnExactWantOfCard

/-- THE TIED CARD OF 'laws.FnExactServerRight'. -/
def fnExactServerRightCard : Claim7 := { stood := { row := fnExactServerRightRow, standIns := [], harness := (true, "0be011b785186173f11f43fc3e822680a46b9cbfc3dfe996096d6908edf5d6ec"), looks := false }, kinds := [], alts := [], laidByText := true, laidKinds := [.data, .pinned], laidTests := true, laidLooks := .later }
def FnExactServerRightCardSaid : Prop := Claim7.holds Tryz.pinned (.plain (OpenSpec.ofChange fnExactServerRightSpec)) fnExactServerRightCard

/-- THE TIED CARD OF 'laws.FnExactTreeSearch'. -/
def fnExactTreeSearchCard : Claim7 := { stood := { row := fnExactTreeSearchRow, standIns := [], harness := (true, "0be011b785186173f11f43fc3e822680a46b9cbfc3dfe996096d6908edf5d6ec"), looks := false }, kinds := [], alts := [], laidByText := true, laidKinds := [.data, .pinned], laidTests := true, laidLooks := .later }
def FnExactTreeSearchCardSaid : Prop := Claim7.holds Tryz.pinned (.plain (OpenSpec.ofChange fnExactTreeSearchSpec)) fnExactTreeSearchCard

/-- THE TIED CARD OF 'laws.FnExactTreeMove'. -/
def fnExactTreeMoveCard : Claim7 := { stood := { row := fnExactTreeMoveRow, standIns := [], harness := (true, "0be011b785186173f11f43fc3e822680a46b9cbfc3dfe996096d6908edf5d6ec"), looks := false }, kinds := [], alts := [], laidByText := true, laidKinds := [.data, .pinned], laidTests := true, laidLooks := .later }
def FnExactTreeMoveCardSaid : Prop := Claim7.holds Tryz.pinned (.plain (OpenSpec.ofChange fnExactTreeMoveSpec)) fnExactTreeMoveCard

/-- THE TIED CARD OF 'laws.FnExactTreeModify'. -/
def fnExactTreeModifyCard : Claim7 := { stood := { row := fnExactTreeModifyRow, standIns := [], harness := (true, "0be011b785186173f11f43fc3e822680a46b9cbfc3dfe996096d6908edf5d6ec"), looks := false }, kinds := [], alts := [], laidByText := true, laidKinds := [.data, .pinned], laidTests := true, laidLooks := .later }
def FnExactTreeModifyCardSaid : Prop := Claim7.holds Tryz.pinned (.plain (OpenSpec.ofChange fnExactTreeModifySpec)) fnExactTreeModifyCard

/-- THE SECOND FORM's CARD OF 'laws.FnExactInFlow'. -/
def fnExactInFlowUptoCard : Claim7 := { stood := { row := fnExactInFlowUptoRow, standIns := [], harness := (true, "0be011b785186173f11f43fc3e822680a46b9cbfc3dfe996096d6908edf5d6ec"), looks := false }, kinds := [], alts := [], laidByText := true, laidKinds := [.data, .pinned], laidTests := true, laidLooks := .later }
def FnExactInFlowUptoCardSaid : Prop := Claim7.holds Tryz.pinned (.plain (OpenSpec.upto fnExactInFlowSpec)) fnExactInFlowUptoCard

/-- THE SECOND FORM's CARD OF 'laws.FnExactWantOf'. -/
def fnExactWantOfUptoCard : Claim7 := { stood := { row := fnExactWantOfUptoRow, standIns := [], harness := (true, "0be011b785186173f11f43fc3e822680a46b9cbfc3dfe996096d6908edf5d6ec"), looks := false }, kinds := [], alts := [], laidByText := true, laidKinds := [.data, .pinned], laidTests := true, laidLooks := .later }
def FnExactWantOfUptoCardSaid : Prop := Claim7.holds Tryz.pinned (.plain (OpenSpec.upto fnExactWantOfSpec)) fnExactWantOfUptoCard

/-- THE SECOND FORM's CARD OF 'laws.FnExactServerRight'. -/
def fnExactServerRightUptoCard : Claim7 := { stood := { row := fnExactServerRightUptoRow, standIns := [], harness := (true, "0be011b785186173f11f43fc3e822680a46b9cbfc3dfe996096d6908edf5d6ec"), looks := false }, kinds := [], alts := [], laidByText := true, laidKinds := [.data, .pinned], laidTests := true, laidLooks := .later }
def FnExactServerRightUptoCardSaid : Prop := Claim7.holds Tryz.pinned (.plain (OpenSpec.upto fnExactServerRightSpec)) fnExactServerRightUptoCard

/-- THE SECOND FORM's CARD OF 'laws.FnExactTreeSearch'. -/
def fnExactTreeSearchUptoCard : Claim7 := { stood := { row := fnExactTreeSearchUptoRow, standIns := [], harness := (true, "0be011b785186173f11f43fc3e822680a46b9cbfc3dfe996096d6908edf5d6ec"), looks := false }, kinds := [], alts := [], laidByText := true, laidKinds := [.data, .pinned], laidTests := true, laidLooks := .later }
def FnExactTreeSearchUptoCardSaid : Prop := Claim7.holds Tryz.pinned (.plain (OpenSpec.upto fnExactTreeSearchSpec)) fnExactTreeSearchUptoCard

/-- THE SECOND FORM's CARD OF 'laws.FnExactTreeMove'. -/
def fnExactTreeMoveUptoCard : Claim7 := { stood := { row := fnExactTreeMoveUptoRow, standIns := [], harness := (true, "0be011b785186173f11f43fc3e822680a46b9cbfc3dfe996096d6908edf5d6ec"), looks := false }, kinds := [], alts := [], laidByText := true, laidKinds := [.data, .pinned], laidTests := true, laidLooks := .later }
def FnExactTreeMoveUptoCardSaid : Prop := Claim7.holds Tryz.pinned (.plain (OpenSpec.upto fnExactTreeMoveSpec)) fnExactTreeMoveUptoCard

/-- THE SECOND FORM's CARD OF 'laws.FnExactTreeModify'. -/
def fnExactTreeModifyUptoCard : Claim7 := { stood := { row := fnExactTreeModifyUptoRow, standIns := [], harness := (true, "0be011b785186173f11f43fc3e822680a46b9cbfc3dfe996096d6908edf5d6ec"), looks := false }, kinds := [], alts := [], laidByText := true, laidKinds := [.data, .pinned], laidTests := true, laidLooks := .later }
def FnExactTreeModifyUptoCardSaid : Prop := Claim7.holds Tryz.pinned (.plain (OpenSpec.upto fnExactTreeModifySpec)) fnExactTreeModifyUptoCard
end Rows
end Go.Proofs.YtamgeahibepfnaaGreatDoor
