/-
  DERIVED. GIVEN WITH THE SEED: THE CARDS: each row of YtglbhjmpemiijaaGreatDoorRows.lean that lists a variable, with what it lists TIED to the program's text (the seventh form; the later family's looks); each row that meets fmt, with fmt's text TOLD by the authors' own Lean function (tested against real Go, not proved from fmt's source: count such statements apart). THE CARD IS WHAT COUNTS. Prove the row's statement (the work); the ties are given (YtglbhjmpemiijaaGreatDoorTie.lean); close each card by the builder's one call (the guide's Derived/Test/ToyasCard.lean, 'card_holds'). Laid BY PROGRAM, IN A SANDBOX (cutbox-door.mjs). By AI agents, Wed Nov 11 2026. No macro, syntax, notation, axiom, sorry.
-/
import Derived.Test.YtglbhjmpemiijaaGreatDoorRows
import GoSem.ClaimSeven
namespace Go.Proofs.YtglbhjmpemiijaaGreatDoor
namespace Rows

/-- THE TIED CARD OF 'laws.FnExactAttrSet'. -/
def fnExactAttrSetCard : Claim7 := { stood := { row := fnExactAttrSetRow, standIns := [], harness := (true, "eb755dfa08711af1a648e53091dc5c464bb2cff66a93e38078e62314a7416621"), looks := false }, kinds := [], alts := [], laidByText := true, laidKinds := [.data, .pinned], laidTests := true, laidLooks := .later }
def FnExactAttrSetCardSaid : Prop := Claim7.holds Tryz.pinned (.plain (OpenSpec.ofChange fnExactAttrSetSpec)) fnExactAttrSetCard

/-- THE TIED CARD OF 'laws.FnExactValueAdd'. -/
def fnExactValueAddCard : Claim7 := { stood := { row := fnExactValueAddRow, standIns := [], harness := (true, "eb755dfa08711af1a648e53091dc5c464bb2cff66a93e38078e62314a7416621"), looks := false }, kinds := [], alts := [], laidByText := true, laidKinds := [.data, .pinned], laidTests := true, laidLooks := .later }
def FnExactValueAddCardSaid : Prop := Claim7.holds Tryz.pinned (.plain (OpenSpec.ofChange fnExactValueAddSpec)) fnExactValueAddCard

/-- THE TIED CARD OF 'laws.FnExactTreeRight'. -/
def fnExactTreeRightCard : Claim7 := { stood := { row := fnExactTreeRightRow, standIns := [], harness := (true, "eb755dfa08711af1a648e53091dc5c464bb2cff66a93e38078e62314a7416621"), looks := false }, kinds := [], alts := [], laidByText := true, laidKinds := [.data, .pinned], laidTests := true, laidLooks := .later }
def FnExactTreeRightCardSaid : Prop := Claim7.holds Tryz.pinned (.plain (OpenSpec.ofChange fnExactTreeRightSpec)) fnExactTreeRightCard

/-- THE TIED CARD OF 'laws.FnSchema'. -/
def fnSchemaCard : Claim7 := { stood := { row := fnSchemaRow, standIns := [], harness := (true, "eb755dfa08711af1a648e53091dc5c464bb2cff66a93e38078e62314a7416621"), looks := false }, kinds := [], alts := [], laidByText := true, laidKinds := [.data, .pinned], laidTests := true, laidLooks := .later }
def FnSchemaCardSaid : Prop := Claim7.holds Tryz.pinned (.plain (OpenSpec.ofChange fnSchemaSpec)) fnSchemaCard

/-- THE TIED CARD OF 'laws.FnExactTreeGet'. -/
def fnExactTreeGetCard : Claim7 := { stood := { row := fnExactTreeGetRow, standIns := [], harness := (true, "eb755dfa08711af1a648e53091dc5c464bb2cff66a93e38078e62314a7416621"), looks := false }, kinds := [], alts := [], laidByText := true, laidKinds := [.data, .pinned], laidTests := true, laidLooks := .later }
def FnExactTreeGetCardSaid : Prop := Claim7.holds Tryz.pinned (.plain (OpenSpec.ofChange fnExactTreeGetSpec)) fnExactTreeGetCard

/-- THE TIED CARD OF 'laws.FnExactInFlow'. -/
def fnExactInFlowCard : Claim7 := { stood := { row := fnExactInFlowRow, standIns := [], harness := (true, "eb755dfa08711af1a648e53091dc5c464bb2cff66a93e38078e62314a7416621"), looks := false }, kinds := [], alts := [], laidByText := true, laidKinds := [.data, .pinned], laidTests := true, laidLooks := .later }
def FnExactInFlowCardSaid : Prop := Claim7.holds Tryz.pinned (.plain (OpenSpec.ofChange fnExactInFlowSpec)) fnExactInFlowCard

/-- THE TIED CARD OF 'laws.FnExactWantOf'. -/
def fnExactWantOfCard : Claim7 := { stood := { row := fnExactWantOfRow, standIns := [], harness := (true, "eb755dfa08711af1a648e53091dc5c464bb2cff66a93e38078e62314a7416621"), looks := false }, kinds := [], alts := [], laidByText := true, laidKinds := [.data, .pinned], laidTests := true, laidLooks := .later }
def FnExactWantOfCardSaid : Prop := Claim7.holds Tryz.pinned (.plain (OpenSpec.ofChange fnExactWantOfSpec)) fnExactWantOfCard

/-- THE TIED CARD OF 'laws.FnExactTreeDelete'. -/
def fnExactTreeDeleteCard : Claim7 := { stood := { row := fnExactTreeDeleteRow, standIns := [], harness := (true, "eb755dfa08711af1a648e53091dc5c464bb2cff66a93e38078e62314a7416621"), looks := false }, kinds := [], alts := [], laidByText := true, laidKinds := [.data, .pinned], laidTests := true, laidLooks := .later }
def FnExactTreeDeleteCardSaid : Prop := Claim7.holds Tryz.pinned (.plain (OpenSpec.ofChange fnExactTreeDeleteSpec)) fnExactTreeDeleteCard

/-- THE TIED CARD OF 'laws.FnExactTreeAdd'. -/
def fnExactTreeAddCard : Claim7 := { stood := { row := fnExactTreeAddRow, standIns := [], harness := (true, "eb755dfa08711af1a648e53091dc5c464bb2cff66a93e38078e62314a7416621"), looks := false }, kinds := [], alts := [], laidByText := true, laidKinds := [.data, .pinned], laidTests := true, laidLooks := .later }
def FnExactTreeAddCardSaid : Prop := Claim7.holds Tryz.pinned (.plain (OpenSpec.ofChange fnExactTreeAddSpec)) fnExactTreeAddCard

/-- THE TIED CARD OF 'laws.FnExactServerRight'. -/
def fnExactServerRightCard : Claim7 := { stood := { row := fnExactServerRightRow, standIns := [], harness := (true, "eb755dfa08711af1a648e53091dc5c464bb2cff66a93e38078e62314a7416621"), looks := false }, kinds := [], alts := [], laidByText := true, laidKinds := [.data, .pinned], laidTests := true, laidLooks := .later }
def FnExactServerRightCardSaid : Prop := Claim7.holds Tryz.pinned (.plain (OpenSpec.ofChange fnExactServerRightSpec)) fnExactServerRightCard

/-- THE TIED CARD OF 'laws.FnTree'. -/
def fnTreeCard : Claim7 := { stood := { row := fnTreeRow, standIns := [], harness := (true, "eb755dfa08711af1a648e53091dc5c464bb2cff66a93e38078e62314a7416621"), looks := false }, kinds := [], alts := [], laidByText := true, laidKinds := [.data, .pinned], laidTests := true, laidLooks := .later }
def FnTreeCardSaid : Prop := Claim7.holds Tryz.pinned (.plain (OpenSpec.ofChange fnTreeSpec)) fnTreeCard

/-- THE TIED CARD OF 'laws.FnExactTreeSearch'. -/
def fnExactTreeSearchCard : Claim7 := { stood := { row := fnExactTreeSearchRow, standIns := [], harness := (true, "eb755dfa08711af1a648e53091dc5c464bb2cff66a93e38078e62314a7416621"), looks := false }, kinds := [], alts := [], laidByText := true, laidKinds := [.data, .pinned], laidTests := true, laidLooks := .later }
def FnExactTreeSearchCardSaid : Prop := Claim7.holds Tryz.pinned (.plain (OpenSpec.ofChange fnExactTreeSearchSpec)) fnExactTreeSearchCard

/-- THE SECOND FORM's CARD OF 'laws.FnExactAttrSet'. -/
def fnExactAttrSetUptoCard : Claim7 := { stood := { row := fnExactAttrSetUptoRow, standIns := [], harness := (true, "eb755dfa08711af1a648e53091dc5c464bb2cff66a93e38078e62314a7416621"), looks := false }, kinds := [], alts := [], laidByText := true, laidKinds := [.data, .pinned], laidTests := true, laidLooks := .later }
def FnExactAttrSetUptoCardSaid : Prop := Claim7.holds Tryz.pinned (.plain (OpenSpec.upto fnExactAttrSetSpec)) fnExactAttrSetUptoCard

/-- THE SECOND FORM's CARD OF 'laws.FnExactValueAdd'. -/
def fnExactValueAddUptoCard : Claim7 := { stood := { row := fnExactValueAddUptoRow, standIns := [], harness := (true, "eb755dfa08711af1a648e53091dc5c464bb2cff66a93e38078e62314a7416621"), looks := false }, kinds := [], alts := [], laidByText := true, laidKinds := [.data, .pinned], laidTests := true, laidLooks := .later }
def FnExactValueAddUptoCardSaid : Prop := Claim7.holds Tryz.pinned (.plain (OpenSpec.upto fnExactValueAddSpec)) fnExactValueAddUptoCard

/-- THE SECOND FORM's CARD OF 'laws.FnExactTreeRight'. -/
def fnExactTreeRightUptoCard : Claim7 := { stood := { row := fnExactTreeRightUptoRow, standIns := [], harness := (true, "eb755dfa08711af1a648e53091dc5c464bb2cff66a93e38078e62314a7416621"), looks := false }, kinds := [], alts := [], laidByText := true, laidKinds := [.data, .pinned], laidTests := true, laidLooks := .later }
def FnExactTreeRightUptoCardSaid : Prop := Claim7.holds Tryz.pinned (.plain (OpenSpec.upto fnExactTreeRightSpec)) fnExactTreeRightUptoCard

/-- THE SECOND FORM's CARD OF 'laws.FnSchema'. -/
def fnSchemaUptoCard : Claim7 := { stood := { row := fnSchemaUptoRow, standIns := [], harness := (true, "eb755dfa08711af1a648e53091dc5c464bb2cff66a93e38078e62314a7416621"), looks := false }, kinds := [], alts := [], laidByText := true, laidKinds := [.data, .pinned], laidTests := true, laidLooks := .later }
def FnSchemaUptoCardSaid : Prop := Claim7.holds Tryz.pinned (.plain (OpenSpec.upto fnSchemaSpec)) fnSchemaUptoCard

/-- THE SECOND FORM's CARD OF 'laws.FnExactTreeGet'. -/
def fnExactTreeGetUptoCard : Claim7 := { stood := { row := fnExactTreeGetUptoRow, standIns := [], harness := (true, "eb755dfa08711af1a648e53091dc5c464bb2cff66a93e38078e62314a7416621"), looks := false }, kinds := [], alts := [], laidByText := true, laidKinds := [.data, .pinned], laidTests := true, laidLooks := .later }
def FnExactTreeGetUptoCardSaid : Prop := Claim7.holds Tryz.pinned (.plain (OpenSpec.upto fnExactTreeGetSpec)) fnExactTreeGetUptoCard

/-- THE SECOND FORM's CARD OF 'laws.FnExactInFlow'. -/
def fnExactInFlowUptoCard : Claim7 := { stood := { row := fnExactInFlowUptoRow, standIns := [], harness := (true, "eb755dfa08711af1a648e53091dc5c464bb2cff66a93e38078e62314a7416621"), looks := false }, kinds := [], alts := [], laidByText := true, laidKinds := [.data, .pinned], laidTests := true, laidLooks := .later }
def FnExactInFlowUptoCardSaid : Prop := Claim7.holds Tryz.pinned (.plain (OpenSpec.upto fnExactInFlowSpec)) fnExactInFlowUptoCard

/-- THE SECOND FORM's CARD OF 'laws.FnExactWantOf'. -/
def fnExactWantOfUptoCard : Claim7 := { stood := { row := fnExactWantOfUptoRow, standIns := [], harness := (true, "eb755dfa08711af1a648e53091dc5c464bb2cff66a93e38078e62314a7416621"), looks := false }, kinds := [], alts := [], laidByText := true, laidKinds := [.data, .pinned], laidTests := true, laidLooks := .later }
def FnExactWantOfUptoCardSaid : Prop := Claim7.holds Tryz.pinned (.plain (OpenSpec.upto fnExactWantOfSpec)) fnExactWantOfUptoCard

/-- THE SECOND FORM's CARD OF 'laws.FnExactTreeDelete'. -/
def fnExactTreeDeleteUptoCard : Claim7 := { stood := { row := fnExactTreeDeleteUptoRow, standIns := [], harness := (true, "eb755dfa08711af1a648e53091dc5c464bb2cff66a93e38078e62314a7416621"), looks := false }, kinds := [], alts := [], laidByText := true, laidKinds := [.data, .pinned], laidTests := true, laidLooks := .later }
def FnExactTreeDeleteUptoCardSaid : Prop := Claim7.holds Tryz.pinned (.plain (OpenSpec.upto fnExactTreeDeleteSpec)) fnExactTreeDeleteUptoCard

/-- THE SECOND FORM's CARD OF 'laws.FnExactTreeAdd'. -/
def fnExactTreeAddUptoCard : Claim7 := { stood := { row := fnExactTreeAddUptoRow, standIns := [], harness := (true, "eb755dfa08711af1a648e53091dc5c464bb2cff66a93e38078e62314a7416621"), looks := false }, kinds := [], alts := [], laidByText := true, laidKinds := [.data, .pinned], laidTests := true, laidLooks := .later }
def FnExactTreeAddUptoCardSaid : Prop := Claim7.holds Tryz.pinned (.plain (OpenSpec.upto fnExactTreeAddSpec)) fnExactTreeAddUptoCard

/-- THE SECOND FORM's CARD OF 'laws.FnExactServerRight'. -/
def fnExactServerRightUptoCard : Claim7 := { stood := { row := fnExactServerRightUptoRow, standIns := [], harness := (true, "eb755dfa08711af1a648e53091dc5c464bb2cff66a93e38078e62314a7416621"), looks := false }, kinds := [], alts := [], laidByText := true, laidKinds := [.data, .pinned], laidTests := true, laidLooks := .later }
def FnExactServerRightUptoCardSaid : Prop := Claim7.holds Tryz.pinned (.plain (OpenSpec.upto fnExactServerRightSpec)) fnExactServerRightUptoCard

/-- THE SECOND FORM's CARD OF 'laws.FnTree'. -/
def fnTreeUptoCard : Claim7 := { stood := { row := fnTreeUptoRow, standIns := [], harness := (true, "eb755dfa08711af1a648e53091dc5c464bb2cff66a93e38078e62314a7416621"), looks := false }, kinds := [], alts := [], laidByText := true, laidKinds := [.data, .pinned], laidTests := true, laidLooks := .later }
def FnTreeUptoCardSaid : Prop := Claim7.holds Tryz.pinned (.plain (OpenSpec.upto fnTreeSpec)) fnTreeUptoCard

/-- THE SECOND FORM's CARD OF 'laws.FnExactTreeSearch'. -/
def fnExactTreeSearchUptoCard : Claim7 := { stood := { row := fnExactTreeSearchUptoRow, standIns := [], harness := (true, "eb755dfa08711af1a648e53091dc5c464bb2cff66a93e38078e62314a7416621"), looks := false }, kinds := [], alts := [], laidByText := true, laidKinds := [.data, .pinned], laidTests := true, laidLooks := .later }
def FnExactTreeSearchUptoCardSaid : Prop := Claim7.holds Tryz.pinned (.plain (OpenSpec.upto fnExactTreeSearchSpec)) fnExactTreeSearchUptoCard
end Rows
end Go.Proofs.YtglbhjmpemiijaaGreatDoor
