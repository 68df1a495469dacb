/-
  DERIVED. GIVEN WITH THE SEED: THE CARDS: each row of YtecdehhdbbckoaaGreatDoorRows.lean that lists a variable, with what it lists TIED to the program's text (the seventh form; the later family's looks); each row that meets fmt, with fmt's text TOLD by the authors' own Lean function (tested against real Go, not proved from fmt's source: count such statements apart). THE CARD IS WHAT COUNTS. Prove the row's statement (the work); the ties are given (YtecdehhdbbckoaaGreatDoorTie.lean); close each card by the builder's one call (the guide's Derived/Test/ToyasCard.lean, 'card_holds'). Laid BY PROGRAM, IN A SANDBOX (cutbox-door.mjs). By AI agents, Wed Nov 11 2026. No macro, syntax, notation, axiom, sorry.
-/
import Derived.Test.YtecdehhdbbckoaaGreatDoorRows
import GoSem.ClaimSeven
namespace Go.Proofs.YtecdehhdbbckoaaGreatDoor
namespace Rows

/-- THE TIED CARD OF 'laws.FnExactMissing'. -/
def fnExactMissingCard : Claim7 := { stood := { row := fnExactMissingRow, standIns := [], harness := (true, "23216873ea65a750423200150b296154dd3162a05be228e4ff76cff6d8455d6d"), looks := false }, kinds := [], alts := [], laidByText := true, laidKinds := [.data, .pinned], laidTests := true, laidLooks := .later }
def FnExactMissingCardSaid : Prop := Claim7.holds Tryz.pinned (.plain (OpenSpec.ofChange fnExactMissingSpec)) fnExactMissingCard

/-- THE TIED CARD OF 'laws.FnExactAttrSet'. -/
def fnExactAttrSetCard : Claim7 := { stood := { row := fnExactAttrSetRow, standIns := [], harness := (true, "23216873ea65a750423200150b296154dd3162a05be228e4ff76cff6d8455d6d"), looks := false }, kinds := [], alts := [], laidByText := true, laidKinds := [.data, .pinned], laidTests := true, laidLooks := .later }
def FnExactAttrSetCardSaid : Prop := Claim7.holds Tryz.pinned (.plain (OpenSpec.ofChange fnExactAttrSetSpec)) fnExactAttrSetCard

/-- THE TIED CARD OF 'laws.FnAttr'. -/
def fnAttrCard : Claim7 := { stood := { row := fnAttrRow, standIns := [], harness := (true, "23216873ea65a750423200150b296154dd3162a05be228e4ff76cff6d8455d6d"), looks := false }, kinds := [], alts := [], laidByText := true, laidKinds := [.data, .pinned], laidTests := true, laidLooks := .later }
def FnAttrCardSaid : Prop := Claim7.holds Tryz.pinned (.plain (OpenSpec.ofChange fnAttrSpec)) fnAttrCard

/-- THE TIED CARD OF 'laws.FnExactValueAdd'. -/
def fnExactValueAddCard : Claim7 := { stood := { row := fnExactValueAddRow, standIns := [], harness := (true, "23216873ea65a750423200150b296154dd3162a05be228e4ff76cff6d8455d6d"), looks := false }, kinds := [], alts := [], laidByText := true, laidKinds := [.data, .pinned], laidTests := true, laidLooks := .later }
def FnExactValueAddCardSaid : Prop := Claim7.holds Tryz.pinned (.plain (OpenSpec.ofChange fnExactValueAddSpec)) fnExactValueAddCard

/-- THE SECOND FORM's CARD OF 'laws.FnExactMissing'. -/
def fnExactMissingUptoCard : Claim7 := { stood := { row := fnExactMissingUptoRow, standIns := [], harness := (true, "23216873ea65a750423200150b296154dd3162a05be228e4ff76cff6d8455d6d"), looks := false }, kinds := [], alts := [], laidByText := true, laidKinds := [.data, .pinned], laidTests := true, laidLooks := .later }
def FnExactMissingUptoCardSaid : Prop := Claim7.holds Tryz.pinned (.plain (OpenSpec.upto fnExactMissingSpec)) fnExactMissingUptoCard

/-- THE SECOND FORM's CARD OF 'laws.FnExactAttrSet'. -/
def fnExactAttrSetUptoCard : Claim7 := { stood := { row := fnExactAttrSetUptoRow, standIns := [], harness := (true, "23216873ea65a750423200150b296154dd3162a05be228e4ff76cff6d8455d6d"), looks := false }, kinds := [], alts := [], laidByText := true, laidKinds := [.data, .pinned], laidTests := true, laidLooks := .later }
def FnExactAttrSetUptoCardSaid : Prop := Claim7.holds Tryz.pinned (.plain (OpenSpec.upto fnExactAttrSetSpec)) fnExactAttrSetUptoCard

/-- THE SECOND FORM's CARD OF 'laws.FnAttr'. -/
def fnAttrUptoCard : Claim7 := { stood := { row := fnAttrUptoRow, standIns := [], harness := (true, "23216873ea65a750423200150b296154dd3162a05be228e4ff76cff6d8455d6d"), looks := false }, kinds := [], alts := [], laidByText := true, laidKinds := [.data, .pinned], laidTests := true, laidLooks := .later }
def FnAttrUptoCardSaid : Prop := Claim7.holds Tryz.pinned (.plain (OpenSpec.upto fnAttrSpec)) fnAttrUptoCard

/-- THE SECOND FORM's CARD OF 'laws.FnExactValueAdd'. -/
def fnExactValueAddUptoCard : Claim7 := { stood := { row := fnExactValueAddUptoRow, standIns := [], harness := (true, "23216873ea65a750423200150b296154dd3162a05be228e4ff76cff6d8455d6d"), looks := false }, kinds := [], alts := [], laidByText := true, laidKinds := [.data, .pinned], laidTests := true, laidLooks := .later }
def FnExactValueAddUptoCardSaid : Prop := Claim7.holds Tryz.pinned (.plain (OpenSpec.upto fnExactValueAddSpec)) fnExactValueAddUptoCard
end Rows
end Go.Proofs.YtecdehhdbbckoaaGreatDoor
