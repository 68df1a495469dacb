/-
  DERIVED. GIVEN WITH THE SEED: THE CARDS: each row of YtdkbgdjfmbppfaaGreatDoorRows.lean that lists a variable, with what it lists TIED to the program's text (the seventh form; the later family's looks); each row that meets fmt, with fmt's text TOLD by the authors' own Lean function (tested against real Go, not proved from fmt's source: count such statements apart). THE CARD IS WHAT COUNTS. Prove the row's statement (the work); the ties are given (YtdkbgdjfmbppfaaGreatDoorTie.lean); close each card by the builder's one call (the guide's Derived/Test/ToyasCard.lean, 'card_holds'). Laid BY PROGRAM, IN A SANDBOX (cutbox-door.mjs). By AI agents, Wed Nov 11 2026. No macro, syntax, notation, axiom, sorry.
-/
import Derived.Test.YtdkbgdjfmbppfaaGreatDoorRows
import GoSem.ClaimSeven
namespace Go.Proofs.YtdkbgdjfmbppfaaGreatDoor
namespace Rows

/-- THE TIED CARD OF 'laws.FnAttr'. -/
def fnAttrCard : Claim7 := { stood := { row := fnAttrRow, standIns := [], harness := (true, "c4c35d851511fe352d9edcfb4099cf1a45d72b24abf522d431c524cfd4266a3c"), looks := false }, kinds := [], alts := [], laidByText := true, laidKinds := [.data, .pinned], laidTests := true, laidLooks := .later }
def FnAttrCardSaid : Prop := Claim7.holds Tryz.pinned (.plain (OpenSpec.ofChange fnAttrSpec)) fnAttrCard

/-- THE TIED CARD OF 'laws.FnSchema'. -/
def fnSchemaCard : Claim7 := { stood := { row := fnSchemaRow, standIns := [], harness := (true, "c4c35d851511fe352d9edcfb4099cf1a45d72b24abf522d431c524cfd4266a3c"), looks := false }, kinds := [], alts := [], laidByText := true, laidKinds := [.data, .pinned], laidTests := true, laidLooks := .later }
def FnSchemaCardSaid : Prop := Claim7.holds Tryz.pinned (.plain (OpenSpec.ofChange fnSchemaSpec)) fnSchemaCard

/-- THE TIED CARD OF 'laws.FnTree'. -/
def fnTreeCard : Claim7 := { stood := { row := fnTreeRow, standIns := [], harness := (true, "c4c35d851511fe352d9edcfb4099cf1a45d72b24abf522d431c524cfd4266a3c"), looks := false }, kinds := [], alts := [], laidByText := true, laidKinds := [.data, .pinned], laidTests := true, laidLooks := .later }
def FnTreeCardSaid : Prop := Claim7.holds Tryz.pinned (.plain (OpenSpec.ofChange fnTreeSpec)) fnTreeCard

/-- THE TIED CARD OF 'laws.FnSearch'. -/
def fnSearchCard : Claim7 := { stood := { row := fnSearchRow, standIns := [], harness := (true, "c4c35d851511fe352d9edcfb4099cf1a45d72b24abf522d431c524cfd4266a3c"), looks := false }, kinds := [], alts := [], laidByText := true, laidKinds := [.data, .pinned], laidTests := true, laidLooks := .later }
def FnSearchCardSaid : Prop := Claim7.holds Tryz.pinned (.plain (OpenSpec.ofChange fnSearchSpec)) fnSearchCard

/-- THE TIED CARD OF 'laws.FnMove'. -/
def fnMoveCard : Claim7 := { stood := { row := fnMoveRow, standIns := [], harness := (true, "c4c35d851511fe352d9edcfb4099cf1a45d72b24abf522d431c524cfd4266a3c"), looks := false }, kinds := [], alts := [], laidByText := true, laidKinds := [.data, .pinned], laidTests := true, laidLooks := .later }
def FnMoveCardSaid : Prop := Claim7.holds Tryz.pinned (.plain (OpenSpec.ofChange fnMoveSpec)) fnMoveCard

/-- THE TIED CARD OF 'laws.FnModify'. -/
def fnModifyCard : Claim7 := { stood := { row := fnModifyRow, standIns := [], harness := (true, "c4c35d851511fe352d9edcfb4099cf1a45d72b24abf522d431c524cfd4266a3c"), looks := false }, kinds := [], alts := [], laidByText := true, laidKinds := [.data, .pinned], laidTests := true, laidLooks := .later }
def FnModifyCardSaid : Prop := Claim7.holds Tryz.pinned (.plain (OpenSpec.ofChange fnModifySpec)) fnModifyCard

/-- THE SECOND FORM's CARD OF 'laws.FnAttr'. -/
def fnAttrUptoCard : Claim7 := { stood := { row := fnAttrUptoRow, standIns := [], harness := (true, "c4c35d851511fe352d9edcfb4099cf1a45d72b24abf522d431c524cfd4266a3c"), looks := false }, kinds := [], alts := [], laidByText := true, laidKinds := [.data, .pinned], laidTests := true, laidLooks := .later }
def FnAttrUptoCardSaid : Prop := Claim7.holds Tryz.pinned (.plain (OpenSpec.upto fnAttrSpec)) fnAttrUptoCard

/-- THE SECOND FORM's CARD OF 'laws.FnSchema'. -/
def fnSchemaUptoCard : Claim7 := { stood := { row := fnSchemaUptoRow, standIns := [], harness := (true, "c4c35d851511fe352d9edcfb4099cf1a45d72b24abf522d431c524cfd4266a3c"), looks := false }, kinds := [], alts := [], laidByText := true, laidKinds := [.data, .pinned], laidTests := true, laidLooks := .later }
def FnSchemaUptoCardSaid : Prop := Claim7.holds Tryz.pinned (.plain (OpenSpec.upto fnSchemaSpec)) fnSchemaUptoCard

/-- THE SECOND FORM's CARD OF 'laws.FnTree'. -/
def fnTreeUptoCard : Claim7 := { stood := { row := fnTreeUptoRow, standIns := [], harness := (true, "c4c35d851511fe352d9edcfb4099cf1a45d72b24abf522d431c524cfd4266a3c"), looks := false }, kinds := [], alts := [], laidByText := true, laidKinds := [.data, .pinned], laidTests := true, laidLooks := .later }
def FnTreeUptoCardSaid : Prop := Claim7.holds Tryz.pinned (.plain (OpenSpec.upto fnTreeSpec)) fnTreeUptoCard

/-- THE SECOND FORM's CARD OF 'laws.FnSearch'. -/
def fnSearchUptoCard : Claim7 := { stood := { row := fnSearchUptoRow, standIns := [], harness := (true, "c4c35d851511fe352d9edcfb4099cf1a45d72b24abf522d431c524cfd4266a3c"), looks := false }, kinds := [], alts := [], laidByText := true, laidKinds := [.data, .pinned], laidTests := true, laidLooks := .later }
def FnSearchUptoCardSaid : Prop := Claim7.holds Tryz.pinned (.plain (OpenSpec.upto fnSearchSpec)) fnSearchUptoCard

/-- THE SECOND FORM's CARD OF 'laws.FnMove'. -/
def fnMoveUptoCard : Claim7 := { stood := { row := fnMoveUptoRow, standIns := [], harness := (true, "c4c35d851511fe352d9edcfb4099cf1a45d72b24abf522d431c524cfd4266a3c"), looks := false }, kinds := [], alts := [], laidByText := true, laidKinds := [.data, .pinned], laidTests := true, laidLooks := .later }
def FnMoveUptoCardSaid : Prop := Claim7.holds Tryz.pinned (.plain (OpenSpec.upto fnMoveSpec)) fnMoveUptoCard

/-- THE SECOND FORM's CARD OF 'laws.FnModify'. -/
def fnModifyUptoCard : Claim7 := { stood := { row := fnModifyUptoRow, standIns := [], harness := (true, "c4c35d851511fe352d9edcfb4099cf1a45d72b24abf522d431c524cfd4266a3c"), looks := false }, kinds := [], alts := [], laidByText := true, laidKinds := [.data, .pinned], laidTests := true, laidLooks := .later }
def FnModifyUptoCardSaid : Prop := Claim7.holds Tryz.pinned (.plain (OpenSpec.upto fnModifySpec)) fnModifyUptoCard
end Rows
end Go.Proofs.YtdkbgdjfmbppfaaGreatDoor
