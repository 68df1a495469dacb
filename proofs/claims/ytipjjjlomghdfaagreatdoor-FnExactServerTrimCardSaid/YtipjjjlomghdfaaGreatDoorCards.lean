/-
  DERIVED. GIVEN WITH THE SEED: THE CARDS: each row of YtipjjjlomghdfaaGreatDoorRows.lean that lists a variable, with what it lists TIED to the program's text (the seventh form; the later family's looks); each row that meets fmt, with fmt's text TOLD by the authors' own Lean function (tested against real Go, not proved from fmt's source: count such statements apart). THE CARD IS WHAT COUNTS. Prove the row's statement (the work); the ties are given (YtipjjjlomghdfaaGreatDoorTie.lean); close each card by the builder's one call (the guide's Derived/Test/ToyasCard.lean, 'card_holds'). Laid BY PROGRAM, IN A SANDBOX (cutbox-door.mjs). By AI agents, Wed Nov 11 2026. No macro, syntax, notation, axiom, sorry.
-/
import Derived.Test.YtipjjjlomghdfaaGreatDoorRows
import GoSem.ClaimSeven
namespace Go.Proofs.YtipjjjlomghdfaaGreatDoor
namespace Rows

/-- THE TIED CARD OF 'laws.FnExactServerRight'. -/
def fnExactServerRightCard : Claim7 := { stood := { row := fnExactServerRightRow, standIns := [], harness := (true, "e3bcb997335afaefed2b75d949b069dffefcbcae3ce3dc7d1cbfb9ffa5ee9bf0"), looks := false }, kinds := [], alts := [], laidByText := true, laidKinds := [.data, .pinned], laidTests := true, laidLooks := .later }
def FnExactServerRightCardSaid : Prop := Claim7.holds Tryz.pinned (.plain (OpenSpec.ofChange fnExactServerRightSpec)) fnExactServerRightCard

/-- THE TIED CARD OF 'laws.FnExactWantsOf'. -/
def fnExactWantsOfCard : Claim7 := { stood := { row := fnExactWantsOfRow, standIns := [], harness := (true, "e3bcb997335afaefed2b75d949b069dffefcbcae3ce3dc7d1cbfb9ffa5ee9bf0"), looks := false }, kinds := [], alts := [], laidByText := true, laidKinds := [.data, .pinned], laidTests := true, laidLooks := .later }
def FnExactWantsOfCardSaid : Prop := Claim7.holds Tryz.pinned (.plain (OpenSpec.ofChange fnExactWantsOfSpec)) fnExactWantsOfCard

/-- THE TIED CARD OF 'laws.FnExactServerTrim'. -/
def fnExactServerTrimCard : Claim7 := { stood := { row := fnExactServerTrimRow, standIns := [], harness := (true, "e3bcb997335afaefed2b75d949b069dffefcbcae3ce3dc7d1cbfb9ffa5ee9bf0"), looks := false }, kinds := [], alts := [], laidByText := true, laidKinds := [.data, .pinned], laidTests := true, laidLooks := .later }
def FnExactServerTrimCardSaid : Prop := Claim7.holds Tryz.pinned (.plain (OpenSpec.ofChange fnExactServerTrimSpec)) fnExactServerTrimCard

/-- THE TIED CARD OF 'laws.FnExactWorldRight'. -/
def fnExactWorldRightCard : Claim7 := { stood := { row := fnExactWorldRightRow, standIns := [], harness := (true, "e3bcb997335afaefed2b75d949b069dffefcbcae3ce3dc7d1cbfb9ffa5ee9bf0"), looks := false }, kinds := [], alts := [], laidByText := true, laidKinds := [.data, .pinned], laidTests := true, laidLooks := .later }
def FnExactWorldRightCardSaid : Prop := Claim7.holds Tryz.pinned (.plain (OpenSpec.ofChange fnExactWorldRightSpec)) fnExactWorldRightCard

/-- THE TIED CARD OF 'laws.FnExactIdle'. -/
def fnExactIdleCard : Claim7 := { stood := { row := fnExactIdleRow, standIns := [], harness := (true, "e3bcb997335afaefed2b75d949b069dffefcbcae3ce3dc7d1cbfb9ffa5ee9bf0"), looks := false }, kinds := [], alts := [], laidByText := true, laidKinds := [.data, .pinned], laidTests := true, laidLooks := .later }
def FnExactIdleCardSaid : Prop := Claim7.holds Tryz.pinned (.plain (OpenSpec.ofChange fnExactIdleSpec)) fnExactIdleCard

/-- THE SECOND FORM's CARD OF 'laws.FnExactServerRight'. -/
def fnExactServerRightUptoCard : Claim7 := { stood := { row := fnExactServerRightUptoRow, standIns := [], harness := (true, "e3bcb997335afaefed2b75d949b069dffefcbcae3ce3dc7d1cbfb9ffa5ee9bf0"), looks := false }, kinds := [], alts := [], laidByText := true, laidKinds := [.data, .pinned], laidTests := true, laidLooks := .later }
def FnExactServerRightUptoCardSaid : Prop := Claim7.holds Tryz.pinned (.plain (OpenSpec.upto fnExactServerRightSpec)) fnExactServerRightUptoCard

/-- THE SECOND FORM's CARD OF 'laws.FnExactWantsOf'. -/
def fnExactWantsOfUptoCard : Claim7 := { stood := { row := fnExactWantsOfUptoRow, standIns := [], harness := (true, "e3bcb997335afaefed2b75d949b069dffefcbcae3ce3dc7d1cbfb9ffa5ee9bf0"), looks := false }, kinds := [], alts := [], laidByText := true, laidKinds := [.data, .pinned], laidTests := true, laidLooks := .later }
def FnExactWantsOfUptoCardSaid : Prop := Claim7.holds Tryz.pinned (.plain (OpenSpec.upto fnExactWantsOfSpec)) fnExactWantsOfUptoCard

/-- THE SECOND FORM's CARD OF 'laws.FnExactServerTrim'. -/
def fnExactServerTrimUptoCard : Claim7 := { stood := { row := fnExactServerTrimUptoRow, standIns := [], harness := (true, "e3bcb997335afaefed2b75d949b069dffefcbcae3ce3dc7d1cbfb9ffa5ee9bf0"), looks := false }, kinds := [], alts := [], laidByText := true, laidKinds := [.data, .pinned], laidTests := true, laidLooks := .later }
def FnExactServerTrimUptoCardSaid : Prop := Claim7.holds Tryz.pinned (.plain (OpenSpec.upto fnExactServerTrimSpec)) fnExactServerTrimUptoCard

/-- THE SECOND FORM's CARD OF 'laws.FnExactWorldRight'. -/
def fnExactWorldRightUptoCard : Claim7 := { stood := { row := fnExactWorldRightUptoRow, standIns := [], harness := (true, "e3bcb997335afaefed2b75d949b069dffefcbcae3ce3dc7d1cbfb9ffa5ee9bf0"), looks := false }, kinds := [], alts := [], laidByText := true, laidKinds := [.data, .pinned], laidTests := true, laidLooks := .later }
def FnExactWorldRightUptoCardSaid : Prop := Claim7.holds Tryz.pinned (.plain (OpenSpec.upto fnExactWorldRightSpec)) fnExactWorldRightUptoCard

/-- THE SECOND FORM's CARD OF 'laws.FnExactIdle'. -/
def fnExactIdleUptoCard : Claim7 := { stood := { row := fnExactIdleUptoRow, standIns := [], harness := (true, "e3bcb997335afaefed2b75d949b069dffefcbcae3ce3dc7d1cbfb9ffa5ee9bf0"), looks := false }, kinds := [], alts := [], laidByText := true, laidKinds := [.data, .pinned], laidTests := true, laidLooks := .later }
def FnExactIdleUptoCardSaid : Prop := Claim7.holds Tryz.pinned (.plain (OpenSpec.upto fnExactIdleSpec)) fnExactIdleUptoCard
end Rows
end Go.Proofs.YtipjjjlomghdfaaGreatDoor
