/- FnExactTreeAdd: further closed facts about the program that the row and the card ask. Conditions: none. -/
import Derived.Test.YtglbhjmpemiijaaGreatDoorCards
import Derived.ProofKit
import Derived.OpenShut
import Derived.JoinedCond
import Derived.Deep.DeepHandedRow
import Derived.KernelRfl

namespace Go.Proofs.YtglbhjmpemiijaaGreatDoor.fnExactTreeAdd
open Go Go.ChangeShapes Go.WideShapes Go.ChangeAt Go.RowKit

theorem found : Tryz.prog.funcNamed "loop.example/g00402/laws.FnExactTreeAdd" = some 11 := by kernel_rfl
theorem instanceT : Tryz.f11.isInstance Tryz.prog Rows.fnExactTreeAddRow.origin Rows.fnExactTreeAddRow.targs := of_decide_eq_true (by kernel_rfl)
theorem mainT : Tryz.pinned.checked.prog.mainIs = some (true, "eb755dfa08711af1a648e53091dc5c464bb2cff66a93e38078e62314a7416621".toList) := by kernel_rfl
theorem looksT : false = Tryz.pinned.checked.prog.looks [] := by kernel_rfl
theorem textT : Rows.fnExactTreeAddRow.wfByText (OpenSpec.ofChange Rows.fnExactTreeAddSpec) = true := by kernel_rfl
theorem goesT : false = Rows.fnExactTreeAddRow.goesBy Tryz.pinned.checked.prog := by kernel_rfl
end Go.Proofs.YtglbhjmpemiijaaGreatDoor.fnExactTreeAdd
