/- FnExactWantOf: further closed facts about the program that the row and the card ask. Conditions: none. -/
import Derived.Test.YtamgeahibepfnaaGreatDoorCards
import Derived.ProofKit
import Derived.OpenShut
import Derived.JoinedCond
import Derived.Deep.DeepHandedRow
import Derived.KernelRfl

namespace Go.Proofs.YtamgeahibepfnaaGreatDoor.fnExactWantOf
open Go Go.ChangeShapes Go.WideShapes Go.ChangeAt Go.RowKit

theorem found : Tryz.prog.funcNamed "loop.example/g00402/laws.FnExactWantOf" = some 4 := by kernel_rfl
theorem instanceT : Tryz.f4.isInstance Tryz.prog Rows.fnExactWantOfRow.origin Rows.fnExactWantOfRow.targs := of_decide_eq_true (by kernel_rfl)
theorem mainT : Tryz.pinned.checked.prog.mainIs = some (true, "0be011b785186173f11f43fc3e822680a46b9cbfc3dfe996096d6908edf5d6ec".toList) := by kernel_rfl
theorem looksT : false = Tryz.pinned.checked.prog.looks [] := by kernel_rfl
theorem textT : Rows.fnExactWantOfRow.wfByText (OpenSpec.ofChange Rows.fnExactWantOfSpec) = true := by kernel_rfl
theorem goesT : false = Rows.fnExactWantOfRow.goesBy Tryz.pinned.checked.prog := by kernel_rfl
end Go.Proofs.YtamgeahibepfnaaGreatDoor.fnExactWantOf
