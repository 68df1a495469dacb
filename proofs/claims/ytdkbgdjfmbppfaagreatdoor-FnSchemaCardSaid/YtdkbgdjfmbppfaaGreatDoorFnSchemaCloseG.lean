/- FnSchema: further closed facts about the program that the row and the card ask. Conditions: none. -/
import Derived.Test.YtdkbgdjfmbppfaaGreatDoorCards
import Derived.ProofKit
import Derived.OpenShut
import Derived.JoinedCond
import Derived.Deep.DeepHandedRow
import Derived.KernelRfl

namespace Go.Proofs.YtdkbgdjfmbppfaaGreatDoor.fnSchema
open Go Go.ChangeShapes Go.WideShapes Go.ChangeAt Go.RowKit

theorem found : Tryz.prog.funcNamed "loop.example/g00402/laws.FnSchema" = some 4 := by kernel_rfl
theorem instanceT : Tryz.f4.isInstance Tryz.prog Rows.fnSchemaRow.origin Rows.fnSchemaRow.targs := of_decide_eq_true (by kernel_rfl)
theorem mainT : Tryz.pinned.checked.prog.mainIs = some (true, "c4c35d851511fe352d9edcfb4099cf1a45d72b24abf522d431c524cfd4266a3c".toList) := by kernel_rfl
theorem looksT : false = Tryz.pinned.checked.prog.looks [] := by kernel_rfl
theorem textT : Rows.fnSchemaRow.wfByText (OpenSpec.ofChange Rows.fnSchemaSpec) = true := by kernel_rfl
theorem goesT : false = Rows.fnSchemaRow.goesBy Tryz.pinned.checked.prog := by kernel_rfl
end Go.Proofs.YtdkbgdjfmbppfaaGreatDoor.fnSchema
