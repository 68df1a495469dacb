/- FnExactServerTrim: further closed facts about the program that the row and the card ask. Conditions: none. -/
import Derived.Test.YtipjjjlomghdfaaGreatDoorCards
import Derived.ProofKit
import Derived.OpenShut
import Derived.JoinedCond
import Derived.Deep.DeepHandedRow
import Derived.KernelRfl

namespace Go.Proofs.YtipjjjlomghdfaaGreatDoor.fnExactServerTrim
open Go Go.ChangeShapes Go.WideShapes Go.ChangeAt Go.RowKit

theorem found : Tryz.prog.funcNamed "loop.example/g00402/laws.FnExactServerTrim" = some 5 := by kernel_rfl
theorem instanceT : Tryz.f5.isInstance Tryz.prog Rows.fnExactServerTrimRow.origin Rows.fnExactServerTrimRow.targs := of_decide_eq_true (by kernel_rfl)
theorem mainT : Tryz.pinned.checked.prog.mainIs = some (true, "e3bcb997335afaefed2b75d949b069dffefcbcae3ce3dc7d1cbfb9ffa5ee9bf0".toList) := by kernel_rfl
theorem looksT : false = Tryz.pinned.checked.prog.looks [] := by kernel_rfl
theorem textT : Rows.fnExactServerTrimRow.wfByText (OpenSpec.ofChange Rows.fnExactServerTrimSpec) = true := by kernel_rfl
theorem goesT : false = Rows.fnExactServerTrimRow.goesBy Tryz.pinned.checked.prog := by kernel_rfl
end Go.Proofs.YtipjjjlomghdfaaGreatDoor.fnExactServerTrim
