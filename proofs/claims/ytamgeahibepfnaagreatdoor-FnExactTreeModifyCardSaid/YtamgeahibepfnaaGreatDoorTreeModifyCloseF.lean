/- FnExactTreeModify: closed facts about the program that the row asks. Conditions: none. -/
import Derived.Test.YtamgeahibepfnaaGreatDoorCards
import Derived.ProofKit
import Derived.OpenShut
import Derived.JoinedCond
import Derived.Deep.DeepHandedRow
import Derived.KernelRfl

namespace Go.Proofs.YtamgeahibepfnaaGreatDoor.fnExactTreeModify
open Go Go.ChangeShapes Go.WideShapes Go.ChangeAt Go.RowKit

theorem fact0 : (Rows.fnExactTreeModifyRow.wf (OpenSpec.ofChange (OpenSpec.ofChange Rows.fnExactTreeModifySpec).bare)) = true := by kernel_rfl
theorem fact1 : (laidOutB Tryz.prog) = true := by kernel_rfl
theorem fact2 : (mapsRowed Tryz.prog) = true := by kernel_rfl
theorem fact3 : (Tryz.f8.params.all (Tryz.prog.readableRec ·)) = true := by kernel_rfl
theorem fact4 : (namedTie Tryz.prog Rows.fnExactTreeModifyRow.named (OpenSpec.ofChange Rows.fnExactTreeModifySpec).bare.vars) = true := by kernel_rfl
theorem fact5 : ((Rows.fnExactTreeModifyRow.stops == [])) = true := by kernel_rfl
theorem fact6 : ((Tryz.prog.stops == [])) = true := by kernel_rfl
theorem fact7 : ((Rows.fnExactTreeModifyRow.knobs == [])) = true := by kernel_rfl
theorem fact8 : ((Tryz.prog.stopKnobs == [])) = true := by kernel_rfl
theorem fact9 : ((Rows.fnExactTreeModifyRow.inPlace == Tryz.prog.inPlace 8)) = true := by kernel_rfl
theorem fact10 : ((Rows.fnExactTreeModifyRow.unfollowed == Tryz.prog.unfollowed 8)) = true := by kernel_rfl
theorem fact11 : ((Rows.fnExactTreeModifyRow.recurses == Tryz.prog.recurses 8)) = true := by kernel_rfl
theorem fact12 : ((Rows.fnExactTreeModifyRow.named == Tryz.prog.varsNamed 8)) = true := by kernel_rfl
theorem fact13 : ((Rows.fnExactTreeModifyRow.maps == (Tryz.f8.params.toList ++ (OpenSpec.ofChange Rows.fnExactTreeModifySpec).bare.plain.varTypes Tryz.prog).any (Tryz.prog.mapsRec ·))) = true := by kernel_rfl
theorem fact14 : ((Rows.fnExactTreeModifyRow.ifaces == (Tryz.f8.params.toList ++ (OpenSpec.ofChange Rows.fnExactTreeModifySpec).bare.plain.varTypes Tryz.prog).any (Tryz.prog.ifacesRec ·))) = true := by kernel_rfl
theorem fact15 : ((Rows.fnExactTreeModifyRow.mapsOut == Tryz.prog.mapsAmong Tryz.f8.resultTypes.toList)) = true := by kernel_rfl
theorem fact16 : ((Rows.fnExactTreeModifyRow.loops == (Tryz.f8.params.toList ++ (OpenSpec.ofChange Rows.fnExactTreeModifySpec).bare.plain.varTypes Tryz.prog).any (Tryz.prog.loopsFrom ·))) = true := by kernel_rfl
theorem fact17 : ((Rows.fnExactTreeModifyRow.wideKeys == (Tryz.f8.params.toList ++ (OpenSpec.ofChange Rows.fnExactTreeModifySpec).bare.plain.varTypes Tryz.prog ++ Tryz.f8.resultTypes.toList).any (Tryz.prog.wideKeysFrom ·))) = true := by kernel_rfl
theorem fact18 : ((OpenSpec.ofChange Rows.fnExactTreeModifySpec).bare.vars.all (Tryz.prog.varReadable ·)) = true := by kernel_rfl
theorem fact19 : (Tryz.f8.resultTypes.all (fun t => Tryz.prog.readableRec t && decide (t < Tryz.prog.types.size))) = true := by kernel_rfl
theorem fact20 : ((Rows.fnExactTreeModifyRow.ifacesOut == Tryz.f8.resultTypes.toList.any (Tryz.prog.ifacesRec ·))) = true := by kernel_rfl
theorem fact21 : ((Rows.fnExactTreeModifyRow.loopsOut == Tryz.f8.resultTypes.toList.any (Tryz.prog.loopsFrom ·))) = true := by kernel_rfl
theorem fact22 : ((Rows.fnExactTreeModifyRow.plainKeys == Tryz.prog.plainKeys)) = true := by kernel_rfl
theorem fact23 : (Rows.fnExactTreeModifyRow.shortTexts.isNone) = true := by kernel_rfl
theorem fact24 : (Tryz.prog.stopsHeard) = true := by kernel_rfl
theorem fact25 : (Tryz.prog.mayEnter) = true := by kernel_rfl
theorem fact26 : ((Rows.fnExactTreeModifyRow.lifted == Tryz.prog.liftsFinal)) = true := by kernel_rfl
theorem fact27 : ((Tryz.prog.make == some Rows.fnExactTreeModifyRow.make)) = true := by kernel_rfl
theorem fact28 : ((Rows.fnExactTreeModifyRow.kinds == (if Rows.fnExactTreeModifyRow.domain.isEmpty then [] else Tryz.f8.params.toList.map fun t => match Tryz.prog.underlying t with | some (.int k) => some k | _ => none))) = true := by kernel_rfl
theorem fact29 : ((Rows.fnExactTreeModifyRow.pinned == Rows.fnExactTreeModifyRow.pinnedBy)) = true := by kernel_rfl
theorem fact30 : ((Rows.fnExactTreeModifyRow.veiled == (Tryz.f8.params.toList ++ (OpenSpec.ofChange Rows.fnExactTreeModifySpec).bare.plain.varTypes Tryz.prog ++ Tryz.f8.resultTypes.toList).any (Tryz.prog.veiledRec ·))) = true := by kernel_rfl
theorem fact31 : (Rows.fnExactTreeModifyRow.veiledFits Tryz.prog Tryz.f8.params.toList (Tryz.f8.params.toList ++ (OpenSpec.ofChange Rows.fnExactTreeModifySpec).bare.plain.varTypes Tryz.prog ++ Tryz.f8.resultTypes.toList)) = true := by kernel_rfl
end Go.Proofs.YtamgeahibepfnaaGreatDoor.fnExactTreeModify
