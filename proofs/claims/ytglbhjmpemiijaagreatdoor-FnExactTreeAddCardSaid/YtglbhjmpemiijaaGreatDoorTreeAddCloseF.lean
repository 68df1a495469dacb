/- FnExactTreeAdd: closed facts about the program that the row asks. Conditions: none. -/
import Derived.Test.YtglbhjmpemiijaaGreatDoorCards
import Derived.ProofKit
import Derived.OpenShut
import Derived.JoinedCond
import Derived.Deep.DeepHandedRow
import Derived.KernelRfl

namespace Go.Proofs.YtglbhjmpemiijaaGreatDoor.fnExactTreeAdd
open Go Go.ChangeShapes Go.WideShapes Go.ChangeAt Go.RowKit

theorem fact0 : (Rows.fnExactTreeAddRow.wf (OpenSpec.ofChange (OpenSpec.ofChange Rows.fnExactTreeAddSpec).bare)) = true := by kernel_rfl
theorem fact1 : (laidOutB Tryz.prog) = true := by kernel_rfl
theorem fact2 : (mapsRowed Tryz.prog) = true := by kernel_rfl
theorem fact3 : (Tryz.f11.params.all (Tryz.prog.readableRec ·)) = true := by kernel_rfl
theorem fact4 : (namedTie Tryz.prog Rows.fnExactTreeAddRow.named (OpenSpec.ofChange Rows.fnExactTreeAddSpec).bare.vars) = true := by kernel_rfl
theorem fact5 : ((Rows.fnExactTreeAddRow.stops == [])) = true := by kernel_rfl
theorem fact6 : ((Tryz.prog.stops == [])) = true := by kernel_rfl
theorem fact7 : ((Rows.fnExactTreeAddRow.knobs == [])) = true := by kernel_rfl
theorem fact8 : ((Tryz.prog.stopKnobs == [])) = true := by kernel_rfl
theorem fact9 : ((Rows.fnExactTreeAddRow.inPlace == Tryz.prog.inPlace 11)) = true := by kernel_rfl
theorem fact10 : ((Rows.fnExactTreeAddRow.unfollowed == Tryz.prog.unfollowed 11)) = true := by kernel_rfl
theorem fact11 : ((Rows.fnExactTreeAddRow.recurses == Tryz.prog.recurses 11)) = true := by kernel_rfl
theorem fact12 : ((Rows.fnExactTreeAddRow.named == Tryz.prog.varsNamed 11)) = true := by kernel_rfl
theorem fact13 : ((Rows.fnExactTreeAddRow.maps == (Tryz.f11.params.toList ++ (OpenSpec.ofChange Rows.fnExactTreeAddSpec).bare.plain.varTypes Tryz.prog).any (Tryz.prog.mapsRec ·))) = true := by kernel_rfl
theorem fact14 : ((Rows.fnExactTreeAddRow.ifaces == (Tryz.f11.params.toList ++ (OpenSpec.ofChange Rows.fnExactTreeAddSpec).bare.plain.varTypes Tryz.prog).any (Tryz.prog.ifacesRec ·))) = true := by kernel_rfl
theorem fact15 : ((Rows.fnExactTreeAddRow.mapsOut == Tryz.prog.mapsAmong Tryz.f11.resultTypes.toList)) = true := by kernel_rfl
theorem fact16 : ((Rows.fnExactTreeAddRow.loops == (Tryz.f11.params.toList ++ (OpenSpec.ofChange Rows.fnExactTreeAddSpec).bare.plain.varTypes Tryz.prog).any (Tryz.prog.loopsFrom ·))) = true := by kernel_rfl
theorem fact17 : ((Rows.fnExactTreeAddRow.wideKeys == (Tryz.f11.params.toList ++ (OpenSpec.ofChange Rows.fnExactTreeAddSpec).bare.plain.varTypes Tryz.prog ++ Tryz.f11.resultTypes.toList).any (Tryz.prog.wideKeysFrom ·))) = true := by kernel_rfl
theorem fact18 : ((OpenSpec.ofChange Rows.fnExactTreeAddSpec).bare.vars.all (Tryz.prog.varReadable ·)) = true := by kernel_rfl
theorem fact19 : (Tryz.f11.resultTypes.all (fun t => Tryz.prog.readableRec t && decide (t < Tryz.prog.types.size))) = true := by kernel_rfl
theorem fact20 : ((Rows.fnExactTreeAddRow.ifacesOut == Tryz.f11.resultTypes.toList.any (Tryz.prog.ifacesRec ·))) = true := by kernel_rfl
theorem fact21 : ((Rows.fnExactTreeAddRow.loopsOut == Tryz.f11.resultTypes.toList.any (Tryz.prog.loopsFrom ·))) = true := by kernel_rfl
theorem fact22 : ((Rows.fnExactTreeAddRow.plainKeys == Tryz.prog.plainKeys)) = true := by kernel_rfl
theorem fact23 : (Rows.fnExactTreeAddRow.shortTexts.isNone) = true := by kernel_rfl
theorem fact24 : (Tryz.prog.stopsHeard) = true := by kernel_rfl
theorem fact25 : (Tryz.prog.mayEnter) = true := by kernel_rfl
theorem fact26 : ((Rows.fnExactTreeAddRow.lifted == Tryz.prog.liftsFinal)) = true := by kernel_rfl
theorem fact27 : ((Tryz.prog.make == some Rows.fnExactTreeAddRow.make)) = true := by kernel_rfl
theorem fact28 : ((Rows.fnExactTreeAddRow.kinds == (if Rows.fnExactTreeAddRow.domain.isEmpty then [] else Tryz.f11.params.toList.map fun t => match Tryz.prog.underlying t with | some (.int k) => some k | _ => none))) = true := by kernel_rfl
theorem fact29 : ((Rows.fnExactTreeAddRow.pinned == Rows.fnExactTreeAddRow.pinnedBy)) = true := by kernel_rfl
theorem fact30 : ((Rows.fnExactTreeAddRow.veiled == (Tryz.f11.params.toList ++ (OpenSpec.ofChange Rows.fnExactTreeAddSpec).bare.plain.varTypes Tryz.prog ++ Tryz.f11.resultTypes.toList).any (Tryz.prog.veiledRec ·))) = true := by kernel_rfl
theorem fact31 : (Rows.fnExactTreeAddRow.veiledFits Tryz.prog Tryz.f11.params.toList (Tryz.f11.params.toList ++ (OpenSpec.ofChange Rows.fnExactTreeAddSpec).bare.plain.varTypes Tryz.prog ++ Tryz.f11.resultTypes.toList)) = true := by kernel_rfl
end Go.Proofs.YtglbhjmpemiijaaGreatDoor.fnExactTreeAdd
