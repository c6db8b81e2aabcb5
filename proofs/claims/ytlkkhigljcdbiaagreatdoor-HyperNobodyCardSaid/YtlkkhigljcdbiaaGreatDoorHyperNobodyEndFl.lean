/- Closed facts of the row. -/
import Derived.Test.YtlkkhigljcdbiaaGreatDoorRows
import Derived.ProofKit
set_option maxRecDepth 100000
namespace Go.Proofs.YtlkkhigljcdbiaaGreatDoor.hyperNobody
open Go.ChangeShapes Go.WideShapes Go.RowKit

theorem fn_named : Tryz.pinned.checked.prog.funcNamed Rows.hyperNobodyRow.func = some 3 := by kernel_rfl
theorem fx0 : (Rows.hyperNobodyRow.wf (OpenSpec.ofChange Rows.hyperNobodySpec)) = true := by kernel_rfl
theorem fx3 : (Tryz.f3.params.all (Tryz.pinned.checked.prog.readableRec ·)) = true := by kernel_rfl
theorem fx4 : (namedTie Tryz.pinned.checked.prog Rows.hyperNobodyRow.named Rows.hyperNobodySpec.vars) = true := by kernel_rfl
theorem fx5 : ((Rows.hyperNobodyRow.stops == [])) = true := by kernel_rfl
theorem fx6 : ((Tryz.pinned.checked.prog.stops == [])) = true := by kernel_rfl
theorem fx7 : ((Rows.hyperNobodyRow.knobs == [])) = true := by kernel_rfl
theorem fx8 : ((Tryz.pinned.checked.prog.stopKnobs == [])) = true := by kernel_rfl
theorem fx13 : ((Rows.hyperNobodyRow.maps == (Tryz.f3.params.toList ++ Rows.hyperNobodySpec.plain.varTypes Tryz.pinned.checked.prog).any (Tryz.pinned.checked.prog.mapsRec ·))) = true := by kernel_rfl
theorem fx14 : ((Rows.hyperNobodyRow.ifaces == (Tryz.f3.params.toList ++ Rows.hyperNobodySpec.plain.varTypes Tryz.pinned.checked.prog).any (Tryz.pinned.checked.prog.ifacesRec ·))) = true := by kernel_rfl
theorem fx15 : ((Rows.hyperNobodyRow.mapsOut == Tryz.pinned.checked.prog.mapsAmong Tryz.f3.resultTypes.toList)) = true := by kernel_rfl
theorem fx16 : ((Rows.hyperNobodyRow.loops == (Tryz.f3.params.toList ++ Rows.hyperNobodySpec.plain.varTypes Tryz.pinned.checked.prog).any (Tryz.pinned.checked.prog.loopsFrom ·))) = true := by kernel_rfl
theorem fx17 : ((Rows.hyperNobodyRow.wideKeys == (Tryz.f3.params.toList ++ Rows.hyperNobodySpec.plain.varTypes Tryz.pinned.checked.prog ++ Tryz.f3.resultTypes.toList).any (Tryz.pinned.checked.prog.wideKeysFrom ·))) = true := by kernel_rfl
theorem fx18 : (Rows.hyperNobodySpec.vars.all (Tryz.pinned.checked.prog.varReadable ·)) = true := by kernel_rfl
theorem fx19 : (Tryz.f3.resultTypes.all (fun t => Tryz.pinned.checked.prog.readableRec t && decide (t < Tryz.pinned.checked.prog.types.size))) = true := by kernel_rfl
theorem fx20 : ((Rows.hyperNobodyRow.ifacesOut == Tryz.f3.resultTypes.toList.any (Tryz.pinned.checked.prog.ifacesRec ·))) = true := by kernel_rfl
theorem fx21 : ((Rows.hyperNobodyRow.loopsOut == Tryz.f3.resultTypes.toList.any (Tryz.pinned.checked.prog.loopsFrom ·))) = true := by kernel_rfl
theorem fx23 : (Rows.hyperNobodyRow.shortTexts.isNone) = true := by kernel_rfl
theorem fx26 : ((Rows.hyperNobodyRow.lifted == Tryz.pinned.checked.prog.liftsFinal)) = true := by kernel_rfl
theorem fx27 : ((Tryz.pinned.checked.prog.make == some Rows.hyperNobodyRow.make)) = true := by kernel_rfl
theorem fx28 : ((Rows.hyperNobodyRow.kinds == (if Rows.hyperNobodyRow.domain.isEmpty then [] else Tryz.f3.params.toList.map fun t => match Tryz.pinned.checked.prog.underlying t with | some (.int k) => some k | _ => none))) = true := by kernel_rfl
theorem fx29 : ((Rows.hyperNobodyRow.pinned == Rows.hyperNobodyRow.pinnedBy)) = true := by kernel_rfl
theorem fx30 : ((Rows.hyperNobodyRow.veiled == (Tryz.f3.params.toList ++ Rows.hyperNobodySpec.plain.varTypes Tryz.pinned.checked.prog ++ Tryz.f3.resultTypes.toList).any (Tryz.pinned.checked.prog.veiledRec ·))) = true := by kernel_rfl
theorem fx31 : (Rows.hyperNobodyRow.veiledFits Tryz.pinned.checked.prog Tryz.f3.params.toList (Tryz.f3.params.toList ++ Rows.hyperNobodySpec.plain.varTypes Tryz.pinned.checked.prog ++ Tryz.f3.resultTypes.toList)) = true := by kernel_rfl

end Go.Proofs.YtlkkhigljcdbiaaGreatDoor.hyperNobody
