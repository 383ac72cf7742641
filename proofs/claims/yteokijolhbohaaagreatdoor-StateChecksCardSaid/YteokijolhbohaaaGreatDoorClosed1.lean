/-
  Closed facts of the row, each by itself.
-/
import Derived.Test.YteokijolhbohaaaGreatDoorRows
import Derived.ProofKit
namespace Go.Proofs.YteokijolhbohaaaGreatDoor.Closed
open Go Go.ChangeShapes Go.WideShapes Go.ChangeAt Go.RowKit Go.Proofs.YteokijolhbohaaaGreatDoor
set_option maxRecDepth 100000
theorem k2 : (laidOutB Tryz.prog) = true := by kernel_rfl
theorem k6 : ((Rows.stateChecksRow.stops == [])) = true := by kernel_rfl
theorem k10 : ((Rows.stateChecksRow.inPlace == Tryz.prog.inPlace 3)) = true := by kernel_rfl
theorem k14 : ((Rows.stateChecksRow.maps == (Tryz.f3.params.toList ++ Rows.stateChecksSpec.plain.varTypes Tryz.prog).any (Tryz.prog.mapsRec ·))) = true := by kernel_rfl
theorem k17b : ((Rows.stateChecksRow.wideKeys == (Tryz.f3.params.toList ++ Rows.stateChecksSpec.plain.varTypes Tryz.prog ++ Tryz.f3.resultTypes.toList).any (Tryz.prog.wideKeysFrom ·))) = true := by kernel_rfl
theorem k21 : ((Rows.stateChecksRow.loopsOut == Tryz.f3.resultTypes.toList.any (Tryz.prog.loopsFrom ·))) = true := by kernel_rfl
theorem k24 : (Tryz.prog.mayEnter) = true := by kernel_rfl
theorem k25b : (Rows.stateChecksRow.domain.isEmpty) = true := by kernel_rfl
end Go.Proofs.YteokijolhbohaaaGreatDoor.Closed
