/-
  Closed facts of the row, each by itself.
-/
import Derived.Test.YteokijolhbohaaaGreatDoorRows
import Derived.ProofKit
namespace Go.Proofs.YteokijolhbohaaaGreatDoor.Closed
open Go Go.ChangeShapes Go.WideShapes Go.ChangeAt Go.RowKit Go.Proofs.YteokijolhbohaaaGreatDoor
set_option maxRecDepth 100000
theorem k3 : (mapsRowed Tryz.prog) = true := by kernel_rfl
theorem k7 : ((Tryz.prog.stops == [])) = true := by kernel_rfl
theorem k11 : ((Rows.stateChecksRow.unfollowed == Tryz.prog.unfollowed 3)) = true := by kernel_rfl
theorem k15 : ((Rows.stateChecksRow.ifaces == (Tryz.f3.params.toList ++ Rows.stateChecksSpec.plain.varTypes Tryz.prog).any (Tryz.prog.ifacesRec ·))) = true := by kernel_rfl
theorem k18 : (Rows.stateChecksSpec.vars.all (Tryz.prog.varReadable ·)) = true := by kernel_rfl
theorem k22 : ((Rows.stateChecksRow.plainKeys == Tryz.prog.plainKeys)) = true := by kernel_rfl
theorem k24b : ((Rows.stateChecksRow.lifted == Tryz.prog.liftsFinal)) = true := by kernel_rfl
theorem k26 : ((Rows.stateChecksRow.pinned == Rows.stateChecksRow.pinnedBy)) = true := by kernel_rfl
end Go.Proofs.YteokijolhbohaaaGreatDoor.Closed
