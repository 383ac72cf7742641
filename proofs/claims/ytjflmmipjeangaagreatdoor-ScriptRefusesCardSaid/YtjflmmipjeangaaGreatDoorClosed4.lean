/-
  Closed facts of the row, each by itself.
-/
import Derived.Test.YtjflmmipjeangaaGreatDoorRows
import Derived.ProofKit
namespace Go.Proofs.YtjflmmipjeangaaGreatDoor.Closed
open Go Go.ChangeShapes Go.WideShapes Go.ChangeAt Go.RowKit Go.Proofs.YtjflmmipjeangaaGreatDoor
set_option maxRecDepth 100000
theorem k3 : (mapsRowed Tryz.prog) = true := by kernel_rfl
theorem k5 : (namedTie Tryz.prog Rows.scriptRefusesRow.named Rows.scriptRefusesSpec.vars) = true := by kernel_rfl
theorem k7 : ((Tryz.prog.stops == [])) = true := by kernel_rfl
theorem k9 : ((Tryz.prog.stopKnobs == [])) = true := by kernel_rfl
theorem k15 : ((Rows.scriptRefusesRow.ifaces == (Tryz.f3.params.toList ++ Rows.scriptRefusesSpec.plain.varTypes Tryz.prog).any (Tryz.prog.ifacesRec ·))) = true := by kernel_rfl
theorem k17 : ((Rows.scriptRefusesRow.loops == (Tryz.f3.params.toList ++ Rows.scriptRefusesSpec.plain.varTypes Tryz.prog).any (Tryz.prog.loopsFrom ·))) = true := by kernel_rfl
theorem k18 : (Rows.scriptRefusesSpec.vars.all (Tryz.prog.varReadable ·)) = true := by kernel_rfl
theorem k20 : ((Rows.scriptRefusesRow.ifacesOut == Tryz.f3.resultTypes.toList.any (Tryz.prog.ifacesRec ·))) = true := by kernel_rfl
theorem k22 : ((Rows.scriptRefusesRow.plainKeys == Tryz.prog.plainKeys)) = true := by kernel_rfl
theorem k23b : (Tryz.prog.stopsHeard) = true := by kernel_rfl
theorem k24c : ((Tryz.prog.make == some Rows.scriptRefusesRow.make)) = true := by kernel_rfl
theorem k25b : (Rows.scriptRefusesRow.domain.isEmpty) = true := by kernel_rfl
theorem k27 : ((Rows.scriptRefusesRow.veiled == (Tryz.f3.params.toList ++ Rows.scriptRefusesSpec.plain.varTypes Tryz.prog ++ Tryz.f3.resultTypes.toList).any (Tryz.prog.veiledRec ·))) = true := by kernel_rfl
end Go.Proofs.YtjflmmipjeangaaGreatDoor.Closed
