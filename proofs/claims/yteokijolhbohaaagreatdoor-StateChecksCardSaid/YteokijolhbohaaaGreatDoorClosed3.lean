/-
  Closed facts of the row, each by itself.
-/
import Derived.Test.YteokijolhbohaaaGreatDoorRows
import Derived.ProofKit
namespace Go.Proofs.YteokijolhbohaaaGreatDoor.Closed
open Go Go.ChangeShapes Go.WideShapes Go.ChangeAt Go.RowKit Go.Proofs.YteokijolhbohaaaGreatDoor
set_option maxRecDepth 100000
theorem k4 : (Tryz.f3.params.all (Tryz.prog.readableRec ·)) = true := by kernel_rfl
theorem k8 : ((Rows.stateChecksRow.knobs == [])) = true := by kernel_rfl
theorem k12 : ((Rows.stateChecksRow.recurses == Tryz.prog.recurses 3)) = true := by kernel_rfl
theorem k16 : ((Rows.stateChecksRow.mapsOut == Tryz.prog.mapsAmong Tryz.f3.resultTypes.toList)) = true := by kernel_rfl
theorem k19 : (Tryz.f3.resultTypes.all (fun t => Tryz.prog.readableRec t && decide (t < Tryz.prog.types.size))) = true := by kernel_rfl
theorem k23 : (Rows.stateChecksRow.shortTexts.isNone) = true := by kernel_rfl
theorem k24c : ((Tryz.prog.make == some Rows.stateChecksRow.make)) = true := by kernel_rfl
theorem k27 : ((Rows.stateChecksRow.veiled == (Tryz.f3.params.toList ++ Rows.stateChecksSpec.plain.varTypes Tryz.prog ++ Tryz.f3.resultTypes.toList).any (Tryz.prog.veiledRec ·))) = true := by kernel_rfl
theorem kf : Tryz.prog.funcNamed Rows.stateChecksRow.func = some 3 := by kernel_rfl
theorem ki : Tryz.f3.isInstance Tryz.prog Rows.stateChecksRow.origin Rows.stateChecksRow.targs := of_decide_eq_true (by kernel_rfl)
theorem kw : Tryz.f3.isWrapper Tryz.prog Rows.stateChecksRow.wrapper Rows.stateChecksRow.mainSum := by unfold Func.isWrapper; first | (rw [if_pos (by decide +kernel)]; kernel_rfl) | (rw [if_neg (by decide +kernel)]; exact ⟨rfl, rfl⟩)
end Go.Proofs.YteokijolhbohaaaGreatDoor.Closed
