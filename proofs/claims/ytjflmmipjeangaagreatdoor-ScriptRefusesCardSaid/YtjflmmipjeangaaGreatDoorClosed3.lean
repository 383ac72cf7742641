/-
  Closed facts of the row, each by itself.
-/
import Derived.Test.YtjflmmipjeangaaGreatDoorRows
import Derived.ProofKit
import Derived.Test.YtjflmmipjeangaaGreatDoorClo
namespace Go.Proofs.YtjflmmipjeangaaGreatDoor.Closed
open Go Go.ChangeShapes Go.WideShapes Go.ChangeAt Go.RowKit Go.Proofs.YtjflmmipjeangaaGreatDoor
set_option maxRecDepth 100000
theorem ki : Tryz.f3.isInstance Tryz.prog Rows.scriptRefusesRow.origin Rows.scriptRefusesRow.targs := of_decide_eq_true (by kernel_rfl)
theorem kw : Tryz.f3.isWrapper Tryz.prog Rows.scriptRefusesRow.wrapper Rows.scriptRefusesRow.mainSum := by unfold Func.isWrapper; first | (rw [if_pos (by decide +kernel)]; kernel_rfl) | (rw [if_neg (by decide +kernel)]; exact ⟨rfl, rfl⟩)
theorem goesNone : Tryz.prog.funcs.any Func.goes = false := by kernel_rfl
end Go.Proofs.YtjflmmipjeangaaGreatDoor.Closed
