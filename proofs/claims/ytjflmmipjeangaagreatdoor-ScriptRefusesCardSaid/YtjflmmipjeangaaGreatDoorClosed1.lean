/-
  Closed facts of the row, each by itself.
-/
import Derived.Test.YtjflmmipjeangaaGreatDoorRows
import Derived.ProofKit
namespace Go.Proofs.YtjflmmipjeangaaGreatDoor.Closed
open Go Go.ChangeShapes Go.WideShapes Go.ChangeAt Go.RowKit Go.Proofs.YtjflmmipjeangaaGreatDoor
set_option maxRecDepth 100000
theorem kf : Tryz.prog.funcNamed Rows.scriptRefusesRow.func = some 3 := by kernel_rfl
end Go.Proofs.YtjflmmipjeangaaGreatDoor.Closed
