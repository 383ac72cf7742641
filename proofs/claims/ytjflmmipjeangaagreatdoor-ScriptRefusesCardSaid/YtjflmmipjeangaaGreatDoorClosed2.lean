/-
  Closed facts of the row, each by itself.
-/
import Derived.Test.YtjflmmipjeangaaGreatDoorRows
import Derived.ProofKit
namespace Go.Proofs.YtjflmmipjeangaaGreatDoor.Closed
open Go Go.ChangeShapes Go.WideShapes Go.ChangeAt Go.RowKit Go.Proofs.YtjflmmipjeangaaGreatDoor
set_option maxRecDepth 100000
theorem k24 : (Tryz.prog.mayEnter) = true := by kernel_rfl
end Go.Proofs.YtjflmmipjeangaaGreatDoor.Closed
