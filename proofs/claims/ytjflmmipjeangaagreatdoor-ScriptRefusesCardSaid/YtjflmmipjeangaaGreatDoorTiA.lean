/-
  The tie's facts, one by one: which function lays the variables.
-/
import Derived.Test.YtjflmmipjeangaaGreatDoorRows
import Derived.LaidByTextLater
import Derived.SevenTiedAt
import Derived.LaidSub
import Derived.LaidOnce
namespace Go.Proofs.YtjflmmipjeangaaGreatDoor.Own
open Go Go.Proofs.YtjflmmipjeangaaGreatDoor
set_option maxRecDepth 100000
theorem gv : Tryz.prog.funcNamed "gosem.cut.vars" = some 772 := by kernel_rfl
theorem vid : varsId Tryz.prog = 772 := by unfold varsId; rw [gv]; rfl
end Go.Proofs.YtjflmmipjeangaaGreatDoor.Own
