/-
  A world that the row's condition admits: its shape, the call's input, the listed variables.
-/
import Derived.Test.YtjflmmipjeangaaGreatDoorRows
import Derived.ProofKit
import Derived.LaidMore
import Derived.Lay
namespace Go.Proofs.YtjflmmipjeangaaGreatDoor.Wit
open Go Go.ChangeShapes Go.WideShapes Go.ChangeAt Go.RowKit Go.Proofs.YtjflmmipjeangaaGreatDoor
set_option maxRecDepth 100000
theorem sh (os : Os) : ((World.laidAll Tryz.prog os Rows.scriptRefusesRow.laid).forCall (fun _ _ => 0) ⟨#[], #[.string .empty], []⟩).Shaped Tryz.checked.prog := World.shaped_of_ZipB (by kernel_rfl) (by kernel_rfl)
theorem ok (os : Os) : Input.okWideB Tryz.checked.prog ((World.laidAll Tryz.prog os Rows.scriptRefusesRow.laid).forCall (fun _ _ => 0) ⟨#[], #[.string .empty], []⟩) 3 ⟨#[], #[.string .empty], []⟩ = true := by kernel_rfl
theorem pre (H : Type) (enc : TypeId × Value → H) (os : Os) : Rows.scriptRefusesSpec.preB enc Tryz.checked.prog Tryz.f3 [] false ((World.laidAll Tryz.prog os Rows.scriptRefusesRow.laid).forCall (fun _ _ => 0) ⟨#[], #[.string .empty], []⟩).memory #[.string .empty] 8 = true := by kernel_rfl
theorem sz (H : Type) (enc : TypeId × Value → H) (os : Os) : Rows.scriptRefusesSpec.sizedB enc Tryz.checked.prog Tryz.f3 false ((World.laidAll Tryz.prog os Rows.scriptRefusesRow.laid).forCall (fun _ _ => 0) ⟨#[], #[.string .empty], []⟩).memory #[.string .empty] 8 = true := by kernel_rfl
theorem fits (os : Os) : (World.holding Tryz.prog os ⟨#[], #[], []⟩).layFits Tryz.prog Rows.scriptRefusesRow.laid [] = true := by kernel_rfl
theorem ifs (os : Os) : (World.holding Tryz.prog os ⟨#[], #[], []⟩).layIfaces Tryz.prog Rows.scriptRefusesRow.laid (World.laidAll Tryz.prog os Rows.scriptRefusesRow.laid) = true := by kernel_rfl
theorem met (os : Os) : laidMetH Tryz.prog Rows.scriptRefusesRow.laid ((World.laidAll Tryz.prog os Rows.scriptRefusesRow.laid).forCall (fun _ _ => 0) ⟨#[], #[.string .empty], []⟩).memory := by
  rw [MakeChecks.laidMetH_plain _ _ _ (by kernel_rfl)]
  exact laidMet_laidAll _ (fits os) (ifs os)
end Go.Proofs.YtjflmmipjeangaaGreatDoor.Wit
