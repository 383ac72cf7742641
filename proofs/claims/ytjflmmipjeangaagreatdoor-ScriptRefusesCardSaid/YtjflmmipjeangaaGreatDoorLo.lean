/-
  The program's types are laid out as they must be, by parts.
-/
import Derived.Test.YtjflmmipjeangaaGreatDoorRows
import Derived.ProofKit
namespace Go.Proofs.YtjflmmipjeangaaGreatDoor
open Go Go.ChangeShapes Go.WideShapes Go.ChangeAt Go.RowKit
set_option maxRecDepth 100000
theorem all_app {α : Type} (f : α → Bool) {a b : List α} (h1 : a.all f = true) (h2 : b.all f = true) : (a ++ b).all f = true := by rw [List.all_append, h1, h2]; rfl
theorem lo0 : (List.range' 0 120).all (rowFine Tryz.prog) = true := by kernel_rfl
theorem lo1 : (List.range' 120 120).all (rowFine Tryz.prog) = true := by kernel_rfl
theorem lo2 : (List.range' 240 120).all (rowFine Tryz.prog) = true := by kernel_rfl
theorem lo3 : (List.range' 360 120).all (rowFine Tryz.prog) = true := by kernel_rfl
theorem lo4 : (List.range' 480 120).all (rowFine Tryz.prog) = true := by kernel_rfl
theorem lo5 : (List.range' 600 120).all (rowFine Tryz.prog) = true := by kernel_rfl
theorem lo6 : (List.range' 720 120).all (rowFine Tryz.prog) = true := by kernel_rfl
theorem lo7 : (List.range' 840 68).all (rowFine Tryz.prog) = true := by kernel_rfl
theorem loSize : Tryz.prog.types.size = 908 := by kernel_rfl
theorem loRange : List.range 908 = List.range' 0 120 ++ (List.range' 120 120 ++ (List.range' 240 120 ++ (List.range' 360 120 ++ (List.range' 480 120 ++ (List.range' 600 120 ++ (List.range' 720 120 ++ (List.range' 840 68))))))) := by kernel_rfl
theorem loTypes : (List.range Tryz.prog.types.size).all (rowFine Tryz.prog) = true := by
  rw [loSize, loRange]
  exact all_app _ lo0 (all_app _ lo1 (all_app _ lo2 (all_app _ lo3 (all_app _ lo4 (all_app _ lo5 (all_app _ lo6 (lo7)))))))
theorem loGlobals : Tryz.prog.globals.all (fun g => decide (g.type < Tryz.prog.types.size)) = true := by kernel_rfl
theorem loFuncs : Tryz.prog.funcs.all (fun f => f.params.all fun t => decide (t < 908)) = true := by kernel_rfl
theorem laidOut_ok : laidOutB Tryz.prog = true := by
  unfold laidOutB
  rw [loTypes, loGlobals, loSize, loFuncs]
  rfl
theorem Closed.k2 : (laidOutB Tryz.prog) = true := laidOut_ok
end Go.Proofs.YtjflmmipjeangaaGreatDoor
