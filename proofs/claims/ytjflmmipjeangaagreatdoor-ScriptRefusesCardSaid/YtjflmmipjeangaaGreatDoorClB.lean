/-
  Which functions of the closure are answered in place.
-/
import Derived.Test.YtjflmmipjeangaaGreatDoorCl
import Derived.KernelRfl
namespace Go.Proofs.YtjflmmipjeangaaGreatDoor
open Go
set_option maxRecDepth 100000
noncomputable def inP (g : FuncId) : Option String := (Tryz.prog.funcs[g]?).bind fun fn => if fn.ours || fn.body.isNone || fn.name == "runtime.NumGoroutine" then some fn.name else none
theorem fm_app {α β : Type} (f : α → Option β) {a b : List α} {x y : List β} (h1 : a.filterMap f = x) (h2 : b.filterMap f = y) : (a ++ b).filterMap f = x ++ y := by rw [List.filterMap_append, h1, h2]
theorem in0_ok : cl0.filterMap inP = [Tryz.f108.name] := by kernel_rfl
theorem in1_ok : cl1.filterMap inP = [] := by kernel_rfl
theorem in2_ok : cl2.filterMap inP = [] := by kernel_rfl
theorem in3_ok : cl3.filterMap inP = [Tryz.f317.name] := by kernel_rfl
theorem in4_ok : cl4.filterMap inP = [] := by kernel_rfl
theorem in5_ok : cl5.filterMap inP = [Tryz.f301.name, Tryz.f323.name, Tryz.f238.name] := by kernel_rfl
theorem in6_ok : cl6.filterMap inP = [] := by kernel_rfl
theorem in7_ok : cl7.filterMap inP = [] := by kernel_rfl
theorem inPlace_ok : Tryz.prog.inPlace 3 = Rows.scriptRefusesRow.inPlace := by
  unfold Program.inPlace
  rw [closure_ok]
  exact (fm_app _ in0_ok (fm_app _ in1_ok (fm_app _ in2_ok (fm_app _ in3_ok (fm_app _ in4_ok (fm_app _ in5_ok (fm_app _ in6_ok (in7_ok)))))))).trans (by kernel_rfl)
theorem Closed.k10 : ((Rows.scriptRefusesRow.inPlace == Tryz.prog.inPlace 3)) = true := by rw [inPlace_ok]; exact beq_self_eq_true _
end Go.Proofs.YtjflmmipjeangaaGreatDoor
