/-
  Which variables the closure names.
-/
import Derived.Test.YtjflmmipjeangaaGreatDoorCl
import Derived.KernelRfl
namespace Go.Proofs.YtjflmmipjeangaaGreatDoor
open Go
set_option maxRecDepth 100000
noncomputable def gN (g : FuncId) : List Nat := ((Tryz.prog.funcs[g]?).bind (·.body)).elim [] Code.globalsNamed
noncomputable def rN (g : FuncId) : Option String := (Tryz.prog.funcs[g]?).bind fun fn => if fn.body.isNone then entryReads.lookup fn.name else none
theorem fl_app {α β : Type} (f : α → List β) {a b : List α} {x y : List β} (h1 : a.flatMap f = x) (h2 : b.flatMap f = y) : (a ++ b).flatMap f = x ++ y := by rw [List.flatMap_append, h1, h2]
theorem fm_app' {α β : Type} (f : α → Option β) {a b : List α} {x y : List β} (h1 : a.filterMap f = x) (h2 : b.filterMap f = y) : (a ++ b).filterMap f = x ++ y := by rw [List.filterMap_append, h1, h2]
theorem gv0_ok : cl0.flatMap gN = [0, 0, 0] := by kernel_rfl
theorem rv0_ok : cl0.filterMap rN = [] := by kernel_rfl
theorem gv1_ok : cl1.flatMap gN = [7] := by kernel_rfl
theorem rv1_ok : cl1.filterMap rN = [] := by kernel_rfl
theorem gv2_ok : cl2.flatMap gN = [9, 4] := by kernel_rfl
theorem rv2_ok : cl2.filterMap rN = [] := by kernel_rfl
theorem gv3_ok : cl3.flatMap gN = [5, 6, 8, 11, 12] := by kernel_rfl
theorem rv3_ok : cl3.filterMap rN = [] := by kernel_rfl
theorem gv4_ok : cl4.flatMap gN = [] := by kernel_rfl
theorem rv4_ok : cl4.filterMap rN = [] := by kernel_rfl
theorem gv5_ok : cl5.flatMap gN = [1, 2, 3, 3, 3, 10, 10, 10, 10, 10, 10] := by kernel_rfl
theorem rv5_ok : cl5.filterMap rN = ["internal/bytealg.MaxLen"] := by kernel_rfl
theorem gv6_ok : cl6.flatMap gN = [] := by kernel_rfl
theorem rv6_ok : cl6.filterMap rN = [] := by kernel_rfl
theorem gv7_ok : cl7.flatMap gN = [] := by kernel_rfl
theorem rv7_ok : cl7.filterMap rN = [] := by kernel_rfl
theorem gv_ok : (cl0 ++ (cl1 ++ (cl2 ++ (cl3 ++ (cl4 ++ (cl5 ++ (cl6 ++ (cl7)))))))).flatMap (fun g => ((Tryz.prog.funcs[g]?).bind (·.body)).elim [] Code.globalsNamed) = [0, 0, 0, 7, 9, 4, 5, 6, 8, 11, 12, 1, 2, 3, 3, 3, 10, 10, 10, 10, 10, 10] := (show (cl0 ++ (cl1 ++ (cl2 ++ (cl3 ++ (cl4 ++ (cl5 ++ (cl6 ++ (cl7)))))))).flatMap gN = _ from fl_app _ gv0_ok (fl_app _ gv1_ok (fl_app _ gv2_ok (fl_app _ gv3_ok (fl_app _ gv4_ok (fl_app _ gv5_ok (fl_app _ gv6_ok (gv7_ok)))))))).trans (by kernel_rfl)
theorem rv_ok : (cl0 ++ (cl1 ++ (cl2 ++ (cl3 ++ (cl4 ++ (cl5 ++ (cl6 ++ (cl7)))))))).filterMap (fun g => (Tryz.prog.funcs[g]?).bind fun fn => if fn.body.isNone then entryReads.lookup fn.name else none) = ["internal/bytealg.MaxLen"] := (show (cl0 ++ (cl1 ++ (cl2 ++ (cl3 ++ (cl4 ++ (cl5 ++ (cl6 ++ (cl7)))))))).filterMap rN = _ from fm_app' _ rv0_ok (fm_app' _ rv1_ok (fm_app' _ rv2_ok (fm_app' _ rv3_ok (fm_app' _ rv4_ok (fm_app' _ rv5_ok (fm_app' _ rv6_ok (rv7_ok)))))))).trans (by kernel_rfl)
theorem named_lit : ((([0, 0, 0, 7, 9, 4, 5, 6, 8, 11, 12, 1, 2, 3, 3, 3, 10, 10, 10, 10, 10, 10] : List Nat).eraseDups).filterMap (fun g => (Tryz.prog.globals[g]?).map (·.name)) ++ ["internal/bytealg.MaxLen"]).eraseDups = Rows.scriptRefusesRow.named := by kernel_rfl
theorem named_ok : Tryz.prog.varsNamed 3 = Rows.scriptRefusesRow.named := by
  unfold Program.varsNamed
  rw [closure_ok, gv_ok, rv_ok]
  exact named_lit
theorem Closed.k13 : ((Rows.scriptRefusesRow.named == Tryz.prog.varsNamed 3)) = true := by rw [named_ok]; exact beq_self_eq_true _
end Go.Proofs.YtjflmmipjeangaaGreatDoor
