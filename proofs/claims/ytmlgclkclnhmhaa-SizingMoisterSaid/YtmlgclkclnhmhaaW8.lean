/-
  The examples of the chapter: awake returns true.
-/
import Derived.Test.YtmlgclkclnhmhaaW7
namespace Go.Proofs.Ytmlgclkclnhmhaa
open Go.RowKit

attribute [local go_sem] ExtOf.cell ExtOf.frozen Block.cell Block.frozen

theorem x_d1 : dT 0 105 0 42 1200 1200 0 65 = 41 := by decide +kernel
theorem x_d2 : dW 0 105 0 42 1200 1200 0 65 = 101 := by decide +kernel
theorem x_u1 : und 41 101 40 100 = false := by decide +kernel
theorem x_d3 : dT 0 105 0 40 1200 1200 0 65 = 39 := by decide +kernel
theorem x_d4 : dW 0 105 0 40 1200 1200 0 65 = 101 := by decide +kernel
theorem x_u2 : und 39 101 40 100 = true := by decide +kernel
theorem x_a1 : alw 65 40 100 1200 = 31 := by decide +kernel
theorem x_a2 : alw 65 40 100 3000 = 0 := by decide +kernel
theorem x_v : vlm 41 101 (bln 0 2000) = 8282000 := by decide +kernel

set_option maxRecDepth 20000 in
set_option maxHeartbeats 3200000 in
theorem awake_any (w : World) :
    Calls Try.prog 15 #[] w fun e w' => e = .returned (.bool true) ∧ ∃ n : ExtOf w, w' = n.val := by
  have d1 := x_d1
  have d2 := x_d2
  have u1 := x_u1
  have d3 := x_d3
  have d4 := x_d4
  have u2 := x_u2
  have a1 := x_a1
  have a2 := x_a2
  have v := x_v
  go_enter Try.func15, Try.ntmps15
  go_wp2_with (first | ((with_reducible apply wl_store' lwB); (· (first | exact wanted_none rfl | exact wanted_some rfl rfl rfl)); (· rfl); (· rfl); (· infer_instance); (· rfl); (· rfl); (· (simp [Value.oneCell'])); simp only [setRow_alloc, setRow_new, setRow_new1, setRow_new2, setRow_new11, setRow_new111]) | ((with_reducible apply wl_store' lwP); (· (first | exact wanted_none rfl | exact wanted_some rfl rfl rfl)); (· rfl); (· rfl); (· infer_instance); (· rfl); (· rfl); (· (simp [Value.oneCell'])); simp only [setRow_alloc, setRow_new, setRow_new1, setRow_new2, setRow_new11, setRow_new111]) | ((with_reducible apply wl_store' lwS); (· (first | exact wanted_none rfl | exact wanted_some rfl rfl rfl)); (· rfl); (· rfl); (· infer_instance); (· rfl); (· rfl); (· (simp [Value.oneCell'])); simp only [setRow_alloc, setRow_new, setRow_new1, setRow_new2, setRow_new11, setRow_new111]) | ((with_reducible apply wl_load' lwB); (· (first | exact wanted_none rfl | exact wanted_some rfl rfl rfl)); (· rfl); (· infer_instance); (· rfl)) | ((with_reducible apply wl_load' lwP); (· (first | exact wanted_none rfl | exact wanted_some rfl rfl rfl)); (· rfl); (· infer_instance); (· rfl)) | ((with_reducible apply wl_load' lwS); (· (first | exact wanted_none rfl | exact wanted_some rfl rfl rfl)); (· rfl); (· infer_instance); (· rfl)) | (go_at_call 30; refine (sample_any _).mono ?_; rintro e w' ⟨rfl, n, rfl⟩) | (go_at_call 9; refine (dried_any _ _ _ _ _ _ _ _ _ _ _ _ _ _ _ _ _ _ _ _ _ _ _ _ _ _ _ _ _ _ _ _).mono ?_; rintro e w' ⟨rfl, n, rfl⟩) | (go_at_call 11; refine (under_any _ _ _ _ _ _ _ _ _ _ _ _ _ _ _ _ _ _ _ _ _ _ _ _ _ _ _ _ _ _ _ _ _ _ _ _ _ _ _).mono ?_; rintro e w' ⟨rfl, n, rfl⟩) | (go_at_call 16; refine (allow_any _ _ _ _ _ _ _ _ _ _ _ _ _ _ _ _ _ _ _ _ _ _).mono ?_; rintro e w' ⟨rfl, n, rfl⟩) | (go_at_call 13; refine (volume_any _ _ _ _ _ _ _ _ _ _ _ _ _ _ _ _ _ _ _ _ _ _ _ _ _ _ _ _ _ _ _ _).mono ?_; rintro e w' ⟨rfl, n, rfl⟩))
  go_ret
  refine ⟨rfl, ?_⟩
  exact ExtOf.of (by repeat' (first | (with_reducible exact Ext.refl _) | (with_reducible exact ExtOf.ext _) | (with_reducible refine Ext.trans ?_ (ExtOf.ext _)) | (with_reducible refine Ext.alloc ?_ _) | (with_reducible refine Ext.drew ?_) | (with_reducible refine Ext.setCell ?_ ?_ _) | (with_reducible refine Ext.setRow ?_ ?_ _) | (simp; done) | (simp; omega)))

end Go.Proofs.Ytmlgclkclnhmhaa
