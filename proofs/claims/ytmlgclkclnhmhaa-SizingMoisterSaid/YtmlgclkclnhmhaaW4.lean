/-
  The contracts of the functions that the statements about sizing reach (4).
-/
import Derived.Test.YtmlgclkclnhmhaaW3
namespace Go.Proofs.Ytmlgclkclnhmhaa
open Go.RowKit

attribute [local go_sem] ExtOf.cell ExtOf.frozen

def vlm (t w l : Int) : Int := wrap64 (wrap64 (t * w) * l)

set_option maxHeartbeats 800000 in
theorem volume_any (id lg sp pr vo df wa dr gr : Value) (xa xb ya yb za zb su co st : Int) (s0 s1 s2 s3 s4 s5 s6 s7 s8 s9 s10 s11 : Value) (sh : Int) (w : World) :
    Calls Try.prog 13 #[.agg #[id, lg, sp, pr, .int .i64 xa, .int .i64 xb, .int .i64 ya, .int .i64 yb, .int .i64 za, .int .i64 zb, vo, df, wa, .int .i64 su, .int .i64 co, .int .i64 st, dr, gr], .agg #[s0, s1, s2, s3, s4, s5, s6, s7, s8, s9, s10, s11, .int .i64 sh]] w fun e w' => e = .returned (.int .i64 (vlm (dT xa xb ya yb su co st sh) (dW xa xb ya yb su co st sh) (bln za zb))) ∧ ∃ n : ExtOf w, w' = n.val := by
  go_enter Try.func13, Try.ntmps13
  go_wp2_with (first | ((with_reducible apply wl_load' lwB); (· (first | exact wanted_none rfl | exact wanted_some rfl rfl rfl)); (· rfl); (· infer_instance); (· rfl)) | ((with_reducible apply wl_load' lwP); (· (first | exact wanted_none rfl | exact wanted_some rfl rfl rfl)); (· rfl); (· infer_instance); (· rfl)) | ((with_reducible apply wl_load' lwS); (· (first | exact wanted_none rfl | exact wanted_some rfl rfl rfl)); (· rfl); (· infer_instance); (· rfl)) | (go_at_call 9; refine (dried_any _ _ _ _ _ _ _ _ _ _ _ _ _ _ _ _ _ _ _ _ _ _ _ _ _ _ _ _ _ _ _ _).mono ?_; rintro e w' ⟨rfl, n, rfl⟩) | (go_at_call 28; refine (blength_any _ _ _ _ _ _ _ _ _ _ _ _ _ _ _ _ _ _ _).mono ?_; rintro e w' ⟨rfl, n, rfl⟩))
  go_ret
  refine ⟨rfl, ?_⟩
  exact ExtOf.of (by repeat' (first | (with_reducible exact Ext.refl _) | (with_reducible exact ExtOf.ext _) | (with_reducible refine Ext.trans ?_ (ExtOf.ext _)) | (with_reducible refine Ext.alloc ?_ _) | (with_reducible refine Ext.drew ?_) | (with_reducible refine Ext.setCell ?_ ?_ _) | (with_reducible refine Ext.setRow ?_ ?_ _) | (simp; done) | (simp; omega)))

set_option maxHeartbeats 800000 in
theorem rvolume_any (id lg sp pr vo df wa dr gr : Value) (xa xb ya yb za zb su co st : Int) (s0 s1 s2 s3 s4 s5 s6 s7 s8 s9 s10 s11 : Value) (sh : Int) (w : World) :
    Calls Try.prog 14 #[.agg #[id, lg, sp, pr, .int .i64 xa, .int .i64 xb, .int .i64 ya, .int .i64 yb, .int .i64 za, .int .i64 zb, vo, df, wa, .int .i64 su, .int .i64 co, .int .i64 st, dr, gr], .agg #[s0, s1, s2, s3, s4, s5, s6, s7, s8, s9, s10, s11, .int .i64 sh]] w fun e w' => e = .returned (.int .i64 (vlm (dT xa xb ya yb su co st sh) (dW xa xb ya yb su co st sh) (bln za zb))) ∧ ∃ n : ExtOf w, w' = n.val := by
  go_enter Try.func14, Try.ntmps14
  go_wp2_with (first | ((with_reducible apply wl_load' lwB); (· (first | exact wanted_none rfl | exact wanted_some rfl rfl rfl)); (· rfl); (· infer_instance); (· rfl)) | ((with_reducible apply wl_load' lwP); (· (first | exact wanted_none rfl | exact wanted_some rfl rfl rfl)); (· rfl); (· infer_instance); (· rfl)) | ((with_reducible apply wl_load' lwS); (· (first | exact wanted_none rfl | exact wanted_some rfl rfl rfl)); (· rfl); (· infer_instance); (· rfl)) | (go_at_call 10; refine (rdried_any _ _ _ _ _ _ _ _ _ _ _ _ _ _ _ _ _ _ _ _ _ _ _ _ _ _ _ _ _ _ _ _).mono ?_; rintro e w' ⟨rfl, n, rfl⟩) | (go_at_call 29; refine (rblength_any _ _ _ _ _ _ _ _ _ _ _ _ _ _ _ _ _ _ _).mono ?_; rintro e w' ⟨rfl, n, rfl⟩))
  go_ret
  refine ⟨rfl, ?_⟩
  exact ExtOf.of (by repeat' (first | (with_reducible exact Ext.refl _) | (with_reducible exact ExtOf.ext _) | (with_reducible refine Ext.trans ?_ (ExtOf.ext _)) | (with_reducible refine Ext.alloc ?_ _) | (with_reducible refine Ext.drew ?_) | (with_reducible refine Ext.setCell ?_ ?_ _) | (with_reducible refine Ext.setRow ?_ ?_ _) | (simp; done) | (simp; omega)))

end Go.Proofs.Ytmlgclkclnhmhaa
