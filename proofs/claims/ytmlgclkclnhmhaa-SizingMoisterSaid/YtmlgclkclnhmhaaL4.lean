/-
  The walk of the statement SizingShrinks: it returns true.
-/
import Derived.Test.YtmlgclkclnhmhaaM3
namespace Go.Proofs.Ytmlgclkclnhmhaa
open Go.RowKit

attribute [local go_sem] ExtOf.cell ExtOf.frozen Block.cell Block.frozen
theorem oneB {id lg sp pr vo df wa dr gr : Value} {xa xb ya yb za zb su co st : Int} (o1 : id.oneCell' = true) (o2 : lg.oneCell' = true) (o3 : sp.oneCell' = true) (o4 : pr.oneCell' = true) (o5 : vo.oneCell' = true) (o6 : df.oneCell' = true) (o7 : wa.oneCell' = true) (o8 : dr.oneCell' = true) (o9 : gr.oneCell' = true) : (#[id, lg, sp, pr, .int .i64 xa, .int .i64 xb, .int .i64 ya, .int .i64 yb, .int .i64 za, .int .i64 zb, vo, df, wa, .int .i64 su, .int .i64 co, .int .i64 st, dr, gr] : Array Value).all (·.oneCell') = true := by
  have hi : ∀ n : Int, (Value.int .i64 n).oneCell' = true := fun _ => rfl
  simp only [List.size_toArray, List.all_toArray', List.all_cons, List.all_nil, hi, o1, o2, o3, o4, o5, o6, o7, o8, o9, Bool.and_self]

set_option maxRecDepth 20000 in
set_option maxHeartbeats 6400000 in
theorem shrinks_a (id lg sp pr vo df wa dr gr : Value) (xa xb ya yb za zb su co st : Int) (s0 s1 s2 s3 s4 s5 s6 s7 s8 s9 s10 s11 : Value) (sh : Int) (w : World) (o1 : id.oneCell' = true) (o2 : lg.oneCell' = true) (o3 : sp.oneCell' = true) (o4 : pr.oneCell' = true) (o5 : vo.oneCell' = true) (o6 : df.oneCell' = true) (o7 : wa.oneCell' = true) (o8 : dr.oneCell' = true) (o9 : gr.oneCell' = true) (hs1 : (dT ya yb xa xb su co st sh != dT xa xb ya yb su co st sh) = false) (hs2 : (dW ya yb xa xb su co st sh != dW xa xb ya yb su co st sh) = false) (hs3 : decide (dT xa xb ya yb su co st sh < 0) = false) (hs4 : decide (dW xa xb ya yb su co st sh < dT xa xb ya yb su co st sh) = false) (hb : (bvl xa xb ya yb za zb == 0) = true) :
    Calls Try.prog 8 #[.agg #[id, lg, sp, pr, .int .i64 xa, .int .i64 xb, .int .i64 ya, .int .i64 yb, .int .i64 za, .int .i64 zb, vo, df, wa, .int .i64 su, .int .i64 co, .int .i64 st, dr, gr], .agg #[s0, s1, s2, s3, s4, s5, s6, s7, s8, s9, s10, s11, .int .i64 sh]] w fun e w' => e = .returned (.bool true) ∧ ∃ n : ExtOf w, w' = n.val := by
  go_enter Try.func8, Try.ntmps8
  go_wp2_with (first | ((with_reducible apply wl_store' lwB); (· (first | exact wanted_none rfl | exact wanted_some rfl rfl rfl)); (· rfl); (· rfl); (· infer_instance); (· rfl); (· rfl); (· exact oneB o1 o2 o3 o4 o5 o6 o7 o8 o9); simp only [setRow_alloc, setRow_new, setRow_new1, setRow_new2, setRow_new11, setRow_new111]) | (((with_reducible apply wl_load' lwB); (· (first | exact wanted_none rfl | exact wanted_some rfl rfl rfl)); (· rfl); (· infer_instance); (· rfl)); (try simp only [List.setIfInBounds_toArray, List.set_cons_succ, List.set_cons_zero])) | (((with_reducible apply wl_load' lwS); (· (first | exact wanted_none rfl | exact wanted_some rfl rfl rfl)); (· rfl); (· infer_instance); (· rfl)); (try simp only [List.setIfInBounds_toArray, List.set_cons_succ, List.set_cons_zero])) | (go_at_call 9; refine (dried_any _ _ _ _ _ _ _ _ _ _ _ _ _ _ _ _ _ _ _ _ _ _ _ _ _ _ _ _ _ _ _ _).mono ?_; rintro e w' ⟨rfl, n, rfl⟩) | (go_at_call 21; refine (bvolume_any _ _ _ _ _ _ _ _ _ _ _ _ _ _ _ _ _ _ _).mono ?_; rintro e w' ⟨rfl, n, rfl⟩) | (go_at_call 18; refine (wood_any _ _ _ _ _ _ _ _ _ _ _ _ _ _).mono ?_; rintro e w' ⟨rfl, n, rfl⟩) | (go_at_call 15; refine (awake_any _).mono ?_; rintro e w' ⟨rfl, n, rfl⟩))
  go_ret
  refine ⟨rfl, ?_⟩
  exact ExtOf.of (by repeat' (first | (with_reducible exact Ext.refl _) | (with_reducible exact ExtOf.ext _) | (with_reducible refine Ext.trans ?_ (ExtOf.ext _)) | (with_reducible refine Ext.alloc ?_ _) | (with_reducible refine Ext.drew ?_) | (with_reducible refine Ext.setCell ?_ ?_ _) | (with_reducible refine Ext.setRow ?_ ?_ _) | (simp; done) | (simp; omega)))

set_option maxRecDepth 20000 in
set_option maxHeartbeats 6400000 in
theorem shrinks_b (id lg sp pr vo df wa dr gr : Value) (xa xb ya yb za zb su co st : Int) (s0 s1 s2 s3 s4 s5 s6 s7 s8 s9 s10 s11 : Value) (sh : Int) (w : World) (o1 : id.oneCell' = true) (o2 : lg.oneCell' = true) (o3 : sp.oneCell' = true) (o4 : pr.oneCell' = true) (o5 : vo.oneCell' = true) (o6 : df.oneCell' = true) (o7 : wa.oneCell' = true) (o8 : dr.oneCell' = true) (o9 : gr.oneCell' = true) (hs1 : (dT ya yb xa xb su co st sh != dT xa xb ya yb su co st sh) = false) (hs2 : (dW ya yb xa xb su co st sh != dW xa xb ya yb su co st sh) = false) (hs3 : decide (dT xa xb ya yb su co st sh < 0) = false) (hs4 : decide (dW xa xb ya yb su co st sh < dT xa xb ya yb su co st sh) = false) (hb : (bvl xa xb ya yb za zb == 0) = false) (hw : wd sh = false) :
    Calls Try.prog 8 #[.agg #[id, lg, sp, pr, .int .i64 xa, .int .i64 xb, .int .i64 ya, .int .i64 yb, .int .i64 za, .int .i64 zb, vo, df, wa, .int .i64 su, .int .i64 co, .int .i64 st, dr, gr], .agg #[s0, s1, s2, s3, s4, s5, s6, s7, s8, s9, s10, s11, .int .i64 sh]] w fun e w' => e = .returned (.bool true) ∧ ∃ n : ExtOf w, w' = n.val := by
  go_enter Try.func8, Try.ntmps8
  go_wp2_with (first | ((with_reducible apply wl_store' lwB); (· (first | exact wanted_none rfl | exact wanted_some rfl rfl rfl)); (· rfl); (· rfl); (· infer_instance); (· rfl); (· rfl); (· exact oneB o1 o2 o3 o4 o5 o6 o7 o8 o9); simp only [setRow_alloc, setRow_new, setRow_new1, setRow_new2, setRow_new11, setRow_new111]) | (((with_reducible apply wl_load' lwB); (· (first | exact wanted_none rfl | exact wanted_some rfl rfl rfl)); (· rfl); (· infer_instance); (· rfl)); (try simp only [List.setIfInBounds_toArray, List.set_cons_succ, List.set_cons_zero])) | (((with_reducible apply wl_load' lwS); (· (first | exact wanted_none rfl | exact wanted_some rfl rfl rfl)); (· rfl); (· infer_instance); (· rfl)); (try simp only [List.setIfInBounds_toArray, List.set_cons_succ, List.set_cons_zero])) | (go_at_call 9; refine (dried_any _ _ _ _ _ _ _ _ _ _ _ _ _ _ _ _ _ _ _ _ _ _ _ _ _ _ _ _ _ _ _ _).mono ?_; rintro e w' ⟨rfl, n, rfl⟩) | (go_at_call 21; refine (bvolume_any _ _ _ _ _ _ _ _ _ _ _ _ _ _ _ _ _ _ _).mono ?_; rintro e w' ⟨rfl, n, rfl⟩) | (go_at_call 18; refine (wood_any _ _ _ _ _ _ _ _ _ _ _ _ _ _).mono ?_; rintro e w' ⟨rfl, n, rfl⟩) | (go_at_call 15; refine (awake_any _).mono ?_; rintro e w' ⟨rfl, n, rfl⟩))
  go_ret
  refine ⟨rfl, ?_⟩
  exact ExtOf.of (by repeat' (first | (with_reducible exact Ext.refl _) | (with_reducible exact ExtOf.ext _) | (with_reducible refine Ext.trans ?_ (ExtOf.ext _)) | (with_reducible refine Ext.alloc ?_ _) | (with_reducible refine Ext.drew ?_) | (with_reducible refine Ext.setCell ?_ ?_ _) | (with_reducible refine Ext.setRow ?_ ?_ _) | (simp; done) | (simp; omega)))


set_option maxRecDepth 20000 in
set_option maxHeartbeats 6400000 in
theorem shrinks_c (id lg sp pr vo df wa dr gr : Value) (xa xb ya yb za zb su co st : Int) (s0 s1 s2 s3 s4 s5 s6 s7 s8 s9 s10 s11 : Value) (sh : Int) (w : World) (o1 : id.oneCell' = true) (o2 : lg.oneCell' = true) (o3 : sp.oneCell' = true) (o4 : pr.oneCell' = true) (o5 : vo.oneCell' = true) (o6 : df.oneCell' = true) (o7 : wa.oneCell' = true) (o8 : dr.oneCell' = true) (o9 : gr.oneCell' = true) (hs1 : (dT ya yb xa xb su co st sh != dT xa xb ya yb su co st sh) = false) (hs2 : (dW ya yb xa xb su co st sh != dW xa xb ya yb su co st sh) = false) (hs3 : decide (dT xa xb ya yb su co st sh < 0) = false) (hs4 : decide (dW xa xb ya yb su co st sh < dT xa xb ya yb su co st sh) = false) (x1 : -600 ≤ xa) (x2 : xa < xb) (x3 : xb ≤ 600) (y1 : -600 ≤ ya) (y2 : ya < yb) (y3 : yb ≤ 600) (hb : (bvl xa xb ya yb za zb == 0) = false) (hw : wd sh = true) (k1 : decide (min (xb - xa) (yb - ya) < dT xa xb ya yb su co st sh) = false) (k2 : decide (max (xb - xa) (yb - ya) < dW xa xb ya yb su co st sh) = false) (k3 : decide (bvl xa xb ya yb za zb < vlm (dT xa xb ya yb su co st sh) (dW xa xb ya yb su co st sh) (bln za zb)) = false) (hm : decide (mean su co st < 3000) = true) :
    Calls Try.prog 8 #[.agg #[id, lg, sp, pr, .int .i64 xa, .int .i64 xb, .int .i64 ya, .int .i64 yb, .int .i64 za, .int .i64 zb, vo, df, wa, .int .i64 su, .int .i64 co, .int .i64 st, dr, gr], .agg #[s0, s1, s2, s3, s4, s5, s6, s7, s8, s9, s10, s11, .int .i64 sh]] w fun e w' => e = .returned (.bool true) ∧ ∃ n : ExtOf w, w' = n.val := by
  have mn : (if yb - ya < xb - xa then yb - ya else xb - xa) = min (xb - xa) (yb - ya) := by split <;> omega
  have mx : (if xb - xa < yb - ya then yb - ya else xb - xa) = max (xb - xa) (yb - ya) := by split <;> omega
  have wx : IntKind.i64.wrap (xb - xa) = xb - xa := IntWalk.i64_in _ (by omega)
  have wy : IntKind.i64.wrap (yb - ya) = yb - ya := IntWalk.i64_in _ (by omega)
  go_enter Try.func8, Try.ntmps8
  go_wp2_with (first | ((with_reducible apply wl_store' lwB); (· (first | exact wanted_none rfl | exact wanted_some rfl rfl rfl)); (· rfl); (· rfl); (· infer_instance); (· rfl); (· rfl); (· exact oneB o1 o2 o3 o4 o5 o6 o7 o8 o9); simp only [setRow_alloc, setRow_new, setRow_new1, setRow_new2, setRow_new11, setRow_new111]) | (((with_reducible apply wl_load' lwB); (· (first | exact wanted_none rfl | exact wanted_some rfl rfl rfl)); (· rfl); (· infer_instance); (· rfl)); (try simp only [List.setIfInBounds_toArray, List.set_cons_succ, List.set_cons_zero])) | (((with_reducible apply wl_load' lwS); (· (first | exact wanted_none rfl | exact wanted_some rfl rfl rfl)); (· rfl); (· infer_instance); (· rfl)); (try simp only [List.setIfInBounds_toArray, List.set_cons_succ, List.set_cons_zero])) | (go_at_call 9; refine (dried_any _ _ _ _ _ _ _ _ _ _ _ _ _ _ _ _ _ _ _ _ _ _ _ _ _ _ _ _ _ _ _ _).mono ?_; rintro e w' ⟨rfl, n, rfl⟩) | (go_at_call 21; refine (bvolume_any _ _ _ _ _ _ _ _ _ _ _ _ _ _ _ _ _ _ _).mono ?_; rintro e w' ⟨rfl, n, rfl⟩) | (go_at_call 18; refine (wood_any _ _ _ _ _ _ _ _ _ _ _ _ _ _).mono ?_; rintro e w' ⟨rfl, n, rfl⟩) | (go_at_call 15; refine (awake_any _).mono ?_; rintro e w' ⟨rfl, n, rfl⟩))
  refine wp_region_ext (by kernel_rfl) (by kernel_rfl) ?_
  repeat (first | go_big_quiet_skip | ((with_reducible apply q_load' lwB); (· (first | exact wanted_none rfl | exact wanted_some rfl rfl rfl)); (· rfl); (· infer_instance); (· rfl); simp only [Act.put, List.setIfInBounds_toArray, List.set_cons_succ, List.set_cons_zero]) | ((with_reducible apply q_load' lwP); (· (first | exact wanted_none rfl | exact wanted_some rfl rfl rfl)); (· rfl); (· infer_instance); (· rfl); simp only [Act.put, List.setIfInBounds_toArray, List.set_cons_succ, List.set_cons_zero]) | ((with_reducible apply q_load' lwS); (· (first | exact wanted_none rfl | exact wanted_some rfl rfl rfl)); (· rfl); (· infer_instance); (· rfl); simp only [Act.put, List.setIfInBounds_toArray, List.set_cons_succ, List.set_cons_zero]) | go_big_quiet_step (fail))
  refine wpQuiet_nil ?_
  intro _ hw'
  obtain ⟨nq, hw''⟩ := hw'
  subst hw''
  go_wp2
  refine wp_region_ext (by kernel_rfl) (by kernel_rfl) ?_
  repeat (first | go_big_quiet_skip | ((with_reducible apply q_load' lwB); (· (first | exact wanted_none rfl | exact wanted_some rfl rfl rfl)); (· rfl); (· infer_instance); (· rfl); simp only [Act.put, List.setIfInBounds_toArray, List.set_cons_succ, List.set_cons_zero]) | ((with_reducible apply q_load' lwP); (· (first | exact wanted_none rfl | exact wanted_some rfl rfl rfl)); (· rfl); (· infer_instance); (· rfl); simp only [Act.put, List.setIfInBounds_toArray, List.set_cons_succ, List.set_cons_zero]) | ((with_reducible apply q_load' lwS); (· (first | exact wanted_none rfl | exact wanted_some rfl rfl rfl)); (· rfl); (· infer_instance); (· rfl); simp only [Act.put, List.setIfInBounds_toArray, List.set_cons_succ, List.set_cons_zero]) | go_big_quiet_step ((first | (go_at_call 13; exact ext_call (volume_any _ _ _ _ _ _ _ _ _ _ _ _ _ _ _ _ _ _ _ _ _ _ _ _ _ _ _ _ _ _ _ _)) | (go_at_call 21; exact ext_call (bvolume_any _ _ _ _ _ _ _ _ _ _ _ _ _ _ _ _ _ _ _)))))
  refine wpQuiet_nil ?_
  intro _ hw'
  obtain ⟨nq, hw''⟩ := hw'
  subst hw''
  go_wp2_with (first | (go_at_call 22; refine (mean_any _ _ _ _).mono ?_; rintro e w' ⟨rfl, n, rfl⟩) | (go_at_call 15; refine (awake_any _).mono ?_; rintro e w' ⟨rfl, n, rfl⟩))
  go_ret
  refine ⟨rfl, ?_⟩
  exact ExtOf.of (by repeat' (first | (with_reducible exact Ext.refl _) | (with_reducible exact ExtOf.ext _) | (with_reducible refine Ext.trans ?_ (ExtOf.ext _)) | (with_reducible refine Ext.alloc ?_ _) | (with_reducible refine Ext.drew ?_) | (with_reducible refine Ext.setCell ?_ ?_ _) | (with_reducible refine Ext.setRow ?_ ?_ _) | (simp; done) | (simp; omega)))

set_option maxRecDepth 20000 in
set_option maxHeartbeats 6400000 in
theorem shrinks_d (id lg sp pr vo df wa dr gr : Value) (xa xb ya yb za zb su co st : Int) (s0 s1 s2 s3 s4 s5 s6 s7 s8 s9 s10 s11 : Value) (sh : Int) (w : World) (o1 : id.oneCell' = true) (o2 : lg.oneCell' = true) (o3 : sp.oneCell' = true) (o4 : pr.oneCell' = true) (o5 : vo.oneCell' = true) (o6 : df.oneCell' = true) (o7 : wa.oneCell' = true) (o8 : dr.oneCell' = true) (o9 : gr.oneCell' = true) (hs1 : (dT ya yb xa xb su co st sh != dT xa xb ya yb su co st sh) = false) (hs2 : (dW ya yb xa xb su co st sh != dW xa xb ya yb su co st sh) = false) (hs3 : decide (dT xa xb ya yb su co st sh < 0) = false) (hs4 : decide (dW xa xb ya yb su co st sh < dT xa xb ya yb su co st sh) = false) (x1 : -600 ≤ xa) (x2 : xa < xb) (x3 : xb ≤ 600) (y1 : -600 ≤ ya) (y2 : ya < yb) (y3 : yb ≤ 600) (hb : (bvl xa xb ya yb za zb == 0) = false) (hw : wd sh = true) (k1 : decide (min (xb - xa) (yb - ya) < dT xa xb ya yb su co st sh) = false) (k2 : decide (max (xb - xa) (yb - ya) < dW xa xb ya yb su co st sh) = false) (k3 : decide (bvl xa xb ya yb za zb < vlm (dT xa xb ya yb su co st sh) (dW xa xb ya yb su co st sh) (bln za zb)) = false) (hm : decide (mean su co st < 3000) = false) (k4 : (dT xa xb ya yb su co st sh == min (xb - xa) (yb - ya)) = true) (k5 : (dW xa xb ya yb su co st sh == max (xb - xa) (yb - ya)) = true) :
    Calls Try.prog 8 #[.agg #[id, lg, sp, pr, .int .i64 xa, .int .i64 xb, .int .i64 ya, .int .i64 yb, .int .i64 za, .int .i64 zb, vo, df, wa, .int .i64 su, .int .i64 co, .int .i64 st, dr, gr], .agg #[s0, s1, s2, s3, s4, s5, s6, s7, s8, s9, s10, s11, .int .i64 sh]] w fun e w' => e = .returned (.bool true) ∧ ∃ n : ExtOf w, w' = n.val := by
  have mn : (if yb - ya < xb - xa then yb - ya else xb - xa) = min (xb - xa) (yb - ya) := by split <;> omega
  have mx : (if xb - xa < yb - ya then yb - ya else xb - xa) = max (xb - xa) (yb - ya) := by split <;> omega
  have wx : IntKind.i64.wrap (xb - xa) = xb - xa := IntWalk.i64_in _ (by omega)
  have wy : IntKind.i64.wrap (yb - ya) = yb - ya := IntWalk.i64_in _ (by omega)
  go_enter Try.func8, Try.ntmps8
  go_wp2_with (first | ((with_reducible apply wl_store' lwB); (· (first | exact wanted_none rfl | exact wanted_some rfl rfl rfl)); (· rfl); (· rfl); (· infer_instance); (· rfl); (· rfl); (· exact oneB o1 o2 o3 o4 o5 o6 o7 o8 o9); simp only [setRow_alloc, setRow_new, setRow_new1, setRow_new2, setRow_new11, setRow_new111]) | (((with_reducible apply wl_load' lwB); (· (first | exact wanted_none rfl | exact wanted_some rfl rfl rfl)); (· rfl); (· infer_instance); (· rfl)); (try simp only [List.setIfInBounds_toArray, List.set_cons_succ, List.set_cons_zero])) | (((with_reducible apply wl_load' lwS); (· (first | exact wanted_none rfl | exact wanted_some rfl rfl rfl)); (· rfl); (· infer_instance); (· rfl)); (try simp only [List.setIfInBounds_toArray, List.set_cons_succ, List.set_cons_zero])) | (go_at_call 9; refine (dried_any _ _ _ _ _ _ _ _ _ _ _ _ _ _ _ _ _ _ _ _ _ _ _ _ _ _ _ _ _ _ _ _).mono ?_; rintro e w' ⟨rfl, n, rfl⟩) | (go_at_call 21; refine (bvolume_any _ _ _ _ _ _ _ _ _ _ _ _ _ _ _ _ _ _ _).mono ?_; rintro e w' ⟨rfl, n, rfl⟩) | (go_at_call 18; refine (wood_any _ _ _ _ _ _ _ _ _ _ _ _ _ _).mono ?_; rintro e w' ⟨rfl, n, rfl⟩) | (go_at_call 15; refine (awake_any _).mono ?_; rintro e w' ⟨rfl, n, rfl⟩))
  refine wp_region_ext (by kernel_rfl) (by kernel_rfl) ?_
  repeat (first | go_big_quiet_skip | ((with_reducible apply q_load' lwB); (· (first | exact wanted_none rfl | exact wanted_some rfl rfl rfl)); (· rfl); (· infer_instance); (· rfl); simp only [Act.put, List.setIfInBounds_toArray, List.set_cons_succ, List.set_cons_zero]) | ((with_reducible apply q_load' lwP); (· (first | exact wanted_none rfl | exact wanted_some rfl rfl rfl)); (· rfl); (· infer_instance); (· rfl); simp only [Act.put, List.setIfInBounds_toArray, List.set_cons_succ, List.set_cons_zero]) | ((with_reducible apply q_load' lwS); (· (first | exact wanted_none rfl | exact wanted_some rfl rfl rfl)); (· rfl); (· infer_instance); (· rfl); simp only [Act.put, List.setIfInBounds_toArray, List.set_cons_succ, List.set_cons_zero]) | go_big_quiet_step (fail))
  refine wpQuiet_nil ?_
  intro _ hw'
  obtain ⟨nq, hw''⟩ := hw'
  subst hw''
  go_wp2
  refine wp_region_ext (by kernel_rfl) (by kernel_rfl) ?_
  repeat (first | go_big_quiet_skip | ((with_reducible apply q_load' lwB); (· (first | exact wanted_none rfl | exact wanted_some rfl rfl rfl)); (· rfl); (· infer_instance); (· rfl); simp only [Act.put, List.setIfInBounds_toArray, List.set_cons_succ, List.set_cons_zero]) | ((with_reducible apply q_load' lwP); (· (first | exact wanted_none rfl | exact wanted_some rfl rfl rfl)); (· rfl); (· infer_instance); (· rfl); simp only [Act.put, List.setIfInBounds_toArray, List.set_cons_succ, List.set_cons_zero]) | ((with_reducible apply q_load' lwS); (· (first | exact wanted_none rfl | exact wanted_some rfl rfl rfl)); (· rfl); (· infer_instance); (· rfl); simp only [Act.put, List.setIfInBounds_toArray, List.set_cons_succ, List.set_cons_zero]) | go_big_quiet_step ((first | (go_at_call 13; exact ext_call (volume_any _ _ _ _ _ _ _ _ _ _ _ _ _ _ _ _ _ _ _ _ _ _ _ _ _ _ _ _ _ _ _ _)) | (go_at_call 21; exact ext_call (bvolume_any _ _ _ _ _ _ _ _ _ _ _ _ _ _ _ _ _ _ _)))))
  refine wpQuiet_nil ?_
  intro _ hw'
  obtain ⟨nq, hw''⟩ := hw'
  subst hw''
  go_wp2_with (first | (go_at_call 22; refine (mean_any _ _ _ _).mono ?_; rintro e w' ⟨rfl, n, rfl⟩) | (go_at_call 15; refine (awake_any _).mono ?_; rintro e w' ⟨rfl, n, rfl⟩))
  go_ret
  refine ⟨rfl, ?_⟩
  exact ExtOf.of (by repeat' (first | (with_reducible exact Ext.refl _) | (with_reducible exact ExtOf.ext _) | (with_reducible refine Ext.trans ?_ (ExtOf.ext _)) | (with_reducible refine Ext.alloc ?_ _) | (with_reducible refine Ext.drew ?_) | (with_reducible refine Ext.setCell ?_ ?_ _) | (with_reducible refine Ext.setRow ?_ ?_ _) | (simp; done) | (simp; omega)))

theorem shrinks_walk (id lg sp pr vo df wa dr gr : Value) (xa xb ya yb za zb su co st : Int) (s0 s1 s2 s3 s4 s5 s6 s7 s8 s9 s10 s11 : Value) (sh : Int) (w : World) (o1 : id.oneCell' = true) (o2 : lg.oneCell' = true) (o3 : sp.oneCell' = true) (o4 : pr.oneCell' = true) (o5 : vo.oneCell' = true) (o6 : df.oneCell' = true) (o7 : wa.oneCell' = true) (o8 : dr.oneCell' = true) (o9 : gr.oneCell' = true) :
    Calls Try.prog 8 #[.agg #[id, lg, sp, pr, .int .i64 xa, .int .i64 xb, .int .i64 ya, .int .i64 yb, .int .i64 za, .int .i64 zb, vo, df, wa, .int .i64 su, .int .i64 co, .int .i64 st, dr, gr], .agg #[s0, s1, s2, s3, s4, s5, s6, s7, s8, s9, s10, s11, .int .i64 sh]] w fun e w' => e = .returned (.bool true) ∧ ∃ n : ExtOf w, w' = n.val := by
  obtain ⟨e1, e2⟩ := dT_swap xa xb ya yb su co st sh
  obtain ⟨e3, e4⟩ := dT_nn xa xb ya yb su co st sh
  have hs1 : (dT ya yb xa xb su co st sh != dT xa xb ya yb su co st sh) = false := by simp [e1]
  have hs2 : (dW ya yb xa xb su co st sh != dW xa xb ya yb su co st sh) = false := by simp [e2]
  have hs3 : decide (dT xa xb ya yb su co st sh < 0) = false := by simp; omega
  have hs4 : decide (dW xa xb ya yb su co st sh < dT xa xb ya yb su co st sh) = false := by simp; omega
  rcases h : bxB xa xb ya yb za zb with _ | _
  · exact shrinks_a id lg sp pr vo df wa dr gr xa xb ya yb za zb su co st s0 s1 s2 s3 s4 s5 s6 s7 s8 s9 s10 s11 sh w o1 o2 o3 o4 o5 o6 o7 o8 o9 hs1 hs2 hs3 hs4 (by rw [bvl_no h]; rfl)
  · obtain ⟨⟨x1, x2, x3⟩, ⟨y1, y2, y3⟩, hb, k1, k2, k3, k4⟩ := shrinks_facts (su := su) (co := co) (st := st) (sh := sh) h
    have hb' : (bvl xa xb ya yb za zb == 0) = false := by simpa using hb
    rcases hw : wd sh with _ | _
    · exact shrinks_b id lg sp pr vo df wa dr gr xa xb ya yb za zb su co st s0 s1 s2 s3 s4 s5 s6 s7 s8 s9 s10 s11 sh w o1 o2 o3 o4 o5 o6 o7 o8 o9 hs1 hs2 hs3 hs4 hb' hw
    · by_cases hm : mean su co st < 3000
      · exact shrinks_c id lg sp pr vo df wa dr gr xa xb ya yb za zb su co st s0 s1 s2 s3 s4 s5 s6 s7 s8 s9 s10 s11 sh w o1 o2 o3 o4 o5 o6 o7 o8 o9 hs1 hs2 hs3 hs4 x1 x2 x3 y1 y2 y3 hb' hw (by simp only [decide_eq_false_iff_not]; omega) (by simp only [decide_eq_false_iff_not]; omega) (by simp only [decide_eq_false_iff_not]; omega) (by simpa using hm)
      · obtain ⟨k5, k6⟩ := k4 (by omega)
        exact shrinks_d id lg sp pr vo df wa dr gr xa xb ya yb za zb su co st s0 s1 s2 s3 s4 s5 s6 s7 s8 s9 s10 s11 sh w o1 o2 o3 o4 o5 o6 o7 o8 o9 hs1 hs2 hs3 hs4 x1 x2 x3 y1 y2 y3 hb' hw (by simp only [decide_eq_false_iff_not]; omega) (by simp only [decide_eq_false_iff_not]; omega) (by simp only [decide_eq_false_iff_not]; omega) (by simpa using hm) (by simpa using k5) (by simpa using k6)

end Go.Proofs.Ytmlgclkclnhmhaa
