/-
  The contract of board.Volume.
-/
import Derived.Test.YtmlgclkclnhmhaaW9
namespace Go.Proofs.Ytmlgclkclnhmhaa
open Go.RowKit

attribute [local go_sem] ExtOf.cell ExtOf.frozen Block.cell Block.frozen

def bvl (xa xb ya yb za zb : Int) : Int := if bxB xa xb ya yb za zb = true then vlm (xb - xa) (yb - ya) (zb - za) else 0

theorem bxB_true {xa xb ya yb za zb : Int} (h : bxB xa xb ya yb za zb = true) : acr xa xb = true ∧ acr ya yb = true ∧ alg za zb = true := by
  simp only [bxB, Bool.and_eq_true] at h
  exact ⟨h.1.1, h.1.2, h.2⟩

set_option maxRecDepth 20000 in
set_option maxHeartbeats 1600000 in
theorem bvolume_any (id lg sp pr vo df wa dr gr : Value) (xa xb ya yb za zb su co st : Int) (w : World) :
    Calls Try.prog 21 #[.agg #[id, lg, sp, pr, .int .i64 xa, .int .i64 xb, .int .i64 ya, .int .i64 yb, .int .i64 za, .int .i64 zb, vo, df, wa, .int .i64 su, .int .i64 co, .int .i64 st, dr, gr]] w fun e w' => e = .returned (.int .i64 (bvl xa xb ya yb za zb)) ∧ ∃ n : ExtOf w, w' = n.val := by
  rcases h : bxB xa xb ya yb za zb with _ | _
  · have e : bvl xa xb ya yb za zb = 0 := by simp [bvl, h]
    rw [e]; clear e
    go_enter Try.func21, Try.ntmps21
    go_wp2_with (first | (go_at_call 34; refine (isbox_any _ _ _ _ _ _ _).mono ?_; rintro e w' ⟨rfl, n, rfl⟩))
    go_ret
    refine ⟨rfl, ?_⟩
    exact ExtOf.of (by repeat' (first | (with_reducible exact Ext.refl _) | (with_reducible exact ExtOf.ext _) | (with_reducible refine Ext.trans ?_ (ExtOf.ext _)) | (with_reducible refine Ext.alloc ?_ _) | (with_reducible refine Ext.drew ?_) | (with_reducible refine Ext.setCell ?_ ?_ _) | (with_reducible refine Ext.setRow ?_ ?_ _) | (simp; done) | (simp; omega)))
  · have e : bvl xa xb ya yb za zb = vlm (xb - xa) (yb - ya) (zb - za) := by simp [bvl, h]
    rw [e]; clear e
    obtain ⟨hx, hy, hz⟩ := bxB_true h
    obtain ⟨x1, x2, x3⟩ := acr_true hx
    obtain ⟨y1, y2, y3⟩ := acr_true hy
    have hz' : 0 ≤ za ∧ zb ≤ 20000 ∧ za < zb := by simpa [alg] using hz
    obtain ⟨z1, z2, z3⟩ := hz'
    clear hx hy hz
    go_enter Try.func21, Try.ntmps21
    go_wp2_with (first | (go_at_call 34; refine (isbox_any _ _ _ _ _ _ _).mono ?_; rintro e w' ⟨rfl, n, rfl⟩))
    refine wp_region_ext (by kernel_rfl) (by kernel_rfl) ?_
    repeat (first | go_big_quiet_skip | ((with_reducible apply q_load' lwB); (· (first | exact wanted_none rfl | exact wanted_some rfl rfl rfl)); (· rfl); (· infer_instance); (· rfl); simp only [Act.put, List.setIfInBounds_toArray, List.set_cons_succ, List.set_cons_zero]) | ((with_reducible apply q_load' lwP); (· (first | exact wanted_none rfl | exact wanted_some rfl rfl rfl)); (· rfl); (· infer_instance); (· rfl); simp only [Act.put, List.setIfInBounds_toArray, List.set_cons_succ, List.set_cons_zero]) | ((with_reducible apply q_load' lwS); (· (first | exact wanted_none rfl | exact wanted_some rfl rfl rfl)); (· rfl); (· infer_instance); (· rfl); simp only [Act.put, List.setIfInBounds_toArray, List.set_cons_succ, List.set_cons_zero]) | go_big_quiet_step ((go_at_call 35; exact ext_call (blen_any _ _ _ (by omega) (by omega) (by omega) (by omega)))))
    refine wpQuiet_nil ?_
    intro _ hw'
    obtain ⟨nq, hw''⟩ := hw'
    subst hw''
    go_wp2
    go_ret
    refine ⟨rfl, ?_⟩
    exact ExtOf.of (by repeat' (first | (with_reducible exact Ext.refl _) | (with_reducible exact ExtOf.ext _) | (with_reducible refine Ext.trans ?_ (ExtOf.ext _)) | (with_reducible refine Ext.alloc ?_ _) | (with_reducible refine Ext.drew ?_) | (with_reducible refine Ext.setCell ?_ ?_ _) | (with_reducible refine Ext.setRow ?_ ?_ _) | (simp; done) | (simp; omega)))

end Go.Proofs.Ytmlgclkclnhmhaa
