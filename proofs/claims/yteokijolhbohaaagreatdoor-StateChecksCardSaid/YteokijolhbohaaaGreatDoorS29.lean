/-
  Chapter 59: the law StateChecks, walked.
-/
import Derived.Test.YteokijolhbohaaaGreatDoorK25
import Derived.Test.YteokijolhbohaaaGreatDoorS27
import Derived.Test.YteokijolhbohaaaGreatDoorS28
set_option linter.unusedVariables false
set_option linter.unusedSimpArgs false
namespace Go.Proofs.YteokijolhbohaaaGreatDoor
open Go.RowKit StM

attribute [local go_sem] ExtOf.cell ExtOf.frozen Block.cell Block.frozen ExtB.cell ExtB.frozen alloc_cell alloc_frozen
set_option maxHeartbeats 1600000 in
set_option maxRecDepth 20000 in
theorem law_walk (l : SuL) (vp vs vr vc : Value) (ke tr pi st ch du fi li ga : Int) (w : World) (h : SuI w l vp vs vr vc) (ht : TabAw w) :
    Calls Tryz.prog 3 #[.agg #[vp, vs, vr, vc, .int .i64 ke, .int .i64 tr, .int .i64 pi, .int .i64 st, .int .i64 ch, .int .i64 du, .int .i64 fi, .int .i64 li, .int .i64 ga]] w fun e w' => e = .returned (.bool true) ∧ ∃ n : ExtOf w, w' = n.val := by
  obtain ⟨pp, pc, rfl, p1, p2, p3⟩ := SliceOf.form h.p.1
  obtain ⟨sp, sc, rfl, s1, s2, s3⟩ := SliceOf.form h.s
  obtain ⟨rp, rc, rfl, r1, r2, r3⟩ := SliceOf.form h.r.1
  obtain ⟨cp, cc, rfl, c1, c2, c3⟩ := SliceOf.form h.c.1
  unfold maxLen at p2 s2 r2 c2
  have H := Lib.hid h
  have HT := Lib.hid ht
  clear h ht
  go_enter Tryz.func3, Tryz.ntmps3
  go_wp2_with (first | ((with_reducible apply wl_load' lwSetup); (· (first | exact wanted_none rfl | exact wanted_some rfl rfl rfl)); (· rfl); (· infer_instance); (· rfl)) | (go_at_call 4; refine (small_any l _ _ _ _ ke tr pi st ch du fi li ga _ (H.out.ext (by with_reducible repeat' (first | exact Ext.refl _ | exact ExtOf.ext _ | refine Ext.trans ?_ (ExtOf.ext _) | refine Ext.alloc ?_ _ | refine Ext.drew ?_ | refine Ext.setCell ?_ ?_ _ | refine Ext.setRow ?_ ?_ _ | exact HX.out | refine Ext.trans ?_ HX.out | omega | (simp; done) | (simp; omega))))).mono ?_; rintro e w' ⟨c, rfl, n1, rfl⟩; rcases c with _ | _) | (go_at_call 5; refine (awake_any _ (HT.out.ext (by with_reducible repeat' (first | exact Ext.refl _ | exact ExtOf.ext _ | refine Ext.trans ?_ (ExtOf.ext _) | refine Ext.alloc ?_ _ | refine Ext.drew ?_ | refine Ext.setCell ?_ ?_ _ | refine Ext.setRow ?_ ?_ _ | exact HX.out | refine Ext.trans ?_ HX.out | omega | (simp; done) | (simp; omega))))).mono ?_; rintro e w' ⟨rfl, n2, rfl⟩))
  · go_ret
    exact ⟨rfl, by exact ExtOf.of (by with_reducible repeat' (first | exact Ext.refl _ | exact ExtOf.ext _ | refine Ext.trans ?_ (ExtOf.ext _) | refine Ext.alloc ?_ _ | refine Ext.drew ?_ | refine Ext.setCell ?_ ?_ _ | refine Ext.setRow ?_ ?_ _ | exact HX.out | refine Ext.trans ?_ HX.out | omega | (simp; done) | (simp; omega)))⟩
  · refine wp_region_ext (by kernel_rfl) (by kernel_rfl) ?_
    repeat (first | go_big_quiet_skip | ((with_reducible apply q_load' lwSetup); (· (first | exact wanted_none rfl | exact wanted_some rfl rfl rfl)); (· rfl); (· infer_instance); (· rfl); simp only [Act.put, List.setIfInBounds_toArray, List.set_cons_succ, List.set_cons_zero]) | go_big_quiet_step ((first | (go_at_call 6; exact ext_call (sCheck_any l _ _ _ _ ke tr pi st ch du fi li ga _ (H.out.ext (by with_reducible repeat' (first | exact Ext.refl _ | exact ExtOf.ext _ | refine Ext.trans ?_ (ExtOf.ext _) | refine Ext.alloc ?_ _ | refine Ext.drew ?_ | refine Ext.setCell ?_ ?_ _ | refine Ext.setRow ?_ ?_ _ | exact HX.out | refine Ext.trans ?_ HX.out | omega | (simp; done) | (simp; omega)))))) | (go_at_call 7; exact ext_call (rsCheck_any l _ _ _ _ ke tr pi st ch du fi li ga _ (H.out.ext (by with_reducible repeat' (first | exact Ext.refl _ | exact ExtOf.ext _ | refine Ext.trans ?_ (ExtOf.ext _) | refine Ext.alloc ?_ _ | refine Ext.drew ?_ | refine Ext.setCell ?_ ?_ _ | refine Ext.setRow ?_ ?_ _ | exact HX.out | refine Ext.trans ?_ HX.out | omega | (simp; done) | (simp; omega)))))) | (go_at_call 5; exact ext_call (awake_any _ (HT.out.ext (by with_reducible repeat' (first | exact Ext.refl _ | exact ExtOf.ext _ | refine Ext.trans ?_ (ExtOf.ext _) | refine Ext.alloc ?_ _ | refine Ext.drew ?_ | refine Ext.setCell ?_ ?_ _ | refine Ext.setRow ?_ ?_ _ | exact HX.out | refine Ext.trans ?_ HX.out | omega | (simp; done) | (simp; omega)))))))))
    refine wpQuiet_nil ?_
    intro _ hw'
    obtain ⟨nq, hw''⟩ := hw'
    subst hw''
    go_wp2_with fail
    go_ret
    exact ⟨rfl, by exact ExtOf.of (by with_reducible repeat' (first | exact Ext.refl _ | exact ExtOf.ext _ | refine Ext.trans ?_ (ExtOf.ext _) | refine Ext.alloc ?_ _ | refine Ext.drew ?_ | refine Ext.setCell ?_ ?_ _ | refine Ext.setRow ?_ ?_ _ | exact HX.out | refine Ext.trans ?_ HX.out | omega | (simp; done) | (simp; omega)))⟩
end Go.Proofs.YteokijolhbohaaaGreatDoor
