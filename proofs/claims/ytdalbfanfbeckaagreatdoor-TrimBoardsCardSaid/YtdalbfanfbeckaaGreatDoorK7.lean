/-
  Chapter 26: several texts in one (R6, R7).
-/
import Derived.Test.YtdalbfanfbeckaaGreatDoorK49
import Derived.Test.YtdalbfanfbeckaaGreatDoorLB
/-
  Chapter 26: common parts of boxes; whether a defect touches a box.
-/
section
set_option linter.unusedVariables false
set_option linter.unusedSimpArgs false
namespace Go.Proofs.YtdalbfanfbeckaaGreatDoor
open Go.RowKit TrimM

attribute [local go_sem] ExtOf.cell ExtOf.frozen ExtS.cell ExtS.frozen Block.cell Block.frozen ExtB.cell ExtB.frozen alloc_cell alloc_frozen
def noBx : Bx := ⟨0, 0, 0, 0, 0, 0⟩
def meetV (p q : Bx) : Bx := if (p.meet q).empty then noBx else p.meet q
set_option maxHeartbeats 1600000 in
set_option maxRecDepth 20000 in
theorem meet_any (p q : Bx) (w : World) : Calls Tryz.prog 40 #[.agg #[.int .i64 p.xa, .int .i64 p.xb, .int .i64 p.ya, .int .i64 p.yb, .int .i64 p.za, .int .i64 p.zb], .agg #[.int .i64 q.xa, .int .i64 q.xb, .int .i64 q.ya, .int .i64 q.yb, .int .i64 q.za, .int .i64 q.zb]] w fun e w' => e = .returned (.tuple #[.agg #[.int .i64 (meetV p q).xa, .int .i64 (meetV p q).xb, .int .i64 (meetV p q).ya, .int .i64 (meetV p q).yb, .int .i64 (meetV p q).za, .int .i64 (meetV p q).zb], .bool (!(p.meet q).empty)]) ∧ ∃ n : ExtOf w, w' = n.val := by
  obtain ⟨m, hm⟩ : ∃ m, m = p.meet q := ⟨_, rfl⟩
  have e1 : Hid (TrimM.meetS p.xa p.xb q.xa q.xb = (m.xa, m.xb)) := Lib.hid (by rw [hm]; rfl)
  have e2 : Hid (TrimM.meetS p.ya p.yb q.ya q.yb = (m.ya, m.yb)) := Lib.hid (by rw [hm]; rfl)
  have e3 : Hid (TrimM.meetS p.za p.zb q.za q.zb = (m.za, m.zb)) := Lib.hid (by rw [hm]; rfl)
  have HM := Lib.hid hm
  rw [← hm]
  have HMV : Hid (meetV p q = if m.empty then noBx else m) := Lib.hid (by unfold meetV; rw [← hm])
  clear hm
  obtain ⟨pxa, pxb, pya, pyb, pza, pzb⟩ := p
  obtain ⟨qxa, qxb, qya, qyb, qza, qzb⟩ := q
  obtain ⟨xa, xb, ya, yb, za, zb⟩ := m
  simp only at *
  go_enter Tryz.func40, Tryz.ntmps40
  go_wp2_with fail
  have hb : Block (((w.alloc (.cells #[.int .i64 pxa, .int .i64 pxb, .int .i64 pya, .int .i64 pyb, .int .i64 pza, .int .i64 pzb] 25)).alloc (.cells #[.int .i64 qxa, .int .i64 qxb, .int .i64 qya, .int .i64 qyb, .int .i64 qza, .int .i64 qzb] 25)).alloc (.cells #[.int .i64 0, .int .i64 0, .int .i64 0, .int .i64 0, .int .i64 0, .int .i64 0] 25)) (w.heap.size + 2) #[.int .i64 0, .int .i64 0, .int .i64 0, .int .i64 0, .int .i64 0, .int .i64 0] := inferInstance
  obtain ⟨W0, hW0⟩ : ∃ W0, W0 = (((w.alloc (.cells #[.int .i64 pxa, .int .i64 pxb, .int .i64 pya, .int .i64 pyb, .int .i64 pza, .int .i64 pzb] 25)).alloc (.cells #[.int .i64 qxa, .int .i64 qxb, .int .i64 qya, .int .i64 qyb, .int .i64 qza, .int .i64 qzb] 25)).alloc (.cells #[.int .i64 0, .int .i64 0, .int .i64 0, .int .i64 0, .int .i64 0, .int .i64 0] 25)) := ⟨_, rfl⟩
  have h0 : Block W0 w.heap.size #[.int .i64 pxa, .int .i64 pxb, .int .i64 pya, .int .i64 pyb, .int .i64 pza, .int .i64 pzb] := by rw [hW0]; infer_instance
  have h1 : Block W0 (w.heap.size + 1) #[.int .i64 qxa, .int .i64 qxb, .int .i64 qya, .int .i64 qyb, .int .i64 qza, .int .i64 qzb] := by rw [hW0]; infer_instance
  have HX : Hid (Ext w W0) := Lib.hid (by rw [hW0]; repeat' (first | (with_reducible exact Ext.refl _) | (with_reducible exact ExtOf.ext _) | (with_reducible refine Ext.trans ?_ (ExtOf.ext _)) | (with_reducible refine Ext.alloc ?_ _) | (with_reducible refine Ext.drew ?_) | (with_reducible refine Ext.setCell ?_ ?_ _) | (with_reducible refine Ext.setRow ?_ ?_ _) | (with_reducible exact HX.out) | (with_reducible refine Ext.trans ?_ HX.out) | (with_reducible refine Ext.below ?_ (Nat.le_refl _) _) | omega | (simp; done) | (simp; omega)))
  have hsz : w.heap.size + 3 ≤ W0.heap.size := by rw [hW0]; simp
  rw [← hW0] at hb ⊢
  clear hW0
  apply wp_region_maker [true, true, true, true, true, true, true, true, true, true, true, true, true, true, true, true] 16 [false, false, false, false, false, false, false, false, false, false, false, false, false, false, false, false, false, true] _ 6 (MadeP W0 #[.int .i64 0, .int .i64 0, .int .i64 0, .int .i64 0, .int .i64 0, .int .i64 0]) 17 [] (by kernel_rfl) rfl rfl (by kernel_rfl) (by kernel_rfl) (by kernel_rfl) (by kernel_rfl) MadeP.keep
  · intro S hS hN R hR
    simp only [part]
    repeat (first | go_big_quiet_skip | ((with_reducible apply q_loadBS midSpan); (· (first | exact wanted_none rfl | exact wanted_some rfl rfl rfl)); (· rfl); (· infer_instance); (· rfl); (· rfl); simp only [Act.put, List.setIfInBounds_toArray, List.set_cons_succ, List.set_cons_zero]) | go_big_quiet_step ((go_at_call 63; exact exts_call hS (smeet_any _ _ _ _ _))))
    with_reducible refine wpQuiet_nil ?_
    exact hR
  · refine ⟨wanted_none rfl, fun W' hx' => ⟨.pointer (some ⟨W'.heap.size, 0, none⟩), W'.alloc (.cells #[.int .i64 0, .int .i64 0, .int .i64 0, .int .i64 0, .int .i64 0, .int .i64 0] 25), ?_, (Ext.refl _).alloc _, MadeP.new hx'⟩⟩
    simp [go_sem]
  intro v' W' hx' hmade
  obtain ⟨gn, rfl, hgn, hbn⟩ := hmade
  simp only [part, Act.put, List.setIfInBounds_toArray, List.set_cons_succ, List.set_cons_zero]
  have kb := hb.ext hx'
  have ap : Apart gn (w.heap.size + 2) := ⟨by omega⟩
  have ap2 : Apart (w.heap.size + 2) gn := ⟨by omega⟩
  have HX2 := Lib.hid (HX.out.trans hx')
  simp only [e1.out, e2.out, e3.out]
  clear e1 e2 e3 HM hb HX hx'
  rcases t1 : decide (xb ≤ xa) with _ | _
  · rcases t2 : decide (yb ≤ ya) with _ | _
    · rcases t3 : decide (zb ≤ za) with _ | _
      · have HT : Hid ((⟨xa, xb, ya, yb, za, zb⟩ : Bx).empty = false) := Lib.hid (by unfold Bx.empty; simp only [ge_iff_le, t1, t2, t3]; rfl)
        go_wp2_with (first | ((with_reducible apply wl_load' lwBox); (· (first | exact wanted_none rfl | exact wanted_some rfl rfl rfl)); (· rfl); (· infer_instance); (· rfl)) | ((with_reducible apply wl_load' lwSpan); (· (first | exact wanted_none rfl | exact wanted_some rfl rfl rfl)); (· rfl); (· infer_instance); (· rfl)) | ((with_reducible apply wl_loadB midSpan); (· (first | exact wanted_none rfl | exact wanted_some rfl rfl rfl)); (· rfl); (· infer_instance); (· rfl); (· rfl)) | ((with_reducible apply wl_loadB midBox); (· (first | exact wanted_none rfl | exact wanted_some rfl rfl rfl)); (· rfl); (· infer_instance); (· rfl); (· rfl)) | ((with_reducible apply wl_store' lwBox); (· (first | exact wanted_none rfl | exact wanted_some rfl rfl rfl)); (· rfl); (· rfl); (· infer_instance); (· rfl); (· rfl); (· (simp [Value.oneCell'])); try simp only [setRow_alloc, setRow_new, setRow_new1, setRow_new2, setRow_new11, setRow_new111]) | ((with_reducible apply wl_store' lwSpan); (· (first | exact wanted_none rfl | exact wanted_some rfl rfl rfl)); (· rfl); (· rfl); (· infer_instance); (· rfl); (· rfl); (· (simp [Value.oneCell'])); try simp only [setRow_alloc, setRow_new, setRow_new1, setRow_new2, setRow_new11, setRow_new111]) | (go_at_call 64; refine (isEmpty_any _ _ _).mono ?_; rintro e w' ⟨rfl, n, rfl⟩))
        refine bodyPost_ret (results_cs (b0 := w.heap.size + 2) rfl lwBox rfl rfl inferInstance rfl) rfl ⟨?_, by exact ExtOf.of (by repeat' (first | (with_reducible exact Ext.refl _) | (with_reducible exact HX2.out) | (with_reducible exact ExtOf.ext _) | (with_reducible refine Ext.trans ?_ (ExtOf.ext _)) | (with_reducible refine Ext.alloc ?_ _) | (with_reducible refine Ext.drew ?_) | (with_reducible refine Ext.setRow ?_ ?_ _) | omega))⟩
        rw [HMV.out, HT.out]; rfl
      · have HT : Hid ((⟨xa, xb, ya, yb, za, zb⟩ : Bx).empty = true) := Lib.hid (by unfold Bx.empty; simp only [ge_iff_le, t1, t2, t3]; rfl)
        go_wp2_with (first | ((with_reducible apply wl_load' lwBox); (· (first | exact wanted_none rfl | exact wanted_some rfl rfl rfl)); (· rfl); (· infer_instance); (· rfl)) | ((with_reducible apply wl_load' lwSpan); (· (first | exact wanted_none rfl | exact wanted_some rfl rfl rfl)); (· rfl); (· infer_instance); (· rfl)) | ((with_reducible apply wl_loadB midSpan); (· (first | exact wanted_none rfl | exact wanted_some rfl rfl rfl)); (· rfl); (· infer_instance); (· rfl); (· rfl)) | ((with_reducible apply wl_loadB midBox); (· (first | exact wanted_none rfl | exact wanted_some rfl rfl rfl)); (· rfl); (· infer_instance); (· rfl); (· rfl)) | ((with_reducible apply wl_store' lwBox); (· (first | exact wanted_none rfl | exact wanted_some rfl rfl rfl)); (· rfl); (· rfl); (· infer_instance); (· rfl); (· rfl); (· (simp [Value.oneCell'])); try simp only [setRow_alloc, setRow_new, setRow_new1, setRow_new2, setRow_new11, setRow_new111]) | ((with_reducible apply wl_store' lwSpan); (· (first | exact wanted_none rfl | exact wanted_some rfl rfl rfl)); (· rfl); (· rfl); (· infer_instance); (· rfl); (· rfl); (· (simp [Value.oneCell'])); try simp only [setRow_alloc, setRow_new, setRow_new1, setRow_new2, setRow_new11, setRow_new111]) | (go_at_call 64; refine (isEmpty_any _ _ _).mono ?_; rintro e w' ⟨rfl, n, rfl⟩))
        refine bodyPost_ret (results_cs (b0 := w.heap.size + 2) rfl lwBox rfl rfl inferInstance rfl) rfl ⟨?_, by exact ExtOf.of (by repeat' (first | (with_reducible exact Ext.refl _) | (with_reducible exact HX2.out) | (with_reducible exact ExtOf.ext _) | (with_reducible refine Ext.trans ?_ (ExtOf.ext _)) | (with_reducible refine Ext.alloc ?_ _) | (with_reducible refine Ext.drew ?_) | (with_reducible refine Ext.setRow ?_ ?_ _) | omega))⟩
        rw [HMV.out, HT.out]; rfl
    · have HT : Hid ((⟨xa, xb, ya, yb, za, zb⟩ : Bx).empty = true) := Lib.hid (by unfold Bx.empty; simp only [ge_iff_le, t1, t2]; simp)
      go_wp2_with (first | ((with_reducible apply wl_load' lwBox); (· (first | exact wanted_none rfl | exact wanted_some rfl rfl rfl)); (· rfl); (· infer_instance); (· rfl)) | ((with_reducible apply wl_load' lwSpan); (· (first | exact wanted_none rfl | exact wanted_some rfl rfl rfl)); (· rfl); (· infer_instance); (· rfl)) | ((with_reducible apply wl_loadB midSpan); (· (first | exact wanted_none rfl | exact wanted_some rfl rfl rfl)); (· rfl); (· infer_instance); (· rfl); (· rfl)) | ((with_reducible apply wl_loadB midBox); (· (first | exact wanted_none rfl | exact wanted_some rfl rfl rfl)); (· rfl); (· infer_instance); (· rfl); (· rfl)) | ((with_reducible apply wl_store' lwBox); (· (first | exact wanted_none rfl | exact wanted_some rfl rfl rfl)); (· rfl); (· rfl); (· infer_instance); (· rfl); (· rfl); (· (simp [Value.oneCell'])); try simp only [setRow_alloc, setRow_new, setRow_new1, setRow_new2, setRow_new11, setRow_new111]) | ((with_reducible apply wl_store' lwSpan); (· (first | exact wanted_none rfl | exact wanted_some rfl rfl rfl)); (· rfl); (· rfl); (· infer_instance); (· rfl); (· rfl); (· (simp [Value.oneCell'])); try simp only [setRow_alloc, setRow_new, setRow_new1, setRow_new2, setRow_new11, setRow_new111]) | (go_at_call 64; refine (isEmpty_any _ _ _).mono ?_; rintro e w' ⟨rfl, n, rfl⟩))
      refine bodyPost_ret (results_cs (b0 := w.heap.size + 2) rfl lwBox rfl rfl inferInstance rfl) rfl ⟨?_, by exact ExtOf.of (by repeat' (first | (with_reducible exact Ext.refl _) | (with_reducible exact HX2.out) | (with_reducible exact ExtOf.ext _) | (with_reducible refine Ext.trans ?_ (ExtOf.ext _)) | (with_reducible refine Ext.alloc ?_ _) | (with_reducible refine Ext.drew ?_) | (with_reducible refine Ext.setRow ?_ ?_ _) | omega))⟩
      rw [HMV.out, HT.out]; rfl
  · have HT : Hid ((⟨xa, xb, ya, yb, za, zb⟩ : Bx).empty = true) := Lib.hid (by unfold Bx.empty; simp only [ge_iff_le, t1]; simp)
    go_wp2_with (first | ((with_reducible apply wl_load' lwBox); (· (first | exact wanted_none rfl | exact wanted_some rfl rfl rfl)); (· rfl); (· infer_instance); (· rfl)) | ((with_reducible apply wl_load' lwSpan); (· (first | exact wanted_none rfl | exact wanted_some rfl rfl rfl)); (· rfl); (· infer_instance); (· rfl)) | ((with_reducible apply wl_loadB midSpan); (· (first | exact wanted_none rfl | exact wanted_some rfl rfl rfl)); (· rfl); (· infer_instance); (· rfl); (· rfl)) | ((with_reducible apply wl_loadB midBox); (· (first | exact wanted_none rfl | exact wanted_some rfl rfl rfl)); (· rfl); (· infer_instance); (· rfl); (· rfl)) | ((with_reducible apply wl_store' lwBox); (· (first | exact wanted_none rfl | exact wanted_some rfl rfl rfl)); (· rfl); (· rfl); (· infer_instance); (· rfl); (· rfl); (· (simp [Value.oneCell'])); try simp only [setRow_alloc, setRow_new, setRow_new1, setRow_new2, setRow_new11, setRow_new111]) | ((with_reducible apply wl_store' lwSpan); (· (first | exact wanted_none rfl | exact wanted_some rfl rfl rfl)); (· rfl); (· rfl); (· infer_instance); (· rfl); (· rfl); (· (simp [Value.oneCell'])); try simp only [setRow_alloc, setRow_new, setRow_new1, setRow_new2, setRow_new11, setRow_new111]) | (go_at_call 64; refine (isEmpty_any _ _ _).mono ?_; rintro e w' ⟨rfl, n, rfl⟩))
    refine bodyPost_ret (results_cs (b0 := w.heap.size + 2) rfl lwBox rfl rfl inferInstance rfl) rfl ⟨?_, by exact ExtOf.of (by repeat' (first | (with_reducible exact Ext.refl _) | (with_reducible exact HX2.out) | (with_reducible exact ExtOf.ext _) | (with_reducible refine Ext.trans ?_ (ExtOf.ext _)) | (with_reducible refine Ext.alloc ?_ _) | (with_reducible refine Ext.drew ?_) | (with_reducible refine Ext.setRow ?_ ?_ _) | omega))⟩
    rw [HMV.out, HT.out]; rfl
set_option maxHeartbeats 400000 in
theorem touches_any (d : Df) (b : Bx) (w : World) : Calls Tryz.prog 55 #[.agg #[.int .i64 d.k, .int .i64 d.b.xa, .int .i64 d.b.xb, .int .i64 d.b.ya, .int .i64 d.b.yb, .int .i64 d.b.za, .int .i64 d.b.zb], .agg #[.int .i64 b.xa, .int .i64 b.xb, .int .i64 b.ya, .int .i64 b.yb, .int .i64 b.za, .int .i64 b.zb]] w fun e w' => e = .returned (.bool (touches d b)) ∧ ∃ n : ExtOf w, w' = n.val := by
  go_enter Tryz.func55, Tryz.ntmps55
  go_wp2_with (first | first | ((with_reducible apply wl_load' lwBox); (· (first | exact wanted_none rfl | exact wanted_some rfl rfl rfl)); (· rfl); (· infer_instance); (· rfl)) | ((with_reducible apply wl_load' lwSpan); (· (first | exact wanted_none rfl | exact wanted_some rfl rfl rfl)); (· rfl); (· infer_instance); (· rfl)) | ((with_reducible apply wl_loadB midSpan); (· (first | exact wanted_none rfl | exact wanted_some rfl rfl rfl)); (· rfl); (· infer_instance); (· rfl); (· rfl)) | ((with_reducible apply wl_loadB midBox); (· (first | exact wanted_none rfl | exact wanted_some rfl rfl rfl)); (· rfl); (· infer_instance); (· rfl); (· rfl)) | ((with_reducible apply wl_store' lwBox); (· (first | exact wanted_none rfl | exact wanted_some rfl rfl rfl)); (· rfl); (· rfl); (· infer_instance); (· rfl); (· rfl); (· (simp [Value.oneCell'])); try simp only [setRow_alloc, setRow_new, setRow_new1, setRow_new2, setRow_new11, setRow_new111]) | ((with_reducible apply wl_store' lwSpan); (· (first | exact wanted_none rfl | exact wanted_some rfl rfl rfl)); (· rfl); (· rfl); (· infer_instance); (· rfl); (· rfl); (· (simp [Value.oneCell'])); try simp only [setRow_alloc, setRow_new, setRow_new1, setRow_new2, setRow_new11, setRow_new111]) | (go_at_call 64; refine (isEmpty_any _ _ _).mono ?_; rintro e w' ⟨rfl, n, rfl⟩) | (go_at_call 40; refine (meet_any d.b b _).mono ?_; rintro e w' ⟨rfl, n, rfl⟩))
  go_ret
  exact ⟨rfl, by exact ExtOf.of (by repeat' (first | (with_reducible exact Ext.refl _) | (with_reducible exact ExtOf.ext _) | (with_reducible refine Ext.trans ?_ (ExtOf.ext _)) | (with_reducible refine Ext.alloc ?_ _) | (with_reducible refine Ext.drew ?_) | (with_reducible refine Ext.setCell ?_ ?_ _) | (with_reducible refine Ext.setRow ?_ ?_ _) | (with_reducible exact HX.out) | (with_reducible refine Ext.trans ?_ HX.out) | (with_reducible refine Ext.below ?_ (Nat.le_refl _) _) | omega | (simp; done) | (simp; omega)))⟩
set_option maxHeartbeats 1600000 in
set_option maxRecDepth 20000 in
theorem rMeet_any (p q : Bx) (w : World) : Calls Tryz.prog 50 #[.agg #[.int .i64 p.xa, .int .i64 p.xb, .int .i64 p.ya, .int .i64 p.yb, .int .i64 p.za, .int .i64 p.zb], .agg #[.int .i64 q.xa, .int .i64 q.xb, .int .i64 q.ya, .int .i64 q.yb, .int .i64 q.za, .int .i64 q.zb]] w fun e w' => e = .returned (.agg #[.int .i64 (p.meet q).xa, .int .i64 (p.meet q).xb, .int .i64 (p.meet q).ya, .int .i64 (p.meet q).yb, .int .i64 (p.meet q).za, .int .i64 (p.meet q).zb]) ∧ ∃ n : ExtOf w, w' = n.val := by
  go_enter Tryz.func50, Tryz.ntmps50
  go_wp2_with fail
  refine wp_region_ext_tail 16 (by kernel_rfl) (by kernel_rfl) ?_
  simp only [List.take_succ_cons, List.take_zero, List.drop_succ_cons, List.drop_zero]
  repeat (first | go_big_quiet_skip | ((with_reducible apply q_loadB midSpan); (· (first | exact wanted_none rfl | exact wanted_some rfl rfl rfl)); (· rfl); (· infer_instance); (· rfl); (· rfl); simp only [Act.put, List.setIfInBounds_toArray, List.set_cons_succ, List.set_cons_zero]) | go_big_quiet_step ((go_at_call 72; exact ext_call (rsMeet_any _ _ _ _ _))))
  refine wpQuiet_nil ?_
  intro _ hw'
  obtain ⟨nq, hw''⟩ := hw'
  subst hw''
  go_wp2_with (first | ((with_reducible apply wl_load' lwBox); (· (first | exact wanted_none rfl | exact wanted_some rfl rfl rfl)); (· rfl); (· infer_instance); (· rfl)) | ((with_reducible apply wl_load' lwSpan); (· (first | exact wanted_none rfl | exact wanted_some rfl rfl rfl)); (· rfl); (· infer_instance); (· rfl)) | ((with_reducible apply wl_loadB midSpan); (· (first | exact wanted_none rfl | exact wanted_some rfl rfl rfl)); (· rfl); (· infer_instance); (· rfl); (· rfl)) | ((with_reducible apply wl_loadB midBox); (· (first | exact wanted_none rfl | exact wanted_some rfl rfl rfl)); (· rfl); (· infer_instance); (· rfl); (· rfl)) | ((with_reducible apply wl_store' lwBox); (· (first | exact wanted_none rfl | exact wanted_some rfl rfl rfl)); (· rfl); (· rfl); (· infer_instance); (· rfl); (· rfl); (· (simp [Value.oneCell'])); try simp only [setRow_alloc, setRow_new, setRow_new1, setRow_new2, setRow_new11, setRow_new111]) | ((with_reducible apply wl_store' lwSpan); (· (first | exact wanted_none rfl | exact wanted_some rfl rfl rfl)); (· rfl); (· rfl); (· infer_instance); (· rfl); (· rfl); (· (simp [Value.oneCell'])); try simp only [setRow_alloc, setRow_new, setRow_new1, setRow_new2, setRow_new11, setRow_new111]) | (go_at_call 64; refine (isEmpty_any _ _ _).mono ?_; rintro e w' ⟨rfl, n, rfl⟩))
  refine bodyPost_ret (results_c1 (b0 := w.heap.size + 2) rfl lwBox rfl inferInstance rfl) rfl ⟨rfl, by exact ExtOf.of (by repeat' (first | (with_reducible exact Ext.refl _) | (with_reducible exact ExtOf.ext _) | (with_reducible refine Ext.trans ?_ (ExtOf.ext _)) | (with_reducible refine Ext.alloc ?_ _) | (with_reducible refine Ext.drew ?_) | (with_reducible refine Ext.setCell ?_ ?_ _) | (with_reducible refine Ext.setRow ?_ ?_ _) | (with_reducible exact HX.out) | (with_reducible refine Ext.trans ?_ HX.out) | (with_reducible refine Ext.below ?_ (Nat.le_refl _) _) | omega | (simp; done) | (simp; omega)))⟩
set_option maxHeartbeats 400000 in
theorem rTouches_any (d : Df) (b : Bx) (w : World) : Calls Tryz.prog 48 #[.agg #[.int .i64 d.k, .int .i64 d.b.xa, .int .i64 d.b.xb, .int .i64 d.b.ya, .int .i64 d.b.yb, .int .i64 d.b.za, .int .i64 d.b.zb], .agg #[.int .i64 b.xa, .int .i64 b.xb, .int .i64 b.ya, .int .i64 b.yb, .int .i64 b.za, .int .i64 b.zb]] w fun e w' => e = .returned (.bool (touches d b)) ∧ ∃ n : ExtOf w, w' = n.val := by
  go_enter Tryz.func48, Tryz.ntmps48
  go_wp2_with (first | first | ((with_reducible apply wl_load' lwBox); (· (first | exact wanted_none rfl | exact wanted_some rfl rfl rfl)); (· rfl); (· infer_instance); (· rfl)) | ((with_reducible apply wl_load' lwSpan); (· (first | exact wanted_none rfl | exact wanted_some rfl rfl rfl)); (· rfl); (· infer_instance); (· rfl)) | ((with_reducible apply wl_loadB midSpan); (· (first | exact wanted_none rfl | exact wanted_some rfl rfl rfl)); (· rfl); (· infer_instance); (· rfl); (· rfl)) | ((with_reducible apply wl_loadB midBox); (· (first | exact wanted_none rfl | exact wanted_some rfl rfl rfl)); (· rfl); (· infer_instance); (· rfl); (· rfl)) | ((with_reducible apply wl_store' lwBox); (· (first | exact wanted_none rfl | exact wanted_some rfl rfl rfl)); (· rfl); (· rfl); (· infer_instance); (· rfl); (· rfl); (· (simp [Value.oneCell'])); try simp only [setRow_alloc, setRow_new, setRow_new1, setRow_new2, setRow_new11, setRow_new111]) | ((with_reducible apply wl_store' lwSpan); (· (first | exact wanted_none rfl | exact wanted_some rfl rfl rfl)); (· rfl); (· rfl); (· infer_instance); (· rfl); (· rfl); (· (simp [Value.oneCell'])); try simp only [setRow_alloc, setRow_new, setRow_new1, setRow_new2, setRow_new11, setRow_new111]) | (go_at_call 64; refine (isEmpty_any _ _ _).mono ?_; rintro e w' ⟨rfl, n, rfl⟩) | (go_at_call 50; refine (rMeet_any d.b b _).mono ?_; rintro e w' ⟨rfl, n, rfl⟩) | (go_at_call 66; refine (rEmpty_any (d.b.meet b) _).mono ?_; rintro e w' ⟨rfl, n, rfl⟩))
  go_ret
  exact ⟨rfl, by exact ExtOf.of (by repeat' (first | (with_reducible exact Ext.refl _) | (with_reducible exact ExtOf.ext _) | (with_reducible refine Ext.trans ?_ (ExtOf.ext _)) | (with_reducible refine Ext.alloc ?_ _) | (with_reducible refine Ext.drew ?_) | (with_reducible refine Ext.setCell ?_ ?_ _) | (with_reducible refine Ext.setRow ?_ ?_ _) | (with_reducible exact HX.out) | (with_reducible refine Ext.trans ?_ HX.out) | (with_reducible refine Ext.below ?_ (Nat.le_refl _) _) | omega | (simp; done) | (simp; omega)))⟩
end Go.Proofs.YtdalbfanfbeckaaGreatDoor
end
/-
  Chapter 26: the check of lists of defects.
-/
section
set_option linter.unusedVariables false
set_option linter.unusedSimpArgs false
namespace Go.Proofs.YtdalbfanfbeckaaGreatDoor
open Go.RowKit TrimM

attribute [local go_sem] ExtOf.cell ExtOf.frozen ExtS.cell ExtS.frozen Block.cell Block.frozen ExtB.cell ExtB.frozen alloc_cell alloc_frozen
theorem insd_eq {a b : Int} (h : decide (b ≤ a) = false) (lo hi : Int) : insd a b lo hi = (decide (lo ≤ a) && decide (b ≤ hi)) := by
  have := of_decide_eq_false h
  unfold insd
  rw [Bool.eq_iff_iff]; simp; omega
set_option maxHeartbeats 1600000 in
theorem dcheck_any (d : Df) (w : World) : Calls Tryz.prog 62 #[.agg #[.int .i64 d.k, .int .i64 d.b.xa, .int .i64 d.b.xb, .int .i64 d.b.ya, .int .i64 d.b.yb, .int .i64 d.b.za, .int .i64 d.b.zb]] w fun e w' => e = .returned (.int .i64 (dfE d)) ∧ ∃ n : ExtOf w, w' = n.val := by
  obtain ⟨k, xa, xb, ya, yb, za, zb⟩ := d
  simp only
  by_cases a1 : k < 1
  · have HE : Hid (dfE ⟨k, xa, xb, ya, yb, za, zb⟩ = 10) := Lib.hid (by unfold dfE; rw [if_pos (by simp only; omega)])
    have q1 : decide (k < 1) = true := decide_eq_true a1
    go_enter Tryz.func62, Tryz.ntmps62
    go_wp2_with (first | ((with_reducible apply wl_load' lwBox); (· (first | exact wanted_none rfl | exact wanted_some rfl rfl rfl)); (· rfl); (· infer_instance); (· rfl)) | ((with_reducible apply wl_load' lwSpan); (· (first | exact wanted_none rfl | exact wanted_some rfl rfl rfl)); (· rfl); (· infer_instance); (· rfl)) | ((with_reducible apply wl_loadB midSpan); (· (first | exact wanted_none rfl | exact wanted_some rfl rfl rfl)); (· rfl); (· infer_instance); (· rfl); (· rfl)) | ((with_reducible apply wl_loadB midBox); (· (first | exact wanted_none rfl | exact wanted_some rfl rfl rfl)); (· rfl); (· infer_instance); (· rfl); (· rfl)) | ((with_reducible apply wl_store' lwBox); (· (first | exact wanted_none rfl | exact wanted_some rfl rfl rfl)); (· rfl); (· rfl); (· infer_instance); (· rfl); (· rfl); (· (simp [Value.oneCell'])); try simp only [setRow_alloc, setRow_new, setRow_new1, setRow_new2, setRow_new11, setRow_new111]) | ((with_reducible apply wl_store' lwSpan); (· (first | exact wanted_none rfl | exact wanted_some rfl rfl rfl)); (· rfl); (· rfl); (· infer_instance); (· rfl); (· rfl); (· (simp [Value.oneCell'])); try simp only [setRow_alloc, setRow_new, setRow_new1, setRow_new2, setRow_new11, setRow_new111]) | (go_at_call 64; refine (isEmpty_any _ _ _).mono ?_; rintro e w' ⟨rfl, n, rfl⟩) | (go_at_call 39; refine (inside_any _ _ _ _ _).mono ?_; rintro e w' ⟨rfl, n, rfl⟩))
    go_ret
    exact ⟨ret_int HE.out.symm, by exact ExtOf.of (by repeat' (first | (with_reducible exact Ext.refl _) | (with_reducible exact ExtOf.ext _) | (with_reducible refine Ext.trans ?_ (ExtOf.ext _)) | (with_reducible refine Ext.alloc ?_ _) | (with_reducible refine Ext.drew ?_) | (with_reducible refine Ext.setCell ?_ ?_ _) | (with_reducible refine Ext.setRow ?_ ?_ _) | (with_reducible exact HX.out) | (with_reducible refine Ext.trans ?_ HX.out) | (with_reducible refine Ext.below ?_ (Nat.le_refl _) _) | omega | (simp; done) | (simp; omega)))⟩
  have q1 : decide (k < 1) = false := decide_eq_false a1
  by_cases a2 : 6 < k
  · have HE : Hid (dfE ⟨k, xa, xb, ya, yb, za, zb⟩ = 10) := Lib.hid (by unfold dfE; rw [if_pos (by simp only; omega)])
    have q2 : decide (6 < k) = true := decide_eq_true a2
    go_enter Tryz.func62, Tryz.ntmps62
    go_wp2_with (first | ((with_reducible apply wl_load' lwBox); (· (first | exact wanted_none rfl | exact wanted_some rfl rfl rfl)); (· rfl); (· infer_instance); (· rfl)) | ((with_reducible apply wl_load' lwSpan); (· (first | exact wanted_none rfl | exact wanted_some rfl rfl rfl)); (· rfl); (· infer_instance); (· rfl)) | ((with_reducible apply wl_loadB midSpan); (· (first | exact wanted_none rfl | exact wanted_some rfl rfl rfl)); (· rfl); (· infer_instance); (· rfl); (· rfl)) | ((with_reducible apply wl_loadB midBox); (· (first | exact wanted_none rfl | exact wanted_some rfl rfl rfl)); (· rfl); (· infer_instance); (· rfl); (· rfl)) | ((with_reducible apply wl_store' lwBox); (· (first | exact wanted_none rfl | exact wanted_some rfl rfl rfl)); (· rfl); (· rfl); (· infer_instance); (· rfl); (· rfl); (· (simp [Value.oneCell'])); try simp only [setRow_alloc, setRow_new, setRow_new1, setRow_new2, setRow_new11, setRow_new111]) | ((with_reducible apply wl_store' lwSpan); (· (first | exact wanted_none rfl | exact wanted_some rfl rfl rfl)); (· rfl); (· rfl); (· infer_instance); (· rfl); (· rfl); (· (simp [Value.oneCell'])); try simp only [setRow_alloc, setRow_new, setRow_new1, setRow_new2, setRow_new11, setRow_new111]) | (go_at_call 64; refine (isEmpty_any _ _ _).mono ?_; rintro e w' ⟨rfl, n, rfl⟩) | (go_at_call 39; refine (inside_any _ _ _ _ _).mono ?_; rintro e w' ⟨rfl, n, rfl⟩))
    go_ret
    exact ⟨ret_int HE.out.symm, by exact ExtOf.of (by repeat' (first | (with_reducible exact Ext.refl _) | (with_reducible exact ExtOf.ext _) | (with_reducible refine Ext.trans ?_ (ExtOf.ext _)) | (with_reducible refine Ext.alloc ?_ _) | (with_reducible refine Ext.drew ?_) | (with_reducible refine Ext.setCell ?_ ?_ _) | (with_reducible refine Ext.setRow ?_ ?_ _) | (with_reducible exact HX.out) | (with_reducible refine Ext.trans ?_ HX.out) | (with_reducible refine Ext.below ?_ (Nat.le_refl _) _) | omega | (simp; done) | (simp; omega)))⟩
  have q2 : decide (6 < k) = false := decide_eq_false a2
  have HK : Hid (dfE ⟨k, xa, xb, ya, yb, za, zb⟩ = if (⟨xa, xb, ya, yb, za, zb⟩ : Bx).empty then 19 else if (⟨xa, xb, ya, yb, za, zb⟩ : Bx).ranged then 0 else 9) := Lib.hid (by unfold dfE; rw [if_neg (by simp only; omega)])
  clear a1 a2
  rcases e1 : decide (xb ≤ xa) with _ | _
  · rcases e2 : decide (yb ≤ ya) with _ | _
    · rcases e3 : decide (zb ≤ za) with _ | _
      · have HR : Hid (dfE ⟨k, xa, xb, ya, yb, za, zb⟩ = if (insd xa xb (-600) 600 && insd ya yb (-600) 600 && insd za zb 0 20000) then 0 else 9) := Lib.hid (by
          rw [HK.out, ranged_eq, insd_eq e1, insd_eq e2, insd_eq e3]
          unfold Bx.empty
          simp only [ge_iff_le, e1, e2, e3]
          rfl)
        clear HK
        rcases i1 : insd xa xb (-600) 600 with _ | _
        · have HE : Hid (dfE ⟨k, xa, xb, ya, yb, za, zb⟩ = 9) := Lib.hid (by rw [HR.out, i1]; rfl)
          go_enter Tryz.func62, Tryz.ntmps62
          go_wp2_with (first | ((with_reducible apply wl_load' lwBox); (· (first | exact wanted_none rfl | exact wanted_some rfl rfl rfl)); (· rfl); (· infer_instance); (· rfl)) | ((with_reducible apply wl_load' lwSpan); (· (first | exact wanted_none rfl | exact wanted_some rfl rfl rfl)); (· rfl); (· infer_instance); (· rfl)) | ((with_reducible apply wl_loadB midSpan); (· (first | exact wanted_none rfl | exact wanted_some rfl rfl rfl)); (· rfl); (· infer_instance); (· rfl); (· rfl)) | ((with_reducible apply wl_loadB midBox); (· (first | exact wanted_none rfl | exact wanted_some rfl rfl rfl)); (· rfl); (· infer_instance); (· rfl); (· rfl)) | ((with_reducible apply wl_store' lwBox); (· (first | exact wanted_none rfl | exact wanted_some rfl rfl rfl)); (· rfl); (· rfl); (· infer_instance); (· rfl); (· rfl); (· (simp [Value.oneCell'])); try simp only [setRow_alloc, setRow_new, setRow_new1, setRow_new2, setRow_new11, setRow_new111]) | ((with_reducible apply wl_store' lwSpan); (· (first | exact wanted_none rfl | exact wanted_some rfl rfl rfl)); (· rfl); (· rfl); (· infer_instance); (· rfl); (· rfl); (· (simp [Value.oneCell'])); try simp only [setRow_alloc, setRow_new, setRow_new1, setRow_new2, setRow_new11, setRow_new111]) | (go_at_call 64; refine (isEmpty_any _ _ _).mono ?_; rintro e w' ⟨rfl, n, rfl⟩) | (go_at_call 39; refine (inside_any _ _ _ _ _).mono ?_; rintro e w' ⟨rfl, n, rfl⟩))
          go_ret
          exact ⟨ret_int HE.out.symm, by exact ExtOf.of (by repeat' (first | (with_reducible exact Ext.refl _) | (with_reducible exact ExtOf.ext _) | (with_reducible refine Ext.trans ?_ (ExtOf.ext _)) | (with_reducible refine Ext.alloc ?_ _) | (with_reducible refine Ext.drew ?_) | (with_reducible refine Ext.setCell ?_ ?_ _) | (with_reducible refine Ext.setRow ?_ ?_ _) | (with_reducible exact HX.out) | (with_reducible refine Ext.trans ?_ HX.out) | (with_reducible refine Ext.below ?_ (Nat.le_refl _) _) | omega | (simp; done) | (simp; omega)))⟩
        · rcases i2 : insd ya yb (-600) 600 with _ | _
          · have HE : Hid (dfE ⟨k, xa, xb, ya, yb, za, zb⟩ = 9) := Lib.hid (by rw [HR.out, i1, i2]; rfl)
            go_enter Tryz.func62, Tryz.ntmps62
            go_wp2_with (first | ((with_reducible apply wl_load' lwBox); (· (first | exact wanted_none rfl | exact wanted_some rfl rfl rfl)); (· rfl); (· infer_instance); (· rfl)) | ((with_reducible apply wl_load' lwSpan); (· (first | exact wanted_none rfl | exact wanted_some rfl rfl rfl)); (· rfl); (· infer_instance); (· rfl)) | ((with_reducible apply wl_loadB midSpan); (· (first | exact wanted_none rfl | exact wanted_some rfl rfl rfl)); (· rfl); (· infer_instance); (· rfl); (· rfl)) | ((with_reducible apply wl_loadB midBox); (· (first | exact wanted_none rfl | exact wanted_some rfl rfl rfl)); (· rfl); (· infer_instance); (· rfl); (· rfl)) | ((with_reducible apply wl_store' lwBox); (· (first | exact wanted_none rfl | exact wanted_some rfl rfl rfl)); (· rfl); (· rfl); (· infer_instance); (· rfl); (· rfl); (· (simp [Value.oneCell'])); try simp only [setRow_alloc, setRow_new, setRow_new1, setRow_new2, setRow_new11, setRow_new111]) | ((with_reducible apply wl_store' lwSpan); (· (first | exact wanted_none rfl | exact wanted_some rfl rfl rfl)); (· rfl); (· rfl); (· infer_instance); (· rfl); (· rfl); (· (simp [Value.oneCell'])); try simp only [setRow_alloc, setRow_new, setRow_new1, setRow_new2, setRow_new11, setRow_new111]) | (go_at_call 64; refine (isEmpty_any _ _ _).mono ?_; rintro e w' ⟨rfl, n, rfl⟩) | (go_at_call 39; refine (inside_any _ _ _ _ _).mono ?_; rintro e w' ⟨rfl, n, rfl⟩))
            go_ret
            exact ⟨ret_int HE.out.symm, by exact ExtOf.of (by repeat' (first | (with_reducible exact Ext.refl _) | (with_reducible exact ExtOf.ext _) | (with_reducible refine Ext.trans ?_ (ExtOf.ext _)) | (with_reducible refine Ext.alloc ?_ _) | (with_reducible refine Ext.drew ?_) | (with_reducible refine Ext.setCell ?_ ?_ _) | (with_reducible refine Ext.setRow ?_ ?_ _) | (with_reducible exact HX.out) | (with_reducible refine Ext.trans ?_ HX.out) | (with_reducible refine Ext.below ?_ (Nat.le_refl _) _) | omega | (simp; done) | (simp; omega)))⟩
          · rcases i3 : insd za zb 0 20000 with _ | _
            · have HE : Hid (dfE ⟨k, xa, xb, ya, yb, za, zb⟩ = 9) := Lib.hid (by rw [HR.out, i1, i2, i3]; rfl)
              go_enter Tryz.func62, Tryz.ntmps62
              go_wp2_with (first | ((with_reducible apply wl_load' lwBox); (· (first | exact wanted_none rfl | exact wanted_some rfl rfl rfl)); (· rfl); (· infer_instance); (· rfl)) | ((with_reducible apply wl_load' lwSpan); (· (first | exact wanted_none rfl | exact wanted_some rfl rfl rfl)); (· rfl); (· infer_instance); (· rfl)) | ((with_reducible apply wl_loadB midSpan); (· (first | exact wanted_none rfl | exact wanted_some rfl rfl rfl)); (· rfl); (· infer_instance); (· rfl); (· rfl)) | ((with_reducible apply wl_loadB midBox); (· (first | exact wanted_none rfl | exact wanted_some rfl rfl rfl)); (· rfl); (· infer_instance); (· rfl); (· rfl)) | ((with_reducible apply wl_store' lwBox); (· (first | exact wanted_none rfl | exact wanted_some rfl rfl rfl)); (· rfl); (· rfl); (· infer_instance); (· rfl); (· rfl); (· (simp [Value.oneCell'])); try simp only [setRow_alloc, setRow_new, setRow_new1, setRow_new2, setRow_new11, setRow_new111]) | ((with_reducible apply wl_store' lwSpan); (· (first | exact wanted_none rfl | exact wanted_some rfl rfl rfl)); (· rfl); (· rfl); (· infer_instance); (· rfl); (· rfl); (· (simp [Value.oneCell'])); try simp only [setRow_alloc, setRow_new, setRow_new1, setRow_new2, setRow_new11, setRow_new111]) | (go_at_call 64; refine (isEmpty_any _ _ _).mono ?_; rintro e w' ⟨rfl, n, rfl⟩) | (go_at_call 39; refine (inside_any _ _ _ _ _).mono ?_; rintro e w' ⟨rfl, n, rfl⟩))
              go_ret
              exact ⟨ret_int HE.out.symm, by exact ExtOf.of (by repeat' (first | (with_reducible exact Ext.refl _) | (with_reducible exact ExtOf.ext _) | (with_reducible refine Ext.trans ?_ (ExtOf.ext _)) | (with_reducible refine Ext.alloc ?_ _) | (with_reducible refine Ext.drew ?_) | (with_reducible refine Ext.setCell ?_ ?_ _) | (with_reducible refine Ext.setRow ?_ ?_ _) | (with_reducible exact HX.out) | (with_reducible refine Ext.trans ?_ HX.out) | (with_reducible refine Ext.below ?_ (Nat.le_refl _) _) | omega | (simp; done) | (simp; omega)))⟩
            · have HE : Hid (dfE ⟨k, xa, xb, ya, yb, za, zb⟩ = 0) := Lib.hid (by rw [HR.out, i1, i2, i3]; rfl)
              go_enter Tryz.func62, Tryz.ntmps62
              go_wp2_with (first | ((with_reducible apply wl_load' lwBox); (· (first | exact wanted_none rfl | exact wanted_some rfl rfl rfl)); (· rfl); (· infer_instance); (· rfl)) | ((with_reducible apply wl_load' lwSpan); (· (first | exact wanted_none rfl | exact wanted_some rfl rfl rfl)); (· rfl); (· infer_instance); (· rfl)) | ((with_reducible apply wl_loadB midSpan); (· (first | exact wanted_none rfl | exact wanted_some rfl rfl rfl)); (· rfl); (· infer_instance); (· rfl); (· rfl)) | ((with_reducible apply wl_loadB midBox); (· (first | exact wanted_none rfl | exact wanted_some rfl rfl rfl)); (· rfl); (· infer_instance); (· rfl); (· rfl)) | ((with_reducible apply wl_store' lwBox); (· (first | exact wanted_none rfl | exact wanted_some rfl rfl rfl)); (· rfl); (· rfl); (· infer_instance); (· rfl); (· rfl); (· (simp [Value.oneCell'])); try simp only [setRow_alloc, setRow_new, setRow_new1, setRow_new2, setRow_new11, setRow_new111]) | ((with_reducible apply wl_store' lwSpan); (· (first | exact wanted_none rfl | exact wanted_some rfl rfl rfl)); (· rfl); (· rfl); (· infer_instance); (· rfl); (· rfl); (· (simp [Value.oneCell'])); try simp only [setRow_alloc, setRow_new, setRow_new1, setRow_new2, setRow_new11, setRow_new111]) | (go_at_call 64; refine (isEmpty_any _ _ _).mono ?_; rintro e w' ⟨rfl, n, rfl⟩) | (go_at_call 39; refine (inside_any _ _ _ _ _).mono ?_; rintro e w' ⟨rfl, n, rfl⟩))
              go_ret
              exact ⟨ret_int HE.out.symm, by exact ExtOf.of (by repeat' (first | (with_reducible exact Ext.refl _) | (with_reducible exact ExtOf.ext _) | (with_reducible refine Ext.trans ?_ (ExtOf.ext _)) | (with_reducible refine Ext.alloc ?_ _) | (with_reducible refine Ext.drew ?_) | (with_reducible refine Ext.setCell ?_ ?_ _) | (with_reducible refine Ext.setRow ?_ ?_ _) | (with_reducible exact HX.out) | (with_reducible refine Ext.trans ?_ HX.out) | (with_reducible refine Ext.below ?_ (Nat.le_refl _) _) | omega | (simp; done) | (simp; omega)))⟩
      · have HE : Hid (dfE ⟨k, xa, xb, ya, yb, za, zb⟩ = 19) := Lib.hid (by rw [HK.out, if_pos]; unfold Bx.empty; simp only [ge_iff_le, e1, e2, e3]; rfl)
        go_enter Tryz.func62, Tryz.ntmps62
        go_wp2_with (first | ((with_reducible apply wl_load' lwBox); (· (first | exact wanted_none rfl | exact wanted_some rfl rfl rfl)); (· rfl); (· infer_instance); (· rfl)) | ((with_reducible apply wl_load' lwSpan); (· (first | exact wanted_none rfl | exact wanted_some rfl rfl rfl)); (· rfl); (· infer_instance); (· rfl)) | ((with_reducible apply wl_loadB midSpan); (· (first | exact wanted_none rfl | exact wanted_some rfl rfl rfl)); (· rfl); (· infer_instance); (· rfl); (· rfl)) | ((with_reducible apply wl_loadB midBox); (· (first | exact wanted_none rfl | exact wanted_some rfl rfl rfl)); (· rfl); (· infer_instance); (· rfl); (· rfl)) | ((with_reducible apply wl_store' lwBox); (· (first | exact wanted_none rfl | exact wanted_some rfl rfl rfl)); (· rfl); (· rfl); (· infer_instance); (· rfl); (· rfl); (· (simp [Value.oneCell'])); try simp only [setRow_alloc, setRow_new, setRow_new1, setRow_new2, setRow_new11, setRow_new111]) | ((with_reducible apply wl_store' lwSpan); (· (first | exact wanted_none rfl | exact wanted_some rfl rfl rfl)); (· rfl); (· rfl); (· infer_instance); (· rfl); (· rfl); (· (simp [Value.oneCell'])); try simp only [setRow_alloc, setRow_new, setRow_new1, setRow_new2, setRow_new11, setRow_new111]) | (go_at_call 64; refine (isEmpty_any _ _ _).mono ?_; rintro e w' ⟨rfl, n, rfl⟩) | (go_at_call 39; refine (inside_any _ _ _ _ _).mono ?_; rintro e w' ⟨rfl, n, rfl⟩))
        go_ret
        exact ⟨ret_int HE.out.symm, by exact ExtOf.of (by repeat' (first | (with_reducible exact Ext.refl _) | (with_reducible exact ExtOf.ext _) | (with_reducible refine Ext.trans ?_ (ExtOf.ext _)) | (with_reducible refine Ext.alloc ?_ _) | (with_reducible refine Ext.drew ?_) | (with_reducible refine Ext.setCell ?_ ?_ _) | (with_reducible refine Ext.setRow ?_ ?_ _) | (with_reducible exact HX.out) | (with_reducible refine Ext.trans ?_ HX.out) | (with_reducible refine Ext.below ?_ (Nat.le_refl _) _) | omega | (simp; done) | (simp; omega)))⟩
    · have HE : Hid (dfE ⟨k, xa, xb, ya, yb, za, zb⟩ = 19) := Lib.hid (by rw [HK.out, if_pos]; unfold Bx.empty; simp only [ge_iff_le, e1, e2]; simp)
      go_enter Tryz.func62, Tryz.ntmps62
      go_wp2_with (first | ((with_reducible apply wl_load' lwBox); (· (first | exact wanted_none rfl | exact wanted_some rfl rfl rfl)); (· rfl); (· infer_instance); (· rfl)) | ((with_reducible apply wl_load' lwSpan); (· (first | exact wanted_none rfl | exact wanted_some rfl rfl rfl)); (· rfl); (· infer_instance); (· rfl)) | ((with_reducible apply wl_loadB midSpan); (· (first | exact wanted_none rfl | exact wanted_some rfl rfl rfl)); (· rfl); (· infer_instance); (· rfl); (· rfl)) | ((with_reducible apply wl_loadB midBox); (· (first | exact wanted_none rfl | exact wanted_some rfl rfl rfl)); (· rfl); (· infer_instance); (· rfl); (· rfl)) | ((with_reducible apply wl_store' lwBox); (· (first | exact wanted_none rfl | exact wanted_some rfl rfl rfl)); (· rfl); (· rfl); (· infer_instance); (· rfl); (· rfl); (· (simp [Value.oneCell'])); try simp only [setRow_alloc, setRow_new, setRow_new1, setRow_new2, setRow_new11, setRow_new111]) | ((with_reducible apply wl_store' lwSpan); (· (first | exact wanted_none rfl | exact wanted_some rfl rfl rfl)); (· rfl); (· rfl); (· infer_instance); (· rfl); (· rfl); (· (simp [Value.oneCell'])); try simp only [setRow_alloc, setRow_new, setRow_new1, setRow_new2, setRow_new11, setRow_new111]) | (go_at_call 64; refine (isEmpty_any _ _ _).mono ?_; rintro e w' ⟨rfl, n, rfl⟩) | (go_at_call 39; refine (inside_any _ _ _ _ _).mono ?_; rintro e w' ⟨rfl, n, rfl⟩))
      go_ret
      exact ⟨ret_int HE.out.symm, by exact ExtOf.of (by repeat' (first | (with_reducible exact Ext.refl _) | (with_reducible exact ExtOf.ext _) | (with_reducible refine Ext.trans ?_ (ExtOf.ext _)) | (with_reducible refine Ext.alloc ?_ _) | (with_reducible refine Ext.drew ?_) | (with_reducible refine Ext.setCell ?_ ?_ _) | (with_reducible refine Ext.setRow ?_ ?_ _) | (with_reducible exact HX.out) | (with_reducible refine Ext.trans ?_ HX.out) | (with_reducible refine Ext.below ?_ (Nat.le_refl _) _) | omega | (simp; done) | (simp; omega)))⟩
  · have HE : Hid (dfE ⟨k, xa, xb, ya, yb, za, zb⟩ = 19) := Lib.hid (by rw [HK.out, if_pos]; unfold Bx.empty; simp only [ge_iff_le, e1]; simp)
    go_enter Tryz.func62, Tryz.ntmps62
    go_wp2_with (first | ((with_reducible apply wl_load' lwBox); (· (first | exact wanted_none rfl | exact wanted_some rfl rfl rfl)); (· rfl); (· infer_instance); (· rfl)) | ((with_reducible apply wl_load' lwSpan); (· (first | exact wanted_none rfl | exact wanted_some rfl rfl rfl)); (· rfl); (· infer_instance); (· rfl)) | ((with_reducible apply wl_loadB midSpan); (· (first | exact wanted_none rfl | exact wanted_some rfl rfl rfl)); (· rfl); (· infer_instance); (· rfl); (· rfl)) | ((with_reducible apply wl_loadB midBox); (· (first | exact wanted_none rfl | exact wanted_some rfl rfl rfl)); (· rfl); (· infer_instance); (· rfl); (· rfl)) | ((with_reducible apply wl_store' lwBox); (· (first | exact wanted_none rfl | exact wanted_some rfl rfl rfl)); (· rfl); (· rfl); (· infer_instance); (· rfl); (· rfl); (· (simp [Value.oneCell'])); try simp only [setRow_alloc, setRow_new, setRow_new1, setRow_new2, setRow_new11, setRow_new111]) | ((with_reducible apply wl_store' lwSpan); (· (first | exact wanted_none rfl | exact wanted_some rfl rfl rfl)); (· rfl); (· rfl); (· infer_instance); (· rfl); (· rfl); (· (simp [Value.oneCell'])); try simp only [setRow_alloc, setRow_new, setRow_new1, setRow_new2, setRow_new11, setRow_new111]) | (go_at_call 64; refine (isEmpty_any _ _ _).mono ?_; rintro e w' ⟨rfl, n, rfl⟩) | (go_at_call 39; refine (inside_any _ _ _ _ _).mono ?_; rintro e w' ⟨rfl, n, rfl⟩))
    go_ret
    exact ⟨ret_int HE.out.symm, by exact ExtOf.of (by repeat' (first | (with_reducible exact Ext.refl _) | (with_reducible exact ExtOf.ext _) | (with_reducible refine Ext.trans ?_ (ExtOf.ext _)) | (with_reducible refine Ext.alloc ?_ _) | (with_reducible refine Ext.drew ?_) | (with_reducible refine Ext.setCell ?_ ?_ _) | (with_reducible refine Ext.setRow ?_ ?_ _) | (with_reducible exact HX.out) | (with_reducible refine Ext.trans ?_ HX.out) | (with_reducible refine Ext.below ?_ (Nat.le_refl _) _) | omega | (simp; done) | (simp; omega)))⟩
def dfsAt (l : List Df) (k : Nat) : Int := dfsE (l.drop k)
theorem dfsAt_end (l : List Df) {k : Nat} (h : l.length ≤ k) : dfsAt l k = 0 := by
  unfold dfsAt; rw [List.drop_of_length_le h]; rfl
theorem dfsAt_bad {l : List Df} {k : Nat} (h : k < l.length) (hb : dfE l[k] ≠ 0) : dfsAt l k = dfE l[k] := by
  unfold dfsAt; rw [List.drop_eq_getElem_cons h]; unfold dfsE; rw [if_pos hb]
theorem dfsAt_next {l : List Df} {k : Nat} (h : k < l.length) (hb : dfE l[k] = 0) : dfsAt l k = dfsAt l (k + 1) := by
  unfold dfsAt; rw [List.drop_eq_getElem_cons h]; conv => lhs; unfold dfsE
  rw [if_neg (by simp [hb])]
set_option maxHeartbeats 1600000 in
theorem dCheck_any (l : List Df) (v : Value) (w : World) (h : DfS w v l) : Calls Tryz.prog 38 #[v] w fun e w' => e = .returned (.int .i64 (defsE l)) ∧ ∃ n : ExtOf w, w' = n.val := by
  obtain ⟨q, cap, rfl, hl1, hl2, hl3⟩ := SliceOf.form h
  have HL := Lib.hid h
  clear h
  unfold maxLen at hl2
  by_cases h64 : 64 < l.length
  · have HE : Hid (defsE l = 4) := Lib.hid (by unfold defsE; rw [if_pos (by omega)])
    go_enter Tryz.func38, Tryz.ntmps38
    go_wp2_with fail
    go_ret
    exact ⟨ret_int HE.out.symm, by exact ExtOf.of (by repeat' (first | (with_reducible exact Ext.refl _) | (with_reducible exact ExtOf.ext _) | (with_reducible refine Ext.trans ?_ (ExtOf.ext _)) | (with_reducible refine Ext.alloc ?_ _) | (with_reducible refine Ext.drew ?_) | (with_reducible refine Ext.setCell ?_ ?_ _) | (with_reducible refine Ext.setRow ?_ ?_ _) | (with_reducible exact HX.out) | (with_reducible refine Ext.trans ?_ HX.out) | (with_reducible refine Ext.below ?_ (Nat.le_refl _) _) | omega | (simp; done) | (simp; omega)))⟩
  · have HE : Hid (defsE l = dfsAt l 0) := Lib.hid (by unfold defsE; rw [if_neg (by omega)]; rfl)
    go_enter Tryz.func38, Tryz.ntmps38
    go_wp2_with fail
    go_loopw [11] (fun v wr => ∃ k : Nat, k ≤ l.length ∧ v = .int .i64 k ∧ Ext w wr ∧ dfsAt l 0 = dfsAt l k) (fun v _ => l.length - (intOf v).toNat)
    case atStart => exact ⟨0, by omega, rfl, Ext.refl _, rfl⟩
    case round =>
      obtain ⟨k, hk, rfl, hx, hla⟩ := hrel
      have HX := Lib.hid hx
      have HLA := Lib.hid hla
      clear hx hla
      by_cases hlt : k < l.length
      · obtain ⟨bl, ol, rfl, r0⟩ := SliceOf.elemK (SliceOf.ext HL.out HX.out) hlt
        obtain ⟨x, hx⟩ : ∃ x, x = l[k] := ⟨_, rfl⟩
        rw [← hx] at r0
        have HXE := Lib.hid hx
        unfold encDf at r0
        clear hx
        by_cases h0 : dfE x = 0
        · have h1 : (dfE x != 0) = false := bne_eq_false_iff_eq.2 h0
          have HNX : Hid (dfsAt l k = dfsAt l (k + 1)) := Lib.hid (dfsAt_next hlt (by rw [← HXE.out]; exact h0))
          clear h0
          go_wp2_with (first | ((with_reducible apply wl_loadM midDf r0); (· rfl); (· (first | exact wanted_none rfl | exact wanted_some rfl rfl rfl)); (· rfl)) | ((with_reducible apply wl_load' lwDf); (· (first | exact wanted_none rfl | exact wanted_some rfl rfl rfl)); (· rfl); (· infer_instance); (· rfl)) | ((with_reducible apply wl_store' lwDf); (· (first | exact wanted_none rfl | exact wanted_some rfl rfl rfl)); (· rfl); (· rfl); (· infer_instance); (· rfl); (· rfl); (· (simp [Value.oneCell'])); try simp only [setRow_alloc, setRow_new, setRow_new1, setRow_new2, setRow_new11, setRow_new111]) | (go_at_call 62; refine (dcheck_any x _).mono ?_; rintro e w' ⟨rfl, n, rfl⟩))
          go_roundw
          case rel => exact ⟨k + 1, by omega, by first | rfl | go_num, by repeat' (first | (with_reducible exact Ext.refl _) | (with_reducible exact ExtOf.ext _) | (with_reducible refine Ext.trans ?_ (ExtOf.ext _)) | (with_reducible refine Ext.alloc ?_ _) | (with_reducible refine Ext.drew ?_) | (with_reducible refine Ext.setCell ?_ ?_ _) | (with_reducible refine Ext.setRow ?_ ?_ _) | (with_reducible exact HX.out) | (with_reducible refine Ext.trans ?_ HX.out) | (with_reducible refine Ext.below ?_ (Nat.le_refl _) _) | omega | (simp; done) | (simp; omega)), HLA.out.trans HNX.out⟩
          case measure => simp [intOf]; omega
        · have h1 : (dfE x != 0) = true := bne_iff_ne.2 h0
          have HB9 : Hid (dfsAt l k = dfE x) := Lib.hid (by rw [dfsAt_bad hlt (by rw [← HXE.out]; exact h0), HXE.out])
          clear h0
          go_wp2_with (first | ((with_reducible apply wl_loadM midDf r0); (· rfl); (· (first | exact wanted_none rfl | exact wanted_some rfl rfl rfl)); (· rfl)) | ((with_reducible apply wl_load' lwDf); (· (first | exact wanted_none rfl | exact wanted_some rfl rfl rfl)); (· rfl); (· infer_instance); (· rfl)) | ((with_reducible apply wl_store' lwDf); (· (first | exact wanted_none rfl | exact wanted_some rfl rfl rfl)); (· rfl); (· rfl); (· infer_instance); (· rfl); (· rfl); (· (simp [Value.oneCell'])); try simp only [setRow_alloc, setRow_new, setRow_new1, setRow_new2, setRow_new11, setRow_new111]) | (go_at_call 62; refine (dcheck_any x _).mono ?_; rintro e w' ⟨rfl, n, rfl⟩))
          go_ret
          exact ⟨ret_int (by rw [HE.out, HLA.out, HB9.out]), by exact ExtOf.of (by repeat' (first | (with_reducible exact Ext.refl _) | (with_reducible exact ExtOf.ext _) | (with_reducible refine Ext.trans ?_ (ExtOf.ext _)) | (with_reducible refine Ext.alloc ?_ _) | (with_reducible refine Ext.drew ?_) | (with_reducible refine Ext.setCell ?_ ?_ _) | (with_reducible refine Ext.setRow ?_ ?_ _) | (with_reducible exact HX.out) | (with_reducible refine Ext.trans ?_ HX.out) | (with_reducible refine Ext.below ?_ (Nat.le_refl _) _) | omega | (simp; done) | (simp; omega)))⟩
      · have HL0 : Hid (dfsAt l k = 0) := Lib.hid (dfsAt_end l (by omega))
        go_wp2_with fail
        go_ret
        exact ⟨ret_int (by rw [HE.out, HLA.out, HL0.out]), by exact ExtOf.of (by repeat' (first | (with_reducible exact Ext.refl _) | (with_reducible exact ExtOf.ext _) | (with_reducible refine Ext.trans ?_ (ExtOf.ext _)) | (with_reducible refine Ext.alloc ?_ _) | (with_reducible refine Ext.drew ?_) | (with_reducible refine Ext.setCell ?_ ?_ _) | (with_reducible refine Ext.setRow ?_ ?_ _) | (with_reducible exact HX.out) | (with_reducible refine Ext.trans ?_ HX.out) | (with_reducible refine Ext.below ?_ (Nat.le_refl _) _) | omega | (simp; done) | (simp; omega)))⟩
theorem range_box {w : World} {b o : Nat} {d : Df} (h : w.rangeAt b o (encDf d)) : w.rangeAt b (o + 1) (encBx d.b) := fun j u hj => by
  have := h (j + 1) u (by unfold encDf; rw [List.getElem?_cons_succ]; exact hj)
  rw [Nat.add_assoc, Nat.add_comm 1 j]
  exact this
set_option maxHeartbeats 1600000 in
theorem rdCheck_any (l : List Df) (v : Value) (w : World) (h : DfS w v l) : Calls Tryz.prog 46 #[v] w fun e w' => e = .returned (.int .i64 (defsE l)) ∧ ∃ n : ExtOf w, w' = n.val := by
  obtain ⟨q, cap, rfl, hl1, hl2, hl3⟩ := SliceOf.form h
  have HL := Lib.hid h
  clear h
  unfold maxLen at hl2
  by_cases h64 : 64 < l.length
  · have HE : Hid (defsE l = 4) := Lib.hid (by unfold defsE; rw [if_pos (by omega)])
    go_enter Tryz.func46, Tryz.ntmps46
    go_wp2_with fail
    go_ret
    exact ⟨ret_int HE.out.symm, by exact ExtOf.of (by repeat' (first | (with_reducible exact Ext.refl _) | (with_reducible exact ExtOf.ext _) | (with_reducible refine Ext.trans ?_ (ExtOf.ext _)) | (with_reducible refine Ext.alloc ?_ _) | (with_reducible refine Ext.drew ?_) | (with_reducible refine Ext.setCell ?_ ?_ _) | (with_reducible refine Ext.setRow ?_ ?_ _) | (with_reducible exact HX.out) | (with_reducible refine Ext.trans ?_ HX.out) | (with_reducible refine Ext.below ?_ (Nat.le_refl _) _) | omega | (simp; done) | (simp; omega)))⟩
  · have HE : Hid (defsE l = dfsAt l 0) := Lib.hid (by unfold defsE; rw [if_neg (by omega)]; rfl)
    go_enter Tryz.func46, Tryz.ntmps46
    go_wp2_with fail
    go_loopw [3] (fun v wr => ∃ k : Nat, k ≤ l.length ∧ v = .int .i64 k ∧ Ext w wr ∧ dfsAt l 0 = dfsAt l k) (fun v _ => l.length - (intOf v).toNat)
    case atStart => exact ⟨0, by omega, rfl, Ext.refl _, rfl⟩
    case round =>
      obtain ⟨k, hk, rfl, hx, hla⟩ := hrel
      have HX := Lib.hid hx
      have HLA := Lib.hid hla
      clear hx hla
      by_cases hlt : k < l.length
      · obtain ⟨bl, ol, rfl, r0⟩ := SliceOf.elemK (SliceOf.ext HL.out HX.out) hlt
        obtain ⟨x, hx⟩ : ∃ x, x = l[k] := ⟨_, rfl⟩
        rw [← hx] at r0
        have HXE := Lib.hid hx
        have rb := range_box r0
        have c0 : wr.cell? ⟨bl, ol + k * 7, none⟩ = some (.int .i64 x.k) := r0 0 _ rfl
        have o1 : Old bl wr := Old.of_cell c0
        unfold encBx at rb
        clear hx r0
        have HBAD : Hid (dfE x ≠ 0 → dfsAt l k = dfE x) := Lib.hid (fun h0 => by rw [dfsAt_bad hlt (by rw [← HXE.out]; exact h0), HXE.out])
        by_cases a1 : x.k < 1
        · have HD : Hid (dfE x = 10) := Lib.hid (by unfold dfE; rw [if_pos (by omega)])
          have HB9 := Lib.hid (HBAD.out (by rw [HD.out]; decide))
          have q1 : decide (x.k < 1) = true := decide_eq_true a1
          go_wp2_with (first | ((with_reducible apply wl_loadM midBox rb); (· rfl); (· (first | exact wanted_none rfl | exact wanted_some rfl rfl rfl)); (· rfl)) | ((with_reducible apply wl_loadM midBox (n.ext.range rb)); (· rfl); (· (first | exact wanted_none rfl | exact wanted_some rfl rfl rfl)); (· rfl)) | (go_at_call 66; refine (rEmpty_any x.b _).mono ?_; rintro e w' ⟨rfl, n, rfl⟩) | (go_at_call 70; refine (rRanged_any x.b _).mono ?_; rintro e w' ⟨rfl, n, rfl⟩))
          go_ret
          exact ⟨ret_int (by rw [HE.out, HLA.out, HB9.out, HD.out]), by exact ExtOf.of (by repeat' (first | (with_reducible exact Ext.refl _) | (with_reducible exact ExtOf.ext _) | (with_reducible refine Ext.trans ?_ (ExtOf.ext _)) | (with_reducible refine Ext.alloc ?_ _) | (with_reducible refine Ext.drew ?_) | (with_reducible refine Ext.setCell ?_ ?_ _) | (with_reducible refine Ext.setRow ?_ ?_ _) | (with_reducible exact HX.out) | (with_reducible refine Ext.trans ?_ HX.out) | (with_reducible refine Ext.below ?_ (Nat.le_refl _) _) | omega | (simp; done) | (simp; omega)))⟩
        have q1 : decide (x.k < 1) = false := decide_eq_false a1
        by_cases a2 : 6 < x.k
        · have HD : Hid (dfE x = 10) := Lib.hid (by unfold dfE; rw [if_pos (by omega)])
          have HB9 := Lib.hid (HBAD.out (by rw [HD.out]; decide))
          have q2 : decide (6 < x.k) = true := decide_eq_true a2
          go_wp2_with (first | ((with_reducible apply wl_loadM midBox rb); (· rfl); (· (first | exact wanted_none rfl | exact wanted_some rfl rfl rfl)); (· rfl)) | ((with_reducible apply wl_loadM midBox (n.ext.range rb)); (· rfl); (· (first | exact wanted_none rfl | exact wanted_some rfl rfl rfl)); (· rfl)) | (go_at_call 66; refine (rEmpty_any x.b _).mono ?_; rintro e w' ⟨rfl, n, rfl⟩) | (go_at_call 70; refine (rRanged_any x.b _).mono ?_; rintro e w' ⟨rfl, n, rfl⟩))
          go_ret
          exact ⟨ret_int (by rw [HE.out, HLA.out, HB9.out, HD.out]), by exact ExtOf.of (by repeat' (first | (with_reducible exact Ext.refl _) | (with_reducible exact ExtOf.ext _) | (with_reducible refine Ext.trans ?_ (ExtOf.ext _)) | (with_reducible refine Ext.alloc ?_ _) | (with_reducible refine Ext.drew ?_) | (with_reducible refine Ext.setCell ?_ ?_ _) | (with_reducible refine Ext.setRow ?_ ?_ _) | (with_reducible exact HX.out) | (with_reducible refine Ext.trans ?_ HX.out) | (with_reducible refine Ext.below ?_ (Nat.le_refl _) _) | omega | (simp; done) | (simp; omega)))⟩
        have q2 : decide (6 < x.k) = false := decide_eq_false a2
        rcases he : x.b.empty with _ | _
        · rcases hr : x.b.ranged with _ | _
          · have HD : Hid (dfE x = 9) := Lib.hid (by unfold dfE; rw [if_neg (by omega), he, hr]; rfl)
            have HB9 := Lib.hid (HBAD.out (by rw [HD.out]; decide))
            go_wp2_with (first | ((with_reducible apply wl_loadM midBox rb); (· rfl); (· (first | exact wanted_none rfl | exact wanted_some rfl rfl rfl)); (· rfl)) | ((with_reducible apply wl_loadM midBox (n.ext.range rb)); (· rfl); (· (first | exact wanted_none rfl | exact wanted_some rfl rfl rfl)); (· rfl)) | (go_at_call 66; refine (rEmpty_any x.b _).mono ?_; rintro e w' ⟨rfl, n, rfl⟩) | (go_at_call 70; refine (rRanged_any x.b _).mono ?_; rintro e w' ⟨rfl, n, rfl⟩))
            go_ret
            exact ⟨ret_int (by rw [HE.out, HLA.out, HB9.out, HD.out]), by exact ExtOf.of (by repeat' (first | (with_reducible exact Ext.refl _) | (with_reducible exact ExtOf.ext _) | (with_reducible refine Ext.trans ?_ (ExtOf.ext _)) | (with_reducible refine Ext.alloc ?_ _) | (with_reducible refine Ext.drew ?_) | (with_reducible refine Ext.setCell ?_ ?_ _) | (with_reducible refine Ext.setRow ?_ ?_ _) | (with_reducible exact HX.out) | (with_reducible refine Ext.trans ?_ HX.out) | (with_reducible refine Ext.below ?_ (Nat.le_refl _) _) | omega | (simp; done) | (simp; omega)))⟩
          · have HD : Hid (dfE x = 0) := Lib.hid (by unfold dfE; rw [if_neg (by omega), he, hr]; rfl)
            have HNX : Hid (dfsAt l k = dfsAt l (k + 1)) := Lib.hid (dfsAt_next hlt (by rw [← HXE.out]; exact HD.out))
            go_wp2_with (first | ((with_reducible apply wl_loadM midBox rb); (· rfl); (· (first | exact wanted_none rfl | exact wanted_some rfl rfl rfl)); (· rfl)) | ((with_reducible apply wl_loadM midBox (n.ext.range rb)); (· rfl); (· (first | exact wanted_none rfl | exact wanted_some rfl rfl rfl)); (· rfl)) | (go_at_call 66; refine (rEmpty_any x.b _).mono ?_; rintro e w' ⟨rfl, n, rfl⟩) | (go_at_call 70; refine (rRanged_any x.b _).mono ?_; rintro e w' ⟨rfl, n, rfl⟩))
            go_roundw
            case rel => exact ⟨k + 1, by omega, by first | rfl | go_num, by repeat' (first | (with_reducible exact Ext.refl _) | (with_reducible exact ExtOf.ext _) | (with_reducible refine Ext.trans ?_ (ExtOf.ext _)) | (with_reducible refine Ext.alloc ?_ _) | (with_reducible refine Ext.drew ?_) | (with_reducible refine Ext.setCell ?_ ?_ _) | (with_reducible refine Ext.setRow ?_ ?_ _) | (with_reducible exact HX.out) | (with_reducible refine Ext.trans ?_ HX.out) | (with_reducible refine Ext.below ?_ (Nat.le_refl _) _) | omega | (simp; done) | (simp; omega)), HLA.out.trans HNX.out⟩
            case measure => simp [intOf]; omega
        · have HD : Hid (dfE x = 19) := Lib.hid (by unfold dfE; rw [if_neg (by omega), he]; rfl)
          have HB9 := Lib.hid (HBAD.out (by rw [HD.out]; decide))
          go_wp2_with (first | ((with_reducible apply wl_loadM midBox rb); (· rfl); (· (first | exact wanted_none rfl | exact wanted_some rfl rfl rfl)); (· rfl)) | ((with_reducible apply wl_loadM midBox (n.ext.range rb)); (· rfl); (· (first | exact wanted_none rfl | exact wanted_some rfl rfl rfl)); (· rfl)) | (go_at_call 66; refine (rEmpty_any x.b _).mono ?_; rintro e w' ⟨rfl, n, rfl⟩) | (go_at_call 70; refine (rRanged_any x.b _).mono ?_; rintro e w' ⟨rfl, n, rfl⟩))
          go_ret
          exact ⟨ret_int (by rw [HE.out, HLA.out, HB9.out, HD.out]), by exact ExtOf.of (by repeat' (first | (with_reducible exact Ext.refl _) | (with_reducible exact ExtOf.ext _) | (with_reducible refine Ext.trans ?_ (ExtOf.ext _)) | (with_reducible refine Ext.alloc ?_ _) | (with_reducible refine Ext.drew ?_) | (with_reducible refine Ext.setCell ?_ ?_ _) | (with_reducible refine Ext.setRow ?_ ?_ _) | (with_reducible exact HX.out) | (with_reducible refine Ext.trans ?_ HX.out) | (with_reducible refine Ext.below ?_ (Nat.le_refl _) _) | omega | (simp; done) | (simp; omega)))⟩
      · have HL0 : Hid (dfsAt l k = 0) := Lib.hid (dfsAt_end l (by omega))
        go_wp2_with fail
        go_ret
        exact ⟨ret_int (by rw [HE.out, HLA.out, HL0.out]), by exact ExtOf.of (by repeat' (first | (with_reducible exact Ext.refl _) | (with_reducible exact ExtOf.ext _) | (with_reducible refine Ext.trans ?_ (ExtOf.ext _)) | (with_reducible refine Ext.alloc ?_ _) | (with_reducible refine Ext.drew ?_) | (with_reducible refine Ext.setCell ?_ ?_ _) | (with_reducible refine Ext.setRow ?_ ?_ _) | (with_reducible exact HX.out) | (with_reducible refine Ext.trans ?_ HX.out) | (with_reducible refine Ext.below ?_ (Nat.le_refl _) _) | omega | (simp; done) | (simp; omega)))⟩
end Go.Proofs.YtdalbfanfbeckaaGreatDoor
end
