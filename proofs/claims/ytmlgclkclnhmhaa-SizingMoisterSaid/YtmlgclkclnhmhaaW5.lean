/-
  The contracts of the functions that the statements about sizing reach (5).
-/
import Derived.Test.YtmlgclkclnhmhaaW4
namespace Go.Proofs.Ytmlgclkclnhmhaa
open Go.RowKit

attribute [local go_sem] ExtOf.cell ExtOf.frozen

def isz (n : Int) : Bool := decide (1 ≤ n ∧ n ≤ 600)
def grw (n a : Int) : Int := (n * (1000 + a) + 999) / 1000
def szd (th wi : Int) : Bool := decide (1 ≤ th ∧ th ≤ 600 ∧ 1 ≤ wi ∧ wi ≤ 600)
def okG (th wi al : Int) : Bool := decide (1 ≤ th ∧ th ≤ 600 ∧ 1 ≤ wi ∧ wi ≤ 600 ∧ 0 ≤ al ∧ al ≤ 200)
def grT (th wi al : Int) : Int := if okG th wi al = true then grw th al else 0
def grW (th wi al : Int) : Int := if okG th wi al = true then grw wi al else 0

set_option maxHeartbeats 400000 in
theorem issize_any (n : Int) (w : World) :
    Calls Try.prog 32 #[.int .i64 n] w fun e w' => e = .returned (.bool (isz n)) ∧ ∃ n : ExtOf w, w' = n.val := by
  go_enter Try.func32, Try.ntmps32
  go_wp2
  all_goals
    go_ret
    refine ⟨ret_bool ?_, ?_⟩
    · simp [isz, *]; try omega
    · exact ExtOf.of (by repeat' (first | (with_reducible exact Ext.refl _) | (with_reducible exact ExtOf.ext _) | (with_reducible refine Ext.trans ?_ (ExtOf.ext _)) | (with_reducible refine Ext.alloc ?_ _) | (with_reducible refine Ext.drew ?_) | (with_reducible refine Ext.setCell ?_ ?_ _) | (with_reducible refine Ext.setRow ?_ ?_ _) | (simp; done) | (simp; omega)))

set_option maxHeartbeats 400000 in
theorem rsized_any (pn pw pl pp : Value) (th wi al : Int) (w : World) :
    Calls Try.prog 43 #[.agg #[pn, .int .i64 th, .int .i64 wi, .int .i64 al, pw, pl, pp]] w fun e w' => e = .returned (.bool (szd th wi)) ∧ ∃ n : ExtOf w, w' = n.val := by
  go_enter Try.func43, Try.ntmps43
  go_wp2
  all_goals
    go_ret
    refine ⟨ret_bool ?_, ?_⟩
    · simp [szd, *]; try omega
    · exact ExtOf.of (by repeat' (first | (with_reducible exact Ext.refl _) | (with_reducible exact ExtOf.ext _) | (with_reducible refine Ext.trans ?_ (ExtOf.ext _)) | (with_reducible refine Ext.alloc ?_ _) | (with_reducible refine Ext.drew ?_) | (with_reducible refine Ext.setCell ?_ ?_ _) | (with_reducible refine Ext.setRow ?_ ?_ _) | (simp; done) | (simp; omega)))

theorem grw_nn (n a : Int) (h1 : 1 ≤ n) (h2 : n ≤ 600) (h3 : 0 ≤ a) (h4 : a ≤ 200) : 0 ≤ n * (1000 + a) ∧ n * (1000 + a) ≤ 720000 := by
  have e1 : 0 ≤ n * (1000 + a) := Int.mul_nonneg (by omega) (by omega)
  have e2 : n * (1000 + a) ≤ 600 * 1200 := Int.mul_le_mul h2 (by omega) (by omega) (by omega)
  omega

set_option maxHeartbeats 400000 in
theorem grow_any (n a : Int) (w : World) (h1 : 1 ≤ n) (h2 : n ≤ 600) (h3 : 0 ≤ a) (h4 : a ≤ 200) :
    Calls Try.prog 33 #[.int .i64 n, .int .i64 a] w fun e w' => e = .returned (.int .i64 (grw n a)) ∧ ∃ n : ExtOf w, w' = n.val := by
  obtain ⟨g1, g2⟩ := grw_nn n a h1 h2 h3 h4
  go_enter Try.func33, Try.ntmps33
  go_wp2
  go_ret
  refine ⟨rfl, ?_⟩
  exact ExtOf.of (by repeat' (first | (with_reducible exact Ext.refl _) | (with_reducible exact ExtOf.ext _) | (with_reducible refine Ext.trans ?_ (ExtOf.ext _)) | (with_reducible refine Ext.alloc ?_ _) | (with_reducible refine Ext.drew ?_) | (with_reducible refine Ext.setCell ?_ ?_ _) | (with_reducible refine Ext.setRow ?_ ?_ _) | (simp; done) | (simp; omega)))

set_option maxHeartbeats 800000 in
theorem green_any (pn pw pl pp : Value) (th wi al : Int) (w : World) :
    Calls Try.prog 20 #[.agg #[pn, .int .i64 th, .int .i64 wi, .int .i64 al, pw, pl, pp]] w fun e w' => e = .returned (.tuple #[.int .i64 (grT th wi al), .int .i64 (grW th wi al)]) ∧ ∃ n : ExtOf w, w' = n.val := by
  by_cases h : okG th wi al = true
  · have hz : 1 ≤ th ∧ th ≤ 600 ∧ 1 ≤ wi ∧ wi ≤ 600 ∧ 0 ≤ al ∧ al ≤ 200 := by simpa [okG] using h
    have eT : grT th wi al = grw th al := by simp [grT, h]
    have eW : grW th wi al = grw wi al := by simp [grW, h]
    obtain ⟨z1, z2, z3, z4, z5, z6⟩ := hz
    have i1 : isz th = true := by simp [isz]; omega
    have i2 : isz wi = true := by simp [isz]; omega
    rw [eT, eW]; clear eT eW h
    go_enter Try.func20, Try.ntmps20
    go_wp2_with (first | (go_at_call 32; refine (issize_any _ _).mono ?_; rintro e w' ⟨rfl, n, rfl⟩))
    refine wp_region_ext (by kernel_rfl) (by kernel_rfl) ?_
    repeat (first | go_big_quiet_skip | ((with_reducible apply q_load' lwB); (· (first | exact wanted_none rfl | exact wanted_some rfl rfl rfl)); (· rfl); (· infer_instance); (· rfl); simp only [Act.put, List.setIfInBounds_toArray, List.set_cons_succ, List.set_cons_zero]) | ((with_reducible apply q_load' lwP); (· (first | exact wanted_none rfl | exact wanted_some rfl rfl rfl)); (· rfl); (· infer_instance); (· rfl); simp only [Act.put, List.setIfInBounds_toArray, List.set_cons_succ, List.set_cons_zero]) | ((with_reducible apply q_load' lwS); (· (first | exact wanted_none rfl | exact wanted_some rfl rfl rfl)); (· rfl); (· infer_instance); (· rfl); simp only [Act.put, List.setIfInBounds_toArray, List.set_cons_succ, List.set_cons_zero]) | go_big_quiet_step ((go_at_call 33; exact ext_call (grow_any _ _ _ (by omega) (by omega) (by omega) (by omega)))))
    refine wpQuiet_nil ?_
    intro _ hw'
    obtain ⟨nq, hw''⟩ := hw'
    subst hw''
    go_wp2
    go_ret2
    refine ⟨ret_two rfl rfl, ?_⟩
    exact ExtOf.of (by repeat' (first | (with_reducible exact Ext.refl _) | (with_reducible exact ExtOf.ext _) | (with_reducible refine Ext.trans ?_ (ExtOf.ext _)) | (with_reducible refine Ext.alloc ?_ _) | (with_reducible refine Ext.drew ?_) | (with_reducible refine Ext.setCell ?_ ?_ _) | (with_reducible refine Ext.setRow ?_ ?_ _) | (simp; done) | (simp; omega)))
  · have eT : grT th wi al = 0 := by simp [grT, h]
    have eW : grW th wi al = 0 := by simp [grW, h]
    rw [eT, eW]; clear eT eW
    have h' : ¬ (1 ≤ th ∧ th ≤ 600 ∧ 1 ≤ wi ∧ wi ≤ 600 ∧ 0 ≤ al ∧ al ≤ 200) := by simpa [okG] using h
    clear h
    rcases hi : isz th with _ | _
    · go_enter Try.func20, Try.ntmps20
      go_wp2_with (first | (go_at_call 32; refine (issize_any _ _).mono ?_; rintro e w' ⟨rfl, n, rfl⟩))
      go_ret2
      refine ⟨ret_two rfl rfl, ?_⟩
      exact ExtOf.of (by repeat' (first | (with_reducible exact Ext.refl _) | (with_reducible exact ExtOf.ext _) | (with_reducible refine Ext.trans ?_ (ExtOf.ext _)) | (with_reducible refine Ext.alloc ?_ _) | (with_reducible refine Ext.drew ?_) | (with_reducible refine Ext.setCell ?_ ?_ _) | (with_reducible refine Ext.setRow ?_ ?_ _) | (simp; done) | (simp; omega)))
    · rcases hj : isz wi with _ | _
      · go_enter Try.func20, Try.ntmps20
        go_wp2_with (first | (go_at_call 32; refine (issize_any _ _).mono ?_; rintro e w' ⟨rfl, n, rfl⟩))
        go_ret2
        refine ⟨ret_two rfl rfl, ?_⟩
        exact ExtOf.of (by repeat' (first | (with_reducible exact Ext.refl _) | (with_reducible exact ExtOf.ext _) | (with_reducible refine Ext.trans ?_ (ExtOf.ext _)) | (with_reducible refine Ext.alloc ?_ _) | (with_reducible refine Ext.drew ?_) | (with_reducible refine Ext.setCell ?_ ?_ _) | (with_reducible refine Ext.setRow ?_ ?_ _) | (simp; done) | (simp; omega)))
      · have hz : al < 0 ∨ 200 < al := by simp [isz] at hi hj; omega
        clear h'
        rcases hz with hz | hz
        · go_enter Try.func20, Try.ntmps20
          go_wp2_with (first | (go_at_call 32; refine (issize_any _ _).mono ?_; rintro e w' ⟨rfl, n, rfl⟩))
          go_ret2
          refine ⟨ret_two rfl rfl, ?_⟩
          exact ExtOf.of (by repeat' (first | (with_reducible exact Ext.refl _) | (with_reducible exact ExtOf.ext _) | (with_reducible refine Ext.trans ?_ (ExtOf.ext _)) | (with_reducible refine Ext.alloc ?_ _) | (with_reducible refine Ext.drew ?_) | (with_reducible refine Ext.setCell ?_ ?_ _) | (with_reducible refine Ext.setRow ?_ ?_ _) | (simp; done) | (simp; omega)))
        · have hz' : decide (al < 0) = false := by simp; omega
          go_enter Try.func20, Try.ntmps20
          go_wp2_with (first | (go_at_call 32; refine (issize_any _ _).mono ?_; rintro e w' ⟨rfl, n, rfl⟩))
          go_ret2
          refine ⟨ret_two rfl rfl, ?_⟩
          exact ExtOf.of (by repeat' (first | (with_reducible exact Ext.refl _) | (with_reducible exact ExtOf.ext _) | (with_reducible refine Ext.trans ?_ (ExtOf.ext _)) | (with_reducible refine Ext.alloc ?_ _) | (with_reducible refine Ext.drew ?_) | (with_reducible refine Ext.setCell ?_ ?_ _) | (with_reducible refine Ext.setRow ?_ ?_ _) | (simp; done) | (simp; omega)))

set_option maxHeartbeats 800000 in
theorem rgreen_any (pn pw pl pp : Value) (th wi al : Int) (w : World) :
    Calls Try.prog 31 #[.agg #[pn, .int .i64 th, .int .i64 wi, .int .i64 al, pw, pl, pp]] w fun e w' => e = .returned (.tuple #[.int .i64 (grT th wi al), .int .i64 (grW th wi al)]) ∧ ∃ n : ExtOf w, w' = n.val := by
  by_cases h : okG th wi al = true
  · have hz : 1 ≤ th ∧ th ≤ 600 ∧ 1 ≤ wi ∧ wi ≤ 600 ∧ 0 ≤ al ∧ al ≤ 200 := by simpa [okG] using h
    have eT : grT th wi al = grw th al := by simp [grT, h]
    have eW : grW th wi al = grw wi al := by simp [grW, h]
    obtain ⟨z1, z2, z3, z4, z5, z6⟩ := hz
    have i1 : szd th wi = true := by simp [szd]; omega
    obtain ⟨g1, g2⟩ := grw_nn th al z1 z2 z5 z6
    obtain ⟨g3, g4⟩ := grw_nn wi al z3 z4 z5 z6
    rw [eT, eW]; clear eT eW h
    go_enter Try.func31, Try.ntmps31
    go_wp2_with (first | ((with_reducible apply wl_load' lwP); (· (first | exact wanted_none rfl | exact wanted_some rfl rfl rfl)); (· rfl); (· infer_instance); (· rfl)) | (go_at_call 43; refine (rsized_any _ _ _ _ _ _ _ _).mono ?_; rintro e w' ⟨rfl, n, rfl⟩))
    refine wp_region_ext (by kernel_rfl) (by kernel_rfl) ?_
    repeat (first | go_big_quiet_skip | ((with_reducible apply q_load' lwB); (· (first | exact wanted_none rfl | exact wanted_some rfl rfl rfl)); (· rfl); (· infer_instance); (· rfl); simp only [Act.put, List.setIfInBounds_toArray, List.set_cons_succ, List.set_cons_zero]) | ((with_reducible apply q_load' lwP); (· (first | exact wanted_none rfl | exact wanted_some rfl rfl rfl)); (· rfl); (· infer_instance); (· rfl); simp only [Act.put, List.setIfInBounds_toArray, List.set_cons_succ, List.set_cons_zero]) | ((with_reducible apply q_load' lwS); (· (first | exact wanted_none rfl | exact wanted_some rfl rfl rfl)); (· rfl); (· infer_instance); (· rfl); simp only [Act.put, List.setIfInBounds_toArray, List.set_cons_succ, List.set_cons_zero]) | go_big_quiet_step (fail))
    refine wpQuiet_nil ?_
    intro _ hw'
    obtain ⟨nq, hw''⟩ := hw'
    subst hw''
    go_wp2
    go_ret2
    refine ⟨ret_two rfl rfl, ?_⟩
    exact ExtOf.of (by repeat' (first | (with_reducible exact Ext.refl _) | (with_reducible exact ExtOf.ext _) | (with_reducible refine Ext.trans ?_ (ExtOf.ext _)) | (with_reducible refine Ext.alloc ?_ _) | (with_reducible refine Ext.drew ?_) | (with_reducible refine Ext.setCell ?_ ?_ _) | (with_reducible refine Ext.setRow ?_ ?_ _) | (simp; done) | (simp; omega)))
  · have eT : grT th wi al = 0 := by simp [grT, h]
    have eW : grW th wi al = 0 := by simp [grW, h]
    rw [eT, eW]; clear eT eW
    have h' : ¬ (1 ≤ th ∧ th ≤ 600 ∧ 1 ≤ wi ∧ wi ≤ 600 ∧ 0 ≤ al ∧ al ≤ 200) := by simpa [okG] using h
    clear h
    rcases hi : szd th wi with _ | _
    · go_enter Try.func31, Try.ntmps31
      go_wp2_with (first | ((with_reducible apply wl_load' lwP); (· (first | exact wanted_none rfl | exact wanted_some rfl rfl rfl)); (· rfl); (· infer_instance); (· rfl)) | (go_at_call 43; refine (rsized_any _ _ _ _ _ _ _ _).mono ?_; rintro e w' ⟨rfl, n, rfl⟩))
      go_ret2
      refine ⟨ret_two rfl rfl, ?_⟩
      exact ExtOf.of (by repeat' (first | (with_reducible exact Ext.refl _) | (with_reducible exact ExtOf.ext _) | (with_reducible refine Ext.trans ?_ (ExtOf.ext _)) | (with_reducible refine Ext.alloc ?_ _) | (with_reducible refine Ext.drew ?_) | (with_reducible refine Ext.setCell ?_ ?_ _) | (with_reducible refine Ext.setRow ?_ ?_ _) | (simp; done) | (simp; omega)))
    · have hz : al < 0 ∨ 200 < al := by simp [szd] at hi; omega
      clear h'
      rcases hz with hz | hz
      · go_enter Try.func31, Try.ntmps31
        go_wp2_with (first | ((with_reducible apply wl_load' lwP); (· (first | exact wanted_none rfl | exact wanted_some rfl rfl rfl)); (· rfl); (· infer_instance); (· rfl)) | (go_at_call 43; refine (rsized_any _ _ _ _ _ _ _ _).mono ?_; rintro e w' ⟨rfl, n, rfl⟩))
        go_ret2
        refine ⟨ret_two rfl rfl, ?_⟩
        exact ExtOf.of (by repeat' (first | (with_reducible exact Ext.refl _) | (with_reducible exact ExtOf.ext _) | (with_reducible refine Ext.trans ?_ (ExtOf.ext _)) | (with_reducible refine Ext.alloc ?_ _) | (with_reducible refine Ext.drew ?_) | (with_reducible refine Ext.setCell ?_ ?_ _) | (with_reducible refine Ext.setRow ?_ ?_ _) | (simp; done) | (simp; omega)))
      · have hz' : decide (al < 0) = false := by simp; omega
        go_enter Try.func31, Try.ntmps31
        go_wp2_with (first | ((with_reducible apply wl_load' lwP); (· (first | exact wanted_none rfl | exact wanted_some rfl rfl rfl)); (· rfl); (· infer_instance); (· rfl)) | (go_at_call 43; refine (rsized_any _ _ _ _ _ _ _ _).mono ?_; rintro e w' ⟨rfl, n, rfl⟩))
        go_ret2
        refine ⟨ret_two rfl rfl, ?_⟩
        exact ExtOf.of (by repeat' (first | (with_reducible exact Ext.refl _) | (with_reducible exact ExtOf.ext _) | (with_reducible refine Ext.trans ?_ (ExtOf.ext _)) | (with_reducible refine Ext.alloc ?_ _) | (with_reducible refine Ext.drew ?_) | (with_reducible refine Ext.setCell ?_ ?_ _) | (with_reducible refine Ext.setRow ?_ ?_ _) | (simp; done) | (simp; omega)))

end Go.Proofs.Ytmlgclkclnhmhaa
