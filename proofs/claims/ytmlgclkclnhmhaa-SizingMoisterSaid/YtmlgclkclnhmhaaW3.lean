/-
  The contracts of the functions that the statements about sizing reach (3).
-/
import Derived.Test.YtmlgclkclnhmhaaW2
namespace Go.Proofs.Ytmlgclkclnhmhaa
open Go.RowKit

attribute [local go_sem] ExtOf.cell ExtOf.frozen

def szT (xa xb ya yb : Int) : Int := if acr xa xb = true ∧ acr ya yb = true then min (xb - xa) (yb - ya) else 0
def szW (xa xb ya yb : Int) : Int := if acr xa xb = true ∧ acr ya yb = true then max (xb - xa) (yb - ya) else 0

set_option maxHeartbeats 800000 in
theorem rsizes_any (xa xb ya yb za zb : Int) (w : World) :
    Calls Try.prog 25 #[.agg #[.int .i64 xa, .int .i64 xb, .int .i64 ya, .int .i64 yb, .int .i64 za, .int .i64 zb]] w fun e w' => e = .returned (.tuple #[.int .i64 (szT xa xb ya yb), .int .i64 (szW xa xb ya yb)]) ∧ ∃ n : ExtOf w, w' = n.val := by
  by_cases hx : acr xa xb = true
  · by_cases hy : acr ya yb = true
    · obtain ⟨x1, x2, x3⟩ := acr_true hx
      obtain ⟨y1, y2, y3⟩ := acr_true hy
      have eT : szT xa xb ya yb = min (xb - xa) (yb - ya) := by simp [szT, hx, hy]
      have eW : szW xa xb ya yb = max (xb - xa) (yb - ya) := by simp [szW, hx, hy]
      rw [eT, eW]; clear eT eW
      go_enter Try.func25, Try.ntmps25
      go_wp2_with (first | (go_at_call 37; refine (rplaced_any _ _ _).mono ?_; rintro e w' ⟨rfl, n, rfl⟩))
      refine wp_region_ext (by kernel_rfl) (by kernel_rfl) ?_
      repeat (first | go_big_quiet_skip | ((with_reducible apply q_load' lwB); (· (first | exact wanted_none rfl | exact wanted_some rfl rfl rfl)); (· rfl); (· infer_instance); (· rfl); simp only [Act.put, List.setIfInBounds_toArray, List.set_cons_succ, List.set_cons_zero]) | ((with_reducible apply q_load' lwP); (· (first | exact wanted_none rfl | exact wanted_some rfl rfl rfl)); (· rfl); (· infer_instance); (· rfl); simp only [Act.put, List.setIfInBounds_toArray, List.set_cons_succ, List.set_cons_zero]) | ((with_reducible apply q_load' lwS); (· (first | exact wanted_none rfl | exact wanted_some rfl rfl rfl)); (· rfl); (· infer_instance); (· rfl); simp only [Act.put, List.setIfInBounds_toArray, List.set_cons_succ, List.set_cons_zero]) | go_big_quiet_step (fail))
      refine wpQuiet_nil ?_
      intro _ hw'
      obtain ⟨nq, hw''⟩ := hw'
      subst hw''
      go_wp2
      all_goals
        go_ret2
        refine ⟨ret_two ?_ ?_, ?_⟩
        · omega
        · omega
        · exact ExtOf.of (by repeat' (first | (with_reducible exact Ext.refl _) | (with_reducible exact ExtOf.ext _) | (with_reducible refine Ext.trans ?_ (ExtOf.ext _)) | (with_reducible refine Ext.alloc ?_ _) | (with_reducible refine Ext.drew ?_) | (with_reducible refine Ext.setCell ?_ ?_ _) | (with_reducible refine Ext.setRow ?_ ?_ _) | (simp; done) | (simp; omega)))
    · have hyf : acr ya yb = false := by simpa using hy
      have eT : szT xa xb ya yb = 0 := by simp [szT, hyf]
      have eW : szW xa xb ya yb = 0 := by simp [szW, hyf]
      rw [eT, eW]; clear eT eW hy
      go_enter Try.func25, Try.ntmps25
      go_wp2_with (first | (go_at_call 37; refine (rplaced_any _ _ _).mono ?_; rintro e w' ⟨rfl, n, rfl⟩))
      go_ret2
      refine ⟨ret_two rfl rfl, ?_⟩
      exact ExtOf.of (by repeat' (first | (with_reducible exact Ext.refl _) | (with_reducible exact ExtOf.ext _) | (with_reducible refine Ext.trans ?_ (ExtOf.ext _)) | (with_reducible refine Ext.alloc ?_ _) | (with_reducible refine Ext.drew ?_) | (with_reducible refine Ext.setCell ?_ ?_ _) | (with_reducible refine Ext.setRow ?_ ?_ _) | (simp; done) | (simp; omega)))
  · have hxf : acr xa xb = false := by simpa using hx
    have eT : szT xa xb ya yb = 0 := by simp [szT, hxf]
    have eW : szW xa xb ya yb = 0 := by simp [szW, hxf]
    rw [eT, eW]; clear eT eW hx
    go_enter Try.func25, Try.ntmps25
    go_wp2_with (first | (go_at_call 37; refine (rplaced_any _ _ _).mono ?_; rintro e w' ⟨rfl, n, rfl⟩))
    go_ret2
    refine ⟨ret_two rfl rfl, ?_⟩
    exact ExtOf.of (by repeat' (first | (with_reducible exact Ext.refl _) | (with_reducible exact ExtOf.ext _) | (with_reducible refine Ext.trans ?_ (ExtOf.ext _)) | (with_reducible refine Ext.alloc ?_ _) | (with_reducible refine Ext.drew ?_) | (with_reducible refine Ext.setCell ?_ ?_ _) | (with_reducible refine Ext.setRow ?_ ?_ _) | (simp; done) | (simp; omega)))

set_option maxHeartbeats 800000 in
theorem rdried_any (id lg sp pr vo df wa dr gr : Value) (xa xb ya yb za zb su co st : Int) (s0 s1 s2 s3 s4 s5 s6 s7 s8 s9 s10 s11 : Value) (sh : Int) (w : World) :
    Calls Try.prog 10 #[.agg #[id, lg, sp, pr, .int .i64 xa, .int .i64 xb, .int .i64 ya, .int .i64 yb, .int .i64 za, .int .i64 zb, vo, df, wa, .int .i64 su, .int .i64 co, .int .i64 st, dr, gr], .agg #[s0, s1, s2, s3, s4, s5, s6, s7, s8, s9, s10, s11, .int .i64 sh]] w fun e w' => e = .returned (.tuple #[.int .i64 (dT xa xb ya yb su co st sh), .int .i64 (dW xa xb ya yb su co st sh)]) ∧ ∃ n : ExtOf w, w' = n.val := by
  by_cases hxy : acr xa xb = true ∧ acr ya yb = true
  · obtain ⟨x1, x2, x3⟩ := acr_true hxy.1
    obtain ⟨y1, y2, y3⟩ := acr_true hxy.2
    have eT : dT xa xb ya yb su co st sh = shr sh (szT xa xb ya yb) (mean su co st) := by simp [dT, szT, hxy]
    have eW : dW xa xb ya yb su co st sh = shr sh (szW xa xb ya yb) (mean su co st) := by simp [dW, szW, hxy]
    have hne : (szT xa xb ya yb == 0) = false := by simp [szT, hxy]; omega
    rw [eT, eW]; clear eT eW hxy
    go_enter Try.func10, Try.ntmps10
    go_wp2_with (first | (go_at_call 25; refine (rsizes_any _ _ _ _ _ _ _).mono ?_; rintro e w' ⟨rfl, n, rfl⟩) | (go_at_call 26; refine (rmean_any _ _ _ _).mono ?_; rintro e w' ⟨rfl, n, rfl⟩))
    refine wp_region_ext (by kernel_rfl) (by kernel_rfl) ?_
    repeat (first | go_big_quiet_skip | ((with_reducible apply q_load' lwB); (· (first | exact wanted_none rfl | exact wanted_some rfl rfl rfl)); (· rfl); (· infer_instance); (· rfl); simp only [Act.put, List.setIfInBounds_toArray, List.set_cons_succ, List.set_cons_zero]) | ((with_reducible apply q_load' lwP); (· (first | exact wanted_none rfl | exact wanted_some rfl rfl rfl)); (· rfl); (· infer_instance); (· rfl); simp only [Act.put, List.setIfInBounds_toArray, List.set_cons_succ, List.set_cons_zero]) | ((with_reducible apply q_load' lwS); (· (first | exact wanted_none rfl | exact wanted_some rfl rfl rfl)); (· rfl); (· infer_instance); (· rfl); simp only [Act.put, List.setIfInBounds_toArray, List.set_cons_succ, List.set_cons_zero]) | go_big_quiet_step ((go_at_call 27; exact ext_call (rshrunk_any _ _ _ _ _ _ _ _ _ _ _ _ _ _ _ _))))
    refine wpQuiet_nil ?_
    intro _ hw'
    obtain ⟨nq, hw''⟩ := hw'
    subst hw''
    go_wp2
    go_ret2
    refine ⟨ret_two rfl rfl, ?_⟩
    exact ExtOf.of (by repeat' (first | (with_reducible exact Ext.refl _) | (with_reducible exact ExtOf.ext _) | (with_reducible refine Ext.trans ?_ (ExtOf.ext _)) | (with_reducible refine Ext.alloc ?_ _) | (with_reducible refine Ext.drew ?_) | (with_reducible refine Ext.setCell ?_ ?_ _) | (with_reducible refine Ext.setRow ?_ ?_ _) | (simp; done) | (simp; omega)))
  · have eT : dT xa xb ya yb su co st sh = 0 := if_neg hxy
    have eW : dW xa xb ya yb su co st sh = 0 := if_neg hxy
    have hne : (szT xa xb ya yb == 0) = true := by simp [szT, hxy]
    rw [eT, eW]; clear eT eW hxy
    go_enter Try.func10, Try.ntmps10
    go_wp2_with (first | (go_at_call 25; refine (rsizes_any _ _ _ _ _ _ _).mono ?_; rintro e w' ⟨rfl, n, rfl⟩) | (go_at_call 26; refine (rmean_any _ _ _ _).mono ?_; rintro e w' ⟨rfl, n, rfl⟩))
    go_ret2
    refine ⟨ret_two rfl rfl, ?_⟩
    exact ExtOf.of (by repeat' (first | (with_reducible exact Ext.refl _) | (with_reducible exact ExtOf.ext _) | (with_reducible refine Ext.trans ?_ (ExtOf.ext _)) | (with_reducible refine Ext.alloc ?_ _) | (with_reducible refine Ext.drew ?_) | (with_reducible refine Ext.setCell ?_ ?_ _) | (with_reducible refine Ext.setRow ?_ ?_ _) | (simp; done) | (simp; omega)))

def und (t w th wi : Int) : Bool := decide (t < th ∨ w < wi)

set_option maxHeartbeats 800000 in
theorem under_any (id lg sp pr vo df wa dr gr : Value) (xa xb ya yb za zb su co st : Int) (pn pw pl pp : Value) (th wi al : Int) (s0 s1 s2 s3 s4 s5 s6 s7 s8 s9 s10 s11 : Value) (sh : Int) (w : World) :
    Calls Try.prog 11 #[.agg #[id, lg, sp, pr, .int .i64 xa, .int .i64 xb, .int .i64 ya, .int .i64 yb, .int .i64 za, .int .i64 zb, vo, df, wa, .int .i64 su, .int .i64 co, .int .i64 st, dr, gr], .agg #[pn, .int .i64 th, .int .i64 wi, .int .i64 al, pw, pl, pp], .agg #[s0, s1, s2, s3, s4, s5, s6, s7, s8, s9, s10, s11, .int .i64 sh]] w fun e w' => e = .returned (.bool (und (dT xa xb ya yb su co st sh) (dW xa xb ya yb su co st sh) th wi)) ∧ ∃ n : ExtOf w, w' = n.val := by
  go_enter Try.func11, Try.ntmps11
  go_wp2_with (first | ((with_reducible apply wl_load' lwB); (· (first | exact wanted_none rfl | exact wanted_some rfl rfl rfl)); (· rfl); (· infer_instance); (· rfl)) | ((with_reducible apply wl_load' lwP); (· (first | exact wanted_none rfl | exact wanted_some rfl rfl rfl)); (· rfl); (· infer_instance); (· rfl)) | ((with_reducible apply wl_load' lwS); (· (first | exact wanted_none rfl | exact wanted_some rfl rfl rfl)); (· rfl); (· infer_instance); (· rfl)) | (go_at_call 9; refine (dried_any _ _ _ _ _ _ _ _ _ _ _ _ _ _ _ _ _ _ _ _ _ _ _ _ _ _ _ _ _ _ _ _).mono ?_; rintro e w' ⟨rfl, n, rfl⟩))
  all_goals
    go_ret
    refine ⟨ret_bool ?_, ?_⟩
    · simp [und, *]; try omega
    · exact ExtOf.of (by repeat' (first | (with_reducible exact Ext.refl _) | (with_reducible exact ExtOf.ext _) | (with_reducible refine Ext.trans ?_ (ExtOf.ext _)) | (with_reducible refine Ext.alloc ?_ _) | (with_reducible refine Ext.drew ?_) | (with_reducible refine Ext.setCell ?_ ?_ _) | (with_reducible refine Ext.setRow ?_ ?_ _) | (simp; done) | (simp; omega)))

set_option maxHeartbeats 800000 in
theorem runder_any (id lg sp pr vo df wa dr gr : Value) (xa xb ya yb za zb su co st : Int) (pn pw pl pp : Value) (th wi al : Int) (s0 s1 s2 s3 s4 s5 s6 s7 s8 s9 s10 s11 : Value) (sh : Int) (w : World) :
    Calls Try.prog 12 #[.agg #[id, lg, sp, pr, .int .i64 xa, .int .i64 xb, .int .i64 ya, .int .i64 yb, .int .i64 za, .int .i64 zb, vo, df, wa, .int .i64 su, .int .i64 co, .int .i64 st, dr, gr], .agg #[pn, .int .i64 th, .int .i64 wi, .int .i64 al, pw, pl, pp], .agg #[s0, s1, s2, s3, s4, s5, s6, s7, s8, s9, s10, s11, .int .i64 sh]] w fun e w' => e = .returned (.bool (und (dT xa xb ya yb su co st sh) (dW xa xb ya yb su co st sh) th wi)) ∧ ∃ n : ExtOf w, w' = n.val := by
  go_enter Try.func12, Try.ntmps12
  go_wp2_with (first | ((with_reducible apply wl_load' lwB); (· (first | exact wanted_none rfl | exact wanted_some rfl rfl rfl)); (· rfl); (· infer_instance); (· rfl)) | ((with_reducible apply wl_load' lwP); (· (first | exact wanted_none rfl | exact wanted_some rfl rfl rfl)); (· rfl); (· infer_instance); (· rfl)) | ((with_reducible apply wl_load' lwS); (· (first | exact wanted_none rfl | exact wanted_some rfl rfl rfl)); (· rfl); (· infer_instance); (· rfl)) | (go_at_call 10; refine (rdried_any _ _ _ _ _ _ _ _ _ _ _ _ _ _ _ _ _ _ _ _ _ _ _ _ _ _ _ _ _ _ _ _).mono ?_; rintro e w' ⟨rfl, n, rfl⟩))
  all_goals
    go_ret
    refine ⟨ret_bool ?_, ?_⟩
    · simp [und, *]; try omega
    · exact ExtOf.of (by repeat' (first | (with_reducible exact Ext.refl _) | (with_reducible exact ExtOf.ext _) | (with_reducible refine Ext.trans ?_ (ExtOf.ext _)) | (with_reducible refine Ext.alloc ?_ _) | (with_reducible refine Ext.drew ?_) | (with_reducible refine Ext.setCell ?_ ?_ _) | (with_reducible refine Ext.setRow ?_ ?_ _) | (simp; done) | (simp; omega)))

def alg (a b : Int) : Bool := decide (0 ≤ a ∧ b ≤ 20000 ∧ a < b)
def bln (a b : Int) : Int := if alg a b = true then b - a else 0

set_option maxHeartbeats 800000 in
theorem isalong_any (a b : Int) (w : World) :
    Calls Try.prog 40 #[.agg #[.int .i64 a, .int .i64 b]] w fun e w' => e = .returned (.bool (alg a b)) ∧ ∃ n : ExtOf w, w' = n.val := by
  go_enter Try.func40, Try.ntmps40
  go_wp2
  all_goals
    go_ret
    refine ⟨ret_bool ?_, ?_⟩
    · simp [alg, *]; try omega
    · exact ExtOf.of (by repeat' (first | (with_reducible exact Ext.refl _) | (with_reducible exact ExtOf.ext _) | (with_reducible refine Ext.trans ?_ (ExtOf.ext _)) | (with_reducible refine Ext.alloc ?_ _) | (with_reducible refine Ext.drew ?_) | (with_reducible refine Ext.setCell ?_ ?_ _) | (with_reducible refine Ext.setRow ?_ ?_ _) | (simp; done) | (simp; omega)))

set_option maxHeartbeats 800000 in
theorem blen_any (a b : Int) (w : World) (h1 : -20000 ≤ a) (h2 : a ≤ 20000) (h3 : -20000 ≤ b) (h4 : b ≤ 20000) :
    Calls Try.prog 35 #[.agg #[.int .i64 a, .int .i64 b]] w fun e w' => e = .returned (.int .i64 (b - a)) ∧ ∃ n : ExtOf w, w' = n.val := by
  go_enter Try.func35, Try.ntmps35
  go_wp2
  go_ret
  refine ⟨rfl, ?_⟩
  exact ExtOf.of (by repeat' (first | (with_reducible exact Ext.refl _) | (with_reducible exact ExtOf.ext _) | (with_reducible refine Ext.trans ?_ (ExtOf.ext _)) | (with_reducible refine Ext.alloc ?_ _) | (with_reducible refine Ext.drew ?_) | (with_reducible refine Ext.setCell ?_ ?_ _) | (with_reducible refine Ext.setRow ?_ ?_ _) | (simp; done) | (simp; omega)))

set_option maxHeartbeats 800000 in
theorem rlen_any (a b : Int) (w : World) (h1 : -20000 ≤ a) (h2 : a ≤ 20000) (h3 : -20000 ≤ b) (h4 : b ≤ 20000) :
    Calls Try.prog 42 #[.agg #[.int .i64 a, .int .i64 b]] w fun e w' => e = .returned (.int .i64 (b - a)) ∧ ∃ n : ExtOf w, w' = n.val := by
  go_enter Try.func42, Try.ntmps42
  go_wp2
  go_ret
  refine ⟨rfl, ?_⟩
  exact ExtOf.of (by repeat' (first | (with_reducible exact Ext.refl _) | (with_reducible exact ExtOf.ext _) | (with_reducible refine Ext.trans ?_ (ExtOf.ext _)) | (with_reducible refine Ext.alloc ?_ _) | (with_reducible refine Ext.drew ?_) | (with_reducible refine Ext.setCell ?_ ?_ _) | (with_reducible refine Ext.setRow ?_ ?_ _) | (simp; done) | (simp; omega)))

def wth (a b lo hi : Int) : Bool := decide (lo ≤ a ∧ a ≤ hi ∧ lo ≤ b ∧ b ≤ hi)

set_option maxHeartbeats 800000 in
theorem rwithin_any (a b lo hi : Int) (w : World) :
    Calls Try.prog 41 #[.agg #[.int .i64 a, .int .i64 b], .int .i64 lo, .int .i64 hi] w fun e w' => e = .returned (.bool (wth a b lo hi)) ∧ ∃ n : ExtOf w, w' = n.val := by
  go_enter Try.func41, Try.ntmps41
  go_wp2
  all_goals
    go_ret
    refine ⟨ret_bool ?_, ?_⟩
    · simp [wth, *]; try omega
    · exact ExtOf.of (by repeat' (first | (with_reducible exact Ext.refl _) | (with_reducible exact ExtOf.ext _) | (with_reducible refine Ext.trans ?_ (ExtOf.ext _)) | (with_reducible refine Ext.alloc ?_ _) | (with_reducible refine Ext.drew ?_) | (with_reducible refine Ext.setCell ?_ ?_ _) | (with_reducible refine Ext.setRow ?_ ?_ _) | (simp; done) | (simp; omega)))

set_option maxHeartbeats 800000 in
theorem blength_any (id lg sp pr vo df wa dr gr : Value) (xa xb ya yb za zb su co st : Int) (w : World) :
    Calls Try.prog 28 #[.agg #[id, lg, sp, pr, .int .i64 xa, .int .i64 xb, .int .i64 ya, .int .i64 yb, .int .i64 za, .int .i64 zb, vo, df, wa, .int .i64 su, .int .i64 co, .int .i64 st, dr, gr]] w fun e w' => e = .returned (.int .i64 (bln za zb)) ∧ ∃ n : ExtOf w, w' = n.val := by
  by_cases h : alg za zb = true
  · have e : bln za zb = zb - za := by simp [bln, h]
    have hz : 0 ≤ za ∧ zb ≤ 20000 ∧ za < zb := by simpa [alg] using h
    rw [e]; clear e
    obtain ⟨z1, z2, z3⟩ := hz
    go_enter Try.func28, Try.ntmps28
    go_wp2_with (first | (go_at_call 40; refine (isalong_any _ _ _).mono ?_; rintro e w' ⟨rfl, n, rfl⟩) | (go_at_call 35; refine (blen_any _ _ _ (by omega) (by omega) (by omega) (by omega)).mono ?_; rintro e w' ⟨rfl, n, rfl⟩))
    go_ret
    refine ⟨rfl, ?_⟩
    exact ExtOf.of (by repeat' (first | (with_reducible exact Ext.refl _) | (with_reducible exact ExtOf.ext _) | (with_reducible refine Ext.trans ?_ (ExtOf.ext _)) | (with_reducible refine Ext.alloc ?_ _) | (with_reducible refine Ext.drew ?_) | (with_reducible refine Ext.setCell ?_ ?_ _) | (with_reducible refine Ext.setRow ?_ ?_ _) | (simp; done) | (simp; omega)))
  · have hf : alg za zb = false := by simpa using h
    have e : bln za zb = 0 := by simp [bln, hf]
    rw [e]; clear e h
    go_enter Try.func28, Try.ntmps28
    go_wp2_with (first | (go_at_call 40; refine (isalong_any _ _ _).mono ?_; rintro e w' ⟨rfl, n, rfl⟩))
    go_ret
    refine ⟨rfl, ?_⟩
    exact ExtOf.of (by repeat' (first | (with_reducible exact Ext.refl _) | (with_reducible exact ExtOf.ext _) | (with_reducible refine Ext.trans ?_ (ExtOf.ext _)) | (with_reducible refine Ext.alloc ?_ _) | (with_reducible refine Ext.drew ?_) | (with_reducible refine Ext.setCell ?_ ?_ _) | (with_reducible refine Ext.setRow ?_ ?_ _) | (simp; done) | (simp; omega)))

set_option maxHeartbeats 800000 in
theorem rblength_any (id lg sp pr vo df wa dr gr : Value) (xa xb ya yb za zb su co st : Int) (w : World) :
    Calls Try.prog 29 #[.agg #[id, lg, sp, pr, .int .i64 xa, .int .i64 xb, .int .i64 ya, .int .i64 yb, .int .i64 za, .int .i64 zb, vo, df, wa, .int .i64 su, .int .i64 co, .int .i64 st, dr, gr]] w fun e w' => e = .returned (.int .i64 (bln za zb)) ∧ ∃ n : ExtOf w, w' = n.val := by
  by_cases h : wth za zb 0 20000 = true
  · have hz : 0 ≤ za ∧ za ≤ 20000 ∧ 0 ≤ zb ∧ zb ≤ 20000 := by simpa [wth] using h
    have e : bln za zb = max 0 (zb - za) := by simp only [bln, alg, decide_eq_true_eq]; split <;> omega
    rw [e]; clear e
    obtain ⟨z1, z2, z3, z4⟩ := hz
    go_enter Try.func29, Try.ntmps29
    go_wp2_with (first | (go_at_call 41; refine (rwithin_any _ _ _ _ _).mono ?_; rintro e w' ⟨rfl, n, rfl⟩) | (go_at_call 42; refine (rlen_any _ _ _ (by omega) (by omega) (by omega) (by omega)).mono ?_; rintro e w' ⟨rfl, n, rfl⟩))
    all_goals
      go_ret
      refine ⟨ret_int ?_, ?_⟩
      · omega
      · exact ExtOf.of (by repeat' (first | (with_reducible exact Ext.refl _) | (with_reducible exact ExtOf.ext _) | (with_reducible refine Ext.trans ?_ (ExtOf.ext _)) | (with_reducible refine Ext.alloc ?_ _) | (with_reducible refine Ext.drew ?_) | (with_reducible refine Ext.setCell ?_ ?_ _) | (with_reducible refine Ext.setRow ?_ ?_ _) | (simp; done) | (simp; omega)))
  · have hf : wth za zb 0 20000 = false := by simpa using h
    have hz : ¬ (0 ≤ za ∧ za ≤ 20000 ∧ 0 ≤ zb ∧ zb ≤ 20000) := by simpa [wth] using h
    have e : bln za zb = 0 := by simp only [bln, alg, decide_eq_true_eq]; split <;> omega
    rw [e]; clear e h hz
    go_enter Try.func29, Try.ntmps29
    go_wp2_with (first | (go_at_call 41; refine (rwithin_any _ _ _ _ _).mono ?_; rintro e w' ⟨rfl, n, rfl⟩))
    go_ret
    refine ⟨rfl, ?_⟩
    exact ExtOf.of (by repeat' (first | (with_reducible exact Ext.refl _) | (with_reducible exact ExtOf.ext _) | (with_reducible refine Ext.trans ?_ (ExtOf.ext _)) | (with_reducible refine Ext.alloc ?_ _) | (with_reducible refine Ext.drew ?_) | (with_reducible refine Ext.setCell ?_ ?_ _) | (with_reducible refine Ext.setRow ?_ ?_ _) | (simp; done) | (simp; omega)))

end Go.Proofs.Ytmlgclkclnhmhaa
