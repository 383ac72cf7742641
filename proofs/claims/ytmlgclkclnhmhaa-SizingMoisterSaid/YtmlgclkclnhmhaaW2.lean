/-
  The contracts of the functions that the statements about sizing reach (2).
-/
import Derived.Test.YtmlgclkclnhmhaaW1
namespace Go.Proofs.Ytmlgclkclnhmhaa
open Go.RowKit

attribute [local go_sem] ExtOf.cell ExtOf.frozen

theorem ret_two {k : IntKind} {a b c d : Int} (h : a = b) (h' : c = d) : Ending.returned (.tuple #[.int k a, .int k c]) = .returned (.tuple #[.int k b, .int k d]) := by rw [h, h']

set_option maxHeartbeats 400000 in
theorem rmean_any (su co st : Int) (w : World) :
    Calls Try.prog 26 #[.agg #[.int .i64 su, .int .i64 co, .int .i64 st]] w fun e w' => e = .returned (.int .i64 (mean su co st)) ∧ ∃ n : ExtOf w, w' = n.val := by
  by_cases h : mck su co st = 0
  · have hz := mck_zero h
    obtain ⟨h1, h2, h3, h4, _, _⟩ := hz
    have hb : (mck su co st != 0) = false := by simp [h]
    go_enter Try.func26, Try.ntmps26
    go_wp2_with (go_at_call 38; refine (rmcheck_any _ _ _ _).mono ?_; rintro e w' ⟨rfl, n, rfl⟩)
    go_ret
    refine ⟨ret_int ?_, ?_⟩
    · simp [mean, h]
    · exact ExtOf.of (by repeat' (first | (with_reducible exact Ext.refl _) | (with_reducible exact ExtOf.ext _) | (with_reducible refine Ext.trans ?_ (ExtOf.ext _)) | (with_reducible refine Ext.alloc ?_ _) | (with_reducible refine Ext.drew ?_) | (with_reducible refine Ext.setCell ?_ ?_ _) | (with_reducible refine Ext.setRow ?_ ?_ _) | (simp; done) | (simp; omega)))
  · have hb : (mck su co st != 0) = true := by simp [h]
    go_enter Try.func26, Try.ntmps26
    go_wp2_with (go_at_call 38; refine (rmcheck_any _ _ _ _).mono ?_; rintro e w' ⟨rfl, n, rfl⟩)
    go_ret
    refine ⟨ret_int ?_, ?_⟩
    · simp [mean, h]
    · exact ExtOf.of (by repeat' (first | (with_reducible exact Ext.refl _) | (with_reducible exact ExtOf.ext _) | (with_reducible refine Ext.trans ?_ (ExtOf.ext _)) | (with_reducible refine Ext.alloc ?_ _) | (with_reducible refine Ext.drew ?_) | (with_reducible refine Ext.setCell ?_ ?_ _) | (with_reducible refine Ext.setRow ?_ ?_ _) | (simp; done) | (simp; omega)))

def frm (n lo hi : Int) : Bool := decide (lo ≤ n ∧ n ≤ hi)

set_option maxHeartbeats 400000 in
theorem rfrom_any (n lo hi : Int) (w : World) :
    Calls Try.prog 39 #[.int .i64 n, .int .i64 lo, .int .i64 hi] w fun e w' => e = .returned (.bool (frm n lo hi)) ∧ ∃ n : ExtOf w, w' = n.val := by
  go_enter Try.func39, Try.ntmps39
  go_wp2
  all_goals
    go_ret
    refine ⟨ret_bool ?_, ?_⟩
    · simp [frm, *]; try omega
    · exact ExtOf.of (by repeat' (first | (with_reducible exact Ext.refl _) | (with_reducible exact ExtOf.ext _) | (with_reducible refine Ext.trans ?_ (ExtOf.ext _)) | (with_reducible refine Ext.alloc ?_ _) | (with_reducible refine Ext.drew ?_) | (with_reducible refine Ext.setCell ?_ ?_ _) | (with_reducible refine Ext.setRow ?_ ?_ _) | (simp; done) | (simp; omega)))

set_option maxHeartbeats 400000 in
theorem rshrunk_any (s0 s1 s2 s3 s4 s5 s6 s7 s8 s9 s10 s11 : Value) (sh : Int) (size m : Int) (w : World) :
    Calls Try.prog 27 #[.agg #[s0, s1, s2, s3, s4, s5, s6, s7, s8, s9, s10, s11, .int .i64 sh], .int .i64 size, .int .i64 m] w fun e w' => e = .returned (.int .i64 (shr sh size m)) ∧ ∃ n : ExtOf w, w' = n.val := by
  by_cases h : size < 0 ∨ 20000 < size ∨ sh < 0 ∨ 200 < sh
  · have e : shr sh size m = size := by simp [shr, h]
    rw [e]; clear e
    by_cases ha : 0 ≤ size ∧ size ≤ 20000
    · have hsz : frm size 0 20000 = true := by simp [frm, ha]
      have hsf : frm sh 0 200 = false := by simp [frm]; omega
      clear h ha
      go_enter Try.func27, Try.ntmps27
      go_wp2_with (go_at_call 39; refine (rfrom_any _ _ _ _).mono ?_; rintro e w' ⟨rfl, n, rfl⟩)
      go_ret
      refine ⟨rfl, ?_⟩
      exact ExtOf.of (by repeat' (first | (with_reducible exact Ext.refl _) | (with_reducible exact ExtOf.ext _) | (with_reducible refine Ext.trans ?_ (ExtOf.ext _)) | (with_reducible refine Ext.alloc ?_ _) | (with_reducible refine Ext.drew ?_) | (with_reducible refine Ext.setCell ?_ ?_ _) | (with_reducible refine Ext.setRow ?_ ?_ _) | (simp; done) | (simp; omega)))
    · have hsz : frm size 0 20000 = false := by simp [frm]; omega
      clear h ha
      go_enter Try.func27, Try.ntmps27
      go_wp2_with (go_at_call 39; refine (rfrom_any _ _ _ _).mono ?_; rintro e w' ⟨rfl, n, rfl⟩)
      go_ret
      refine ⟨rfl, ?_⟩
      exact ExtOf.of (by repeat' (first | (with_reducible exact Ext.refl _) | (with_reducible exact ExtOf.ext _) | (with_reducible refine Ext.trans ?_ (ExtOf.ext _)) | (with_reducible refine Ext.alloc ?_ _) | (with_reducible refine Ext.drew ?_) | (with_reducible refine Ext.setCell ?_ ?_ _) | (with_reducible refine Ext.setRow ?_ ?_ _) | (simp; done) | (simp; omega)))
  · obtain ⟨h1, h2, h3, h4⟩ : 0 ≤ size ∧ size ≤ 20000 ∧ 0 ≤ sh ∧ sh ≤ 200 := by omega
    obtain ⟨g1, g2, g3, g4⟩ := shr_nn size sh (3000 - max 0 (min m 3000)) h1 h2 h3 h4 (by omega) (by omega)
    have e : shr sh size m = size - size * sh * (3000 - max 0 (min m 3000)) / 3000000 := by simp [shr, h]
    rw [e]; clear e
    have hsz : frm size 0 20000 = true := by simp [frm]; omega
    have hst : frm sh 0 200 = true := by simp [frm]; omega
    clear h
    have key : ∀ p : Int, 0 ≤ p → p ≤ 12000000000 → wrap64 (size - wrap64 ((wrap64 p).tdiv 3000000)) = size - p / 3000000 := by
      intro p hp0 hp1
      rw [IntWalk.wrap64_in p (by omega), Int.tdiv_eq_ediv_of_nonneg hp0, IntWalk.wrap64_in (p / 3000000) (by omega), IntWalk.wrap64_in _ (by omega)]
    have K := Lib.hid key
    clear key
    rcases (by omega : m < 0 ∨ m = 0 ∨ (0 < m ∧ m < 3000) ∨ m = 3000 ∨ 3000 < m) with hm | rfl | ⟨hm, hm'⟩ | rfl | hm
    all_goals
      first
        | (have e2 : max 0 (min m 3000) = 0 := by omega
           rw [e2] at g3 g4 ⊢; clear e2)
        | (have e2 : max 0 (min m 3000) = m := by omega
           rw [e2] at g3 g4 ⊢; clear e2)
        | (have e2 : max 0 (min m 3000) = 3000 := by omega
           rw [e2] at g3 g4 ⊢; clear e2)
        | (simp only [show max (0:Int) (min 3000 3000) = 3000 from by decide, show max (0:Int) (min 0 3000) = 0 from by decide, Int.sub_self, Int.mul_zero, Int.sub_zero] at g3 g4 ⊢)
      go_enter Try.func27, Try.ntmps27
      go_wp2_with (go_at_call 39; refine (rfrom_any _ _ _ _).mono ?_; rintro e w' ⟨rfl, n, rfl⟩)
      all_goals
        go_ret
        refine ⟨ret_int ?_, ?_⟩
        · first | rfl | omega | exact (K.out _ (by omega) (by omega)) | (refine (K.out _ (by omega) (by omega)).trans ?_; simp; done) | (simp [wrap64]; done) | (simp [wrap64]; omega)
        · exact ExtOf.of (by repeat' (first | (with_reducible exact Ext.refl _) | (with_reducible exact ExtOf.ext _) | (with_reducible refine Ext.trans ?_ (ExtOf.ext _)) | (with_reducible refine Ext.alloc ?_ _) | (with_reducible refine Ext.drew ?_) | (with_reducible refine Ext.setCell ?_ ?_ _) | (with_reducible refine Ext.setRow ?_ ?_ _) | (simp; done) | (simp; omega)))

def dT (xa xb ya yb su co st sh : Int) : Int := if acr xa xb = true ∧ acr ya yb = true then shr sh (min (xb - xa) (yb - ya)) (mean su co st) else 0
def dW (xa xb ya yb su co st sh : Int) : Int := if acr xa xb = true ∧ acr ya yb = true then shr sh (max (xb - xa) (yb - ya)) (mean su co st) else 0

theorem acr_true {a b : Int} (h : acr a b = true) : -600 ≤ a ∧ a < b ∧ b ≤ 600 := by simpa [acr] using h

set_option maxHeartbeats 800000 in
theorem dried_any (id lg sp pr vo df wa dr gr : Value) (xa xb ya yb za zb su co st : Int) (s0 s1 s2 s3 s4 s5 s6 s7 s8 s9 s10 s11 : Value) (sh : Int) (w : World) :
    Calls Try.prog 9 #[.agg #[id, lg, sp, pr, .int .i64 xa, .int .i64 xb, .int .i64 ya, .int .i64 yb, .int .i64 za, .int .i64 zb, vo, df, wa, .int .i64 su, .int .i64 co, .int .i64 st, dr, gr], .agg #[s0, s1, s2, s3, s4, s5, s6, s7, s8, s9, s10, s11, .int .i64 sh]] w fun e w' => e = .returned (.tuple #[.int .i64 (dT xa xb ya yb su co st sh), .int .i64 (dW xa xb ya yb su co st sh)]) ∧ ∃ n : ExtOf w, w' = n.val := by
  by_cases hx : acr xa xb = true
  · by_cases hy : acr ya yb = true
    · obtain ⟨x1, x2, x3⟩ := acr_true hx
      obtain ⟨y1, y2, y3⟩ := acr_true hy
      have eT : dT xa xb ya yb su co st sh = shr sh (min (xb - xa) (yb - ya)) (mean su co st) := by simp [dT, hx, hy]
      have eW : dW xa xb ya yb su co st sh = shr sh (max (xb - xa) (yb - ya)) (mean su co st) := by simp [dW, hx, hy]
      rw [eT, eW]; clear eT eW
      go_enter Try.func9, Try.ntmps9
      go_wp2_with (first | (go_at_call 23; refine (across_any _ _ _).mono ?_; rintro e w' ⟨rfl, n, rfl⟩))
      refine wp_region_ext (by kernel_rfl) (by kernel_rfl) ?_
      repeat (first | go_big_quiet_skip | ((with_reducible apply q_load' lwB); (· (first | exact wanted_none rfl | exact wanted_some rfl rfl rfl)); (· rfl); (· infer_instance); (· rfl); simp only [Act.put, List.setIfInBounds_toArray, List.set_cons_succ, List.set_cons_zero]) | ((with_reducible apply q_load' lwP); (· (first | exact wanted_none rfl | exact wanted_some rfl rfl rfl)); (· rfl); (· infer_instance); (· rfl); simp only [Act.put, List.setIfInBounds_toArray, List.set_cons_succ, List.set_cons_zero]) | ((with_reducible apply q_load' lwS); (· (first | exact wanted_none rfl | exact wanted_some rfl rfl rfl)); (· rfl); (· infer_instance); (· rfl); simp only [Act.put, List.setIfInBounds_toArray, List.set_cons_succ, List.set_cons_zero]) | go_big_quiet_step (fail))
      refine wpQuiet_nil ?_
      intro _ hw'
      obtain ⟨nq, hw''⟩ := hw'
      subst hw''
      go_wp2_with (first | (go_at_call 22; refine (mean_any _ _ _ _).mono ?_; rintro e w' ⟨rfl, n, rfl⟩))
      refine wp_region_ext (by kernel_rfl) (by kernel_rfl) ?_
      repeat (first | go_big_quiet_skip | ((with_reducible apply q_load' lwB); (· (first | exact wanted_none rfl | exact wanted_some rfl rfl rfl)); (· rfl); (· infer_instance); (· rfl); simp only [Act.put, List.setIfInBounds_toArray, List.set_cons_succ, List.set_cons_zero]) | ((with_reducible apply q_load' lwP); (· (first | exact wanted_none rfl | exact wanted_some rfl rfl rfl)); (· rfl); (· infer_instance); (· rfl); simp only [Act.put, List.setIfInBounds_toArray, List.set_cons_succ, List.set_cons_zero]) | ((with_reducible apply q_load' lwS); (· (first | exact wanted_none rfl | exact wanted_some rfl rfl rfl)); (· rfl); (· infer_instance); (· rfl); simp only [Act.put, List.setIfInBounds_toArray, List.set_cons_succ, List.set_cons_zero]) | go_big_quiet_step ((go_at_call 24; exact ext_call (shrunk_any _ _ _ _ _ _ _ _ _ _ _ _ _ _ _ _))))
      refine wpQuiet_nil ?_
      intro _ hw'
      obtain ⟨nq, hw''⟩ := hw'
      subst hw''
      go_wp2
      all_goals
        go_ret2
        refine ⟨ret_two ?_ ?_, ?_⟩
        · congr 1; omega
        · congr 1; omega
        · exact ExtOf.of (by repeat' (first | (with_reducible exact Ext.refl _) | (with_reducible exact ExtOf.ext _) | (with_reducible refine Ext.trans ?_ (ExtOf.ext _)) | (with_reducible refine Ext.alloc ?_ _) | (with_reducible refine Ext.drew ?_) | (with_reducible refine Ext.setCell ?_ ?_ _) | (with_reducible refine Ext.setRow ?_ ?_ _) | (simp; done) | (simp; omega)))
    · have hyf : acr ya yb = false := by simpa using hy
      have eT : dT xa xb ya yb su co st sh = 0 := by simp [dT, hyf]
      have eW : dW xa xb ya yb su co st sh = 0 := by simp [dW, hyf]
      rw [eT, eW]; clear eT eW hy
      go_enter Try.func9, Try.ntmps9
      go_wp2_with (first | (go_at_call 23; refine (across_any _ _ _).mono ?_; rintro e w' ⟨rfl, n, rfl⟩))
      go_ret2
      refine ⟨ret_two rfl rfl, ?_⟩
      exact ExtOf.of (by repeat' (first | (with_reducible exact Ext.refl _) | (with_reducible exact ExtOf.ext _) | (with_reducible refine Ext.trans ?_ (ExtOf.ext _)) | (with_reducible refine Ext.alloc ?_ _) | (with_reducible refine Ext.drew ?_) | (with_reducible refine Ext.setCell ?_ ?_ _) | (with_reducible refine Ext.setRow ?_ ?_ _) | (simp; done) | (simp; omega)))
  · have hxf : acr xa xb = false := by simpa using hx
    have eT : dT xa xb ya yb su co st sh = 0 := by simp [dT, hxf]
    have eW : dW xa xb ya yb su co st sh = 0 := by simp [dW, hxf]
    rw [eT, eW]; clear eT eW hx
    go_enter Try.func9, Try.ntmps9
    go_wp2_with (first | (go_at_call 23; refine (across_any _ _ _).mono ?_; rintro e w' ⟨rfl, n, rfl⟩))
    go_ret2
    refine ⟨ret_two rfl rfl, ?_⟩
    exact ExtOf.of (by repeat' (first | (with_reducible exact Ext.refl _) | (with_reducible exact ExtOf.ext _) | (with_reducible refine Ext.trans ?_ (ExtOf.ext _)) | (with_reducible refine Ext.alloc ?_ _) | (with_reducible refine Ext.drew ?_) | (with_reducible refine Ext.setCell ?_ ?_ _) | (with_reducible refine Ext.setRow ?_ ?_ _) | (simp; done) | (simp; omega)))

end Go.Proofs.Ytmlgclkclnhmhaa
