/-
  The walk of the statement SizingEnough: it returns true.
-/
import Derived.Test.YtmlgclkclnhmhaaL2
namespace Go.Proofs.Ytmlgclkclnhmhaa
open Go.RowKit

attribute [local go_sem] ExtOf.cell ExtOf.frozen Block.cell Block.frozen

theorem Ext.le {a b : World} (h : Ext a b) : a.heap.size ≤ b.heap.size := h.size


set_option maxRecDepth 20000 in
set_option maxHeartbeats 6400000 in
theorem enough_a (pn pw pl pp : Value) (th wi al : Int) (s0 s1 s2 s3 s4 s5 s6 s7 s8 s9 s10 s11 : Value) (sh : Int) (m A : Int) (w : World) (HA : Hid (alw sh th wi m = A)) (h1 : 1 ≤ th) (h2 : th ≤ 480) (h3 : 1 ≤ wi) (h4 : wi ≤ 480) (h5 : 0 ≤ m) (h6 : m ≤ 20000) (r1 : 0 ≤ A) (r2 : A ≤ 201) (ht : th ≤ wi) (ha : A ≤ 200) (hp : 0 < A) (u1 : und (dT (-grT th wi A) 0 0 (grW th wi A) m m 0 sh) (dW (-grT th wi A) 0 0 (grW th wi A) m m 0 sh) th wi = false) (u2 : und (dT (-grT th wi (A - 1)) 0 0 (grW th wi (A - 1)) m m 0 sh) (dW (-grT th wi (A - 1)) 0 0 (grW th wi (A - 1)) m m 0 sh) th wi = true) :
    Calls Try.prog 6 #[.agg #[pn, .int .i64 th, .int .i64 wi, .int .i64 al, pw, pl, pp], .agg #[s0, s1, s2, s3, s4, s5, s6, s7, s8, s9, s10, s11, .int .i64 sh], .int .i64 m] w fun e w' => e = .returned (.bool true) ∧ ∃ n : ExtOf w, w' = n.val := by
  have hd : decide (th ≤ wi) = true := by simpa using ht
  obtain ⟨b1, b2, b3, b4, _⟩ := gr_bound h1 h2 h3 h4 r1 ha
  obtain ⟨b5, b6, b7, b8, _⟩ := gr_bound (a := A - 1) h1 h2 h3 h4 (by omega) (by omega)
  go_enter Try.func6, Try.ntmps6
  go_wp2_with (first | (go_at_call 16; refine (allow_any _ _ _ _ _ _ _ _ _ _ _ _ _ _ _ _ _ _ _ _ _ _).mono ?_; rintro e w' ⟨rfl, n, rfl⟩; rw [HA.out]) | ((with_reducible apply wl_store' lwB); (· (first | exact wanted_none rfl | exact wanted_some rfl rfl rfl)); (· rfl); (· rfl); (· infer_instance); (· rfl); (· rfl); (· (simp [Value.oneCell'])); simp only [setRow_new]) | (((with_reducible apply wl_load' lwB); (· (first | exact wanted_none rfl | exact wanted_some rfl rfl rfl)); (· rfl); (· infer_instance); (· rfl)); (try simp only [List.setIfInBounds_toArray, List.set_cons_succ, List.set_cons_zero])) | (((with_reducible apply wl_load' lwP); (· (first | exact wanted_none rfl | exact wanted_some rfl rfl rfl)); (· rfl); (· infer_instance); (· rfl)); (try simp only [List.setIfInBounds_toArray, List.set_cons_succ, List.set_cons_zero])) | (((with_reducible apply wl_load' lwS); (· (first | exact wanted_none rfl | exact wanted_some rfl rfl rfl)); (· rfl); (· infer_instance); (· rfl)); (try simp only [List.setIfInBounds_toArray, List.set_cons_succ, List.set_cons_zero])) | (go_at_call 20; refine (green_any _ _ _ _ _ _ _ _).mono ?_; rintro e w' ⟨rfl, n, rfl⟩) | (go_at_call 11; refine (under_any _ _ _ _ _ _ _ _ _ _ _ _ _ _ _ _ _ _ _ _ _ _ _ _ _ _ _ _ _ _ _ _ _ _ _ _ _ _ _).mono ?_; rintro e w' ⟨rfl, n, rfl⟩) | (go_at_call 15; refine (awake_any _).mono ?_; rintro e w' ⟨rfl, n, rfl⟩))
  go_ret
  refine ⟨rfl, ?_⟩
  exact ExtOf.of (by repeat' (first | (with_reducible exact Ext.refl _) | (with_reducible exact ExtOf.ext _) | (with_reducible refine Ext.trans ?_ (ExtOf.ext _)) | (with_reducible refine Ext.alloc ?_ _) | (with_reducible refine Ext.drew ?_) | (with_reducible refine Ext.setCell ?_ ?_ _) | (with_reducible refine Ext.setRow ?_ ?_ _) | (with_reducible refine Ext.le ?_) | (with_reducible refine Nat.le_add_right_of_le ?_) | (simp; done) | (simp; omega)))

set_option maxRecDepth 20000 in
set_option maxHeartbeats 6400000 in
theorem enough_b (pn pw pl pp : Value) (th wi al : Int) (s0 s1 s2 s3 s4 s5 s6 s7 s8 s9 s10 s11 : Value) (sh : Int) (m A : Int) (w : World) (HA : Hid (alw sh th wi m = A)) (h1 : 1 ≤ th) (h2 : th ≤ 480) (h3 : 1 ≤ wi) (h4 : wi ≤ 480) (h5 : 0 ≤ m) (h6 : m ≤ 20000) (r1 : 0 ≤ A) (r2 : A ≤ 201) (ht : th ≤ wi) (ha : A ≤ 200) (hp : A ≤ 0) (u1 : und (dT (-grT th wi A) 0 0 (grW th wi A) m m 0 sh) (dW (-grT th wi A) 0 0 (grW th wi A) m m 0 sh) th wi = false) :
    Calls Try.prog 6 #[.agg #[pn, .int .i64 th, .int .i64 wi, .int .i64 al, pw, pl, pp], .agg #[s0, s1, s2, s3, s4, s5, s6, s7, s8, s9, s10, s11, .int .i64 sh], .int .i64 m] w fun e w' => e = .returned (.bool true) ∧ ∃ n : ExtOf w, w' = n.val := by
  have hd : decide (th ≤ wi) = true := by simpa using ht
  obtain ⟨b1, b2, b3, b4, _⟩ := gr_bound h1 h2 h3 h4 r1 ha
  go_enter Try.func6, Try.ntmps6
  go_wp2_with (first | (go_at_call 16; refine (allow_any _ _ _ _ _ _ _ _ _ _ _ _ _ _ _ _ _ _ _ _ _ _).mono ?_; rintro e w' ⟨rfl, n, rfl⟩; rw [HA.out]) | ((with_reducible apply wl_store' lwB); (· (first | exact wanted_none rfl | exact wanted_some rfl rfl rfl)); (· rfl); (· rfl); (· infer_instance); (· rfl); (· rfl); (· (simp [Value.oneCell'])); simp only [setRow_new]) | (((with_reducible apply wl_load' lwB); (· (first | exact wanted_none rfl | exact wanted_some rfl rfl rfl)); (· rfl); (· infer_instance); (· rfl)); (try simp only [List.setIfInBounds_toArray, List.set_cons_succ, List.set_cons_zero])) | (((with_reducible apply wl_load' lwP); (· (first | exact wanted_none rfl | exact wanted_some rfl rfl rfl)); (· rfl); (· infer_instance); (· rfl)); (try simp only [List.setIfInBounds_toArray, List.set_cons_succ, List.set_cons_zero])) | (((with_reducible apply wl_load' lwS); (· (first | exact wanted_none rfl | exact wanted_some rfl rfl rfl)); (· rfl); (· infer_instance); (· rfl)); (try simp only [List.setIfInBounds_toArray, List.set_cons_succ, List.set_cons_zero])) | (go_at_call 20; refine (green_any _ _ _ _ _ _ _ _).mono ?_; rintro e w' ⟨rfl, n, rfl⟩) | (go_at_call 11; refine (under_any _ _ _ _ _ _ _ _ _ _ _ _ _ _ _ _ _ _ _ _ _ _ _ _ _ _ _ _ _ _ _ _ _ _ _ _ _ _ _).mono ?_; rintro e w' ⟨rfl, n, rfl⟩) | (go_at_call 15; refine (awake_any _).mono ?_; rintro e w' ⟨rfl, n, rfl⟩))
  go_ret
  refine ⟨rfl, ?_⟩
  exact ExtOf.of (by repeat' (first | (with_reducible exact Ext.refl _) | (with_reducible exact ExtOf.ext _) | (with_reducible refine Ext.trans ?_ (ExtOf.ext _)) | (with_reducible refine Ext.alloc ?_ _) | (with_reducible refine Ext.drew ?_) | (with_reducible refine Ext.setCell ?_ ?_ _) | (with_reducible refine Ext.setRow ?_ ?_ _) | (with_reducible refine Ext.le ?_) | (with_reducible refine Nat.le_add_right_of_le ?_) | (simp; done) | (simp; omega)))

set_option maxRecDepth 20000 in
set_option maxHeartbeats 6400000 in
theorem enough_c (pn pw pl pp : Value) (th wi al : Int) (s0 s1 s2 s3 s4 s5 s6 s7 s8 s9 s10 s11 : Value) (sh : Int) (m A : Int) (w : World) (HA : Hid (alw sh th wi m = A)) (h1 : 1 ≤ th) (h2 : th ≤ 480) (h3 : 1 ≤ wi) (h4 : wi ≤ 480) (h5 : 0 ≤ m) (h6 : m ≤ 20000) (r1 : 0 ≤ A) (r2 : A ≤ 201) (ht : th ≤ wi) (ha : 200 < A) (u2 : und (dT (-grT th wi (A - 1)) 0 0 (grW th wi (A - 1)) m m 0 sh) (dW (-grT th wi (A - 1)) 0 0 (grW th wi (A - 1)) m m 0 sh) th wi = true) :
    Calls Try.prog 6 #[.agg #[pn, .int .i64 th, .int .i64 wi, .int .i64 al, pw, pl, pp], .agg #[s0, s1, s2, s3, s4, s5, s6, s7, s8, s9, s10, s11, .int .i64 sh], .int .i64 m] w fun e w' => e = .returned (.bool true) ∧ ∃ n : ExtOf w, w' = n.val := by
  have hd : decide (th ≤ wi) = true := by simpa using ht
  obtain ⟨b5, b6, b7, b8, _⟩ := gr_bound (a := A - 1) h1 h2 h3 h4 (by omega) (by omega)
  go_enter Try.func6, Try.ntmps6
  go_wp2_with (first | (go_at_call 16; refine (allow_any _ _ _ _ _ _ _ _ _ _ _ _ _ _ _ _ _ _ _ _ _ _).mono ?_; rintro e w' ⟨rfl, n, rfl⟩; rw [HA.out]) | ((with_reducible apply wl_store' lwB); (· (first | exact wanted_none rfl | exact wanted_some rfl rfl rfl)); (· rfl); (· rfl); (· infer_instance); (· rfl); (· rfl); (· (simp [Value.oneCell'])); simp only [setRow_new]) | (((with_reducible apply wl_load' lwB); (· (first | exact wanted_none rfl | exact wanted_some rfl rfl rfl)); (· rfl); (· infer_instance); (· rfl)); (try simp only [List.setIfInBounds_toArray, List.set_cons_succ, List.set_cons_zero])) | (((with_reducible apply wl_load' lwP); (· (first | exact wanted_none rfl | exact wanted_some rfl rfl rfl)); (· rfl); (· infer_instance); (· rfl)); (try simp only [List.setIfInBounds_toArray, List.set_cons_succ, List.set_cons_zero])) | (((with_reducible apply wl_load' lwS); (· (first | exact wanted_none rfl | exact wanted_some rfl rfl rfl)); (· rfl); (· infer_instance); (· rfl)); (try simp only [List.setIfInBounds_toArray, List.set_cons_succ, List.set_cons_zero])) | (go_at_call 20; refine (green_any _ _ _ _ _ _ _ _).mono ?_; rintro e w' ⟨rfl, n, rfl⟩) | (go_at_call 11; refine (under_any _ _ _ _ _ _ _ _ _ _ _ _ _ _ _ _ _ _ _ _ _ _ _ _ _ _ _ _ _ _ _ _ _ _ _ _ _ _ _).mono ?_; rintro e w' ⟨rfl, n, rfl⟩) | (go_at_call 15; refine (awake_any _).mono ?_; rintro e w' ⟨rfl, n, rfl⟩))
  go_ret
  refine ⟨rfl, ?_⟩
  exact ExtOf.of (by repeat' (first | (with_reducible exact Ext.refl _) | (with_reducible exact ExtOf.ext _) | (with_reducible refine Ext.trans ?_ (ExtOf.ext _)) | (with_reducible refine Ext.alloc ?_ _) | (with_reducible refine Ext.drew ?_) | (with_reducible refine Ext.setCell ?_ ?_ _) | (with_reducible refine Ext.setRow ?_ ?_ _) | (with_reducible refine Ext.le ?_) | (with_reducible refine Nat.le_add_right_of_le ?_) | (simp; done) | (simp; omega)))

set_option maxRecDepth 20000 in
set_option maxHeartbeats 6400000 in
theorem enough_d (pn pw pl pp : Value) (th wi al : Int) (s0 s1 s2 s3 s4 s5 s6 s7 s8 s9 s10 s11 : Value) (sh : Int) (m A : Int) (w : World) (HA : Hid (alw sh th wi m = A)) (h1 : 1 ≤ th) (h2 : th ≤ 480) (h3 : 1 ≤ wi) (h4 : wi ≤ 480) (h5 : 0 ≤ m) (h6 : m ≤ 20000) (r1 : 0 ≤ A) (r2 : A ≤ 201) (ht : wi < th) (ha : A ≤ 200) (hp : 0 < A) :
    Calls Try.prog 6 #[.agg #[pn, .int .i64 th, .int .i64 wi, .int .i64 al, pw, pl, pp], .agg #[s0, s1, s2, s3, s4, s5, s6, s7, s8, s9, s10, s11, .int .i64 sh], .int .i64 m] w fun e w' => e = .returned (.bool true) ∧ ∃ n : ExtOf w, w' = n.val := by
  have hd : decide (th ≤ wi) = false := by simp; omega
  obtain ⟨b1, b2, b3, b4, _⟩ := gr_bound h1 h2 h3 h4 r1 ha
  obtain ⟨b5, b6, b7, b8, _⟩ := gr_bound (a := A - 1) h1 h2 h3 h4 (by omega) (by omega)
  go_enter Try.func6, Try.ntmps6
  go_wp2_with (first | (go_at_call 16; refine (allow_any _ _ _ _ _ _ _ _ _ _ _ _ _ _ _ _ _ _ _ _ _ _).mono ?_; rintro e w' ⟨rfl, n, rfl⟩; rw [HA.out]) | ((with_reducible apply wl_store' lwB); (· (first | exact wanted_none rfl | exact wanted_some rfl rfl rfl)); (· rfl); (· rfl); (· infer_instance); (· rfl); (· rfl); (· (simp [Value.oneCell'])); simp only [setRow_new]) | (((with_reducible apply wl_load' lwB); (· (first | exact wanted_none rfl | exact wanted_some rfl rfl rfl)); (· rfl); (· infer_instance); (· rfl)); (try simp only [List.setIfInBounds_toArray, List.set_cons_succ, List.set_cons_zero])) | (((with_reducible apply wl_load' lwP); (· (first | exact wanted_none rfl | exact wanted_some rfl rfl rfl)); (· rfl); (· infer_instance); (· rfl)); (try simp only [List.setIfInBounds_toArray, List.set_cons_succ, List.set_cons_zero])) | (((with_reducible apply wl_load' lwS); (· (first | exact wanted_none rfl | exact wanted_some rfl rfl rfl)); (· rfl); (· infer_instance); (· rfl)); (try simp only [List.setIfInBounds_toArray, List.set_cons_succ, List.set_cons_zero])) | (go_at_call 20; refine (green_any _ _ _ _ _ _ _ _).mono ?_; rintro e w' ⟨rfl, n, rfl⟩) | (go_at_call 11; refine (under_any _ _ _ _ _ _ _ _ _ _ _ _ _ _ _ _ _ _ _ _ _ _ _ _ _ _ _ _ _ _ _ _ _ _ _ _ _ _ _).mono ?_; rintro e w' ⟨rfl, n, rfl⟩) | (go_at_call 15; refine (awake_any _).mono ?_; rintro e w' ⟨rfl, n, rfl⟩))
  go_ret
  refine ⟨rfl, ?_⟩
  exact ExtOf.of (by repeat' (first | (with_reducible exact Ext.refl _) | (with_reducible exact ExtOf.ext _) | (with_reducible refine Ext.trans ?_ (ExtOf.ext _)) | (with_reducible refine Ext.alloc ?_ _) | (with_reducible refine Ext.drew ?_) | (with_reducible refine Ext.setCell ?_ ?_ _) | (with_reducible refine Ext.setRow ?_ ?_ _) | (with_reducible refine Ext.le ?_) | (with_reducible refine Nat.le_add_right_of_le ?_) | (simp; done) | (simp; omega)))

set_option maxRecDepth 20000 in
set_option maxHeartbeats 6400000 in
theorem enough_e (pn pw pl pp : Value) (th wi al : Int) (s0 s1 s2 s3 s4 s5 s6 s7 s8 s9 s10 s11 : Value) (sh : Int) (m A : Int) (w : World) (HA : Hid (alw sh th wi m = A)) (h1 : 1 ≤ th) (h2 : th ≤ 480) (h3 : 1 ≤ wi) (h4 : wi ≤ 480) (h5 : 0 ≤ m) (h6 : m ≤ 20000) (r1 : 0 ≤ A) (r2 : A ≤ 201) (ht : wi < th) (ha : A ≤ 200) (hp : A ≤ 0) :
    Calls Try.prog 6 #[.agg #[pn, .int .i64 th, .int .i64 wi, .int .i64 al, pw, pl, pp], .agg #[s0, s1, s2, s3, s4, s5, s6, s7, s8, s9, s10, s11, .int .i64 sh], .int .i64 m] w fun e w' => e = .returned (.bool true) ∧ ∃ n : ExtOf w, w' = n.val := by
  have hd : decide (th ≤ wi) = false := by simp; omega
  obtain ⟨b1, b2, b3, b4, _⟩ := gr_bound h1 h2 h3 h4 r1 ha
  go_enter Try.func6, Try.ntmps6
  go_wp2_with (first | (go_at_call 16; refine (allow_any _ _ _ _ _ _ _ _ _ _ _ _ _ _ _ _ _ _ _ _ _ _).mono ?_; rintro e w' ⟨rfl, n, rfl⟩; rw [HA.out]) | ((with_reducible apply wl_store' lwB); (· (first | exact wanted_none rfl | exact wanted_some rfl rfl rfl)); (· rfl); (· rfl); (· infer_instance); (· rfl); (· rfl); (· (simp [Value.oneCell'])); simp only [setRow_new]) | (((with_reducible apply wl_load' lwB); (· (first | exact wanted_none rfl | exact wanted_some rfl rfl rfl)); (· rfl); (· infer_instance); (· rfl)); (try simp only [List.setIfInBounds_toArray, List.set_cons_succ, List.set_cons_zero])) | (((with_reducible apply wl_load' lwP); (· (first | exact wanted_none rfl | exact wanted_some rfl rfl rfl)); (· rfl); (· infer_instance); (· rfl)); (try simp only [List.setIfInBounds_toArray, List.set_cons_succ, List.set_cons_zero])) | (((with_reducible apply wl_load' lwS); (· (first | exact wanted_none rfl | exact wanted_some rfl rfl rfl)); (· rfl); (· infer_instance); (· rfl)); (try simp only [List.setIfInBounds_toArray, List.set_cons_succ, List.set_cons_zero])) | (go_at_call 20; refine (green_any _ _ _ _ _ _ _ _).mono ?_; rintro e w' ⟨rfl, n, rfl⟩) | (go_at_call 11; refine (under_any _ _ _ _ _ _ _ _ _ _ _ _ _ _ _ _ _ _ _ _ _ _ _ _ _ _ _ _ _ _ _ _ _ _ _ _ _ _ _).mono ?_; rintro e w' ⟨rfl, n, rfl⟩) | (go_at_call 15; refine (awake_any _).mono ?_; rintro e w' ⟨rfl, n, rfl⟩))
  go_ret
  refine ⟨rfl, ?_⟩
  exact ExtOf.of (by repeat' (first | (with_reducible exact Ext.refl _) | (with_reducible exact ExtOf.ext _) | (with_reducible refine Ext.trans ?_ (ExtOf.ext _)) | (with_reducible refine Ext.alloc ?_ _) | (with_reducible refine Ext.drew ?_) | (with_reducible refine Ext.setCell ?_ ?_ _) | (with_reducible refine Ext.setRow ?_ ?_ _) | (with_reducible refine Ext.le ?_) | (with_reducible refine Nat.le_add_right_of_le ?_) | (simp; done) | (simp; omega)))

set_option maxRecDepth 20000 in
set_option maxHeartbeats 6400000 in
theorem enough_f (pn pw pl pp : Value) (th wi al : Int) (s0 s1 s2 s3 s4 s5 s6 s7 s8 s9 s10 s11 : Value) (sh : Int) (m A : Int) (w : World) (HA : Hid (alw sh th wi m = A)) (h1 : 1 ≤ th) (h2 : th ≤ 480) (h3 : 1 ≤ wi) (h4 : wi ≤ 480) (h5 : 0 ≤ m) (h6 : m ≤ 20000) (r1 : 0 ≤ A) (r2 : A ≤ 201) (ht : wi < th) (ha : 200 < A) :
    Calls Try.prog 6 #[.agg #[pn, .int .i64 th, .int .i64 wi, .int .i64 al, pw, pl, pp], .agg #[s0, s1, s2, s3, s4, s5, s6, s7, s8, s9, s10, s11, .int .i64 sh], .int .i64 m] w fun e w' => e = .returned (.bool true) ∧ ∃ n : ExtOf w, w' = n.val := by
  have hd : decide (th ≤ wi) = false := by simp; omega
  obtain ⟨b5, b6, b7, b8, _⟩ := gr_bound (a := A - 1) h1 h2 h3 h4 (by omega) (by omega)
  go_enter Try.func6, Try.ntmps6
  go_wp2_with (first | (go_at_call 16; refine (allow_any _ _ _ _ _ _ _ _ _ _ _ _ _ _ _ _ _ _ _ _ _ _).mono ?_; rintro e w' ⟨rfl, n, rfl⟩; rw [HA.out]) | ((with_reducible apply wl_store' lwB); (· (first | exact wanted_none rfl | exact wanted_some rfl rfl rfl)); (· rfl); (· rfl); (· infer_instance); (· rfl); (· rfl); (· (simp [Value.oneCell'])); simp only [setRow_new]) | (((with_reducible apply wl_load' lwB); (· (first | exact wanted_none rfl | exact wanted_some rfl rfl rfl)); (· rfl); (· infer_instance); (· rfl)); (try simp only [List.setIfInBounds_toArray, List.set_cons_succ, List.set_cons_zero])) | (((with_reducible apply wl_load' lwP); (· (first | exact wanted_none rfl | exact wanted_some rfl rfl rfl)); (· rfl); (· infer_instance); (· rfl)); (try simp only [List.setIfInBounds_toArray, List.set_cons_succ, List.set_cons_zero])) | (((with_reducible apply wl_load' lwS); (· (first | exact wanted_none rfl | exact wanted_some rfl rfl rfl)); (· rfl); (· infer_instance); (· rfl)); (try simp only [List.setIfInBounds_toArray, List.set_cons_succ, List.set_cons_zero])) | (go_at_call 20; refine (green_any _ _ _ _ _ _ _ _).mono ?_; rintro e w' ⟨rfl, n, rfl⟩) | (go_at_call 11; refine (under_any _ _ _ _ _ _ _ _ _ _ _ _ _ _ _ _ _ _ _ _ _ _ _ _ _ _ _ _ _ _ _ _ _ _ _ _ _ _ _).mono ?_; rintro e w' ⟨rfl, n, rfl⟩) | (go_at_call 15; refine (awake_any _).mono ?_; rintro e w' ⟨rfl, n, rfl⟩))
  go_ret
  refine ⟨rfl, ?_⟩
  exact ExtOf.of (by repeat' (first | (with_reducible exact Ext.refl _) | (with_reducible exact ExtOf.ext _) | (with_reducible refine Ext.trans ?_ (ExtOf.ext _)) | (with_reducible refine Ext.alloc ?_ _) | (with_reducible refine Ext.drew ?_) | (with_reducible refine Ext.setCell ?_ ?_ _) | (with_reducible refine Ext.setRow ?_ ?_ _) | (with_reducible refine Ext.le ?_) | (with_reducible refine Nat.le_add_right_of_le ?_) | (simp; done) | (simp; omega)))

set_option maxRecDepth 20000 in
set_option maxHeartbeats 3200000 in
theorem enough_walk (pn pw pl pp : Value) (th wi al : Int) (s0 s1 s2 s3 s4 s5 s6 s7 s8 s9 s10 s11 : Value) (sh : Int) (m : Int) (w : World) :
    Calls Try.prog 6 #[.agg #[pn, .int .i64 th, .int .i64 wi, .int .i64 al, pw, pl, pp], .agg #[s0, s1, s2, s3, s4, s5, s6, s7, s8, s9, s10, s11, .int .i64 sh], .int .i64 m] w fun e w' => e = .returned (.bool true) ∧ ∃ n : ExtOf w, w' = n.val := by
  by_cases hin : 1 ≤ th ∧ 1 ≤ wi ∧ th ≤ 480 ∧ wi ≤ 480 ∧ 0 ≤ m ∧ m ≤ 20000
  · obtain ⟨h1, h3, h2, h4, h5, h6⟩ := hin
    have hz : szd th wi = true := by simp [szd]; omega
    obtain ⟨r1, r2⟩ := alw_range sh th wi m
    have hok := fun h => alw_ok (sh := sh) (m := m) hz h
    have hno := fun h => alw_less (sh := sh) (m := m) hz h
    generalize hA : alw sh th wi m = A at r1 r2 hok hno
    have HA := Lib.hid hA
    by_cases ht : th ≤ wi
    · by_cases ha : A ≤ 200
      · have u1 : und (dT (-grT th wi A) 0 0 (grW th wi A) m m 0 sh) (dW (-grT th wi A) 0 0 (grW th wi A) m m 0 sh) th wi = false := by
          rw [und_green h1 h2 h3 h4 r1 ha h5 h6 ht, hok ha]; rfl
        by_cases hp : 0 < A
        · have u2 : und (dT (-grT th wi (A - 1)) 0 0 (grW th wi (A - 1)) m m 0 sh) (dW (-grT th wi (A - 1)) 0 0 (grW th wi (A - 1)) m m 0 sh) th wi = true := by
            rw [und_green h1 h2 h3 h4 (by omega) (by omega) h5 h6 ht, hno hp]; rfl
          exact enough_a _ _ _ _ _ _ _ _ _ _ _ _ _ _ _ _ _ _ _ _ m A w HA h1 h2 h3 h4 h5 h6 r1 r2 ht ha hp u1 u2
        · exact enough_b _ _ _ _ _ _ _ _ _ _ _ _ _ _ _ _ _ _ _ _ m A w HA h1 h2 h3 h4 h5 h6 r1 r2 ht ha (by omega) u1
      · have u2 : und (dT (-grT th wi (A - 1)) 0 0 (grW th wi (A - 1)) m m 0 sh) (dW (-grT th wi (A - 1)) 0 0 (grW th wi (A - 1)) m m 0 sh) th wi = true := by
          rw [und_green h1 h2 h3 h4 (by omega) (by omega) h5 h6 ht, hno (by omega)]; rfl
        exact enough_c _ _ _ _ _ _ _ _ _ _ _ _ _ _ _ _ _ _ _ _ m A w HA h1 h2 h3 h4 h5 h6 r1 r2 ht (by omega) u2
    · by_cases ha : A ≤ 200
      · by_cases hp : 0 < A
        · exact enough_d _ _ _ _ _ _ _ _ _ _ _ _ _ _ _ _ _ _ _ _ m A w HA h1 h2 h3 h4 h5 h6 r1 r2 (by omega) ha hp
        · exact enough_e _ _ _ _ _ _ _ _ _ _ _ _ _ _ _ _ _ _ _ _ m A w HA h1 h2 h3 h4 h5 h6 r1 r2 (by omega) ha (by omega)
      · exact enough_f _ _ _ _ _ _ _ _ _ _ _ _ _ _ _ _ _ _ _ _ m A w HA h1 h2 h3 h4 h5 h6 r1 r2 (by omega) (by omega)
  · rcases (by omega : th < 1 ∨ (1 ≤ th ∧ wi < 1) ∨ (1 ≤ th ∧ 1 ≤ wi ∧ 480 < th) ∨ (1 ≤ th ∧ 1 ≤ wi ∧ th ≤ 480 ∧ 480 < wi) ∨ (1 ≤ th ∧ 1 ≤ wi ∧ th ≤ 480 ∧ wi ≤ 480 ∧ m < 0) ∨ (1 ≤ th ∧ 1 ≤ wi ∧ th ≤ 480 ∧ wi ≤ 480 ∧ 0 ≤ m ∧ 20000 < m)) with g | ⟨g, g1⟩ | ⟨g, g1, g2⟩ | ⟨g, g1, g2, g3⟩ | ⟨g, g1, g2, g3, g4⟩ | ⟨g, g1, g2, g3, g4, g5⟩
    all_goals
      clear hin
      go_enter Try.func6, Try.ntmps6
      go_wp2_with (first | (go_at_call 15; refine (awake_any _).mono ?_; rintro e w' ⟨rfl, n, rfl⟩))
      go_ret
      refine ⟨rfl, ?_⟩
      exact ExtOf.of (by repeat' (first | (with_reducible exact Ext.refl _) | (with_reducible exact ExtOf.ext _) | (with_reducible refine Ext.trans ?_ (ExtOf.ext _)) | (with_reducible refine Ext.alloc ?_ _) | (with_reducible refine Ext.drew ?_) | (with_reducible refine Ext.setCell ?_ ?_ _) | (with_reducible refine Ext.setRow ?_ ?_ _) | (with_reducible refine Ext.le ?_) | (with_reducible refine Nat.le_add_right_of_le ?_) | (simp; done) | (simp; omega)))

end Go.Proofs.Ytmlgclkclnhmhaa
