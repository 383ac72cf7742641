/-
  The contracts of the functions that the statements about sizing reach (6): the allowance.
-/
import Derived.Test.YtmlgclkclnhmhaaW5
namespace Go.Proofs.Ytmlgclkclnhmhaa
open Go.RowKit

attribute [local go_sem] ExtOf.cell ExtOf.frozen Block.cell Block.frozen

def okA (sh th wi m a : Int) : Bool := decide (th ≤ shr sh (grT th wi a) m ∧ wi ≤ shr sh (grW th wi a) m)
def alwFrom (sh th wi m : Int) : Nat → Int → Int
  | 0, a => a
  | n + 1, a => if okA sh th wi m a = true then a else alwFrom sh th wi m n (a + 1)
def alw (sh th wi m : Int) : Int := if szd th wi = true then alwFrom sh th wi m 201 0 else 201

theorem alw_yes {sh th wi m : Int} {k : Nat} (hk : k < 201) (h1 : decide (th ≤ shr sh (grT th wi k) m) = true) (h2 : decide (wi ≤ shr sh (grW th wi k) m) = true) : alwFrom sh th wi m (201 - k) k = k := by
  obtain ⟨j, hj⟩ : ∃ j, 201 - k = j + 1 := ⟨200 - k, by omega⟩
  have : okA sh th wi m k = true := by simp only [okA, decide_eq_true_eq] at *; exact ⟨h1, h2⟩
  rw [hj, alwFrom, if_pos this]
theorem alw_no {sh th wi m : Int} {k : Nat} (hk : k < 201) (h : okA sh th wi m k = false) : alwFrom sh th wi m (201 - k) k = alwFrom sh th wi m (201 - (k + 1)) ((k + 1 : Nat) : Int) := by
  obtain ⟨j, hj⟩ : ∃ j, 201 - k = j + 1 := ⟨200 - k, by omega⟩
  have e1 : 201 - (k + 1) = j := by omega
  have e2 : ((k + 1 : Nat) : Int) = (k : Int) + 1 := by omega
  rw [hj, e1, e2, alwFrom, if_neg (by simp [h])]
theorem okA_no1 {sh th wi m a : Int} (h : decide (th ≤ shr sh (grT th wi a) m) = false) : okA sh th wi m a = false := by
  simp only [okA, decide_eq_false_iff_not] at *; exact fun hh => h hh.1
theorem okA_no2 {sh th wi m a : Int} (h : decide (wi ≤ shr sh (grW th wi a) m) = false) : okA sh th wi m a = false := by
  simp only [okA, decide_eq_false_iff_not] at *; exact fun hh => h hh.2

def AllowR (w : World) (b0 b1 : Array Value) (wr : World) : Prop := Ext w wr ∧ Block wr w.heap.size b0 ∧ Block wr (w.heap.size + 1) b1


set_option maxRecDepth 20000 in
set_option maxHeartbeats 1600000 in
theorem allow_any (pn pw pl pp : Value) (th wi al : Int) (s0 s1 s2 s3 s4 s5 s6 s7 s8 s9 s10 s11 : Value) (sh : Int) (m : Int) (w : World) :
    Calls Try.prog 16 #[.agg #[pn, .int .i64 th, .int .i64 wi, .int .i64 al, pw, pl, pp], .agg #[s0, s1, s2, s3, s4, s5, s6, s7, s8, s9, s10, s11, .int .i64 sh], .int .i64 m] w fun e w' => e = .returned (.int .i64 (alw sh th wi m)) ∧ ∃ n : ExtOf w, w' = n.val := by
  by_cases h : szd th wi = true
  · have hz : 1 ≤ th ∧ th ≤ 600 ∧ 1 ≤ wi ∧ wi ≤ 600 := by simpa [szd] using h
    have e : alw sh th wi m = alwFrom sh th wi m 201 0 := by simp [alw, h]
    obtain ⟨z1, z2, z3, z4⟩ := hz
    have E := Lib.hid e
    clear e h
    go_enter Try.func16, Try.ntmps16
    go_wp2_with fail
    go_loopw [28] (fun v wr => ∃ k : Nat, k ≤ 201 ∧ v = .int .i64 k ∧ alwFrom sh th wi m 201 0 = alwFrom sh th wi m (201 - k) k ∧ ∃ z : Int, AllowR w #[pn, .int .i64 th, .int .i64 wi, .int .i64 z, pw, pl, pp] #[s0, s1, s2, s3, s4, s5, s6, s7, s8, s9, s10, s11, .int .i64 sh] wr) (fun v _ => 201 - (intOf v).toNat)
    case atStart => exact ⟨0, by omega, rfl, rfl, al, Ext.alloc (Ext.alloc (Ext.refl _) _) _, inferInstance, inferInstance⟩
    case round =>
      obtain ⟨k, hk, rfl, hal, z, hx, hB0, hB1⟩ := hrel
      have HX := Lib.hid hx
      have HA := Lib.hid hal
      clear hx hal
      by_cases hlt : k < 201
      · rcases hok : decide (th ≤ shr sh (grT th wi k) m) with _ | _
        · go_wp2_with (first | (((with_reducible apply wl_load' lwP); (· (first | exact wanted_none rfl | exact wanted_some rfl rfl rfl)); (· rfl); (· infer_instance); (· rfl)); simp only [List.setIfInBounds_toArray, List.set_cons_succ, List.set_cons_zero]) | (go_at_call 20; refine (green_any _ _ _ _ _ _ _ _).mono ?_; rintro e w' ⟨rfl, n, rfl⟩) | (go_at_call 31; refine (rgreen_any _ _ _ _ _ _ _ _).mono ?_; rintro e w' ⟨rfl, n, rfl⟩))
          refine wp_region_ext (by kernel_rfl) (by kernel_rfl) ?_
          repeat (first | go_big_quiet_skip | ((with_reducible apply q_load' lwB); (· (first | exact wanted_none rfl | exact wanted_some rfl rfl rfl)); (· rfl); (· infer_instance); (· rfl); simp only [Act.put, List.setIfInBounds_toArray, List.set_cons_succ, List.set_cons_zero]) | ((with_reducible apply q_load' lwP); (· (first | exact wanted_none rfl | exact wanted_some rfl rfl rfl)); (· rfl); (· infer_instance); (· rfl); simp only [Act.put, List.setIfInBounds_toArray, List.set_cons_succ, List.set_cons_zero]) | ((with_reducible apply q_load' lwS); (· (first | exact wanted_none rfl | exact wanted_some rfl rfl rfl)); (· rfl); (· infer_instance); (· rfl); simp only [Act.put, List.setIfInBounds_toArray, List.set_cons_succ, List.set_cons_zero]) | go_big_quiet_step ((first | (go_at_call 24; exact ext_call (shrunk_any _ _ _ _ _ _ _ _ _ _ _ _ _ _ _ _)) | (go_at_call 27; exact ext_call (rshrunk_any _ _ _ _ _ _ _ _ _ _ _ _ _ _ _ _)))))
          refine wpQuiet_nil ?_
          intro _ hw'
          obtain ⟨nq, hw''⟩ := hw'
          subst hw''
          go_wp2
          go_roundw
          case rel => exact ⟨k + 1, by omega, by go_num, by rw [HA.out, alw_no hlt (okA_no1 hok)], k, by repeat' (first | (with_reducible exact Ext.refl _) | (with_reducible exact HX.out) | (with_reducible exact ExtOf.ext _) | (with_reducible refine Ext.trans ?_ (ExtOf.ext _)) | (with_reducible refine Ext.alloc ?_ _) | (with_reducible refine Ext.drew ?_) | (with_reducible refine Ext.setCell ?_ ?_ _) | (simp; done) | (simp; omega)), inferInstance, inferInstance⟩
          case measure => simp [intOf]; omega
        · rcases hok2 : decide (wi ≤ shr sh (grW th wi k) m) with _ | _
          · go_wp2_with (first | (((with_reducible apply wl_load' lwP); (· (first | exact wanted_none rfl | exact wanted_some rfl rfl rfl)); (· rfl); (· infer_instance); (· rfl)); simp only [List.setIfInBounds_toArray, List.set_cons_succ, List.set_cons_zero]) | (go_at_call 20; refine (green_any _ _ _ _ _ _ _ _).mono ?_; rintro e w' ⟨rfl, n, rfl⟩) | (go_at_call 31; refine (rgreen_any _ _ _ _ _ _ _ _).mono ?_; rintro e w' ⟨rfl, n, rfl⟩))
            refine wp_region_ext (by kernel_rfl) (by kernel_rfl) ?_
            repeat (first | go_big_quiet_skip | ((with_reducible apply q_load' lwB); (· (first | exact wanted_none rfl | exact wanted_some rfl rfl rfl)); (· rfl); (· infer_instance); (· rfl); simp only [Act.put, List.setIfInBounds_toArray, List.set_cons_succ, List.set_cons_zero]) | ((with_reducible apply q_load' lwP); (· (first | exact wanted_none rfl | exact wanted_some rfl rfl rfl)); (· rfl); (· infer_instance); (· rfl); simp only [Act.put, List.setIfInBounds_toArray, List.set_cons_succ, List.set_cons_zero]) | ((with_reducible apply q_load' lwS); (· (first | exact wanted_none rfl | exact wanted_some rfl rfl rfl)); (· rfl); (· infer_instance); (· rfl); simp only [Act.put, List.setIfInBounds_toArray, List.set_cons_succ, List.set_cons_zero]) | go_big_quiet_step ((first | (go_at_call 24; exact ext_call (shrunk_any _ _ _ _ _ _ _ _ _ _ _ _ _ _ _ _)) | (go_at_call 27; exact ext_call (rshrunk_any _ _ _ _ _ _ _ _ _ _ _ _ _ _ _ _)))))
            refine wpQuiet_nil ?_
            intro _ hw'
            obtain ⟨nq, hw''⟩ := hw'
            subst hw''
            go_wp2
            go_roundw
            case rel => exact ⟨k + 1, by omega, by go_num, by rw [HA.out, alw_no hlt (okA_no2 hok2)], k, by repeat' (first | (with_reducible exact Ext.refl _) | (with_reducible exact HX.out) | (with_reducible exact ExtOf.ext _) | (with_reducible refine Ext.trans ?_ (ExtOf.ext _)) | (with_reducible refine Ext.alloc ?_ _) | (with_reducible refine Ext.drew ?_) | (with_reducible refine Ext.setCell ?_ ?_ _) | (simp; done) | (simp; omega)), inferInstance, inferInstance⟩
            case measure => simp [intOf]; omega
          · go_wp2_with (first | (((with_reducible apply wl_load' lwP); (· (first | exact wanted_none rfl | exact wanted_some rfl rfl rfl)); (· rfl); (· infer_instance); (· rfl)); simp only [List.setIfInBounds_toArray, List.set_cons_succ, List.set_cons_zero]) | (go_at_call 20; refine (green_any _ _ _ _ _ _ _ _).mono ?_; rintro e w' ⟨rfl, n, rfl⟩) | (go_at_call 31; refine (rgreen_any _ _ _ _ _ _ _ _).mono ?_; rintro e w' ⟨rfl, n, rfl⟩))
            refine wp_region_ext (by kernel_rfl) (by kernel_rfl) ?_
            repeat (first | go_big_quiet_skip | ((with_reducible apply q_load' lwB); (· (first | exact wanted_none rfl | exact wanted_some rfl rfl rfl)); (· rfl); (· infer_instance); (· rfl); simp only [Act.put, List.setIfInBounds_toArray, List.set_cons_succ, List.set_cons_zero]) | ((with_reducible apply q_load' lwP); (· (first | exact wanted_none rfl | exact wanted_some rfl rfl rfl)); (· rfl); (· infer_instance); (· rfl); simp only [Act.put, List.setIfInBounds_toArray, List.set_cons_succ, List.set_cons_zero]) | ((with_reducible apply q_load' lwS); (· (first | exact wanted_none rfl | exact wanted_some rfl rfl rfl)); (· rfl); (· infer_instance); (· rfl); simp only [Act.put, List.setIfInBounds_toArray, List.set_cons_succ, List.set_cons_zero]) | go_big_quiet_step ((first | (go_at_call 24; exact ext_call (shrunk_any _ _ _ _ _ _ _ _ _ _ _ _ _ _ _ _)) | (go_at_call 27; exact ext_call (rshrunk_any _ _ _ _ _ _ _ _ _ _ _ _ _ _ _ _)))))
            refine wpQuiet_nil ?_
            intro _ hw'
            obtain ⟨nq, hw''⟩ := hw'
            subst hw''
            go_wp2
            go_ret
            refine ⟨ret_int ?_, ExtOf.of (by repeat' (first | (with_reducible exact Ext.refl _) | (with_reducible exact HX.out) | (with_reducible exact ExtOf.ext _) | (with_reducible refine Ext.trans ?_ (ExtOf.ext _)) | (with_reducible refine Ext.alloc ?_ _) | (with_reducible refine Ext.drew ?_) | (with_reducible refine Ext.setCell ?_ ?_ _) | (simp; done) | (simp; omega)))⟩
            rw [E.out, HA.out, alw_yes hlt hok hok2]
      · go_wp2
        go_ret
        refine ⟨ret_int ?_, ExtOf.of (by repeat' (first | (with_reducible exact Ext.refl _) | (with_reducible exact HX.out) | (with_reducible exact ExtOf.ext _) | (with_reducible refine Ext.trans ?_ (ExtOf.ext _)) | (with_reducible refine Ext.alloc ?_ _) | (with_reducible refine Ext.drew ?_) | (with_reducible refine Ext.setCell ?_ ?_ _) | (simp; done) | (simp; omega)))⟩
        obtain rfl : k = 201 := by omega
        rw [E.out, HA.out, Nat.sub_self, alwFrom]; omega
  · have e : alw sh th wi m = 201 := by simp [alw, h]
    have hz : ¬ (1 ≤ th ∧ th ≤ 600 ∧ 1 ≤ wi ∧ wi ≤ 600) := by simpa [szd] using h
    rw [e]; clear e h
    rcases (by omega : th < 1 ∨ (1 ≤ th ∧ 600 < th) ∨ (1 ≤ th ∧ th ≤ 600 ∧ wi < 1) ∨ (1 ≤ th ∧ th ≤ 600 ∧ 1 ≤ wi ∧ 600 < wi)) with g | ⟨g, g'⟩ | ⟨g, g', g''⟩ | ⟨g, g', g'', g3⟩
    all_goals
      clear hz
      go_enter Try.func16, Try.ntmps16
      go_wp2_with fail
      go_ret
      refine ⟨rfl, ?_⟩
      exact ExtOf.of (by repeat' (first | (with_reducible exact Ext.refl _) | (with_reducible exact ExtOf.ext _) | (with_reducible refine Ext.trans ?_ (ExtOf.ext _)) | (with_reducible refine Ext.alloc ?_ _) | (with_reducible refine Ext.drew ?_) | (with_reducible refine Ext.setCell ?_ ?_ _) | (with_reducible refine Ext.setRow ?_ ?_ _) | (simp; done) | (simp; omega)))

set_option maxRecDepth 20000 in
set_option maxHeartbeats 1600000 in
theorem rallow_any (pn pw pl pp : Value) (th wi al : Int) (s0 s1 s2 s3 s4 s5 s6 s7 s8 s9 s10 s11 : Value) (sh : Int) (m : Int) (w : World) :
    Calls Try.prog 17 #[.agg #[pn, .int .i64 th, .int .i64 wi, .int .i64 al, pw, pl, pp], .agg #[s0, s1, s2, s3, s4, s5, s6, s7, s8, s9, s10, s11, .int .i64 sh], .int .i64 m] w fun e w' => e = .returned (.int .i64 (alw sh th wi m)) ∧ ∃ n : ExtOf w, w' = n.val := by
  by_cases h : szd th wi = true
  · have hz : 1 ≤ th ∧ th ≤ 600 ∧ 1 ≤ wi ∧ wi ≤ 600 := by simpa [szd] using h
    have e : alw sh th wi m = alwFrom sh th wi m 201 0 := by simp [alw, h]
    obtain ⟨z1, z2, z3, z4⟩ := hz
    have E := Lib.hid e
    clear e h
    go_enter Try.func17, Try.ntmps17
    go_wp2_with fail
    go_loopw [7] (fun v wr => ∃ k : Nat, k ≤ 201 ∧ v = .int .i64 k ∧ alwFrom sh th wi m 201 0 = alwFrom sh th wi m (201 - k) k ∧ AllowR w #[pn, .int .i64 th, .int .i64 wi, .int .i64 al, pw, pl, pp] #[s0, s1, s2, s3, s4, s5, s6, s7, s8, s9, s10, s11, .int .i64 sh] wr) (fun v _ => 201 - (intOf v).toNat)
    case atStart => exact ⟨0, by omega, rfl, rfl, Ext.alloc (Ext.alloc (Ext.refl _) _) _, inferInstance, inferInstance⟩
    case round =>
      obtain ⟨k, hk, rfl, hal, hx, hB0, hB1⟩ := hrel
      have HX := Lib.hid hx
      have HA := Lib.hid hal
      clear hx hal
      by_cases hlt : k < 201
      · rcases hok : decide (th ≤ shr sh (grT th wi k) m) with _ | _
        · go_wp2_with (first | (((with_reducible apply wl_load' lwP); (· (first | exact wanted_none rfl | exact wanted_some rfl rfl rfl)); (· rfl); (· infer_instance); (· rfl)); simp only [List.setIfInBounds_toArray, List.set_cons_succ, List.set_cons_zero]) | (go_at_call 20; refine (green_any _ _ _ _ _ _ _ _).mono ?_; rintro e w' ⟨rfl, n, rfl⟩) | (go_at_call 31; refine (rgreen_any _ _ _ _ _ _ _ _).mono ?_; rintro e w' ⟨rfl, n, rfl⟩))
          refine wp_region_ext (by kernel_rfl) (by kernel_rfl) ?_
          repeat (first | go_big_quiet_skip | ((with_reducible apply q_load' lwB); (· (first | exact wanted_none rfl | exact wanted_some rfl rfl rfl)); (· rfl); (· infer_instance); (· rfl); simp only [Act.put, List.setIfInBounds_toArray, List.set_cons_succ, List.set_cons_zero]) | ((with_reducible apply q_load' lwP); (· (first | exact wanted_none rfl | exact wanted_some rfl rfl rfl)); (· rfl); (· infer_instance); (· rfl); simp only [Act.put, List.setIfInBounds_toArray, List.set_cons_succ, List.set_cons_zero]) | ((with_reducible apply q_load' lwS); (· (first | exact wanted_none rfl | exact wanted_some rfl rfl rfl)); (· rfl); (· infer_instance); (· rfl); simp only [Act.put, List.setIfInBounds_toArray, List.set_cons_succ, List.set_cons_zero]) | go_big_quiet_step ((first | (go_at_call 24; exact ext_call (shrunk_any _ _ _ _ _ _ _ _ _ _ _ _ _ _ _ _)) | (go_at_call 27; exact ext_call (rshrunk_any _ _ _ _ _ _ _ _ _ _ _ _ _ _ _ _)))))
          refine wpQuiet_nil ?_
          intro _ hw'
          obtain ⟨nq, hw''⟩ := hw'
          subst hw''
          go_wp2
          go_roundw
          case rel => exact ⟨k + 1, by omega, by go_num, by rw [HA.out, alw_no hlt (okA_no1 hok)], by repeat' (first | (with_reducible exact Ext.refl _) | (with_reducible exact HX.out) | (with_reducible exact ExtOf.ext _) | (with_reducible refine Ext.trans ?_ (ExtOf.ext _)) | (with_reducible refine Ext.alloc ?_ _) | (with_reducible refine Ext.drew ?_) | (with_reducible refine Ext.setCell ?_ ?_ _) | (simp; done) | (simp; omega)), inferInstance, inferInstance⟩
          case measure => simp [intOf]; omega
        · rcases hok2 : decide (wi ≤ shr sh (grW th wi k) m) with _ | _
          · go_wp2_with (first | (((with_reducible apply wl_load' lwP); (· (first | exact wanted_none rfl | exact wanted_some rfl rfl rfl)); (· rfl); (· infer_instance); (· rfl)); simp only [List.setIfInBounds_toArray, List.set_cons_succ, List.set_cons_zero]) | (go_at_call 20; refine (green_any _ _ _ _ _ _ _ _).mono ?_; rintro e w' ⟨rfl, n, rfl⟩) | (go_at_call 31; refine (rgreen_any _ _ _ _ _ _ _ _).mono ?_; rintro e w' ⟨rfl, n, rfl⟩))
            refine wp_region_ext (by kernel_rfl) (by kernel_rfl) ?_
            repeat (first | go_big_quiet_skip | ((with_reducible apply q_load' lwB); (· (first | exact wanted_none rfl | exact wanted_some rfl rfl rfl)); (· rfl); (· infer_instance); (· rfl); simp only [Act.put, List.setIfInBounds_toArray, List.set_cons_succ, List.set_cons_zero]) | ((with_reducible apply q_load' lwP); (· (first | exact wanted_none rfl | exact wanted_some rfl rfl rfl)); (· rfl); (· infer_instance); (· rfl); simp only [Act.put, List.setIfInBounds_toArray, List.set_cons_succ, List.set_cons_zero]) | ((with_reducible apply q_load' lwS); (· (first | exact wanted_none rfl | exact wanted_some rfl rfl rfl)); (· rfl); (· infer_instance); (· rfl); simp only [Act.put, List.setIfInBounds_toArray, List.set_cons_succ, List.set_cons_zero]) | go_big_quiet_step ((first | (go_at_call 24; exact ext_call (shrunk_any _ _ _ _ _ _ _ _ _ _ _ _ _ _ _ _)) | (go_at_call 27; exact ext_call (rshrunk_any _ _ _ _ _ _ _ _ _ _ _ _ _ _ _ _)))))
            refine wpQuiet_nil ?_
            intro _ hw'
            obtain ⟨nq, hw''⟩ := hw'
            subst hw''
            go_wp2
            go_roundw
            case rel => exact ⟨k + 1, by omega, by go_num, by rw [HA.out, alw_no hlt (okA_no2 hok2)], by repeat' (first | (with_reducible exact Ext.refl _) | (with_reducible exact HX.out) | (with_reducible exact ExtOf.ext _) | (with_reducible refine Ext.trans ?_ (ExtOf.ext _)) | (with_reducible refine Ext.alloc ?_ _) | (with_reducible refine Ext.drew ?_) | (with_reducible refine Ext.setCell ?_ ?_ _) | (simp; done) | (simp; omega)), inferInstance, inferInstance⟩
            case measure => simp [intOf]; omega
          · go_wp2_with (first | (((with_reducible apply wl_load' lwP); (· (first | exact wanted_none rfl | exact wanted_some rfl rfl rfl)); (· rfl); (· infer_instance); (· rfl)); simp only [List.setIfInBounds_toArray, List.set_cons_succ, List.set_cons_zero]) | (go_at_call 20; refine (green_any _ _ _ _ _ _ _ _).mono ?_; rintro e w' ⟨rfl, n, rfl⟩) | (go_at_call 31; refine (rgreen_any _ _ _ _ _ _ _ _).mono ?_; rintro e w' ⟨rfl, n, rfl⟩))
            refine wp_region_ext (by kernel_rfl) (by kernel_rfl) ?_
            repeat (first | go_big_quiet_skip | ((with_reducible apply q_load' lwB); (· (first | exact wanted_none rfl | exact wanted_some rfl rfl rfl)); (· rfl); (· infer_instance); (· rfl); simp only [Act.put, List.setIfInBounds_toArray, List.set_cons_succ, List.set_cons_zero]) | ((with_reducible apply q_load' lwP); (· (first | exact wanted_none rfl | exact wanted_some rfl rfl rfl)); (· rfl); (· infer_instance); (· rfl); simp only [Act.put, List.setIfInBounds_toArray, List.set_cons_succ, List.set_cons_zero]) | ((with_reducible apply q_load' lwS); (· (first | exact wanted_none rfl | exact wanted_some rfl rfl rfl)); (· rfl); (· infer_instance); (· rfl); simp only [Act.put, List.setIfInBounds_toArray, List.set_cons_succ, List.set_cons_zero]) | go_big_quiet_step ((first | (go_at_call 24; exact ext_call (shrunk_any _ _ _ _ _ _ _ _ _ _ _ _ _ _ _ _)) | (go_at_call 27; exact ext_call (rshrunk_any _ _ _ _ _ _ _ _ _ _ _ _ _ _ _ _)))))
            refine wpQuiet_nil ?_
            intro _ hw'
            obtain ⟨nq, hw''⟩ := hw'
            subst hw''
            go_wp2
            go_ret
            refine ⟨ret_int ?_, ExtOf.of (by repeat' (first | (with_reducible exact Ext.refl _) | (with_reducible exact HX.out) | (with_reducible exact ExtOf.ext _) | (with_reducible refine Ext.trans ?_ (ExtOf.ext _)) | (with_reducible refine Ext.alloc ?_ _) | (with_reducible refine Ext.drew ?_) | (with_reducible refine Ext.setCell ?_ ?_ _) | (simp; done) | (simp; omega)))⟩
            rw [E.out, HA.out, alw_yes hlt hok hok2]
      · go_wp2
        go_ret
        refine ⟨ret_int ?_, ExtOf.of (by repeat' (first | (with_reducible exact Ext.refl _) | (with_reducible exact HX.out) | (with_reducible exact ExtOf.ext _) | (with_reducible refine Ext.trans ?_ (ExtOf.ext _)) | (with_reducible refine Ext.alloc ?_ _) | (with_reducible refine Ext.drew ?_) | (with_reducible refine Ext.setCell ?_ ?_ _) | (simp; done) | (simp; omega)))⟩
        obtain rfl : k = 201 := by omega
        rw [E.out, HA.out, Nat.sub_self, alwFrom]; omega
  · have e : alw sh th wi m = 201 := by simp [alw, h]
    have hz : ¬ (1 ≤ th ∧ th ≤ 600 ∧ 1 ≤ wi ∧ wi ≤ 600) := by simpa [szd] using h
    rw [e]; clear e h
    rcases (by omega : th < 1 ∨ (1 ≤ th ∧ 600 < th) ∨ (1 ≤ th ∧ th ≤ 600 ∧ wi < 1) ∨ (1 ≤ th ∧ th ≤ 600 ∧ 1 ≤ wi ∧ 600 < wi)) with g | ⟨g, g'⟩ | ⟨g, g', g''⟩ | ⟨g, g', g'', g3⟩
    all_goals
      clear hz
      go_enter Try.func17, Try.ntmps17
      go_wp2_with fail
      go_ret
      refine ⟨rfl, ?_⟩
      exact ExtOf.of (by repeat' (first | (with_reducible exact Ext.refl _) | (with_reducible exact ExtOf.ext _) | (with_reducible refine Ext.trans ?_ (ExtOf.ext _)) | (with_reducible refine Ext.alloc ?_ _) | (with_reducible refine Ext.drew ?_) | (with_reducible refine Ext.setCell ?_ ?_ _) | (with_reducible refine Ext.setRow ?_ ?_ _) | (simp; done) | (simp; omega)))

end Go.Proofs.Ytmlgclkclnhmhaa
