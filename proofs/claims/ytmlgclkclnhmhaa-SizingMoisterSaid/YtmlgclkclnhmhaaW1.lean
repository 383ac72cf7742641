/-
  The contracts of the functions that the statements about sizing reach: what each returns, old memory as it was.
-/
import Derived.Test.YtmlgclkclnhmhaaRows
import Derived.Test.YtmlgclkclnhmhaaBase
namespace Go.Proofs.Ytmlgclkclnhmhaa
open Go.RowKit

attribute [local go_sem] ExtOf.cell ExtOf.frozen

theorem ret_int {k : IntKind} {a b : Int} (h : a = b) : Ending.returned (.int k a) = .returned (.int k b) := by rw [h]
theorem ret_bool {a b : Bool} (h : a = b) : Ending.returned (.bool a) = .returned (.bool b) := by rw [h]

theorem lwB : Whole Try.prog 30 18 := whole_of Try.underlying30 rfl (by kernel_rfl)
theorem lwP : Whole Try.prog 33 7 := whole_of Try.underlying33 rfl (by kernel_rfl)
theorem lwS : Whole Try.prog 35 13 := whole_of Try.underlying35 rfl (by kernel_rfl)

def acr (a b : Int) : Bool := decide (-600 ≤ a ∧ a < b ∧ b ≤ 600)
def mck (s c t : Int) : Int := if s < 0 ∨ 20000 < s ∨ c < 0 ∨ 20000 < c then 25 else if t < 0 ∨ 1099511627776 < t then 9 else 0
def mean (s c t : Int) : Int := if mck s c t = 0 then (s + 2 * c) / 3 else 0
def shr (sh size m : Int) : Int := if size < 0 ∨ 20000 < size ∨ sh < 0 ∨ 200 < sh then size else size - size * sh * (3000 - max 0 (min m 3000)) / 3000000

set_option maxHeartbeats 400000 in
theorem across_any (a b : Int) (w : World) :
    Calls Try.prog 23 #[.agg #[.int .i64 a, .int .i64 b]] w fun e w' => e = .returned (.bool (acr a b)) ∧ ∃ n : ExtOf w, w' = n.val := by
  go_enter Try.func23, Try.ntmps23
  go_wp2
  all_goals
    go_ret
    refine ⟨ret_bool ?_, ?_⟩
    · simp [acr, *]; try omega
    · exact ExtOf.of (by repeat' (first | (with_reducible exact Ext.refl _) | (with_reducible exact ExtOf.ext _) | (with_reducible refine Ext.trans ?_ (ExtOf.ext _)) | (with_reducible refine Ext.alloc ?_ _) | (with_reducible refine Ext.drew ?_) | (with_reducible refine Ext.setCell ?_ ?_ _) | (with_reducible refine Ext.setRow ?_ ?_ _) | (simp; done) | (simp; omega)))

set_option maxHeartbeats 400000 in
theorem rplaced_any (a b : Int) (w : World) :
    Calls Try.prog 37 #[.agg #[.int .i64 a, .int .i64 b]] w fun e w' => e = .returned (.bool (acr a b)) ∧ ∃ n : ExtOf w, w' = n.val := by
  go_enter Try.func37, Try.ntmps37
  go_wp2
  all_goals
    go_ret
    refine ⟨ret_bool ?_, ?_⟩
    · simp [acr, *]; try omega
    · exact ExtOf.of (by repeat' (first | (with_reducible exact Ext.refl _) | (with_reducible exact ExtOf.ext _) | (with_reducible refine Ext.trans ?_ (ExtOf.ext _)) | (with_reducible refine Ext.alloc ?_ _) | (with_reducible refine Ext.drew ?_) | (with_reducible refine Ext.setCell ?_ ?_ _) | (with_reducible refine Ext.setRow ?_ ?_ _) | (simp; done) | (simp; omega)))

set_option maxHeartbeats 400000 in
theorem mcheck_any (su co st : Int) (w : World) :
    Calls Try.prog 19 #[.agg #[.int .i64 su, .int .i64 co, .int .i64 st]] w fun e w' => e = .returned (.int .i64 (mck su co st)) ∧ ∃ n : ExtOf w, w' = n.val := by
  go_enter Try.func19, Try.ntmps19
  go_wp2
  all_goals
    go_ret
    refine ⟨ret_int ?_, ?_⟩
    · unfold mck; (repeat' split) <;> omega
    · exact ExtOf.of (by repeat' (first | (with_reducible exact Ext.refl _) | (with_reducible exact ExtOf.ext _) | (with_reducible refine Ext.trans ?_ (ExtOf.ext _)) | (with_reducible refine Ext.alloc ?_ _) | (with_reducible refine Ext.drew ?_) | (with_reducible refine Ext.setCell ?_ ?_ _) | (with_reducible refine Ext.setRow ?_ ?_ _) | (simp; done) | (simp; omega)))

set_option maxHeartbeats 400000 in
theorem rmcheck_any (su co st : Int) (w : World) :
    Calls Try.prog 38 #[.agg #[.int .i64 su, .int .i64 co, .int .i64 st]] w fun e w' => e = .returned (.int .i64 (mck su co st)) ∧ ∃ n : ExtOf w, w' = n.val := by
  go_enter Try.func38, Try.ntmps38
  go_wp2
  all_goals
    go_ret
    refine ⟨ret_int ?_, ?_⟩
    · unfold mck; (repeat' split) <;> omega
    · exact ExtOf.of (by repeat' (first | (with_reducible exact Ext.refl _) | (with_reducible exact ExtOf.ext _) | (with_reducible refine Ext.trans ?_ (ExtOf.ext _)) | (with_reducible refine Ext.alloc ?_ _) | (with_reducible refine Ext.drew ?_) | (with_reducible refine Ext.setCell ?_ ?_ _) | (with_reducible refine Ext.setRow ?_ ?_ _) | (simp; done) | (simp; omega)))

theorem mck_zero {su co st : Int} (h : mck su co st = 0) : 0 ≤ su ∧ su ≤ 20000 ∧ 0 ≤ co ∧ co ≤ 20000 ∧ 0 ≤ st ∧ st ≤ 1099511627776 := by
  unfold mck at h; (repeat' split at h) <;> omega

set_option maxHeartbeats 400000 in
theorem mean_any (su co st : Int) (w : World) :
    Calls Try.prog 22 #[.agg #[.int .i64 su, .int .i64 co, .int .i64 st]] w fun e w' => e = .returned (.int .i64 (mean su co st)) ∧ ∃ n : ExtOf w, w' = n.val := by
  by_cases h : mck su co st = 0
  · have hz := mck_zero h
    obtain ⟨h1, h2, h3, h4, _, _⟩ := hz
    have hb : (mck su co st != 0) = false := by simp [h]
    go_enter Try.func22, Try.ntmps22
    go_wp2_with (go_at_call 19; refine (mcheck_any _ _ _ _).mono ?_; rintro e w' ⟨rfl, n, rfl⟩)
    go_ret
    refine ⟨ret_int ?_, ?_⟩
    · simp [mean, h]
    · exact ExtOf.of (by repeat' (first | (with_reducible exact Ext.refl _) | (with_reducible exact ExtOf.ext _) | (with_reducible refine Ext.trans ?_ (ExtOf.ext _)) | (with_reducible refine Ext.alloc ?_ _) | (with_reducible refine Ext.drew ?_) | (with_reducible refine Ext.setCell ?_ ?_ _) | (with_reducible refine Ext.setRow ?_ ?_ _) | (simp; done) | (simp; omega)))
  · have hb : (mck su co st != 0) = true := by simp [h]
    go_enter Try.func22, Try.ntmps22
    go_wp2_with (go_at_call 19; refine (mcheck_any _ _ _ _).mono ?_; rintro e w' ⟨rfl, n, rfl⟩)
    go_ret
    refine ⟨ret_int ?_, ?_⟩
    · simp [mean, h]
    · exact ExtOf.of (by repeat' (first | (with_reducible exact Ext.refl _) | (with_reducible exact ExtOf.ext _) | (with_reducible refine Ext.trans ?_ (ExtOf.ext _)) | (with_reducible refine Ext.alloc ?_ _) | (with_reducible refine Ext.drew ?_) | (with_reducible refine Ext.setCell ?_ ?_ _) | (with_reducible refine Ext.setRow ?_ ?_ _) | (simp; done) | (simp; omega)))

set_option maxHeartbeats 400000 in
theorem clamp_any (x : Int) (w : World) :
    Calls Try.prog 36 #[.int .i64 x, .int .i64 0, .int .i64 3000] w fun e w' => e = .returned (.int .i64 (max 0 (min x 3000))) ∧ ∃ n : ExtOf w, w' = n.val := by
  go_enter Try.func36, Try.ntmps36
  go_wp2
  all_goals
    go_ret
    refine ⟨ret_int ?_, ?_⟩
    · omega
    · exact ExtOf.of (by repeat' (first | (with_reducible exact Ext.refl _) | (with_reducible exact ExtOf.ext _) | (with_reducible refine Ext.trans ?_ (ExtOf.ext _)) | (with_reducible refine Ext.alloc ?_ _) | (with_reducible refine Ext.drew ?_) | (with_reducible refine Ext.setCell ?_ ?_ _) | (with_reducible refine Ext.setRow ?_ ?_ _) | (simp; done) | (simp; omega)))

theorem shr_nn (a sh d : Int) (h1 : 0 ≤ a) (h2 : a ≤ 20000) (h3 : 0 ≤ sh) (h4 : sh ≤ 200) (h5 : 0 ≤ d) (h6 : d ≤ 3000) : 0 ≤ a * sh ∧ a * sh ≤ 4000000 ∧ 0 ≤ a * sh * d ∧ a * sh * d ≤ 12000000000 := by
  have e1 : 0 ≤ a * sh := Int.mul_nonneg h1 h3
  have e2 : a * sh ≤ 20000 * 200 := Int.mul_le_mul h2 h4 h3 (by omega)
  have e3 : 0 ≤ a * sh * d := Int.mul_nonneg e1 h5
  have e4 : a * sh * d ≤ 4000000 * 3000 := Int.mul_le_mul (by omega) h6 h5 (by omega)
  omega

set_option maxHeartbeats 400000 in
theorem shrunk_any (s0 s1 s2 s3 s4 s5 s6 s7 s8 s9 s10 s11 : Value) (sh : Int) (size m : Int) (w : World) :
    Calls Try.prog 24 #[.agg #[s0, s1, s2, s3, s4, s5, s6, s7, s8, s9, s10, s11, .int .i64 sh], .int .i64 size, .int .i64 m] w fun e w' => e = .returned (.int .i64 (shr sh size m)) ∧ ∃ n : ExtOf w, w' = n.val := by
  by_cases h : size < 0 ∨ 20000 < size ∨ sh < 0 ∨ 200 < sh
  · have e : shr sh size m = size := by simp [shr, h]
    rw [e]; clear e
    go_enter Try.func24, Try.ntmps24
    go_wp2_with (go_at_call 36; refine (clamp_any _ _).mono ?_; rintro e w' ⟨rfl, n, rfl⟩)
    all_goals first | (exfalso; omega) | skip
    all_goals
      go_ret
      refine ⟨rfl, ?_⟩
      exact ExtOf.of (by repeat' (first | (with_reducible exact Ext.refl _) | (with_reducible exact ExtOf.ext _) | (with_reducible refine Ext.trans ?_ (ExtOf.ext _)) | (with_reducible refine Ext.alloc ?_ _) | (with_reducible refine Ext.drew ?_) | (with_reducible refine Ext.setCell ?_ ?_ _) | (with_reducible refine Ext.setRow ?_ ?_ _) | (simp; done) | (simp; omega)))
  · obtain ⟨h1, h2, h3, h4⟩ : 0 ≤ size ∧ size ≤ 20000 ∧ 0 ≤ sh ∧ sh ≤ 200 := by omega
    obtain ⟨g1, g2, g3, g4⟩ := shr_nn size sh (3000 - max 0 (min m 3000)) h1 h2 h3 h4 (by omega) (by omega)
    have e : shr sh size m = size - size * sh * (3000 - max 0 (min m 3000)) / 3000000 := by simp [shr, h]
    rw [e]; clear e
    obtain ⟨d, hd, d1, d2⟩ : ∃ d, d = max 0 (min m 3000) ∧ 0 ≤ d ∧ d ≤ 3000 := ⟨_, rfl, by omega, by omega⟩
    rw [← hd] at g3 g4 ⊢
    have hD : Hid (d = max 0 (min m 3000)) := hd
    clear hd h
    go_enter Try.func24, Try.ntmps24
    go_wp2_with (go_at_call 36; refine (clamp_any _ _).mono ?_; rintro e w' ⟨rfl, n, rfl⟩; rw [← hD.out])
    go_ret
    refine ⟨ret_int ?_, ?_⟩
    · omega
    · exact ExtOf.of (by repeat' (first | (with_reducible exact Ext.refl _) | (with_reducible exact ExtOf.ext _) | (with_reducible refine Ext.trans ?_ (ExtOf.ext _)) | (with_reducible refine Ext.alloc ?_ _) | (with_reducible refine Ext.drew ?_) | (with_reducible refine Ext.setCell ?_ ?_ _) | (with_reducible refine Ext.setRow ?_ ?_ _) | (simp; done) | (simp; omega)))

end Go.Proofs.Ytmlgclkclnhmhaa
