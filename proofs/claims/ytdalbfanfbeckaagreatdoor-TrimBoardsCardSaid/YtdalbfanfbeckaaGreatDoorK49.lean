/-
  Chapter 26: several texts in one (R5, R49).
-/
import Derived.Test.YtdalbfanfbeckaaGreatDoorK43
/-
  Chapter 26: common parts of spans and boxes; the check of a defect.
-/
section
set_option linter.unusedVariables false
set_option linter.unusedSimpArgs false
namespace Go.Proofs.YtdalbfanfbeckaaGreatDoor
open Go.RowKit TrimM

attribute [local go_sem] ExtOf.cell ExtOf.frozen ExtS.cell ExtS.frozen Block.cell Block.frozen ExtB.cell ExtB.frozen alloc_cell alloc_frozen
set_option maxHeartbeats 400000 in
theorem smeet_any (a b c d : Int) (w : World) : Calls Tryz.prog 63 #[.agg #[.int .i64 a, .int .i64 b], .agg #[.int .i64 c, .int .i64 d]] w fun e w' => e = .returned (.agg #[.int .i64 (TrimM.meetS a b c d).1, .int .i64 (TrimM.meetS a b c d).2]) ∧ ∃ n : ExtOf w, w' = n.val := by
  have mn : (if d < b then d else b) = min b d := by split <;> omega
  have mx : (if a < c then c else a) = max a c := by split <;> omega
  by_cases h : max a c < min b d
  · have e : TrimM.meetS a b c d = (max a c, min b d) := by unfold TrimM.meetS; rw [if_neg (by omega)]
    rw [e]; clear e
    have h' : decide (min b d ≤ max a c) = false := decide_eq_false (by omega)
    clear h
    go_enter Tryz.func63, Tryz.ntmps63
    go_wp2
    refine bodyPost_ret (v := .agg #[.int .i64 (max a c), .int .i64 (min b d)]) (by simp [results, Tryz.results63, go_sem]) rfl ⟨rfl, ?_⟩
    exact ExtOf.of (by repeat' (first | (with_reducible exact Ext.refl _) | (with_reducible exact ExtOf.ext _) | (with_reducible refine Ext.trans ?_ (ExtOf.ext _)) | (with_reducible refine Ext.alloc ?_ _) | (with_reducible refine Ext.drew ?_) | (with_reducible refine Ext.setCell ?_ ?_ _) | (with_reducible refine Ext.setRow ?_ ?_ _) | (with_reducible exact HX.out) | (with_reducible refine Ext.trans ?_ HX.out) | (with_reducible refine Ext.below ?_ (Nat.le_refl _) _) | omega | (simp; done) | (simp; omega)))
  · have e : TrimM.meetS a b c d = (0, 0) := by unfold TrimM.meetS; rw [if_pos (by omega)]
    rw [e]; clear e
    have h' : decide (min b d ≤ max a c) = true := decide_eq_true (by omega)
    clear h
    go_enter Tryz.func63, Tryz.ntmps63
    go_wp2
    refine bodyPost_ret (v := .agg #[.int .i64 0, .int .i64 0]) (by simp [results, Tryz.results63, go_sem]) rfl ⟨rfl, ?_⟩
    exact ExtOf.of (by repeat' (first | (with_reducible exact Ext.refl _) | (with_reducible exact ExtOf.ext _) | (with_reducible refine Ext.trans ?_ (ExtOf.ext _)) | (with_reducible refine Ext.alloc ?_ _) | (with_reducible refine Ext.drew ?_) | (with_reducible refine Ext.setCell ?_ ?_ _) | (with_reducible refine Ext.setRow ?_ ?_ _) | (with_reducible exact HX.out) | (with_reducible refine Ext.trans ?_ HX.out) | (with_reducible refine Ext.below ?_ (Nat.le_refl _) _) | omega | (simp; done) | (simp; omega)))
set_option maxHeartbeats 400000 in
theorem rsMeet_any (a b c d : Int) (w : World) : Calls Tryz.prog 72 #[.agg #[.int .i64 a, .int .i64 b], .agg #[.int .i64 c, .int .i64 d]] w fun e w' => e = .returned (.agg #[.int .i64 (TrimM.meetS a b c d).1, .int .i64 (TrimM.meetS a b c d).2]) ∧ ∃ n : ExtOf w, w' = n.val := by
  have mn : (if d < b then d else b) = min b d := by split <;> omega
  have mx : (if a < c then c else a) = max a c := by split <;> omega
  by_cases h : max a c < min b d
  · have e : TrimM.meetS a b c d = (max a c, min b d) := by unfold TrimM.meetS; rw [if_neg (by omega)]
    rw [e]; clear e
    have h' : decide (min b d ≤ max a c) = false := decide_eq_false (by omega)
    clear h
    go_enter Tryz.func72, Tryz.ntmps72
    go_wp2
    refine bodyPost_ret (v := .agg #[.int .i64 (max a c), .int .i64 (min b d)]) (by simp [results, Tryz.results72, go_sem]) rfl ⟨rfl, ?_⟩
    exact ExtOf.of (by repeat' (first | (with_reducible exact Ext.refl _) | (with_reducible exact ExtOf.ext _) | (with_reducible refine Ext.trans ?_ (ExtOf.ext _)) | (with_reducible refine Ext.alloc ?_ _) | (with_reducible refine Ext.drew ?_) | (with_reducible refine Ext.setCell ?_ ?_ _) | (with_reducible refine Ext.setRow ?_ ?_ _) | (with_reducible exact HX.out) | (with_reducible refine Ext.trans ?_ HX.out) | (with_reducible refine Ext.below ?_ (Nat.le_refl _) _) | omega | (simp; done) | (simp; omega)))
  · have e : TrimM.meetS a b c d = (0, 0) := by unfold TrimM.meetS; rw [if_pos (by omega)]
    rw [e]; clear e
    have h' : decide (min b d ≤ max a c) = true := decide_eq_true (by omega)
    clear h
    go_enter Tryz.func72, Tryz.ntmps72
    go_wp2
    refine bodyPost_ret (v := .agg #[.int .i64 0, .int .i64 0]) (by simp [results, Tryz.results72, go_sem]) rfl ⟨rfl, ?_⟩
    exact ExtOf.of (by repeat' (first | (with_reducible exact Ext.refl _) | (with_reducible exact ExtOf.ext _) | (with_reducible refine Ext.trans ?_ (ExtOf.ext _)) | (with_reducible refine Ext.alloc ?_ _) | (with_reducible refine Ext.drew ?_) | (with_reducible refine Ext.setCell ?_ ?_ _) | (with_reducible refine Ext.setRow ?_ ?_ _) | (with_reducible exact HX.out) | (with_reducible refine Ext.trans ?_ HX.out) | (with_reducible refine Ext.below ?_ (Nat.le_refl _) _) | omega | (simp; done) | (simp; omega)))
theorem isEmpty_any (a b : Int) (w : World) : Calls Tryz.prog 64 #[.agg #[.int .i64 a, .int .i64 b]] w fun e w' => e = .returned (.bool (decide (b ≤ a))) ∧ ∃ n : ExtOf w, w' = n.val := by
  go_enter Tryz.func64, Tryz.ntmps64
  go_wp2
  go_ret
  exact ⟨rfl, by exact ExtOf.of (by repeat' (first | (with_reducible exact Ext.refl _) | (with_reducible exact ExtOf.ext _) | (with_reducible refine Ext.trans ?_ (ExtOf.ext _)) | (with_reducible refine Ext.alloc ?_ _) | (with_reducible refine Ext.drew ?_) | (with_reducible refine Ext.setCell ?_ ?_ _) | (with_reducible refine Ext.setRow ?_ ?_ _) | (with_reducible exact HX.out) | (with_reducible refine Ext.trans ?_ HX.out) | (with_reducible refine Ext.below ?_ (Nat.le_refl _) _) | omega | (simp; done) | (simp; omega)))⟩
def insd (a b lo hi : Int) : Bool := decide (lo ≤ a) && decide (lo ≤ b) && (decide (a ≤ hi) && decide (b ≤ hi))
set_option maxHeartbeats 400000 in
theorem inside_any (a b lo hi : Int) (w : World) : Calls Tryz.prog 39 #[.agg #[.int .i64 a, .int .i64 b], .int .i64 lo, .int .i64 hi] w fun e w' => e = .returned (.bool (insd a b lo hi)) ∧ ∃ n : ExtOf w, w' = n.val := by
  have mn : (if b < a then b else a) = min a b := by split <;> omega
  have mx : (if a < b then b else a) = max a b := by split <;> omega
  have e : Hid (insd a b lo hi = (decide (lo ≤ min a b) && decide (max a b ≤ hi))) := Lib.hid (by unfold insd; rw [Bool.eq_iff_iff]; simp; omega)
  by_cases h : lo ≤ min a b
  · have h' : decide (lo ≤ min a b) = true := decide_eq_true h
    have e2 : Hid (insd a b lo hi = decide (max a b ≤ hi)) := Lib.hid (by rw [e.out, h']; simp)
    clear h e
    go_enter Tryz.func39, Tryz.ntmps39
    go_wp2
    go_ret
    exact ⟨ret_bool e2.out.symm, by exact ExtOf.of (by repeat' (first | (with_reducible exact Ext.refl _) | (with_reducible exact ExtOf.ext _) | (with_reducible refine Ext.trans ?_ (ExtOf.ext _)) | (with_reducible refine Ext.alloc ?_ _) | (with_reducible refine Ext.drew ?_) | (with_reducible refine Ext.setCell ?_ ?_ _) | (with_reducible refine Ext.setRow ?_ ?_ _) | (with_reducible exact HX.out) | (with_reducible refine Ext.trans ?_ HX.out) | (with_reducible refine Ext.below ?_ (Nat.le_refl _) _) | omega | (simp; done) | (simp; omega)))⟩
  · have h' : decide (lo ≤ min a b) = false := decide_eq_false h
    have e2 : Hid (insd a b lo hi = false) := Lib.hid (by rw [e.out, h']; simp)
    clear h e
    go_enter Tryz.func39, Tryz.ntmps39
    go_wp2
    go_ret
    exact ⟨ret_bool e2.out.symm, by exact ExtOf.of (by repeat' (first | (with_reducible exact Ext.refl _) | (with_reducible exact ExtOf.ext _) | (with_reducible refine Ext.trans ?_ (ExtOf.ext _)) | (with_reducible refine Ext.alloc ?_ _) | (with_reducible refine Ext.drew ?_) | (with_reducible refine Ext.setCell ?_ ?_ _) | (with_reducible refine Ext.setRow ?_ ?_ _) | (with_reducible exact HX.out) | (with_reducible refine Ext.trans ?_ HX.out) | (with_reducible refine Ext.below ?_ (Nat.le_refl _) _) | omega | (simp; done) | (simp; omega)))⟩
set_option maxHeartbeats 400000 in
theorem rin_any (a b lo hi : Int) (w : World) : Calls Tryz.prog 92 #[.agg #[.int .i64 a, .int .i64 b], .int .i64 lo, .int .i64 hi] w fun e w' => e = .returned (.bool (decide (lo ≤ a) && decide (b ≤ hi))) ∧ ∃ n : ExtOf w, w' = n.val := by
  rcases h' : decide (lo ≤ a) with _ | _
  · go_enter Tryz.func92, Tryz.ntmps92
    go_wp2
    go_ret
    exact ⟨ret_bool (by simp), by exact ExtOf.of (by repeat' (first | (with_reducible exact Ext.refl _) | (with_reducible exact ExtOf.ext _) | (with_reducible refine Ext.trans ?_ (ExtOf.ext _)) | (with_reducible refine Ext.alloc ?_ _) | (with_reducible refine Ext.drew ?_) | (with_reducible refine Ext.setCell ?_ ?_ _) | (with_reducible refine Ext.setRow ?_ ?_ _) | (with_reducible exact HX.out) | (with_reducible refine Ext.trans ?_ HX.out) | (with_reducible refine Ext.below ?_ (Nat.le_refl _) _) | omega | (simp; done) | (simp; omega)))⟩
  · go_enter Tryz.func92, Tryz.ntmps92
    go_wp2
    go_ret
    exact ⟨ret_bool (by simp), by exact ExtOf.of (by repeat' (first | (with_reducible exact Ext.refl _) | (with_reducible exact ExtOf.ext _) | (with_reducible refine Ext.trans ?_ (ExtOf.ext _)) | (with_reducible refine Ext.alloc ?_ _) | (with_reducible refine Ext.drew ?_) | (with_reducible refine Ext.setCell ?_ ?_ _) | (with_reducible refine Ext.setRow ?_ ?_ _) | (with_reducible exact HX.out) | (with_reducible refine Ext.trans ?_ HX.out) | (with_reducible refine Ext.below ?_ (Nat.le_refl _) _) | omega | (simp; done) | (simp; omega)))⟩
set_option maxHeartbeats 800000 in
theorem rEmpty_any (b : Bx) (w : World) : Calls Tryz.prog 66 #[.agg #[.int .i64 b.xa, .int .i64 b.xb, .int .i64 b.ya, .int .i64 b.yb, .int .i64 b.za, .int .i64 b.zb]] w fun e w' => e = .returned (.bool b.empty) ∧ ∃ n : ExtOf w, w' = n.val := by
  obtain ⟨xa, xb, ya, yb, za, zb⟩ := b
  unfold Bx.empty
  simp only [ge_iff_le]
  rcases h1 : decide (xb ≤ xa) with _ | _
  · rcases h2 : decide (yb ≤ ya) with _ | _
    · go_enter Tryz.func66, Tryz.ntmps66
      go_wp2
      go_ret
      exact ⟨ret_bool (by simp), by exact ExtOf.of (by repeat' (first | (with_reducible exact Ext.refl _) | (with_reducible exact ExtOf.ext _) | (with_reducible refine Ext.trans ?_ (ExtOf.ext _)) | (with_reducible refine Ext.alloc ?_ _) | (with_reducible refine Ext.drew ?_) | (with_reducible refine Ext.setCell ?_ ?_ _) | (with_reducible refine Ext.setRow ?_ ?_ _) | (with_reducible exact HX.out) | (with_reducible refine Ext.trans ?_ HX.out) | (with_reducible refine Ext.below ?_ (Nat.le_refl _) _) | omega | (simp; done) | (simp; omega)))⟩
    · go_enter Tryz.func66, Tryz.ntmps66
      go_wp2
      go_ret
      exact ⟨ret_bool (by simp), by exact ExtOf.of (by repeat' (first | (with_reducible exact Ext.refl _) | (with_reducible exact ExtOf.ext _) | (with_reducible refine Ext.trans ?_ (ExtOf.ext _)) | (with_reducible refine Ext.alloc ?_ _) | (with_reducible refine Ext.drew ?_) | (with_reducible refine Ext.setCell ?_ ?_ _) | (with_reducible refine Ext.setRow ?_ ?_ _) | (with_reducible exact HX.out) | (with_reducible refine Ext.trans ?_ HX.out) | (with_reducible refine Ext.below ?_ (Nat.le_refl _) _) | omega | (simp; done) | (simp; omega)))⟩
  · go_enter Tryz.func66, Tryz.ntmps66
    go_wp2
    go_ret
    exact ⟨ret_bool (by simp), by exact ExtOf.of (by repeat' (first | (with_reducible exact Ext.refl _) | (with_reducible exact ExtOf.ext _) | (with_reducible refine Ext.trans ?_ (ExtOf.ext _)) | (with_reducible refine Ext.alloc ?_ _) | (with_reducible refine Ext.drew ?_) | (with_reducible refine Ext.setCell ?_ ?_ _) | (with_reducible refine Ext.setRow ?_ ?_ _) | (with_reducible exact HX.out) | (with_reducible refine Ext.trans ?_ HX.out) | (with_reducible refine Ext.below ?_ (Nat.le_refl _) _) | omega | (simp; done) | (simp; omega)))⟩
theorem ranged_eq (b : Bx) : b.ranged = (decide (-600 ≤ b.xa) && decide (b.xb ≤ 600) && (decide (-600 ≤ b.ya) && decide (b.yb ≤ 600)) && (decide (0 ≤ b.za) && decide (b.zb ≤ 20000))) := by
  unfold Bx.ranged
  rw [Bool.eq_iff_iff]; simp [and_assoc]
set_option maxHeartbeats 800000 in
theorem rRanged_any (b : Bx) (w : World) : Calls Tryz.prog 70 #[.agg #[.int .i64 b.xa, .int .i64 b.xb, .int .i64 b.ya, .int .i64 b.yb, .int .i64 b.za, .int .i64 b.zb]] w fun e w' => e = .returned (.bool b.ranged) ∧ ∃ n : ExtOf w, w' = n.val := by
  rw [ranged_eq]
  obtain ⟨xa, xb, ya, yb, za, zb⟩ := b
  simp only
  rcases h1 : (decide (-600 ≤ xa) && decide (xb ≤ 600)) with _ | _
  · go_enter Tryz.func70, Tryz.ntmps70
    go_wp2_with (first | ((with_reducible apply wl_load' lwBox); (· (first | exact wanted_none rfl | exact wanted_some rfl rfl rfl)); (· rfl); (· infer_instance); (· rfl)) | ((with_reducible apply wl_loadB midSpan); (· (first | exact wanted_none rfl | exact wanted_some rfl rfl rfl)); (· rfl); (· infer_instance); (· rfl); (· rfl)) | ((with_reducible apply wl_loadB midBox); (· (first | exact wanted_none rfl | exact wanted_some rfl rfl rfl)); (· rfl); (· infer_instance); (· rfl); (· rfl)) | ((with_reducible apply wl_store' lwBox); (· (first | exact wanted_none rfl | exact wanted_some rfl rfl rfl)); (· rfl); (· rfl); (· infer_instance); (· rfl); (· rfl); (· (simp [Value.oneCell'])); try simp only [setRow_alloc, setRow_new, setRow_new1, setRow_new2, setRow_new11, setRow_new111]) | ((with_reducible apply wl_store' lwSpan); (· (first | exact wanted_none rfl | exact wanted_some rfl rfl rfl)); (· rfl); (· rfl); (· infer_instance); (· rfl); (· rfl); (· (simp [Value.oneCell'])); try simp only [setRow_alloc, setRow_new, setRow_new1, setRow_new2, setRow_new11, setRow_new111]) | (go_at_call 64; refine (isEmpty_any _ _ _).mono ?_; rintro e w' ⟨rfl, n, rfl⟩) | (go_at_call 39; refine (inside_any _ _ _ _ _).mono ?_; rintro e w' ⟨rfl, n, rfl⟩) | (go_at_call 92; refine (rin_any _ _ _ _ _).mono ?_; rintro e w' ⟨rfl, n, rfl⟩))
    go_ret
    exact ⟨ret_bool (by simp), by exact ExtOf.of (by repeat' (first | (with_reducible exact Ext.refl _) | (with_reducible exact ExtOf.ext _) | (with_reducible refine Ext.trans ?_ (ExtOf.ext _)) | (with_reducible refine Ext.alloc ?_ _) | (with_reducible refine Ext.drew ?_) | (with_reducible refine Ext.setCell ?_ ?_ _) | (with_reducible refine Ext.setRow ?_ ?_ _) | (with_reducible exact HX.out) | (with_reducible refine Ext.trans ?_ HX.out) | (with_reducible refine Ext.below ?_ (Nat.le_refl _) _) | omega | (simp; done) | (simp; omega)))⟩
  · rcases h2 : (decide (-600 ≤ ya) && decide (yb ≤ 600)) with _ | _
    · go_enter Tryz.func70, Tryz.ntmps70
      go_wp2_with (first | ((with_reducible apply wl_load' lwBox); (· (first | exact wanted_none rfl | exact wanted_some rfl rfl rfl)); (· rfl); (· infer_instance); (· rfl)) | ((with_reducible apply wl_loadB midSpan); (· (first | exact wanted_none rfl | exact wanted_some rfl rfl rfl)); (· rfl); (· infer_instance); (· rfl); (· rfl)) | ((with_reducible apply wl_loadB midBox); (· (first | exact wanted_none rfl | exact wanted_some rfl rfl rfl)); (· rfl); (· infer_instance); (· rfl); (· rfl)) | ((with_reducible apply wl_store' lwBox); (· (first | exact wanted_none rfl | exact wanted_some rfl rfl rfl)); (· rfl); (· rfl); (· infer_instance); (· rfl); (· rfl); (· (simp [Value.oneCell'])); try simp only [setRow_alloc, setRow_new, setRow_new1, setRow_new2, setRow_new11, setRow_new111]) | ((with_reducible apply wl_store' lwSpan); (· (first | exact wanted_none rfl | exact wanted_some rfl rfl rfl)); (· rfl); (· rfl); (· infer_instance); (· rfl); (· rfl); (· (simp [Value.oneCell'])); try simp only [setRow_alloc, setRow_new, setRow_new1, setRow_new2, setRow_new11, setRow_new111]) | (go_at_call 64; refine (isEmpty_any _ _ _).mono ?_; rintro e w' ⟨rfl, n, rfl⟩) | (go_at_call 39; refine (inside_any _ _ _ _ _).mono ?_; rintro e w' ⟨rfl, n, rfl⟩) | (go_at_call 92; refine (rin_any _ _ _ _ _).mono ?_; rintro e w' ⟨rfl, n, rfl⟩))
      go_ret
      exact ⟨ret_bool (by simp), by exact ExtOf.of (by repeat' (first | (with_reducible exact Ext.refl _) | (with_reducible exact ExtOf.ext _) | (with_reducible refine Ext.trans ?_ (ExtOf.ext _)) | (with_reducible refine Ext.alloc ?_ _) | (with_reducible refine Ext.drew ?_) | (with_reducible refine Ext.setCell ?_ ?_ _) | (with_reducible refine Ext.setRow ?_ ?_ _) | (with_reducible exact HX.out) | (with_reducible refine Ext.trans ?_ HX.out) | (with_reducible refine Ext.below ?_ (Nat.le_refl _) _) | omega | (simp; done) | (simp; omega)))⟩
    · go_enter Tryz.func70, Tryz.ntmps70
      go_wp2_with (first | ((with_reducible apply wl_load' lwBox); (· (first | exact wanted_none rfl | exact wanted_some rfl rfl rfl)); (· rfl); (· infer_instance); (· rfl)) | ((with_reducible apply wl_loadB midSpan); (· (first | exact wanted_none rfl | exact wanted_some rfl rfl rfl)); (· rfl); (· infer_instance); (· rfl); (· rfl)) | ((with_reducible apply wl_loadB midBox); (· (first | exact wanted_none rfl | exact wanted_some rfl rfl rfl)); (· rfl); (· infer_instance); (· rfl); (· rfl)) | ((with_reducible apply wl_store' lwBox); (· (first | exact wanted_none rfl | exact wanted_some rfl rfl rfl)); (· rfl); (· rfl); (· infer_instance); (· rfl); (· rfl); (· (simp [Value.oneCell'])); try simp only [setRow_alloc, setRow_new, setRow_new1, setRow_new2, setRow_new11, setRow_new111]) | ((with_reducible apply wl_store' lwSpan); (· (first | exact wanted_none rfl | exact wanted_some rfl rfl rfl)); (· rfl); (· rfl); (· infer_instance); (· rfl); (· rfl); (· (simp [Value.oneCell'])); try simp only [setRow_alloc, setRow_new, setRow_new1, setRow_new2, setRow_new11, setRow_new111]) | (go_at_call 64; refine (isEmpty_any _ _ _).mono ?_; rintro e w' ⟨rfl, n, rfl⟩) | (go_at_call 39; refine (inside_any _ _ _ _ _).mono ?_; rintro e w' ⟨rfl, n, rfl⟩) | (go_at_call 92; refine (rin_any _ _ _ _ _).mono ?_; rintro e w' ⟨rfl, n, rfl⟩))
      go_ret
      exact ⟨ret_bool (by simp), by exact ExtOf.of (by repeat' (first | (with_reducible exact Ext.refl _) | (with_reducible exact ExtOf.ext _) | (with_reducible refine Ext.trans ?_ (ExtOf.ext _)) | (with_reducible refine Ext.alloc ?_ _) | (with_reducible refine Ext.drew ?_) | (with_reducible refine Ext.setCell ?_ ?_ _) | (with_reducible refine Ext.setRow ?_ ?_ _) | (with_reducible exact HX.out) | (with_reducible refine Ext.trans ?_ HX.out) | (with_reducible refine Ext.below ?_ (Nat.le_refl _) _) | omega | (simp; done) | (simp; omega)))⟩
end Go.Proofs.YtdalbfanfbeckaaGreatDoor
end
/-
  Chapter 26: the comparison of spans; the law's sum of the lengths of boxes.
-/
section
set_option linter.unusedVariables false
set_option linter.unusedSimpArgs false
namespace Go.Proofs.YtdalbfanfbeckaaGreatDoor
open Go.RowKit TrimM

theorem spIn_int (d : Nat) (W : World) (A C : Int) : (Op.equalIn (d + 1) 3 (.int .i64 A) (.int .i64 C)).run Tryz.prog W = .ok (A == C) W := by
  simp [Op.equalIn, run_underlying Tryz.underlying3]
theorem spPart0 (W : World) (A B : Int) : (Go.part 3 #[.int .i64 A, .int .i64 B] 0).run Tryz.prog W = .ok (.int .i64 A) W := by kernel_rfl
theorem spPart1 (W : World) (A B : Int) : (Go.part 3 #[.int .i64 A, .int .i64 B] 1).run Tryz.prog W = .ok (.int .i64 B) W := by kernel_rfl
theorem spStood : Tryz.prog.stoodInHeld 23 = false := by kernel_rfl
theorem spGuardless : Tryz.prog.eqGuardType Tryz.prog.depth 23 = false := by kernel_rfl
theorem equalIn_span (d : Nat) (W : World) (A B C D : Int) : (Op.equalIn (d + 2) 23 (.agg #[.int .i64 A, .int .i64 B]) (.agg #[.int .i64 C, .int .i64 D])).run Tryz.prog W = .ok (A == C && B == D) W := by
  unfold Op.equalIn
  simp [run_underlying Tryz.underlying23, spIn_int, spPart0, spPart1, spStood]
  by_cases h1 : A = C <;> by_cases h2 : B = D <;> simp [h1, h2]
theorem equal_span (W : World) (A B C D : Int) : (Op.equal 23 (.agg #[.int .i64 A, .int .i64 B]) (.agg #[.int .i64 C, .int .i64 D])).run Tryz.prog W = .ok (A == C && B == D) W := equalIn_span 9998 W A B C D
theorem equalX_span (W : World) (A B C D : Int) : (Op.equalIn 10000 23 (.agg #[.int .i64 A, .int .i64 B]) (.agg #[.int .i64 C, .int .i64 D])).run Tryz.prog W = .ok (A == C && B == D) W := equalIn_span 9998 W A B C D
theorem eqGuard_span (op : BinOp) (x y : Operand) (a b : Array Value) (W : World) : (eqGuard op 23 x y (.agg a) (.agg b)).run Tryz.prog W = .ok () W := by
  unfold eqGuard
  cases op <;> simp [program, Sem.run, spGuardless, Sem.run_bind]
theorem range_at {w : World} {b o : Nat} {l m : List Value} (j n : Nat) (h : w.rangeAt b o l) (hm : (l.drop j).take n = m) : w.rangeAt b (o + j) m := fun i u hu => by
  subst hm
  rw [List.getElem?_take] at hu
  split at hu
  · rw [List.getElem?_drop] at hu
    have := h (j + i) u hu
    rw [Nat.add_assoc]
    exact this
  · cases hu
def sumB (l : List Bx) : Int := (l.map fun y => y.zb - y.za).sum
theorem sumB_snoc (l : List Bx) (y : Bx) : sumB (l ++ [y]) = sumB l + (y.zb - y.za) := by
  unfold sumB; rw [List.map_append, List.sum_append]; simp
theorem sumB_le {l : List Bx} (h : ∀ y ∈ l, 0 ≤ y.zb - y.za ∧ y.zb - y.za ≤ 20000) : 0 ≤ sumB l ∧ sumB l ≤ 20000 * l.length := by
  induction l with
  | nil => exact ⟨Int.le_refl _, Int.le_refl _⟩
  | cons y l ih =>
    obtain ⟨h1, h2⟩ := ih fun z hz => h z (List.mem_cons_of_mem _ hz)
    have := h y (List.mem_cons_self ..)
    unfold sumB at h1 h2 ⊢
    rw [List.map_cons, List.sum_cons, List.length_cons]
    omega
attribute [local go_sem] ExtOf.cell ExtOf.frozen ExtS.cell ExtS.frozen Block.cell Block.frozen ExtB.cell ExtB.frozen alloc_cell alloc_frozen equal_span equalX_span eqGuard_span
end Go.Proofs.YtdalbfanfbeckaaGreatDoor
end
