/-
  Chapter 59: several texts in one (S14, S15, S16, S17).
-/
import Derived.Test.YteokijolhbohaaaGreatDoorK7
import Derived.Test.YteokijolhbohaaaGreatDoorK11
import Derived.Test.YteokijolhbohaaaGreatDoorK5
/-
  Chapter 59: saws and rates.
-/
section
set_option linter.unusedVariables false
set_option linter.unusedSimpArgs false
namespace Go.Proofs.YteokijolhbohaaaGreatDoor
open Go.RowKit StM

attribute [local go_sem] ExtOf.cell ExtOf.frozen Block.cell Block.frozen ExtB.cell ExtB.frozen alloc_cell alloc_frozen
theorem isStep_any (n : Int) (w : World) : Calls Tryz.prog 47 #[.int .i64 n] w fun e w' => e = .returned (.bool (betw n 1 20000)) ∧ w' = w := by
  rcases q1 : decide (1 ≤ n) with _ | _
  · go_enter Tryz.func47, Tryz.ntmps47
    go_wp2_with fail
    go_ret
    exact ⟨ret_bool (by unfold betw; rw [q1]; rfl), rfl⟩
  · go_enter Tryz.func47, Tryz.ntmps47
    go_wp2_with fail
    go_ret
    exact ⟨ret_bool (by unfold betw; rw [q1]; rfl), rfl⟩
theorem isFine_any (n : Int) (w : World) : Calls Tryz.prog 48 #[.int .i64 n] w fun e w' => e = .returned (.bool (betw n 0 1000000)) ∧ w' = w := by
  rcases q1 : decide (0 ≤ n) with _ | _
  · go_enter Tryz.func48, Tryz.ntmps48
    go_wp2_with fail
    go_ret
    exact ⟨ret_bool (by unfold betw; rw [q1]; rfl), rfl⟩
  · go_enter Tryz.func48, Tryz.ntmps48
    go_wp2_with fail
    go_ret
    exact ⟨ret_bool (by unfold betw; rw [q1]; rfl), rfl⟩
/-- the error of a saw and of rates -/
def sawE (ke tr pi st ch du fi : Int) : Int :=
  if (betw ke 0 20 && (betw tr 0 20 && (betw pi 1 2000 && (betw st 1 20000 && (betw ch 0 1000 && (betw du 0 1000 && betw fi 0 1000000)))))) = true then 0 else 9
set_option maxHeartbeats 3200000 in
set_option maxRecDepth 20000 in
theorem woCheck_any (ke tr pi st ch du fi : Int) (w : World) : Calls Tryz.prog 21 #[.agg #[.int .i64 ke, .int .i64 tr, .int .i64 pi, .int .i64 st], .agg #[.int .i64 ch, .int .i64 du, .int .i64 fi]] w fun e w' => e = .returned (.int .i64 (sawE ke tr pi st ch du fi)) ∧ ∃ n : ExtOf w, w' = n.val := by
  rcases b0 : betw ke 0 20 with _ | _
  · have HB : Hid (sawE ke tr pi st ch du fi = 9) := Lib.hid (by unfold sawE; simp [b0])
    rcases betw_f b0 with q1 | ⟨q1, q2⟩
    · go_enter Tryz.func21, Tryz.ntmps21
      go_wp2_with (first | (go_at_call 47; refine (isStep_any _ _).mono ?_; rintro e w' ⟨rfl, rfl⟩) | (go_at_call 48; refine (isFine_any _ _).mono ?_; rintro e w' ⟨rfl, rfl⟩) | (go_at_call 55; refine (from20_any _ _ _ _).mono ?_; rintro e w' ⟨rfl, rfl⟩))
      go_ret
      exact ⟨ret_int HB.out.symm, by exact ExtOf.of (by with_reducible repeat' (first | exact Ext.refl _ | exact ExtOf.ext _ | refine Ext.trans ?_ (ExtOf.ext _) | refine Ext.alloc ?_ _ | refine Ext.drew ?_ | refine Ext.setCell ?_ ?_ _ | refine Ext.setRow ?_ ?_ _ | exact HX.out | refine Ext.trans ?_ HX.out | omega | (simp; done) | (simp; omega)))⟩
    · go_enter Tryz.func21, Tryz.ntmps21
      go_wp2_with (first | (go_at_call 47; refine (isStep_any _ _).mono ?_; rintro e w' ⟨rfl, rfl⟩) | (go_at_call 48; refine (isFine_any _ _).mono ?_; rintro e w' ⟨rfl, rfl⟩) | (go_at_call 55; refine (from20_any _ _ _ _).mono ?_; rintro e w' ⟨rfl, rfl⟩))
      go_ret
      exact ⟨ret_int HB.out.symm, by exact ExtOf.of (by with_reducible repeat' (first | exact Ext.refl _ | exact ExtOf.ext _ | refine Ext.trans ?_ (ExtOf.ext _) | refine Ext.alloc ?_ _ | refine Ext.drew ?_ | refine Ext.setCell ?_ ?_ _ | refine Ext.setRow ?_ ?_ _ | exact HX.out | refine Ext.trans ?_ HX.out | omega | (simp; done) | (simp; omega)))⟩
  obtain ⟨p0, r0⟩ := betw_t b0
  rcases b1 : betw tr 0 20 with _ | _
  · have HB : Hid (sawE ke tr pi st ch du fi = 9) := Lib.hid (by unfold sawE; simp [b0, b1])
    rcases betw_f b1 with q1 | ⟨q1, q2⟩
    · go_enter Tryz.func21, Tryz.ntmps21
      go_wp2_with (first | (go_at_call 47; refine (isStep_any _ _).mono ?_; rintro e w' ⟨rfl, rfl⟩) | (go_at_call 48; refine (isFine_any _ _).mono ?_; rintro e w' ⟨rfl, rfl⟩) | (go_at_call 55; refine (from20_any _ _ _ _).mono ?_; rintro e w' ⟨rfl, rfl⟩))
      go_ret
      exact ⟨ret_int HB.out.symm, by exact ExtOf.of (by with_reducible repeat' (first | exact Ext.refl _ | exact ExtOf.ext _ | refine Ext.trans ?_ (ExtOf.ext _) | refine Ext.alloc ?_ _ | refine Ext.drew ?_ | refine Ext.setCell ?_ ?_ _ | refine Ext.setRow ?_ ?_ _ | exact HX.out | refine Ext.trans ?_ HX.out | omega | (simp; done) | (simp; omega)))⟩
    · go_enter Tryz.func21, Tryz.ntmps21
      go_wp2_with (first | (go_at_call 47; refine (isStep_any _ _).mono ?_; rintro e w' ⟨rfl, rfl⟩) | (go_at_call 48; refine (isFine_any _ _).mono ?_; rintro e w' ⟨rfl, rfl⟩) | (go_at_call 55; refine (from20_any _ _ _ _).mono ?_; rintro e w' ⟨rfl, rfl⟩))
      go_ret
      exact ⟨ret_int HB.out.symm, by exact ExtOf.of (by with_reducible repeat' (first | exact Ext.refl _ | exact ExtOf.ext _ | refine Ext.trans ?_ (ExtOf.ext _) | refine Ext.alloc ?_ _ | refine Ext.drew ?_ | refine Ext.setCell ?_ ?_ _ | refine Ext.setRow ?_ ?_ _ | exact HX.out | refine Ext.trans ?_ HX.out | omega | (simp; done) | (simp; omega)))⟩
  obtain ⟨p1, r1⟩ := betw_t b1
  rcases b2 : betw pi 1 2000 with _ | _
  · have HB : Hid (sawE ke tr pi st ch du fi = 9) := Lib.hid (by unfold sawE; simp [b0, b1, b2])
    rcases betw_f b2 with q1 | ⟨q1, q2⟩
    · go_enter Tryz.func21, Tryz.ntmps21
      go_wp2_with (first | (go_at_call 47; refine (isStep_any _ _).mono ?_; rintro e w' ⟨rfl, rfl⟩) | (go_at_call 48; refine (isFine_any _ _).mono ?_; rintro e w' ⟨rfl, rfl⟩) | (go_at_call 55; refine (from20_any _ _ _ _).mono ?_; rintro e w' ⟨rfl, rfl⟩))
      go_ret
      exact ⟨ret_int HB.out.symm, by exact ExtOf.of (by with_reducible repeat' (first | exact Ext.refl _ | exact ExtOf.ext _ | refine Ext.trans ?_ (ExtOf.ext _) | refine Ext.alloc ?_ _ | refine Ext.drew ?_ | refine Ext.setCell ?_ ?_ _ | refine Ext.setRow ?_ ?_ _ | exact HX.out | refine Ext.trans ?_ HX.out | omega | (simp; done) | (simp; omega)))⟩
    · go_enter Tryz.func21, Tryz.ntmps21
      go_wp2_with (first | (go_at_call 47; refine (isStep_any _ _).mono ?_; rintro e w' ⟨rfl, rfl⟩) | (go_at_call 48; refine (isFine_any _ _).mono ?_; rintro e w' ⟨rfl, rfl⟩) | (go_at_call 55; refine (from20_any _ _ _ _).mono ?_; rintro e w' ⟨rfl, rfl⟩))
      go_ret
      exact ⟨ret_int HB.out.symm, by exact ExtOf.of (by with_reducible repeat' (first | exact Ext.refl _ | exact ExtOf.ext _ | refine Ext.trans ?_ (ExtOf.ext _) | refine Ext.alloc ?_ _ | refine Ext.drew ?_ | refine Ext.setCell ?_ ?_ _ | refine Ext.setRow ?_ ?_ _ | exact HX.out | refine Ext.trans ?_ HX.out | omega | (simp; done) | (simp; omega)))⟩
  obtain ⟨p2, r2⟩ := betw_t b2
  rcases b3 : betw st 1 20000 with _ | _
  · have HB : Hid (sawE ke tr pi st ch du fi = 9) := Lib.hid (by unfold sawE; simp [b0, b1, b2, b3])
    go_enter Tryz.func21, Tryz.ntmps21
    go_wp2_with (first | (go_at_call 47; refine (isStep_any _ _).mono ?_; rintro e w' ⟨rfl, rfl⟩) | (go_at_call 48; refine (isFine_any _ _).mono ?_; rintro e w' ⟨rfl, rfl⟩) | (go_at_call 55; refine (from20_any _ _ _ _).mono ?_; rintro e w' ⟨rfl, rfl⟩))
    go_ret
    exact ⟨ret_int HB.out.symm, by exact ExtOf.of (by with_reducible repeat' (first | exact Ext.refl _ | exact ExtOf.ext _ | refine Ext.trans ?_ (ExtOf.ext _) | refine Ext.alloc ?_ _ | refine Ext.drew ?_ | refine Ext.setCell ?_ ?_ _ | refine Ext.setRow ?_ ?_ _ | exact HX.out | refine Ext.trans ?_ HX.out | omega | (simp; done) | (simp; omega)))⟩
  rcases b4 : betw ch 0 1000 with _ | _
  · have HB : Hid (sawE ke tr pi st ch du fi = 9) := Lib.hid (by unfold sawE; simp [b0, b1, b2, b3, b4])
    rcases betw_f b4 with q1 | ⟨q1, q2⟩
    · go_enter Tryz.func21, Tryz.ntmps21
      go_wp2_with (first | (go_at_call 47; refine (isStep_any _ _).mono ?_; rintro e w' ⟨rfl, rfl⟩) | (go_at_call 48; refine (isFine_any _ _).mono ?_; rintro e w' ⟨rfl, rfl⟩) | (go_at_call 55; refine (from20_any _ _ _ _).mono ?_; rintro e w' ⟨rfl, rfl⟩))
      go_ret
      exact ⟨ret_int HB.out.symm, by exact ExtOf.of (by with_reducible repeat' (first | exact Ext.refl _ | exact ExtOf.ext _ | refine Ext.trans ?_ (ExtOf.ext _) | refine Ext.alloc ?_ _ | refine Ext.drew ?_ | refine Ext.setCell ?_ ?_ _ | refine Ext.setRow ?_ ?_ _ | exact HX.out | refine Ext.trans ?_ HX.out | omega | (simp; done) | (simp; omega)))⟩
    · go_enter Tryz.func21, Tryz.ntmps21
      go_wp2_with (first | (go_at_call 47; refine (isStep_any _ _).mono ?_; rintro e w' ⟨rfl, rfl⟩) | (go_at_call 48; refine (isFine_any _ _).mono ?_; rintro e w' ⟨rfl, rfl⟩) | (go_at_call 55; refine (from20_any _ _ _ _).mono ?_; rintro e w' ⟨rfl, rfl⟩))
      go_ret
      exact ⟨ret_int HB.out.symm, by exact ExtOf.of (by with_reducible repeat' (first | exact Ext.refl _ | exact ExtOf.ext _ | refine Ext.trans ?_ (ExtOf.ext _) | refine Ext.alloc ?_ _ | refine Ext.drew ?_ | refine Ext.setCell ?_ ?_ _ | refine Ext.setRow ?_ ?_ _ | exact HX.out | refine Ext.trans ?_ HX.out | omega | (simp; done) | (simp; omega)))⟩
  obtain ⟨p4, r4⟩ := betw_t b4
  rcases b5 : betw du 0 1000 with _ | _
  · have HB : Hid (sawE ke tr pi st ch du fi = 9) := Lib.hid (by unfold sawE; simp [b0, b1, b2, b3, b4, b5])
    rcases betw_f b5 with q1 | ⟨q1, q2⟩
    · go_enter Tryz.func21, Tryz.ntmps21
      go_wp2_with (first | (go_at_call 47; refine (isStep_any _ _).mono ?_; rintro e w' ⟨rfl, rfl⟩) | (go_at_call 48; refine (isFine_any _ _).mono ?_; rintro e w' ⟨rfl, rfl⟩) | (go_at_call 55; refine (from20_any _ _ _ _).mono ?_; rintro e w' ⟨rfl, rfl⟩))
      go_ret
      exact ⟨ret_int HB.out.symm, by exact ExtOf.of (by with_reducible repeat' (first | exact Ext.refl _ | exact ExtOf.ext _ | refine Ext.trans ?_ (ExtOf.ext _) | refine Ext.alloc ?_ _ | refine Ext.drew ?_ | refine Ext.setCell ?_ ?_ _ | refine Ext.setRow ?_ ?_ _ | exact HX.out | refine Ext.trans ?_ HX.out | omega | (simp; done) | (simp; omega)))⟩
    · go_enter Tryz.func21, Tryz.ntmps21
      go_wp2_with (first | (go_at_call 47; refine (isStep_any _ _).mono ?_; rintro e w' ⟨rfl, rfl⟩) | (go_at_call 48; refine (isFine_any _ _).mono ?_; rintro e w' ⟨rfl, rfl⟩) | (go_at_call 55; refine (from20_any _ _ _ _).mono ?_; rintro e w' ⟨rfl, rfl⟩))
      go_ret
      exact ⟨ret_int HB.out.symm, by exact ExtOf.of (by with_reducible repeat' (first | exact Ext.refl _ | exact ExtOf.ext _ | refine Ext.trans ?_ (ExtOf.ext _) | refine Ext.alloc ?_ _ | refine Ext.drew ?_ | refine Ext.setCell ?_ ?_ _ | refine Ext.setRow ?_ ?_ _ | exact HX.out | refine Ext.trans ?_ HX.out | omega | (simp; done) | (simp; omega)))⟩
  obtain ⟨p5, r5⟩ := betw_t b5
  rcases b6 : betw fi 0 1000000 with _ | _
  · have HB : Hid (sawE ke tr pi st ch du fi = 9) := Lib.hid (by unfold sawE; simp [b0, b1, b2, b3, b4, b5, b6])
    go_enter Tryz.func21, Tryz.ntmps21
    go_wp2_with (first | (go_at_call 47; refine (isStep_any _ _).mono ?_; rintro e w' ⟨rfl, rfl⟩) | (go_at_call 48; refine (isFine_any _ _).mono ?_; rintro e w' ⟨rfl, rfl⟩) | (go_at_call 55; refine (from20_any _ _ _ _).mono ?_; rintro e w' ⟨rfl, rfl⟩))
    go_ret
    exact ⟨ret_int HB.out.symm, by exact ExtOf.of (by with_reducible repeat' (first | exact Ext.refl _ | exact ExtOf.ext _ | refine Ext.trans ?_ (ExtOf.ext _) | refine Ext.alloc ?_ _ | refine Ext.drew ?_ | refine Ext.setCell ?_ ?_ _ | refine Ext.setRow ?_ ?_ _ | exact HX.out | refine Ext.trans ?_ HX.out | omega | (simp; done) | (simp; omega)))⟩
  have HB : Hid (sawE ke tr pi st ch du fi = 0) := Lib.hid (by unfold sawE; simp [b0, b1, b2, b3, b4, b5, b6])
  go_enter Tryz.func21, Tryz.ntmps21
  go_wp2_with (first | (go_at_call 47; refine (isStep_any _ _).mono ?_; rintro e w' ⟨rfl, rfl⟩) | (go_at_call 48; refine (isFine_any _ _).mono ?_; rintro e w' ⟨rfl, rfl⟩) | (go_at_call 55; refine (from20_any _ _ _ _).mono ?_; rintro e w' ⟨rfl, rfl⟩))
  go_ret
  exact ⟨ret_int HB.out.symm, by exact ExtOf.of (by with_reducible repeat' (first | exact Ext.refl _ | exact ExtOf.ext _ | refine Ext.trans ?_ (ExtOf.ext _) | refine Ext.alloc ?_ _ | refine Ext.drew ?_ | refine Ext.setCell ?_ ?_ _ | refine Ext.setRow ?_ ?_ _ | exact HX.out | refine Ext.trans ?_ HX.out | omega | (simp; done) | (simp; omega)))⟩
set_option maxHeartbeats 3200000 in
set_option maxRecDepth 20000 in
theorem r20Check_any (ke tr pi st ch du fi : Int) (w : World) : Calls Tryz.prog 27 #[.agg #[.int .i64 ke, .int .i64 tr, .int .i64 pi, .int .i64 st], .agg #[.int .i64 ch, .int .i64 du, .int .i64 fi]] w fun e w' => e = .returned (.int .i64 (sawE ke tr pi st ch du fi)) ∧ ∃ n : ExtOf w, w' = n.val := by
  rcases b0 : betw ke 0 20 with _ | _
  · have HB : Hid (sawE ke tr pi st ch du fi = 9) := Lib.hid (by unfold sawE; simp [b0])
    go_enter Tryz.func27, Tryz.ntmps27
    go_wp2_with (first | (go_at_call 47; refine (isStep_any _ _).mono ?_; rintro e w' ⟨rfl, rfl⟩) | (go_at_call 48; refine (isFine_any _ _).mono ?_; rintro e w' ⟨rfl, rfl⟩) | (go_at_call 55; refine (from20_any _ _ _ _).mono ?_; rintro e w' ⟨rfl, rfl⟩))
    go_ret
    exact ⟨ret_int HB.out.symm, by exact ExtOf.of (by with_reducible repeat' (first | exact Ext.refl _ | exact ExtOf.ext _ | refine Ext.trans ?_ (ExtOf.ext _) | refine Ext.alloc ?_ _ | refine Ext.drew ?_ | refine Ext.setCell ?_ ?_ _ | refine Ext.setRow ?_ ?_ _ | exact HX.out | refine Ext.trans ?_ HX.out | omega | (simp; done) | (simp; omega)))⟩
  rcases b1 : betw tr 0 20 with _ | _
  · have HB : Hid (sawE ke tr pi st ch du fi = 9) := Lib.hid (by unfold sawE; simp [b0, b1])
    go_enter Tryz.func27, Tryz.ntmps27
    go_wp2_with (first | (go_at_call 47; refine (isStep_any _ _).mono ?_; rintro e w' ⟨rfl, rfl⟩) | (go_at_call 48; refine (isFine_any _ _).mono ?_; rintro e w' ⟨rfl, rfl⟩) | (go_at_call 55; refine (from20_any _ _ _ _).mono ?_; rintro e w' ⟨rfl, rfl⟩))
    go_ret
    exact ⟨ret_int HB.out.symm, by exact ExtOf.of (by with_reducible repeat' (first | exact Ext.refl _ | exact ExtOf.ext _ | refine Ext.trans ?_ (ExtOf.ext _) | refine Ext.alloc ?_ _ | refine Ext.drew ?_ | refine Ext.setCell ?_ ?_ _ | refine Ext.setRow ?_ ?_ _ | exact HX.out | refine Ext.trans ?_ HX.out | omega | (simp; done) | (simp; omega)))⟩
  rcases b2 : betw pi 1 2000 with _ | _
  · have HB : Hid (sawE ke tr pi st ch du fi = 9) := Lib.hid (by unfold sawE; simp [b0, b1, b2])
    go_enter Tryz.func27, Tryz.ntmps27
    go_wp2_with (first | (go_at_call 47; refine (isStep_any _ _).mono ?_; rintro e w' ⟨rfl, rfl⟩) | (go_at_call 48; refine (isFine_any _ _).mono ?_; rintro e w' ⟨rfl, rfl⟩) | (go_at_call 55; refine (from20_any _ _ _ _).mono ?_; rintro e w' ⟨rfl, rfl⟩))
    go_ret
    exact ⟨ret_int HB.out.symm, by exact ExtOf.of (by with_reducible repeat' (first | exact Ext.refl _ | exact ExtOf.ext _ | refine Ext.trans ?_ (ExtOf.ext _) | refine Ext.alloc ?_ _ | refine Ext.drew ?_ | refine Ext.setCell ?_ ?_ _ | refine Ext.setRow ?_ ?_ _ | exact HX.out | refine Ext.trans ?_ HX.out | omega | (simp; done) | (simp; omega)))⟩
  rcases b3 : betw st 1 20000 with _ | _
  · have HB : Hid (sawE ke tr pi st ch du fi = 9) := Lib.hid (by unfold sawE; simp [b0, b1, b2, b3])
    go_enter Tryz.func27, Tryz.ntmps27
    go_wp2_with (first | (go_at_call 47; refine (isStep_any _ _).mono ?_; rintro e w' ⟨rfl, rfl⟩) | (go_at_call 48; refine (isFine_any _ _).mono ?_; rintro e w' ⟨rfl, rfl⟩) | (go_at_call 55; refine (from20_any _ _ _ _).mono ?_; rintro e w' ⟨rfl, rfl⟩))
    go_ret
    exact ⟨ret_int HB.out.symm, by exact ExtOf.of (by with_reducible repeat' (first | exact Ext.refl _ | exact ExtOf.ext _ | refine Ext.trans ?_ (ExtOf.ext _) | refine Ext.alloc ?_ _ | refine Ext.drew ?_ | refine Ext.setCell ?_ ?_ _ | refine Ext.setRow ?_ ?_ _ | exact HX.out | refine Ext.trans ?_ HX.out | omega | (simp; done) | (simp; omega)))⟩
  rcases b4 : betw ch 0 1000 with _ | _
  · have HB : Hid (sawE ke tr pi st ch du fi = 9) := Lib.hid (by unfold sawE; simp [b0, b1, b2, b3, b4])
    go_enter Tryz.func27, Tryz.ntmps27
    go_wp2_with (first | (go_at_call 47; refine (isStep_any _ _).mono ?_; rintro e w' ⟨rfl, rfl⟩) | (go_at_call 48; refine (isFine_any _ _).mono ?_; rintro e w' ⟨rfl, rfl⟩) | (go_at_call 55; refine (from20_any _ _ _ _).mono ?_; rintro e w' ⟨rfl, rfl⟩))
    go_ret
    exact ⟨ret_int HB.out.symm, by exact ExtOf.of (by with_reducible repeat' (first | exact Ext.refl _ | exact ExtOf.ext _ | refine Ext.trans ?_ (ExtOf.ext _) | refine Ext.alloc ?_ _ | refine Ext.drew ?_ | refine Ext.setCell ?_ ?_ _ | refine Ext.setRow ?_ ?_ _ | exact HX.out | refine Ext.trans ?_ HX.out | omega | (simp; done) | (simp; omega)))⟩
  rcases b5 : betw du 0 1000 with _ | _
  · have HB : Hid (sawE ke tr pi st ch du fi = 9) := Lib.hid (by unfold sawE; simp [b0, b1, b2, b3, b4, b5])
    go_enter Tryz.func27, Tryz.ntmps27
    go_wp2_with (first | (go_at_call 47; refine (isStep_any _ _).mono ?_; rintro e w' ⟨rfl, rfl⟩) | (go_at_call 48; refine (isFine_any _ _).mono ?_; rintro e w' ⟨rfl, rfl⟩) | (go_at_call 55; refine (from20_any _ _ _ _).mono ?_; rintro e w' ⟨rfl, rfl⟩))
    go_ret
    exact ⟨ret_int HB.out.symm, by exact ExtOf.of (by with_reducible repeat' (first | exact Ext.refl _ | exact ExtOf.ext _ | refine Ext.trans ?_ (ExtOf.ext _) | refine Ext.alloc ?_ _ | refine Ext.drew ?_ | refine Ext.setCell ?_ ?_ _ | refine Ext.setRow ?_ ?_ _ | exact HX.out | refine Ext.trans ?_ HX.out | omega | (simp; done) | (simp; omega)))⟩
  rcases b6 : betw fi 0 1000000 with _ | _
  · have HB : Hid (sawE ke tr pi st ch du fi = 9) := Lib.hid (by unfold sawE; simp [b0, b1, b2, b3, b4, b5, b6])
    go_enter Tryz.func27, Tryz.ntmps27
    go_wp2_with (first | (go_at_call 47; refine (isStep_any _ _).mono ?_; rintro e w' ⟨rfl, rfl⟩) | (go_at_call 48; refine (isFine_any _ _).mono ?_; rintro e w' ⟨rfl, rfl⟩) | (go_at_call 55; refine (from20_any _ _ _ _).mono ?_; rintro e w' ⟨rfl, rfl⟩))
    go_ret
    exact ⟨ret_int HB.out.symm, by exact ExtOf.of (by with_reducible repeat' (first | exact Ext.refl _ | exact ExtOf.ext _ | refine Ext.trans ?_ (ExtOf.ext _) | refine Ext.alloc ?_ _ | refine Ext.drew ?_ | refine Ext.setCell ?_ ?_ _ | refine Ext.setRow ?_ ?_ _ | exact HX.out | refine Ext.trans ?_ HX.out | omega | (simp; done) | (simp; omega)))⟩
  have HB : Hid (sawE ke tr pi st ch du fi = 0) := Lib.hid (by unfold sawE; simp [b0, b1, b2, b3, b4, b5, b6])
  go_enter Tryz.func27, Tryz.ntmps27
  go_wp2_with (first | (go_at_call 47; refine (isStep_any _ _).mono ?_; rintro e w' ⟨rfl, rfl⟩) | (go_at_call 48; refine (isFine_any _ _).mono ?_; rintro e w' ⟨rfl, rfl⟩) | (go_at_call 55; refine (from20_any _ _ _ _).mono ?_; rintro e w' ⟨rfl, rfl⟩))
  go_ret
  exact ⟨ret_int HB.out.symm, by exact ExtOf.of (by with_reducible repeat' (first | exact Ext.refl _ | exact ExtOf.ext _ | refine Ext.trans ?_ (ExtOf.ext _) | refine Ext.alloc ?_ _ | refine Ext.drew ?_ | refine Ext.setCell ?_ ?_ _ | refine Ext.setRow ?_ ?_ _ | exact HX.out | refine Ext.trans ?_ HX.out | omega | (simp; done) | (simp; omega)))⟩
end Go.Proofs.YteokijolhbohaaaGreatDoor
end
/-
  Chapter 59: a schedule is looked for.
-/
section
set_option linter.unusedVariables false
set_option linter.unusedSimpArgs false
namespace Go.Proofs.YteokijolhbohaaaGreatDoor
open Go.RowKit StM

attribute [local go_sem] ExtOf.cell ExtOf.frozen Block.cell Block.frozen ExtB.cell ExtB.frozen alloc_cell alloc_frozen
theorem infoStg : ∃ i z, Tryz.prog.info? 130 = some i ∧ i.zero = some z ∧ i.size = 4 ∧ i.bytes = 32 ∧ z.cells.size = 4 := by
  have h : ((Tryz.prog.info? 130).bind fun i => i.zero.map fun z => (i.size, i.bytes, z.cells.size)) = some (4, 32, 4) := by kernel_rfl
  cases hi : Tryz.prog.info? 130 with
  | none => rw [hi] at h; cases h
  | some i =>
    rw [hi] at h
    cases hz : i.zero with
    | none => simp [hz] at h
    | some z =>
      simp [hz] at h
      exact ⟨i, z, rfl, hz, h.1, h.2.1, h.2.2⟩
/-- what is handed back: some slice -/
def SomeS (w : World) (e : Ending) (w' : World) : Prop := ∃ (p : Option Addr) (n c : Nat), e = .returned (.slice p n c) ∧ ∃ m : ExtOf w, w' = m.val
theorem Own.some {α : Type} {enc : α → List Value} {k : Nat} {E base : Nat} {w : World} {v : Value} {l : List α} (hk : ∀ x, (enc x).length = k) (h : Own enc k E base w v l) : ∃ p n c, v = .slice p n c := by
  obtain ⟨p, c, e, _⟩ := SliceOf.form (Own.slice hk h)
  exact ⟨p, _, c, e⟩
theorem eqNil (W : World) : (binOp BinOp.eql 43 (Value.slice none 0 0) (Value.slice none 0 0)).run Tryz.prog W = .ok (.bool true) W := by kernel_rfl
theorem eqSome (a : Addr) (n c : Nat) (W : World) : (binOp BinOp.eql 43 (Value.slice (some a) n c) (Value.slice none 0 0)).run Tryz.prog W = .ok (.bool false) W := by kernel_rfl
attribute [local go_sem] eqNil eqSome
set_option maxHeartbeats 800000 in
set_option maxRecDepth 20000 in
theorem clone_any (l : List Stg) (v : Value) (w : World) (h : StgS w v l) (hl : l.length ≤ 1000000000000) : Calls Tryz.prog 46 #[v] w (SomeS w) := by
  obtain ⟨iS, zS, hi, hz, h1, h2, h3⟩ := infoStg
  obtain ⟨p, cap, rfl, hc1, hc2, hc3⟩ := SliceOf.form h
  unfold maxLen at hc2
  have H := Lib.hid h
  clear h
  cases p with
  | none =>
    obtain rfl := hc3 rfl
    have hl0 : l.length = 0 := by omega
    rw [hl0]
    go_enter Tryz.func46, Tryz.ntmps46
    go_wp2_with fail
    go_ret
    exact ⟨none, 0, 0, rfl, by exact ExtOf.of (by with_reducible repeat' (first | exact Ext.refl _ | exact ExtOf.ext _ | refine Ext.trans ?_ (ExtOf.ext _) | refine Ext.alloc ?_ _ | refine Ext.drew ?_ | refine Ext.setCell ?_ ?_ _ | refine Ext.setRow ?_ ?_ _ | exact HX.out | refine Ext.trans ?_ HX.out | omega | (simp; done) | (simp; omega)))⟩
  | some a =>
    go_enter Tryz.func46, Tryz.ntmps46
    go_wp2_with (at_builtin; refine wl_appendS (enc := encStg) (k := 4) (E := 130) (base := w.heap.size) (l := []) (m := l) Tryz.underlying43 hi hz h1 h2 h3 (by decide) encStg_len encStg_one rfl rfl (Own.empty (Nat.le_refl _)) (SliceOf.ext H.out (by with_reducible repeat' (first | exact Ext.refl _ | exact ExtOf.ext _ | refine Ext.trans ?_ (ExtOf.ext _) | refine Ext.alloc ?_ _ | refine Ext.drew ?_ | refine Ext.setCell ?_ ?_ _ | refine Ext.setRow ?_ ?_ _ | exact HX.out | refine Ext.trans ?_ HX.out | omega | (simp; done) | (simp; omega)))) (by simp; unfold maxLen; omega) (by simp; omega) (by simp) ?_; intro vS nS ho)
    obtain ⟨p', n', c', rfl⟩ := Own.some encStg_len ho
    go_wp2_with fail
    go_ret
    exact ⟨p', n', c', rfl, ExtOf.of (Below.trans ((Ext.refl _).alloc _) nS.below)⟩
end Go.Proofs.YteokijolhbohaaaGreatDoor
end
/-
  Chapter 59: operators of expressions, lists of names.
-/
section
set_option linter.unusedVariables false
set_option linter.unusedSimpArgs false
namespace Go.Proofs.YteokijolhbohaaaGreatDoor
open Go.RowKit StM

attribute [local go_sem] ExtOf.cell ExtOf.frozen Block.cell Block.frozen ExtB.cell ExtB.frozen alloc_cell alloc_frozen
/-- what the reference says of an operator -/
def tkR (op : Int) : Int := if op < 1 ∨ 11 < op then -1 else StM.takes op
theorem takes_any (op : Int) (w : World) : Calls Tryz.prog 132 #[.int .i64 op] w fun e w' => e = .returned (.int .i64 (StM.takes op)) ∧ w' = w := by
  by_cases h1 : op = 1
  · subst h1
    go_enter Tryz.func132, Tryz.ntmps132
    go_wp2_with fail
    go_ret
    exact ⟨ret_int (by decide), rfl⟩
  by_cases h2 : op = 2
  · subst h2
    go_enter Tryz.func132, Tryz.ntmps132
    go_wp2_with fail
    go_ret
    exact ⟨ret_int (by decide), rfl⟩
  by_cases h9 : op = 9
  · subst h9
    go_enter Tryz.func132, Tryz.ntmps132
    go_wp2_with fail
    go_ret
    exact ⟨ret_int (by decide), rfl⟩
  have q1 : (op == 1) = false := beq_eq_false_iff_ne.2 h1
  have q2 : (op == 2) = false := beq_eq_false_iff_ne.2 h2
  have q9 : (op == 9) = false := beq_eq_false_iff_ne.2 h9
  have HE : Hid (StM.takes op = 2) := Lib.hid (by unfold StM.takes; rw [if_neg (by omega), if_neg h9])
  go_enter Tryz.func132, Tryz.ntmps132
  go_wp2_with fail
  go_ret
  exact ⟨ret_int HE.out.symm, rfl⟩
theorem rtakes_any (op : Int) (w : World) : Calls Tryz.prog 136 #[.int .i64 op] w fun e w' => e = .returned (.int .i64 (tkR op)) ∧ w' = w := by
  by_cases a1 : op < 1
  · have HE : Hid (tkR op = -1) := Lib.hid (if_pos (.inl a1))
    have q1 : decide (op < 1) = true := decide_eq_true a1
    go_enter Tryz.func136, Tryz.ntmps136
    go_wp2_with fail
    go_ret
    exact ⟨ret_int HE.out.symm, rfl⟩
  have q1 : decide (op < 1) = false := decide_eq_false a1
  by_cases a2 : 11 < op
  · have HE : Hid (tkR op = -1) := Lib.hid (if_pos (.inr a2))
    have q2 : decide (11 < op) = true := decide_eq_true a2
    go_enter Tryz.func136, Tryz.ntmps136
    go_wp2_with fail
    go_ret
    exact ⟨ret_int HE.out.symm, rfl⟩
  have q2 : decide (11 < op) = false := decide_eq_false a2
  by_cases a3 : op ≤ 2
  · have HE : Hid (tkR op = 0) := Lib.hid (by unfold tkR; rw [if_neg (by omega)]; unfold StM.takes; rw [if_pos (by omega)])
    have q3 : decide (op ≤ 2) = true := decide_eq_true a3
    go_enter Tryz.func136, Tryz.ntmps136
    go_wp2_with fail
    go_ret
    exact ⟨ret_int HE.out.symm, rfl⟩
  have q3 : decide (op ≤ 2) = false := decide_eq_false a3
  rcases q4 : (op == 9) with _ | _
  · have HE : Hid (tkR op = 2) := Lib.hid (by unfold tkR; rw [if_neg (by omega)]; unfold StM.takes; rw [if_neg (by omega), if_neg (beq_eq_false_iff_ne.1 q4)])
    go_enter Tryz.func136, Tryz.ntmps136
    go_wp2_with fail
    go_ret
    exact ⟨ret_int HE.out.symm, rfl⟩
  · have HE : Hid (tkR op = 1) := Lib.hid (by unfold tkR; rw [if_neg (by omega)]; unfold StM.takes; rw [if_neg (by omega), if_pos (beq_iff_eq.1 q4)])
    go_enter Tryz.func136, Tryz.ntmps136
    go_wp2_with fail
    go_ret
    exact ⟨ret_int HE.out.symm, rfl⟩
theorem isCondition_any (op : Int) (w : World) : Calls Tryz.prog 83 #[.int .i64 op] w fun e w' => e = .returned (.bool (isCond op)) ∧ w' = w := by
  unfold isCond
  rcases q1 : decide (6 ≤ op) with _ | _
  · go_enter Tryz.func83, Tryz.ntmps83
    go_wp2_with fail
    go_ret
    exact ⟨ret_bool rfl, rfl⟩
  · go_enter Tryz.func83, Tryz.ntmps83
    go_wp2_with fail
    go_ret
    exact ⟨ret_bool (by simp), rfl⟩
theorem rcondition_any (op : Int) (w : World) : Calls Tryz.prog 88 #[.int .i64 op] w fun e w' => e = .returned (.bool (isCond op)) ∧ w' = w := by
  unfold isCond
  rcases q1 : decide (6 ≤ op) with _ | _
  · go_enter Tryz.func88, Tryz.ntmps88
    go_wp2_with fail
    go_ret
    exact ⟨ret_bool rfl, rfl⟩
  · go_enter Tryz.func88, Tryz.ntmps88
    go_wp2_with fail
    go_ret
    exact ⟨ret_bool (by simp), rfl⟩
theorem beq_dec' (a b : Int) : (a == b) = decide (a = b) := by
  by_cases h : a = b <;> simp [h]
theorem takesConditions_any (op : Int) (w : World) : Calls Tryz.prog 135 #[.int .i64 op] w fun e w' => e = .returned (.bool (wants op)) ∧ w' = w := by
  rcases q1 : (op == 9) with _ | _
  · rcases q2 : (op == 10) with _ | _
    · go_enter Tryz.func135, Tryz.ntmps135
      go_wp2_with fail
      go_ret
      exact ⟨ret_bool (by unfold wants; rw [decide_eq_false (beq_eq_false_iff_ne.1 q1), decide_eq_false (beq_eq_false_iff_ne.1 q2)]; simp [beq_dec']), rfl⟩
    · go_enter Tryz.func135, Tryz.ntmps135
      go_wp2_with fail
      go_ret
      exact ⟨ret_bool (by unfold wants; rw [decide_eq_true (beq_iff_eq.1 q2)]; simp), rfl⟩
  · go_enter Tryz.func135, Tryz.ntmps135
    go_wp2_with fail
    go_ret
    exact ⟨ret_bool (by unfold wants; rw [decide_eq_true (beq_iff_eq.1 q1)]; simp), rfl⟩
theorem rwants_any (op : Int) (w : World) : Calls Tryz.prog 139 #[.int .i64 op] w fun e w' => e = .returned (.bool (wants op)) ∧ w' = w := by
  rcases q1 : (op == 9) with _ | _
  · rcases q2 : (op == 10) with _ | _
    · go_enter Tryz.func139, Tryz.ntmps139
      go_wp2_with fail
      go_ret
      exact ⟨ret_bool (by unfold wants; rw [decide_eq_false (beq_eq_false_iff_ne.1 q1), decide_eq_false (beq_eq_false_iff_ne.1 q2)]; simp [beq_dec']), rfl⟩
    · go_enter Tryz.func139, Tryz.ntmps139
      go_wp2_with fail
      go_ret
      exact ⟨ret_bool (by unfold wants; rw [decide_eq_true (beq_iff_eq.1 q2)]; simp), rfl⟩
  · go_enter Tryz.func139, Tryz.ntmps139
    go_wp2_with fail
    go_ret
    exact ⟨ret_bool (by unfold wants; rw [decide_eq_true (beq_iff_eq.1 q1)]; simp), rfl⟩
/-- a number that is not too big -/
def bnd (n : Int) : Bool := decide (-1099511627776 ≤ n) && decide (n ≤ 1099511627776)
theorem bounded_any (n : Int) (w : World) : Calls Tryz.prog 134 #[.int .i64 n] w fun e w' => e = .returned (.bool (bnd n)) ∧ w' = w := by
  unfold bnd
  rcases q1 : decide (-1099511627776 ≤ n) with _ | _
  · go_enter Tryz.func134, Tryz.ntmps134
    go_wp2_with fail
    go_ret
    exact ⟨ret_bool rfl, rfl⟩
  · go_enter Tryz.func134, Tryz.ntmps134
    go_wp2_with fail
    go_ret
    exact ⟨ret_bool (by simp), rfl⟩
theorem rbig_any (n : Int) (w : World) : Calls Tryz.prog 138 #[.int .i64 n] w fun e w' => e = .returned (.bool (!bnd n)) ∧ w' = w := by
  unfold bnd
  by_cases h : n < -1099511627776
  · have q1 : decide (n < -1099511627776) = true := decide_eq_true h
    have HE : Hid (decide (-1099511627776 ≤ n) = false) := Lib.hid (decide_eq_false (by omega))
    clear h
    go_enter Tryz.func138, Tryz.ntmps138
    go_wp2_with fail
    go_ret
    exact ⟨ret_bool (by rw [HE.out]; rfl), rfl⟩
  · have q1 : decide (n < -1099511627776) = false := decide_eq_false h
    have HE : Hid (decide (-1099511627776 ≤ n) = true) := Lib.hid (decide_eq_true (by omega))
    clear h
    go_enter Tryz.func138, Tryz.ntmps138
    go_wp2_with fail
    go_ret
    refine ⟨ret_bool ?_, rfl⟩
    rw [HE.out]
    by_cases g : 1099511627776 < n
    · rw [decide_eq_true g, decide_eq_false (by omega)]; rfl
    · rw [decide_eq_false g, decide_eq_true (by omega)]; rfl
theorem eqS_comm (a b : ByteArray) : eqS a b = eqS b a := by unfold eqS; exact Bool.beq_comm
/-- is the name in the list? -/
def inN (s : ByteArray) (l : List ByteArray) : Bool := hasN (fun x => x) s l
theorem inN_take (s : ByteArray) (l : List ByteArray) {k : Nat} (h : k < l.length) : inN s (l.take (k + 1)) = (inN s (l.take k) || eqS l[k] s) := hasN_take _ s l h
theorem inN_of (s : ByteArray) (l : List ByteArray) {k : Nat} (h : k < l.length) (e : eqS l[k] s = true) : inN s l = true := hasN_of _ s l h e
set_option maxHeartbeats 800000 in
theorem rin_any (l : List ByteArray) (v : Value) (s : ByteArray) (w : World) (h : StrS w v l) : Calls Tryz.prog 137 #[v, .string s] w fun e w' => e = .returned (.bool (inN s l)) ∧ ∃ n : ExtOf w, w' = n.val := by
  obtain ⟨p, cap, rfl, hc1, hc2, hc3⟩ := SliceOf.form h
  unfold maxLen at hc2
  have H := Lib.hid h
  clear h
  go_enter Tryz.func137, Tryz.ntmps137
  go_wp2_with fail
  go_loop [5] (fun vi => ∃ k : Nat, k ≤ l.length ∧ vi = .int .i64 k ∧ inN s (l.take k) = false) (fun i => l.length - (intOf i).toNat)
  case atStart => exact ⟨0, by omega, rfl, rfl⟩
  case round =>
    obtain ⟨k, hk, rfl, hd⟩ := hrel
    have HD := Lib.hid hd
    clear hd
    by_cases hlt : k < l.length
    · obtain ⟨b, off, rfl, ob, c0⟩ := SliceOf.elem1 H.out hlt rfl
      have HS := Lib.hid (inN_take s l hlt)
      have HO := Lib.hid (inN_of s l hlt)
      obtain ⟨nm, he⟩ : ∃ z, z = l[k] := ⟨_, rfl⟩
      rw [← he] at c0 HS HO
      clear he
      rcases q : (nm.toList == s.toList) with _ | _
      · go_wp2_with fail
        go_round
        case rel => exact ⟨k + 1, by omega, by first | rfl | go_num, by rw [HS.out, HD.out]; exact q⟩
        case measure => simp [intOf]; omega
      · have HT := Lib.hid (HO.out q)
        go_wp2_with fail
        go_ret
        exact ⟨ret_bool HT.out.symm, by exact ExtOf.of (by with_reducible repeat' (first | exact Ext.refl _ | exact ExtOf.ext _ | refine Ext.trans ?_ (ExtOf.ext _) | refine Ext.alloc ?_ _ | refine Ext.drew ?_ | refine Ext.setCell ?_ ?_ _ | refine Ext.setRow ?_ ?_ _ | exact HX.out | refine Ext.trans ?_ HX.out | omega | (simp; done) | (simp; omega)))⟩
    · obtain rfl : k = l.length := by omega
      have HT : Hid (inN s l = false) := Lib.hid (by have := HD.out; rwa [List.take_length] at this)
      go_wp2_with fail
      go_ret
      exact ⟨ret_bool HT.out.symm, by exact ExtOf.of (by with_reducible repeat' (first | exact Ext.refl _ | exact ExtOf.ext _ | refine Ext.trans ?_ (ExtOf.ext _) | refine Ext.alloc ?_ _ | refine Ext.drew ?_ | refine Ext.setCell ?_ ?_ _ | refine Ext.setRow ?_ ?_ _ | exact HX.out | refine Ext.trans ?_ HX.out | omega | (simp; done) | (simp; omega)))⟩
def idxR (s : ByteArray) (l : List ByteArray) : Int := if inN s l = true then (fidx (fun x => x) s l : Int) else -1
set_option maxHeartbeats 800000 in
theorem index_any (l : List ByteArray) (v : Value) (s : ByteArray) (w : World) (h : StrS w v l) : Calls Tryz.prog 203 #[v, .string s] w fun e w' => e = .returned (.int .i64 (idxR s l)) ∧ ∃ n : ExtOf w, w' = n.val := by
  obtain ⟨p, cap, rfl, hc1, hc2, hc3⟩ := SliceOf.form h
  unfold maxLen at hc2
  have H := Lib.hid h
  clear h
  go_enter Tryz.func203, Tryz.ntmps203
  go_wp2_with fail
  go_loop [8] (fun vi => ∃ k : Nat, k ≤ l.length ∧ vi = .int .i64 k ∧ inN s (l.take k) = false) (fun i => l.length - (intOf i).toNat)
  case atStart => exact ⟨0, by omega, rfl, rfl⟩
  case round =>
    obtain ⟨k, hk, rfl, hd⟩ := hrel
    have HD := Lib.hid hd
    clear hd
    by_cases hlt : k < l.length
    · obtain ⟨b, off, rfl, ob, c0⟩ := SliceOf.elem1 H.out hlt rfl
      have HS := Lib.hid (inN_take s l hlt)
      have HO : Hid (eqS l[k] s = true → inN s l = true ∧ fidx (fun x => x) s l = k) := Lib.hid (fun e => ⟨inN_of s l hlt e, fidx_at (fun x => x) s l hlt HD.out e⟩)
      obtain ⟨nm, he⟩ : ∃ z, z = l[k] := ⟨_, rfl⟩
      rw [← he] at c0 HS HO
      clear he
      rcases q : (s.toList == nm.toList) with _ | _
      · have q' : Hid (eqS nm s = false) := Lib.hid ((eqS_comm nm s).trans q)
        go_wp2_with fail
        go_round
        case rel => exact ⟨k + 1, by omega, by first | rfl | go_num, by rw [HS.out, HD.out]; exact q'.out⟩
        case measure => simp [intOf]; omega
      · have HT := Lib.hid (HO.out ((eqS_comm nm s).trans q))
        go_wp2_with fail
        go_ret
        exact ⟨ret_int (by unfold idxR; rw [if_pos HT.out.1, HT.out.2]), by exact ExtOf.of (by with_reducible repeat' (first | exact Ext.refl _ | exact ExtOf.ext _ | refine Ext.trans ?_ (ExtOf.ext _) | refine Ext.alloc ?_ _ | refine Ext.drew ?_ | refine Ext.setCell ?_ ?_ _ | refine Ext.setRow ?_ ?_ _ | exact HX.out | refine Ext.trans ?_ HX.out | omega | (simp; done) | (simp; omega)))⟩
    · obtain rfl : k = l.length := by omega
      have HT : Hid (inN s l = false) := Lib.hid (by have := HD.out; rwa [List.take_length] at this)
      go_wp2_with fail
      go_ret
      exact ⟨ret_int (by unfold idxR; rw [if_neg (by rw [HT.out]; simp)]), by exact ExtOf.of (by with_reducible repeat' (first | exact Ext.refl _ | exact ExtOf.ext _ | refine Ext.trans ?_ (ExtOf.ext _) | refine Ext.alloc ?_ _ | refine Ext.drew ?_ | refine Ext.setCell ?_ ?_ _ | refine Ext.setRow ?_ ?_ _ | exact HX.out | refine Ext.trans ?_ HX.out | omega | (simp; done) | (simp; omega)))⟩
set_option maxHeartbeats 800000 in
theorem contains_any (l : List ByteArray) (v : Value) (s : ByteArray) (w : World) (h : StrS w v l) : Calls Tryz.prog 133 #[v, .string s] w fun e w' => e = .returned (.bool (inN s l)) ∧ ∃ n : ExtOf w, w' = n.val := by
  have H := Lib.hid h
  clear h
  rcases hi : inN s l with _ | _
  · have HI : Hid (idxR s l = -1) := Lib.hid (by unfold idxR; rw [if_neg (by rw [hi]; simp)])
    clear hi
    go_enter Tryz.func133, Tryz.ntmps133
    go_wp2_with (go_at_call 203; refine (index_any l v s _ H.out).mono ?_; rintro e w' ⟨rfl, n, rfl⟩; rw [HI.out])
    go_ret
    exact ⟨rfl, ExtOf.of n.ext⟩
  · obtain ⟨j, hj⟩ : ∃ j : Nat, j = fidx (fun x => x) s l := ⟨_, rfl⟩
    have HI : Hid (idxR s l = (j : Int)) := Lib.hid (by unfold idxR; rw [if_pos hi, hj])
    clear hj hi
    have q : decide ((0 : Int) ≤ (j : Int)) = true := decide_eq_true (by omega)
    go_enter Tryz.func133, Tryz.ntmps133
    go_wp2_with (go_at_call 203; refine (index_any l v s _ H.out).mono ?_; rintro e w' ⟨rfl, n, rfl⟩; rw [HI.out])
    go_ret
    exact ⟨rfl, ExtOf.of n.ext⟩
end Go.Proofs.YteokijolhbohaaaGreatDoor
end
/-
  Chapter 59: a schedule is found.
-/
section
set_option linter.unusedVariables false
set_option linter.unusedSimpArgs false
namespace Go.Proofs.YteokijolhbohaaaGreatDoor
open Go.RowKit StM

attribute [local go_sem] ExtOf.cell ExtOf.frozen Block.cell Block.frozen ExtB.cell ExtB.frozen alloc_cell alloc_frozen
def snm (x : SchP) : ByteArray := x.1.nm
/-- what is handed back: a schedule, and whether there is one -/
def FoundS (c : Bool) (w : World) (e : Ending) (w' : World) : Prop := ∃ cs : Array Value, cs.size = 3 ∧ cs.all (·.oneCell') = true ∧ e = .returned (.tuple #[.agg cs, .bool c]) ∧ ∃ n : ExtOf w, w' = n.val
set_option maxHeartbeats 1600000 in
set_option maxRecDepth 20000 in
theorem scFind_any (l : List SchP) (v : Value) (s : ByteArray) (w : World) (h : SchS w v l) (hb : ∀ x ∈ l, x.1.st.length ≤ 12) : Calls Tryz.prog 20 #[v, .string s] w (FoundS (hasN snm s l) w) := by
  obtain ⟨p, cap, rfl, hc1, hc2, hc3⟩ := SliceOf.form h.1
  unfold maxLen at hc2
  have H := Lib.hid h.1
  have HI := Lib.hid h.2
  have HB := Lib.hid hb
  clear h hb
  go_enter Tryz.func20, Tryz.ntmps20
  go_wp2_with fail
  have hb0 : Block (w.alloc (.cells #[.string .empty, .int .i64 0, .slice none 0 0] 45)) w.heap.size #[.string .empty, .int .i64 0, .slice none 0 0] := inferInstance
  obtain ⟨g, hg⟩ : ∃ g, g = w.heap.size := ⟨_, rfl⟩
  have hg0 : w.heap.size ≤ g := by omega
  rw [← hg] at hb0 ⊢
  clear hg
  go_loopw [10] (fun vi wr => ∃ k : Nat, k ≤ l.length ∧ vi = .int .i64 k ∧ hasN snm s (l.take k) = false ∧ Ext w wr ∧ Block wr g #[.string .empty, .int .i64 0, .slice none 0 0]) (fun i _ => l.length - (intOf i).toNat)
  case atStart => exact ⟨0, by omega, rfl, rfl, by with_reducible repeat' (first | exact Ext.refl _ | exact ExtOf.ext _ | refine Ext.trans ?_ (ExtOf.ext _) | refine Ext.alloc ?_ _ | refine Ext.drew ?_ | refine Ext.setCell ?_ ?_ _ | refine Ext.setRow ?_ ?_ _ | exact HX.out | refine Ext.trans ?_ HX.out | omega | (simp; done) | (simp; omega)), hb0⟩
  case round =>
    clear hb0
    obtain ⟨k, hk, rfl, hd, hx, hbk⟩ := hrel
    have HX := Lib.hid hx
    have HD := Lib.hid hd
    have obk := hbk.old
    clear hx hd
    by_cases hlt : k < l.length
    · obtain ⟨b, off, rfl, ob2, hr⟩ := SliceOf.elemO (SliceOf.ext H.out HX.out) hlt (by decide) (encSch_len _)
      have hi := SliceOf.ext (HI.out _ (List.getElem_mem hlt)) HX.out
      have hl12 := HB.out _ (List.getElem_mem hlt)
      have HS := Lib.hid (hasN_take snm s l hlt)
      have HO : Hid (eqS (snm l[k]) s = true → hasN snm s l = true) := Lib.hid (fun e => hasN_of snm s l hlt e)
      obtain ⟨⟨⟨nm, ramp, st⟩, sl⟩, he⟩ : ∃ z, z = l[k] := ⟨_, rfl⟩
      rw [← he] at hr HS HO hi hl12
      clear he
      simp only at hi hl12
      have HR : Hid (wr.rangeAt b (off + k * 3) [.string nm, .int .i64 ramp, sl.v]) := Lib.hid hr
      clear hr
      rcases q : (nm.toList == s.toList) with _ | _
      · go_wp2_with (first | ((with_reducible refine wl_loadM midSch (Ext.range ?_ (Hid.out HR)) ?_ ?_ ?_ ?_); (· with_reducible repeat' (first | exact Ext.refl _ | exact ExtOf.ext _ | refine Ext.trans ?_ (ExtOf.ext _) | refine Ext.alloc ?_ _ | refine Ext.drew ?_ | refine Ext.setCell ?_ ?_ _ | refine Ext.setRow ?_ ?_ _ | exact HX.out | refine Ext.trans ?_ HX.out | omega | (simp; done) | (simp; omega))); (· rfl); (· (first | exact wanted_none rfl | exact wanted_some rfl rfl rfl)); (· rfl)) | ((with_reducible apply wl_store' lwSch); (· (first | exact wanted_none rfl | exact wanted_some rfl rfl rfl)); (· rfl); (· rfl); (· infer_instance); (· rfl); (· rfl); (· (simp [Value.oneCell', SlT.v])); try simp only [setRow_alloc, setRow_new, setRow_new1, setRow_new2, setRow_new11, setRow_new111]))
        go_roundw
        case rel => exact ⟨k + 1, by omega, by first | rfl | go_num, by rw [HS.out, HD.out]; exact q, HX.out.trans (by with_reducible repeat' (first | exact Ext.refl _ | exact ExtOf.ext _ | refine Ext.trans ?_ (ExtOf.ext _) | refine Ext.alloc ?_ _ | refine Ext.drew ?_ | refine Ext.setCell ?_ ?_ _ | refine Ext.setRow ?_ ?_ _ | exact HX.out | refine Ext.trans ?_ HX.out | omega | (simp; done) | (simp; omega))), inferInstance⟩
        case measure => simp [intOf]; omega
      · have HT := Lib.hid (HO.out q)
        have HL := Lib.hid hi
        go_wp2_with (first | ((with_reducible refine wl_loadM midSch (Ext.range ?_ (Hid.out HR)) ?_ ?_ ?_ ?_); (· with_reducible repeat' (first | exact Ext.refl _ | exact ExtOf.ext _ | refine Ext.trans ?_ (ExtOf.ext _) | refine Ext.alloc ?_ _ | refine Ext.drew ?_ | refine Ext.setCell ?_ ?_ _ | refine Ext.setRow ?_ ?_ _ | exact HX.out | refine Ext.trans ?_ HX.out | omega | (simp; done) | (simp; omega))); (· rfl); (· (first | exact wanted_none rfl | exact wanted_some rfl rfl rfl)); (· rfl)) | ((with_reducible apply wl_load' lwSch); (· (first | exact wanted_none rfl | exact wanted_some rfl rfl rfl)); (· rfl); (· infer_instance); (· rfl)) | ((with_reducible apply wl_store' lwSch); (· (first | exact wanted_none rfl | exact wanted_some rfl rfl rfl)); (· rfl); (· rfl); (· infer_instance); (· rfl); (· rfl); (· (simp [Value.oneCell', SlT.v])); try simp only [setRow_alloc, setRow_new, setRow_new1, setRow_new2, setRow_new11, setRow_new111]) | (go_at_call 46; refine (clone_any st sl.v _ (SliceOf.ext HL.out (by with_reducible repeat' (first | exact Ext.refl _ | exact ExtOf.ext _ | refine Ext.trans ?_ (ExtOf.ext _) | refine Ext.alloc ?_ _ | refine Ext.drew ?_ | refine Ext.setCell ?_ ?_ _ | refine Ext.setRow ?_ ?_ _ | exact HX.out | refine Ext.trans ?_ HX.out | omega | (simp; done) | (simp; omega)))) (by omega)).mono ?_; rintro e w' ⟨p', n', c', rfl, m, rfl⟩))
        have hwr := HX.out.size
        exact bodyPost_ret (results_cs (b0 := g) rfl lwSch rfl rfl inferInstance (by simp)) rfl ⟨_, by simp, by kernel_rfl, congrArg (fun b => Ending.returned (.tuple #[.agg _, .bool b])) HT.out.symm, by exact ExtOf.of (by with_reducible repeat' (first | exact Ext.refl _ | exact ExtOf.ext _ | refine Ext.trans ?_ (ExtOf.ext _) | refine Ext.alloc ?_ _ | refine Ext.drew ?_ | refine Ext.setCell ?_ ?_ _ | refine Ext.setRow ?_ ?_ _ | exact HX.out | refine Ext.trans ?_ HX.out | omega | (simp; done) | (simp; omega)))⟩
    · obtain rfl : k = l.length := by omega
      have HT : Hid (hasN snm s l = false) := Lib.hid (by have := HD.out; rwa [List.take_length] at this)
      go_wp2_with (((with_reducible apply wl_store' lwSch); (· (first | exact wanted_none rfl | exact wanted_some rfl rfl rfl)); (· rfl); (· rfl); (· infer_instance); (· rfl); (· rfl); (· (simp [Value.oneCell', SlT.v])); try simp only [setRow_alloc, setRow_new, setRow_new1, setRow_new2, setRow_new11, setRow_new111]))
      exact bodyPost_ret (results_cs (b0 := g) rfl lwSch rfl rfl inferInstance rfl) rfl ⟨_, rfl, by simp [Value.oneCell'], congrArg (fun b => Ending.returned (.tuple #[.agg _, .bool b])) HT.out.symm, by exact ExtOf.of (by with_reducible repeat' (first | exact Ext.refl _ | exact ExtOf.ext _ | refine Ext.trans ?_ (ExtOf.ext _) | refine Ext.alloc ?_ _ | refine Ext.drew ?_ | refine Ext.setCell ?_ ?_ _ | refine Ext.setRow ?_ ?_ _ | exact HX.out | refine Ext.trans ?_ HX.out | omega | (simp; done) | (simp; omega)))⟩
end Go.Proofs.YteokijolhbohaaaGreatDoor
end
