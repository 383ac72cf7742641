/-
  Chapter 61: several texts in one (R7, R8, R9).
-/
import Derived.Test.YtjfohapnjnopfaaGreatDoorK5
/-
  Chapter 61: the reference's check of an event.
-/
section
set_option linter.unusedVariables false
set_option linter.unusedSimpArgs false
namespace Go.Proofs.YtjfohapnjnopfaaGreatDoor
open Go.RowKit RepM

attribute [local go_sem] ExtOf.cell ExtOf.frozen Block.cell Block.frozen ExtB.cell ExtB.frozen alloc_cell alloc_frozen
def timeB (t : Int) : Bool := decide (0 ≤ t) && decide (t ≤ 10000000)
theorem ristime_any (t : Int) (w : World) : Calls Tryz.prog 86 #[.int .i64 t] w fun e w' => e = .returned (.bool (timeB t)) ∧ ∃ n : ExtOf w, w' = n.val := by
  go_enter Tryz.func86, Tryz.ntmps86
  rcases q1 : decide (0 ≤ t) with _ | _
  · go_wp2_with fail
    go_ret
    exact ⟨ret_bool (by unfold timeB; rw [q1]; rfl), by exact ExtOf.of (by repeat' (first | (with_reducible exact Ext.refl _) | (with_reducible exact ExtOf.ext _) | (with_reducible refine Ext.trans ?_ (ExtOf.ext _)) | (with_reducible refine Ext.alloc ?_ _) | (with_reducible refine Ext.drew ?_) | (with_reducible refine Ext.setCell ?_ ?_ _) | (with_reducible refine Ext.setRow ?_ ?_ _) | (with_reducible exact HX.out) | (with_reducible refine Ext.trans ?_ HX.out) | (with_reducible refine Ext.below ?_ (Nat.le_refl _) _) | omega | (simp; done) | (simp; omega)))⟩
  · go_wp2_with fail
    go_ret
    exact ⟨ret_bool (by unfold timeB; rw [q1]; rfl), by exact ExtOf.of (by repeat' (first | (with_reducible exact Ext.refl _) | (with_reducible exact ExtOf.ext _) | (with_reducible refine Ext.trans ?_ (ExtOf.ext _)) | (with_reducible refine Ext.alloc ?_ _) | (with_reducible refine Ext.drew ?_) | (with_reducible refine Ext.setCell ?_ ?_ _) | (with_reducible refine Ext.setRow ?_ ?_ _) | (with_reducible exact HX.out) | (with_reducible refine Ext.trans ?_ HX.out) | (with_reducible refine Ext.below ?_ (Nat.le_refl _) _) | omega | (simp; done) | (simp; omega)))⟩
theorem pistime_any (t : Int) (w : World) : Calls Tryz.prog 65 #[.int .i64 t] w fun e w' => e = .returned (.bool (timeB t)) ∧ ∃ n : ExtOf w, w' = n.val := by
  go_enter Tryz.func65, Tryz.ntmps65
  rcases q1 : decide (0 ≤ t) with _ | _
  · go_wp2_with fail
    go_ret
    exact ⟨ret_bool (by unfold timeB; rw [q1]; rfl), by exact ExtOf.of (by repeat' (first | (with_reducible exact Ext.refl _) | (with_reducible exact ExtOf.ext _) | (with_reducible refine Ext.trans ?_ (ExtOf.ext _)) | (with_reducible refine Ext.alloc ?_ _) | (with_reducible refine Ext.drew ?_) | (with_reducible refine Ext.setCell ?_ ?_ _) | (with_reducible refine Ext.setRow ?_ ?_ _) | (with_reducible exact HX.out) | (with_reducible refine Ext.trans ?_ HX.out) | (with_reducible refine Ext.below ?_ (Nat.le_refl _) _) | omega | (simp; done) | (simp; omega)))⟩
  · go_wp2_with fail
    go_ret
    exact ⟨ret_bool (by unfold timeB; rw [q1]; rfl), by exact ExtOf.of (by repeat' (first | (with_reducible exact Ext.refl _) | (with_reducible exact ExtOf.ext _) | (with_reducible refine Ext.trans ?_ (ExtOf.ext _)) | (with_reducible refine Ext.alloc ?_ _) | (with_reducible refine Ext.drew ?_) | (with_reducible refine Ext.setCell ?_ ?_ _) | (with_reducible refine Ext.setRow ?_ ?_ _) | (with_reducible exact HX.out) | (with_reducible refine Ext.trans ?_ HX.out) | (with_reducible refine Ext.below ?_ (Nat.le_refl _) _) | omega | (simp; done) | (simp; omega)))⟩
theorem named_any (s : ByteArray) (k : Nat) (w : World) : Calls Tryz.prog 88 #[.string s, .int .u8 (k : Int)] w fun e w' => e = .returned (.bool (named s k)) ∧ ∃ n : ExtOf w, w' = n.val := by
  by_cases h : k = 0
  · subst h
    go_enter Tryz.func88, Tryz.ntmps88
    go_wp2_with fail
    go_ret
    exact ⟨ret_bool (size_beq s), by exact ExtOf.of (by repeat' (first | (with_reducible exact Ext.refl _) | (with_reducible exact ExtOf.ext _) | (with_reducible refine Ext.trans ?_ (ExtOf.ext _)) | (with_reducible refine Ext.alloc ?_ _) | (with_reducible refine Ext.drew ?_) | (with_reducible refine Ext.setCell ?_ ?_ _) | (with_reducible refine Ext.setRow ?_ ?_ _) | (with_reducible exact HX.out) | (with_reducible refine Ext.trans ?_ HX.out) | (with_reducible refine Ext.below ?_ (Nat.le_refl _) _) | omega | (simp; done) | (simp; omega)))⟩
  · have q : ((k : Int) == 0) = false := beq_eq_false_iff_ne.2 (by omega)
    have q0 : ¬ ((k : Int) = 0) := by omega
    go_enter Tryz.func88, Tryz.ntmps88
    go_wp2_with (go_at_call 46; refine (ris_any s k w).mono ?_; rintro e w' ⟨rfl, n, rfl⟩)
    go_ret
    exact ⟨ret_bool (by unfold named; rw [if_neg h]), ExtOf.of n.ext⟩
theorem codes_1 (w : World) : Calls Tryz.prog 87 #[.int .i64 1] w fun e w' => e = .returned (.tuple #[.int .u8 ((lettersOf 1).1 : Nat), .int .u8 ((lettersOf 1).2 : Nat)]) ∧ ∃ n : ExtOf w, w' = n.val := by
  go_enter Tryz.func87, Tryz.ntmps87
  go_wp2_with fail
  go_ret2
  exact ⟨rfl, by exact ExtOf.of (by repeat' (first | (with_reducible exact Ext.refl _) | (with_reducible exact ExtOf.ext _) | (with_reducible refine Ext.trans ?_ (ExtOf.ext _)) | (with_reducible refine Ext.alloc ?_ _) | (with_reducible refine Ext.drew ?_) | (with_reducible refine Ext.setCell ?_ ?_ _) | (with_reducible refine Ext.setRow ?_ ?_ _) | (with_reducible exact HX.out) | (with_reducible refine Ext.trans ?_ HX.out) | (with_reducible refine Ext.below ?_ (Nat.le_refl _) _) | omega | (simp; done) | (simp; omega)))⟩
theorem codes_2 (w : World) : Calls Tryz.prog 87 #[.int .i64 2] w fun e w' => e = .returned (.tuple #[.int .u8 ((lettersOf 2).1 : Nat), .int .u8 ((lettersOf 2).2 : Nat)]) ∧ ∃ n : ExtOf w, w' = n.val := by
  go_enter Tryz.func87, Tryz.ntmps87
  go_wp2_with fail
  go_ret2
  exact ⟨rfl, by exact ExtOf.of (by repeat' (first | (with_reducible exact Ext.refl _) | (with_reducible exact ExtOf.ext _) | (with_reducible refine Ext.trans ?_ (ExtOf.ext _)) | (with_reducible refine Ext.alloc ?_ _) | (with_reducible refine Ext.drew ?_) | (with_reducible refine Ext.setCell ?_ ?_ _) | (with_reducible refine Ext.setRow ?_ ?_ _) | (with_reducible exact HX.out) | (with_reducible refine Ext.trans ?_ HX.out) | (with_reducible refine Ext.below ?_ (Nat.le_refl _) _) | omega | (simp; done) | (simp; omega)))⟩
theorem codes_3 (w : World) : Calls Tryz.prog 87 #[.int .i64 3] w fun e w' => e = .returned (.tuple #[.int .u8 ((lettersOf 3).1 : Nat), .int .u8 ((lettersOf 3).2 : Nat)]) ∧ ∃ n : ExtOf w, w' = n.val := by
  go_enter Tryz.func87, Tryz.ntmps87
  go_wp2_with fail
  go_ret2
  exact ⟨rfl, by exact ExtOf.of (by repeat' (first | (with_reducible exact Ext.refl _) | (with_reducible exact ExtOf.ext _) | (with_reducible refine Ext.trans ?_ (ExtOf.ext _)) | (with_reducible refine Ext.alloc ?_ _) | (with_reducible refine Ext.drew ?_) | (with_reducible refine Ext.setCell ?_ ?_ _) | (with_reducible refine Ext.setRow ?_ ?_ _) | (with_reducible exact HX.out) | (with_reducible refine Ext.trans ?_ HX.out) | (with_reducible refine Ext.below ?_ (Nat.le_refl _) _) | omega | (simp; done) | (simp; omega)))⟩
theorem codes_4 (w : World) : Calls Tryz.prog 87 #[.int .i64 4] w fun e w' => e = .returned (.tuple #[.int .u8 ((lettersOf 4).1 : Nat), .int .u8 ((lettersOf 4).2 : Nat)]) ∧ ∃ n : ExtOf w, w' = n.val := by
  go_enter Tryz.func87, Tryz.ntmps87
  go_wp2_with fail
  go_ret2
  exact ⟨rfl, by exact ExtOf.of (by repeat' (first | (with_reducible exact Ext.refl _) | (with_reducible exact ExtOf.ext _) | (with_reducible refine Ext.trans ?_ (ExtOf.ext _)) | (with_reducible refine Ext.alloc ?_ _) | (with_reducible refine Ext.drew ?_) | (with_reducible refine Ext.setCell ?_ ?_ _) | (with_reducible refine Ext.setRow ?_ ?_ _) | (with_reducible exact HX.out) | (with_reducible refine Ext.trans ?_ HX.out) | (with_reducible refine Ext.below ?_ (Nat.le_refl _) _) | omega | (simp; done) | (simp; omega)))⟩
theorem codes_5 (w : World) : Calls Tryz.prog 87 #[.int .i64 5] w fun e w' => e = .returned (.tuple #[.int .u8 ((lettersOf 5).1 : Nat), .int .u8 ((lettersOf 5).2 : Nat)]) ∧ ∃ n : ExtOf w, w' = n.val := by
  go_enter Tryz.func87, Tryz.ntmps87
  go_wp2_with fail
  go_ret2
  exact ⟨rfl, by exact ExtOf.of (by repeat' (first | (with_reducible exact Ext.refl _) | (with_reducible exact ExtOf.ext _) | (with_reducible refine Ext.trans ?_ (ExtOf.ext _)) | (with_reducible refine Ext.alloc ?_ _) | (with_reducible refine Ext.drew ?_) | (with_reducible refine Ext.setCell ?_ ?_ _) | (with_reducible refine Ext.setRow ?_ ?_ _) | (with_reducible exact HX.out) | (with_reducible refine Ext.trans ?_ HX.out) | (with_reducible refine Ext.below ?_ (Nat.le_refl _) _) | omega | (simp; done) | (simp; omega)))⟩
theorem codes_6 (w : World) : Calls Tryz.prog 87 #[.int .i64 6] w fun e w' => e = .returned (.tuple #[.int .u8 ((lettersOf 6).1 : Nat), .int .u8 ((lettersOf 6).2 : Nat)]) ∧ ∃ n : ExtOf w, w' = n.val := by
  go_enter Tryz.func87, Tryz.ntmps87
  go_wp2_with fail
  go_ret2
  exact ⟨rfl, by exact ExtOf.of (by repeat' (first | (with_reducible exact Ext.refl _) | (with_reducible exact ExtOf.ext _) | (with_reducible refine Ext.trans ?_ (ExtOf.ext _)) | (with_reducible refine Ext.alloc ?_ _) | (with_reducible refine Ext.drew ?_) | (with_reducible refine Ext.setCell ?_ ?_ _) | (with_reducible refine Ext.setRow ?_ ?_ _) | (with_reducible exact HX.out) | (with_reducible refine Ext.trans ?_ HX.out) | (with_reducible refine Ext.below ?_ (Nat.le_refl _) _) | omega | (simp; done) | (simp; omega)))⟩
theorem codes_7 (w : World) : Calls Tryz.prog 87 #[.int .i64 7] w fun e w' => e = .returned (.tuple #[.int .u8 ((lettersOf 7).1 : Nat), .int .u8 ((lettersOf 7).2 : Nat)]) ∧ ∃ n : ExtOf w, w' = n.val := by
  go_enter Tryz.func87, Tryz.ntmps87
  go_wp2_with fail
  go_ret2
  exact ⟨rfl, by exact ExtOf.of (by repeat' (first | (with_reducible exact Ext.refl _) | (with_reducible exact ExtOf.ext _) | (with_reducible refine Ext.trans ?_ (ExtOf.ext _)) | (with_reducible refine Ext.alloc ?_ _) | (with_reducible refine Ext.drew ?_) | (with_reducible refine Ext.setCell ?_ ?_ _) | (with_reducible refine Ext.setRow ?_ ?_ _) | (with_reducible exact HX.out) | (with_reducible refine Ext.trans ?_ HX.out) | (with_reducible refine Ext.below ?_ (Nat.le_refl _) _) | omega | (simp; done) | (simp; omega)))⟩
theorem codes_8 (w : World) : Calls Tryz.prog 87 #[.int .i64 8] w fun e w' => e = .returned (.tuple #[.int .u8 ((lettersOf 8).1 : Nat), .int .u8 ((lettersOf 8).2 : Nat)]) ∧ ∃ n : ExtOf w, w' = n.val := by
  go_enter Tryz.func87, Tryz.ntmps87
  go_wp2_with fail
  go_ret2
  exact ⟨rfl, by exact ExtOf.of (by repeat' (first | (with_reducible exact Ext.refl _) | (with_reducible exact ExtOf.ext _) | (with_reducible refine Ext.trans ?_ (ExtOf.ext _)) | (with_reducible refine Ext.alloc ?_ _) | (with_reducible refine Ext.drew ?_) | (with_reducible refine Ext.setCell ?_ ?_ _) | (with_reducible refine Ext.setRow ?_ ?_ _) | (with_reducible exact HX.out) | (with_reducible refine Ext.trans ?_ HX.out) | (with_reducible refine Ext.below ?_ (Nat.le_refl _) _) | omega | (simp; done) | (simp; omega)))⟩
theorem codes_9 (w : World) : Calls Tryz.prog 87 #[.int .i64 9] w fun e w' => e = .returned (.tuple #[.int .u8 ((lettersOf 9).1 : Nat), .int .u8 ((lettersOf 9).2 : Nat)]) ∧ ∃ n : ExtOf w, w' = n.val := by
  go_enter Tryz.func87, Tryz.ntmps87
  go_wp2_with fail
  go_ret2
  exact ⟨rfl, by exact ExtOf.of (by repeat' (first | (with_reducible exact Ext.refl _) | (with_reducible exact ExtOf.ext _) | (with_reducible refine Ext.trans ?_ (ExtOf.ext _)) | (with_reducible refine Ext.alloc ?_ _) | (with_reducible refine Ext.drew ?_) | (with_reducible refine Ext.setCell ?_ ?_ _) | (with_reducible refine Ext.setRow ?_ ?_ _) | (with_reducible exact HX.out) | (with_reducible refine Ext.trans ?_ HX.out) | (with_reducible refine Ext.below ?_ (Nat.le_refl _) _) | omega | (simp; done) | (simp; omega)))⟩
theorem codes_10 (w : World) : Calls Tryz.prog 87 #[.int .i64 10] w fun e w' => e = .returned (.tuple #[.int .u8 ((lettersOf 10).1 : Nat), .int .u8 ((lettersOf 10).2 : Nat)]) ∧ ∃ n : ExtOf w, w' = n.val := by
  go_enter Tryz.func87, Tryz.ntmps87
  go_wp2_with fail
  go_ret2
  exact ⟨rfl, by exact ExtOf.of (by repeat' (first | (with_reducible exact Ext.refl _) | (with_reducible exact ExtOf.ext _) | (with_reducible refine Ext.trans ?_ (ExtOf.ext _)) | (with_reducible refine Ext.alloc ?_ _) | (with_reducible refine Ext.drew ?_) | (with_reducible refine Ext.setCell ?_ ?_ _) | (with_reducible refine Ext.setRow ?_ ?_ _) | (with_reducible exact HX.out) | (with_reducible refine Ext.trans ?_ HX.out) | (with_reducible refine Ext.below ?_ (Nat.le_refl _) _) | omega | (simp; done) | (simp; omega)))⟩
theorem codes_11 (w : World) : Calls Tryz.prog 87 #[.int .i64 11] w fun e w' => e = .returned (.tuple #[.int .u8 ((lettersOf 11).1 : Nat), .int .u8 ((lettersOf 11).2 : Nat)]) ∧ ∃ n : ExtOf w, w' = n.val := by
  go_enter Tryz.func87, Tryz.ntmps87
  go_wp2_with fail
  go_ret2
  exact ⟨rfl, by exact ExtOf.of (by repeat' (first | (with_reducible exact Ext.refl _) | (with_reducible exact ExtOf.ext _) | (with_reducible refine Ext.trans ?_ (ExtOf.ext _)) | (with_reducible refine Ext.alloc ?_ _) | (with_reducible refine Ext.drew ?_) | (with_reducible refine Ext.setCell ?_ ?_ _) | (with_reducible refine Ext.setRow ?_ ?_ _) | (with_reducible exact HX.out) | (with_reducible refine Ext.trans ?_ HX.out) | (with_reducible refine Ext.below ?_ (Nat.le_refl _) _) | omega | (simp; done) | (simp; omega)))⟩
theorem codes_12 (w : World) : Calls Tryz.prog 87 #[.int .i64 12] w fun e w' => e = .returned (.tuple #[.int .u8 ((lettersOf 12).1 : Nat), .int .u8 ((lettersOf 12).2 : Nat)]) ∧ ∃ n : ExtOf w, w' = n.val := by
  go_enter Tryz.func87, Tryz.ntmps87
  go_wp2_with fail
  go_ret2
  exact ⟨rfl, by exact ExtOf.of (by repeat' (first | (with_reducible exact Ext.refl _) | (with_reducible exact ExtOf.ext _) | (with_reducible refine Ext.trans ?_ (ExtOf.ext _)) | (with_reducible refine Ext.alloc ?_ _) | (with_reducible refine Ext.drew ?_) | (with_reducible refine Ext.setCell ?_ ?_ _) | (with_reducible refine Ext.setRow ?_ ?_ _) | (with_reducible exact HX.out) | (with_reducible refine Ext.trans ?_ HX.out) | (with_reducible refine Ext.below ?_ (Nat.le_refl _) _) | omega | (simp; done) | (simp; omega)))⟩
theorem codes_13 (w : World) : Calls Tryz.prog 87 #[.int .i64 13] w fun e w' => e = .returned (.tuple #[.int .u8 ((lettersOf 13).1 : Nat), .int .u8 ((lettersOf 13).2 : Nat)]) ∧ ∃ n : ExtOf w, w' = n.val := by
  go_enter Tryz.func87, Tryz.ntmps87
  go_wp2_with fail
  go_ret2
  exact ⟨rfl, by exact ExtOf.of (by repeat' (first | (with_reducible exact Ext.refl _) | (with_reducible exact ExtOf.ext _) | (with_reducible refine Ext.trans ?_ (ExtOf.ext _)) | (with_reducible refine Ext.alloc ?_ _) | (with_reducible refine Ext.drew ?_) | (with_reducible refine Ext.setCell ?_ ?_ _) | (with_reducible refine Ext.setRow ?_ ?_ _) | (with_reducible exact HX.out) | (with_reducible refine Ext.trans ?_ HX.out) | (with_reducible refine Ext.below ?_ (Nat.le_refl _) _) | omega | (simp; done) | (simp; omega)))⟩
theorem codes_14 (w : World) : Calls Tryz.prog 87 #[.int .i64 14] w fun e w' => e = .returned (.tuple #[.int .u8 ((lettersOf 14).1 : Nat), .int .u8 ((lettersOf 14).2 : Nat)]) ∧ ∃ n : ExtOf w, w' = n.val := by
  go_enter Tryz.func87, Tryz.ntmps87
  go_wp2_with fail
  go_ret2
  exact ⟨rfl, by exact ExtOf.of (by repeat' (first | (with_reducible exact Ext.refl _) | (with_reducible exact ExtOf.ext _) | (with_reducible refine Ext.trans ?_ (ExtOf.ext _)) | (with_reducible refine Ext.alloc ?_ _) | (with_reducible refine Ext.drew ?_) | (with_reducible refine Ext.setCell ?_ ?_ _) | (with_reducible refine Ext.setRow ?_ ?_ _) | (with_reducible exact HX.out) | (with_reducible refine Ext.trans ?_ HX.out) | (with_reducible refine Ext.below ?_ (Nat.le_refl _) _) | omega | (simp; done) | (simp; omega)))⟩
theorem shaped_1 (at_ : Int) (item of text : ByteArray) (ns : List Int) (p : Option Addr) (cap : Nat) (w : World) (hl : ns.length ≤ 600) : Calls Tryz.prog 89 #[.agg #[.int .i64 1, .int .i64 at_, .string item, .string of, .slice p ns.length cap, .string text]] w fun e w' => e = .returned (.bool ((shpOf 1).ok ns)) ∧ ∃ n : ExtOf w, w' = n.val := by
  go_enter Tryz.func89, Tryz.ntmps89
  go_wp2_with fail
  go_ret
  exact ⟨ret_bool (by first | exact beq_dec _ _ | rfl | (simp [shpOf, Shp.ok]; done) | (simp [shpOf, Shp.ok, beq_dec]; omega)), by exact ExtOf.of (by repeat' (first | (with_reducible exact Ext.refl _) | (with_reducible exact ExtOf.ext _) | (with_reducible refine Ext.trans ?_ (ExtOf.ext _)) | (with_reducible refine Ext.alloc ?_ _) | (with_reducible refine Ext.drew ?_) | (with_reducible refine Ext.setCell ?_ ?_ _) | (with_reducible refine Ext.setRow ?_ ?_ _) | (with_reducible exact HX.out) | (with_reducible refine Ext.trans ?_ HX.out) | (with_reducible refine Ext.below ?_ (Nat.le_refl _) _) | omega | (simp; done) | (simp; omega)))⟩
theorem shaped_2 (at_ : Int) (item of text : ByteArray) (ns : List Int) (p : Option Addr) (cap : Nat) (w : World) (hl : ns.length ≤ 600) : Calls Tryz.prog 89 #[.agg #[.int .i64 2, .int .i64 at_, .string item, .string of, .slice p ns.length cap, .string text]] w fun e w' => e = .returned (.bool ((shpOf 2).ok ns)) ∧ ∃ n : ExtOf w, w' = n.val := by
  go_enter Tryz.func89, Tryz.ntmps89
  go_wp2_with fail
  go_ret
  exact ⟨ret_bool (by first | exact beq_dec _ _ | rfl | (simp [shpOf, Shp.ok]; done) | (simp [shpOf, Shp.ok, beq_dec]; omega)), by exact ExtOf.of (by repeat' (first | (with_reducible exact Ext.refl _) | (with_reducible exact ExtOf.ext _) | (with_reducible refine Ext.trans ?_ (ExtOf.ext _)) | (with_reducible refine Ext.alloc ?_ _) | (with_reducible refine Ext.drew ?_) | (with_reducible refine Ext.setCell ?_ ?_ _) | (with_reducible refine Ext.setRow ?_ ?_ _) | (with_reducible exact HX.out) | (with_reducible refine Ext.trans ?_ HX.out) | (with_reducible refine Ext.below ?_ (Nat.le_refl _) _) | omega | (simp; done) | (simp; omega)))⟩
theorem shaped_3 (at_ : Int) (item of text : ByteArray) (ns : List Int) (p : Option Addr) (cap : Nat) (w : World) (hl : ns.length ≤ 600) : Calls Tryz.prog 89 #[.agg #[.int .i64 3, .int .i64 at_, .string item, .string of, .slice p ns.length cap, .string text]] w fun e w' => e = .returned (.bool ((shpOf 3).ok ns)) ∧ ∃ n : ExtOf w, w' = n.val := by
  go_enter Tryz.func89, Tryz.ntmps89
  go_wp2_with fail
  go_ret
  exact ⟨ret_bool (by first | exact beq_dec _ _ | rfl | (simp [shpOf, Shp.ok]; done) | (simp [shpOf, Shp.ok, beq_dec]; omega)), by exact ExtOf.of (by repeat' (first | (with_reducible exact Ext.refl _) | (with_reducible exact ExtOf.ext _) | (with_reducible refine Ext.trans ?_ (ExtOf.ext _)) | (with_reducible refine Ext.alloc ?_ _) | (with_reducible refine Ext.drew ?_) | (with_reducible refine Ext.setCell ?_ ?_ _) | (with_reducible refine Ext.setRow ?_ ?_ _) | (with_reducible exact HX.out) | (with_reducible refine Ext.trans ?_ HX.out) | (with_reducible refine Ext.below ?_ (Nat.le_refl _) _) | omega | (simp; done) | (simp; omega)))⟩
theorem shaped_4 (at_ : Int) (item of text : ByteArray) (ns : List Int) (p : Option Addr) (cap : Nat) (w : World) (hl : ns.length ≤ 600) : Calls Tryz.prog 89 #[.agg #[.int .i64 4, .int .i64 at_, .string item, .string of, .slice p ns.length cap, .string text]] w fun e w' => e = .returned (.bool ((shpOf 4).ok ns)) ∧ ∃ n : ExtOf w, w' = n.val := by
  go_enter Tryz.func89, Tryz.ntmps89
  go_wp2_with fail
  go_ret
  exact ⟨ret_bool (by first | exact beq_dec _ _ | rfl | (simp [shpOf, Shp.ok]; done) | (simp [shpOf, Shp.ok, beq_dec]; omega)), by exact ExtOf.of (by repeat' (first | (with_reducible exact Ext.refl _) | (with_reducible exact ExtOf.ext _) | (with_reducible refine Ext.trans ?_ (ExtOf.ext _)) | (with_reducible refine Ext.alloc ?_ _) | (with_reducible refine Ext.drew ?_) | (with_reducible refine Ext.setCell ?_ ?_ _) | (with_reducible refine Ext.setRow ?_ ?_ _) | (with_reducible exact HX.out) | (with_reducible refine Ext.trans ?_ HX.out) | (with_reducible refine Ext.below ?_ (Nat.le_refl _) _) | omega | (simp; done) | (simp; omega)))⟩
theorem shaped_5 (at_ : Int) (item of text : ByteArray) (ns : List Int) (p : Option Addr) (cap : Nat) (w : World) (hl : ns.length ≤ 600) : Calls Tryz.prog 89 #[.agg #[.int .i64 5, .int .i64 at_, .string item, .string of, .slice p ns.length cap, .string text]] w fun e w' => e = .returned (.bool ((shpOf 5).ok ns)) ∧ ∃ n : ExtOf w, w' = n.val := by
  go_enter Tryz.func89, Tryz.ntmps89
  go_wp2_with fail
  go_ret
  exact ⟨ret_bool (by first | exact beq_dec _ _ | rfl | (simp [shpOf, Shp.ok]; done) | (simp [shpOf, Shp.ok, beq_dec]; omega)), by exact ExtOf.of (by repeat' (first | (with_reducible exact Ext.refl _) | (with_reducible exact ExtOf.ext _) | (with_reducible refine Ext.trans ?_ (ExtOf.ext _)) | (with_reducible refine Ext.alloc ?_ _) | (with_reducible refine Ext.drew ?_) | (with_reducible refine Ext.setCell ?_ ?_ _) | (with_reducible refine Ext.setRow ?_ ?_ _) | (with_reducible exact HX.out) | (with_reducible refine Ext.trans ?_ HX.out) | (with_reducible refine Ext.below ?_ (Nat.le_refl _) _) | omega | (simp; done) | (simp; omega)))⟩
theorem shaped_7 (at_ : Int) (item of text : ByteArray) (ns : List Int) (p : Option Addr) (cap : Nat) (w : World) (hl : ns.length ≤ 600) : Calls Tryz.prog 89 #[.agg #[.int .i64 7, .int .i64 at_, .string item, .string of, .slice p ns.length cap, .string text]] w fun e w' => e = .returned (.bool ((shpOf 7).ok ns)) ∧ ∃ n : ExtOf w, w' = n.val := by
  go_enter Tryz.func89, Tryz.ntmps89
  go_wp2_with fail
  go_ret
  exact ⟨ret_bool (by first | exact beq_dec _ _ | rfl | (simp [shpOf, Shp.ok]; done) | (simp [shpOf, Shp.ok, beq_dec]; omega)), by exact ExtOf.of (by repeat' (first | (with_reducible exact Ext.refl _) | (with_reducible exact ExtOf.ext _) | (with_reducible refine Ext.trans ?_ (ExtOf.ext _)) | (with_reducible refine Ext.alloc ?_ _) | (with_reducible refine Ext.drew ?_) | (with_reducible refine Ext.setCell ?_ ?_ _) | (with_reducible refine Ext.setRow ?_ ?_ _) | (with_reducible exact HX.out) | (with_reducible refine Ext.trans ?_ HX.out) | (with_reducible refine Ext.below ?_ (Nat.le_refl _) _) | omega | (simp; done) | (simp; omega)))⟩
theorem shaped_8 (at_ : Int) (item of text : ByteArray) (ns : List Int) (p : Option Addr) (cap : Nat) (w : World) (hl : ns.length ≤ 600) : Calls Tryz.prog 89 #[.agg #[.int .i64 8, .int .i64 at_, .string item, .string of, .slice p ns.length cap, .string text]] w fun e w' => e = .returned (.bool ((shpOf 8).ok ns)) ∧ ∃ n : ExtOf w, w' = n.val := by
  go_enter Tryz.func89, Tryz.ntmps89
  go_wp2_with fail
  go_ret
  exact ⟨ret_bool (by first | exact beq_dec _ _ | rfl | (simp [shpOf, Shp.ok]; done) | (simp [shpOf, Shp.ok, beq_dec]; omega)), by exact ExtOf.of (by repeat' (first | (with_reducible exact Ext.refl _) | (with_reducible exact ExtOf.ext _) | (with_reducible refine Ext.trans ?_ (ExtOf.ext _)) | (with_reducible refine Ext.alloc ?_ _) | (with_reducible refine Ext.drew ?_) | (with_reducible refine Ext.setCell ?_ ?_ _) | (with_reducible refine Ext.setRow ?_ ?_ _) | (with_reducible exact HX.out) | (with_reducible refine Ext.trans ?_ HX.out) | (with_reducible refine Ext.below ?_ (Nat.le_refl _) _) | omega | (simp; done) | (simp; omega)))⟩
theorem shaped_9 (at_ : Int) (item of text : ByteArray) (ns : List Int) (p : Option Addr) (cap : Nat) (w : World) (hl : ns.length ≤ 600) : Calls Tryz.prog 89 #[.agg #[.int .i64 9, .int .i64 at_, .string item, .string of, .slice p ns.length cap, .string text]] w fun e w' => e = .returned (.bool ((shpOf 9).ok ns)) ∧ ∃ n : ExtOf w, w' = n.val := by
  go_enter Tryz.func89, Tryz.ntmps89
  go_wp2_with fail
  go_ret
  exact ⟨ret_bool (by first | exact beq_dec _ _ | rfl | (simp [shpOf, Shp.ok]; done) | (simp [shpOf, Shp.ok, beq_dec]; omega)), by exact ExtOf.of (by repeat' (first | (with_reducible exact Ext.refl _) | (with_reducible exact ExtOf.ext _) | (with_reducible refine Ext.trans ?_ (ExtOf.ext _)) | (with_reducible refine Ext.alloc ?_ _) | (with_reducible refine Ext.drew ?_) | (with_reducible refine Ext.setCell ?_ ?_ _) | (with_reducible refine Ext.setRow ?_ ?_ _) | (with_reducible exact HX.out) | (with_reducible refine Ext.trans ?_ HX.out) | (with_reducible refine Ext.below ?_ (Nat.le_refl _) _) | omega | (simp; done) | (simp; omega)))⟩
theorem shaped_10 (at_ : Int) (item of text : ByteArray) (ns : List Int) (p : Option Addr) (cap : Nat) (w : World) (hl : ns.length ≤ 600) : Calls Tryz.prog 89 #[.agg #[.int .i64 10, .int .i64 at_, .string item, .string of, .slice p ns.length cap, .string text]] w fun e w' => e = .returned (.bool ((shpOf 10).ok ns)) ∧ ∃ n : ExtOf w, w' = n.val := by
  go_enter Tryz.func89, Tryz.ntmps89
  go_wp2_with fail
  go_ret
  exact ⟨ret_bool (by first | exact beq_dec _ _ | rfl | (simp [shpOf, Shp.ok]; done) | (simp [shpOf, Shp.ok, beq_dec]; omega)), by exact ExtOf.of (by repeat' (first | (with_reducible exact Ext.refl _) | (with_reducible exact ExtOf.ext _) | (with_reducible refine Ext.trans ?_ (ExtOf.ext _)) | (with_reducible refine Ext.alloc ?_ _) | (with_reducible refine Ext.drew ?_) | (with_reducible refine Ext.setCell ?_ ?_ _) | (with_reducible refine Ext.setRow ?_ ?_ _) | (with_reducible exact HX.out) | (with_reducible refine Ext.trans ?_ HX.out) | (with_reducible refine Ext.below ?_ (Nat.le_refl _) _) | omega | (simp; done) | (simp; omega)))⟩
theorem shaped_11 (at_ : Int) (item of text : ByteArray) (ns : List Int) (p : Option Addr) (cap : Nat) (w : World) (hl : ns.length ≤ 600) : Calls Tryz.prog 89 #[.agg #[.int .i64 11, .int .i64 at_, .string item, .string of, .slice p ns.length cap, .string text]] w fun e w' => e = .returned (.bool ((shpOf 11).ok ns)) ∧ ∃ n : ExtOf w, w' = n.val := by
  go_enter Tryz.func89, Tryz.ntmps89
  go_wp2_with fail
  go_ret
  exact ⟨ret_bool (by first | exact beq_dec _ _ | rfl | (simp [shpOf, Shp.ok]; done) | (simp [shpOf, Shp.ok, beq_dec]; omega)), by exact ExtOf.of (by repeat' (first | (with_reducible exact Ext.refl _) | (with_reducible exact ExtOf.ext _) | (with_reducible refine Ext.trans ?_ (ExtOf.ext _)) | (with_reducible refine Ext.alloc ?_ _) | (with_reducible refine Ext.drew ?_) | (with_reducible refine Ext.setCell ?_ ?_ _) | (with_reducible refine Ext.setRow ?_ ?_ _) | (with_reducible exact HX.out) | (with_reducible refine Ext.trans ?_ HX.out) | (with_reducible refine Ext.below ?_ (Nat.le_refl _) _) | omega | (simp; done) | (simp; omega)))⟩
theorem shaped_12 (at_ : Int) (item of text : ByteArray) (ns : List Int) (p : Option Addr) (cap : Nat) (w : World) (hl : ns.length ≤ 600) : Calls Tryz.prog 89 #[.agg #[.int .i64 12, .int .i64 at_, .string item, .string of, .slice p ns.length cap, .string text]] w fun e w' => e = .returned (.bool ((shpOf 12).ok ns)) ∧ ∃ n : ExtOf w, w' = n.val := by
  go_enter Tryz.func89, Tryz.ntmps89
  go_wp2_with fail
  go_ret
  exact ⟨ret_bool (by first | exact beq_dec _ _ | rfl | (simp [shpOf, Shp.ok]; done) | (simp [shpOf, Shp.ok, beq_dec]; omega)), by exact ExtOf.of (by repeat' (first | (with_reducible exact Ext.refl _) | (with_reducible exact ExtOf.ext _) | (with_reducible refine Ext.trans ?_ (ExtOf.ext _)) | (with_reducible refine Ext.alloc ?_ _) | (with_reducible refine Ext.drew ?_) | (with_reducible refine Ext.setCell ?_ ?_ _) | (with_reducible refine Ext.setRow ?_ ?_ _) | (with_reducible exact HX.out) | (with_reducible refine Ext.trans ?_ HX.out) | (with_reducible refine Ext.below ?_ (Nat.le_refl _) _) | omega | (simp; done) | (simp; omega)))⟩
theorem shaped_13 (at_ : Int) (item of text : ByteArray) (ns : List Int) (p : Option Addr) (cap : Nat) (w : World) (hl : ns.length ≤ 600) : Calls Tryz.prog 89 #[.agg #[.int .i64 13, .int .i64 at_, .string item, .string of, .slice p ns.length cap, .string text]] w fun e w' => e = .returned (.bool ((shpOf 13).ok ns)) ∧ ∃ n : ExtOf w, w' = n.val := by
  go_enter Tryz.func89, Tryz.ntmps89
  go_wp2_with fail
  go_ret
  exact ⟨ret_bool (by first | exact beq_dec _ _ | rfl | (simp [shpOf, Shp.ok]; done) | (simp [shpOf, Shp.ok, beq_dec]; omega)), by exact ExtOf.of (by repeat' (first | (with_reducible exact Ext.refl _) | (with_reducible exact ExtOf.ext _) | (with_reducible refine Ext.trans ?_ (ExtOf.ext _)) | (with_reducible refine Ext.alloc ?_ _) | (with_reducible refine Ext.drew ?_) | (with_reducible refine Ext.setCell ?_ ?_ _) | (with_reducible refine Ext.setRow ?_ ?_ _) | (with_reducible exact HX.out) | (with_reducible refine Ext.trans ?_ HX.out) | (with_reducible refine Ext.below ?_ (Nat.le_refl _) _) | omega | (simp; done) | (simp; omega)))⟩
theorem shaped_14 (at_ : Int) (item of text : ByteArray) (ns : List Int) (p : Option Addr) (cap : Nat) (w : World) (hl : ns.length ≤ 600) : Calls Tryz.prog 89 #[.agg #[.int .i64 14, .int .i64 at_, .string item, .string of, .slice p ns.length cap, .string text]] w fun e w' => e = .returned (.bool ((shpOf 14).ok ns)) ∧ ∃ n : ExtOf w, w' = n.val := by
  go_enter Tryz.func89, Tryz.ntmps89
  go_wp2_with fail
  go_ret
  exact ⟨ret_bool (by first | exact beq_dec _ _ | rfl | (simp [shpOf, Shp.ok]; done) | (simp [shpOf, Shp.ok, beq_dec]; omega)), by exact ExtOf.of (by repeat' (first | (with_reducible exact Ext.refl _) | (with_reducible exact ExtOf.ext _) | (with_reducible refine Ext.trans ?_ (ExtOf.ext _)) | (with_reducible refine Ext.alloc ?_ _) | (with_reducible refine Ext.drew ?_) | (with_reducible refine Ext.setCell ?_ ?_ _) | (with_reducible refine Ext.setRow ?_ ?_ _) | (with_reducible exact HX.out) | (with_reducible refine Ext.trans ?_ HX.out) | (with_reducible refine Ext.below ?_ (Nat.le_refl _) _) | omega | (simp; done) | (simp; omega)))⟩
end Go.Proofs.YtjfohapnjnopfaaGreatDoor
end
/-
  Chapter 61: the reference's check of an event, whole.
-/
section
set_option linter.unusedVariables false
set_option linter.unusedSimpArgs false
namespace Go.Proofs.YtjfohapnjnopfaaGreatDoor
open Go.RowKit RepM

attribute [local go_sem] ExtOf.cell ExtOf.frozen Block.cell Block.frozen ExtB.cell ExtB.frozen alloc_cell alloc_frozen
theorem dry_true {n : List Int} (h : Shp.dry.ok n = true) : 2 ≤ n.length ∧ 0 ≤ n.getD 1 0 ∧ n.getD 1 0 ≤ (n.length : Int) - 2 := by
  simp only [Shp.ok, Bool.and_eq_true, decide_eq_true_eq] at h
  exact ⟨h.1, h.2.1, h.2.2.1⟩
set_option maxHeartbeats 800000 in
theorem shaped_6 (at_ : Int) (item of text : ByteArray) (ns : List Int) (p : Option Addr) (cap : Nat) (w : World) (hl : ns.length ≤ 600) (hn : IntS w (.slice p ns.length cap) ns) (hi : ns.all inNum = true) : Calls Tryz.prog 89 #[.agg #[.int .i64 6, .int .i64 at_, .string item, .string of, .slice p ns.length cap, .string text]] w fun e w' => e = .returned (.bool (Shp.dry.ok ns)) ∧ ∃ n : ExtOf w, w' = n.val := by
  by_cases h2 : ns.length < 2
  · have q : decide (2 ≤ (ns.length : Int)) = false := decide_eq_false (by omega)
    go_enter Tryz.func89, Tryz.ntmps89
    go_wp2_with fail
    go_ret
    exact ⟨ret_bool (by simp only [Shp.ok]; rw [decide_eq_false (by omega)]; rfl), by exact ExtOf.of (by repeat' (first | (with_reducible exact Ext.refl _) | (with_reducible exact ExtOf.ext _) | (with_reducible refine Ext.trans ?_ (ExtOf.ext _)) | (with_reducible refine Ext.alloc ?_ _) | (with_reducible refine Ext.drew ?_) | (with_reducible refine Ext.setCell ?_ ?_ _) | (with_reducible refine Ext.setRow ?_ ?_ _) | (with_reducible exact HX.out) | (with_reducible refine Ext.trans ?_ HX.out) | (with_reducible refine Ext.below ?_ (Nat.le_refl _) _) | omega | (simp; done) | (simp; omega)))⟩
  · have q : decide (2 ≤ (ns.length : Int)) = true := decide_eq_true (by omega)
    obtain ⟨b, off, rfl, hc⟩ := IntS.elem hn (i := 1) (by omega)
    have hr := inNum_of (List.all_eq_true.1 hi ns[1] (List.getElem_mem (by omega)))
    have HG : Hid (ns.getD 1 0 = ns[1]) := Lib.hid (by rw [List.getD_eq_getElem?_getD, List.getElem?_eq_getElem (by omega)]; rfl)
    generalize ns[1] = m at *
    have ob := Old.of_cell hc
    have HE : Hid (Shp.dry.ok ns = (decide (0 ≤ m) && (decide (m ≤ (ns.length : Int) - 2) && decide (((ns.length : Int) - 2 - m) % 3 = 0)))) := Lib.hid (by simp only [Shp.ok]; rw [HG.out, decide_eq_true (by omega : 2 ≤ ns.length)]; rfl)
    clear hn HG
    rcases q1 : decide (0 ≤ m) with _ | _
    · go_enter Tryz.func89, Tryz.ntmps89
      go_wp2_with fail
      go_ret
      exact ⟨ret_bool (by rw [HE.out, q1]; rfl), by exact ExtOf.of (by repeat' (first | (with_reducible exact Ext.refl _) | (with_reducible exact ExtOf.ext _) | (with_reducible refine Ext.trans ?_ (ExtOf.ext _)) | (with_reducible refine Ext.alloc ?_ _) | (with_reducible refine Ext.drew ?_) | (with_reducible refine Ext.setCell ?_ ?_ _) | (with_reducible refine Ext.setRow ?_ ?_ _) | (with_reducible exact HX.out) | (with_reducible refine Ext.trans ?_ HX.out) | (with_reducible refine Ext.below ?_ (Nat.le_refl _) _) | omega | (simp; done) | (simp; omega)))⟩
    · rcases q2 : decide (m ≤ (ns.length : Int) - 2) with _ | _
      · go_enter Tryz.func89, Tryz.ntmps89
        go_wp2_with fail
        go_ret
        exact ⟨ret_bool (by rw [HE.out, q1, q2]; rfl), by exact ExtOf.of (by repeat' (first | (with_reducible exact Ext.refl _) | (with_reducible exact ExtOf.ext _) | (with_reducible refine Ext.trans ?_ (ExtOf.ext _)) | (with_reducible refine Ext.alloc ?_ _) | (with_reducible refine Ext.drew ?_) | (with_reducible refine Ext.setCell ?_ ?_ _) | (with_reducible refine Ext.setRow ?_ ?_ _) | (with_reducible exact HX.out) | (with_reducible refine Ext.trans ?_ HX.out) | (with_reducible refine Ext.below ?_ (Nat.le_refl _) _) | omega | (simp; done) | (simp; omega)))⟩
      · have b1 := of_decide_eq_true q1
        have b2 := of_decide_eq_true q2
        go_enter Tryz.func89, Tryz.ntmps89
        go_wp2_with fail
        go_ret
        refine ⟨ret_bool ?_, by exact ExtOf.of (by repeat' (first | (with_reducible exact Ext.refl _) | (with_reducible exact ExtOf.ext _) | (with_reducible refine Ext.trans ?_ (ExtOf.ext _)) | (with_reducible refine Ext.alloc ?_ _) | (with_reducible refine Ext.drew ?_) | (with_reducible refine Ext.setCell ?_ ?_ _) | (with_reducible refine Ext.setRow ?_ ?_ _) | (with_reducible exact HX.out) | (with_reducible refine Ext.trans ?_ HX.out) | (with_reducible refine Ext.below ?_ (Nat.le_refl _) _) | omega | (simp; done) | (simp; omega)))⟩
        rw [HE.out, q1, q2]
        simp only [Bool.true_and]
        exact beq_dec _ _
theorem codes_any (k : Int) (h1 : 1 ≤ k) (h2 : k ≤ 14) (w : World) : Calls Tryz.prog 87 #[.int .i64 k] w fun e w' => e = .returned (.tuple #[.int .u8 ((lettersOf k).1 : Nat), .int .u8 ((lettersOf k).2 : Nat)]) ∧ ∃ n : ExtOf w, w' = n.val := by
  have : k = 1 ∨ k = 2 ∨ k = 3 ∨ k = 4 ∨ k = 5 ∨ k = 6 ∨ k = 7 ∨ k = 8 ∨ k = 9 ∨ k = 10 ∨ k = 11 ∨ k = 12 ∨ k = 13 ∨ k = 14 := by omega
  rcases this with rfl | rfl | rfl | rfl | rfl | rfl | rfl | rfl | rfl | rfl | rfl | rfl | rfl | rfl
  · exact codes_1 w
  · exact codes_2 w
  · exact codes_3 w
  · exact codes_4 w
  · exact codes_5 w
  · exact codes_6 w
  · exact codes_7 w
  · exact codes_8 w
  · exact codes_9 w
  · exact codes_10 w
  · exact codes_11 w
  · exact codes_12 w
  · exact codes_13 w
  · exact codes_14 w
theorem shaped_any (k at_ : Int) (item of text : ByteArray) (ns : List Int) (p : Option Addr) (cap : Nat) (w : World) (h1 : 1 ≤ k) (h2 : k ≤ 14) (hl : ns.length ≤ 600) (hn : IntS w (.slice p ns.length cap) ns) (hi : ns.all inNum = true) : Calls Tryz.prog 89 #[.agg #[.int .i64 k, .int .i64 at_, .string item, .string of, .slice p ns.length cap, .string text]] w fun e w' => e = .returned (.bool ((shpOf k).ok ns)) ∧ ∃ n : ExtOf w, w' = n.val := by
  have : k = 1 ∨ k = 2 ∨ k = 3 ∨ k = 4 ∨ k = 5 ∨ k = 6 ∨ k = 7 ∨ k = 8 ∨ k = 9 ∨ k = 10 ∨ k = 11 ∨ k = 12 ∨ k = 13 ∨ k = 14 := by omega
  rcases this with rfl | rfl | rfl | rfl | rfl | rfl | rfl | rfl | rfl | rfl | rfl | rfl | rfl | rfl
  · exact shaped_1 _ _ _ _ _ _ _ _ hl
  · exact shaped_2 _ _ _ _ _ _ _ _ hl
  · exact shaped_3 _ _ _ _ _ _ _ _ hl
  · exact shaped_4 _ _ _ _ _ _ _ _ hl
  · exact shaped_5 _ _ _ _ _ _ _ _ hl
  · exact shaped_6 _ _ _ _ _ _ _ _ hl hn hi
  · exact shaped_7 _ _ _ _ _ _ _ _ hl
  · exact shaped_8 _ _ _ _ _ _ _ _ hl
  · exact shaped_9 _ _ _ _ _ _ _ _ hl
  · exact shaped_10 _ _ _ _ _ _ _ _ hl
  · exact shaped_11 _ _ _ _ _ _ _ _ hl
  · exact shaped_12 _ _ _ _ _ _ _ _ hl
  · exact shaped_13 _ _ _ _ _ _ _ _ hl
  · exact shaped_14 _ _ _ _ _ _ _ _ hl
set_option maxHeartbeats 1600000 in
set_option maxRecDepth 20000 in
theorem rcheck_any (e : Ev) (nv : Value) (w : World) (hn : IntS w nv e.n) : Calls Tryz.prog 59 #[.agg (evC e nv)] w fun en w' => ChkR e en ∧ ∃ n : ExtOf w, w' = n.val := by
  obtain ⟨p, cap, rfl, hc1, hc2, hc3⟩ := IntS.form hn
  obtain ⟨kind, at_, item, of, ns, text⟩ := e
  have HN := Lib.hid hn
  clear hn
  simp only at *
  unfold maxLen at hc2
  by_cases hk : 1 ≤ kind ∧ kind ≤ 14
  · obtain ⟨hk1, hk2⟩ := hk
    have qk1 : decide (kind < 1) = false := decide_eq_false (by omega)
    have qk2 : decide (14 < kind) = false := decide_eq_false (by omega)
    have HO : Hid (okEv ⟨kind, at_, item, of, ns, text⟩ = (timeB at_ && ((named item (lettersOf kind).1 && named of (lettersOf kind).2) && ((decide (ns.length ≤ 600) && decide (text.size ≤ 16384)) && (ns.all inNum && (shpOf kind).ok ns))))) := Lib.hid (by
      unfold okEv timeB; rw [decide_eq_true hk1, decide_eq_true hk2, shp_ok]; rfl)
    have HF := Lib.hid (codes_any kind hk1 hk2)
    have HK1 := Lib.hid hk1
    have HK2 := Lib.hid hk2
    clear hk1 hk2
    generalize hL : lettersOf kind = L at *
    obtain ⟨L1, L2⟩ := L
    clear hL
    unfold evC
    rcases htm : timeB at_ with _ | _
    · have HTM := Lib.hid htm
      go_enter Tryz.func59, Tryz.ntmps59
      go_wp2_with (first | (go_at_call 86; refine (ristime_any _ _).mono ?_; rintro e w' ⟨rfl, nt, rfl⟩; simp only [HTM.out]) | (go_at_call 87; refine (HF.out _).mono ?_; rintro e w' ⟨rfl, nf, rfl⟩) | (go_at_call 88; with_reducible refine Calls.mono (named_any item L1 _) ?_; rintro e w' ⟨rfl, n1, rfl⟩; simp only [h1]) | (go_at_call 88; with_reducible refine Calls.mono (named_any of L2 _) ?_; rintro e w' ⟨rfl, n2, rfl⟩; simp only [h2]))
      go_ret
      exact ⟨chk_bad (by (rw [HO.out, htm]; rfl)) (by decide), by exact ExtOf.of (by repeat' (first | (with_reducible exact Ext.refl _) | (with_reducible exact ExtOf.ext _) | (with_reducible refine Ext.trans ?_ (ExtOf.ext _)) | (with_reducible refine Ext.alloc ?_ _) | (with_reducible refine Ext.drew ?_) | (with_reducible refine Ext.setCell ?_ ?_ _) | (with_reducible refine Ext.setRow ?_ ?_ _) | (with_reducible exact HX.out) | (with_reducible refine Ext.trans ?_ HX.out) | (with_reducible refine Ext.below ?_ (Nat.le_refl _) _) | omega | (simp; done) | (simp; omega)))⟩
    have HTM := Lib.hid htm
    have HO2 : Hid (okEv ⟨kind, at_, item, of, ns, text⟩ = ((named item L1 && named of L2) && ((decide (ns.length ≤ 600) && decide (text.size ≤ 16384)) && (ns.all inNum && (shpOf kind).ok ns)))) := Lib.hid (by rw [HO.out, htm]; rfl)
    clear HO htm
    rcases h1 : named item L1 with _ | _
    · go_enter Tryz.func59, Tryz.ntmps59
      go_wp2_with (first | (go_at_call 86; refine (ristime_any _ _).mono ?_; rintro e w' ⟨rfl, nt, rfl⟩; simp only [HTM.out]) | (go_at_call 87; refine (HF.out _).mono ?_; rintro e w' ⟨rfl, nf, rfl⟩) | (go_at_call 88; with_reducible refine Calls.mono (named_any item L1 _) ?_; rintro e w' ⟨rfl, n1, rfl⟩; simp only [h1]) | (go_at_call 88; with_reducible refine Calls.mono (named_any of L2 _) ?_; rintro e w' ⟨rfl, n2, rfl⟩; simp only [h2]))
      go_ret
      exact ⟨chk_bad (by (rw [HO2.out, h1]; rfl)) (by decide), by exact ExtOf.of (by repeat' (first | (with_reducible exact Ext.refl _) | (with_reducible exact ExtOf.ext _) | (with_reducible refine Ext.trans ?_ (ExtOf.ext _)) | (with_reducible refine Ext.alloc ?_ _) | (with_reducible refine Ext.drew ?_) | (with_reducible refine Ext.setCell ?_ ?_ _) | (with_reducible refine Ext.setRow ?_ ?_ _) | (with_reducible exact HX.out) | (with_reducible refine Ext.trans ?_ HX.out) | (with_reducible refine Ext.below ?_ (Nat.le_refl _) _) | omega | (simp; done) | (simp; omega)))⟩
    rcases h2 : named of L2 with _ | _
    · go_enter Tryz.func59, Tryz.ntmps59
      go_wp2_with (first | (go_at_call 86; refine (ristime_any _ _).mono ?_; rintro e w' ⟨rfl, nt, rfl⟩; simp only [HTM.out]) | (go_at_call 87; refine (HF.out _).mono ?_; rintro e w' ⟨rfl, nf, rfl⟩) | (go_at_call 88; with_reducible refine Calls.mono (named_any item L1 _) ?_; rintro e w' ⟨rfl, n1, rfl⟩; simp only [h1]) | (go_at_call 88; with_reducible refine Calls.mono (named_any of L2 _) ?_; rintro e w' ⟨rfl, n2, rfl⟩; simp only [h2]))
      go_ret
      exact ⟨chk_bad (by (rw [HO2.out, h2]; simp)) (by decide), by exact ExtOf.of (by repeat' (first | (with_reducible exact Ext.refl _) | (with_reducible exact ExtOf.ext _) | (with_reducible refine Ext.trans ?_ (ExtOf.ext _)) | (with_reducible refine Ext.alloc ?_ _) | (with_reducible refine Ext.drew ?_) | (with_reducible refine Ext.setCell ?_ ?_ _) | (with_reducible refine Ext.setRow ?_ ?_ _) | (with_reducible exact HX.out) | (with_reducible refine Ext.trans ?_ HX.out) | (with_reducible refine Ext.below ?_ (Nat.le_refl _) _) | omega | (simp; done) | (simp; omega)))⟩
    have HO3 : Hid (okEv ⟨kind, at_, item, of, ns, text⟩ = ((decide (ns.length ≤ 600) && decide (text.size ≤ 16384)) && (ns.all inNum && (shpOf kind).ok ns))) := Lib.hid (by rw [HO2.out, h1, h2]; rfl)
    clear HO2
    by_cases hl : ns.length ≤ 600
    case neg =>
      have ql : decide (600 < (ns.length : Int)) = true := decide_eq_true (by omega)
      go_enter Tryz.func59, Tryz.ntmps59
      go_wp2_with (first | (go_at_call 86; refine (ristime_any _ _).mono ?_; rintro e w' ⟨rfl, nt, rfl⟩; simp only [HTM.out]) | (go_at_call 87; refine (HF.out _).mono ?_; rintro e w' ⟨rfl, nf, rfl⟩) | (go_at_call 88; with_reducible refine Calls.mono (named_any item L1 _) ?_; rintro e w' ⟨rfl, n1, rfl⟩; simp only [h1]) | (go_at_call 88; with_reducible refine Calls.mono (named_any of L2 _) ?_; rintro e w' ⟨rfl, n2, rfl⟩; simp only [h2]))
      go_ret
      exact ⟨chk_bad (by (rw [HO3.out, decide_eq_false hl]; rfl)) (by decide), by exact ExtOf.of (by repeat' (first | (with_reducible exact Ext.refl _) | (with_reducible exact ExtOf.ext _) | (with_reducible refine Ext.trans ?_ (ExtOf.ext _)) | (with_reducible refine Ext.alloc ?_ _) | (with_reducible refine Ext.drew ?_) | (with_reducible refine Ext.setCell ?_ ?_ _) | (with_reducible refine Ext.setRow ?_ ?_ _) | (with_reducible exact HX.out) | (with_reducible refine Ext.trans ?_ HX.out) | (with_reducible refine Ext.below ?_ (Nat.le_refl _) _) | omega | (simp; done) | (simp; omega)))⟩
    have ql : decide (600 < (ns.length : Int)) = false := decide_eq_false (by omega)
    by_cases ht : text.size ≤ 16384
    case neg =>
      have qt : decide (16384 < (text.size : Int)) = true := decide_eq_true (by omega)
      go_enter Tryz.func59, Tryz.ntmps59
      go_wp2_with (first | (go_at_call 86; refine (ristime_any _ _).mono ?_; rintro e w' ⟨rfl, nt, rfl⟩; simp only [HTM.out]) | (go_at_call 87; refine (HF.out _).mono ?_; rintro e w' ⟨rfl, nf, rfl⟩) | (go_at_call 88; with_reducible refine Calls.mono (named_any item L1 _) ?_; rintro e w' ⟨rfl, n1, rfl⟩; simp only [h1]) | (go_at_call 88; with_reducible refine Calls.mono (named_any of L2 _) ?_; rintro e w' ⟨rfl, n2, rfl⟩; simp only [h2]))
      go_ret
      exact ⟨chk_bad (by (rw [HO3.out, decide_eq_false ht]; simp)) (by decide), by exact ExtOf.of (by repeat' (first | (with_reducible exact Ext.refl _) | (with_reducible exact ExtOf.ext _) | (with_reducible refine Ext.trans ?_ (ExtOf.ext _)) | (with_reducible refine Ext.alloc ?_ _) | (with_reducible refine Ext.drew ?_) | (with_reducible refine Ext.setCell ?_ ?_ _) | (with_reducible refine Ext.setRow ?_ ?_ _) | (with_reducible exact HX.out) | (with_reducible refine Ext.trans ?_ HX.out) | (with_reducible refine Ext.below ?_ (Nat.le_refl _) _) | omega | (simp; done) | (simp; omega)))⟩
    have qt : decide (16384 < (text.size : Int)) = false := decide_eq_false (by omega)
    have HO4 : Hid (okEv ⟨kind, at_, item, of, ns, text⟩ = (ns.all inNum && (shpOf kind).ok ns)) := Lib.hid (by rw [HO3.out, decide_eq_true hl, decide_eq_true ht]; rfl)
    clear HO3
    go_enter Tryz.func59, Tryz.ntmps59
    go_wp2_with (first | (go_at_call 86; refine (ristime_any _ _).mono ?_; rintro e w' ⟨rfl, nt, rfl⟩; simp only [HTM.out]) | (go_at_call 87; refine (HF.out _).mono ?_; rintro e w' ⟨rfl, nf, rfl⟩) | (go_at_call 88; with_reducible refine Calls.mono (named_any item L1 _) ?_; rintro e w' ⟨rfl, n1, rfl⟩; simp only [h1]) | (go_at_call 88; with_reducible refine Calls.mono (named_any of L2 _) ?_; rintro e w' ⟨rfl, n2, rfl⟩; simp only [h2]))
    have hll := hl
    clear h1 h2 hl ht ql qt qk1 qk2
    refine nameW (R := fun W => Code.wp _ _ _ _ W) (fun W => Hid (Ext w W) ∧ Block W w.heap.size #[.int .i64 kind, .int .i64 at_, .string item, .string of, .slice p ns.length cap, .string text]) ⟨Lib.hid (by repeat' (first | (with_reducible exact Ext.refl _) | (with_reducible exact ExtOf.ext _) | (with_reducible refine Ext.trans ?_ (ExtOf.ext _)) | (with_reducible refine Ext.alloc ?_ _) | (with_reducible refine Ext.drew ?_) | (with_reducible refine Ext.setCell ?_ ?_ _) | (with_reducible refine Ext.setRow ?_ ?_ _) | (with_reducible exact HX.out) | (with_reducible refine Ext.trans ?_ HX.out) | (with_reducible refine Ext.below ?_ (Nat.le_refl _) _) | omega | (simp; done) | (simp; omega))), inferInstance⟩ ?_
    intro W ⟨HX, hB1⟩
    have o1 := hB1.old
    generalize w.heap.size = ge at *
    go_loop [5] (fun vi => ∃ k : Nat, k ≤ ns.length ∧ vi = .int .i64 k ∧ ns.all inNum = (ns.drop k).all inNum) (fun i => ns.length - (intOf i).toNat)
    case atStart => exact ⟨0, by omega, rfl, by simp⟩
    case round =>
      obtain ⟨k, hk, rfl, hd⟩ := hrel
      have HD := Lib.hid hd
      clear hd
      by_cases hlt : k < ns.length
      · have HAD := Lib.hid (all_drop hlt)
        obtain ⟨b, off, rfl, hc⟩ := IntS.elem (IntS.ext HN.out HX.out) hlt
        have oc := Old.of_cell hc
        generalize ns[k] = m at *
        by_cases m1 : m < -1099511627776
        · have qm : decide (m < -1099511627776) = true := decide_eq_true m1
          go_wp2_with fail
          go_ret
          exact ⟨chk_bad (by rw [HO4.out, HD.out, HAD.out]; unfold inNum; rw [decide_eq_false (by omega : ¬ -1099511627776 ≤ m)]; rfl) (by decide), ExtOf.of HX.out⟩
        · have qm : decide (m < -1099511627776) = false := decide_eq_false m1
          by_cases m2 : 1099511627776 < m
          · have qm2 : decide (1099511627776 < m) = true := decide_eq_true m2
            go_wp2_with fail
            go_ret
            exact ⟨chk_bad (by rw [HO4.out, HD.out, HAD.out]; unfold inNum; rw [decide_eq_false (by omega : ¬ m ≤ 1099511627776)]; simp) (by decide), ExtOf.of HX.out⟩
          · have qm2 : decide (1099511627776 < m) = false := decide_eq_false m2
            have HIN : Hid (inNum m = true) := Lib.hid (by unfold inNum; rw [decide_eq_true (by omega : -1099511627776 ≤ m), decide_eq_true (by omega : m ≤ 1099511627776)]; rfl)
            go_wp2_with fail
            go_round
            case rel => exact ⟨k + 1, by omega, by first | rfl | go_num, by rw [HD.out, HAD.out, HIN.out]; rfl⟩
            case measure => simp [intOf]; omega
      · obtain rfl : k = ns.length := by omega
        have HA : Hid (ns.all inNum = true) := Lib.hid (by rw [HD.out]; simp)
        have HI := Lib.hid (IntS.ext HN.out HX.out)
        have HLL := Lib.hid hll
        clear hll
        rcases hv : (shpOf kind).ok ns with _ | _
        · go_wp2_with (first | ((with_reducible apply wl_load' lwEv); (· (first | exact wanted_none rfl | exact wanted_some rfl rfl rfl)); (· rfl); (· infer_instance); (· rfl)) | (go_at_call 89; refine (shaped_any kind at_ item of text ns p cap _ HK1.out HK2.out HLL.out HI.out HA.out).mono ?_; rintro e w' ⟨rfl, nz, rfl⟩; simp only [hv]))
          go_ret
          exact ⟨chk_bad (by rw [HO4.out, HA.out, hv]; rfl) (by decide), ExtOf.of (HX.out.trans nz.ext)⟩
        · go_wp2_with (first | ((with_reducible apply wl_load' lwEv); (· (first | exact wanted_none rfl | exact wanted_some rfl rfl rfl)); (· rfl); (· infer_instance); (· rfl)) | (go_at_call 89; refine (shaped_any kind at_ item of text ns p cap _ HK1.out HK2.out HLL.out HI.out HA.out).mono ?_; rintro e w' ⟨rfl, nz, rfl⟩; simp only [hv]))
          go_ret
          exact ⟨chk_ok (by rw [HO4.out, HA.out, hv]; rfl), ExtOf.of (HX.out.trans nz.ext)⟩
  · have HO : Hid (okEv ⟨kind, at_, item, of, ns, text⟩ = false) := Lib.hid (by
      unfold okEv
      by_cases h1 : 1 ≤ kind
      · rw [decide_eq_true h1, decide_eq_false (by simp only; omega)]; rfl
      · rw [decide_eq_false h1]; rfl)
    unfold evC
    simp only
    by_cases h1 : kind < 1
    · have qk1 : decide (kind < 1) = true := decide_eq_true h1
      go_enter Tryz.func59, Tryz.ntmps59
      go_wp2_with fail
      go_ret
      exact ⟨chk_bad (by exact HO.out) (by decide), by exact ExtOf.of (by repeat' (first | (with_reducible exact Ext.refl _) | (with_reducible exact ExtOf.ext _) | (with_reducible refine Ext.trans ?_ (ExtOf.ext _)) | (with_reducible refine Ext.alloc ?_ _) | (with_reducible refine Ext.drew ?_) | (with_reducible refine Ext.setCell ?_ ?_ _) | (with_reducible refine Ext.setRow ?_ ?_ _) | (with_reducible exact HX.out) | (with_reducible refine Ext.trans ?_ HX.out) | (with_reducible refine Ext.below ?_ (Nat.le_refl _) _) | omega | (simp; done) | (simp; omega)))⟩
    · have qk1 : decide (kind < 1) = false := decide_eq_false h1
      have qk2 : decide (14 < kind) = true := decide_eq_true (by omega)
      go_enter Tryz.func59, Tryz.ntmps59
      go_wp2_with fail
      go_ret
      exact ⟨chk_bad (by exact HO.out) (by decide), by exact ExtOf.of (by repeat' (first | (with_reducible exact Ext.refl _) | (with_reducible exact ExtOf.ext _) | (with_reducible refine Ext.trans ?_ (ExtOf.ext _)) | (with_reducible refine Ext.alloc ?_ _) | (with_reducible refine Ext.drew ?_) | (with_reducible refine Ext.setCell ?_ ?_ _) | (with_reducible refine Ext.setRow ?_ ?_ _) | (with_reducible exact HX.out) | (with_reducible refine Ext.trans ?_ HX.out) | (with_reducible refine Ext.below ?_ (Nat.le_refl _) _) | omega | (simp; done) | (simp; omega)))⟩
end Go.Proofs.YtjfohapnjnopfaaGreatDoor
end
/-
  Chapter 61: the events that count.
-/
section
set_option linter.unusedVariables false
set_option linter.unusedSimpArgs false
namespace Go.Proofs.YtjfohapnjnopfaaGreatDoor
open Go.RowKit RepM

attribute [local go_sem] ExtOf.cell ExtOf.frozen Block.cell Block.frozen ExtB.cell ExtB.frozen alloc_cell alloc_frozen
def okP (x : EvP) : Bool := okEv x.1
/-- what is handed back: events -/
def EvsRet (w : World) (l : List EvP) (e : Ending) (w' : World) : Prop := ∃ v, e = .returned v ∧ EvsS w' v l ∧ ∃ n : ExtOf w, w' = n.val
theorem filt_take {l : List EvP} {k : Nat} (h : k < l.length) : (l.take (k + 1)).filter okP = (l.take k).filter okP ++ if okP l[k] then [l[k]] else [] := by
  rw [List.take_succ_eq_append_getElem h, List.filter_append]
  congr 1
  by_cases c : okP l[k] = true
  · rw [if_pos c]; simp [c]
  · rw [if_neg c]; simp [c]
theorem chk_eq {e : Ev} {er : Int} (he : er = 0 ↔ okEv e = true) (h : okEv e = true) : (er == 0) = true := beq_iff_eq.2 (he.2 h)
theorem chk_ne {e : Ev} {er : Int} (he : er = 0 ↔ okEv e = true) (h : okEv e = false) : (er == 0) = false := beq_eq_false_iff_ne.2 (fun h0 => by rw [he.1 h0] at h; cases h)
set_option maxHeartbeats 1600000 in
set_option maxRecDepth 20000 in
theorem rcounted_any (l : List EvP) (v : Value) (w : World) (h : EvsS w v l) (hl : l.length ≤ 1000) : Calls Tryz.prog 47 #[v] w (EvsRet w (l.filter okP)) := by
  obtain ⟨p, cap, rfl, hc1, hc2, hc3⟩ := EvsS.form h
  obtain ⟨iE, hiE, hE0, hE1, hE2⟩ := info_parts infoEv
  unfold maxLen at hc2
  have H := Lib.hid h
  clear h
  go_enter Tryz.func47, Tryz.ntmps47
  go_wp2_with fail
  go_loopw [3, 4] (fun vo vi wr => ∃ k : Nat, k ≤ l.length ∧ vi = .int .i64 k ∧ Own encEv 6 34 w.heap.size wr vo ((l.take k).filter okP) ∧ Ext w wr) (fun _ i _ => l.length - (intOf i).toNat)
  case atStart => exact ⟨0, by omega, rfl, Own.nil _, Ext.refl _⟩
  case round =>
    obtain ⟨k, hk, rfl, ho, hx⟩ := hrel
    have HX := Lib.hid hx
    have HO := Lib.hid ho
    clear hx ho
    by_cases hlt : k < l.length
    · obtain ⟨b, off, rfl, hr, hi⟩ := EvsS.elem (EvsS.ext H.out HX.out) hlt
      have HFT := Lib.hid (filt_take hlt)
      obtain ⟨⟨e, sl⟩, he⟩ : ∃ z, z = l[k] := ⟨_, rfl⟩
      rw [← he] at hr hi HFT
      clear he
      have HI := Lib.hid hi
      have HR : Hid (wr.rangeAt b (off + k * 6) [.int .i64 e.kind, .int .i64 e.at_, .string e.item, .string e.of, sl.v, .string e.text]) := Lib.hid hr
      clear hr hi
      rcases hq : okEv e with _ | _
      · have HQ := Lib.hid hq
        clear hq
        go_wp2_with (first | ((with_reducible refine wl_loadM midEv (Ext.range ?_ (Hid.out HR)) ?_ ?_ ?_ ?_); (· repeat' (first | (with_reducible exact Ext.refl _) | (with_reducible exact ExtOf.ext _) | (with_reducible refine Ext.trans ?_ (ExtOf.ext _)) | (with_reducible refine Ext.alloc ?_ _) | (with_reducible refine Ext.drew ?_) | (with_reducible refine Ext.setCell ?_ ?_ _) | (with_reducible refine Ext.setRow ?_ ?_ _) | (with_reducible exact HX.out) | (with_reducible refine Ext.trans ?_ HX.out) | (with_reducible refine Ext.below ?_ (Nat.le_refl _) _) | omega | (simp; done) | (simp; omega))); (· rfl); (· (first | exact wanted_none rfl | exact wanted_some rfl rfl rfl)); (· rfl)) | (go_at_call 59; refine (rcheck_any e _ _ (IntS.ext HI.out (by repeat' (first | (with_reducible exact Ext.refl _) | (with_reducible exact ExtOf.ext _) | (with_reducible refine Ext.trans ?_ (ExtOf.ext _)) | (with_reducible refine Ext.alloc ?_ _) | (with_reducible refine Ext.drew ?_) | (with_reducible refine Ext.setCell ?_ ?_ _) | (with_reducible refine Ext.setRow ?_ ?_ _) | (with_reducible exact HX.out) | (with_reducible refine Ext.trans ?_ HX.out) | (with_reducible refine Ext.below ?_ (Nat.le_refl _) _) | omega | (simp; done) | (simp; omega))))).mono ?_; rintro en w' ⟨⟨er, rfl, he⟩, n, rfl⟩; (have q0 := chk_ne he HQ.out)))
        go_roundw
        case rel => exact ⟨k + 1, by omega, by first | rfl | go_num, by rw [HFT.out]; unfold okP; rw [HQ.out, if_neg (by decide), List.append_nil]; exact Own.ext HO.out (by repeat' (first | (with_reducible exact Ext.refl _) | (with_reducible exact ExtOf.ext _) | (with_reducible refine Ext.trans ?_ (ExtOf.ext _)) | (with_reducible refine Ext.alloc ?_ _) | (with_reducible refine Ext.drew ?_) | (with_reducible refine Ext.setCell ?_ ?_ _) | (with_reducible refine Ext.setRow ?_ ?_ _) | (with_reducible exact HX.out) | (with_reducible refine Ext.trans ?_ HX.out) | (with_reducible refine Ext.below ?_ (Nat.le_refl _) _) | omega | (simp; done) | (simp; omega))), HX.out.trans (by repeat' (first | (with_reducible exact Ext.refl _) | (with_reducible exact ExtOf.ext _) | (with_reducible refine Ext.trans ?_ (ExtOf.ext _)) | (with_reducible refine Ext.alloc ?_ _) | (with_reducible refine Ext.drew ?_) | (with_reducible refine Ext.setCell ?_ ?_ _) | (with_reducible refine Ext.setRow ?_ ?_ _) | (with_reducible exact HX.out) | (with_reducible refine Ext.trans ?_ HX.out) | (with_reducible refine Ext.below ?_ (Nat.le_refl _) _) | omega | (simp; done) | (simp; omega)))⟩
        case measure => simp [intOf]; omega
      · have HQ := Lib.hid hq
        clear hq
        have hfl : ((l.take k).filter okP).length ≤ 1000 := Nat.le_trans (List.length_filter_le _ _) (by rw [List.length_take]; omega)
        go_wp2_with (first | ((with_reducible refine wl_loadM midEv (Ext.range ?_ (Hid.out HR)) ?_ ?_ ?_ ?_); (· repeat' (first | (with_reducible exact Ext.refl _) | (with_reducible exact ExtOf.ext _) | (with_reducible refine Ext.trans ?_ (ExtOf.ext _)) | (with_reducible refine Ext.alloc ?_ _) | (with_reducible refine Ext.drew ?_) | (with_reducible refine Ext.setCell ?_ ?_ _) | (with_reducible refine Ext.setRow ?_ ?_ _) | (with_reducible exact HX.out) | (with_reducible refine Ext.trans ?_ HX.out) | (with_reducible refine Ext.below ?_ (Nat.le_refl _) _) | omega | (simp; done) | (simp; omega))); (· rfl); (· (first | exact wanted_none rfl | exact wanted_some rfl rfl rfl)); (· rfl)) | (go_at_call 59; refine (rcheck_any e _ _ (IntS.ext HI.out (by repeat' (first | (with_reducible exact Ext.refl _) | (with_reducible exact ExtOf.ext _) | (with_reducible refine Ext.trans ?_ (ExtOf.ext _)) | (with_reducible refine Ext.alloc ?_ _) | (with_reducible refine Ext.drew ?_) | (with_reducible refine Ext.setCell ?_ ?_ _) | (with_reducible refine Ext.setRow ?_ ?_ _) | (with_reducible exact HX.out) | (with_reducible refine Ext.trans ?_ HX.out) | (with_reducible refine Ext.below ?_ (Nat.le_refl _) _) | omega | (simp; done) | (simp; omega))))).mono ?_; rintro en w' ⟨⟨er, rfl, he⟩, n, rfl⟩; (have q0 := chk_eq he HQ.out)) | (at_builtin; refine wl_append1g (enc := encEv) (k := 6) (E := 34) (base := w.heap.size) (l := (l.take k).filter okP) (y := (e, sl)) Tryz.underlying22 hiE hE0 hE1 hE2 rfl (by decide) encEv_len encEv_one rfl rfl (Own.alloc (Own.ext HO.out (by repeat' (first | (with_reducible exact Ext.refl _) | (with_reducible exact ExtOf.ext _) | (with_reducible refine Ext.trans ?_ (ExtOf.ext _)) | (with_reducible refine Ext.alloc ?_ _) | (with_reducible refine Ext.drew ?_) | (with_reducible refine Ext.setCell ?_ ?_ _) | (with_reducible refine Ext.setRow ?_ ?_ _) | (with_reducible exact HX.out) | (with_reducible refine Ext.trans ?_ HX.out) | (with_reducible refine Ext.below ?_ (Nat.le_refl _) _) | omega | (simp; done) | (simp; omega)))) _) inferInstance rfl (by unfold maxLen; omega) (by omega) (by have := HX.out.size; have := n.size; simp; omega) ?_; intro v7 n7 ho7 hk7))
        have hb7 : Ext w n7.val := Below.trans (HX.out.trans (n.ext.trans ((Ext.refl _).alloc _))) n7.below
        go_roundw
        case rel => exact ⟨k + 1, by omega, by first | rfl | go_num, by rw [HFT.out]; unfold okP; rw [HQ.out, if_pos rfl]; exact ho7, hb7⟩
        case measure => simp [intOf]; omega
    · obtain rfl : k = l.length := by omega
      go_wp2_with fail
      go_ret
      refine ⟨_, rfl, ⟨?_, ?_⟩, ExtOf.of HX.out⟩
      · have := Own.slice encEv_len HO.out
        rwa [List.take_length] at this
      · intro x hx
        exact (H.out.2 x ((List.mem_filter.1 hx).1)).ext HX.out
set_option maxHeartbeats 1600000 in
set_option maxRecDepth 20000 in
theorem pastOf_any (l : List EvP) (v : Value) (w : World) (h : EvsS w v l) (hl : l.length ≤ 1000) : Calls Tryz.prog 32 #[v] w (EvsRet w (l.filter okP)) := by
  obtain ⟨p, cap, rfl, hc1, hc2, hc3⟩ := EvsS.form h
  obtain ⟨iE, hiE, hE0, hE1, hE2⟩ := info_parts infoEv
  unfold maxLen at hc2
  have H := Lib.hid h
  clear h
  go_enter Tryz.func32, Tryz.ntmps32
  go_wp2_with fail
  go_loopw [3, 8] (fun vo vi wr => ∃ k : Nat, k ≤ l.length ∧ vi = .int .i64 k ∧ Own encEv 6 34 w.heap.size wr vo ((l.take k).filter okP) ∧ Ext w wr) (fun _ i _ => l.length - (intOf i).toNat)
  case atStart => exact ⟨0, by omega, rfl, Own.nil _, Ext.refl _⟩
  case round =>
    obtain ⟨k, hk, rfl, ho, hx⟩ := hrel
    have HX := Lib.hid hx
    have HO := Lib.hid ho
    clear hx ho
    by_cases hlt : k < l.length
    · obtain ⟨b, off, rfl, hr, hi⟩ := EvsS.elem (EvsS.ext H.out HX.out) hlt
      have HFT := Lib.hid (filt_take hlt)
      obtain ⟨⟨e, sl⟩, he⟩ : ∃ z, z = l[k] := ⟨_, rfl⟩
      rw [← he] at hr hi HFT
      clear he
      have HI := Lib.hid hi
      have HR : Hid (wr.rangeAt b (off + k * 6) [.int .i64 e.kind, .int .i64 e.at_, .string e.item, .string e.of, sl.v, .string e.text]) := Lib.hid hr
      clear hr hi
      rcases hq : okEv e with _ | _
      · have HQ := Lib.hid hq
        clear hq
        go_wp2_with (first | ((with_reducible refine wl_loadM midEv (Ext.range ?_ (Hid.out HR)) ?_ ?_ ?_ ?_); (· repeat' (first | (with_reducible exact Ext.refl _) | (with_reducible exact ExtOf.ext _) | (with_reducible refine Ext.trans ?_ (ExtOf.ext _)) | (with_reducible refine Ext.alloc ?_ _) | (with_reducible refine Ext.drew ?_) | (with_reducible refine Ext.setCell ?_ ?_ _) | (with_reducible refine Ext.setRow ?_ ?_ _) | (with_reducible exact HX.out) | (with_reducible refine Ext.trans ?_ HX.out) | (with_reducible refine Ext.below ?_ (Nat.le_refl _) _) | omega | (simp; done) | (simp; omega))); (· rfl); (· (first | exact wanted_none rfl | exact wanted_some rfl rfl rfl)); (· rfl)) | ((with_reducible apply wl_store' lwEv); (· (first | exact wanted_none rfl | exact wanted_some rfl rfl rfl)); (· rfl); (· rfl); (· infer_instance); (· rfl); (· rfl); (· (simp [Value.oneCell', SlT.v])); try simp only [setRow_alloc, setRow_new, setRow_new1, setRow_new2, setRow_new11, setRow_new111]) | ((with_reducible apply wl_load' lwEv); (· (first | exact wanted_none rfl | exact wanted_some rfl rfl rfl)); (· rfl); (· infer_instance); (· rfl)) | (go_at_call 34; refine (pcheck_any e _ _ (IntS.ext HI.out (by repeat' (first | (with_reducible exact Ext.refl _) | (with_reducible exact ExtOf.ext _) | (with_reducible refine Ext.trans ?_ (ExtOf.ext _)) | (with_reducible refine Ext.alloc ?_ _) | (with_reducible refine Ext.drew ?_) | (with_reducible refine Ext.setCell ?_ ?_ _) | (with_reducible refine Ext.setRow ?_ ?_ _) | (with_reducible exact HX.out) | (with_reducible refine Ext.trans ?_ HX.out) | (with_reducible refine Ext.below ?_ (Nat.le_refl _) _) | omega | (simp; done) | (simp; omega))))).mono ?_; rintro en w' ⟨⟨er, rfl, he⟩, n, rfl⟩; (have q0 := chk_ne he HQ.out)))
        go_roundw
        case rel => exact ⟨k + 1, by omega, by first | rfl | go_num, by rw [HFT.out]; unfold okP; rw [HQ.out, if_neg (by decide), List.append_nil]; exact Own.ext HO.out (by repeat' (first | (with_reducible exact Ext.refl _) | (with_reducible exact ExtOf.ext _) | (with_reducible refine Ext.trans ?_ (ExtOf.ext _)) | (with_reducible refine Ext.alloc ?_ _) | (with_reducible refine Ext.drew ?_) | (with_reducible refine Ext.setCell ?_ ?_ _) | (with_reducible refine Ext.setRow ?_ ?_ _) | (with_reducible exact HX.out) | (with_reducible refine Ext.trans ?_ HX.out) | (with_reducible refine Ext.below ?_ (Nat.le_refl _) _) | omega | (simp; done) | (simp; omega))), HX.out.trans (by repeat' (first | (with_reducible exact Ext.refl _) | (with_reducible exact ExtOf.ext _) | (with_reducible refine Ext.trans ?_ (ExtOf.ext _)) | (with_reducible refine Ext.alloc ?_ _) | (with_reducible refine Ext.drew ?_) | (with_reducible refine Ext.setCell ?_ ?_ _) | (with_reducible refine Ext.setRow ?_ ?_ _) | (with_reducible exact HX.out) | (with_reducible refine Ext.trans ?_ HX.out) | (with_reducible refine Ext.below ?_ (Nat.le_refl _) _) | omega | (simp; done) | (simp; omega)))⟩
        case measure => simp [intOf]; omega
      · have HQ := Lib.hid hq
        clear hq
        have hfl : ((l.take k).filter okP).length ≤ 1000 := Nat.le_trans (List.length_filter_le _ _) (by rw [List.length_take]; omega)
        go_wp2_with (first | ((with_reducible refine wl_loadM midEv (Ext.range ?_ (Hid.out HR)) ?_ ?_ ?_ ?_); (· repeat' (first | (with_reducible exact Ext.refl _) | (with_reducible exact ExtOf.ext _) | (with_reducible refine Ext.trans ?_ (ExtOf.ext _)) | (with_reducible refine Ext.alloc ?_ _) | (with_reducible refine Ext.drew ?_) | (with_reducible refine Ext.setCell ?_ ?_ _) | (with_reducible refine Ext.setRow ?_ ?_ _) | (with_reducible exact HX.out) | (with_reducible refine Ext.trans ?_ HX.out) | (with_reducible refine Ext.below ?_ (Nat.le_refl _) _) | omega | (simp; done) | (simp; omega))); (· rfl); (· (first | exact wanted_none rfl | exact wanted_some rfl rfl rfl)); (· rfl)) | ((with_reducible apply wl_store' lwEv); (· (first | exact wanted_none rfl | exact wanted_some rfl rfl rfl)); (· rfl); (· rfl); (· infer_instance); (· rfl); (· rfl); (· (simp [Value.oneCell', SlT.v])); try simp only [setRow_alloc, setRow_new, setRow_new1, setRow_new2, setRow_new11, setRow_new111]) | ((with_reducible apply wl_load' lwEv); (· (first | exact wanted_none rfl | exact wanted_some rfl rfl rfl)); (· rfl); (· infer_instance); (· rfl)) | (go_at_call 34; refine (pcheck_any e _ _ (IntS.ext HI.out (by repeat' (first | (with_reducible exact Ext.refl _) | (with_reducible exact ExtOf.ext _) | (with_reducible refine Ext.trans ?_ (ExtOf.ext _)) | (with_reducible refine Ext.alloc ?_ _) | (with_reducible refine Ext.drew ?_) | (with_reducible refine Ext.setCell ?_ ?_ _) | (with_reducible refine Ext.setRow ?_ ?_ _) | (with_reducible exact HX.out) | (with_reducible refine Ext.trans ?_ HX.out) | (with_reducible refine Ext.below ?_ (Nat.le_refl _) _) | omega | (simp; done) | (simp; omega))))).mono ?_; rintro en w' ⟨⟨er, rfl, he⟩, n, rfl⟩; (have q0 := chk_eq he HQ.out)) | (at_builtin; refine wl_append1g (enc := encEv) (k := 6) (E := 34) (base := w.heap.size) (l := (l.take k).filter okP) (y := (e, sl)) Tryz.underlying59 hiE hE0 hE1 hE2 rfl (by decide) encEv_len encEv_one rfl rfl (Own.alloc (Own.ext HO.out (by repeat' (first | (with_reducible exact Ext.refl _) | (with_reducible exact ExtOf.ext _) | (with_reducible refine Ext.trans ?_ (ExtOf.ext _)) | (with_reducible refine Ext.alloc ?_ _) | (with_reducible refine Ext.drew ?_) | (with_reducible refine Ext.setCell ?_ ?_ _) | (with_reducible refine Ext.setRow ?_ ?_ _) | (with_reducible exact HX.out) | (with_reducible refine Ext.trans ?_ HX.out) | (with_reducible refine Ext.below ?_ (Nat.le_refl _) _) | omega | (simp; done) | (simp; omega)))) _) inferInstance rfl (by unfold maxLen; omega) (by omega) (by have := HX.out.size; have := n.size; simp at this ⊢; omega) ?_; intro v7 n7 ho7 hk7))
        have hb7 : Ext w n7.val := Below.trans (HX.out.trans (((Ext.refl _).alloc _).trans (n.ext.trans ((Ext.refl _).alloc _)))) n7.below
        go_roundw
        case rel => exact ⟨k + 1, by omega, by first | rfl | go_num, by rw [HFT.out]; unfold okP; rw [HQ.out, if_pos rfl]; exact ho7, hb7⟩
        case measure => simp [intOf]; omega
    · obtain rfl : k = l.length := by omega
      go_wp2_with fail
      go_ret
      refine ⟨_, rfl, ⟨?_, ?_⟩, ExtOf.of HX.out⟩
      · have := Own.slice encEv_len HO.out
        rwa [List.take_length] at this
      · intro x hx
        exact (H.out.2 x (List.mem_filter.1 hx).1).ext HX.out
end Go.Proofs.YtjfohapnjnopfaaGreatDoor
end
