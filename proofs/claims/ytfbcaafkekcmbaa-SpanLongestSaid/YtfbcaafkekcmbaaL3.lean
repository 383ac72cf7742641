/-
  The walk of the statement SpanMembers: it returns true.
-/
import Derived.Test.YtfbcaafkekcmbaaL2
namespace Go.Proofs.Ytfbcaafkekcmbaa
open Go.RowKit SpanM

attribute [local go_sem] ExtOf.cell ExtOf.frozen Block.cell Block.frozen ExtB.cell ExtB.frozen alloc_cell alloc_frozen equal_span eqGuard_span

theorem com_len : ∀ (k : Nat) (a b : List Sp), (com k a b).length ≤ k
  | 0, a, b => by simp [com]
  | k + 1, [], b => by rw [com_nil_left]; simp
  | k + 1, a, [] => by rw [com_nil_right]; simp
  | k + 1, s :: a, t :: b => by
    have h1 := com_len k a (t :: b)
    have h2 := com_len k (s :: a) b
    have h3 := opt_len (SpanM.meet s t)
    unfold com
    split <;> simp <;> omega
theorem common_len (a b : List Sp) : (SpanM.common a b).length ≤ a.length + b.length := by
  have h1 := canon_len a
  have h2 := canon_len b
  have h3 := com_len ((canon a).length + (canon b).length) (canon a) (canon b)
  unfold SpanM.common
  omega
theorem canon_len2 (a b : List Sp) : (SpanM.canon (a ++ b)).length ≤ a.length + b.length := by
  have := canon_len (a ++ b)
  simpa using this
theorem minus_len2 (a b : List Sp) (k : Nat) (ha : a.length ≤ k) (hb : b.length ≤ k) : (SpanM.minus a b).length ≤ k * (k + 1) := by
  have h1 := canon_len a
  have h2 := canon_len b
  have h3 := minusFrom_len (canon a) (canon b)
  unfold SpanM.minus
  exact Nat.le_trans h3 (Nat.mul_le_mul (by omega) (by omega))
theorem has_union (a b : List Sp) (n : Int) : has (SpanM.canon (a ++ b)) n = (has a n || has b n) := by
  rw [has_congr ((canon_ok (a ++ b)).2 n)]
  unfold has
  rw [List.any_append]
theorem bool_of {x y : Bool} (h : x = true ↔ y = true) : x = y := by cases x <;> cases y <;> simp_all
theorem has_common (a b : List Sp) (n : Int) : has (SpanM.common a b) n = (has a n && has b n) :=
  bool_of (by rw [has_iff, (common_ok a b).2, Bool.and_eq_true, has_iff, has_iff])
theorem has_minus (a b : List Sp) (n : Int) : has (SpanM.minus a b) n = (has a n && !has b n) :=
  bool_of (by rw [has_iff, (minus_ok a b).2, Bool.and_eq_true, Bool.not_eq_true', ← Bool.not_eq_true, has_iff, has_iff])

set_option maxRecDepth 20000 in
set_option maxHeartbeats 3200000 in
theorem members_walk (p p' : Option Addr) (cap cap' : Nat) (a b : List Sp) (n : Int) (w : World) (ha : SpS w (.slice p a.length cap) a) (hb : SpS w (.slice p' b.length cap') b) :
    Calls Try.prog 7 #[.slice p a.length cap, .slice p' b.length cap', .int .i64 n] w fun e w' => e = .returned (.bool true) ∧ ∃ n : ExtOf w, w' = n.val := by
  have HA := Lib.hid ha
  have HB := Lib.hid hb
  clear ha hb
  rcases t1 : decide (a.length ≤ 40) with _ | _
  · go_enter Try.func7, Try.ntmps7
    go_wp2_with (first | (go_at_call 16; refine (few_any _ _ _ _).mono ?_; rintro e w' ⟨rfl, n, rfl⟩) | (go_at_call 15; refine (awake_any _).mono ?_; rintro e w' ⟨rfl, n, rfl⟩))
    go_ret
    refine ⟨rfl, ?_⟩
    exact ExtOf.of (by repeat' (first | (with_reducible exact Ext.refl _) | (with_reducible exact ExtOf.ext _) | (with_reducible refine Ext.trans ?_ (ExtOf.ext _)) | (with_reducible refine Ext.alloc ?_ _) | (with_reducible refine Ext.drew ?_) | (with_reducible refine Ext.setCell ?_ ?_ _) | (with_reducible refine Ext.setRow ?_ ?_ _) | (with_reducible exact HX.out) | (with_reducible refine Ext.trans ?_ HX.out) | (with_reducible refine Ext.below ?_ (Nat.le_refl _) _) | (simp; done) | (simp; omega)))
  · rcases t2 : decide (b.length ≤ 40) with _ | _
    · go_enter Try.func7, Try.ntmps7
      go_wp2_with (first | (go_at_call 16; refine (few_any _ _ _ _).mono ?_; rintro e w' ⟨rfl, n, rfl⟩) | (go_at_call 15; refine (awake_any _).mono ?_; rintro e w' ⟨rfl, n, rfl⟩))
      go_ret
      refine ⟨rfl, ?_⟩
      exact ExtOf.of (by repeat' (first | (with_reducible exact Ext.refl _) | (with_reducible exact ExtOf.ext _) | (with_reducible refine Ext.trans ?_ (ExtOf.ext _)) | (with_reducible refine Ext.alloc ?_ _) | (with_reducible refine Ext.drew ?_) | (with_reducible refine Ext.setCell ?_ ?_ _) | (with_reducible refine Ext.setRow ?_ ?_ _) | (with_reducible exact HX.out) | (with_reducible refine Ext.trans ?_ HX.out) | (with_reducible refine Ext.below ?_ (Nat.le_refl _) _) | (simp; done) | (simp; omega)))
    · have la : a.length ≤ 40 := by simpa using t1
      have lb : b.length ≤ 40 := by simpa using t2
      have hux := canon_len2 a b
      have hca := canon_len a
      have hcx := common_len a b
      have hmx := minus_len2 a b 40 la lb
      go_enter Try.func7, Try.ntmps7
      go_wp2_with fail
      refine (few_any _ _ _ _).mono ?_
      rintro e w' ⟨rfl, n1, rfl⟩
      go_wp2_with fail
      refine (few_any _ _ _ _).mono ?_
      rintro e w' ⟨rfl, n2, rfl⟩
      go_wp2_with fail
      refine (has_any p cap a _ _ (SliceOf.ext HA.out (by repeat' (first | (with_reducible exact Ext.refl _) | (with_reducible exact ExtOf.ext _) | (with_reducible refine Ext.trans ?_ (ExtOf.ext _)) | (with_reducible refine Ext.alloc ?_ _) | (with_reducible refine Ext.drew ?_) | (with_reducible refine Ext.setCell ?_ ?_ _) | (with_reducible refine Ext.setRow ?_ ?_ _) | (with_reducible exact HX.out) | (with_reducible refine Ext.trans ?_ HX.out) | (with_reducible refine Ext.below ?_ (Nat.le_refl _) _) | (simp; done) | (simp; omega)))) (by omega)).mono ?_
      rintro e w' ⟨rfl, n3, rfl⟩
      go_wp2_with fail
      refine (has_any p' cap' b _ _ (SliceOf.ext HB.out (by repeat' (first | (with_reducible exact Ext.refl _) | (with_reducible exact ExtOf.ext _) | (with_reducible refine Ext.trans ?_ (ExtOf.ext _)) | (with_reducible refine Ext.alloc ?_ _) | (with_reducible refine Ext.drew ?_) | (with_reducible refine Ext.setCell ?_ ?_ _) | (with_reducible refine Ext.setRow ?_ ?_ _) | (with_reducible exact HX.out) | (with_reducible refine Ext.trans ?_ HX.out) | (with_reducible refine Ext.below ?_ (Nat.le_refl _) _) | (simp; done) | (simp; omega)))) (by omega)).mono ?_
      rintro e w' ⟨rfl, n4, rfl⟩
      go_wp2_with fail
      refine (union_any p p' cap cap' a b _ (SliceOf.ext HA.out (by repeat' (first | (with_reducible exact Ext.refl _) | (with_reducible exact ExtOf.ext _) | (with_reducible refine Ext.trans ?_ (ExtOf.ext _)) | (with_reducible refine Ext.alloc ?_ _) | (with_reducible refine Ext.drew ?_) | (with_reducible refine Ext.setCell ?_ ?_ _) | (with_reducible refine Ext.setRow ?_ ?_ _) | (with_reducible exact HX.out) | (with_reducible refine Ext.trans ?_ HX.out) | (with_reducible refine Ext.below ?_ (Nat.le_refl _) _) | (simp; done) | (simp; omega)))) (SliceOf.ext HB.out (by repeat' (first | (with_reducible exact Ext.refl _) | (with_reducible exact ExtOf.ext _) | (with_reducible refine Ext.trans ?_ (ExtOf.ext _)) | (with_reducible refine Ext.alloc ?_ _) | (with_reducible refine Ext.drew ?_) | (with_reducible refine Ext.setCell ?_ ?_ _) | (with_reducible refine Ext.setRow ?_ ?_ _) | (with_reducible exact HX.out) | (with_reducible refine Ext.trans ?_ HX.out) | (with_reducible refine Ext.below ?_ (Nat.le_refl _) _) | (simp; done) | (simp; omega)))) (by omega) (by omega) (by omega)).mono ?_
      rintro e w' ⟨q1, c1, rfl, hs1, _, n5, rfl⟩
      go_wp2_with fail
      refine (common_any p p' cap cap' a b _ (SliceOf.ext HA.out (by repeat' (first | (with_reducible exact Ext.refl _) | (with_reducible exact ExtOf.ext _) | (with_reducible refine Ext.trans ?_ (ExtOf.ext _)) | (with_reducible refine Ext.alloc ?_ _) | (with_reducible refine Ext.drew ?_) | (with_reducible refine Ext.setCell ?_ ?_ _) | (with_reducible refine Ext.setRow ?_ ?_ _) | (with_reducible exact HX.out) | (with_reducible refine Ext.trans ?_ HX.out) | (with_reducible refine Ext.below ?_ (Nat.le_refl _) _) | (simp; done) | (simp; omega)))) (SliceOf.ext HB.out (by repeat' (first | (with_reducible exact Ext.refl _) | (with_reducible exact ExtOf.ext _) | (with_reducible refine Ext.trans ?_ (ExtOf.ext _)) | (with_reducible refine Ext.alloc ?_ _) | (with_reducible refine Ext.drew ?_) | (with_reducible refine Ext.setCell ?_ ?_ _) | (with_reducible refine Ext.setRow ?_ ?_ _) | (with_reducible exact HX.out) | (with_reducible refine Ext.trans ?_ HX.out) | (with_reducible refine Ext.below ?_ (Nat.le_refl _) _) | (simp; done) | (simp; omega)))) (by omega) (by omega)).mono ?_
      rintro e w' ⟨q2, c2, rfl, hs2, _, n6, rfl⟩
      go_wp2_with fail
      refine (minus_any p p' cap cap' a b _ (SliceOf.ext HA.out (by repeat' (first | (with_reducible exact Ext.refl _) | (with_reducible exact ExtOf.ext _) | (with_reducible refine Ext.trans ?_ (ExtOf.ext _)) | (with_reducible refine Ext.alloc ?_ _) | (with_reducible refine Ext.drew ?_) | (with_reducible refine Ext.setCell ?_ ?_ _) | (with_reducible refine Ext.setRow ?_ ?_ _) | (with_reducible exact HX.out) | (with_reducible refine Ext.trans ?_ HX.out) | (with_reducible refine Ext.below ?_ (Nat.le_refl _) _) | (simp; done) | (simp; omega)))) (SliceOf.ext HB.out (by repeat' (first | (with_reducible exact Ext.refl _) | (with_reducible exact ExtOf.ext _) | (with_reducible refine Ext.trans ?_ (ExtOf.ext _)) | (with_reducible refine Ext.alloc ?_ _) | (with_reducible refine Ext.drew ?_) | (with_reducible refine Ext.setCell ?_ ?_ _) | (with_reducible refine Ext.setRow ?_ ?_ _) | (with_reducible exact HX.out) | (with_reducible refine Ext.trans ?_ HX.out) | (with_reducible refine Ext.below ?_ (Nat.le_refl _) _) | (simp; done) | (simp; omega)))) (by omega) (by omega)).mono ?_
      rintro e w' ⟨q3, c3, rfl, hs3, _, n7, rfl⟩
      go_wp2_with fail
      refine (is_any _ _ _ _ (SliceOf.ext hs1 (by repeat' (first | (with_reducible exact Ext.refl _) | (with_reducible exact ExtOf.ext _) | (with_reducible refine Ext.trans ?_ (ExtOf.ext _)) | (with_reducible refine Ext.alloc ?_ _) | (with_reducible refine Ext.drew ?_) | (with_reducible refine Ext.setCell ?_ ?_ _) | (with_reducible refine Ext.setRow ?_ ?_ _) | (with_reducible exact HX.out) | (with_reducible refine Ext.trans ?_ HX.out) | (with_reducible refine Ext.below ?_ (Nat.le_refl _) _) | (simp; done) | (simp; omega)))) (by omega)).mono ?_
      rintro e w' ⟨rfl, n8, rfl⟩
      rw [isGo_can (by first | exact (canon_ok _).1 | exact (common_ok _ _).1 | exact (minus_ok _ _).1)]
      go_wp2_with fail
      refine (is_any _ _ _ _ (SliceOf.ext hs2 (by repeat' (first | (with_reducible exact Ext.refl _) | (with_reducible exact ExtOf.ext _) | (with_reducible refine Ext.trans ?_ (ExtOf.ext _)) | (with_reducible refine Ext.alloc ?_ _) | (with_reducible refine Ext.drew ?_) | (with_reducible refine Ext.setCell ?_ ?_ _) | (with_reducible refine Ext.setRow ?_ ?_ _) | (with_reducible exact HX.out) | (with_reducible refine Ext.trans ?_ HX.out) | (with_reducible refine Ext.below ?_ (Nat.le_refl _) _) | (simp; done) | (simp; omega)))) (by omega)).mono ?_
      rintro e w' ⟨rfl, n9, rfl⟩
      rw [isGo_can (by first | exact (canon_ok _).1 | exact (common_ok _ _).1 | exact (minus_ok _ _).1)]
      go_wp2_with fail
      refine (is_any _ _ _ _ (SliceOf.ext hs3 (by repeat' (first | (with_reducible exact Ext.refl _) | (with_reducible exact ExtOf.ext _) | (with_reducible refine Ext.trans ?_ (ExtOf.ext _)) | (with_reducible refine Ext.alloc ?_ _) | (with_reducible refine Ext.drew ?_) | (with_reducible refine Ext.setCell ?_ ?_ _) | (with_reducible refine Ext.setRow ?_ ?_ _) | (with_reducible exact HX.out) | (with_reducible refine Ext.trans ?_ HX.out) | (with_reducible refine Ext.below ?_ (Nat.le_refl _) _) | (simp; done) | (simp; omega)))) (by omega)).mono ?_
      rintro e w' ⟨rfl, n10, rfl⟩
      rw [isGo_can (by first | exact (canon_ok _).1 | exact (common_ok _ _).1 | exact (minus_ok _ _).1)]
      go_wp2_with fail
      refine (canon_any p cap a _ (SliceOf.ext HA.out (by repeat' (first | (with_reducible exact Ext.refl _) | (with_reducible exact ExtOf.ext _) | (with_reducible refine Ext.trans ?_ (ExtOf.ext _)) | (with_reducible refine Ext.alloc ?_ _) | (with_reducible refine Ext.drew ?_) | (with_reducible refine Ext.setCell ?_ ?_ _) | (with_reducible refine Ext.setRow ?_ ?_ _) | (with_reducible exact HX.out) | (with_reducible refine Ext.trans ?_ HX.out) | (with_reducible refine Ext.below ?_ (Nat.le_refl _) _) | (simp; done) | (simp; omega)))) (by omega)).mono ?_
      rintro e w' ⟨qa1, ca1, rfl, hsa1, _, m1, rfl⟩
      go_wp2_with fail
      refine (is_any _ _ _ _ (SliceOf.ext hsa1 (by repeat' (first | (with_reducible exact Ext.refl _) | (with_reducible exact ExtOf.ext _) | (with_reducible refine Ext.trans ?_ (ExtOf.ext _)) | (with_reducible refine Ext.alloc ?_ _) | (with_reducible refine Ext.drew ?_) | (with_reducible refine Ext.setCell ?_ ?_ _) | (with_reducible refine Ext.setRow ?_ ?_ _) | (with_reducible exact HX.out) | (with_reducible refine Ext.trans ?_ HX.out) | (with_reducible refine Ext.below ?_ (Nat.le_refl _) _) | (simp; done) | (simp; omega)))) (by omega)).mono ?_
      rintro e w' ⟨rfl, n11, rfl⟩
      rw [isGo_can (by first | exact (canon_ok _).1 | exact (common_ok _ _).1 | exact (minus_ok _ _).1)]
      go_wp2_with fail
      refine (canon_any p cap a _ (SliceOf.ext HA.out (by repeat' (first | (with_reducible exact Ext.refl _) | (with_reducible exact ExtOf.ext _) | (with_reducible refine Ext.trans ?_ (ExtOf.ext _)) | (with_reducible refine Ext.alloc ?_ _) | (with_reducible refine Ext.drew ?_) | (with_reducible refine Ext.setCell ?_ ?_ _) | (with_reducible refine Ext.setRow ?_ ?_ _) | (with_reducible exact HX.out) | (with_reducible refine Ext.trans ?_ HX.out) | (with_reducible refine Ext.below ?_ (Nat.le_refl _) _) | (simp; done) | (simp; omega)))) (by omega)).mono ?_
      rintro e w' ⟨qa2, ca2, rfl, hsa2, _, m2, rfl⟩
      go_wp2_with fail
      refine (has_any _ _ _ _ _ (SliceOf.ext hsa2 (by repeat' (first | (with_reducible exact Ext.refl _) | (with_reducible exact ExtOf.ext _) | (with_reducible refine Ext.trans ?_ (ExtOf.ext _)) | (with_reducible refine Ext.alloc ?_ _) | (with_reducible refine Ext.drew ?_) | (with_reducible refine Ext.setCell ?_ ?_ _) | (with_reducible refine Ext.setRow ?_ ?_ _) | (with_reducible exact HX.out) | (with_reducible refine Ext.trans ?_ HX.out) | (with_reducible refine Ext.below ?_ (Nat.le_refl _) _) | (simp; done) | (simp; omega)))) (by omega)).mono ?_
      rintro e w' ⟨rfl, n12, rfl⟩
      rw [has_congr ((canon_ok a).2 n)]
      have xu := has_union a b n
      have xc := has_common a b n
      have xm := has_minus a b n
      generalize has a n = x at xu xc xm ⊢
      generalize has b n = y at xu xc xm ⊢
      rcases x with _ | _ <;> rcases y with _ | _
      all_goals
        go_wp2_with fail
        refine (has_any _ _ _ _ _ (SliceOf.ext hs1 (by repeat' (first | (with_reducible exact Ext.refl _) | (with_reducible exact ExtOf.ext _) | (with_reducible refine Ext.trans ?_ (ExtOf.ext _)) | (with_reducible refine Ext.alloc ?_ _) | (with_reducible refine Ext.drew ?_) | (with_reducible refine Ext.setCell ?_ ?_ _) | (with_reducible refine Ext.setRow ?_ ?_ _) | (with_reducible exact HX.out) | (with_reducible refine Ext.trans ?_ HX.out) | (with_reducible refine Ext.below ?_ (Nat.le_refl _) _) | (simp; done) | (simp; omega)))) (by omega)).mono ?_
        rintro e w' ⟨rfl, n13, rfl⟩
        rw [xu]
        go_wp2_with fail
        refine (has_any _ _ _ _ _ (SliceOf.ext hs2 (by repeat' (first | (with_reducible exact Ext.refl _) | (with_reducible exact ExtOf.ext _) | (with_reducible refine Ext.trans ?_ (ExtOf.ext _)) | (with_reducible refine Ext.alloc ?_ _) | (with_reducible refine Ext.drew ?_) | (with_reducible refine Ext.setCell ?_ ?_ _) | (with_reducible refine Ext.setRow ?_ ?_ _) | (with_reducible exact HX.out) | (with_reducible refine Ext.trans ?_ HX.out) | (with_reducible refine Ext.below ?_ (Nat.le_refl _) _) | (simp; done) | (simp; omega)))) (by omega)).mono ?_
        rintro e w' ⟨rfl, n14, rfl⟩
        rw [xc]
        go_wp2_with fail
        refine (has_any _ _ _ _ _ (SliceOf.ext hs3 (by repeat' (first | (with_reducible exact Ext.refl _) | (with_reducible exact ExtOf.ext _) | (with_reducible refine Ext.trans ?_ (ExtOf.ext _)) | (with_reducible refine Ext.alloc ?_ _) | (with_reducible refine Ext.drew ?_) | (with_reducible refine Ext.setCell ?_ ?_ _) | (with_reducible refine Ext.setRow ?_ ?_ _) | (with_reducible exact HX.out) | (with_reducible refine Ext.trans ?_ HX.out) | (with_reducible refine Ext.below ?_ (Nat.le_refl _) _) | (simp; done) | (simp; omega)))) (by omega)).mono ?_
        rintro e w' ⟨rfl, n15, rfl⟩
        rw [xm]
        go_wp2_with fail
        refine (awake_any _).mono ?_
        rintro e w' ⟨rfl, n16, rfl⟩
        go_wp2_with fail
        go_ret
        refine ⟨rfl, ?_⟩
        exact ExtOf.of (by repeat' (first | (with_reducible exact Ext.refl _) | (with_reducible exact ExtOf.ext _) | (with_reducible refine Ext.trans ?_ (ExtOf.ext _)) | (with_reducible refine Ext.alloc ?_ _) | (with_reducible refine Ext.drew ?_) | (with_reducible refine Ext.setCell ?_ ?_ _) | (with_reducible refine Ext.setRow ?_ ?_ _) | (with_reducible exact HX.out) | (with_reducible refine Ext.trans ?_ HX.out) | (with_reducible refine Ext.below ?_ (Nat.le_refl _) _) | (simp; done) | (simp; omega)))

end Go.Proofs.Ytfbcaafkekcmbaa
