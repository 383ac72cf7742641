/-
  The walk of the statement SpanMeasure: it returns true.
-/
import Derived.Test.YtfbcaafkekcmbaaL4
import Derived.Test.YtfbcaafkekcmbaaR5
namespace Go.Proofs.Ytfbcaafkekcmbaa
open Go.RowKit SpanM

attribute [local go_sem] ExtOf.cell ExtOf.frozen Block.cell Block.frozen ExtB.cell ExtB.frozen alloc_cell alloc_frozen equal_span eqGuard_span
theorem smallB_le {l : List Sp} (h : smallB l = true) : ∀ s ∈ l, (-1152921504606846976 : Int) ≤ s.1 ∧ s.2 ≤ -1152921504606846976 + ((2305843009213693952 : Nat) : Int) := by
  intro s hs
  have := List.all_eq_true.1 h s hs
  simp only [decide_eq_true_eq] at this
  omega
theorem total_can {l : List Sp} (h : SpanM.Can l) (hl : tot l ≤ 2305843009213693952) : SpanM.total l = tot l := by
  unfold SpanM.total
  rw [canon_id h]
  unfold top
  omega
/-- the numbers that the law adds -/
theorem measures {a b : List Sp} (ha : smallB a = true) (hb : smallB b = true) :
    SpanM.total (SpanM.canon (a ++ b)) + SpanM.total (SpanM.common a b) = SpanM.total a + SpanM.total b ∧ SpanM.total (SpanM.minus a b) = SpanM.total a - SpanM.total (SpanM.common a b) ∧
    (0 ≤ SpanM.total (SpanM.canon (a ++ b)) ∧ SpanM.total (SpanM.canon (a ++ b)) ≤ 2305843009213693952) ∧ (0 ≤ SpanM.total (SpanM.common a b) ∧ SpanM.total (SpanM.common a b) ≤ 2305843009213693952) ∧
    (0 ≤ SpanM.total a ∧ SpanM.total a ≤ 2305843009213693952) ∧ (0 ≤ SpanM.total b ∧ SpanM.total b ≤ 2305843009213693952) ∧ (0 ≤ SpanM.total (SpanM.minus a b) ∧ SpanM.total (SpanM.minus a b) ≤ 2305843009213693952) := by
  obtain ⟨h1, h2, h3, h4, h5, h6, h7⟩ := measure (smallB_le ha) (smallB_le hb)
  have z1 := tot_nn (SpanM.canon (a ++ b))
  have z2 := tot_nn (SpanM.common a b)
  have z3 := tot_nn (SpanM.canon a)
  have z4 := tot_nn (SpanM.canon b)
  have z5 := tot_nn (SpanM.minus a b)
  rw [total_can (canon_ok (a ++ b)).1 (by omega), total_can (common_ok a b).1 (by omega), total_can (minus_ok a b).1 (by omega)]
  have e1 : SpanM.total a = tot (SpanM.canon a) := by unfold SpanM.total top; omega
  have e2 : SpanM.total b = tot (SpanM.canon b) := by unfold SpanM.total top; omega
  rw [e1, e2]
  omega
set_option maxRecDepth 20000 in
set_option maxHeartbeats 3200000 in
theorem measure_walk (p p' : Option Addr) (cap cap' : Nat) (a b : List Sp) (w : World) (ha : SpS w (.slice p a.length cap) a) (hb : SpS w (.slice p' b.length cap') b) (ia : ∀ s ∈ a, In s) (ib : ∀ s ∈ b, In s) :
    Calls Try.prog 9 #[.slice p a.length cap, .slice p' b.length cap'] w fun e w' => e = .returned (.bool true) ∧ ∃ n : ExtOf w, w' = n.val := by
  have HA := Lib.hid ha
  have HB := Lib.hid hb
  have IA := Lib.hid ia
  have IB := Lib.hid ib
  clear ha hb ia ib
  rcases t1 : decide (a.length ≤ 40) with _ | _
  · go_enter Try.func9, Try.ntmps9
    go_wp2_with (first | (go_at_call 16; refine (few_any _ _ _ _).mono ?_; rintro e w' ⟨rfl, n, rfl⟩) | (go_at_call 15; refine (awake_any _).mono ?_; rintro e w' ⟨rfl, n, rfl⟩))
    go_ret
    refine ⟨rfl, ?_⟩
    exact ExtOf.of (by repeat' (first | (with_reducible exact Ext.refl _) | (with_reducible exact ExtOf.ext _) | (with_reducible refine Ext.trans ?_ (ExtOf.ext _)) | (with_reducible refine Ext.alloc ?_ _) | (with_reducible refine Ext.drew ?_) | (with_reducible refine Ext.setCell ?_ ?_ _) | (with_reducible refine Ext.setRow ?_ ?_ _) | (with_reducible exact HX.out) | (with_reducible refine Ext.trans ?_ HX.out) | (with_reducible refine Ext.below ?_ (Nat.le_refl _) _) | (simp; done) | (simp; omega)))
  · rcases t2 : decide (b.length ≤ 40) with _ | _
    · go_enter Try.func9, Try.ntmps9
      go_wp2_with (first | (go_at_call 16; refine (few_any _ _ _ _).mono ?_; rintro e w' ⟨rfl, n, rfl⟩) | (go_at_call 15; refine (awake_any _).mono ?_; rintro e w' ⟨rfl, n, rfl⟩))
      go_ret
      refine ⟨rfl, ?_⟩
      exact ExtOf.of (by repeat' (first | (with_reducible exact Ext.refl _) | (with_reducible exact ExtOf.ext _) | (with_reducible refine Ext.trans ?_ (ExtOf.ext _)) | (with_reducible refine Ext.alloc ?_ _) | (with_reducible refine Ext.drew ?_) | (with_reducible refine Ext.setCell ?_ ?_ _) | (with_reducible refine Ext.setRow ?_ ?_ _) | (with_reducible exact HX.out) | (with_reducible refine Ext.trans ?_ HX.out) | (with_reducible refine Ext.below ?_ (Nat.le_refl _) _) | (simp; done) | (simp; omega)))
    · have la : a.length ≤ 40 := by simpa using t1
      have lb : b.length ≤ 40 := by simpa using t2
      rcases t3 : smallB a with _ | _
      · go_enter Try.func9, Try.ntmps9
        go_wp2_with fail
        refine (few_any _ _ _ _).mono ?_
        rintro e w' ⟨rfl, n1, rfl⟩
        go_wp2_with fail
        refine (few_any _ _ _ _).mono ?_
        rintro e w' ⟨rfl, n2, rfl⟩
        go_wp2_with fail
        refine (small_any p cap a _ (SliceOf.ext HA.out (by repeat' (first | (with_reducible exact Ext.refl _) | (with_reducible exact ExtOf.ext _) | (with_reducible refine Ext.trans ?_ (ExtOf.ext _)) | (with_reducible refine Ext.alloc ?_ _) | (with_reducible refine Ext.drew ?_) | (with_reducible refine Ext.setCell ?_ ?_ _) | (with_reducible refine Ext.setRow ?_ ?_ _) | (with_reducible exact HX.out) | (with_reducible refine Ext.trans ?_ HX.out) | (with_reducible refine Ext.below ?_ (Nat.le_refl _) _) | (simp; done) | (simp; omega)))) (by omega)).mono ?_
        rintro e w' ⟨rfl, n3, rfl⟩
        go_wp2_with fail
        refine (awake_any _).mono ?_
        rintro e w' ⟨rfl, nz, rfl⟩
        go_wp2_with fail
        go_ret
        refine ⟨rfl, ?_⟩
        exact ExtOf.of (by repeat' (first | (with_reducible exact Ext.refl _) | (with_reducible exact ExtOf.ext _) | (with_reducible refine Ext.trans ?_ (ExtOf.ext _)) | (with_reducible refine Ext.alloc ?_ _) | (with_reducible refine Ext.drew ?_) | (with_reducible refine Ext.setCell ?_ ?_ _) | (with_reducible refine Ext.setRow ?_ ?_ _) | (with_reducible exact HX.out) | (with_reducible refine Ext.trans ?_ HX.out) | (with_reducible refine Ext.below ?_ (Nat.le_refl _) _) | (simp; done) | (simp; omega)))
      · rcases t4 : smallB b with _ | _
        · go_enter Try.func9, Try.ntmps9
          go_wp2_with fail
          refine (few_any _ _ _ _).mono ?_
          rintro e w' ⟨rfl, n1, rfl⟩
          go_wp2_with fail
          refine (few_any _ _ _ _).mono ?_
          rintro e w' ⟨rfl, n2, rfl⟩
          go_wp2_with fail
          refine (small_any p cap a _ (SliceOf.ext HA.out (by repeat' (first | (with_reducible exact Ext.refl _) | (with_reducible exact ExtOf.ext _) | (with_reducible refine Ext.trans ?_ (ExtOf.ext _)) | (with_reducible refine Ext.alloc ?_ _) | (with_reducible refine Ext.drew ?_) | (with_reducible refine Ext.setCell ?_ ?_ _) | (with_reducible refine Ext.setRow ?_ ?_ _) | (with_reducible exact HX.out) | (with_reducible refine Ext.trans ?_ HX.out) | (with_reducible refine Ext.below ?_ (Nat.le_refl _) _) | (simp; done) | (simp; omega)))) (by omega)).mono ?_
          rintro e w' ⟨rfl, n3, rfl⟩
          go_wp2_with fail
          refine (small_any p' cap' b _ (SliceOf.ext HB.out (by repeat' (first | (with_reducible exact Ext.refl _) | (with_reducible exact ExtOf.ext _) | (with_reducible refine Ext.trans ?_ (ExtOf.ext _)) | (with_reducible refine Ext.alloc ?_ _) | (with_reducible refine Ext.drew ?_) | (with_reducible refine Ext.setCell ?_ ?_ _) | (with_reducible refine Ext.setRow ?_ ?_ _) | (with_reducible exact HX.out) | (with_reducible refine Ext.trans ?_ HX.out) | (with_reducible refine Ext.below ?_ (Nat.le_refl _) _) | (simp; done) | (simp; omega)))) (by omega)).mono ?_
          rintro e w' ⟨rfl, n4, rfl⟩
          go_wp2_with fail
          refine (awake_any _).mono ?_
          rintro e w' ⟨rfl, nz, rfl⟩
          go_wp2_with fail
          go_ret
          refine ⟨rfl, ?_⟩
          exact ExtOf.of (by repeat' (first | (with_reducible exact Ext.refl _) | (with_reducible exact ExtOf.ext _) | (with_reducible refine Ext.trans ?_ (ExtOf.ext _)) | (with_reducible refine Ext.alloc ?_ _) | (with_reducible refine Ext.drew ?_) | (with_reducible refine Ext.setCell ?_ ?_ _) | (with_reducible refine Ext.setRow ?_ ?_ _) | (with_reducible exact HX.out) | (with_reducible refine Ext.trans ?_ HX.out) | (with_reducible refine Ext.below ?_ (Nat.le_refl _) _) | (simp; done) | (simp; omega)))
        · have hux := canon_len2 a b
          have hcx := common_len a b
          have hmx := minus_len2 a b 40 la lb
          have IU := Lib.hid (In_sub (canon_ok (a ++ b)).1 (fun n h => ((canon_ok (a ++ b)).2 n).1 h) (fun s hs => (List.mem_append.1 hs).elim (IA.out s) (IB.out s)))
          have IC := Lib.hid (In_sub (common_ok a b).1 (fun n h => (((common_ok a b).2 n).1 h).1) IA.out)
          have IM := Lib.hid (In_sub (minus_ok a b).1 (fun n h => (((minus_ok a b).2 n).1 h).1) IA.out)
          obtain ⟨x1, x2, ⟨u0, u1⟩, ⟨v0, v1⟩, ⟨a0, a1⟩, ⟨b0, b1⟩, ⟨m0, m1⟩⟩ := measures t3 t4
          have e1 : (SpanM.total (SpanM.canon (a ++ b)) + SpanM.total (SpanM.common a b) == SpanM.total a + SpanM.total b) = true := by rw [x1]; simp
          have e2 : (SpanM.total (SpanM.minus a b) == SpanM.total a - SpanM.total (SpanM.common a b)) = true := by rw [x2]; simp
          have y1 : -9223372036854775808 ≤ SpanM.total a - SpanM.total (SpanM.common a b) := by omega
          clear x1 x2
          go_enter Try.func9, Try.ntmps9
          go_wp2_with fail
          refine (few_any _ _ _ _).mono ?_
          rintro e w' ⟨rfl, n1, rfl⟩
          go_wp2_with fail
          refine (few_any _ _ _ _).mono ?_
          rintro e w' ⟨rfl, n2, rfl⟩
          go_wp2_with fail
          refine (small_any p cap a _ (SliceOf.ext HA.out (by repeat' (first | (with_reducible exact Ext.refl _) | (with_reducible exact ExtOf.ext _) | (with_reducible refine Ext.trans ?_ (ExtOf.ext _)) | (with_reducible refine Ext.alloc ?_ _) | (with_reducible refine Ext.drew ?_) | (with_reducible refine Ext.setCell ?_ ?_ _) | (with_reducible refine Ext.setRow ?_ ?_ _) | (with_reducible exact HX.out) | (with_reducible refine Ext.trans ?_ HX.out) | (with_reducible refine Ext.below ?_ (Nat.le_refl _) _) | (simp; done) | (simp; omega)))) (by omega)).mono ?_
          rintro e w' ⟨rfl, n3, rfl⟩
          go_wp2_with fail
          refine (small_any p' cap' b _ (SliceOf.ext HB.out (by repeat' (first | (with_reducible exact Ext.refl _) | (with_reducible exact ExtOf.ext _) | (with_reducible refine Ext.trans ?_ (ExtOf.ext _)) | (with_reducible refine Ext.alloc ?_ _) | (with_reducible refine Ext.drew ?_) | (with_reducible refine Ext.setCell ?_ ?_ _) | (with_reducible refine Ext.setRow ?_ ?_ _) | (with_reducible exact HX.out) | (with_reducible refine Ext.trans ?_ HX.out) | (with_reducible refine Ext.below ?_ (Nat.le_refl _) _) | (simp; done) | (simp; omega)))) (by omega)).mono ?_
          rintro e w' ⟨rfl, n4, rfl⟩
          go_wp2_with fail
          refine (common_any p p' cap cap' a b _ (SliceOf.ext HA.out (by repeat' (first | (with_reducible exact Ext.refl _) | (with_reducible exact ExtOf.ext _) | (with_reducible refine Ext.trans ?_ (ExtOf.ext _)) | (with_reducible refine Ext.alloc ?_ _) | (with_reducible refine Ext.drew ?_) | (with_reducible refine Ext.setCell ?_ ?_ _) | (with_reducible refine Ext.setRow ?_ ?_ _) | (with_reducible exact HX.out) | (with_reducible refine Ext.trans ?_ HX.out) | (with_reducible refine Ext.below ?_ (Nat.le_refl _) _) | (simp; done) | (simp; omega)))) (SliceOf.ext HB.out (by repeat' (first | (with_reducible exact Ext.refl _) | (with_reducible exact ExtOf.ext _) | (with_reducible refine Ext.trans ?_ (ExtOf.ext _)) | (with_reducible refine Ext.alloc ?_ _) | (with_reducible refine Ext.drew ?_) | (with_reducible refine Ext.setCell ?_ ?_ _) | (with_reducible refine Ext.setRow ?_ ?_ _) | (with_reducible exact HX.out) | (with_reducible refine Ext.trans ?_ HX.out) | (with_reducible refine Ext.below ?_ (Nat.le_refl _) _) | (simp; done) | (simp; omega)))) (by omega) (by omega)).mono ?_
          rintro e w' ⟨q1, c1, rfl, h1, _, n5, rfl⟩
          go_wp2_with fail
          refine (total_any _ _ _ _ (SliceOf.ext h1 (by repeat' (first | (with_reducible exact Ext.refl _) | (with_reducible exact ExtOf.ext _) | (with_reducible refine Ext.trans ?_ (ExtOf.ext _)) | (with_reducible refine Ext.alloc ?_ _) | (with_reducible refine Ext.drew ?_) | (with_reducible refine Ext.setCell ?_ ?_ _) | (with_reducible refine Ext.setRow ?_ ?_ _) | (with_reducible exact HX.out) | (with_reducible refine Ext.trans ?_ HX.out) | (with_reducible refine Ext.below ?_ (Nat.le_refl _) _) | (simp; done) | (simp; omega)))) (by omega) IC.out).mono ?_
          rintro e w' ⟨rfl, n6, rfl⟩
          go_wp2_with fail
          refine (union_any p p' cap cap' a b _ (SliceOf.ext HA.out (by repeat' (first | (with_reducible exact Ext.refl _) | (with_reducible exact ExtOf.ext _) | (with_reducible refine Ext.trans ?_ (ExtOf.ext _)) | (with_reducible refine Ext.alloc ?_ _) | (with_reducible refine Ext.drew ?_) | (with_reducible refine Ext.setCell ?_ ?_ _) | (with_reducible refine Ext.setRow ?_ ?_ _) | (with_reducible exact HX.out) | (with_reducible refine Ext.trans ?_ HX.out) | (with_reducible refine Ext.below ?_ (Nat.le_refl _) _) | (simp; done) | (simp; omega)))) (SliceOf.ext HB.out (by repeat' (first | (with_reducible exact Ext.refl _) | (with_reducible exact ExtOf.ext _) | (with_reducible refine Ext.trans ?_ (ExtOf.ext _)) | (with_reducible refine Ext.alloc ?_ _) | (with_reducible refine Ext.drew ?_) | (with_reducible refine Ext.setCell ?_ ?_ _) | (with_reducible refine Ext.setRow ?_ ?_ _) | (with_reducible exact HX.out) | (with_reducible refine Ext.trans ?_ HX.out) | (with_reducible refine Ext.below ?_ (Nat.le_refl _) _) | (simp; done) | (simp; omega)))) (by omega) (by omega) (by omega)).mono ?_
          rintro e w' ⟨q2, c2, rfl, h2, _, n7, rfl⟩
          go_wp2_with fail
          refine (total_any _ _ _ _ (SliceOf.ext h2 (by repeat' (first | (with_reducible exact Ext.refl _) | (with_reducible exact ExtOf.ext _) | (with_reducible refine Ext.trans ?_ (ExtOf.ext _)) | (with_reducible refine Ext.alloc ?_ _) | (with_reducible refine Ext.drew ?_) | (with_reducible refine Ext.setCell ?_ ?_ _) | (with_reducible refine Ext.setRow ?_ ?_ _) | (with_reducible exact HX.out) | (with_reducible refine Ext.trans ?_ HX.out) | (with_reducible refine Ext.below ?_ (Nat.le_refl _) _) | (simp; done) | (simp; omega)))) (by omega) IU.out).mono ?_
          rintro e w' ⟨rfl, n8, rfl⟩
          go_wp2_with fail
          refine (total_any p cap a _ (SliceOf.ext HA.out (by repeat' (first | (with_reducible exact Ext.refl _) | (with_reducible exact ExtOf.ext _) | (with_reducible refine Ext.trans ?_ (ExtOf.ext _)) | (with_reducible refine Ext.alloc ?_ _) | (with_reducible refine Ext.drew ?_) | (with_reducible refine Ext.setCell ?_ ?_ _) | (with_reducible refine Ext.setRow ?_ ?_ _) | (with_reducible exact HX.out) | (with_reducible refine Ext.trans ?_ HX.out) | (with_reducible refine Ext.below ?_ (Nat.le_refl _) _) | (simp; done) | (simp; omega)))) (by omega) IA.out).mono ?_
          rintro e w' ⟨rfl, n9, rfl⟩
          go_wp2_with fail
          refine (total_any p' cap' b _ (SliceOf.ext HB.out (by repeat' (first | (with_reducible exact Ext.refl _) | (with_reducible exact ExtOf.ext _) | (with_reducible refine Ext.trans ?_ (ExtOf.ext _)) | (with_reducible refine Ext.alloc ?_ _) | (with_reducible refine Ext.drew ?_) | (with_reducible refine Ext.setCell ?_ ?_ _) | (with_reducible refine Ext.setRow ?_ ?_ _) | (with_reducible exact HX.out) | (with_reducible refine Ext.trans ?_ HX.out) | (with_reducible refine Ext.below ?_ (Nat.le_refl _) _) | (simp; done) | (simp; omega)))) (by omega) IB.out).mono ?_
          rintro e w' ⟨rfl, n10, rfl⟩
          go_wp2_with fail
          refine (minus_any p p' cap cap' a b _ (SliceOf.ext HA.out (by repeat' (first | (with_reducible exact Ext.refl _) | (with_reducible exact ExtOf.ext _) | (with_reducible refine Ext.trans ?_ (ExtOf.ext _)) | (with_reducible refine Ext.alloc ?_ _) | (with_reducible refine Ext.drew ?_) | (with_reducible refine Ext.setCell ?_ ?_ _) | (with_reducible refine Ext.setRow ?_ ?_ _) | (with_reducible exact HX.out) | (with_reducible refine Ext.trans ?_ HX.out) | (with_reducible refine Ext.below ?_ (Nat.le_refl _) _) | (simp; done) | (simp; omega)))) (SliceOf.ext HB.out (by repeat' (first | (with_reducible exact Ext.refl _) | (with_reducible exact ExtOf.ext _) | (with_reducible refine Ext.trans ?_ (ExtOf.ext _)) | (with_reducible refine Ext.alloc ?_ _) | (with_reducible refine Ext.drew ?_) | (with_reducible refine Ext.setCell ?_ ?_ _) | (with_reducible refine Ext.setRow ?_ ?_ _) | (with_reducible exact HX.out) | (with_reducible refine Ext.trans ?_ HX.out) | (with_reducible refine Ext.below ?_ (Nat.le_refl _) _) | (simp; done) | (simp; omega)))) (by omega) (by omega)).mono ?_
          rintro e w' ⟨q3, c3, rfl, h3, _, n11, rfl⟩
          go_wp2_with fail
          refine (total_any _ _ _ _ (SliceOf.ext h3 (by repeat' (first | (with_reducible exact Ext.refl _) | (with_reducible exact ExtOf.ext _) | (with_reducible refine Ext.trans ?_ (ExtOf.ext _)) | (with_reducible refine Ext.alloc ?_ _) | (with_reducible refine Ext.drew ?_) | (with_reducible refine Ext.setCell ?_ ?_ _) | (with_reducible refine Ext.setRow ?_ ?_ _) | (with_reducible exact HX.out) | (with_reducible refine Ext.trans ?_ HX.out) | (with_reducible refine Ext.below ?_ (Nat.le_refl _) _) | (simp; done) | (simp; omega)))) (by omega) IM.out).mono ?_
          rintro e w' ⟨rfl, n12, rfl⟩
          go_wp2_with fail
          refine (total_any p cap a _ (SliceOf.ext HA.out (by repeat' (first | (with_reducible exact Ext.refl _) | (with_reducible exact ExtOf.ext _) | (with_reducible refine Ext.trans ?_ (ExtOf.ext _)) | (with_reducible refine Ext.alloc ?_ _) | (with_reducible refine Ext.drew ?_) | (with_reducible refine Ext.setCell ?_ ?_ _) | (with_reducible refine Ext.setRow ?_ ?_ _) | (with_reducible exact HX.out) | (with_reducible refine Ext.trans ?_ HX.out) | (with_reducible refine Ext.below ?_ (Nat.le_refl _) _) | (simp; done) | (simp; omega)))) (by omega) IA.out).mono ?_
          rintro e w' ⟨rfl, n13, rfl⟩
          go_wp2_with fail
          refine (awake_any _).mono ?_
          rintro e w' ⟨rfl, nz, rfl⟩
          go_wp2_with fail
          go_ret
          refine ⟨rfl, ?_⟩
          exact ExtOf.of (by repeat' (first | (with_reducible exact Ext.refl _) | (with_reducible exact ExtOf.ext _) | (with_reducible refine Ext.trans ?_ (ExtOf.ext _)) | (with_reducible refine Ext.alloc ?_ _) | (with_reducible refine Ext.drew ?_) | (with_reducible refine Ext.setCell ?_ ?_ _) | (with_reducible refine Ext.setRow ?_ ?_ _) | (with_reducible exact HX.out) | (with_reducible refine Ext.trans ?_ HX.out) | (with_reducible refine Ext.below ?_ (Nat.le_refl _) _) | (simp; done) | (simp; omega)))

end Go.Proofs.Ytfbcaafkekcmbaa
