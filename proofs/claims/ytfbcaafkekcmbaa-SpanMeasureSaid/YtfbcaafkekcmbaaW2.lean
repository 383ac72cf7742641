/-
  The contracts of the functions on spans (2): Is, Same, small.
-/
import Derived.Test.YtfbcaafkekcmbaaW1
namespace Go.Proofs.Ytfbcaafkekcmbaa
open Go.RowKit SpanM

attribute [local go_sem] ExtOf.cell ExtOf.frozen Block.cell Block.frozen ExtB.cell ExtB.frozen alloc_cell alloc_frozen

set_option maxHeartbeats 800000 in
theorem is_any (p : Option Addr) (cap : Nat) (l : List Sp) (w : World) (hl : SpS w (.slice p l.length cap) l) (hlen : l.length ≤ 1099511627776) :
    Calls Try.prog 20 #[.slice p l.length cap] w fun e w' => e = .returned (.bool (isGo none l)) ∧ ∃ n : ExtOf w, w' = n.val := by
  have HL := Lib.hid hl
  clear hl
  go_enter Try.func20, Try.ntmps20
  go_wp2
  go_loopw [7] (fun v wr => ∃ (k : Nat) (q : Option Int), k ≤ l.length ∧ v = .int .i64 k ∧ isGo none l = isGo q (l.drop k) ∧ (k = 0 → q = none) ∧ (∀ j, k = j + 1 → ∃ A B, l[j]? = some (A, B) ∧ q = some B) ∧ Ext w wr) (fun v _ => l.length - (intOf v).toNat)
  case atStart => exact ⟨0, none, by omega, rfl, rfl, fun _ => rfl, (fun j h => by omega), Ext.refl _⟩
  case round =>
    obtain ⟨k, q, hk, rfl, hno, h0, h1, hx⟩ := hrel
    have HX := Lib.hid hx
    have HN := Lib.hid hno
    have H0 := Lib.hid h0
    have H1 := Lib.hid h1
    clear hx hno h0 h1
    by_cases hlt : k < l.length
    · obtain ⟨A, B, b, off, hd, hm, rfl, ho, c0, c1⟩ := SpS.elem (SliceOf.ext HL.out HX.out) hlt
      have HD := Lib.hid hd
      have HM := Lib.hid hm
      clear hd hm
      have i1 : (0 : Int) ≤ ↑k := by omega
      have i2 : (↑k : Int) < ↑l.length := by omega
      rcases t1 : decide (B ≤ A) with _ | _
      · have T1 : Hid (A < B) := Lib.hid (by simpa using t1)
        rcases z : decide (0 < k) with _ | _
        · have K0 : Hid (k = 0) := Lib.hid (by simp at z; omega)
          have q0 := H0.out K0.out
          subst q0
          go_wp2
          refine wp_region_ext (by kernel_rfl) (by kernel_rfl) ?_
          repeat (first | go_big_quiet_skip | go_big_quiet_step (fail))
          refine wpQuiet_nil ?_
          intro _ hw'
          obtain ⟨nq, hw''⟩ := hw'
          subst hw''
          go_wp2
          go_roundw
          case rel => exact ⟨k + 1, some B, by omega, by go_num, by rw [HN.out, HD.out]; simp [isGo, gapOk, T1.out], by omega, (fun j h => by obtain rfl : j = k := (by omega); exact ⟨A, B, HM.out, rfl⟩), by repeat' (first | (with_reducible exact Ext.refl _) | (with_reducible exact ExtOf.ext _) | (with_reducible refine Ext.trans ?_ (ExtOf.ext _)) | (with_reducible refine Ext.alloc ?_ _) | (with_reducible refine Ext.drew ?_) | (with_reducible refine Ext.setCell ?_ ?_ _) | (with_reducible refine Ext.setRow ?_ ?_ _) | (with_reducible exact HX.out) | (with_reducible refine Ext.trans ?_ HX.out) | (with_reducible refine Ext.below ?_ (Nat.le_refl _) _) | (simp; done) | (simp; omega))⟩
          case measure => simp [intOf]; omega
        · have kp : 0 < k := by simp at z; omega
          obtain ⟨A', B', hm', hq⟩ := H1.out (k - 1) (by omega)
          subst hq
          obtain ⟨A2, B2, b2, off2, _, hm2, hp2, _, _, c2⟩ := SpS.elem (SliceOf.ext HL.out HX.out) (i := k - 1) (by omega)
          obtain ⟨rfl, rfl⟩ : b = b2 ∧ off = off2 := by simpa using hp2
          obtain ⟨rfl, rfl⟩ : A' = A2 ∧ B' = B2 := by rw [hm'] at hm2; simpa using hm2
          clear hm' hm2 hp2
          have w1 : IntKind.i64.wrap ((k : Int) - 1) = (k : Int) - 1 := IntWalk.i64_in _ (by omega)
          have w2 : ((k : Int) - 1).toNat = k - 1 := by omega
          have w3 : (0 : Int) ≤ (k : Int) - 1 := by omega
          have w4 : (1 : Int) ≤ (k : Int) := by omega
          have w5 : (k : Int) - 1 < l.length := by omega
          rcases t2 : decide (A ≤ B') with _ | _
          · have T2 : Hid (B' < A) := Lib.hid (by simpa using t2)
            go_wp2
            refine wp_region_ext (by kernel_rfl) (by kernel_rfl) ?_
            repeat (first | go_big_quiet_skip | go_big_quiet_step (fail))
            refine wpQuiet_nil ?_
            intro _ hw'
            obtain ⟨nq, hw''⟩ := hw'
            subst hw''
            go_wp2
            go_roundw
            case rel => exact ⟨k + 1, some B, by omega, by go_num, by rw [HN.out, HD.out]; simp [isGo, gapOk, T1.out, T2.out], by omega, (fun j h => by obtain rfl : j = k := (by omega); exact ⟨A, B, HM.out, rfl⟩), by repeat' (first | (with_reducible exact Ext.refl _) | (with_reducible exact ExtOf.ext _) | (with_reducible refine Ext.trans ?_ (ExtOf.ext _)) | (with_reducible refine Ext.alloc ?_ _) | (with_reducible refine Ext.drew ?_) | (with_reducible refine Ext.setCell ?_ ?_ _) | (with_reducible refine Ext.setRow ?_ ?_ _) | (with_reducible exact HX.out) | (with_reducible refine Ext.trans ?_ HX.out) | (with_reducible refine Ext.below ?_ (Nat.le_refl _) _) | (simp; done) | (simp; omega))⟩
            case measure => simp [intOf]; omega
          · have T2 : Hid (¬ B' < A) := Lib.hid (by simpa using t2)
            go_wp2
            refine wp_region_ext (by kernel_rfl) (by kernel_rfl) ?_
            repeat (first | go_big_quiet_skip | go_big_quiet_step (fail))
            refine wpQuiet_nil ?_
            intro _ hw'
            obtain ⟨nq, hw''⟩ := hw'
            subst hw''
            go_wp2
            go_ret
            refine ⟨ret_bool ?_, ?_⟩
            · rw [HN.out, HD.out]; simp only [isGo, gapOk, decide_eq_false (show ¬ B' < A from by have := T2.out; omega), Bool.false_and, Bool.and_false]
            · exact ExtOf.of (by repeat' (first | (with_reducible exact Ext.refl _) | (with_reducible exact ExtOf.ext _) | (with_reducible refine Ext.trans ?_ (ExtOf.ext _)) | (with_reducible refine Ext.alloc ?_ _) | (with_reducible refine Ext.drew ?_) | (with_reducible refine Ext.setCell ?_ ?_ _) | (with_reducible refine Ext.setRow ?_ ?_ _) | (with_reducible exact HX.out) | (with_reducible refine Ext.trans ?_ HX.out) | (with_reducible refine Ext.below ?_ (Nat.le_refl _) _) | (simp; done) | (simp; omega)))
      · have T1 : Hid (¬ A < B) := Lib.hid (by simpa using t1)
        go_wp2
        refine wp_region_ext (by kernel_rfl) (by kernel_rfl) ?_
        repeat (first | go_big_quiet_skip | go_big_quiet_step (fail))
        refine wpQuiet_nil ?_
        intro _ hw'
        obtain ⟨nq, hw''⟩ := hw'
        subst hw''
        go_wp2
        go_ret
        refine ⟨ret_bool ?_, ?_⟩
        · rw [HN.out, HD.out]; simp only [isGo, decide_eq_false (show ¬ A < B from by have := T1.out; omega), Bool.false_and]
        · exact ExtOf.of (by repeat' (first | (with_reducible exact Ext.refl _) | (with_reducible exact ExtOf.ext _) | (with_reducible refine Ext.trans ?_ (ExtOf.ext _)) | (with_reducible refine Ext.alloc ?_ _) | (with_reducible refine Ext.drew ?_) | (with_reducible refine Ext.setCell ?_ ?_ _) | (with_reducible refine Ext.setRow ?_ ?_ _) | (with_reducible exact HX.out) | (with_reducible refine Ext.trans ?_ HX.out) | (with_reducible refine Ext.below ?_ (Nat.le_refl _) _) | (simp; done) | (simp; omega)))
    · go_wp2
      go_ret
      refine ⟨ret_bool ?_, ?_⟩
      · rw [HN.out, List.drop_of_length_le (by omega)]; rfl
      · exact ExtOf.of (by repeat' (first | (with_reducible exact Ext.refl _) | (with_reducible exact ExtOf.ext _) | (with_reducible refine Ext.trans ?_ (ExtOf.ext _)) | (with_reducible refine Ext.alloc ?_ _) | (with_reducible refine Ext.drew ?_) | (with_reducible refine Ext.setCell ?_ ?_ _) | (with_reducible refine Ext.setRow ?_ ?_ _) | (with_reducible exact HX.out) | (with_reducible refine Ext.trans ?_ HX.out) | (with_reducible refine Ext.below ?_ (Nat.le_refl _) _) | (simp; done) | (simp; omega)))

set_option maxHeartbeats 800000 in
theorem ris_any (p : Option Addr) (cap : Nat) (l : List Sp) (w : World) (hl : SpS w (.slice p l.length cap) l) (hlen : l.length ≤ 1099511627776) :
    Calls Try.prog 21 #[.slice p l.length cap] w fun e w' => e = .returned (.bool (isGo none l)) ∧ ∃ n : ExtOf w, w' = n.val := by
  have HL := Lib.hid hl
  clear hl
  go_enter Try.func21, Try.ntmps21
  go_wp2
  go_loopw [3] (fun v wr => ∃ (k : Nat) (q : Option Int), k ≤ l.length ∧ v = .int .i64 k ∧ isGo none l = isGo q (l.drop k) ∧ (k = 0 → q = none) ∧ (∀ j, k = j + 1 → ∃ A B, l[j]? = some (A, B) ∧ q = some B) ∧ Ext w wr) (fun v _ => l.length - (intOf v).toNat)
  case atStart => exact ⟨0, none, by omega, rfl, rfl, fun _ => rfl, (fun j h => by omega), Ext.refl _⟩
  case round =>
    obtain ⟨k, q, hk, rfl, hno, h0, h1, hx⟩ := hrel
    have HX := Lib.hid hx
    have HN := Lib.hid hno
    have H0 := Lib.hid h0
    have H1 := Lib.hid h1
    clear hx hno h0 h1
    by_cases hlt : k < l.length
    · obtain ⟨A, B, b, off, hd, hm, rfl, ho, c0, c1⟩ := SpS.elem (SliceOf.ext HL.out HX.out) hlt
      have HD := Lib.hid hd
      have HM := Lib.hid hm
      clear hd hm
      have i1 : (0 : Int) ≤ ↑k := by omega
      have i2 : (↑k : Int) < ↑l.length := by omega
      rcases t1 : decide (B ≤ A) with _ | _
      · have T1 : Hid (A < B) := Lib.hid (by simpa using t1)
        rcases z : decide (0 < k) with _ | _
        · have K0 : Hid (k = 0) := Lib.hid (by simp at z; omega)
          have q0 := H0.out K0.out
          subst q0
          go_wp2
          refine wp_region_ext (by kernel_rfl) (by kernel_rfl) ?_
          repeat (first | go_big_quiet_skip | go_big_quiet_step (fail))
          refine wpQuiet_nil ?_
          intro _ hw'
          obtain ⟨nq, hw''⟩ := hw'
          subst hw''
          go_wp2
          go_roundw
          case rel => exact ⟨k + 1, some B, by omega, by go_num, by rw [HN.out, HD.out]; simp [isGo, gapOk, T1.out], by omega, (fun j h => by obtain rfl : j = k := (by omega); exact ⟨A, B, HM.out, rfl⟩), by repeat' (first | (with_reducible exact Ext.refl _) | (with_reducible exact ExtOf.ext _) | (with_reducible refine Ext.trans ?_ (ExtOf.ext _)) | (with_reducible refine Ext.alloc ?_ _) | (with_reducible refine Ext.drew ?_) | (with_reducible refine Ext.setCell ?_ ?_ _) | (with_reducible refine Ext.setRow ?_ ?_ _) | (with_reducible exact HX.out) | (with_reducible refine Ext.trans ?_ HX.out) | (with_reducible refine Ext.below ?_ (Nat.le_refl _) _) | (simp; done) | (simp; omega))⟩
          case measure => simp [intOf]; omega
        · have kp : 0 < k := by simp at z; omega
          obtain ⟨A', B', hm', hq⟩ := H1.out (k - 1) (by omega)
          subst hq
          obtain ⟨A2, B2, b2, off2, _, hm2, hp2, _, _, c2⟩ := SpS.elem (SliceOf.ext HL.out HX.out) (i := k - 1) (by omega)
          obtain ⟨rfl, rfl⟩ : b = b2 ∧ off = off2 := by simpa using hp2
          obtain ⟨rfl, rfl⟩ : A' = A2 ∧ B' = B2 := by rw [hm'] at hm2; simpa using hm2
          clear hm' hm2 hp2
          have w1 : IntKind.i64.wrap ((k : Int) - 1) = (k : Int) - 1 := IntWalk.i64_in _ (by omega)
          have w2 : ((k : Int) - 1).toNat = k - 1 := by omega
          have w3 : (0 : Int) ≤ (k : Int) - 1 := by omega
          have w4 : (1 : Int) ≤ (k : Int) := by omega
          have w5 : (k : Int) - 1 < l.length := by omega
          rcases t2 : decide (A ≤ B') with _ | _
          · have T2 : Hid (B' < A) := Lib.hid (by simpa using t2)
            go_wp2
            refine wp_region_ext (by kernel_rfl) (by kernel_rfl) ?_
            repeat (first | go_big_quiet_skip | go_big_quiet_step (fail))
            refine wpQuiet_nil ?_
            intro _ hw'
            obtain ⟨nq, hw''⟩ := hw'
            subst hw''
            go_wp2
            go_roundw
            case rel => exact ⟨k + 1, some B, by omega, by go_num, by rw [HN.out, HD.out]; simp [isGo, gapOk, T1.out, T2.out], by omega, (fun j h => by obtain rfl : j = k := (by omega); exact ⟨A, B, HM.out, rfl⟩), by repeat' (first | (with_reducible exact Ext.refl _) | (with_reducible exact ExtOf.ext _) | (with_reducible refine Ext.trans ?_ (ExtOf.ext _)) | (with_reducible refine Ext.alloc ?_ _) | (with_reducible refine Ext.drew ?_) | (with_reducible refine Ext.setCell ?_ ?_ _) | (with_reducible refine Ext.setRow ?_ ?_ _) | (with_reducible exact HX.out) | (with_reducible refine Ext.trans ?_ HX.out) | (with_reducible refine Ext.below ?_ (Nat.le_refl _) _) | (simp; done) | (simp; omega))⟩
            case measure => simp [intOf]; omega
          · have T2 : Hid (¬ B' < A) := Lib.hid (by simpa using t2)
            go_wp2
            refine wp_region_ext (by kernel_rfl) (by kernel_rfl) ?_
            repeat (first | go_big_quiet_skip | go_big_quiet_step (fail))
            refine wpQuiet_nil ?_
            intro _ hw'
            obtain ⟨nq, hw''⟩ := hw'
            subst hw''
            go_wp2
            go_ret
            refine ⟨ret_bool ?_, ?_⟩
            · rw [HN.out, HD.out]; simp only [isGo, gapOk, decide_eq_false (show ¬ B' < A from by have := T2.out; omega), Bool.false_and, Bool.and_false]
            · exact ExtOf.of (by repeat' (first | (with_reducible exact Ext.refl _) | (with_reducible exact ExtOf.ext _) | (with_reducible refine Ext.trans ?_ (ExtOf.ext _)) | (with_reducible refine Ext.alloc ?_ _) | (with_reducible refine Ext.drew ?_) | (with_reducible refine Ext.setCell ?_ ?_ _) | (with_reducible refine Ext.setRow ?_ ?_ _) | (with_reducible exact HX.out) | (with_reducible refine Ext.trans ?_ HX.out) | (with_reducible refine Ext.below ?_ (Nat.le_refl _) _) | (simp; done) | (simp; omega)))
      · have T1 : Hid (¬ A < B) := Lib.hid (by simpa using t1)
        go_wp2
        refine wp_region_ext (by kernel_rfl) (by kernel_rfl) ?_
        repeat (first | go_big_quiet_skip | go_big_quiet_step (fail))
        refine wpQuiet_nil ?_
        intro _ hw'
        obtain ⟨nq, hw''⟩ := hw'
        subst hw''
        go_wp2
        go_ret
        refine ⟨ret_bool ?_, ?_⟩
        · rw [HN.out, HD.out]; simp only [isGo, decide_eq_false (show ¬ A < B from by have := T1.out; omega), Bool.false_and]
        · exact ExtOf.of (by repeat' (first | (with_reducible exact Ext.refl _) | (with_reducible exact ExtOf.ext _) | (with_reducible refine Ext.trans ?_ (ExtOf.ext _)) | (with_reducible refine Ext.alloc ?_ _) | (with_reducible refine Ext.drew ?_) | (with_reducible refine Ext.setCell ?_ ?_ _) | (with_reducible refine Ext.setRow ?_ ?_ _) | (with_reducible exact HX.out) | (with_reducible refine Ext.trans ?_ HX.out) | (with_reducible refine Ext.below ?_ (Nat.le_refl _) _) | (simp; done) | (simp; omega)))
    · go_wp2
      go_ret
      refine ⟨ret_bool ?_, ?_⟩
      · rw [HN.out, List.drop_of_length_le (by omega)]; rfl
      · exact ExtOf.of (by repeat' (first | (with_reducible exact Ext.refl _) | (with_reducible exact ExtOf.ext _) | (with_reducible refine Ext.trans ?_ (ExtOf.ext _)) | (with_reducible refine Ext.alloc ?_ _) | (with_reducible refine Ext.drew ?_) | (with_reducible refine Ext.setCell ?_ ?_ _) | (with_reducible refine Ext.setRow ?_ ?_ _) | (with_reducible exact HX.out) | (with_reducible refine Ext.trans ?_ HX.out) | (with_reducible refine Ext.below ?_ (Nat.le_refl _) _) | (simp; done) | (simp; omega)))

end Go.Proofs.Ytfbcaafkekcmbaa
