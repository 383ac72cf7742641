/-
  The contracts of the reference's Total and Longest, and of the law's small.
-/
import Derived.Test.YtfbcaafkekcmbaaR2
namespace Go.Proofs.Ytfbcaafkekcmbaa
open Go.RowKit SpanM

attribute [local go_sem] ExtOf.cell ExtOf.frozen Block.cell Block.frozen ExtB.cell ExtB.frozen alloc_cell alloc_frozen

theorem rtot_step {ys : List Sp} {A B T z : Int} {k : Nat} (h0 : 0 ≤ T) (h : min (T + tot (ys.drop k)) top = z) (hd : ys.drop k = (A, B) :: ys.drop (k + 1)) :
    (top - T < len (A, B) → z = top) ∧ (¬ top - T < len (A, B) → min (T + len (A, B) + tot (ys.drop (k + 1))) top = z) := by
  rw [hd, tot_cons] at h
  have h1 := size_nn (A, B)
  have h2 := tot_nn (ys.drop (k + 1))
  unfold len
  constructor <;> intro c <;> omega
theorem len_nn (s : Sp) : 0 ≤ len s := by have := size_nn s; unfold len top; omega
set_option maxHeartbeats 800000 in
theorem rtotal_any (p : Option Addr) (cap : Nat) (l : List Sp) (w : World) (hl : SpS w (.slice p l.length cap) l) (hlen : l.length ≤ 549755813888) (hin : ∀ s ∈ l, In s) :
    Calls Try.prog 31 #[.slice p l.length cap] w fun e w' => e = .returned (.int .i64 (total l)) ∧ ∃ n : ExtOf w, w' = n.val := by
  have hcl := canon_len l
  have HL := Lib.hid hl
  have HI := Lib.hid (canon_in hin)
  clear hl hin
  go_enter Try.func31, Try.ntmps31
  go_wp2_with fail
  refine (rcanon_any p cap l _ HL.out (by omega)).mono ?_
  rintro e w' ⟨q, c, rfl, hs, _, n, rfl⟩
  have HS := Lib.hid hs
  clear hs
  go_wp2_with fail
  go_loopw [3, 5] (fun v3 v wr => ∃ (k : Nat) (T : Int), k ≤ (SpanM.canon l).length ∧ v = .int .i64 k ∧ v3 = .int .i64 T ∧ 0 ≤ T ∧ T ≤ 9223372036854775807 ∧ min (T + tot ((SpanM.canon l).drop k)) top = SpanM.total l ∧ Ext n.val wr) (fun _ v _ => (SpanM.canon l).length - (intOf v).toNat)
  case atStart => exact ⟨0, 0, by omega, rfl, rfl, by omega, by omega, by simp [SpanM.total], Ext.refl _⟩
  case round =>
    obtain ⟨k, T, hk, rfl, rfl, hT, hT2, hf, hx⟩ := hrel
    have HX := Lib.hid hx
    clear hx
    by_cases hlt : k < (SpanM.canon l).length
    · obtain ⟨A, B, b, off, hd, hm, rfl, hold, c0, c1⟩ := SpS.elem (SliceOf.ext HS.out HX.out) hlt
      have HAB := Lib.hid (HI.out _ (List.mem_of_getElem? hm))
      have HF := Lib.hid (rtot_step hT hf hd)
      have h2 := len_nn (A, B)
      have h3 : len (A, B) ≤ 9223372036854775807 := by unfold len top; omega
      clear hd hm hf
      rcases t1 : decide (9223372036854775807 - T < len (A, B)) with _ | _
      · have b1 : T + len (A, B) ≤ 9223372036854775807 := by simp at t1; omega
        go_wp2_with (go_at_call 12; refine (rlen_any (A, B) _ HAB.out).mono ?_; rintro e w' ⟨rfl, n, rfl⟩)
        go_roundw
        case rel => exact ⟨k + 1, T + len (A, B), by omega, by go_num, by go_num, by omega, by omega, HF.out.2 (by simpa [top] using t1), by repeat' (first | (with_reducible exact Ext.refl _) | (with_reducible exact ExtOf.ext _) | (with_reducible refine Ext.trans ?_ (ExtOf.ext _)) | (with_reducible refine Ext.alloc ?_ _) | (with_reducible refine Ext.drew ?_) | (with_reducible refine Ext.setCell ?_ ?_ _) | (with_reducible refine Ext.setRow ?_ ?_ _) | (with_reducible exact HX.out) | (with_reducible refine Ext.trans ?_ HX.out) | (with_reducible refine Ext.below ?_ (Nat.le_refl _) _) | (simp; done) | (simp; omega))⟩
        case measure => simp [intOf]; omega
      · have HZ : Hid (SpanM.total l = 9223372036854775807) := Lib.hid (HF.out.1 (by simpa [top] using t1))
        go_wp2_with (go_at_call 12; refine (rlen_any (A, B) _ HAB.out).mono ?_; rintro e w' ⟨rfl, n, rfl⟩)
        go_ret
        refine ⟨ret_int HZ.out.symm, ?_⟩
        exact ExtOf.of (by repeat' (first | (with_reducible exact Ext.refl _) | (with_reducible exact ExtOf.ext _) | (with_reducible refine Ext.trans ?_ (ExtOf.ext _)) | (with_reducible refine Ext.alloc ?_ _) | (with_reducible refine Ext.drew ?_) | (with_reducible refine Ext.setCell ?_ ?_ _) | (with_reducible refine Ext.setRow ?_ ?_ _) | (with_reducible exact HX.out) | (with_reducible refine Ext.trans ?_ HX.out) | (with_reducible refine Ext.below ?_ (Nat.le_refl _) _) | (simp; done) | (simp; omega)))
    · have e : T = SpanM.total l := by rw [List.drop_of_length_le (by omega)] at hf; simp [tot, top] at hf; omega
      subst e
      clear hf
      go_wp2
      go_ret
      refine ⟨rfl, ?_⟩
      exact ExtOf.of (by repeat' (first | (with_reducible exact Ext.refl _) | (with_reducible exact ExtOf.ext _) | (with_reducible refine Ext.trans ?_ (ExtOf.ext _)) | (with_reducible refine Ext.alloc ?_ _) | (with_reducible refine Ext.drew ?_) | (with_reducible refine Ext.setCell ?_ ?_ _) | (with_reducible refine Ext.setRow ?_ ?_ _) | (with_reducible exact HX.out) | (with_reducible refine Ext.trans ?_ HX.out) | (with_reducible refine Ext.below ?_ (Nat.le_refl _) _) | (simp; done) | (simp; omega)))

theorem small_step {l : List Sp} {A B : Int} {k : Nat} (h : smallB l = smallB (l.drop k)) (hd : l.drop k = (A, B) :: l.drop (k + 1)) :
    (A < -1152921504606846976 → smallB l = false) ∧ (1152921504606846976 < A → smallB l = false) ∧ (B < -1152921504606846976 → smallB l = false) ∧ (1152921504606846976 < B → smallB l = false) ∧
    (-1152921504606846976 ≤ A → A ≤ 1152921504606846976 → -1152921504606846976 ≤ B → B ≤ 1152921504606846976 → smallB l = smallB (l.drop (k + 1))) := by
  rw [hd] at h
  unfold smallB at h
  rw [List.all_cons] at h
  refine ⟨fun c => ?_, fun c => ?_, fun c => ?_, fun c => ?_, fun c1 c2 c3 c4 => ?_⟩
  · rw [decide_eq_false (by simp only; omega), Bool.false_and] at h; exact h
  · rw [decide_eq_false (by simp only; omega), Bool.false_and] at h; exact h
  · rw [decide_eq_false (by simp only; omega), Bool.false_and] at h; exact h
  · rw [decide_eq_false (by simp only; omega), Bool.false_and] at h; exact h
  · rw [decide_eq_true (by simp only; omega), Bool.true_and] at h; exact h
set_option maxHeartbeats 800000 in
theorem small_any (p : Option Addr) (cap : Nat) (l : List Sp) (w : World) (hl : SpS w (.slice p l.length cap) l) (hlen : l.length ≤ 549755813888) :
    Calls Try.prog 34 #[.slice p l.length cap] w fun e w' => e = .returned (.bool (smallB l)) ∧ ∃ n : ExtOf w, w' = n.val := by
  have HL := Lib.hid hl
  clear hl
  go_enter Try.func34, Try.ntmps34
  go_wp2
  go_loopw [3] (fun v wr => ∃ (k : Nat), k ≤ l.length ∧ v = .int .i64 k ∧ smallB l = smallB (l.drop k) ∧ Ext w wr) (fun v _ => l.length - (intOf v).toNat)
  case atStart => exact ⟨0, by omega, rfl, rfl, Ext.refl _⟩
  case round =>
    obtain ⟨k, hk, rfl, hf, hx⟩ := hrel
    have HX := Lib.hid hx
    have HF := Lib.hid hf
    clear hx hf
    by_cases hlt : k < l.length
    · obtain ⟨A, B, b, off, hd, hm, rfl, hold, c0, c1⟩ := SpS.elem (SliceOf.ext HL.out HX.out) hlt
      have HD := Lib.hid (small_step HF.out hd)
      clear hd hm
      rcases t1 : decide (A < -1152921504606846976) with _ | _
      · rcases t2 : decide (1152921504606846976 < A) with _ | _
        · rcases t3 : decide (B < -1152921504606846976) with _ | _
          · rcases t4 : decide (1152921504606846976 < B) with _ | _
            · go_wp2
              go_roundw
              case rel => exact ⟨k + 1, by omega, by go_num, HD.out.2.2.2.2 (by simp at t1; omega) (by simp at t2; omega) (by simp at t3; omega) (by simp at t4; omega), by repeat' (first | (with_reducible exact Ext.refl _) | (with_reducible exact ExtOf.ext _) | (with_reducible refine Ext.trans ?_ (ExtOf.ext _)) | (with_reducible refine Ext.alloc ?_ _) | (with_reducible refine Ext.drew ?_) | (with_reducible refine Ext.setCell ?_ ?_ _) | (with_reducible refine Ext.setRow ?_ ?_ _) | (with_reducible exact HX.out) | (with_reducible refine Ext.trans ?_ HX.out) | (with_reducible refine Ext.below ?_ (Nat.le_refl _) _) | (simp; done) | (simp; omega))⟩
              case measure => simp [intOf]; omega
            · go_wp2
              go_ret
              refine ⟨ret_bool (HD.out.2.2.2.1 (by simpa using t4)).symm, ?_⟩
              exact ExtOf.of (by repeat' (first | (with_reducible exact Ext.refl _) | (with_reducible exact ExtOf.ext _) | (with_reducible refine Ext.trans ?_ (ExtOf.ext _)) | (with_reducible refine Ext.alloc ?_ _) | (with_reducible refine Ext.drew ?_) | (with_reducible refine Ext.setCell ?_ ?_ _) | (with_reducible refine Ext.setRow ?_ ?_ _) | (with_reducible exact HX.out) | (with_reducible refine Ext.trans ?_ HX.out) | (with_reducible refine Ext.below ?_ (Nat.le_refl _) _) | (simp; done) | (simp; omega)))
          · go_wp2
            go_ret
            refine ⟨ret_bool (HD.out.2.2.1 (by simpa using t3)).symm, ?_⟩
            exact ExtOf.of (by repeat' (first | (with_reducible exact Ext.refl _) | (with_reducible exact ExtOf.ext _) | (with_reducible refine Ext.trans ?_ (ExtOf.ext _)) | (with_reducible refine Ext.alloc ?_ _) | (with_reducible refine Ext.drew ?_) | (with_reducible refine Ext.setCell ?_ ?_ _) | (with_reducible refine Ext.setRow ?_ ?_ _) | (with_reducible exact HX.out) | (with_reducible refine Ext.trans ?_ HX.out) | (with_reducible refine Ext.below ?_ (Nat.le_refl _) _) | (simp; done) | (simp; omega)))
        · go_wp2
          go_ret
          refine ⟨ret_bool (HD.out.2.1 (by simpa using t2)).symm, ?_⟩
          exact ExtOf.of (by repeat' (first | (with_reducible exact Ext.refl _) | (with_reducible exact ExtOf.ext _) | (with_reducible refine Ext.trans ?_ (ExtOf.ext _)) | (with_reducible refine Ext.alloc ?_ _) | (with_reducible refine Ext.drew ?_) | (with_reducible refine Ext.setCell ?_ ?_ _) | (with_reducible refine Ext.setRow ?_ ?_ _) | (with_reducible exact HX.out) | (with_reducible refine Ext.trans ?_ HX.out) | (with_reducible refine Ext.below ?_ (Nat.le_refl _) _) | (simp; done) | (simp; omega)))
      · go_wp2
        go_ret
        refine ⟨ret_bool (HD.out.1 (by simpa using t1)).symm, ?_⟩
        exact ExtOf.of (by repeat' (first | (with_reducible exact Ext.refl _) | (with_reducible exact ExtOf.ext _) | (with_reducible refine Ext.trans ?_ (ExtOf.ext _)) | (with_reducible refine Ext.alloc ?_ _) | (with_reducible refine Ext.drew ?_) | (with_reducible refine Ext.setCell ?_ ?_ _) | (with_reducible refine Ext.setRow ?_ ?_ _) | (with_reducible exact HX.out) | (with_reducible refine Ext.trans ?_ HX.out) | (with_reducible refine Ext.below ?_ (Nat.le_refl _) _) | (simp; done) | (simp; omega)))
    · have e : smallB l = true := by rw [HF.out, List.drop_of_length_le (by omega)]; rfl
      have HE := Lib.hid e
      clear e
      go_wp2
      go_ret
      refine ⟨ret_bool HE.out.symm, ?_⟩
      exact ExtOf.of (by repeat' (first | (with_reducible exact Ext.refl _) | (with_reducible exact ExtOf.ext _) | (with_reducible refine Ext.trans ?_ (ExtOf.ext _)) | (with_reducible refine Ext.alloc ?_ _) | (with_reducible refine Ext.drew ?_) | (with_reducible refine Ext.setCell ?_ ?_ _) | (with_reducible refine Ext.setRow ?_ ?_ _) | (with_reducible exact HX.out) | (with_reducible refine Ext.trans ?_ HX.out) | (with_reducible refine Ext.below ?_ (Nat.le_refl _) _) | (simp; done) | (simp; omega)))

end Go.Proofs.Ytfbcaafkekcmbaa
