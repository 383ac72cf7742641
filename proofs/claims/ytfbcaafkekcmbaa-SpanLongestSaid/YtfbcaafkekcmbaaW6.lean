/-
  The contract of Canon.
-/
import Derived.Test.YtfbcaafkekcmbaaW5
import Derived.Test.YtfbcaafkekcmbaaG1
namespace Go.Proofs.Ytfbcaafkekcmbaa
open Go.RowKit SpanM

attribute [local go_sem] ExtOf.cell ExtOf.frozen Block.cell Block.frozen ExtB.cell ExtB.frozen alloc_cell alloc_frozen

theorem foldl_step {ys r z : List Sp} {A B : Int} {k : Nat} (h : z = (ys.drop k).foldl merge r) (hd : ys.drop k = (A, B) :: ys.drop (k + 1)) : z = (ys.drop (k + 1)).foldl merge (merge r (A, B)) := by
  rw [hd, List.foldl_cons] at h; exact h
set_option maxRecDepth 20000 in
set_option maxHeartbeats 1600000 in
theorem canon_any (p : Option Addr) (cap : Nat) (l : List Sp) (w : World) (hl : SpS w (.slice p l.length cap) l) (hlen : l.length ≤ 1099511627776) :
    Calls Try.prog 18 #[.slice p l.length cap] w (RetS w (SpanM.canon l)) := by
  obtain ⟨i0, hi, hz0, hz1, hz2⟩ := info_parts infoS
  have HL := Lib.hid hl
  clear hl
  go_enter Try.func18, Try.ntmps18
  go_wp2
  go_loopw [3, 12] (fun v3 v wr => ∃ (k : Nat) (r : List Sp), k ≤ l.length ∧ r.length ≤ k ∧ v = .int .i64 k ∧ l.filter ne = r ++ (l.drop k).filter ne ∧ Own encS 2 23 w.heap.size wr v3 r ∧ Ext w wr) (fun _ v _ => l.length - (intOf v).toNat)
  case atStart => exact ⟨0, [], by omega, by simp, rfl, rfl, Own.nil _, Ext.refl _⟩
  case round =>
    obtain ⟨k, r, hk, hr, rfl, hf, ho, hx⟩ := hrel
    have hsz := hx.size
    have HX := Lib.hid hx
    have HF := Lib.hid hf
    have HO := Lib.hid ho
    clear hx hf ho
    by_cases hlt : k < l.length
    · obtain ⟨A, B, b, off, hd, hm, rfl, hold, c0, c1⟩ := SpS.elem (SliceOf.ext HL.out HX.out) hlt
      have HD := Lib.hid (filter_step HF.out hd)
      clear hd hm
      by_cases t1 : A < B
      · go_wp2_with (at_builtin; refine wl_append1 (enc := encS) (k := 2) (E := 23) (base := w.heap.size) (l := r) (y := (A, B)) Try.underlying28 hi hz0 hz1 hz2 rfl (by decide) encS_len encS_one rfl rfl ((HO.out.alloc _).alloc _) inferInstance rfl (by unfold maxLen; omega) (by omega) (by simp; omega) ?_; intro v' nb hown')
        go_roundw
        case rel => exact ⟨k + 1, r ++ [(A, B)], by omega, by simp; omega, by go_num, HD.out.1 t1, hown', by repeat' (first | (with_reducible exact Ext.refl _) | (with_reducible exact ExtOf.ext _) | (with_reducible refine Ext.trans ?_ (ExtOf.ext _)) | (with_reducible refine Ext.alloc ?_ _) | (with_reducible refine Ext.drew ?_) | (with_reducible refine Ext.setCell ?_ ?_ _) | (with_reducible refine Ext.setRow ?_ ?_ _) | (with_reducible exact HX.out) | (with_reducible refine Ext.trans ?_ HX.out) | (with_reducible refine Ext.below ?_ (Nat.le_refl _) _) | (simp; done) | (simp; omega))⟩
        case measure => simp [intOf]; omega
      · go_wp2
        go_roundw
        case rel => exact ⟨k + 1, r, by omega, by omega, by go_num, HD.out.2 (by omega), HO.out.alloc _, by repeat' (first | (with_reducible exact Ext.refl _) | (with_reducible exact ExtOf.ext _) | (with_reducible refine Ext.trans ?_ (ExtOf.ext _)) | (with_reducible refine Ext.alloc ?_ _) | (with_reducible refine Ext.drew ?_) | (with_reducible refine Ext.setCell ?_ ?_ _) | (with_reducible refine Ext.setRow ?_ ?_ _) | (with_reducible exact HX.out) | (with_reducible refine Ext.trans ?_ HX.out) | (with_reducible refine Ext.below ?_ (Nat.le_refl _) _) | (simp; done) | (simp; omega))⟩
        case measure => simp [intOf]; omega
    · have hfl : l.filter ne = r := by rw [HF.out, List.drop_of_length_le (by omega)]; simp
      have HR := Lib.hid hfl
      clear hfl
      go_wp2_with (go_at_call 37; refine (sort_any r _ _ w.heap.size HO.out (by omega)).mono ?_; rintro e w' ⟨rfl, nb, rfl, ys, q, cap2, hys, rfl, hs⟩; have HX2 := Lib.hid (Ext.below HX.out (Nat.le_refl _) nb); have HS := Lib.hid hs; have hyl : ys.length ≤ r.length := (by rw [hys]; simp); have HY := Lib.hid hys; clear hs hys HO HX HF HL; generalize nb.val = W2 at HX2 HS ⊢; clear nb hsz)
      go_loopw [6, 30] (fun v6 v wr => ∃ (k : Nat) (r : List Sp), k ≤ ys.length ∧ r.length ≤ k ∧ v = .int .i64 k ∧ ys.foldl merge [] = (ys.drop k).foldl merge r ∧ Own encS 2 23 W2.heap.size wr v6 r ∧ Ext W2 wr) (fun _ v _ => ys.length - (intOf v).toNat)
      case atStart => exact ⟨0, [], by omega, by simp, rfl, rfl, Own.nil _, Ext.refl _⟩
      case round =>
        obtain ⟨k2, r2, hk2, hr2, rfl, hf, ho, hx⟩ := hrel
        have hsz := hx.size
        have HX := Lib.hid hx
        have HF := Lib.hid hf
        have HO := Lib.hid ho
        clear hx hf ho
        by_cases hlt2 : k2 < ys.length
        · obtain ⟨A, B, b, off, hd, hm, rfl, hold, c0, c1⟩ := SpS.elem (SliceOf.ext HS.out HX.out) hlt2
          have HD := Lib.hid (foldl_step HF.out hd)
          clear hd hm
          rcases List.eq_nil_or_concat r2 with rfl | ⟨r3, ⟨C, D⟩, rfl⟩
          · obtain ⟨q6, c6, rfl⟩ := Own.form HO.out
            rw [List.length_nil] at HO
            go_wp2
            refine wp_region_ext (by kernel_rfl) (by kernel_rfl) ?_
            repeat (first | go_big_quiet_skip | go_big_quiet_step (fail))
            refine wpQuiet_nil ?_
            intro _ hw'
            obtain ⟨nq, hw''⟩ := hw'
            subst hw''
            have hq : wr.heap.size + 1 ≤ nq.val.heap.size := by have := nq.size; simpa using this
            go_wp2_with (at_builtin; refine wl_append1 (enc := encS) (k := 2) (E := 23) (base := W2.heap.size) (l := []) (y := (A, B)) Try.underlying28 hi hz0 hz1 hz2 rfl (by decide) encS_len encS_one rfl rfl ((Own.of_ext (HO.out.alloc _) nq).alloc _) inferInstance rfl (by unfold maxLen; omega) (by omega) (by simp; omega) ?_; intro v' nb hown')
            go_roundw
            case rel => exact ⟨k2 + 1, [(A, B)], by omega, by simp, by go_num, HD.out, hown', by repeat' (first | (with_reducible exact Ext.refl _) | (with_reducible exact ExtOf.ext _) | (with_reducible refine Ext.trans ?_ (ExtOf.ext _)) | (with_reducible refine Ext.alloc ?_ _) | (with_reducible refine Ext.drew ?_) | (with_reducible refine Ext.setCell ?_ ?_ _) | (with_reducible refine Ext.setRow ?_ ?_ _) | (with_reducible exact HX.out) | (with_reducible refine Ext.trans ?_ HX.out) | (with_reducible refine Ext.below ?_ (Nat.le_refl _) _) | (simp; done) | (simp; omega))⟩
            case measure => simp [intOf]; omega
          · rw [List.concat_eq_append] at *
            obtain ⟨g, c6, rfl, hg, og, d0, d1, fz, _⟩ := Own.last HO.out
            have hr3 : r3.length + 1 ≤ k2 := by simpa using hr2
            have mx : (if D < B then B else D) = max D B := by split <;> omega
            rcases t1 : decide (A ≤ D) with _ | _
            · go_wp2
              refine wp_region_ext (by kernel_rfl) (by kernel_rfl) ?_
              repeat (first | go_big_quiet_skip | go_big_quiet_step (fail))
              refine wpQuiet_nil ?_
              intro _ hw'
              obtain ⟨nq, hw''⟩ := hw'
              subst hw''
              have hq : wr.heap.size + 1 ≤ nq.val.heap.size := by have := nq.size; simpa using this
              have hl3 : (r3 ++ [(C, D)]).length = r3.length + 1 := by simp
              go_wp2_with (at_builtin; refine wl_append1 (enc := encS) (k := 2) (E := 23) (base := W2.heap.size) (l := (r3 ++ [(C, D)])) (y := (A, B)) Try.underlying28 hi hz0 hz1 hz2 rfl (by decide) encS_len encS_one rfl rfl ((Own.of_ext (HO.out.alloc _) nq).alloc _) inferInstance rfl (by unfold maxLen; omega) (by omega) (by simp; omega) ?_; intro v' nb hown')
              go_roundw
              case rel =>
                have hD := HD.out
                rw [merge_snoc, if_neg (by simpa using t1)] at hD
                exact ⟨k2 + 1, _, by omega, by simp; omega, by go_num, hD, hown', by repeat' (first | (with_reducible exact Ext.refl _) | (with_reducible exact ExtOf.ext _) | (with_reducible refine Ext.trans ?_ (ExtOf.ext _)) | (with_reducible refine Ext.alloc ?_ _) | (with_reducible refine Ext.drew ?_) | (with_reducible refine Ext.setCell ?_ ?_ _) | (with_reducible refine Ext.setRow ?_ ?_ _) | (with_reducible exact HX.out) | (with_reducible refine Ext.trans ?_ HX.out) | (with_reducible refine Ext.below ?_ (Nat.le_refl _) _) | (simp; done) | (simp; omega))⟩
              case measure => simp [intOf]; omega
            · go_wp2
              refine wp_region_ext (by kernel_rfl) (by kernel_rfl) ?_
              repeat (first | go_big_quiet_skip | go_big_quiet_step (fail))
              refine wpQuiet_nil ?_
              intro _ hw'
              obtain ⟨nq, hw''⟩ := hw'
              subst hw''
              go_wp2
              have bd : (r3.length : Int) < (r3.length : Int) + 1 := by omega
              refine wp_region_still_tail 12 (by kernel_rfl) (by kernel_rfl) ?_
              simp only [List.take_succ_cons, List.take_zero, List.drop_succ_cons, List.drop_zero]
              change wpStill _ _ (World.drew _) _ _ _
              repeat still_step
              refine wpStill_nil ?_
              change wpList _ _ _ _ _ (World.drew _)
              go_wp2
              go_roundw
              case rel =>
                have hD := HD.out
                rw [merge_snoc, if_pos (by simpa using t1)] at hD
                exact ⟨k2 + 1, _, by omega, by simp; omega, by go_num, hD, Own.setLast (Own.of_ext (HO.out.alloc _) nq) _, by repeat' (first | (with_reducible exact Ext.refl _) | (with_reducible exact ExtOf.ext _) | (with_reducible refine Ext.trans ?_ (ExtOf.ext _)) | (with_reducible refine Ext.alloc ?_ _) | (with_reducible refine Ext.drew ?_) | (with_reducible refine Ext.setCell ?_ ?_ _) | (with_reducible refine Ext.setRow ?_ ?_ _) | (with_reducible exact HX.out) | (with_reducible refine Ext.trans ?_ HX.out) | (with_reducible refine Ext.below ?_ (Nat.le_refl _) _) | (simp; done) | (simp; omega))⟩
              case measure => simp [intOf]; omega
        · have hfin : ys.foldl merge [] = r2 := by rw [HF.out, List.drop_of_length_le (by omega)]; rfl
          have hcan : SpanM.canon l = r2 := by rw [← hfin, HY.out, ← HR.out]; rfl
          have HC := Lib.hid hcan
          clear hfin hcan
          obtain ⟨q6, c6, rfl⟩ := Own.form HO.out
          have HSL := Lib.hid (Own.slice encS_len HO.out)
          go_wp2
          go_ret
          rw [HC.out]
          exact ⟨_, _, rfl, HSL.out, fun a ha => Nat.le_trans HX2.out.size (Own.fresh HO.out a ha), ExtOf.of (Ext.trans HX2.out HX.out)⟩

end Go.Proofs.Ytfbcaafkekcmbaa
