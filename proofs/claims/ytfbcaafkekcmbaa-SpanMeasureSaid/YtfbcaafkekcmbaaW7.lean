/-
  The contracts of Total and Longest.
-/
import Derived.Test.YtfbcaafkekcmbaaW6
namespace Go.Proofs.Ytfbcaafkekcmbaa
open Go.RowKit SpanM

attribute [local go_sem] ExtOf.cell ExtOf.frozen Block.cell Block.frozen ExtB.cell ExtB.frozen alloc_cell alloc_frozen

theorem tot_drop {ys : List Sp} {A B : Int} {k : Nat} (hd : ys.drop k = (A, B) :: ys.drop (k + 1)) : tot (ys.drop k) = SpanM.size (A, B) + tot (ys.drop (k + 1)) := by rw [hd, tot_cons]

set_option maxHeartbeats 800000 in
theorem total_any (p : Option Addr) (cap : Nat) (l : List Sp) (w : World) (hl : SpS w (.slice p l.length cap) l) (hlen : l.length ≤ 1099511627776) (hin : ∀ s ∈ l, In s) :
    Calls Try.prog 30 #[.slice p l.length cap] w fun e w' => e = .returned (.int .i64 (total l)) ∧ ∃ n : ExtOf w, w' = n.val := by
  obtain ⟨t0, t1⟩ := tot_canon hin
  have hcl := canon_len l
  have HL := Lib.hid hl
  have HI := Lib.hid (canon_in hin)
  clear hl hin
  unfold SpanM.total
  go_enter Try.func30, Try.ntmps30
  go_wp2_with (go_at_call 18; refine (canon_any _ _ l _ HL.out (by omega)).mono ?_; rintro e w' ⟨q, c, rfl, hs, hfr, n, rfl⟩; have HS := Lib.hid hs; have HFR := Lib.hid hfr; clear hs hfr)
  go_loopw [3, 9] (fun v3 v wr => ∃ (k : Nat) (T : Int), k ≤ (SpanM.canon l).length ∧ v = .int .i64 k ∧ v3 = .int .u64 T ∧ 0 ≤ T ∧ T + tot ((SpanM.canon l).drop k) = tot (SpanM.canon l) ∧ Ext n.val wr) (fun _ v _ => (SpanM.canon l).length - (intOf v).toNat)
  case atStart => exact ⟨0, 0, by omega, rfl, rfl, by omega, by simp, Ext.refl _⟩
  case round =>
    obtain ⟨k, T, hk, rfl, rfl, hT, hf, hx⟩ := hrel
    have HX := Lib.hid hx
    clear hx
    by_cases hlt : k < (SpanM.canon l).length
    · obtain ⟨A, B, b, off, hd, hm, rfl, hold, c0, c1⟩ := SpS.elem (SliceOf.ext HS.out HX.out) hlt
      have hAB := HI.out _ (List.mem_of_getElem? hm)
      have h1 := tot_drop hd
      have h2 := size_nn (A, B)
      have h3 := tot_nn ((SpanM.canon l).drop (k + 1))
      have HAB := Lib.hid hAB
      have HF := Lib.hid hf
      have HH := Lib.hid h1
      have b1 : T + SpanM.size (A, B) ≤ 18446744073709551615 := by omega
      clear hd hm hAB hf h1
      go_wp2_with (go_at_call 36; refine (size_any (A, B) _ HAB.out).mono ?_; rintro e w' ⟨rfl, n, rfl⟩)
      go_roundw
      case rel => exact ⟨k + 1, T + SpanM.size (A, B), by omega, by go_num, rfl, by omega, by have := HF.out; have := HH.out; omega, by repeat' (first | (with_reducible exact Ext.refl _) | (with_reducible exact ExtOf.ext _) | (with_reducible refine Ext.trans ?_ (ExtOf.ext _)) | (with_reducible refine Ext.alloc ?_ _) | (with_reducible refine Ext.drew ?_) | (with_reducible refine Ext.setCell ?_ ?_ _) | (with_reducible refine Ext.setRow ?_ ?_ _) | (with_reducible exact HX.out) | (with_reducible refine Ext.trans ?_ HX.out) | (with_reducible refine Ext.below ?_ (Nat.le_refl _) _) | (simp; done) | (simp; omega))⟩
      case measure => simp [intOf]; omega
    · have e : T = tot (SpanM.canon l) := by rw [List.drop_of_length_le (by omega)] at hf; simpa [tot] using hf
      subst e
      clear hf
      go_wp2_with (go_at_call 35; refine (limited_any _ _ (by omega) (by omega)).mono ?_; rintro e w' ⟨rfl, n, rfl⟩)
      go_ret
      refine ⟨rfl, ?_⟩
      exact ExtOf.of (by repeat' (first | (with_reducible exact Ext.refl _) | (with_reducible exact ExtOf.ext _) | (with_reducible refine Ext.trans ?_ (ExtOf.ext _)) | (with_reducible refine Ext.alloc ?_ _) | (with_reducible refine Ext.drew ?_) | (with_reducible refine Ext.setCell ?_ ?_ _) | (with_reducible refine Ext.setRow ?_ ?_ _) | (with_reducible exact HX.out) | (with_reducible refine Ext.trans ?_ HX.out) | (with_reducible refine Ext.below ?_ (Nat.le_refl _) _) | (simp; done) | (simp; omega)))

theorem longer_drop {ys : List Sp} {A B : Int} {b z : Sp} {k : Nat} (h : z = (ys.drop k).foldl longer b) (hd : ys.drop k = (A, B) :: ys.drop (k + 1)) : z = (ys.drop (k + 1)).foldl longer (longer b (A, B)) := by
  rw [hd, List.foldl_cons] at h; exact h
theorem In_zero : In (0, 0) := by unfold In; simp

set_option maxHeartbeats 1600000 in
theorem longest_any (p : Option Addr) (cap : Nat) (l : List Sp) (w : World) (hl : SpS w (.slice p l.length cap) l) (hlen : l.length ≤ 1099511627776) (hin : ∀ s ∈ l, In s) :
    Calls Try.prog 28 #[.slice p l.length cap] w fun e w' => e = .returned (.tuple #[.agg #[.int .i64 (longest l).1, .int .i64 (longest l).2], .bool (decide (0 < len (longest l)))]) ∧ ∃ n : ExtOf w, w' = n.val := by
  have hcl := canon_len l
  have HL := Lib.hid hl
  have HI := Lib.hid (canon_in hin)
  clear hl hin
  go_enter Try.func28, Try.ntmps28
  go_wp2_with (go_at_call 18; refine (canon_any _ _ l _ (SliceOf.ext HL.out (by repeat' (first | (with_reducible exact Ext.refl _) | (with_reducible exact ExtOf.ext _) | (with_reducible refine Ext.trans ?_ (ExtOf.ext _)) | (with_reducible refine Ext.alloc ?_ _) | (with_reducible refine Ext.drew ?_) | (with_reducible refine Ext.setCell ?_ ?_ _) | (with_reducible refine Ext.setRow ?_ ?_ _) | (with_reducible exact HX.out) | (with_reducible refine Ext.trans ?_ HX.out) | (with_reducible refine Ext.below ?_ (Nat.le_refl _) _) | (simp; done) | (simp; omega)))) (by omega)).mono ?_; rintro e w' ⟨q, c, rfl, hs, hfr, n, rfl⟩; have HS := Lib.hid hs; have HFR := Lib.hid hfr; clear hs hfr)
  have HF : Hid (∀ a, q = some a → a.block ≠ w.heap.size + 1) := Lib.hid (fun a ha => by have := HFR.out a ha; simp at this; omega)
  go_loopw [10] (fun v wr => ∃ (k : Nat) (m : Sp), k ≤ (SpanM.canon l).length ∧ v = .int .i64 k ∧ longest l = ((SpanM.canon l).drop k).foldl longer m ∧ In m ∧ Block wr (w.heap.size + 1) #[.int .i64 m.1, .int .i64 m.2] ∧ Block wr w.heap.size #[.int .i64 0, .int .i64 0] ∧ SpS wr (.slice q (SpanM.canon l).length c) (SpanM.canon l) ∧ Ext w wr) (fun v _ => (SpanM.canon l).length - (intOf v).toNat)
  case atStart => exact ⟨0, (0, 0), by omega, rfl, rfl, In_zero, inferInstance, inferInstance, HS.out, by repeat' (first | (with_reducible exact Ext.refl _) | (with_reducible exact ExtOf.ext _) | (with_reducible refine Ext.trans ?_ (ExtOf.ext _)) | (with_reducible refine Ext.alloc ?_ _) | (with_reducible refine Ext.drew ?_) | (with_reducible refine Ext.setCell ?_ ?_ _) | (with_reducible refine Ext.setRow ?_ ?_ _) | (with_reducible exact HX.out) | (with_reducible refine Ext.trans ?_ HX.out) | (with_reducible refine Ext.below ?_ (Nat.le_refl _) _) | (simp; done) | (simp; omega))⟩
  case round =>
    obtain ⟨k, m, hk, rfl, hf, him, hB1, hB0, hs, hx⟩ := hrel
    obtain ⟨M1, M2⟩ := m
    simp only at hB1
    have HX := Lib.hid hx
    have HS := Lib.hid hs
    have HM := Lib.hid him
    have HG := Lib.hid hf
    clear hx hs him hf
    by_cases hlt : k < (SpanM.canon l).length
    · obtain ⟨A, B, b, off, hd, hm, rfl, hold, c0, c1⟩ := SpS.elem HS.out hlt
      have HAB := Lib.hid (HI.out _ (List.mem_of_getElem? hm))
      have HH := Lib.hid (longer_drop HG.out hd)
      have O1 : Old (w.heap.size + 1) wr := hB1.old
      clear hd hm
      rcases t1 : decide (len (M1, M2) < len (A, B)) with _ | _
      · go_wp2
        refine wp_region_ext (by kernel_rfl) (by kernel_rfl) ?_
        repeat (first | go_big_quiet_skip | go_big_quiet_step ((go_at_call 11; first | exact ext_call (len_any (A, B) _ HAB.out) | exact ext_call (len_any (M1, M2) _ HM.out))))
        refine wpQuiet_nil ?_
        intro _ hw'
        obtain ⟨nq, hw''⟩ := hw'
        subst hw''
        go_wp2
        go_roundw
        case rel =>
          have hh := HH.out
          rw [longer, if_neg (by simpa using t1)] at hh
          exact ⟨k + 1, (M1, M2), by omega, by go_num, hh, HM.out, inferInstance, inferInstance, SliceOf.ext HS.out (by repeat' (first | (with_reducible exact Ext.refl _) | (with_reducible exact ExtOf.ext _) | (with_reducible refine Ext.trans ?_ (ExtOf.ext _)) | (with_reducible refine Ext.alloc ?_ _) | (with_reducible refine Ext.drew ?_) | (with_reducible refine Ext.setCell ?_ ?_ _) | (with_reducible refine Ext.setRow ?_ ?_ _) | (with_reducible exact HX.out) | (with_reducible refine Ext.trans ?_ HX.out) | (with_reducible refine Ext.below ?_ (Nat.le_refl _) _) | (simp; done) | (simp; omega))), by repeat' (first | (with_reducible exact Ext.refl _) | (with_reducible exact ExtOf.ext _) | (with_reducible refine Ext.trans ?_ (ExtOf.ext _)) | (with_reducible refine Ext.alloc ?_ _) | (with_reducible refine Ext.drew ?_) | (with_reducible refine Ext.setCell ?_ ?_ _) | (with_reducible refine Ext.setRow ?_ ?_ _) | (with_reducible exact HX.out) | (with_reducible refine Ext.trans ?_ HX.out) | (with_reducible refine Ext.below ?_ (Nat.le_refl _) _) | (simp; done) | (simp; omega))⟩
        case measure => simp [intOf]; omega
      · go_wp2
        refine wp_region_ext (by kernel_rfl) (by kernel_rfl) ?_
        repeat (first | go_big_quiet_skip | go_big_quiet_step ((go_at_call 11; first | exact ext_call (len_any (A, B) _ HAB.out) | exact ext_call (len_any (M1, M2) _ HM.out))))
        refine wpQuiet_nil ?_
        intro _ hw'
        obtain ⟨nq, hw''⟩ := hw'
        subst hw''
        go_wp2
        go_roundw
        case rel =>
          have hh := HH.out
          rw [longer, if_pos (by simpa using t1)] at hh
          exact ⟨k + 1, (A, B), by omega, by go_num, hh, HAB.out, (inferInstance : Block _ _ _), inferInstance, SliceOf.setCell (SliceOf.setCell (SliceOf.ext HS.out (by repeat' (first | (with_reducible exact Ext.refl _) | (with_reducible exact ExtOf.ext _) | (with_reducible refine Ext.trans ?_ (ExtOf.ext _)) | (with_reducible refine Ext.alloc ?_ _) | (with_reducible refine Ext.drew ?_) | (with_reducible refine Ext.setCell ?_ ?_ _) | (with_reducible refine Ext.setRow ?_ ?_ _) | (with_reducible exact HX.out) | (with_reducible refine Ext.trans ?_ HX.out) | (with_reducible refine Ext.below ?_ (Nat.le_refl _) _) | (simp; done) | (simp; omega)))) HF.out _) HF.out _, by repeat' (first | (with_reducible exact Ext.refl _) | (with_reducible exact ExtOf.ext _) | (with_reducible refine Ext.trans ?_ (ExtOf.ext _)) | (with_reducible refine Ext.alloc ?_ _) | (with_reducible refine Ext.drew ?_) | (with_reducible refine Ext.setCell ?_ ?_ _) | (with_reducible refine Ext.setRow ?_ ?_ _) | (with_reducible exact HX.out) | (with_reducible refine Ext.trans ?_ HX.out) | (with_reducible refine Ext.below ?_ (Nat.le_refl _) _) | (simp; done) | (simp; omega))⟩
        case measure => simp [intOf]; omega
    · have e : longest l = (M1, M2) := by have := HG.out; rw [List.drop_of_length_le (by omega)] at this; exact this
      have HE := Lib.hid e
      clear e
      have O1 : Old (w.heap.size + 1) wr := hB1.old
      have O0 : Old w.heap.size wr := hB0.old
      go_wp2
      refine region_held (S := fun w' => Block w' (w.heap.size + 1) #[.int .i64 M1, .int .i64 M2]) (by kernel_rfl) ?_
      refine wpAnyH_take (i := 0) (v := .agg #[.int .i64 M1, .int .i64 M2]) rfl (by kernel_rfl) (by kernel_rfl) (by kernel_rfl) (fun _ _ _ h => h) (.inl ⟨rfl, fun w' hb => run_load_op lwSp rfl rfl hb rfl⟩) inferInstance ?_
      refine wpAnyH_take (i := 1) (v := .agg #[.int .i64 M1, .int .i64 M2]) rfl (by kernel_rfl) (by kernel_rfl) (by kernel_rfl) (fun _ _ _ h => h) (.inl ⟨rfl, fun w' hb => run_load_op lwSp rfl rfl hb rfl⟩) inferInstance ?_
      refine wpAnyH_all (rs := [2]) (by kernel_rfl) (by simp) ?_
      intro j hj
      obtain rfl : j = 2 := by simpa using hj
      refine wpOp_call (f := 11) (vals := #[.agg #[.int .i64 M1, .int .i64 M2]]) rfl rfl (by kernel_rfl) ?_
      refine (len_any (M1, M2) _ HM.out).mono ?_
      rintro e w' ⟨rfl, n1, rfl⟩
      refine ⟨_, rfl, inferInstance, ?_⟩
      refine wpAnyH_take (i := 3) (v := .bool (decide (0 < len (M1, M2)))) rfl (by kernel_rfl) (by kernel_rfl) (by kernel_rfl) (fun _ _ _ h => h) (.inl ⟨rfl, fun w' hb => by simp [go_sem]⟩) inferInstance ?_
      refine ah_store (i := 4) (b := w.heap.size) (cs := #[.int .i64 M1, .int .i64 M2]) lwSp rfl (by kernel_rfl) rfl rfl (inferInstance : Block _ _ #[.int .i64 0, .int .i64 0]) rfl rfl (by simp [Value.oneCell']) inferInstance ?_
      refine wpAnyH_take (i := 5) (v := .bool (decide (0 < len (M1, M2)))) rfl (by kernel_rfl) (by kernel_rfl) (by kernel_rfl) (fun _ _ _ h => h) (.inl ⟨rfl, fun w' hb => by simp [go_sem]⟩) inferInstance ?_
      refine wpAnyH_done (by kernel_rfl) ?_ _
      go_wp2
      refine bodyPost_ret (v := .tuple #[.agg #[.int .i64 M1, .int .i64 M2], .bool (decide (0 < len (M1, M2)))]) (by simp [results, Try.results28, go_sem]) rfl ⟨?_, ?_⟩
      · rw [HE.out]
      · exact ExtOf.of (by repeat' (first | (with_reducible exact Ext.refl _) | (with_reducible exact ExtOf.ext _) | (with_reducible refine Ext.trans ?_ (ExtOf.ext _)) | (with_reducible refine Ext.alloc ?_ _) | (with_reducible refine Ext.drew ?_) | (with_reducible refine Ext.setCell ?_ ?_ _) | (with_reducible refine Ext.setRow ?_ ?_ _) | (with_reducible exact HX.out) | (with_reducible refine Ext.trans ?_ HX.out) | (with_reducible refine Ext.below ?_ (Nat.le_refl _) _) | (simp; done) | (simp; omega)))

end Go.Proofs.Ytfbcaafkekcmbaa
