/-
  Chapter 26 (Boards): the reference's merge of two lists of boxes.
-/
import Derived.Test.YtdalbfanfbeckaaGreatDoorR62
set_option linter.unusedVariables false
set_option linter.unusedSimpArgs false
namespace Go.Proofs.YtdalbfanfbeckaaGreatDoor
open Go.RowKit TrimM

attribute [local go_sem] ExtOf.cell ExtOf.frozen ExtS.cell ExtS.frozen Block.cell Block.frozen ExtB.cell ExtB.frozen alloc_cell alloc_frozen
theorem merged_cons (x y : Sp) (a b : List Sp) : TrimM.merged (x :: a) (y :: b) = if x.1 < y.1 then x :: TrimM.merged a (y :: b) else y :: TrimM.merged (x :: a) b := by rw [TrimM.merged]
theorem merged_none (b : List Sp) : TrimM.merged [] b = b := by rw [TrimM.merged]
set_option maxHeartbeats 1600000 in
set_option maxRecDepth 20000 in
theorem rmerged_any (b : Bx) (A B : List Sp) (v1 v2 : Value) (w : World) (h1 : SliceOf encBx 6 w v1 (A.map fun s => b.slab s.1 s.2)) (h2 : SliceOf encBx 6 w v2 (B.map fun s => b.slab s.1 s.2)) (hA : A.length ≤ 100000) (hB : B.length ≤ 100000) :
    Calls Tryz.prog 26 #[v1, v2] w (BoxesPost ((TrimM.merged A B).map fun s => b.slab s.1 s.2) w) := by
  obtain ⟨qa, ca, rfl, a1, a2, a3⟩ := SliceOf.form h1
  obtain ⟨qb, cb, rfl, b1, b2, b3⟩ := SliceOf.form h2
  rw [List.length_map] at h1 h2 a1 b1 ⊢
  have HA := Lib.hid h1
  have HB := Lib.hid h2
  clear h1 h2
  obtain ⟨iB, hiB, hi0, hi1, hi2⟩ := info_parts infoBox
  rw [List.length_map]
  go_enter Tryz.func26, Tryz.ntmps26
  go_wp2_with fail
  go_loopw [5, 6, 7] (fun vo vi vk wr => ∃ (i k : Nat) (r : List Sp), i ≤ A.length ∧ k ≤ B.length ∧ vi = .int .i64 (i : Int) ∧ vk = .int .i64 (k : Int) ∧ r.length = i + k ∧ TrimM.merged A B = r ++ TrimM.merged (A.drop i) (B.drop k) ∧ Own encBx 6 25 w.heap.size wr vo (r.map fun s => b.slab s.1 s.2) ∧ Ext w wr) (fun _ vi vk _ => A.length + B.length - (intOf vi).toNat - (intOf vk).toNat)
  case atStart => exact ⟨0, 0, [], by omega, by omega, rfl, rfl, rfl, rfl, Own.nil _, Ext.refl _⟩
  case round =>
    obtain ⟨i, k, r, hi, hk, rfl, rfl, hr, hm, ho, hx⟩ := hrel
    have HX := Lib.hid hx
    have HM := Lib.hid hm
    have hszr := hx.size
    clear hx hm
    obtain ⟨R, hR⟩ : ∃ R, R = r.map fun s => b.slab s.1 s.2 := ⟨_, rfl⟩
    have hRl : R.length ≤ 200000 := by rw [hR, List.length_map]; omega
    rw [← hR] at ho
    have HO := Lib.hid ho
    have HRR := Lib.hid hR
    clear ho hR
    obtain ⟨q5, c5, rfl⟩ := Own.form2 HO.out
    by_cases hia : i < A.length
    · have ui : decide (i < A.length) = true := decide_eq_true hia
      obtain ⟨g0, f0, rfl, r0⟩ := SliceOf.elemK (SliceOf.ext HA.out HX.out) (by rw [List.length_map]; exact hia)
      obtain ⟨x, hxx⟩ : ∃ z, A[i] = z := ⟨_, rfl⟩
      rw [List.getElem_map, hxx] at r0
      have hda : A.drop i = x :: A.drop (i + 1) := by rw [List.drop_eq_getElem_cons hia, hxx]
      have c0 : wr.cell? ⟨g0, f0 + i * 6 + 4, none⟩ = some (.int .i64 (b.za + x.1)) := r0 4 _ rfl
      have rb0 : wr.rangeAt g0 (f0 + i * 6) [.int .i64 b.xa, .int .i64 b.xb, .int .i64 b.ya, .int .i64 b.yb, .int .i64 (b.za + x.1), .int .i64 (b.za + x.2)] := r0
      have o0 : Old g0 wr := Old.of_cell c0
      clear r0 hxx
      by_cases hkb : k < B.length
      · have uk : decide (B.length ≤ k) = false := decide_eq_false (by omega)
        obtain ⟨g1, f1, rfl, r1⟩ := SliceOf.elemK (SliceOf.ext HB.out HX.out) (by rw [List.length_map]; exact hkb)
        obtain ⟨y, hyy⟩ : ∃ z, B[k] = z := ⟨_, rfl⟩
        rw [List.getElem_map, hyy] at r1
        have hdb : B.drop k = y :: B.drop (k + 1) := by rw [List.drop_eq_getElem_cons hkb, hyy]
        have d0 : wr.cell? ⟨g1, f1 + k * 6 + 4, none⟩ = some (.int .i64 (b.za + y.1)) := r1 4 _ rfl
        have rb1 : wr.rangeAt g1 (f1 + k * 6) [.int .i64 b.xa, .int .i64 b.xb, .int .i64 b.ya, .int .i64 b.yb, .int .i64 (b.za + y.1), .int .i64 (b.za + y.2)] := r1
        have o1 : Old g1 wr := Old.of_cell d0
        clear r1 hyy
        by_cases t : x.1 < y.1
        · have t' : decide (b.za + x.1 < b.za + y.1) = true := decide_eq_true (by omega)
          have HN : Hid (TrimM.merged A B = (r ++ [x]) ++ TrimM.merged (A.drop (i + 1)) (B.drop k)) := Lib.hid (by rw [HM.out, hda, hdb, merged_cons, if_pos t, List.append_assoc]; rfl)
          clear hda hdb HM
          go_wp2_with fail
          refine wp_region_ext (by kernel_rfl) (by kernel_rfl) ?_
          repeat (first | go_big_quiet_skip | go_big_quiet_step (fail))
          refine wpQuiet_nil ?_
          intro _ hw'
          obtain ⟨nq, hw''⟩ := hw'
          subst hw''
          have hnq := nq.size
          go_wp2_with (first | ((with_reducible refine wl_loadM midBox (Ext.range (ExtOf.ext nq) rb0) ?_ ?_ ?_ ?_); (· rfl); (· (first | exact wanted_none rfl | exact wanted_some rfl rfl rfl)); (· rfl)) | (at_builtin; refine wl_append1g (enc := encBx) (k := 6) (E := 25) (base := w.heap.size) (l := R) (y := b.slab x.1 x.2) Tryz.underlying40 hiB hi0 hi1 hi2 rfl (by decide) encBx_len encBx_one rfl rfl (Own.ext (Own.ext HO.out (ExtOf.ext nq)) (Ext.alloc (Ext.refl _) _)) (Block.new _ _ _) rfl (by unfold maxLen; omega) (by omega) (by simp; omega) ?_; intro v7 n7 ho7 hk7))
          have hX9 : Ext w n7.val := Ext.below (HX.out.trans ((ExtOf.ext nq).trans (Ext.alloc (Ext.refl _) _))) (Nat.le_refl _) n7
          go_roundw
          case rel => exact ⟨i + 1, k, r ++ [x], by omega, by omega, by first | rfl | go_num, by first | rfl | go_num, by simp; omega, HN.out, by rw [List.map_append, ← HRR.out]; exact ho7, hX9⟩
          case measure => simp [intOf]; omega
        · have t' : decide (b.za + x.1 < b.za + y.1) = false := decide_eq_false (by omega)
          have HN : Hid (TrimM.merged A B = (r ++ [y]) ++ TrimM.merged (A.drop i) (B.drop (k + 1))) := Lib.hid (by rw [HM.out, hda, hdb, merged_cons, if_neg t, List.append_assoc]; rfl)
          clear hda hdb HM
          go_wp2_with fail
          refine wp_region_ext (by kernel_rfl) (by kernel_rfl) ?_
          repeat (first | go_big_quiet_skip | go_big_quiet_step (fail))
          refine wpQuiet_nil ?_
          intro _ hw'
          obtain ⟨nq, hw''⟩ := hw'
          subst hw''
          have hnq := nq.size
          go_wp2_with (first | ((with_reducible refine wl_loadM midBox (Ext.range (ExtOf.ext nq) rb1) ?_ ?_ ?_ ?_); (· rfl); (· (first | exact wanted_none rfl | exact wanted_some rfl rfl rfl)); (· rfl)) | (at_builtin; refine wl_append1g (enc := encBx) (k := 6) (E := 25) (base := w.heap.size) (l := R) (y := b.slab y.1 y.2) Tryz.underlying40 hiB hi0 hi1 hi2 rfl (by decide) encBx_len encBx_one rfl rfl (Own.ext (Own.ext HO.out (ExtOf.ext nq)) (Ext.alloc (Ext.refl _) _)) (Block.new _ _ _) rfl (by unfold maxLen; omega) (by omega) (by simp; omega) ?_; intro v7 n7 ho7 hk7))
          have hX9 : Ext w n7.val := Ext.below (HX.out.trans ((ExtOf.ext nq).trans (Ext.alloc (Ext.refl _) _))) (Nat.le_refl _) n7
          go_roundw
          case rel => exact ⟨i, k + 1, r ++ [y], by omega, by omega, by first | rfl | go_num, by first | rfl | go_num, by simp; omega, HN.out, by rw [List.map_append, ← HRR.out]; exact ho7, hX9⟩
          case measure => simp [intOf]; omega
      · have uk : decide (B.length ≤ k) = true := decide_eq_true (by omega)
        have hdb : B.drop k = [] := List.drop_of_length_le (by omega)
        have HN : Hid (TrimM.merged A B = (r ++ [x]) ++ TrimM.merged (A.drop (i + 1)) (B.drop k)) := Lib.hid (by rw [HM.out, hda, hdb, merged_nil, merged_nil, List.append_assoc]; rfl)
        clear hda hdb HM
        go_wp2_with fail
        refine wp_region_ext (by kernel_rfl) (by kernel_rfl) ?_
        repeat (first | go_big_quiet_skip | go_big_quiet_step (fail))
        refine wpQuiet_nil ?_
        intro _ hw'
        obtain ⟨nq, hw''⟩ := hw'
        subst hw''
        have hnq := nq.size
        go_wp2_with (first | ((with_reducible refine wl_loadM midBox (Ext.range (ExtOf.ext nq) rb0) ?_ ?_ ?_ ?_); (· rfl); (· (first | exact wanted_none rfl | exact wanted_some rfl rfl rfl)); (· rfl)) | (at_builtin; refine wl_append1g (enc := encBx) (k := 6) (E := 25) (base := w.heap.size) (l := R) (y := b.slab x.1 x.2) Tryz.underlying40 hiB hi0 hi1 hi2 rfl (by decide) encBx_len encBx_one rfl rfl (Own.ext (Own.ext HO.out (ExtOf.ext nq)) (Ext.alloc (Ext.refl _) _)) (Block.new _ _ _) rfl (by unfold maxLen; omega) (by omega) (by simp; omega) ?_; intro v7 n7 ho7 hk7))
        have hX9 : Ext w n7.val := Ext.below (HX.out.trans ((ExtOf.ext nq).trans (Ext.alloc (Ext.refl _) _))) (Nat.le_refl _) n7
        go_roundw
        case rel => exact ⟨i + 1, k, r ++ [x], by omega, by omega, by first | rfl | go_num, by first | rfl | go_num, by simp; omega, HN.out, by rw [List.map_append, ← HRR.out]; exact ho7, hX9⟩
        case measure => simp [intOf]; omega
    · have ui : decide (i < A.length) = false := decide_eq_false hia
      have hda : A.drop i = [] := List.drop_of_length_le (by omega)
      by_cases hkb : k < B.length
      · have uk : decide (B.length ≤ k) = false := decide_eq_false (by omega)
        obtain ⟨g1, f1, rfl, r1⟩ := SliceOf.elemK (SliceOf.ext HB.out HX.out) (by rw [List.length_map]; exact hkb)
        obtain ⟨y, hyy⟩ : ∃ z, B[k] = z := ⟨_, rfl⟩
        rw [List.getElem_map, hyy] at r1
        have hdb : B.drop k = y :: B.drop (k + 1) := by rw [List.drop_eq_getElem_cons hkb, hyy]
        have rb1 : wr.rangeAt g1 (f1 + k * 6) [.int .i64 b.xa, .int .i64 b.xb, .int .i64 b.ya, .int .i64 b.yb, .int .i64 (b.za + y.1), .int .i64 (b.za + y.2)] := r1
        have o1 : Old g1 wr := Old.of_cell (r1 0 _ rfl)
        clear r1 hyy
        have HN : Hid (TrimM.merged A B = (r ++ [y]) ++ TrimM.merged (A.drop i) (B.drop (k + 1))) := Lib.hid (by rw [HM.out, hda, hdb, merged_none, merged_none, List.append_assoc]; rfl)
        clear hda hdb HM
        go_wp2_with fail
        refine wp_region_ext (by kernel_rfl) (by kernel_rfl) ?_
        repeat (first | go_big_quiet_skip | go_big_quiet_step (fail))
        refine wpQuiet_nil ?_
        intro _ hw'
        obtain ⟨nq, hw''⟩ := hw'
        subst hw''
        have hnq := nq.size
        go_wp2_with (first | ((with_reducible refine wl_loadM midBox (Ext.range (ExtOf.ext nq) rb1) ?_ ?_ ?_ ?_); (· rfl); (· (first | exact wanted_none rfl | exact wanted_some rfl rfl rfl)); (· rfl)) | (at_builtin; refine wl_append1g (enc := encBx) (k := 6) (E := 25) (base := w.heap.size) (l := R) (y := b.slab y.1 y.2) Tryz.underlying40 hiB hi0 hi1 hi2 rfl (by decide) encBx_len encBx_one rfl rfl (Own.ext (Own.ext HO.out (ExtOf.ext nq)) (Ext.alloc (Ext.refl _) _)) (Block.new _ _ _) rfl (by unfold maxLen; omega) (by omega) (by simp; omega) ?_; intro v7 n7 ho7 hk7))
        have hX9 : Ext w n7.val := Ext.below (HX.out.trans ((ExtOf.ext nq).trans (Ext.alloc (Ext.refl _) _))) (Nat.le_refl _) n7
        go_roundw
        case rel => exact ⟨i, k + 1, r ++ [y], by omega, by omega, by first | rfl | go_num, by first | rfl | go_num, by simp; omega, HN.out, by rw [List.map_append, ← HRR.out]; exact ho7, hX9⟩
        case measure => simp [intOf]; omega
      · have hdb : B.drop k = [] := List.drop_of_length_le (by omega)
        have HFI : Hid (TrimM.merged A B = r) := Lib.hid (by rw [HM.out, hda, hdb, merged_none, List.append_nil])
        clear hda hdb HM
        go_wp2_with fail
        go_ret
        exact ⟨.slice q5 R.length c5, rfl, by rw [HFI.out, ← HRR.out]; exact HO.out, by exact ExtOf.of (by repeat' (first | (with_reducible exact Ext.refl _) | (with_reducible exact ExtOf.ext _) | (with_reducible refine Ext.trans ?_ (ExtOf.ext _)) | (with_reducible refine Ext.alloc ?_ _) | (with_reducible refine Ext.drew ?_) | (with_reducible refine Ext.setCell ?_ ?_ _) | (with_reducible refine Ext.setRow ?_ ?_ _) | (with_reducible exact HX.out) | (with_reducible refine Ext.trans ?_ HX.out) | (with_reducible refine Ext.below ?_ (Nat.le_refl _) _) | omega | (simp; done) | (simp; omega)))⟩
end Go.Proofs.YtdalbfanfbeckaaGreatDoor
