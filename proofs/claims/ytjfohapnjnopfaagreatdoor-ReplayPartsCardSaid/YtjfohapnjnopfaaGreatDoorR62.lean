/-
  Chapter 61: the law of parts.
-/
import Derived.Test.YtjfohapnjnopfaaGreatDoorK60
import Derived.Test.YtjfohapnjnopfaaGreatDoorK43
set_option linter.unusedVariables false
set_option linter.unusedSimpArgs false
namespace Go.Proofs.YtjfohapnjnopfaaGreatDoor
open Go.RowKit Go.WideShapes RepM

attribute [local go_sem] ExtOf.cell ExtOf.frozen ExtS.cell ExtS.frozen Block.cell Block.frozen ExtB.cell ExtB.frozen alloc_cell alloc_frozen
theorem pairsIn_len (S : Int → Prop) (n : List Int) : (pairsIn S n).length ≤ n.length := by
  unfold pairsIn
  rw [flat2_len]
  have h1 := pairs_len n
  have h2 : ((pairs n).filter fun q => @decide (S q.2) (Classical.propDecidable _)).length ≤ (pairs n).length := List.length_filter_le _ _
  omega
theorem histF_len (l : List Ev) (S : Int → Prop) (B : Nat) : ∀ (m : List Ev) (i : Nat) (bg : Bool), (∀ e ∈ m, e.n.length ≤ B) → ∀ e ∈ histF num l S i bg m, e.n.length ≤ B
  | [], _, _, _, e, he => by simp [histF] at he
  | x :: m, i, bg, h, e, he => by
    have hx := h x (by simp)
    have hm : ∀ e ∈ m, e.n.length ≤ B := fun e he => h e (by simp [he])
    unfold histF at he
    split at he
    · rcases List.mem_append.1 he with he | he
      · split at he
        · rw [List.mem_singleton] at he
          subst he
          exact Nat.le_trans (pairsIn_len S x.n) hx
        · cases he
      · exact histF_len l S B m _ _ hm e he
    · rcases List.mem_append.1 he with he | he
      · split at he
        · rw [List.mem_singleton] at he
          subst he
          exact hx
        · cases he
      · exact histF_len l S B m _ _ hm e he
theorem histOf_n (l : List Ev) (s : ByteArray) : ∀ e ∈ histOf l s, e.n.length ≤ 600 := by
  intro e he
  unfold histOf at he
  split at he
  · exact histF_len _ _ 600 _ _ _ (fun x hx => by
      have := (List.mem_filter.1 hx).2
      exact ok_len this) e he
  · cases he
set_option maxHeartbeats 3200000 in
set_option maxRecDepth 20000 in
theorem parts_walk (l : List EvP) (v : Value) (s : ByteArray) (w : World) (h : EvsS w v l) (ht : Tab w) : Calls Tryz.prog 5 #[v, .string s] w fun e w' => e = .returned (.bool true) ∧ ∃ n : ExtOf w, w' = n.val := by
  obtain ⟨p, cap, rfl, hc1, hc2, hc3⟩ := EvsS.form h
  unfold maxLen at hc2
  have H := Lib.hid h
  have HT := Lib.hid ht
  clear h ht
  obtain ⟨S0, hS0⟩ : ∃ S, S = cB (storyL (histOf (evs l) s)) := ⟨_, rfl⟩
  obtain ⟨E, hE⟩ : ∃ E, E = errOf (evs l) s := ⟨_, rfl⟩
  have HA := Lib.hid (fun W (hx : Ext w W) (hl : l.length ≤ 1000) => pstory_any l _ s W (H.out.ext hx) hl (HT.out.ext hx))
  have HH := Lib.hid (fun W (hx : Ext w W) (hl : l.length ≤ 1000) => phistory_any l _ s W (H.out.ext hx) hl (HT.out.ext hx))
  unfold storyV at HA
  unfold HisR at HH
  rw [← hS0, ← hE] at HA
  rw [← hE] at HH
  have q3 : (E != E) = false := bne_eq_false_iff_eq.2 rfl
  have HS0 := Lib.hid hS0
  clear hS0 hE
  go_enter Tryz.func5, Tryz.ntmps5
  go_upto_region 7 with (first | (go_at_call 6; refine (lshort_any l _ s _ H.out).mono ?_; rintro en w' ⟨c, rfl, hc, n1, rfl⟩; (have HC := Lib.hid hc); clear hc; cases c) | (go_at_call 7; refine (awake_any _ (HT.out.ext (by repeat' (first | (with_reducible exact Ext.refl _) | (with_reducible exact ExtOf.ext _) | (with_reducible refine Ext.trans ?_ (ExtOf.ext _)) | (with_reducible refine Ext.alloc ?_ _) | (with_reducible refine Ext.drew ?_) | (with_reducible refine Ext.setCell ?_ ?_ _) | (with_reducible refine Ext.setRow ?_ ?_ _) | (with_reducible exact HX.out) | (with_reducible refine Ext.trans ?_ HX.out) | (with_reducible refine Ext.below ?_ (Nat.le_refl _) _) | omega | (simp; done) | (simp; omega))))).mono ?_; rintro en w' ⟨rfl, n2, rfl⟩) | (go_at_call 8; (with_reducible refine Calls.mono (HH.out _ (by repeat' (first | (with_reducible exact Ext.refl _) | (with_reducible exact ExtOf.ext _) | (with_reducible refine Ext.trans ?_ (ExtOf.ext _)) | (with_reducible refine Ext.alloc ?_ _) | (with_reducible refine Ext.drew ?_) | (with_reducible refine Ext.setCell ?_ ?_ _) | (with_reducible refine Ext.setRow ?_ ?_ _) | (with_reducible exact HX.out) | (with_reducible refine Ext.trans ?_ HX.out) | (with_reducible refine Ext.below ?_ (Nat.le_refl _) _) | omega | (simp; done) | (simp; omega))) (Nat.le_trans (HC.out (by first | rfl | trivial)).1 (by decide))) ?_); rintro en w' ⟨hv, hs, rfl, hes, heq, n3, rfl⟩; (have HES := Lib.hid hes); (have HEQ := Lib.hid heq); (obtain ⟨hq, hcp, rfl, hd1, hd2, hd3⟩ := EvsS.form hes); clear hes heq) | (go_at_call 11; (with_reducible refine Calls.mono (HA.out _ (by repeat' (first | (with_reducible exact Ext.refl _) | (with_reducible exact ExtOf.ext _) | (with_reducible refine Ext.trans ?_ (ExtOf.ext _)) | (with_reducible refine Ext.alloc ?_ _) | (with_reducible refine Ext.drew ?_) | (with_reducible refine Ext.setCell ?_ ?_ _) | (with_reducible refine Ext.setRow ?_ ?_ _) | (with_reducible exact HX.out) | (with_reducible refine Ext.trans ?_ HX.out) | (with_reducible refine Ext.below ?_ (Nat.le_refl _) _) | omega | (simp; done) | (simp; omega))) (Nat.le_trans (HC.out (by first | rfl | trivial)).1 (by decide))) ?_); rintro en w' ⟨rfl, n4, rfl⟩))
  · go_ret
    exact ⟨rfl, by exact ExtOf.of (by repeat' (first | (with_reducible exact Ext.refl _) | (with_reducible exact ExtOf.ext _) | (with_reducible refine Ext.trans ?_ (ExtOf.ext _)) | (with_reducible refine Ext.alloc ?_ _) | (with_reducible refine Ext.drew ?_) | (with_reducible refine Ext.setCell ?_ ?_ _) | (with_reducible refine Ext.setRow ?_ ?_ _) | (with_reducible exact HX.out) | (with_reducible refine Ext.trans ?_ HX.out) | (with_reducible refine Ext.below ?_ (Nat.le_refl _) _) | omega | (simp; done) | (simp; omega)))⟩
  unfold maxLen at hd2
  obtain ⟨h40, h200⟩ := HC.out (by first | rfl | trivial)
  have H200 := Lib.hid h200
  have hle : (evs l).length = l.length := by simp
  have hlh : (evs hs).length = hs.length := by simp
  have hhl : hs.length ≤ 40 := by
    have := histOf_len (evs l) s
    rw [← HEQ.out] at this
    omega
  have HX4 : Hid (Ext w n4.val) := Lib.hid (by repeat' (first | (with_reducible exact Ext.refl _) | (with_reducible exact ExtOf.ext _) | (with_reducible refine Ext.trans ?_ (ExtOf.ext _)) | (with_reducible refine Ext.alloc ?_ _) | (with_reducible refine Ext.drew ?_) | (with_reducible refine Ext.setCell ?_ ?_ _) | (with_reducible refine Ext.setRow ?_ ?_ _) | (with_reducible exact HX.out) | (with_reducible refine Ext.trans ?_ HX.out) | (with_reducible refine Ext.below ?_ (Nat.le_refl _) _) | omega | (simp; done) | (simp; omega)))
  have HEV := Lib.hid (HES.out.ext n4.ext)
  have HG0 : Hid (greedB (evs hs) (evs l) = true) := Lib.hid (by rw [HEQ.out]; exact histOf_greed _ _)
  have HN6 : Hid (∀ x ∈ hs, x.1.n.length ≤ 600) := Lib.hid (fun x hx => histOf_n (evs l) s x.1 (by rw [← HEQ.out]; exact List.mem_map.2 ⟨x, hx, rfl⟩))
  generalize n4.val = W4 at *
  clear h200 HC HES
  go_wp2_with fail
  go_loopw [9, 10, 11] (fun vk vs vi wr => ∃ (k i : Nat) (S : ByteArray), k ≤ hs.length ∧ i ≤ l.length ∧ vk = .int .i64 k ∧ vs = .string S ∧ vi = .int .i64 i ∧ S.data.toList = storyL ((evs hs).take k) ∧ greedB ((evs hs).drop k) ((evs l).drop i) = true ∧ Ext W4 wr) (fun _ _ i _ => l.length - (intOf i).toNat)
  case atStart => exact ⟨0, 0, _, by omega, by omega, rfl, rfl, rfl, by simp [storyL], by rw [List.drop_zero, List.drop_zero]; exact HG0.out, Ext.refl _⟩
  case round =>
    obtain ⟨k, i, S, hk, hi, rfl, rfl, rfl, hS, hg, hx⟩ := hrel
    have HS := Lib.hid hS
    have HG := Lib.hid hg
    have HX := Lib.hid (HX4.out.trans hx)
    have HXS := Lib.hid hx
    have zS : S.size ≤ 10000000 := by
      have h1 := ba_size S
      have h2 := story_le ((evs hs).take k)
      have htk : ((evs hs).take k).length ≤ 1000 := by rw [List.length_take]; omega
      rw [hS] at h1
      omega
    clear hS hg hx
    by_cases hgo : i < l.length ∧ k < hs.length
    · obtain ⟨hil, hkh⟩ := hgo
      have d1 : decide ((i : Int) < l.length) = true := decide_eq_true (by omega)
      have d2 : decide ((k : Int) < hs.length) = true := decide_eq_true (by omega)
      have HGD := Lib.hid (greedB_drop (h := evs hs) (l := evs l) (k := k) (i := i) (by omega) (by omega))
      have HST := Lib.hid (storyL_take (l := evs hs) (k := k) (by omega))
      rw [evs_get (by omega), evs_get (by omega)] at HGD
      rw [evs_get (by omega)] at HST
      obtain ⟨ba, oa, rfl, hra, hia⟩ := EvsS.elem (EvsS.ext HEV.out HXS.out) hkh
      obtain ⟨bb, ob, rfl, hrb, hib⟩ := EvsS.elem (EvsS.ext H.out HX.out) hil
      have ha6 := HN6.out _ (List.getElem_mem hkh)
      have hb2 := H200.out _ (List.getElem_mem hil)
      obtain ⟨⟨x, sx⟩, hex⟩ : ∃ z, z = hs[k] := ⟨_, rfl⟩
      obtain ⟨⟨y, sy⟩, hey⟩ : ∃ z, z = l[i] := ⟨_, rfl⟩
      rw [← hex] at hra hia HGD HST ha6
      rw [← hey] at hrb hib HGD hb2
      simp only at hia hib HGD HST ha6 hb2
      have RA : Hid (wr.rangeAt ba (oa + k * 6) [.int .i64 x.kind, .int .i64 x.at_, .string x.item, .string x.of, sx.v, .string x.text]) := Lib.hid hra
      have RB : Hid (wr.rangeAt bb (ob + i * 6) [.int .i64 y.kind, .int .i64 y.at_, .string y.item, .string y.of, sy.v, .string y.text]) := Lib.hid hrb
      have HM := Lib.hid (fun W (h : Ext wr W) => matches_any x y sx.v sy.v W (hia.ext h) (hib.ext h) (by omega) (by omega))
      have HPL := Lib.hid (fun W (h : Ext wr W) => pline_any x sx.v W (hia.ext h) (HT.out.ext (HX.out.trans h)))
      unfold evC at HM HPL
      clear hra hrb hia hib hex hey
      obtain ⟨sb, hsb⟩ : ∃ sb, sb = matchE x y := ⟨_, rfl⟩
      rw [← hsb] at HGD HM
      obtain ⟨LS, hLS⟩ : ∃ LS, LS = cB (lineL x) := ⟨_, rfl⟩
      have hls : LS.size ≤ 10000 := by rw [hLS, cB_size]; exact line_le x
      have HLD : Hid (LS.data.toList = lineL x) := Lib.hid (by rw [hLS, cB_data])
      rw [← hLS] at HPL
      rw [← HLD.out] at HST
      clear hsb hLS
      obtain ⟨p1, m1, c1⟩ := sx
      obtain ⟨p2, m2, c2⟩ := sy
      simp only [SlT.v] at *
      go_wp2_with fail
      refine wp_region_ext (by kernel_rfl) (by kernel_rfl) ?_
      repeat (first | go_big_quiet_skip | ((with_reducible apply q_loadM midEv RA.out); (· rfl); (· (first | exact wanted_none rfl | exact wanted_some rfl rfl rfl)); (· rfl); simp only [Act.put, List.setIfInBounds_toArray, List.set_cons_succ, List.set_cons_zero]) | ((with_reducible apply q_loadM midEv RB.out); (· rfl); (· (first | exact wanted_none rfl | exact wanted_some rfl rfl rfl)); (· rfl); simp only [Act.put, List.setIfInBounds_toArray, List.set_cons_succ, List.set_cons_zero]) | go_big_quiet_step ((go_at_call 15; exact ext_call (HM.out _ (ExtOf.ext _)))))
      refine wpQuiet_nil ?_
      intro _ hw'
      obtain ⟨nq, hw''⟩ := hw'
      subst hw''
      have hxq := nq.ext
      have RQ : Hid (nq.val.rangeAt ba (oa + k * 6) [.int .i64 x.kind, .int .i64 x.at_, .string x.item, .string x.of, .slice p1 m1 c1, .string x.text]) := Lib.hid (Ext.range hxq RA.out)
      have HXQ := Lib.hid hxq
      cases sb
      · rw [if_neg (by decide)] at HGD
        go_wp2_with fail
        go_roundw
        case rel => exact ⟨k, i + 1, S, by omega, by omega, by first | rfl | go_num, rfl, by first | rfl | go_num, HS.out, by rw [← HGD.out]; exact HG.out, HXS.out.trans HXQ.out⟩
        case measure => simp [intOf]; omega
      · rw [if_pos rfl] at HGD
        go_wp2_with (first | ((with_reducible refine wl_loadM midEv (Ext.range ?_ (Hid.out RQ)) ?_ ?_ ?_ ?_); (· repeat' (first | (with_reducible exact Ext.refl _) | (with_reducible exact ExtOf.ext _) | (with_reducible refine Ext.trans ?_ (ExtOf.ext _)) | (with_reducible refine Ext.alloc ?_ _) | (with_reducible refine Ext.drew ?_) | (with_reducible refine Ext.setCell ?_ ?_ _) | (with_reducible refine Ext.setRow ?_ ?_ _) | (with_reducible exact HX.out) | (with_reducible refine Ext.trans ?_ HX.out) | (with_reducible refine Ext.below ?_ (Nat.le_refl _) _) | omega | (simp; done) | (simp; omega))); (· rfl); (· (first | exact wanted_none rfl | exact wanted_some rfl rfl rfl)); (· rfl)) | (go_at_call 16; with_reducible refine Calls.mono (HPL.out _ HXQ.out) ?_; rintro en w' ⟨rfl, n7, rfl⟩))
        go_roundw
        case rel => exact ⟨k + 1, i + 1, _, by omega, by omega, by first | rfl | go_num, rfl, by first | rfl | go_num, by rw [ba_append, HS.out, HST.out], by rw [← HGD.out]; exact HG.out, HXS.out.trans (HXQ.out.trans n7.ext)⟩
        case measure => simp [intOf]; omega
    · have hkk : k = hs.length := by
        by_cases hil : i < l.length
        · omega
        · have := greedB_end (by omega) HG.out
          omega
      have HF : Hid (S = S0) := Lib.hid (by
        rw [HS0.out]
        refine Go.WideShapes.bytes_inj ?_
        have := HS.out
        rw [hkk, List.take_of_length_le (by omega)] at this
        rw [this, cB_data, HEQ.out])
      have q5 := str_eq (m := S0) (n := S) HF.out.symm
      have q6 : ((k : Int) == hs.length) = true := beq_iff_eq.2 (by omega)
      have d2 : decide ((k : Int) < hs.length) = false := decide_eq_false (by omega)
      have d2' : decide (k < hs.length) = false := decide_eq_false (by omega)
      have HKK := Lib.hid hkk
      clear hgo hkk
      by_cases hil : i < l.length
      · have d1 : decide ((i : Int) < l.length) = true := decide_eq_true (by omega)
        go_wp2_with (go_at_call 7; refine (awake_any _ (HT.out.ext HX.out)).mono ?_; rintro en w' ⟨rfl, n9, rfl⟩)
        go_ret
        exact ⟨rfl, ExtOf.of (HX.out.trans n9.ext)⟩
      · have d1 : decide ((i : Int) < l.length) = false := decide_eq_false (by omega)
        go_wp2_with (go_at_call 7; refine (awake_any _ (HT.out.ext HX.out)).mono ?_; rintro en w' ⟨rfl, n9, rfl⟩)
        go_ret
        exact ⟨rfl, ExtOf.of (HX.out.trans n9.ext)⟩
end Go.Proofs.YtjfohapnjnopfaaGreatDoor
