/-
  The contract of the reference's insert.
-/
import Derived.Test.YtfbcaafkekcmbaaG1
import Derived.Test.YtfbcaafkekcmbaaW4
namespace Go.Proofs.Ytfbcaafkekcmbaa
open Go.RowKit SpanM

attribute [local go_sem] ExtOf.cell ExtOf.frozen Block.cell Block.frozen ExtB.cell ExtB.frozen alloc_cell alloc_frozen

theorem ins_drop {l : List Sp} {A B : Int} {k : Nat} {x z : List Sp × Sp × List Sp} (h : z = (l.drop k).foldl insStep x) (hd : l.drop k = (A, B) :: l.drop (k + 1)) : z = (l.drop (k + 1)).foldl insStep (insStep x (A, B)) := by
  rw [hd, List.foldl_cons] at h; exact h
theorem Own.setCell {E base g i : Nat} {w : World} {v : Value} {r : List Sp} (h : Own encS 2 E base w v r) (hne : v.ownBlock ≠ some g) (x : Value) : Own encS 2 E base (w.setCell ⟨g, i, none⟩ x) v r := by
  refine ⟨h.1, ?_⟩
  rcases h.2 with hn | ⟨g', cap, cur, rfl, hb, hgg, rest⟩
  · exact .inl hn
  · refine .inr ⟨g', cap, cur, rfl, hb, ?_, rest⟩
    have hgne : g' ≠ g := fun e => hne (by rw [e]; rfl)
    rw [← hgg]
    unfold World.setCell
    split
    · simp_all
    · simp only [Array.getElem?_modify, if_neg (Ne.symm hgne)]

set_option maxRecDepth 20000 in
set_option maxHeartbeats 1600000 in
theorem insert_any (p : Option Addr) (cap : Nat) (l : List Sp) (s : Sp) (w : World) (hl : SpS w (.slice p l.length cap) l) (hlen : l.length ≤ 1099511627776) :
    Calls Try.prog 41 #[.slice p l.length cap, .agg #[.int .i64 s.1, .int .i64 s.2]] w (RetS w (SpanM.ins l s)) := by
  obtain ⟨i0, hi, hz0, hz1, hz2⟩ := info_parts infoS
  have HL := Lib.hid hl
  clear hl
  go_enter Try.func41, Try.ntmps41
  go_wp2
  go_loopw [5, 6, 7] (fun v5 v6 v wr => ∃ (k : Nat) (s' : Sp) (b a : List Sp), k ≤ l.length ∧ b.length + a.length ≤ k ∧ v = .int .i64 k ∧ insAll l s = (l.drop k).foldl insStep (b, s', a) ∧ Own encS 2 23 w.heap.size wr v5 b ∧ Own encS 2 23 w.heap.size wr v6 a ∧ Apt v5 v6 ∧ v5.ownBlock ≠ some w.heap.size ∧ v6.ownBlock ≠ some w.heap.size ∧ Block wr w.heap.size #[.int .i64 s'.1, .int .i64 s'.2] ∧ Ext w wr) (fun _ _ v _ => l.length - (intOf v).toNat)
  case atStart => exact ⟨0, s, [], [], by omega, by simp, rfl, rfl, Own.nil _, Own.nil _, Apt.nil _, (fun h => by cases h), (fun h => by cases h), inferInstance, by repeat' (first | (with_reducible exact Ext.refl _) | (with_reducible exact ExtOf.ext _) | (with_reducible refine Ext.trans ?_ (ExtOf.ext _)) | (with_reducible refine Ext.alloc ?_ _) | (with_reducible refine Ext.drew ?_) | (with_reducible refine Ext.setCell ?_ ?_ _) | (with_reducible refine Ext.setRow ?_ ?_ _) | (with_reducible exact HX.out) | (with_reducible refine Ext.trans ?_ HX.out) | (with_reducible refine Ext.below ?_ (Nat.le_refl _) _) | (simp; done) | (simp; omega))⟩
  case round =>
    obtain ⟨k, ⟨S1, S2⟩, bf, af, hk, hr, rfl, hf, ho1, ho2, hap, hn1, hn2, hB, hx⟩ := hrel
    simp only at hB
    have hsz := hx.size
    have hlt0 := hB.lt
    have HX := Lib.hid hx
    have HF := Lib.hid hf
    have HO1 := Lib.hid ho1
    have HO2 := Lib.hid ho2
    have HAP := Lib.hid hap
    have HN1 := Lib.hid hn1
    have HN2 := Lib.hid hn2
    have og := hB.old
    clear hx hf ho1 ho2 hap hn1 hn2
    by_cases hlt : k < l.length
    · obtain ⟨A, B, b, off, hd, hm, rfl, hold, c0, c1⟩ := SpS.elem (SliceOf.ext HL.out HX.out) hlt
      have HD := Lib.hid (ins_drop HF.out hd)
      clear hd hm
      have mn : (if A < S1 then A else S1) = min S1 A := by split <;> omega
      have mx : (if S2 < B then B else S2) = max S2 B := by split <;> omega
      rcases t1 : decide (B < S1) with _ | _
      · rcases t2 : decide (S2 < A) with _ | _
        · go_wp2
          refine wp_region_ext (by kernel_rfl) (by kernel_rfl) ?_
          repeat (first | go_big_quiet_skip | go_big_quiet_step (fail))
          refine wpQuiet_nil ?_
          intro _ hw'
          obtain ⟨nq, hw''⟩ := hw'
          subst hw''
          go_wp2
          refine wp_region_ext (by kernel_rfl) (by kernel_rfl) ?_
          repeat (first | go_big_quiet_skip | go_big_quiet_step (fail))
          refine wpQuiet_nil ?_
          intro _ hw'
          obtain ⟨nq2, hw''⟩ := hw'
          subst hw''
          go_wp2
          refine wp_region_still_tail 17 (by kernel_rfl) (by kernel_rfl) ?_
          simp only [List.take_succ_cons, List.take_zero, List.drop_succ_cons, List.drop_zero]
          change wpStill _ _ (World.drew _) _ _ _
          repeat still_step
          refine wpStill_nil ?_
          change wpList _ _ _ _ _ (World.drew _)
          go_wp2
          go_roundw
          case rel => 
            have hD := HD.out
            rw [insStep, if_neg (by simpa using t1), if_neg (by simpa using t2)] at hD
            exact ⟨k + 1, (min S1 A, max S2 B), _, _, by omega, Nat.le_trans hr (Nat.le_succ k), by go_num, hD, Own.setCell (Own.setCell (Own.of_ext (Own.of_ext HO1.out nq) nq2).drew HN1.out _) HN1.out _, Own.setCell (Own.setCell (Own.of_ext (Own.of_ext HO2.out nq) nq2).drew HN2.out _) HN2.out _, HAP.out, HN1.out, HN2.out, (inferInstance : Block _ _ _), by repeat' (first | (with_reducible exact Ext.refl _) | (with_reducible exact ExtOf.ext _) | (with_reducible refine Ext.trans ?_ (ExtOf.ext _)) | (with_reducible refine Ext.alloc ?_ _) | (with_reducible refine Ext.drew ?_) | (with_reducible refine Ext.setCell ?_ ?_ _) | (with_reducible refine Ext.setRow ?_ ?_ _) | (with_reducible exact HX.out) | (with_reducible refine Ext.trans ?_ HX.out) | (with_reducible refine Ext.below ?_ (Nat.le_refl _) _) | (simp; done) | (simp; omega))⟩
          case measure => simp [intOf]; omega
        · go_wp2
          refine wp_region_ext (by kernel_rfl) (by kernel_rfl) ?_
          repeat (first | go_big_quiet_skip | go_big_quiet_step (fail))
          refine wpQuiet_nil ?_
          intro _ hw'
          obtain ⟨nq, hw''⟩ := hw'
          subst hw''
          have hq : wr.heap.size ≤ nq.val.heap.size := nq.size
          go_wp2
          refine wp_region_ext (by kernel_rfl) (by kernel_rfl) ?_
          repeat (first | go_big_quiet_skip | go_big_quiet_step (fail))
          refine wpQuiet_nil ?_
          intro _ hw'
          obtain ⟨nq2, hw''⟩ := hw'
          subst hw''
          have hq2 : nq.val.heap.size ≤ nq2.val.heap.size := nq2.size
          go_wp2_with (at_builtin; refine wl_append1g (enc := encS) (k := 2) (E := 23) (base := w.heap.size) (l := af) (y := (A, B)) Try.underlying28 hi hz0 hz1 hz2 rfl (by decide) encS_len encS_one rfl rfl ((Own.of_ext (Own.of_ext HO2.out nq) nq2).alloc _) inferInstance rfl (by unfold maxLen; omega) (by omega) (by first | omega | (simp; omega)) ?_; intro v' nb hown' hkeep)
          go_roundw
          case rel => 
            have hD := HD.out
            rw [insStep, if_neg (by simpa using t1), if_pos (by simpa using t2)] at hD
            exact ⟨k + 1, (S1, S2), _, _, by omega, by simp; omega, by go_num, hD, hkeep.other ((Own.of_ext (Own.of_ext HO1.out nq) nq2).alloc _) HAP.out.symm, hown', (hkeep.apt ((Own.of_ext (Own.of_ext HO1.out nq) nq2).alloc _) HAP.out.symm).symm, HN1.out, hkeep.ne (by simp; omega) HN2.out, hkeep.block inferInstance HN2.out, by repeat' (first | (with_reducible exact Ext.refl _) | (with_reducible exact ExtOf.ext _) | (with_reducible refine Ext.trans ?_ (ExtOf.ext _)) | (with_reducible refine Ext.alloc ?_ _) | (with_reducible refine Ext.drew ?_) | (with_reducible refine Ext.setCell ?_ ?_ _) | (with_reducible refine Ext.setRow ?_ ?_ _) | (with_reducible exact HX.out) | (with_reducible refine Ext.trans ?_ HX.out) | (with_reducible refine Ext.below ?_ (Nat.le_refl _) _) | (simp; done) | (simp; omega))⟩
          case measure => simp [intOf]; omega
      · go_wp2
        refine wp_region_ext (by kernel_rfl) (by kernel_rfl) ?_
        repeat (first | go_big_quiet_skip | go_big_quiet_step (fail))
        refine wpQuiet_nil ?_
        intro _ hw'
        obtain ⟨nq, hw''⟩ := hw'
        subst hw''
        have hq : wr.heap.size ≤ nq.val.heap.size := nq.size
        go_wp2_with (at_builtin; refine wl_append1g (enc := encS) (k := 2) (E := 23) (base := w.heap.size) (l := bf) (y := (A, B)) Try.underlying28 hi hz0 hz1 hz2 rfl (by decide) encS_len encS_one rfl rfl ((Own.of_ext HO1.out nq).alloc _) inferInstance rfl (by unfold maxLen; omega) (by omega) (by first | omega | (simp; omega)) ?_; intro v' nb hown' hkeep)
        go_roundw
        case rel => 
          have hD := HD.out
          rw [insStep, if_pos (by simpa using t1)] at hD
          exact ⟨k + 1, (S1, S2), _, _, by omega, by simp; omega, by go_num, hD, hown', hkeep.other ((Own.of_ext HO2.out nq).alloc _) HAP.out, hkeep.apt ((Own.of_ext HO2.out nq).alloc _) HAP.out, hkeep.ne (by simp; omega) HN1.out, HN2.out, hkeep.block inferInstance HN1.out, by repeat' (first | (with_reducible exact Ext.refl _) | (with_reducible exact ExtOf.ext _) | (with_reducible refine Ext.trans ?_ (ExtOf.ext _)) | (with_reducible refine Ext.alloc ?_ _) | (with_reducible refine Ext.drew ?_) | (with_reducible refine Ext.setCell ?_ ?_ _) | (with_reducible refine Ext.setRow ?_ ?_ _) | (with_reducible exact HX.out) | (with_reducible refine Ext.trans ?_ HX.out) | (with_reducible refine Ext.below ?_ (Nat.le_refl _) _) | (simp; done) | (simp; omega))⟩
        case measure => simp [intOf]; omega
    · have e : insAll l s = (bf, (S1, S2), af) := by have := HF.out; rw [List.drop_of_length_le (by omega)] at this; exact this
      have HE : Hid (SpanM.ins l s = bf ++ [(S1, S2)] ++ af) := Lib.hid (by unfold SpanM.ins; rw [e])
      clear e
      obtain ⟨q6, c6, rfl⟩ := Own.form HO2.out
      have hbl : (bf ++ [(S1, S2)]).length = bf.length + 1 := by simp
      go_wp2_with (first | ((at_builtin; refine wl_append1g (enc := encS) (k := 2) (E := 23) (base := w.heap.size) (l := bf) (y := (S1, S2)) Try.underlying28 hi hz0 hz1 hz2 rfl (by decide) encS_len encS_one rfl rfl (HO1.out.alloc _) inferInstance rfl (by unfold maxLen; omega) (by omega) (by first | omega | (simp; omega)) ?_; intro v' nb hown' hkeep); have HK := Lib.hid (Own.slice encS_len (hkeep.other (HO2.out.alloc _) HAP.out)); have hsn : wr.heap.size + 1 ≤ nb.val.heap.size := (by have := hkeep.size; simpa using this); have HOW := Lib.hid hown'; have HXN : Hid (Ext w nb.val) := Lib.hid (by repeat' (first | (with_reducible exact Ext.refl _) | (with_reducible exact ExtOf.ext _) | (with_reducible refine Ext.trans ?_ (ExtOf.ext _)) | (with_reducible refine Ext.alloc ?_ _) | (with_reducible refine Ext.drew ?_) | (with_reducible refine Ext.setCell ?_ ?_ _) | (with_reducible refine Ext.setRow ?_ ?_ _) | (with_reducible exact HX.out) | (with_reducible refine Ext.trans ?_ HX.out) | (with_reducible refine Ext.below ?_ (Nat.le_refl _) _) | (simp; done) | (simp; omega))); clear hkeep hown') | (at_builtin; refine wl_appendS (enc := encS) (k := 2) (E := 23) (base := w.heap.size) (l := (bf ++ [(S1, S2)])) (m := af) Try.underlying28 hi hz0 hz1 hz2 rfl (by decide) encS_len encS_one rfl rfl HOW.out HK.out (by unfold maxLen; first | omega | (simp; omega)) (by first | omega | (simp; omega)) (by first | omega | (simp; omega)) ?_; intro v' nb hown'))
      obtain ⟨q7, c7, rfl⟩ := Own.form hown'
      go_ret
      rw [HE.out]
      exact ⟨_, _, rfl, Own.slice encS_len hown', fun a ha => Own.fresh hown' a ha, ExtOf.of (Ext.below HXN.out (Nat.le_refl _) _)⟩

end Go.Proofs.Ytfbcaafkekcmbaa
