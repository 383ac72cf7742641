/-
  The contract of the reference's Common.
-/
import Derived.Test.YtfbcaafkekcmbaaR2
namespace Go.Proofs.Ytfbcaafkekcmbaa
open Go.RowKit SpanM

attribute [local go_sem] ExtOf.cell ExtOf.frozen Block.cell Block.frozen ExtB.cell ExtB.frozen alloc_cell alloc_frozen

def rcIn (s : Sp) (y : List Sp) : List Sp := y.flatMap fun t => opt (meet s t)
def rc (x y : List Sp) : List Sp := x.flatMap fun s => rcIn s y
theorem rc_out {x y r z : List Sp} {A B : Int} {i : Nat} (h : z = r ++ rc (x.drop i) y) (hd : x.drop i = (A, B) :: x.drop (i + 1)) : z = r ++ rcIn (A, B) y ++ rc (x.drop (i + 1)) y := by
  rw [h, hd, rc, List.flatMap_cons, List.append_assoc]; rfl
theorem rcIn_step {y r2 z u : List Sp} {s : Sp} {C D : Int} {k : Nat} (h : z = r2 ++ rcIn s (y.drop k) ++ u) (hd : y.drop k = (C, D) :: y.drop (k + 1)) : z = (r2 ++ opt (meet s (C, D))) ++ rcIn s (y.drop (k + 1)) ++ u := by
  rw [h, hd, rcIn, List.flatMap_cons, ← List.append_assoc]; rfl
set_option maxRecDepth 20000 in
set_option maxHeartbeats 1600000 in
theorem rcommon_any (p p' : Option Addr) (cap cap' : Nat) (a b : List Sp) (w : World) (ha : SpS w (.slice p a.length cap) a) (hb : SpS w (.slice p' b.length cap') b) (hla : a.length ≤ 1024) (hlb : b.length ≤ 1024) :
    Calls Try.prog 25 #[.slice p a.length cap, .slice p' b.length cap'] w (RetS w (SpanM.common a b)) := by
  obtain ⟨i0, hi, hz0, hz1, hz2⟩ := info_parts infoS
  have hca := canon_len a
  have hcb := canon_len b
  have HA := Lib.hid ha
  have HB := Lib.hid hb
  clear ha hb
  rw [← rcommon_eq]
  have HRC : Hid (rcommon a b = rc (SpanM.canon a) (SpanM.canon b)) := Lib.hid rfl
  go_enter Try.func25, Try.ntmps25
  go_wp2_with fail
  refine (rcanon_any _ _ a _ HA.out (by omega)).mono ?_
  rintro e w' ⟨q1, c1, rfl, hs1, hfr1, n1, rfl⟩
  have HS1 := Lib.hid hs1
  clear hs1 hfr1
  go_wp2_with fail
  refine (rcanon_any _ _ b _ (SliceOf.ext HB.out n1.ext) (by omega)).mono ?_
  rintro e w' ⟨q2, c2, rfl, hs2, hfr2, n2, rfl⟩
  have HS1' := Lib.hid (SliceOf.ext HS1.out n2.ext)
  have HS2 := Lib.hid hs2
  have HXW : Hid (Ext w n2.val) := Lib.hid (Ext.trans n1.ext n2.ext)
  clear hs2 hfr2 HA HB HS1
  generalize n2.val = W at HS1' HS2 HXW ⊢
  clear n2 n1
  go_wp2_with fail
  go_loopw [7, 8] (fun v7 v wr => ∃ (i : Nat) (r : List Sp), i ≤ (SpanM.canon a).length ∧ v = .int .i64 i ∧ r.length ≤ i * 1024 ∧ rcommon a b = r ++ rc ((SpanM.canon a).drop i) (SpanM.canon b) ∧ Own encS 2 23 W.heap.size wr v7 r ∧ Ext W wr) (fun _ v _ => (SpanM.canon a).length - (intOf v).toNat)
  case atStart => exact ⟨0, [], by omega, rfl, by simp, HRC.out, Own.nil _, Ext.refl _⟩
  case round =>
    obtain ⟨i, r, hk, rfl, hr, hf, ho, hx⟩ := hrel
    have hsz := hx.size
    have HX := Lib.hid hx
    have HF := Lib.hid hf
    have HO := Lib.hid ho
    clear hx hf ho
    by_cases hlt : i < (SpanM.canon a).length
    · obtain ⟨A, B, b0, off0, hd, hm, rfl, hold0, c0, c1'⟩ := SpS.elem HS1'.out hlt
      have HD := Lib.hid (rc_out HF.out hd)
      clear hd hm HF
      go_wp2
      go_loopw [7, 9] (fun v7 v wr => ∃ (k : Nat) (r2 : List Sp), k ≤ (SpanM.canon b).length ∧ v = .int .i64 k ∧ r2.length ≤ i * 1024 + k ∧ rcommon a b = r2 ++ rcIn (A, B) ((SpanM.canon b).drop k) ++ rc ((SpanM.canon a).drop (i + 1)) (SpanM.canon b) ∧ Own encS 2 23 W.heap.size wr v7 r2 ∧ Ext W wr) (fun _ v _ => (SpanM.canon b).length - (intOf v).toNat)
      case atStart => exact ⟨0, r, by omega, rfl, by omega, HD.out, HO.out, HX.out⟩
      case round =>
        clear hsz HX HO HD hr
        obtain ⟨k, r2, hk2, rfl, hr2, hf, ho, hx⟩ := hrel
        have hsz := hx.size
        have HX := Lib.hid hx
        have HF := Lib.hid hf
        have HO := Lib.hid ho
        clear hx hf ho
        by_cases hlt2 : k < (SpanM.canon b).length
        · obtain ⟨C, D, b1, off1, hd, hm, rfl, hold1, c2', c3'⟩ := SpS.elem HS2.out hlt2
          have HD := Lib.hid (rcIn_step HF.out hd)
          clear hd hm HF
          have d0 := HX.out.cell c0
          have d1 := HX.out.cell c1'
          have d2 := HX.out.cell c2'
          have d3 := HX.out.cell c3'
          have i1 : (0 : Int) ≤ (i : Int) := by omega
          have i2 : (i : Int) < ((SpanM.canon a).length : Int) := by omega
          have i3 : (0 : Int) ≤ (k : Int) := by omega
          have i4 : (k : Int) < ((SpanM.canon b).length : Int) := by omega
          go_wp2
          refine region_held (S := fun W' => Ext wr W') (by kernel_rfl) ?_
          refine wpAnyH_take (i := 0) (v := .slice (some ⟨b0, off0, none⟩) (SpanM.canon a).length c1) rfl (by kernel_rfl) (by kernel_rfl) (by kernel_rfl) (fun _ _ _ h => h) (.inl ⟨rfl, fun w' hb => rfl⟩) (Ext.drew (Ext.refl _)) ?_
          refine wpAnyH_take (i := 1) (v := .int .i64 i) rfl (by kernel_rfl) (by kernel_rfl) (by kernel_rfl) (fun _ _ _ h => h) (.inl ⟨rfl, fun w' hb => rfl⟩) (Ext.drew (Ext.refl _)) ?_
          refine wpAnyH_take (i := 2) (v := .pointer (some ⟨b0, off0 + i * 2, none⟩)) rfl (by kernel_rfl) (by kernel_rfl) (by kernel_rfl) (fun _ _ _ h => h) (.inl ⟨rfl, fun w' hb => (by simp [go_sem, hlt])⟩) (Ext.drew (Ext.refl _)) ?_
          refine wpAnyH_take (i := 3) (v := .agg #[.int .i64 A, .int .i64 B]) rfl (by kernel_rfl) (by kernel_rfl) (by kernel_rfl) (fun _ _ _ h => h) (.inl ⟨rfl, fun w' hb => (by have e0 := hb.cell d0; have e1 := hb.cell d1; simp [go_sem, e0, e1])⟩) (Ext.drew (Ext.refl _)) ?_
          refine wpAnyH_take (i := 4) (v := .slice (some ⟨b1, off1, none⟩) (SpanM.canon b).length c2) rfl (by kernel_rfl) (by kernel_rfl) (by kernel_rfl) (fun _ _ _ h => h) (.inl ⟨rfl, fun w' hb => rfl⟩) (Ext.drew (Ext.refl _)) ?_
          refine wpAnyH_take (i := 5) (v := .int .i64 k) rfl (by kernel_rfl) (by kernel_rfl) (by kernel_rfl) (fun _ _ _ h => h) (.inl ⟨rfl, fun w' hb => rfl⟩) (Ext.drew (Ext.refl _)) ?_
          refine wpAnyH_take (i := 6) (v := .pointer (some ⟨b1, off1 + k * 2, none⟩)) rfl (by kernel_rfl) (by kernel_rfl) (by kernel_rfl) (fun _ _ _ h => h) (.inl ⟨rfl, fun w' hb => (by simp [go_sem, hlt2])⟩) (Ext.drew (Ext.refl _)) ?_
          refine wpAnyH_take (i := 7) (v := .agg #[.int .i64 C, .int .i64 D]) rfl (by kernel_rfl) (by kernel_rfl) (by kernel_rfl) (fun _ _ _ h => h) (.inl ⟨rfl, fun w' hb => (by have e0 := hb.cell d2; have e1 := hb.cell d3; simp [go_sem, e0, e1])⟩) (Ext.drew (Ext.refl _)) ?_
          refine ah_box (c := 8) (al := 9) (st := 10) (f := 14) (vals := #[.agg #[.int .i64 A, .int .i64 B], .agg #[.int .i64 C, .int .i64 D]]) (cs := #[.int .i64 (meet (A, B) (C, D)).1, .int .i64 (meet (A, B) (C, D)).2]) rfl rfl rfl rfl rfl lwSp rfl (by simp [Value.oneCell']) zeroSp rfl (by decide) (by simp [Act.put]) (by simp [Act.put]) (by kernel_rfl) (by kernel_rfl) (by kernel_rfl) (by kernel_rfl) (by kernel_rfl) (by kernel_rfl) (by kernel_rfl) (fun W => by kernel_rfl) (fun W x => by kernel_rfl) (fun W _ => rmeet_any (A, B) (C, D) W) (fun W h => Ext.trans (Ext.drew (Ext.refl _)) h) ?_
          intro W' g hx' hg hB
          simp only [List.getElem_toArray, List.getElem_cons_succ, List.getElem_cons_zero, Act.put, List.setIfInBounds_toArray, List.set_cons_succ, List.set_cons_zero]
          have hx2 : Ext wr W' := Ext.trans (Ext.drew (Ext.refl _)) hx'
          have hsz2 := hx2.size
          have HX2 := Lib.hid (Ext.trans HX.out hx2)
          have ho2 : Own encS 2 23 W.heap.size W' _ r2 := Own.of_ext HO.out ⟨W', hx2⟩
          have HO2 := Lib.hid ho2
          have og := hB.old
          clear ho2 d0 d1 d2 d3 hx2 hx' HO HX hsz hg
          have hsz3 : W.heap.size ≤ W'.heap.size := HX2.out.size
          generalize hM : meet (A, B) (C, D) = M at *
          clear hM
          obtain ⟨M1, M2⟩ := M
          simp only at hB
          rcases t1 : decide (M1 < M2) with _ | _
          · have HC : Hid (rcommon a b = r2 ++ rcIn (A, B) ((SpanM.canon b).drop (k + 1)) ++ rc ((SpanM.canon a).drop (i + 1)) (SpanM.canon b)) := Lib.hid (by have := HD.out; rwa [opt_no (by simpa using t1), List.append_nil] at this)
            clear HD
            go_wp2
            go_roundw
            case rel => exact ⟨k + 1, r2, by omega, by go_num, by omega, HC.out, HO2.out, HX2.out⟩
            case measure => simp [intOf]; omega
          · have HC : Hid (rcommon a b = (r2 ++ [(M1, M2)]) ++ rcIn (A, B) ((SpanM.canon b).drop (k + 1)) ++ rc ((SpanM.canon a).drop (i + 1)) (SpanM.canon b)) := Lib.hid (by have := HD.out; rwa [opt_yes (by simpa using t1)] at this)
            clear HD
            go_wp2_with (at_builtin; refine wl_append1 (enc := encS) (k := 2) (E := 23) (base := W.heap.size) (l := r2) (y := (M1, M2)) Try.underlying28 hi hz0 hz1 hz2 rfl (by decide) encS_len encS_one rfl rfl (HO2.out.alloc _) inferInstance rfl (by unfold maxLen; omega) (by omega) (by simp; omega) ?_; intro v' nb hown')
            go_roundw
            case rel => exact ⟨k + 1, r2 ++ [(M1, M2)], by omega, by go_num, by simp; omega, HC.out, hown', Ext.below (HX2.out.alloc _) (Nat.le_refl _) _⟩
            case measure => simp [intOf]; omega
        · have HC : Hid (rcommon a b = r2 ++ rc ((SpanM.canon a).drop (i + 1)) (SpanM.canon b)) := Lib.hid (by rw [HF.out, List.drop_of_length_le (show (SpanM.canon b).length ≤ k by omega)]; simp [rcIn])
          go_wp2
          go_roundw
          case rel => exact ⟨i + 1, r2, by omega, by go_num, by omega, HC.out, HO.out, HX.out⟩
          case measure => simp [intOf]; omega
    · have HC : Hid (rcommon a b = r) := Lib.hid (by rw [HF.out, List.drop_of_length_le (by omega)]; simp [rc])
      obtain ⟨q6, c6, rfl⟩ := Own.form HO.out
      go_wp2
      go_ret
      rw [HC.out]
      exact ⟨_, _, rfl, Own.slice encS_len HO.out, fun a ha => Nat.le_trans HXW.out.size (Own.fresh HO.out a ha), ExtOf.of (Ext.trans HXW.out HX.out)⟩

end Go.Proofs.Ytfbcaafkekcmbaa
