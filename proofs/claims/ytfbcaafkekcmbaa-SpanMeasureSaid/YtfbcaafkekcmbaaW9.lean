/-
  The contract of Common.
-/
import Derived.Test.YtfbcaafkekcmbaaW6
import Derived.Test.YtfbcaafkekcmbaaW7
import Derived.Test.YtfbcaafkekcmbaaBase6
namespace Go.Proofs.Ytfbcaafkekcmbaa
open Go.RowKit SpanM

attribute [local go_sem] ExtOf.cell ExtOf.frozen Block.cell Block.frozen ExtB.cell ExtB.frozen alloc_cell alloc_frozen

def slLen : Value → Nat
  | .slice _ n _ => n
  | _ => 0
/-- the first element of a slice -/
theorem SpS.head {w : World} {p : Option Addr} {n cap : Nat} {A B : Int} {l : List Sp} (h : SpS w (.slice p n cap) ((A, B) :: l)) :
    ∃ b off, p = some ⟨b, off, none⟩ ∧ n = l.length + 1 ∧ n ≤ cap ∧ Old b w ∧ w.cell? ⟨b, off, none⟩ = some (.int .i64 A) ∧ w.cell? ⟨b, off + 1, none⟩ = some (.int .i64 B) ∧ (SpS w (.slice (some ⟨b, off + 2, none⟩) l.length (cap - 1)) l) ∧ (cap = 1 → l = []) := by
  obtain ⟨p', cap', e, h1, h2, h3, h4⟩ := h
  simp only [Value.slice.injEq] at e
  obtain ⟨rfl, rfl, rfl⟩ := e
  obtain ⟨b, off, hp, hc⟩ := h4 0 (A, B) rfl
  have c0 := hc 0 _ rfl
  have c1 := hc 1 _ rfl
  simp only [List.length_cons] at h1
  refine ⟨b, off, hp, rfl, h1, Old.of_cell c0, by simpa using c0, by simpa using c1, ⟨_, cap - 1, rfl, by omega, by omega, (fun h => by cases h), fun i x hi => ⟨b, off + 2, rfl, fun j u hj => ?_⟩⟩, fun hc => List.eq_nil_of_length_eq_zero (by omega)⟩
  obtain ⟨b', off', hp', hc'⟩ := h4 (i + 1) x (by simpa using hi)
  rw [hp] at hp'
  obtain ⟨rfl, rfl⟩ : b = b' ∧ off = off' := by simpa using hp'
  have := hc' j u hj
  rw [show off + 2 + (i * 2 + j) = off + ((i + 1) * 2 + j) from by omega]
  exact this
theorem com_nil_left (k : Nat) (y : List Sp) : com k [] y = [] := by cases k <;> rfl
theorem com_nil_right (k : Nat) (x : List Sp) : com k x [] = [] := by cases k <;> cases x <;> rfl
theorem com_step (x y r z : List Sp) (A B C D : Int) (h : z = r ++ com (((A, B) :: x).length + ((C, D) :: y).length) ((A, B) :: x) ((C, D) :: y)) :
    z = (r ++ opt (meet (A, B) (C, D))) ++ if B < D then com (x.length + ((C, D) :: y).length) x ((C, D) :: y) else com (((A, B) :: x).length + y.length) ((A, B) :: x) y := by
  have e1 : ((A, B) :: x).length + ((C, D) :: y).length = (x.length + y.length + 1) + 1 := by simp only [List.length_cons]; omega
  have e2 : x.length + ((C, D) :: y).length = x.length + y.length + 1 := by simp only [List.length_cons]; omega
  have e3 : ((A, B) :: x).length + y.length = x.length + y.length + 1 := by simp only [List.length_cons]; omega
  rw [e1, com] at h
  rw [h, e2, e3, List.append_assoc]
theorem SpS.empty {w : World} {p : Option Addr} {n cap : Nat} (h1 : n = 0) (h2 : cap ≤ maxLen) (h3 : p = none → cap = 0) : SpS w (.slice p n cap) [] := by
  subst h1
  exact ⟨p, cap, rfl, Nat.zero_le _, h2, h3, fun i x h => by simp at h⟩

set_option maxRecDepth 20000 in
set_option maxHeartbeats 1600000 in
theorem common_any (p p' : Option Addr) (cap cap' : Nat) (a b : List Sp) (w : World) (ha : SpS w (.slice p a.length cap) a) (hb : SpS w (.slice p' b.length cap') b) (hla : a.length ≤ 1099511627776) (hlb : b.length ≤ 1099511627776) :
    Calls Try.prog 24 #[.slice p a.length cap, .slice p' b.length cap'] w (RetS w (SpanM.common a b)) := by
  obtain ⟨i0, hi, hz0, hz1, hz2⟩ := info_parts infoS
  have hca := canon_len a
  have hcb := canon_len b
  have HA := Lib.hid ha
  have HB := Lib.hid hb
  clear ha hb
  unfold SpanM.common
  go_enter Try.func24, Try.ntmps24
  go_wp2_with fail
  refine (canon_any _ _ a _ HA.out (by omega)).mono ?_
  rintro e w' ⟨q1, c1, rfl, hs1, hfr1, n1, rfl⟩
  have HS1 := Lib.hid hs1
  clear hs1 hfr1
  go_wp2_with fail
  refine (canon_any _ _ b _ (SliceOf.ext HB.out n1.ext) (by omega)).mono ?_
  rintro e w' ⟨q2, c2, rfl, hs2, hfr2, n2, rfl⟩
  have HS1' := Lib.hid (SliceOf.ext HS1.out n2.ext)
  have HS2 := Lib.hid hs2
  have HXW : Hid (Ext w n2.val) := Lib.hid (Ext.trans n1.ext n2.ext)
  clear hs2 hfr2 HA HB HS1
  generalize n2.val = W at HS1' HS2 HXW ⊢
  clear n2 n1
  go_wp2_with fail
  go_loopw [0, 1, 5] (fun v0 v1 v5 wr => ∃ (x y r : List Sp), SpS W v0 x ∧ SpS W v1 y ∧ x.length + y.length + r.length ≤ 4398046511104 ∧ com ((SpanM.canon a).length + (SpanM.canon b).length) (SpanM.canon a) (SpanM.canon b) = r ++ com (x.length + y.length) x y ∧ Own encS 2 23 W.heap.size wr v5 r ∧ Ext W wr) (fun v0 v1 _ _ => slLen v0 + slLen v1)
  case atStart => exact ⟨SpanM.canon a, SpanM.canon b, [], HS1'.out, HS2.out, by simp; omega, rfl, Own.nil _, Ext.refl _⟩
  case round =>
    obtain ⟨x, y, r, h0, h1, hr, hf, ho, hx⟩ := hrel
    have hsz := hx.size
    have HX := Lib.hid hx
    have HF := Lib.hid hf
    have HO := Lib.hid ho
    have HV0 := Lib.hid h0
    have HV1 := Lib.hid h1
    obtain ⟨p0, k0, rfl, _, _, _, _⟩ := h0
    obtain ⟨p1, k1, rfl, _, _, _, _⟩ := h1
    clear hx hf ho
    rcases x with _ | ⟨⟨A, B⟩, x⟩
    · have hfin : com ((SpanM.canon a).length + (SpanM.canon b).length) (SpanM.canon a) (SpanM.canon b) = r := by rw [HF.out, com_nil_left, List.append_nil]
      have HC := Lib.hid hfin
      clear hfin
      obtain ⟨q6, c6, rfl⟩ := Own.form HO.out
      go_wp2
      go_ret
      rw [HC.out]
      exact ⟨_, _, rfl, Own.slice encS_len HO.out, fun a ha => Nat.le_trans HXW.out.size (Own.fresh HO.out a ha), ExtOf.of (Ext.trans HXW.out HX.out)⟩
    · rcases y with _ | ⟨⟨C, D⟩, y⟩
      · have hfin : com ((SpanM.canon a).length + (SpanM.canon b).length) (SpanM.canon a) (SpanM.canon b) = r := by rw [HF.out, com_nil_right, List.append_nil]
        have HC := Lib.hid hfin
        clear hfin
        obtain ⟨q6, c6, rfl⟩ := Own.form HO.out
        go_wp2
        go_ret
        rw [HC.out]
        exact ⟨_, _, rfl, Own.slice encS_len HO.out, fun a ha => Nat.le_trans HXW.out.size (Own.fresh HO.out a ha), ExtOf.of (Ext.trans HXW.out HX.out)⟩
      · have HCS := Lib.hid (com_step x y r _ A B C D HF.out)
        clear HF
        obtain ⟨b0, off0, rfl, _, hk0, ob0, d0, d1, ht0, hn0⟩ := SpS.head HV0.out
        obtain ⟨b1, off1, rfl, _, hk1, ob1, d2, d3, ht1, hn1⟩ := SpS.head HV1.out
        have HT0 := Lib.hid ht0
        have HT1 := Lib.hid ht1
        have HN0 := Lib.hid hn0
        have HN1 := Lib.hid hn1
        have d0 := HX.out.cell d0
        have d1 := HX.out.cell d1
        have d2 := HX.out.cell d2
        have d3 := HX.out.cell d3
        have wo0 : Old b0 wr := Old.of_cell d0
        have wo1 : Old b1 wr := Old.of_cell d2
        clear ht0 ht1 hn0 hn1
        simp only [List.length_cons] at *
        go_wp2
        refine region_held (S := fun W' => Ext wr W') (by kernel_rfl) ?_
        refine wpAnyH_take (i := 0) (v := .slice (some ⟨b0, off0, none⟩) (x.length + 1) k0) rfl (by kernel_rfl) (by kernel_rfl) (by kernel_rfl) (fun _ _ _ h => h) (.inl ⟨rfl, fun w' hb => rfl⟩) (Ext.drew (Ext.refl _)) ?_
        refine wpAnyH_take (i := 1) (v := .pointer (some ⟨b0, off0, none⟩)) rfl (by kernel_rfl) (by kernel_rfl) (by kernel_rfl) (fun _ _ _ h => h) (.inl ⟨rfl, fun w' hb => (by simp [go_sem])⟩) (Ext.drew (Ext.refl _)) ?_
        refine wpAnyH_take (i := 2) (v := .agg #[.int .i64 A, .int .i64 B]) rfl (by kernel_rfl) (by kernel_rfl) (by kernel_rfl) (fun _ _ _ h => h) (.inl ⟨rfl, fun w' hb => (by have e0 := hb.cell d0; have e1 := hb.cell d1; simp [go_sem, e0, e1])⟩) (Ext.drew (Ext.refl _)) ?_
        refine wpAnyH_take (i := 3) (v := .slice (some ⟨b1, off1, none⟩) (y.length + 1) k1) rfl (by kernel_rfl) (by kernel_rfl) (by kernel_rfl) (fun _ _ _ h => h) (.inl ⟨rfl, fun w' hb => rfl⟩) (Ext.drew (Ext.refl _)) ?_
        refine wpAnyH_take (i := 4) (v := .pointer (some ⟨b1, off1, none⟩)) rfl (by kernel_rfl) (by kernel_rfl) (by kernel_rfl) (fun _ _ _ h => h) (.inl ⟨rfl, fun w' hb => (by simp [go_sem])⟩) (Ext.drew (Ext.refl _)) ?_
        refine wpAnyH_take (i := 5) (v := .agg #[.int .i64 C, .int .i64 D]) rfl (by kernel_rfl) (by kernel_rfl) (by kernel_rfl) (fun _ _ _ h => h) (.inl ⟨rfl, fun w' hb => (by have e0 := hb.cell d2; have e1 := hb.cell d3; simp [go_sem, e0, e1])⟩) (Ext.drew (Ext.refl _)) ?_
        refine ah_box (c := 6) (al := 7) (st := 8) (f := 13) (vals := #[.agg #[.int .i64 A, .int .i64 B], .agg #[.int .i64 C, .int .i64 D]]) (cs := #[.int .i64 (meet (A, B) (C, D)).1, .int .i64 (meet (A, B) (C, D)).2]) rfl rfl rfl rfl rfl lwSp rfl (by simp [Value.oneCell']) zeroSp rfl (by decide) (by simp [Act.put]) (by simp [Act.put]) (by kernel_rfl) (by kernel_rfl) (by kernel_rfl) (by kernel_rfl) (by kernel_rfl) (by kernel_rfl) (by kernel_rfl) (fun W => by kernel_rfl) (fun W x => by kernel_rfl) (fun W _ => meet_any (A, B) (C, D) W) (fun W h => Ext.trans (Ext.drew (Ext.refl _)) h) ?_
        intro W' g hx' hg hB
        simp only [List.getElem_toArray, List.getElem_cons_succ, List.getElem_cons_zero, Act.put, List.setIfInBounds_toArray, List.set_cons_succ, List.set_cons_zero]
        have hx2 : Ext wr W' := Ext.trans (Ext.drew (Ext.refl _)) hx'
        have hsz2 := hx2.size
        have HX2 := Lib.hid (Ext.trans HX.out hx2)
        have ho2 : Own encS 2 23 W.heap.size W' _ r := Own.of_ext HO.out ⟨W', hx2⟩
        have HO2 := Lib.hid ho2
        clear ho2
        have e0 := hx2.cell d0
        have e1 := hx2.cell d1
        have e2 := hx2.cell d2
        have e3 := hx2.cell d3
        have v0 : Old b0 W' := Old.of_cell e0
        have v1 : Old b1 W' := Old.of_cell e2
        have og := hB.old
        clear d0 d1 d2 d3 wo0 wo1 hx2 hx' HO HX hsz hg
        have hsz3 : W.heap.size ≤ W'.heap.size := HX2.out.size
        generalize hM : meet (A, B) (C, D) = M at *
        clear hM
        obtain ⟨M1, M2⟩ := M
        simp only at hB
        by_cases t1 : M1 < M2
        · have HC2 := HCS.out
          rw [opt_yes t1] at HC2
          have HC := Lib.hid HC2
          clear HC2 HCS
          rcases t2 : decide (B < D) with _ | _
          · have HE : Hid (com ((SpanM.canon a).length + (SpanM.canon b).length) (SpanM.canon a) (SpanM.canon b) = (r ++ [(M1, M2)]) ++ com (((A, B) :: x).length + y.length) ((A, B) :: x) y) := Lib.hid (by rw [HC.out, if_neg (by simpa using t2)]; rfl)
            by_cases hk : k1 = 1
            · subst hk
              have hy := HN1.out rfl
              subst hy
              go_wp2_with ((at_builtin; refine wl_append1 (enc := encS) (k := 2) (E := 23) (base := W.heap.size) (l := r) (y := (M1, M2)) Try.underlying28 hi hz0 hz1 hz2 rfl (by decide) encS_len encS_one rfl rfl (HO2.out.alloc _) inferInstance rfl (by unfold maxLen; omega) (by omega) (by simp; omega) ?_; intro v' nb hown'))
              refine wp_region_ext (by kernel_rfl) (by kernel_rfl) ?_
              repeat (first | go_big_quiet_skip | go_big_quiet_step (fail))
              refine wpQuiet_nil ?_
              intro _ hw'
              obtain ⟨nq, hw''⟩ := hw'
              subst hw''
              go_wp2
              go_roundw
              case rel => exact ⟨(A, B) :: x, [], (r ++ [(M1, M2)]), HV0.out, SpS.empty (by simp) (by unfold maxLen; omega) (fun h => by cases h), by simp at hr ⊢; omega, HE.out, Own.of_ext hown' nq, by repeat' (first | (with_reducible exact HX2.out) | (with_reducible exact Ext.refl _) | (with_reducible exact ExtOf.ext _) | (with_reducible refine Ext.trans ?_ (ExtOf.ext _)) | (with_reducible refine Ext.alloc ?_ _) | (with_reducible refine Ext.drew ?_) | (with_reducible refine Ext.below ?_ (Nat.le_refl _) _))⟩
              case measure => simp [slLen]
            · go_wp2_with ((at_builtin; refine wl_append1 (enc := encS) (k := 2) (E := 23) (base := W.heap.size) (l := r) (y := (M1, M2)) Try.underlying28 hi hz0 hz1 hz2 rfl (by decide) encS_len encS_one rfl rfl (HO2.out.alloc _) inferInstance rfl (by unfold maxLen; omega) (by omega) (by simp; omega) ?_; intro v' nb hown'))
              refine wp_region_ext (by kernel_rfl) (by kernel_rfl) ?_
              repeat (first | go_big_quiet_skip | go_big_quiet_step (fail))
              refine wpQuiet_nil ?_
              intro _ hw'
              obtain ⟨nq, hw''⟩ := hw'
              subst hw''
              go_wp2
              go_roundw
              case rel => exact ⟨(A, B) :: x, y, (r ++ [(M1, M2)]), HV0.out, HT1.out, by simp at hr ⊢; omega, HE.out, Own.of_ext hown' nq, by repeat' (first | (with_reducible exact HX2.out) | (with_reducible exact Ext.refl _) | (with_reducible exact ExtOf.ext _) | (with_reducible refine Ext.trans ?_ (ExtOf.ext _)) | (with_reducible refine Ext.alloc ?_ _) | (with_reducible refine Ext.drew ?_) | (with_reducible refine Ext.below ?_ (Nat.le_refl _) _))⟩
              case measure => simp [slLen]
          · have HE : Hid (com ((SpanM.canon a).length + (SpanM.canon b).length) (SpanM.canon a) (SpanM.canon b) = (r ++ [(M1, M2)]) ++ com (x.length + ((C, D) :: y).length) x ((C, D) :: y)) := Lib.hid (by rw [HC.out, if_pos (by simpa using t2)]; rfl)
            by_cases hk : k0 = 1
            · subst hk
              have hy := HN0.out rfl
              subst hy
              go_wp2_with ((at_builtin; refine wl_append1 (enc := encS) (k := 2) (E := 23) (base := W.heap.size) (l := r) (y := (M1, M2)) Try.underlying28 hi hz0 hz1 hz2 rfl (by decide) encS_len encS_one rfl rfl (HO2.out.alloc _) inferInstance rfl (by unfold maxLen; omega) (by omega) (by simp; omega) ?_; intro v' nb hown'))
              refine wp_region_ext (by kernel_rfl) (by kernel_rfl) ?_
              repeat (first | go_big_quiet_skip | go_big_quiet_step (fail))
              refine wpQuiet_nil ?_
              intro _ hw'
              obtain ⟨nq, hw''⟩ := hw'
              subst hw''
              go_wp2
              go_roundw
              case rel => exact ⟨[], (C, D) :: y, (r ++ [(M1, M2)]), SpS.empty (by simp) (by unfold maxLen; omega) (fun h => by cases h), HV1.out, by simp at hr ⊢; omega, HE.out, Own.of_ext hown' nq, by repeat' (first | (with_reducible exact HX2.out) | (with_reducible exact Ext.refl _) | (with_reducible exact ExtOf.ext _) | (with_reducible refine Ext.trans ?_ (ExtOf.ext _)) | (with_reducible refine Ext.alloc ?_ _) | (with_reducible refine Ext.drew ?_) | (with_reducible refine Ext.below ?_ (Nat.le_refl _) _))⟩
              case measure => simp [slLen]
            · go_wp2_with ((at_builtin; refine wl_append1 (enc := encS) (k := 2) (E := 23) (base := W.heap.size) (l := r) (y := (M1, M2)) Try.underlying28 hi hz0 hz1 hz2 rfl (by decide) encS_len encS_one rfl rfl (HO2.out.alloc _) inferInstance rfl (by unfold maxLen; omega) (by omega) (by simp; omega) ?_; intro v' nb hown'))
              refine wp_region_ext (by kernel_rfl) (by kernel_rfl) ?_
              repeat (first | go_big_quiet_skip | go_big_quiet_step (fail))
              refine wpQuiet_nil ?_
              intro _ hw'
              obtain ⟨nq, hw''⟩ := hw'
              subst hw''
              go_wp2
              go_roundw
              case rel => exact ⟨x, (C, D) :: y, (r ++ [(M1, M2)]), HT0.out, HV1.out, by simp at hr ⊢; omega, HE.out, Own.of_ext hown' nq, by repeat' (first | (with_reducible exact HX2.out) | (with_reducible exact Ext.refl _) | (with_reducible exact ExtOf.ext _) | (with_reducible refine Ext.trans ?_ (ExtOf.ext _)) | (with_reducible refine Ext.alloc ?_ _) | (with_reducible refine Ext.drew ?_) | (with_reducible refine Ext.below ?_ (Nat.le_refl _) _))⟩
              case measure => simp [slLen]
        · have HC2 := HCS.out
          rw [opt_no t1, List.append_nil] at HC2
          have HC := Lib.hid HC2
          clear HC2 HCS
          rcases t2 : decide (B < D) with _ | _
          · have HE : Hid (com ((SpanM.canon a).length + (SpanM.canon b).length) (SpanM.canon a) (SpanM.canon b) = r ++ com (((A, B) :: x).length + y.length) ((A, B) :: x) y) := Lib.hid (by rw [HC.out, if_neg (by simpa using t2)]; rfl)
            by_cases hk : k1 = 1
            · subst hk
              have hy := HN1.out rfl
              subst hy
              go_wp2_with (fail)
              refine wp_region_ext (by kernel_rfl) (by kernel_rfl) ?_
              repeat (first | go_big_quiet_skip | go_big_quiet_step (fail))
              refine wpQuiet_nil ?_
              intro _ hw'
              obtain ⟨nq, hw''⟩ := hw'
              subst hw''
              go_wp2
              go_roundw
              case rel => exact ⟨(A, B) :: x, [], r, HV0.out, SpS.empty (by simp) (by unfold maxLen; omega) (fun h => by cases h), by simp at hr ⊢; omega, HE.out, Own.of_ext HO2.out nq, by repeat' (first | (with_reducible exact HX2.out) | (with_reducible exact Ext.refl _) | (with_reducible exact ExtOf.ext _) | (with_reducible refine Ext.trans ?_ (ExtOf.ext _)) | (with_reducible refine Ext.alloc ?_ _) | (with_reducible refine Ext.drew ?_) | (with_reducible refine Ext.below ?_ (Nat.le_refl _) _))⟩
              case measure => simp [slLen]
            · go_wp2_with (fail)
              refine wp_region_ext (by kernel_rfl) (by kernel_rfl) ?_
              repeat (first | go_big_quiet_skip | go_big_quiet_step (fail))
              refine wpQuiet_nil ?_
              intro _ hw'
              obtain ⟨nq, hw''⟩ := hw'
              subst hw''
              go_wp2
              go_roundw
              case rel => exact ⟨(A, B) :: x, y, r, HV0.out, HT1.out, by simp at hr ⊢; omega, HE.out, Own.of_ext HO2.out nq, by repeat' (first | (with_reducible exact HX2.out) | (with_reducible exact Ext.refl _) | (with_reducible exact ExtOf.ext _) | (with_reducible refine Ext.trans ?_ (ExtOf.ext _)) | (with_reducible refine Ext.alloc ?_ _) | (with_reducible refine Ext.drew ?_) | (with_reducible refine Ext.below ?_ (Nat.le_refl _) _))⟩
              case measure => simp [slLen]
          · have HE : Hid (com ((SpanM.canon a).length + (SpanM.canon b).length) (SpanM.canon a) (SpanM.canon b) = r ++ com (x.length + ((C, D) :: y).length) x ((C, D) :: y)) := Lib.hid (by rw [HC.out, if_pos (by simpa using t2)]; rfl)
            by_cases hk : k0 = 1
            · subst hk
              have hy := HN0.out rfl
              subst hy
              go_wp2_with (fail)
              refine wp_region_ext (by kernel_rfl) (by kernel_rfl) ?_
              repeat (first | go_big_quiet_skip | go_big_quiet_step (fail))
              refine wpQuiet_nil ?_
              intro _ hw'
              obtain ⟨nq, hw''⟩ := hw'
              subst hw''
              go_wp2
              go_roundw
              case rel => exact ⟨[], (C, D) :: y, r, SpS.empty (by simp) (by unfold maxLen; omega) (fun h => by cases h), HV1.out, by simp at hr ⊢; omega, HE.out, Own.of_ext HO2.out nq, by repeat' (first | (with_reducible exact HX2.out) | (with_reducible exact Ext.refl _) | (with_reducible exact ExtOf.ext _) | (with_reducible refine Ext.trans ?_ (ExtOf.ext _)) | (with_reducible refine Ext.alloc ?_ _) | (with_reducible refine Ext.drew ?_) | (with_reducible refine Ext.below ?_ (Nat.le_refl _) _))⟩
              case measure => simp [slLen]
            · go_wp2_with (fail)
              refine wp_region_ext (by kernel_rfl) (by kernel_rfl) ?_
              repeat (first | go_big_quiet_skip | go_big_quiet_step (fail))
              refine wpQuiet_nil ?_
              intro _ hw'
              obtain ⟨nq, hw''⟩ := hw'
              subst hw''
              go_wp2
              go_roundw
              case rel => exact ⟨x, (C, D) :: y, r, HT0.out, HV1.out, by simp at hr ⊢; omega, HE.out, Own.of_ext HO2.out nq, by repeat' (first | (with_reducible exact HX2.out) | (with_reducible exact Ext.refl _) | (with_reducible exact ExtOf.ext _) | (with_reducible refine Ext.trans ?_ (ExtOf.ext _)) | (with_reducible refine Ext.alloc ?_ _) | (with_reducible refine Ext.drew ?_) | (with_reducible refine Ext.below ?_ (Nat.le_refl _) _))⟩
              case measure => simp [slLen]

end Go.Proofs.Ytfbcaafkekcmbaa
