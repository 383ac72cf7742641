/-
  Chapter 61: several texts in one (R43, R44, R45).
-/
import Derived.Test.YtjfohapnjnopfaaGreatDoorR19
import Derived.Test.YtjfohapnjnopfaaGreatDoorMA
/-
  Chapter 61: equality of events; does a list of pairs lie within another one?
-/
section
set_option linter.unusedVariables false
set_option linter.unusedSimpArgs false
namespace Go.Proofs.YtjfohapnjnopfaaGreatDoor
open Go.RowKit RepM

attribute [local go_sem] ExtOf.cell ExtOf.frozen Block.cell Block.frozen ExtB.cell ExtB.frozen alloc_cell alloc_frozen
theorem eq_drop {la lb : List Int} {k : Nat} (ha : k < la.length) (hb : k < lb.length) : decide (la.drop k = lb.drop k) = (decide (la[k] = lb[k]) && decide (la.drop (k + 1) = lb.drop (k + 1))) := by
  have h1 : (la.drop k = lb.drop k) ↔ (la[k] = lb[k] ∧ la.drop (k + 1) = lb.drop (k + 1)) := by rw [List.drop_eq_getElem_cons ha, List.drop_eq_getElem_cons hb, List.cons.injEq]
  rw [Bool.eq_iff_iff]
  simp only [decide_eq_true_eq, Bool.and_eq_true]
  exact h1
set_option maxHeartbeats 1600000 in
theorem rsame05_any (la lb : List Int) (va vb : Value) (w : World) (ha : IntS w va la) (hb : IntS w vb lb) : Calls Tryz.prog 57 #[va, vb] w fun e w' => e = .returned (.bool (decide (la = lb))) ∧ ∃ n : ExtOf w, w' = n.val := by
  obtain ⟨pa, ca, rfl, ha1, ha2, ha3⟩ := IntS.form ha
  obtain ⟨pb, cb, rfl, hb1, hb2, hb3⟩ := IntS.form hb
  unfold maxLen at ha2 hb2
  have HA := Lib.hid ha
  have HB := Lib.hid hb
  clear ha hb
  by_cases hl : la.length = lb.length
  case neg =>
    have q0 : ((la.length : Int) != lb.length) = true := bne_iff_ne.2 (by omega)
    have HE : Hid (decide (la = lb) = false) := Lib.hid (decide_eq_false (fun e => hl (by rw [e])))
    go_enter Tryz.func57, Tryz.ntmps57
    go_wp2_with fail
    go_ret
    exact ⟨by rw [HE.out]; rfl, by exact ExtOf.of (by repeat' (first | (with_reducible exact Ext.refl _) | (with_reducible exact ExtOf.ext _) | (with_reducible refine Ext.trans ?_ (ExtOf.ext _)) | (with_reducible refine Ext.alloc ?_ _) | (with_reducible refine Ext.drew ?_) | (with_reducible refine Ext.setCell ?_ ?_ _) | (with_reducible refine Ext.setRow ?_ ?_ _) | (with_reducible exact HX.out) | (with_reducible refine Ext.trans ?_ HX.out) | (with_reducible refine Ext.below ?_ (Nat.le_refl _) _) | omega | (simp; done) | (simp; omega)))⟩
  have q0 : ((la.length : Int) != lb.length) = false := bne_eq_false_iff_eq.2 (by omega)
  have HL := Lib.hid hl
  clear hl
  go_enter Tryz.func57, Tryz.ntmps57
  go_wp2_with fail
  go_loopw [5] (fun vi wr => ∃ k : Nat, k ≤ la.length ∧ vi = .int .i64 k ∧ decide (la = lb) = decide (la.drop k = lb.drop k) ∧ Ext w wr) (fun i _ => la.length - (intOf i).toNat)
  case atStart => exact ⟨0, by omega, rfl, by rw [List.drop_zero, List.drop_zero], Ext.refl _⟩
  case round =>
    obtain ⟨k, hk, rfl, hd, hx⟩ := hrel
    have HD := Lib.hid hd
    have HX := Lib.hid hx
    clear hd hx
    by_cases hlt : k < la.length
    · have hlb : k < lb.length := by have := HL.out; omega
      have HS := Lib.hid (eq_drop hlt hlb)
      obtain ⟨ba, oa, rfl, hea⟩ := IntS.elem (IntS.ext HA.out HX.out) hlt
      obtain ⟨bb, ob, rfl, heb⟩ := IntS.elem (IntS.ext HB.out HX.out) hlb
      have oba := Old.of_cell hea
      have obb := Old.of_cell heb
      generalize la[k] = ma at *
      generalize lb[k] = mb at *
      by_cases he : ma = mb
      · have q1 : (ma != mb) = false := bne_eq_false_iff_eq.2 he
        rw [decide_eq_true he] at HS
        clear he
        go_wp2_with fail
        refine wp_region_ext (by kernel_rfl) (by kernel_rfl) ?_
        repeat (first | go_big_quiet_skip | go_big_quiet_step (fail))
        refine wpQuiet_nil ?_
        intro _ hw'
        obtain ⟨nq, hw''⟩ := hw'
        subst hw''
        go_wp2_with fail
        go_roundw
        case rel => exact ⟨k + 1, by omega, by first | rfl | go_num, by rw [HD.out, HS.out]; rfl, HX.out.trans nq.ext⟩
        case measure => simp [intOf]; omega
      · have q1 : (ma != mb) = true := bne_iff_ne.2 he
        rw [decide_eq_false he] at HS
        clear he
        go_wp2_with fail
        refine wp_region_ext (by kernel_rfl) (by kernel_rfl) ?_
        repeat (first | go_big_quiet_skip | go_big_quiet_step (fail))
        refine wpQuiet_nil ?_
        intro _ hw'
        obtain ⟨nq, hw''⟩ := hw'
        subst hw''
        go_wp2_with fail
        go_ret
        exact ⟨by rw [HD.out, HS.out]; rfl, ExtOf.of (HX.out.trans nq.ext)⟩
    · obtain rfl : k = la.length := by omega
      have HT : Hid (decide (la = lb) = true) := Lib.hid (by rw [HD.out, List.drop_length, List.drop_of_length_le (by have := HL.out; omega)]; rfl)
      go_wp2_with fail
      go_ret
      exact ⟨by rw [HT.out]; rfl, ExtOf.of HX.out⟩
set_option maxHeartbeats 1600000 in
set_option maxRecDepth 20000 in
theorem rsame58_any (x y : Ev) (vx vy : Value) (w : World) (hx : IntS w vx x.n) (hy : IntS w vy y.n) : Calls Tryz.prog 27 #[.agg (evC x vx), .agg (evC y vy)] w fun e w' => e = .returned (.bool (sameE x y)) ∧ ∃ n : ExtOf w, w' = n.val := by
  obtain ⟨px, cx, rfl, hx1, hx2, hx3⟩ := IntS.form hx
  obtain ⟨py, cy, rfl, hy1, hy2, hy3⟩ := IntS.form hy
  have HR := Lib.hid (fun W (h : Ext w W) => rsame05_any x.n y.n _ _ W (hx.ext h) (hy.ext h))
  clear hx hy
  unfold evC
  by_cases h0 : x.kind = y.kind
  case neg =>
    have q0 : (x.kind == y.kind) = false := beq_eq_false_iff_ne.2 h0
    have HV : Hid (sameE x y = false) := Lib.hid (by unfold sameE; simp [*])
    clear h0
    go_enter Tryz.func27, Tryz.ntmps27
    go_wp2_with (first | ((with_reducible apply wl_store' lwEv); (· (first | exact wanted_none rfl | exact wanted_some rfl rfl rfl)); (· rfl); (· rfl); (· infer_instance); (· rfl); (· rfl); (· (simp [Value.oneCell', SlT.v])); try simp only [setRow_alloc, setRow_new, setRow_new1, setRow_new2, setRow_new11, setRow_new111]) | ((with_reducible apply wl_load' lwEv); (· (first | exact wanted_none rfl | exact wanted_some rfl rfl rfl)); (· rfl); (· infer_instance); (· rfl)))
    go_ret
    exact ⟨by rw [HV.out]; rfl, by exact ExtOf.of (by repeat' (first | (with_reducible exact Ext.refl _) | (with_reducible exact ExtOf.ext _) | (with_reducible refine Ext.trans ?_ (ExtOf.ext _)) | (with_reducible refine Ext.alloc ?_ _) | (with_reducible refine Ext.drew ?_) | (with_reducible refine Ext.setCell ?_ ?_ _) | (with_reducible refine Ext.setRow ?_ ?_ _) | (with_reducible exact HX.out) | (with_reducible refine Ext.trans ?_ HX.out) | (with_reducible refine Ext.below ?_ (Nat.le_refl _) _) | omega | (simp; done) | (simp; omega)))⟩
  by_cases h1 : x.at_ = y.at_
  case neg =>
    have q0 : (x.kind == y.kind) = true := beq_iff_eq.2 h0
    have q1 : (x.at_ == y.at_) = false := beq_eq_false_iff_ne.2 h1
    have HV : Hid (sameE x y = false) := Lib.hid (by unfold sameE; simp [*])
    clear h0 h1
    go_enter Tryz.func27, Tryz.ntmps27
    go_wp2_with (first | ((with_reducible apply wl_store' lwEv); (· (first | exact wanted_none rfl | exact wanted_some rfl rfl rfl)); (· rfl); (· rfl); (· infer_instance); (· rfl); (· rfl); (· (simp [Value.oneCell', SlT.v])); try simp only [setRow_alloc, setRow_new, setRow_new1, setRow_new2, setRow_new11, setRow_new111]) | ((with_reducible apply wl_load' lwEv); (· (first | exact wanted_none rfl | exact wanted_some rfl rfl rfl)); (· rfl); (· infer_instance); (· rfl)))
    go_ret
    exact ⟨by rw [HV.out]; rfl, by exact ExtOf.of (by repeat' (first | (with_reducible exact Ext.refl _) | (with_reducible exact ExtOf.ext _) | (with_reducible refine Ext.trans ?_ (ExtOf.ext _)) | (with_reducible refine Ext.alloc ?_ _) | (with_reducible refine Ext.drew ?_) | (with_reducible refine Ext.setCell ?_ ?_ _) | (with_reducible refine Ext.setRow ?_ ?_ _) | (with_reducible exact HX.out) | (with_reducible refine Ext.trans ?_ HX.out) | (with_reducible refine Ext.below ?_ (Nat.le_refl _) _) | omega | (simp; done) | (simp; omega)))⟩
  by_cases h2 : x.item = y.item
  case neg =>
    have q0 : (x.kind == y.kind) = true := beq_iff_eq.2 h0
    have q1 : (x.at_ == y.at_) = true := beq_iff_eq.2 h1
    have q2 : (x.item.toList == y.item.toList) = false := str_ne h2
    have HV : Hid (sameE x y = false) := Lib.hid (by unfold sameE; simp [*])
    clear h0 h1 h2
    go_enter Tryz.func27, Tryz.ntmps27
    go_wp2_with (first | ((with_reducible apply wl_store' lwEv); (· (first | exact wanted_none rfl | exact wanted_some rfl rfl rfl)); (· rfl); (· rfl); (· infer_instance); (· rfl); (· rfl); (· (simp [Value.oneCell', SlT.v])); try simp only [setRow_alloc, setRow_new, setRow_new1, setRow_new2, setRow_new11, setRow_new111]) | ((with_reducible apply wl_load' lwEv); (· (first | exact wanted_none rfl | exact wanted_some rfl rfl rfl)); (· rfl); (· infer_instance); (· rfl)))
    go_ret
    exact ⟨by rw [HV.out]; rfl, by exact ExtOf.of (by repeat' (first | (with_reducible exact Ext.refl _) | (with_reducible exact ExtOf.ext _) | (with_reducible refine Ext.trans ?_ (ExtOf.ext _)) | (with_reducible refine Ext.alloc ?_ _) | (with_reducible refine Ext.drew ?_) | (with_reducible refine Ext.setCell ?_ ?_ _) | (with_reducible refine Ext.setRow ?_ ?_ _) | (with_reducible exact HX.out) | (with_reducible refine Ext.trans ?_ HX.out) | (with_reducible refine Ext.below ?_ (Nat.le_refl _) _) | omega | (simp; done) | (simp; omega)))⟩
  by_cases h3 : x.of = y.of
  case neg =>
    have q0 : (x.kind == y.kind) = true := beq_iff_eq.2 h0
    have q1 : (x.at_ == y.at_) = true := beq_iff_eq.2 h1
    have q2 : (x.item.toList == y.item.toList) = true := str_eq h2
    have q3 : (x.of.toList == y.of.toList) = false := str_ne h3
    have HV : Hid (sameE x y = false) := Lib.hid (by unfold sameE; simp [*])
    clear h0 h1 h2 h3
    go_enter Tryz.func27, Tryz.ntmps27
    go_wp2_with (first | ((with_reducible apply wl_store' lwEv); (· (first | exact wanted_none rfl | exact wanted_some rfl rfl rfl)); (· rfl); (· rfl); (· infer_instance); (· rfl); (· rfl); (· (simp [Value.oneCell', SlT.v])); try simp only [setRow_alloc, setRow_new, setRow_new1, setRow_new2, setRow_new11, setRow_new111]) | ((with_reducible apply wl_load' lwEv); (· (first | exact wanted_none rfl | exact wanted_some rfl rfl rfl)); (· rfl); (· infer_instance); (· rfl)))
    go_ret
    exact ⟨by rw [HV.out]; rfl, by exact ExtOf.of (by repeat' (first | (with_reducible exact Ext.refl _) | (with_reducible exact ExtOf.ext _) | (with_reducible refine Ext.trans ?_ (ExtOf.ext _)) | (with_reducible refine Ext.alloc ?_ _) | (with_reducible refine Ext.drew ?_) | (with_reducible refine Ext.setCell ?_ ?_ _) | (with_reducible refine Ext.setRow ?_ ?_ _) | (with_reducible exact HX.out) | (with_reducible refine Ext.trans ?_ HX.out) | (with_reducible refine Ext.below ?_ (Nat.le_refl _) _) | omega | (simp; done) | (simp; omega)))⟩
  by_cases h4 : x.n = y.n
  case neg =>
    have q0 : (x.kind == y.kind) = true := beq_iff_eq.2 h0
    have q1 : (x.at_ == y.at_) = true := beq_iff_eq.2 h1
    have q2 : (x.item.toList == y.item.toList) = true := str_eq h2
    have q3 : (x.of.toList == y.of.toList) = true := str_eq h3
    have HN4 : Hid (decide (x.n = y.n) = false) := Lib.hid (decide_eq_false h4)
    have HV : Hid (sameE x y = false) := Lib.hid (by unfold sameE; simp [*])
    clear h0 h1 h2 h3 h4
    go_enter Tryz.func27, Tryz.ntmps27
    go_wp2_with (first | ((with_reducible apply wl_store' lwEv); (· (first | exact wanted_none rfl | exact wanted_some rfl rfl rfl)); (· rfl); (· rfl); (· infer_instance); (· rfl); (· rfl); (· (simp [Value.oneCell', SlT.v])); try simp only [setRow_alloc, setRow_new, setRow_new1, setRow_new2, setRow_new11, setRow_new111]) | ((with_reducible apply wl_load' lwEv); (· (first | exact wanted_none rfl | exact wanted_some rfl rfl rfl)); (· rfl); (· infer_instance); (· rfl)) | (go_at_call 57; refine (HR.out _ (by repeat' (first | (with_reducible exact Ext.refl _) | (with_reducible exact ExtOf.ext _) | (with_reducible refine Ext.trans ?_ (ExtOf.ext _)) | (with_reducible refine Ext.alloc ?_ _) | (with_reducible refine Ext.drew ?_) | (with_reducible refine Ext.setCell ?_ ?_ _) | (with_reducible refine Ext.setRow ?_ ?_ _) | (with_reducible exact HX.out) | (with_reducible refine Ext.trans ?_ HX.out) | (with_reducible refine Ext.below ?_ (Nat.le_refl _) _) | omega | (simp; done) | (simp; omega)))).mono ?_; rintro en w' ⟨rfl, n1, rfl⟩; rw [HN4.out]))
    go_ret
    exact ⟨by rw [HV.out]; rfl, by exact ExtOf.of (by repeat' (first | (with_reducible exact Ext.refl _) | (with_reducible exact ExtOf.ext _) | (with_reducible refine Ext.trans ?_ (ExtOf.ext _)) | (with_reducible refine Ext.alloc ?_ _) | (with_reducible refine Ext.drew ?_) | (with_reducible refine Ext.setCell ?_ ?_ _) | (with_reducible refine Ext.setRow ?_ ?_ _) | (with_reducible exact HX.out) | (with_reducible refine Ext.trans ?_ HX.out) | (with_reducible refine Ext.below ?_ (Nat.le_refl _) _) | omega | (simp; done) | (simp; omega)))⟩
  by_cases h5 : x.text = y.text
  case neg =>
    have q0 : (x.kind == y.kind) = true := beq_iff_eq.2 h0
    have q1 : (x.at_ == y.at_) = true := beq_iff_eq.2 h1
    have q2 : (x.item.toList == y.item.toList) = true := str_eq h2
    have q3 : (x.of.toList == y.of.toList) = true := str_eq h3
    have HN4 : Hid (decide (x.n = y.n) = true) := Lib.hid (decide_eq_true h4)
    have q5 : (x.text.toList == y.text.toList) = false := str_ne h5
    have HV : Hid (sameE x y = false) := Lib.hid (by unfold sameE; simp [*])
    clear h0 h1 h2 h3 h4 h5
    go_enter Tryz.func27, Tryz.ntmps27
    go_wp2_with (first | ((with_reducible apply wl_store' lwEv); (· (first | exact wanted_none rfl | exact wanted_some rfl rfl rfl)); (· rfl); (· rfl); (· infer_instance); (· rfl); (· rfl); (· (simp [Value.oneCell', SlT.v])); try simp only [setRow_alloc, setRow_new, setRow_new1, setRow_new2, setRow_new11, setRow_new111]) | ((with_reducible apply wl_load' lwEv); (· (first | exact wanted_none rfl | exact wanted_some rfl rfl rfl)); (· rfl); (· infer_instance); (· rfl)) | (go_at_call 57; refine (HR.out _ (by repeat' (first | (with_reducible exact Ext.refl _) | (with_reducible exact ExtOf.ext _) | (with_reducible refine Ext.trans ?_ (ExtOf.ext _)) | (with_reducible refine Ext.alloc ?_ _) | (with_reducible refine Ext.drew ?_) | (with_reducible refine Ext.setCell ?_ ?_ _) | (with_reducible refine Ext.setRow ?_ ?_ _) | (with_reducible exact HX.out) | (with_reducible refine Ext.trans ?_ HX.out) | (with_reducible refine Ext.below ?_ (Nat.le_refl _) _) | omega | (simp; done) | (simp; omega)))).mono ?_; rintro en w' ⟨rfl, n1, rfl⟩; rw [HN4.out]))
    go_ret
    exact ⟨by rw [HV.out]; rfl, by exact ExtOf.of (by repeat' (first | (with_reducible exact Ext.refl _) | (with_reducible exact ExtOf.ext _) | (with_reducible refine Ext.trans ?_ (ExtOf.ext _)) | (with_reducible refine Ext.alloc ?_ _) | (with_reducible refine Ext.drew ?_) | (with_reducible refine Ext.setCell ?_ ?_ _) | (with_reducible refine Ext.setRow ?_ ?_ _) | (with_reducible exact HX.out) | (with_reducible refine Ext.trans ?_ HX.out) | (with_reducible refine Ext.below ?_ (Nat.le_refl _) _) | omega | (simp; done) | (simp; omega)))⟩
  have q0 : (x.kind == y.kind) = true := beq_iff_eq.2 h0
  have q1 : (x.at_ == y.at_) = true := beq_iff_eq.2 h1
  have q2 : (x.item.toList == y.item.toList) = true := str_eq h2
  have q3 : (x.of.toList == y.of.toList) = true := str_eq h3
  have HN4 : Hid (decide (x.n = y.n) = true) := Lib.hid (decide_eq_true h4)
  have q5 : (x.text.toList == y.text.toList) = true := str_eq h5
  have HV : Hid (sameE x y = true) := Lib.hid (by unfold sameE; simp [*])
  clear h0 h1 h2 h3 h4 h5
  go_enter Tryz.func27, Tryz.ntmps27
  go_wp2_with (first | ((with_reducible apply wl_store' lwEv); (· (first | exact wanted_none rfl | exact wanted_some rfl rfl rfl)); (· rfl); (· rfl); (· infer_instance); (· rfl); (· rfl); (· (simp [Value.oneCell', SlT.v])); try simp only [setRow_alloc, setRow_new, setRow_new1, setRow_new2, setRow_new11, setRow_new111]) | ((with_reducible apply wl_load' lwEv); (· (first | exact wanted_none rfl | exact wanted_some rfl rfl rfl)); (· rfl); (· infer_instance); (· rfl)) | (go_at_call 57; refine (HR.out _ (by repeat' (first | (with_reducible exact Ext.refl _) | (with_reducible exact ExtOf.ext _) | (with_reducible refine Ext.trans ?_ (ExtOf.ext _)) | (with_reducible refine Ext.alloc ?_ _) | (with_reducible refine Ext.drew ?_) | (with_reducible refine Ext.setCell ?_ ?_ _) | (with_reducible refine Ext.setRow ?_ ?_ _) | (with_reducible exact HX.out) | (with_reducible refine Ext.trans ?_ HX.out) | (with_reducible refine Ext.below ?_ (Nat.le_refl _) _) | omega | (simp; done) | (simp; omega)))).mono ?_; rintro en w' ⟨rfl, n1, rfl⟩; rw [HN4.out]))
  go_ret
  exact ⟨by rw [HV.out]; rfl, by exact ExtOf.of (by repeat' (first | (with_reducible exact Ext.refl _) | (with_reducible exact ExtOf.ext _) | (with_reducible refine Ext.trans ?_ (ExtOf.ext _)) | (with_reducible refine Ext.alloc ?_ _) | (with_reducible refine Ext.drew ?_) | (with_reducible refine Ext.setCell ?_ ?_ _) | (with_reducible refine Ext.setRow ?_ ?_ _) | (with_reducible exact HX.out) | (with_reducible refine Ext.trans ?_ HX.out) | (with_reducible refine Ext.below ?_ (Nat.le_refl _) _) | omega | (simp; done) | (simp; omega)))⟩
end Go.Proofs.YtjfohapnjnopfaaGreatDoor
end
/-
  Chapter 61: equality of lists of events; is an event of a history one of the list?
-/
section
set_option linter.unusedVariables false
set_option linter.unusedSimpArgs false
namespace Go.Proofs.YtjfohapnjnopfaaGreatDoor
open Go.RowKit RepM

attribute [local go_sem] ExtOf.cell ExtOf.frozen Block.cell Block.frozen ExtB.cell ExtB.frozen alloc_cell alloc_frozen
set_option maxHeartbeats 1600000 in
set_option maxRecDepth 20000 in
theorem rsame61_any (a b : List EvP) (va vb : Value) (w : World) (ha : EvsS w va a) (hb : EvsS w vb b) : Calls Tryz.prog 10 #[va, vb] w fun e w' => e = .returned (.bool (sameL (evs a) (evs b))) ∧ ∃ n : ExtOf w, w' = n.val := by
  obtain ⟨pa, ca, rfl, ha1, ha2, ha3⟩ := EvsS.form ha
  obtain ⟨pb, cb, rfl, hb1, hb2, hb3⟩ := EvsS.form hb
  unfold maxLen at ha2 hb2
  have HA := Lib.hid ha
  have HB := Lib.hid hb
  clear ha hb
  have la : (evs a).length = a.length := by simp
  have lb : (evs b).length = b.length := by simp
  by_cases hl : a.length = b.length
  case neg =>
    have q0 : ((a.length : Int) != b.length) = true := bne_iff_ne.2 (by omega)
    have HE : Hid (sameL (evs a) (evs b) = false) := Lib.hid (sameL_ne (by omega))
    go_enter Tryz.func10, Tryz.ntmps10
    go_wp2_with fail
    go_ret
    exact ⟨by rw [HE.out]; rfl, by exact ExtOf.of (by repeat' (first | (with_reducible exact Ext.refl _) | (with_reducible exact ExtOf.ext _) | (with_reducible refine Ext.trans ?_ (ExtOf.ext _)) | (with_reducible refine Ext.alloc ?_ _) | (with_reducible refine Ext.drew ?_) | (with_reducible refine Ext.setCell ?_ ?_ _) | (with_reducible refine Ext.setRow ?_ ?_ _) | (with_reducible exact HX.out) | (with_reducible refine Ext.trans ?_ HX.out) | (with_reducible refine Ext.below ?_ (Nat.le_refl _) _) | omega | (simp; done) | (simp; omega)))⟩
  have q0 : ((a.length : Int) != b.length) = false := bne_eq_false_iff_eq.2 (by omega)
  have HL := Lib.hid hl
  clear hl
  go_enter Tryz.func10, Tryz.ntmps10
  go_wp2_with fail
  go_loopw [5] (fun vi wr => ∃ k : Nat, k ≤ a.length ∧ vi = .int .i64 k ∧ sameL (evs a) (evs b) = sameL ((evs a).drop k) ((evs b).drop k) ∧ Ext w wr) (fun i _ => a.length - (intOf i).toNat)
  case atStart => exact ⟨0, by omega, rfl, by rw [List.drop_zero, List.drop_zero], Ext.refl _⟩
  case round =>
    obtain ⟨k, hk, rfl, hd, hx⟩ := hrel
    have HD := Lib.hid hd
    have HX := Lib.hid hx
    clear hd hx
    by_cases hlt : k < a.length
    · have hlb : k < b.length := by have := HL.out; omega
      have HS := Lib.hid (sameL_drop (a := evs a) (b := evs b) (k := k) (by omega) (by omega))
      rw [evs_get (by omega), evs_get (by omega)] at HS
      obtain ⟨ba, oa, rfl, hra, hia⟩ := EvsS.elem (EvsS.ext HA.out HX.out) hlt
      obtain ⟨bb, ob, rfl, hrb, hib⟩ := EvsS.elem (EvsS.ext HB.out HX.out) hlb
      obtain ⟨⟨x, sx⟩, hex⟩ : ∃ z, z = a[k] := ⟨_, rfl⟩
      obtain ⟨⟨y, sy⟩, hey⟩ : ∃ z, z = b[k] := ⟨_, rfl⟩
      rw [← hex] at hra hia HS
      rw [← hey] at hrb hib HS
      simp only at hia hib HS
      have RA : Hid (wr.rangeAt ba (oa + k * 6) [.int .i64 x.kind, .int .i64 x.at_, .string x.item, .string x.of, sx.v, .string x.text]) := Lib.hid hra
      have RB : Hid (wr.rangeAt bb (ob + k * 6) [.int .i64 y.kind, .int .i64 y.at_, .string y.item, .string y.of, sy.v, .string y.text]) := Lib.hid hrb
      have HSM := Lib.hid (fun W (h : Ext wr W) => rsame58_any x y sx.v sy.v W (hia.ext h) (hib.ext h))
      unfold evC at HSM
      clear hra hrb hia hib hex hey
      obtain ⟨sb, hsb⟩ : ∃ sb, sb = sameE x y := ⟨_, rfl⟩
      rw [← hsb] at HS HSM
      clear hsb
      obtain ⟨p1, n1, c1⟩ := sx
      obtain ⟨p2, n2, c2⟩ := sy
      simp only [SlT.v] at *
      go_wp2_with fail
      refine wp_region_ext (by kernel_rfl) (by kernel_rfl) ?_
      repeat (first | go_big_quiet_skip | ((with_reducible apply q_loadM midEv RA.out); (· rfl); (· (first | exact wanted_none rfl | exact wanted_some rfl rfl rfl)); (· rfl); simp only [Act.put, List.setIfInBounds_toArray, List.set_cons_succ, List.set_cons_zero]) | ((with_reducible apply q_loadM midEv RB.out); (· rfl); (· (first | exact wanted_none rfl | exact wanted_some rfl rfl rfl)); (· rfl); simp only [Act.put, List.setIfInBounds_toArray, List.set_cons_succ, List.set_cons_zero]) | go_big_quiet_step ((go_at_call 27; exact ext_call (HSM.out _ (ExtOf.ext _)))))
      refine wpQuiet_nil ?_
      intro _ hw'
      obtain ⟨nq, hw''⟩ := hw'
      subst hw''
      cases sb
      · go_wp2_with fail
        go_ret
        exact ⟨by rw [HD.out, HS.out]; rfl, ExtOf.of (HX.out.trans nq.ext)⟩
      · go_wp2_with fail
        go_roundw
        case rel => exact ⟨k + 1, by omega, by first | rfl | go_num, by rw [HD.out, HS.out]; rfl, HX.out.trans nq.ext⟩
        case measure => simp [intOf]; omega
    · obtain rfl : k = a.length := by omega
      have HT : Hid (sameL (evs a) (evs b) = true) := Lib.hid (by rw [HD.out, List.drop_of_length_le (by omega), List.drop_of_length_le (by have := HL.out; omega)]; rfl)
      go_wp2_with fail
      go_ret
      exact ⟨by rw [HT.out]; rfl, ExtOf.of HX.out⟩
end Go.Proofs.YtjfohapnjnopfaaGreatDoor
end
/-
  Chapter 61: is an event of a history one of the list?
-/
section
set_option linter.unusedVariables false
set_option linter.unusedSimpArgs false
namespace Go.Proofs.YtjfohapnjnopfaaGreatDoor
open Go.RowKit RepM

attribute [local go_sem] ExtOf.cell ExtOf.frozen Block.cell Block.frozen ExtB.cell ExtB.frozen alloc_cell alloc_frozen
theorem within_end {la lb : List Int} {k i : Nat} (h : withB la lb = withB (la.drop k) (lb.drop i)) (hk : k ≤ la.length) (hs : la.length ≤ k + 1 ∨ lb.length ≤ i + 1) : withB la lb = ((k : Int) == la.length) := by
  rw [h, withB_short (by rw [List.length_drop, List.length_drop]; omega)]
  rw [Bool.eq_iff_iff, List.isEmpty_iff, List.drop_eq_nil_iff, beq_iff_eq]
  omega
set_option maxHeartbeats 1600000 in
set_option maxRecDepth 20000 in
theorem within_any (la lb : List Int) (va vb : Value) (w : World) (ha : IntS w va la) (hb : IntS w vb lb) (hla : la.length ≤ 100000) (hlb : lb.length ≤ 100000) : Calls Tryz.prog 33 #[va, vb] w fun e w' => e = .returned (.bool (withB la lb)) ∧ ∃ n : ExtOf w, w' = n.val := by
  obtain ⟨pa, ca, rfl, ha1, ha2, ha3⟩ := IntS.form ha
  obtain ⟨pb, cb, rfl, hb1, hb2, hb3⟩ := IntS.form hb
  have HA := Lib.hid ha
  have HB := Lib.hid hb
  clear ha hb
  go_enter Tryz.func33, Tryz.ntmps33
  go_wp2_with fail
  go_loopw [5, 6] (fun vk vi wr => ∃ k i : Nat, k ≤ la.length ∧ i ≤ lb.length + 1 ∧ vk = .int .i64 k ∧ vi = .int .i64 i ∧ withB la lb = withB (la.drop k) (lb.drop i) ∧ Ext w wr) (fun _ i _ => lb.length + 2 - (intOf i).toNat)
  case atStart => exact ⟨0, 0, by omega, by omega, rfl, rfl, by rw [List.drop_zero, List.drop_zero], Ext.refl _⟩
  case round =>
    obtain ⟨k, i, hk, hi, rfl, rfl, hd, hx⟩ := hrel
    have HD := Lib.hid hd
    have HX := Lib.hid hx
    clear hd hx
    by_cases hib : i + 1 < lb.length
    · by_cases hka : k + 1 < la.length
      · have HS := Lib.hid (withB_drop hka hib)
        have q1 : decide ((i : Int) + 1 < lb.length) = true := decide_eq_true (by omega)
        have q2 : decide ((k : Int) + 1 < la.length) = true := decide_eq_true (by omega)
        obtain ⟨ba, oa, rfl, ea⟩ := IntS.elem (IntS.ext HA.out HX.out) (i := k) (by omega)
        obtain ⟨b', o', hq, ea1⟩ := IntS.elem (IntS.ext HA.out HX.out) hka
        cases hq
        obtain ⟨bb, ob, rfl, eb⟩ := IntS.elem (IntS.ext HB.out HX.out) (i := i) (by omega)
        obtain ⟨b', o', hq, eb1⟩ := IntS.elem (IntS.ext HB.out HX.out) hib
        cases hq
        have oba := Old.of_cell ea
        have obb := Old.of_cell eb
        generalize la[k]'(by omega) = a0 at *
        generalize la[k + 1] = a1 at *
        generalize lb[i]'(by omega) = b0 at *
        generalize lb[i + 1] = b1 at *
        by_cases h0 : a0 = b0
        · have q3 : (a0 == b0) = true := beq_iff_eq.2 h0
          by_cases h1 : a1 = b1
          · have q4 : (a1 == b1) = true := beq_iff_eq.2 h1
            rw [if_pos ⟨h0, h1⟩] at HS
            clear h0 h1
            go_wp2_with fail
            refine wp_region_ext (by kernel_rfl) (by kernel_rfl) ?_
            repeat (first | go_big_quiet_skip | go_big_quiet_step (fail))
            refine wpQuiet_nil ?_
            intro _ hw'
            obtain ⟨nq, hw''⟩ := hw'
            subst hw''
            go_wp2_with fail
            go_roundw
            case rel => exact ⟨k + 2, i + 2, by omega, by omega, by first | rfl | go_num, by first | rfl | go_num, by rw [HD.out, HS.out], HX.out.trans nq.ext⟩
            case measure => simp [intOf]; omega
          · have q4 : (a1 == b1) = false := beq_eq_false_iff_ne.2 h1
            rw [if_neg (fun h => h1 h.2)] at HS
            clear h0 h1
            go_wp2_with fail
            refine wp_region_ext (by kernel_rfl) (by kernel_rfl) ?_
            repeat (first | go_big_quiet_skip | go_big_quiet_step (fail))
            refine wpQuiet_nil ?_
            intro _ hw'
            obtain ⟨nq, hw''⟩ := hw'
            subst hw''
            go_wp2_with fail
            go_roundw
            case rel => exact ⟨k, i + 2, by omega, by omega, by first | rfl | go_num, by first | rfl | go_num, by rw [HD.out, HS.out], HX.out.trans nq.ext⟩
            case measure => simp [intOf]; omega
        · have q3 : (a0 == b0) = false := beq_eq_false_iff_ne.2 h0
          rw [if_neg (fun h => h0 h.1)] at HS
          clear h0
          go_wp2_with fail
          refine wp_region_ext (by kernel_rfl) (by kernel_rfl) ?_
          repeat (first | go_big_quiet_skip | go_big_quiet_step (fail))
          refine wpQuiet_nil ?_
          intro _ hw'
          obtain ⟨nq, hw''⟩ := hw'
          subst hw''
          go_wp2_with fail
          go_roundw
          case rel => exact ⟨k, i + 2, by omega, by omega, by first | rfl | go_num, by first | rfl | go_num, by rw [HD.out, HS.out], HX.out.trans nq.ext⟩
          case measure => simp [intOf]; omega
      · have q1 : decide ((i : Int) + 1 < lb.length) = true := decide_eq_true (by omega)
        have q2 : decide ((k : Int) + 1 < la.length) = false := decide_eq_false (by omega)
        have HT : Hid (withB la lb = ((k : Int) == la.length)) := Lib.hid (within_end HD.out hk (.inl (by omega)))
        go_wp2_with fail
        go_ret
        exact ⟨by rw [HT.out]; rfl, ExtOf.of HX.out⟩
    · have q1 : decide ((i : Int) + 1 < lb.length) = false := decide_eq_false (by omega)
      have HT : Hid (withB la lb = ((k : Int) == la.length)) := Lib.hid (within_end HD.out hk (.inr (by omega)))
      go_wp2_with fail
      go_ret
      exact ⟨by rw [HT.out]; rfl, ExtOf.of HX.out⟩
set_option maxHeartbeats 1600000 in
set_option maxRecDepth 20000 in
theorem matches_any (x y : Ev) (vx vy : Value) (w : World) (hx : IntS w vx x.n) (hy : IntS w vy y.n) (hlx : x.n.length ≤ 100000) (hly : y.n.length ≤ 100000) : Calls Tryz.prog 15 #[.agg (evC x vx), .agg (evC y vy)] w fun e w' => e = .returned (.bool (matchE x y)) ∧ ∃ n : ExtOf w, w' = n.val := by
  obtain ⟨px, cx, rfl, hx1, hx2, hx3⟩ := IntS.form hx
  obtain ⟨py, cy, rfl, hy1, hy2, hy3⟩ := IntS.form hy
  have HW := Lib.hid (fun W (h : Ext w W) => within_any x.n y.n _ _ W (hx.ext h) (hy.ext h) hlx hly)
  have HSA := Lib.hid (fun W (h : Ext w W) => rsame58_any x y _ _ W (hx.ext h) (hy.ext h))
  have HSB := Lib.hid (fun W (h : Ext w W) => rsame58_any { x with n := y.n } y (.slice py y.n.length cy) _ W (hy.ext h) (hy.ext h))
  clear hx hy
  unfold evC at *
  by_cases h0 : x.kind = 9
  case neg =>
    have q0 : (x.kind == 9) = false := beq_eq_false_iff_ne.2 h0
    have HM : Hid (matchE x y = sameE x y) := Lib.hid (by unfold matchE; rw [if_neg (fun h => h0 h.1)])
    clear h0
    go_enter Tryz.func15, Tryz.ntmps15
    go_wp2_with (first | ((with_reducible apply wl_store' lwEv); (· (first | exact wanted_none rfl | exact wanted_some rfl rfl rfl)); (· rfl); (· rfl); (· infer_instance); (· rfl); (· rfl); (· (simp [Value.oneCell', SlT.v])); try simp only [setRow_alloc, setRow_new, setRow_new1, setRow_new2, setRow_new11, setRow_new111]) | ((with_reducible apply wl_load' lwEv); (· (first | exact wanted_none rfl | exact wanted_some rfl rfl rfl)); (· rfl); (· infer_instance); (· rfl)) | (go_at_call 27; refine (HSA.out _ (by repeat' (first | (with_reducible exact Ext.refl _) | (with_reducible exact ExtOf.ext _) | (with_reducible refine Ext.trans ?_ (ExtOf.ext _)) | (with_reducible refine Ext.alloc ?_ _) | (with_reducible refine Ext.drew ?_) | (with_reducible refine Ext.setCell ?_ ?_ _) | (with_reducible refine Ext.setRow ?_ ?_ _) | (with_reducible exact HX.out) | (with_reducible refine Ext.trans ?_ HX.out) | (with_reducible refine Ext.below ?_ (Nat.le_refl _) _) | omega | (simp; done) | (simp; omega)))).mono ?_; rintro en w' ⟨rfl, n1, rfl⟩))
    go_ret
    exact ⟨by rw [HM.out]; rfl, by exact ExtOf.of (by repeat' (first | (with_reducible exact Ext.refl _) | (with_reducible exact ExtOf.ext _) | (with_reducible refine Ext.trans ?_ (ExtOf.ext _)) | (with_reducible refine Ext.alloc ?_ _) | (with_reducible refine Ext.drew ?_) | (with_reducible refine Ext.setCell ?_ ?_ _) | (with_reducible refine Ext.setRow ?_ ?_ _) | (with_reducible exact HX.out) | (with_reducible refine Ext.trans ?_ HX.out) | (with_reducible refine Ext.below ?_ (Nat.le_refl _) _) | omega | (simp; done) | (simp; omega)))⟩
  have q0 : (x.kind == 9) = true := beq_iff_eq.2 h0
  by_cases h1 : y.kind = 9
  case neg =>
    have q1 : (y.kind == 9) = false := beq_eq_false_iff_ne.2 h1
    have HM : Hid (matchE x y = sameE x y) := Lib.hid (by unfold matchE; rw [if_neg (fun h => h1 h.2.1)])
    clear h0 h1
    go_enter Tryz.func15, Tryz.ntmps15
    go_wp2_with (first | ((with_reducible apply wl_store' lwEv); (· (first | exact wanted_none rfl | exact wanted_some rfl rfl rfl)); (· rfl); (· rfl); (· infer_instance); (· rfl); (· rfl); (· (simp [Value.oneCell', SlT.v])); try simp only [setRow_alloc, setRow_new, setRow_new1, setRow_new2, setRow_new11, setRow_new111]) | ((with_reducible apply wl_load' lwEv); (· (first | exact wanted_none rfl | exact wanted_some rfl rfl rfl)); (· rfl); (· infer_instance); (· rfl)) | (go_at_call 27; refine (HSA.out _ (by repeat' (first | (with_reducible exact Ext.refl _) | (with_reducible exact ExtOf.ext _) | (with_reducible refine Ext.trans ?_ (ExtOf.ext _)) | (with_reducible refine Ext.alloc ?_ _) | (with_reducible refine Ext.drew ?_) | (with_reducible refine Ext.setCell ?_ ?_ _) | (with_reducible refine Ext.setRow ?_ ?_ _) | (with_reducible exact HX.out) | (with_reducible refine Ext.trans ?_ HX.out) | (with_reducible refine Ext.below ?_ (Nat.le_refl _) _) | omega | (simp; done) | (simp; omega)))).mono ?_; rintro en w' ⟨rfl, n1, rfl⟩))
    go_ret
    exact ⟨by rw [HM.out]; rfl, by exact ExtOf.of (by repeat' (first | (with_reducible exact Ext.refl _) | (with_reducible exact ExtOf.ext _) | (with_reducible refine Ext.trans ?_ (ExtOf.ext _)) | (with_reducible refine Ext.alloc ?_ _) | (with_reducible refine Ext.drew ?_) | (with_reducible refine Ext.setCell ?_ ?_ _) | (with_reducible refine Ext.setRow ?_ ?_ _) | (with_reducible exact HX.out) | (with_reducible refine Ext.trans ?_ HX.out) | (with_reducible refine Ext.below ?_ (Nat.le_refl _) _) | omega | (simp; done) | (simp; omega)))⟩
  have q1 : (y.kind == 9) = true := beq_iff_eq.2 h1
  have H0 := Lib.hid h0
  have H1 := Lib.hid h1
  clear h0 h1
  rcases hb : withB x.n y.n with _ | _
  · have HM : Hid (matchE x y = sameE x y) := Lib.hid (by unfold matchE; rw [if_neg (fun h => by rw [hb] at h; cases h.2.2)])
    rw [hb] at HW
    clear hb
    go_enter Tryz.func15, Tryz.ntmps15
    go_wp2_with (first | ((with_reducible apply wl_store' lwEv); (· (first | exact wanted_none rfl | exact wanted_some rfl rfl rfl)); (· rfl); (· rfl); (· infer_instance); (· rfl); (· rfl); (· (simp [Value.oneCell', SlT.v])); try simp only [setRow_alloc, setRow_new, setRow_new1, setRow_new2, setRow_new11, setRow_new111]) | ((with_reducible apply wl_load' lwEv); (· (first | exact wanted_none rfl | exact wanted_some rfl rfl rfl)); (· rfl); (· infer_instance); (· rfl)) | (go_at_call 33; refine (HW.out _ (by repeat' (first | (with_reducible exact Ext.refl _) | (with_reducible exact ExtOf.ext _) | (with_reducible refine Ext.trans ?_ (ExtOf.ext _)) | (with_reducible refine Ext.alloc ?_ _) | (with_reducible refine Ext.drew ?_) | (with_reducible refine Ext.setCell ?_ ?_ _) | (with_reducible refine Ext.setRow ?_ ?_ _) | (with_reducible exact HX.out) | (with_reducible refine Ext.trans ?_ HX.out) | (with_reducible refine Ext.below ?_ (Nat.le_refl _) _) | omega | (simp; done) | (simp; omega)))).mono ?_; rintro en w' ⟨rfl, n2, rfl⟩) | (go_at_call 27; refine (HSA.out _ (by repeat' (first | (with_reducible exact Ext.refl _) | (with_reducible exact ExtOf.ext _) | (with_reducible refine Ext.trans ?_ (ExtOf.ext _)) | (with_reducible refine Ext.alloc ?_ _) | (with_reducible refine Ext.drew ?_) | (with_reducible refine Ext.setCell ?_ ?_ _) | (with_reducible refine Ext.setRow ?_ ?_ _) | (with_reducible exact HX.out) | (with_reducible refine Ext.trans ?_ HX.out) | (with_reducible refine Ext.below ?_ (Nat.le_refl _) _) | omega | (simp; done) | (simp; omega)))).mono ?_; rintro en w' ⟨rfl, n1, rfl⟩))
    go_ret
    exact ⟨by rw [HM.out]; rfl, by exact ExtOf.of (by repeat' (first | (with_reducible exact Ext.refl _) | (with_reducible exact ExtOf.ext _) | (with_reducible refine Ext.trans ?_ (ExtOf.ext _)) | (with_reducible refine Ext.alloc ?_ _) | (with_reducible refine Ext.drew ?_) | (with_reducible refine Ext.setCell ?_ ?_ _) | (with_reducible refine Ext.setRow ?_ ?_ _) | (with_reducible exact HX.out) | (with_reducible refine Ext.trans ?_ HX.out) | (with_reducible refine Ext.below ?_ (Nat.le_refl _) _) | omega | (simp; done) | (simp; omega)))⟩
  · have HM : Hid (matchE x y = sameE { x with n := y.n } y) := Lib.hid (by unfold matchE; rw [if_pos ⟨H0.out, H1.out, hb⟩])
    rw [hb] at HW
    clear hb
    go_enter Tryz.func15, Tryz.ntmps15
    go_wp2_with (first | ((with_reducible apply wl_store' lwEv); (· (first | exact wanted_none rfl | exact wanted_some rfl rfl rfl)); (· rfl); (· rfl); (· infer_instance); (· rfl); (· rfl); (· (simp [Value.oneCell', SlT.v])); try simp only [setRow_alloc, setRow_new, setRow_new1, setRow_new2, setRow_new11, setRow_new111]) | ((with_reducible apply wl_load' lwEv); (· (first | exact wanted_none rfl | exact wanted_some rfl rfl rfl)); (· rfl); (· infer_instance); (· rfl)) | (go_at_call 33; refine (HW.out _ (by repeat' (first | (with_reducible exact Ext.refl _) | (with_reducible exact ExtOf.ext _) | (with_reducible refine Ext.trans ?_ (ExtOf.ext _)) | (with_reducible refine Ext.alloc ?_ _) | (with_reducible refine Ext.drew ?_) | (with_reducible refine Ext.setCell ?_ ?_ _) | (with_reducible refine Ext.setRow ?_ ?_ _) | (with_reducible exact HX.out) | (with_reducible refine Ext.trans ?_ HX.out) | (with_reducible refine Ext.below ?_ (Nat.le_refl _) _) | omega | (simp; done) | (simp; omega)))).mono ?_; rintro en w' ⟨rfl, n2, rfl⟩) | (go_at_call 27; refine (HSB.out _ (by repeat' (first | (with_reducible exact Ext.refl _) | (with_reducible exact ExtOf.ext _) | (with_reducible refine Ext.trans ?_ (ExtOf.ext _)) | (with_reducible refine Ext.alloc ?_ _) | (with_reducible refine Ext.drew ?_) | (with_reducible refine Ext.setCell ?_ ?_ _) | (with_reducible refine Ext.setRow ?_ ?_ _) | (with_reducible exact HX.out) | (with_reducible refine Ext.trans ?_ HX.out) | (with_reducible refine Ext.below ?_ (Nat.le_refl _) _) | omega | (simp; done) | (simp; omega)))).mono ?_; rintro en w' ⟨rfl, n1, rfl⟩))
    go_ret
    exact ⟨by rw [HM.out]; rfl, by exact ExtOf.of (by repeat' (first | (with_reducible exact Ext.refl _) | (with_reducible exact ExtOf.ext _) | (with_reducible refine Ext.trans ?_ (ExtOf.ext _)) | (with_reducible refine Ext.alloc ?_ _) | (with_reducible refine Ext.drew ?_) | (with_reducible refine Ext.setCell ?_ ?_ _) | (with_reducible refine Ext.setRow ?_ ?_ _) | (with_reducible exact HX.out) | (with_reducible refine Ext.trans ?_ HX.out) | (with_reducible refine Ext.below ?_ (Nat.le_refl _) _) | omega | (simp; done) | (simp; omega)))⟩
end Go.Proofs.YtjfohapnjnopfaaGreatDoor
end
