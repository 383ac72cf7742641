/-
  The contracts of the reference's Canon and Union.
-/
import Derived.Test.YtfbcaafkekcmbaaR1
namespace Go.Proofs.Ytfbcaafkekcmbaa
open Go.RowKit SpanM

attribute [local go_sem] ExtOf.cell ExtOf.frozen Block.cell Block.frozen ExtB.cell ExtB.frozen alloc_cell alloc_frozen

theorem insStep_len : ∀ (l : List Sp) (x : List Sp × Sp × List Sp), (l.foldl insStep x).1.length + (l.foldl insStep x).2.2.length ≤ x.1.length + x.2.2.length + l.length
  | [], x => by simp
  | s :: l, x => by
    have h := insStep_len l (insStep x s)
    have h2 : (insStep x s).1.length + (insStep x s).2.2.length ≤ x.1.length + x.2.2.length + 1 := by
      unfold insStep
      split
      · simp; omega
      · split <;> simp <;> omega
    simp only [List.foldl_cons, List.length_cons]
    omega
theorem ins_len (l : List Sp) (s : Sp) : (ins l s).length ≤ l.length + 1 := by
  have := insStep_len l ([], s, [])
  simp only [List.length_nil] at this
  unfold ins insAll
  simp only [List.length_append, List.length_singleton]
  omega
theorem rc_step {r l z : List Sp} {A B : Int} {k : Nat} (h : z = rcanonFrom r (l.drop k)) (hd : l.drop k = (A, B) :: l.drop (k + 1)) :
    (A < B → z = rcanonFrom (ins r (A, B)) (l.drop (k + 1))) ∧ (¬ A < B → z = rcanonFrom r (l.drop (k + 1))) := by
  rw [hd] at h
  unfold rcanonFrom at *
  rw [List.foldl_cons] at h
  constructor
  · intro c; rw [if_pos (by simpa [ne] using c)] at h; exact h
  · intro c; rw [if_neg (by simpa [ne] using c)] at h; exact h

set_option maxRecDepth 20000 in
set_option maxHeartbeats 1600000 in
theorem rcanon_any (p : Option Addr) (cap : Nat) (l : List Sp) (w : World) (hl : SpS w (.slice p l.length cap) l) (hlen : l.length ≤ 549755813888) :
    Calls Try.prog 19 #[.slice p l.length cap] w (RetS w (SpanM.canon l)) := by
  have HL := Lib.hid hl
  have HXW : Hid (Ext w w) := Lib.hid (Ext.refl w)
  have HFR0 : Hid (∀ a : Addr, (none : Option Addr) = some a → w.heap.size ≤ a.block) := Lib.hid (fun a ha => by cases ha)
  clear hl
  rw [← rcanon_eq]
  go_enter Try.func19, Try.ntmps19
  go_wp2
  go_loopw [3, 4] (fun v3 v wr => ∃ (k : Nat) (r : List Sp) (q : Option Addr) (c : Nat), k ≤ l.length ∧ r.length ≤ 0 + k ∧ v = .int .i64 k ∧ v3 = .slice q r.length c ∧ SpS wr (.slice q r.length c) r ∧ rcanonFrom ([] : List Sp) l = rcanonFrom r (l.drop k) ∧ (∀ a, q = some a → w.heap.size ≤ a.block) ∧ Ext w wr) (fun _ v _ => l.length - (intOf v).toNat)
  case atStart => exact ⟨0, ([] : List Sp), none, 0, by omega, Nat.le_refl _, rfl, rfl, SliceOf.nil _, rfl, HFR0.out, Ext.refl _⟩
  case round =>
    obtain ⟨k, r, q, c, hk, hr, rfl, rfl, hs, hf, hfr, hx⟩ := hrel
    have HX := Lib.hid hx
    have HF := Lib.hid hf
    have HS := Lib.hid hs
    have HFR := Lib.hid hfr
    clear hx hf hs hfr
    by_cases hlt : k < l.length
    · obtain ⟨A, B, b, off, hd, hm, rfl, hold, c0, c1⟩ := SpS.elem (SliceOf.ext HL.out HX.out) hlt
      have HD := Lib.hid (rc_step HF.out hd)
      have hil := ins_len r (A, B)
      clear hd hm
      rcases t1 : decide (A < B) with _ | _
      · go_wp2
        refine wp_region_ext (by kernel_rfl) (by kernel_rfl) ?_
        repeat (first | go_big_quiet_skip | go_big_quiet_step (fail))
        refine wpQuiet_nil ?_
        intro _ hw'
        obtain ⟨nq, hw''⟩ := hw'
        subst hw''
        go_wp2
        go_roundw
        case rel => exact ⟨k + 1, r, q, c, by omega, by omega, by go_num, rfl, SliceOf.ext HS.out (by repeat' (first | (with_reducible exact Ext.refl _) | (with_reducible exact ExtOf.ext _) | (with_reducible refine Ext.trans ?_ (ExtOf.ext _)) | (with_reducible refine Ext.alloc ?_ _) | (with_reducible refine Ext.drew ?_) | (with_reducible refine Ext.setCell ?_ ?_ _) | (with_reducible refine Ext.setRow ?_ ?_ _) | (with_reducible exact HX.out) | (with_reducible refine Ext.trans ?_ HX.out) | (with_reducible refine Ext.below ?_ (Nat.le_refl _) _) | (simp; done) | (simp; omega))), HD.out.2 (by simpa using t1), HFR.out, by repeat' (first | (with_reducible exact Ext.refl _) | (with_reducible exact ExtOf.ext _) | (with_reducible refine Ext.trans ?_ (ExtOf.ext _)) | (with_reducible refine Ext.alloc ?_ _) | (with_reducible refine Ext.drew ?_) | (with_reducible refine Ext.setCell ?_ ?_ _) | (with_reducible refine Ext.setRow ?_ ?_ _) | (with_reducible exact HX.out) | (with_reducible refine Ext.trans ?_ HX.out) | (with_reducible refine Ext.below ?_ (Nat.le_refl _) _) | (simp; done) | (simp; omega))⟩
        case measure => simp [intOf]; omega
      · go_wp2
        refine wp_region_ext (by kernel_rfl) (by kernel_rfl) ?_
        repeat (first | go_big_quiet_skip | go_big_quiet_step (fail))
        refine wpQuiet_nil ?_
        intro _ hw'
        obtain ⟨nq, hw''⟩ := hw'
        subst hw''
        have hq : w.heap.size ≤ nq.val.heap.size := Nat.le_trans HX.out.size nq.size
        have hw0 := HXW.out.size
        go_wp2_with (go_at_call 41; refine (insert_any q c r (A, B) _ (SliceOf.ext HS.out (by repeat' (first | (with_reducible exact Ext.refl _) | (with_reducible exact ExtOf.ext _) | (with_reducible refine Ext.trans ?_ (ExtOf.ext _)) | (with_reducible refine Ext.alloc ?_ _) | (with_reducible refine Ext.drew ?_) | (with_reducible refine Ext.setCell ?_ ?_ _) | (with_reducible refine Ext.setRow ?_ ?_ _) | (with_reducible exact HX.out) | (with_reducible refine Ext.trans ?_ HX.out) | (with_reducible refine Ext.below ?_ (Nat.le_refl _) _) | (simp; done) | (simp; omega)))) (by omega)).mono ?_; rintro e w' ⟨q2, c2, rfl, hs2, hfr2, n2, rfl⟩; have HS2 := Lib.hid hs2; have HFR2 := Lib.hid hfr2; clear hs2 hfr2)
        go_roundw
        case rel => exact ⟨k + 1, ins r (A, B), q2, c2, by omega, by omega, by go_num, rfl, HS2.out, HD.out.1 (by simpa using t1), (fun a ha => by have := HFR2.out a ha; omega), by repeat' (first | (with_reducible exact Ext.refl _) | (with_reducible exact ExtOf.ext _) | (with_reducible refine Ext.trans ?_ (ExtOf.ext _)) | (with_reducible refine Ext.alloc ?_ _) | (with_reducible refine Ext.drew ?_) | (with_reducible refine Ext.setCell ?_ ?_ _) | (with_reducible refine Ext.setRow ?_ ?_ _) | (with_reducible exact HX.out) | (with_reducible refine Ext.trans ?_ HX.out) | (with_reducible refine Ext.below ?_ (Nat.le_refl _) _) | (simp; done) | (simp; omega))⟩
        case measure => simp [intOf]; omega
    · have hfl : rcanonFrom ([] : List Sp) l = r := by rw [HF.out, List.drop_of_length_le (by omega)]; rfl
      have HR := Lib.hid hfl
      clear hfl
      go_wp2
      go_ret
      rw [HR.out]
      exact ⟨_, _, rfl, HS.out, HFR.out, ExtOf.of (Ext.trans HXW.out HX.out)⟩

set_option maxRecDepth 20000 in
set_option maxHeartbeats 1600000 in
theorem runion_any (p p' : Option Addr) (cap cap' : Nat) (a l : List Sp) (w : World) (ha : SpS w (.slice p a.length cap) a) (hl : SpS w (.slice p' l.length cap') l) (hlen : a.length ≤ 549755813888) (hlen2 : l.length ≤ 549755813888) :
    Calls Try.prog 23 #[.slice p a.length cap, .slice p' l.length cap'] w (RetS w (SpanM.canon (a ++ l))) := by
  have HA := Lib.hid ha
  have HL := Lib.hid hl
  clear hl ha
  have hca := canon_len a
  rw [← runion_eq, rcanon_eq]
  go_enter Try.func23, Try.ntmps23
  go_wp2_with fail
  refine (rcanon_any p cap a _ HA.out (by omega)).mono ?_
  rintro e w' ⟨q1, c1, rfl, hs1, hfr1, n1, rfl⟩
  have HS1 := Lib.hid hs1
  have HFR0 := Lib.hid hfr1
  have HXW : Hid (Ext w n1.val) := Lib.hid n1.ext
  clear hs1 hfr1
  have HL2 := Lib.hid (SliceOf.ext HL.out n1.ext)
  clear HL
  generalize n1.val = W at *
  clear n1
  go_wp2_with fail
  go_loopw [5, 6] (fun v3 v wr => ∃ (k : Nat) (r : List Sp) (q : Option Addr) (c : Nat), k ≤ l.length ∧ r.length ≤ 549755813888 + k ∧ v = .int .i64 k ∧ v3 = .slice q r.length c ∧ SpS wr (.slice q r.length c) r ∧ rcanonFrom (SpanM.canon a) l = rcanonFrom r (l.drop k) ∧ (∀ a, q = some a → w.heap.size ≤ a.block) ∧ Ext W wr) (fun _ v _ => l.length - (intOf v).toNat)
  case atStart => exact ⟨0, (SpanM.canon a), q1, c1, by omega, (by omega), rfl, rfl, HS1.out, rfl, HFR0.out, Ext.refl _⟩
  case round =>
    obtain ⟨k, r, q, c, hk, hr, rfl, rfl, hs, hf, hfr, hx⟩ := hrel
    have HX := Lib.hid hx
    have HF := Lib.hid hf
    have HS := Lib.hid hs
    have HFR := Lib.hid hfr
    clear hx hf hs hfr
    by_cases hlt : k < l.length
    · obtain ⟨A, B, b, off, hd, hm, rfl, hold, c0, c1⟩ := SpS.elem (SliceOf.ext HL2.out HX.out) hlt
      have HD := Lib.hid (rc_step HF.out hd)
      have hil := ins_len r (A, B)
      clear hd hm
      rcases t1 : decide (A < B) with _ | _
      · go_wp2
        refine wp_region_ext (by kernel_rfl) (by kernel_rfl) ?_
        repeat (first | go_big_quiet_skip | go_big_quiet_step (fail))
        refine wpQuiet_nil ?_
        intro _ hw'
        obtain ⟨nq, hw''⟩ := hw'
        subst hw''
        go_wp2
        go_roundw
        case rel => exact ⟨k + 1, r, q, c, by omega, by omega, by go_num, rfl, SliceOf.ext HS.out (by repeat' (first | (with_reducible exact Ext.refl _) | (with_reducible exact ExtOf.ext _) | (with_reducible refine Ext.trans ?_ (ExtOf.ext _)) | (with_reducible refine Ext.alloc ?_ _) | (with_reducible refine Ext.drew ?_) | (with_reducible refine Ext.setCell ?_ ?_ _) | (with_reducible refine Ext.setRow ?_ ?_ _) | (with_reducible exact HX.out) | (with_reducible refine Ext.trans ?_ HX.out) | (with_reducible refine Ext.below ?_ (Nat.le_refl _) _) | (simp; done) | (simp; omega))), HD.out.2 (by simpa using t1), HFR.out, by repeat' (first | (with_reducible exact Ext.refl _) | (with_reducible exact ExtOf.ext _) | (with_reducible refine Ext.trans ?_ (ExtOf.ext _)) | (with_reducible refine Ext.alloc ?_ _) | (with_reducible refine Ext.drew ?_) | (with_reducible refine Ext.setCell ?_ ?_ _) | (with_reducible refine Ext.setRow ?_ ?_ _) | (with_reducible exact HX.out) | (with_reducible refine Ext.trans ?_ HX.out) | (with_reducible refine Ext.below ?_ (Nat.le_refl _) _) | (simp; done) | (simp; omega))⟩
        case measure => simp [intOf]; omega
      · go_wp2
        refine wp_region_ext (by kernel_rfl) (by kernel_rfl) ?_
        repeat (first | go_big_quiet_skip | go_big_quiet_step (fail))
        refine wpQuiet_nil ?_
        intro _ hw'
        obtain ⟨nq, hw''⟩ := hw'
        subst hw''
        have hq : W.heap.size ≤ nq.val.heap.size := Nat.le_trans HX.out.size nq.size
        have hw0 := HXW.out.size
        go_wp2_with (go_at_call 41; refine (insert_any q c r (A, B) _ (SliceOf.ext HS.out (by repeat' (first | (with_reducible exact Ext.refl _) | (with_reducible exact ExtOf.ext _) | (with_reducible refine Ext.trans ?_ (ExtOf.ext _)) | (with_reducible refine Ext.alloc ?_ _) | (with_reducible refine Ext.drew ?_) | (with_reducible refine Ext.setCell ?_ ?_ _) | (with_reducible refine Ext.setRow ?_ ?_ _) | (with_reducible exact HX.out) | (with_reducible refine Ext.trans ?_ HX.out) | (with_reducible refine Ext.below ?_ (Nat.le_refl _) _) | (simp; done) | (simp; omega)))) (by omega)).mono ?_; rintro e w' ⟨q2, c2, rfl, hs2, hfr2, n2, rfl⟩; have HS2 := Lib.hid hs2; have HFR2 := Lib.hid hfr2; clear hs2 hfr2)
        go_roundw
        case rel => exact ⟨k + 1, ins r (A, B), q2, c2, by omega, by omega, by go_num, rfl, HS2.out, HD.out.1 (by simpa using t1), (fun a ha => by have := HFR2.out a ha; omega), by repeat' (first | (with_reducible exact Ext.refl _) | (with_reducible exact ExtOf.ext _) | (with_reducible refine Ext.trans ?_ (ExtOf.ext _)) | (with_reducible refine Ext.alloc ?_ _) | (with_reducible refine Ext.drew ?_) | (with_reducible refine Ext.setCell ?_ ?_ _) | (with_reducible refine Ext.setRow ?_ ?_ _) | (with_reducible exact HX.out) | (with_reducible refine Ext.trans ?_ HX.out) | (with_reducible refine Ext.below ?_ (Nat.le_refl _) _) | (simp; done) | (simp; omega))⟩
        case measure => simp [intOf]; omega
    · have hfl : rcanonFrom (SpanM.canon a) l = r := by rw [HF.out, List.drop_of_length_le (by omega)]; rfl
      have HR := Lib.hid hfl
      clear hfl
      go_wp2
      go_ret
      rw [HR.out]
      exact ⟨_, _, rfl, HS.out, HFR.out, ExtOf.of (Ext.trans HXW.out HX.out)⟩

end Go.Proofs.Ytfbcaafkekcmbaa
