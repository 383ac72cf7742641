/-
  The walk of the statement SpanLongest: it returns true.
-/
import Derived.Test.YtfbcaafkekcmbaaL4
import Derived.Test.YtfbcaafkekcmbaaR6
namespace Go.Proofs.Ytfbcaafkekcmbaa
open Go.RowKit SpanM

attribute [local go_sem] ExtOf.cell ExtOf.frozen Block.cell Block.frozen ExtB.cell ExtB.frozen alloc_cell alloc_frozen equal_span eqGuard_span
theorem longest_split {l : List Sp} (h : 0 < len (longest l)) : ∃ p q, SpanM.canon l = p ++ longest l :: q ∧ (∀ s ∈ p, len s < len (longest l)) ∧ ∀ s ∈ SpanM.canon l, len s ≤ len (longest l) := by
  obtain ⟨h1, h2, h3⟩ := longest_spec (l := SpanM.canon l) (b := (0, 0))
  rcases h3 with h3 | ⟨_, p, q, h4, h5⟩
  · have h4 : longest l = (0, 0) := h3
    rw [h4] at h
    exact absurd h (by decide)
  · exact ⟨p, q, h4, h5, h2⟩
set_option maxRecDepth 20000 in
set_option maxHeartbeats 3200000 in
theorem longest_go (p : Option Addr) (cap : Nat) (l X : List Sp) (M1 M2 : Int) (P : Nat) (w : World) (hl : SpS w (.slice p l.length cap) l) (la : l.length ≤ 40) (hXl : X.length ≤ 40)
    (C1 : ∀ w' : World, SpS w' (.slice p l.length cap) l → Calls Try.prog 18 #[.slice p l.length cap] w' (RetS w' X))
    (G1 : ∀ w' : World, SpS w' (.slice p l.length cap) l → Calls Try.prog 28 #[.slice p l.length cap] w' fun e w'' => e = .returned (.tuple #[.agg #[.int .i64 M1, .int .i64 M2], .bool true]) ∧ ∃ n : ExtOf w', w'' = n.val)
    (hI : ∀ s ∈ X, In s) (hIM : In (M1, M2)) (hle : ∀ s ∈ X, len s ≤ len (M1, M2)) (hP : X[P]? = some (M1, M2)) (hlt : ∀ (i : Nat) s, i < P → X[i]? = some s → len s < len (M1, M2)) :
    Calls Try.prog 10 #[.slice p l.length cap] w fun e w' => e = .returned (.bool true) ∧ ∃ n : ExtOf w, w' = n.val := by
  have HA := Lib.hid hl
  have HC := Lib.hid C1
  have HG := Lib.hid G1
  have HI := Lib.hid hI
  have HM := Lib.hid hIM
  have HLE := Lib.hid hle
  have HPP := Lib.hid hP
  have HLT := Lib.hid hlt
  have hPl : P < X.length := (List.getElem?_eq_some_iff.1 hP).1
  have t1 : decide (l.length ≤ 40) = true := by simpa using la
  clear hl C1 G1 hI hIM hle hP hlt
  go_enter Try.func10, Try.ntmps10
  go_wp2_with fail
  refine (few_any _ _ _ _).mono ?_
  rintro e w' ⟨rfl, n1, rfl⟩
  go_wp2_with fail
  refine (HC.out _ (SliceOf.ext HA.out (by repeat' (first | (with_reducible exact Ext.refl _) | (with_reducible exact ExtOf.ext _) | (with_reducible refine Ext.trans ?_ (ExtOf.ext _)) | (with_reducible refine Ext.alloc ?_ _) | (with_reducible refine Ext.drew ?_) | (with_reducible refine Ext.setCell ?_ ?_ _) | (with_reducible refine Ext.setRow ?_ ?_ _) | (with_reducible exact HX.out) | (with_reducible refine Ext.trans ?_ HX.out) | (with_reducible refine Ext.below ?_ (Nat.le_refl _) _) | (simp; done) | (simp; omega))))).mono ?_
  rintro e w' ⟨q1, c1, rfl, h1, _, n2, rfl⟩
  have HS := Lib.hid h1
  clear h1
  go_wp2_with fail
  refine (HG.out _ (SliceOf.ext HA.out (by repeat' (first | (with_reducible exact Ext.refl _) | (with_reducible exact ExtOf.ext _) | (with_reducible refine Ext.trans ?_ (ExtOf.ext _)) | (with_reducible refine Ext.alloc ?_ _) | (with_reducible refine Ext.drew ?_) | (with_reducible refine Ext.setCell ?_ ?_ _) | (with_reducible refine Ext.setRow ?_ ?_ _) | (with_reducible exact HX.out) | (with_reducible refine Ext.trans ?_ HX.out) | (with_reducible refine Ext.below ?_ (Nat.le_refl _) _) | (simp; done) | (simp; omega))))).mono ?_
  rintro e w' ⟨rfl, n3, rfl⟩
  have HS3 : Hid (SpS n3.val (.slice q1 X.length c1) X) := Lib.hid (SliceOf.ext HS.out (by repeat' (first | (with_reducible exact Ext.refl _) | (with_reducible exact ExtOf.ext _) | (with_reducible refine Ext.trans ?_ (ExtOf.ext _)) | (with_reducible refine Ext.alloc ?_ _) | (with_reducible refine Ext.drew ?_) | (with_reducible refine Ext.setCell ?_ ?_ _) | (with_reducible refine Ext.setRow ?_ ?_ _) | (with_reducible exact HX.out) | (with_reducible refine Ext.trans ?_ HX.out) | (with_reducible refine Ext.below ?_ (Nat.le_refl _) _) | (simp; done) | (simp; omega))))
  have HX3 : Hid (Ext w n3.val) := Lib.hid (by repeat' (first | (with_reducible exact Ext.refl _) | (with_reducible exact ExtOf.ext _) | (with_reducible refine Ext.trans ?_ (ExtOf.ext _)) | (with_reducible refine Ext.alloc ?_ _) | (with_reducible refine Ext.drew ?_) | (with_reducible refine Ext.setCell ?_ ?_ _) | (with_reducible refine Ext.setRow ?_ ?_ _) | (with_reducible exact HX.out) | (with_reducible refine Ext.trans ?_ HX.out) | (with_reducible refine Ext.below ?_ (Nat.le_refl _) _) | (simp; done) | (simp; omega)))
  clear HS HA HC HG
  generalize n3.val = W at *
  clear n3
  go_wp2_with fail
  go_loopw [6, 7] (fun v6 v wr => ∃ (k : Nat) (sn : Bool), k ≤ X.length ∧ v6 = .bool sn ∧ (sn = true ↔ P < k) ∧ v = .int .i64 k ∧ Block wr W.heap.size #[.int .i64 M1, .int .i64 M2] ∧ Ext W wr) (fun _ v _ => X.length - (intOf v).toNat)
  case atStart => exact ⟨0, false, by omega, rfl, by simp, rfl, inferInstance, by repeat' (first | (with_reducible exact Ext.refl _) | (with_reducible exact ExtOf.ext _) | (with_reducible refine Ext.trans ?_ (ExtOf.ext _)) | (with_reducible refine Ext.alloc ?_ _) | (with_reducible refine Ext.drew ?_) | (with_reducible refine Ext.setCell ?_ ?_ _) | (with_reducible refine Ext.setRow ?_ ?_ _) | (with_reducible exact HX.out) | (with_reducible refine Ext.trans ?_ HX.out) | (with_reducible refine Ext.below ?_ (Nat.le_refl _) _) | (simp; done) | (simp; omega))⟩
  case round =>
    obtain ⟨k, sn, hk, rfl, hsn, rfl, hB, hx⟩ := hrel
    have HX := Lib.hid hx
    have og := hB.old
    clear hx
    by_cases hlt : k < X.length
    · obtain ⟨A, B, b, off, hd, hm, rfl, hold, c0, c1⟩ := SpS.elem (SliceOf.ext HS3.out HX.out) hlt
      have HAB := Lib.hid (HI.out _ (List.mem_of_getElem? hm))
      have hle : decide (len (M1, M2) < len (A, B)) = false := by have := HLE.out _ (List.mem_of_getElem? hm); simp; omega
      rcases Nat.lt_trichotomy k P with hkP | hkP | hkP
      · have hl2 := HLT.out k _ hkP hm
        have hl3 : (len (A, B) == len (M1, M2)) = false := by rw [beq_eq_false_iff_ne]; omega
        obtain rfl : sn = false := by rcases sn with _ | _; rfl; exact absurd (hsn.1 rfl) (by omega)
        have hne : ¬ (A = M1 ∧ B = M2) := fun h => by rw [h.1, h.2] at hl2; omega
        have HNE := Lib.hid hne
        clear hd hm hsn hl2 hne
        rcases t5 : (A == M1) with _ | _
        · go_wp2
          refine wp_region_ext (by kernel_rfl) (by kernel_rfl) ?_
          repeat (first | go_big_quiet_skip | go_big_quiet_step ((go_at_call 11; first | (with_reducible exact ext_call (len_any (A, B) _ HAB.out)) | (with_reducible exact ext_call (len_any (M1, M2) _ HM.out)))))
          refine wpQuiet_nil ?_
          intro _ hw'
          obtain ⟨nq, hw''⟩ := hw'
          subst hw''
          go_wp2
          refine wp_region_ext (by kernel_rfl) (by kernel_rfl) ?_
          repeat (first | go_big_quiet_skip | go_big_quiet_step (fail))
          refine wpQuiet_nil ?_
          intro _ hw'
          obtain ⟨nq2, hw''⟩ := hw'
          subst hw''
          go_wp2
          go_roundw
          case rel => exact ⟨k + 1, false, by omega, rfl, (by first | (simp; done) | (simp; omega)), by go_num, inferInstance, by repeat' (first | (with_reducible exact Ext.refl _) | (with_reducible exact ExtOf.ext _) | (with_reducible refine Ext.trans ?_ (ExtOf.ext _)) | (with_reducible refine Ext.alloc ?_ _) | (with_reducible refine Ext.drew ?_) | (with_reducible refine Ext.setCell ?_ ?_ _) | (with_reducible refine Ext.setRow ?_ ?_ _) | (with_reducible exact HX.out) | (with_reducible refine Ext.trans ?_ HX.out) | (with_reducible refine Ext.below ?_ (Nat.le_refl _) _) | (simp; done) | (simp; omega))⟩
          case measure => simp [intOf]; omega
        · rcases t6 : (B == M2) with _ | _
          · go_wp2
            refine wp_region_ext (by kernel_rfl) (by kernel_rfl) ?_
            repeat (first | go_big_quiet_skip | go_big_quiet_step ((go_at_call 11; first | (with_reducible exact ext_call (len_any (A, B) _ HAB.out)) | (with_reducible exact ext_call (len_any (M1, M2) _ HM.out)))))
            refine wpQuiet_nil ?_
            intro _ hw'
            obtain ⟨nq, hw''⟩ := hw'
            subst hw''
            go_wp2
            refine wp_region_ext (by kernel_rfl) (by kernel_rfl) ?_
            repeat (first | go_big_quiet_skip | go_big_quiet_step (fail))
            refine wpQuiet_nil ?_
            intro _ hw'
            obtain ⟨nq2, hw''⟩ := hw'
            subst hw''
            go_wp2
            go_roundw
            case rel => exact ⟨k + 1, false, by omega, rfl, (by first | (simp; done) | (simp; omega)), by go_num, inferInstance, by repeat' (first | (with_reducible exact Ext.refl _) | (with_reducible exact ExtOf.ext _) | (with_reducible refine Ext.trans ?_ (ExtOf.ext _)) | (with_reducible refine Ext.alloc ?_ _) | (with_reducible refine Ext.drew ?_) | (with_reducible refine Ext.setCell ?_ ?_ _) | (with_reducible refine Ext.setRow ?_ ?_ _) | (with_reducible exact HX.out) | (with_reducible refine Ext.trans ?_ HX.out) | (with_reducible refine Ext.below ?_ (Nat.le_refl _) _) | (simp; done) | (simp; omega))⟩
            case measure => simp [intOf]; omega
          · exact absurd (⟨by simpa using t5, by simpa using t6⟩ : A = M1 ∧ B = M2) HNE.out
      · subst hkP
        obtain ⟨rfl, rfl⟩ : M1 = A ∧ M2 = B := by have := HPP.out; rw [hm] at this; simpa [eq_comm] using this
        obtain rfl : sn = false := by rcases sn with _ | _; rfl; exact absurd (hsn.1 rfl) (by omega)
        clear hd hm hsn
        go_wp2
        refine wp_region_ext (by kernel_rfl) (by kernel_rfl) ?_
        repeat (first | go_big_quiet_skip | go_big_quiet_step ((go_at_call 11; with_reducible exact ext_call (len_any (M1, M2) _ HM.out))))
        refine wpQuiet_nil ?_
        intro _ hw'
        obtain ⟨nq, hw''⟩ := hw'
        subst hw''
        go_wp2
        refine wp_region_ext (by kernel_rfl) (by kernel_rfl) ?_
        repeat (first | go_big_quiet_skip | go_big_quiet_step (fail))
        refine wpQuiet_nil ?_
        intro _ hw'
        obtain ⟨nq2, hw''⟩ := hw'
        subst hw''
        go_wp2
        go_roundw
        case rel => exact ⟨k + 1, true, by omega, rfl, (by first | (simp; done) | (simp; omega)), by go_num, inferInstance, by repeat' (first | (with_reducible exact Ext.refl _) | (with_reducible exact ExtOf.ext _) | (with_reducible refine Ext.trans ?_ (ExtOf.ext _)) | (with_reducible refine Ext.alloc ?_ _) | (with_reducible refine Ext.drew ?_) | (with_reducible refine Ext.setCell ?_ ?_ _) | (with_reducible refine Ext.setRow ?_ ?_ _) | (with_reducible exact HX.out) | (with_reducible refine Ext.trans ?_ HX.out) | (with_reducible refine Ext.below ?_ (Nat.le_refl _) _) | (simp; done) | (simp; omega))⟩
        case measure => simp [intOf]; omega
      · clear hd hm
        obtain rfl : sn = true := hsn.2 hkP
        clear hsn
        go_wp2
        refine wp_region_ext (by kernel_rfl) (by kernel_rfl) ?_
        repeat (first | go_big_quiet_skip | go_big_quiet_step ((go_at_call 11; first | (with_reducible exact ext_call (len_any (A, B) _ HAB.out)) | (with_reducible exact ext_call (len_any (M1, M2) _ HM.out)))))
        refine wpQuiet_nil ?_
        intro _ hw'
        obtain ⟨nq, hw''⟩ := hw'
        subst hw''
        go_wp2
        refine wp_region_ext (by kernel_rfl) (by kernel_rfl) ?_
        repeat (first | go_big_quiet_skip | go_big_quiet_step (fail))
        refine wpQuiet_nil ?_
        intro _ hw'
        obtain ⟨nq2, hw''⟩ := hw'
        subst hw''
        go_wp2
        go_roundw
        case rel => exact ⟨k + 1, true, by omega, rfl, (by first | (simp; done) | (simp; omega)), by go_num, inferInstance, by repeat' (first | (with_reducible exact Ext.refl _) | (with_reducible exact ExtOf.ext _) | (with_reducible refine Ext.trans ?_ (ExtOf.ext _)) | (with_reducible refine Ext.alloc ?_ _) | (with_reducible refine Ext.drew ?_) | (with_reducible refine Ext.setCell ?_ ?_ _) | (with_reducible refine Ext.setRow ?_ ?_ _) | (with_reducible exact HX.out) | (with_reducible refine Ext.trans ?_ HX.out) | (with_reducible refine Ext.below ?_ (Nat.le_refl _) _) | (simp; done) | (simp; omega))⟩
        case measure => simp [intOf]; omega
    · obtain rfl : sn = true := hsn.2 (by omega)
      clear hsn
      have HX := Lib.hid (Ext.trans HX3.out HX.out)
      go_wp2_with fail
      refine (awake_any _).mono ?_
      rintro e w' ⟨rfl, nz, rfl⟩
      go_wp2_with fail
      go_ret
      refine ⟨rfl, ?_⟩
      exact ExtOf.of (by repeat' (first | (with_reducible exact Ext.refl _) | (with_reducible exact ExtOf.ext _) | (with_reducible refine Ext.trans ?_ (ExtOf.ext _)) | (with_reducible refine Ext.alloc ?_ _) | (with_reducible refine Ext.drew ?_) | (with_reducible refine Ext.setCell ?_ ?_ _) | (with_reducible refine Ext.setRow ?_ ?_ _) | (with_reducible exact HX.out) | (with_reducible refine Ext.trans ?_ HX.out) | (with_reducible refine Ext.below ?_ (Nat.le_refl _) _) | (simp; done) | (simp; omega)))

set_option maxRecDepth 20000 in
set_option maxHeartbeats 3200000 in
theorem longest_walk (p : Option Addr) (cap : Nat) (l : List Sp) (w : World) (hl : SpS w (.slice p l.length cap) l) (hin : ∀ s ∈ l, In s) :
    Calls Try.prog 10 #[.slice p l.length cap] w fun e w' => e = .returned (.bool true) ∧ ∃ n : ExtOf w, w' = n.val := by
  rcases t1 : decide (l.length ≤ 40) with _ | _
  · go_enter Try.func10, Try.ntmps10
    go_wp2_with (first | (go_at_call 16; refine (few_any _ _ _ _).mono ?_; rintro e w' ⟨rfl, n, rfl⟩) | (go_at_call 15; refine (awake_any _).mono ?_; rintro e w' ⟨rfl, n, rfl⟩))
    go_ret
    refine ⟨rfl, ?_⟩
    exact ExtOf.of (by repeat' (first | (with_reducible exact Ext.refl _) | (with_reducible exact ExtOf.ext _) | (with_reducible refine Ext.trans ?_ (ExtOf.ext _)) | (with_reducible refine Ext.alloc ?_ _) | (with_reducible refine Ext.drew ?_) | (with_reducible refine Ext.setCell ?_ ?_ _) | (with_reducible refine Ext.setRow ?_ ?_ _) | (with_reducible exact HX.out) | (with_reducible refine Ext.trans ?_ HX.out) | (with_reducible refine Ext.below ?_ (Nat.le_refl _) _) | (simp; done) | (simp; omega)))
  · have la : l.length ≤ 40 := by simpa using t1
    have hcl := canon_len l
    have C1 := fun (w' : World) (h : SpS w' (.slice p l.length cap) l) => canon_any p cap l w' h (by omega)
    have G1 := fun (w' : World) (h : SpS w' (.slice p l.length cap) l) => longest_any p cap l w' h (by omega) hin
    rcases t2 : decide (0 < len (longest l)) with _ | _
    · have hX : SpanM.canon l = [] := by
        rcases hX : SpanM.canon l with _ | ⟨s, t⟩
        · rfl
        · rw [(longest_cons hX).2] at t2; cases t2
      obtain ⟨e1, e2⟩ := longest_nil hX
      rw [hX] at C1
      rw [e2, e1] at G1
      simp only at G1
      have HA := Lib.hid hl
      have HC := Lib.hid C1
      have HG := Lib.hid G1
      clear hl C1 G1 hin hcl e1 e2 hX t2
      go_enter Try.func10, Try.ntmps10
      go_wp2_with fail
      refine (few_any _ _ _ _).mono ?_
      rintro e w' ⟨rfl, n1, rfl⟩
      go_wp2_with fail
      refine (HC.out _ (SliceOf.ext HA.out (by repeat' (first | (with_reducible exact Ext.refl _) | (with_reducible exact ExtOf.ext _) | (with_reducible refine Ext.trans ?_ (ExtOf.ext _)) | (with_reducible refine Ext.alloc ?_ _) | (with_reducible refine Ext.drew ?_) | (with_reducible refine Ext.setCell ?_ ?_ _) | (with_reducible refine Ext.setRow ?_ ?_ _) | (with_reducible exact HX.out) | (with_reducible refine Ext.trans ?_ HX.out) | (with_reducible refine Ext.below ?_ (Nat.le_refl _) _) | (simp; done) | (simp; omega))))).mono ?_
      rintro e w' ⟨q1, c1, rfl, h1, _, n2, rfl⟩
      simp only [List.length_nil]
      go_wp2_with fail
      refine (HG.out _ (SliceOf.ext HA.out (by repeat' (first | (with_reducible exact Ext.refl _) | (with_reducible exact ExtOf.ext _) | (with_reducible refine Ext.trans ?_ (ExtOf.ext _)) | (with_reducible refine Ext.alloc ?_ _) | (with_reducible refine Ext.drew ?_) | (with_reducible refine Ext.setCell ?_ ?_ _) | (with_reducible refine Ext.setRow ?_ ?_ _) | (with_reducible exact HX.out) | (with_reducible refine Ext.trans ?_ HX.out) | (with_reducible refine Ext.below ?_ (Nat.le_refl _) _) | (simp; done) | (simp; omega))))).mono ?_
      rintro e w' ⟨rfl, n3, rfl⟩
      go_wp2_with fail
      refine (awake_any _).mono ?_
      rintro e w' ⟨rfl, nz, rfl⟩
      go_wp2_with fail
      go_ret
      refine ⟨rfl, ?_⟩
      exact ExtOf.of (by repeat' (first | (with_reducible exact Ext.refl _) | (with_reducible exact ExtOf.ext _) | (with_reducible refine Ext.trans ?_ (ExtOf.ext _)) | (with_reducible refine Ext.alloc ?_ _) | (with_reducible refine Ext.drew ?_) | (with_reducible refine Ext.setCell ?_ ?_ _) | (with_reducible refine Ext.setRow ?_ ?_ _) | (with_reducible exact HX.out) | (with_reducible refine Ext.trans ?_ HX.out) | (with_reducible refine Ext.below ?_ (Nat.le_refl _) _) | (simp; done) | (simp; omega)))
    · obtain ⟨pp, qq, h1, h2, h3⟩ := longest_split (of_decide_eq_true t2)
      have hI := canon_in hin
      rw [t2] at G1
      clear t2
      generalize longest l = M at *
      generalize SpanM.canon l = X at *
      obtain ⟨M1, M2⟩ := M
      simp only at G1
      have hP : X[pp.length]? = some (M1, M2) := by rw [h1]; simp
      refine longest_go p cap l X M1 M2 pp.length w hl la (by omega) C1 G1 hI (hI _ (List.mem_of_getElem? hP)) h3 hP (fun i s hi hs => h2 s ?_)
      rw [h1, List.getElem?_append_left hi] at hs
      exact List.mem_of_getElem? hs

end Go.Proofs.Ytfbcaafkekcmbaa
