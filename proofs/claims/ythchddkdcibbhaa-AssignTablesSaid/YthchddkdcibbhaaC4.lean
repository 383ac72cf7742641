/-
  The contracts of the reference's CountsOf and Valid.
-/
import Derived.Test.YthchddkdcibbhaaC3
namespace Go.Proofs.Ythchddkdcibbhaa
open Go.RowKit AssignM

attribute [local go_sem] ExtOf.cell ExtOf.frozen Block.cell Block.frozen ExtB.cell ExtB.frozen alloc_cell alloc_frozen

theorem cntI_len (l : List Int) (i : Nat) : cntI l i ≤ l.length := List.countP_le_length
set_option maxHeartbeats 800000 in
theorem countsOf_any (n : Nat) (to : List Int) (v1 : Value) (w : World) (hn : n ≤ 1048576) (ht : to.length ≤ 1048576) (h1 : IntS w v1 to) :
    Calls Try.prog 21 #[.int .i64 n, v1] w fun e w' => ∃ g, e = .returned (.slice (some ⟨g, 0, none⟩) n n) ∧ Block w' g (natCells (cntI to) n) ∧ ∃ m : ExtOf w, w' = m.val := by
  have hmk := run_make_row' (P := Try.prog) 29 3 (.int .i64 0) 8 Try.underlying29 infoI rfl .i64 .i64 n (by omega) (by omega)
  rw [natCells_made] at hmk
  obtain ⟨p1, cap1, rfl, hg4, hg5, hg6⟩ := SliceOf.form h1
  have H1 := Lib.hid h1
  clear h1
  go_enter Try.func21, Try.ntmps21
  go_wp2_with fail
  have hB0 : Block (w.alloc (.cells (natCells (fun _ => 0) n) 3)) w.heap.size (natCells (cntI (to.take 0)) n) := by
    have : natCells (cntI (to.take 0)) n = natCells (fun _ => 0) n := natCells_congr fun i _ => by simp [cntI]
    rw [this]; infer_instance
  have HX1 := Lib.hid ((Ext.refl w).alloc (.cells (natCells (fun _ => 0) n) 3))
  have hgc : w.heap.size ≤ w.heap.size := Nat.le_refl _
  clear hmk
  generalize w.alloc (.cells (natCells (fun _ => 0) n) 3) = W1 at *
  go_loopw [6] (fun v wr => ∃ k : Nat, k ≤ to.length ∧ v = .int .i64 k ∧ Block wr w.heap.size (natCells (cntI (to.take k)) n) ∧ Ext w wr) (fun v _ => to.length - (intOf v).toNat)
  case atStart => exact ⟨0, by omega, rfl, hB0, HX1.out⟩
  case round =>
    clear hB0 HX1
    obtain ⟨k, hk, rfl, hB, hx⟩ := hrel
    have HX := Lib.hid hx
    have oc := hB.old
    clear hx
    by_cases hlt : k < to.length
    · have HCT := Lib.hid (cntI_take hlt)
      obtain ⟨b1, off1, rfl, o1w, c1w⟩ := SliceOf.elem1 H1.out hlt rfl
      have hb1lt := o1w.lt
      have c1 := HX.out.cell c1w
      have o1 : Old b1 wr := Old.of_cell c1
      clear c1w o1w
      obtain ⟨x, hx0⟩ : ∃ x : Int, x = to[k] := ⟨_, rfl⟩
      rw [← hx0] at c1 HCT
      clear hx0
      by_cases u2 : 0 ≤ x ∧ x < n
      · obtain ⟨i, rfl⟩ : ∃ i : Nat, x = (i : Int) := ⟨x.toNat, by omega⟩
        have hi : i < n := by omega
        have d1 : decide ((0 : Int) ≤ (i : Int)) = true := by simp
        have d2 : decide ((i : Int) < (n : Int)) = true := by simp; omega
        have hci := natCells_get (c := cntI (to.take k)) hi
        have hcb : cntI (to.take k) i ≤ 1048576 := by have h8 := cntI_len (to.take k) i; rw [List.length_take] at h8; omega
        have HCS : Hid ((natCells (cntI (to.take k)) n).setIfInBounds i (.int .i64 ((cntI (to.take k) i : Int) + 1)) = natCells (cntI (to.take (k + 1))) n) := Lib.hid (by
          have e9 : ((cntI (to.take k) i : Int) + 1) = ((cntI (to.take k) i + 1 : Nat) : Int) := by omega
          rw [e9, natCells_set hi]
          exact natCells_congr fun j _ => by
            rw [HCT.out j]
            by_cases e : j = i
            · subst e; simp
            · rw [if_neg e, if_neg (by omega), Nat.add_zero])
        clear HCT
        go_wp2_with fail
        go_roundw
        case rel =>
          have hB2 : Block (wr.setCell ⟨w.heap.size, i, none⟩ (.int .i64 ((cntI (to.take k) i : Int) + 1))) w.heap.size ((natCells (cntI (to.take k)) n).setIfInBounds i (.int .i64 ((cntI (to.take k) i : Int) + 1))) := inferInstance
          rw [HCS.out] at hB2
          exact ⟨k + 1, by omega, by go_num, hB2, Ext.setCell HX.out hgc _⟩
        case measure => simp [intOf]; omega
      · have HC : Hid (natCells (cntI (to.take (k + 1))) n = natCells (cntI (to.take k)) n) := Lib.hid (natCells_congr fun j hj => by rw [HCT.out j, if_neg (by omega), Nat.add_zero])
        clear HCT
        rcases d1 : decide (0 ≤ x) with _ | _
        · go_wp2_with fail
          go_roundw
          case rel => exact ⟨k + 1, by omega, by go_num, by rw [HC.out]; exact hB, by repeat' (first | (with_reducible exact Ext.refl _) | (with_reducible exact ExtOf.ext _) | (with_reducible refine Ext.trans ?_ (ExtOf.ext _)) | (with_reducible refine Ext.alloc ?_ _) | (with_reducible refine Ext.drew ?_) | (with_reducible refine Ext.setCell ?_ ?_ _) | (with_reducible refine Ext.setRow ?_ ?_ _) | (with_reducible exact HX.out) | (with_reducible refine Ext.trans ?_ HX.out) | (with_reducible refine Ext.below ?_ (Nat.le_refl _) _) | (simp; done) | (simp; omega))⟩
          case measure => simp [intOf]; omega
        · have d2 : decide (x < (n : Int)) = false := by simp at d1 ⊢; omega
          go_wp2_with fail
          go_roundw
          case rel => exact ⟨k + 1, by omega, by go_num, by rw [HC.out]; exact hB, by repeat' (first | (with_reducible exact Ext.refl _) | (with_reducible exact ExtOf.ext _) | (with_reducible refine Ext.trans ?_ (ExtOf.ext _)) | (with_reducible refine Ext.alloc ?_ _) | (with_reducible refine Ext.drew ?_) | (with_reducible refine Ext.setCell ?_ ?_ _) | (with_reducible refine Ext.setRow ?_ ?_ _) | (with_reducible exact HX.out) | (with_reducible refine Ext.trans ?_ HX.out) | (with_reducible refine Ext.below ?_ (Nat.le_refl _) _) | (simp; done) | (simp; omega))⟩
          case measure => simp [intOf]; omega
    · rw [List.take_of_length_le (by omega)] at hB
      go_wp2_with fail
      go_ret
      exact ⟨_, rfl, hB, ExtOf.of HX.out⟩

theorem over_step {R : Nat} {m : Nat → Nat} {to : List Int} : overB R m to = false ↔ ∀ i, i < R → cntI to i ≤ m i := by
  constructor
  · intro h i hi
    unfold overB at h
    have := List.any_eq_false.1 h i (List.mem_range.2 hi)
    simp at this; omega
  · exact over_not
set_option maxRecDepth 20000 in
set_option maxHeartbeats 1600000 in
theorem rValid_any (F : List (List Bool)) (m to : List Int) (v0 v1 v2 : Value) (w : World) (hR : F.length ≤ 1048576) (hl : m.length ≤ 1048576) (ht : to.length ≤ 1048576) (hG : GridS w v0 F) (h1 : IntS w v1 m) (h2 : IntS w v2 to) :
    Calls Try.prog 20 #[v0, v1, v2] w fun e w' => e = .returned (.bool (validS F m to)) ∧ ∃ n : ExtOf w, w' = n.val := by
  obtain ⟨p0, cap0, rfl, hg1, hg2, hg3⟩ := hG.form
  obtain ⟨p1, cap1, rfl, hg4, hg5, hg6⟩ := SliceOf.form h1
  obtain ⟨p2, cap2, rfl, hg7, hg8, hg9⟩ := SliceOf.form h2
  have HG := Lib.hid hG
  have H1 := Lib.hid h1
  have H2 := Lib.hid h2
  clear hG h1 h2
  by_cases t0 : mostErr F m = 0
  · by_cases t1 : to.length = cols F
    · obtain ⟨e1, e2, e3⟩ := mostErr_ok t0
      obtain ⟨hrect, _, hc512⟩ := Rect.of e1
      have HRC := Lib.hid hrect
      have HE : Hid (validS F m to = (entsOk F 0 to && !overB F.length (nth (toNats m)) to)) := Lib.hid (by simp [validS, t0, t1])
      have HN1 := Lib.hid (IntS.nats H1.out (fun x hx => (e3 x hx).1))
      have HE2 := Lib.hid e2
      have T1 := Lib.hid t1
      have hneq : ((to.length : Int) != (cols F : Int)) = false := by simp; omega
      have hml : (toNats m).length = F.length := by simp [toNats, e2]
      clear hrect e1 e3 e2 t1
      go_enter Try.func20, Try.ntmps20
      go_wp2_with fail
      refine (rCounts_any F m _ _ _ hR HG.out H1.out hl).mono ?_
      rintro e w' ⟨vq, rfl, hvq, n1, rfl⟩
      rw [t0]
      clear hvq
      go_wp2_with fail
      refine (boards_any _ F _ (HG.out.ext n1.ext) (by omega)).mono ?_
      rintro e w' ⟨rfl, n2, rfl⟩
      have HX0 := Lib.hid (n1.ext.trans n2.ext)
      generalize n2.val = W0 at *
      clear n2 n1
      go_wp2_with fail
      go_loopw [9] (fun v wr => ∃ k : Nat, k ≤ to.length ∧ v = .int .i64 k ∧ entsOk F 0 to = entsOk F k (to.drop k) ∧ Ext w wr) (fun v _ => to.length - (intOf v).toNat)
      case atStart => exact ⟨0, by omega, rfl, rfl, HX0.out⟩
      case round =>
        clear HX0
        obtain ⟨k, hk, rfl, hs, hx⟩ := hrel
        have HX := Lib.hid hx
        clear hx
        by_cases hlt : k < to.length
        · have HS := Lib.hid (ents_step hs hlt)
          clear hs
          obtain ⟨b2, off2, rfl, o2, c2⟩ := SliceOf.elem1 (SliceOf.ext H2.out HX.out) hlt rfl
          obtain ⟨x, hx0⟩ : ∃ x : Int, x = to[k] := ⟨_, rfl⟩
          rw [← hx0] at c2 HS
          clear hx0
          by_cases u1 : x = -1
          · subst u1
            have HN := Lib.hid (HS.out.2 (by simp [entOk]))
            clear HS
            have d2 : decide ((F.length : Int) ≤ -1) = false := by simp; omega
            go_wp2_with fail
            go_roundw
            case rel => exact ⟨k + 1, by omega, by go_num, HN.out, by repeat' (first | (with_reducible exact Ext.refl _) | (with_reducible exact ExtOf.ext _) | (with_reducible refine Ext.trans ?_ (ExtOf.ext _)) | (with_reducible refine Ext.alloc ?_ _) | (with_reducible refine Ext.drew ?_) | (with_reducible refine Ext.setCell ?_ ?_ _) | (with_reducible refine Ext.setRow ?_ ?_ _) | (with_reducible exact HX.out) | (with_reducible refine Ext.trans ?_ HX.out) | (with_reducible refine Ext.below ?_ (Nat.le_refl _) _) | (simp; done) | (simp; omega))⟩
            case measure => simp [intOf]; omega
          · by_cases u2 : 0 ≤ x ∧ x < F.length
            · obtain ⟨i, rfl⟩ : ∃ i : Nat, x = (i : Int) := ⟨x.toNat, by omega⟩
              have hi : i < F.length := by omega
              have hkc : k < cols F := by have := T1.out; omega
              obtain ⟨b0, off0, rp, rc, rfl, ho0, c0, hrow⟩ := (HG.out.ext HX.out).row hi
              obtain ⟨hk', hfit⟩ := HRC.out.get hi hkc
              obtain ⟨b3, off3, rfl, ho3, c3⟩ := SliceOf.elem1 hrow hk' rfl
              have hrl := HRC.out.wide _ (List.getElem_mem hi)
              rw [← hfit] at c3
              rw [hrl] at c0
              clear hrow hrl hfit hk'
              have d0 : decide ((i : Int) < -1) = false := decide_eq_false (by omega)
              have d1 : decide ((0 : Int) ≤ (i : Int)) = true := by simp
              have d2 : decide ((F.length : Int) ≤ (i : Int)) = false := by simp; omega
              rcases t3 : fit F i k with _ | _
              · rw [t3] at c3
                have HN : Hid (validS F m to = false) := Lib.hid (by rw [HE.out, HS.out.1 (by first | (simp [entOk, t3]; done) | (simp [entOk, t3]; omega))]; rfl)
                clear HS
                go_wp2_with fail
                go_ret
                refine ⟨ret_bool (HN.out).symm, ?_⟩
                exact ExtOf.of (by repeat' (first | (with_reducible exact Ext.refl _) | (with_reducible exact ExtOf.ext _) | (with_reducible refine Ext.trans ?_ (ExtOf.ext _)) | (with_reducible refine Ext.alloc ?_ _) | (with_reducible refine Ext.drew ?_) | (with_reducible refine Ext.setCell ?_ ?_ _) | (with_reducible refine Ext.setRow ?_ ?_ _) | (with_reducible exact HX.out) | (with_reducible refine Ext.trans ?_ HX.out) | (with_reducible refine Ext.below ?_ (Nat.le_refl _) _) | (simp; done) | (simp; omega)))
              · rw [t3] at c3
                have HN := Lib.hid (HS.out.2 (by first | (simp [entOk, t3]; done) | (simp [entOk, t3]; omega)))
                clear HS
                go_wp2_with fail
                go_roundw
                case rel => exact ⟨k + 1, by omega, by go_num, HN.out, by repeat' (first | (with_reducible exact Ext.refl _) | (with_reducible exact ExtOf.ext _) | (with_reducible refine Ext.trans ?_ (ExtOf.ext _)) | (with_reducible refine Ext.alloc ?_ _) | (with_reducible refine Ext.drew ?_) | (with_reducible refine Ext.setCell ?_ ?_ _) | (with_reducible refine Ext.setRow ?_ ?_ _) | (with_reducible exact HX.out) | (with_reducible refine Ext.trans ?_ HX.out) | (with_reducible refine Ext.below ?_ (Nat.le_refl _) _) | (simp; done) | (simp; omega))⟩
                case measure => simp [intOf]; omega
            · have HN : Hid (validS F m to = false) := Lib.hid (by rw [HE.out, HS.out.1 (by unfold entOk; rw [decide_eq_false u1, decide_eq_false u2]; rfl)]; rfl)
              clear HS
              rcases d1 : decide (x < -1) with _ | _
              · have d2 : decide ((F.length : Int) ≤ x) = true := by simp at d1 ⊢; omega
                go_wp2_with fail
                go_ret
                refine ⟨ret_bool (HN.out).symm, ?_⟩
                exact ExtOf.of (by repeat' (first | (with_reducible exact Ext.refl _) | (with_reducible exact ExtOf.ext _) | (with_reducible refine Ext.trans ?_ (ExtOf.ext _)) | (with_reducible refine Ext.alloc ?_ _) | (with_reducible refine Ext.drew ?_) | (with_reducible refine Ext.setCell ?_ ?_ _) | (with_reducible refine Ext.setRow ?_ ?_ _) | (with_reducible exact HX.out) | (with_reducible refine Ext.trans ?_ HX.out) | (with_reducible refine Ext.below ?_ (Nat.le_refl _) _) | (simp; done) | (simp; omega)))
              · go_wp2_with fail
                go_ret
                refine ⟨ret_bool (HN.out).symm, ?_⟩
                exact ExtOf.of (by repeat' (first | (with_reducible exact Ext.refl _) | (with_reducible exact ExtOf.ext _) | (with_reducible refine Ext.trans ?_ (ExtOf.ext _)) | (with_reducible refine Ext.alloc ?_ _) | (with_reducible refine Ext.drew ?_) | (with_reducible refine Ext.setCell ?_ ?_ _) | (with_reducible refine Ext.setRow ?_ ?_ _) | (with_reducible exact HX.out) | (with_reducible refine Ext.trans ?_ HX.out) | (with_reducible refine Ext.below ?_ (Nat.le_refl _) _) | (simp; done) | (simp; omega)))
        · have hs0 : entsOk F 0 to = true := by rw [hs, List.drop_of_length_le (by omega)]; rfl
          have HE3 : Hid (validS F m to = !overB F.length (nth (toNats m)) to) := Lib.hid (by rw [HE.out, hs0]; rfl)
          clear hs hs0 HE
          go_wp2_with fail
          refine (countsOf_any F.length to _ _ (by omega) ht (SliceOf.ext H2.out HX.out)).mono ?_
          rintro e w' ⟨gc, rfl, hB, n3, rfl⟩
          have HX2 := Lib.hid (HX.out.trans n3.ext)
          generalize n3.val = W3 at *
          clear n3
          have HBC := Lib.hid hB
          clear hB
          go_wp2_with fail
          go_loopw [11] (fun v wr => ∃ k : Nat, k ≤ F.length ∧ v = .int .i64 k ∧ (∀ i, i < k → cntI to i ≤ nth (toNats m) i) ∧ Block wr gc (natCells (cntI to) F.length) ∧ Ext w wr) (fun v _ => F.length - (intOf v).toNat)
          case atStart => exact ⟨0, by omega, rfl, (fun i h => by omega), HBC.out, HX2.out⟩
          case round =>
            clear HBC HX2 HX
            obtain ⟨k2, hk2, rfl, hle, hB, hx⟩ := hrel
            have HX := Lib.hid hx
            have HLE := Lib.hid hle
            have oc := hB.old
            clear hx hle
            by_cases hlt2 : k2 < F.length
            · have hi' : k2 < (toNats m).length := by omega
              have him : k2 < m.length := by rw [HE2.out]; exact hlt2
              obtain ⟨b1, off1, rfl, o1, c1⟩ := SliceOf.elem1 (SliceOf.ext HN1.out HX.out) hi' rfl
              rw [← nth_eq hi'] at c1
              have hci := natCells_get (c := cntI to) hlt2
              rcases u5 : decide (nth (toNats m) k2 < cntI to k2) with _ | _
              · have u5' : decide ((nth (toNats m) k2 : Int) < (cntI to k2 : Int)) = false := by simp at u5 ⊢; omega
                have HL2 : Hid (∀ i, i < k2 + 1 → cntI to i ≤ nth (toNats m) i) := Lib.hid (fun i hi => by
                  rcases Nat.lt_or_ge i k2 with h | h
                  · exact HLE.out i h
                  · obtain rfl : i = k2 := by omega
                    simp at u5; omega)
                go_wp2_with fail
                refine wp_region_ext (by kernel_rfl) (by kernel_rfl) ?_
                repeat (first | go_big_quiet_skip | go_big_quiet_step (fail))
                refine wpQuiet_nil ?_
                intro _ hw'
                obtain ⟨nq, hw''⟩ := hw'
                subst hw''
                go_wp2_with fail
                go_roundw
                case rel => exact ⟨k2 + 1, by omega, by go_num, HL2.out, hB.ext nq.ext, by repeat' (first | (with_reducible exact Ext.refl _) | (with_reducible exact ExtOf.ext _) | (with_reducible refine Ext.trans ?_ (ExtOf.ext _)) | (with_reducible refine Ext.alloc ?_ _) | (with_reducible refine Ext.drew ?_) | (with_reducible refine Ext.setCell ?_ ?_ _) | (with_reducible refine Ext.setRow ?_ ?_ _) | (with_reducible exact HX.out) | (with_reducible refine Ext.trans ?_ HX.out) | (with_reducible refine Ext.below ?_ (Nat.le_refl _) _) | (simp; done) | (simp; omega))⟩
                case measure => simp [intOf]; omega
              · have u5' : decide ((nth (toNats m) k2 : Int) < (cntI to k2 : Int)) = true := by simp at u5 ⊢; omega
                have HN : Hid (validS F m to = false) := Lib.hid (by
                  rw [HE3.out]
                  cases ho : overB F.length (nth (toNats m)) to
                  · have := over_step.1 ho k2 hlt2; simp at u5; omega
                  · rfl)
                go_wp2_with fail
                refine wp_region_ext (by kernel_rfl) (by kernel_rfl) ?_
                repeat (first | go_big_quiet_skip | go_big_quiet_step (fail))
                refine wpQuiet_nil ?_
                intro _ hw'
                obtain ⟨nq, hw''⟩ := hw'
                subst hw''
                go_wp2_with fail
                go_ret
                refine ⟨ret_bool (HN.out).symm, ?_⟩
                exact ExtOf.of (by repeat' (first | (with_reducible exact Ext.refl _) | (with_reducible exact ExtOf.ext _) | (with_reducible refine Ext.trans ?_ (ExtOf.ext _)) | (with_reducible refine Ext.alloc ?_ _) | (with_reducible refine Ext.drew ?_) | (with_reducible refine Ext.setCell ?_ ?_ _) | (with_reducible refine Ext.setRow ?_ ?_ _) | (with_reducible exact HX.out) | (with_reducible refine Ext.trans ?_ HX.out) | (with_reducible refine Ext.below ?_ (Nat.le_refl _) _) | (simp; done) | (simp; omega)))
            · have HN : Hid (validS F m to = true) := Lib.hid (by rw [HE3.out, over_not (fun i hi => HLE.out i (by omega))]; rfl)
              go_wp2_with fail
              go_ret
              refine ⟨ret_bool (HN.out).symm, ?_⟩
              exact ExtOf.of (by repeat' (first | (with_reducible exact Ext.refl _) | (with_reducible exact ExtOf.ext _) | (with_reducible refine Ext.trans ?_ (ExtOf.ext _)) | (with_reducible refine Ext.alloc ?_ _) | (with_reducible refine Ext.drew ?_) | (with_reducible refine Ext.setCell ?_ ?_ _) | (with_reducible refine Ext.setRow ?_ ?_ _) | (with_reducible exact HX.out) | (with_reducible refine Ext.trans ?_ HX.out) | (with_reducible refine Ext.below ?_ (Nat.le_refl _) _) | (simp; done) | (simp; omega)))
    · have HN : Hid (validS F m to = false) := Lib.hid (by simp [validS, t1])
      have hne : ((to.length : Int) != (cols F : Int)) = true := by simp; omega
      go_enter Try.func20, Try.ntmps20
      go_wp2_with fail
      refine (rCounts_any F m _ _ _ hR HG.out H1.out hl).mono ?_
      rintro e w' ⟨vq, rfl, hvq, n1, rfl⟩
      rw [t0]
      go_wp2_with fail
      refine (boards_any _ F _ (HG.out.ext n1.ext) (by omega)).mono ?_
      rintro e w' ⟨rfl, n2, rfl⟩
      go_wp2_with fail
      go_ret
      refine ⟨ret_bool (HN.out).symm, ?_⟩
      exact ExtOf.of (by repeat' (first | (with_reducible exact Ext.refl _) | (with_reducible exact ExtOf.ext _) | (with_reducible refine Ext.trans ?_ (ExtOf.ext _)) | (with_reducible refine Ext.alloc ?_ _) | (with_reducible refine Ext.drew ?_) | (with_reducible refine Ext.setCell ?_ ?_ _) | (with_reducible refine Ext.setRow ?_ ?_ _) | (with_reducible exact HX.out) | (with_reducible refine Ext.trans ?_ HX.out) | (with_reducible refine Ext.below ?_ (Nat.le_refl _) _) | (simp; done) | (simp; omega)))
  · have HN : Hid (validS F m to = false) := Lib.hid (by simp [validS, t0])
    have hne : (mostErr F m != 0) = true := by simpa using t0
    go_enter Try.func20, Try.ntmps20
    go_wp2_with fail
    refine (rCounts_any F m _ _ _ hR HG.out H1.out hl).mono ?_
    rintro e w' ⟨vq, rfl, hvq, n1, rfl⟩
    generalize mostErr F m = te at *
    go_wp2_with fail
    go_ret
    refine ⟨ret_bool (HN.out).symm, ?_⟩
    exact ExtOf.of (by repeat' (first | (with_reducible exact Ext.refl _) | (with_reducible exact ExtOf.ext _) | (with_reducible refine Ext.trans ?_ (ExtOf.ext _)) | (with_reducible refine Ext.alloc ?_ _) | (with_reducible refine Ext.drew ?_) | (with_reducible refine Ext.setCell ?_ ?_ _) | (with_reducible refine Ext.setRow ?_ ?_ _) | (with_reducible exact HX.out) | (with_reducible refine Ext.trans ?_ HX.out) | (with_reducible refine Ext.below ?_ (Nat.le_refl _) _) | (simp; done) | (simp; omega)))

end Go.Proofs.Ythchddkdcibbhaa
