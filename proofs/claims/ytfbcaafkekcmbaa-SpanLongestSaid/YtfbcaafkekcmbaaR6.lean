/-
  The contract of the reference's Longest.
-/
import Derived.Test.YtfbcaafkekcmbaaR5
import Derived.Test.YtfbcaafkekcmbaaW7
namespace Go.Proofs.Ytfbcaafkekcmbaa
open Go.RowKit SpanM

attribute [local go_sem] ExtOf.cell ExtOf.frozen Block.cell Block.frozen ExtB.cell ExtB.frozen alloc_cell alloc_frozen

theorem longest_cons {l : List Sp} {s : Sp} {t : List Sp} (h : SpanM.canon l = s :: t) : longest l = t.foldl longer s ∧ decide (0 < len (longest l)) = true := by
  have hs : s.1 < s.2 := (canon_ok l).1.1 s (by rw [h]; simp)
  have e : longest l = t.foldl longer s := by unfold longest; rw [h, List.foldl_cons, longer_first hs]
  refine ⟨e, ?_⟩
  have h1 := len_pos hs
  have h2 := (longest_spec (l := t) (b := s)).1
  rw [e]
  simp only [decide_eq_true_eq]
  omega
theorem longest_nil {l : List Sp} (h : SpanM.canon l = []) : longest l = (0, 0) ∧ decide (0 < len (longest l)) = false := by
  have e : longest l = (0, 0) := by unfold longest; rw [h]; rfl
  refine ⟨e, by rw [e]; rfl⟩

set_option maxHeartbeats 1600000 in
theorem rlongest_any (p : Option Addr) (cap : Nat) (l : List Sp) (w : World) (hl : SpS w (.slice p l.length cap) l) (hlen : l.length ≤ 549755813888) (hin : ∀ s ∈ l, In s) :
    Calls Try.prog 29 #[.slice p l.length cap] w fun e w' => e = .returned (.tuple #[.agg #[.int .i64 (longest l).1, .int .i64 (longest l).2], .bool (decide (0 < len (longest l)))]) ∧ ∃ n : ExtOf w, w' = n.val := by
  have hcl := canon_len l
  have HL := Lib.hid hl
  have HI := Lib.hid (canon_in hin)
  clear hl hin
  rcases hX : SpanM.canon l with _ | ⟨⟨A0, B0⟩, t⟩
  · obtain ⟨e1, e2⟩ := longest_nil hX
    rw [e2, e1]
    have HX0 := Lib.hid hX
    clear e1 e2 hX
    go_enter Try.func29, Try.ntmps29
    go_wp2_with fail
    refine (rcanon_any p cap l _ (SliceOf.ext HL.out (by repeat' (first | (with_reducible exact Ext.refl _) | (with_reducible exact ExtOf.ext _) | (with_reducible refine Ext.trans ?_ (ExtOf.ext _)) | (with_reducible refine Ext.alloc ?_ _) | (with_reducible refine Ext.drew ?_) | (with_reducible refine Ext.setCell ?_ ?_ _) | (with_reducible refine Ext.setRow ?_ ?_ _) | (with_reducible exact HX.out) | (with_reducible refine Ext.trans ?_ HX.out) | (with_reducible refine Ext.below ?_ (Nat.le_refl _) _) | (simp; done) | (simp; omega)))) (by omega)).mono ?_
    rintro e w' ⟨q, c, rfl, hs, _, n, rfl⟩
    have HS := Lib.hid hs
    have hB0 : Block n.val w.heap.size #[.int .i64 0, .int .i64 0] := inferInstance
    have HXW : Hid (Ext w n.val) := Lib.hid (by repeat' (first | (with_reducible exact Ext.refl _) | (with_reducible exact ExtOf.ext _) | (with_reducible refine Ext.trans ?_ (ExtOf.ext _)) | (with_reducible refine Ext.alloc ?_ _) | (with_reducible refine Ext.drew ?_) | (with_reducible refine Ext.setCell ?_ ?_ _) | (with_reducible refine Ext.setRow ?_ ?_ _) | (with_reducible exact HX.out) | (with_reducible refine Ext.trans ?_ HX.out) | (with_reducible refine Ext.below ?_ (Nat.le_refl _) _) | (simp; done) | (simp; omega)))
    clear hs
    generalize n.val = W at *
    clear n
    have O0 : Old w.heap.size W := hB0.old
    rw [HX0.out] at HS HI hcl ⊢
    clear HX0
    simp only [List.length_nil] at *
    go_wp2
    refine bodyPost_ret (v := .tuple #[.agg #[.int .i64 0, .int .i64 0], .bool false]) (by simp [results, Try.results29, go_sem]) rfl ⟨rfl, ?_⟩
    have HX := HXW
    exact ExtOf.of (by repeat' (first | (with_reducible exact Ext.refl _) | (with_reducible exact ExtOf.ext _) | (with_reducible refine Ext.trans ?_ (ExtOf.ext _)) | (with_reducible refine Ext.alloc ?_ _) | (with_reducible refine Ext.drew ?_) | (with_reducible refine Ext.setCell ?_ ?_ _) | (with_reducible refine Ext.setRow ?_ ?_ _) | (with_reducible exact HX.out) | (with_reducible refine Ext.trans ?_ HX.out) | (with_reducible refine Ext.below ?_ (Nat.le_refl _) _) | (simp; done) | (simp; omega)))
  · obtain ⟨e1, e2⟩ := longest_cons hX
    rw [e2]
    have HX0 := Lib.hid hX
    have HE := Lib.hid e1
    clear e1 e2 hX
    go_enter Try.func29, Try.ntmps29
    go_wp2_with fail
    refine (rcanon_any p cap l _ (SliceOf.ext HL.out (by repeat' (first | (with_reducible exact Ext.refl _) | (with_reducible exact ExtOf.ext _) | (with_reducible refine Ext.trans ?_ (ExtOf.ext _)) | (with_reducible refine Ext.alloc ?_ _) | (with_reducible refine Ext.drew ?_) | (with_reducible refine Ext.setCell ?_ ?_ _) | (with_reducible refine Ext.setRow ?_ ?_ _) | (with_reducible exact HX.out) | (with_reducible refine Ext.trans ?_ HX.out) | (with_reducible refine Ext.below ?_ (Nat.le_refl _) _) | (simp; done) | (simp; omega)))) (by omega)).mono ?_
    rintro e w' ⟨q, c, rfl, hs, _, n, rfl⟩
    have HS := Lib.hid hs
    have hB0 : Block n.val w.heap.size #[.int .i64 0, .int .i64 0] := inferInstance
    have HXW : Hid (Ext w n.val) := Lib.hid (by repeat' (first | (with_reducible exact Ext.refl _) | (with_reducible exact ExtOf.ext _) | (with_reducible refine Ext.trans ?_ (ExtOf.ext _)) | (with_reducible refine Ext.alloc ?_ _) | (with_reducible refine Ext.drew ?_) | (with_reducible refine Ext.setCell ?_ ?_ _) | (with_reducible refine Ext.setRow ?_ ?_ _) | (with_reducible exact HX.out) | (with_reducible refine Ext.trans ?_ HX.out) | (with_reducible refine Ext.below ?_ (Nat.le_refl _) _) | (simp; done) | (simp; omega)))
    clear hs
    generalize n.val = W at *
    clear n
    have O0 : Old w.heap.size W := hB0.old
    have h0 : 0 < (SpanM.canon l).length := by rw [HX0.out]; simp
    have hE1 : longest l = ((SpanM.canon l).drop 1).foldl longer (A0, B0) := by rw [HX0.out]; exact HE.out
    have HE1 := Lib.hid hE1
    have hg0 : (SpanM.canon l)[0]? = some (A0, B0) := by rw [HX0.out]; rfl
    have hz : (((SpanM.canon l).length : Int) == 0) = false := by rw [beq_eq_false_iff_ne]; omega
    have hz' : ((SpanM.canon l).length == 0) = false := by rw [beq_eq_false_iff_ne]; omega
    clear hE1 HX0 HE
    obtain ⟨A, B, b, off, hd, hm, rfl, hold, c0, c1⟩ := SpS.elem HS.out (i := 0) h0
    obtain ⟨rfl, rfl⟩ : A0 = A ∧ B0 = B := by rw [hg0] at hm; simpa using hm
    have H0 := Lib.hid (HI.out (A0, B0) (List.mem_of_getElem? hg0))
    simp only [Nat.zero_mul, Nat.add_zero] at c0 c1
    clear hd hm hg0
    go_wp2
    go_loopw [6] (fun v wr => ∃ (k : Nat) (m : Sp), k ≤ (SpanM.canon l).length ∧ v = .int .i64 k ∧ longest l = ((SpanM.canon l).drop k).foldl longer m ∧ In m ∧ Block wr W.heap.size #[.int .i64 m.1, .int .i64 m.2] ∧ Ext W wr) (fun v _ => (SpanM.canon l).length - (intOf v).toNat)
    case atStart => exact ⟨1, (A0, B0), by omega, rfl, HE1.out, H0.out, inferInstance, by repeat' (first | (with_reducible exact Ext.refl _) | (with_reducible exact ExtOf.ext _) | (with_reducible refine Ext.trans ?_ (ExtOf.ext _)) | (with_reducible refine Ext.alloc ?_ _) | (with_reducible refine Ext.drew ?_) | (with_reducible refine Ext.setCell ?_ ?_ _) | (with_reducible refine Ext.setRow ?_ ?_ _) | (with_reducible exact HX.out) | (with_reducible refine Ext.trans ?_ HX.out) | (with_reducible refine Ext.below ?_ (Nat.le_refl _) _) | (simp; done) | (simp; omega))⟩
    case round =>
      obtain ⟨k, ⟨M1, M2⟩, hk, rfl, hf, him, hB1, hx⟩ := hrel
      simp only at hB1
      have HX := Lib.hid hx
      have HM := Lib.hid him
      have HG := Lib.hid hf
      have O1 : Old W.heap.size wr := hB1.old
      have hB2 : Block wr w.heap.size #[.int .i64 0, .int .i64 0] := hB0.ext HX.out
      have O2 := hB2.old
      clear hx him hf c0 c1 hold
      by_cases hlt : k < (SpanM.canon l).length
      · obtain ⟨A, B, b', off', hd, hm, hp, hold, c0, c1⟩ := SpS.elem (SliceOf.ext HS.out HX.out) hlt
        obtain ⟨rfl, rfl⟩ : b = b' ∧ off = off' := by simpa using hp
        have HAB := Lib.hid (HI.out _ (List.mem_of_getElem? hm))
        have HH := Lib.hid (longer_drop HG.out hd)
        clear hd hm hp
        rcases t1 : decide (len (M1, M2) < len (A, B)) with _ | _
        · go_wp2
          refine wp_region_ext (by kernel_rfl) (by kernel_rfl) ?_
          repeat (first | go_big_quiet_skip | go_big_quiet_step ((go_at_call 12; first | (with_reducible exact ext_call (rlen_any (A, B) _ HAB.out)) | (with_reducible exact ext_call (rlen_any (M1, M2) _ HM.out)))))
          refine wpQuiet_nil ?_
          intro _ hw'
          obtain ⟨nq, hw''⟩ := hw'
          subst hw''
          go_wp2
          go_roundw
          case rel =>
            have hh := HH.out
            rw [longer, if_neg (by simpa using t1)] at hh
            exact ⟨k + 1, (M1, M2), by omega, by go_num, hh, HM.out, inferInstance, by repeat' (first | (with_reducible exact Ext.refl _) | (with_reducible exact ExtOf.ext _) | (with_reducible refine Ext.trans ?_ (ExtOf.ext _)) | (with_reducible refine Ext.alloc ?_ _) | (with_reducible refine Ext.drew ?_) | (with_reducible refine Ext.setCell ?_ ?_ _) | (with_reducible refine Ext.setRow ?_ ?_ _) | (with_reducible exact HX.out) | (with_reducible refine Ext.trans ?_ HX.out) | (with_reducible refine Ext.below ?_ (Nat.le_refl _) _) | (simp; done) | (simp; omega))⟩
          case measure => simp [intOf]; omega
        · go_wp2
          refine wp_region_ext (by kernel_rfl) (by kernel_rfl) ?_
          repeat (first | go_big_quiet_skip | go_big_quiet_step ((go_at_call 12; first | (with_reducible exact ext_call (rlen_any (A, B) _ HAB.out)) | (with_reducible exact ext_call (rlen_any (M1, M2) _ HM.out)))))
          refine wpQuiet_nil ?_
          intro _ hw'
          obtain ⟨nq, hw''⟩ := hw'
          subst hw''
          go_wp2
          go_roundw
          case rel =>
            have hh := HH.out
            rw [longer, if_pos (by simpa using t1)] at hh
            exact ⟨k + 1, (A, B), by omega, by go_num, hh, HAB.out, (inferInstance : Block _ _ _), by repeat' (first | (with_reducible exact Ext.refl _) | (with_reducible exact ExtOf.ext _) | (with_reducible refine Ext.trans ?_ (ExtOf.ext _)) | (with_reducible refine Ext.alloc ?_ _) | (with_reducible refine Ext.drew ?_) | (with_reducible refine Ext.setCell ?_ ?_ _) | (with_reducible refine Ext.setRow ?_ ?_ _) | (with_reducible exact HX.out) | (with_reducible refine Ext.trans ?_ HX.out) | (with_reducible refine Ext.below ?_ (Nat.le_refl _) _) | (simp; done) | (simp; omega))⟩
          case measure => simp [intOf]; omega
      · have e : longest l = (M1, M2) := by have := HG.out; rw [List.drop_of_length_le (by omega)] at this; exact this
        have HE := Lib.hid e
        clear e
        go_wp2
        refine bodyPost_ret (v := .tuple #[.agg #[.int .i64 M1, .int .i64 M2], .bool true]) (by simp [results, Try.results29, go_sem]) rfl ⟨?_, ?_⟩
        · rw [HE.out]
        · have HX := Lib.hid (Ext.trans HXW.out HX.out)
          exact ExtOf.of (by repeat' (first | (with_reducible exact Ext.refl _) | (with_reducible exact ExtOf.ext _) | (with_reducible refine Ext.trans ?_ (ExtOf.ext _)) | (with_reducible refine Ext.alloc ?_ _) | (with_reducible refine Ext.drew ?_) | (with_reducible refine Ext.setCell ?_ ?_ _) | (with_reducible refine Ext.setRow ?_ ?_ _) | (with_reducible exact HX.out) | (with_reducible refine Ext.trans ?_ HX.out) | (with_reducible refine Ext.below ?_ (Nat.le_refl _) _) | (simp; done) | (simp; omega)))

end Go.Proofs.Ytfbcaafkekcmbaa
