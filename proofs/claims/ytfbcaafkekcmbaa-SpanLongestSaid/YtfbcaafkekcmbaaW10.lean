/-
  The contract of Minus.
-/
import Derived.Test.YtfbcaafkekcmbaaW9
import Derived.Test.YtfbcaafkekcmbaaBase7
namespace Go.Proofs.Ytfbcaafkekcmbaa
open Go.RowKit SpanM

attribute [local go_sem] ExtOf.cell ExtOf.frozen Block.cell Block.frozen ExtB.cell ExtB.frozen alloc_cell alloc_frozen

theorem minus_step {za zy r z : List Sp} {A B : Int} {k : Nat} (h : z = r ++ minusFrom (za.drop k) zy) (hd : za.drop k = (A, B) :: za.drop (k + 1)) :
    z = r ++ holes (A, B) A (zy.dropWhile (past (A, B))) ++ minusFrom (za.drop (k + 1)) (zy.dropWhile (past (A, B))) := by
  rw [hd, minusFrom] at h
  rw [h, List.append_assoc]
theorem SpS.one {w : World} {v : Value} {l : List Sp} (h : SpS w v l) : ∃ p cap, v = .slice p l.length cap ∧ l.length ≤ cap ∧ cap ≤ maxLen ∧ (p = none → cap = 0) := by
  obtain ⟨p, cap, e, h1, h2, h3, _⟩ := h
  exact ⟨p, cap, e, h1, h2, h3⟩

set_option maxRecDepth 20000 in
set_option maxHeartbeats 3200000 in
theorem minus_any (p p' : Option Addr) (cap cap' : Nat) (a b : List Sp) (w : World) (ha : SpS w (.slice p a.length cap) a) (hb : SpS w (.slice p' b.length cap') b) (hla : a.length ≤ 1048576) (hlb : b.length ≤ 1048576) :
    Calls Try.prog 26 #[.slice p a.length cap, .slice p' b.length cap'] w (RetS w (SpanM.minus a b)) := by
  obtain ⟨i0, hi, hz0, hz1, hz2⟩ := info_parts infoS
  have hca := canon_len a
  have hcb := canon_len b
  have hml := minus_len a b hla hlb
  have HA := Lib.hid ha
  have HB := Lib.hid hb
  clear ha hb
  unfold SpanM.minus
  go_enter Try.func26, Try.ntmps26
  go_wp2_with fail
  refine (canon_any _ _ a _ HA.out (by omega)).mono ?_
  rintro e w' ⟨q1, c1, rfl, hs1, hfr1, n1, rfl⟩
  have HS1 := Lib.hid hs1
  clear hs1 hfr1
  go_wp2_with fail
  refine (canon_any _ _ b _ (SliceOf.ext HB.out n1.ext) (by omega)).mono ?_
  rintro e w' ⟨q2, c2, rfl, hs2, hfr2, n2, rfl⟩
  have HS1' := Lib.hid (SliceOf.ext HS1.out n2.ext)
  have HS2 := Lib.hid hs2
  have HXW : Hid (Ext w n2.val) := Lib.hid (Ext.trans n1.ext n2.ext)
  clear hs2 hfr2 HA HB HS1
  generalize n2.val = W at HS1' HS2 HXW ⊢
  clear n2 n1
  go_wp2_with fail
  go_loopw [1, 5, 17] (fun v1 v5 v wr => ∃ (k : Nat) (y r : List Sp), k ≤ (SpanM.canon a).length ∧ v = .int .i64 k ∧ SpS W v1 y ∧ y.length ≤ 1048576 ∧ minusFrom (SpanM.canon a) (SpanM.canon b) = r ++ minusFrom ((SpanM.canon a).drop k) y ∧ Own encS 2 23 W.heap.size wr v5 r ∧ Ext W wr) (fun _ _ v _ => (SpanM.canon a).length - (intOf v).toNat)
  case atStart => exact ⟨0, SpanM.canon b, [], by omega, rfl, HS2.out, by omega, rfl, Own.nil _, Ext.refl _⟩
  case round =>
    obtain ⟨k, y, r, hk, rfl, h1, hy, hf, ho, hx⟩ := hrel
    have hsz := hx.size
    have HX := Lib.hid hx
    have HF := Lib.hid hf
    have HO := Lib.hid ho
    have HV1 := Lib.hid h1
    obtain ⟨p1, k1, rfl, _, _, _⟩ := SpS.one h1
    clear hx hf ho h1
    by_cases hlt : k < (SpanM.canon a).length
    · obtain ⟨A, B, bb, off, hd, hm, rfl, hold, c0, c1'⟩ := SpS.elem (SliceOf.ext HS1'.out HX.out) hlt
      have HD := Lib.hid (minus_step HF.out hd)
      clear hd hm HF
      go_wp2
      obtain ⟨wo, hwo⟩ : ∃ wo : World, wo = wr.alloc (.cells #[.int .i64 A, .int .i64 B] 23) := ⟨_, rfl⟩
      have hBs : Block wo wr.heap.size #[.int .i64 A, .int .i64 B] := by rw [hwo]; infer_instance
      have HO2 : Hid (Own encS 2 23 W.heap.size wo _ r) := Lib.hid (by rw [hwo]; exact HO.out.alloc _)
      have HX2 : Hid (Ext W wo) := Lib.hid (by rw [hwo]; exact HX.out.alloc _)
      have hg : W.heap.size ≤ wr.heap.size := hsz
      rw [← hwo]
      have hgs : wr.heap.size ≤ wr.heap.size := Nat.le_refl _
      have hne0 : ∀ u, Own encS 2 23 W.heap.size wr u r → u.ownBlock ≠ some wr.heap.size := fun u hu => Own.block_lt hu (Nat.le_refl _)
      have hne := hne0 _ HO.out
      clear hne0
      clear hwo HO HX c0 c1' hold hgs
      generalize wr.heap.size = g at *
      clear wr
      go_loopw [1] (fun v1 wr => ∃ (yy : List Sp), SpS W v1 yy ∧ yy.length ≤ 1048576 ∧ y.dropWhile (past (A, B)) = yy.dropWhile (past (A, B)) ∧ Ext wo wr) (fun v1 _ => slLen v1)
      case atStart => exact ⟨y, HV1.out, hy, rfl, Ext.refl _⟩
      case round =>
        obtain ⟨yy, h1, hyy, hdr, hx⟩ := hrel
        have hsz2 := hx.size
        have HXo := Lib.hid hx
        have HV := Lib.hid h1
        have HDR := Lib.hid hdr
        obtain ⟨p3, k3, rfl, hk3, hk3', _⟩ := SpS.one h1
        have hB3 : Block wr g #[.int .i64 A, .int .i64 B] := hBs.ext HXo.out
        have og := hB3.old
        clear hx h1 hdr
        rcases yy with _ | ⟨⟨C, D⟩, yy⟩
        · go_wp2
          refine wp_region_ext (by kernel_rfl) (by kernel_rfl) ?_
          repeat (first | go_big_quiet_skip | go_big_quiet_step (fail))
          refine wpQuiet_nil ?_
          intro _ hw'
          obtain ⟨nq, hw''⟩ := hw'
          subst hw''
          have HX4 : Hid (Ext wo nq.val) := Lib.hid (Ext.trans HXo.out nq.ext)
          have HY : Hid (y.dropWhile (past (A, B)) = []) := Lib.hid HDR.out
          go_wp2
          have hBq : Block nq.val g #[.int .i64 A, .int .i64 B] := hBs.ext HX4.out
          have HOq := Lib.hid (Own.ext HO2.out HX4.out)
          have HXq := Lib.hid (Ext.trans HX2.out HX4.out)
          have HZ0 : Hid (minusFrom (SpanM.canon a) (SpanM.canon b) = r ++ holes (A, B) A [] ++ minusFrom ((SpanM.canon a).drop (k + 1)) []) := Lib.hid (by have := HD.out; rw [HY.out] at this; exact this)
          clear HX4
          generalize nq.val = wq at *
          go_loopw [5, 8, 39] (fun v5 v8 v wr => ∃ (j : Nat) (at0 : Int) (r2 : List Sp), j ≤ ([] : List Sp).length ∧ v = .int .i64 j ∧ v8 = .int .i64 at0 ∧ minusFrom (SpanM.canon a) (SpanM.canon b) = r2 ++ holes (A, B) at0 (([] : List Sp).drop j) ++ minusFrom ((SpanM.canon a).drop (k + 1)) [] ∧ Own encS 2 23 W.heap.size wr v5 r2 ∧ v5.ownBlock ≠ some g ∧ Block wr g #[.int .i64 A, .int .i64 B] ∧ Ext W wr) (fun _ _ v _ => ([] : List Sp).length - (intOf v).toNat)
          case atStart => exact ⟨0, A, r, by simp, rfl, rfl, HZ0.out, HOq.out, hne, hBq, HXq.out⟩
          case round =>
            obtain ⟨j, at0, r2, hj, rfl, rfl, hZ, hor, hnr, hBr, hxr⟩ := hrel
            have hrl : r2.length ≤ 1099512676352 := by
              have := congrArg List.length hZ
              simp only [List.length_append] at this
              omega
            have hszr := hxr.size
            have HZ := Lib.hid hZ
            have HOr := Lib.hid hor
            have HXr := Lib.hid hxr
            have ogr := hBr.old
            clear hZ hor hxr
            rcases Nat.lt_or_ge j ([] : List Sp).length with hjt | hjt
            · exact absurd hjt (by simp)
            · have HT3 : Hid (minusFrom (SpanM.canon a) (SpanM.canon b) = r2 ++ opt (at0, B) ++ minusFrom ((SpanM.canon a).drop (k + 1)) []) := Lib.hid (by rw [HZ.out, List.drop_of_length_le hjt, holes])
              simp only [List.length_cons, List.length_nil] at hjt
              by_cases t3 : at0 < B
              · have HW : Hid (minusFrom (SpanM.canon a) (SpanM.canon b) = (r2 ++ [(at0, B)]) ++ minusFrom ((SpanM.canon a).drop (k + 1)) []) := Lib.hid (by rw [HT3.out, opt_yes t3])
                go_wp2_with ((at_builtin; refine wl_append1k (enc := encS) (k := 2) (E := 23) (base := W.heap.size) (l := r2) (y := (at0, B)) Try.underlying28 hi hz0 hz1 hz2 rfl (by decide) encS_len encS_one rfl rfl (HOr.out.alloc _) inferInstance rfl (by unfold maxLen; omega) (by omega) (by first | omega | (simp; omega)) ?_; intro v' nb hown' hkeep))
                go_roundw
                case rel => exact ⟨k + 1, [], r2 ++ [(at0, B)], by omega, by go_num, HV.out, hyy, HW.out, hown', Ext.below (by repeat' (first | (with_reducible exact HXr.out) | (with_reducible refine Ext.alloc ?_ _) | (with_reducible refine Ext.drew ?_) | (with_reducible refine Ext.below ?_ (Nat.le_refl _) _))) (Nat.le_refl _) _⟩
                case measure => simp [intOf]; omega
              · have HW : Hid (minusFrom (SpanM.canon a) (SpanM.canon b) = r2 ++ minusFrom ((SpanM.canon a).drop (k + 1)) []) := Lib.hid (by rw [HT3.out, opt_no t3, List.append_nil])
                go_wp2
                go_roundw
                case rel => exact ⟨k + 1, [], r2, by omega, by go_num, HV.out, hyy, HW.out, HOr.out, by repeat' (first | (with_reducible exact HXr.out) | (with_reducible refine Ext.alloc ?_ _) | (with_reducible refine Ext.drew ?_) | (with_reducible refine Ext.below ?_ (Nat.le_refl _) _))⟩
                case measure => simp [intOf]; omega
        · obtain ⟨b3, off3, rfl, _, _, ob3, d0, d1, ht, hn⟩ := SpS.head HV.out
          have d0 := (Ext.trans HX2.out HXo.out).cell d0
          have d1 := (Ext.trans HX2.out HXo.out).cell d1
          have ow3 : Old b3 wr := Old.of_cell d0
          have HT := Lib.hid ht
          have HN := Lib.hid hn
          clear ht hn
          rcases t1 : decide (D ≤ A) with _ | _
          · have hp : past (A, B) (C, D) = false := t1
            have HY : Hid (y.dropWhile (past (A, B)) = (C, D) :: yy) := Lib.hid (by rw [HDR.out, dropWhile_no hp])
            clear hp
            simp only [List.length_cons] at *
            go_wp2
            refine wp_region_ext (by kernel_rfl) (by kernel_rfl) ?_
            repeat (first | go_big_quiet_skip | go_big_quiet_step (fail))
            refine wpQuiet_nil ?_
            intro _ hw'
            obtain ⟨nq, hw''⟩ := hw'
            subst hw''
            have HX4 : Hid (Ext wo nq.val) := Lib.hid (Ext.trans HXo.out nq.ext)
            go_wp2
            have hBq : Block nq.val g #[.int .i64 A, .int .i64 B] := hBs.ext HX4.out
            have HOq := Lib.hid (Own.ext HO2.out HX4.out)
            have HXq := Lib.hid (Ext.trans HX2.out HX4.out)
            have HZ0 : Hid (minusFrom (SpanM.canon a) (SpanM.canon b) = r ++ holes (A, B) A ((C, D) :: yy) ++ minusFrom ((SpanM.canon a).drop (k + 1)) ((C, D) :: yy)) := Lib.hid (by have := HD.out; rw [HY.out] at this; exact this)
            clear HX4
            generalize nq.val = wq at *
            go_loopw [5, 8, 39] (fun v5 v8 v wr => ∃ (j : Nat) (at0 : Int) (r2 : List Sp), j ≤ (((C, D) :: yy) : List Sp).length ∧ v = .int .i64 j ∧ v8 = .int .i64 at0 ∧ minusFrom (SpanM.canon a) (SpanM.canon b) = r2 ++ holes (A, B) at0 ((((C, D) :: yy) : List Sp).drop j) ++ minusFrom ((SpanM.canon a).drop (k + 1)) ((C, D) :: yy) ∧ Own encS 2 23 W.heap.size wr v5 r2 ∧ v5.ownBlock ≠ some g ∧ Block wr g #[.int .i64 A, .int .i64 B] ∧ Ext W wr) (fun _ _ v _ => (((C, D) :: yy) : List Sp).length - (intOf v).toNat)
            case atStart => exact ⟨0, A, r, by simp, rfl, rfl, HZ0.out, HOq.out, hne, hBq, HXq.out⟩
            case round =>
              obtain ⟨j, at0, r2, hj, rfl, rfl, hZ, hor, hnr, hBr, hxr⟩ := hrel
              have hrl : r2.length ≤ 1099512676352 := by
                have := congrArg List.length hZ
                simp only [List.length_append] at this
                omega
              have hszr := hxr.size
              have HZ := Lib.hid hZ
              have HOr := Lib.hid hor
              have HXr := Lib.hid hxr
              have ogr := hBr.old
              clear hZ hor hxr
              rcases Nat.lt_or_ge j (((C, D) :: yy) : List Sp).length with hjt | hjt
              · obtain ⟨C', D', b4, off4, hd4, _, hp4, ow4, d2, d3⟩ := SpS.elem (SliceOf.ext HV.out HXr.out) hjt
                obtain ⟨rfl, rfl⟩ : b3 = b4 ∧ off3 = off4 := by simpa using hp4
                have HD4 := Lib.hid hd4
                have jl := hjt
                simp only [List.length_cons] at jl
                clear hp4 hd4
                rcases t4 : decide (B ≤ C') with _ | _
                · have T4 : Hid (¬ B ≤ C') := Lib.hid (by simpa using t4)
                  have HN4 : Hid (minusFrom (SpanM.canon a) (SpanM.canon b) = r2 ++ (opt (at0, C') ++ holes (A, B) D' ((((C, D) :: yy) : List Sp).drop (j + 1))) ++ minusFrom ((SpanM.canon a).drop (k + 1)) ((C, D) :: yy)) := Lib.hid (by rw [HZ.out, HD4.out, holes, if_neg (by have := T4.out; simpa using this)])
                  by_cases t5 : at0 < C'
                  · have HW : Hid (minusFrom (SpanM.canon a) (SpanM.canon b) = (r2 ++ [(at0, C')]) ++ holes (A, B) D' ((((C, D) :: yy) : List Sp).drop (j + 1)) ++ minusFrom ((SpanM.canon a).drop (k + 1)) ((C, D) :: yy)) := Lib.hid (by rw [HN4.out, opt_yes t5]; simp)
                    have hn10 : Value.ownBlock _ ≠ some wr.heap.size := Own.block_lt HOr.out (Nat.le_refl _)
                    go_wp2_with ((at_builtin; refine wl_append1k (enc := encS) (k := 2) (E := 23) (base := W.heap.size) (l := r2) (y := (at0, C')) Try.underlying28 hi hz0 hz1 hz2 rfl (by decide) encS_len encS_one rfl rfl ((HOr.out.alloc _).alloc _) inferInstance rfl (by unfold maxLen; omega) (by omega) (by first | omega | (simp; omega)) ?_; intro v' nb hown' hkeep); have k1 := hkeep g _ inferInstance hnr; have k2 := hkeep wr.heap.size #[.int .i64 C', .int .i64 D'] inferInstance hn10; obtain ⟨k1a, k1b⟩ := k1; obtain ⟨k2a, k2b⟩ := k2; clear hkeep)
                    go_roundw
                    case rel => exact ⟨j + 1, D', r2 ++ [(at0, C')], by simp; omega, by go_num, rfl, HW.out, hown', k1b, k1a, Ext.below (by repeat' (first | (with_reducible exact HXr.out) | (with_reducible refine Ext.alloc ?_ _) | (with_reducible refine Ext.drew ?_) | (with_reducible refine Ext.below ?_ (Nat.le_refl _) _))) (Nat.le_refl _) _⟩
                    case measure => simp [intOf]; omega
                  · have HW : Hid (minusFrom (SpanM.canon a) (SpanM.canon b) = r2 ++ holes (A, B) D' ((((C, D) :: yy) : List Sp).drop (j + 1)) ++ minusFrom ((SpanM.canon a).drop (k + 1)) ((C, D) :: yy)) := Lib.hid (by rw [HN4.out, opt_no t5, List.nil_append])
                    go_wp2
                    go_roundw
                    case rel => exact ⟨j + 1, D', r2, by simp; omega, by go_num, rfl, HW.out, HOr.out.alloc _, hnr, inferInstance, by repeat' (first | (with_reducible exact HXr.out) | (with_reducible refine Ext.alloc ?_ _) | (with_reducible refine Ext.drew ?_) | (with_reducible refine Ext.below ?_ (Nat.le_refl _) _))⟩
                    case measure => simp [intOf]; omega
                · have HT3 : Hid (minusFrom (SpanM.canon a) (SpanM.canon b) = r2 ++ opt (at0, B) ++ minusFrom ((SpanM.canon a).drop (k + 1)) ((C, D) :: yy)) := Lib.hid (by rw [HZ.out, HD4.out, holes, if_pos (by simpa using t4)])
                  by_cases t3 : at0 < B
                  · have HW : Hid (minusFrom (SpanM.canon a) (SpanM.canon b) = (r2 ++ [(at0, B)]) ++ minusFrom ((SpanM.canon a).drop (k + 1)) ((C, D) :: yy)) := Lib.hid (by rw [HT3.out, opt_yes t3])
                    go_wp2_with ((at_builtin; refine wl_append1k (enc := encS) (k := 2) (E := 23) (base := W.heap.size) (l := r2) (y := (at0, B)) Try.underlying28 hi hz0 hz1 hz2 rfl (by decide) encS_len encS_one rfl rfl ((HOr.out.alloc _).alloc _) inferInstance rfl (by unfold maxLen; omega) (by omega) (by first | omega | (simp; omega)) ?_; intro v' nb hown' hkeep))
                    go_roundw
                    case rel => exact ⟨k + 1, ((C, D) :: yy), r2 ++ [(at0, B)], by omega, by go_num, HV.out, hyy, HW.out, hown', Ext.below (by repeat' (first | (with_reducible exact HXr.out) | (with_reducible refine Ext.alloc ?_ _) | (with_reducible refine Ext.drew ?_) | (with_reducible refine Ext.below ?_ (Nat.le_refl _) _))) (Nat.le_refl _) _⟩
                    case measure => simp [intOf]; omega
                  · have HW : Hid (minusFrom (SpanM.canon a) (SpanM.canon b) = r2 ++ minusFrom ((SpanM.canon a).drop (k + 1)) ((C, D) :: yy)) := Lib.hid (by rw [HT3.out, opt_no t3, List.append_nil])
                    go_wp2
                    go_roundw
                    case rel => exact ⟨k + 1, ((C, D) :: yy), r2, by omega, by go_num, HV.out, hyy, HW.out, (HOr.out.alloc _), by repeat' (first | (with_reducible exact HXr.out) | (with_reducible refine Ext.alloc ?_ _) | (with_reducible refine Ext.drew ?_) | (with_reducible refine Ext.below ?_ (Nat.le_refl _) _))⟩
                    case measure => simp [intOf]; omega
              · have HT3 : Hid (minusFrom (SpanM.canon a) (SpanM.canon b) = r2 ++ opt (at0, B) ++ minusFrom ((SpanM.canon a).drop (k + 1)) ((C, D) :: yy)) := Lib.hid (by rw [HZ.out, List.drop_of_length_le hjt, holes])
                simp only [List.length_cons, List.length_nil] at hjt
                by_cases t3 : at0 < B
                · have HW : Hid (minusFrom (SpanM.canon a) (SpanM.canon b) = (r2 ++ [(at0, B)]) ++ minusFrom ((SpanM.canon a).drop (k + 1)) ((C, D) :: yy)) := Lib.hid (by rw [HT3.out, opt_yes t3])
                  go_wp2_with ((at_builtin; refine wl_append1k (enc := encS) (k := 2) (E := 23) (base := W.heap.size) (l := r2) (y := (at0, B)) Try.underlying28 hi hz0 hz1 hz2 rfl (by decide) encS_len encS_one rfl rfl (HOr.out.alloc _) inferInstance rfl (by unfold maxLen; omega) (by omega) (by first | omega | (simp; omega)) ?_; intro v' nb hown' hkeep))
                  go_roundw
                  case rel => exact ⟨k + 1, ((C, D) :: yy), r2 ++ [(at0, B)], by omega, by go_num, HV.out, hyy, HW.out, hown', Ext.below (by repeat' (first | (with_reducible exact HXr.out) | (with_reducible refine Ext.alloc ?_ _) | (with_reducible refine Ext.drew ?_) | (with_reducible refine Ext.below ?_ (Nat.le_refl _) _))) (Nat.le_refl _) _⟩
                  case measure => simp [intOf]; omega
                · have HW : Hid (minusFrom (SpanM.canon a) (SpanM.canon b) = r2 ++ minusFrom ((SpanM.canon a).drop (k + 1)) ((C, D) :: yy)) := Lib.hid (by rw [HT3.out, opt_no t3, List.append_nil])
                  go_wp2
                  go_roundw
                  case rel => exact ⟨k + 1, ((C, D) :: yy), r2, by omega, by go_num, HV.out, hyy, HW.out, HOr.out, by repeat' (first | (with_reducible exact HXr.out) | (with_reducible refine Ext.alloc ?_ _) | (with_reducible refine Ext.drew ?_) | (with_reducible refine Ext.below ?_ (Nat.le_refl _) _))⟩
                  case measure => simp [intOf]; omega
          · have hp : past (A, B) (C, D) = true := t1
            have HY : Hid (y.dropWhile (past (A, B)) = yy.dropWhile (past (A, B))) := Lib.hid (by rw [HDR.out, dropWhile_yes hp])
            clear hp
            simp only [List.length_cons] at *
            by_cases hk : k3 = 1
            · subst hk
              have hyn := HN.out rfl
              subst hyn
              go_wp2
              refine wp_region_ext (by kernel_rfl) (by kernel_rfl) ?_
              repeat (first | go_big_quiet_skip | go_big_quiet_step (fail))
              refine wpQuiet_nil ?_
              intro _ hw'
              obtain ⟨nq, hw''⟩ := hw'
              subst hw''
              go_wp2
              go_roundw
              case rel => exact ⟨[], SpS.empty (by simp) (by unfold maxLen; omega) (fun h => by cases h), by simp, HY.out, Ext.trans HXo.out nq.ext⟩
              case measure => simp [slLen]
            · go_wp2
              refine wp_region_ext (by kernel_rfl) (by kernel_rfl) ?_
              repeat (first | go_big_quiet_skip | go_big_quiet_step (fail))
              refine wpQuiet_nil ?_
              intro _ hw'
              obtain ⟨nq, hw''⟩ := hw'
              subst hw''
              go_wp2
              go_roundw
              case rel => exact ⟨yy, HT.out, by omega, HY.out, Ext.trans HXo.out nq.ext⟩
              case measure => simp [slLen]
    · have hfin : minusFrom (SpanM.canon a) (SpanM.canon b) = r := by rw [HF.out, List.drop_of_length_le (by omega), minusFrom, List.append_nil]
      have HC := Lib.hid hfin
      clear hfin
      obtain ⟨q6, c6, rfl⟩ := Own.form HO.out
      go_wp2
      go_ret
      rw [HC.out]
      exact ⟨_, _, rfl, Own.slice encS_len HO.out, fun a ha => Nat.le_trans HXW.out.size (Own.fresh HO.out a ha), ExtOf.of (Ext.trans HXW.out HX.out)⟩

end Go.Proofs.Ytfbcaafkekcmbaa
