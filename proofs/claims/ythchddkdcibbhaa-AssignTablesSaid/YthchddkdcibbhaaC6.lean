/-
  The contract of the reference's first.
-/
import Derived.Test.YthchddkdcibbhaaC5
namespace Go.Proofs.Ythchddkdcibbhaa
open Go.RowKit AssignM

attribute [local go_sem] ExtOf.cell ExtOf.frozen Block.cell Block.frozen ExtB.cell ExtB.frozen alloc_cell alloc_frozen

theorem Own.formG {E base : Nat} {w : World} {v : Value} {l : List Nat} (h : Own encN 1 E base w v l) (hl : 0 < l.length) : ∃ g cap, v = .slice (some ⟨g, 0, none⟩) l.length cap ∧ base ≤ g := by
  obtain ⟨g, cap, e, hb, _⟩ := Own.set1 h hl
  exact ⟨g, cap, e, hb⟩
/-- what the loop over the orders knows of board k -/
def Trying (F : List (List Bool)) (C k base gt : Nat) (full : List (Option Nat)) (vl : Value) (left : List Nat) (i : Nat) (wr : World) : Prop :=
  (i ≤ F.length ∧ (∀ j, j < i → okFor F F.length C k (nth left) j = false) ∧ Own encN 1 3 base wr vl left ∧ Block wr gt (givCells (upto full k) C)) ∨
  (∃ i0, i = i0 + 1 ∧ i0 < F.length ∧ pick F F.length C k (nth left) = some i0 ∧ Own encN 1 3 base wr vl (left.set i0 (nth left i0 - 1)) ∧ Block wr gt (givCells (upto full (k + 1)) C))
theorem Own.setOther {E base g i : Nat} {w : World} {v : Value} {r : List Nat} (h : Own encN 1 E base w v r) (hne : v.ownBlock ≠ some g) (x : Value) : Own encN 1 E base (w.setCell ⟨g, i, none⟩ x) v r := by
  refine ⟨h.1, ?_⟩
  rcases h.2 with hn | ⟨g', cap, cur, rfl, hb, hgg, rest⟩
  · exact .inl hn
  · refine .inr ⟨g', cap, cur, rfl, hb, ?_, rest⟩
    have hgne : g' ≠ g := fun e => hne (by rw [e]; rfl)
    rw [Below.heap_setCell _ _ _ _ hgne]
    exact hgg
set_option maxRecDepth 20000 in
set_option maxHeartbeats 1600000 in
theorem first_any (F : List (List Bool)) (C : Nat) (cl : List Nat) (v0 v1 : Value) (w : World) (hR : F.length ≤ 1048576) (hC : C ≤ 1048576) (hF : Rect F F.length C) (hG : GridS w v0 F) (h1 : NatS w v1 cl) (hml : cl.length = F.length) (hmb : ∀ m ∈ cl, m ≤ 1099511627776) :
    Calls Try.prog 33 #[v0, v1] w fun e w' => ∃ gt, e = .returned (.slice (some ⟨gt, 0, none⟩) C C) ∧ Block w' gt (optCells (firstF F F.length C C 0 (nth cl))) ∧ Ext w w' := by
  obtain ⟨i0, hi, hz0, hz1, hz2⟩ := info_parts infoI
  obtain ⟨p0, cap0, rfl, hg1, hg2, hg3⟩ := hG.form
  obtain ⟨p1, cap1, rfl, hg4, hg5, hg6⟩ := SliceOf.form h1
  have hcols := hF.first
  obtain ⟨full, hfull⟩ : ∃ full, full = firstF F F.length C C 0 (nth cl) := ⟨_, rfl⟩
  have hflen : full.length = C := by rw [hfull, firstF_len]
  rw [← hfull]
  have HFU := Lib.hid hfull
  have HF := Lib.hid hF
  have HG := Lib.hid hG
  have H1 := Lib.hid h1
  have HB := Lib.hid hmb
  have HML := Lib.hid hml
  have hcl : cl.length ≤ 1048576 := by omega
  clear hF hG h1 hmb hml hfull
  go_enter Try.func33, Try.ntmps33
  go_wp2_with (at_builtin; refine wl_appendS (enc := encN) (k := 1) (E := 3) (base := w.heap.size) (l := []) (m := cl) Try.underlying29 hi hz0 hz1 hz2 rfl (by decide) encN_len encN_one rfl rfl (Own.built w) (SliceOf.ext H1.out (by repeat' (first | (with_reducible exact Ext.refl _) | (with_reducible exact ExtOf.ext _) | (with_reducible refine Ext.trans ?_ (ExtOf.ext _)) | (with_reducible refine Ext.alloc ?_ _) | (with_reducible refine Ext.drew ?_) | (with_reducible refine Ext.setCell ?_ ?_ _) | (with_reducible refine Ext.setRow ?_ ?_ _) | (with_reducible exact HX.out) | (with_reducible refine Ext.trans ?_ HX.out) | (with_reducible refine Ext.below ?_ (Nat.le_refl _) _) | (simp; done) | (simp; omega)))) (by simp; unfold maxLen; omega) (by simp; omega) (by simp) ?_; intro vl nb hown')
  rw [List.nil_append] at hown'
  have HXA : Hid (Ext w nb.val) := Lib.hid (by repeat' (first | (with_reducible exact Ext.refl _) | (with_reducible exact ExtOf.ext _) | (with_reducible refine Ext.trans ?_ (ExtOf.ext _)) | (with_reducible refine Ext.alloc ?_ _) | (with_reducible refine Ext.drew ?_) | (with_reducible refine Ext.setCell ?_ ?_ _) | (with_reducible refine Ext.setRow ?_ ?_ _) | (with_reducible exact HX.out) | (with_reducible refine Ext.trans ?_ HX.out) | (with_reducible refine Ext.below ?_ (Nat.le_refl _) _) | (simp; done) | (simp; omega)))
  have HOW := Lib.hid hown'
  clear hown'
  generalize nb.val = WA at *
  clear nb
  refine (boards_any _ F _ (HG.out.ext HXA.out) (by omega)).mono ?_
  rintro e w' ⟨rfl, n1, rfl⟩
  rw [hcols]
  go_wp2_with fail
  refine (none_any C _ hC).mono ?_
  rintro e w' ⟨gt, rfl, hgt, hBt, n2, rfl⟩
  have HX0 := Lib.hid (HXA.out.trans (n1.ext.trans n2.ext))
  have HO0 := Lib.hid (Own.ext HOW.out (n1.ext.trans n2.ext))
  have hgtw : w.heap.size ≤ gt := Nat.le_trans (Nat.le_trans HXA.out.size n1.ext.size) hgt
  have HNE : Hid (vl.ownBlock ≠ some gt) := Lib.hid (Own.block_lt HOW.out (Nat.le_trans n1.ext.size hgt))
  generalize n2.val = W0 at *
  clear n2 n1 hgt HXA HOW
  generalize WA = WB at *
  clear WB
  rw [← upto_zero full] at hBt
  have HB0 := Lib.hid hBt
  clear hBt
  obtain ⟨ql, capl, hvl⟩ := Own.formN HO0.out
  subst hvl
  go_wp2_with fail
  go_loopw [7] (fun v wr => ∃ (k : Nat) (left : List Nat), k ≤ C ∧ v = .int .i64 k ∧ left.length = cl.length ∧ (∀ m ∈ left, m ≤ 1099511627776) ∧ full.drop k = firstF F F.length C (C - k) k (nth left) ∧ Own encN 1 3 w.heap.size wr (.slice ql cl.length capl) left ∧ Block wr gt (givCells (upto full k) C) ∧ Ext w wr) (fun v _ => C - (intOf v).toNat)
  case atStart => exact ⟨0, cl, by omega, rfl, rfl, HB.out, by rw [Nat.sub_zero, ← HFU.out]; rfl, HO0.out, HB0.out, HX0.out⟩
  case round =>
    clear HO0 HB0 HX0
    obtain ⟨k, left, hk, rfl, hll, hlb, hfd, ho, hBt, hx⟩ := hrel
    have HLL := Lib.hid hll
    have HLB := Lib.hid hlb
    have HFD := Lib.hid hfd
    have HO := Lib.hid ho
    have HBT := Lib.hid hBt
    have HX := Lib.hid hx
    clear hll hlb hfd ho hBt hx
    by_cases hlt : k < C
    · obtain ⟨hfk, hfn⟩ := first_drop HFD.out hlt
      have HFK := Lib.hid hfk
      have HFN := Lib.hid hfn
      clear hfk hfn
      go_wp2_with fail
      go_loopw [8] (fun v wr => ∃ i : Nat, v = .int .i64 i ∧ Trying F C k w.heap.size gt full (.slice ql cl.length capl) left i wr ∧ Ext w wr) (fun v _ => F.length + 1 - (intOf v).toNat)
      case atStart => exact ⟨0, rfl, .inl ⟨by omega, (fun j h => by omega), HO.out, HBT.out⟩, HX.out⟩
      case round =>
        clear HO HBT HX
        obtain ⟨i, rfl, htry, hx⟩ := hrel
        have HX := Lib.hid hx
        clear hx
        rcases htry with ⟨hi1, hno, ho, hBt⟩ | ⟨i0, rfl, hi0, hpick, ho, hBt⟩
        · have HNO := Lib.hid hno
          have HO := Lib.hid ho
          have ogt := hBt.old
          have htk := givCells_get (giv := upto full k) hlt
          have e0 : upto full k k = none := by simp [upto]
          rw [e0] at htk
          simp only at htk
          clear hno ho e0
          by_cases hiR : i < F.length
          · obtain ⟨b0, off0, rp, rc, rfl, ho0, c0, hrow⟩ := (HG.out.ext HX.out).row hiR
            obtain ⟨hk', hfit⟩ := HF.out.get hiR hlt
            obtain ⟨b2, off2, rfl, ho2, c1⟩ := SliceOf.elem1 hrow hk' rfl
            have hrl := HF.out.wide _ (List.getElem_mem hiR)
            rw [← hfit] at c1
            rw [hrl] at c0
            clear hrow hrl hfit hk'
            rcases t1 : fit F i k with _ | _
            · rw [t1] at c1
              have HN2 := Lib.hid (lt_step HNO.out (okFor_unfit (R := F.length) (C := C) (left := nth left) t1))
              go_wp2_with fail
              go_roundw
              case rel => exact ⟨i + 1, by go_num, .inl ⟨by omega, HN2.out, HO.out, hBt⟩, HX.out⟩
              case measure => simp [intOf]; omega
            · rw [t1] at c1
              have hil : i < left.length := by rw [HLL.out, HML.out]; exact hiR
              have hicl : i < cl.length := by rw [HML.out]; exact hiR
              obtain ⟨gl, cap2, hv2, hgl, ogl, hcl2, hfl2, hset⟩ := Own.set1 HO.out hil
              have hll2 := HLL.out
              rw [hll2] at hv2
              obtain ⟨rfl, rfl⟩ : ql = some ⟨gl, 0, none⟩ ∧ capl = cap2 := by simpa using hv2
              rw [← nth_eq hil] at hcl2
              have hgg : gl ≠ gt := fun e => HNE.out (by rw [e]; rfl)
              have hap1 : Apart gl gt := ⟨hgg⟩
              have hap2 : Apart gt gl := ⟨Ne.symm hgg⟩
              have hxb : nth left i ≤ 1099511627776 := by rw [nth_eq hil]; exact HLB.out _ (List.getElem_mem hil)
              clear hv2
              by_cases t2 : nth left i = 0
              · have t2' : ((nth left i : Int) == 0) = true := by rw [t2]; rfl
                have HN2 := Lib.hid (lt_step HNO.out (show okFor F F.length C k (nth left) i = false by simp [okFor, t2]))
                clear t2
                go_wp2_with fail
                go_roundw
                case rel => exact ⟨i + 1, by go_num, .inl ⟨by omega, HN2.out, HO.out, hBt⟩, HX.out⟩
                case measure => simp [intOf]; omega
              · have t2' : ((nth left i : Int) == 0) = false := by rw [beq_eq_false_iff_ne]; omega
                have e1 : ((nth left i - 1 : Nat) : Int) = (nth left i : Int) - 1 := by omega
                have ho1 := hset (nth left i - 1)
                rw [e1] at ho1
                have HO1 := Lib.hid ho1
                have HX1 : Hid (Ext w (wr.setCell ⟨gl, i, none⟩ (.int .i64 ((nth left i : Int) - 1)))) := Lib.hid (Ext.setCell HX.out hgl _)
                have HBT1 : Hid (Block (wr.setCell ⟨gl, i, none⟩ (.int .i64 ((nth left i : Int) - 1))) gt (givCells (upto full k) C)) := Lib.hid inferInstance
                have HLB2 : Hid (∀ m ∈ left.set i (nth left i - 1), m ≤ 1099511627776) := Lib.hid (fun x hx => by
                  rcases List.mem_or_eq_of_mem_set hx with h | h
                  · exact HLB.out x h
                  · omega)
                have hsl := Own.slice encN_len HO1.out
                have e2 : ((k + 1 : Nat) : Int) = (k : Int) + 1 := by omega
                have hp := possible_any F C (k + 1) (left.set i (nth left i - 1)) _ _ _ hR hC (by omega) HF.out (HG.out.ext HX1.out) hsl (by simp [hll2, HML.out]) HLB2.out
                rw [e2] at hp
                have HP := Lib.hid hp
                clear hp hset ho1 hsl e2 e1
                go_wp2_with fail
                refine HP.out.mono ?_
                rintro e w' ⟨rfl, n3, rfl⟩
                have HX3 := Lib.hid (HX1.out.trans n3.ext)
                have hBt3 := HBT1.out.ext n3.ext
                have HO3 := Lib.hid (Own.ext HO1.out n3.ext)
                clear HX1 HBT1 HO1 HP
                generalize n3.val = W3 at *
                clear n3
                have ogt3 := hBt3.old
                have hil2 : i < (left.set i (nth left i - 1)).length := by simpa using hil
                obtain ⟨gl3, cap3, hv3, hgl3, ogl3, hcl3, hfl3, hset3⟩ := Own.set1 HO3.out hil2
                try rw [List.length_set, hll2] at hv3
                obtain ⟨rfl, rfl⟩ : gl = gl3 ∧ capl = cap3 := by simpa using hv3
                rw [List.getElem_set_self] at hcl3
                have e1 : ((nth left i - 1 : Nat) : Int) = (nth left i : Int) - 1 := by omega
                rw [e1] at hcl3
                clear hv3
                rcases t3 : feasB F F.length C (k + 1) (nth (left.set i (nth left i - 1))) with _ | _
                · have HN2 := Lib.hid (lt_step HNO.out (show okFor F F.length C k (nth left) i = false by unfold okFor; rw [← nth_set1 hil, t3]; simp))
                  have ho4 := hset3 (nth left i)
                  rw [set_back hil] at ho4
                  have e4 : (nth left i : Int) - 1 + 1 = (nth left i : Int) := by omega
                  have HO4 := Lib.hid ho4
                  clear ho4 hset3 e1 t3
                  go_wp2_with fail
                  go_roundw
                  case rel => exact ⟨i + 1, by go_num, .inl ⟨by omega, HN2.out, (by first | exact HO4.out | (have := HO4.out; rwa [← e4] at this)), inferInstance⟩, Ext.setCell HX3.out hgl _⟩
                  case measure => simp [intOf]; omega
                · have hpk : pick F F.length C k (nth left) = some i := find_range hiR (by unfold okFor; rw [t1, ← nth_set1 hil, t3]; simp; omega) HNO.out
                  have HPK := Lib.hid hpk
                  have htk3 := htk
                  have HUP : Hid ((givCells (upto full k) C).setIfInBounds k (.int .i64 (i : Int)) = givCells (upto full (k + 1)) C) := Lib.hid (by rw [givCells_set hlt, upto_some (by rw [HFK.out, hpk])])
                  clear hpk hset3 e1 t3
                  go_wp2_with fail
                  go_roundw
                  case rel =>
                    have hB5 : Block (W3.setCell ⟨gt, k, none⟩ (.int .i64 (i : Int))) gt ((givCells (upto full k) C).setIfInBounds k (.int .i64 (i : Int))) := inferInstance
                    rw [HUP.out] at hB5
                    exact ⟨i + 1, by go_num, .inr ⟨i, rfl, hiR, HPK.out, Own.setOther HO3.out HNE.out _, hB5⟩, Ext.setCell HX3.out hgtw _⟩
                  case measure => simp [intOf]; omega
          · obtain rfl : i = F.length := by omega
            have HPN : Hid (full[k]? = some none) := Lib.hid (by rw [HFK.out, show pick F F.length C k (nth left) = none from find_none HNO.out])
            have HFN2 : Hid (full.drop (k + 1) = firstF F F.length C (C - (k + 1)) (k + 1) (nth left)) := Lib.hid (by rw [HFN.out, show pick F F.length C k (nth left) = none from find_none HNO.out]; rfl)
            go_wp2_with fail
            go_roundw
            case rel => exact ⟨k + 1, left, by omega, by go_num, HLL.out, HLB.out, HFN2.out, HO.out, by rw [upto_none HPN.out]; exact hBt, HX.out⟩
            case measure => simp [intOf]; omega
        · have HPS : Hid (full[k]? = some (some i0)) := Lib.hid (by rw [HFK.out, hpick])
          have HO := Lib.hid ho
          have ogt := hBt.old
          have htk := givCells_get (giv := upto full (k + 1)) hlt
          have e0 : upto full (k + 1) k = some i0 := by rw [upto_some HPS.out, upd_same]
          rw [e0] at htk
          simp only at htk
          have HFN2 : Hid (full.drop (k + 1) = firstF F F.length C (C - (k + 1)) (k + 1) (nth (left.set i0 (nth left i0 - 1)))) := Lib.hid (by rw [HFN.out, hpick, nth_set1 (by rw [HLL.out, HML.out]; exact hi0)]; rfl)
          have HLB2 : Hid (∀ m ∈ left.set i0 (nth left i0 - 1), m ≤ 1099511627776) := Lib.hid (fun x hx => by
            rcases List.mem_or_eq_of_mem_set hx with h | h
            · exact HLB.out x h
            · have hl0 : i0 < left.length := by rw [HLL.out, HML.out]; exact hi0
              have := HLB.out _ (List.getElem_mem hl0)
              rw [nth_eq hl0] at h; omega)
          clear ho e0 hpick
          rcases t2 : decide (i0 + 1 < F.length) with _ | _
          · have t2' : decide ((i0 : Int) + 1 < (F.length : Int)) = false := by simp at t2 ⊢; omega
            go_wp2_with fail
            go_roundw
            case rel => exact ⟨k + 1, _, by omega, by go_num, by simp [HLL.out], HLB2.out, HFN2.out, HO.out, hBt, HX.out⟩
            case measure => simp [intOf]; omega
          · have t2' : decide ((i0 : Int) + 1 < (F.length : Int)) = true := by simp at t2 ⊢; omega
            go_wp2_with fail
            go_roundw
            case rel => exact ⟨k + 1, _, by omega, by go_num, by simp [HLL.out], HLB2.out, HFN2.out, HO.out, hBt, HX.out⟩
            case measure => simp [intOf]; omega
    · obtain rfl : k = C := by omega
      have hB2 := HBT.out
      rw [givCells_opt hflen] at hB2
      have HB2 := Lib.hid hB2
      clear hB2
      go_wp2_with fail
      go_ret
      exact ⟨gt, rfl, HB2.out, HX.out⟩

end Go.Proofs.Ythchddkdcibbhaa
