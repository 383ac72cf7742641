/-
  The contracts of the reference's possible and first.
-/
import Derived.Test.YthchddkdcibbhaaC3
namespace Go.Proofs.Ythchddkdcibbhaa
open Go.RowKit AssignM

attribute [local go_sem] ExtOf.cell ExtOf.frozen Block.cell Block.frozen ExtB.cell ExtB.frozen alloc_cell alloc_frozen

/-- the first i counts, and n of order i -/
def part (c : Nat → Nat) (i n : Nat) : Nat → Nat := fun x => if x < i then c x else if x = i then n else 0
theorem part_bump (c : Nat → Nat) (i n : Nat) : bump (part c i n) i = part c i (n + 1) := by
  funext x
  unfold bump part
  by_cases e : x = i
  · subst e; simp
  · simp [e]
theorem part_next (c : Nat → Nat) (i : Nat) : part c i (c i) = part c (i + 1) 0 := by
  funext x
  unfold part
  by_cases e : x = i
  · subst e; simp
  · by_cases h : x < i
    · simp [h, show x < i + 1 by omega]
    · simp [h, e, show ¬ x < i + 1 by omega]
theorem part_le {c : Nat → Nat} {i n : Nat} (h : n ≤ c i) : ∀ x, part c i n x ≤ c x := fun x => by
  unfold part
  split
  · omega
  · split
    · rename_i e; subst e; exact h
    · omega
set_option maxRecDepth 20000 in
set_option maxHeartbeats 1600000 in
theorem possible_any (F : List (List Bool)) (C lo : Nat) (cl : List Nat) (v0 v1 : Value) (w : World) (hR : F.length ≤ 1048576) (hC : C ≤ 1048576) (hlo : lo ≤ C) (hF : Rect F F.length C) (hG : GridS w v0 F) (h1 : NatS w v1 cl) (hml : cl.length = F.length) (hmb : ∀ m ∈ cl, m ≤ 1099511627776) :
    Calls Try.prog 44 #[v0, v1, .int .i64 lo] w fun e w' => e = .returned (.bool (feasB F F.length C lo (nth cl))) ∧ ∃ n : ExtOf w, w' = n.val := by
  have hmkb := run_make_row' (P := Try.prog) 27 4 (.bool false) 1 Try.underlying27 infoB rfl .i64 .i64 C (by omega) (by omega)
  rw [boolCells_made] at hmkb
  obtain ⟨p0, cap0, rfl, hg1, hg2, hg3⟩ := hG.form
  obtain ⟨p1, cap1, rfl, hg4, hg5, hg6⟩ := SliceOf.form h1
  have hcols := hF.first
  have HF := Lib.hid hF
  have HG := Lib.hid hG
  have H1 := Lib.hid h1
  have HB := Lib.hid hmb
  have HML := Lib.hid hml
  clear hF hG h1 hmb hml
  go_enter Try.func44, Try.ntmps44
  go_wp2_with fail
  refine (boards_any _ F _ HG.out (by omega)).mono ?_
  rintro e w' ⟨rfl, n1, rfl⟩
  rw [hcols]
  go_wp2_with fail
  refine (none_any C _ hC).mono ?_
  rintro e w' ⟨gt, rfl, hgt, hBt, n2, rfl⟩
  have HX0 := Lib.hid (n1.ext.trans n2.ext)
  have hgtw : w.heap.size ≤ gt := Nat.le_trans n1.ext.size hgt
  generalize n2.val = W0 at *
  clear n2 n1 hgt
  have HM0 : Hid (MatA F F.length C lo gt (part (nth cl) 0 0) (fun _ => none) W0) := Lib.hid ⟨hBt, Ok_none, fun x _ => by rw [cnt_none]; unfold part; split <;> first | rfl | (split <;> rfl) | omega⟩
  clear hBt
  go_wp2_with fail
  go_loopw [8] (fun v wr => ∃ (i : Nat) (a : Mat), i ≤ cl.length ∧ v = .int .i64 i ∧ MatA F F.length C lo gt (part (nth cl) i 0) a wr ∧ Ext w wr) (fun v _ => cl.length - (intOf v).toNat)
  case atStart => exact ⟨0, _, by omega, rfl, HM0.out, HX0.out⟩
  case round =>
    clear HM0 HX0
    obtain ⟨i, a, hi, rfl, hM, hx⟩ := hrel
    by_cases hlt : i < cl.length
    · have hiR : i < F.length := by rw [← HML.out]; exact hlt
      have hmb : nth cl i ≤ 1099511627776 := by rw [nth_eq hlt]; exact HB.out _ (List.getElem_mem hlt)
      have HM0 := Lib.hid hM
      have HX0 := Lib.hid hx
      clear hM hx
      go_wp2_with fail
      go_loopw [9] (fun v wr => ∃ (n : Nat) (a : Mat), n ≤ nth cl i ∧ v = .int .i64 n ∧ MatA F F.length C lo gt (part (nth cl) i n) a wr ∧ Ext w wr) (fun v _ => nth cl i - (intOf v).toNat)
      case atStart => exact ⟨0, a, by omega, rfl, HM0.out, HX0.out⟩
      case round =>
        clear HM0 HX0
        obtain ⟨n, a, hn, rfl, hM, hx⟩ := hrel
        obtain ⟨b1, off1, rfl, o1, c1⟩ := SliceOf.elem1 (SliceOf.ext H1.out hx) hlt rfl
        rw [← nth_eq hlt] at c1
        have hmt := hM.mt
        have om := hmt.old
        have HM := Lib.hid hM
        have HX := Lib.hid hx
        clear hM hx
        by_cases t1 : n < nth cl i
        · have t1' : decide ((n : Int) < (nth cl i : Int)) = true := by simpa using t1
          have hszr := HX.out.size
          go_wp2_with fail
          have hxd : Ext wr (wr.alloc (.cells (boolCells (fun _ => false) C) 4)) := by repeat' (first | (with_reducible exact Ext.refl _) | (with_reducible exact ExtOf.ext _) | (with_reducible refine Ext.trans ?_ (ExtOf.ext _)) | (with_reducible refine Ext.alloc ?_ _) | (with_reducible refine Ext.drew ?_) | (with_reducible refine Ext.setCell ?_ ?_ _) | (with_reducible refine Ext.setRow ?_ ?_ _) | (with_reducible exact HX.out) | (with_reducible refine Ext.trans ?_ HX.out) | (with_reducible refine Ext.below ?_ (Nat.le_refl _) _) | (simp; done) | (simp; omega))
          have hd1 : gt ≠ wr.heap.size := by have := hmt.lt; omega
          refine (augment_any F C lo _ gt wr.heap.size w hR hC hlo HF.out HG.out hgtw hszr hd1 C i a (fun _ => false) _ (cntP_len _ _) hiR HM.out.ok (HX.out.trans hxd) (hmt.ext hxd) inferInstance).mono ?_
          rintro e w' ⟨bb, s2, rfl, hkp, hBs2, hcase⟩
          have HX2 := Lib.hid (hkp.ext (HX.out.trans hxd) hgtw hszr)
          clear hkp hxd hBs2
          rcases hcase with ⟨rfl, hBt2, hd, hsc⟩ | ⟨rfl, t, hBt2, hone⟩
          · have hnf := hd.fails HM.out.ok hiR hsc
            have HN : Hid (feasB F F.length C lo (nth cl) = false) := Lib.hid (feasB_false.2 fun h => hnf ((Feas.congr (bump_congr HM.out.cn i)).2 (by rw [part_bump]; exact Feas.mono (Nat.le_refl _) h (fun x _ => part_le (by omega) x))))
            clear hnf hd hsc
            go_wp2_with fail
            go_ret
            exact ⟨ret_bool HN.out.symm, ExtOf.of HX2.out⟩
          · have HO := Lib.hid hone
            clear hone
            go_wp2_with fail
            go_roundw
            case rel => exact ⟨n + 1, t, by omega, by go_num, ⟨hBt2, HO.out.ok, fun x hx => by rw [HO.out.cnts x, ← part_bump]; exact bump_congr HM.out.cn i x hx⟩, HX2.out⟩
            case measure => simp [intOf]; omega
        · have t1' : decide ((n : Int) < (nth cl i : Int)) = false := by simp; omega
          obtain rfl : n = nth cl i := by omega
          go_wp2_with fail
          go_roundw
          case rel => exact ⟨i + 1, a, by omega, by go_num, ⟨hmt, HM.out.ok, fun x hx => by rw [← part_next]; exact HM.out.cn x hx⟩, HX.out⟩
          case measure => simp [intOf]; omega
    · obtain rfl : i = cl.length := by omega
      have HN : Hid (feasB F F.length C lo (nth cl) = true) := Lib.hid (feasB_iff.2 ⟨a, hM.ok, fun x hx => by rw [hM.cn x hx]; unfold part; rw [HML.out, if_pos hx]⟩)
      have HX := Lib.hid hx
      clear hM hx
      go_wp2_with fail
      go_ret
      exact ⟨ret_bool HN.out.symm, ExtOf.of HX.out⟩

/-- the boards below k are given -/
def upto (full : List (Option Nat)) (k : Nat) : Mat := fun m => if m < k then full[m]?.getD none else none
theorem upto_zero (full : List (Option Nat)) : upto full 0 = fun _ => none := by funext m; simp [upto]
theorem upto_none {full : List (Option Nat)} {k : Nat} (h : full[k]? = some none) : upto full (k + 1) = upto full k := by
  funext m
  unfold upto
  by_cases e : m = k
  · subst e; simp [h]
  · have : (m < k + 1) = (m < k) := by simp; omega
    simp only [this]
theorem upto_some {full : List (Option Nat)} {k i : Nat} (h : full[k]? = some (some i)) : upto full (k + 1) = upd (upto full k) k (some i) := by
  funext m
  unfold upto upd
  by_cases e : m = k
  · subst e; simp [h]
  · have : (m < k + 1) = (m < k) := by simp; omega
    simp only [this, if_neg e]
theorem nth_set1 {l : List Nat} {i : Nat} (hi : i < l.length) : nth (l.set i (nth l i - 1)) = drop1 (nth l) i := by
  funext j
  unfold drop1
  by_cases e : j = i
  · subst e; simp [nth, hi]
  · unfold nth
    rw [List.getElem?_set, if_neg (Ne.symm e), if_neg e]
theorem set_back {l : List Nat} {i : Nat} (hi : i < l.length) (x : Nat) : (l.set i x).set i (nth l i) = l := by
  rw [List.set_set]
  apply List.ext_getElem?
  intro j
  rw [List.getElem?_set]
  by_cases e : i = j
  · subst e; simp [nth, hi]
  · simp [e]
theorem first_drop {F : List (List Bool)} {R C k : Nat} {full : List (Option Nat)} {left : Nat → Nat} (h : full.drop k = firstF F R C (C - k) k left) (hk : k < C) :
    full[k]? = some (pick F R C k left) ∧ full.drop (k + 1) = firstF F R C (C - (k + 1)) (k + 1) (after left (pick F R C k left)) := by
  rw [show C - k = (C - (k + 1)) + 1 by omega, firstF] at h
  have h1 : (full.drop k)[0]? = some (pick F R C k left) := by rw [h]; rfl
  have h2 : (full.drop k).drop 1 = firstF F R C (C - (k + 1)) (k + 1) (after left (pick F R C k left)) := by rw [h]; rfl
  refine ⟨by simpa using h1, ?_⟩
  rw [List.drop_drop] at h2
  exact h2
theorem givCells_opt {full : List (Option Nat)} {C : Nat} (h : full.length = C) : givCells (upto full C) C = optCells full := by
  apply Array.ext_getElem?
  intro j
  by_cases hj : j < C
  · rw [givCells_get hj]
    have hj' : j < full.length := by omega
    have e : upto full C j = full[j] := by simp [upto, hj, hj']
    rw [e]
    simp only [optCells, List.getElem?_toArray, List.getElem?_map, List.getElem?_eq_getElem hj', Option.map_some]
    cases full[j] <;> rfl
  · have : ¬ j < full.length := by omega
    simp [givCells, optCells, hj, this]

end Go.Proofs.Ythchddkdcibbhaa
