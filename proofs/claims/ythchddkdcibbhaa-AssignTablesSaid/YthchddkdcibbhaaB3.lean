/-
  The contract of serve: the best counts and an assignment that has them.
-/
import Derived.Test.YthchddkdcibbhaaB2
import Derived.Test.YthchddkdcibbhaaA3
import Derived.StillTailTactics
namespace Go.Proofs.Ythchddkdcibbhaa
open Go.RowKit AssignM

attribute [local go_sem] ExtOf.cell ExtOf.frozen Block.cell Block.frozen ExtB.cell ExtB.frozen alloc_cell alloc_frozen

def encN (n : Nat) : List Value := [.int .i64 (n : Int)]
abbrev NatS (w : World) (v : Value) (l : List Nat) : Prop := SliceOf encN 1 w v l
def nth (l : List Nat) (i : Nat) : Nat := (l[i]?).getD 0
theorem nth_eq {l : List Nat} {i : Nat} (h : i < l.length) : nth l i = l[i] := by simp [nth, h]
def natCells (c : Nat → Nat) (R : Nat) : Array Value := ((List.range R).map fun j => Value.int .i64 (c j : Int)).toArray
theorem natCells_get {c : Nat → Nat} {R i : Nat} (h : i < R) : (natCells c R)[i]? = some (.int .i64 (c i : Int)) := by simp [natCells, h]
theorem natCells_made (R : Nat) : madeCells #[Value.int .i64 0] R = natCells (fun _ => 0) R := by
  apply Array.ext_getElem?
  intro j
  by_cases h : j < R
  · simp [madeCells, natCells, h, Nat.mod_one]
  · simp [madeCells, natCells, h]
theorem natCells_set {c : Nat → Nat} {R i x : Nat} (h : i < R) : (natCells c R).setIfInBounds i (.int .i64 (x : Int)) = natCells (fun j => if j = i then x else c j) R := by
  apply Array.ext_getElem?
  intro j
  by_cases e : i = j
  · subst e
    rw [Array.getElem?_setIfInBounds_self_of_lt (by simpa [natCells] using h), natCells_get h]
    simp
  · rw [Array.getElem?_setIfInBounds_ne e]
    by_cases hj : j < R
    · rw [natCells_get hj, natCells_get hj, if_neg (Ne.symm e)]
    · simp [natCells, hj]
theorem natCells_congr {c d : Nat → Nat} {R : Nat} (h : ∀ i, i < R → c i = d i) : natCells c R = natCells d R := by
  unfold natCells
  congr 1
  apply List.map_congr_left
  intro j hj
  rw [h j (List.mem_range.1 hj)]
/-- an assignment with counts c, in the map of the matching at gm -/
structure Match (F : List (List Bool)) (R C : Nat) (v0 : Value) (gm bm : Nat) (c : Nat → Nat) (a : Mat) (w : World) : Prop where
  mm : Block w gm #[v0, .map (some bm), .int .i64 0]
  mto : MapI C w bm a
  ok : Ok F R C a
  cn : ∀ x, x < R → cnt C a 0 x = c x
set_option maxRecDepth 20000 in
set_option maxHeartbeats 1600000 in
theorem serve_any (F : List (List Bool)) (C : Nat) (most : List Nat) (v0 v1 : Value) (w : World) (hR : F.length ≤ 1048576) (hC : C ≤ 1048576) (hF : Rect F F.length C) (hG : GridS w v0 F) (h1 : NatS w v1 most) (hml : most.length = F.length) (hmb : ∀ m ∈ most, m ≤ 1099511627776) :
    Calls Try.prog 26 #[v0, v1] w fun e w' => ∃ gc gm bm a, e = .returned (.tuple #[.slice (some ⟨gc, 0, none⟩) F.length F.length, .pointer (some ⟨gm, 0, none⟩)]) ∧ Block w' gc (natCells (fillAll F F.length C (nth most)) F.length) ∧ Match F F.length C v0 gm bm (fillAll F F.length C (nth most)) a w' ∧ w.heap.size ≤ gc ∧ w.heap.size ≤ gm ∧ w.heap.size ≤ bm ∧ Ext w w' := by
  have hmk := run_make_row' (P := Try.prog) 29 3 (.int .i64 0) 8 Try.underlying29 infoI rfl .i64 .i64 F.length (by omega) (by omega)
  rw [natCells_made] at hmk
  have hmm := @run_makeMap Try.prog
  obtain ⟨p0, cap0, rfl, hg1, hg2, hg3⟩ := hG.form
  obtain ⟨p1, cap1, rfl, hg4, hg5, hg6⟩ := SliceOf.form h1
  rw [hml] at hg4 h1 ⊢
  have HF := Lib.hid hF
  have HG := Lib.hid hG
  have H1 := Lib.hid h1
  have HB := Lib.hid hmb
  clear hF hG h1 hmb
  go_enter Try.func26, Try.ntmps26
  go_wp2
  have hM0 : Match F F.length C (.slice p0 F.length cap0) (w.heap.size + 1) w.heap.size (fillTo F F.length C (nth most) 0) (fun _ => none) (((w.alloc (.map #[] 0)).alloc (.cells #[.slice p0 F.length cap0, .map (some w.heap.size), .int .i64 0] 70)).alloc (.cells (natCells (fun _ => 0) F.length) 3)) :=
    ⟨inferInstance, ((MapN.made _ _ _ _ _).alloc _).alloc _, ⟨fun k i h => by cases h⟩, fun x _ => cntP_zero (fun k _ => by simp)⟩
  have hB0 : Block (((w.alloc (.map #[] 0)).alloc (.cells #[.slice p0 F.length cap0, .map (some w.heap.size), .int .i64 0] 70)).alloc (.cells (natCells (fun _ => 0) F.length) 3)) (w.heap.size + 1 + 1) (natCells (fillTo F F.length C (nth most) 0) F.length) := (inferInstance : Block _ _ (natCells (fun _ => 0) F.length))
  have hX0 : Ext w (((w.alloc (.map #[] 0)).alloc (.cells #[.slice p0 F.length cap0, .map (some w.heap.size), .int .i64 0] 70)).alloc (.cells (natCells (fun _ => 0) F.length) 3)) := by repeat' (first | (with_reducible exact Ext.refl _) | (with_reducible exact ExtOf.ext _) | (with_reducible refine Ext.trans ?_ (ExtOf.ext _)) | (with_reducible refine Ext.alloc ?_ _) | (with_reducible refine Ext.drew ?_) | (with_reducible refine Ext.setCell ?_ ?_ _) | (with_reducible refine Ext.setRow ?_ ?_ _) | (with_reducible exact HX.out) | (with_reducible refine Ext.trans ?_ HX.out) | (with_reducible refine Ext.below ?_ (Nat.le_refl _) _) | (simp; done) | (simp; omega))
  generalize (((w.alloc (.map #[] 0)).alloc (.cells #[.slice p0 F.length cap0, .map (some w.heap.size), .int .i64 0] 70)).alloc (.cells (natCells (fun _ => 0) F.length) 3)) = W0 at *
  obtain ⟨gc, hgc⟩ : ∃ x, x = w.heap.size + 1 + 1 := ⟨_, rfl⟩
  obtain ⟨gm, hgm⟩ : ∃ x, x = w.heap.size + 1 := ⟨_, rfl⟩
  obtain ⟨bm, hbm⟩ : ∃ x, x = w.heap.size := ⟨_, rfl⟩
  rw [← hgc] at hB0 ⊢
  rw [← hgm, ← hbm] at hM0
  rw [← hgm, ← hbm]
  have HM0 := Lib.hid hM0
  have HB0 := Lib.hid hB0
  have HX0 := Lib.hid hX0
  have d1 : gc ≠ gm := by omega
  have d2 : gc ≠ bm := by omega
  have d6 : gm ≠ bm := by omega
  have d3 : w.heap.size ≤ gc := by omega
  have d4 : w.heap.size ≤ gm := by omega
  have d5 : w.heap.size ≤ bm := by omega
  clear hM0 hB0 hX0 hmk hmm hgc hgm hbm
  go_loopw [18] (fun v wr => ∃ (i : Nat) (a : Mat), i ≤ F.length ∧ v = .int .i64 i ∧ Match F F.length C (.slice p0 F.length cap0) gm bm (fillTo F F.length C (nth most) i) a wr ∧ Block wr gc (natCells (fillTo F F.length C (nth most) i) F.length) ∧ Ext w wr) (fun v _ => F.length - (intOf v).toNat)
  case atStart => exact ⟨0, _, by omega, rfl, HM0.out, HB0.out, HX0.out⟩
  case round =>
    clear HM0 HB0 HX0
    obtain ⟨i, a, hi, rfl, hM, hB, hx⟩ := hrel
    by_cases hlt : i < F.length
    · have HM0 := Lib.hid hM
      have HB0 := Lib.hid hB
      have HX0 := Lib.hid hx
      clear hM hB hx
      go_wp2
      go_loopg [34] (nth most i) (fun gk _ wr => ∃ (c : Nat → Nat) (a : Mat), Filling F F.length C (nth most) i c ∧ Match F F.length C (.slice p0 F.length cap0) gm bm c a wr ∧ Block wr gc (natCells c F.length) ∧ Ext w wr ∧ nth most i - c i ≤ gk)
      case atStart => exact ⟨_, a, Filling.start, HM0.out, HB0.out, HX0.out, Nat.sub_le _ _⟩
      case round =>
        clear HM0 HB0 HX0
        obtain ⟨c, a, hfil, hM, hB, hx, hme⟩ := hrel
        have hlt' : i < most.length := by omega
        obtain ⟨b1, off1, rfl, o1, c1⟩ := SliceOf.elem1 (SliceOf.ext H1.out hx) hlt' rfl
        rw [← nth_eq hlt'] at c1
        have hci := natCells_get (c := c) hlt
        have hmm := hM.mm
        have om := hmm.old
        have oc := hB.old
        have hle := hfil.le
        have hmb : nth most i ≤ 1099511627776 := by rw [nth_eq hlt']; exact HB.out _ (List.getElem_mem hlt')
        have HM := Lib.hid hM
        have HX := Lib.hid hx
        have HFL := Lib.hid hfil
        clear hM hx hfil
        by_cases t1 : c i < nth most i
        · have t1' : decide ((c i : Int) < (nth most i : Int)) = true := by simpa using t1
          go_wp2
          refine wp_region_still_tail 12 (by kernel_rfl) (by kernel_rfl) ?_
          simp only [List.take_succ_cons, List.take_zero, List.drop_succ_cons, List.drop_zero]
          change wpStill _ _ (World.drew _) _ _ _
          repeat still_step
          refine wpStill_nil ?_
          change wpList _ _ _ _ _ (World.drew _)
          go_wp2_with fail
          have hxd : Ext wr wr.drew := Ext.drew (Ext.refl _)
          refine (extend_any F F.length C 0 i a _ gm bm _ hR hC (by omega) hlt HF.out HM.out.ok (hmm.ext hxd) (HM.out.mto.ext hxd) (HG.out.ext (HX.out.trans hxd))).mono ?_
          rintro e w' ⟨bb, rfl, hcase, hT⟩
          have hm2 := hT.blk (hmm.ext hxd) d6
          have hB2 := hT.blk (hB.ext hxd) d2
          have om2 := hm2.old
          have oc2 := hB2.old
          have HX2 := Lib.hid (hT.ext (HX.out.trans hxd) d5)
          clear hT hxd
          rcases hcase with ⟨rfl, t, hone, hmt⟩ | ⟨rfl, hnf, hmt⟩
          · have HO := Lib.hid hone
            have HMT := Lib.hid hmt
            clear hone hmt
            go_wp2
            go_roundg (gk - 1)
            case rel =>
              have hF2 : Feas F F.length C 0 (bump c i) := ⟨t, HO.out.ok, fun x hx => by rw [HO.out.cnts x]; exact bump_congr HM.out.cn i x hx⟩
              have hB3 : Block (w'.setCell ⟨gc, i, none⟩ (.int .i64 ((c i : Int) + 1))) gc ((natCells c F.length).setIfInBounds i (.int .i64 ((c i : Int) + 1))) := inferInstance
              have e1 : ((c i : Int) + 1) = ((c i + 1 : Nat) : Int) := by omega
              have e2 : (natCells c F.length).setIfInBounds i (.int .i64 ((c i : Int) + 1)) = natCells (bump c i) F.length := by
                rw [e1, natCells_set hlt]
                exact natCells_congr fun j _ => by unfold bump; by_cases e : j = i <;> simp [e]
              rw [e2] at hB3
              have hap : Apart gc gm := ⟨d1⟩
              exact ⟨bump c i, t, HFL.out.more t1 hF2, ⟨inferInstance, HMT.out.setCell (Ne.symm d2) _, HO.out.ok, fun x hx => by rw [HO.out.cnts x]; exact bump_congr HM.out.cn i x hx⟩, hB3, Ext.setCell HX2.out d3 _, by simp [bump]; omega⟩
            case measure => omega
          · have hnf' : ¬ Feas F F.length C 0 (bump c i) := fun h => hnf ((Feas.congr (bump_congr HM.out.cn i)).2 h)
            have hc := HFL.out.stop hnf'
            subst hc
            have HMT := Lib.hid hmt
            clear hmt hnf hnf'
            go_wp2
            go_roundw
            case rel => exact ⟨i + 1, a, by omega, by go_num, ⟨hm2, HMT.out, HM.out.ok, HM.out.cn⟩, hB2, HX2.out⟩
            case measure => simp [intOf]; omega
        · have t1' : decide ((c i : Int) < (nth most i : Int)) = false := by simp; omega
          have hc := HFL.out.full t1
          subst hc
          go_wp2
          refine wp_region_still_tail 12 (by kernel_rfl) (by kernel_rfl) ?_
          simp only [List.take_succ_cons, List.take_zero, List.drop_succ_cons, List.drop_zero]
          change wpStill _ _ (World.drew _) _ _ _
          repeat still_step
          refine wpStill_nil ?_
          change wpList _ _ _ _ _ (World.drew _)
          have hxd : Ext wr wr.drew := Ext.drew (Ext.refl _)
          go_wp2
          go_roundw
          case rel => exact ⟨i + 1, a, by omega, by go_num, ⟨hmm.ext hxd, HM.out.mto.ext hxd, HM.out.ok, HM.out.cn⟩, hB.ext hxd, HX.out.trans hxd⟩
          case measure => simp [intOf]; omega
    · obtain rfl : i = F.length := by omega
      have HM := Lib.hid hM
      have HX := Lib.hid hx
      have HBB := Lib.hid hB
      clear hM hx hB
      go_wp2
      refine bodyPost_ret (v := .tuple #[.slice (some ⟨gc, 0, none⟩) F.length F.length, .pointer (some ⟨gm, 0, none⟩)]) (by simp [results, Try.results26, go_sem]) rfl ?_
      exact ⟨gc, gm, bm, a, rfl, HBB.out, HM.out, d3, d4, d5, HX.out⟩

end Go.Proofs.Ythchddkdcibbhaa
