/-
  The law's examples: awake returns true.
-/
import Derived.Test.YthchddkdcibbhaaB9
namespace Go.Proofs.Ythchddkdcibbhaa
open Go.RowKit AssignM

attribute [local go_sem] ExtOf.cell ExtOf.frozen Block.cell Block.frozen ExtB.cell ExtB.frozen alloc_cell alloc_frozen

theorem BoolS.ofBlock {w : World} {g n : Nat} {l : List Bool} (h : Block w g ((l.map Value.bool).toArray)) (hn : l.length = n) (hm : n ≤ maxLen) : BoolS w (.slice (some ⟨g, 0, none⟩) n n) l := by
  refine ⟨some ⟨g, 0, none⟩, n, by rw [hn], by omega, hm, (fun h => by cases h), fun i x hi => ⟨g, 0, rfl, fun j u hj => ?_⟩⟩
  have hj0 : j = 0 := by have := (List.getElem?_eq_some_iff.1 hj).1; simp [encB] at this; omega
  subst hj0
  have hu : Value.bool x = u := by simpa [encB] using hj
  subst hu
  rw [Block.cell (h := h)]
  simp [hi]
theorem GridS.mk2 {w : World} {g b1 b2 n : Nat} {l1 l2 : List Bool} (h1 : Block w b1 ((l1.map Value.bool).toArray)) (h2 : Block w b2 ((l2.map Value.bool).toArray)) (hg : Block w g #[.slice (some ⟨b1, 0, none⟩) n n, .slice (some ⟨b2, 0, none⟩) n n]) (e1 : l1.length = n) (e2 : l2.length = n) (hm : n ≤ maxLen) :
    GridS w (.slice (some ⟨g, 0, none⟩) 2 2) [l1, l2] := by
  refine ⟨[.slice (some ⟨b1, 0, none⟩) n n, .slice (some ⟨b2, 0, none⟩) n n], ⟨some ⟨g, 0, none⟩, 2, rfl, Nat.le_refl _, (by unfold maxLen; omega), (fun h => by cases h), fun i x hi => ⟨g, 0, rfl, fun j u hj => ?_⟩⟩, rfl, fun i r l hr hl => ?_⟩
  · have hj0 : j = 0 := by have := (List.getElem?_eq_some_iff.1 hj).1; simp [encV] at this; omega
    subst hj0
    have hu : x = u := by simpa [encV] using hj
    subst hu
    rw [Block.cell (h := hg), ← hi]
    simp
  · match i, hr, hl with
    | 0, hr, hl => simp at hr hl; subst hr hl; exact BoolS.ofBlock h1 e1 hm
    | 1, hr, hl => simp at hr hl; subst hr hl; exact BoolS.ofBlock h2 e2 hm
    | (i + 2), hr, _ => simp at hr
def F1 : List (List Bool) := [[true, true, false], [true, false, true]]
def F2 : List (List Bool) := [[true, true], [true, false]]
theorem ex1 : countsS F1 [2, 2] = [2, 1] := by decide +kernel
theorem ex1e : mostErr F1 [2, 2] = 0 := by decide +kernel
theorem ex2 : bestS F1 [0, 0] [2, 2] = [0, 0, 1] := by decide +kernel
theorem ex2e : bestErr F1 [0, 0] [2, 2] = 0 := by decide +kernel
theorem ex3 : bestS F1 [0, 2] [2, 2] = [0, 0, -1] := by decide +kernel
theorem ex3e : bestErr F1 [0, 2] [2, 2] = 0 := by decide +kernel
theorem ex4 : bestS F2 [0, 0] [1, 1] = [1, 0] := by decide +kernel
theorem ex4e : bestErr F2 [0, 0] [1, 1] = 0 := by decide +kernel
theorem ex5e : mostErr F1 [2] = 19 := by decide +kernel
theorem ex6 : validS F1 [2, 2] [0, 0, 1] = true := by decide +kernel
theorem ex7 : validS F1 [1, 2] [0, 0, 1] = false := by decide +kernel

theorem infoR : (Try.prog.info? 27).map (fun i => (i.zero, i.size, i.bytes)) = some (some (.slice none 0 0), 1, 24) := by kernel_rfl
theorem infoB : (Try.prog.info? 4).map (fun i => (i.zero, i.size, i.bytes)) = some (some (.bool false), 1, 1) := by kernel_rfl
set_option maxHeartbeats 800000 in
theorem table_one (p : Option Addr) (cap : Nat) (w : World) : Calls Try.prog 11 #[.slice p 1 cap, .slice none 0 0] w fun e w' => ∃ g, e = .returned (.slice (some ⟨g, 0, none⟩) 1 1) ∧ ∃ n : ExtOf w, w' = n.val := by
  have hm1 : ∀ W : World, (Instr.makeSlice 25 (.int .i64 1) (.int .i64 1)).run Try.prog W = .ok (.slice (some ⟨W.heap.size, 0, none⟩) 1 1) (W.alloc (.cells #[.slice none 0 0] 27)) := fun W => by
    have e : madeCells #[Value.slice none 0 0] 1 = #[.slice none 0 0] := by kernel_rfl
    have := run_make_row' (P := Try.prog) 25 27 (.slice none 0 0) 24 Try.underlying25 infoR rfl .i64 .i64 1 (by omega) (by omega) W
    rw [e] at this
    exact this
  have hm0 : ∀ W : World, (Instr.makeSlice 27 (.int .i64 0) (.int .i64 0)).run Try.prog W = .ok (.slice (some ⟨W.heap.size, 0, none⟩) 0 0) (W.alloc (.cells #[] 4)) := fun W => by
    have e : madeCells #[Value.bool false] 0 = #[] := by kernel_rfl
    have := run_make_row' (P := Try.prog) 27 4 (.bool false) 1 Try.underlying27 infoB rfl .i64 .i64 0 (by omega) (by omega) W
    rw [e] at this
    exact this
  go_enter Try.func11, Try.ntmps11
  go_wp2
  refine wp_loop_rounds 2 ?_
  rw [rounds_succ]
  go_wp2
  refine wp_loop_rounds 1 ?_
  rw [rounds_succ]
  go_wp2
  rw [rounds_succ]
  go_wp2
  go_ret
  exact ⟨_, rfl, ExtOf.of (by repeat' (first | (with_reducible exact Ext.refl _) | (with_reducible exact ExtOf.ext _) | (with_reducible refine Ext.trans ?_ (ExtOf.ext _)) | (with_reducible refine Ext.alloc ?_ _) | (with_reducible refine Ext.drew ?_) | (with_reducible refine Ext.setCell ?_ ?_ _) | (with_reducible refine Ext.setRow ?_ ?_ _) | (with_reducible exact HX.out) | (with_reducible refine Ext.trans ?_ HX.out) | (with_reducible refine Ext.below ?_ (Nat.le_refl _) _) | (simp; done) | (simp; omega)))⟩

theorem sameI_refl (a : List Int) : sameI a a = true := by simp [sameI]
set_option maxRecDepth 20000 in
set_option maxHeartbeats 3200000 in
theorem awake_any (w : World) : Calls Try.prog 10 #[] w fun e w' => e = .returned (.bool true) ∧ ∃ n : ExtOf w, w' = n.val := by
  go_enter Try.func10, Try.ntmps10
  go_wp2_with fail
  have hG0 : GridS ((((w.alloc (.cells #[.bool true, .bool true, .bool false] 4)).alloc (.cells #[.bool true, .bool false, .bool true] 4)).alloc (.cells #[.slice (some ⟨w.heap.size, 0, none⟩) 3 3, .slice (some ⟨w.heap.size + 1, 0, none⟩) 3 3] 27)).alloc (.cells #[.int .i64 2, .int .i64 2] 3)) (.slice (some ⟨w.heap.size + 1 + 1, 0, none⟩) 2 2) F1 :=
    GridS.mk2 (b1 := w.heap.size) (b2 := w.heap.size + 1) (inferInstance : Block _ _ #[.bool true, .bool true, .bool false]) (inferInstance : Block _ _ #[.bool true, .bool false, .bool true]) inferInstance rfl rfl (by decide)
  have HX0 : Hid (Ext w ((((w.alloc (.cells #[.bool true, .bool true, .bool false] 4)).alloc (.cells #[.bool true, .bool false, .bool true] 4)).alloc (.cells #[.slice (some ⟨w.heap.size, 0, none⟩) 3 3, .slice (some ⟨w.heap.size + 1, 0, none⟩) 3 3] 27)).alloc (.cells #[.int .i64 2, .int .i64 2] 3))) := Lib.hid (by repeat' (first | (with_reducible exact Ext.refl _) | (with_reducible exact ExtOf.ext _) | (with_reducible refine Ext.trans ?_ (ExtOf.ext _)) | (with_reducible refine Ext.alloc ?_ _) | (with_reducible refine Ext.drew ?_) | (with_reducible refine Ext.setCell ?_ ?_ _) | (with_reducible refine Ext.setRow ?_ ?_ _) | (with_reducible exact HX.out) | (with_reducible refine Ext.trans ?_ HX.out) | (with_reducible refine Ext.below ?_ (Nat.le_refl _) _) | (simp; done) | (simp; omega)))
  refine (counts_any F1 [2, 2] _ _ _ (by decide) hG0 (IntS.ofBlock (l := [2, 2]) (inferInstance : Block _ _ #[.int .i64 2, .int .i64 2]) rfl (by decide)) (by decide)).mono ?_
  rintro e w' ⟨vc, rfl, hvc, n1, rfl⟩
  rw [ex1] at hvc
  rw [ex1e]
  have HG := Lib.hid (hG0.ext n1.ext)
  have HC1 := Lib.hid hvc
  have HXW := Lib.hid (HX0.out.trans n1.ext)
  clear hG0 HX0 hvc
  generalize n1.val = W1 at *
  clear n1
  generalize Value.slice (some ⟨w.heap.size + 1 + 1, 0, none⟩) 2 2 = vf at *
  go_wp2_with fail
  refine (best_any F1 [0, 0] [2, 2] _ _ _ _ (by decide) (by decide) (by decide) (HG.out.ext (by repeat' (first | (with_reducible exact Ext.refl _) | (with_reducible exact ExtOf.ext _) | (with_reducible refine Ext.trans ?_ (ExtOf.ext _)) | (with_reducible refine Ext.alloc ?_ _) | (with_reducible refine Ext.drew ?_) | (with_reducible refine Ext.setCell ?_ ?_ _) | (with_reducible refine Ext.setRow ?_ ?_ _) | (with_reducible exact HX.out) | (with_reducible refine Ext.trans ?_ HX.out) | (with_reducible refine Ext.below ?_ (Nat.le_refl _) _) | (simp; done) | (simp; omega)))) (IntS.ofBlock (l := [0, 0]) (inferInstance : Block _ _ #[.int .i64 0, .int .i64 0]) rfl (by decide)) (IntS.ofBlock (l := [2, 2]) (inferInstance : Block _ _ #[.int .i64 2, .int .i64 2]) rfl (by decide))).mono ?_
  rintro e w' ⟨va, rfl, hv, n, rfl⟩
  rw [ex2] at hv
  rw [ex2e]
  have HA0 := Lib.hid hv
  clear hv
  have hx : Ext W1 n.val := by repeat' (first | (with_reducible exact Ext.refl _) | (with_reducible exact ExtOf.ext _) | (with_reducible refine Ext.trans ?_ (ExtOf.ext _)) | (with_reducible refine Ext.alloc ?_ _) | (with_reducible refine Ext.drew ?_) | (with_reducible refine Ext.setCell ?_ ?_ _) | (with_reducible refine Ext.setRow ?_ ?_ _) | (with_reducible exact HX.out) | (with_reducible refine Ext.trans ?_ HX.out) | (with_reducible refine Ext.below ?_ (Nat.le_refl _) _) | (simp; done) | (simp; omega))
  have HG' := Lib.hid (HG.out.ext hx)
  clear HG
  have HG := HG'
  clear HG'
  have HC1' := Lib.hid (SliceOf.ext HC1.out hx)
  clear HC1
  have HC1 := HC1'
  clear HC1'
  have HX' := Lib.hid (HXW.out.trans hx)
  clear HXW
  have HXW := HX'
  clear HX' hx
  generalize n.val = W2 at *
  clear n
  have HA := HA0
  clear HA0
  go_wp2_with fail
  refine (best_any F1 [0, 2] [2, 2] _ _ _ _ (by decide) (by decide) (by decide) (HG.out.ext (by repeat' (first | (with_reducible exact Ext.refl _) | (with_reducible exact ExtOf.ext _) | (with_reducible refine Ext.trans ?_ (ExtOf.ext _)) | (with_reducible refine Ext.alloc ?_ _) | (with_reducible refine Ext.drew ?_) | (with_reducible refine Ext.setCell ?_ ?_ _) | (with_reducible refine Ext.setRow ?_ ?_ _) | (with_reducible exact HX.out) | (with_reducible refine Ext.trans ?_ HX.out) | (with_reducible refine Ext.below ?_ (Nat.le_refl _) _) | (simp; done) | (simp; omega)))) (IntS.ofBlock (l := [0, 2]) (inferInstance : Block _ _ #[.int .i64 0, .int .i64 2]) rfl (by decide)) (IntS.ofBlock (l := [2, 2]) (inferInstance : Block _ _ #[.int .i64 2, .int .i64 2]) rfl (by decide))).mono ?_
  rintro e w' ⟨vb, rfl, hv, n, rfl⟩
  rw [ex3] at hv
  rw [ex3e]
  have HB0 := Lib.hid hv
  clear hv
  have hx : Ext W2 n.val := by repeat' (first | (with_reducible exact Ext.refl _) | (with_reducible exact ExtOf.ext _) | (with_reducible refine Ext.trans ?_ (ExtOf.ext _)) | (with_reducible refine Ext.alloc ?_ _) | (with_reducible refine Ext.drew ?_) | (with_reducible refine Ext.setCell ?_ ?_ _) | (with_reducible refine Ext.setRow ?_ ?_ _) | (with_reducible exact HX.out) | (with_reducible refine Ext.trans ?_ HX.out) | (with_reducible refine Ext.below ?_ (Nat.le_refl _) _) | (simp; done) | (simp; omega))
  have HG' := Lib.hid (HG.out.ext hx)
  clear HG
  have HG := HG'
  clear HG'
  have HC1' := Lib.hid (SliceOf.ext HC1.out hx)
  clear HC1
  have HC1 := HC1'
  clear HC1'
  have HA' := Lib.hid (SliceOf.ext HA.out hx)
  clear HA
  have HA := HA'
  clear HA'
  have HX' := Lib.hid (HXW.out.trans hx)
  clear HXW
  have HXW := HX'
  clear HX' hx
  generalize n.val = W3 at *
  clear n
  have HB := HB0
  clear HB0
  go_wp2_with fail
  have hG2 : GridS (((((W3.alloc (.cells #[.bool true, .bool true] 4)).alloc (.cells #[.bool true, .bool false] 4)).alloc (.cells #[.slice (some ⟨W3.heap.size, 0, none⟩) 2 2, .slice (some ⟨W3.heap.size + 1, 0, none⟩) 2 2] 27)).alloc (.cells #[.int .i64 0, .int .i64 0] 3)).alloc (.cells #[.int .i64 1, .int .i64 1] 3)) (.slice (some ⟨W3.heap.size + 1 + 1, 0, none⟩) 2 2) F2 := GridS.mk2 (b1 := W3.heap.size) (b2 := W3.heap.size + 1) (inferInstance : Block _ _ #[.bool true, .bool true]) (inferInstance : Block _ _ #[.bool true, .bool false]) inferInstance rfl rfl (by decide)
  have hB5 : Block (((((W3.alloc (.cells #[.bool true, .bool true] 4)).alloc (.cells #[.bool true, .bool false] 4)).alloc (.cells #[.slice (some ⟨W3.heap.size, 0, none⟩) 2 2, .slice (some ⟨W3.heap.size + 1, 0, none⟩) 2 2] 27)).alloc (.cells #[.int .i64 0, .int .i64 0] 3)).alloc (.cells #[.int .i64 1, .int .i64 1] 3)) (W3.heap.size + 1 + 1 + 1 + 1) #[.int .i64 1, .int .i64 1] := by
    have := Block.new ((((W3.alloc (.cells #[.bool true, .bool true] 4)).alloc (.cells #[.bool true, .bool false] 4)).alloc (.cells #[.slice (some ⟨W3.heap.size, 0, none⟩) 2 2, .slice (some ⟨W3.heap.size + 1, 0, none⟩) 2 2] 27)).alloc (.cells #[.int .i64 0, .int .i64 0] 3)) #[.int .i64 1, .int .i64 1] 3
    simpa using this
  refine (best_any F2 [0, 0] [1, 1] _ _ _ _ (by decide) (by decide) (by decide) hG2 (IntS.ofBlock (l := [0, 0]) (inferInstance : Block _ _ #[.int .i64 0, .int .i64 0]) rfl (by decide)) (IntS.ofBlock (l := [1, 1]) hB5 rfl (by decide))).mono ?_
  rintro e w' ⟨vd, rfl, hv, n, rfl⟩
  rw [ex4] at hv
  rw [ex4e]
  have HD0 := Lib.hid hv
  clear hv hG2 hB5
  have hx : Ext W3 n.val := by repeat' (first | (with_reducible exact Ext.refl _) | (with_reducible exact ExtOf.ext _) | (with_reducible refine Ext.trans ?_ (ExtOf.ext _)) | (with_reducible refine Ext.alloc ?_ _) | (with_reducible refine Ext.drew ?_) | (with_reducible refine Ext.setCell ?_ ?_ _) | (with_reducible refine Ext.setRow ?_ ?_ _) | (with_reducible exact HX.out) | (with_reducible refine Ext.trans ?_ HX.out) | (with_reducible refine Ext.below ?_ (Nat.le_refl _) _) | (simp; done) | (simp; omega))
  have HG' := Lib.hid (HG.out.ext hx)
  clear HG
  have HG := HG'
  clear HG'
  have HC1' := Lib.hid (SliceOf.ext HC1.out hx)
  clear HC1
  have HC1 := HC1'
  clear HC1'
  have HA' := Lib.hid (SliceOf.ext HA.out hx)
  clear HA
  have HA := HA'
  clear HA'
  have HB' := Lib.hid (SliceOf.ext HB.out hx)
  clear HB
  have HB := HB'
  clear HB'
  have HX' := Lib.hid (HXW.out.trans hx)
  clear HXW
  have HXW := HX'
  clear HX' hx
  generalize n.val = W4 at *
  clear n
  have HD := HD0
  clear HD0
  go_wp2_with fail
  refine (counts_any F1 [2] _ _ _ (by decide) (HG.out.ext (by repeat' (first | (with_reducible exact Ext.refl _) | (with_reducible exact ExtOf.ext _) | (with_reducible refine Ext.trans ?_ (ExtOf.ext _)) | (with_reducible refine Ext.alloc ?_ _) | (with_reducible refine Ext.drew ?_) | (with_reducible refine Ext.setCell ?_ ?_ _) | (with_reducible refine Ext.setRow ?_ ?_ _) | (with_reducible exact HX.out) | (with_reducible refine Ext.trans ?_ HX.out) | (with_reducible refine Ext.below ?_ (Nat.le_refl _) _) | (simp; done) | (simp; omega)))) (IntS.ofBlock (l := [2]) (inferInstance : Block _ _ #[.int .i64 2]) rfl (by decide)) (by decide)).mono ?_
  rintro e w' ⟨vj, rfl, hv, n, rfl⟩
  rw [ex5e]
  clear hv
  have hx : Ext W4 n.val := by repeat' (first | (with_reducible exact Ext.refl _) | (with_reducible exact ExtOf.ext _) | (with_reducible refine Ext.trans ?_ (ExtOf.ext _)) | (with_reducible refine Ext.alloc ?_ _) | (with_reducible refine Ext.drew ?_) | (with_reducible refine Ext.setCell ?_ ?_ _) | (with_reducible refine Ext.setRow ?_ ?_ _) | (with_reducible exact HX.out) | (with_reducible refine Ext.trans ?_ HX.out) | (with_reducible refine Ext.below ?_ (Nat.le_refl _) _) | (simp; done) | (simp; omega))
  have HG' := Lib.hid (HG.out.ext hx)
  clear HG
  have HG := HG'
  clear HG'
  have HC1' := Lib.hid (SliceOf.ext HC1.out hx)
  clear HC1
  have HC1 := HC1'
  clear HC1'
  have HA' := Lib.hid (SliceOf.ext HA.out hx)
  clear HA
  have HA := HA'
  clear HA'
  have HB' := Lib.hid (SliceOf.ext HB.out hx)
  clear HB
  have HB := HB'
  clear HB'
  have HD' := Lib.hid (SliceOf.ext HD.out hx)
  clear HD
  have HD := HD'
  clear HD'
  have HX' := Lib.hid (HXW.out.trans hx)
  clear HXW
  have HXW := HX'
  clear HX' hx
  generalize n.val = W5 at *
  clear n
  go_wp2_with fail
  refine (table_one _ _ _).mono ?_
  rintro e w' ⟨gt, rfl, n, rfl⟩
  have hx : Ext W5 n.val := by repeat' (first | (with_reducible exact Ext.refl _) | (with_reducible exact ExtOf.ext _) | (with_reducible refine Ext.trans ?_ (ExtOf.ext _)) | (with_reducible refine Ext.alloc ?_ _) | (with_reducible refine Ext.drew ?_) | (with_reducible refine Ext.setCell ?_ ?_ _) | (with_reducible refine Ext.setRow ?_ ?_ _) | (with_reducible exact HX.out) | (with_reducible refine Ext.trans ?_ HX.out) | (with_reducible refine Ext.below ?_ (Nat.le_refl _) _) | (simp; done) | (simp; omega))
  have HG' := Lib.hid (HG.out.ext hx)
  clear HG
  have HG := HG'
  clear HG'
  have HC1' := Lib.hid (SliceOf.ext HC1.out hx)
  clear HC1
  have HC1 := HC1'
  clear HC1'
  have HA' := Lib.hid (SliceOf.ext HA.out hx)
  clear HA
  have HA := HA'
  clear HA'
  have HB' := Lib.hid (SliceOf.ext HB.out hx)
  clear HB
  have HB := HB'
  clear HB'
  have HD' := Lib.hid (SliceOf.ext HD.out hx)
  clear HD
  have HD := HD'
  clear HD'
  have HX' := Lib.hid (HXW.out.trans hx)
  clear HXW
  have HXW := HX'
  clear HX' hx
  generalize n.val = W6 at *
  clear n
  go_wp2_with fail
  refine (ints_any [2, 1] [2, 1] _ _ _ (SliceOf.ext HC1.out (by repeat' (first | (with_reducible exact Ext.refl _) | (with_reducible exact ExtOf.ext _) | (with_reducible refine Ext.trans ?_ (ExtOf.ext _)) | (with_reducible refine Ext.alloc ?_ _) | (with_reducible refine Ext.drew ?_) | (with_reducible refine Ext.setCell ?_ ?_ _) | (with_reducible refine Ext.setRow ?_ ?_ _) | (with_reducible exact HX.out) | (with_reducible refine Ext.trans ?_ HX.out) | (with_reducible refine Ext.below ?_ (Nat.le_refl _) _) | (simp; done) | (simp; omega)))) (IntS.ofBlock (l := [2, 1]) (inferInstance : Block _ _ #[.int .i64 2, .int .i64 1]) rfl (by decide)) (by decide) (by decide)).mono ?_
  rintro e w' ⟨rfl, n, rfl⟩
  rw [sameI_refl]
  have hx : Ext W6 n.val := by repeat' (first | (with_reducible exact Ext.refl _) | (with_reducible exact ExtOf.ext _) | (with_reducible refine Ext.trans ?_ (ExtOf.ext _)) | (with_reducible refine Ext.alloc ?_ _) | (with_reducible refine Ext.drew ?_) | (with_reducible refine Ext.setCell ?_ ?_ _) | (with_reducible refine Ext.setRow ?_ ?_ _) | (with_reducible exact HX.out) | (with_reducible refine Ext.trans ?_ HX.out) | (with_reducible refine Ext.below ?_ (Nat.le_refl _) _) | (simp; done) | (simp; omega))
  have HG' := Lib.hid (HG.out.ext hx)
  clear HG
  have HG := HG'
  clear HG'
  have HC1' := Lib.hid (SliceOf.ext HC1.out hx)
  clear HC1
  have HC1 := HC1'
  clear HC1'
  have HA' := Lib.hid (SliceOf.ext HA.out hx)
  clear HA
  have HA := HA'
  clear HA'
  have HB' := Lib.hid (SliceOf.ext HB.out hx)
  clear HB
  have HB := HB'
  clear HB'
  have HD' := Lib.hid (SliceOf.ext HD.out hx)
  clear HD
  have HD := HD'
  clear HD'
  have HX' := Lib.hid (HXW.out.trans hx)
  clear HXW
  have HXW := HX'
  clear HX' hx
  generalize n.val = W7 at *
  clear n
  go_wp2_with fail
  refine (ints_any [0, 0, 1] [0, 0, 1] _ _ _ (SliceOf.ext HA.out (by repeat' (first | (with_reducible exact Ext.refl _) | (with_reducible exact ExtOf.ext _) | (with_reducible refine Ext.trans ?_ (ExtOf.ext _)) | (with_reducible refine Ext.alloc ?_ _) | (with_reducible refine Ext.drew ?_) | (with_reducible refine Ext.setCell ?_ ?_ _) | (with_reducible refine Ext.setRow ?_ ?_ _) | (with_reducible exact HX.out) | (with_reducible refine Ext.trans ?_ HX.out) | (with_reducible refine Ext.below ?_ (Nat.le_refl _) _) | (simp; done) | (simp; omega)))) (IntS.ofBlock (l := [0, 0, 1]) (inferInstance : Block _ _ #[.int .i64 0, .int .i64 0, .int .i64 1]) rfl (by decide)) (by decide) (by decide)).mono ?_
  rintro e w' ⟨rfl, n, rfl⟩
  rw [sameI_refl]
  have hx : Ext W7 n.val := by repeat' (first | (with_reducible exact Ext.refl _) | (with_reducible exact ExtOf.ext _) | (with_reducible refine Ext.trans ?_ (ExtOf.ext _)) | (with_reducible refine Ext.alloc ?_ _) | (with_reducible refine Ext.drew ?_) | (with_reducible refine Ext.setCell ?_ ?_ _) | (with_reducible refine Ext.setRow ?_ ?_ _) | (with_reducible exact HX.out) | (with_reducible refine Ext.trans ?_ HX.out) | (with_reducible refine Ext.below ?_ (Nat.le_refl _) _) | (simp; done) | (simp; omega))
  have HG' := Lib.hid (HG.out.ext hx)
  clear HG
  have HG := HG'
  clear HG'
  have HC1' := Lib.hid (SliceOf.ext HC1.out hx)
  clear HC1
  have HC1 := HC1'
  clear HC1'
  have HA' := Lib.hid (SliceOf.ext HA.out hx)
  clear HA
  have HA := HA'
  clear HA'
  have HB' := Lib.hid (SliceOf.ext HB.out hx)
  clear HB
  have HB := HB'
  clear HB'
  have HD' := Lib.hid (SliceOf.ext HD.out hx)
  clear HD
  have HD := HD'
  clear HD'
  have HX' := Lib.hid (HXW.out.trans hx)
  clear HXW
  have HXW := HX'
  clear HX' hx
  generalize n.val = W8 at *
  clear n
  go_wp2_with fail
  refine (ints_any [0, 0, -1] [0, 0, -1] _ _ _ (SliceOf.ext HB.out (by repeat' (first | (with_reducible exact Ext.refl _) | (with_reducible exact ExtOf.ext _) | (with_reducible refine Ext.trans ?_ (ExtOf.ext _)) | (with_reducible refine Ext.alloc ?_ _) | (with_reducible refine Ext.drew ?_) | (with_reducible refine Ext.setCell ?_ ?_ _) | (with_reducible refine Ext.setRow ?_ ?_ _) | (with_reducible exact HX.out) | (with_reducible refine Ext.trans ?_ HX.out) | (with_reducible refine Ext.below ?_ (Nat.le_refl _) _) | (simp; done) | (simp; omega)))) (IntS.ofBlock (l := [0, 0, -1]) (inferInstance : Block _ _ #[.int .i64 0, .int .i64 0, .int .i64 (-1)]) rfl (by decide)) (by decide) (by decide)).mono ?_
  rintro e w' ⟨rfl, n, rfl⟩
  rw [sameI_refl]
  have hx : Ext W8 n.val := by repeat' (first | (with_reducible exact Ext.refl _) | (with_reducible exact ExtOf.ext _) | (with_reducible refine Ext.trans ?_ (ExtOf.ext _)) | (with_reducible refine Ext.alloc ?_ _) | (with_reducible refine Ext.drew ?_) | (with_reducible refine Ext.setCell ?_ ?_ _) | (with_reducible refine Ext.setRow ?_ ?_ _) | (with_reducible exact HX.out) | (with_reducible refine Ext.trans ?_ HX.out) | (with_reducible refine Ext.below ?_ (Nat.le_refl _) _) | (simp; done) | (simp; omega))
  have HG' := Lib.hid (HG.out.ext hx)
  clear HG
  have HG := HG'
  clear HG'
  have HC1' := Lib.hid (SliceOf.ext HC1.out hx)
  clear HC1
  have HC1 := HC1'
  clear HC1'
  have HA' := Lib.hid (SliceOf.ext HA.out hx)
  clear HA
  have HA := HA'
  clear HA'
  have HB' := Lib.hid (SliceOf.ext HB.out hx)
  clear HB
  have HB := HB'
  clear HB'
  have HD' := Lib.hid (SliceOf.ext HD.out hx)
  clear HD
  have HD := HD'
  clear HD'
  have HX' := Lib.hid (HXW.out.trans hx)
  clear HXW
  have HXW := HX'
  clear HX' hx
  generalize n.val = W9 at *
  clear n
  go_wp2_with fail
  refine (ints_any [1, 0] [1, 0] _ _ _ (SliceOf.ext HD.out (by repeat' (first | (with_reducible exact Ext.refl _) | (with_reducible exact ExtOf.ext _) | (with_reducible refine Ext.trans ?_ (ExtOf.ext _)) | (with_reducible refine Ext.alloc ?_ _) | (with_reducible refine Ext.drew ?_) | (with_reducible refine Ext.setCell ?_ ?_ _) | (with_reducible refine Ext.setRow ?_ ?_ _) | (with_reducible exact HX.out) | (with_reducible refine Ext.trans ?_ HX.out) | (with_reducible refine Ext.below ?_ (Nat.le_refl _) _) | (simp; done) | (simp; omega)))) (IntS.ofBlock (l := [1, 0]) (inferInstance : Block _ _ #[.int .i64 1, .int .i64 0]) rfl (by decide)) (by decide) (by decide)).mono ?_
  rintro e w' ⟨rfl, n, rfl⟩
  rw [sameI_refl]
  have hx : Ext W9 n.val := by repeat' (first | (with_reducible exact Ext.refl _) | (with_reducible exact ExtOf.ext _) | (with_reducible refine Ext.trans ?_ (ExtOf.ext _)) | (with_reducible refine Ext.alloc ?_ _) | (with_reducible refine Ext.drew ?_) | (with_reducible refine Ext.setCell ?_ ?_ _) | (with_reducible refine Ext.setRow ?_ ?_ _) | (with_reducible exact HX.out) | (with_reducible refine Ext.trans ?_ HX.out) | (with_reducible refine Ext.below ?_ (Nat.le_refl _) _) | (simp; done) | (simp; omega))
  have HG' := Lib.hid (HG.out.ext hx)
  clear HG
  have HG := HG'
  clear HG'
  have HC1' := Lib.hid (SliceOf.ext HC1.out hx)
  clear HC1
  have HC1 := HC1'
  clear HC1'
  have HA' := Lib.hid (SliceOf.ext HA.out hx)
  clear HA
  have HA := HA'
  clear HA'
  have HB' := Lib.hid (SliceOf.ext HB.out hx)
  clear HB
  have HB := HB'
  clear HB'
  have HD' := Lib.hid (SliceOf.ext HD.out hx)
  clear HD
  have HD := HD'
  clear HD'
  have HX' := Lib.hid (HXW.out.trans hx)
  clear HXW
  have HXW := HX'
  clear HX' hx
  generalize n.val = W10 at *
  clear n
  go_wp2_with fail
  refine (valid_any F1 [2, 2] [0, 0, 1] _ _ _ _ (by decide) (by decide) (by decide) (HG.out.ext (by repeat' (first | (with_reducible exact Ext.refl _) | (with_reducible exact ExtOf.ext _) | (with_reducible refine Ext.trans ?_ (ExtOf.ext _)) | (with_reducible refine Ext.alloc ?_ _) | (with_reducible refine Ext.drew ?_) | (with_reducible refine Ext.setCell ?_ ?_ _) | (with_reducible refine Ext.setRow ?_ ?_ _) | (with_reducible exact HX.out) | (with_reducible refine Ext.trans ?_ HX.out) | (with_reducible refine Ext.below ?_ (Nat.le_refl _) _) | (simp; done) | (simp; omega)))) (IntS.ofBlock (l := [2, 2]) (inferInstance : Block _ _ #[.int .i64 2, .int .i64 2]) rfl (by decide)) (SliceOf.ext HA.out (by repeat' (first | (with_reducible exact Ext.refl _) | (with_reducible exact ExtOf.ext _) | (with_reducible refine Ext.trans ?_ (ExtOf.ext _)) | (with_reducible refine Ext.alloc ?_ _) | (with_reducible refine Ext.drew ?_) | (with_reducible refine Ext.setCell ?_ ?_ _) | (with_reducible refine Ext.setRow ?_ ?_ _) | (with_reducible exact HX.out) | (with_reducible refine Ext.trans ?_ HX.out) | (with_reducible refine Ext.below ?_ (Nat.le_refl _) _) | (simp; done) | (simp; omega))))).mono ?_
  rintro e w' ⟨rfl, n, rfl⟩
  rw [ex6]
  have hx : Ext W10 n.val := by repeat' (first | (with_reducible exact Ext.refl _) | (with_reducible exact ExtOf.ext _) | (with_reducible refine Ext.trans ?_ (ExtOf.ext _)) | (with_reducible refine Ext.alloc ?_ _) | (with_reducible refine Ext.drew ?_) | (with_reducible refine Ext.setCell ?_ ?_ _) | (with_reducible refine Ext.setRow ?_ ?_ _) | (with_reducible exact HX.out) | (with_reducible refine Ext.trans ?_ HX.out) | (with_reducible refine Ext.below ?_ (Nat.le_refl _) _) | (simp; done) | (simp; omega))
  have HG' := Lib.hid (HG.out.ext hx)
  clear HG
  have HG := HG'
  clear HG'
  have HC1' := Lib.hid (SliceOf.ext HC1.out hx)
  clear HC1
  have HC1 := HC1'
  clear HC1'
  have HA' := Lib.hid (SliceOf.ext HA.out hx)
  clear HA
  have HA := HA'
  clear HA'
  have HB' := Lib.hid (SliceOf.ext HB.out hx)
  clear HB
  have HB := HB'
  clear HB'
  have HD' := Lib.hid (SliceOf.ext HD.out hx)
  clear HD
  have HD := HD'
  clear HD'
  have HX' := Lib.hid (HXW.out.trans hx)
  clear HXW
  have HXW := HX'
  clear HX' hx
  generalize n.val = W11 at *
  clear n
  go_wp2_with fail
  refine (valid_any F1 [1, 2] [0, 0, 1] _ _ _ _ (by decide) (by decide) (by decide) (HG.out.ext (by repeat' (first | (with_reducible exact Ext.refl _) | (with_reducible exact ExtOf.ext _) | (with_reducible refine Ext.trans ?_ (ExtOf.ext _)) | (with_reducible refine Ext.alloc ?_ _) | (with_reducible refine Ext.drew ?_) | (with_reducible refine Ext.setCell ?_ ?_ _) | (with_reducible refine Ext.setRow ?_ ?_ _) | (with_reducible exact HX.out) | (with_reducible refine Ext.trans ?_ HX.out) | (with_reducible refine Ext.below ?_ (Nat.le_refl _) _) | (simp; done) | (simp; omega)))) (IntS.ofBlock (l := [1, 2]) (inferInstance : Block _ _ #[.int .i64 1, .int .i64 2]) rfl (by decide)) (SliceOf.ext HA.out (by repeat' (first | (with_reducible exact Ext.refl _) | (with_reducible exact ExtOf.ext _) | (with_reducible refine Ext.trans ?_ (ExtOf.ext _)) | (with_reducible refine Ext.alloc ?_ _) | (with_reducible refine Ext.drew ?_) | (with_reducible refine Ext.setCell ?_ ?_ _) | (with_reducible refine Ext.setRow ?_ ?_ _) | (with_reducible exact HX.out) | (with_reducible refine Ext.trans ?_ HX.out) | (with_reducible refine Ext.below ?_ (Nat.le_refl _) _) | (simp; done) | (simp; omega))))).mono ?_
  rintro e w' ⟨rfl, n, rfl⟩
  rw [ex7]
  have hx : Ext W11 n.val := by repeat' (first | (with_reducible exact Ext.refl _) | (with_reducible exact ExtOf.ext _) | (with_reducible refine Ext.trans ?_ (ExtOf.ext _)) | (with_reducible refine Ext.alloc ?_ _) | (with_reducible refine Ext.drew ?_) | (with_reducible refine Ext.setCell ?_ ?_ _) | (with_reducible refine Ext.setRow ?_ ?_ _) | (with_reducible exact HX.out) | (with_reducible refine Ext.trans ?_ HX.out) | (with_reducible refine Ext.below ?_ (Nat.le_refl _) _) | (simp; done) | (simp; omega))
  have HG' := Lib.hid (HG.out.ext hx)
  clear HG
  have HG := HG'
  clear HG'
  have HC1' := Lib.hid (SliceOf.ext HC1.out hx)
  clear HC1
  have HC1 := HC1'
  clear HC1'
  have HA' := Lib.hid (SliceOf.ext HA.out hx)
  clear HA
  have HA := HA'
  clear HA'
  have HB' := Lib.hid (SliceOf.ext HB.out hx)
  clear HB
  have HB := HB'
  clear HB'
  have HD' := Lib.hid (SliceOf.ext HD.out hx)
  clear HD
  have HD := HD'
  clear HD'
  have HX' := Lib.hid (HXW.out.trans hx)
  clear HXW
  have HXW := HX'
  clear HX' hx
  generalize n.val = W12 at *
  clear n
  go_wp2_with fail
  go_ret
  exact ⟨rfl, ExtOf.of HXW.out⟩

end Go.Proofs.Ythchddkdcibbhaa
