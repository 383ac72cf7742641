/-
  The walks of Table, of the program and of the reference.
-/
import Derived.Test.YthchddkdcibbhaaT2
import Derived.Test.YthchddkdcibbhaaD7
set_option linter.unusedVariables false
set_option linter.unusedSimpArgs false
namespace Go.Proofs.Ythchddkdcibbhaa
open Go.RowKit AssignM

attribute [local go_sem] ExtOf.cell ExtOf.frozen Block.cell Block.frozen ExtB.cell ExtB.frozen alloc_cell alloc_frozen
theorem madeB (n : Nat) : madeCells #[Value.bool false] n = Array.replicate n (Value.bool false) := by
  apply Array.ext_getElem?
  intro j
  by_cases h : j < n
  · simp [madeCells, h, Nat.mod_one]
  · simp [madeCells, h]
theorem madeR (n m : Nat) : madeCells #[Value.slice none 0 0] m = gridCells n [] m := by
  apply Array.ext_getElem?
  intro j
  by_cases h : j < m
  · simp [madeCells, gridCells, h, Nat.mod_one]
  · simp [madeCells, gridCells, h]
theorem gridCells_last {n m : Nat} {gs : List Nat} {g : Nat} : (gridCells n (gs ++ [g]) m)[gs.length]? = some (.slice (some ⟨g, 0, none⟩) n n) := by
  simp [gridCells]
theorem gridCells_next {n m : Nat} {gs : List Nat} (h : gs.length < m) : (gridCells n gs m)[gs.length]? = some (.slice none 0 0) := by
  simp only [gridCells, List.getElem?_toArray]
  rw [List.getElem?_append_right (by simp), List.length_map, Nat.sub_self, List.getElem?_replicate, if_pos (by omega)]
theorem rowCells_next {L : List Brd} {o : Ord} {k : Nat} (h : k < L.length) : (rowCells L o k)[k]? = some (.bool false) := by
  have hl : ((List.take k (rowOf L o)).map Value.bool).length = k := by simp [rowOf]; omega
  simp only [rowCells, List.getElem?_toArray]
  rw [List.getElem?_append_right (by omega), hl, Nat.sub_self, List.getElem?_replicate, if_pos (by omega)]
set_option maxRecDepth 20000 in
set_option maxHeartbeats 1600000 in
theorem table_any (O : List Ord) (L : List Brd) (v0 v1 : Value) (w : World) (h0 : OrdS w v0 O) (h1 : BrdS w v1 L) (hO : O.length ≤ 1048576) (hL : L.length ≤ 1048576) :
    Calls Try.prog 11 #[v0, v1] w fun e w' => ∃ v, e = .returned v ∧ GridS w' v (tab O L) ∧ ∃ n : ExtOf w, w' = n.val := by
  have hm1 := run_make_row' (P := Try.prog) 25 27 (.slice none 0 0) 24 Try.underlying25 infoR rfl .i64 .i64 O.length (by omega) (by omega)
  rw [madeR L.length] at hm1
  have hm2 := run_make_row' (P := Try.prog) 27 4 (.bool false) 1 Try.underlying27 infoB rfl .i64 .i64 L.length (by omega) (by omega)
  rw [madeB] at hm2
  obtain ⟨p0, cap0, rfl, hg1, hg2, hg3⟩ := SliceOf.form h0
  obtain ⟨p1, cap1, rfl, hg4, hg5, hg6⟩ := SliceOf.form h1
  have H0 := Lib.hid h0
  have H1 := Lib.hid h1
  clear h0 h1
  go_enter Try.func11, Try.ntmps11
  go_wp2
  have hB0 : Block (w.alloc (.cells (gridCells L.length [] O.length) 27)) w.heap.size (gridCells L.length [] O.length) := inferInstance
  have hX0 : Ext w (w.alloc (.cells (gridCells L.length [] O.length) 27)) := by repeat' (first | (with_reducible exact Ext.refl _) | (with_reducible exact ExtOf.ext _) | (with_reducible refine Ext.trans ?_ (ExtOf.ext _)) | (with_reducible refine Ext.alloc ?_ _) | (with_reducible refine Ext.drew ?_) | (with_reducible refine Ext.setCell ?_ ?_ _) | (with_reducible refine Ext.setRow ?_ ?_ _) | (with_reducible exact HX.out) | (with_reducible refine Ext.trans ?_ HX.out) | (with_reducible refine Ext.below ?_ (Nat.le_refl _) _) | (simp; done) | (simp; omega))
  generalize w.alloc (.cells (gridCells L.length [] O.length) 27) = W0 at *
  obtain ⟨g0, hg0⟩ : ∃ x, x = w.heap.size := ⟨_, rfl⟩
  rw [← hg0] at hB0 ⊢
  have hgw : w.heap.size ≤ g0 := by omega
  have HB0 := Lib.hid hB0
  have HX0 := Lib.hid hX0
  clear hg0 hB0 hX0 hm1
  go_loopw [13] (fun v wr => ∃ (k : Nat) (gs : List Nat), k ≤ O.length ∧ v = .int .i64 k ∧ gs.length = k ∧ Block wr g0 (gridCells L.length gs O.length) ∧ RowsAt (tab O L) g0 L.length gs wr ∧ Ext w wr) (fun v _ => O.length - (intOf v).toNat)
  case atStart => exact ⟨0, [], by omega, rfl, rfl, HB0.out, (fun i g h => by simp at h), HX0.out⟩
  case round =>
    clear HB0 HX0
    obtain ⟨k, gs, hk, rfl, hgl, hB, hR, hx⟩ := hrel
    have HR := Lib.hid hR
    have HX := Lib.hid hx
    have ob := hB.old
    have hg0lt := hB.lt
    clear hR hx
    by_cases hlt : k < O.length
    · have hgn : (gridCells L.length gs O.length)[k]? = some (.slice none 0 0) := by rw [← hgl]; exact gridCells_next (by omega)
      go_wp2
      obtain ⟨gr, hgr⟩ : ∃ x, x = wr.heap.size := ⟨_, rfl⟩
      have hap : Apart gr g0 := ⟨by omega⟩
      have hap' : Apart g0 gr := ⟨by omega⟩
      have hB1 : Block ((wr.setCell ⟨g0, k, none⟩ (.slice (some ⟨gr, 0, none⟩) L.length L.length)).alloc (.cells (Array.replicate L.length (.bool false)) 4)) g0 ((gridCells L.length gs O.length).setIfInBounds k (.slice (some ⟨gr, 0, none⟩) L.length L.length)) := inferInstance
      have hG1 : Block ((wr.setCell ⟨g0, k, none⟩ (.slice (some ⟨gr, 0, none⟩) L.length L.length)).alloc (.cells (Array.replicate L.length (.bool false)) 4)) gr (rowCells L O[k] 0) := by
        have e0 : rowCells L O[k] 0 = Array.replicate L.length (.bool false) := by rw [rowCells_zero]; simp
        have e1 : gr = (wr.setCell ⟨g0, k, none⟩ (.slice (some ⟨gr, 0, none⟩) L.length L.length)).heap.size := by simp [World.setCell, hgr]
        rw [e0]
        have := Block.new (wr.setCell ⟨g0, k, none⟩ (.slice (some ⟨gr, 0, none⟩) L.length L.length)) (Array.replicate L.length (.bool false)) 4
        rw [← e1] at this
        exact this
      have hR1 : RowsAt (tab O L) g0 L.length gs ((wr.setCell ⟨g0, k, none⟩ (.slice (some ⟨gr, 0, none⟩) L.length L.length)).alloc (.cells (Array.replicate L.length (.bool false)) 4)) := (HR.out.set (fun j g hg => by have := (HR.out j g hg).1; omega) _).ext ((Ext.refl _).alloc _)
      have hne : ∀ (j g : Nat), gs[j]? = some g → g ≠ gr := fun j g hg => by obtain ⟨_, row, _, _, hb⟩ := HR.out j g hg; have := hb.lt; omega
      have hX1 : Ext w ((wr.setCell ⟨g0, k, none⟩ (.slice (some ⟨gr, 0, none⟩) L.length L.length)).alloc (.cells (Array.replicate L.length (.bool false)) 4)) := (Ext.setCell HX.out hgw _).alloc _
      rw [← hgl, gridCells_set (by omega)] at hB1
      rw [hgl] at hB1
      rw [← hgr]
      generalize ((wr.setCell ⟨g0, k, none⟩ (.slice (some ⟨gr, 0, none⟩) L.length L.length)).alloc (.cells (Array.replicate L.length (.bool false)) 4)) = W1 at *
      have hgr0 : g0 < gr := by omega
      have hgrw : w.heap.size ≤ gr := by omega
      have HB1 := Lib.hid hB1
      have HG1 := Lib.hid hG1
      have HR1 := Lib.hid hR1
      have HX1 := Lib.hid hX1
      have HNE := Lib.hid hne
      have hlast : (gridCells L.length (gs ++ [gr]) O.length)[k]? = some (.slice (some ⟨gr, 0, none⟩) L.length L.length) := by rw [← hgl]; exact gridCells_last
      clear hB1 hG1 hR1 hX1 hne HR HX hgr hB hgn ob hg0lt
      go_loopw [24] (fun v wr => ∃ (j : Nat), j ≤ L.length ∧ v = .int .i64 j ∧ Block wr gr (rowCells L O[k] j) ∧ Block wr g0 (gridCells L.length (gs ++ [gr]) O.length) ∧ RowsAt (tab O L) g0 L.length gs wr ∧ Ext w wr) (fun v _ => L.length - (intOf v).toNat)
      case atStart => exact ⟨0, by omega, rfl, HG1.out, HB1.out, HR1.out, HX1.out⟩
      case round =>
        clear HB1 HG1 HR1 HX1
        obtain ⟨j, hj, rfl, hG, hB, hR, hx⟩ := hrel
        have HR := Lib.hid hR
        have HX := Lib.hid hx
        have og := hG.old
        have ob := hB.old
        clear hR hx
        by_cases hjt : j < L.length
        · have hrn := rowCells_next (o := O[k]) hjt
          have hset := rowCells_set (o := O[k]) hjt
          obtain ⟨b0, off0, rfl, r0⟩ := SliceOf.elemK (SliceOf.ext H0.out HX.out) hlt
          obtain ⟨b1, off1, rfl, r1⟩ := SliceOf.elemK (SliceOf.ext H1.out HX.out) hjt
          have HS := Lib.hid hset
          clear hset
          go_wp2
          refine wp_region_ext_tail 16 (by kernel_rfl) (by kernel_rfl) ?_
          simp only [List.take_succ_cons, List.take_zero, List.drop_succ_cons, List.drop_zero]
          repeat (first | go_big_quiet_skip | ((with_reducible apply q_loadM midO r0); (· rfl); (· (first | exact wanted_none rfl | exact wanted_some rfl rfl rfl)); (· rfl); simp only [Act.put, List.setIfInBounds_toArray, List.set_cons_succ, List.set_cons_zero]) | ((with_reducible apply q_loadM midD r1); (· rfl); (· (first | exact wanted_none rfl | exact wanted_some rfl rfl rfl)); (· rfl); simp only [Act.put, List.setIfInBounds_toArray, List.set_cons_succ, List.set_cons_zero]) | go_big_quiet_step ((go_at_call 23; exact ext_call (fitsO_any _ _ _))))
          refine wpQuiet_nil ?_
          intro _ hw'
          obtain ⟨nq, hw''⟩ := hw'
          subst hw''
          go_wp2
          go_roundw
          case rel =>
            have hG2 : Block (nq.val.setCell ⟨gr, j, none⟩ (.bool (fitsO O[k] L[j] == 0))) gr ((rowCells L O[k] j).setIfInBounds j (.bool (fitsO O[k] L[j] == 0))) := inferInstance
            rw [HS.out] at hG2
            exact ⟨j + 1, by omega, by go_num, hG2, inferInstance, (HR.out.ext nq.ext).set HNE.out _, Ext.setCell (HX.out.trans nq.ext) hgrw _⟩
          case measure => simp [intOf]; omega
        · obtain rfl : j = L.length := by omega
          rw [rowCells_full] at hG
          go_wp2
          go_roundw
          case rel => exact ⟨k + 1, gs ++ [gr], by omega, by go_num, by simp [hgl], hB, HR.out.snoc hgr0 (by rw [hgl]; simp [tab, hlt]) (by simp [rowOf]) hG, HX.out⟩
          case measure => simp [intOf]; omega
    · obtain rfl : k = O.length := by omega
      go_wp2
      go_ret
      have ht : (tab O L).length = O.length := by simp [tab]
      have := HR.out.grid (by rw [ht, hgl]) (by rw [ht]; unfold maxLen; omega) (by unfold maxLen; omega) (by rw [ht]; exact hB)
      rw [ht] at this
      exact ⟨_, rfl, this, ExtOf.of HX.out⟩
end Go.Proofs.Ythchddkdcibbhaa
