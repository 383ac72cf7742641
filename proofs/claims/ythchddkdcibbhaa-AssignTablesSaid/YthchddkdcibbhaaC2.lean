/-
  The contracts of the reference's counts and Counts.
-/
import Derived.Test.YthchddkdcibbhaaC1
namespace Go.Proofs.Ythchddkdcibbhaa
open Go.RowKit AssignM

attribute [local go_sem] ExtOf.cell ExtOf.frozen Block.cell Block.frozen ExtB.cell ExtB.frozen alloc_cell alloc_frozen

section
variable {P : Program} {ops : Array Oper} {Q : Exit → Act → World → Prop} {a : Act} {w : World}
/-- an operation that is wanted yields a value -/
theorem wpOp_value {i : Nat} {o : Oper} {v : Value} {w' : World} {K : Act → World → Prop} (hi : ops[i]? = some o) (hw : Region.wanted o (yielded ops a.tmps) = true) (he : (execOp a.eval o).run P w = .ok (.value v) w') (hk : K (a.put o.dst v) w') : wpOp P ops Q i K a w := by
  unfold wpOp
  rw [hi]
  simp only [hw, if_true]
  refine .inl ?_
  unfold Oper.wp
  rw [he]
  exact hk
/-- a call that is wanted -/
theorem wpOp_callg {i : Nat} {o : Oper} {f : FuncId} {vals : Array Value} {K : Act → World → Prop} (hi : ops[i]? = some o) (hw : Region.wanted o (yielded ops a.tmps) = true) (he : (execOp a.eval o).run P w = .ok (.enter f vals) w)
    (hc : Calls P f vals w fun e w' => ∃ v, e = .returned v ∧ K (a.put o.dst v) w') : wpOp P ops Q i K a w := by
  unfold wpOp
  rw [hi]
  simp only [hw, if_true]
  refine .inl ?_
  unfold Oper.wp
  rw [he]
  exact hc.mono fun e w' ⟨v, h1, h2⟩ => by subst h1; exact h2
end
theorem Ok_none {F : List (List Bool)} {R C : Nat} : Ok F R C (fun _ => none) := ⟨fun k i h => by cases h⟩
theorem cnt_none {C lo x : Nat} : cnt C (fun _ => none) lo x = 0 := cntP_zero (fun k _ => by simp)
/-- an assignment with counts c, in the array at gt -/
structure MatA (F : List (List Bool)) (R C lo gt : Nat) (c : Nat → Nat) (a : Mat) (w : World) : Prop where
  mt : Block w gt (givCells a C)
  ok : Ok F R C a
  cn : ∀ x, x < R → cnt C a lo x = c x
set_option maxRecDepth 20000 in
set_option maxHeartbeats 1600000 in
theorem rcounts_any (F : List (List Bool)) (C : Nat) (most : List Nat) (v0 v1 : Value) (w : World) (hR : F.length ≤ 1048576) (hC : C ≤ 1048576) (hF : Rect F F.length C) (hG : GridS w v0 F) (h1 : NatS w v1 most) (hml : most.length = F.length) (hmb : ∀ m ∈ most, m ≤ 1099511627776) :
    Calls Try.prog 28 #[v0, v1] w fun e w' => ∃ gc, e = .returned (.slice (some ⟨gc, 0, none⟩) F.length F.length) ∧ Block w' gc (natCells (fillAll F F.length C (nth most)) F.length) ∧ w.heap.size ≤ gc ∧ Ext w w' := by
  have hmk := run_make_row' (P := Try.prog) 29 3 (.int .i64 0) 8 Try.underlying29 infoI rfl .i64 .i64 F.length (by omega) (by omega)
  rw [natCells_made] at hmk
  have hmkb := run_make_row' (P := Try.prog) 27 4 (.bool false) 1 Try.underlying27 infoB rfl .i64 .i64 C (by omega) (by omega)
  rw [boolCells_made] at hmkb
  obtain ⟨p0, cap0, rfl, hg1, hg2, hg3⟩ := hG.form
  obtain ⟨p1, cap1, rfl, hg4, hg5, hg6⟩ := SliceOf.form h1
  have hcols := hF.first
  rw [hml] at hg4 h1 ⊢
  have HF := Lib.hid hF
  have HG := Lib.hid hG
  have H1 := Lib.hid h1
  have HB := Lib.hid hmb
  clear hF hG h1 hmb
  go_enter Try.func28, Try.ntmps28
  go_wp2_with fail
  refine (boards_any _ F _ HG.out (by omega)).mono ?_
  rintro e w' ⟨rfl, n1, rfl⟩
  rw [hcols]
  go_wp2_with fail
  refine (none_any C _ hC).mono ?_
  rintro e w' ⟨gt, rfl, hgt, hBt, n2, rfl⟩
  have HX0 := Lib.hid (n1.ext.trans n2.ext)
  have hgtw : w.heap.size ≤ gt := Nat.le_trans n1.ext.size hgt
  generalize n2.val = W0 at *
  clear n2 n1 hgt
  have hgtlt := hBt.lt
  go_wp2_with fail
  have hB0 : Block (W0.alloc (.cells (natCells (fun _ => 0) F.length) 3)) W0.heap.size (natCells (fillTo F F.length C (nth most) 0) F.length) := (inferInstance : Block _ _ (natCells (fun _ => 0) F.length))
  have HM0 : Hid (MatA F F.length C 0 gt (fillTo F F.length C (nth most) 0) (fun _ => none) (W0.alloc (.cells (natCells (fun _ => 0) F.length) 3))) := Lib.hid ⟨inferInstance, Ok_none, fun x _ => cnt_none⟩
  have HX1 := Lib.hid (HX0.out.alloc (.cells (natCells (fun _ => 0) F.length) 3))
  have hgc : w.heap.size ≤ W0.heap.size := HX0.out.size
  have d1 : W0.heap.size ≠ gt := by omega
  clear HX0 hmk hgtlt hBt
  generalize W0.alloc (.cells (natCells (fun _ => 0) F.length) 3) = W1 at *
  generalize W0.heap.size = gc at *
  clear W0
  have HB0 := Lib.hid hB0
  clear hB0
  go_loopw [7] (fun v wr => ∃ (i : Nat) (a : Mat), i ≤ F.length ∧ v = .int .i64 i ∧ MatA F F.length C 0 gt (fillTo F F.length C (nth most) i) a wr ∧ Block wr gc (natCells (fillTo F F.length C (nth most) i) F.length) ∧ Ext w wr) (fun v _ => F.length - (intOf v).toNat)
  case atStart => exact ⟨0, _, by omega, rfl, HM0.out, HB0.out, HX1.out⟩
  case round =>
    clear HM0 HB0 HX1
    obtain ⟨i, a, hi, rfl, hM, hB, hx⟩ := hrel
    by_cases hlt : i < F.length
    · have HM0 := Lib.hid hM
      have HB0 := Lib.hid hB
      have HX0 := Lib.hid hx
      clear hM hB hx
      go_wp2_with fail
      go_loopg [37] (nth most i) (fun gk _ wr => ∃ (c : Nat → Nat) (a : Mat), Filling F F.length C (nth most) i c ∧ MatA F F.length C 0 gt c a wr ∧ Block wr gc (natCells c F.length) ∧ Ext w wr ∧ nth most i - c i ≤ gk)
      case atStart => exact ⟨_, a, Filling.start, HM0.out, HB0.out, HX0.out, Nat.sub_le _ _⟩
      case round =>
        clear HM0 HB0 HX0
        obtain ⟨c, a, hfil, hM, hB, hx, hme⟩ := hrel
        have hlt' : i < most.length := by omega
        obtain ⟨b1, off1, rfl, o1w, c1w⟩ := SliceOf.elem1 H1.out hlt' rfl
        rw [← nth_eq hlt'] at c1w
        have c1 := hx.cell c1w
        have o1 : Old b1 wr := Old.of_cell c1
        have hci := natCells_get (c := c) hlt
        have hmt := hM.mt
        have om := hmt.old
        have oc := hB.old
        have hle := hfil.le
        have hmb : nth most i ≤ 1099511627776 := by rw [nth_eq hlt']; exact HB.out _ (List.getElem_mem hlt')
        have HM := Lib.hid hM
        have HX := Lib.hid hx
        have HFL := Lib.hid hfil
        clear hM hx hfil
        by_cases t1 : c i < nth most i
        · have t1' : decide ((c i : Int) < (nth most i : Int)) = true := by simpa using t1
          go_wp2_with fail
          refine region_held (S := fun W' => Block W' gc (natCells c F.length) ∧ W'.cell? ⟨b1, off1 + i, none⟩ = some (.int .i64 (nth most i : Int))) (by kernel_rfl) ?_
          have HSW : Hid (Block wr.drew gc (natCells c F.length) ∧ wr.drew.cell? ⟨b1, off1 + i, none⟩ = some (.int .i64 (nth most i : Int))) := Lib.hid ⟨inferInstance, c1⟩
          refine wpAnyH_take (i := 0) (v := .slice (some ⟨gc, 0, none⟩) F.length F.length) rfl (by kernel_rfl) (by kernel_rfl) (by kernel_rfl) (fun _ _ _ h => h) (.inl ⟨rfl, fun w' hb => rfl⟩) HSW.out ?_
          simp only [List.getElem_toArray, List.getElem_cons_succ, List.getElem_cons_zero, Act.put, List.setIfInBounds_toArray, List.set_cons_succ, List.set_cons_zero]
          refine wpAnyH_take (i := 1) (v := .int .i64 i) rfl (by kernel_rfl) (by kernel_rfl) (by kernel_rfl) (fun _ _ _ h => h) (.inl ⟨rfl, fun w' hb => rfl⟩) HSW.out ?_
          simp only [List.getElem_toArray, List.getElem_cons_succ, List.getElem_cons_zero, Act.put, List.setIfInBounds_toArray, List.set_cons_succ, List.set_cons_zero]
          refine wpAnyH_take (i := 2) (v := .pointer (some ⟨gc, i, none⟩)) rfl (by kernel_rfl) (by kernel_rfl) (by kernel_rfl) (fun _ _ _ h => h) (.inl ⟨rfl, fun w' hb => (by simp [go_sem, hlt])⟩) HSW.out ?_
          simp only [List.getElem_toArray, List.getElem_cons_succ, List.getElem_cons_zero, Act.put, List.setIfInBounds_toArray, List.set_cons_succ, List.set_cons_zero]
          refine wpAnyH_take (i := 3) (v := .int .i64 (c i)) rfl (by kernel_rfl) (by kernel_rfl) (by kernel_rfl) (fun _ _ _ h => h) (.inl ⟨rfl, fun w' hb => (by have e0 := Block.cell (h := hb.1) i; rw [hci] at e0; simp [go_sem, e0])⟩) HSW.out ?_
          simp only [List.getElem_toArray, List.getElem_cons_succ, List.getElem_cons_zero, Act.put, List.setIfInBounds_toArray, List.set_cons_succ, List.set_cons_zero]
          refine wpAnyH_take (i := 4) (v := .slice (some ⟨b1, off1, none⟩) F.length cap1) rfl (by kernel_rfl) (by kernel_rfl) (by kernel_rfl) (fun _ _ _ h => h) (.inl ⟨rfl, fun w' hb => rfl⟩) HSW.out ?_
          simp only [List.getElem_toArray, List.getElem_cons_succ, List.getElem_cons_zero, Act.put, List.setIfInBounds_toArray, List.set_cons_succ, List.set_cons_zero]
          refine wpAnyH_take (i := 5) (v := .int .i64 i) rfl (by kernel_rfl) (by kernel_rfl) (by kernel_rfl) (fun _ _ _ h => h) (.inl ⟨rfl, fun w' hb => rfl⟩) HSW.out ?_
          simp only [List.getElem_toArray, List.getElem_cons_succ, List.getElem_cons_zero, Act.put, List.setIfInBounds_toArray, List.set_cons_succ, List.set_cons_zero]
          refine wpAnyH_take (i := 6) (v := .pointer (some ⟨b1, off1 + i, none⟩)) rfl (by kernel_rfl) (by kernel_rfl) (by kernel_rfl) (fun _ _ _ h => h) (.inl ⟨rfl, fun w' hb => (by simp [go_sem, hlt])⟩) HSW.out ?_
          simp only [List.getElem_toArray, List.getElem_cons_succ, List.getElem_cons_zero, Act.put, List.setIfInBounds_toArray, List.set_cons_succ, List.set_cons_zero]
          refine wpAnyH_take (i := 7) (v := .int .i64 (nth most i)) rfl (by kernel_rfl) (by kernel_rfl) (by kernel_rfl) (fun _ _ _ h => h) (.inl ⟨rfl, fun w' hb => (by simp [go_sem, hb.2])⟩) HSW.out ?_
          simp only [List.getElem_toArray, List.getElem_cons_succ, List.getElem_cons_zero, Act.put, List.setIfInBounds_toArray, List.set_cons_succ, List.set_cons_zero]
          refine wpAnyH_take (i := 8) (v := .bool true) rfl (by kernel_rfl) (by kernel_rfl) (by kernel_rfl) (fun _ _ _ h => h) (.inl ⟨rfl, fun w' hb => (by simp [go_sem, t1])⟩) HSW.out ?_
          simp only [List.getElem_toArray, List.getElem_cons_succ, List.getElem_cons_zero, Act.put, List.setIfInBounds_toArray, List.set_cons_succ, List.set_cons_zero]
          refine wpAnyH_take (i := 9) (v := .bool true) rfl (by kernel_rfl) (by kernel_rfl) (by kernel_rfl) (fun _ _ _ h => h) (.inl ⟨rfl, fun w' hb => rfl⟩) HSW.out ?_
          simp only [List.getElem_toArray, List.getElem_cons_succ, List.getElem_cons_zero, Act.put, List.setIfInBounds_toArray, List.set_cons_succ, List.set_cons_zero]
          refine wpAnyH_take (i := 10) (v := .slice p0 F.length cap0) rfl (by kernel_rfl) (by kernel_rfl) (by kernel_rfl) (fun _ _ _ h => h) (.inl ⟨rfl, fun w' hb => rfl⟩) HSW.out ?_
          simp only [List.getElem_toArray, List.getElem_cons_succ, List.getElem_cons_zero, Act.put, List.setIfInBounds_toArray, List.set_cons_succ, List.set_cons_zero]
          refine wpAnyH_take (i := 11) (v := .int .i64 i) rfl (by kernel_rfl) (by kernel_rfl) (by kernel_rfl) (fun _ _ _ h => h) (.inl ⟨rfl, fun w' hb => rfl⟩) HSW.out ?_
          simp only [List.getElem_toArray, List.getElem_cons_succ, List.getElem_cons_zero, Act.put, List.setIfInBounds_toArray, List.set_cons_succ, List.set_cons_zero]
          refine wpAnyH_take (i := 12) (v := .slice (some ⟨gt, 0, none⟩) C C) rfl (by kernel_rfl) (by kernel_rfl) (by kernel_rfl) (fun _ _ _ h => h) (.inl ⟨rfl, fun w' hb => rfl⟩) HSW.out ?_
          simp only [List.getElem_toArray, List.getElem_cons_succ, List.getElem_cons_zero, Act.put, List.setIfInBounds_toArray, List.set_cons_succ, List.set_cons_zero]
          refine wpAnyH_take (i := 13) (v := .slice (some ⟨gt, 0, none⟩) C C) rfl (by kernel_rfl) (by kernel_rfl) (by kernel_rfl) (fun _ _ _ h => h) (.inl ⟨rfl, fun w' hb => rfl⟩) HSW.out ?_
          simp only [List.getElem_toArray, List.getElem_cons_succ, List.getElem_cons_zero, Act.put, List.setIfInBounds_toArray, List.set_cons_succ, List.set_cons_zero]
          refine wpAnyH_take (i := 14) (v := .int .i64 C) rfl (by kernel_rfl) (by kernel_rfl) (by kernel_rfl) (fun _ _ _ h => h) (.inl ⟨rfl, fun w' hb => (by simp [go_sem])⟩) HSW.out ?_
          simp only [List.getElem_toArray, List.getElem_cons_succ, List.getElem_cons_zero, Act.put, List.setIfInBounds_toArray, List.set_cons_succ, List.set_cons_zero]
          refine wpAnyH_all (rs := [15]) (by kernel_rfl) (by simp) ?_
          intro j hj
          obtain rfl : j = 15 := by simpa using hj
          refine wpOp_value (v := .slice (some ⟨wr.drew.heap.size, 0, none⟩) C C) (w' := wr.drew.alloc (.cells (boolCells (fun _ => false) C) 4)) rfl rfl (by have := hmkb wr.drew; simp [go_sem, this]) ⟨⟨inferInstance, by rw [alloc_cell]; exact c1⟩, ?_⟩
          simp only [List.getElem_toArray, List.getElem_cons_succ, List.getElem_cons_zero, Act.put, List.setIfInBounds_toArray, List.set_cons_succ, List.set_cons_zero]
          refine wpAnyH_all (rs := [16]) (by kernel_rfl) (by simp) ?_
          intro j hj
          obtain rfl : j = 16 := by simpa using hj
          have hxd : Ext wr (wr.drew.alloc (.cells (boolCells (fun _ => false) C) 4)) := by repeat' (first | (with_reducible exact Ext.refl _) | (with_reducible exact ExtOf.ext _) | (with_reducible refine Ext.trans ?_ (ExtOf.ext _)) | (with_reducible refine Ext.alloc ?_ _) | (with_reducible refine Ext.drew ?_) | (with_reducible refine Ext.setCell ?_ ?_ _) | (with_reducible refine Ext.setRow ?_ ?_ _) | (with_reducible exact HX.out) | (with_reducible refine Ext.trans ?_ HX.out) | (with_reducible refine Ext.below ?_ (Nat.le_refl _) _) | (simp; done) | (simp; omega))
          have hszd : wr.drew.heap.size = wr.heap.size := rfl
          have hd1 : gt ≠ wr.drew.heap.size := by have := hmt.lt; omega
          have hd2 : gc ≠ wr.drew.heap.size := by have := hB.lt; omega
          refine wpOp_callg (f := 42) (vals := #[.slice p0 F.length cap0, .int .i64 i, .slice (some ⟨gt, 0, none⟩) C C, .slice (some ⟨wr.drew.heap.size, 0, none⟩) C C, .int .i64 0]) rfl rfl (by kernel_rfl) ?_
          refine (augment_any F C 0 _ gt wr.drew.heap.size w hR hC (by omega) HF.out HG.out hgtw (by have := HX.out.size; omega) hd1 C i a (fun _ => false) _ (cntP_len _ _) hlt HM.out.ok (HX.out.trans hxd) (hmt.ext hxd) inferInstance).mono ?_
          rintro e w' ⟨bb, s2, rfl, hkp, hBs2, hcase⟩
          have hB2 := hkp.blk (hB.ext hxd) d1 hd2
          have hx2 := hkp.ext (HX.out.trans hxd) hgtw (by have := HX.out.size; omega)
          have hb1' : w'.cell? ⟨b1, off1 + i, none⟩ = some (.int .i64 (nth most i : Int)) := hx2.cell c1w
          refine ⟨_, rfl, ⟨hB2, hb1'⟩, ?_⟩
          simp only [List.getElem_toArray, List.getElem_cons_succ, List.getElem_cons_zero, Act.put, List.setIfInBounds_toArray, List.set_cons_succ, List.set_cons_zero]
          have HSW2 : Hid (Block w' gc (natCells c F.length) ∧ w'.cell? ⟨b1, off1 + i, none⟩ = some (.int .i64 (nth most i : Int))) := Lib.hid ⟨hB2, hb1'⟩
          clear HSW
          have HSW := HSW2
          clear HSW2
          refine wpAnyH_take (i := 17) (v := .bool bb) rfl (by kernel_rfl) (by kernel_rfl) (by kernel_rfl) (fun _ _ _ h => h) (.inl ⟨rfl, fun w' hb => (by simp [go_sem])⟩) HSW.out ?_
          simp only [List.getElem_toArray, List.getElem_cons_succ, List.getElem_cons_zero, Act.put, List.setIfInBounds_toArray, List.set_cons_succ, List.set_cons_zero]
          refine wpAnyH_done (by kernel_rfl) ?_ _
          have HX2 := Lib.hid hx2
          have oc2 := hB2.old
          clear hx2 hkp hxd HSW hb1' hszd
          rcases hcase with ⟨rfl, hBt2, hd, hsc⟩ | ⟨rfl, t, hBt2, hone⟩
          · have hnf := hd.fails HM.out.ok hlt hsc
            have hnf' : ¬ Feas F F.length C 0 (bump c i) := fun h => hnf ((Feas.congr (bump_congr HM.out.cn i)).2 h)
            have hc := HFL.out.stop hnf'
            subst hc
            clear hnf hnf' hd hsc
            go_wp2_with fail
            go_roundw
            case rel => exact ⟨i + 1, a, by omega, by go_num, ⟨hBt2, HM.out.ok, HM.out.cn⟩, hB2, HX2.out⟩
            case measure => simp [intOf]; omega
          · have HO := Lib.hid hone
            have ot2 := hBt2.old
            clear hone
            go_wp2_with fail
            go_roundg (gk - 1)
            case rel =>
              have hF2 : Feas F F.length C 0 (bump c i) := ⟨t, HO.out.ok, fun x hx => by rw [HO.out.cnts x]; exact bump_congr HM.out.cn i x hx⟩
              have hB3 : Block (w'.setCell ⟨gc, i, none⟩ (.int .i64 ((c i : Int) + 1))) gc ((natCells c F.length).setIfInBounds i (.int .i64 ((c i : Int) + 1))) := inferInstance
              have e1 : ((c i : Int) + 1) = ((c i + 1 : Nat) : Int) := by omega
              have e2 : (natCells c F.length).setIfInBounds i (.int .i64 ((c i : Int) + 1)) = natCells (bump c i) F.length := by
                rw [e1, natCells_set hlt]
                exact natCells_congr fun j _ => by unfold bump; by_cases e : j = i <;> simp [e]
              rw [e2] at hB3
              have hap : Apart gc gt := ⟨d1⟩
              exact ⟨bump c i, t, HFL.out.more t1 hF2, ⟨inferInstance, HO.out.ok, fun x hx => by rw [HO.out.cnts x]; exact bump_congr HM.out.cn i x hx⟩, hB3, Ext.setCell HX2.out hgc _, by simp [bump]; omega⟩
            case measure => omega
        · have hc := HFL.out.full t1
          subst hc
          go_wp2_with fail
          refine region_held (S := fun W' => Block W' gc (natCells (fillTo F F.length C (nth most) (i + 1)) F.length) ∧ W'.cell? ⟨b1, off1 + i, none⟩ = some (.int .i64 (nth most i : Int))) (by kernel_rfl) ?_
          have HSW : Hid (Block wr.drew gc (natCells (fillTo F F.length C (nth most) (i + 1)) F.length) ∧ wr.drew.cell? ⟨b1, off1 + i, none⟩ = some (.int .i64 (nth most i : Int))) := Lib.hid ⟨inferInstance, c1⟩
          refine wpAnyH_take (i := 0) (v := .slice (some ⟨gc, 0, none⟩) F.length F.length) rfl (by kernel_rfl) (by kernel_rfl) (by kernel_rfl) (fun _ _ _ h => h) (.inl ⟨rfl, fun w' hb => rfl⟩) HSW.out ?_
          simp only [List.getElem_toArray, List.getElem_cons_succ, List.getElem_cons_zero, Act.put, List.setIfInBounds_toArray, List.set_cons_succ, List.set_cons_zero]
          refine wpAnyH_take (i := 1) (v := .int .i64 i) rfl (by kernel_rfl) (by kernel_rfl) (by kernel_rfl) (fun _ _ _ h => h) (.inl ⟨rfl, fun w' hb => rfl⟩) HSW.out ?_
          simp only [List.getElem_toArray, List.getElem_cons_succ, List.getElem_cons_zero, Act.put, List.setIfInBounds_toArray, List.set_cons_succ, List.set_cons_zero]
          refine wpAnyH_take (i := 2) (v := .pointer (some ⟨gc, i, none⟩)) rfl (by kernel_rfl) (by kernel_rfl) (by kernel_rfl) (fun _ _ _ h => h) (.inl ⟨rfl, fun w' hb => (by simp [go_sem, hlt])⟩) HSW.out ?_
          simp only [List.getElem_toArray, List.getElem_cons_succ, List.getElem_cons_zero, Act.put, List.setIfInBounds_toArray, List.set_cons_succ, List.set_cons_zero]
          refine wpAnyH_take (i := 3) (v := .int .i64 (fillTo F F.length C (nth most) (i + 1) i)) rfl (by kernel_rfl) (by kernel_rfl) (by kernel_rfl) (fun _ _ _ h => h) (.inl ⟨rfl, fun w' hb => (by have e0 := Block.cell (h := hb.1) i; rw [hci] at e0; simp [go_sem, e0])⟩) HSW.out ?_
          simp only [List.getElem_toArray, List.getElem_cons_succ, List.getElem_cons_zero, Act.put, List.setIfInBounds_toArray, List.set_cons_succ, List.set_cons_zero]
          refine wpAnyH_take (i := 4) (v := .slice (some ⟨b1, off1, none⟩) F.length cap1) rfl (by kernel_rfl) (by kernel_rfl) (by kernel_rfl) (fun _ _ _ h => h) (.inl ⟨rfl, fun w' hb => rfl⟩) HSW.out ?_
          simp only [List.getElem_toArray, List.getElem_cons_succ, List.getElem_cons_zero, Act.put, List.setIfInBounds_toArray, List.set_cons_succ, List.set_cons_zero]
          refine wpAnyH_take (i := 5) (v := .int .i64 i) rfl (by kernel_rfl) (by kernel_rfl) (by kernel_rfl) (fun _ _ _ h => h) (.inl ⟨rfl, fun w' hb => rfl⟩) HSW.out ?_
          simp only [List.getElem_toArray, List.getElem_cons_succ, List.getElem_cons_zero, Act.put, List.setIfInBounds_toArray, List.set_cons_succ, List.set_cons_zero]
          refine wpAnyH_take (i := 6) (v := .pointer (some ⟨b1, off1 + i, none⟩)) rfl (by kernel_rfl) (by kernel_rfl) (by kernel_rfl) (fun _ _ _ h => h) (.inl ⟨rfl, fun w' hb => (by simp [go_sem, hlt])⟩) HSW.out ?_
          simp only [List.getElem_toArray, List.getElem_cons_succ, List.getElem_cons_zero, Act.put, List.setIfInBounds_toArray, List.set_cons_succ, List.set_cons_zero]
          refine wpAnyH_take (i := 7) (v := .int .i64 (nth most i)) rfl (by kernel_rfl) (by kernel_rfl) (by kernel_rfl) (fun _ _ _ h => h) (.inl ⟨rfl, fun w' hb => (by simp [go_sem, hb.2])⟩) HSW.out ?_
          simp only [List.getElem_toArray, List.getElem_cons_succ, List.getElem_cons_zero, Act.put, List.setIfInBounds_toArray, List.set_cons_succ, List.set_cons_zero]
          refine wpAnyH_take (i := 8) (v := .bool false) rfl (by kernel_rfl) (by kernel_rfl) (by kernel_rfl) (fun _ _ _ h => h) (.inl ⟨rfl, fun w' hb => (by simp [go_sem]; omega)⟩) HSW.out ?_
          simp only [List.getElem_toArray, List.getElem_cons_succ, List.getElem_cons_zero, Act.put, List.setIfInBounds_toArray, List.set_cons_succ, List.set_cons_zero]
          refine wpAnyH_take (i := 9) (v := .bool false) rfl (by kernel_rfl) (by kernel_rfl) (by kernel_rfl) (fun _ _ _ h => h) (.inl ⟨rfl, fun w' hb => rfl⟩) HSW.out ?_
          simp only [List.getElem_toArray, List.getElem_cons_succ, List.getElem_cons_zero, Act.put, List.setIfInBounds_toArray, List.set_cons_succ, List.set_cons_zero]
          refine wpAnyH_take (i := 10) (v := undef) rfl (by kernel_rfl) (by kernel_rfl) (by kernel_rfl) (fun _ _ _ h => h) (.inr ⟨rfl, rfl⟩) HSW.out ?_
          simp only [List.getElem_toArray, List.getElem_cons_succ, List.getElem_cons_zero, Act.put, List.setIfInBounds_toArray, List.set_cons_succ, List.set_cons_zero]
          refine wpAnyH_take (i := 11) (v := undef) rfl (by kernel_rfl) (by kernel_rfl) (by kernel_rfl) (fun _ _ _ h => h) (.inr ⟨rfl, rfl⟩) HSW.out ?_
          simp only [List.getElem_toArray, List.getElem_cons_succ, List.getElem_cons_zero, Act.put, List.setIfInBounds_toArray, List.set_cons_succ, List.set_cons_zero]
          refine wpAnyH_take (i := 12) (v := undef) rfl (by kernel_rfl) (by kernel_rfl) (by kernel_rfl) (fun _ _ _ h => h) (.inr ⟨rfl, rfl⟩) HSW.out ?_
          simp only [List.getElem_toArray, List.getElem_cons_succ, List.getElem_cons_zero, Act.put, List.setIfInBounds_toArray, List.set_cons_succ, List.set_cons_zero]
          refine wpAnyH_take (i := 13) (v := undef) rfl (by kernel_rfl) (by kernel_rfl) (by kernel_rfl) (fun _ _ _ h => h) (.inr ⟨rfl, rfl⟩) HSW.out ?_
          simp only [List.getElem_toArray, List.getElem_cons_succ, List.getElem_cons_zero, Act.put, List.setIfInBounds_toArray, List.set_cons_succ, List.set_cons_zero]
          refine wpAnyH_take (i := 14) (v := undef) rfl (by kernel_rfl) (by kernel_rfl) (by kernel_rfl) (fun _ _ _ h => h) (.inr ⟨rfl, rfl⟩) HSW.out ?_
          simp only [List.getElem_toArray, List.getElem_cons_succ, List.getElem_cons_zero, Act.put, List.setIfInBounds_toArray, List.set_cons_succ, List.set_cons_zero]
          refine wpAnyH_take (i := 15) (v := undef) rfl (by kernel_rfl) (by kernel_rfl) (by kernel_rfl) (fun _ _ _ h => h) (.inr ⟨rfl, rfl⟩) HSW.out ?_
          simp only [List.getElem_toArray, List.getElem_cons_succ, List.getElem_cons_zero, Act.put, List.setIfInBounds_toArray, List.set_cons_succ, List.set_cons_zero]
          refine wpAnyH_take (i := 16) (v := undef) rfl (by kernel_rfl) (by kernel_rfl) (by kernel_rfl) (fun _ _ _ h => h) (.inr ⟨rfl, rfl⟩) HSW.out ?_
          simp only [List.getElem_toArray, List.getElem_cons_succ, List.getElem_cons_zero, Act.put, List.setIfInBounds_toArray, List.set_cons_succ, List.set_cons_zero]
          refine wpAnyH_take (i := 17) (v := .bool false) rfl (by kernel_rfl) (by kernel_rfl) (by kernel_rfl) (fun _ _ _ h => h) (.inl ⟨rfl, fun w' hb => (by simp [go_sem])⟩) HSW.out ?_
          simp only [List.getElem_toArray, List.getElem_cons_succ, List.getElem_cons_zero, Act.put, List.setIfInBounds_toArray, List.set_cons_succ, List.set_cons_zero]
          refine wpAnyH_done (by kernel_rfl) ?_ _
          have hxd : Ext wr wr.drew := Ext.drew (Ext.refl _)
          clear HSW
          go_wp2_with fail
          go_roundw
          case rel => exact ⟨i + 1, a, by omega, by go_num, ⟨hmt.ext hxd, HM.out.ok, HM.out.cn⟩, hB.ext hxd, HX.out.trans hxd⟩
          case measure => simp [intOf]; omega
    · obtain rfl : i = F.length := by omega
      have HX := Lib.hid hx
      have HBB := Lib.hid hB
      clear hM hx hB
      go_wp2_with fail
      go_ret
      exact ⟨gc, rfl, HBB.out, hgc, HX.out⟩

end Go.Proofs.Ythchddkdcibbhaa
