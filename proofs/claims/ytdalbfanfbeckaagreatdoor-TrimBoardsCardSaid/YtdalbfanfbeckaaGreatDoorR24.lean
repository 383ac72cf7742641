/-
  Chapter 26: the table of the best choices.
-/
import Derived.Test.YtdalbfanfbeckaaGreatDoorK23
import Derived.Test.YtdalbfanfbeckaaGreatDoorLB
import Derived.Deep.DeepCutAuto
set_option linter.unusedVariables false
set_option linter.unusedSimpArgs false
namespace Go.Proofs.YtdalbfanfbeckaaGreatDoor
open Go.RowKit TrimM

attribute [local go_sem] ExtOf.cell ExtOf.frozen ExtS.cell ExtS.frozen Block.cell Block.frozen ExtB.cell ExtB.frozen alloc_cell alloc_frozen equal_piece equalX_piece eqGuard_piece
section
variable {P : Program} {ops : Array Oper} {w0 : World} {A : Nat → Value → Prop} {F : Nat → Value → World → Prop} {Q : Act → Prop} {o : Oper} {rest : List Oper} {a : Act} {d : Nat}
theorem soft_some (hd : o.dst = some d) (hw : Region.wanted o (yielded ops a.tmps) = true) (hA : ∀ v, A d v) (hrun : ∀ w, Ext w0 w → known ops F o a w → ∃ v w', (execOp a.eval o).run P w = .ok (.value v) w' ∧ Ext w w' ∧ F d v w')
    (h : ∀ v, wpSoft P ops w0 A F Q rest (a.put (some d) v)) : wpSoft P ops w0 A F Q (o :: rest) a := by
  refine ⟨?_, fun v _ => by rw [hd]; exact h v⟩
  unfold SO
  rw [if_pos hw]
  intro w hx hk
  obtain ⟨v, w', e, h1, h2⟩ := hrun w hx hk
  rw [e, hd]
  exact ⟨h1, hA v, h2⟩
theorem known_end {l : List Oper} {w : World} (h : ∀ (i : Nat) (oi : Oper) (d : Tmp), l[i]? = some oi → oi.dst = some d → F d (a.tmps.getD d undef) w) {v : Value} (he : l.any (fun o => match o.dst with | some x => Nat.beq x d | none => false) = true) (hv : a.tmps.getD d undef = v) : F d v w := by
  obtain ⟨o, hm, ho⟩ := List.any_eq_true.1 he
  obtain ⟨i, hi⟩ := List.mem_iff_getElem?.1 hm
  cases hd : o.dst with
  | none => rw [hd] at ho; cases ho
  | some x =>
    rw [hd] at ho
    obtain rfl : x = d := by simpa using ho
    rw [← hv]
    exact h i o x hi hd
end
/-- a slice of N nothings, of the call's own -/
def Zs (lo N : Nat) (v : Value) (w : World) : Prop := ∃ g, v = .slice (some ⟨g, 0, none⟩) N N ∧ lo ≤ g ∧ Block w g (Array.replicate N (.int .i64 0))
theorem Zs.ext {lo N : Nat} {v : Value} {w w' : World} (h : Zs lo N v w) (hx : Ext w w') : Zs lo N v w' := by
  obtain ⟨g, h1, h2, h3⟩ := h
  exact ⟨g, h1, h2, h3.ext hx⟩
def chA (b : Nat) (vc vd : Value) (d : Nat) (v : Value) : Prop := match d with
  | 13 => v = .pointer (some ⟨b, 5, none⟩)
  | 14 => v = vc
  | 16 => v = .pointer (some ⟨b, 6, none⟩)
  | 17 => v = vd
  | _ => True
def chF (lo N : Nat) (d : Nat) (v : Value) (w : World) : Prop := match d with
  | 15 => Zs lo N v w
  | 18 => Zs lo N v w
  | 3 => Zs lo N v w
  | 4 => Zs lo N v w
  | _ => True
theorem chA_some (b : Nat) (vc vd : Value) (d : Nat) : ∃ v, chA b vc vd d v := by
  unfold chA; split <;> first | exact ⟨_, rfl⟩ | exact ⟨undef, trivial⟩
theorem chF_keep (lo N : Nat) (d : Nat) (v : Value) (w w' : World) (h : chF lo N d v w) (hx : Ext w w') : chF lo N d v w' := by
  unfold chF at *; split <;> first | exact Zs.ext h hx | trivial
theorem tbl_val : ∀ (l : List (Int × Int × Int)) (q : Nat) (h : q < l.length), (tbl l)[q * 3 + 2]? = some (.int .i64 (l[q]).2.2)
  | d :: l, 0, _ => rfl
  | d :: l, q + 1, h => by
    have ih := tbl_val l q (by simpa using h)
    have e1 : (q + 1) * 3 + 2 = (tri d).length + (q * 3 + 2) := by rw [tri_len]; omega
    rw [tbl, e1, List.getElem?_append_right (by omega), Nat.add_sub_cancel_left, ih]
    rfl
theorem choE_val (c : Option (Nat × Nat) × Int) : (choE c).2.2 = c.2 := by
  obtain ⟨o, v⟩ := c
  cases o <;> rfl
theorem wl_loadTE {ops : Array Oper} {rest : List Oper} {a : Act} {x : Operand} {dst : Option Tmp} {ty T : TypeId} {pos : String} {aft : Array Edge} {gu : Option (Tmp × Bool)} {w : World} {Q : Exit → Act → World → Prop} {g p : Nat} {l : List (Int × Int × Int)} {c : Int × Int × Int}
    (L : Mid Tryz.prog T 3) (hb : Tbl w g l) (hp : l[p]? = some c) (hw : Region.wanted ⟨dst, .load T x, ty, pos, aft, gu⟩ (yielded ops a.tmps) = true) (hx : a.eval x = .pointer (some ⟨g, p * 3, none⟩))
    (hk : wpList Tryz.prog ops Q rest (a.put dst (.agg #[.int .i64 c.1, .int .i64 c.2.1, .int .i64 c.2.2])) w) : wpList Tryz.prog ops Q (⟨dst, .load T x, ty, pos, aft, gu⟩ :: rest) a w := by
  obtain ⟨h1, h2⟩ := List.getElem?_eq_some_iff.1 hp
  refine wl_loadT L hw hx hb h1 ?_
  rw [h2]; exact hk
theorem take_yes {c : Option (Nat × Nat) × Int} {x : Nat × Nat} {v : Int} (h : c.2 < v) : take c (some (x, v)) = (some x, v) := if_pos h
theorem take_no {c : Option (Nat × Nat) × Int} {x : Nat × Nat} {v : Int} (h : v ≤ c.2) : take c (some (x, v)) = c := if_neg (by show ¬ c.2 < v; omega)
theorem take_none {c : Option (Nat × Nat) × Int} : take c none = c := rfl
/-- is a choice better than nothing? -/
def bestB : Option ((Nat × Nat) × Int) → Bool
  | none => false
  | some t => decide (0 < t.2)
theorem cho_bound {L : Ln} (hL : L.Fine) (hG : L.Good) {l : List (Nat × Nat)} {y0 y1 y2 : Int} (h : cho (topOf L (EV L) l) = (y0, y1, y2)) : -1 ≤ y2 ∧ y2 ≤ 2001000000 := by
  rcases ht : topOf L (EV L) l with _ | ⟨⟨i, a⟩, v⟩
  · rw [ht] at h; injection h with e1 e2; injection e2 with e2 e3; omega
  · rw [ht] at h; injection h with e1 e2; injection e2 with e2 e3; have := top_bound hL hG ht; omega
theorem new_setRow (w : World) (g : Nat) (cs' cs : Array Value) (t : TypeId) : Block ((w.setRow g cs').alloc (.cells cs t)) w.heap.size cs := by
  have e : (w.setRow g cs').heap.size = w.heap.size := by simp [World.setRow]
  rw [← e]; exact Block.new _ _ _
theorem Tbl.tripE {w : World} {g : Nat} (c : Option (Nat × Nat) × Int) (h : Block w g (trip (choE c))) : ∃ x y : Int, choE c = (x, y, c.2) ∧ Block w g #[.int .i64 x, .int .i64 y, .int .i64 c.2] := by
  refine ⟨(choE c).1, (choE c).2.1, ?_, ?_⟩
  · rw [← choE_val c]
  · rw [← choE_val c]; exact h
theorem nameW {R : World → Prop} {w : World} (C : World → Prop) (h : C w) (hk : ∀ W, C W → R W) : R w := hk w h
set_option maxHeartbeats 16000000 in
set_option maxRecDepth 20000 in
theorem choices_any (L : Ln) (hL : L.Fine) (cs : Array Value) (N1 : Nat) (w : World) (hN1 : N1 = L.n + 1) (h : LineS w L cs) (htab : Tab w) : Calls Tryz.prog 73 #[.agg cs] w fun e w' => ∃ g, e = .returned (.slice (some ⟨g, 0, none⟩) N1 N1) ∧ w.heap.size ≤ g ∧ Tbl w' g (tabF (fun q => choE (L.E q)) N1 0) ∧ ∃ m : ExtOf w, w' = m.val := by
  have HL := Lib.hid h
  obtain ⟨vs, vg, vc, vd, rfl, h1, h2, h3, h4⟩ := h
  obtain ⟨N, hN⟩ : ∃ N, N = L.sizes.length := ⟨_, rfl⟩
  obtain ⟨ps, cs, rfl, a1, a2, a3⟩ := int_form h1 (n := N) (by rw [List.length_map, hN])
  obtain ⟨pg, cg, rfl, b1, b2, b3⟩ := grid_form h2 (n := N) (by rw [hL.rows, hN])
  obtain ⟨pc, cc, rfl, d1, d2, d3⟩ := int_form h3 (n := L.n) (by rw [List.length_replicate])
  obtain ⟨pd, cd, rfl, e1, e2, e3⟩ := int_form h4 (n := L.n) (by rw [List.length_replicate])
  have HS := Lib.hid h1
  have HG := Lib.hid h2
  have HC := Lib.hid h3
  have HD := Lib.hid h4
  have HF := Lib.hid hL
  have HN := Lib.hid hN
  have hn := hL.n
  have hk := hL.k
  have hs8 : N ≤ 8 := by rw [hN]; exact hL.sizes
  clear h1 h2 h3 h4 hL hN
  unfold maxLen at a2 b2 d2 e2
  have HTB := Lib.hid htab
  have HN1 := Lib.hid hN1
  have hN2 : N1 ≤ 2001 := by omega
  have hc1 : (L.n : Int) + 1 = (N1 : Int) := by omega
  have hmk := make_choices N1 (by omega)
  clear htab hN1
  have hkL : L.k ≤ 20 := HF.out.k
  go_enter Tryz.func73, Tryz.ntmps73
  go_wp2_with (first | ((with_reducible apply wl_store' lwLine); (· (first | exact wanted_none rfl | exact wanted_some rfl rfl rfl)); (· rfl); (· rfl); (· infer_instance); (· rfl); (· rfl); (· (simp [Value.oneCell'])); try simp only [setRow_alloc, setRow_new, setRow_new1, setRow_new2, setRow_new11, setRow_new111]))
  obtain ⟨W0, hW0⟩ : ∃ W, W = (w.alloc (.cells #[.int .i64 (L.n : Int), .int .i64 (L.k : Int), .int .i64 1, .slice ps N cs, .slice pg N cg, .slice pc L.n cc, .slice pd L.n cd] 58)) := ⟨_, rfl⟩
  have hB0 : Block W0.drew w.heap.size #[.int .i64 (L.n : Int), .int .i64 (L.k : Int), .int .i64 1, .slice ps N cs, .slice pg N cg, .slice pc L.n cc, .slice pd L.n cd] := by rw [hW0]; infer_instance
  have HXd : Hid (Ext w W0.drew) := Lib.hid (by rw [hW0]; repeat' (first | (with_reducible exact Ext.refl _) | (with_reducible exact ExtOf.ext _) | (with_reducible refine Ext.trans ?_ (ExtOf.ext _)) | (with_reducible refine Ext.alloc ?_ _) | (with_reducible refine Ext.drew ?_) | (with_reducible refine Ext.setCell ?_ ?_ _) | (with_reducible refine Ext.setRow ?_ ?_ _) | (with_reducible exact HX.out) | (with_reducible refine Ext.trans ?_ HX.out) | (with_reducible refine Ext.below ?_ (Nat.le_refl _) _) | omega | (simp; done) | (simp; omega)))
  rw [← hW0]
  have HB0 := Lib.hid hB0
  clear hW0
  refine wp_region_softF (chA w.heap.size (.slice pc L.n cc) (.slice pd L.n cd)) (chF w.heap.size N1) (by kernel_rfl) (by kernel_rfl) (by kernel_rfl) (by kernel_rfl) (by kernel_rfl) (chA_some _ _ _) (chF_keep _ _) ?_
  have hZ : ∀ {W : World} {v : Value}, IntS w v (List.replicate L.n 0) → Ext W0.drew W → Calls Tryz.prog 93 #[v] W fun e w' => ∃ v, e = .returned v ∧ Zs w.heap.size N1 v w' ∧ ∃ n : ExtOf W, w' = n.val := fun {W v} hi hx => (sums_zero L.n N1 HN1.out v W hn (SliceOf.ext hi (HXd.out.trans hx))).mono fun e w' ⟨g, h1, h2, h3, h4⟩ => ⟨_, h1, ⟨g, rfl, by have := (HXd.out.trans hx).size; omega, h3⟩, h4⟩
  refine soft_det (d := 13) (V := .pointer (some ⟨w.heap.size, 5, none⟩)) rfl (by kernel_rfl) (fun v h => h) rfl (fun _ => trivial) (fun W _ _ => by kernel_rfl) ?_
  refine soft_det (d := 14) (V := .slice pc L.n cc) rfl (by kernel_rfl) (fun v h => h) rfl (fun _ => trivial) (fun W hx _ => by have := Block.ext HB0.out hx; simp [execOp, go_sem]) ?_
  refine soft_callS (d := 15) (f := 93) (vals := #[.slice pc L.n cc]) rfl (by kernel_rfl) (fun v => trivial) (fun W => by kernel_rfl) (fun W hx _ => hZ HC.out hx) ?_
  intro v15
  refine soft_det (d := 16) (V := .pointer (some ⟨w.heap.size, 6, none⟩)) rfl (by kernel_rfl) (fun v h => h) rfl (fun _ => trivial) (fun W _ _ => by kernel_rfl) ?_
  refine soft_det (d := 17) (V := .slice pd L.n cd) rfl (by kernel_rfl) (fun v h => h) rfl (fun _ => trivial) (fun W hx _ => by have := Block.ext HB0.out hx; simp [execOp, go_sem]) ?_
  refine soft_callS (d := 18) (f := 93) (vals := #[.slice pd L.n cd]) rfl (by kernel_rfl) (fun v => trivial) (fun W => by kernel_rfl) (fun W hx _ => hZ HD.out hx) ?_
  intro v18
  refine soft_some (d := 3) rfl (by kernel_rfl) (fun v => trivial) (fun W hx hk => ⟨v15, W, by kernel_rfl, Ext.refl _, known_get (d := 15) (v := v15) (n := 2) hk (by kernel_rfl) (by kernel_rfl) (by kernel_rfl)⟩) ?_
  intro v3
  refine soft_some (d := 4) rfl (by kernel_rfl) (fun v => trivial) (fun W hx hk => ⟨v18, W, by kernel_rfl, Ext.refl _, known_get (d := 18) (v := v18) (n := 5) hk (by kernel_rfl) (by kernel_rfl) (by kernel_rfl)⟩) ?_
  intro v4
  intro W1 hx1 hF1
  have hz3 : Zs w.heap.size N1 v3 W1 := known_end (d := 3) (v := v3) hF1 (by kernel_rfl) (by kernel_rfl)
  have hz4 : Zs w.heap.size N1 v4 W1 := known_end (d := 4) (v := v4) hF1 (by kernel_rfl) (by kernel_rfl)
  simp only [Act.put, List.setIfInBounds_toArray, List.set_cons_succ, List.set_cons_zero]
  obtain ⟨g3, rfl, hg3, hb3⟩ := hz3
  obtain ⟨g4, rfl, hg4, hb4⟩ := hz4
  clear hF1
  have HX1 := Lib.hid (HXd.out.trans hx1)
  replace HB0 := Lib.hid (Block.ext HB0.out hx1)
  have HB3 := Lib.hid hb3
  have HB4 := Lib.hid hb4
  clear hb3 hb4 hx1 hZ
  have hB1 := HB0.out
  have ob1 := hB1.old
  go_wp2_with fail
  go_loopw [7] (fun v wr => ∃ k : Nat, k ≤ N1 ∧ v = .int .i64 ((k : Int) - 1) ∧ Tbl wr W1.heap.size (tabF (fun q => choE (L.E q)) N1 k) ∧ Tbl wr (W1.heap.size + 1) (tabF (fun q => cho (topOf L (EV L) (L.here q))) N1 k) ∧ Ext W1 wr) (fun v _ => (intOf v + 1).toNat)
  case atStart => exact ⟨N1, Nat.le_refl _, by go_num, by rw [tabF_zero]; infer_instance, by rw [tabF_zero]; infer_instance, by repeat' (first | (with_reducible exact Ext.refl _) | (with_reducible exact ExtOf.ext _) | (with_reducible refine Ext.trans ?_ (ExtOf.ext _)) | (with_reducible refine Ext.alloc ?_ _) | (with_reducible refine Ext.drew ?_) | (with_reducible refine Ext.setCell ?_ ?_ _) | (with_reducible refine Ext.setRow ?_ ?_ _) | (with_reducible exact HX.out) | (with_reducible refine Ext.trans ?_ HX.out) | (with_reducible refine Ext.below ?_ (Nat.le_refl _) _) | omega | (simp; done) | (simp; omega))⟩
  case round =>
    obtain ⟨k, hk, rfl, hE, hS, hx⟩ := hrel
    have HX := Lib.hid hx
    clear hx
    have hszx := HX.out.size
    have hsz1 := HX1.out.size
    have obE := hE.old
    have obS := hS.old
    by_cases hk0 : k = 0
    · subst hk0
      have e0 : ((0 : Nat) : Int) - 1 = -1 := rfl
      rw [e0]
      go_wp2_with fail
      go_ret
      exact ⟨_, rfl, by omega, hE, ExtOf.of (HX1.out.trans HX.out)⟩
    · obtain ⟨p, rfl⟩ : ∃ p, k = p + 1 := ⟨k - 1, by omega⟩
      have e1 : ((p + 1 : Nat) : Int) - 1 = (p : Int) := by omega
      rw [e1]
      have hpn : p ≤ L.n := by have := HN1.out; omega
      have hG : L.Good := Ln.Fine.good HF.out
      have HST : Hid (∀ W, Ext wr W → Calls Tryz.prog 94 #[.agg #[.int .i64 (L.n : Int), .int .i64 (L.k : Int), .int .i64 1, .slice ps N cs, .slice pg N cg, .slice pc L.n cc, .slice pd L.n cd], .int .i64 (p : Int), .slice (some ⟨g4, 0, none⟩) N1 N1, .slice (some ⟨W1.heap.size, 0, none⟩) N1 N1] W fun e w' => e = .returned (.agg (trip (cho (topOf L (EV L) (L.here p))))) ∧ ∃ n : ExtOf W, w' = n.val) := Lib.hid (fun W hxw => by
        have hx2 := HX.out.trans hxw
        exact start_any L HF.out _ (EV L) p g4 W1.heap.size N1 W hpn HN1.out (LineS.ext HL.out (HX1.out.trans hx2)) (Tab.ext HTB.out (HX1.out.trans hx2)) (HB4.out.ext hx2) (fun q h1 h2 => hxw.cell (by
          rw [Block.cell (h := hE)]
          have h3 := tbl_val (tabF (fun q => choE (L.E q)) N1 (p + 1)) q (by rw [tabF_len]; have := HN1.out; omega)
          rw [tabF_get _ _ (by omega)] at h3
          rw [List.getElem?_toArray, h3, choE_val]
          unfold EV
          rw [if_pos h2])) (EV_bound HF.out hG))
      have hlS := tabF_len (fun q => cho (topOf L (EV L) (L.here q))) N1 (p + 1)
      have hpN : p < N1 := by omega
      have hBL := HB0.out.ext HX.out
      have obL := hBL.old
      go_wp2_with (first | ((with_reducible apply wl_load' lwLine); (· (first | exact wanted_none rfl | exact wanted_some rfl rfl rfl)); (· rfl); (· infer_instance); (· rfl)) | (go_at_call 94; with_reducible refine Calls.mono (HST.out _ (by repeat' (first | (with_reducible exact Ext.refl _) | (with_reducible exact ExtOf.ext _) | (with_reducible refine Ext.trans ?_ (ExtOf.ext _)) | (with_reducible refine Ext.alloc ?_ _) | (with_reducible refine Ext.drew ?_) | (with_reducible refine Ext.setCell ?_ ?_ _) | (with_reducible refine Ext.setRow ?_ ?_ _) | (with_reducible exact HX.out) | (with_reducible refine Ext.trans ?_ HX.out) | (with_reducible refine Ext.below ?_ (Nat.le_refl _) _) | omega | (simp; done) | (simp; omega)))) ?_; rintro e w' ⟨rfl, nb, rfl⟩) | ((with_reducible apply wl_storeT (g := W1.heap.size + 1) (p := p) (by kernel_rfl)); (· (first | exact wanted_none rfl | exact wanted_some rfl rfl rfl)); (· rfl); (· rfl); (· exact Block.ext hS (by repeat' (first | (with_reducible exact Ext.refl _) | (with_reducible exact ExtOf.ext _) | (with_reducible refine Ext.trans ?_ (ExtOf.ext _)) | (with_reducible refine Ext.alloc ?_ _) | (with_reducible refine Ext.drew ?_) | (with_reducible refine Ext.setCell ?_ ?_ _) | (with_reducible refine Ext.setRow ?_ ?_ _) | (with_reducible exact HX.out) | (with_reducible refine Ext.trans ?_ HX.out) | (with_reducible refine Ext.below ?_ (Nat.le_refl _) _) | omega | (simp; done) | (simp; omega)))); (· rw [hlS]; exact hpN)))
      refine nameW (R := fun W => Code.wp _ _ _ _ W) (fun W => Hid (Ext W1 W) ∧ Tbl W W1.heap.size (tabF (fun q => choE (L.E q)) N1 (p + 1)) ∧ Tbl W (W1.heap.size + 1) (tabF (fun q => cho (topOf L (EV L) (L.here q))) N1 p)) ⟨Lib.hid (Ext.setRow (HX.out.trans nb.ext) (by omega) _), ?_, ?_⟩ ?_
      · have := Block.ext hE nb.ext
        infer_instance
      · rw [← tabF_set _ hpN]
        have := Block.ext hS nb.ext
        infer_instance
      clear hE hS obE obS obL hBL
      rintro W2 ⟨HX2, hE, hS⟩
      have hBL := HB0.out.ext HX2.out
      have hB3 := HB3.out.ext HX2.out
      have obL := hBL.old
      have ob3 := hB3.old
      have hnN : L.n < N1 := by have := HN1.out; omega
      have cD1 : W2.cell? ⟨g3, L.n, none⟩ = some (.int .i64 0) := by rw [Block.cell (h := hB3), Array.getElem?_replicate, if_pos hnN]
      have cD2 : W2.cell? ⟨g3, p, none⟩ = some (.int .i64 0) := by rw [Block.cell (h := hB3), Array.getElem?_replicate, if_pos hpN]
      have hTb := Tab.range HTB.out (HX1.out.trans HX2.out)
      apply wp_region_maker [true, true, true, true, true, true, true, true, true, true, true, true] 12 [false, false, false, false, false, false, false, false, false, false, false, false, false, true] _ 8 (MadeP W2 #[.int .i64 0, .int .i64 0, .int .i64 0]) 13 [] (by kernel_rfl) rfl rfl (by kernel_rfl) (by kernel_rfl) (by kernel_rfl) (by kernel_rfl) MadeP.keep
      · intro S hS hN R hR
        simp only [part]
        repeat (first | go_big_quiet_skip | ((with_reducible apply q_loadMS midPiece hTb); (· rfl); (· (first | exact wanted_none rfl | exact wanted_some rfl rfl rfl)); (· rfl); simp only [Act.put, List.setIfInBounds_toArray, List.set_cons_succ, List.set_cons_zero]) | go_big_quiet_step (fail))
        with_reducible refine wpQuiet_nil ?_
        exact hR
      · refine ⟨wanted_none rfl, fun W' hx' => ⟨.pointer (some ⟨W'.heap.size, 0, none⟩), W'.alloc (.cells #[.int .i64 0, .int .i64 0, .int .i64 0] 111), ?_, (Ext.refl _).alloc _, MadeP.new hx'⟩⟩
        simp [go_sem]
      intro v' W3 hx3 hmade
      obtain ⟨gb, rfl, hgb, hbb⟩ := hmade
      simp only [part, Act.put, List.setIfInBounds_toArray, List.set_cons_succ, List.set_cons_zero]
      have obb := hbb.old
      have hE3 := Block.ext hE hx3
      have hS3 := Block.ext hS hx3
      have hBL3 := hBL.ext hx3
      have a1 : Apart gb (W1.heap.size + 1) := ⟨by have := hS.lt; omega⟩
      have a2 : Apart gb W1.heap.size := ⟨by have := hE.lt; omega⟩
      have a3 : Apart gb w.heap.size := ⟨by have := hBL.lt; omega⟩
      have hSp : (tabF (fun q => cho (topOf L (EV L) (L.here q))) N1 p)[p]? = some (cho (topOf L (EV L) (L.here p))) := by
        rw [List.getElem?_eq_getElem (by rw [tabF_len]; exact hpN), tabF_get _ _ (Nat.le_refl p)]
      have hx13 : Ext W1 W3 := HX2.out.trans hx3
      have HXW : Hid (Ext w W3) := Lib.hid (HX1.out.trans hx13)
      have HX13 : Hid (Ext W1 W3) := Lib.hid hx13
      have hszW := HXW.out.size
      have hszg : w.heap.size ≤ gb := by have := (HX1.out.trans HX2.out).size; omega
      have hszg1 : W1.heap.size ≤ gb := by have := HX2.out.size; omega
      clear hx13 HX2 HX hTb hx3
      obtain ⟨y0, y1, y2, hy⟩ : ∃ y0 y1 y2, cho (topOf L (EV L) (L.here p)) = (y0, y1, y2) := ⟨_, _, _, rfl⟩
      have hy2 : -1 ≤ y2 ∧ y2 ≤ 2001000000 := cho_bound HF.out hG hy
      have HY := Lib.hid hy
      rw [hy] at hSp
      clear hy
      go_upto_region 10 with (first | ((with_reducible apply wl_store' lwCh); (· (first | exact wanted_none rfl | exact wanted_some rfl rfl rfl)); (· rfl); (· rfl); (· infer_instance); (· rfl); (· rfl); (· (simp [Value.oneCell'])); try simp only [setRow_alloc, setRow_new, setRow_new1, setRow_new2, setRow_new11, setRow_new111]) | ((with_reducible apply wl_load' lwCh); (· (first | exact wanted_none rfl | exact wanted_some rfl rfl rfl)); (· rfl); (· infer_instance); (· rfl)) | ((with_reducible refine wl_loadTE (g := W1.heap.size + 1) (p := p) midCh ?_ hSp ?_ ?_ ?_); (· infer_instance); (· (first | exact wanted_none rfl | exact wanted_some rfl rfl rfl)); (· rfl)) | ((with_reducible apply wl_loadM midPiece); (· exact Tab.range HTB.out (by repeat' (first | (with_reducible exact Ext.refl _) | (with_reducible exact HXW.out) | (with_reducible refine Ext.trans ?_ (ExtOf.ext _)) | (with_reducible refine Ext.alloc ?_ _) | (with_reducible refine Ext.drew ?_) | (with_reducible refine Ext.setCell ?_ ?_ _) | (with_reducible refine Ext.setRow ?_ ?_ _) | omega | (simp; omega)))); (· rfl); (· (first | exact wanted_none rfl | exact wanted_some rfl rfl rfl)); (· rfl)) | ((with_reducible apply wl_loadB midPiece); (· (first | exact wanted_none rfl | exact wanted_some rfl rfl rfl)); (· rfl); (· infer_instance); (· rfl); (· rfl)))
      refine nameW (R := fun W => Code.wp _ _ _ _ W) (fun W => Hid (Ext W1 W) ∧ Hid (Ext w W) ∧ Tbl W W1.heap.size (tabF (fun q => choE (L.E q)) N1 (p + 1)) ∧ Tbl W (W1.heap.size + 1) (tabF (fun q => cho (topOf L (EV L) (L.here q))) N1 p) ∧ Block W gb #[.int .i64 (-1), .int .i64 (-1), .int .i64 0] ∧ Block W W3.heap.size #[.int .i64 y0, .int .i64 y1, .int .i64 y2]) ⟨Lib.hid (by repeat' (first | (with_reducible exact Ext.refl _) | (with_reducible exact HX13.out) | (with_reducible refine Ext.alloc ?_ _) | (with_reducible refine Ext.drew ?_) | (with_reducible refine Ext.setCell ?_ ?_ _) | (with_reducible refine Ext.setRow ?_ ?_ _) | omega | (simp; omega))), Lib.hid (by repeat' (first | (with_reducible exact Ext.refl _) | (with_reducible exact HXW.out) | (with_reducible refine Ext.trans ?_ (ExtOf.ext _)) | (with_reducible refine Ext.alloc ?_ _) | (with_reducible refine Ext.drew ?_) | (with_reducible refine Ext.setCell ?_ ?_ _) | (with_reducible refine Ext.setRow ?_ ?_ _) | omega | (simp; omega))), inferInstance, inferInstance, inferInstance, new_setRow _ _ _ _ _⟩ ?_
      clear hE hS hE3 hS3 hBL3 hBL hB3 obL ob3 obb HXW HX13 hSp cD1 cD2
      have hgW3 : gb < W3.heap.size := hbb.lt
      clear hbb
      rintro W4 ⟨HX4, HXW, hE4, hS4, hbb4, hcc4⟩
      have ob4 := hbb4.old
      have oc4 := hcc4.old
      obtain ⟨B, hB⟩ : ∃ B : Bool, B = bestB (topOf L (EV L) (L.here p)) := ⟨_, rfl⟩
      have HB := Lib.hid hB
      clear hB
      go_cut [67] (fun s wx => s = .bool B ∧ wx = W4)
      case first =>
        rcases ht : topOf L (EV L) (L.here p) with _ | ⟨⟨i, a⟩, v⟩
        · have hB1 : B = false := by rw [HB.out, ht]; rfl
          have hy := HY.out
          rw [ht] at hy
          obtain ⟨rfl, rfl, rfl⟩ : -1 = y0 ∧ -1 = y1 ∧ 0 = y2 := by injection hy with e1 e2; injection e2 with e2 e3; exact ⟨e1, e2, e3⟩
          subst hB1
          clear hy ht
          go_wp2_with (first | ((with_reducible apply wl_store' lwCh); (· (first | exact wanted_none rfl | exact wanted_some rfl rfl rfl)); (· rfl); (· rfl); (· infer_instance); (· rfl); (· rfl); (· (simp [Value.oneCell'])); try simp only [setRow_alloc, setRow_new, setRow_new1, setRow_new2, setRow_new11, setRow_new111]) | ((with_reducible apply wl_load' lwCh); (· (first | exact wanted_none rfl | exact wanted_some rfl rfl rfl)); (· rfl); (· infer_instance); (· rfl)) | ((with_reducible refine wl_loadTE (g := W1.heap.size + 1) (p := p) midCh ?_ hSp ?_ ?_ ?_); (· infer_instance); (· (first | exact wanted_none rfl | exact wanted_some rfl rfl rfl)); (· rfl)) | ((with_reducible apply wl_loadM midPiece); (· exact Tab.range HTB.out (by repeat' (first | (with_reducible exact Ext.refl _) | (with_reducible exact HXW.out) | (with_reducible refine Ext.trans ?_ (ExtOf.ext _)) | (with_reducible refine Ext.alloc ?_ _) | (with_reducible refine Ext.drew ?_) | (with_reducible refine Ext.setCell ?_ ?_ _) | (with_reducible refine Ext.setRow ?_ ?_ _) | omega | (simp; omega)))); (· rfl); (· (first | exact wanted_none rfl | exact wanted_some rfl rfl rfl)); (· rfl)) | ((with_reducible apply wl_loadB midPiece); (· (first | exact wanted_none rfl | exact wanted_some rfl rfl rfl)); (· rfl); (· infer_instance); (· rfl); (· rfl)))
          go_meet
          exact ⟨rfl, rfl⟩
        · have hB1 : B = decide (0 < v) := by rw [HB.out, ht]; rfl
          have hy := HY.out
          rw [ht] at hy
          obtain ⟨rfl, rfl, rfl⟩ : (i : Int) = y0 ∧ (a : Int) = y1 ∧ v = y2 := by injection hy with e1 e2; injection e2 with e2 e3; exact ⟨e1, e2, e3⟩
          subst hB1
          clear hy ht
          have e1 : ((i : Int) == -1) = false := beq_eq_false_iff_ne.2 (by omega)
          go_wp2_with (first | ((with_reducible apply wl_store' lwCh); (· (first | exact wanted_none rfl | exact wanted_some rfl rfl rfl)); (· rfl); (· rfl); (· infer_instance); (· rfl); (· rfl); (· (simp [Value.oneCell'])); try simp only [setRow_alloc, setRow_new, setRow_new1, setRow_new2, setRow_new11, setRow_new111]) | ((with_reducible apply wl_load' lwCh); (· (first | exact wanted_none rfl | exact wanted_some rfl rfl rfl)); (· rfl); (· infer_instance); (· rfl)) | ((with_reducible refine wl_loadTE (g := W1.heap.size + 1) (p := p) midCh ?_ hSp ?_ ?_ ?_); (· infer_instance); (· (first | exact wanted_none rfl | exact wanted_some rfl rfl rfl)); (· rfl)) | ((with_reducible apply wl_loadM midPiece); (· exact Tab.range HTB.out (by repeat' (first | (with_reducible exact Ext.refl _) | (with_reducible exact HXW.out) | (with_reducible refine Ext.trans ?_ (ExtOf.ext _)) | (with_reducible refine Ext.alloc ?_ _) | (with_reducible refine Ext.drew ?_) | (with_reducible refine Ext.setCell ?_ ?_ _) | (with_reducible refine Ext.setRow ?_ ?_ _) | omega | (simp; omega)))); (· rfl); (· (first | exact wanted_none rfl | exact wanted_some rfl rfl rfl)); (· rfl)) | ((with_reducible apply wl_loadB midPiece); (· (first | exact wanted_none rfl | exact wanted_some rfl rfl rfl)); (· rfl); (· infer_instance); (· rfl); (· rfl)))
          go_meet
          exact ⟨rfl, rfl⟩
      case rest =>
        obtain ⟨rfl, rfl⟩ := hcut
        go_upto_if 67 with fail
        go_cut [8] (fun s8 wx => s8 = .pointer (some ⟨gb, 0, none⟩) ∧ Hid (Ext W1 wx) ∧ Tbl wx W1.heap.size (tabF (fun q => choE (L.E q)) N1 (p + 1)) ∧ Tbl wx (W1.heap.size + 1) (tabF (fun q => cho (topOf L (EV L) (L.here q))) N1 p) ∧ Block wx gb (trip (choE (bestTo L p 1))))
        case first =>
          rcases ht : topOf L (EV L) (L.here p) with _ | ⟨⟨i, a⟩, v⟩
          · have hB1 : B = false := by rw [HB.out, ht]; rfl
            have HT : Hid (bestTo L p 1 = (none, 0)) := Lib.hid (by rw [bestTo_one, ht]; rfl)
            subst hB1
            clear ht
            go_wp2_with (first | ((with_reducible apply wl_store' lwCh); (· (first | exact wanted_none rfl | exact wanted_some rfl rfl rfl)); (· rfl); (· rfl); (· infer_instance); (· rfl); (· rfl); (· (simp [Value.oneCell'])); try simp only [setRow_alloc, setRow_new, setRow_new1, setRow_new2, setRow_new11, setRow_new111]) | ((with_reducible apply wl_load' lwCh); (· (first | exact wanted_none rfl | exact wanted_some rfl rfl rfl)); (· rfl); (· infer_instance); (· rfl)) | ((with_reducible refine wl_loadTE (g := W1.heap.size + 1) (p := p) midCh ?_ hSp ?_ ?_ ?_); (· infer_instance); (· (first | exact wanted_none rfl | exact wanted_some rfl rfl rfl)); (· rfl)) | ((with_reducible apply wl_loadM midPiece); (· exact Tab.range HTB.out (by repeat' (first | (with_reducible exact Ext.refl _) | (with_reducible exact HXW.out) | (with_reducible refine Ext.trans ?_ (ExtOf.ext _)) | (with_reducible refine Ext.alloc ?_ _) | (with_reducible refine Ext.drew ?_) | (with_reducible refine Ext.setCell ?_ ?_ _) | (with_reducible refine Ext.setRow ?_ ?_ _) | omega | (simp; omega)))); (· rfl); (· (first | exact wanted_none rfl | exact wanted_some rfl rfl rfl)); (· rfl)) | ((with_reducible apply wl_loadB midPiece); (· (first | exact wanted_none rfl | exact wanted_some rfl rfl rfl)); (· rfl); (· infer_instance); (· rfl); (· rfl)))
            go_meet
            exact ⟨rfl, HX4, inferInstance, inferInstance, by rw [HT.out]; exact hbb4⟩
          · have hB1 : B = decide (0 < v) := by rw [HB.out, ht]; rfl
            have hy := HY.out
            rw [ht] at hy
            obtain ⟨rfl, rfl, rfl⟩ : (i : Int) = y0 ∧ (a : Int) = y1 ∧ v = y2 := by injection hy with e1 e2; injection e2 with e2 e3; exact ⟨e1, e2, e3⟩
            clear hy
            by_cases t5 : 0 < v
            · obtain rfl : B = true := by rw [hB1]; exact decide_eq_true t5
              have HT : Hid (bestTo L p 1 = (some (i, a), v)) := Lib.hid (by rw [bestTo_one, ht, take_yes (by exact t5)])
              clear ht hB1
              go_wp2_with (first | ((with_reducible apply wl_store' lwCh); (· (first | exact wanted_none rfl | exact wanted_some rfl rfl rfl)); (· rfl); (· rfl); (· infer_instance); (· rfl); (· rfl); (· (simp [Value.oneCell'])); try simp only [setRow_alloc, setRow_new, setRow_new1, setRow_new2, setRow_new11, setRow_new111]) | ((with_reducible apply wl_load' lwCh); (· (first | exact wanted_none rfl | exact wanted_some rfl rfl rfl)); (· rfl); (· infer_instance); (· rfl)) | ((with_reducible refine wl_loadTE (g := W1.heap.size + 1) (p := p) midCh ?_ hSp ?_ ?_ ?_); (· infer_instance); (· (first | exact wanted_none rfl | exact wanted_some rfl rfl rfl)); (· rfl)) | ((with_reducible apply wl_loadM midPiece); (· exact Tab.range HTB.out (by repeat' (first | (with_reducible exact Ext.refl _) | (with_reducible exact HXW.out) | (with_reducible refine Ext.trans ?_ (ExtOf.ext _)) | (with_reducible refine Ext.alloc ?_ _) | (with_reducible refine Ext.drew ?_) | (with_reducible refine Ext.setCell ?_ ?_ _) | (with_reducible refine Ext.setRow ?_ ?_ _) | omega | (simp; omega)))); (· rfl); (· (first | exact wanted_none rfl | exact wanted_some rfl rfl rfl)); (· rfl)) | ((with_reducible apply wl_loadB midPiece); (· (first | exact wanted_none rfl | exact wanted_some rfl rfl rfl)); (· rfl); (· infer_instance); (· rfl); (· rfl)))
              go_meet
              exact ⟨rfl, Lib.hid (by repeat' (first | (with_reducible exact HX4.out) | (with_reducible refine Ext.alloc ?_ _) | (with_reducible refine Ext.drew ?_) | (with_reducible refine Ext.setCell ?_ ?_ _) | (with_reducible refine Ext.setRow ?_ ?_ _) | omega | (simp; omega))), inferInstance, inferInstance, by rw [HT.out]; (show Block _ gb #[.int .i64 (i : Int), .int .i64 (a : Int), .int .i64 v]); infer_instance⟩
            · obtain rfl : B = false := by rw [hB1]; exact decide_eq_false t5
              have HT : Hid (bestTo L p 1 = (none, 0)) := Lib.hid (by rw [bestTo_one, ht, take_no (by exact Int.not_lt.1 t5)])
              clear ht hB1
              go_wp2_with (first | ((with_reducible apply wl_store' lwCh); (· (first | exact wanted_none rfl | exact wanted_some rfl rfl rfl)); (· rfl); (· rfl); (· infer_instance); (· rfl); (· rfl); (· (simp [Value.oneCell'])); try simp only [setRow_alloc, setRow_new, setRow_new1, setRow_new2, setRow_new11, setRow_new111]) | ((with_reducible apply wl_load' lwCh); (· (first | exact wanted_none rfl | exact wanted_some rfl rfl rfl)); (· rfl); (· infer_instance); (· rfl)) | ((with_reducible refine wl_loadTE (g := W1.heap.size + 1) (p := p) midCh ?_ hSp ?_ ?_ ?_); (· infer_instance); (· (first | exact wanted_none rfl | exact wanted_some rfl rfl rfl)); (· rfl)) | ((with_reducible apply wl_loadM midPiece); (· exact Tab.range HTB.out (by repeat' (first | (with_reducible exact Ext.refl _) | (with_reducible exact HXW.out) | (with_reducible refine Ext.trans ?_ (ExtOf.ext _)) | (with_reducible refine Ext.alloc ?_ _) | (with_reducible refine Ext.drew ?_) | (with_reducible refine Ext.setCell ?_ ?_ _) | (with_reducible refine Ext.setRow ?_ ?_ _) | omega | (simp; omega)))); (· rfl); (· (first | exact wanted_none rfl | exact wanted_some rfl rfl rfl)); (· rfl)) | ((with_reducible apply wl_loadB midPiece); (· (first | exact wanted_none rfl | exact wanted_some rfl rfl rfl)); (· rfl); (· infer_instance); (· rfl); (· rfl)))
              go_meet
              exact ⟨rfl, HX4, inferInstance, inferInstance, by rw [HT.out]; exact hbb4⟩
        case rest =>
          clear HX4 HXW hE4 hS4 hbb4 hcc4 ob4 oc4
          obtain ⟨rfl, HX4, hE4, hS4, hbb4⟩ := hcut
          have hBL := HB0.out.ext HX4.out
          have obL := hBL.old
          go_wp2_with fail
          clear hBL obL
          go_loopw [10] (fun v wr => ∃ a j : Nat, a = p + 1 + L.k + j ∧ j ≤ L.n + 1 ∧ (j = 0 ∨ p + L.k + j ≤ L.n) ∧ v = .int .i64 (a : Int) ∧ Tbl wr W1.heap.size (tabF (fun q => choE (L.E q)) N1 (p + 1)) ∧ Tbl wr (W1.heap.size + 1) (tabF (fun q => cho (topOf L (EV L) (L.here q))) N1 p) ∧ Block wr gb (trip (choE (bestTo L p (j + 1)))) ∧ Ext W1 wr) (fun v _ => L.n + 1 - (intOf v).toNat)
          case atStart => exact ⟨p + 1 + L.k, 0, by omega, by omega, by omega, by go_num, hE4, hS4, hbb4, HX4.out⟩
          case round =>
            rename World => W5
            obtain ⟨a, j, ha, hj1, hj2, rfl, hE, hS, hbb, hx⟩ := hrel
            have HX5 := Lib.hid hx
            have HXW : Hid (Ext w W5) := Lib.hid (HX1.out.trans hx)
            clear hx
            obtain ⟨x0, x1, hxx, hbb⟩ := Tbl.tripE _ hbb
            obtain ⟨bv, hbv⟩ : ∃ v, v = (bestTo L p (j + 1)).2 := ⟨_, rfl⟩
            rw [← hbv] at hbb
            have HBV := Lib.hid hbv
            have HXX := Lib.hid hxx
            clear hbv hxx
            have obb := hbb.old
            have hsz5 := HX5.out.size
            have obE := hE.old
            have obS := hS.old
            have hBL := HB0.out.ext HX5.out
            have obL := hBL.old
            have hB3 := HB3.out.ext HX5.out
            have hB4 := HB4.out.ext HX5.out
            by_cases hle : a ≤ L.n
            · obtain ⟨c, hc⟩ : ∃ c, c = p + 1 + j := ⟨_, rfl⟩
              have d1 : decide ((a : Int) ≤ (L.n : Int)) = true := decide_eq_true (by omega)
              have ecut : (a : Int) - (L.k : Int) = (c : Int) := by omega
              have haN : a < N1 := by omega
              have hcN : c < N1 := by omega
              have c1 : W5.cell? ⟨g3, c, none⟩ = some (.int .i64 0) := by rw [Block.cell (h := hB3), Array.getElem?_replicate, if_pos hcN]
              have c2 : W5.cell? ⟨g3, p, none⟩ = some (.int .i64 0) := by rw [Block.cell (h := hB3), Array.getElem?_replicate, if_pos hpN]
              have c3 : W5.cell? ⟨g4, a, none⟩ = some (.int .i64 0) := by rw [Block.cell (h := hB4), Array.getElem?_replicate, if_pos haN]
              have c4 : W5.cell? ⟨g4, c, none⟩ = some (.int .i64 0) := by rw [Block.cell (h := hB4), Array.getElem?_replicate, if_pos hcN]
              have ob3 := hB3.old
              have ob4 := hB4.old
              have hSa : (tabF (fun q => cho (topOf L (EV L) (L.here q))) N1 p)[a]? = some (cho (topOf L (EV L) (L.here a))) := by
                rw [List.getElem?_eq_getElem (by rw [tabF_len]; exact haN), tabF_get _ _ (by omega)]
              have HSU : Hid (bestTo L p (j + 1 + 1) = take (bestTo L p (j + 1)) (topOf L (EV L) (L.here a))) := Lib.hid (by rw [ha]; exact bestTo_succ L (by omega))
              have HA := Lib.hid ha
              obtain ⟨z0, z1, z2, hz⟩ : ∃ z0 z1 z2, cho (topOf L (EV L) (L.here a)) = (z0, z1, z2) := ⟨_, _, _, rfl⟩
              have hz2 : -1 ≤ z2 ∧ z2 ≤ 2001000000 := cho_bound HF.out hG hz
              have HZ := Lib.hid hz
              rw [hz] at hSa
              clear hB3 hB4 ha hc hz
              go_wp2_with (first | ((with_reducible apply wl_store' lwCh); (· (first | exact wanted_none rfl | exact wanted_some rfl rfl rfl)); (· rfl); (· rfl); (· infer_instance); (· rfl); (· rfl); (· (simp [Value.oneCell'])); try simp only [setRow_alloc, setRow_new, setRow_new1, setRow_new2, setRow_new11, setRow_new111]) | ((with_reducible apply wl_load' lwCh); (· (first | exact wanted_none rfl | exact wanted_some rfl rfl rfl)); (· rfl); (· infer_instance); (· rfl)) | ((with_reducible refine wl_loadTE (g := W1.heap.size + 1) (p := a) midCh ?_ hSa ?_ ?_ ?_); (· infer_instance); (· (first | exact wanted_none rfl | exact wanted_some rfl rfl rfl)); (· rfl)) | ((with_reducible apply wl_loadM midPiece); (· exact Tab.range HTB.out (by repeat' (first | (with_reducible exact Ext.refl _) | (with_reducible exact HXW.out) | (with_reducible refine Ext.trans ?_ (ExtOf.ext _)) | (with_reducible refine Ext.alloc ?_ _) | (with_reducible refine Ext.drew ?_) | (with_reducible refine Ext.setCell ?_ ?_ _) | (with_reducible refine Ext.setRow ?_ ?_ _) | omega | (simp; omega)))); (· rfl); (· (first | exact wanted_none rfl | exact wanted_some rfl rfl rfl)); (· rfl)) | ((with_reducible apply wl_loadB midPiece); (· (first | exact wanted_none rfl | exact wanted_some rfl rfl rfl)); (· rfl); (· infer_instance); (· rfl); (· rfl)))
              refine wp_region_ext_tail 23 (by kernel_rfl) (by kernel_rfl) ?_
              simp only [List.take_succ_cons, List.take_zero, List.drop_succ_cons, List.drop_zero]
              repeat (first | go_big_quiet_skip | go_big_quiet_step (fail))
              refine wpQuiet_nil ?_
              intro _ hw'
              obtain ⟨nq, hw''⟩ := hw'
              subst hw''
              rcases hta : topOf L (EV L) (L.here a) with _ | ⟨⟨i2, a2⟩, v2⟩
              · have hz := HZ.out
                rw [hta] at hz
                obtain ⟨rfl, rfl, rfl⟩ : -1 = z0 ∧ -1 = z1 ∧ 0 = z2 := by injection hz with e1 e2; injection e2 with e2 e3; exact ⟨e1, e2, e3⟩
                have HT := Lib.hid hta
                clear hta hz
                go_wp2_with (first | ((with_reducible apply wl_store' lwCh); (· (first | exact wanted_none rfl | exact wanted_some rfl rfl rfl)); (· rfl); (· rfl); (· infer_instance); (· rfl); (· rfl); (· (simp [Value.oneCell'])); try simp only [setRow_alloc, setRow_new, setRow_new1, setRow_new2, setRow_new11, setRow_new111]) | ((with_reducible apply wl_load' lwCh); (· (first | exact wanted_none rfl | exact wanted_some rfl rfl rfl)); (· rfl); (· infer_instance); (· rfl)) | ((with_reducible refine wl_loadTE (g := W1.heap.size + 1) (p := a) midCh ?_ hSa ?_ ?_ ?_); (· infer_instance); (· (first | exact wanted_none rfl | exact wanted_some rfl rfl rfl)); (· rfl)) | ((with_reducible apply wl_loadM midPiece); (· exact Tab.range HTB.out (by repeat' (first | (with_reducible exact Ext.refl _) | (with_reducible exact HXW.out) | (with_reducible refine Ext.trans ?_ (ExtOf.ext _)) | (with_reducible refine Ext.alloc ?_ _) | (with_reducible refine Ext.drew ?_) | (with_reducible refine Ext.setCell ?_ ?_ _) | (with_reducible refine Ext.setRow ?_ ?_ _) | omega | (simp; omega)))); (· rfl); (· (first | exact wanted_none rfl | exact wanted_some rfl rfl rfl)); (· rfl)) | ((with_reducible apply wl_loadB midPiece); (· (first | exact wanted_none rfl | exact wanted_some rfl rfl rfl)); (· rfl); (· infer_instance); (· rfl); (· rfl)))
                go_roundw
                case rel =>
                  refine ⟨a + 1, j + 1, by (have := HA.out; omega), by omega, by (have := HA.out; omega), by go_num, inferInstance, inferInstance, ?_, by repeat' (first | (with_reducible exact Ext.refl _) | (with_reducible exact HX5.out) | (with_reducible exact ExtOf.ext _) | (with_reducible refine Ext.trans ?_ (ExtOf.ext _)) | (with_reducible refine Ext.alloc ?_ _) | (with_reducible refine Ext.drew ?_) | (with_reducible refine Ext.setCell ?_ ?_ _) | (with_reducible refine Ext.setRow ?_ ?_ _) | omega | (simp; omega))⟩
                  have hta := HT.out
                  rw [HSU.out, hta, take_none, HXX.out, ← HBV.out]
                  (unfold trip); infer_instance
                case measure => first | (simp [intOf]; done) | (simp [intOf]; omega)
              · have hz := HZ.out
                rw [hta] at hz
                obtain ⟨rfl, rfl, rfl⟩ : (i2 : Int) = z0 ∧ (a2 : Int) = z1 ∧ v2 = z2 := by injection hz with e1 e2; injection e2 with e2 e3; exact ⟨e1, e2, e3⟩
                have e2 : ((i2 : Int) == -1) = false := beq_eq_false_iff_ne.2 (by omega)
                by_cases t6 : bv < v2
                · have t6' : decide (bv < v2) = true := decide_eq_true t6
                  have HT := Lib.hid hta
                  clear hta hz
                  go_wp2_with (first | ((with_reducible apply wl_store' lwCh); (· (first | exact wanted_none rfl | exact wanted_some rfl rfl rfl)); (· rfl); (· rfl); (· infer_instance); (· rfl); (· rfl); (· (simp [Value.oneCell'])); try simp only [setRow_alloc, setRow_new, setRow_new1, setRow_new2, setRow_new11, setRow_new111]) | ((with_reducible apply wl_load' lwCh); (· (first | exact wanted_none rfl | exact wanted_some rfl rfl rfl)); (· rfl); (· infer_instance); (· rfl)) | ((with_reducible refine wl_loadTE (g := W1.heap.size + 1) (p := a) midCh ?_ hSa ?_ ?_ ?_); (· infer_instance); (· (first | exact wanted_none rfl | exact wanted_some rfl rfl rfl)); (· rfl)) | ((with_reducible apply wl_loadM midPiece); (· exact Tab.range HTB.out (by repeat' (first | (with_reducible exact Ext.refl _) | (with_reducible exact HXW.out) | (with_reducible refine Ext.trans ?_ (ExtOf.ext _)) | (with_reducible refine Ext.alloc ?_ _) | (with_reducible refine Ext.drew ?_) | (with_reducible refine Ext.setCell ?_ ?_ _) | (with_reducible refine Ext.setRow ?_ ?_ _) | omega | (simp; omega)))); (· rfl); (· (first | exact wanted_none rfl | exact wanted_some rfl rfl rfl)); (· rfl)) | ((with_reducible apply wl_loadB midPiece); (· (first | exact wanted_none rfl | exact wanted_some rfl rfl rfl)); (· rfl); (· infer_instance); (· rfl); (· rfl)))
                  go_roundw
                  case rel =>
                    refine ⟨a + 1, j + 1, by (have := HA.out; omega), by omega, by (have := HA.out; omega), by go_num, inferInstance, inferInstance, ?_, by repeat' (first | (with_reducible exact Ext.refl _) | (with_reducible exact HX5.out) | (with_reducible exact ExtOf.ext _) | (with_reducible refine Ext.trans ?_ (ExtOf.ext _)) | (with_reducible refine Ext.alloc ?_ _) | (with_reducible refine Ext.drew ?_) | (with_reducible refine Ext.setCell ?_ ?_ _) | (with_reducible refine Ext.setRow ?_ ?_ _) | omega | (simp; omega))⟩
                    have hta := HT.out
                    rw [HSU.out, hta, take_yes (by rw [← HBV.out]; exact t6)]
                    (unfold trip); infer_instance
                  case measure => first | (simp [intOf]; done) | (simp [intOf]; omega)
                · have t6' : decide (bv < v2) = false := decide_eq_false t6
                  have HT := Lib.hid hta
                  clear hta hz
                  go_wp2_with (first | ((with_reducible apply wl_store' lwCh); (· (first | exact wanted_none rfl | exact wanted_some rfl rfl rfl)); (· rfl); (· rfl); (· infer_instance); (· rfl); (· rfl); (· (simp [Value.oneCell'])); try simp only [setRow_alloc, setRow_new, setRow_new1, setRow_new2, setRow_new11, setRow_new111]) | ((with_reducible apply wl_load' lwCh); (· (first | exact wanted_none rfl | exact wanted_some rfl rfl rfl)); (· rfl); (· infer_instance); (· rfl)) | ((with_reducible refine wl_loadTE (g := W1.heap.size + 1) (p := a) midCh ?_ hSa ?_ ?_ ?_); (· infer_instance); (· (first | exact wanted_none rfl | exact wanted_some rfl rfl rfl)); (· rfl)) | ((with_reducible apply wl_loadM midPiece); (· exact Tab.range HTB.out (by repeat' (first | (with_reducible exact Ext.refl _) | (with_reducible exact HXW.out) | (with_reducible refine Ext.trans ?_ (ExtOf.ext _)) | (with_reducible refine Ext.alloc ?_ _) | (with_reducible refine Ext.drew ?_) | (with_reducible refine Ext.setCell ?_ ?_ _) | (with_reducible refine Ext.setRow ?_ ?_ _) | omega | (simp; omega)))); (· rfl); (· (first | exact wanted_none rfl | exact wanted_some rfl rfl rfl)); (· rfl)) | ((with_reducible apply wl_loadB midPiece); (· (first | exact wanted_none rfl | exact wanted_some rfl rfl rfl)); (· rfl); (· infer_instance); (· rfl); (· rfl)))
                  go_roundw
                  case rel =>
                    refine ⟨a + 1, j + 1, by (have := HA.out; omega), by omega, by (have := HA.out; omega), by go_num, inferInstance, inferInstance, ?_, by repeat' (first | (with_reducible exact Ext.refl _) | (with_reducible exact HX5.out) | (with_reducible exact ExtOf.ext _) | (with_reducible refine Ext.trans ?_ (ExtOf.ext _)) | (with_reducible refine Ext.alloc ?_ _) | (with_reducible refine Ext.drew ?_) | (with_reducible refine Ext.setCell ?_ ?_ _) | (with_reducible refine Ext.setRow ?_ ?_ _) | omega | (simp; omega))⟩
                    have hta := HT.out
                    rw [HSU.out, hta, take_no (by rw [← HBV.out]; omega), HXX.out, ← HBV.out]
                    (unfold trip); infer_instance
                  case measure => first | (simp [intOf]; done) | (simp [intOf]; omega)
            · have HEP : Hid (bestTo L p (j + 1) = L.E p) := Lib.hid (bestTo_all L hG hpn (by omega))
              have HEV : Hid (choE (L.E p) = (x0, x1, bv)) := Lib.hid (by rw [← HEP.out, HXX.out, ← HBV.out])
              have hlE := tabF_len (fun q => choE (L.E q)) N1 (p + 1)
              have d1 : decide ((a : Int) ≤ (L.n : Int)) = false := decide_eq_false (by omega)
              go_wp2_with (first | ((with_reducible apply wl_load' lwCh); (· (first | exact wanted_none rfl | exact wanted_some rfl rfl rfl)); (· rfl); (· infer_instance); (· rfl)) | ((with_reducible apply wl_storeT (g := W1.heap.size) (p := p) (by kernel_rfl)); (· (first | exact wanted_none rfl | exact wanted_some rfl rfl rfl)); (· rfl); (· rfl); (· exact hE); (· rw [hlE]; exact hpN)))
              go_roundw
              case rel =>
                refine ⟨p, by omega, rfl, ?_, ?_, Ext.setRow HX5.out (Nat.le_refl _) _⟩
                · rw [← tabF_set _ hpN]
                  rw [HEV.out]
                  infer_instance
                · infer_instance
              case measure => first | (simp [intOf]; done) | (simp [intOf]; omega)
end Go.Proofs.YtdalbfanfbeckaaGreatDoor
