/-
  Chapter 26: several texts in one (R30, R31).
-/
import Derived.Test.YtdalbfanfbeckaaDoorK29
import Derived.Test.YtdalbfanfbeckaaDoorR13
/-
  Chapter 26: the reference's best pieces of a line.
-/
section
set_option linter.unusedVariables false
set_option linter.unusedSimpArgs false
namespace Go.Proofs.YtdalbfanfbeckaaDoor
open Go.RowKit TrimM

attribute [local go_sem] ExtOf.cell ExtOf.frozen ExtS.cell ExtS.frozen Block.cell Block.frozen ExtB.cell ExtB.frozen alloc_cell alloc_frozen
theorem tbl_val1 : ∀ (l : List (Int × Int × Int)) (q : Nat) (h : q < l.length), (tbl l)[q * 3]? = some (.int .i64 (l[q]).1)
  | d :: l, 0, _ => rfl
  | d :: l, q + 1, h => by
    have ih := tbl_val1 l q (by simpa using h)
    have e1 : (q + 1) * 3 = (tri d).length + (q * 3) := by rw [tri_len]; omega
    rw [tbl, e1, List.getElem?_append_right (by omega), Nat.add_sub_cancel_left, ih]
    rfl
theorem tbl_rangeS {w : World} {g p : Nat} {l : List (Int × Int × Int)} {c : Int × Int × Int} (hb : Tbl w g l) (hp : l[p]? = some c) : w.rangeAt g (p * 3 + 1) [.int .i64 c.2.1, .int .i64 c.2.2] := by
  obtain ⟨h1, h2⟩ := List.getElem?_eq_some_iff.1 hp
  refine Block.rangeL hb (n := 2) ?_
  rw [List.toList_toArray]
  have h3 := tbl_get l p h1
  rw [h2] at h3
  have h4 : (((tbl l).drop (p * 3)).take 3).drop 1 = [.int .i64 c.2.1, .int .i64 c.2.2] := by rw [h3]; rfl
  rw [List.drop_take, List.drop_drop] at h4
  exact h4
theorem make_steps (N : Nat) (hN : N ≤ 100000) (w : World) : (Instr.makeSlice 92 (.int .i64 (N : Int)) (.int .i64 (N : Int))).run Tryd.prog w = .ok (.slice (some ⟨w.heap.size, 0, none⟩) N N) (w.alloc (.cells (tbl (List.replicate N (0, 0, 0))).toArray 94)) := by
  have hinfo : (Tryd.prog.info? 94).map (fun i => (i.zero, i.size, i.bytes)) = some (some (.agg #[.int .i64 0, .int .i64 0, .int .i64 0]), 3, 24) := by kernel_rfl
  obtain ⟨i, hi, hzz⟩ := Option.map_eq_some_iff.1 hinfo
  simp only [Prod.mk.injEq] at hzz
  obtain ⟨hz, hs, hb⟩ := hzz
  have h := run_make (P := Tryd.prog) w 92 94 i _ Tryd.underlying92 hi hz .i64 .i64 (N : Int) (N : Int) (by omega) (by omega) (by rw [hb]; omega) (by omega)
  rw [hs, Int.toNat_natCast] at h
  rw [h, tbl_zero]
  have e : madeCells (Value.agg #[.int .i64 0, .int .i64 0, .int .i64 0]).cells (N * 3) = (List.replicate (N * 3) (Value.int .i64 0)).toArray := by
    apply Array.ext_getElem?
    intro j
    by_cases hj : j < N * 3
    · have h3 : j % 3 < 3 := Nat.mod_lt _ (by omega)
      have h4 : j % 3 = 0 ∨ j % 3 = 1 ∨ j % 3 = 2 := by omega
      rcases h4 with h4 | h4 | h4 <;> simp [madeCells, hj, Value.cells, h4]
    · simp [madeCells, hj]
  rw [e]
/-- a slice of N nothings, from block lo on -/
def Ps (lo N : Nat) (v : Value) (w : World) : Prop := ∃ g cap, v = .slice (some ⟨g, 0, none⟩) N cap ∧ lo ≤ g ∧ ∀ q, q < N → w.cell? ⟨g, q, none⟩ = some (.int .i64 0)
theorem Ps.ext {lo N : Nat} {v : Value} {w w' : World} (h : Ps lo N v w) (hx : Ext w w') : Ps lo N v w' := by
  obtain ⟨g, cap, h1, h2, h3⟩ := h
  exact ⟨g, cap, h1, h2, fun q hq => hx.cell (h3 q hq)⟩
theorem Ps.of {base n E : Nat} {w : World} {v : Value} (h : Own encI 1 E base w v (noughts (n + 1))) : Ps base (n + 1) v w := by
  have h0 := h
  rcases h.2 with ⟨rfl, hn⟩ | ⟨g, cap, cur, rfl, hb, hgg, rest⟩
  · simp [noughts] at hn
  · refine ⟨g, cap, by rw [noughts_len], hb, fun q hq => ?_⟩
    obtain ⟨b, off, e, _, hc⟩ := int_elem (Own.slice encI_len h0) (i := q) (x := 0) (by rw [noughts_len]; exact hq) (noughts_get _)
    injection e with e
    injection e with e1 e2
    subst e1
    subst e2
    rwa [Nat.zero_add] at hc
def prA (b : Nat) (vc vd : Value) (d : Nat) (v : Value) : Prop := match d with
  | 19 => v = .pointer (some ⟨b, 5, none⟩)
  | 20 => v = vc
  | 22 => v = .pointer (some ⟨b, 6, none⟩)
  | 23 => v = vd
  | _ => True
def prF (lo N : Nat) (d : Nat) (v : Value) (w : World) : Prop := match d with
  | 21 => Ps lo N v w
  | 24 => Ps lo N v w
  | 6 => Ps lo N v w
  | 7 => Ps lo N v w
  | _ => True
theorem prA_some (b : Nat) (vc vd : Value) (d : Nat) : ∃ v, prA b vc vd d v := by
  unfold prA; split <;> first | exact ⟨_, rfl⟩ | exact ⟨undef, trivial⟩
theorem prF_keep (lo N : Nat) (d : Nat) (v : Value) (w w' : World) (h : prF lo N d v w) (hx : Ext w w') : prF lo N d v w' := by
  unfold prF at *; split <;> first | exact Ps.ext h hx | trivial
set_option maxHeartbeats 3200000 in
set_option maxRecDepth 20000 in
theorem rBest_any (L : Ln) (hL : L.Fine) (cs : Array Value) (w : World) (h : LineS w L cs) : Calls Tryd.prog 28 #[.agg cs] w (BestPost L w) := by
  have HL := Lib.hid h
  have HCK : Hid (∀ W, Ext w W → Calls Tryd.prog 47 #[.agg cs] W fun e w' => e = .returned (.int .i64 0) ∧ ∃ n : ExtOf W, w' = n.val) := Lib.hid (fun W hx => rcCheck_ok L hL cs W (LineS.ext h hx))
  obtain ⟨N1, hN1⟩ : ∃ N, N = L.n + 1 := ⟨_, rfl⟩
  obtain ⟨vs, vg, vc, vd, rfl, h1, h2, h3, h4⟩ := h
  obtain ⟨N, hN⟩ : ∃ N, N = L.sizes.length := ⟨_, rfl⟩
  obtain ⟨ps, cs, rfl, a1, a2, a3⟩ := int_form h1 (n := N) (by rw [List.length_map, hN])
  obtain ⟨pg, cg, rfl, b1, b2, b3⟩ := grid_form h2 (n := N) (by rw [hL.rows, hN])
  obtain ⟨pc, cc, rfl, d1, d2, d3⟩ := int_form h3 (n := L.n) (by rw [List.length_replicate])
  obtain ⟨pd, cd, rfl, e1, e2, e3⟩ := int_form h4 (n := L.n) (by rw [List.length_replicate])
  have HS := Lib.hid h1
  have HG := Lib.hid h2
  have HC := Lib.hid h3
  have HD := Lib.hid h4
  have HF := Lib.hid hL
  have HN := Lib.hid hN
  have hn := hL.n
  have hk := hL.k
  have hs8 : N ≤ 8 := by rw [hN]; exact hL.sizes
  clear h1 h2 h3 h4 hL hN
  unfold maxLen at a2 b2 d2 e2
  have HN1 := Lib.hid hN1
  have hN2 : N1 ≤ 2001 := by omega
  have hN3 : L.n < N1 := by omega
  have hN0 : 0 < N1 := by omega
  have hc1 : (L.n : Int) + 1 = (N1 : Int) := by omega
  have hkL : L.k ≤ 20 := HF.out.k
  have hG : L.Good := Ln.Fine.good HF.out
  have hmk := make_steps N1 (by omega)
  clear hN1
  obtain ⟨iP, hiP, hP0, hP1, hP2⟩ := info_parts infoPiece
  go_enter Tryd.func28, Tryd.ntmps28
  go_wp2_with (first | ((with_reducible apply wl_load' lwLine); (· (first | exact wanted_none rfl | exact wanted_some rfl rfl rfl)); (· rfl); (· infer_instance); (· rfl)) | (go_at_call 47; with_reducible refine Calls.mono (HCK.out _ (by repeat' (first | (with_reducible exact Ext.refl _) | (with_reducible exact ExtOf.ext _) | (with_reducible refine Ext.trans ?_ (ExtOf.ext _)) | (with_reducible refine Ext.alloc ?_ _) | (with_reducible refine Ext.drew ?_) | (with_reducible refine Ext.setCell ?_ ?_ _) | (with_reducible refine Ext.setRow ?_ ?_ _) | (with_reducible exact HX.out) | (with_reducible refine Ext.trans ?_ HX.out) | (with_reducible refine Ext.below ?_ (Nat.le_refl _) _) | omega | (simp; done) | (simp; omega)))) ?_; rintro e w' ⟨rfl, nk, rfl⟩))
  obtain ⟨W0, hW0⟩ : ∃ W, W = nk.val := ⟨_, rfl⟩
  have hB0 : Block W0 w.heap.size #[.int .i64 (L.n : Int), .int .i64 (L.k : Int), .int .i64 1, .slice ps N cs, .slice pg N cg, .slice pc L.n cc, .slice pd L.n cd] := by rw [hW0]; infer_instance
  have HXd : Hid (Ext w W0) := Lib.hid (by rw [hW0]; repeat' (first | (with_reducible exact Ext.refl _) | (with_reducible exact ExtOf.ext _) | (with_reducible refine Ext.trans ?_ (ExtOf.ext _)) | (with_reducible refine Ext.alloc ?_ _) | (with_reducible refine Ext.drew ?_) | (with_reducible refine Ext.setCell ?_ ?_ _) | (with_reducible refine Ext.setRow ?_ ?_ _) | (with_reducible exact HX.out) | (with_reducible refine Ext.trans ?_ HX.out) | (with_reducible refine Ext.below ?_ (Nat.le_refl _) _) | omega | (simp; done) | (simp; omega)))
  rw [← hW0]
  have HB0 : Hid (Block W0.drew w.heap.size #[.int .i64 (L.n : Int), .int .i64 (L.k : Int), .int .i64 1, .slice ps N cs, .slice pg N cg, .slice pc L.n cc, .slice pd L.n cd]) := Lib.hid inferInstance
  clear hW0 nk
  refine wp_region_softF (prA w.heap.size (.slice pc L.n cc) (.slice pd L.n cd)) (prF w.heap.size N1) (by kernel_rfl) (by kernel_rfl) (by kernel_rfl) (by kernel_rfl) (by kernel_rfl) (prA_some _ _ _) (prF_keep _ _) ?_
  have hZ : ∀ {W : World} {v : Value}, IntS w v (List.replicate L.n 0) → Ext W0.drew W → Calls Tryd.prog 48 #[v] W fun e w' => ∃ v, e = .returned v ∧ Ps w.heap.size N1 v w' ∧ ∃ n : ExtOf W, w' = n.val := fun {W v} hi hx => (prefix_zero L.n v W hn (SliceOf.ext hi (Ext.trans (Ext.drew HXd.out) hx))).mono fun e w' ⟨v', h1, h2, h4⟩ => ⟨_, h1, (by
      obtain ⟨g, cap, e1, e2, e3⟩ := Ps.of h2
      have hs := (Ext.trans (Ext.drew HXd.out) hx).size
      rw [HN1.out]
      exact ⟨g, cap, e1, by omega, e3⟩), h4⟩
  refine soft_det (d := 19) (V := .pointer (some ⟨w.heap.size, 5, none⟩)) rfl (by kernel_rfl) (fun v h => h) rfl (fun _ => trivial) (fun W _ _ => by kernel_rfl) ?_
  refine soft_det (d := 20) (V := .slice pc L.n cc) rfl (by kernel_rfl) (fun v h => h) rfl (fun _ => trivial) (fun W hx _ => by have := Block.ext HB0.out hx; simp [execOp, go_sem]) ?_
  refine soft_callS (d := 21) (f := 48) (vals := #[.slice pc L.n cc]) rfl (by kernel_rfl) (fun v => trivial) (fun W => by kernel_rfl) (fun W hx _ => hZ HC.out hx) ?_
  intro v21
  refine soft_det (d := 22) (V := .pointer (some ⟨w.heap.size, 6, none⟩)) rfl (by kernel_rfl) (fun v h => h) rfl (fun _ => trivial) (fun W _ _ => by kernel_rfl) ?_
  refine soft_det (d := 23) (V := .slice pd L.n cd) rfl (by kernel_rfl) (fun v h => h) rfl (fun _ => trivial) (fun W hx _ => by have := Block.ext HB0.out hx; simp [execOp, go_sem]) ?_
  refine soft_callS (d := 24) (f := 48) (vals := #[.slice pd L.n cd]) rfl (by kernel_rfl) (fun v => trivial) (fun W => by kernel_rfl) (fun W hx _ => hZ HD.out hx) ?_
  intro v24
  refine soft_some (d := 6) rfl (by kernel_rfl) (fun v => trivial) (fun W hx hk => ⟨v21, W, by kernel_rfl, Ext.refl _, known_get (d := 21) (v := v21) (n := 2) hk (by kernel_rfl) (by kernel_rfl) (by kernel_rfl)⟩) ?_
  intro v6
  refine soft_some (d := 7) rfl (by kernel_rfl) (fun v => trivial) (fun W hx hk => ⟨v24, W, by kernel_rfl, Ext.refl _, known_get (d := 24) (v := v24) (n := 5) hk (by kernel_rfl) (by kernel_rfl) (by kernel_rfl)⟩) ?_
  intro v7
  intro W1 hx1 hF1
  have hz6 : Ps w.heap.size N1 v6 W1 := known_end (d := 6) (v := v6) hF1 (by kernel_rfl) (by kernel_rfl)
  have hz7 : Ps w.heap.size N1 v7 W1 := known_end (d := 7) (v := v7) hF1 (by kernel_rfl) (by kernel_rfl)
  simp only [Act.put, List.setIfInBounds_toArray, List.set_cons_succ, List.set_cons_zero]
  obtain ⟨gc, kc, rfl, hgc, hcc⟩ := hz6
  obtain ⟨gd, kd, rfl, hgd, hdd⟩ := hz7
  clear hF1
  have HX1 : Hid (Ext w W1) := Lib.hid (Ext.trans (Ext.drew HXd.out) hx1)
  replace HB0 := Lib.hid (Block.ext HB0.out hx1)
  have HCU := Lib.hid hcc
  have HDU := Lib.hid hdd
  clear hcc hdd hx1 hZ hB0
  have hB1 := HB0.out
  have ob1 := hB1.old
  go_wp2_with fail
  go_loopw [9] (fun v wr => ∃ k : Nat, k ≤ N1 ∧ v = .int .i64 ((k : Int) - 1) ∧ Tbl wr W1.heap.size (tabF (fun q => stpE (L.E q)) N1 k) ∧ Ext W1 wr) (fun v _ => (intOf v + 1).toNat)
  case atStart => exact ⟨N1, Nat.le_refl _, by go_num, by rw [tabF_zero]; infer_instance, by repeat' (first | (with_reducible exact Ext.refl _) | (with_reducible exact ExtOf.ext _) | (with_reducible refine Ext.trans ?_ (ExtOf.ext _)) | (with_reducible refine Ext.alloc ?_ _) | (with_reducible refine Ext.drew ?_) | (with_reducible refine Ext.setCell ?_ ?_ _) | (with_reducible refine Ext.setRow ?_ ?_ _) | (with_reducible exact HX.out) | (with_reducible refine Ext.trans ?_ HX.out) | (with_reducible refine Ext.below ?_ (Nat.le_refl _) _) | omega | (simp; done) | (simp; omega))⟩
  case round =>
    obtain ⟨k, hk, rfl, hE, hx⟩ := hrel
    have HX := Lib.hid hx
    have HXW : Hid (Ext w wr) := Lib.hid (HX1.out.trans hx)
    have hszx := HX.out.size
    have hsz1 := HX1.out.size
    have obE := hE.old
    have hBL := HB0.out.ext hx
    have obL := hBL.old
    clear hx hB1 ob1
    by_cases hk0 : k = 0
    · subst hk0
      have e0 : ((0 : Nat) : Int) - 1 = -1 := rfl
      rw [e0]
      rename World => W2
      have HT := Lib.hid hE
      have HX2 := HX
      have HXW2 := HXW
      have hsz2 := HXW2.out.size
      clear hE obE HXW
      go_wp2_with fail
      clear hBL obL
      go_loopw [10, 11] (fun v10 v wr => ∃ (r : List Sp) (p : Nat), p ≤ L.n ∧ r.length ≤ p ∧ v = .int .i64 (p : Int) ∧ bestPs L = r ++ bestR L (p : Int) ∧ Own encSp 2 59 W2.heap.size wr v10 r ∧ Ext W2 wr) (fun _ v _ => L.n + 1 - (intOf v).toNat)
      case atStart => exact ⟨[], 0, by omega, by simp, rfl, by rw [List.nil_append]; exact (bestR_zero L).symm, Own.nil _, Ext.refl _⟩
      case round =>
        obtain ⟨r, p, hp, hr1, rfl, hrest, ho, hx⟩ := hrel
        clear HX
        have HX := Lib.hid hx
        have HXW : Hid (Ext w wr) := Lib.hid (HXW2.out.trans hx)
        have HR0 := Lib.hid hrest
        have HO := Lib.hid ho
        have hszr := hx.size
        have hB := HB0.out.ext (HX2.out.trans hx)
        have ob := hB.old
        have hT : Tbl wr W1.heap.size (tabF (fun q => stpE (L.E q)) N1 0) := Block.ext HT.out hx
        have ot := hT.old
        have hpN : p < N1 := by omega
        have hE0 : wr.cell? ⟨W1.heap.size, 0, none⟩ = some (.int .i64 (L.E 0).2) := by
          rw [Block.cell (h := hT)]
          have h3 := tbl_val1 (tabF (fun q => stpE (L.E q)) N1 0) 0 (by rw [tabF_len]; omega)
          rw [tabF_get _ _ (by omega)] at h3
          rw [List.getElem?_toArray, h3, stpE_val]
        have hSp : (tabF (fun q => stpE (L.E q)) N1 0)[p]? = some (stpE (L.E p)) := by
          rw [List.getElem?_eq_getElem (by rw [tabF_len]; exact hpN), tabF_get _ _ (by omega)]
        have r0 := tbl_rangeS hT hSp
        clear hx hrest ho hT hSp
        obtain ⟨q7, c7, rfl⟩ := Own.form2 HO.out
        rcases hc : L.E p with ⟨o, v⟩
        rw [hc] at r0
        rcases o with _ | ⟨i, a⟩
        · replace r0 : wr.rangeAt W1.heap.size (p * 3 + 1) [.int .i64 (-1), .int .i64 0] := r0
          have c0 : wr.cell? ⟨W1.heap.size, p * 3 + 1, none⟩ = some (.int .i64 (-1)) := r0 0 _ rfl
          have HR : Hid (bestPs L = r) := Lib.hid (by rw [HR0.out, bestR_none hG hp (by rw [hc]), List.append_nil])
          have HO2 := HO.out
          clear hc
          go_wp2_with fail
          refine wp_region_ext (by kernel_rfl) (by kernel_rfl) ?_
          repeat (first | go_big_quiet_skip | go_big_quiet_step (fail))
          refine wpQuiet_nil ?_
          intro _ hw'
          obtain ⟨nq, hw''⟩ := hw'
          subst hw''
          go_wp2_with fail
          exact bodyPost_ret (v := .tuple #[.slice q7 r.length c7, .int .i64 (L.E 0).2, .int .i64 0]) (by simp [results, Tryd.results28, go_sem]) rfl ⟨_, rfl, by rw [HR.out]; exact Own.lower (Own.of_ext HO2 nq) hsz2, by exact ExtOf.of (by repeat' (first | (with_reducible exact Ext.refl _) | (with_reducible exact HXW.out) | (with_reducible refine Ext.trans ?_ (ExtOf.ext _)) | (with_reducible refine Ext.alloc ?_ _) | (with_reducible refine Ext.drew ?_) | (with_reducible refine Ext.setCell ?_ ?_ _) | (with_reducible refine Ext.setRow ?_ ?_ _) | omega | (simp; omega)))⟩
        · replace r0 : wr.rangeAt W1.heap.size (p * 3 + 1) [.int .i64 (i : Int), .int .i64 (a : Int)] := r0
          have c0 : wr.cell? ⟨W1.heap.size, p * 3 + 1, none⟩ = some (.int .i64 (i : Int)) := r0 0 _ rfl
          have hsome : (L.E p).1 = some (i, a) := by rw [hc]
          have hR1 := bestR_some hG hp hsome
          obtain ⟨hm1, hm2, hm3⟩ := bestL_some hG hp hsome
          obtain ⟨m1, m2, m3, m4⟩ := (mem_cands hp).1 hm1
          have hmN : i < N := by rw [HN.out]; exact m2
          have hls : i < (L.sizes.map fun s : Nat => (s : Int)).length := by rw [List.length_map]; exact m2
          obtain ⟨sz, hsz⟩ : ∃ s, s = L.size i := ⟨_, rfl⟩
          rw [← hsz] at m3 hR1
          have hszx : (L.sizes.map fun s : Nat => (s : Int))[i] = (sz : Int) := by
            rw [List.getElem_map, hsz]; unfold Ln.size; rw [List.getElem?_eq_getElem m2]; rfl
          have hpos : 0 < sz := by rw [hsz]; exact hG.size_pos m2
          have hpa : p ≤ a := by simp only at m1; omega
          have HRB := Lib.hid hR1
          clear hm1 hm2 hm3 hsome hc m1 m4 hR1 hsz m2
          simp only at m3
          go_wp2_with (first | ((with_reducible apply wl_store' lwPiece); (· (first | exact wanted_none rfl | exact wanted_some rfl rfl rfl)); (· rfl); (· rfl); (· infer_instance); (· rfl); (· rfl); (· (simp [Value.oneCell'])); try simp only [setRow_alloc, setRow_new, setRow_new1, setRow_new2, setRow_new11, setRow_new111]) | ((with_reducible apply wl_load' lwPiece); (· (first | exact wanted_none rfl | exact wanted_some rfl rfl rfl)); (· rfl); (· infer_instance); (· rfl)) | ((with_reducible apply wl_loadM midPiece r0); (· rfl); (· (first | exact wanted_none rfl | exact wanted_some rfl rfl rfl)); (· rfl)) | (at_builtin; refine wl_append1g (enc := encSp) (k := 2) (E := 59) (base := W2.heap.size) (l := r) (y := ((i : Int), (a : Int))) Tryd.underlying46 hiP hP0 hP1 hP2 rfl (by decide) encSp_len encSp_one rfl rfl ((HO.out.alloc _).alloc _) inferInstance rfl (by unfold maxLen; omega) (by omega) (by simp; omega) ?_; intro v7 n7 ho7 hk7))
          have hB9 : Block n7.val wr.heap.size #[.int .i64 (i : Int), .int .i64 (a : Int)] := Kept.block hk7 inferInstance (Own.block_lt HO.out (Nat.le_refl _))
          have HX7 : Hid (Ext W2 n7.val) := Lib.hid (Ext.below (by repeat' (first | (with_reducible exact HX.out) | (with_reducible refine Ext.trans ?_ (ExtOf.ext _)) | (with_reducible refine Ext.alloc ?_ _) | (with_reducible refine Ext.drew ?_) | (with_reducible refine Ext.setRow ?_ ?_ _) | omega | (simp; omega))) (Nat.le_refl _) n7)
          generalize n7.val = W7 at hB9 HX7 ho7 hk7 ⊢
          clear n7 hk7 hB ob ot hE0 r0 c0
          have HXW7 : Hid (Ext w W7) := Lib.hid (HXW2.out.trans HX7.out)
          have hB := HB0.out.ext (HX2.out.trans HX7.out)
          have ob := hB.old
          have ob9 := hB9.old
          have hT : Tbl W7 W1.heap.size (tabF (fun q => stpE (L.E q)) N1 0) := Block.ext HT.out HX7.out
          have ot := hT.old
          have hE0 : W7.cell? ⟨W1.heap.size, 0, none⟩ = some (.int .i64 (L.E 0).2) := by
            rw [Block.cell (h := hT)]
            have h3 := tbl_val1 (tabF (fun q => stpE (L.E q)) N1 0) 0 (by rw [tabF_len]; omega)
            rw [tabF_get _ _ (by omega)] at h3
            rw [List.getElem?_toArray, h3, stpE_val]
          clear hT
          obtain ⟨bs, os, hbs, obs, c1⟩ := int_elem (SliceOf.ext HS.out HXW7.out) hls hszx
          subst hbs
          have HO7 := Lib.hid ho7
          have hlr : (r ++ [((i : Int), (a : Int))]).length = r.length + 1 := by simp
          obtain ⟨q8, c8, rfl⟩ := Own.form2 ho7
          clear ho7 hls hszx
          refine wp_region_ext (by kernel_rfl) (by kernel_rfl) ?_
          repeat (first | go_big_quiet_skip | go_big_quiet_step (fail))
          refine wpQuiet_nil ?_
          intro _ hw'
          obtain ⟨nq0, hw''⟩ := hw'
          subst hw''
          by_cases t3 : a + sz = L.n
          · have t3' : (((a : Int) + (sz : Int)) == (L.n : Int)) = true := beq_iff_eq.2 (by omega)
            have HR : Hid (bestPs L = r ++ [((i : Int), (a : Int))]) := Lib.hid (by rw [HR0.out, HRB.out, t3, behind_end, bestR_neg]; rfl)
            have HO2 := Own.of_ext HO7.out nq0
            clear t3
            go_wp2_with fail
            refine wp_region_ext (by kernel_rfl) (by kernel_rfl) ?_
            repeat (first | go_big_quiet_skip | go_big_quiet_step (fail))
            refine wpQuiet_nil ?_
            intro _ hw'
            obtain ⟨nq, hw''⟩ := hw'
            subst hw''
            go_wp2_with fail
            exact bodyPost_ret (v := .tuple #[.slice q8 (r ++ [((i : Int), (a : Int))]).length c8, .int .i64 (L.E 0).2, .int .i64 0]) (by simp [results, Tryd.results28, go_sem]) rfl ⟨_, rfl, by rw [HR.out]; exact Own.lower (Own.of_ext HO2 nq) hsz2, by exact ExtOf.of (by repeat' (first | (with_reducible exact HXW7.out) | (with_reducible refine Ext.trans ?_ (ExtOf.ext _)) | (with_reducible refine Ext.drew ?_)))⟩
          · have t3' : (((a : Int) + (sz : Int)) == (L.n : Int)) = false := beq_eq_false_iff_ne.2 (by omega)
            obtain ⟨nx, hnx⟩ : ∃ q, q = L.next (a + sz) := ⟨_, rfl⟩
            have hnx2 : a + sz ≤ nx ∧ nx ≤ L.n := by rw [hnx]; unfold Ln.next; omega
            have hmin2 : (if (L.n : Int) < (a : Int) + (sz : Int) + (L.k : Int) then (L.n : Int) else (a : Int) + (sz : Int) + (L.k : Int)) = (nx : Int) := by rw [hnx]; unfold Ln.next; split <;> omega
            have HBN : Hid (L.behind ((a + sz : Nat) : Int) = (nx : Int)) := Lib.hid (by rw [hnx]; exact behind_next L (by omega))
            clear t3 hnx
            go_wp2_with fail
            go_roundw
            case rel => exact ⟨r ++ [((i : Int), (a : Int))], nx, by omega, by omega, by first | rfl | exact congrArg _ hmin2 | go_num, by rw [HR0.out, HRB.out, HBN.out]; simp [TrimM.pc], Own.of_ext HO7.out nq0, by repeat' (first | (with_reducible exact HX7.out) | (with_reducible refine Ext.trans ?_ (ExtOf.ext _)) | (with_reducible refine Ext.drew ?_))⟩
            case measure => simp [intOf]; omega
    · obtain ⟨p, rfl⟩ : ∃ p, k = p + 1 := ⟨k - 1, by omega⟩
      have e1 : ((p + 1 : Nat) : Int) - 1 = (p : Int) := by omega
      rw [e1]
      have hpn : p ≤ L.n := by omega
      have hpN : p < N1 := by omega
      have HFR : Hid (∀ W, Ext wr W → Calls Tryd.prog 49 #[.agg #[.int .i64 (L.n : Int), .int .i64 (L.k : Int), .int .i64 1, .slice ps N cs, .slice pg N cg, .slice pc L.n cc, .slice pd L.n cd], .int .i64 (p : Int), .slice (some ⟨gc, 0, none⟩) N1 kc, .slice (some ⟨gd, 0, none⟩) N1 kd, .slice (some ⟨W1.heap.size, 0, none⟩) N1 N1] W fun e w' => e = .returned (.agg #[.int .i64 (stpE (L.E p)).1, .int .i64 (stpE (L.E p)).2.1, .int .i64 (stpE (L.E p)).2.2]) ∧ ∃ n : ExtOf W, w' = n.val) := Lib.hid (fun W hxw => by
        have hx2 := HX.out.trans hxw
        have h9 := from_any L HF.out _ (EV L) p gc kc gd kd W1.heap.size N1 W hpn HN1.out (LineS.ext HL.out (HX1.out.trans hx2)) (fun q hq => hx2.cell (HCU.out q hq)) (fun q hq => hx2.cell (HDU.out q hq)) (fun q h1 h2 => hxw.cell (by
          rw [Block.cell (h := hE)]
          have h3 := tbl_val1 (tabF (fun q => stpE (L.E q)) N1 (p + 1)) q (by rw [tabF_len]; omega)
          rw [tabF_get _ _ (by omega)] at h3
          rw [List.getElem?_toArray, h3, stpE_val]
          unfold EV
          rw [if_pos h2])) (EV_bound HF.out hG)
        have h10 : L.bestAt (EV L) p = L.E p := by
          rw [E_eq hG hpn]
          exact bestAt_congr hG hpn fun q h1 h2 => by unfold EV; rw [if_pos h2]
        rw [h10] at h9
        exact h9)
      have hlE := tabF_len (fun q => stpE (L.E q)) N1 (p + 1)
      go_wp2_with (first | ((with_reducible apply wl_load' lwLine); (· (first | exact wanted_none rfl | exact wanted_some rfl rfl rfl)); (· rfl); (· infer_instance); (· rfl)) | (go_at_call 49; with_reducible refine Calls.mono (HFR.out _ (by repeat' (first | (with_reducible exact Ext.refl _) | (with_reducible exact ExtOf.ext _) | (with_reducible refine Ext.trans ?_ (ExtOf.ext _)) | (with_reducible refine Ext.alloc ?_ _) | (with_reducible refine Ext.drew ?_) | (with_reducible refine Ext.setRow ?_ ?_ _) | omega | (simp; done) | (simp; omega)))) ?_; rintro e w' ⟨rfl, nb, rfl⟩) | ((with_reducible apply wl_storeT (g := W1.heap.size) (p := p) (by kernel_rfl)); (· (first | exact wanted_none rfl | exact wanted_some rfl rfl rfl)); (· rfl); (· rfl); (· exact Block.ext hE (by repeat' (first | (with_reducible exact Ext.refl _) | (with_reducible exact ExtOf.ext _) | (with_reducible refine Ext.trans ?_ (ExtOf.ext _)) | (with_reducible refine Ext.alloc ?_ _) | (with_reducible refine Ext.drew ?_) | (with_reducible refine Ext.setRow ?_ ?_ _) | omega | (simp; done) | (simp; omega)))); (· rw [hlE]; exact hpN)))
      go_roundw
      case rel =>
        refine ⟨p, by omega, rfl, ?_, Ext.setRow (HX.out.trans nb.ext) (Nat.le_refl _) _⟩
        rw [← tabF_set _ hpN]
        have := Block.ext hE nb.ext
        infer_instance
      case measure => first | (simp [intOf]; done) | (simp [intOf]; omega)
end Go.Proofs.YtdalbfanfbeckaaDoor
end
/-
  Chapter 26: the reference's Best of a board; the two best answers are the same.
-/
section
set_option linter.unusedVariables false
set_option linter.unusedSimpArgs false
namespace Go.Proofs.YtdalbfanfbeckaaDoor
open Go.RowKit TrimM

attribute [local go_sem] ExtOf.cell ExtOf.frozen ExtS.cell ExtS.frozen Block.cell Block.frozen ExtB.cell ExtB.frozen alloc_cell alloc_frozen
set_option maxHeartbeats 1600000 in
set_option maxRecDepth 20000 in
theorem rbest26_any (x : Bd) (dv : Value) (ds : List Df) (p : Pdt) (lv pv : Value) (step kerf fine : Int) (w : World) (hd : DfS w dv ds) (hl : IntS w lv p.ls) (hp : IntS w pv p.ps) (htab : Tab w) :
    Calls Tryd.prog 14 #[.agg (bdC x dv), .agg (pdC p lv pv), .int .i64 step, .int .i64 kerf, .int .i64 fine] w (TBestPost x ds p step kerf fine w) := by
  obtain ⟨lq, lcap, rfl, hl1, hl2, hl3⟩ := SliceOf.form hl
  obtain ⟨pq, pcap, rfl, hp1, hp2, hp3⟩ := SliceOf.form hp
  obtain ⟨q, cap, rfl, hd1, hd2, hd3⟩ := SliceOf.form hd
  have HL := Lib.hid hl
  have HP := Lib.hid hp
  have HD := Lib.hid hd
  have HTB := Lib.hid htab
  clear hl hp hd htab
  unfold maxLen at hl2 hp2 hd2
  unfold bdC pdC
  by_cases h0 : ¬ chkE x.b ds p step kerf fine = 0
  · have h1 : (chkE x.b ds p step kerf fine != 0) = true := bne_iff_ne.2 h0
    have HV : Hid (bpV x.b ds p step kerf fine = 0) := Lib.hid (if_neg h0)
    have HPP : Hid (bpP x.b ds p step kerf fine = []) := Lib.hid (if_neg h0)
    have H0 := Lib.hid h0
    clear h0
    go_enter Tryd.func14, Tryd.ntmps14
    go_wp2_with (first | ((with_reducible apply wl_load' lwBd); (· (first | exact wanted_none rfl | exact wanted_some rfl rfl rfl)); (· rfl); (· infer_instance); (· rfl)) | ((with_reducible apply wl_load' lwPd); (· (first | exact wanted_none rfl | exact wanted_some rfl rfl rfl)); (· rfl); (· infer_instance); (· rfl)) | ((go_at_call 11; refine (rline_any x _ ds p _ _ step kerf fine _ (SliceOf.ext HD.out (by repeat' (first | (with_reducible exact Ext.refl _) | (with_reducible exact ExtOf.ext _) | (with_reducible refine Ext.trans ?_ (ExtOf.ext _)) | (with_reducible refine Ext.alloc ?_ _) | (with_reducible refine Ext.drew ?_) | (with_reducible refine Ext.setCell ?_ ?_ _) | (with_reducible refine Ext.setRow ?_ ?_ _) | (with_reducible exact HX.out) | (with_reducible refine Ext.trans ?_ HX.out) | (with_reducible refine Ext.below ?_ (Nat.le_refl _) _) | omega | (simp; done) | (simp; omega)))) (SliceOf.ext HL.out (by repeat' (first | (with_reducible exact Ext.refl _) | (with_reducible exact ExtOf.ext _) | (with_reducible refine Ext.trans ?_ (ExtOf.ext _)) | (with_reducible refine Ext.alloc ?_ _) | (with_reducible refine Ext.drew ?_) | (with_reducible refine Ext.setCell ?_ ?_ _) | (with_reducible refine Ext.setRow ?_ ?_ _) | (with_reducible exact HX.out) | (with_reducible refine Ext.trans ?_ HX.out) | (with_reducible refine Ext.below ?_ (Nat.le_refl _) _) | omega | (simp; done) | (simp; omega)))) (SliceOf.ext HP.out (by repeat' (first | (with_reducible exact Ext.refl _) | (with_reducible exact ExtOf.ext _) | (with_reducible refine Ext.trans ?_ (ExtOf.ext _)) | (with_reducible refine Ext.alloc ?_ _) | (with_reducible refine Ext.drew ?_) | (with_reducible refine Ext.setCell ?_ ?_ _) | (with_reducible refine Ext.setRow ?_ ?_ _) | (with_reducible exact HX.out) | (with_reducible refine Ext.trans ?_ HX.out) | (with_reducible refine Ext.below ?_ (Nat.le_refl _) _) | omega | (simp; done) | (simp; omega))))).mono ?_; rintro e w' ⟨lv, rfl, hl0, hl1, nl, rfl⟩); (obtain rfl := hl0 H0.out); unfold zLine) | ((with_reducible apply wl_store' lwLine); (· (first | exact wanted_none rfl | exact wanted_some rfl rfl rfl)); (· rfl); (· rfl); (· infer_instance); (· rfl); (· rfl); (· (simp [Value.oneCell'])); try simp only [setRow_alloc, setRow_new, setRow_new1, setRow_new2, setRow_new11, setRow_new111]))
    exact bodyPost_ret (v := .tuple #[.slice none 0 0, .int .i64 0, .int .i64 (chkE x.b ds p step kerf fine)]) (by simp [results, Tryd.results14, go_sem]) rfl ⟨_, by rw [HV.out], by rw [HPP.out]; exact Own.nil _, by exact ExtOf.of (by repeat' (first | (with_reducible exact Ext.refl _) | (with_reducible exact ExtOf.ext _) | (with_reducible refine Ext.trans ?_ (ExtOf.ext _)) | (with_reducible refine Ext.alloc ?_ _) | (with_reducible refine Ext.drew ?_) | (with_reducible refine Ext.setCell ?_ ?_ _) | (with_reducible refine Ext.setRow ?_ ?_ _) | (with_reducible exact HX.out) | (with_reducible refine Ext.trans ?_ HX.out) | (with_reducible refine Ext.below ?_ (Nat.le_refl _) _) | omega | (simp; done) | (simp; omega)))⟩
  · replace h0 := Classical.not_not.1 h0
    have h1 : (chkE x.b ds p step kerf fine != 0) = false := bne_eq_false_iff_eq.2 h0
    have HV : Hid (bpV x.b ds p step kerf fine = ((TrimM.line x.b ds p step kerf fine).E 0).2) := Lib.hid (if_pos h0)
    have HPP : Hid (bpP x.b ds p step kerf fine = bestPs (TrimM.line x.b ds p step kerf fine)) := Lib.hid (if_pos h0)
    have HFI := Lib.hid (line_fine (chkE_zero h0))
    have H0 := Lib.hid h0
    clear h0
    go_enter Tryd.func14, Tryd.ntmps14
    go_wp2_with (first | ((with_reducible apply wl_load' lwBd); (· (first | exact wanted_none rfl | exact wanted_some rfl rfl rfl)); (· rfl); (· infer_instance); (· rfl)) | ((with_reducible apply wl_load' lwPd); (· (first | exact wanted_none rfl | exact wanted_some rfl rfl rfl)); (· rfl); (· infer_instance); (· rfl)) | ((go_at_call 11; refine (rline_any x _ ds p _ _ step kerf fine _ (SliceOf.ext HD.out (by repeat' (first | (with_reducible exact Ext.refl _) | (with_reducible exact ExtOf.ext _) | (with_reducible refine Ext.trans ?_ (ExtOf.ext _)) | (with_reducible refine Ext.alloc ?_ _) | (with_reducible refine Ext.drew ?_) | (with_reducible refine Ext.setCell ?_ ?_ _) | (with_reducible refine Ext.setRow ?_ ?_ _) | (with_reducible exact HX.out) | (with_reducible refine Ext.trans ?_ HX.out) | (with_reducible refine Ext.below ?_ (Nat.le_refl _) _) | omega | (simp; done) | (simp; omega)))) (SliceOf.ext HL.out (by repeat' (first | (with_reducible exact Ext.refl _) | (with_reducible exact ExtOf.ext _) | (with_reducible refine Ext.trans ?_ (ExtOf.ext _)) | (with_reducible refine Ext.alloc ?_ _) | (with_reducible refine Ext.drew ?_) | (with_reducible refine Ext.setCell ?_ ?_ _) | (with_reducible refine Ext.setRow ?_ ?_ _) | (with_reducible exact HX.out) | (with_reducible refine Ext.trans ?_ HX.out) | (with_reducible refine Ext.below ?_ (Nat.le_refl _) _) | omega | (simp; done) | (simp; omega)))) (SliceOf.ext HP.out (by repeat' (first | (with_reducible exact Ext.refl _) | (with_reducible exact ExtOf.ext _) | (with_reducible refine Ext.trans ?_ (ExtOf.ext _)) | (with_reducible refine Ext.alloc ?_ _) | (with_reducible refine Ext.drew ?_) | (with_reducible refine Ext.setCell ?_ ?_ _) | (with_reducible refine Ext.setRow ?_ ?_ _) | (with_reducible exact HX.out) | (with_reducible refine Ext.trans ?_ HX.out) | (with_reducible refine Ext.below ?_ (Nat.le_refl _) _) | omega | (simp; done) | (simp; omega))))).mono ?_; rintro e w' ⟨lv, rfl, hl0, hl1, nl, rfl⟩); (have HLS := Lib.hid (LineW.here (hl1 H0.out))); clear hl0 hl1; (obtain ⟨ps, c0, pg, c1, pc, c2, pd, c3, hlv⟩ := LineS.form HFI.out HLS.out); subst hlv) | ((with_reducible apply wl_store' lwLine); (· (first | exact wanted_none rfl | exact wanted_some rfl rfl rfl)); (· rfl); (· rfl); (· infer_instance); (· rfl); (· rfl); (· (simp [Value.oneCell'])); try simp only [setRow_alloc, setRow_new, setRow_new1, setRow_new2, setRow_new11, setRow_new111]) | ((with_reducible apply wl_load' lwLine); (· (first | exact wanted_none rfl | exact wanted_some rfl rfl rfl)); (· rfl); (· infer_instance); (· rfl)) | (go_at_call 28; refine (rBest_any _ HFI.out _ _ (LineS.ext HLS.out (by repeat' (first | (with_reducible exact Ext.refl _) | (with_reducible exact ExtOf.ext _) | (with_reducible refine Ext.trans ?_ (ExtOf.ext _)) | (with_reducible refine Ext.alloc ?_ _) | (with_reducible refine Ext.drew ?_) | (with_reducible refine Ext.setCell ?_ ?_ _) | (with_reducible refine Ext.setRow ?_ ?_ _) | (with_reducible exact HX.out) | (with_reducible refine Ext.trans ?_ HX.out) | (with_reducible refine Ext.below ?_ (Nat.le_refl _) _) | omega | (simp; done) | (simp; omega))))).mono ?_; rintro e w' ⟨bv, rfl, hbo, nb, rfl⟩; replace hbo := Lib.hid hbo))
    exact bodyPost_ret (v := .tuple #[bv, .int .i64 ((TrimM.line x.b ds p step kerf fine).E 0).2, .int .i64 0]) (by simp [results, Tryd.results14, go_sem]) rfl ⟨_, by rw [HV.out, H0.out], by rw [HPP.out]; exact Own.lower hbo.out (by (have := nl.size); simp at this ⊢; omega), by exact ExtOf.of (by repeat' (first | (with_reducible exact Ext.refl _) | (with_reducible exact ExtOf.ext _) | (with_reducible refine Ext.trans ?_ (ExtOf.ext _)) | (with_reducible refine Ext.alloc ?_ _) | (with_reducible refine Ext.drew ?_) | (with_reducible refine Ext.setCell ?_ ?_ _) | (with_reducible refine Ext.setRow ?_ ?_ _) | (with_reducible exact HX.out) | (with_reducible refine Ext.trans ?_ HX.out) | (with_reducible refine Ext.below ?_ (Nat.le_refl _) _) | omega | (simp; done) | (simp; omega)))⟩
end Go.Proofs.YtdalbfanfbeckaaDoor
end
