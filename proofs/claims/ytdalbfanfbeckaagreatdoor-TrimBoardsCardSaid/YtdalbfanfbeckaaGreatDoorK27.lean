/-
  Chapter 26: several texts in one (R25, R26, R27).
-/
import Derived.Test.YtdalbfanfbeckaaGreatDoorR24
import Derived.Test.YtdalbfanfbeckaaGreatDoorLB
/-
  Chapter 26: the best pieces of a line.
-/
section
set_option linter.unusedVariables false
set_option linter.unusedSimpArgs false
namespace Go.Proofs.YtdalbfanfbeckaaGreatDoor
open Go.RowKit TrimM

attribute [local go_sem] ExtOf.cell ExtOf.frozen ExtS.cell ExtS.frozen Block.cell Block.frozen ExtB.cell ExtB.frozen alloc_cell alloc_frozen equal_piece equalX_piece eqGuard_piece
theorem infoPiece : (Tryz.prog.info? 55).map (fun i => (i.zero, i.size, i.bytes)) = some (some (.agg #[.int .i64 0, .int .i64 0]), 2, 16) := by kernel_rfl
theorem wl_loadPc {ops : Array Oper} {rest : List Oper} {a : Act} {x : Operand} {dst : Option Tmp} {ty T : TypeId} {pos : String} {aft : Array Edge} {gu : Option (Tmp × Bool)} {w : World} {Q : Exit → Act → World → Prop} {g p : Nat} {l : List (Int × Int × Int)} {c : Int × Int × Int}
    (L : Mid Tryz.prog T 2) (hb : Tbl w g l) (hp : l[p]? = some c) (hw : Region.wanted ⟨dst, .load T x, ty, pos, aft, gu⟩ (yielded ops a.tmps) = true) (hx : a.eval x = .pointer (some ⟨g, p * 3, none⟩))
    (hk : wpList Tryz.prog ops Q rest (a.put dst (.agg #[.int .i64 c.1, .int .i64 c.2.1])) w) : wpList Tryz.prog ops Q (⟨dst, .load T x, ty, pos, aft, gu⟩ :: rest) a w := by
  obtain ⟨h1, h2⟩ := List.getElem?_eq_some_iff.1 hp
  refine wl_loadB L hw hx hb (l := [.int .i64 c.1, .int .i64 c.2.1]) ?_ rfl hk
  rw [List.toList_toArray]
  have h3 := tbl_get l p h1
  rw [h2] at h3
  have h4 : (((tbl l).drop (p * 3)).take 3).take 2 = [.int .i64 c.1, .int .i64 c.2.1] := by rw [h3]; rfl
  rwa [List.take_take] at h4
/-- the pieces behind an edge; none if there is no edge -/
def bestR (L : Ln) (e : Int) : List Sp := if e < 0 then [] else (bestL L e.toNat).map pc
theorem bestR_neg (L : Ln) : bestR L (-1) = [] := rfl
theorem bestR_nat (L : Ln) (p : Nat) : bestR L (p : Int) = (bestL L p).map pc := by
  unfold bestR; rw [if_neg (by omega), Int.toNat_natCast]
theorem bestR_none {L : Ln} (hL : L.Good) {p : Nat} (hp : p ≤ L.n) (h : (L.E p).1 = none) : bestR L (p : Int) = [] := by
  rw [bestR_nat, bestL_none hL hp h]; rfl
theorem bestR_some {L : Ln} (hL : L.Good) {p : Nat} (hp : p ≤ L.n) {x : Nat × Nat} (h : (L.E p).1 = some x) : bestR L (p : Int) = pc x :: bestR L (L.behind ((x.2 + L.size x.1 : Nat) : Int)) := by
  obtain ⟨h1, h2, h3⟩ := bestL_some hL hp h
  obtain ⟨c1, c2, c3, c4⟩ := (mem_cands hp).1 h1
  rw [bestR_nat, h3, List.map_cons]
  by_cases he : x.2 + L.size x.1 = L.n
  · rw [if_pos he, he, behind_end, bestR_neg]; rfl
  · rw [if_neg he, behind_next L (by omega), bestR_nat]
/-- all best pieces -/
def bestPs (L : Ln) : List Sp := (bestL L 0).map pc
theorem bestR_zero (L : Ln) : bestR L 0 = bestPs L := bestR_nat L 0
/-- what is handed back: pieces and their worth -/
def BestPost (L : Ln) (w : World) (e : Ending) (w' : World) : Prop := ∃ v, e = .returned (.tuple #[v, .int .i64 (L.E 0).2, .int .i64 0]) ∧ Own encSp 2 55 w.heap.size w' v (bestPs L) ∧ ∃ n : ExtOf w, w' = n.val
def mE (n : Nat) (v : Value) : Nat := if 0 ≤ intOf v then n + 1 - (intOf v).toNat else 0
theorem mE_lt {n p : Nat} {e : Int} (hp : p ≤ n) (he : e = -1 ∨ (p : Int) < e ∧ e ≤ n) : mE n (.int .i64 e) < mE n (.int .i64 (p : Int)) := by
  show (if 0 ≤ e then n + 1 - e.toNat else 0) < (if (0 : Int) ≤ (p : Int) then n + 1 - ((p : Int)).toNat else 0)
  rw [if_pos (show (0 : Int) ≤ (p : Int) by omega)]
  by_cases h : 0 ≤ e
  · rw [if_pos h]; omega
  · rw [if_neg h]; omega
theorem Own.form2 {α : Type} {enc : α → List Value} {k E base : Nat} {w : World} {v : Value} {r : List α} (h : Own enc k E base w v r) : ∃ q cap, v = .slice q r.length cap := by
  rcases h.2 with ⟨rfl, hn⟩ | ⟨g, cap, cur, rfl, hb, hgg, rest⟩
  · exact ⟨none, 0, by rw [hn]⟩
  · exact ⟨_, cap, rfl⟩
set_option maxHeartbeats 3200000 in
set_option maxRecDepth 20000 in
theorem cBest_any (L : Ln) (hL : L.Fine) (cs : Array Value) (w : World) (h : LineS w L cs) (htab : Tab w) : Calls Tryz.prog 52 #[.agg cs] w (BestPost L w) := by
  have H0 := Lib.hid h
  have HCK : Hid (∀ W, Ext w W → Calls Tryz.prog 31 #[.agg cs] W fun e w' => e = .returned (.int .i64 0) ∧ ∃ n : ExtOf W, w' = n.val) := Lib.hid (fun W hx => cCheck_ok L hL cs W (LineS.ext h hx))
  obtain ⟨N1, hN1⟩ : ∃ N, N = L.n + 1 := ⟨_, rfl⟩
  have HCH : Hid (∀ W, Ext w W → Calls Tryz.prog 73 #[.agg cs] W fun e w' => ∃ g, e = .returned (.slice (some ⟨g, 0, none⟩) N1 N1) ∧ W.heap.size ≤ g ∧ Tbl w' g (tabF (fun q => choE (L.E q)) N1 0) ∧ ∃ m : ExtOf W, w' = m.val) := Lib.hid (fun W hx => choices_any L hL cs N1 W hN1 (LineS.ext h hx) (htab.ext hx))
  obtain ⟨vs, vg, vc, vd, rfl, h1, h2, h3, h4⟩ := h
  obtain ⟨N, hN⟩ : ∃ N, N = L.sizes.length := ⟨_, rfl⟩
  obtain ⟨ps, cs, rfl, a1, a2, a3⟩ := int_form h1 (n := N) (by rw [List.length_map, hN])
  obtain ⟨pg, cg, rfl, b1, b2, b3⟩ := grid_form h2 (n := N) (by rw [hL.rows, hN])
  obtain ⟨pc, cc, rfl, d1, d2, d3⟩ := int_form h3 (n := L.n) (by rw [List.length_replicate])
  obtain ⟨pd, cd, rfl, e1, e2, e3⟩ := int_form h4 (n := L.n) (by rw [List.length_replicate])
  have HS := Lib.hid h1
  have HG := Lib.hid h2
  have HC := Lib.hid h3
  have HD := Lib.hid h4
  have HF := Lib.hid hL
  have HN := Lib.hid hN
  have hn := hL.n
  have hk := hL.k
  have hs8 : N ≤ 8 := by rw [hN]; exact hL.sizes
  clear h1 h2 h3 h4 hL hN
  unfold maxLen at a2 b2 d2 e2
  have HTB := Lib.hid htab
  have HN1 := Lib.hid hN1
  have hN2 : N1 ≤ 2001 := by omega
  have hN3 : L.n < N1 := by omega
  have hN0 : 0 < N1 := by omega
  have hkL : L.k ≤ 20 := HF.out.k
  have hG : L.Good := Ln.Fine.good HF.out
  clear htab hN1
  obtain ⟨iP, hiP, hP0, hP1, hP2⟩ := info_parts infoPiece
  go_enter Tryz.func52, Tryz.ntmps52
  go_wp2_with (first | ((with_reducible apply wl_load' lwLine); (· (first | exact wanted_none rfl | exact wanted_some rfl rfl rfl)); (· rfl); (· infer_instance); (· rfl)) | (go_at_call 31; with_reducible refine Calls.mono (HCK.out _ (by repeat' (first | (with_reducible exact Ext.refl _) | (with_reducible exact ExtOf.ext _) | (with_reducible refine Ext.trans ?_ (ExtOf.ext _)) | (with_reducible refine Ext.alloc ?_ _) | (with_reducible refine Ext.drew ?_) | (with_reducible refine Ext.setCell ?_ ?_ _) | (with_reducible refine Ext.setRow ?_ ?_ _) | (with_reducible exact HX.out) | (with_reducible refine Ext.trans ?_ HX.out) | (with_reducible refine Ext.below ?_ (Nat.le_refl _) _) | omega | (simp; done) | (simp; omega)))) ?_; rintro e w' ⟨rfl, nk, rfl⟩) | (go_at_call 73; with_reducible refine Calls.mono (HCH.out _ (by repeat' (first | (with_reducible exact Ext.refl _) | (with_reducible exact ExtOf.ext _) | (with_reducible refine Ext.trans ?_ (ExtOf.ext _)) | (with_reducible refine Ext.alloc ?_ _) | (with_reducible refine Ext.drew ?_) | (with_reducible refine Ext.setCell ?_ ?_ _) | (with_reducible refine Ext.setRow ?_ ?_ _) | (with_reducible exact HX.out) | (with_reducible refine Ext.trans ?_ HX.out) | (with_reducible refine Ext.below ?_ (Nat.le_refl _) _) | omega | (simp; done) | (simp; omega)))) ?_; rintro e w' ⟨g, rfl, hg, hT, nb, rfl⟩))
  obtain ⟨W1, hW1⟩ : ∃ W, W = nb.val := ⟨_, rfl⟩
  have hB0 : Block W1 w.heap.size #[.int .i64 (L.n : Int), .int .i64 (L.k : Int), .int .i64 1, .slice ps N cs, .slice pg N cg, .slice pc L.n cc, .slice pd L.n cd] := by rw [hW1]; infer_instance
  have HX1 : Hid (Ext w W1) := Lib.hid (by rw [hW1]; repeat' (first | (with_reducible exact Ext.refl _) | (with_reducible exact ExtOf.ext _) | (with_reducible refine Ext.trans ?_ (ExtOf.ext _)) | (with_reducible refine Ext.alloc ?_ _) | (with_reducible refine Ext.drew ?_) | (with_reducible refine Ext.setCell ?_ ?_ _) | (with_reducible refine Ext.setRow ?_ ?_ _) | (with_reducible exact HX.out) | (with_reducible refine Ext.trans ?_ HX.out) | (with_reducible refine Ext.below ?_ (Nat.le_refl _) _) | omega | (simp; done) | (simp; omega)))
  rw [← hW1] at hT ⊢
  clear hW1 nb
  have HB0 := Lib.hid hB0
  have HT := Lib.hid hT
  clear hB0 hT
  go_loopw [7, 8] (fun v7 v wr => ∃ (r : List Sp) (e : Int), (e = -1 ∨ 0 ≤ e ∧ e ≤ (L.n : Int)) ∧ r.length ≤ L.n ∧ (0 ≤ e → (r.length : Int) ≤ e) ∧ v = .int .i64 e ∧ bestPs L = r ++ bestR L e ∧ Own encSp 2 55 W1.heap.size wr v7 r ∧ Ext W1 wr) (fun _ v _ => mE L.n v)
  case atStart => exact ⟨[], 0, by omega, by simp, by simp, rfl, by rw [List.nil_append]; exact (bestR_zero L).symm, Own.nil _, Ext.refl _⟩
  case round =>
    obtain ⟨r, e, he, hr1, hr2, rfl, hrest, ho, hx⟩ := hrel
    have HX := Lib.hid hx
    have HXW : Hid (Ext w wr) := Lib.hid (HX1.out.trans hx)
    have HR0 := Lib.hid hrest
    have HO := Lib.hid ho
    have hsz := hx.size
    have hsz1 := HX1.out.size
    have hB := HB0.out.ext hx
    have hT : Tbl wr g (tabF (fun q => choE (L.E q)) N1 0) := Block.ext HT.out hx
    have ob := hB.old
    have ot := hT.old
    have hE0 : wr.cell? ⟨g, 2, none⟩ = some (.int .i64 (L.E 0).2) := by
      rw [Block.cell (h := hT)]
      have h3 := tbl_val (tabF (fun q => choE (L.E q)) N1 0) 0 (by rw [tabF_len]; omega)
      rw [tabF_get _ _ (by omega)] at h3
      rw [List.getElem?_toArray, h3, choE_val]
    clear hx hrest ho
    obtain ⟨q7, c7, rfl⟩ := Own.form2 HO.out
    by_cases hneg : e < 0
    · obtain rfl : e = -1 := by omega
      have HR : Hid (bestPs L = r) := Lib.hid (by rw [HR0.out, bestR_neg, List.append_nil])
      have HO2 := HO.out
      have t0 : decide ((0 : Int) ≤ -1) = false := rfl
      clear hT
      go_wp2_with fail
      refine wp_region_ext (by kernel_rfl) (by kernel_rfl) ?_
      repeat (first | go_big_quiet_skip | go_big_quiet_step (fail))
      refine wpQuiet_nil ?_
      intro _ hw'
      obtain ⟨nq, hw''⟩ := hw'
      subst hw''
      go_wp2_with fail
      exact bodyPost_ret (v := .tuple #[.slice q7 r.length c7, .int .i64 (L.E 0).2, .int .i64 0]) (by simp [results, Tryz.results52, go_sem]) rfl ⟨_, rfl, by rw [HR.out]; exact Own.lower (Own.of_ext HO2 nq) hsz1, by exact ExtOf.of (by repeat' (first | (with_reducible exact Ext.refl _) | (with_reducible exact HXW.out) | (with_reducible refine Ext.trans ?_ (ExtOf.ext _)) | (with_reducible refine Ext.alloc ?_ _) | (with_reducible refine Ext.drew ?_) | (with_reducible refine Ext.setCell ?_ ?_ _) | (with_reducible refine Ext.setRow ?_ ?_ _) | omega | (simp; omega)))⟩
    · obtain ⟨p, rfl⟩ : ∃ p : Nat, e = (p : Int) := ⟨e.toNat, by omega⟩
      have hp : p ≤ L.n := by omega
      have hpN : p < N1 := by omega
      have hEp : (tabF (fun q => choE (L.E q)) N1 0)[p]? = some (choE (L.E p)) := by
        rw [List.getElem?_eq_getElem (by rw [tabF_len]; exact hpN), tabF_get _ _ (by omega)]
      have t0 : decide (0 ≤ (p : Int)) = true := decide_eq_true (by omega)
      rcases hc : L.E p with ⟨o, v⟩
      rcases o with _ | ⟨i, a⟩
      · rw [hc] at hEp
        replace hEp : (tabF (fun q => choE (L.E q)) N1 0)[p]? = some (-1, -1, v) := hEp
        have HR : Hid (bestPs L = r) := Lib.hid (by rw [HR0.out, bestR_none hG hp (by rw [hc]), List.append_nil])
        clear hc
        have HO2 := (HO.out.alloc (.cells #[.int .i64 (-1), .int .i64 (-1)] 55))
        go_wp2_with (first | ((with_reducible apply wl_store' lwPiece); (· (first | exact wanted_none rfl | exact wanted_some rfl rfl rfl)); (· rfl); (· rfl); (· infer_instance); (· rfl); (· rfl); (· (simp [Value.oneCell'])); try simp only [setRow_alloc, setRow_new, setRow_new1, setRow_new2, setRow_new11, setRow_new111]) | ((with_reducible apply wl_load' lwLine); (· (first | exact wanted_none rfl | exact wanted_some rfl rfl rfl)); (· rfl); (· infer_instance); (· rfl)) | ((with_reducible apply wl_load' lwPiece); (· (first | exact wanted_none rfl | exact wanted_some rfl rfl rfl)); (· rfl); (· infer_instance); (· rfl)) | ((with_reducible refine wl_loadPc (g := g) (p := p) midPiece ?_ hEp ?_ ?_ ?_); (· infer_instance); (· (first | exact wanted_none rfl | exact wanted_some rfl rfl rfl)); (· rfl)) | ((with_reducible apply wl_loadM midPiece); (· exact Tab.range HTB.out (by repeat' (first | (with_reducible exact Ext.refl _) | (with_reducible exact HXW.out) | (with_reducible refine Ext.trans ?_ (ExtOf.ext _)) | (with_reducible refine Ext.alloc ?_ _) | (with_reducible refine Ext.drew ?_) | (with_reducible refine Ext.setCell ?_ ?_ _) | (with_reducible refine Ext.setRow ?_ ?_ _) | omega | (simp; omega)))); (· rfl); (· (first | exact wanted_none rfl | exact wanted_some rfl rfl rfl)); (· rfl)))
        clear hT
        refine wp_region_ext (by kernel_rfl) (by kernel_rfl) ?_
        repeat (first | go_big_quiet_skip | go_big_quiet_step (fail))
        refine wpQuiet_nil ?_
        intro _ hw'
        obtain ⟨nq, hw''⟩ := hw'
        subst hw''
        go_wp2_with fail
        exact bodyPost_ret (v := .tuple #[.slice q7 r.length c7, .int .i64 (L.E 0).2, .int .i64 0]) (by simp [results, Tryz.results52, go_sem]) rfl ⟨_, rfl, by rw [HR.out]; exact Own.lower (Own.of_ext HO2 nq) hsz1, by exact ExtOf.of (by repeat' (first | (with_reducible exact Ext.refl _) | (with_reducible exact HXW.out) | (with_reducible refine Ext.trans ?_ (ExtOf.ext _)) | (with_reducible refine Ext.alloc ?_ _) | (with_reducible refine Ext.drew ?_) | (with_reducible refine Ext.setCell ?_ ?_ _) | (with_reducible refine Ext.setRow ?_ ?_ _) | omega | (simp; omega)))⟩
      · rw [hc] at hEp
        replace hEp : (tabF (fun q => choE (L.E q)) N1 0)[p]? = some ((i : Int), (a : Int), v) := hEp
        have e1 : ((i : Int) == -1) = false := beq_eq_false_iff_ne.2 (by omega)
        have hsome : (L.E p).1 = some (i, a) := by rw [hc]
        have hR1 := bestR_some hG hp hsome
        obtain ⟨hm1, hm2, hm3⟩ := bestL_some hG hp hsome
        obtain ⟨m1, m2, m3, m4⟩ := (mem_cands hp).1 hm1
        have hmN : i < N := by rw [HN.out]; exact m2
        have hls : i < (L.sizes.map fun s : Nat => (s : Int)).length := by rw [List.length_map]; exact m2
        obtain ⟨sz, hsz⟩ : ∃ s, s = L.size i := ⟨_, rfl⟩
        rw [← hsz] at m3 hR1
        have hszx : (L.sizes.map fun s : Nat => (s : Int))[i] = (sz : Int) := by
          rw [List.getElem_map, hsz]; unfold Ln.size; rw [List.getElem?_eq_getElem m2]; rfl
        have hpos : 0 < sz := by rw [hsz]; exact hG.size_pos m2
        have HRB := Lib.hid hR1
        have hpa : p ≤ a := by simp only at m1; omega
        clear hm1 hm2 hm3 hsome hc m1 m4 hR1 hsz m2
        simp only at m3
        go_wp2_with (first | first | ((with_reducible apply wl_store' lwPiece); (· (first | exact wanted_none rfl | exact wanted_some rfl rfl rfl)); (· rfl); (· rfl); (· infer_instance); (· rfl); (· rfl); (· (simp [Value.oneCell'])); try simp only [setRow_alloc, setRow_new, setRow_new1, setRow_new2, setRow_new11, setRow_new111]) | ((with_reducible apply wl_load' lwLine); (· (first | exact wanted_none rfl | exact wanted_some rfl rfl rfl)); (· rfl); (· infer_instance); (· rfl)) | ((with_reducible apply wl_load' lwPiece); (· (first | exact wanted_none rfl | exact wanted_some rfl rfl rfl)); (· rfl); (· infer_instance); (· rfl)) | ((with_reducible refine wl_loadPc (g := g) (p := p) midPiece ?_ hEp ?_ ?_ ?_); (· infer_instance); (· (first | exact wanted_none rfl | exact wanted_some rfl rfl rfl)); (· rfl)) | ((with_reducible apply wl_loadM midPiece); (· exact Tab.range HTB.out (by repeat' (first | (with_reducible exact Ext.refl _) | (with_reducible exact HXW.out) | (with_reducible refine Ext.trans ?_ (ExtOf.ext _)) | (with_reducible refine Ext.alloc ?_ _) | (with_reducible refine Ext.drew ?_) | (with_reducible refine Ext.setCell ?_ ?_ _) | (with_reducible refine Ext.setRow ?_ ?_ _) | omega | (simp; omega)))); (· rfl); (· (first | exact wanted_none rfl | exact wanted_some rfl rfl rfl)); (· rfl)) | (at_builtin; refine wl_append1g (enc := encSp) (k := 2) (E := 55) (base := W1.heap.size) (l := r) (y := ((i : Int), (a : Int))) Tryz.underlying36 hiP hP0 hP1 hP2 rfl (by decide) encSp_len encSp_one rfl rfl ((HO.out.alloc _).alloc _) inferInstance rfl (by unfold maxLen; omega) (by omega) (by simp; omega) ?_; intro v7 n7 ho7 hk7))
        have hB9 : Block n7.val wr.heap.size #[.int .i64 (i : Int), .int .i64 (a : Int)] := Kept.block hk7 inferInstance (Own.block_lt HO.out (Nat.le_refl _))
        have HX7 : Hid (Ext W1 n7.val) := Lib.hid (Ext.below (by repeat' (first | (with_reducible exact Ext.refl _) | (with_reducible exact ExtOf.ext _) | (with_reducible refine Ext.trans ?_ (ExtOf.ext _)) | (with_reducible refine Ext.alloc ?_ _) | (with_reducible refine Ext.drew ?_) | (with_reducible refine Ext.setCell ?_ ?_ _) | (with_reducible refine Ext.setRow ?_ ?_ _) | (with_reducible exact HX.out) | (with_reducible refine Ext.trans ?_ HX.out) | (with_reducible refine Ext.below ?_ (Nat.le_refl _) _) | omega | (simp; done) | (simp; omega))) (Nat.le_refl _) n7)
        generalize n7.val = W7 at hB9 HX7 ho7 hk7 ⊢
        clear n7 hk7 hB hT ob ot hE0
        have HXW7 : Hid (Ext w W7) := Lib.hid (HX1.out.trans HX7.out)
        have hB := HB0.out.ext HX7.out
        have ob := hB.old
        have ob9 := hB9.old
        obtain ⟨bs, os, hbs, obs, c1⟩ := int_elem (SliceOf.ext HS.out HXW7.out) hls hszx
        subst hbs
        have HBH : Hid (∀ W, Calls Tryz.prog 34 #[.agg #[.int .i64 (L.n : Int), .int .i64 (L.k : Int), .int .i64 1, .slice (some ⟨bs, os, none⟩) N cs, .slice pg N cg, .slice pc L.n cc, .slice pd L.n cd], .int .i64 ((a : Int) + (sz : Int))] W fun e w' => e = .returned (.int .i64 (L.behind ((a + sz : Nat) : Int))) ∧ ∃ n : ExtOf W, w' = n.val) := Lib.hid (fun W => by
          rw [show (a : Int) + (sz : Int) = ((a + sz : Nat) : Int) by omega]
          exact behind_any L 1 _ _ _ _ _ W hn hkL (by omega))
        have hbr : L.behind ((a + sz : Nat) : Int) = -1 ∨ (a : Int) + sz ≤ L.behind ((a + sz : Nat) : Int) ∧ L.behind ((a + sz : Nat) : Int) ≤ L.n := by
          unfold Ln.behind; split <;> omega
        obtain ⟨eb, heb⟩ : ∃ e, e = L.behind ((a + sz : Nat) : Int) := ⟨_, rfl⟩
        rw [← heb] at HBH hbr HRB
        have HO7 := Lib.hid ho7
        clear heb ho7 hls hszx
        refine wp_region_ext (by kernel_rfl) (by kernel_rfl) ?_
        repeat (first | go_big_quiet_skip | ((with_reducible apply q_load' lwLine); (· (first | exact wanted_none rfl | exact wanted_some rfl rfl rfl)); (· rfl); (· infer_instance); (· rfl); simp only [Act.put, List.setIfInBounds_toArray, List.set_cons_succ, List.set_cons_zero]) | go_big_quiet_step ((go_at_call 34; exact ext_call (HBH.out _))))
        refine wpQuiet_nil ?_
        intro _ hw'
        obtain ⟨nq, hw''⟩ := hw'
        subst hw''
        go_wp2_with fail
        go_roundw
        case rel => exact ⟨r ++ [((i : Int), (a : Int))], eb, by omega, by simp; omega, by simp; omega, rfl, by rw [HR0.out, HRB.out]; simp [TrimM.pc], Own.of_ext HO7.out nq, by repeat' (first | (with_reducible exact HX7.out) | (with_reducible refine Ext.trans ?_ (ExtOf.ext _)) | (with_reducible refine Ext.drew ?_))⟩
        case measure => exact mE_lt (by omega) (by omega)
end Go.Proofs.YtdalbfanfbeckaaGreatDoor
end
/-
  Chapter 26: Best of a board; the law's best.
-/
section
set_option linter.unusedVariables false
set_option linter.unusedSimpArgs false
namespace Go.Proofs.YtdalbfanfbeckaaGreatDoor
open Go.RowKit TrimM

attribute [local go_sem] ExtOf.cell ExtOf.frozen ExtS.cell ExtS.frozen Block.cell Block.frozen ExtB.cell ExtB.frozen alloc_cell alloc_frozen
/-- the best pieces of a board, none at an error; and their worth -/
def bpP (b : Bx) (ds : List Df) (p : Pdt) (step kerf fine : Int) : List Sp := if chkE b ds p step kerf fine = 0 then bestPs (TrimM.line b ds p step kerf fine) else []
def bpV (b : Bx) (ds : List Df) (p : Pdt) (step kerf fine : Int) : Int := if chkE b ds p step kerf fine = 0 then ((TrimM.line b ds p step kerf fine).E 0).2 else 0
def TBestPost (x : Bd) (ds : List Df) (p : Pdt) (step kerf fine : Int) (w : World) (e : Ending) (w' : World) : Prop :=
  ∃ v, e = .returned (.tuple #[v, .int .i64 (bpV x.b ds p step kerf fine), .int .i64 (chkE x.b ds p step kerf fine)]) ∧ Own encSp 2 55 w.heap.size w' v (bpP x.b ds p step kerf fine) ∧ ∃ n : ExtOf w, w' = n.val
theorem LineS.form {w : World} {L : Ln} {cs : Array Value} (hL : L.Fine) (h : LineS w L cs) : ∃ ps c0 pg c1 pc c2 pd c3, cs = #[.int .i64 (L.n : Int), .int .i64 (L.k : Int), .int .i64 1, .slice ps L.sizes.length c0, .slice pg L.sizes.length c1, .slice pc L.n c2, .slice pd L.n c3] := by
  obtain ⟨vs, vg, vc, vd, rfl, h1, h2, h3, h4⟩ := h
  obtain ⟨ps, cs, rfl, a1, a2, a3⟩ := int_form h1 (n := L.sizes.length) (by rw [List.length_map])
  obtain ⟨pg, cg, rfl, b1, b2, b3⟩ := grid_form h2 (n := L.sizes.length) (by rw [hL.rows])
  obtain ⟨pc, cc, rfl, d1, d2, d3⟩ := int_form h3 (n := L.n) (by rw [List.length_replicate])
  obtain ⟨pd, cd, rfl, e1, e2, e3⟩ := int_form h4 (n := L.n) (by rw [List.length_replicate])
  exact ⟨_, _, _, _, _, _, _, _, rfl⟩
set_option maxHeartbeats 1600000 in
set_option maxRecDepth 20000 in
theorem tbest_any (x : Bd) (dv : Value) (ds : List Df) (p : Pdt) (lv pv : Value) (step kerf fine : Int) (w : World) (hd : DfS w dv ds) (hl : IntS w lv p.ls) (hp : IntS w pv p.ps) (htab : Tab w) :
    Calls Tryz.prog 28 #[.agg (bdC x dv), .agg (pdC p lv pv), .int .i64 step, .int .i64 kerf, .int .i64 fine] w (TBestPost x ds p step kerf fine w) := by
  obtain ⟨lq, lcap, rfl, hl1, hl2, hl3⟩ := SliceOf.form hl
  obtain ⟨pq, pcap, rfl, hp1, hp2, hp3⟩ := SliceOf.form hp
  obtain ⟨q, cap, rfl, hd1, hd2, hd3⟩ := SliceOf.form hd
  have HL := Lib.hid hl
  have HP := Lib.hid hp
  have HD := Lib.hid hd
  have HTB := Lib.hid htab
  clear hl hp hd htab
  unfold maxLen at hl2 hp2 hd2
  unfold bdC pdC
  by_cases h0 : ¬ chkE x.b ds p step kerf fine = 0
  · have h1 : (chkE x.b ds p step kerf fine != 0) = true := bne_iff_ne.2 h0
    have HV : Hid (bpV x.b ds p step kerf fine = 0) := Lib.hid (if_neg h0)
    have HPP : Hid (bpP x.b ds p step kerf fine = []) := Lib.hid (if_neg h0)
    have H0 := Lib.hid h0
    clear h0
    go_enter Tryz.func28, Tryz.ntmps28
    go_wp2_with (first | ((with_reducible apply wl_load' lwBd); (· (first | exact wanted_none rfl | exact wanted_some rfl rfl rfl)); (· rfl); (· infer_instance); (· rfl)) | ((with_reducible apply wl_load' lwPd); (· (first | exact wanted_none rfl | exact wanted_some rfl rfl rfl)); (· rfl); (· infer_instance); (· rfl)) | ((go_at_call 13; refine (line_any x _ ds p _ _ step kerf fine _ (SliceOf.ext HD.out (by repeat' (first | (with_reducible exact Ext.refl _) | (with_reducible exact ExtOf.ext _) | (with_reducible refine Ext.trans ?_ (ExtOf.ext _)) | (with_reducible refine Ext.alloc ?_ _) | (with_reducible refine Ext.drew ?_) | (with_reducible refine Ext.setCell ?_ ?_ _) | (with_reducible refine Ext.setRow ?_ ?_ _) | (with_reducible exact HX.out) | (with_reducible refine Ext.trans ?_ HX.out) | (with_reducible refine Ext.below ?_ (Nat.le_refl _) _) | omega | (simp; done) | (simp; omega)))) (SliceOf.ext HL.out (by repeat' (first | (with_reducible exact Ext.refl _) | (with_reducible exact ExtOf.ext _) | (with_reducible refine Ext.trans ?_ (ExtOf.ext _)) | (with_reducible refine Ext.alloc ?_ _) | (with_reducible refine Ext.drew ?_) | (with_reducible refine Ext.setCell ?_ ?_ _) | (with_reducible refine Ext.setRow ?_ ?_ _) | (with_reducible exact HX.out) | (with_reducible refine Ext.trans ?_ HX.out) | (with_reducible refine Ext.below ?_ (Nat.le_refl _) _) | omega | (simp; done) | (simp; omega)))) (SliceOf.ext HP.out (by repeat' (first | (with_reducible exact Ext.refl _) | (with_reducible exact ExtOf.ext _) | (with_reducible refine Ext.trans ?_ (ExtOf.ext _)) | (with_reducible refine Ext.alloc ?_ _) | (with_reducible refine Ext.drew ?_) | (with_reducible refine Ext.setCell ?_ ?_ _) | (with_reducible refine Ext.setRow ?_ ?_ _) | (with_reducible exact HX.out) | (with_reducible refine Ext.trans ?_ HX.out) | (with_reducible refine Ext.below ?_ (Nat.le_refl _) _) | omega | (simp; done) | (simp; omega))))).mono ?_; rintro e w' ⟨lv, rfl, hl0, hl1, nl, rfl⟩); (obtain rfl := hl0 H0.out); unfold zLine) | ((with_reducible apply wl_store' lwLine); (· (first | exact wanted_none rfl | exact wanted_some rfl rfl rfl)); (· rfl); (· rfl); (· infer_instance); (· rfl); (· rfl); (· (simp [Value.oneCell'])); try simp only [setRow_alloc, setRow_new, setRow_new1, setRow_new2, setRow_new11, setRow_new111]))
    exact bodyPost_ret (v := .tuple #[.slice none 0 0, .int .i64 0, .int .i64 (chkE x.b ds p step kerf fine)]) (by simp [results, Tryz.results28, go_sem]) rfl ⟨_, by rw [HV.out], by rw [HPP.out]; exact Own.nil _, by exact ExtOf.of (by repeat' (first | (with_reducible exact Ext.refl _) | (with_reducible exact ExtOf.ext _) | (with_reducible refine Ext.trans ?_ (ExtOf.ext _)) | (with_reducible refine Ext.alloc ?_ _) | (with_reducible refine Ext.drew ?_) | (with_reducible refine Ext.setCell ?_ ?_ _) | (with_reducible refine Ext.setRow ?_ ?_ _) | (with_reducible exact HX.out) | (with_reducible refine Ext.trans ?_ HX.out) | (with_reducible refine Ext.below ?_ (Nat.le_refl _) _) | omega | (simp; done) | (simp; omega)))⟩
  · replace h0 := Classical.not_not.1 h0
    have h1 : (chkE x.b ds p step kerf fine != 0) = false := bne_eq_false_iff_eq.2 h0
    have HV : Hid (bpV x.b ds p step kerf fine = ((TrimM.line x.b ds p step kerf fine).E 0).2) := Lib.hid (if_pos h0)
    have HPP : Hid (bpP x.b ds p step kerf fine = bestPs (TrimM.line x.b ds p step kerf fine)) := Lib.hid (if_pos h0)
    have HFI := Lib.hid (line_fine (chkE_zero h0))
    have H0 := Lib.hid h0
    clear h0
    go_enter Tryz.func28, Tryz.ntmps28
    go_wp2_with (first | ((with_reducible apply wl_load' lwBd); (· (first | exact wanted_none rfl | exact wanted_some rfl rfl rfl)); (· rfl); (· infer_instance); (· rfl)) | ((with_reducible apply wl_load' lwPd); (· (first | exact wanted_none rfl | exact wanted_some rfl rfl rfl)); (· rfl); (· infer_instance); (· rfl)) | ((go_at_call 13; refine (line_any x _ ds p _ _ step kerf fine _ (SliceOf.ext HD.out (by repeat' (first | (with_reducible exact Ext.refl _) | (with_reducible exact ExtOf.ext _) | (with_reducible refine Ext.trans ?_ (ExtOf.ext _)) | (with_reducible refine Ext.alloc ?_ _) | (with_reducible refine Ext.drew ?_) | (with_reducible refine Ext.setCell ?_ ?_ _) | (with_reducible refine Ext.setRow ?_ ?_ _) | (with_reducible exact HX.out) | (with_reducible refine Ext.trans ?_ HX.out) | (with_reducible refine Ext.below ?_ (Nat.le_refl _) _) | omega | (simp; done) | (simp; omega)))) (SliceOf.ext HL.out (by repeat' (first | (with_reducible exact Ext.refl _) | (with_reducible exact ExtOf.ext _) | (with_reducible refine Ext.trans ?_ (ExtOf.ext _)) | (with_reducible refine Ext.alloc ?_ _) | (with_reducible refine Ext.drew ?_) | (with_reducible refine Ext.setCell ?_ ?_ _) | (with_reducible refine Ext.setRow ?_ ?_ _) | (with_reducible exact HX.out) | (with_reducible refine Ext.trans ?_ HX.out) | (with_reducible refine Ext.below ?_ (Nat.le_refl _) _) | omega | (simp; done) | (simp; omega)))) (SliceOf.ext HP.out (by repeat' (first | (with_reducible exact Ext.refl _) | (with_reducible exact ExtOf.ext _) | (with_reducible refine Ext.trans ?_ (ExtOf.ext _)) | (with_reducible refine Ext.alloc ?_ _) | (with_reducible refine Ext.drew ?_) | (with_reducible refine Ext.setCell ?_ ?_ _) | (with_reducible refine Ext.setRow ?_ ?_ _) | (with_reducible exact HX.out) | (with_reducible refine Ext.trans ?_ HX.out) | (with_reducible refine Ext.below ?_ (Nat.le_refl _) _) | omega | (simp; done) | (simp; omega))))).mono ?_; rintro e w' ⟨lv, rfl, hl0, hl1, nl, rfl⟩); (have HLS := Lib.hid (LineW.here (hl1 H0.out))); clear hl0 hl1; (obtain ⟨ps, c0, pg, c1, pc, c2, pd, c3, hlv⟩ := LineS.form HFI.out HLS.out); subst hlv) | ((with_reducible apply wl_store' lwLine); (· (first | exact wanted_none rfl | exact wanted_some rfl rfl rfl)); (· rfl); (· rfl); (· infer_instance); (· rfl); (· rfl); (· (simp [Value.oneCell'])); try simp only [setRow_alloc, setRow_new, setRow_new1, setRow_new2, setRow_new11, setRow_new111]) | ((with_reducible apply wl_load' lwLine); (· (first | exact wanted_none rfl | exact wanted_some rfl rfl rfl)); (· rfl); (· infer_instance); (· rfl)) | (go_at_call 52; refine (cBest_any _ HFI.out _ _ (LineS.ext HLS.out (by repeat' (first | (with_reducible exact Ext.refl _) | (with_reducible exact ExtOf.ext _) | (with_reducible refine Ext.trans ?_ (ExtOf.ext _)) | (with_reducible refine Ext.alloc ?_ _) | (with_reducible refine Ext.drew ?_) | (with_reducible refine Ext.setCell ?_ ?_ _) | (with_reducible refine Ext.setRow ?_ ?_ _) | (with_reducible exact HX.out) | (with_reducible refine Ext.trans ?_ HX.out) | (with_reducible refine Ext.below ?_ (Nat.le_refl _) _) | omega | (simp; done) | (simp; omega)))) (Tab.ext HTB.out (by repeat' (first | (with_reducible exact Ext.refl _) | (with_reducible exact ExtOf.ext _) | (with_reducible refine Ext.trans ?_ (ExtOf.ext _)) | (with_reducible refine Ext.alloc ?_ _) | (with_reducible refine Ext.drew ?_) | (with_reducible refine Ext.setCell ?_ ?_ _) | (with_reducible refine Ext.setRow ?_ ?_ _) | (with_reducible exact HX.out) | (with_reducible refine Ext.trans ?_ HX.out) | (with_reducible refine Ext.below ?_ (Nat.le_refl _) _) | omega | (simp; done) | (simp; omega))))).mono ?_; rintro e w' ⟨bv, rfl, hbo, nb, rfl⟩; replace hbo := Lib.hid hbo))
    exact bodyPost_ret (v := .tuple #[bv, .int .i64 ((TrimM.line x.b ds p step kerf fine).E 0).2, .int .i64 0]) (by simp [results, Tryz.results28, go_sem]) rfl ⟨_, by rw [HV.out, H0.out], by rw [HPP.out]; exact Own.lower hbo.out (by (have := nl.size); simp at this ⊢; omega), by exact ExtOf.of (by repeat' (first | (with_reducible exact Ext.refl _) | (with_reducible exact ExtOf.ext _) | (with_reducible refine Ext.trans ?_ (ExtOf.ext _)) | (with_reducible refine Ext.alloc ?_ _) | (with_reducible refine Ext.drew ?_) | (with_reducible refine Ext.setCell ?_ ?_ _) | (with_reducible refine Ext.setRow ?_ ?_ _) | (with_reducible exact HX.out) | (with_reducible refine Ext.trans ?_ HX.out) | (with_reducible refine Ext.below ?_ (Nat.le_refl _) _) | omega | (simp; done) | (simp; omega)))⟩
end Go.Proofs.YtdalbfanfbeckaaGreatDoor
end
/-
  Chapter 26: the law's line and best; SamePieces.
-/
section
set_option linter.unusedVariables false
set_option linter.unusedSimpArgs false
namespace Go.Proofs.YtdalbfanfbeckaaGreatDoor
open Go.RowKit TrimM

attribute [local go_sem] ExtOf.cell ExtOf.frozen ExtS.cell ExtS.frozen Block.cell Block.frozen ExtB.cell ExtB.frozen alloc_cell alloc_frozen equal_piece equalX_piece eqGuard_piece
/-- the law's Given, as it lies in memory -/
def gvC (x : Bd) (dv : Value) (p : Pdt) (lv pv : Value) (step kerf fine : Int) : Array Value := #[.string x.id, .string x.lg, .string x.sp, .int .i64 x.pr, .int .i64 x.b.xa, .int .i64 x.b.xb, .int .i64 x.b.ya, .int .i64 x.b.yb, .int .i64 x.b.za, .int .i64 x.b.zb, .int .i64 x.vol, dv, .int .i64 x.wa, .int .i64 x.su, .int .i64 x.co, .int .i64 x.st, .bool x.dr, .int .i64 x.gr,
  .string p.nm, .int .i64 p.th, .int .i64 p.wi, .int .i64 p.al, .int .i64 p.wa, lv, pv, .int .i64 step, .int .i64 kerf, .int .i64 fine]
set_option maxHeartbeats 1600000 in
set_option maxRecDepth 20000 in
theorem lbest_any (x : Bd) (dv : Value) (ds : List Df) (p : Pdt) (lv pv : Value) (step kerf fine : Int) (w : World) (hd : DfS w dv ds) (hl : IntS w lv p.ls) (hp : IntS w pv p.ps) (htab : Tab w) :
    Calls Tryz.prog 12 #[.agg (gvC x dv p lv pv step kerf fine)] w (TBestPost x ds p step kerf fine w) := by
  obtain ⟨lq, lcap, rfl, hl1, hl2, hl3⟩ := SliceOf.form hl
  obtain ⟨pq, pcap, rfl, hp1, hp2, hp3⟩ := SliceOf.form hp
  obtain ⟨q, cap, rfl, hd1, hd2, hd3⟩ := SliceOf.form hd
  have HL := Lib.hid hl
  have HP := Lib.hid hp
  have HD := Lib.hid hd
  clear hl hp hd
  unfold maxLen at hl2 hp2 hd2
  unfold gvC
  have HTB := Lib.hid htab
  clear htab
  go_enter Tryz.func12, Tryz.ntmps12
  go_wp2_with (first | ((with_reducible apply wl_loadB midBd); (· (first | exact wanted_none rfl | exact wanted_some rfl rfl rfl)); (· rfl); (· infer_instance); (· rfl); (· rfl)) | ((with_reducible apply wl_loadB midPd); (· (first | exact wanted_none rfl | exact wanted_some rfl rfl rfl)); (· rfl); (· infer_instance); (· rfl); (· rfl)) | (go_at_call 28; refine (tbest_any x _ ds p _ _ step kerf fine _ (SliceOf.ext HD.out (by repeat' (first | (with_reducible exact Ext.refl _) | (with_reducible exact ExtOf.ext _) | (with_reducible refine Ext.trans ?_ (ExtOf.ext _)) | (with_reducible refine Ext.alloc ?_ _) | (with_reducible refine Ext.drew ?_) | (with_reducible refine Ext.setCell ?_ ?_ _) | (with_reducible refine Ext.setRow ?_ ?_ _) | (with_reducible exact HX.out) | (with_reducible refine Ext.trans ?_ HX.out) | (with_reducible refine Ext.below ?_ (Nat.le_refl _) _) | omega | (simp; done) | (simp; omega)))) (SliceOf.ext HL.out (by repeat' (first | (with_reducible exact Ext.refl _) | (with_reducible exact ExtOf.ext _) | (with_reducible refine Ext.trans ?_ (ExtOf.ext _)) | (with_reducible refine Ext.alloc ?_ _) | (with_reducible refine Ext.drew ?_) | (with_reducible refine Ext.setCell ?_ ?_ _) | (with_reducible refine Ext.setRow ?_ ?_ _) | (with_reducible exact HX.out) | (with_reducible refine Ext.trans ?_ HX.out) | (with_reducible refine Ext.below ?_ (Nat.le_refl _) _) | omega | (simp; done) | (simp; omega)))) (SliceOf.ext HP.out (by repeat' (first | (with_reducible exact Ext.refl _) | (with_reducible exact ExtOf.ext _) | (with_reducible refine Ext.trans ?_ (ExtOf.ext _)) | (with_reducible refine Ext.alloc ?_ _) | (with_reducible refine Ext.drew ?_) | (with_reducible refine Ext.setCell ?_ ?_ _) | (with_reducible refine Ext.setRow ?_ ?_ _) | (with_reducible exact HX.out) | (with_reducible refine Ext.trans ?_ HX.out) | (with_reducible refine Ext.below ?_ (Nat.le_refl _) _) | omega | (simp; done) | (simp; omega)))) (Tab.ext HTB.out (by repeat' (first | (with_reducible exact Ext.refl _) | (with_reducible exact ExtOf.ext _) | (with_reducible refine Ext.trans ?_ (ExtOf.ext _)) | (with_reducible refine Ext.alloc ?_ _) | (with_reducible refine Ext.drew ?_) | (with_reducible refine Ext.setCell ?_ ?_ _) | (with_reducible refine Ext.setRow ?_ ?_ _) | (with_reducible exact HX.out) | (with_reducible refine Ext.trans ?_ HX.out) | (with_reducible refine Ext.below ?_ (Nat.le_refl _) _) | omega | (simp; done) | (simp; omega))))).mono ?_; rintro e w' ⟨bv, rfl, hbo, nb, rfl⟩; replace hbo := Lib.hid hbo))
  exact bodyPost_ret (v := .tuple #[bv, .int .i64 (bpV x.b ds p step kerf fine), .int .i64 (chkE x.b ds p step kerf fine)]) (by simp [results, Tryz.results12, go_sem]) rfl ⟨_, rfl, Own.lower hbo.out (by simp), by exact ExtOf.of (by repeat' (first | (with_reducible exact Ext.refl _) | (with_reducible exact ExtOf.ext _) | (with_reducible refine Ext.trans ?_ (ExtOf.ext _)) | (with_reducible refine Ext.alloc ?_ _) | (with_reducible refine Ext.drew ?_) | (with_reducible refine Ext.setCell ?_ ?_ _) | (with_reducible refine Ext.setRow ?_ ?_ _) | (with_reducible exact HX.out) | (with_reducible refine Ext.trans ?_ HX.out) | (with_reducible refine Ext.below ?_ (Nat.le_refl _) _) | omega | (simp; done) | (simp; omega)))⟩
end Go.Proofs.YtdalbfanfbeckaaGreatDoor
end
