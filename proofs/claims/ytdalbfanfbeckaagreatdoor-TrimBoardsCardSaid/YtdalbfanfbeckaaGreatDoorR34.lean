/-
  Chapter 26: dust and chips of pieces that are cut from a line.
-/
import Derived.Test.YtdalbfanfbeckaaGreatDoorK33
import Derived.Test.YtdalbfanfbeckaaGreatDoorLB
set_option linter.unusedVariables false
set_option linter.unusedSimpArgs false
namespace Go.Proofs.YtdalbfanfbeckaaGreatDoor
open Go.RowKit TrimM

attribute [local go_sem] ExtOf.cell ExtOf.frozen ExtS.cell ExtS.frozen Block.cell Block.frozen ExtB.cell ExtB.frozen alloc_cell alloc_frozen
theorem cuts_step {L : Ln} {e : Int} {d c P : List Sp} {k : Nat} (hk : k < P.length) {x : Sp} (hx : P[k] = x) : L.cuts e d c (P.drop k) = if L.pieceE e x = 0 then L.cuts (L.behind (L.stop x)) (L.dustA e x d) (L.chipsA e x c) (P.drop (k + 1)) else (L.pieceE e x, [], []) := by
  rw [List.drop_eq_getElem_cons hk, hx, Ln.cuts]
def CutsPost (L : Ln) (P : List Sp) (w : World) (e : Ending) (w' : World) : Prop := ∃ vd vc, e = .returned (.tuple #[vd, vc, .int .i64 (L.cuts 0 [] [] P).1]) ∧ Own encSp 2 23 w.heap.size w' vd (L.cuts 0 [] [] P).2.1 ∧ Own encSp 2 23 w.heap.size w' vc (L.cuts 0 [] [] P).2.2 ∧ Apt vd vc ∧ ∃ n : ExtOf w, w' = n.val
theorem addS_len (l : List Sp) (a b : Int) : (addS l a b).length ≤ l.length + 1 := by unfold addS; split <;> simp
set_option maxHeartbeats 3200000 in
set_option maxRecDepth 20000 in
theorem cuts_any (L : Ln) (hL : L.Fine) (cs : Array Value) (P : List Sp) (vp : Value) (w : World) (h : LineS w L cs) (hp : SpS w vp P) (hP : P.length ≤ 10000) : Calls Tryz.prog 14 #[.agg cs, vp] w (CutsPost L P w) := by
  have H0 := Lib.hid h
  have HCK : Hid (∀ W, Ext w W → Calls Tryz.prog 31 #[.agg cs] W fun e w' => e = .returned (.int .i64 0) ∧ ∃ n : ExtOf W, w' = n.val) := Lib.hid (fun W hx => cCheck_ok L hL cs W (LineS.ext h hx))
  have HPM : Hid (∀ W (e i a : Int), (-1 ≤ e ∧ e ≤ (L.n : Int)) → Ext w W → Calls Tryz.prog 32 #[.agg cs, .int .i64 e, .agg #[.int .i64 i, .int .i64 a]] W fun x w' => x = .returned (.int .i64 (L.pieceE e (i, a))) ∧ ∃ n : ExtOf W, w' = n.val) := Lib.hid (fun W e i a he hx => permitted_any L hL cs e i a W he (LineS.ext h hx))
  obtain ⟨qp, cp, rfl, p1, p2, p3⟩ := SliceOf.form hp
  have HP := Lib.hid hp
  clear hp
  obtain ⟨vs, vg, vc, vd, rfl, h1, h2, h3, h4⟩ := h
  obtain ⟨N, hN⟩ : ∃ N, N = L.sizes.length := ⟨_, rfl⟩
  obtain ⟨ps, cs, rfl, a1, a2, a3⟩ := int_form h1 (n := N) (by rw [List.length_map, hN])
  obtain ⟨pg, cg, rfl, b1, b2, b3⟩ := grid_form h2 (n := N) (by rw [hL.rows, hN])
  obtain ⟨pc, cc, rfl, d1, d2, d3⟩ := int_form h3 (n := L.n) (by rw [List.length_replicate])
  obtain ⟨pd, cd, rfl, e1, e2, e3⟩ := int_form h4 (n := L.n) (by rw [List.length_replicate])
  have HS := Lib.hid h1
  have HG := Lib.hid h2
  have HC := Lib.hid h3
  have HD := Lib.hid h4
  have HF := Lib.hid hL
  have HN := Lib.hid hN
  have hn := hL.n
  have hk := hL.k
  have hs8 : N ≤ 8 := by rw [hN]; exact hL.sizes
  clear h1 h2 h3 h4 hL hN
  unfold maxLen at a2 b2 d2 e2
  unfold maxLen at p2
  have hkL : L.k ≤ 20 := HF.out.k
  go_enter Tryz.func14, Tryz.ntmps14
  go_wp2_with (first | ((with_reducible apply wl_load' lwLine); (· (first | exact wanted_none rfl | exact wanted_some rfl rfl rfl)); (· rfl); (· infer_instance); (· rfl)) | (go_at_call 31; with_reducible refine Calls.mono (HCK.out _ (by repeat' (first | (with_reducible exact Ext.refl _) | (with_reducible exact ExtOf.ext _) | (with_reducible refine Ext.trans ?_ (ExtOf.ext _)) | (with_reducible refine Ext.alloc ?_ _) | (with_reducible refine Ext.drew ?_) | (with_reducible refine Ext.setCell ?_ ?_ _) | (with_reducible refine Ext.setRow ?_ ?_ _) | (with_reducible exact HX.out) | (with_reducible refine Ext.trans ?_ HX.out) | (with_reducible refine Ext.below ?_ (Nat.le_refl _) _) | omega | (simp; done) | (simp; omega)))) ?_; rintro e w' ⟨rfl, nk, rfl⟩))
  obtain ⟨W0, hW0⟩ : ∃ W, W = nk.val := ⟨_, rfl⟩
  have hB0 : Block W0 w.heap.size #[.int .i64 (L.n : Int), .int .i64 (L.k : Int), .int .i64 1, .slice ps N cs, .slice pg N cg, .slice pc L.n cc, .slice pd L.n cd] := by rw [hW0]; infer_instance
  have HX0 : Hid (Ext w W0) := Lib.hid (by rw [hW0]; repeat' (first | (with_reducible exact Ext.refl _) | (with_reducible exact ExtOf.ext _) | (with_reducible refine Ext.trans ?_ (ExtOf.ext _)) | (with_reducible refine Ext.alloc ?_ _) | (with_reducible refine Ext.drew ?_) | (with_reducible refine Ext.setCell ?_ ?_ _) | (with_reducible refine Ext.setRow ?_ ?_ _) | (with_reducible exact HX.out) | (with_reducible refine Ext.trans ?_ HX.out) | (with_reducible refine Ext.below ?_ (Nat.le_refl _) _) | omega | (simp; done) | (simp; omega)))
  have hs0 : w.heap.size + 1 ≤ W0.heap.size := by rw [hW0]; have := nk.size; simpa using this
  rw [← hW0]
  have HB0 := Lib.hid hB0
  clear hW0 nk hB0
  go_loopw [4, 5, 8, 20] (fun v4 v5 v8 v20 wr => ∃ (k : Nat) (e : Int) (d c : List Sp), k ≤ P.length ∧ v20 = .int .i64 (k : Int) ∧ v8 = .int .i64 e ∧ (-1 ≤ e ∧ e ≤ (L.n : Int)) ∧ d.length ≤ 2 * k ∧ c.length ≤ k ∧ L.cuts 0 [] [] P = L.cuts e d c (P.drop k) ∧ Own encSp 2 23 (w.heap.size + 1) wr v4 d ∧ Own encSp 2 23 (w.heap.size + 1) wr v5 c ∧ Apt v4 v5 ∧ Below (w.heap.size + 1) W0 wr) (fun _ _ _ v _ => P.length - (intOf v).toNat)
  case atStart => exact ⟨0, 0, [], [], by omega, rfl, rfl, by omega, by simp, by simp, rfl, Own.nil _, Own.nil _, Apt.nil _, Below.refl _ _⟩
  case round =>
    obtain ⟨k, e, d, c, hk, rfl, rfl, he, hd1, hc1, hcut, ho4, ho5, hapt, hbel⟩ := hrel
    have HBE := Lib.hid hbel
    have HX : Hid (Ext w wr) := Lib.hid (Below.trans HX0.out (Below.mono hbel (by omega)))
    have hszr := hbel.size
    have hB := Block.below HB0.out hbel (Nat.lt_succ_self _)
    have ob := hB.old
    have HO4 := Lib.hid ho4
    have HO5 := Lib.hid ho5
    have HAP := Lib.hid hapt
    have HCU := Lib.hid hcut
    clear hbel ho4 ho5 hapt hcut
    obtain ⟨q4, c4, rfl⟩ := Own.form2 HO4.out
    obtain ⟨q5, c5, rfl⟩ := Own.form2 HO5.out
    by_cases hlt : k < P.length
    · obtain ⟨b0, f0, rfl, r0⟩ := SliceOf.elemK (SliceOf.ext HP.out HX.out) hlt
      obtain ⟨⟨i, a⟩, hia⟩ : ∃ z, P[k] = z := ⟨_, rfl⟩
      rw [hia] at r0
      replace r0 : wr.rangeAt b0 (f0 + k * 2) [.int .i64 i, .int .i64 a] := r0
      have HST := Lib.hid (cuts_step (L := L) (e := e) (d := d) (c := c) hlt hia)
      clear hia
      by_cases z : L.pieceE e (i, a) = 0
      · have z' : (L.pieceE e (i, a) != 0) = false := bne_eq_false_iff_eq.2 z
        have hz := pieceE_zero z
        have HZ := Lib.hid z
        clear z
        obtain ⟨z1, z2, z3, z4, z5, z6, z7⟩ := hz
        simp only at z1 z2 z3 z6 z7
        obtain ⟨ki, rfl⟩ : ∃ q : Nat, i = (q : Int) := ⟨i.toNat, by omega⟩
        have hki : ki < L.sizes.length := by omega
        have hls : ki < (L.sizes.map fun s : Nat => (s : Int)).length := by rw [List.length_map]; exact hki
        have hkiN : ki < N := by rw [HN.out]; exact hki
        obtain ⟨sz, hsz⟩ : ∃ s, s = L.size ki := ⟨_, rfl⟩
        have hst : L.stop ((ki : Int), a) = a + (sz : Int) := by unfold Ln.stop; simp only [Int.toNat_natCast]; rw [hsz]
        rw [hst] at z4
        have hszx : (L.sizes.map fun s : Nat => (s : Int))[ki] = (sz : Int) := by
          rw [List.getElem_map, hsz]; unfold Ln.size; rw [List.getElem?_eq_getElem hki]; rfl
        obtain ⟨eb, heb⟩ : ∃ b, b = L.behind (a + (sz : Int)) := ⟨_, rfl⟩
        have hebb : -1 ≤ eb ∧ eb ≤ (L.n : Int) := by rw [heb]; unfold Ln.behind; split <;> omega
        have hNX : L.cuts 0 [] [] P = L.cuts eb (addS (if e < a then addS d (a - L.k) a else d) (a + (sz : Int)) eb) (if e < a then addS c e (a - L.k) else c) (P.drop (k + 1)) := by
          rw [HCU.out, HST.out, if_pos HZ.out, hst, ← heb]
          unfold Ln.dustA Ln.chipsA
          rw [hst, ← heb]
        have HNX := Lib.hid hNX
        have HEB := Lib.hid heb
        have HLS : Hid (ki < (L.sizes.map fun s : Nat => (s : Int)).length) := Lib.hid hls
        clear hNX heb hst hsz z7 HST HCU z1 z2
        by_cases t : e < a
        · have t' : decide (e < a) = true := decide_eq_true t
          go_wp2_with (first | ((with_reducible apply wl_store' lwPiece); (· (first | exact wanted_none rfl | exact wanted_some rfl rfl rfl)); (· rfl); (· rfl); (· infer_instance); (· rfl); (· rfl); (· (simp [Value.oneCell'])); try simp only [setRow_alloc, setRow_new, setRow_new1, setRow_new2, setRow_new11, setRow_new111]) | ((with_reducible apply wl_load' lwLine); (· (first | exact wanted_none rfl | exact wanted_some rfl rfl rfl)); (· rfl); (· infer_instance); (· rfl)) | ((with_reducible apply wl_load' lwPiece); (· (first | exact wanted_none rfl | exact wanted_some rfl rfl rfl)); (· rfl); (· infer_instance); (· rfl)) | ((with_reducible apply wl_loadM midPiece r0); (· rfl); (· (first | exact wanted_none rfl | exact wanted_some rfl rfl rfl)); (· rfl)) | (go_at_call 32; with_reducible refine Calls.mono (HPM.out _ e (ki : Int) a he (by repeat' (first | (with_reducible exact Ext.refl _) | (with_reducible exact ExtOf.ext _) | (with_reducible refine Ext.trans ?_ (ExtOf.ext _)) | (with_reducible refine Ext.alloc ?_ _) | (with_reducible refine Ext.drew ?_) | (with_reducible refine Ext.setCell ?_ ?_ _) | (with_reducible refine Ext.setRow ?_ ?_ _) | (with_reducible exact HX.out) | (with_reducible refine Ext.trans ?_ HX.out) | (with_reducible refine Ext.below ?_ (Nat.le_refl _) _) | omega | (simp; done) | (simp; omega)))) ?_; rintro e w' ⟨rfl, np, rfl⟩))
          have oD : Own encSp 2 23 (w.heap.size + 1) np.val (.slice q4 d.length c4) d := Own.of_ext (Own.alloc HO4.out _) np
          have oC : Own encSp 2 23 (w.heap.size + 1) np.val (.slice q5 c.length c5) c := Own.of_ext (Own.alloc HO5.out _) np
          have bX : Block np.val wr.heap.size #[.int .i64 (ki : Int), .int .i64 a] := inferInstance
          have hsn : wr.heap.size + 1 ≤ np.val.heap.size := by have := np.size; simpa using this
          have hbn : Below (w.heap.size + 1) W0 np.val := Below.trans HBE.out (Below.trans (Below.alloc (Below.refl _ _) (by omega) _) (Below.mono np.ext (by simp; omega)))
          refine (add_any (w.heap.size + 1) c _ e (a - (L.k : Int)) _ oC (by omega) (by omega)).mono ?_
          rintro e' w1 ⟨v1, rfl, ho1, kp1⟩
          have oD1 := kp1.other oD (Apt.symm HAP.out)
          have ap1 := kp1.apt oD (Apt.symm HAP.out)
          have bX1 := kp1.block bX (Own.block_lt HO5.out (Nat.le_refl _))
          have hb1 : Below (w.heap.size + 1) W0 w1 := Below.trans hbn kp1.bel
          have hs1 := kp1.bel.size
          have HH1 := Lib.hid (And.intro ho1 (And.intro oD1 ap1))
          have HB1 := Lib.hid hb1
          have hBl1 := Block.below HB0.out hb1 (Nat.lt_succ_self _)
          have obl1 := hBl1.old
          have obx1 := bX1.old
          clear ho1 oD1 ap1 kp1 hb1 oC oD bX hbn hB ob
          go_wp2_with fail
          refine (add_any (w.heap.size + 1) d _ (a - (L.k : Int)) a _ HH1.out.2.1 (by omega) (by omega)).mono ?_
          rintro e' w2 ⟨v2, rfl, ho2, kp2⟩
          have oC2 := kp2.other HH1.out.1 (Apt.symm HH1.out.2.2)
          have ap2 := kp2.apt HH1.out.1 (Apt.symm HH1.out.2.2)
          have bX2 := kp2.block bX1 (Own.block_lt HO4.out (Nat.le_refl _))
          have hb2 : Below (w.heap.size + 1) W0 w2 := Below.trans HB1.out kp2.bel
          have HOD := Lib.hid ho2
          have HOC := Lib.hid oC2
          have HAP2 := Lib.hid ap2
          have HB2 := Lib.hid hb2
          have hl1 := addS_len d (a - (L.k : Int)) a
          have hl2 := addS_len c e (a - (L.k : Int))
          have HNY : Hid (L.cuts 0 [] [] P = L.cuts eb (addS (addS d (a - (L.k : Int)) a) (a + (sz : Int)) eb) (addS c e (a - (L.k : Int))) (P.drop (k + 1))) := Lib.hid (by rw [HNX.out, if_pos t, if_pos t])
          obtain ⟨dd, hdd⟩ : ∃ x, x = addS d (a - (L.k : Int)) a := ⟨_, rfl⟩
          obtain ⟨cx, hcx⟩ : ∃ x, x = addS c e (a - (L.k : Int)) := ⟨_, rfl⟩
          rw [← hdd] at HOD HNY hl1
          rw [← hcx] at HOC HNY hl2
          clear hdd hcx ho2 kp2 oC2 ap2 hb2 HH1 HB1 hBl1 obl1 obx1 bX1
          have hBl2 := Block.below HB0.out HB2.out (Nat.lt_succ_self _)
          have obl2 := hBl2.old
          have obx2 := bX2.old
          have HXW2 : Hid (Ext w w2) := Lib.hid (Below.trans HX0.out (Below.mono HB2.out (by omega)))
          have hs2 := HB2.out.size
          obtain ⟨bs, os, hbs, obs, c1⟩ := int_elem (SliceOf.ext HS.out HXW2.out) HLS.out hszx
          subst hbs
          have HBH : Hid (∀ W, Calls Tryz.prog 34 #[.agg #[.int .i64 (L.n : Int), .int .i64 (L.k : Int), .int .i64 1, .slice (some ⟨bs, os, none⟩) N cs, .slice pg N cg, .slice pc L.n cc, .slice pd L.n cd], .int .i64 (a + (sz : Int))] W fun e w' => e = .returned (.int .i64 eb) ∧ ∃ n : ExtOf W, w' = n.val) := Lib.hid (fun W => by
            rw [HEB.out]
            exact behind_any L 1 _ _ _ _ _ W hn hkL (by omega))
          clear hszx
          go_wp2_with fail
          refine wp_region_ext (by kernel_rfl) (by kernel_rfl) ?_
          repeat (first | go_big_quiet_skip | go_big_quiet_step (fail))
          refine wpQuiet_nil ?_
          intro _ hw'
          obtain ⟨nq, hw''⟩ := hw'
          subst hw''
          go_wp2_with (first | ((with_reducible apply wl_load' lwLine); (· (first | exact wanted_none rfl | exact wanted_some rfl rfl rfl)); (· rfl); (· infer_instance); (· rfl)) | (go_at_call 34; with_reducible refine Calls.mono (HBH.out _) ?_; rintro e w' ⟨rfl, nb, rfl⟩))
          have hsz3 : w2.heap.size ≤ nb.val.heap.size := Nat.le_trans nq.size nb.size
          have hb3 : Below (w.heap.size + 1) W0 nb.val := Below.trans HB2.out (Below.trans (Below.mono nq.ext (by omega)) (Below.mono nb.ext (by have := nq.size; omega)))
          have oC3 := Own.of_ext (Own.of_ext HOC.out nq) nb
          refine (add_any (w.heap.size + 1) dd _ (a + (sz : Int)) eb _ (Own.of_ext (Own.of_ext HOD.out nq) nb) (by omega) (by omega)).mono ?_
          rintro e' w3 ⟨v3, rfl, ho3, kp3⟩
          have hl3 := addS_len dd (a + (sz : Int)) eb
          have HF3 := Lib.hid (And.intro ho3 (And.intro (kp3.other oC3 HAP2.out) (And.intro (kp3.apt oC3 HAP2.out) (Below.trans hb3 kp3.bel))))
          clear ho3 kp3 oC3 hb3
          go_wp2_with fail
          go_roundw
          case rel => exact ⟨k + 1, eb, addS dd (a + (sz : Int)) eb, cx, by omega, by first | rfl | go_num, rfl, hebb, by omega, by omega, HNY.out, HF3.out.1, HF3.out.2.1, HF3.out.2.2.1, HF3.out.2.2.2⟩
          case measure => simp [intOf]; omega
        · have t' : decide (e < a) = false := decide_eq_false t
          have HNY : Hid (L.cuts 0 [] [] P = L.cuts eb (addS d (a + (sz : Int)) eb) c (P.drop (k + 1))) := Lib.hid (by rw [HNX.out, if_neg t, if_neg t])
          go_wp2_with (first | ((with_reducible apply wl_store' lwPiece); (· (first | exact wanted_none rfl | exact wanted_some rfl rfl rfl)); (· rfl); (· rfl); (· infer_instance); (· rfl); (· rfl); (· (simp [Value.oneCell'])); try simp only [setRow_alloc, setRow_new, setRow_new1, setRow_new2, setRow_new11, setRow_new111]) | ((with_reducible apply wl_load' lwLine); (· (first | exact wanted_none rfl | exact wanted_some rfl rfl rfl)); (· rfl); (· infer_instance); (· rfl)) | ((with_reducible apply wl_load' lwPiece); (· (first | exact wanted_none rfl | exact wanted_some rfl rfl rfl)); (· rfl); (· infer_instance); (· rfl)) | ((with_reducible apply wl_loadM midPiece r0); (· rfl); (· (first | exact wanted_none rfl | exact wanted_some rfl rfl rfl)); (· rfl)) | (go_at_call 32; with_reducible refine Calls.mono (HPM.out _ e (ki : Int) a he (by repeat' (first | (with_reducible exact Ext.refl _) | (with_reducible exact ExtOf.ext _) | (with_reducible refine Ext.trans ?_ (ExtOf.ext _)) | (with_reducible refine Ext.alloc ?_ _) | (with_reducible refine Ext.drew ?_) | (with_reducible refine Ext.setCell ?_ ?_ _) | (with_reducible refine Ext.setRow ?_ ?_ _) | (with_reducible exact HX.out) | (with_reducible refine Ext.trans ?_ HX.out) | (with_reducible refine Ext.below ?_ (Nat.le_refl _) _) | omega | (simp; done) | (simp; omega)))) ?_; rintro e w' ⟨rfl, np, rfl⟩))
          have HOD : Hid (Own encSp 2 23 (w.heap.size + 1) np.val (.slice q4 d.length c4) d) := Lib.hid (Own.of_ext (Own.alloc HO4.out _) np)
          have HOC : Hid (Own encSp 2 23 (w.heap.size + 1) np.val (.slice q5 c.length c5) c) := Lib.hid (Own.of_ext (Own.alloc HO5.out _) np)
          have bX2 : Block np.val wr.heap.size #[.int .i64 (ki : Int), .int .i64 a] := inferInstance
          have hsn : wr.heap.size + 1 ≤ np.val.heap.size := by have := np.size; simpa using this
          have HB2 : Hid (Below (w.heap.size + 1) W0 np.val) := Lib.hid (Below.trans HBE.out (Below.trans (Below.alloc (Below.refl _ _) (by omega) _) (Below.mono np.ext (by simp; omega))))
          have HAP2 := HAP
          obtain ⟨dd, hdd⟩ : ∃ x, x = d := ⟨_, rfl⟩
          obtain ⟨cx, hcx⟩ : ∃ x, x = c := ⟨_, rfl⟩
          have hl1 : dd.length ≤ d.length + 1 := by rw [hdd]; omega
          have hl2 : cx.length ≤ c.length + 1 := by rw [hcx]; omega
          rw [← hdd] at HOD HNY HAP2 ⊢
          rw [← hcx] at HOC HNY HAP2 ⊢
          generalize np.val = w2 at *
          clear hdd hcx np hB ob
          have hBl2 := Block.below HB0.out HB2.out (Nat.lt_succ_self _)
          have obl2 := hBl2.old
          have obx2 := bX2.old
          have HXW2 : Hid (Ext w w2) := Lib.hid (Below.trans HX0.out (Below.mono HB2.out (by omega)))
          have hs2 := HB2.out.size
          obtain ⟨bs, os, hbs, obs, c1⟩ := int_elem (SliceOf.ext HS.out HXW2.out) HLS.out hszx
          subst hbs
          have HBH : Hid (∀ W, Calls Tryz.prog 34 #[.agg #[.int .i64 (L.n : Int), .int .i64 (L.k : Int), .int .i64 1, .slice (some ⟨bs, os, none⟩) N cs, .slice pg N cg, .slice pc L.n cc, .slice pd L.n cd], .int .i64 (a + (sz : Int))] W fun e w' => e = .returned (.int .i64 eb) ∧ ∃ n : ExtOf W, w' = n.val) := Lib.hid (fun W => by
            rw [HEB.out]
            exact behind_any L 1 _ _ _ _ _ W hn hkL (by omega))
          clear hszx
          go_wp2_with fail
          refine wp_region_ext (by kernel_rfl) (by kernel_rfl) ?_
          repeat (first | go_big_quiet_skip | go_big_quiet_step (fail))
          refine wpQuiet_nil ?_
          intro _ hw'
          obtain ⟨nq, hw''⟩ := hw'
          subst hw''
          go_wp2_with (first | ((with_reducible apply wl_load' lwLine); (· (first | exact wanted_none rfl | exact wanted_some rfl rfl rfl)); (· rfl); (· infer_instance); (· rfl)) | (go_at_call 34; with_reducible refine Calls.mono (HBH.out _) ?_; rintro e w' ⟨rfl, nb, rfl⟩))
          have hsz3 : w2.heap.size ≤ nb.val.heap.size := Nat.le_trans nq.size nb.size
          have hb3 : Below (w.heap.size + 1) W0 nb.val := Below.trans HB2.out (Below.trans (Below.mono nq.ext (by omega)) (Below.mono nb.ext (by have := nq.size; omega)))
          have oC3 := Own.of_ext (Own.of_ext HOC.out nq) nb
          refine (add_any (w.heap.size + 1) dd _ (a + (sz : Int)) eb _ (Own.of_ext (Own.of_ext HOD.out nq) nb) (by omega) (by omega)).mono ?_
          rintro e' w3 ⟨v3, rfl, ho3, kp3⟩
          have hl3 := addS_len dd (a + (sz : Int)) eb
          have HF3 := Lib.hid (And.intro ho3 (And.intro (kp3.other oC3 HAP2.out) (And.intro (kp3.apt oC3 HAP2.out) (Below.trans hb3 kp3.bel))))
          clear ho3 kp3 oC3 hb3
          go_wp2_with fail
          go_roundw
          case rel => exact ⟨k + 1, eb, addS dd (a + (sz : Int)) eb, cx, by omega, by first | rfl | go_num, rfl, hebb, by omega, by omega, HNY.out, HF3.out.1, HF3.out.2.1, HF3.out.2.2.1, HF3.out.2.2.2⟩
          case measure => simp [intOf]; omega
      · have z' : (L.pieceE e (i, a) != 0) = true := bne_iff_ne.2 z
        have HFI : Hid (L.cuts 0 [] [] P = (L.pieceE e (i, a), [], [])) := Lib.hid (by rw [HCU.out, HST.out, if_neg z])
        clear z
        go_wp2_with (first | ((with_reducible apply wl_store' lwPiece); (· (first | exact wanted_none rfl | exact wanted_some rfl rfl rfl)); (· rfl); (· rfl); (· infer_instance); (· rfl); (· rfl); (· (simp [Value.oneCell'])); try simp only [setRow_alloc, setRow_new, setRow_new1, setRow_new2, setRow_new11, setRow_new111]) | ((with_reducible apply wl_load' lwLine); (· (first | exact wanted_none rfl | exact wanted_some rfl rfl rfl)); (· rfl); (· infer_instance); (· rfl)) | ((with_reducible apply wl_load' lwPiece); (· (first | exact wanted_none rfl | exact wanted_some rfl rfl rfl)); (· rfl); (· infer_instance); (· rfl)) | ((with_reducible apply wl_loadM midPiece r0); (· rfl); (· (first | exact wanted_none rfl | exact wanted_some rfl rfl rfl)); (· rfl)) | (go_at_call 32; with_reducible refine Calls.mono (HPM.out _ e i a he (by repeat' (first | (with_reducible exact Ext.refl _) | (with_reducible exact ExtOf.ext _) | (with_reducible refine Ext.trans ?_ (ExtOf.ext _)) | (with_reducible refine Ext.alloc ?_ _) | (with_reducible refine Ext.drew ?_) | (with_reducible refine Ext.setCell ?_ ?_ _) | (with_reducible refine Ext.setRow ?_ ?_ _) | (with_reducible exact HX.out) | (with_reducible refine Ext.trans ?_ HX.out) | (with_reducible refine Ext.below ?_ (Nat.le_refl _) _) | omega | (simp; done) | (simp; omega)))) ?_; rintro e w' ⟨rfl, np, rfl⟩))
        exact bodyPost_ret (v := .tuple #[.slice none 0 0, .slice none 0 0, .int .i64 (L.pieceE e (i, a))]) (by simp [results, Tryz.results14, go_sem]) rfl ⟨_, _, by rw [HFI.out], by rw [HFI.out]; exact Own.nil _, by rw [HFI.out]; exact Own.nil _, Apt.nil _, by exact ExtOf.of (by repeat' (first | (with_reducible exact Ext.refl _) | (with_reducible exact ExtOf.ext _) | (with_reducible refine Ext.trans ?_ (ExtOf.ext _)) | (with_reducible refine Ext.alloc ?_ _) | (with_reducible refine Ext.drew ?_) | (with_reducible refine Ext.setCell ?_ ?_ _) | (with_reducible refine Ext.setRow ?_ ?_ _) | (with_reducible exact HX.out) | (with_reducible refine Ext.trans ?_ HX.out) | (with_reducible refine Ext.below ?_ (Nat.le_refl _) _) | omega | (simp; done) | (simp; omega)))⟩
    · have hnil : P.drop k = [] := List.drop_of_length_le (by omega)
      have HFI : Hid (L.cuts 0 [] [] P = (0, d, if 0 ≤ e then addS c e L.n else c)) := Lib.hid (by rw [HCU.out, hnil, Ln.cuts])
      clear hnil
      by_cases h0 : 0 ≤ e
      · have h0' : decide (0 ≤ e) = true := decide_eq_true h0
        go_wp2_with fail
        refine (add_any (w.heap.size + 1) c _ e (L.n : Int) _ HO5.out (by omega) (by omega)).mono ?_
        rintro e' w1 ⟨v1, rfl, ho1, kp1⟩
        have HO1 := Lib.hid ho1
        have HK1 := Lib.hid kp1
        clear ho1 kp1
        go_wp2_with fail
        exact bodyPost_ret (v := .tuple #[.slice q4 d.length c4, v1, .int .i64 0]) (by simp [results, Tryz.results14, go_sem]) rfl ⟨_, _, by rw [HFI.out], by rw [HFI.out]; exact Own.lower (HK1.out.other HO4.out (Apt.symm HAP.out)) (Nat.le_succ _), by rw [HFI.out, if_pos h0]; exact Own.lower HO1.out (Nat.le_succ _), Apt.symm (HK1.out.apt HO4.out (Apt.symm HAP.out)), ExtOf.of (Below.trans HX.out (Below.mono HK1.out.bel (by omega)))⟩
      · have h0' : decide (0 ≤ e) = false := decide_eq_false h0
        go_wp2_with fail
        exact bodyPost_ret (v := .tuple #[.slice q4 d.length c4, .slice q5 c.length c5, .int .i64 0]) (by simp [results, Tryz.results14, go_sem]) rfl ⟨_, _, by rw [HFI.out], by rw [HFI.out]; exact Own.lower HO4.out (Nat.le_succ _), by rw [HFI.out, if_neg (by omega)]; exact Own.lower HO5.out (Nat.le_succ _), HAP.out, by exact ExtOf.of (by repeat' (first | (with_reducible exact Ext.refl _) | (with_reducible exact ExtOf.ext _) | (with_reducible refine Ext.trans ?_ (ExtOf.ext _)) | (with_reducible refine Ext.alloc ?_ _) | (with_reducible refine Ext.drew ?_) | (with_reducible refine Ext.setCell ?_ ?_ _) | (with_reducible refine Ext.setRow ?_ ?_ _) | (with_reducible exact HX.out) | (with_reducible refine Ext.trans ?_ HX.out) | (with_reducible refine Ext.below ?_ (Nat.le_refl _) _) | omega | (simp; done) | (simp; omega)))⟩
end Go.Proofs.YtdalbfanfbeckaaGreatDoor
