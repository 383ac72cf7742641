/-
  Chapter 26 (Boards): the reference's cuts.
-/
import Derived.Test.YtdalbfanfbeckaaGreatDoorK50
import Derived.Test.YtdalbfanfbeckaaGreatDoorR34
import Derived.Deep.DeepCutAuto
set_option linter.unusedVariables false
set_option linter.unusedSimpArgs false
namespace Go.Proofs.YtdalbfanfbeckaaGreatDoor
open Go.RowKit TrimM

attribute [local go_sem] ExtOf.cell ExtOf.frozen ExtS.cell ExtS.frozen Block.cell Block.frozen ExtB.cell ExtB.frozen alloc_cell alloc_frozen
set_option maxHeartbeats 1600000 in
theorem radd_any (base : Nat) (l : List Sp) (v : Value) (a b : Int) (w : World) (ho : Own encSp 2 23 base w v l) (hb : base ≤ w.heap.size) (hl : l.length ≤ 1000000) : Calls Tryz.prog 45 #[v, .int .i64 a, .int .i64 b] w (AddPost base l v a b w) := by
  obtain ⟨q, c, rfl⟩ := Own.form2 ho
  have HO := Lib.hid ho
  clear ho
  obtain ⟨iP, hiP, hP0, hP1, hP2⟩ := info_parts infoSpan
  by_cases hab : a < b
  · have hab' : decide (b ≤ a) = false := decide_eq_false (by omega)
    have HA : Hid (addS l a b = l ++ [(a, b)]) := Lib.hid (if_pos hab)
    go_enter Tryz.func45, Tryz.ntmps45
    go_wp2_with (at_builtin; refine wl_append1g (enc := encSp) (k := 2) (E := 23) (base := base) (l := l) (y := (a, b)) Tryz.underlying61 hiP hP0 hP1 hP2 rfl (by decide) encSp_len encSp_one rfl rfl (HO.out.alloc _) inferInstance rfl (by unfold maxLen; omega) (by omega) (by simp; omega) ?_; intro v7 n7 ho7 hk7)
    go_ret
    refine ⟨_, rfl, by rw [HA.out]; exact ho7, ?_, fun q' hq hne => ?_, ?_⟩
    · exact Below.trans (Below.alloc (Below.refl _ _) (by omega) _) n7.below
    · rw [hk7.heap q' (by simp; omega) hne, Below.heap_alloc _ _ _ hq]
    · rcases hk7.own with h2 | h2
      · exact .inl h2
      · exact .inr ⟨_, h2, by simp⟩
  · have hab' : decide (b ≤ a) = true := decide_eq_true (by omega)
    have HA : Hid (addS l a b = l) := Lib.hid (if_neg hab)
    go_enter Tryz.func45, Tryz.ntmps45
    go_wp2_with fail
    go_ret
    exact ⟨_, rfl, by rw [HA.out]; exact HO.out, Below.refl _ _, fun _ _ _ => rfl, .inl rfl⟩
set_option maxHeartbeats 6400000 in
set_option maxRecDepth 20000 in
theorem rcuts_any (L : Ln) (hL : L.Fine) (cs : Array Value) (P : List Sp) (vp : Value) (w : World) (h : LineS w L cs) (hp : SpS w vp P) (hP : P.length ≤ 10000) : Calls Tryz.prog 21 #[.agg cs, vp] w (CutsPost L P w) := by
  have HCK : Hid (∀ W, Ext w W → Calls Tryz.prog 44 #[.agg cs] W fun e w' => e = .returned (.int .i64 0) ∧ ∃ n : ExtOf W, w' = n.val) := Lib.hid (fun W hx => rcCheck_ok L hL cs W (LineS.ext h hx))
  obtain ⟨qp, cp, rfl, p1, p2, p3⟩ := SliceOf.form hp
  have HP := Lib.hid hp
  clear hp
  obtain ⟨vs, vg, vc, vd, rfl, h1, h2, h3, h4⟩ := h
  obtain ⟨N, hN⟩ : ∃ N, N = L.sizes.length := ⟨_, rfl⟩
  obtain ⟨ps, cs, rfl, a1, a2, a3⟩ := int_form h1 (n := N) (by rw [List.length_map, hN])
  obtain ⟨pg, cg, rfl, b1, b2, b3⟩ := grid_form h2 (n := N) (by rw [hL.rows, hN])
  obtain ⟨pc, cc, rfl, d1, d2, d3⟩ := int_form h3 (n := L.n) (by rw [List.length_replicate])
  obtain ⟨pd, cd, rfl, e1, e2, e3⟩ := int_form h4 (n := L.n) (by rw [List.length_replicate])
  have HS := Lib.hid h1
  have HG := Lib.hid h2
  have HC := Lib.hid h3
  have HD := Lib.hid h4
  have HF := Lib.hid hL
  have HN := Lib.hid hN
  have hn := hL.n
  have hk := hL.k
  have hs8 : N ≤ 8 := by rw [hN]; exact hL.sizes
  clear h1 h2 h3 h4 hL hN
  unfold maxLen at a2 b2 d2 e2
  unfold maxLen at p2
  have hkL : L.k ≤ 20 := HF.out.k
  go_enter Tryz.func21, Tryz.ntmps21
  go_wp2_with (first | ((with_reducible apply wl_load' lwLine); (· (first | exact wanted_none rfl | exact wanted_some rfl rfl rfl)); (· rfl); (· infer_instance); (· rfl)) | (go_at_call 44; with_reducible refine Calls.mono (HCK.out _ (by repeat' (first | (with_reducible exact Ext.refl _) | (with_reducible exact ExtOf.ext _) | (with_reducible refine Ext.trans ?_ (ExtOf.ext _)) | (with_reducible refine Ext.alloc ?_ _) | (with_reducible refine Ext.drew ?_) | (with_reducible refine Ext.setCell ?_ ?_ _) | (with_reducible refine Ext.setRow ?_ ?_ _) | (with_reducible exact HX.out) | (with_reducible refine Ext.trans ?_ HX.out) | (with_reducible refine Ext.below ?_ (Nat.le_refl _) _) | omega | (simp; done) | (simp; omega)))) ?_; rintro e w' ⟨rfl, nk, rfl⟩))
  obtain ⟨W0, hW0⟩ : ∃ W, W = nk.val := ⟨_, rfl⟩
  have hB0 : Block W0 w.heap.size #[.int .i64 (L.n : Int), .int .i64 (L.k : Int), .int .i64 1, .slice ps N cs, .slice pg N cg, .slice pc L.n cc, .slice pd L.n cd] := by rw [hW0]; infer_instance
  have HX0 : Hid (Ext w W0) := Lib.hid (by rw [hW0]; repeat' (first | (with_reducible exact Ext.refl _) | (with_reducible exact ExtOf.ext _) | (with_reducible refine Ext.trans ?_ (ExtOf.ext _)) | (with_reducible refine Ext.alloc ?_ _) | (with_reducible refine Ext.drew ?_) | (with_reducible refine Ext.setCell ?_ ?_ _) | (with_reducible refine Ext.setRow ?_ ?_ _) | (with_reducible exact HX.out) | (with_reducible refine Ext.trans ?_ HX.out) | (with_reducible refine Ext.below ?_ (Nat.le_refl _) _) | omega | (simp; done) | (simp; omega)))
  have hs0 : w.heap.size + 1 ≤ W0.heap.size := by rw [hW0]; have := nk.size; simpa using this
  rw [← hW0]
  have HB0 := Lib.hid hB0
  clear hW0 nk hB0
  go_loopw [4, 5, 8, 9] (fun v4 v5 v8 v20 wr => ∃ (k : Nat) (e : Int) (d c : List Sp), k ≤ P.length ∧ v20 = .int .i64 (k : Int) ∧ v8 = .int .i64 e ∧ (-1 ≤ e ∧ e ≤ (L.n : Int)) ∧ d.length ≤ 2 * k ∧ c.length ≤ k ∧ L.cuts 0 [] [] P = L.cuts e d c (P.drop k) ∧ Own encSp 2 23 (w.heap.size + 1) wr v4 d ∧ Own encSp 2 23 (w.heap.size + 1) wr v5 c ∧ Apt v4 v5 ∧ Below (w.heap.size + 1) W0 wr) (fun _ _ _ v _ => P.length - (intOf v).toNat)
  case atStart => exact ⟨0, 0, [], [], by omega, rfl, rfl, by omega, by simp, by simp, rfl, Own.nil _, Own.nil _, Apt.nil _, Below.refl _ _⟩
  case round =>
    obtain ⟨k, e, d, c, hk, rfl, rfl, he, hd1, hc1, hcut, ho4, ho5, hapt, hbel⟩ := hrel
    have HBE := Lib.hid hbel
    have HX : Hid (Ext w wr) := Lib.hid (Below.trans HX0.out (Below.mono hbel (by omega)))
    have hszr := hbel.size
    have hB := Block.below HB0.out hbel (Nat.lt_succ_self _)
    have ob := hB.old
    have HO4 := Lib.hid ho4
    have HO5 := Lib.hid ho5
    have HAP := Lib.hid hapt
    have HCU := Lib.hid hcut
    clear hbel ho4 ho5 hapt hcut
    obtain ⟨q4, c4, rfl⟩ := Own.form2 HO4.out
    obtain ⟨q5, c5, rfl⟩ := Own.form2 HO5.out
    by_cases hlt : k < P.length
    · obtain ⟨b0, f0, rfl, r0⟩ := SliceOf.elemK (SliceOf.ext HP.out HX.out) hlt
      obtain ⟨⟨i, a⟩, hia⟩ : ∃ z, P[k] = z := ⟨_, rfl⟩
      rw [hia] at r0
      replace r0 : wr.rangeAt b0 (f0 + k * 2) [.int .i64 i, .int .i64 a] := r0
      have HST := Lib.hid (cuts_step (L := L) (e := e) (d := d) (c := c) hlt hia)
      have HER : Hid (∀ E : Int, E ≠ 0 → L.pieceE e (i, a) = E → L.cuts 0 [] [] P = (E, [], [])) := Lib.hid (fun E h0 h1 => by rw [HCU.out, HST.out, if_neg (by rw [h1]; exact h0), h1])
      clear hia
      go_upto_region 9 with (first | ((with_reducible apply wl_store' lwPiece); (· (first | exact wanted_none rfl | exact wanted_some rfl rfl rfl)); (· rfl); (· rfl); (· infer_instance); (· rfl); (· rfl); (· (simp [Value.oneCell'])); try simp only [setRow_alloc, setRow_new, setRow_new1, setRow_new2, setRow_new11, setRow_new111]) | ((with_reducible apply wl_load' lwLine); (· (first | exact wanted_none rfl | exact wanted_some rfl rfl rfl)); (· rfl); (· infer_instance); (· rfl)) | ((with_reducible apply wl_load' lwPiece); (· (first | exact wanted_none rfl | exact wanted_some rfl rfl rfl)); (· rfl); (· infer_instance); (· rfl)) | ((with_reducible apply wl_loadM midPiece r0); (· rfl); (· (first | exact wanted_none rfl | exact wanted_some rfl rfl rfl)); (· rfl)))
      obtain ⟨gx, hgx⟩ : ∃ g, g = wr.heap.size := ⟨_, rfl⟩
      refine nameW (R := fun W => Code.wp _ _ _ _ W) (fun W => Hid (Ext wr W) ∧ Block W w.heap.size #[.int .i64 (L.n : Int), .int .i64 (L.k : Int), .int .i64 1, .slice ps N cs, .slice pg N cg, .slice pc L.n cc, .slice pd L.n cd] ∧ Block W wr.heap.size #[.int .i64 i, .int .i64 a]) ⟨Lib.hid (by repeat' (first | (with_reducible exact Ext.refl _) | (with_reducible exact ExtOf.ext _) | (with_reducible refine Ext.trans ?_ (ExtOf.ext _)) | (with_reducible refine Ext.alloc ?_ _) | (with_reducible refine Ext.drew ?_) | omega | (simp; omega))), inferInstance, inferInstance⟩ ?_
      rw [← hgx]
      rintro W1 ⟨HE1, hB1, hX1⟩
      have hs1 := HE1.out.size
      have hgx1 : wr.heap.size ≤ gx := by omega
      have ob1 := hB1.old
      have ox1 := hX1.old
      have HBE1 : Hid (Below (w.heap.size + 1) W0 W1) := Lib.hid (Below.trans HBE.out (Below.mono HE1.out (by omega)))
      have HX1 : Hid (Ext w W1) := Lib.hid (HX.out.trans HE1.out)
      have HO41 := Lib.hid (HO4.out.ext HE1.out)
      have HO51 := Lib.hid (HO5.out.ext HE1.out)
      have HO4S := HO4
      have HO5S := HO5
      clear hgx hB ob r0 HO4 HO5 HBE HX
      have HX := HX1
      have hNl : (N : Int) = (L.sizes.length : Int) := by rw [HN.out]
      by_cases i1 : i < 0
      · have HFI : Hid (L.cuts 0 [] [] P = (9, [], [])) := Lib.hid (HER.out 9 (by decide) (if_pos (Or.inl i1)))
        clear hNl
        go_wp2_with fail
        exact bodyPost_ret (v := .tuple #[.slice none 0 0, .slice none 0 0, .int .i64 9]) (by simp [results, Tryz.results21, go_sem]) rfl ⟨_, _, by rw [HFI.out], by rw [HFI.out]; exact Own.nil _, by rw [HFI.out]; exact Own.nil _, Apt.nil _, by exact ExtOf.of (by repeat' (first | (with_reducible exact Ext.refl _) | (with_reducible exact ExtOf.ext _) | (with_reducible refine Ext.trans ?_ (ExtOf.ext _)) | (with_reducible refine Ext.alloc ?_ _) | (with_reducible refine Ext.drew ?_) | (with_reducible refine Ext.setCell ?_ ?_ _) | (with_reducible refine Ext.setRow ?_ ?_ _) | (with_reducible exact HX.out) | (with_reducible refine Ext.trans ?_ HX.out) | (with_reducible refine Ext.below ?_ (Nat.le_refl _) _) | omega | (simp; done) | (simp; omega)))⟩
      by_cases i2 : (N : Int) ≤ i
      · have HFI : Hid (L.cuts 0 [] [] P = (9, [], [])) := Lib.hid (HER.out 9 (by decide) (if_pos (Or.inr (by show _ ≤ i; omega))))
        clear hNl
        go_wp2_with fail
        exact bodyPost_ret (v := .tuple #[.slice none 0 0, .slice none 0 0, .int .i64 9]) (by simp [results, Tryz.results21, go_sem]) rfl ⟨_, _, by rw [HFI.out], by rw [HFI.out]; exact Own.nil _, by rw [HFI.out]; exact Own.nil _, Apt.nil _, by exact ExtOf.of (by repeat' (first | (with_reducible exact Ext.refl _) | (with_reducible exact ExtOf.ext _) | (with_reducible refine Ext.trans ?_ (ExtOf.ext _)) | (with_reducible refine Ext.alloc ?_ _) | (with_reducible refine Ext.drew ?_) | (with_reducible refine Ext.setCell ?_ ?_ _) | (with_reducible refine Ext.setRow ?_ ?_ _) | (with_reducible exact HX.out) | (with_reducible refine Ext.trans ?_ HX.out) | (with_reducible refine Ext.below ?_ (Nat.le_refl _) _) | omega | (simp; done) | (simp; omega)))⟩
      obtain ⟨ki, rfl⟩ : ∃ q : Nat, i = (q : Int) := ⟨i.toNat, by omega⟩
      have hkiN : ki < N := by omega
      have hki : ki < L.sizes.length := by omega
      have hls : ki < (L.sizes.map fun s : Nat => (s : Int)).length := by rw [List.length_map]; exact hki
      obtain ⟨sz, hsz⟩ : ∃ s, s = L.size ki := ⟨_, rfl⟩
      have hszx : (L.sizes.map fun s : Nat => (s : Int))[ki] = (sz : Int) := by
        rw [List.getElem_map, hsz]; unfold Ln.size; rw [List.getElem?_eq_getElem hki]; rfl
      have hszb : 1 ≤ sz ∧ sz ≤ 2000 := by
        have := HF.out.size (L.sizes[ki]) (List.getElem_mem _)
        rw [hsz]; unfold Ln.size; rw [List.getElem?_eq_getElem hki]; exact this
      obtain ⟨bs, os, hbs, obs, c1⟩ := int_elem (SliceOf.ext HS.out HX.out) hls hszx
      subst hbs
      have HSZ := Lib.hid hsz
      have HKI := Lib.hid hki
      have HHB := Lib.hid hszb
      have HA : Hid (L.pieceE e ((ki : Int), a) = if a < 0 ∨ (L.n : Int) - sz < a then 20 else if e < 0 ∨ a ≠ e ∧ a - L.k - e < 1 then 11 else if L.gain ki a.toNat < 0 then 14 else 0) := Lib.hid (by
        unfold Ln.pieceE
        simp only [Int.toNat_natCast]
        rw [if_neg (by omega), HSZ.out])
      have i3 : ¬ (N : Int) ≤ (ki : Int) := by omega
      clear hNl i1 i2 hsz hszx hls hki
      go_upto_region 12 with fail
      by_cases a1 : a < 0
      · have HFI : Hid (L.cuts 0 [] [] P = (20, [], [])) := Lib.hid (HER.out 20 (by decide) (by rw [HA.out, if_pos (Or.inl a1)]))
        go_wp2_with fail
        exact bodyPost_ret (v := .tuple #[.slice none 0 0, .slice none 0 0, .int .i64 20]) (by simp [results, Tryz.results21, go_sem]) rfl ⟨_, _, by rw [HFI.out], by rw [HFI.out]; exact Own.nil _, by rw [HFI.out]; exact Own.nil _, Apt.nil _, by exact ExtOf.of (by repeat' (first | (with_reducible exact Ext.refl _) | (with_reducible exact ExtOf.ext _) | (with_reducible refine Ext.trans ?_ (ExtOf.ext _)) | (with_reducible refine Ext.alloc ?_ _) | (with_reducible refine Ext.drew ?_) | (with_reducible refine Ext.setCell ?_ ?_ _) | (with_reducible refine Ext.setRow ?_ ?_ _) | (with_reducible exact HX.out) | (with_reducible refine Ext.trans ?_ HX.out) | (with_reducible refine Ext.below ?_ (Nat.le_refl _) _) | omega | (simp; done) | (simp; omega)))⟩
      by_cases a2 : (L.n : Int) - (sz : Int) < a
      · have HFI : Hid (L.cuts 0 [] [] P = (20, [], [])) := Lib.hid (HER.out 20 (by decide) (by rw [HA.out, if_pos (Or.inr a2)]))
        go_wp2_with fail
        exact bodyPost_ret (v := .tuple #[.slice none 0 0, .slice none 0 0, .int .i64 20]) (by simp [results, Tryz.results21, go_sem]) rfl ⟨_, _, by rw [HFI.out], by rw [HFI.out]; exact Own.nil _, by rw [HFI.out]; exact Own.nil _, Apt.nil _, by exact ExtOf.of (by repeat' (first | (with_reducible exact Ext.refl _) | (with_reducible exact ExtOf.ext _) | (with_reducible refine Ext.trans ?_ (ExtOf.ext _)) | (with_reducible refine Ext.alloc ?_ _) | (with_reducible refine Ext.drew ?_) | (with_reducible refine Ext.setCell ?_ ?_ _) | (with_reducible refine Ext.setRow ?_ ?_ _) | (with_reducible exact HX.out) | (with_reducible refine Ext.trans ?_ HX.out) | (with_reducible refine Ext.below ?_ (Nat.le_refl _) _) | omega | (simp; done) | (simp; omega)))⟩
      go_upto_region 15 with fail
      by_cases e1 : e < 0
      · have HFI : Hid (L.cuts 0 [] [] P = (11, [], [])) := Lib.hid (HER.out 11 (by decide) (by rw [HA.out, if_neg (by omega), if_pos (Or.inl e1)]))
        go_wp2_with fail
        exact bodyPost_ret (v := .tuple #[.slice none 0 0, .slice none 0 0, .int .i64 11]) (by simp [results, Tryz.results21, go_sem]) rfl ⟨_, _, by rw [HFI.out], by rw [HFI.out]; exact Own.nil _, by rw [HFI.out]; exact Own.nil _, Apt.nil _, by exact ExtOf.of (by repeat' (first | (with_reducible exact Ext.refl _) | (with_reducible exact ExtOf.ext _) | (with_reducible refine Ext.trans ?_ (ExtOf.ext _)) | (with_reducible refine Ext.alloc ?_ _) | (with_reducible refine Ext.drew ?_) | (with_reducible refine Ext.setCell ?_ ?_ _) | (with_reducible refine Ext.setRow ?_ ?_ _) | (with_reducible exact HX.out) | (with_reducible refine Ext.trans ?_ HX.out) | (with_reducible refine Ext.below ?_ (Nat.le_refl _) _) | omega | (simp; done) | (simp; omega)))⟩
      by_cases e2 : a = e
      · have e2' : (a != e) = false := by rw [e2]; simp
        obtain ⟨ai, rfl⟩ : ∃ q : Nat, a = (q : Int) := ⟨a.toNat, by omega⟩
        obtain ⟨R, hR1, hR2⟩ := HF.out.row ki HKI.out
        have hkr : ki < L.rows.length := by rw [HF.out.rows]; exact HKI.out
        obtain ⟨bg, og, rp, rc, hbg, obg, cg1, hr⟩ := GridI.row (GridI.ext HG.out HX.out) hkr
        subst hbg
        have hRR : L.rows[ki] = R := by rw [List.getElem?_eq_getElem hkr] at hR1; exact Option.some.inj hR1
        rw [hRR] at cg1 hr
        have har : ai < R.length := by rw [hR2, ← HSZ.out]; omega
        obtain ⟨G, hG⟩ : ∃ g, g = L.gain ki ai := ⟨_, rfl⟩
        have hRa : R[ai] = G := by
          rw [hG]
          unfold Ln.gain
          rw [hR1]
          show _ = R[ai]?.getD (-1)
          rw [List.getElem?_eq_getElem har]; rfl
        obtain ⟨br, orr, hbr, obr, cr1⟩ := int_elem hr har hRa
        subst hbr
        obtain ⟨RL, hRL⟩ : ∃ n, n = R.length := ⟨_, rfl⟩
        rw [← hRL] at cg1 har
        have HGG := Lib.hid hG
        clear hRR hr hRa hR1 hR2 hRL hG hkr
        by_cases g1 : G < 0
        · have HFI : Hid (L.cuts 0 [] [] P = (14, [], [])) := Lib.hid (HER.out 14 (by decide) (by rw [HA.out, if_neg (by omega), if_neg (by omega), Int.toNat_natCast, ← HGG.out, if_pos g1]))
          clear e2
          go_wp2_with (first | ((with_reducible apply wl_store' lwPiece); (· (first | exact wanted_none rfl | exact wanted_some rfl rfl rfl)); (· rfl); (· rfl); (· infer_instance); (· rfl); (· rfl); (· (simp [Value.oneCell'])); try simp only [setRow_alloc, setRow_new, setRow_new1, setRow_new2, setRow_new11, setRow_new111]) | ((with_reducible apply wl_load' lwLine); (· (first | exact wanted_none rfl | exact wanted_some rfl rfl rfl)); (· rfl); (· infer_instance); (· rfl)) | ((with_reducible apply wl_load' lwPiece); (· (first | exact wanted_none rfl | exact wanted_some rfl rfl rfl)); (· rfl); (· infer_instance); (· rfl)) | ((with_reducible apply wl_loadM midPiece r0); (· rfl); (· (first | exact wanted_none rfl | exact wanted_some rfl rfl rfl)); (· rfl)))
          refine wp_region_ext (by kernel_rfl) (by kernel_rfl) ?_
          repeat (first | go_big_quiet_skip | go_big_quiet_step (fail))
          refine wpQuiet_nil ?_
          intro _ hw'
          obtain ⟨nq, hw''⟩ := hw'
          subst hw''
          go_wp2_with fail
          exact bodyPost_ret (v := .tuple #[.slice none 0 0, .slice none 0 0, .int .i64 14]) (by simp [results, Tryz.results21, go_sem]) rfl ⟨_, _, by rw [HFI.out], by rw [HFI.out]; exact Own.nil _, by rw [HFI.out]; exact Own.nil _, Apt.nil _, by exact ExtOf.of (by repeat' (first | (with_reducible exact Ext.refl _) | (with_reducible exact ExtOf.ext _) | (with_reducible refine Ext.trans ?_ (ExtOf.ext _)) | (with_reducible refine Ext.alloc ?_ _) | (with_reducible refine Ext.drew ?_) | (with_reducible refine Ext.setCell ?_ ?_ _) | (with_reducible refine Ext.setRow ?_ ?_ _) | (with_reducible exact HX.out) | (with_reducible refine Ext.trans ?_ HX.out) | (with_reducible refine Ext.below ?_ (Nat.le_refl _) _) | omega | (simp; done) | (simp; omega)))⟩
        have hz : L.pieceE e ((ki : Int), (ai : Int)) = 0 := by rw [HA.out, if_neg (by omega), if_neg (by omega), Int.toNat_natCast, ← HGG.out, if_neg g1]
        have hst : L.stop ((ki : Int), (ai : Int)) = (ai : Int) + (sz : Int) := by unfold Ln.stop; simp only [Int.toNat_natCast]; rw [HSZ.out]
        obtain ⟨eb, heb⟩ : ∃ b, b = L.behind ((ai : Int) + (sz : Int)) := ⟨_, rfl⟩
        have hebb : -1 ≤ eb ∧ eb ≤ (L.n : Int) := by rw [heb]; unfold Ln.behind; split <;> omega
        have HNX : Hid (L.cuts 0 [] [] P = L.cuts eb (addS (if e < (ai : Int) then addS d ((ai : Int) - L.k) (ai : Int) else d) ((ai : Int) + (sz : Int)) eb) (if e < (ai : Int) then addS c e ((ai : Int) - L.k) else c) (P.drop (k + 1))) := Lib.hid (by
          rw [HCU.out, HST.out, if_pos hz, hst, ← heb]
          unfold Ln.dustA Ln.chipsA
          rw [hst, ← heb])
        have HEB := Lib.hid heb
        clear heb hst hz
        have t : ¬ e < (ai : Int) := by omega
        have t' : decide (e < (ai : Int)) = false := decide_eq_false t
        have HNY : Hid (L.cuts 0 [] [] P = L.cuts eb (addS d ((ai : Int) + (sz : Int)) eb) c (P.drop (k + 1))) := Lib.hid (by rw [HNX.out, if_neg t, if_neg t])
        clear e2
        go_wp2_with (first | ((with_reducible apply wl_store' lwPiece); (· (first | exact wanted_none rfl | exact wanted_some rfl rfl rfl)); (· rfl); (· rfl); (· infer_instance); (· rfl); (· rfl); (· (simp [Value.oneCell'])); try simp only [setRow_alloc, setRow_new, setRow_new1, setRow_new2, setRow_new11, setRow_new111]) | ((with_reducible apply wl_load' lwLine); (· (first | exact wanted_none rfl | exact wanted_some rfl rfl rfl)); (· rfl); (· infer_instance); (· rfl)) | ((with_reducible apply wl_load' lwPiece); (· (first | exact wanted_none rfl | exact wanted_some rfl rfl rfl)); (· rfl); (· infer_instance); (· rfl)) | ((with_reducible apply wl_loadM midPiece r0); (· rfl); (· (first | exact wanted_none rfl | exact wanted_some rfl rfl rfl)); (· rfl)))
        refine wp_region_ext (by kernel_rfl) (by kernel_rfl) ?_
        repeat (first | go_big_quiet_skip | go_big_quiet_step (fail))
        refine wpQuiet_nil ?_
        intro _ hw'
        obtain ⟨nq, hw''⟩ := hw'
        subst hw''
        have HOD : Hid (Own encSp 2 23 (w.heap.size + 1) nq.val (.slice q4 d.length c4) d) := Lib.hid (HO41.out.ext (ExtOf.ext nq))
        have HOC : Hid (Own encSp 2 23 (w.heap.size + 1) nq.val (.slice q5 c.length c5) c) := Lib.hid (HO51.out.ext (ExtOf.ext nq))
        have bX2 : Block nq.val gx #[.int .i64 (ki : Int), .int .i64 (ai : Int)] := inferInstance
        have hsn : wr.heap.size ≤ nq.val.heap.size := Nat.le_trans hs1 nq.size
        have HB2 : Hid (Below (w.heap.size + 1) W0 nq.val) := Lib.hid (Below.trans HBE1.out (Below.mono nq.ext (by omega)))
        have HAP2 := HAP
        obtain ⟨dd, hdd⟩ : ∃ x, x = d := ⟨_, rfl⟩
        obtain ⟨cx, hcx⟩ : ∃ x, x = c := ⟨_, rfl⟩
        have hl1 : dd.length ≤ d.length + 1 := by rw [hdd]; omega
        have hl2 : cx.length ≤ c.length + 1 := by rw [hcx]; omega
        rw [← hdd] at HOD HNY HAP2 ⊢
        rw [← hcx] at HOC HNY HAP2 ⊢
        generalize nq.val = w2 at *
        clear hdd hcx nq hB1 ob1
        have hBl2 := Block.below HB0.out HB2.out (Nat.lt_succ_self _)
        have obl2 := hBl2.old
        have obx2 := bX2.old
        have HXW2 : Hid (Ext w w2) := Lib.hid (Below.trans HX0.out (Below.mono HB2.out (by omega)))
        have hs2 := HB2.out.size
        by_cases hq : (ai : Int) + (sz : Int) = (L.n : Int)
        · have hq' : (((ai : Int) + (sz : Int)) == (L.n : Int)) = true := beq_iff_eq.2 hq
          have HNZ : Hid (L.cuts 0 [] [] P = L.cuts (-1) dd cx (P.drop (k + 1))) := Lib.hid (by
            have e1 : eb = -1 := by rw [HEB.out]; unfold Ln.behind; rw [if_pos hq]
            have e2 : addS dd ((ai : Int) + (sz : Int)) eb = dd := by unfold addS; rw [if_neg (by omega)]
            rw [HNY.out, e2, e1])
          go_wp2_with fail
          go_roundw
          case rel => exact ⟨k + 1, -1, dd, cx, by omega, by first | rfl | go_num, rfl, by omega, by omega, by omega, HNZ.out, HOD.out, HOC.out, HAP2.out, HB2.out⟩
          case measure => simp [intOf]; omega
        · have hq' : (((ai : Int) + (sz : Int)) == (L.n : Int)) = false := beq_eq_false_iff_ne.2 hq
          have he1 : min ((ai : Int) + (sz : Int) + (L.k : Int)) (L.n : Int) = eb := by rw [HEB.out]; unfold Ln.behind; rw [if_neg hq]
          go_wp2_with fail
          refine (radd_any (w.heap.size + 1) dd _ ((ai : Int) + (sz : Int)) eb _ HOD.out (by omega) (by omega)).mono ?_
          rintro e' w3 ⟨v3, rfl, ho3, kp3⟩
          have hl3 := addS_len dd ((ai : Int) + (sz : Int)) eb
          have HF3 := Lib.hid (And.intro ho3 (And.intro (kp3.other HOC.out HAP2.out) (And.intro (kp3.apt HOC.out HAP2.out) (Below.trans HB2.out kp3.bel))))
          clear ho3 kp3
          go_wp2_with fail
          go_roundw
          case rel => exact ⟨k + 1, eb, addS dd ((ai : Int) + (sz : Int)) eb, cx, by omega, by first | rfl | go_num, rfl, hebb, by omega, by omega, HNY.out, HF3.out.1, HF3.out.2.1, HF3.out.2.2.1, HF3.out.2.2.2⟩
          case measure => simp [intOf]; omega
      by_cases e3 : a - (L.k : Int) - e < 1
      · have HFI : Hid (L.cuts 0 [] [] P = (11, [], [])) := Lib.hid (HER.out 11 (by decide) (by rw [HA.out, if_neg (by omega), if_pos (Or.inr ⟨e2, e3⟩)]))
        have e2' : (a != e) = true := bne_iff_ne.2 e2
        clear e2
        go_wp2_with fail
        exact bodyPost_ret (v := .tuple #[.slice none 0 0, .slice none 0 0, .int .i64 11]) (by simp [results, Tryz.results21, go_sem]) rfl ⟨_, _, by rw [HFI.out], by rw [HFI.out]; exact Own.nil _, by rw [HFI.out]; exact Own.nil _, Apt.nil _, by exact ExtOf.of (by repeat' (first | (with_reducible exact Ext.refl _) | (with_reducible exact ExtOf.ext _) | (with_reducible refine Ext.trans ?_ (ExtOf.ext _)) | (with_reducible refine Ext.alloc ?_ _) | (with_reducible refine Ext.drew ?_) | (with_reducible refine Ext.setCell ?_ ?_ _) | (with_reducible refine Ext.setRow ?_ ?_ _) | (with_reducible exact HX.out) | (with_reducible refine Ext.trans ?_ HX.out) | (with_reducible refine Ext.below ?_ (Nat.le_refl _) _) | omega | (simp; done) | (simp; omega)))⟩
      have e2' : (a != e) = true := bne_iff_ne.2 e2
      obtain ⟨ai, rfl⟩ : ∃ q : Nat, a = (q : Int) := ⟨a.toNat, by omega⟩
      obtain ⟨R, hR1, hR2⟩ := HF.out.row ki HKI.out
      have hkr : ki < L.rows.length := by rw [HF.out.rows]; exact HKI.out
      obtain ⟨bg, og, rp, rc, hbg, obg, cg1, hr⟩ := GridI.row (GridI.ext HG.out HX.out) hkr
      subst hbg
      have hRR : L.rows[ki] = R := by rw [List.getElem?_eq_getElem hkr] at hR1; exact Option.some.inj hR1
      rw [hRR] at cg1 hr
      have har : ai < R.length := by rw [hR2, ← HSZ.out]; omega
      obtain ⟨G, hG⟩ : ∃ g, g = L.gain ki ai := ⟨_, rfl⟩
      have hRa : R[ai] = G := by
        rw [hG]
        unfold Ln.gain
        rw [hR1]
        show _ = R[ai]?.getD (-1)
        rw [List.getElem?_eq_getElem har]; rfl
      obtain ⟨br, orr, hbr, obr, cr1⟩ := int_elem hr har hRa
      subst hbr
      obtain ⟨RL, hRL⟩ : ∃ n, n = R.length := ⟨_, rfl⟩
      rw [← hRL] at cg1 har
      have HGG := Lib.hid hG
      clear hRR hr hRa hR1 hR2 hRL hG hkr
      by_cases g1 : G < 0
      · have HFI : Hid (L.cuts 0 [] [] P = (14, [], [])) := Lib.hid (HER.out 14 (by decide) (by rw [HA.out, if_neg (by omega), if_neg (by omega), Int.toNat_natCast, ← HGG.out, if_pos g1]))
        clear e2
        go_wp2_with (first | ((with_reducible apply wl_store' lwPiece); (· (first | exact wanted_none rfl | exact wanted_some rfl rfl rfl)); (· rfl); (· rfl); (· infer_instance); (· rfl); (· rfl); (· (simp [Value.oneCell'])); try simp only [setRow_alloc, setRow_new, setRow_new1, setRow_new2, setRow_new11, setRow_new111]) | ((with_reducible apply wl_load' lwLine); (· (first | exact wanted_none rfl | exact wanted_some rfl rfl rfl)); (· rfl); (· infer_instance); (· rfl)) | ((with_reducible apply wl_load' lwPiece); (· (first | exact wanted_none rfl | exact wanted_some rfl rfl rfl)); (· rfl); (· infer_instance); (· rfl)) | ((with_reducible apply wl_loadM midPiece r0); (· rfl); (· (first | exact wanted_none rfl | exact wanted_some rfl rfl rfl)); (· rfl)))
        refine wp_region_ext (by kernel_rfl) (by kernel_rfl) ?_
        repeat (first | go_big_quiet_skip | go_big_quiet_step (fail))
        refine wpQuiet_nil ?_
        intro _ hw'
        obtain ⟨nq, hw''⟩ := hw'
        subst hw''
        go_wp2_with fail
        exact bodyPost_ret (v := .tuple #[.slice none 0 0, .slice none 0 0, .int .i64 14]) (by simp [results, Tryz.results21, go_sem]) rfl ⟨_, _, by rw [HFI.out], by rw [HFI.out]; exact Own.nil _, by rw [HFI.out]; exact Own.nil _, Apt.nil _, by exact ExtOf.of (by repeat' (first | (with_reducible exact Ext.refl _) | (with_reducible exact ExtOf.ext _) | (with_reducible refine Ext.trans ?_ (ExtOf.ext _)) | (with_reducible refine Ext.alloc ?_ _) | (with_reducible refine Ext.drew ?_) | (with_reducible refine Ext.setCell ?_ ?_ _) | (with_reducible refine Ext.setRow ?_ ?_ _) | (with_reducible exact HX.out) | (with_reducible refine Ext.trans ?_ HX.out) | (with_reducible refine Ext.below ?_ (Nat.le_refl _) _) | omega | (simp; done) | (simp; omega)))⟩
      have hz : L.pieceE e ((ki : Int), (ai : Int)) = 0 := by rw [HA.out, if_neg (by omega), if_neg (by omega), Int.toNat_natCast, ← HGG.out, if_neg g1]
      have hst : L.stop ((ki : Int), (ai : Int)) = (ai : Int) + (sz : Int) := by unfold Ln.stop; simp only [Int.toNat_natCast]; rw [HSZ.out]
      obtain ⟨eb, heb⟩ : ∃ b, b = L.behind ((ai : Int) + (sz : Int)) := ⟨_, rfl⟩
      have hebb : -1 ≤ eb ∧ eb ≤ (L.n : Int) := by rw [heb]; unfold Ln.behind; split <;> omega
      have HNX : Hid (L.cuts 0 [] [] P = L.cuts eb (addS (if e < (ai : Int) then addS d ((ai : Int) - L.k) (ai : Int) else d) ((ai : Int) + (sz : Int)) eb) (if e < (ai : Int) then addS c e ((ai : Int) - L.k) else c) (P.drop (k + 1))) := Lib.hid (by
        rw [HCU.out, HST.out, if_pos hz, hst, ← heb]
        unfold Ln.dustA Ln.chipsA
        rw [hst, ← heb])
      have HEB := Lib.hid heb
      clear heb hst hz
      have t : e < (ai : Int) := by omega
      have t' : decide (e < (ai : Int)) = true := decide_eq_true t
      clear e2
      obtain ⟨am, ham⟩ : ∃ z, e + ((ai : Int) - (L.k : Int) - e) = z := ⟨_, rfl⟩
      have HAM : Hid (am = (ai : Int) - (L.k : Int)) := Lib.hid (by omega)
      go_wp2_with (first | ((with_reducible apply wl_store' lwPiece); (· (first | exact wanted_none rfl | exact wanted_some rfl rfl rfl)); (· rfl); (· rfl); (· infer_instance); (· rfl); (· rfl); (· (simp [Value.oneCell'])); try simp only [setRow_alloc, setRow_new, setRow_new1, setRow_new2, setRow_new11, setRow_new111]) | ((with_reducible apply wl_load' lwLine); (· (first | exact wanted_none rfl | exact wanted_some rfl rfl rfl)); (· rfl); (· infer_instance); (· rfl)) | ((with_reducible apply wl_load' lwPiece); (· (first | exact wanted_none rfl | exact wanted_some rfl rfl rfl)); (· rfl); (· infer_instance); (· rfl)) | ((with_reducible apply wl_loadM midPiece r0); (· rfl); (· (first | exact wanted_none rfl | exact wanted_some rfl rfl rfl)); (· rfl)))
      refine wp_region_ext (by kernel_rfl) (by kernel_rfl) ?_
      repeat (first | go_big_quiet_skip | go_big_quiet_step (fail))
      refine wpQuiet_nil ?_
      intro _ hw'
      obtain ⟨nq, hw''⟩ := hw'
      subst hw''
      have oD : Own encSp 2 23 (w.heap.size + 1) nq.val (.slice q4 d.length c4) d := HO41.out.ext (ExtOf.ext nq)
      have oC : Own encSp 2 23 (w.heap.size + 1) nq.val (.slice q5 c.length c5) c := HO51.out.ext (ExtOf.ext nq)
      have bX : Block nq.val gx #[.int .i64 (ki : Int), .int .i64 (ai : Int)] := inferInstance
      have hsn : wr.heap.size ≤ nq.val.heap.size := Nat.le_trans hs1 nq.size
      have hbn : Below (w.heap.size + 1) W0 nq.val := Below.trans HBE1.out (Below.mono nq.ext (by omega))
      go_wp2_with fail
      refine (radd_any (w.heap.size + 1) c _ e am _ oC (by omega) (by omega)).mono ?_
      rintro e' w1 ⟨v1, rfl, ho1, kp1⟩
      have oD1 := kp1.other oD (Apt.symm HAP.out)
      have ap1 := kp1.apt oD (Apt.symm HAP.out)
      have bX1 := kp1.block bX (Own.block_lt HO5S.out hgx1)
      have hb1 : Below (w.heap.size + 1) W0 w1 := Below.trans hbn kp1.bel
      have hs1' := kp1.bel.size
      have HH1 := Lib.hid (And.intro ho1 (And.intro oD1 ap1))
      have HBB1 := Lib.hid hb1
      have hBl1 := Block.below HB0.out hb1 (Nat.lt_succ_self _)
      have obl1 := hBl1.old
      have obx1 := bX1.old
      clear ho1 oD1 ap1 kp1 hb1 oC oD bX hbn hB1 ob1
      go_wp2_with fail
      refine (radd_any (w.heap.size + 1) d _ am (ai : Int) _ HH1.out.2.1 (by omega) (by omega)).mono ?_
      rintro e' w2 ⟨v2, rfl, ho2, kp2⟩
      have oC2 := kp2.other HH1.out.1 (Apt.symm HH1.out.2.2)
      have ap2 := kp2.apt HH1.out.1 (Apt.symm HH1.out.2.2)
      have bX2 := kp2.block bX1 (Own.block_lt HO4S.out hgx1)
      have hb2 : Below (w.heap.size + 1) W0 w2 := Below.trans HBB1.out kp2.bel
      have HOD := Lib.hid ho2
      have HOC := Lib.hid oC2
      have HAP2 := Lib.hid ap2
      have HB2 := Lib.hid hb2
      have hl1 := addS_len d am (ai : Int)
      have hl2 := addS_len c e am
      have HNY : Hid (L.cuts 0 [] [] P = L.cuts eb (addS (addS d am (ai : Int)) ((ai : Int) + (sz : Int)) eb) (addS c e am) (P.drop (k + 1))) := Lib.hid (by rw [HNX.out, if_pos t, if_pos t, HAM.out])
      obtain ⟨dd, hdd⟩ : ∃ x, x = addS d am (ai : Int) := ⟨_, rfl⟩
      obtain ⟨cx, hcx⟩ : ∃ x, x = addS c e am := ⟨_, rfl⟩
      rw [← hdd] at HOD HNY hl1
      rw [← hcx] at HOC HNY hl2
      clear hdd hcx ho2 kp2 oC2 ap2 hb2 HH1 HBB1 hBl1 obl1 obx1 bX1
      have hBl2 := Block.below HB0.out HB2.out (Nat.lt_succ_self _)
      have obl2 := hBl2.old
      have obx2 := bX2.old
      have HXW2 : Hid (Ext w w2) := Lib.hid (Below.trans HX0.out (Below.mono HB2.out (by omega)))
      have hs2 := HB2.out.size
      by_cases hq : (ai : Int) + (sz : Int) = (L.n : Int)
      · have hq' : (((ai : Int) + (sz : Int)) == (L.n : Int)) = true := beq_iff_eq.2 hq
        have HNZ : Hid (L.cuts 0 [] [] P = L.cuts (-1) dd cx (P.drop (k + 1))) := Lib.hid (by
          have e1 : eb = -1 := by rw [HEB.out]; unfold Ln.behind; rw [if_pos hq]
          have e2 : addS dd ((ai : Int) + (sz : Int)) eb = dd := by unfold addS; rw [if_neg (by omega)]
          rw [HNY.out, e2, e1])
        go_wp2_with fail
        go_roundw
        case rel => exact ⟨k + 1, -1, dd, cx, by omega, by first | rfl | go_num, rfl, by omega, by omega, by omega, HNZ.out, HOD.out, HOC.out, HAP2.out, HB2.out⟩
        case measure => simp [intOf]; omega
      · have hq' : (((ai : Int) + (sz : Int)) == (L.n : Int)) = false := beq_eq_false_iff_ne.2 hq
        have he1 : min ((ai : Int) + (sz : Int) + (L.k : Int)) (L.n : Int) = eb := by rw [HEB.out]; unfold Ln.behind; rw [if_neg hq]
        go_wp2_with fail
        refine (radd_any (w.heap.size + 1) dd _ ((ai : Int) + (sz : Int)) eb _ HOD.out (by omega) (by omega)).mono ?_
        rintro e' w3 ⟨v3, rfl, ho3, kp3⟩
        have hl3 := addS_len dd ((ai : Int) + (sz : Int)) eb
        have HF3 := Lib.hid (And.intro ho3 (And.intro (kp3.other HOC.out HAP2.out) (And.intro (kp3.apt HOC.out HAP2.out) (Below.trans HB2.out kp3.bel))))
        clear ho3 kp3
        go_wp2_with fail
        go_roundw
        case rel => exact ⟨k + 1, eb, addS dd ((ai : Int) + (sz : Int)) eb, cx, by omega, by first | rfl | go_num, rfl, hebb, by omega, by omega, HNY.out, HF3.out.1, HF3.out.2.1, HF3.out.2.2.1, HF3.out.2.2.2⟩
        case measure => simp [intOf]; omega
    · have hnil : P.drop k = [] := List.drop_of_length_le (by omega)
      have HFI : Hid (L.cuts 0 [] [] P = (0, d, if 0 ≤ e then addS c e L.n else c)) := Lib.hid (by rw [HCU.out, hnil, Ln.cuts])
      clear hnil
      by_cases h0 : 0 ≤ e
      · have h0' : decide (0 ≤ e) = true := decide_eq_true h0
        go_wp2_with fail
        refine (radd_any (w.heap.size + 1) c _ e (L.n : Int) _ HO5.out (by omega) (by omega)).mono ?_
        rintro e' w1 ⟨v1, rfl, ho1, kp1⟩
        have HO1 := Lib.hid ho1
        have HK1 := Lib.hid kp1
        clear ho1 kp1
        go_wp2_with fail
        exact bodyPost_ret (v := .tuple #[.slice q4 d.length c4, v1, .int .i64 0]) (by simp [results, Tryz.results21, go_sem]) rfl ⟨_, _, by rw [HFI.out], by rw [HFI.out]; exact Own.lower (HK1.out.other HO4.out (Apt.symm HAP.out)) (Nat.le_succ _), by rw [HFI.out, if_pos h0]; exact Own.lower HO1.out (Nat.le_succ _), Apt.symm (HK1.out.apt HO4.out (Apt.symm HAP.out)), ExtOf.of (Below.trans HX.out (Below.mono HK1.out.bel (by omega)))⟩
      · have h0' : decide (0 ≤ e) = false := decide_eq_false h0
        go_wp2_with fail
        exact bodyPost_ret (v := .tuple #[.slice q4 d.length c4, .slice q5 c.length c5, .int .i64 0]) (by simp [results, Tryz.results21, go_sem]) rfl ⟨_, _, by rw [HFI.out], by rw [HFI.out]; exact Own.lower HO4.out (Nat.le_succ _), by rw [HFI.out, if_neg (by omega)]; exact Own.lower HO5.out (Nat.le_succ _), HAP.out, by exact ExtOf.of (by repeat' (first | (with_reducible exact Ext.refl _) | (with_reducible exact ExtOf.ext _) | (with_reducible refine Ext.trans ?_ (ExtOf.ext _)) | (with_reducible refine Ext.alloc ?_ _) | (with_reducible refine Ext.drew ?_) | (with_reducible refine Ext.setCell ?_ ?_ _) | (with_reducible refine Ext.setRow ?_ ?_ _) | (with_reducible exact HX.out) | (with_reducible refine Ext.trans ?_ HX.out) | (with_reducible refine Ext.below ?_ (Nat.le_refl _) _) | omega | (simp; done) | (simp; omega)))⟩
end Go.Proofs.YtdalbfanfbeckaaGreatDoor
