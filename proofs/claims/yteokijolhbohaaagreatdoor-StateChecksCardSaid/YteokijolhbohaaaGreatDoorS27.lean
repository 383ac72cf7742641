/-
  Chapter 59: the check of a setup, the reference.
-/
import Derived.Test.YteokijolhbohaaaGreatDoorK25
import Derived.Deep.DeepCutAuto
set_option linter.unusedVariables false
set_option linter.unusedSimpArgs false
namespace Go.Proofs.YteokijolhbohaaaGreatDoor
open Go.RowKit StM

attribute [local go_sem] ExtOf.cell ExtOf.frozen Block.cell Block.frozen ExtB.cell ExtB.frozen alloc_cell alloc_frozen
set_option maxHeartbeats 3200000 in
set_option maxRecDepth 20000 in
theorem rsCheck_any (l : SuL) (vp vs vr vc : Value) (ke tr pi st ch du fi li ga : Int) (w : World) (h : SuI w l vp vs vr vc) :
    Calls Tryz.prog 7 #[.agg #[vp, vs, vr, vc, .int .i64 ke, .int .i64 tr, .int .i64 pi, .int .i64 st, .int .i64 ch, .int .i64 du, .int .i64 fi, .int .i64 li, .int .i64 ga]] w fun e w' => e = .returned (.int .i64 (setupE l ke tr pi st ch du fi li ga)) ∧ ∃ n : ExtOf w, w' = n.val := by
  obtain ⟨ps, ss, rs, cs⟩ := l
  obtain ⟨hp, hs, hr, hc⟩ := h
  obtain ⟨pp, pc, rfl, p1, p2, p3⟩ := SliceOf.form hp.1
  obtain ⟨sp, sc, rfl, s1, s2, s3⟩ := SliceOf.form hs
  obtain ⟨rp, rc, rfl, r1, r2, r3⟩ := SliceOf.form hr.1
  obtain ⟨cp, cc, rfl, c1, c2, c3⟩ := SliceOf.form hc.1
  simp only at p1 s1 r1 c1 hp hs hr hc ⊢
  unfold maxLen at p2 s2 r2 c2
  have HP := Lib.hid hp
  have HSS := Lib.hid hs
  have HRR := Lib.hid hr
  have HC := Lib.hid hc
  clear hp hs hr hc
  by_cases e1 : productsE ps = 0
  case neg =>
    have z1 : (productsE ps != 0) = true := bne_iff_ne.2 e1
    have HE : Hid (setupE ⟨ps, ss, rs, cs⟩ ke tr pi st ch du fi li ga = productsE ps) := Lib.hid (orE_n e1)
    clear e1
    go_enter Tryz.func7, Tryz.ntmps7
    go_wp2_with (first | (go_at_call 22; refine (rpCheck_any ps _ _ (HP.out.ext (by with_reducible repeat' (first | exact Ext.refl _ | exact ExtOf.ext _ | refine Ext.trans ?_ (ExtOf.ext _) | refine Ext.alloc ?_ _ | refine Ext.drew ?_ | refine Ext.setCell ?_ ?_ _ | refine Ext.setRow ?_ ?_ _ | exact HX.out | refine Ext.trans ?_ HX.out | omega | (simp; done) | (simp; omega))))).mono ?_; rintro e w' ⟨rfl, n1, rfl⟩) | (go_at_call 23; refine (rwCheck_any ss _ _ (SliceOf.ext HSS.out (by with_reducible repeat' (first | exact Ext.refl _ | exact ExtOf.ext _ | refine Ext.trans ?_ (ExtOf.ext _) | refine Ext.alloc ?_ _ | refine Ext.drew ?_ | refine Ext.setCell ?_ ?_ _ | refine Ext.setRow ?_ ?_ _ | exact HX.out | refine Ext.trans ?_ HX.out | omega | (simp; done) | (simp; omega))))).mono ?_; rintro e w' ⟨rfl, n2, rfl⟩))
    go_ret
    exact ⟨ret_int HE.out.symm, by exact ExtOf.of (by with_reducible repeat' (first | exact Ext.refl _ | exact ExtOf.ext _ | refine Ext.trans ?_ (ExtOf.ext _) | refine Ext.alloc ?_ _ | refine Ext.drew ?_ | refine Ext.setCell ?_ ?_ _ | refine Ext.setRow ?_ ?_ _ | exact HX.out | refine Ext.trans ?_ HX.out | omega | (simp; done) | (simp; omega)))⟩
  have z1 : (productsE ps != 0) = false := bne_eq_false_iff_eq.2 e1
  have E1 := Lib.hid e1
  clear e1
  by_cases e2 : speciesE ss = 0
  case neg =>
    have z2 : (speciesE ss != 0) = true := bne_iff_ne.2 e2
    have HE : Hid (setupE ⟨ps, ss, rs, cs⟩ ke tr pi st ch du fi li ga = speciesE ss) := Lib.hid ((orE_z E1.out).trans (orE_n e2))
    clear e2
    go_enter Tryz.func7, Tryz.ntmps7
    go_wp2_with (first | (go_at_call 22; refine (rpCheck_any ps _ _ (HP.out.ext (by with_reducible repeat' (first | exact Ext.refl _ | exact ExtOf.ext _ | refine Ext.trans ?_ (ExtOf.ext _) | refine Ext.alloc ?_ _ | refine Ext.drew ?_ | refine Ext.setCell ?_ ?_ _ | refine Ext.setRow ?_ ?_ _ | exact HX.out | refine Ext.trans ?_ HX.out | omega | (simp; done) | (simp; omega))))).mono ?_; rintro e w' ⟨rfl, n1, rfl⟩) | (go_at_call 23; refine (rwCheck_any ss _ _ (SliceOf.ext HSS.out (by with_reducible repeat' (first | exact Ext.refl _ | exact ExtOf.ext _ | refine Ext.trans ?_ (ExtOf.ext _) | refine Ext.alloc ?_ _ | refine Ext.drew ?_ | refine Ext.setCell ?_ ?_ _ | refine Ext.setRow ?_ ?_ _ | exact HX.out | refine Ext.trans ?_ HX.out | omega | (simp; done) | (simp; omega))))).mono ?_; rintro e w' ⟨rfl, n2, rfl⟩))
    go_ret
    exact ⟨ret_int HE.out.symm, by exact ExtOf.of (by with_reducible repeat' (first | exact Ext.refl _ | exact ExtOf.ext _ | refine Ext.trans ?_ (ExtOf.ext _) | refine Ext.alloc ?_ _ | refine Ext.drew ?_ | refine Ext.setCell ?_ ?_ _ | refine Ext.setRow ?_ ?_ _ | exact HX.out | refine Ext.trans ?_ HX.out | omega | (simp; done) | (simp; omega)))⟩
  have z2 : (speciesE ss != 0) = false := bne_eq_false_iff_eq.2 e2
  have E2 := Lib.hid e2
  clear e2
  go_enter Tryz.func7, Tryz.ntmps7
  go_wp2_with (first | (go_at_call 22; refine (rpCheck_any ps _ _ (HP.out.ext (by with_reducible repeat' (first | exact Ext.refl _ | exact ExtOf.ext _ | refine Ext.trans ?_ (ExtOf.ext _) | refine Ext.alloc ?_ _ | refine Ext.drew ?_ | refine Ext.setCell ?_ ?_ _ | refine Ext.setRow ?_ ?_ _ | exact HX.out | refine Ext.trans ?_ HX.out | omega | (simp; done) | (simp; omega))))).mono ?_; rintro e w' ⟨rfl, n1, rfl⟩) | (go_at_call 23; refine (rwCheck_any ss _ _ (SliceOf.ext HSS.out (by with_reducible repeat' (first | exact Ext.refl _ | exact ExtOf.ext _ | refine Ext.trans ?_ (ExtOf.ext _) | refine Ext.alloc ?_ _ | refine Ext.drew ?_ | refine Ext.setCell ?_ ?_ _ | refine Ext.setRow ?_ ?_ _ | exact HX.out | refine Ext.trans ?_ HX.out | omega | (simp; done) | (simp; omega))))).mono ?_; rintro e w' ⟨rfl, n2, rfl⟩))
  have hb1 : Block n2.val w.heap.size #[.slice pp ps.length pc, .slice sp ss.length sc, .slice rp rs.length rc, .slice cp cs.length cc, .int .i64 ke, .int .i64 tr, .int .i64 pi, .int .i64 st, .int .i64 ch, .int .i64 du, .int .i64 fi, .int .i64 li, .int .i64 ga] := inferInstance
  have HX1 : Hid (Ext w n2.val) := Lib.hid (by with_reducible repeat' (first | exact Ext.refl _ | exact ExtOf.ext _ | refine Ext.trans ?_ (ExtOf.ext _) | refine Ext.alloc ?_ _ | refine Ext.drew ?_ | refine Ext.setCell ?_ ?_ _ | refine Ext.setRow ?_ ?_ _ | exact HX.out | refine Ext.trans ?_ HX.out | omega | (simp; done) | (simp; omega)))
  obtain ⟨g, hg⟩ : ∃ g, g = w.heap.size := ⟨_, rfl⟩
  have HGW : Hid (w.heap.size ≤ g) := Lib.hid (by omega)
  rw [← hg] at hb1 ⊢
  clear hg
  refine wp_region_softF (rgA g 22 23 25 5 rp rs.length rc (rulesE namesB rs)) (rgF 24) (by kernel_rfl) (by kernel_rfl) (by kernel_rfl) (by kernel_rfl) (by kernel_rfl) (rgA_some _ _ _ _ _ _ _ _ _) (rgF_keep _) ?_
  refine soft_det (d := 22) (V := .pointer (some ⟨g, 2, none⟩)) rfl (by kernel_rfl) (fun v h => h) rfl (fun _ => trivial) (fun W _ _ => by kernel_rfl) ?_
  refine soft_det (d := 23) (V := .slice rp rs.length rc) rfl (by kernel_rfl) (fun v h => h) rfl (fun _ => trivial) (fun W hx _ => by have := (hb1.ext (Ext.trans ((Ext.refl _).drew) hx)).cell (i := 2); simp at this; simp [execOp, go_sem, this]) ?_
  refine soft_callS (d := 24) (f := 25) (vals := #[]) rfl (by kernel_rfl) (fun v => trivial) (fun W => by kernel_rfl) (fun W hx _ => (rnames_any W).mono fun e w' ⟨p, c, h1, h2, h3⟩ => ⟨_, h1, ⟨p, c, rfl, h2⟩, h3⟩) ?_
  intro vN
  refine soft_call (d := 25) (V := .int .i64 (rulesE namesB rs)) (f := 24) (vals := #[.slice rp rs.length rc, vN]) rfl (by kernel_rfl) (fun v h => h) rfl (fun _ => trivial) (fun W => by kernel_rfl) (fun W hx hk => by
    obtain ⟨p, c, rfl, h2⟩ : ∃ p c, vN = .slice p namesB.length c ∧ StrS W (.slice p namesB.length c) namesB := known_get (F := rgF 24) (d := 24) (v := vN) (n := 2) hk (by kernel_rfl) (by kernel_rfl) (by kernel_rfl)
    exact rcheckRules_any namesB p c rs _ W (HRR.out.ext (HX1.out.trans (Ext.trans ((Ext.refl _).drew) hx))) h2) ?_
  refine soft_det (d := 5) (V := .int .i64 (rulesE namesB rs)) rfl (by kernel_rfl) (fun v h => h) rfl (fun _ => trivial) (fun W _ _ => by kernel_rfl) ?_
  intro W2 hx2 _
  have hb2 := hb1.ext (Ext.trans ((Ext.refl _).drew) hx2)
  have HX2 : Hid (Ext w W2) := Lib.hid (HX1.out.trans (Ext.trans ((Ext.refl _).drew) hx2))
  have ob2 := hb2.old
  clear hx2 hb1 HX1
  simp only [Act.put, List.setIfInBounds_toArray, List.set_cons_succ, List.set_cons_zero]
  by_cases e3 : rulesE namesB rs = 0
  case neg =>
    have z3 : (rulesE namesB rs != 0) = true := bne_iff_ne.2 e3
    have HE : Hid (setupE ⟨ps, ss, rs, cs⟩ ke tr pi st ch du fi li ga = rulesE namesB rs) := Lib.hid ((orE_z E1.out).trans ((orE_z E2.out).trans (orE_n e3)))
    clear e3
    go_wp2_with fail
    go_ret
    exact ⟨ret_int HE.out.symm, ExtOf.of HX2.out⟩
  have z3 : (rulesE namesB rs != 0) = false := bne_eq_false_iff_eq.2 e3
  have E3 : Hid (setupE ⟨ps, ss, rs, cs⟩ ke tr pi st ch du fi li ga = orE (schedsE cs) (orE (sawE ke tr pi st ch du fi) (limE li ga))) := Lib.hid ((orE_z E1.out).trans ((orE_z E2.out).trans (orE_z e3)))
  clear e3
  by_cases h8 : 8 < cs.length
  · have q8 : decide (8 < (cs.length : Int)) = true := decide_eq_true (by omega)
    have hs4 : schedsE cs = 4 := by unfold schedsE; rw [if_pos h8]
    have HE : Hid (setupE ⟨ps, ss, rs, cs⟩ ke tr pi st ch du fi li ga = 4) := Lib.hid (E3.out.trans (by rw [hs4]; rfl))
    clear hs4
    go_wp2_with fail
    go_ret
    exact ⟨ret_int HE.out.symm, ExtOf.of HX2.out⟩
  have q8 : decide (8 < (cs.length : Int)) = false := decide_eq_false (by omega)
  have HSE : Hid (schedsE cs = scanAt schF cs 0) := Lib.hid (by unfold schedsE; rw [if_neg h8])
  go_wp2_with fail
  go_loopw [6] (fun vi wr => ∃ k : Nat, k ≤ cs.length ∧ vi = .int .i64 k ∧ scanAt schF cs 0 = scanAt schF cs k ∧ Ext w wr ∧ Block wr g #[.slice pp ps.length pc, .slice sp ss.length sc, .slice rp rs.length rc, .slice cp cs.length cc, .int .i64 ke, .int .i64 tr, .int .i64 pi, .int .i64 st, .int .i64 ch, .int .i64 du, .int .i64 fi, .int .i64 li, .int .i64 ga]) (fun i _ => cs.length - (intOf i).toNat)
  case atStart => exact ⟨0, by omega, rfl, rfl, HX2.out, hb2⟩
  case round =>
    clear hb2 HX2 ob2
    obtain ⟨k, hk, rfl, hd, hx, hbk⟩ := hrel
    have HX := Lib.hid hx
    have HD := Lib.hid hd
    have obk := hbk.old
    clear hx hd
    by_cases hlt : k < cs.length
    · obtain ⟨b, off, rfl, ob, hr⟩ := SliceOf.elemO (SliceOf.ext HC.out.1 HX.out) hlt (by decide) (encSch_len _)
      have hi := SliceOf.ext (HC.out.2 _ (List.getElem_mem hlt)) HX.out
      have HF := Lib.hid (fun e => scanAt_bad schF cs hlt (e := e))
      have HG := Lib.hid (scanAt_ok schF cs hlt)
      obtain ⟨⟨⟨nm, ramp, sts⟩, sl⟩, he⟩ : ∃ z, z = cs[k] := ⟨_, rfl⟩
      rw [← he] at hr HF HG hi
      clear he
      have HSL : Hid (StgS wr sl.v sts) := Lib.hid hi
      have hcn : wr.cell? ⟨b, off + k * 3, none⟩ = some (.string nm) := by simpa using hr 0 (.string nm) rfl
      have HR : Hid (wr.rangeAt b (off + k * 3) [.string nm, .int .i64 ramp, sl.v]) := Lib.hid hr
      clear hr hi
      by_cases h0 : Sch.err ⟨nm, ramp, sts⟩ = 0
      case neg =>
        have h1 : (Sch.err ⟨nm, ramp, sts⟩ != 0) = true := bne_iff_ne.2 h0
        have HB : Hid (setupE ⟨ps, ss, rs, cs⟩ ke tr pi st ch du fi li ga = Sch.err ⟨nm, ramp, sts⟩) := Lib.hid (by
          have h2 := HSE.out.trans (HD.out.trans (HF.out _ (schF_err h0) h0))
          rw [E3.out, h2]; exact orE_n h0)
        clear h0
        go_wp2_with (first | ((with_reducible refine wl_loadM midSch (Ext.range ?_ (Hid.out HR)) ?_ ?_ ?_ ?_); (· with_reducible repeat' (first | exact Ext.refl _ | exact ExtOf.ext _ | refine Ext.trans ?_ (ExtOf.ext _) | refine Ext.alloc ?_ _ | refine Ext.drew ?_ | refine Ext.setCell ?_ ?_ _ | refine Ext.setRow ?_ ?_ _ | exact HX.out | refine Ext.trans ?_ HX.out | omega | (simp; done) | (simp; omega))); (· rfl); (· (first | exact wanted_none rfl | exact wanted_some rfl rfl rfl)); (· rfl)) | (go_at_call 26; refine (rscCheck_any ⟨nm, ramp, sts⟩ sl.v _ (SliceOf.ext HSL.out (by with_reducible repeat' (first | exact Ext.refl _ | exact ExtOf.ext _ | refine Ext.trans ?_ (ExtOf.ext _) | refine Ext.alloc ?_ _ | refine Ext.drew ?_ | refine Ext.setCell ?_ ?_ _ | refine Ext.setRow ?_ ?_ _ | exact HX.out | refine Ext.trans ?_ HX.out | omega | (simp; done) | (simp; omega))))).mono ?_; rintro e w' ⟨rfl, nn, rfl⟩))
        go_ret
        exact ⟨ret_int HB.out.symm, ExtOf.of (HX.out.trans (by with_reducible repeat' (first | exact Ext.refl _ | exact ExtOf.ext _ | refine Ext.trans ?_ (ExtOf.ext _) | refine Ext.alloc ?_ _ | refine Ext.drew ?_ | refine Ext.setCell ?_ ?_ _ | refine Ext.setRow ?_ ?_ _ | exact HX.out | refine Ext.trans ?_ HX.out | omega | (simp; done) | (simp; omega))))⟩
      have h1 : (Sch.err ⟨nm, ramp, sts⟩ != 0) = false := bne_eq_false_iff_eq.2 h0
      have H0 := Lib.hid h0
      clear h0
      go_wp2_with (first | ((with_reducible refine wl_loadM midSch (Ext.range ?_ (Hid.out HR)) ?_ ?_ ?_ ?_); (· with_reducible repeat' (first | exact Ext.refl _ | exact ExtOf.ext _ | refine Ext.trans ?_ (ExtOf.ext _) | refine Ext.alloc ?_ _ | refine Ext.drew ?_ | refine Ext.setCell ?_ ?_ _ | refine Ext.setRow ?_ ?_ _ | exact HX.out | refine Ext.trans ?_ HX.out | omega | (simp; done) | (simp; omega))); (· rfl); (· (first | exact wanted_none rfl | exact wanted_some rfl rfl rfl)); (· rfl)) | (go_at_call 26; refine (rscCheck_any ⟨nm, ramp, sts⟩ sl.v _ (SliceOf.ext HSL.out (by with_reducible repeat' (first | exact Ext.refl _ | exact ExtOf.ext _ | refine Ext.trans ?_ (ExtOf.ext _) | refine Ext.alloc ?_ _ | refine Ext.drew ?_ | refine Ext.setCell ?_ ?_ _ | refine Ext.setRow ?_ ?_ _ | exact HX.out | refine Ext.trans ?_ HX.out | omega | (simp; done) | (simp; omega))))).mono ?_; rintro e w' ⟨rfl, nn, rfl⟩))
      have hb1 : Block nn.val g #[.slice pp ps.length pc, .slice sp ss.length sc, .slice rp rs.length rc, .slice (some ⟨b, off, none⟩) cs.length cc, .int .i64 ke, .int .i64 tr, .int .i64 pi, .int .i64 st, .int .i64 ch, .int .i64 du, .int .i64 fi, .int .i64 li, .int .i64 ga] := inferInstance
      have HXn : Hid (Ext w nn.val) := Lib.hid (HX.out.trans (by with_reducible repeat' (first | exact Ext.refl _ | exact ExtOf.ext _ | refine Ext.trans ?_ (ExtOf.ext _) | refine Ext.alloc ?_ _ | refine Ext.drew ?_ | refine Ext.setCell ?_ ?_ _ | refine Ext.setRow ?_ ?_ _ | exact HX.out | refine Ext.trans ?_ HX.out | omega | (simp; done) | (simp; omega))))
      have hcn1 : nn.val.cell? ⟨b, off + k * 3, none⟩ = some (.string nm) := nn.ext.cell hcn
      obtain ⟨W1, hW1⟩ : ∃ W1, W1 = nn.val := ⟨_, rfl⟩
      rw [← hW1] at hb1 HXn hcn1 ⊢
      clear hW1 hcn hbk obk ob
      go_loopw [8] (fun vi wz => ∃ j : Nat, j ≤ k ∧ vi = .int .i64 j ∧ hasN snm nm (cs.take j) = false ∧ Ext W1 wz ∧ Block wz g #[.slice pp ps.length pc, .slice sp ss.length sc, .slice rp rs.length rc, .slice (some ⟨b, off, none⟩) cs.length cc, .int .i64 ke, .int .i64 tr, .int .i64 pi, .int .i64 st, .int .i64 ch, .int .i64 du, .int .i64 fi, .int .i64 li, .int .i64 ga]) (fun i _ => k - (intOf i).toNat)
      case atStart => exact ⟨0, by omega, rfl, rfl, by with_reducible repeat' (first | exact Ext.refl _ | exact ExtOf.ext _ | refine Ext.trans ?_ (ExtOf.ext _) | refine Ext.alloc ?_ _ | refine Ext.drew ?_ | refine Ext.setCell ?_ ?_ _ | refine Ext.setRow ?_ ?_ _ | exact HX.out | refine Ext.trans ?_ HX.out | omega | (simp; done) | (simp; omega)), inferInstance⟩
      case round =>
        obtain ⟨j, hj, rfl, hd2, hx2, hbk⟩ := hrel
        have HY := Lib.hid hx2
        have HXY : Hid (Ext w wr) := Lib.hid (HXn.out.trans hx2)
        have HD2 := Lib.hid hd2
        have hcn := hx2.cell hcn1
        have ob := Old.of_cell hcn
        have obk := hbk.old
        clear hx2 hd2
        by_cases hjk : j < k
        · obtain ⟨b', off', hpe, ob2, hr'⟩ := SliceOf.elemO (SliceOf.ext HC.out.1 HXY.out) (show j < cs.length by omega) (by decide) (encSch_len _)
          simp only [Option.some.injEq, Addr.mk.injEq, and_true] at hpe
          obtain ⟨rfl, rfl⟩ := hpe
          have HS := Lib.hid (hasN_take snm nm cs (show j < cs.length by omega))
          have HO : Hid (eqS (snm cs[j]) nm = true → hasN snm nm (cs.take k) = true) := Lib.hid (fun e => hasN_of snm nm (cs.take k) (k := j) (by rw [List.length_take]; omega) (by rw [List.getElem_take]; exact e))
          obtain ⟨x2, he⟩ : ∃ z, z = cs[j] := ⟨_, rfl⟩
          rw [← he] at hr' HS HO
          clear he
          obtain ⟨nm2, hnm2⟩ : ∃ n, n = snm x2 := ⟨_, rfl⟩
          have hcj : wr.cell? ⟨b, off + j * 3, none⟩ = some (.string nm2) := by rw [hnm2]; simpa using hr' 0 (.string (snm x2)) rfl
          rw [← hnm2] at HS HO
          clear hr' hnm2
          rcases q : (nm2.toList == nm.toList) with _ | _
          · go_wp2_with fail
            refine wp_region_ext (by kernel_rfl) (by kernel_rfl) ?_
            repeat (first | go_big_quiet_skip | go_big_quiet_step (fail))
            refine wpQuiet_nil ?_
            intro _ hw'
            obtain ⟨nq, hw''⟩ := hw'
            subst hw''
            go_wp2_with fail
            go_roundw
            case rel => exact ⟨j + 1, by omega, by first | rfl | go_num, by rw [HS.out, HD2.out]; exact q, HY.out.trans (by with_reducible repeat' (first | exact Ext.refl _ | exact ExtOf.ext _ | refine Ext.trans ?_ (ExtOf.ext _) | refine Ext.alloc ?_ _ | refine Ext.drew ?_ | refine Ext.setCell ?_ ?_ _ | refine Ext.setRow ?_ ?_ _ | exact HX.out | refine Ext.trans ?_ HX.out | omega | (simp; done) | (simp; omega))), inferInstance⟩
            case measure => simp [intOf]; omega
          · have HB : Hid (setupE ⟨ps, ss, rs, cs⟩ ke tr pi st ch du fi li ga = 7) := Lib.hid (by
              have h2 := HSE.out.trans (HD.out.trans (HF.out 7 (schF_dup H0.out (HO.out q)) (by decide)))
              rw [E3.out, h2]; rfl)
            go_wp2_with fail
            refine wp_region_ext (by kernel_rfl) (by kernel_rfl) ?_
            repeat (first | go_big_quiet_skip | go_big_quiet_step (fail))
            refine wpQuiet_nil ?_
            intro _ hw'
            obtain ⟨nq, hw''⟩ := hw'
            subst hw''
            go_wp2_with fail
            go_ret
            exact ⟨ret_int HB.out.symm, ExtOf.of (HXY.out.trans (by with_reducible repeat' (first | exact Ext.refl _ | exact ExtOf.ext _ | refine Ext.trans ?_ (ExtOf.ext _) | refine Ext.alloc ?_ _ | refine Ext.drew ?_ | refine Ext.setCell ?_ ?_ _ | refine Ext.setRow ?_ ?_ _ | exact HX.out | refine Ext.trans ?_ HX.out | omega | (simp; done) | (simp; omega))))⟩
        · obtain rfl : j = k := by omega
          have HN := Lib.hid (HG.out (schF_ok H0.out HD2.out))
          go_wp2_with fail
          go_roundw
          case rel => exact ⟨j + 1, by omega, by first | rfl | go_num, HD.out.trans HN.out, HXY.out.trans (by with_reducible repeat' (first | exact Ext.refl _ | exact ExtOf.ext _ | refine Ext.trans ?_ (ExtOf.ext _) | refine Ext.alloc ?_ _ | refine Ext.drew ?_ | refine Ext.setCell ?_ ?_ _ | refine Ext.setRow ?_ ?_ _ | exact HX.out | refine Ext.trans ?_ HX.out | omega | (simp; done) | (simp; omega))), inferInstance⟩
          case measure => simp [intOf]; omega
    · obtain rfl : k = cs.length := by omega
      have E4 : Hid (setupE ⟨ps, ss, rs, cs⟩ ke tr pi st ch du fi li ga = orE (sawE ke tr pi st ch du fi) (limE li ga)) := Lib.hid (by
        have h2 := HSE.out.trans (HD.out.trans (scanAt_end _ _ (Nat.le_refl _)))
        rw [E3.out, h2]; rfl)
      clear hlt hk
      by_cases e5 : sawE ke tr pi st ch du fi = 0
      case neg =>
        have z5 : (sawE ke tr pi st ch du fi != 0) = true := bne_iff_ne.2 e5
        have HE : Hid (setupE ⟨ps, ss, rs, cs⟩ ke tr pi st ch du fi li ga = sawE ke tr pi st ch du fi) := Lib.hid (E4.out.trans (orE_n e5))
        clear e5
        go_wp2_with (first | ((with_reducible apply wl_loadB midSaw); (· (first | exact wanted_none rfl | exact wanted_some rfl rfl rfl)); (· rfl); (· infer_instance); (· rfl); (· rfl)) | ((with_reducible apply wl_loadB midRates); (· (first | exact wanted_none rfl | exact wanted_some rfl rfl rfl)); (· rfl); (· infer_instance); (· rfl); (· rfl)) | (go_at_call 27; refine (r20Check_any ke tr pi st ch du fi _).mono ?_; rintro e w' ⟨rfl, nw, rfl⟩))
        go_ret
        exact ⟨ret_int HE.out.symm, ExtOf.of (HX.out.trans (by with_reducible repeat' (first | exact Ext.refl _ | exact ExtOf.ext _ | refine Ext.trans ?_ (ExtOf.ext _) | refine Ext.alloc ?_ _ | refine Ext.drew ?_ | refine Ext.setCell ?_ ?_ _ | refine Ext.setRow ?_ ?_ _ | exact HX.out | refine Ext.trans ?_ HX.out | omega | (simp; done) | (simp; omega))))⟩
      have z5 : (sawE ke tr pi st ch du fi != 0) = false := bne_eq_false_iff_eq.2 e5
      have E5 : Hid (setupE ⟨ps, ss, rs, cs⟩ ke tr pi st ch du fi li ga = limE li ga) := Lib.hid (E4.out.trans (orE_z e5))
      clear e5
      by_cases a1 : li < 0
      · have b1 : decide (li < 0) = true := decide_eq_true a1
        have HE : Hid (setupE ⟨ps, ss, rs, cs⟩ ke tr pi st ch du fi li ga = 9) := Lib.hid (E5.out.trans (by unfold limE; rw [if_pos (by omega)]))
        clear a1
        go_wp2_with (first | ((with_reducible apply wl_loadB midSaw); (· (first | exact wanted_none rfl | exact wanted_some rfl rfl rfl)); (· rfl); (· infer_instance); (· rfl); (· rfl)) | ((with_reducible apply wl_loadB midRates); (· (first | exact wanted_none rfl | exact wanted_some rfl rfl rfl)); (· rfl); (· infer_instance); (· rfl); (· rfl)) | (go_at_call 27; refine (r20Check_any ke tr pi st ch du fi _).mono ?_; rintro e w' ⟨rfl, nw, rfl⟩))
        go_ret
        exact ⟨ret_int HE.out.symm, ExtOf.of (HX.out.trans (by with_reducible repeat' (first | exact Ext.refl _ | exact ExtOf.ext _ | refine Ext.trans ?_ (ExtOf.ext _) | refine Ext.alloc ?_ _ | refine Ext.drew ?_ | refine Ext.setCell ?_ ?_ _ | refine Ext.setRow ?_ ?_ _ | exact HX.out | refine Ext.trans ?_ HX.out | omega | (simp; done) | (simp; omega))))⟩
      have b1 : decide (li < 0) = false := decide_eq_false a1
      by_cases a2 : 600 < li
      · have b2 : decide (600 < li) = true := decide_eq_true a2
        have HE : Hid (setupE ⟨ps, ss, rs, cs⟩ ke tr pi st ch du fi li ga = 9) := Lib.hid (E5.out.trans (by unfold limE; rw [if_pos (by omega)]))
        clear a2
        go_wp2_with (first | ((with_reducible apply wl_loadB midSaw); (· (first | exact wanted_none rfl | exact wanted_some rfl rfl rfl)); (· rfl); (· infer_instance); (· rfl); (· rfl)) | ((with_reducible apply wl_loadB midRates); (· (first | exact wanted_none rfl | exact wanted_some rfl rfl rfl)); (· rfl); (· infer_instance); (· rfl); (· rfl)) | (go_at_call 27; refine (r20Check_any ke tr pi st ch du fi _).mono ?_; rintro e w' ⟨rfl, nw, rfl⟩))
        go_ret
        exact ⟨ret_int HE.out.symm, ExtOf.of (HX.out.trans (by with_reducible repeat' (first | exact Ext.refl _ | exact ExtOf.ext _ | refine Ext.trans ?_ (ExtOf.ext _) | refine Ext.alloc ?_ _ | refine Ext.drew ?_ | refine Ext.setCell ?_ ?_ _ | refine Ext.setRow ?_ ?_ _ | exact HX.out | refine Ext.trans ?_ HX.out | omega | (simp; done) | (simp; omega))))⟩
      have b2 : decide (600 < li) = false := decide_eq_false a2
      by_cases a3 : ga < 0
      · have b3 : decide (ga < 0) = true := decide_eq_true a3
        have HE : Hid (setupE ⟨ps, ss, rs, cs⟩ ke tr pi st ch du fi li ga = 9) := Lib.hid (E5.out.trans (by unfold limE; rw [if_pos (by omega)]))
        clear a3
        go_wp2_with (first | ((with_reducible apply wl_loadB midSaw); (· (first | exact wanted_none rfl | exact wanted_some rfl rfl rfl)); (· rfl); (· infer_instance); (· rfl); (· rfl)) | ((with_reducible apply wl_loadB midRates); (· (first | exact wanted_none rfl | exact wanted_some rfl rfl rfl)); (· rfl); (· infer_instance); (· rfl); (· rfl)) | (go_at_call 27; refine (r20Check_any ke tr pi st ch du fi _).mono ?_; rintro e w' ⟨rfl, nw, rfl⟩))
        go_ret
        exact ⟨ret_int HE.out.symm, ExtOf.of (HX.out.trans (by with_reducible repeat' (first | exact Ext.refl _ | exact ExtOf.ext _ | refine Ext.trans ?_ (ExtOf.ext _) | refine Ext.alloc ?_ _ | refine Ext.drew ?_ | refine Ext.setCell ?_ ?_ _ | refine Ext.setRow ?_ ?_ _ | exact HX.out | refine Ext.trans ?_ HX.out | omega | (simp; done) | (simp; omega))))⟩
      have b3 : decide (ga < 0) = false := decide_eq_false a3
      by_cases a4 : 32 < ga
      · have b4 : decide (32 < ga) = true := decide_eq_true a4
        have HE : Hid (setupE ⟨ps, ss, rs, cs⟩ ke tr pi st ch du fi li ga = 9) := Lib.hid (E5.out.trans (by unfold limE; rw [if_pos (by omega)]))
        clear a4
        go_wp2_with (first | ((with_reducible apply wl_loadB midSaw); (· (first | exact wanted_none rfl | exact wanted_some rfl rfl rfl)); (· rfl); (· infer_instance); (· rfl); (· rfl)) | ((with_reducible apply wl_loadB midRates); (· (first | exact wanted_none rfl | exact wanted_some rfl rfl rfl)); (· rfl); (· infer_instance); (· rfl); (· rfl)) | (go_at_call 27; refine (r20Check_any ke tr pi st ch du fi _).mono ?_; rintro e w' ⟨rfl, nw, rfl⟩))
        go_ret
        exact ⟨ret_int HE.out.symm, ExtOf.of (HX.out.trans (by with_reducible repeat' (first | exact Ext.refl _ | exact ExtOf.ext _ | refine Ext.trans ?_ (ExtOf.ext _) | refine Ext.alloc ?_ _ | refine Ext.drew ?_ | refine Ext.setCell ?_ ?_ _ | refine Ext.setRow ?_ ?_ _ | exact HX.out | refine Ext.trans ?_ HX.out | omega | (simp; done) | (simp; omega))))⟩
      have b4 : decide (32 < ga) = false := decide_eq_false a4
      have HE : Hid (setupE ⟨ps, ss, rs, cs⟩ ke tr pi st ch du fi li ga = 0) := Lib.hid (E5.out.trans (by unfold limE; rw [if_neg (by omega)]))
      clear a1 a2 a3 a4
      go_wp2_with (first | ((with_reducible apply wl_loadB midSaw); (· (first | exact wanted_none rfl | exact wanted_some rfl rfl rfl)); (· rfl); (· infer_instance); (· rfl); (· rfl)) | ((with_reducible apply wl_loadB midRates); (· (first | exact wanted_none rfl | exact wanted_some rfl rfl rfl)); (· rfl); (· infer_instance); (· rfl); (· rfl)) | (go_at_call 27; refine (r20Check_any ke tr pi st ch du fi _).mono ?_; rintro e w' ⟨rfl, nw, rfl⟩))
      go_ret
      exact ⟨ret_int HE.out.symm, ExtOf.of (HX.out.trans (by with_reducible repeat' (first | exact Ext.refl _ | exact ExtOf.ext _ | refine Ext.trans ?_ (ExtOf.ext _) | refine Ext.alloc ?_ _ | refine Ext.drew ?_ | refine Ext.setCell ?_ ?_ _ | refine Ext.setRow ?_ ?_ _ | exact HX.out | refine Ext.trans ?_ HX.out | omega | (simp; done) | (simp; omega))))⟩
end Go.Proofs.YteokijolhbohaaaGreatDoor
