/-
  ReportSums: the walk.
-/
import Derived.Test.YtaflcbdbacogeaaDoorW2
import Derived.Test.YtaflcbdbacogeaaDoorY1
import Derived.Test.YtaflcbdbacogeaaDoorY3
import Derived.BigRegion
set_option linter.unusedVariables false
set_option linter.unusedSimpArgs false
namespace Go.Proofs.YtaflcbdbacogeaaDoor
open Go.RowKit ReportM

attribute [local go_sem] ExtOf.cell ExtOf.frozen ExtS.cell ExtS.frozen Block.cell Block.frozen ExtB.cell ExtB.frozen alloc_cell alloc_frozen eqRw eqYd eqgRw eqgYd
attribute [local simp] stCells
theorem zeroRw (W : World) : (Instr.alloc 77 true (.tuple #[])).run Tryd.prog W = .ok (.pointer (some ⟨W.heap.size, 0, none⟩)) (W.alloc (.cells #[.int .i64 0, .int .i64 0, .int .i64 0, .int .i64 0, .int .i64 0] 77)) := by kernel_rfl
theorem fresh1 {R : World → Prop} {w w0 : World} (b0 : Nat) {c0 : Array Value} {v u : Value} {ts : List Tal} {is : List It} (h0 : Block w b0 c0) (hx : Ext w0 w) (h1 : SliceOf encT 5 w v ts) (h2 : SliceOf encIt 22 w u is) (h : ∀ W, Block W b0 c0 → Hid (Ext w0 W) → SliceOf encT 5 W v ts → SliceOf encIt 22 W u is → R W) : R w := h w h0 hx h1 h2
set_option maxRecDepth 100000 in
set_option maxHeartbeats 6400000 in
theorem sums_walk (l : List Pl) (pl : Int) (v0 : Value) (w : World) (h0 : SliceOf encPl 5 w v0 l) (hP : ∀ x ∈ l, PlOk x) (htab : Tab w) : Calls Tryd.prog 6 #[v0, .int .i64 pl] w fun e w' => e = .returned (.bool true) ∧ ∃ n : ExtOf w, w' = n.val := by
  obtain ⟨pv, cv, rfl, _, _, _⟩ := SliceOf.form h0
  have HT := Lib.hid htab
  have H0 := Lib.hid h0
  have HP := Lib.hid hP
  clear htab h0 hP
  go_enter Tryd.func6, Tryd.ntmps6
  by_cases hlen : l.length ≤ 100
  · have HOK := Lib.hid (its_ok (l := l) (by omega) HP.out)
    have hl1 : (itsTo l l.length).length ≤ 1000 := by rw [itsTo_len (Nat.le_refl _)]; omega
    go_wp2_with (first | ((with_reducible apply wl_load' lwSt); (· (first | exact wanted_none rfl | exact wanted_some rfl rfl rfl)); (· rfl); (· infer_instance); (· rfl)) | ((with_reducible apply wl_load' lwRSt); (· (first | exact wanted_none rfl | exact wanted_some rfl rfl rfl)); (· rfl); (· infer_instance); (· rfl)) | ((with_reducible apply wl_store' lwSt); (· (first | exact wanted_none rfl | exact wanted_some rfl rfl rfl)); (· rfl); (· rfl); (· infer_instance); (· rfl); (· rfl); (· (simp [Value.oneCell'])); try simp only [setRow_alloc, setRow_new, setRow_new1, setRow_new2, setRow_new11, setRow_new111]) | ((with_reducible apply wl_store' lwRSt); (· (first | exact wanted_none rfl | exact wanted_some rfl rfl rfl)); (· rfl); (· rfl); (· infer_instance); (· rfl); (· rfl); (· (simp [Value.oneCell'])); try simp only [setRow_alloc, setRow_new, setRow_new1, setRow_new2, setRow_new11, setRow_new111]) | (go_at_call 10; refine (mill_any l [] [] _ _ _ _ H0.out (SliceOf.nil _) (SliceOf.nil _) (by omega) (by decide) (by decide) (fun x hx => (HP.out x hx).2.2)).mono ?_; rintro e W ⟨vi, vri, vl, vrl, vo, vro, rfl, hi, hri, hl, hrl, ho, hro, nm, rfl⟩; obtain ⟨q1, k1, rfl, _, _, _⟩ := SliceOf.form hi; obtain ⟨q2, k2, rfl, _, _, _⟩ := SliceOf.form hri; obtain ⟨q3, k3, rfl, _, _, _⟩ := SliceOf.form hl; obtain ⟨q4, k4, rfl, _, _, _⟩ := SliceOf.form hrl; obtain ⟨q5, k5, rfl, _, _, _⟩ := SliceOf.form ho; obtain ⟨q6, k6, rfl, _, _, _⟩ := SliceOf.form hro; have HI := Lib.hid hi; have HL := Lib.hid hl; have HO := Lib.hid ho; have HRI := Lib.hid hri; have HRL := Lib.hid hrl; have HRO := Lib.hid hro; clear hi hri hl hrl ho hro) | (go_at_call 12; refine (stock_walk (itsTo l l.length) _ _ _ pl _ (SliceOf.ext HI.out (by repeat' (first | (with_reducible exact Ext.refl _) | (with_reducible exact ExtOf.ext _) | (with_reducible refine Ext.trans ?_ (ExtOf.ext _)) | (with_reducible refine Ext.alloc ?_ _) | (with_reducible refine Ext.drew ?_) | (with_reducible refine Ext.setCell ?_ ?_ _) | (with_reducible refine Ext.setRow ?_ ?_ _) | (with_reducible exact HX.out) | (with_reducible refine Ext.trans ?_ HX.out) | (with_reducible refine Ext.below ?_ (Nat.le_refl _) _) | omega | (simp; done) | (simp; omega)))) hl1 HOK.out).mono ?_; rintro e W ⟨v, ts, rfl, hok, has, hsl, ns, rfl⟩; obtain ⟨pt, ct, rfl, _, _, _⟩ := SliceOf.form hsl; have HTS := Lib.hid hok; have HAS := Lib.hid has; have HSL := Lib.hid hsl; clear hok has hsl))
    have htl : ts.length ≤ 1000 := ok_len hl1 HOK.out HTS.out
    have hbd := tal_bounds hl1 HOK.out HTS.out
    have HBD := Lib.hid hbd
    clear hbd
    refine fresh1 (R := fun W => Code.wp _ _ _ _ W) (w0 := w) nm.val.heap.size inferInstance (by repeat' (first | (with_reducible exact Ext.refl _) | (with_reducible exact ExtOf.ext _) | (with_reducible refine Ext.trans ?_ (ExtOf.ext _)) | (with_reducible refine Ext.alloc ?_ _) | (with_reducible refine Ext.drew ?_) | (with_reducible refine Ext.setCell ?_ ?_ _) | (with_reducible refine Ext.setRow ?_ ?_ _) | (with_reducible exact HX.out) | (with_reducible refine Ext.trans ?_ HX.out) | (with_reducible refine Ext.below ?_ (Nat.le_refl _) _) | omega | (simp; done) | (simp; omega))) (SliceOf.ext HSL.out (Ext.refl _)) (SliceOf.ext HI.out (by repeat' (first | (with_reducible exact Ext.refl _) | (with_reducible exact ExtOf.ext _) | (with_reducible refine Ext.trans ?_ (ExtOf.ext _)) | (with_reducible refine Ext.alloc ?_ _) | (with_reducible refine Ext.drew ?_) | (with_reducible refine Ext.setCell ?_ ?_ _) | (with_reducible refine Ext.setRow ?_ ?_ _) | (with_reducible exact HX.out) | (with_reducible refine Ext.trans ?_ HX.out) | (with_reducible refine Ext.below ?_ (Nat.le_refl _) _) | omega | (simp; done) | (simp; omega)))) ?_
    intro W1 hB5 HXw hslW hiW
    have HB5 : Hid (Block W1 nm.val.heap.size (stCells (.slice q3 0 k3) (.slice q1 (itsTo l l.length).length k1) (.slice q5 0 k5))) := Lib.hid hB5
    have HR1 := Lib.hid hslW
    have HI1 := Lib.hid hiW
    clear hB5 hslW hiW HSL HI HL HO HRI HRL HRO
    generalize nm.val.heap.size = b5 at *
    clear ns
    clear nm
    go_loopw [8, 9, 10] (fun c v i wr => ∃ k : Nat, k ≤ ts.length ∧ i = .int .i64 k ∧ c = .int .i64 (cTo ts k) ∧ v = .int .i64 (vTo ts k) ∧ Ext W1 wr) (fun _ _ i _ => ts.length - (intOf i).toNat)
    case atStart => exact ⟨0, by omega, rfl, rfl, rfl, Ext.refl _⟩
    case round =>
      obtain ⟨k, hk, rfl, rfl, rfl, hx⟩ := hrel
      have HX := Lib.hid hx
      clear hx
      obtain ⟨⟨bc1, bc2⟩, bv1, bv2⟩ := to_bounds HBD.out k hk
      by_cases hlt : k < ts.length
      · obtain ⟨bt, ot, rfl, rw0⟩ := SliceOf.elemK HR1.out hlt
        obtain ⟨⟨tc1, tc2⟩, tv1, tv2⟩ := HBD.out _ (List.getElem_mem hlt)
        have hcs : cTo ts (k + 1) = cTo ts k + ts[k].c := cTo_succ hlt
        have hvs : vTo ts (k + 1) = vTo ts k + ts[k].v := vTo_succ hlt
        have HCS := Lib.hid hcs
        have HVS := Lib.hid hvs
        have hlo : k = 0 ∨ ∃ j, ∃ hj : j < ts.length, k = j + 1 ∧ ltK ts[j].k ts[k].k := by
          cases k with
          | zero => exact Or.inl rfl
          | succ j => exact Or.inr ⟨j, by omega, rfl, (List.pairwise_iff_getElem.1 HAS.out) j (j + 1) (by omega) hlt (by omega)⟩
        have HLO := Lib.hid hlo
        clear hlo hcs hvs
        obtain ⟨t, ht⟩ : ∃ t, t = ts[k] := ⟨_, rfl⟩
        have HTK := Lib.hid ht
        rw [← ht] at rw0 tc1 tc2 tv1 tv2
        clear ht
        obtain ⟨⟨t1, t2, t3⟩, t4, t5⟩ := t
        simp only at tc1 tc2 tv1 tv2
        have r0 : World.rangeAt wr bt (ot + k * 5) [.int .i64 t1, .int .i64 t2, .int .i64 t3, .int .i64 t4, .int .i64 t5] := HX.out.range rw0
        have c0 : wr.cell? ⟨bt, ot + k * 5, none⟩ = some (.int .i64 t1) := r0 0 _ rfl
        have c1 : wr.cell? ⟨bt, ot + k * 5 + 1, none⟩ = some (.int .i64 t2) := r0 1 _ rfl
        have c2 : wr.cell? ⟨bt, ot + k * 5 + 2, none⟩ = some (.int .i64 t3) := r0 2 _ rfl
        have c3 : wr.cell? ⟨bt, ot + k * 5 + 3, none⟩ = some (.int .i64 t4) := r0 3 _ rfl
        have c4 : wr.cell? ⟨bt, ot + k * 5 + 4, none⟩ = some (.int .i64 t5) := r0 4 _ rfl
        have oo : Old bt wr := Old.of_cell c0
        clear rw0
        obtain ⟨cc, hcc⟩ : ∃ x, x = cTo ts k := ⟨_, rfl⟩
        obtain ⟨vv, hvv⟩ : ∃ x, x = vTo ts k := ⟨_, rfl⟩
        rw [← hcc] at bc1 bc2 ⊢
        rw [← hvv] at bv1 bv2 ⊢
        have HCC := Lib.hid hcc
        have HVV := Lib.hid hvv
        clear hcc hvv
        have hc1 : decide (t4 < 1) = false := by simp; omega
        have kk2 : (k : Int) ≤ 1000 := by omega
        by_cases hk0 : k = 0
        · subst hk0
          go_wp2_with fail
          refine wp_region_ext (by kernel_rfl) (by kernel_rfl) ?_
          repeat (first | go_big_quiet_skip | go_big_quiet_step (fail))
          refine wpQuiet_nil ?_
          intro _ hw'
          obtain ⟨nq, hw''⟩ := hw'
          subst hw''
          go_wp2_with fail
          go_roundw
          case rel => exact ⟨0 + 1, by omega, by first | rfl | go_num, by rw [HCS.out, ← HCC.out, ← HTK.out], by rw [HVS.out, ← HVV.out, ← HTK.out], HX.out.trans nq.ext⟩
          case measure => simp [intOf]; omega
        · have hk1 : ((k : Int) == 0) = false := by simpa using hk0
          go_wp2_with fail
          refine wp_region_ext (by kernel_rfl) (by kernel_rfl) ?_
          repeat (first | go_big_quiet_skip | go_big_quiet_step (fail))
          refine wpQuiet_nil ?_
          intro _ hw'
          obtain ⟨nq, hw''⟩ := hw'
          subst hw''
          go_wp2_with fail
          obtain ⟨j, hj, rfl, hlt'⟩ := HLO.out.resolve_left hk0
          obtain ⟨bt', ot', e', rw1⟩ := SliceOf.elemK HR1.out hj
          cases e'
          obtain ⟨s, hs⟩ : ∃ s, s = ts[j] := ⟨_, rfl⟩
          rw [← hs] at rw1 hlt'
          rw [← HTK.out] at hlt'
          obtain ⟨⟨s1, s2, s3⟩, s4, s5⟩ := s
          have rS : World.rangeAt nq.val bt (ot + j * 5) [.int .i64 s1, .int .i64 s2, .int .i64 s3, .int .i64 s4, .int .i64 s5] := (HX.out.trans nq.ext).range rw1
          have rT : World.rangeAt nq.val bt (ot + (j + 1) * 5) [.int .i64 t1, .int .i64 t2, .int .i64 t3, .int .i64 t4, .int .i64 t5] := nq.ext.range r0
          have HXn := Lib.hid (HX.out.trans nq.ext)
          have HLT : Hid (ltK (s1, s2, s3) (t1, t2, t3)) := Lib.hid hlt'
          have hj1 : ((j + 1 : Nat) : Int) - 1 = (j : Int) := by omega
          clear hs rw1 hlt' c0 c1 c2 c3 c4 oo r0 HX hk1 hk0
          generalize nq.val = Wn at *
          clear nq
          refine region_quiet (S := fun W => ∃ n : ExtOf Wn, W = n.val) [true, true, true, true, true, true, true, true, true] 4 (by kernel_rfl) (by kernel_rfl) (by kernel_rfl) (fun _ _ _ _ _ h => h) (ExtOf.of (Ext.drew (Ext.refl _))) (by kernel_rfl) (by kernel_rfl) (by kernel_rfl) ?_
          simp only [part]
          repeat (first | go_big_quiet_skip | ((with_reducible apply q_loadM midRow rS); (· rfl); (· (first | exact wanted_none rfl | exact wanted_some rfl rfl rfl)); (· rfl); simp only [Act.put, List.setIfInBounds_toArray, List.set_cons_succ, List.set_cons_zero]) | ((with_reducible apply q_loadM midRow rT); (· rfl); (· (first | exact wanted_none rfl | exact wanted_some rfl rfl rfl)); (· rfl); simp only [Act.put, List.setIfInBounds_toArray, List.set_cons_succ, List.set_cons_zero]) | go_big_quiet_step (fail))
          refine wpQuiet_nil ?_
          refine ah_two (a1 := 9) (a2 := 10) (s1 := 11) (s2 := 12) (c1 := #[.int .i64 s1, .int .i64 s2, .int .i64 s3, .int .i64 s4, .int .i64 s5]) (c2 := #[.int .i64 t1, .int .i64 t2, .int .i64 t3, .int .i64 t4, .int .i64 t5]) (z := #[.int .i64 0, .int .i64 0, .int .i64 0, .int .i64 0, .int .i64 0]) rfl rfl rfl rfl lwRow rfl rfl (by simp [Value.oneCell']) (by simp [Value.oneCell']) zeroRw rfl (by kernel_rfl) (by kernel_rfl) (by kernel_rfl) (by kernel_rfl) (by kernel_rfl) (fun W h => ExtOf.of (Ext.trans (Ext.drew (Ext.refl _)) h)) ?_
          intro W' g1 g2 hx'' hg1 hg2 ap1 ap2 hb1 hb2
          have HX2 : Hid (Ext W1 W') := Lib.hid (HXn.out.trans (Ext.trans (Ext.drew (Ext.refl _)) hx''))
          clear hx'' hg1 hg2
          simp only [Act.put, List.setIfInBounds_toArray, List.set_cons_succ, List.set_cons_zero]
          have hlt2 : s1 < t1 ∨ s1 = t1 ∧ (s2 < t2 ∨ s2 = t2 ∧ s3 < t3) := HLT.out
          rcases hlt2 with h | ⟨h, h' | ⟨h', h''⟩⟩
          · have d1 : ¬ s1 > t1 := by omega
            have d2 : (s1 == t1) = false := by simp; omega
            go_wp2_with fail
            go_roundw
            case rel => exact ⟨j + 1 + 1, by omega, by first | rfl | go_num, by rw [HCS.out, ← HCC.out, ← HTK.out], by rw [HVS.out, ← HVV.out, ← HTK.out], HX2.out⟩
            case measure => simp [intOf]; omega
          · have d1 : ¬ s1 > t1 := by omega
            have d2 : (s1 == t1) = true := by simpa using h
            have d3 : ¬ s2 > t2 := by omega
            have d4 : (s2 == t2) = false := by simp; omega
            go_wp2_with fail
            go_roundw
            case rel => exact ⟨j + 1 + 1, by omega, by first | rfl | go_num, by rw [HCS.out, ← HCC.out, ← HTK.out], by rw [HVS.out, ← HVV.out, ← HTK.out], HX2.out⟩
            case measure => simp [intOf]; omega
          · have d1 : ¬ s1 > t1 := by omega
            have d2 : (s1 == t1) = true := by simpa using h
            have d3 : ¬ s2 > t2 := by omega
            have d4 : (s2 == t2) = true := by simpa using h'
            have d5 : ¬ s3 ≥ t3 := by omega
            go_wp2_with fail
            go_roundw
            case rel => exact ⟨j + 1 + 1, by omega, by first | rfl | go_num, by rw [HCS.out, ← HCC.out, ← HTK.out], by rw [HVS.out, ← HVV.out, ← HTK.out], HX2.out⟩
            case measure => simp [intOf]; omega
      · obtain rfl : k = ts.length := by omega
        obtain ⟨hC, hV⟩ := cTo_all HTS.out
        obtain ⟨vN1, vN2, vN3⟩ := vol_sum HP.out (pl := pl) l.length (Nat.le_refl _)
        obtain ⟨N, hN⟩ : ∃ N, N = (xsOf (itsTo l l.length) pl).length := ⟨_, rfl⟩
        obtain ⟨V, hVV⟩ : ∃ V, V = ((xsOf (itsTo l l.length) pl).map (·.2)).sum := ⟨_, rfl⟩
        rw [← hVV] at vN1 vN2
        rw [← hN] at vN3
        rw [hC, hV, ← hN, ← hVV]
        have HN := Lib.hid hN
        have HVV := Lib.hid hVV
        obtain ⟨Wo, rfl⟩ : ∃ W, W = wr := ⟨_, rfl⟩
        clear hC hV hN hVV bc1 bc2 bv1 bv2
        go_wp2_with fail
        go_loopw [8, 9, 13] (fun c v i wr => ∃ k : Nat, k ≤ l.length ∧ i = .int .i64 k ∧ c = .int .i64 ((N : Int) - ((xsOf (itsTo l k) pl).length : Nat)) ∧ v = .int .i64 (V - ((xsOf (itsTo l k) pl).map (·.2)).sum) ∧ Ext W1 wr) (fun _ _ i _ => l.length - (intOf i).toNat)
        case atStart => exact ⟨0, by omega, rfl, by simp [itsTo, xsOf], by simp [itsTo, xsOf], HX.out⟩
        case round =>
          clear HX
          obtain ⟨k, hk, rfl, rfl, rfl, hx⟩ := hrel
          have HX := Lib.hid hx
          clear hx
          obtain ⟨vk1, vk2, vk3⟩ := vol_sum HP.out (pl := pl) k hk
          by_cases hlt : k < l.length
          · obtain ⟨bp, op, rfl, rw0⟩ := SliceOf.elemK H0.out hlt
            obtain ⟨_, _, xv1, xv2⟩ := HP.out _ (List.getElem_mem hlt)
            obtain ⟨vl1, vl2, vl3⟩ := vol_sum HP.out (pl := pl) (k + 1) hlt
            have HST := Lib.hid (xs_step (pl := pl) hlt)
            have HKY := Lib.hid (fun h => xs_key (pl := pl) hlt h)
            obtain ⟨x, hx0⟩ : ∃ x, x = l[k] := ⟨_, rfl⟩
            rw [← hx0] at rw0 xv1 xv2 HST HKY
            clear hx0
            obtain ⟨x1, x2, x3, x4, x5⟩ := x
            simp only at xv1 xv2
            have HX1 := Lib.hid (HXw.out.trans HX.out)
            have r0 : World.rangeAt wr bp (op + k * 5) [.int .i64 x1, .int .i64 x2, .int .i64 x3, .int .u32 x4, .int .i64 x5] := HX1.out.range rw0
            have c0 : wr.cell? ⟨bp, op + k * 5, none⟩ = some (.int .i64 x1) := r0 0 _ rfl
            have c1 : wr.cell? ⟨bp, op + k * 5 + 1, none⟩ = some (.int .i64 x2) := r0 1 _ rfl
            have c2 : wr.cell? ⟨bp, op + k * 5 + 2, none⟩ = some (.int .i64 x3) := r0 2 _ rfl
            have c3 : wr.cell? ⟨bp, op + k * 5 + 3, none⟩ = some (.int .u32 x4) := r0 3 _ rfl
            have c4 : wr.cell? ⟨bp, op + k * 5 + 4, none⟩ = some (.int .i64 x5) := r0 4 _ rfl
            have oo : Old bp wr := Old.of_cell c0
            clear rw0 r0
            by_cases hp : x5 = pl
            · have hp2 : (x5 != pl) = false := by simpa using hp
              have hst := HST.out
              simp only [hp, if_true] at hst
              have HXS := Lib.hid hst
              have hlen1 : (xsOf (itsTo l (k + 1)) pl).length = (xsOf (itsTo l k) pl).length + 1 := by rw [hst]; simp
              have hsum1 : ((xsOf (itsTo l (k + 1)) pl).map (·.2)).sum = ((xsOf (itsTo l k) pl).map (·.2)).sum + x4 := by rw [hst]; simp
              have HKY2 := Lib.hid (HKY.out hp)
              clear hst HST HKY
              obtain ⟨nk, hnk⟩ : ∃ n, n = (xsOf (itsTo l k) pl).length := ⟨_, rfl⟩
              obtain ⟨sk, hsk⟩ : ∃ n, n = ((xsOf (itsTo l k) pl).map (·.2)).sum := ⟨_, rfl⟩
              rw [← hnk] at vk3 hlen1 ⊢
              rw [← hsk] at vk1 vk2 hsum1 ⊢
              have HL1 := Lib.hid hlen1
              have HS1 := Lib.hid hsum1
              clear hlen1 hsum1 vl1 vl2 vl3 hnk hsk
              go_wp2_with fail
              refine wp_region_ext (by kernel_rfl) (by kernel_rfl) ?_
              repeat (first | go_big_quiet_skip | go_big_quiet_step (fail))
              refine wpQuiet_nil ?_
              intro _ hw'
              obtain ⟨nq, hw''⟩ := hw'
              subst hw''
              go_wp2_with fail
              have HX2 := Lib.hid (HX.out.trans nq.ext)
              have HX3 := Lib.hid (HX1.out.trans nq.ext)
              have e0 : nq.val.cell? ⟨bp, op + k * 5, none⟩ = some (.int .i64 x1) := by rw [ExtOf.cell]; exact c0
              have e1 : nq.val.cell? ⟨bp, op + k * 5 + 1, none⟩ = some (.int .i64 x2) := by rw [ExtOf.cell]; exact c1
              have e2 : nq.val.cell? ⟨bp, op + k * 5 + 2, none⟩ = some (.int .i64 x3) := by rw [ExtOf.cell]; exact c2
              have oq : Old bp nq.val := Old.of_cell e0
              clear c0 c1 c2 c3 c4 oo HX HX1
              generalize nq.val = Wq at *
              clear nq
              obtain ⟨y, hy⟩ : ∃ y : Ky, y = (x1, clampL x2, x3) := ⟨_, rfl⟩
              have HY := Lib.hid hy
              clear hy
              go_loopw [14, 15] (fun f i wz => ∃ m : Nat, m ≤ ts.length ∧ i = .int .i64 m ∧ f = .int .i64 (fTo ts y m : Nat) ∧ Ext Wq wz) (fun _ i _ => ts.length - (intOf i).toNat)
              case atStart => exact ⟨0, by omega, rfl, by simp [fTo], Ext.refl _⟩
              case round =>
                obtain ⟨m, hm, rfl, rfl, hx⟩ := hrel
                have HXZ := Lib.hid hx
                clear hx
                have hfl := fTo_le ts y m
                by_cases hlm : m < ts.length
                · obtain ⟨bt, ot, rfl, rw0⟩ := SliceOf.elemK HR1.out hlm
                  have HFS := Lib.hid (fTo_succ (y := y) hlm)
                  obtain ⟨t, ht⟩ : ∃ t, t = ts[m] := ⟨_, rfl⟩
                  rw [← ht] at rw0 HFS
                  clear ht
                  obtain ⟨⟨t1, t2, t3⟩, t4, t5⟩ := t
                  have r0 : World.rangeAt wr bt (ot + m * 5) [.int .i64 t1, .int .i64 t2, .int .i64 t3, .int .i64 t4, .int .i64 t5] := (HX2.out.trans HXZ.out).range rw0
                  have c0 : wr.cell? ⟨bt, ot + m * 5, none⟩ = some (.int .i64 t1) := r0 0 _ rfl
                  have c1 : wr.cell? ⟨bt, ot + m * 5 + 1, none⟩ = some (.int .i64 t2) := r0 1 _ rfl
                  have c2 : wr.cell? ⟨bt, ot + m * 5 + 2, none⟩ = some (.int .i64 t3) := r0 2 _ rfl
                  have f0 : wr.cell? ⟨bp, op + k * 5, none⟩ = some (.int .i64 x1) := by rw [Below.cell (p := ⟨bp, op + k * 5, none⟩) HXZ.out oq.lt]; exact e0
                  have f1 : wr.cell? ⟨bp, op + k * 5 + 1, none⟩ = some (.int .i64 x2) := by rw [Below.cell (p := ⟨bp, op + k * 5 + 1, none⟩) HXZ.out oq.lt]; exact e1
                  have f2 : wr.cell? ⟨bp, op + k * 5 + 2, none⟩ = some (.int .i64 x3) := by rw [Below.cell (p := ⟨bp, op + k * 5 + 2, none⟩) HXZ.out oq.lt]; exact e2
                  have o1 : Old bt wr := Old.of_cell c0
                  have o2 : Old bp wr := Old.of_cell f0
                  clear r0 rw0
                  obtain ⟨ff, hff⟩ : ∃ n, n = fTo ts y m := ⟨_, rfl⟩
                  rw [← hff] at hfl HFS ⊢
                  clear hff
                  rcases g1 : (t1 == x1) with _ | _
                  · have HN : Hid (¬ ((t1, t2, t3) : Ky) = y) := Lib.hid (by rw [HY.out]; intro h; simp only [Prod.mk.injEq] at h; rw [h.1] at g1; simp at g1)
                    go_wp2_with fail
                    refine wp_region_ext (by kernel_rfl) (by kernel_rfl) ?_
                    repeat (first | go_big_quiet_skip | go_big_quiet_step (fail))
                    refine wpQuiet_nil ?_
                    intro _ hw'
                    obtain ⟨nq, hw''⟩ := hw'
                    subst hw''
                    go_wp2_with fail
                    go_roundw
                    case rel => exact ⟨m + 1, by omega, by first | rfl | go_num, by rw [HFS.out, if_neg HN.out]; rfl, HXZ.out.trans nq.ext⟩
                    case measure => simp [intOf]; omega
                  · rcases g2 : (t2 == max 0 (min x2 1073741824)) with _ | _
                    · have HN : Hid (¬ ((t1, t2, t3) : Ky) = y) := Lib.hid (by rw [HY.out]; intro h; simp only [Prod.mk.injEq] at h; rw [h.2.1] at g2; simp [clampL] at g2)
                      go_wp2_with fail
                      refine wp_region_ext (by kernel_rfl) (by kernel_rfl) ?_
                      repeat (first | go_big_quiet_skip | go_big_quiet_step (fail))
                      refine wpQuiet_nil ?_
                      intro _ hw'
                      obtain ⟨nq, hw''⟩ := hw'
                      subst hw''
                      go_wp2_with fail
                      go_roundw
                      case rel => exact ⟨m + 1, by omega, by first | rfl | go_num, by rw [HFS.out, if_neg HN.out]; rfl, HXZ.out.trans nq.ext⟩
                      case measure => simp [intOf]; omega
                    · rcases g3 : (t3 == x3) with _ | _
                      · have HN : Hid (¬ ((t1, t2, t3) : Ky) = y) := Lib.hid (by rw [HY.out]; intro h; simp only [Prod.mk.injEq] at h; rw [h.2.2] at g3; simp at g3)
                        go_wp2_with fail
                        refine wp_region_ext (by kernel_rfl) (by kernel_rfl) ?_
                        repeat (first | go_big_quiet_skip | go_big_quiet_step (fail))
                        refine wpQuiet_nil ?_
                        intro _ hw'
                        obtain ⟨nq, hw''⟩ := hw'
                        subst hw''
                        go_wp2_with fail
                        go_roundw
                        case rel => exact ⟨m + 1, by omega, by first | rfl | go_num, by rw [HFS.out, if_neg HN.out]; rfl, HXZ.out.trans nq.ext⟩
                        case measure => simp [intOf]; omega
                      · have HE : Hid (((t1, t2, t3) : Ky) = y) := Lib.hid (by rw [HY.out]; simp only [Prod.mk.injEq, clampL]; exact ⟨by simpa using g1, by simpa using g2, by simpa using g3⟩)
                        go_wp2_with fail
                        refine wp_region_ext (by kernel_rfl) (by kernel_rfl) ?_
                        repeat (first | go_big_quiet_skip | go_big_quiet_step (fail))
                        refine wpQuiet_nil ?_
                        intro _ hw'
                        obtain ⟨nq, hw''⟩ := hw'
                        subst hw''
                        go_wp2_with fail
                        go_roundw
                        case rel => exact ⟨m + 1, by omega, by first | rfl | go_num, by rw [HFS.out, if_pos HE.out]; first | rfl | go_num, HXZ.out.trans nq.ext⟩
                        case measure => simp [intOf]; omega
                · obtain rfl : m = ts.length := by omega
                  have hF : fTo ts y ts.length = 1 := fTo_all HTS.out (by rw [HY.out]; exact HKY2.out)
                  rw [hF]
                  go_wp2_with fail
                  go_roundw
                  case rel => exact ⟨k + 1, by omega, by first | rfl | go_num, congrArg (Value.int .i64) (by rw [HL1.out]; omega), congrArg (Value.int .i64) (by rw [HS1.out]; omega), HX2.out.trans HXZ.out⟩
                  case measure => simp [intOf]; omega
            · have hp2 : (x5 != pl) = true := by simpa using hp
              have hst := HST.out
              simp only [hp, if_false] at hst
              have HXS := Lib.hid hst
              clear hst
              go_wp2_with fail
              go_roundw
              case rel => exact ⟨k + 1, by omega, by first | rfl | go_num, by rw [HXS.out], by rw [HXS.out], HX.out⟩
              case measure => simp [intOf]; omega
          · obtain rfl : k = l.length := by omega
            rw [← HN.out, ← HVV.out, Int.sub_self, Int.sub_self]
            have h5 := HB5.out.ext HX.out
            go_wp2_with (first | ((with_reducible apply wl_load' lwSt); (· (first | exact wanted_none rfl | exact wanted_some rfl rfl rfl)); (· rfl); (· infer_instance); (· rfl)) | (go_at_call 14; refine (text_walk (itsTo l l.length) [] _ _ _ _ pl _ (SliceOf.ext HI1.out HX.out) (SliceOf.nil _) hl1 HOK.out (by simp) (by decide) (HT.out.ext (HXw.out.trans HX.out))).mono ?_; rintro e W ⟨ts', rfl, hok', has', nt, rfl⟩; obtain rfl := Ok.unique HTS.out hok' HAS.out has'; clear hok' has'))
            have HXt := Lib.hid (HXw.out.trans (HX.out.trans nt.ext))
            have htx := text_len (c := []) (by simp) (tal_inR hl1 HOK.out HTS.out)
            have hcnt := text_count ts
            obtain ⟨tx, hx⟩ : ∃ tx, tx = textF [] ts := ⟨_, rfl⟩
            rw [← hx] at htx hcnt ⊢
            have HCNT := Lib.hid hcnt
            clear hx hcnt h5 HX
            generalize nt.val = Wt at *
            clear nt
            go_loopw [17, 18] (fun n i wr => ∃ k : Nat, k ≤ tx.length ∧ i = .int .i64 k ∧ n = .int .i64 ((tx.take k).count 10 : Nat) ∧ Ext w wr) (fun _ i _ => tx.length - (intOf i).toNat)
            case atStart => exact ⟨0, by omega, rfl, by simp, HXt.out⟩
            case round =>
              obtain ⟨k, hk, rfl, rfl, hx⟩ := hrel
              have HX := Lib.hid hx
              clear hx
              have hcl := List.count_le_length (a := (10 : UInt8)) (l := tx.take k)
              rw [List.length_take] at hcl
              by_cases hlt : k < tx.length
              · have ix := idx_str (k := k) wr tx hlt
                have HS := Lib.hid (count_step hlt)
                rcases hb : ((tx[k].toNat : Int) == 10) with _ | _
                · have HB : Hid (tx[k] ≠ 10) := Lib.hid (fun h => by rw [h] at hb; simp at hb)
                  go_wp2_with fail
                  go_roundw
                  case rel => exact ⟨k + 1, by omega, by first | rfl | go_num, by rw [HS.out, if_neg HB.out]; rfl, HX.out⟩
                  case measure => simp [intOf]; omega
                · have HB : Hid (tx[k] = 10) := Lib.hid (byte10 (by simpa using hb))
                  obtain ⟨cc, hcc⟩ : ∃ c, c = (tx.take k).count 10 := ⟨_, rfl⟩
                  rw [← hcc] at hcl HS ⊢
                  clear hcc
                  go_wp2_with fail
                  go_roundw
                  case rel => exact ⟨k + 1, by omega, by first | rfl | go_num, by rw [HS.out, if_pos HB.out]; first | rfl | go_num, HX.out⟩
                  case measure => simp [intOf]; omega
              · obtain rfl : k = tx.length := by omega
                rw [List.take_of_length_le (Nat.le_refl _), HCNT.out]
                go_wp2_with (go_at_call 9; refine (awake_any _ (HT.out.ext HX.out)).mono ?_; rintro e W ⟨rfl, na, rfl⟩)
                go_ret
                exact ⟨rfl, ExtOf.of (HX.out.trans na.ext)⟩
  · go_wp2_with (go_at_call 9; refine (awake_any _ (HT.out.ext (by repeat' (first | (with_reducible exact Ext.refl _) | (with_reducible exact ExtOf.ext _) | (with_reducible refine Ext.trans ?_ (ExtOf.ext _)) | (with_reducible refine Ext.alloc ?_ _) | (with_reducible refine Ext.drew ?_) | (with_reducible refine Ext.setCell ?_ ?_ _) | (with_reducible refine Ext.setRow ?_ ?_ _) | (with_reducible exact HX.out) | (with_reducible refine Ext.trans ?_ HX.out) | (with_reducible refine Ext.below ?_ (Nat.le_refl _) _) | omega | (simp; done) | (simp; omega))))).mono ?_; rintro e W ⟨rfl, na, rfl⟩)
    go_ret
    exact ⟨rfl, by exact ExtOf.of (by repeat' (first | (with_reducible exact Ext.refl _) | (with_reducible exact ExtOf.ext _) | (with_reducible refine Ext.trans ?_ (ExtOf.ext _)) | (with_reducible refine Ext.alloc ?_ _) | (with_reducible refine Ext.drew ?_) | (with_reducible refine Ext.setCell ?_ ?_ _) | (with_reducible refine Ext.setRow ?_ ?_ _) | (with_reducible exact HX.out) | (with_reducible refine Ext.trans ?_ HX.out) | (with_reducible refine Ext.below ?_ (Nat.le_refl _) _) | omega | (simp; done) | (simp; omega)))⟩
end Go.Proofs.YtaflcbdbacogeaaDoor
