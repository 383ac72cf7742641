/-
  ReportSpecies: the walk of the law.
-/
import Derived.Test.YtaflcbdbacogeaaDoorW4
set_option linter.unusedVariables false
set_option linter.unusedSimpArgs false
namespace Go.Proofs.YtaflcbdbacogeaaDoor
open Go.RowKit ReportM

attribute [local go_sem] ExtOf.cell ExtOf.frozen ExtS.cell ExtS.frozen Block.cell Block.frozen ExtB.cell ExtB.frozen alloc_cell alloc_frozen eqRw eqYd eqgRw eqgYd
attribute [local simp] stCells
set_option maxRecDepth 20000 in
set_option maxHeartbeats 6400000 in
theorem species_walk (g : List Sw) (v : Value) (w : World) (h1 : SliceOf encSw 7 w v g) (htab : Tab w) : Calls Tryd.prog 7 #[v] w fun e w' => e = .returned (.bool true) ∧ ∃ n : ExtOf w, w' = n.val := by
  obtain ⟨all, ee, hR⟩ : ∃ y ee, recF ⟨#[]⟩ g zeroY = (y, ee) := ⟨_, _, rfl⟩
  obtain ⟨pv, cv, rfl, _, _, _⟩ := SliceOf.form h1
  have HT := Lib.hid htab
  have H1 := Lib.hid h1
  have HR := Lib.hid hR
  clear htab h1 hR
  go_enter Tryd.func7, Tryd.ntmps7
  by_cases hlen : g.length ≤ 40
  · by_cases he : ee = 0
    · subst he
      go_wp2_with (first | ((with_reducible apply wl_load' lwSt); (· (first | exact wanted_none rfl | exact wanted_some rfl rfl rfl)); (· rfl); (· infer_instance); (· rfl)) | ((with_reducible apply wl_load' lwY); (· (first | exact wanted_none rfl | exact wanted_some rfl rfl rfl)); (· rfl); (· infer_instance); (· rfl)) | ((with_reducible apply wl_store' lwSt); (· (first | exact wanted_none rfl | exact wanted_some rfl rfl rfl)); (· rfl); (· rfl); (· infer_instance); (· rfl); (· rfl); (· (simp [Value.oneCell'])); try simp only [setRow_alloc, setRow_new, setRow_new1, setRow_new2, setRow_new11, setRow_new111]) | ((with_reducible apply wl_store' lwRSt); (· (first | exact wanted_none rfl | exact wanted_some rfl rfl rfl)); (· rfl); (· rfl); (· infer_instance); (· rfl); (· rfl); (· (simp [Value.oneCell'])); try simp only [setRow_alloc, setRow_new, setRow_new1, setRow_new2, setRow_new11, setRow_new111]) | ((with_reducible apply wl_store' lwY); (· (first | exact wanted_none rfl | exact wanted_some rfl rfl rfl)); (· rfl); (· rfl); (· infer_instance); (· rfl); (· rfl); (· (simp [Value.oneCell'])); try simp only [setRow_alloc, setRow_new, setRow_new1, setRow_new2, setRow_new11, setRow_new111]) | (go_at_call 10; refine (mill_any [] g [] _ _ _ _ (SliceOf.nil _) H1.out (SliceOf.nil _) (by decide) (by omega) (by decide) (by simp)).mono ?_; rintro e W ⟨vi, vri, vl, vrl, vo, vro, rfl, hi, hri, hl, hrl, ho, hro, nm, rfl⟩; obtain ⟨q1, k1, rfl, _, _, _⟩ := SliceOf.form hi; obtain ⟨q2, k2, rfl, _, _, _⟩ := SliceOf.form hri; obtain ⟨q3, k3, rfl, _, _, _⟩ := SliceOf.form hl; obtain ⟨q4, k4, rfl, _, _, _⟩ := SliceOf.form hrl; obtain ⟨q5, k5, rfl, _, _, _⟩ := SliceOf.form ho; obtain ⟨q6, k6, rfl, _, _, _⟩ := SliceOf.form hro; have HI := Lib.hid hi; have HL := Lib.hid hl; have HO := Lib.hid ho; have HRI := Lib.hid hri; have HRL := Lib.hid hrl; have HRO := Lib.hid hro; clear hi hri hl hrl ho hro) | (go_at_call 16; refine (rec_e g _ _ _ ⟨#[]⟩ all 0 _ (SliceOf.ext HL.out (by repeat' (first | (with_reducible exact Ext.refl _) | (with_reducible exact ExtOf.ext _) | (with_reducible refine Ext.trans ?_ (ExtOf.ext _)) | (with_reducible refine Ext.alloc ?_ _) | (with_reducible refine Ext.drew ?_) | (with_reducible refine Ext.setCell ?_ ?_ _) | (with_reducible refine Ext.setRow ?_ ?_ _) | (with_reducible exact HX.out) | (with_reducible refine Ext.trans ?_ HX.out) | (with_reducible refine Ext.below ?_ (Nat.le_refl _) _) | omega | (simp; done) | (simp; omega)))) (by omega) HR.out).mono ?_; rintro e w' ⟨rfl, n, rfl⟩))
      obtain ⟨hall, hok⟩ := recF_ok HR.out rfl
      rw [zero_sumY] at hall
      have HALL := Lib.hid hall
      have HOK := Lib.hid hok
      clear hall hok
      refine freshS (R := fun W => Code.wp _ _ _ _ W) (w0 := w) nm.val.heap.size n.val.heap.size (n.val.heap.size + 1) inferInstance inferInstance (by simp) (by repeat' (first | (with_reducible exact Ext.refl _) | (with_reducible exact ExtOf.ext _) | (with_reducible refine Ext.trans ?_ (ExtOf.ext _)) | (with_reducible refine Ext.alloc ?_ _) | (with_reducible refine Ext.drew ?_) | (with_reducible refine Ext.setCell ?_ ?_ _) | (with_reducible refine Ext.setRow ?_ ?_ _) | (with_reducible exact HX.out) | (with_reducible refine Ext.trans ?_ HX.out) | (with_reducible refine Ext.below ?_ (Nat.le_refl _) _) | omega | (simp; done) | (simp; omega))) (SliceOf.ext HL.out (by repeat' (first | (with_reducible exact Ext.refl _) | (with_reducible exact ExtOf.ext _) | (with_reducible refine Ext.trans ?_ (ExtOf.ext _)) | (with_reducible refine Ext.alloc ?_ _) | (with_reducible refine Ext.drew ?_) | (with_reducible refine Ext.setCell ?_ ?_ _) | (with_reducible refine Ext.setRow ?_ ?_ _) | (with_reducible exact HX.out) | (with_reducible refine Ext.trans ?_ HX.out) | (with_reducible refine Ext.below ?_ (Nat.le_refl _) _) | omega | (simp; done) | (simp; omega)))) ?_
      intro W1 hb3 hb5 hb7 hxw hlg
      have HB3 : Hid (Block W1 nm.val.heap.size (stCells (.slice q3 g.length k3) (.slice q1 0 k1) (.slice q5 0 k5))) := Lib.hid hb3
      have HB5 := Lib.hid hb5
      have HB7 := Lib.hid hb7
      have HXW := Lib.hid hxw
      have HLG := Lib.hid hlg
      have lw7 : W1.heap.size ≤ n.val.heap.size + 1 := by omega
      clear hb3 hb5 hb7 hxw hlg HI HL HO HRI HRL HRO
      generalize n.val.heap.size + 1 = b7 at *
      generalize n.val.heap.size = b5 at *
      clear n
      generalize nm.val.heap.size = b3 at *
      clear nm
      go_loopw [8] (fun i wr => ∃ k : Nat, k ≤ g.length ∧ i = .int .i64 k ∧ (∀ j (hj : j < g.length), j < k → g[j].sp.toList ≠ []) ∧ Block wr b7 #[.int .i64 (sumU g (fsTo g k)).lg, .int .i64 (sumU g (fsTo g k)).bo, .int .i64 (sumU g (fsTo g k)).ch, .int .i64 (sumU g (fsTo g k)).du, .int .i64 (sumU g (fsTo g k)).va] ∧ Ext W1 wr) (fun i _ => g.length - (intOf i).toNat)
      case atStart => exact ⟨0, by omega, rfl, fun j _ hj => by omega, by rw [← HB7.out]; exact (inferInstance : Block (W1.alloc (.cells #[.int .i64 0, .int .i64 0, .int .i64 0, .int .i64 0, .int .i64 0] 65)) W1.heap.size #[.int .i64 0, .int .i64 0, .int .i64 0, .int .i64 0, .int .i64 0]), (Ext.refl _).alloc _⟩
      case round =>
        obtain ⟨k, hk, rfl, hne, h7, hx⟩ := hrel
        obtain ⟨Wo, rfl⟩ : ∃ W, W = wr := ⟨_, rfl⟩
        have HX := Lib.hid hx
        have HNE := Lib.hid hne
        have h3 := HB3.out.ext hx
        have h5 := HB5.out.ext hx
        have HX1 := Lib.hid (HXW.out.trans hx)
        have o3 := h3.old
        have o5 := h5.old
        have o7 := h7.old
        clear hx hne
        by_cases hlt : k < g.length
        · obtain ⟨b1, off0, rfl, rw0⟩ := SliceOf.elemK H1.out hlt
          obtain ⟨u, hu⟩ : ∃ u, u = g[k].sp := ⟨_, rfl⟩
          have c0 : Wo.cell? ⟨b1, off0 + k * 7, none⟩ = some (.string u) := by rw [hu]; exact (HX1.out.range rw0) 0 _ rfl
          have o1 : Old b1 Wo := Old.of_cell c0
          have HU := Lib.hid hu
          clear hu rw0
          go_wp2_with fail
          go_loopw [9, 10] (fun f i wz => ∃ m : Nat, m ≤ k ∧ i = .int .i64 m ∧ f = .bool (fB g u.toList m) ∧ Ext Wo wz) (fun _ i _ => k - (intOf i).toNat)
          case atStart => exact ⟨0, by omega, rfl, by rw [fB_zero], Ext.refl _⟩
          case round =>
            obtain ⟨m, hm, rfl, rfl, hx⟩ := hrel
            have HXZ := Lib.hid hx
            clear hx
            by_cases hlm : m < k
            · obtain ⟨b2, off2, e2, rw2⟩ := SliceOf.elemK H1.out (show m < g.length by omega)
              cases e2
              obtain ⟨z, hz⟩ : ∃ z, z = g[m].sp := ⟨_, rfl⟩
              have d0 : wr.cell? ⟨b1, off0 + m * 7, none⟩ = some (.string z) := by rw [hz]; exact ((HX1.out.trans HXZ.out).range rw2) 0 _ rfl
              have d1 : wr.cell? ⟨b1, off0 + k * 7, none⟩ = some (.string u) := by rw [Below.cell (p := ⟨b1, off0 + k * 7, none⟩) HXZ.out o1.lt]; exact c0
              have oz : Old b1 wr := Old.of_cell d0
              have HFS : Hid (fB g u.toList (m + 1) = (fB g u.toList m && !(z.toList == u.toList))) := Lib.hid (by rw [hz]; exact fB_succ (by omega))
              clear rw2 hz
              rcases hf : fB g u.toList m with _ | _
              · go_wp2_with fail
                refine wp_region_ext (by kernel_rfl) (by kernel_rfl) ?_
                repeat (first | go_big_quiet_skip | go_big_quiet_step (fail))
                refine wpQuiet_nil ?_
                intro _ hw'
                obtain ⟨nq, hw''⟩ := hw'
                subst hw''
                go_wp2_with fail
                go_roundw
                case rel => exact ⟨m + 1, by omega, by first | rfl | go_num, by rw [HFS.out, hf]; rfl, HXZ.out.trans nq.ext⟩
                case measure => simp [intOf]; omega
              · rcases hq : (z.toList == u.toList) with _ | _
                · have hq2 : (!z.toList == u.toList) = true := by rw [hq]; rfl
                  go_wp2_with fail
                  refine wp_region_ext (by kernel_rfl) (by kernel_rfl) ?_
                  repeat (first | go_big_quiet_skip | go_big_quiet_step (fail))
                  refine wpQuiet_nil ?_
                  intro _ hw'
                  obtain ⟨nq, hw''⟩ := hw'
                  subst hw''
                  go_wp2_with fail
                  go_roundw
                  case rel => exact ⟨m + 1, by omega, by first | rfl | go_num, by rw [HFS.out, hf, hq]; rfl, HXZ.out.trans nq.ext⟩
                  case measure => simp [intOf]; omega
                · have hq2 : (!z.toList == u.toList) = false := by rw [hq]; rfl
                  go_wp2_with fail
                  refine wp_region_ext (by kernel_rfl) (by kernel_rfl) ?_
                  repeat (first | go_big_quiet_skip | go_big_quiet_step (fail))
                  refine wpQuiet_nil ?_
                  intro _ hw'
                  obtain ⟨nq, hw''⟩ := hw'
                  subst hw''
                  go_wp2_with fail
                  go_roundw
                  case rel => exact ⟨m + 1, by omega, by first | rfl | go_num, by rw [HFS.out, hf, hq]; rfl, HXZ.out.trans nq.ext⟩
                  case measure => simp [intOf]; omega
            · obtain rfl : m = k := by omega
              have d1 : wr.cell? ⟨b1, off0 + m * 7, none⟩ = some (.string u) := by rw [Below.cell (p := ⟨b1, off0 + m * 7, none⟩) HXZ.out o1.lt]; exact c0
              have oz : Old b1 wr := Old.of_cell d1
              have HXA := Lib.hid (HX1.out.trans HXZ.out)
              have HXB := Lib.hid (HX.out.trans HXZ.out)
              replace h3 := h3.ext HXZ.out
              replace h5 := h5.ext HXZ.out
              replace h7 := h7.ext HXZ.out
              clear HX1 HX HXZ c0 o1 o3 o5 o7
              rcases hue : u.toList.isEmpty with _ | _
              · have HUN : Hid (u.toList ≠ []) := Lib.hid (fun h => by rw [h] at hue; cases hue)
                have HNE2 : Hid (∀ j (hj : j < g.length), j < m + 1 → g[j].sp.toList ≠ []) := Lib.hid (fun j hj hjm => by
                  rcases Nat.lt_or_ge j m with h | h
                  · exact HNE.out j hj h
                  · obtain rfl : j = m := by omega
                    rw [← HU.out]
                    exact HUN.out)
                rcases hct : ((g.take m).map (·.sp.toList)).contains u.toList with _ | _
                · have hfb : fB g u.toList m = true := by unfold fB; rw [hue, hct]; rfl
                  have HFT : Hid (fsTo g (m + 1) = fsTo g m ++ [u.toList]) := Lib.hid (by
                    rw [fsTo_succ hlt, ← HU.out, if_neg]
                    intro h
                    rw [← List.contains_iff_mem, hct] at h
                    cases h)
                  clear hct
                  obtain ⟨y, f, hRu⟩ : ∃ y f, recF u g zeroY = (y, f) := ⟨_, _, rfl⟩
                  have HRU := Lib.hid hRu
                  clear hRu
                  obtain ⟨s, hs⟩ : ∃ s, s = sumU g (fsTo g m) := ⟨_, rfl⟩
                  have HSS := Lib.hid hs
                  rw [← hs] at h7
                  clear hs
                  obtain ⟨a1, a2, a3, a4, a5⟩ := s
                  obtain ⟨y1, y2, y3, y4, y5⟩ := y
                  rcases he1 : (f != 0) with _ | _
                  · have HF0 : Hid (f = 0) := Lib.hid (by simpa using he1)
                    rcases he2 : (addE ⟨a1, a2, a3, a4, a5⟩ ⟨y1, y2, y3, y4, y5⟩ != 0) with _ | _
                    · have HE0 : Hid (addE ⟨a1, a2, a3, a4, a5⟩ ⟨y1, y2, y3, y4, y5⟩ = 0) := Lib.hid (by simpa using he2)
                      have HSUM : Hid (sumU g (fsTo g (m + 1)) = addY ⟨a1, a2, a3, a4, a5⟩ ⟨y1, y2, y3, y4, y5⟩) := Lib.hid (by
                        rw [HFT.out, sumU_snoc, ← HSS.out, (add_ok HE0.out).1]
                        have h2 := (recF_ok HRU.out HF0.out).1
                        rw [zero_sumY] at h2
                        rw [h2, funext (takes_sp HUN.out)])
                      go_wp2_with fail
                      refine region_quiet (S := fun W => ∃ n : ExtOf wr, W = n.val) [true, true, true, true, true, true] 7 (by kernel_rfl) (by kernel_rfl) (by kernel_rfl) (fun _ _ _ _ _ h => h) (ExtOf.of (Ext.drew (Ext.refl _))) (by kernel_rfl) (by kernel_rfl) (by kernel_rfl) ?_
                      simp only [part]
                      repeat (first | go_big_quiet_skip | ((with_reducible apply q_load' lwSt); (· (first | exact wanted_none rfl | exact wanted_some rfl rfl rfl)); (· rfl); (· infer_instance); (· rfl); simp only [Act.put, List.setIfInBounds_toArray, List.set_cons_succ, List.set_cons_zero]) | go_big_quiet_step (fail))
                      refine wpQuiet_nil ?_
                      refine ah_pair (c := 6) (mv := 7) (e0 := 8) (e1 := 9) (al := 10) (st := 11) (asg := 12) (f := 16) (vals := #[.agg (stCells (.slice q3 g.length k3) (.slice q1 0 k1) (.slice q5 0 k5)), .string u]) (cs := #[.int .i64 y1, .int .i64 y2, .int .i64 y3, .int .i64 y4, .int .i64 y5]) (v1 := .int .i64 f) (z := #[.int .i64 0, .int .i64 0, .int .i64 0, .int .i64 0, .int .i64 0]) rfl rfl rfl rfl ⟨rfl, rfl, rfl⟩ rfl ⟨rfl, rfl, rfl⟩ rfl ⟨rfl, rfl, rfl⟩ rfl rfl rfl ⟨rfl, rfl, rfl⟩ lwY rfl (by simp [Value.oneCell']) zeroYd rfl (by kernel_rfl) (by kernel_rfl) (by kernel_rfl) (fun _ _ _ _ _ h => h) (fun W => by kernel_rfl) (fun W x => by kernel_rfl) (fun W hW => rec_e g _ _ _ u ⟨y1, y2, y3, y4, y5⟩ f W (SliceOf.ext HLG.out (HXB.out.trans (Ext.trans (Ext.drew (Ext.refl _)) hW))) (by omega) HRU.out) (fun W h => ExtOf.of (Ext.trans (Ext.drew (Ext.refl _)) h)) ?_
                      intro W' gn hx'' hgn hbn
                      have hx' : Ext wr W' := Ext.trans (Ext.drew (Ext.refl _)) hx''
                      replace hgn : wr.heap.size ≤ gn := hgn
                      clear hx''
                      have kb7 := h7.ext hx'
                      have HXC : Hid (Ext W1 W') := Lib.hid (HXB.out.trans hx')
                      have HXD : Hid (Ext w W') := Lib.hid (HXA.out.trans hx')
                      have o7 := h7.old
                      have ap7 : Apart gn b7 := ⟨by have := o7.lt; omega⟩
                      have ap7' : Apart b7 gn := ⟨by have := o7.lt; omega⟩
                      clear hx' o7
                      simp only [Act.put, List.setIfInBounds_toArray, List.set_cons_succ, List.set_cons_zero]
                      go_wp2_with (first | ((with_reducible apply wl_load' lwY); (· (first | exact wanted_none rfl | exact wanted_some rfl rfl rfl)); (· rfl); (· infer_instance); (· rfl)) | ((with_reducible apply wl_store' lwY); (· (first | exact wanted_none rfl | exact wanted_some rfl rfl rfl)); (· rfl); (· rfl); (· infer_instance); (· rfl); (· rfl); (· (simp [Value.oneCell'])); try simp only [setRow_alloc, setRow_new, setRow_new1, setRow_new2, setRow_new11, setRow_new111]) | (go_at_call 21; refine (add_any ⟨a1, a2, a3, a4, a5⟩ ⟨y1, y2, y3, y4, y5⟩ _).mono ?_; rintro e w' ⟨rfl, n, rfl⟩))
                      go_roundw
                      case rel => exact ⟨m + 1, by omega, by first | rfl | go_num, HNE2.out, by rw [HSUM.out]; infer_instance, by replace HX := HXC; repeat' (first | (with_reducible exact Ext.refl _) | (with_reducible exact ExtOf.ext _) | (with_reducible refine Ext.trans ?_ (ExtOf.ext _)) | (with_reducible refine Ext.alloc ?_ _) | (with_reducible refine Ext.drew ?_) | (with_reducible refine Ext.setCell ?_ ?_ _) | (with_reducible refine Ext.setRow ?_ ?_ _) | (with_reducible exact HX.out) | (with_reducible refine Ext.trans ?_ HX.out) | (with_reducible refine Ext.below ?_ (Nat.le_refl _) _) | omega | (simp; done) | (simp; omega))⟩
                      case measure => simp [intOf]; omega
                    · have HWD : Hid (g.any wideB = true) := Lib.hid (species_wide hlen hk HOK.out HRU.out (by
                        rintro ⟨_, h⟩
                        rw [← HSS.out] at h
                        rw [h] at he2
                        cases he2))
                      go_wp2_with fail
                      refine region_quiet (S := fun W => ∃ n : ExtOf wr, W = n.val) [true, true, true, true, true, true] 7 (by kernel_rfl) (by kernel_rfl) (by kernel_rfl) (fun _ _ _ _ _ h => h) (ExtOf.of (Ext.drew (Ext.refl _))) (by kernel_rfl) (by kernel_rfl) (by kernel_rfl) ?_
                      simp only [part]
                      repeat (first | go_big_quiet_skip | ((with_reducible apply q_load' lwSt); (· (first | exact wanted_none rfl | exact wanted_some rfl rfl rfl)); (· rfl); (· infer_instance); (· rfl); simp only [Act.put, List.setIfInBounds_toArray, List.set_cons_succ, List.set_cons_zero]) | go_big_quiet_step (fail))
                      refine wpQuiet_nil ?_
                      refine ah_pair (c := 6) (mv := 7) (e0 := 8) (e1 := 9) (al := 10) (st := 11) (asg := 12) (f := 16) (vals := #[.agg (stCells (.slice q3 g.length k3) (.slice q1 0 k1) (.slice q5 0 k5)), .string u]) (cs := #[.int .i64 y1, .int .i64 y2, .int .i64 y3, .int .i64 y4, .int .i64 y5]) (v1 := .int .i64 f) (z := #[.int .i64 0, .int .i64 0, .int .i64 0, .int .i64 0, .int .i64 0]) rfl rfl rfl rfl ⟨rfl, rfl, rfl⟩ rfl ⟨rfl, rfl, rfl⟩ rfl ⟨rfl, rfl, rfl⟩ rfl rfl rfl ⟨rfl, rfl, rfl⟩ lwY rfl (by simp [Value.oneCell']) zeroYd rfl (by kernel_rfl) (by kernel_rfl) (by kernel_rfl) (fun _ _ _ _ _ h => h) (fun W => by kernel_rfl) (fun W x => by kernel_rfl) (fun W hW => rec_e g _ _ _ u ⟨y1, y2, y3, y4, y5⟩ f W (SliceOf.ext HLG.out (HXB.out.trans (Ext.trans (Ext.drew (Ext.refl _)) hW))) (by omega) HRU.out) (fun W h => ExtOf.of (Ext.trans (Ext.drew (Ext.refl _)) h)) ?_
                      intro W' gn hx'' hgn hbn
                      have hx' : Ext wr W' := Ext.trans (Ext.drew (Ext.refl _)) hx''
                      replace hgn : wr.heap.size ≤ gn := hgn
                      clear hx''
                      have kb7 := h7.ext hx'
                      have HXC : Hid (Ext W1 W') := Lib.hid (HXB.out.trans hx')
                      have HXD : Hid (Ext w W') := Lib.hid (HXA.out.trans hx')
                      have o7 := h7.old
                      have ap7 : Apart gn b7 := ⟨by have := o7.lt; omega⟩
                      have ap7' : Apart b7 gn := ⟨by have := o7.lt; omega⟩
                      clear hx' o7
                      simp only [Act.put, List.setIfInBounds_toArray, List.set_cons_succ, List.set_cons_zero]
                      go_wp2_with (first | ((with_reducible apply wl_load' lwY); (· (first | exact wanted_none rfl | exact wanted_some rfl rfl rfl)); (· rfl); (· infer_instance); (· rfl)) | ((with_reducible apply wl_store' lwY); (· (first | exact wanted_none rfl | exact wanted_some rfl rfl rfl)); (· rfl); (· rfl); (· infer_instance); (· rfl); (· rfl); (· (simp [Value.oneCell'])); try simp only [setRow_alloc, setRow_new, setRow_new1, setRow_new2, setRow_new11, setRow_new111]) | (go_at_call 21; refine (add_any ⟨a1, a2, a3, a4, a5⟩ ⟨y1, y2, y3, y4, y5⟩ _).mono ?_; rintro e w' ⟨rfl, n, rfl⟩) | (go_at_call 22; refine (wide_any g _ _ (SliceOf.ext H1.out (by replace HX := HXD; repeat' (first | (with_reducible exact Ext.refl _) | (with_reducible exact ExtOf.ext _) | (with_reducible refine Ext.trans ?_ (ExtOf.ext _)) | (with_reducible refine Ext.alloc ?_ _) | (with_reducible refine Ext.drew ?_) | (with_reducible refine Ext.setCell ?_ ?_ _) | (with_reducible refine Ext.setRow ?_ ?_ _) | (with_reducible exact HX.out) | (with_reducible refine Ext.trans ?_ HX.out) | (with_reducible refine Ext.below ?_ (Nat.le_refl _) _) | omega | (simp; done) | (simp; omega)))) (by omega) HWD.out).mono ?_; rintro e w' ⟨rfl, n, rfl⟩) | (go_at_call 9; refine (awake_any _ (HT.out.ext (by replace HX := HXD; repeat' (first | (with_reducible exact Ext.refl _) | (with_reducible exact ExtOf.ext _) | (with_reducible refine Ext.trans ?_ (ExtOf.ext _)) | (with_reducible refine Ext.alloc ?_ _) | (with_reducible refine Ext.drew ?_) | (with_reducible refine Ext.setCell ?_ ?_ _) | (with_reducible refine Ext.setRow ?_ ?_ _) | (with_reducible exact HX.out) | (with_reducible refine Ext.trans ?_ HX.out) | (with_reducible refine Ext.below ?_ (Nat.le_refl _) _) | omega | (simp; done) | (simp; omega))))).mono ?_; rintro e W ⟨rfl, na, rfl⟩))
                      go_ret
                      exact ⟨rfl, by replace HX := HXD; exact ExtOf.of (by repeat' (first | (with_reducible exact Ext.refl _) | (with_reducible exact ExtOf.ext _) | (with_reducible refine Ext.trans ?_ (ExtOf.ext _)) | (with_reducible refine Ext.alloc ?_ _) | (with_reducible refine Ext.drew ?_) | (with_reducible refine Ext.setCell ?_ ?_ _) | (with_reducible refine Ext.setRow ?_ ?_ _) | (with_reducible exact HX.out) | (with_reducible refine Ext.trans ?_ HX.out) | (with_reducible refine Ext.below ?_ (Nat.le_refl _) _) | omega | (simp; done) | (simp; omega)))⟩
                  · have HWD : Hid (g.any wideB = true) := Lib.hid (species_wide hlen hk HOK.out HRU.out (by
                      rintro ⟨h, _⟩
                      rw [h] at he1
                      cases he1))
                    rcases he2 : (addE ⟨a1, a2, a3, a4, a5⟩ ⟨y1, y2, y3, y4, y5⟩ != 0) with _ | _
                    · go_wp2_with fail
                      refine region_quiet (S := fun W => ∃ n : ExtOf wr, W = n.val) [true, true, true, true, true, true] 7 (by kernel_rfl) (by kernel_rfl) (by kernel_rfl) (fun _ _ _ _ _ h => h) (ExtOf.of (Ext.drew (Ext.refl _))) (by kernel_rfl) (by kernel_rfl) (by kernel_rfl) ?_
                      simp only [part]
                      repeat (first | go_big_quiet_skip | ((with_reducible apply q_load' lwSt); (· (first | exact wanted_none rfl | exact wanted_some rfl rfl rfl)); (· rfl); (· infer_instance); (· rfl); simp only [Act.put, List.setIfInBounds_toArray, List.set_cons_succ, List.set_cons_zero]) | go_big_quiet_step (fail))
                      refine wpQuiet_nil ?_
                      refine ah_pair (c := 6) (mv := 7) (e0 := 8) (e1 := 9) (al := 10) (st := 11) (asg := 12) (f := 16) (vals := #[.agg (stCells (.slice q3 g.length k3) (.slice q1 0 k1) (.slice q5 0 k5)), .string u]) (cs := #[.int .i64 y1, .int .i64 y2, .int .i64 y3, .int .i64 y4, .int .i64 y5]) (v1 := .int .i64 f) (z := #[.int .i64 0, .int .i64 0, .int .i64 0, .int .i64 0, .int .i64 0]) rfl rfl rfl rfl ⟨rfl, rfl, rfl⟩ rfl ⟨rfl, rfl, rfl⟩ rfl ⟨rfl, rfl, rfl⟩ rfl rfl rfl ⟨rfl, rfl, rfl⟩ lwY rfl (by simp [Value.oneCell']) zeroYd rfl (by kernel_rfl) (by kernel_rfl) (by kernel_rfl) (fun _ _ _ _ _ h => h) (fun W => by kernel_rfl) (fun W x => by kernel_rfl) (fun W hW => rec_e g _ _ _ u ⟨y1, y2, y3, y4, y5⟩ f W (SliceOf.ext HLG.out (HXB.out.trans (Ext.trans (Ext.drew (Ext.refl _)) hW))) (by omega) HRU.out) (fun W h => ExtOf.of (Ext.trans (Ext.drew (Ext.refl _)) h)) ?_
                      intro W' gn hx'' hgn hbn
                      have hx' : Ext wr W' := Ext.trans (Ext.drew (Ext.refl _)) hx''
                      replace hgn : wr.heap.size ≤ gn := hgn
                      clear hx''
                      have kb7 := h7.ext hx'
                      have HXC : Hid (Ext W1 W') := Lib.hid (HXB.out.trans hx')
                      have HXD : Hid (Ext w W') := Lib.hid (HXA.out.trans hx')
                      have o7 := h7.old
                      have ap7 : Apart gn b7 := ⟨by have := o7.lt; omega⟩
                      have ap7' : Apart b7 gn := ⟨by have := o7.lt; omega⟩
                      clear hx' o7
                      simp only [Act.put, List.setIfInBounds_toArray, List.set_cons_succ, List.set_cons_zero]
                      go_wp2_with (first | ((with_reducible apply wl_load' lwY); (· (first | exact wanted_none rfl | exact wanted_some rfl rfl rfl)); (· rfl); (· infer_instance); (· rfl)) | ((with_reducible apply wl_store' lwY); (· (first | exact wanted_none rfl | exact wanted_some rfl rfl rfl)); (· rfl); (· rfl); (· infer_instance); (· rfl); (· rfl); (· (simp [Value.oneCell'])); try simp only [setRow_alloc, setRow_new, setRow_new1, setRow_new2, setRow_new11, setRow_new111]) | (go_at_call 21; refine (add_any ⟨a1, a2, a3, a4, a5⟩ ⟨y1, y2, y3, y4, y5⟩ _).mono ?_; rintro e w' ⟨rfl, n, rfl⟩) | (go_at_call 22; refine (wide_any g _ _ (SliceOf.ext H1.out (by replace HX := HXD; repeat' (first | (with_reducible exact Ext.refl _) | (with_reducible exact ExtOf.ext _) | (with_reducible refine Ext.trans ?_ (ExtOf.ext _)) | (with_reducible refine Ext.alloc ?_ _) | (with_reducible refine Ext.drew ?_) | (with_reducible refine Ext.setCell ?_ ?_ _) | (with_reducible refine Ext.setRow ?_ ?_ _) | (with_reducible exact HX.out) | (with_reducible refine Ext.trans ?_ HX.out) | (with_reducible refine Ext.below ?_ (Nat.le_refl _) _) | omega | (simp; done) | (simp; omega)))) (by omega) HWD.out).mono ?_; rintro e w' ⟨rfl, n, rfl⟩) | (go_at_call 9; refine (awake_any _ (HT.out.ext (by replace HX := HXD; repeat' (first | (with_reducible exact Ext.refl _) | (with_reducible exact ExtOf.ext _) | (with_reducible refine Ext.trans ?_ (ExtOf.ext _)) | (with_reducible refine Ext.alloc ?_ _) | (with_reducible refine Ext.drew ?_) | (with_reducible refine Ext.setCell ?_ ?_ _) | (with_reducible refine Ext.setRow ?_ ?_ _) | (with_reducible exact HX.out) | (with_reducible refine Ext.trans ?_ HX.out) | (with_reducible refine Ext.below ?_ (Nat.le_refl _) _) | omega | (simp; done) | (simp; omega))))).mono ?_; rintro e W ⟨rfl, na, rfl⟩))
                      go_ret
                      exact ⟨rfl, by replace HX := HXD; exact ExtOf.of (by repeat' (first | (with_reducible exact Ext.refl _) | (with_reducible exact ExtOf.ext _) | (with_reducible refine Ext.trans ?_ (ExtOf.ext _)) | (with_reducible refine Ext.alloc ?_ _) | (with_reducible refine Ext.drew ?_) | (with_reducible refine Ext.setCell ?_ ?_ _) | (with_reducible refine Ext.setRow ?_ ?_ _) | (with_reducible exact HX.out) | (with_reducible refine Ext.trans ?_ HX.out) | (with_reducible refine Ext.below ?_ (Nat.le_refl _) _) | omega | (simp; done) | (simp; omega)))⟩
                    · go_wp2_with fail
                      refine region_quiet (S := fun W => ∃ n : ExtOf wr, W = n.val) [true, true, true, true, true, true] 7 (by kernel_rfl) (by kernel_rfl) (by kernel_rfl) (fun _ _ _ _ _ h => h) (ExtOf.of (Ext.drew (Ext.refl _))) (by kernel_rfl) (by kernel_rfl) (by kernel_rfl) ?_
                      simp only [part]
                      repeat (first | go_big_quiet_skip | ((with_reducible apply q_load' lwSt); (· (first | exact wanted_none rfl | exact wanted_some rfl rfl rfl)); (· rfl); (· infer_instance); (· rfl); simp only [Act.put, List.setIfInBounds_toArray, List.set_cons_succ, List.set_cons_zero]) | go_big_quiet_step (fail))
                      refine wpQuiet_nil ?_
                      refine ah_pair (c := 6) (mv := 7) (e0 := 8) (e1 := 9) (al := 10) (st := 11) (asg := 12) (f := 16) (vals := #[.agg (stCells (.slice q3 g.length k3) (.slice q1 0 k1) (.slice q5 0 k5)), .string u]) (cs := #[.int .i64 y1, .int .i64 y2, .int .i64 y3, .int .i64 y4, .int .i64 y5]) (v1 := .int .i64 f) (z := #[.int .i64 0, .int .i64 0, .int .i64 0, .int .i64 0, .int .i64 0]) rfl rfl rfl rfl ⟨rfl, rfl, rfl⟩ rfl ⟨rfl, rfl, rfl⟩ rfl ⟨rfl, rfl, rfl⟩ rfl rfl rfl ⟨rfl, rfl, rfl⟩ lwY rfl (by simp [Value.oneCell']) zeroYd rfl (by kernel_rfl) (by kernel_rfl) (by kernel_rfl) (fun _ _ _ _ _ h => h) (fun W => by kernel_rfl) (fun W x => by kernel_rfl) (fun W hW => rec_e g _ _ _ u ⟨y1, y2, y3, y4, y5⟩ f W (SliceOf.ext HLG.out (HXB.out.trans (Ext.trans (Ext.drew (Ext.refl _)) hW))) (by omega) HRU.out) (fun W h => ExtOf.of (Ext.trans (Ext.drew (Ext.refl _)) h)) ?_
                      intro W' gn hx'' hgn hbn
                      have hx' : Ext wr W' := Ext.trans (Ext.drew (Ext.refl _)) hx''
                      replace hgn : wr.heap.size ≤ gn := hgn
                      clear hx''
                      have kb7 := h7.ext hx'
                      have HXC : Hid (Ext W1 W') := Lib.hid (HXB.out.trans hx')
                      have HXD : Hid (Ext w W') := Lib.hid (HXA.out.trans hx')
                      have o7 := h7.old
                      have ap7 : Apart gn b7 := ⟨by have := o7.lt; omega⟩
                      have ap7' : Apart b7 gn := ⟨by have := o7.lt; omega⟩
                      clear hx' o7
                      simp only [Act.put, List.setIfInBounds_toArray, List.set_cons_succ, List.set_cons_zero]
                      go_wp2_with (first | ((with_reducible apply wl_load' lwY); (· (first | exact wanted_none rfl | exact wanted_some rfl rfl rfl)); (· rfl); (· infer_instance); (· rfl)) | ((with_reducible apply wl_store' lwY); (· (first | exact wanted_none rfl | exact wanted_some rfl rfl rfl)); (· rfl); (· rfl); (· infer_instance); (· rfl); (· rfl); (· (simp [Value.oneCell'])); try simp only [setRow_alloc, setRow_new, setRow_new1, setRow_new2, setRow_new11, setRow_new111]) | (go_at_call 21; refine (add_any ⟨a1, a2, a3, a4, a5⟩ ⟨y1, y2, y3, y4, y5⟩ _).mono ?_; rintro e w' ⟨rfl, n, rfl⟩) | (go_at_call 22; refine (wide_any g _ _ (SliceOf.ext H1.out (by replace HX := HXD; repeat' (first | (with_reducible exact Ext.refl _) | (with_reducible exact ExtOf.ext _) | (with_reducible refine Ext.trans ?_ (ExtOf.ext _)) | (with_reducible refine Ext.alloc ?_ _) | (with_reducible refine Ext.drew ?_) | (with_reducible refine Ext.setCell ?_ ?_ _) | (with_reducible refine Ext.setRow ?_ ?_ _) | (with_reducible exact HX.out) | (with_reducible refine Ext.trans ?_ HX.out) | (with_reducible refine Ext.below ?_ (Nat.le_refl _) _) | omega | (simp; done) | (simp; omega)))) (by omega) HWD.out).mono ?_; rintro e w' ⟨rfl, n, rfl⟩) | (go_at_call 9; refine (awake_any _ (HT.out.ext (by replace HX := HXD; repeat' (first | (with_reducible exact Ext.refl _) | (with_reducible exact ExtOf.ext _) | (with_reducible refine Ext.trans ?_ (ExtOf.ext _)) | (with_reducible refine Ext.alloc ?_ _) | (with_reducible refine Ext.drew ?_) | (with_reducible refine Ext.setCell ?_ ?_ _) | (with_reducible refine Ext.setRow ?_ ?_ _) | (with_reducible exact HX.out) | (with_reducible refine Ext.trans ?_ HX.out) | (with_reducible refine Ext.below ?_ (Nat.le_refl _) _) | omega | (simp; done) | (simp; omega))))).mono ?_; rintro e W ⟨rfl, na, rfl⟩))
                      go_ret
                      exact ⟨rfl, by replace HX := HXD; exact ExtOf.of (by repeat' (first | (with_reducible exact Ext.refl _) | (with_reducible exact ExtOf.ext _) | (with_reducible refine Ext.trans ?_ (ExtOf.ext _)) | (with_reducible refine Ext.alloc ?_ _) | (with_reducible refine Ext.drew ?_) | (with_reducible refine Ext.setCell ?_ ?_ _) | (with_reducible refine Ext.setRow ?_ ?_ _) | (with_reducible exact HX.out) | (with_reducible refine Ext.trans ?_ HX.out) | (with_reducible refine Ext.below ?_ (Nat.le_refl _) _) | omega | (simp; done) | (simp; omega)))⟩
                · have hfb : fB g u.toList m = false := by unfold fB; rw [hct]; simp
                  have HFT : Hid (fsTo g (m + 1) = fsTo g m) := Lib.hid (by rw [fsTo_succ hlt, ← HU.out, if_pos (List.contains_iff_mem.1 hct)])
                  clear hct
                  go_wp2_with fail
                  go_roundw
                  case rel => exact ⟨m + 1, by omega, by first | rfl | go_num, HNE2.out, by rw [HFT.out]; exact h7, HXB.out⟩
                  case measure => simp [intOf]; omega
              · go_wp2_with (go_at_call 9; refine (awake_any _ (HT.out.ext (by replace HX := HXA; repeat' (first | (with_reducible exact Ext.refl _) | (with_reducible exact ExtOf.ext _) | (with_reducible refine Ext.trans ?_ (ExtOf.ext _)) | (with_reducible refine Ext.alloc ?_ _) | (with_reducible refine Ext.drew ?_) | (with_reducible refine Ext.setCell ?_ ?_ _) | (with_reducible refine Ext.setRow ?_ ?_ _) | (with_reducible exact HX.out) | (with_reducible refine Ext.trans ?_ HX.out) | (with_reducible refine Ext.below ?_ (Nat.le_refl _) _) | omega | (simp; done) | (simp; omega))))).mono ?_; rintro e W ⟨rfl, na, rfl⟩)
                go_ret
                exact ⟨rfl, ExtOf.of (HXA.out.trans na.ext)⟩
        · obtain rfl : k = g.length := by omega
          have HS : Hid (sumU g (fsTo g g.length) = all) := Lib.hid (by rw [sumU_all, HALL.out])
          rw [HS.out] at h7
          go_wp2_with (first | ((with_reducible apply wl_load' lwY); (· (first | exact wanted_none rfl | exact wanted_some rfl rfl rfl)); (· rfl); (· infer_instance); (· rfl)) | (go_at_call 9; refine (awake_any _ (HT.out.ext (by replace HX := HX1; repeat' (first | (with_reducible exact Ext.refl _) | (with_reducible exact ExtOf.ext _) | (with_reducible refine Ext.trans ?_ (ExtOf.ext _)) | (with_reducible refine Ext.alloc ?_ _) | (with_reducible refine Ext.drew ?_) | (with_reducible refine Ext.setCell ?_ ?_ _) | (with_reducible refine Ext.setRow ?_ ?_ _) | (with_reducible exact HX.out) | (with_reducible refine Ext.trans ?_ HX.out) | (with_reducible refine Ext.below ?_ (Nat.le_refl _) _) | omega | (simp; done) | (simp; omega))))).mono ?_; rintro e W ⟨rfl, na, rfl⟩))
          go_ret
          exact ⟨rfl, ExtOf.of (HX1.out.trans na.ext)⟩
    · obtain rfl := recF_err HR.out he
      have he2 : (ee != 0) = true := by simpa using he
      go_wp2_with (first | ((with_reducible apply wl_load' lwSt); (· (first | exact wanted_none rfl | exact wanted_some rfl rfl rfl)); (· rfl); (· infer_instance); (· rfl)) | ((with_reducible apply wl_load' lwY); (· (first | exact wanted_none rfl | exact wanted_some rfl rfl rfl)); (· rfl); (· infer_instance); (· rfl)) | ((with_reducible apply wl_store' lwSt); (· (first | exact wanted_none rfl | exact wanted_some rfl rfl rfl)); (· rfl); (· rfl); (· infer_instance); (· rfl); (· rfl); (· (simp [Value.oneCell'])); try simp only [setRow_alloc, setRow_new, setRow_new1, setRow_new2, setRow_new11, setRow_new111]) | ((with_reducible apply wl_store' lwRSt); (· (first | exact wanted_none rfl | exact wanted_some rfl rfl rfl)); (· rfl); (· rfl); (· infer_instance); (· rfl); (· rfl); (· (simp [Value.oneCell'])); try simp only [setRow_alloc, setRow_new, setRow_new1, setRow_new2, setRow_new11, setRow_new111]) | ((with_reducible apply wl_store' lwY); (· (first | exact wanted_none rfl | exact wanted_some rfl rfl rfl)); (· rfl); (· rfl); (· infer_instance); (· rfl); (· rfl); (· (simp [Value.oneCell'])); try simp only [setRow_alloc, setRow_new, setRow_new1, setRow_new2, setRow_new11, setRow_new111]) | (go_at_call 10; refine (mill_any [] g [] _ _ _ _ (SliceOf.nil _) H1.out (SliceOf.nil _) (by decide) (by omega) (by decide) (by simp)).mono ?_; rintro e W ⟨vi, vri, vl, vrl, vo, vro, rfl, hi, hri, hl, hrl, ho, hro, nm, rfl⟩; obtain ⟨q1, k1, rfl, _, _, _⟩ := SliceOf.form hi; obtain ⟨q2, k2, rfl, _, _, _⟩ := SliceOf.form hri; obtain ⟨q3, k3, rfl, _, _, _⟩ := SliceOf.form hl; obtain ⟨q4, k4, rfl, _, _, _⟩ := SliceOf.form hrl; obtain ⟨q5, k5, rfl, _, _, _⟩ := SliceOf.form ho; obtain ⟨q6, k6, rfl, _, _, _⟩ := SliceOf.form hro; have HI := Lib.hid hi; have HL := Lib.hid hl; have HO := Lib.hid ho; have HRI := Lib.hid hri; have HRL := Lib.hid hrl; have HRO := Lib.hid hro; clear hi hri hl hrl ho hro) | (go_at_call 16; refine (rec_e g _ _ _ ⟨#[]⟩ zeroY ee _ (SliceOf.ext HL.out (by repeat' (first | (with_reducible exact Ext.refl _) | (with_reducible exact ExtOf.ext _) | (with_reducible refine Ext.trans ?_ (ExtOf.ext _)) | (with_reducible refine Ext.alloc ?_ _) | (with_reducible refine Ext.drew ?_) | (with_reducible refine Ext.setCell ?_ ?_ _) | (with_reducible refine Ext.setRow ?_ ?_ _) | (with_reducible exact HX.out) | (with_reducible refine Ext.trans ?_ HX.out) | (with_reducible refine Ext.below ?_ (Nat.le_refl _) _) | omega | (simp; done) | (simp; omega)))) (by omega) HR.out).mono ?_; rintro e w' ⟨rfl, n, rfl⟩) | (go_at_call 9; refine (awake_any _ (HT.out.ext (by repeat' (first | (with_reducible exact Ext.refl _) | (with_reducible exact ExtOf.ext _) | (with_reducible refine Ext.trans ?_ (ExtOf.ext _)) | (with_reducible refine Ext.alloc ?_ _) | (with_reducible refine Ext.drew ?_) | (with_reducible refine Ext.setCell ?_ ?_ _) | (with_reducible refine Ext.setRow ?_ ?_ _) | (with_reducible exact HX.out) | (with_reducible refine Ext.trans ?_ HX.out) | (with_reducible refine Ext.below ?_ (Nat.le_refl _) _) | omega | (simp; done) | (simp; omega))))).mono ?_; rintro e W ⟨rfl, na, rfl⟩))
      go_ret
      exact ⟨rfl, by exact ExtOf.of (by repeat' (first | (with_reducible exact Ext.refl _) | (with_reducible exact ExtOf.ext _) | (with_reducible refine Ext.trans ?_ (ExtOf.ext _)) | (with_reducible refine Ext.alloc ?_ _) | (with_reducible refine Ext.drew ?_) | (with_reducible refine Ext.setCell ?_ ?_ _) | (with_reducible refine Ext.setRow ?_ ?_ _) | (with_reducible exact HX.out) | (with_reducible refine Ext.trans ?_ HX.out) | (with_reducible refine Ext.below ?_ (Nat.le_refl _) _) | omega | (simp; done) | (simp; omega)))⟩
  · go_wp2_with (go_at_call 9; refine (awake_any _ (HT.out.ext (by repeat' (first | (with_reducible exact Ext.refl _) | (with_reducible exact ExtOf.ext _) | (with_reducible refine Ext.trans ?_ (ExtOf.ext _)) | (with_reducible refine Ext.alloc ?_ _) | (with_reducible refine Ext.drew ?_) | (with_reducible refine Ext.setCell ?_ ?_ _) | (with_reducible refine Ext.setRow ?_ ?_ _) | (with_reducible exact HX.out) | (with_reducible refine Ext.trans ?_ HX.out) | (with_reducible refine Ext.below ?_ (Nat.le_refl _) _) | omega | (simp; done) | (simp; omega))))).mono ?_; rintro e W ⟨rfl, na, rfl⟩)
    go_ret
    exact ⟨rfl, by exact ExtOf.of (by repeat' (first | (with_reducible exact Ext.refl _) | (with_reducible exact ExtOf.ext _) | (with_reducible refine Ext.trans ?_ (ExtOf.ext _)) | (with_reducible refine Ext.alloc ?_ _) | (with_reducible refine Ext.drew ?_) | (with_reducible refine Ext.setCell ?_ ?_ _) | (with_reducible refine Ext.setRow ?_ ?_ _) | (with_reducible exact HX.out) | (with_reducible refine Ext.trans ?_ HX.out) | (with_reducible refine Ext.below ?_ (Nat.le_refl _) _) | omega | (simp; done) | (simp; omega)))⟩
end Go.Proofs.YtaflcbdbacogeaaDoor
