/-
  The walk of the reference's Table, and of the statement AssignTables.
-/
import Derived.Test.YthchddkdcibbhaaT3
set_option linter.unusedVariables false
set_option linter.unusedSimpArgs false
namespace Go.Proofs.Ythchddkdcibbhaa
open Go.RowKit AssignM Go.ChangeShapes Go.WideShapes

attribute [local go_sem] ExtOf.cell ExtOf.frozen Block.cell Block.frozen ExtB.cell ExtB.frozen alloc_cell alloc_frozen
theorem Own.setOtherG {α : Type} {enc : α → List Value} {k E base g i : Nat} {w : World} {v : Value} {r : List α} (h : Own enc k E base w v r) (hne : v.ownBlock ≠ some g) (x : Value) : Own enc k E base (w.setCell ⟨g, i, none⟩ x) v r := by
  refine ⟨h.1, ?_⟩
  rcases h.2 with hn | ⟨g', cap, cur, rfl, hb, hgg, rest⟩
  · exact .inl hn
  · refine .inr ⟨g', cap, cur, rfl, hb, ?_, rest⟩
    have hgne : g' ≠ g := fun e => hne (by rw [e]; rfl)
    rw [Below.heap_setCell _ _ _ _ hgne]
    exact hgg
theorem RowsOk.ext {G : List (List Bool)} {v9 : Value} {rs : List RowV} {w w' : World} (h : RowsOk G v9 rs w) (hx : Ext w w') : RowsOk G v9 rs w' := fun i r hr => by
  obtain ⟨row, a, h1, h2, h3, h4, h5⟩ := h i r hr
  exact ⟨row, a, h1, SliceOf.ext h2 hx, h3, Nat.lt_of_lt_of_le h4 hx.size, h5⟩
theorem RowsOk.setCell {G : List (List Bool)} {v9 : Value} {rs : List RowV} {w : World} (h : RowsOk G v9 rs w) {g i : Nat} (hne : ∀ (j : Nat) r a, rs[j]? = some r → r.1 = some a → a.block ≠ g) (v : Value) : RowsOk G v9 rs (w.setCell ⟨g, i, none⟩ v) := fun j r hr => by
  obtain ⟨row, a, h1, h2, h3, h4, h5⟩ := h j r hr
  exact ⟨row, a, h1, SliceOf.setCell h2 (fun a' ha => hne j r a' hr ha) v, h3, by simpa [World.setCell] using h4, h5⟩
set_option maxRecDepth 20000 in
set_option maxHeartbeats 1600000 in
theorem rtable_any (O : List Ord) (L : List Brd) (v0 v1 : Value) (w : World) (h0 : OrdS w v0 O) (h1 : BrdS w v1 L) (hO : O.length ≤ 1048576) (hL : L.length ≤ 1048576) :
    Calls Try.prog 12 #[v0, v1] w fun e w' => ∃ v, e = .returned v ∧ GridS w' v (tab O L) ∧ ∃ n : ExtOf w, w' = n.val := by
  have hm2 := run_make_row' (P := Try.prog) 27 4 (.bool false) 1 Try.underlying27 infoB rfl .i64 .i64 L.length (by omega) (by omega)
  rw [madeB] at hm2
  obtain ⟨iR, hiR, hR0, hR1, hR2⟩ := info_parts infoRow
  obtain ⟨p0, cap0, rfl, hg1, hg2, hg3⟩ := SliceOf.form h0
  obtain ⟨p1, cap1, rfl, hg4, hg5, hg6⟩ := SliceOf.form h1
  have H0 := Lib.hid h0
  have H1 := Lib.hid h1
  clear h0 h1
  go_enter Try.func12, Try.ntmps12
  go_wp2
  go_loopw [5, 6] (fun v5 v wr => ∃ (k : Nat) (rs : List RowV), k ≤ O.length ∧ v = .int .i64 k ∧ rs.length = k ∧ Own encR 1 27 w.heap.size wr v5 rs ∧ RowsOk (tab O L) v5 rs wr ∧ Ext w wr) (fun _ v _ => O.length - (intOf v).toNat)
  case atStart => exact ⟨0, [], by omega, rfl, rfl, Own.nil _, RowsOk.nil _ _ _, Ext.refl _⟩
  case round =>
    obtain ⟨k, rs, hk, rfl, hrl, ho, hr, hx⟩ := hrel
    have HO := Lib.hid ho
    have HR := Lib.hid hr
    have HX := Lib.hid hx
    clear ho hr hx
    by_cases hlt : k < O.length
    · go_wp2
      obtain ⟨gr, hgr⟩ : ∃ x, x = wr.heap.size := ⟨_, rfl⟩
      have hG1 : Block (wr.alloc (.cells (Array.replicate L.length (.bool false)) 4)) gr (rowCells L O[k] 0) := by
        have e0 : rowCells L O[k] 0 = Array.replicate L.length (.bool false) := by rw [rowCells_zero]; simp
        rw [e0, hgr]; exact Block.new _ _ _
      have hX1 : Ext wr (wr.alloc (.cells (Array.replicate L.length (.bool false)) 4)) := (Ext.refl _).alloc _
      have HO1 := Lib.hid (Own.ext HO.out hX1)
      have HR1 := Lib.hid (HR.out.ext hX1)
      have HX1 := Lib.hid (HX.out.trans hX1)
      have HN5 : Hid (u5.ownBlock ≠ some gr) := Lib.hid (Own.block_lt HO.out (by omega))
      have HNE : Hid (∀ (j : Nat) (r : RowV) (a : Addr), rs[j]? = some r → r.1 = some a → a.block ≠ gr) := Lib.hid (fun j r a hr ha => by
        obtain ⟨_, a', _, _, e3, e4, _⟩ := HR.out j r hr
        rw [ha] at e3
        obtain rfl := Option.some.inj e3
        omega)
      have hgrw : w.heap.size ≤ gr := by have := HX.out.size; omega
      rw [← hgr]
      generalize wr.alloc (.cells (Array.replicate L.length (.bool false)) 4) = W1 at *
      have HG1 := Lib.hid hG1
      clear hG1 hX1 HO HR HX hgr
      go_loopw [8] (fun v wr => ∃ (j : Nat), j ≤ L.length ∧ v = .int .i64 j ∧ Block wr gr (rowCells L O[k] j) ∧ Own encR 1 27 w.heap.size wr u5 rs ∧ RowsOk (tab O L) u5 rs wr ∧ Ext w wr) (fun v _ => L.length - (intOf v).toNat)
      case atStart => exact ⟨0, by omega, rfl, HG1.out, HO1.out, HR1.out, HX1.out⟩
      case round =>
        clear HG1 HO1 HR1 HX1
        obtain ⟨j, hj, rfl, hG, ho, hr, hx⟩ := hrel
        have HO := Lib.hid ho
        have HR := Lib.hid hr
        have HX := Lib.hid hx
        have og := hG.old
        clear ho hr hx
        by_cases hjt : j < L.length
        · have hrn := rowCells_next (o := O[k]) hjt
          have HS := Lib.hid (rowCells_set (o := O[k]) hjt)
          obtain ⟨b0, off0, rfl, r0⟩ := SliceOf.elemK (SliceOf.ext H0.out HX.out) hlt
          obtain ⟨b1, off1, rfl, r1⟩ := SliceOf.elemK (SliceOf.ext H1.out HX.out) hjt
          go_wp2
          refine wp_region_ext_tail 13 (by kernel_rfl) (by kernel_rfl) ?_
          simp only [List.take_succ_cons, List.take_zero, List.drop_succ_cons, List.drop_zero]
          repeat (first | go_big_quiet_skip | ((with_reducible apply q_loadM midO r0); (· rfl); (· (first | exact wanted_none rfl | exact wanted_some rfl rfl rfl)); (· rfl); simp only [Act.put, List.setIfInBounds_toArray, List.set_cons_succ, List.set_cons_zero]) | ((with_reducible apply q_loadM midD r1); (· rfl); (· (first | exact wanted_none rfl | exact wanted_some rfl rfl rfl)); (· rfl); simp only [Act.put, List.setIfInBounds_toArray, List.set_cons_succ, List.set_cons_zero]) | go_big_quiet_step ((go_at_call 24; exact ext_call (rfitsO_any _ _ _))))
          refine wpQuiet_nil ?_
          intro _ hw'
          obtain ⟨nq, hw''⟩ := hw'
          subst hw''
          go_wp2
          go_roundw
          case rel =>
            have hG2 : Block (nq.val.setCell ⟨gr, j, none⟩ (.bool (fitsO O[k] L[j] == 0))) gr ((rowCells L O[k] j).setIfInBounds j (.bool (fitsO O[k] L[j] == 0))) := inferInstance
            rw [HS.out] at hG2
            exact ⟨j + 1, by omega, by go_num, hG2, Own.setOtherG (Own.ext HO.out nq.ext) HN5.out _, (HR.out.ext nq.ext).setCell HNE.out _, Ext.setCell (HX.out.trans nq.ext) hgrw _⟩
          case measure => simp [intOf]; omega
        · obtain rfl : j = L.length := by omega
          rw [rowCells_full] at hG
          have hgl := hG.lt
          go_wp2_with (at_builtin; refine wl_append1g (enc := encR) (k := 1) (E := 27) (base := w.heap.size) (l := rs) (y := (some ⟨gr, 0, none⟩, L.length, L.length)) Try.underlying25 hiR hR0 hR1 hR2 rfl (by decide) encR_len encR_one rfl rfl (Own.ext HO.out (by repeat' (first | (with_reducible exact Ext.refl _) | (with_reducible exact ExtOf.ext _) | (with_reducible refine Ext.trans ?_ (ExtOf.ext _)) | (with_reducible refine Ext.alloc ?_ _) | (with_reducible refine Ext.drew ?_) | (with_reducible refine Ext.setCell ?_ ?_ _) | (with_reducible refine Ext.setRow ?_ ?_ _) | (with_reducible exact HX.out) | (with_reducible refine Ext.trans ?_ HX.out) | (with_reducible refine Ext.below ?_ (Nat.le_refl _) _) | (simp; done) | (simp; omega)))) inferInstance rfl (by unfold maxLen; omega) (by omega) (by have h9 : Ext w (wr.alloc (.cells #[.slice (some ⟨gr, 0, none⟩) L.length L.length] 27)) := HX.out.alloc _; exact h9.size) ?_; intro vc nc hownC hkept)
          go_roundw
          case rel =>
            have hW1 : Ext wr (wr.alloc (.cells #[.slice (some ⟨gr, 0, none⟩) L.length L.length] 27)) := (Ext.refl _).alloc _
            have hlt1 : gr < (wr.alloc (.cells #[.slice (some ⟨gr, 0, none⟩) L.length L.length] 27)).heap.size := Nat.lt_of_lt_of_le hgl hW1.size
            have hsl1 : BoolS (wr.alloc (.cells #[.slice (some ⟨gr, 0, none⟩) L.length L.length] 27)) (.slice (some ⟨gr, 0, none⟩) L.length L.length) (rowOf L O[k]) := SliceOf.ext (BoolS.ofBlock hG (by simp [rowOf]) (by unfold maxLen; omega)) hW1
            refine ⟨k + 1, rs ++ [(some ⟨gr, 0, none⟩, L.length, L.length)], by omega, by go_num, by simp [hrl], hownC, ?_, Ext.below (HX.out.trans hW1) (Nat.le_refl _) nc⟩
            exact (HR.out.keep hW1 hkept).snoc (row := rowOf L O[k]) (a := ⟨gr, 0, none⟩) (by rw [hrl]; simp [tab, hlt]) (hkept.slice hsl1 (fun a ha => by obtain rfl := Option.some.inj ha; exact HN5.out)) rfl (Nat.lt_of_lt_of_le hlt1 hkept.size) (hkept.ne hlt1 HN5.out)
          case measure => simp [intOf]; omega
    · obtain rfl : k = O.length := by omega
      go_wp2
      go_ret
      exact ⟨_, rfl, HR.out.grid (Own.slice encR_len HO.out) (by simp [tab, hrl]), ExtOf.of HX.out⟩
set_option maxRecDepth 20000 in
set_option maxHeartbeats 1600000 in
theorem tables_walk (O : List Ord) (L : List Brd) (v0 v1 : Value) (w : World) (h0 : OrdS w v0 O) (h1 : BrdS w v1 L) :
    Calls Try.prog 3 #[v0, v1] w fun e w' => e = .returned (.bool true) ∧ ∃ n : ExtOf w, w' = n.val := by
  obtain ⟨p0, cap0, rfl, hg1, hg2, hg3⟩ := SliceOf.form h0
  obtain ⟨p1, cap1, rfl, hg4, hg5, hg6⟩ := SliceOf.form h1
  have H0 := Lib.hid h0
  have H1 := Lib.hid h1
  clear h0 h1
  rcases t1 : decide (20 < O.length) with _ | _
  · have t1' : decide ((20 : Int) < (O.length : Int)) = false := by simp at t1 ⊢; omega
    rcases t2 : decide (20 < L.length) with _ | _
    · have t2' : decide ((20 : Int) < (L.length : Int)) = false := by simp at t2 ⊢; omega
      have hOl : O.length ≤ 20 := by simp at t1; omega
      have hLl : L.length ≤ 20 := by simp at t2; omega
      clear t1 t2
      go_enter Try.func3, Try.ntmps3
      go_wp2_with fail
      refine (table_any O L _ _ _ H0.out H1.out (by omega) (by omega)).mono ?_
      rintro e w' ⟨va, rfl, hva, n1, rfl⟩
      go_wp2_with fail
      refine (rtable_any O L _ _ _ (SliceOf.ext H0.out (by repeat' (first | (with_reducible exact Ext.refl _) | (with_reducible exact ExtOf.ext _) | (with_reducible refine Ext.trans ?_ (ExtOf.ext _)) | (with_reducible refine Ext.alloc ?_ _) | (with_reducible refine Ext.drew ?_) | (with_reducible refine Ext.setCell ?_ ?_ _) | (with_reducible refine Ext.setRow ?_ ?_ _) | (with_reducible exact HX.out) | (with_reducible refine Ext.trans ?_ HX.out) | (with_reducible refine Ext.below ?_ (Nat.le_refl _) _) | (simp; done) | (simp; omega)))) (SliceOf.ext H1.out (by repeat' (first | (with_reducible exact Ext.refl _) | (with_reducible exact ExtOf.ext _) | (with_reducible refine Ext.trans ?_ (ExtOf.ext _)) | (with_reducible refine Ext.alloc ?_ _) | (with_reducible refine Ext.drew ?_) | (with_reducible refine Ext.setCell ?_ ?_ _) | (with_reducible refine Ext.setRow ?_ ?_ _) | (with_reducible exact HX.out) | (with_reducible refine Ext.trans ?_ HX.out) | (with_reducible refine Ext.below ?_ (Nat.le_refl _) _) | (simp; done) | (simp; omega)))) (by omega) (by omega)).mono ?_
      rintro e w' ⟨vb, rfl, hvb, n2, rfl⟩
      have HA := Lib.hid (hva.ext n2.ext)
      have HB := Lib.hid hvb
      have HX0 : Hid (Ext w n2.val) := Lib.hid (by repeat' (first | (with_reducible exact Ext.refl _) | (with_reducible exact ExtOf.ext _) | (with_reducible refine Ext.trans ?_ (ExtOf.ext _)) | (with_reducible refine Ext.alloc ?_ _) | (with_reducible refine Ext.drew ?_) | (with_reducible refine Ext.setCell ?_ ?_ _) | (with_reducible refine Ext.setRow ?_ ?_ _) | (with_reducible exact HX.out) | (with_reducible refine Ext.trans ?_ HX.out) | (with_reducible refine Ext.below ?_ (Nat.le_refl _) _) | (simp; done) | (simp; omega)))
      have hFl : (tab O L).length ≤ 20 := by simp [tab]; omega
      have hFr : ∀ r ∈ tab O L, r.length ≤ 20 := fun r hr => by
        obtain ⟨o, _, rfl⟩ := List.mem_map.1 hr
        simp [rowOf]; omega
      clear hva hvb
      generalize n2.val = W0 at *
      clear n2 n1
      generalize tab O L = F at *
      have HFR := Lib.hid hFr
      clear hFr
      obtain ⟨q0, dap0, rfl, hh1, hh2, hh3⟩ := HA.out.form
      obtain ⟨q1, dap1, rfl, hh4, hh5, hh6⟩ := HB.out.form
      go_wp2_with fail
      go_loopw [7] (fun v wr => ∃ (i : Nat), i ≤ F.length ∧ v = .int .i64 i ∧ Ext W0 wr) (fun v _ => F.length - (intOf v).toNat)
      case atStart => exact ⟨0, by omega, rfl, Ext.refl _⟩
      case round =>
        obtain ⟨i, hi, rfl, hx⟩ := hrel
        have HX1 := Lib.hid hx
        have HX := Lib.hid (HX0.out.trans hx)
        clear hx
        by_cases hlt : i < F.length
        · obtain ⟨b0, off0, rp, rc, rfl, o0, c0, hrow0⟩ := (HA.out.ext HX1.out).row hlt
          obtain ⟨b1, off1, rp1, rc1, rfl, o1, c1, hrow1⟩ := (HB.out.ext HX1.out).row hlt
          have hrl := HFR.out _ (List.getElem_mem hlt)
          have HR0 := Lib.hid hrow0
          have HR1 := Lib.hid hrow1
          have HC0 := Lib.hid c0
          have HC1 := Lib.hid c1
          clear hrow0 hrow1
          go_wp2_with fail
          refine wp_region_ext (by kernel_rfl) (by kernel_rfl) ?_
          repeat (first | go_big_quiet_skip | go_big_quiet_step (fail))
          refine wpQuiet_nil ?_
          intro _ hw'
          obtain ⟨nq, hw''⟩ := hw'
          subst hw''
          have HXq : Hid (Ext W0 nq.val) := Lib.hid (HX1.out.trans nq.ext)
          have HXw : Hid (Ext wr nq.val) := Lib.hid nq.ext
          generalize nq.val = W1 at *
          clear c0 c1 o0 o1
          go_wp2_with fail
          go_loopw [8] (fun v w2 => ∃ (k : Nat), k ≤ F[i].length ∧ v = .int .i64 k ∧ Ext W1 w2) (fun v _ => F[i].length - (intOf v).toNat)
          case atStart => exact ⟨0, by omega, rfl, Ext.refl _⟩
          case round =>
            obtain ⟨k, hk, rfl, hx⟩ := hrel
            have HX2 := Lib.hid (HXw.out.trans hx)
            have HX3 := Lib.hid (HXq.out.trans hx)
            have hx2 := hx
            clear hx
            have c0 := HX2.out.cell HC0.out
            have c1 := HX2.out.cell HC1.out
            have o0 := Old.of_cell c0
            have o1 := Old.of_cell c1
            by_cases hkt : k < F[i].length
            · obtain ⟨b2, off2, rfl, o2, c2⟩ := SliceOf.elem1 (SliceOf.ext HR0.out HX2.out) hkt rfl
              obtain ⟨b3, off3, rfl, o3, c3⟩ := SliceOf.elem1 (SliceOf.ext HR1.out HX2.out) hkt rfl
              have HXn := Lib.hid hx2
              go_wp2_with fail
              refine wp_region_ext (by kernel_rfl) (by kernel_rfl) ?_
              repeat (first | go_big_quiet_skip | go_big_quiet_step (fail))
              refine wpQuiet_nil ?_
              intro _ hw'
              obtain ⟨nq, hw''⟩ := hw'
              subst hw''
              go_wp2_with fail
              go_roundw
              case rel => exact ⟨k + 1, by omega, by go_num, HXn.out.trans nq.ext⟩
              case measure => simp [intOf]; omega
            · obtain rfl : k = F[i].length := by omega
              go_wp2_with fail
              go_roundw
              case rel => exact ⟨i + 1, by omega, by go_num, HX3.out⟩
              case measure => simp [intOf]; omega
        · obtain rfl : i = F.length := by omega
          go_wp2_with fail
          refine (awake_any _).mono ?_
          rintro e w' ⟨rfl, nz, rfl⟩
          go_wp2_with fail
          go_ret
          refine ⟨rfl, ?_⟩
          exact ExtOf.of (by repeat' (first | (with_reducible exact Ext.refl _) | (with_reducible exact ExtOf.ext _) | (with_reducible refine Ext.trans ?_ (ExtOf.ext _)) | (with_reducible refine Ext.alloc ?_ _) | (with_reducible refine Ext.drew ?_) | (with_reducible refine Ext.setCell ?_ ?_ _) | (with_reducible refine Ext.setRow ?_ ?_ _) | (with_reducible exact HX.out) | (with_reducible refine Ext.trans ?_ HX.out) | (with_reducible refine Ext.below ?_ (Nat.le_refl _) _) | (simp; done) | (simp; omega)))
    · have t2' : decide ((20 : Int) < (L.length : Int)) = true := by simp at t2 ⊢; omega
      go_enter Try.func3, Try.ntmps3
      go_wp2_with fail
      refine (awake_any _).mono ?_
      rintro e w' ⟨rfl, nz, rfl⟩
      go_wp2_with fail
      go_ret
      refine ⟨rfl, ?_⟩
      exact ExtOf.of (by repeat' (first | (with_reducible exact Ext.refl _) | (with_reducible exact ExtOf.ext _) | (with_reducible refine Ext.trans ?_ (ExtOf.ext _)) | (with_reducible refine Ext.alloc ?_ _) | (with_reducible refine Ext.drew ?_) | (with_reducible refine Ext.setCell ?_ ?_ _) | (with_reducible refine Ext.setRow ?_ ?_ _) | (with_reducible exact HX.out) | (with_reducible refine Ext.trans ?_ HX.out) | (with_reducible refine Ext.below ?_ (Nat.le_refl _) _) | (simp; done) | (simp; omega)))
  · have t1' : decide ((20 : Int) < (O.length : Int)) = true := by simp at t1 ⊢; omega
    go_enter Try.func3, Try.ntmps3
    go_wp2_with fail
    refine (awake_any _).mono ?_
    rintro e w' ⟨rfl, nz, rfl⟩
    go_wp2_with fail
    go_ret
    refine ⟨rfl, ?_⟩
    exact ExtOf.of (by repeat' (first | (with_reducible exact Ext.refl _) | (with_reducible exact ExtOf.ext _) | (with_reducible refine Ext.trans ?_ (ExtOf.ext _)) | (with_reducible refine Ext.alloc ?_ _) | (with_reducible refine Ext.drew ?_) | (with_reducible refine Ext.setCell ?_ ?_ _) | (with_reducible refine Ext.setRow ?_ ?_ _) | (with_reducible exact HX.out) | (with_reducible refine Ext.trans ?_ HX.out) | (with_reducible refine Ext.below ?_ (Nat.le_refl _) _) | (simp; done) | (simp; omega)))
end Go.Proofs.Ythchddkdcibbhaa
