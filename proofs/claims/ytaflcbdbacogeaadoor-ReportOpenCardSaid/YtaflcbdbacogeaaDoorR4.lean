/-
  The sum of two yields, of the program.
-/
import Derived.Test.YtaflcbdbacogeaaDoorR3
set_option linter.unusedVariables false
set_option linter.unusedSimpArgs false
namespace Go.Proofs.YtaflcbdbacogeaaDoor
open Go.RowKit

attribute [local go_sem] ExtOf.cell ExtOf.frozen ExtS.cell ExtS.frozen Block.cell Block.frozen ExtB.cell ExtB.frozen alloc_cell alloc_frozen
theorem okN_false {n : Int} (h : okN n = false) : decide (n < 0) = true ∨ (decide (n < 0) = false ∧ decide (2305843009213693952 < n) = true) := by
  simp [okN] at h ⊢; omega
theorem okN_true {n : Int} (h : okN n = true) : decide (n < 0) = false ∧ decide (2305843009213693952 < n) = false := by
  simp [okN] at h ⊢; omega
theorem okV_false {n : Int} (h : okV n = false) : decide (n < -2305843009213693952) = true ∨ (decide (n < -2305843009213693952) = false ∧ decide (2305843009213693952 < n) = true) := by
  simp [okV] at h ⊢; omega
theorem okV_true {n : Int} (h : okV n = true) : decide (n < -2305843009213693952) = false ∧ decide (2305843009213693952 < n) = false := by
  simp [okV] at h ⊢; omega
set_option maxRecDepth 20000 in
set_option maxHeartbeats 3200000 in
theorem add_any' (a1 a2 a3 a4 a5 c1 c2 c3 c4 c5 : Int) (w : World) : Calls Tryd.prog 21 #[.agg #[.int .i64 a1, .int .i64 a2, .int .i64 a3, .int .i64 a4, .int .i64 a5], .agg #[.int .i64 c1, .int .i64 c2, .int .i64 c3, .int .i64 c4, .int .i64 c5]] w fun e w' => e = .returned (.tuple #[.agg #[.int .i64 (addY ⟨a1, a2, a3, a4, a5⟩ ⟨c1, c2, c3, c4, c5⟩).lg, .int .i64 (addY ⟨a1, a2, a3, a4, a5⟩ ⟨c1, c2, c3, c4, c5⟩).bo, .int .i64 (addY ⟨a1, a2, a3, a4, a5⟩ ⟨c1, c2, c3, c4, c5⟩).ch, .int .i64 (addY ⟨a1, a2, a3, a4, a5⟩ ⟨c1, c2, c3, c4, c5⟩).du, .int .i64 (addY ⟨a1, a2, a3, a4, a5⟩ ⟨c1, c2, c3, c4, c5⟩).va], .int .i64 (addE ⟨a1, a2, a3, a4, a5⟩ ⟨c1, c2, c3, c4, c5⟩)]) ∧ ∃ n : ExtOf w, w' = n.val := by
  have ix0 : ∀ W : World, (Instr.index 144 (.agg #[.int .i64 a1, .int .i64 a2, .int .i64 a3, .int .i64 a4, .int .i64 a5, .int .i64 c1, .int .i64 c2, .int .i64 c3, .int .i64 c4, .int .i64 c5]) (.int .i64 0)).run Tryd.prog W = .ok (.agg #[.int .i64 a1, .int .i64 a2, .int .i64 a3, .int .i64 a4, .int .i64 a5]) W := fun W => by kernel_rfl
  have ix1 : ∀ W : World, (Instr.index 144 (.agg #[.int .i64 a1, .int .i64 a2, .int .i64 a3, .int .i64 a4, .int .i64 a5, .int .i64 c1, .int .i64 c2, .int .i64 c3, .int .i64 c4, .int .i64 c5]) (.int .i64 1)).run Tryd.prog W = .ok (.agg #[.int .i64 c1, .int .i64 c2, .int .i64 c3, .int .i64 c4, .int .i64 c5]) W := fun W => by kernel_rfl
  have iy0 : ∀ (W : World) (n0 n1 n2 n3 : Value), (Instr.index 139 (.agg #[n0, n1, n2, n3]) (.int .i64 0)).run Tryd.prog W = .ok n0 W := fun W n0 n1 n2 n3 => by kernel_rfl
  have iy1 : ∀ (W : World) (n0 n1 n2 n3 : Value), (Instr.index 139 (.agg #[n0, n1, n2, n3]) (.int .i64 1)).run Tryd.prog W = .ok n1 W := fun W n0 n1 n2 n3 => by kernel_rfl
  have iy2 : ∀ (W : World) (n0 n1 n2 n3 : Value), (Instr.index 139 (.agg #[n0, n1, n2, n3]) (.int .i64 2)).run Tryd.prog W = .ok n2 W := fun W n0 n1 n2 n3 => by kernel_rfl
  have iy3 : ∀ (W : World) (n0 n1 n2 n3 : Value), (Instr.index 139 (.agg #[n0, n1, n2, n3]) (.int .i64 3)).run Tryd.prog W = .ok n3 W := fun W n0 n1 n2 n3 => by kernel_rfl
  go_enter Tryd.func21, Tryd.ntmps21
  go_wp2_with (first | ((with_reducible apply wl_load' lwY); (· (first | exact wanted_none rfl | exact wanted_some rfl rfl rfl)); (· rfl); (· infer_instance); (· rfl)))
  obtain ⟨g2, hg2⟩ : ∃ x, x = w.heap.size := ⟨_, rfl⟩
  obtain ⟨g3, hg3⟩ : ∃ x, x = w.heap.size + 1 := ⟨_, rfl⟩
  obtain ⟨g4, hg4⟩ : ∃ x, x = w.heap.size + 1 + 1 := ⟨_, rfl⟩
  obtain ⟨W0, hW0, k2, k3, k4, kx⟩ : ∃ W0, W0 = (((w.alloc (.cells #[.int .i64 a1, .int .i64 a2, .int .i64 a3, .int .i64 a4, .int .i64 a5] 65)).alloc (.cells #[.int .i64 c1, .int .i64 c2, .int .i64 c3, .int .i64 c4, .int .i64 c5] 65)).alloc (.cells #[.int .i64 0, .int .i64 0, .int .i64 0, .int .i64 0, .int .i64 0] 65)) ∧ Block W0 g2 #[.int .i64 a1, .int .i64 a2, .int .i64 a3, .int .i64 a4, .int .i64 a5] ∧ Block W0 g3 #[.int .i64 c1, .int .i64 c2, .int .i64 c3, .int .i64 c4, .int .i64 c5] ∧ Block W0 g4 #[.int .i64 0, .int .i64 0, .int .i64 0, .int .i64 0, .int .i64 0] ∧ Ext w W0 := ⟨_, rfl, by rw [hg2]; infer_instance, by rw [hg3]; infer_instance, by rw [hg4]; infer_instance, by repeat' (first | (with_reducible exact Ext.refl _) | (with_reducible exact ExtOf.ext _) | (with_reducible refine Ext.trans ?_ (ExtOf.ext _)) | (with_reducible refine Ext.alloc ?_ _) | (with_reducible refine Ext.drew ?_) | (with_reducible refine Ext.setCell ?_ ?_ _) | (with_reducible refine Ext.setRow ?_ ?_ _) | (with_reducible exact HX.out) | (with_reducible refine Ext.trans ?_ HX.out) | (with_reducible refine Ext.below ?_ (Nat.le_refl _) _) | omega | (simp; done) | (simp; omega))⟩
  rw [← hW0, ← hg4, ← hg3, ← hg2]
  have a24 : Apart g4 g2 := ⟨by omega⟩
  have a34 : Apart g4 g3 := ⟨by omega⟩
  have lw4 : w.heap.size ≤ g4 := by omega
  have K2 := Lib.hid k2
  have K3 := Lib.hid k3
  have K4 := Lib.hid k4
  have KX := Lib.hid kx
  clear hW0 k2 k3 k4 kx hg2 hg3 hg4
  go_loopw [13] (fun v wr => ∃ (k : Int), (0 ≤ k ∧ k ≤ 2) ∧ v = .int .i64 k ∧ (0 < k → okY ⟨a1, a2, a3, a4, a5⟩ = true) ∧ (1 < k → okY ⟨c1, c2, c3, c4, c5⟩ = true) ∧ Block wr g2 #[.int .i64 a1, .int .i64 a2, .int .i64 a3, .int .i64 a4, .int .i64 a5] ∧ Block wr g3 #[.int .i64 c1, .int .i64 c2, .int .i64 c3, .int .i64 c4, .int .i64 c5] ∧ Block wr g4 #[.int .i64 0, .int .i64 0, .int .i64 0, .int .i64 0, .int .i64 0] ∧ Ext w wr) (fun v _ => (2 - intOf v).toNat)
  case atStart => exact ⟨0, by omega, rfl, by omega, by omega, K2.out, K3.out, K4.out, KX.out⟩
  case round =>
    clear K2 K3 K4 KX
    obtain ⟨k, hk, rfl, p1, p2, h2, h3, h4, hx⟩ := hrel
    have HX := Lib.hid hx
    have o2 := h2.old
    have o3 := h3.old
    have o4 := h4.old
    clear hx
    rcases (show k = 0 ∨ k = 1 ∨ k = 2 by omega) with rfl | rfl | rfl
    · clear p1 p2
      go_wp2_with (first | ((with_reducible apply wl_store' lwY); (· (first | exact wanted_none rfl | exact wanted_some rfl rfl rfl)); (· rfl); (· rfl); (· infer_instance); (· rfl); (· rfl); (· (simp [Value.oneCell'])); try simp only [setRow_alloc, setRow_new, setRow_new1, setRow_new2, setRow_new11, setRow_new111]))
      obtain ⟨g7, hg7⟩ : ∃ x, x = wr.heap.size := ⟨_, rfl⟩
      rw [← hg7]
      have hB7 : Block (wr.alloc (.cells #[.int .i64 a1, .int .i64 a2, .int .i64 a3, .int .i64 a4, .int .i64 a5] 65)) g7 #[.int .i64 a1, .int .i64 a2, .int .i64 a3, .int .i64 a4, .int .i64 a5] := by rw [hg7]; infer_instance
      have hB2 : Block (wr.alloc (.cells #[.int .i64 a1, .int .i64 a2, .int .i64 a3, .int .i64 a4, .int .i64 a5] 65)) g2 #[.int .i64 a1, .int .i64 a2, .int .i64 a3, .int .i64 a4, .int .i64 a5] := inferInstance
      have hB3 : Block (wr.alloc (.cells #[.int .i64 a1, .int .i64 a2, .int .i64 a3, .int .i64 a4, .int .i64 a5] 65)) g3 #[.int .i64 c1, .int .i64 c2, .int .i64 c3, .int .i64 c4, .int .i64 c5] := inferInstance
      have hB4 : Block (wr.alloc (.cells #[.int .i64 a1, .int .i64 a2, .int .i64 a3, .int .i64 a4, .int .i64 a5] 65)) g4 #[.int .i64 0, .int .i64 0, .int .i64 0, .int .i64 0, .int .i64 0] := inferInstance
      have HX1 : Hid (Ext w (wr.alloc (.cells #[.int .i64 a1, .int .i64 a2, .int .i64 a3, .int .i64 a4, .int .i64 a5] 65))) := Lib.hid (HX.out.alloc _)
      generalize wr.alloc (.cells #[.int .i64 a1, .int .i64 a2, .int .i64 a3, .int .i64 a4, .int .i64 a5] 65) = W1 at *
      clear hg7
      have o7 := hB7.old
      have c74 : W1.cell? ⟨g7, 4, none⟩ = some (.int .i64 a5) := Block.cell (h := hB7) 4
      go_loopw [25] (fun v w2 => ∃ (j : Int), (0 ≤ j ∧ j ≤ 4) ∧ v = .int .i64 j ∧ ((0 < j → okN a1 = true) ∧ (1 < j → okN a2 = true) ∧ (2 < j → okN a3 = true) ∧ (3 < j → okN a4 = true)) ∧ w2 = W1) (fun v _ => (4 - intOf v).toNat)
      case atStart => exact ⟨0, by omega, rfl, ⟨by omega, by omega, by omega, by omega⟩, rfl⟩
      case round =>
        obtain ⟨j, hj, rfl, ⟨q1, q2, q3, q4⟩, rfl⟩ := hrel
        rcases (show j = 0 ∨ j = 1 ∨ j = 2 ∨ j = 3 ∨ j = 4 by omega) with rfl | rfl | rfl | rfl | rfl
        · rcases hn : okN a1 with _ | _
          · have HBAD : Hid ((okY ⟨a1, a2, a3, a4, a5⟩ && okY ⟨c1, c2, c3, c4, c5⟩) = false) := Lib.hid (by simp [okY, hn])
            rcases okN_false hn with e1 | ⟨e1, e2⟩
            · go_wp2_with (first | ((with_reducible apply wl_store' lwY); (· (first | exact wanted_none rfl | exact wanted_some rfl rfl rfl)); (· rfl); (· rfl); (· infer_instance); (· rfl); (· rfl); (· (simp [Value.oneCell'])); try simp only [setRow_alloc, setRow_new, setRow_new1, setRow_new2, setRow_new11, setRow_new111]))
              refine bodyPost_ret (results_cs (b0 := g4) rfl lwY rfl rfl inferInstance rfl) rfl ⟨?_, ?_⟩
              · simp only [addY, addE, HBAD.out]; rfl
              · exact ExtOf.of (Ext.setRow HX1.out lw4 _)
            · go_wp2_with (first | ((with_reducible apply wl_store' lwY); (· (first | exact wanted_none rfl | exact wanted_some rfl rfl rfl)); (· rfl); (· rfl); (· infer_instance); (· rfl); (· rfl); (· (simp [Value.oneCell'])); try simp only [setRow_alloc, setRow_new, setRow_new1, setRow_new2, setRow_new11, setRow_new111]))
              refine bodyPost_ret (results_cs (b0 := g4) rfl lwY rfl rfl inferInstance rfl) rfl ⟨?_, ?_⟩
              · simp only [addY, addE, HBAD.out]; rfl
              · exact ExtOf.of (Ext.setRow HX1.out lw4 _)
          · obtain ⟨e1, e2⟩ := okN_true hn
            have HN := Lib.hid hn
            clear hn
            go_wp2_with fail
            go_roundw
            case rel => exact ⟨0 + 1, by omega, by first | rfl | go_num, (⟨by first | exact (fun _ => HN.out) | simp, by omega, by omega, by omega⟩), by first | rfl | trivial⟩
            case measure => first | decide | (simp [intOf]; done) | (simp [intOf]; omega)
        · have z1 := Lib.hid (q1 (by omega))
          rcases hn : okN a2 with _ | _
          · have HBAD : Hid ((okY ⟨a1, a2, a3, a4, a5⟩ && okY ⟨c1, c2, c3, c4, c5⟩) = false) := Lib.hid (by simp [okY, hn])
            rcases okN_false hn with e1 | ⟨e1, e2⟩
            · go_wp2_with (first | ((with_reducible apply wl_store' lwY); (· (first | exact wanted_none rfl | exact wanted_some rfl rfl rfl)); (· rfl); (· rfl); (· infer_instance); (· rfl); (· rfl); (· (simp [Value.oneCell'])); try simp only [setRow_alloc, setRow_new, setRow_new1, setRow_new2, setRow_new11, setRow_new111]))
              refine bodyPost_ret (results_cs (b0 := g4) rfl lwY rfl rfl inferInstance rfl) rfl ⟨?_, ?_⟩
              · simp only [addY, addE, HBAD.out]; rfl
              · exact ExtOf.of (Ext.setRow HX1.out lw4 _)
            · go_wp2_with (first | ((with_reducible apply wl_store' lwY); (· (first | exact wanted_none rfl | exact wanted_some rfl rfl rfl)); (· rfl); (· rfl); (· infer_instance); (· rfl); (· rfl); (· (simp [Value.oneCell'])); try simp only [setRow_alloc, setRow_new, setRow_new1, setRow_new2, setRow_new11, setRow_new111]))
              refine bodyPost_ret (results_cs (b0 := g4) rfl lwY rfl rfl inferInstance rfl) rfl ⟨?_, ?_⟩
              · simp only [addY, addE, HBAD.out]; rfl
              · exact ExtOf.of (Ext.setRow HX1.out lw4 _)
          · obtain ⟨e1, e2⟩ := okN_true hn
            have HN := Lib.hid hn
            clear hn
            go_wp2_with fail
            go_roundw
            case rel => exact ⟨1 + 1, by omega, by first | rfl | go_num, (⟨by first | exact (fun _ => z1.out) | simp, by first | exact (fun _ => HN.out) | simp, by omega, by omega⟩), by first | rfl | trivial⟩
            case measure => first | decide | (simp [intOf]; done) | (simp [intOf]; omega)
        · have z1 := Lib.hid (q1 (by omega))
          have z2 := Lib.hid (q2 (by omega))
          rcases hn : okN a3 with _ | _
          · have HBAD : Hid ((okY ⟨a1, a2, a3, a4, a5⟩ && okY ⟨c1, c2, c3, c4, c5⟩) = false) := Lib.hid (by simp [okY, hn])
            rcases okN_false hn with e1 | ⟨e1, e2⟩
            · go_wp2_with (first | ((with_reducible apply wl_store' lwY); (· (first | exact wanted_none rfl | exact wanted_some rfl rfl rfl)); (· rfl); (· rfl); (· infer_instance); (· rfl); (· rfl); (· (simp [Value.oneCell'])); try simp only [setRow_alloc, setRow_new, setRow_new1, setRow_new2, setRow_new11, setRow_new111]))
              refine bodyPost_ret (results_cs (b0 := g4) rfl lwY rfl rfl inferInstance rfl) rfl ⟨?_, ?_⟩
              · simp only [addY, addE, HBAD.out]; rfl
              · exact ExtOf.of (Ext.setRow HX1.out lw4 _)
            · go_wp2_with (first | ((with_reducible apply wl_store' lwY); (· (first | exact wanted_none rfl | exact wanted_some rfl rfl rfl)); (· rfl); (· rfl); (· infer_instance); (· rfl); (· rfl); (· (simp [Value.oneCell'])); try simp only [setRow_alloc, setRow_new, setRow_new1, setRow_new2, setRow_new11, setRow_new111]))
              refine bodyPost_ret (results_cs (b0 := g4) rfl lwY rfl rfl inferInstance rfl) rfl ⟨?_, ?_⟩
              · simp only [addY, addE, HBAD.out]; rfl
              · exact ExtOf.of (Ext.setRow HX1.out lw4 _)
          · obtain ⟨e1, e2⟩ := okN_true hn
            have HN := Lib.hid hn
            clear hn
            go_wp2_with fail
            go_roundw
            case rel => exact ⟨2 + 1, by omega, by first | rfl | go_num, (⟨by first | exact (fun _ => z1.out) | simp, by first | exact (fun _ => z2.out) | simp, by first | exact (fun _ => HN.out) | simp, by omega⟩), by first | rfl | trivial⟩
            case measure => first | decide | (simp [intOf]; done) | (simp [intOf]; omega)
        · have z1 := Lib.hid (q1 (by omega))
          have z2 := Lib.hid (q2 (by omega))
          have z3 := Lib.hid (q3 (by omega))
          rcases hn : okN a4 with _ | _
          · have HBAD : Hid ((okY ⟨a1, a2, a3, a4, a5⟩ && okY ⟨c1, c2, c3, c4, c5⟩) = false) := Lib.hid (by simp [okY, hn])
            rcases okN_false hn with e1 | ⟨e1, e2⟩
            · go_wp2_with (first | ((with_reducible apply wl_store' lwY); (· (first | exact wanted_none rfl | exact wanted_some rfl rfl rfl)); (· rfl); (· rfl); (· infer_instance); (· rfl); (· rfl); (· (simp [Value.oneCell'])); try simp only [setRow_alloc, setRow_new, setRow_new1, setRow_new2, setRow_new11, setRow_new111]))
              refine bodyPost_ret (results_cs (b0 := g4) rfl lwY rfl rfl inferInstance rfl) rfl ⟨?_, ?_⟩
              · simp only [addY, addE, HBAD.out]; rfl
              · exact ExtOf.of (Ext.setRow HX1.out lw4 _)
            · go_wp2_with (first | ((with_reducible apply wl_store' lwY); (· (first | exact wanted_none rfl | exact wanted_some rfl rfl rfl)); (· rfl); (· rfl); (· infer_instance); (· rfl); (· rfl); (· (simp [Value.oneCell'])); try simp only [setRow_alloc, setRow_new, setRow_new1, setRow_new2, setRow_new11, setRow_new111]))
              refine bodyPost_ret (results_cs (b0 := g4) rfl lwY rfl rfl inferInstance rfl) rfl ⟨?_, ?_⟩
              · simp only [addY, addE, HBAD.out]; rfl
              · exact ExtOf.of (Ext.setRow HX1.out lw4 _)
          · obtain ⟨e1, e2⟩ := okN_true hn
            have HN := Lib.hid hn
            clear hn
            go_wp2_with fail
            go_roundw
            case rel => exact ⟨3 + 1, by omega, by first | rfl | go_num, (⟨by first | exact (fun _ => z1.out) | simp, by first | exact (fun _ => z2.out) | simp, by first | exact (fun _ => z3.out) | simp, by first | exact (fun _ => HN.out) | simp⟩), by first | rfl | trivial⟩
            case measure => first | decide | (simp [intOf]; done) | (simp [intOf]; omega)
        · have z1 := Lib.hid (q1 (by omega))
          have z2 := Lib.hid (q2 (by omega))
          have z3 := Lib.hid (q3 (by omega))
          have z4 := Lib.hid (q4 (by omega))
          rcases hn : okV a5 with _ | _
          · have HBAD : Hid ((okY ⟨a1, a2, a3, a4, a5⟩ && okY ⟨c1, c2, c3, c4, c5⟩) = false) := Lib.hid (by simp [okY, hn])
            rcases okV_false hn with e1 | ⟨e1, e2⟩
            · go_wp2_with (first | ((with_reducible apply wl_store' lwY); (· (first | exact wanted_none rfl | exact wanted_some rfl rfl rfl)); (· rfl); (· rfl); (· infer_instance); (· rfl); (· rfl); (· (simp [Value.oneCell'])); try simp only [setRow_alloc, setRow_new, setRow_new1, setRow_new2, setRow_new11, setRow_new111]))
              refine bodyPost_ret (results_cs (b0 := g4) rfl lwY rfl rfl inferInstance rfl) rfl ⟨?_, ?_⟩
              · simp only [addY, addE, HBAD.out]; rfl
              · exact ExtOf.of (Ext.setRow HX1.out lw4 _)
            · go_wp2_with (first | ((with_reducible apply wl_store' lwY); (· (first | exact wanted_none rfl | exact wanted_some rfl rfl rfl)); (· rfl); (· rfl); (· infer_instance); (· rfl); (· rfl); (· (simp [Value.oneCell'])); try simp only [setRow_alloc, setRow_new, setRow_new1, setRow_new2, setRow_new11, setRow_new111]))
              refine bodyPost_ret (results_cs (b0 := g4) rfl lwY rfl rfl inferInstance rfl) rfl ⟨?_, ?_⟩
              · simp only [addY, addE, HBAD.out]; rfl
              · exact ExtOf.of (Ext.setRow HX1.out lw4 _)
          · obtain ⟨e1, e2⟩ := okV_true hn
            have HY : Hid (okY ⟨a1, a2, a3, a4, a5⟩ = true) := Lib.hid (by simp [okY, z1.out, z2.out, z3.out, z4.out, hn])
            clear hn
            go_wp2_with fail
            go_roundw
            case rel => exact ⟨1, by omega, by first | rfl | go_num, fun _ => HY.out, by omega, hB2, hB3, hB4, HX1.out⟩
            case measure => first | decide | (simp [intOf]; done) | (simp [intOf]; omega)
    · have hA := p1 (by omega)
      have HA := Lib.hid hA
      clear p1 p2 hA
      go_wp2_with (first | ((with_reducible apply wl_store' lwY); (· (first | exact wanted_none rfl | exact wanted_some rfl rfl rfl)); (· rfl); (· rfl); (· infer_instance); (· rfl); (· rfl); (· (simp [Value.oneCell'])); try simp only [setRow_alloc, setRow_new, setRow_new1, setRow_new2, setRow_new11, setRow_new111]))
      obtain ⟨g7, hg7⟩ : ∃ x, x = wr.heap.size := ⟨_, rfl⟩
      rw [← hg7]
      have hB7 : Block (wr.alloc (.cells #[.int .i64 c1, .int .i64 c2, .int .i64 c3, .int .i64 c4, .int .i64 c5] 65)) g7 #[.int .i64 c1, .int .i64 c2, .int .i64 c3, .int .i64 c4, .int .i64 c5] := by rw [hg7]; infer_instance
      have hB2 : Block (wr.alloc (.cells #[.int .i64 c1, .int .i64 c2, .int .i64 c3, .int .i64 c4, .int .i64 c5] 65)) g2 #[.int .i64 a1, .int .i64 a2, .int .i64 a3, .int .i64 a4, .int .i64 a5] := inferInstance
      have hB3 : Block (wr.alloc (.cells #[.int .i64 c1, .int .i64 c2, .int .i64 c3, .int .i64 c4, .int .i64 c5] 65)) g3 #[.int .i64 c1, .int .i64 c2, .int .i64 c3, .int .i64 c4, .int .i64 c5] := inferInstance
      have hB4 : Block (wr.alloc (.cells #[.int .i64 c1, .int .i64 c2, .int .i64 c3, .int .i64 c4, .int .i64 c5] 65)) g4 #[.int .i64 0, .int .i64 0, .int .i64 0, .int .i64 0, .int .i64 0] := inferInstance
      have HX1 : Hid (Ext w (wr.alloc (.cells #[.int .i64 c1, .int .i64 c2, .int .i64 c3, .int .i64 c4, .int .i64 c5] 65))) := Lib.hid (HX.out.alloc _)
      generalize wr.alloc (.cells #[.int .i64 c1, .int .i64 c2, .int .i64 c3, .int .i64 c4, .int .i64 c5] 65) = W1 at *
      clear hg7
      have o7 := hB7.old
      have c74 : W1.cell? ⟨g7, 4, none⟩ = some (.int .i64 c5) := Block.cell (h := hB7) 4
      go_loopw [25] (fun v w2 => ∃ (j : Int), (0 ≤ j ∧ j ≤ 4) ∧ v = .int .i64 j ∧ ((0 < j → okN c1 = true) ∧ (1 < j → okN c2 = true) ∧ (2 < j → okN c3 = true) ∧ (3 < j → okN c4 = true)) ∧ w2 = W1) (fun v _ => (4 - intOf v).toNat)
      case atStart => exact ⟨0, by omega, rfl, ⟨by omega, by omega, by omega, by omega⟩, rfl⟩
      case round =>
        obtain ⟨j, hj, rfl, ⟨q1, q2, q3, q4⟩, rfl⟩ := hrel
        rcases (show j = 0 ∨ j = 1 ∨ j = 2 ∨ j = 3 ∨ j = 4 by omega) with rfl | rfl | rfl | rfl | rfl
        · rcases hn : okN c1 with _ | _
          · have HBAD : Hid ((okY ⟨a1, a2, a3, a4, a5⟩ && okY ⟨c1, c2, c3, c4, c5⟩) = false) := Lib.hid (by simp [okY, hn])
            rcases okN_false hn with e1 | ⟨e1, e2⟩
            · go_wp2_with (first | ((with_reducible apply wl_store' lwY); (· (first | exact wanted_none rfl | exact wanted_some rfl rfl rfl)); (· rfl); (· rfl); (· infer_instance); (· rfl); (· rfl); (· (simp [Value.oneCell'])); try simp only [setRow_alloc, setRow_new, setRow_new1, setRow_new2, setRow_new11, setRow_new111]))
              refine bodyPost_ret (results_cs (b0 := g4) rfl lwY rfl rfl inferInstance rfl) rfl ⟨?_, ?_⟩
              · simp only [addY, addE, HBAD.out]; rfl
              · exact ExtOf.of (Ext.setRow HX1.out lw4 _)
            · go_wp2_with (first | ((with_reducible apply wl_store' lwY); (· (first | exact wanted_none rfl | exact wanted_some rfl rfl rfl)); (· rfl); (· rfl); (· infer_instance); (· rfl); (· rfl); (· (simp [Value.oneCell'])); try simp only [setRow_alloc, setRow_new, setRow_new1, setRow_new2, setRow_new11, setRow_new111]))
              refine bodyPost_ret (results_cs (b0 := g4) rfl lwY rfl rfl inferInstance rfl) rfl ⟨?_, ?_⟩
              · simp only [addY, addE, HBAD.out]; rfl
              · exact ExtOf.of (Ext.setRow HX1.out lw4 _)
          · obtain ⟨e1, e2⟩ := okN_true hn
            have HN := Lib.hid hn
            clear hn
            go_wp2_with fail
            go_roundw
            case rel => exact ⟨0 + 1, by omega, by first | rfl | go_num, (⟨by first | exact (fun _ => HN.out) | simp, by omega, by omega, by omega⟩), by first | rfl | trivial⟩
            case measure => first | decide | (simp [intOf]; done) | (simp [intOf]; omega)
        · have z1 := Lib.hid (q1 (by omega))
          rcases hn : okN c2 with _ | _
          · have HBAD : Hid ((okY ⟨a1, a2, a3, a4, a5⟩ && okY ⟨c1, c2, c3, c4, c5⟩) = false) := Lib.hid (by simp [okY, hn])
            rcases okN_false hn with e1 | ⟨e1, e2⟩
            · go_wp2_with (first | ((with_reducible apply wl_store' lwY); (· (first | exact wanted_none rfl | exact wanted_some rfl rfl rfl)); (· rfl); (· rfl); (· infer_instance); (· rfl); (· rfl); (· (simp [Value.oneCell'])); try simp only [setRow_alloc, setRow_new, setRow_new1, setRow_new2, setRow_new11, setRow_new111]))
              refine bodyPost_ret (results_cs (b0 := g4) rfl lwY rfl rfl inferInstance rfl) rfl ⟨?_, ?_⟩
              · simp only [addY, addE, HBAD.out]; rfl
              · exact ExtOf.of (Ext.setRow HX1.out lw4 _)
            · go_wp2_with (first | ((with_reducible apply wl_store' lwY); (· (first | exact wanted_none rfl | exact wanted_some rfl rfl rfl)); (· rfl); (· rfl); (· infer_instance); (· rfl); (· rfl); (· (simp [Value.oneCell'])); try simp only [setRow_alloc, setRow_new, setRow_new1, setRow_new2, setRow_new11, setRow_new111]))
              refine bodyPost_ret (results_cs (b0 := g4) rfl lwY rfl rfl inferInstance rfl) rfl ⟨?_, ?_⟩
              · simp only [addY, addE, HBAD.out]; rfl
              · exact ExtOf.of (Ext.setRow HX1.out lw4 _)
          · obtain ⟨e1, e2⟩ := okN_true hn
            have HN := Lib.hid hn
            clear hn
            go_wp2_with fail
            go_roundw
            case rel => exact ⟨1 + 1, by omega, by first | rfl | go_num, (⟨by first | exact (fun _ => z1.out) | simp, by first | exact (fun _ => HN.out) | simp, by omega, by omega⟩), by first | rfl | trivial⟩
            case measure => first | decide | (simp [intOf]; done) | (simp [intOf]; omega)
        · have z1 := Lib.hid (q1 (by omega))
          have z2 := Lib.hid (q2 (by omega))
          rcases hn : okN c3 with _ | _
          · have HBAD : Hid ((okY ⟨a1, a2, a3, a4, a5⟩ && okY ⟨c1, c2, c3, c4, c5⟩) = false) := Lib.hid (by simp [okY, hn])
            rcases okN_false hn with e1 | ⟨e1, e2⟩
            · go_wp2_with (first | ((with_reducible apply wl_store' lwY); (· (first | exact wanted_none rfl | exact wanted_some rfl rfl rfl)); (· rfl); (· rfl); (· infer_instance); (· rfl); (· rfl); (· (simp [Value.oneCell'])); try simp only [setRow_alloc, setRow_new, setRow_new1, setRow_new2, setRow_new11, setRow_new111]))
              refine bodyPost_ret (results_cs (b0 := g4) rfl lwY rfl rfl inferInstance rfl) rfl ⟨?_, ?_⟩
              · simp only [addY, addE, HBAD.out]; rfl
              · exact ExtOf.of (Ext.setRow HX1.out lw4 _)
            · go_wp2_with (first | ((with_reducible apply wl_store' lwY); (· (first | exact wanted_none rfl | exact wanted_some rfl rfl rfl)); (· rfl); (· rfl); (· infer_instance); (· rfl); (· rfl); (· (simp [Value.oneCell'])); try simp only [setRow_alloc, setRow_new, setRow_new1, setRow_new2, setRow_new11, setRow_new111]))
              refine bodyPost_ret (results_cs (b0 := g4) rfl lwY rfl rfl inferInstance rfl) rfl ⟨?_, ?_⟩
              · simp only [addY, addE, HBAD.out]; rfl
              · exact ExtOf.of (Ext.setRow HX1.out lw4 _)
          · obtain ⟨e1, e2⟩ := okN_true hn
            have HN := Lib.hid hn
            clear hn
            go_wp2_with fail
            go_roundw
            case rel => exact ⟨2 + 1, by omega, by first | rfl | go_num, (⟨by first | exact (fun _ => z1.out) | simp, by first | exact (fun _ => z2.out) | simp, by first | exact (fun _ => HN.out) | simp, by omega⟩), by first | rfl | trivial⟩
            case measure => first | decide | (simp [intOf]; done) | (simp [intOf]; omega)
        · have z1 := Lib.hid (q1 (by omega))
          have z2 := Lib.hid (q2 (by omega))
          have z3 := Lib.hid (q3 (by omega))
          rcases hn : okN c4 with _ | _
          · have HBAD : Hid ((okY ⟨a1, a2, a3, a4, a5⟩ && okY ⟨c1, c2, c3, c4, c5⟩) = false) := Lib.hid (by simp [okY, hn])
            rcases okN_false hn with e1 | ⟨e1, e2⟩
            · go_wp2_with (first | ((with_reducible apply wl_store' lwY); (· (first | exact wanted_none rfl | exact wanted_some rfl rfl rfl)); (· rfl); (· rfl); (· infer_instance); (· rfl); (· rfl); (· (simp [Value.oneCell'])); try simp only [setRow_alloc, setRow_new, setRow_new1, setRow_new2, setRow_new11, setRow_new111]))
              refine bodyPost_ret (results_cs (b0 := g4) rfl lwY rfl rfl inferInstance rfl) rfl ⟨?_, ?_⟩
              · simp only [addY, addE, HBAD.out]; rfl
              · exact ExtOf.of (Ext.setRow HX1.out lw4 _)
            · go_wp2_with (first | ((with_reducible apply wl_store' lwY); (· (first | exact wanted_none rfl | exact wanted_some rfl rfl rfl)); (· rfl); (· rfl); (· infer_instance); (· rfl); (· rfl); (· (simp [Value.oneCell'])); try simp only [setRow_alloc, setRow_new, setRow_new1, setRow_new2, setRow_new11, setRow_new111]))
              refine bodyPost_ret (results_cs (b0 := g4) rfl lwY rfl rfl inferInstance rfl) rfl ⟨?_, ?_⟩
              · simp only [addY, addE, HBAD.out]; rfl
              · exact ExtOf.of (Ext.setRow HX1.out lw4 _)
          · obtain ⟨e1, e2⟩ := okN_true hn
            have HN := Lib.hid hn
            clear hn
            go_wp2_with fail
            go_roundw
            case rel => exact ⟨3 + 1, by omega, by first | rfl | go_num, (⟨by first | exact (fun _ => z1.out) | simp, by first | exact (fun _ => z2.out) | simp, by first | exact (fun _ => z3.out) | simp, by first | exact (fun _ => HN.out) | simp⟩), by first | rfl | trivial⟩
            case measure => first | decide | (simp [intOf]; done) | (simp [intOf]; omega)
        · have z1 := Lib.hid (q1 (by omega))
          have z2 := Lib.hid (q2 (by omega))
          have z3 := Lib.hid (q3 (by omega))
          have z4 := Lib.hid (q4 (by omega))
          rcases hn : okV c5 with _ | _
          · have HBAD : Hid ((okY ⟨a1, a2, a3, a4, a5⟩ && okY ⟨c1, c2, c3, c4, c5⟩) = false) := Lib.hid (by simp [okY, hn])
            rcases okV_false hn with e1 | ⟨e1, e2⟩
            · go_wp2_with (first | ((with_reducible apply wl_store' lwY); (· (first | exact wanted_none rfl | exact wanted_some rfl rfl rfl)); (· rfl); (· rfl); (· infer_instance); (· rfl); (· rfl); (· (simp [Value.oneCell'])); try simp only [setRow_alloc, setRow_new, setRow_new1, setRow_new2, setRow_new11, setRow_new111]))
              refine bodyPost_ret (results_cs (b0 := g4) rfl lwY rfl rfl inferInstance rfl) rfl ⟨?_, ?_⟩
              · simp only [addY, addE, HBAD.out]; rfl
              · exact ExtOf.of (Ext.setRow HX1.out lw4 _)
            · go_wp2_with (first | ((with_reducible apply wl_store' lwY); (· (first | exact wanted_none rfl | exact wanted_some rfl rfl rfl)); (· rfl); (· rfl); (· infer_instance); (· rfl); (· rfl); (· (simp [Value.oneCell'])); try simp only [setRow_alloc, setRow_new, setRow_new1, setRow_new2, setRow_new11, setRow_new111]))
              refine bodyPost_ret (results_cs (b0 := g4) rfl lwY rfl rfl inferInstance rfl) rfl ⟨?_, ?_⟩
              · simp only [addY, addE, HBAD.out]; rfl
              · exact ExtOf.of (Ext.setRow HX1.out lw4 _)
          · obtain ⟨e1, e2⟩ := okV_true hn
            have HY : Hid (okY ⟨c1, c2, c3, c4, c5⟩ = true) := Lib.hid (by simp [okY, z1.out, z2.out, z3.out, z4.out, hn])
            clear hn
            go_wp2_with fail
            go_roundw
            case rel => exact ⟨2, by omega, by first | rfl | go_num, fun _ => HA.out, fun _ => HY.out, hB2, hB3, hB4, HX1.out⟩
            case measure => first | decide | (simp [intOf]; done) | (simp [intOf]; omega)
    · have hA := p1 (by omega)
      have hC := p2 (by omega)
      have HOK : Hid ((okY ⟨a1, a2, a3, a4, a5⟩ && okY ⟨c1, c2, c3, c4, c5⟩) = true) := Lib.hid (by rw [hA, hC]; rfl)
      obtain ⟨u1, u2, u3, u4, u5⟩ := okY_iff.1 hA
      obtain ⟨k1, k2, k3, k4, k5⟩ := okY_iff.1 hC
      simp only [okN_iff, okV_iff] at u1 u2 u3 u4 u5 k1 k2 k3 k4 k5
      obtain ⟨u1, u1'⟩ := u1
      obtain ⟨u2, u2'⟩ := u2
      obtain ⟨u3, u3'⟩ := u3
      obtain ⟨u4, u4'⟩ := u4
      obtain ⟨u5, u5'⟩ := u5
      obtain ⟨k1, k1'⟩ := k1
      obtain ⟨k2, k2'⟩ := k2
      obtain ⟨k3, k3'⟩ := k3
      obtain ⟨k4, k4'⟩ := k4
      obtain ⟨k5, k5'⟩ := k5
      clear hA hC p1 p2
      go_wp2_with (first | ((with_reducible apply wl_store' lwY); (· (first | exact wanted_none rfl | exact wanted_some rfl rfl rfl)); (· rfl); (· rfl); (· infer_instance); (· rfl); (· rfl); (· (simp [Value.oneCell'])); try simp only [setRow_alloc, setRow_new, setRow_new1, setRow_new2, setRow_new11, setRow_new111]))
      refine bodyPost_ret (results_cs (b0 := g4) rfl lwY rfl rfl inferInstance rfl) rfl ⟨?_, ?_⟩
      · simp [addY, addE, HOK.out, sumY]
      · exact ExtOf.of (Ext.setRow HX.out lw4 _)
theorem add_any (a b : Y5) (w : World) : Calls Tryd.prog 21 #[.agg #[.int .i64 a.lg, .int .i64 a.bo, .int .i64 a.ch, .int .i64 a.du, .int .i64 a.va], .agg #[.int .i64 b.lg, .int .i64 b.bo, .int .i64 b.ch, .int .i64 b.du, .int .i64 b.va]] w fun e w' => e = .returned (.tuple #[.agg #[.int .i64 (addY a b).lg, .int .i64 (addY a b).bo, .int .i64 (addY a b).ch, .int .i64 (addY a b).du, .int .i64 (addY a b).va], .int .i64 (addE a b)]) ∧ ∃ n : ExtOf w, w' = n.val := add_any' a.lg a.bo a.ch a.du a.va b.lg b.bo b.ch b.du b.va w
end Go.Proofs.YtaflcbdbacogeaaDoor
