/-
  The reference's rows: before, Of.
-/
import Derived.Test.YtaflcbdbacogeaaDoorR9
set_option linter.unusedVariables false
set_option linter.unusedSimpArgs false
namespace Go.Proofs.YtaflcbdbacogeaaDoor
open Go.RowKit ReportM Go.Maps

attribute [local go_sem] ExtOf.cell ExtOf.frozen ExtS.cell ExtS.frozen Block.cell Block.frozen ExtB.cell ExtB.frozen alloc_cell alloc_frozen
def ltB (a b : Ky) : Bool := decide (ltK a b)
theorem lwRR : Whole Tryd.prog 118 5 := whole_of Tryd.underlying118 rfl (by kernel_rfl)
theorem midRR : Mid Tryd.prog 118 5 := mid_of Tryd.underlying118 rfl (by kernel_rfl)
theorem midBo : Mid Tryd.prog 97 18 := mid_of Tryd.underlying97 rfl (by kernel_rfl)
set_option maxHeartbeats 800000 in
theorem rbefore_any' (a1 a2 a3 a4 a5 c1 c2 c3 c4 c5 : Int) (w : World) : Calls Tryd.prog 28 #[.agg #[.int .i64 a1, .int .i64 a2, .int .i64 a3, .int .i64 a4, .int .i64 a5], .agg #[.int .i64 c1, .int .i64 c2, .int .i64 c3, .int .i64 c4, .int .i64 c5]] w fun e w' => e = .returned (.bool (ltB (a1, a2, a3) (c1, c2, c3))) ∧ ∃ n : ExtOf w, w' = n.val := by
  rcases h1 : (a1 != c1) with _ | _
  · have e1 : a1 = c1 := by simpa using h1
    have E1 := Lib.hid e1
    clear e1
    rcases h2 : (a2 != c2) with _ | _
    · have e2 : a2 = c2 := by simpa using h2
      have E2 := Lib.hid e2
      clear e2
      go_enter Tryd.func28, Tryd.ntmps28
      go_wp2
      go_ret
      refine ⟨ret_bool ?_, ?_⟩
      · rw [E1.out, E2.out]; simp [ltB, ltK]
      · exact ExtOf.of (by repeat' (first | (with_reducible exact Ext.refl _) | (with_reducible exact ExtOf.ext _) | (with_reducible refine Ext.trans ?_ (ExtOf.ext _)) | (with_reducible refine Ext.alloc ?_ _) | (with_reducible refine Ext.drew ?_) | (with_reducible refine Ext.setCell ?_ ?_ _) | (with_reducible refine Ext.setRow ?_ ?_ _) | (with_reducible exact HX.out) | (with_reducible refine Ext.trans ?_ HX.out) | (with_reducible refine Ext.below ?_ (Nat.le_refl _) _) | omega | (simp; done) | (simp; omega)))
    · have E2 : Hid (a2 ≠ c2) := Lib.hid (by simpa using h2)
      go_enter Tryd.func28, Tryd.ntmps28
      go_wp2
      go_ret
      refine ⟨ret_bool ?_, ?_⟩
      · have h9 := E2.out; rw [E1.out]; simp only [ltB, ltK, Int.lt_irrefl, false_or, true_and]; rw [Bool.eq_iff_iff]; simp [h9]
      · exact ExtOf.of (by repeat' (first | (with_reducible exact Ext.refl _) | (with_reducible exact ExtOf.ext _) | (with_reducible refine Ext.trans ?_ (ExtOf.ext _)) | (with_reducible refine Ext.alloc ?_ _) | (with_reducible refine Ext.drew ?_) | (with_reducible refine Ext.setCell ?_ ?_ _) | (with_reducible refine Ext.setRow ?_ ?_ _) | (with_reducible exact HX.out) | (with_reducible refine Ext.trans ?_ HX.out) | (with_reducible refine Ext.below ?_ (Nat.le_refl _) _) | omega | (simp; done) | (simp; omega)))
  · have E1 : Hid (a1 ≠ c1) := Lib.hid (by simpa using h1)
    go_enter Tryd.func28, Tryd.ntmps28
    go_wp2
    go_ret
    refine ⟨ret_bool ?_, ?_⟩
    · have h9 := E1.out; simp only [ltB, ltK]; rw [Bool.eq_iff_iff]; simp [h9]
    · exact ExtOf.of (by repeat' (first | (with_reducible exact Ext.refl _) | (with_reducible exact ExtOf.ext _) | (with_reducible refine Ext.trans ?_ (ExtOf.ext _)) | (with_reducible refine Ext.alloc ?_ _) | (with_reducible refine Ext.drew ?_) | (with_reducible refine Ext.setCell ?_ ?_ _) | (with_reducible refine Ext.setRow ?_ ?_ _) | (with_reducible exact HX.out) | (with_reducible refine Ext.trans ?_ HX.out) | (with_reducible refine Ext.below ?_ (Nat.le_refl _) _) | omega | (simp; done) | (simp; omega)))
theorem rbefore_any (s t : Tal) (w : World) : Calls Tryd.prog 28 #[.agg #[.int .i64 s.k.1, .int .i64 s.k.2.1, .int .i64 s.k.2.2, .int .i64 s.c, .int .i64 s.v], .agg #[.int .i64 t.k.1, .int .i64 t.k.2.1, .int .i64 t.k.2.2, .int .i64 t.c, .int .i64 t.v]] w fun e w' => e = .returned (.bool (ltB s.k t.k)) ∧ ∃ n : ExtOf w, w' = n.val := rbefore_any' s.k.1 s.k.2.1 s.k.2.2 s.c s.v t.k.1 t.k.2.1 t.k.2.2 t.c t.v w
set_option maxHeartbeats 800000 in
theorem rof_any (x : It) (w : World) (h0 : 0 ≤ x.za) (h1 : x.za ≤ x.zb) (h2 : x.zb ≤ 4294967296) : Calls Tryd.prog 27 #[.agg #[.string ⟨#[]⟩, .string ⟨#[]⟩, .string ⟨#[]⟩, .int .i64 x.pr, .int .i64 0, .int .i64 0, .int .i64 0, .int .i64 0, .int .i64 x.za, .int .i64 x.zb, .int .i64 x.vo, .slice none 0 0, .int .i64 0, .int .i64 0, .int .i64 0, .int .i64 0, .bool false, .int .i64 x.gr]] w fun e w' => e = .returned (.agg #[.int .i64 (⟨(x.pr, x.zb - x.za, x.gr), 1, x.vo⟩ : Tal).k.1, .int .i64 (⟨(x.pr, x.zb - x.za, x.gr), 1, x.vo⟩ : Tal).k.2.1, .int .i64 (⟨(x.pr, x.zb - x.za, x.gr), 1, x.vo⟩ : Tal).k.2.2, .int .i64 (⟨(x.pr, x.zb - x.za, x.gr), 1, x.vo⟩ : Tal).c, .int .i64 (⟨(x.pr, x.zb - x.za, x.gr), 1, x.vo⟩ : Tal).v]) ∧ ∃ n : ExtOf w, w' = n.val := by
  go_enter Tryd.func27, Tryd.ntmps27
  go_wp2_with fail
  refine wp_region_ext_tail 11 (by kernel_rfl) (by kernel_rfl) ?_
  simp only [List.take_succ_cons, List.take_zero, List.drop_succ_cons, List.drop_zero]
  repeat (first | go_big_quiet_skip | ((with_reducible apply q_loadB midSp); (· (first | exact wanted_none rfl | exact wanted_some rfl rfl rfl)); (· rfl); (· infer_instance); (· rfl); (· rfl); simp only [Act.put, List.setIfInBounds_toArray, List.set_cons_succ, List.set_cons_zero]) | go_big_quiet_step ((go_at_call 42; exact ext_call (rlen_any _ _ _ h0 h1 h2))))
  refine wpQuiet_nil ?_
  intro w' hw'
  obtain ⟨nq, rfl⟩ := hw'
  go_wp2_with (first | ((with_reducible apply wl_store' lwRR); (· (first | exact wanted_none rfl | exact wanted_some rfl rfl rfl)); (· rfl); (· rfl); (· infer_instance); (· rfl); (· rfl); (· (simp [Value.oneCell'])); try simp only [setRow_alloc, setRow_new, setRow_new1, setRow_new2, setRow_new11, setRow_new111]))
  refine bodyPost_ret (results_c1 (b0 := w.heap.size + 1) rfl lwRR rfl inferInstance rfl) rfl ⟨rfl, ?_⟩
  exact ExtOf.of (by repeat' (first | (with_reducible exact Ext.refl _) | (with_reducible exact ExtOf.ext _) | (with_reducible refine Ext.trans ?_ (ExtOf.ext _)) | (with_reducible refine Ext.alloc ?_ _) | (with_reducible refine Ext.drew ?_) | (with_reducible refine Ext.setCell ?_ ?_ _) | (with_reducible refine Ext.setRow ?_ ?_ _) | (with_reducible exact HX.out) | (with_reducible refine Ext.trans ?_ HX.out) | (with_reducible refine Ext.below ?_ (Nat.le_refl _) _) | omega | (simp; done) | (simp; omega)))
end Go.Proofs.YtaflcbdbacogeaaDoor
