/-
  Chapter 59: several texts in one (S7, S8).
-/
import Derived.Test.YteokijolhbohaaaGreatDoorK1
/-
  Chapter 59: the numbers of a species.
-/
section
set_option linter.unusedVariables false
set_option linter.unusedSimpArgs false
namespace Go.Proofs.YteokijolhbohaaaGreatDoor
open Go.RowKit StM

attribute [local go_sem] ExtOf.cell ExtOf.frozen Block.cell Block.frozen ExtB.cell ExtB.frozen alloc_cell alloc_frozen
theorem wl_build {P : Program} {ops : Array Oper} {rest : List Oper} {a : Act} {T : TypeId} {els : Array (Nat × Operand)} {V : Value} {dst : Option Tmp} {ty : TypeId} {pos : String} {aft : Array Edge} {g : Option (Nat × Bool)} {w : World} {Q : Exit → Act → World → Prop} (hw : Region.wanted ⟨dst, .build T els, ty, pos, aft, g⟩ (yielded ops a.tmps) = true) (hr : (execOp a.eval ⟨dst, .build T els, ty, pos, aft, g⟩).run P w = .ok (.value V) w)
    (hk : wpList P ops Q rest (a.put dst V) w) : wpList P ops Q (⟨dst, .build T els, ty, pos, aft, g⟩ :: rest) a w := by
  refine wpList_step fun K hK => ?_
  rw [if_pos hw]
  unfold Oper.wp
  rw [hr]
  exact hK _ _ hk
theorem lwA12 : Whole Tryz.prog 187 12 := whole_of Tryz.underlying187 rfl (by kernel_rfl)
theorem lwA122 : Whole Tryz.prog 186 24 := whole_of Tryz.underlying186 rfl (by kernel_rfl)
theorem betw_t {n lo hi : Int} (h : betw n lo hi = true) : decide (n < lo) = false ∧ decide (hi < n) = false := by
  unfold betw at h
  simp only [Bool.and_eq_true, decide_eq_true_eq] at h
  exact ⟨decide_eq_false (by omega), decide_eq_false (by omega)⟩
theorem betw_f {n lo hi : Int} (h : betw n lo hi = false) : decide (n < lo) = true ∨ decide (n < lo) = false ∧ decide (hi < n) = true := by
  unfold betw at h
  simp only [Bool.and_eq_false_iff, decide_eq_false_iff_not] at h
  by_cases h1 : n < lo
  · exact .inl (decide_eq_true h1)
  · exact .inr ⟨decide_eq_false h1, decide_eq_true (by omega)⟩
def numC (s : Spc) : Array Value := #[.int .i64 s.gr, .int .i64 s.fa, .int .i64 s.sl, .int .i64 s.sa, .int .i64 s.mg, .int .i64 s.cr, .int .i64 s.mt, .int .i64 s.md, .int .i64 s.de, .int .i64 s.st, .int .i64 s.kn, .int .i64 s.sh]
def spcC (s : Spc) : Array Value := #[.string s.nm, .int .i64 s.gr, .int .i64 s.fa, .int .i64 s.sl, .int .i64 s.sa, .int .i64 s.mg, .int .i64 s.cr, .int .i64 s.mt, .int .i64 s.md, .int .i64 s.de, .int .i64 s.st, .int .i64 s.kn, .int .i64 s.sh]
set_option maxHeartbeats 1600000 in
theorem wnumbers_any (s : Spc) (w : World) : Calls Tryz.prog 81 #[.agg (spcC s)] w fun e w' => e = .returned (.agg (numC s)) ∧ ∃ n : ExtOf w, w' = n.val := by
  obtain ⟨nm, gr, fa, sl, sa, mg, cr, mt, md, de, st, kn, sh⟩ := s
  unfold spcC numC
  go_enter Tryz.func81, Tryz.ntmps81
  go_wp2_with (first | ((with_reducible refine wl_build (T := 187) (V := .agg #[.int .i64 gr, .int .i64 fa, .int .i64 sl, .int .i64 sa, .int .i64 mg, .int .i64 cr, .int .i64 mt, .int .i64 md, .int .i64 de, .int .i64 st, .int .i64 kn, .int .i64 sh]) ?_ ?_ ?_); (· (first | exact wanted_none rfl | exact wanted_some rfl rfl rfl)); (· kernel_rfl); simp only [Act.put, List.setIfInBounds_toArray, List.set_cons_succ, List.set_cons_zero]) | ((with_reducible apply wl_store' lwA12); (· (first | exact wanted_none rfl | exact wanted_some rfl rfl rfl)); (· rfl); (· rfl); (· infer_instance); (· rfl); (· rfl); (· (simp [Value.oneCell'])); try simp only [setRow_alloc, setRow_new, setRow_new1, setRow_new2, setRow_new11, setRow_new111]))
  exact bodyPost_ret (results_c1 (b0 := w.heap.size + 1) rfl lwA12 rfl inferInstance rfl) rfl ⟨rfl, by exact ExtOf.of (by with_reducible repeat' (first | exact Ext.refl _ | exact ExtOf.ext _ | refine Ext.trans ?_ (ExtOf.ext _) | refine Ext.alloc ?_ _ | refine Ext.drew ?_ | refine Ext.setCell ?_ ?_ _ | refine Ext.setRow ?_ ?_ _ | exact HX.out | refine Ext.trans ?_ HX.out | omega | (simp; done) | (simp; omega)))⟩
theorem build2 {a : Act} {dst : Option Tmp} {ty : TypeId} {pos : String} {aft : Array Edge} {g : Option (Nat × Bool)} {w : World} {x y : Operand} {u v : Int} (hx : a.eval x = .int .i64 u) (hy : a.eval y = .int .i64 v) : (execOp a.eval ⟨dst, .build 185 #[(0, x), (1, y)], ty, pos, aft, g⟩).run Tryz.prog w = .ok (.value (.agg #[.int .i64 u, .int .i64 v])) w := by
  have h : (Instr.build 185 #[(0, Value.int IntKind.i64 u), (1, Value.int IntKind.i64 v)]).run Tryz.prog w = .ok (.agg #[.int .i64 u, .int .i64 v]) w := by kernel_rfl
  unfold execOp
  simp [hx, hy, h]
theorem wl_build2 {ops : Array Oper} {rest : List Oper} {a : Act} {x y : Operand} {u v : Int} {dst : Option Tmp} {ty : TypeId} {pos : String} {aft : Array Edge} {g : Option (Nat × Bool)} {w : World} {Q : Exit → Act → World → Prop} (hw : Region.wanted ⟨dst, .build 185 #[(0, x), (1, y)], ty, pos, aft, g⟩ (yielded ops a.tmps) = true) (hx : a.eval x = .int .i64 u) (hy : a.eval y = .int .i64 v)
    (hk : wpList Tryz.prog ops Q rest (a.put dst (.agg #[.int .i64 u, .int .i64 v])) w) : wpList Tryz.prog ops Q (⟨dst, .build 185 #[(0, x), (1, y)], ty, pos, aft, g⟩ :: rest) a w := wl_build hw (build2 hx hy) hk
set_option maxHeartbeats 3200000 in
set_option maxRecDepth 20000 in
theorem winRange_any (s : Spc) (w : World) : Calls Tryz.prog 43 #[.agg (spcC s)] w fun e w' => e = .returned (.bool s.ok) ∧ ∃ n : ExtOf w, w' = n.val := by
  obtain ⟨nm, gr, fa, sl, sa, mg, cr, mt, md, de, st, kn, sh⟩ := s
  unfold spcC
  have ix0 : ∀ wz : World, (Instr.index 187 (.agg #[.int .i64 gr, .int .i64 fa, .int .i64 sl, .int .i64 sa, .int .i64 mg, .int .i64 cr, .int .i64 mt, .int .i64 md, .int .i64 de, .int .i64 st, .int .i64 kn, .int .i64 sh]) (.int .i64 0)).run Tryz.prog wz = .ok (.int .i64 gr) wz := fun wz => by kernel_rfl
  have ix1 : ∀ wz : World, (Instr.index 187 (.agg #[.int .i64 gr, .int .i64 fa, .int .i64 sl, .int .i64 sa, .int .i64 mg, .int .i64 cr, .int .i64 mt, .int .i64 md, .int .i64 de, .int .i64 st, .int .i64 kn, .int .i64 sh]) (.int .i64 1)).run Tryz.prog wz = .ok (.int .i64 fa) wz := fun wz => by kernel_rfl
  have ix2 : ∀ wz : World, (Instr.index 187 (.agg #[.int .i64 gr, .int .i64 fa, .int .i64 sl, .int .i64 sa, .int .i64 mg, .int .i64 cr, .int .i64 mt, .int .i64 md, .int .i64 de, .int .i64 st, .int .i64 kn, .int .i64 sh]) (.int .i64 2)).run Tryz.prog wz = .ok (.int .i64 sl) wz := fun wz => by kernel_rfl
  have ix3 : ∀ wz : World, (Instr.index 187 (.agg #[.int .i64 gr, .int .i64 fa, .int .i64 sl, .int .i64 sa, .int .i64 mg, .int .i64 cr, .int .i64 mt, .int .i64 md, .int .i64 de, .int .i64 st, .int .i64 kn, .int .i64 sh]) (.int .i64 3)).run Tryz.prog wz = .ok (.int .i64 sa) wz := fun wz => by kernel_rfl
  have ix4 : ∀ wz : World, (Instr.index 187 (.agg #[.int .i64 gr, .int .i64 fa, .int .i64 sl, .int .i64 sa, .int .i64 mg, .int .i64 cr, .int .i64 mt, .int .i64 md, .int .i64 de, .int .i64 st, .int .i64 kn, .int .i64 sh]) (.int .i64 4)).run Tryz.prog wz = .ok (.int .i64 mg) wz := fun wz => by kernel_rfl
  have ix5 : ∀ wz : World, (Instr.index 187 (.agg #[.int .i64 gr, .int .i64 fa, .int .i64 sl, .int .i64 sa, .int .i64 mg, .int .i64 cr, .int .i64 mt, .int .i64 md, .int .i64 de, .int .i64 st, .int .i64 kn, .int .i64 sh]) (.int .i64 5)).run Tryz.prog wz = .ok (.int .i64 cr) wz := fun wz => by kernel_rfl
  have ix6 : ∀ wz : World, (Instr.index 187 (.agg #[.int .i64 gr, .int .i64 fa, .int .i64 sl, .int .i64 sa, .int .i64 mg, .int .i64 cr, .int .i64 mt, .int .i64 md, .int .i64 de, .int .i64 st, .int .i64 kn, .int .i64 sh]) (.int .i64 6)).run Tryz.prog wz = .ok (.int .i64 mt) wz := fun wz => by kernel_rfl
  have ix7 : ∀ wz : World, (Instr.index 187 (.agg #[.int .i64 gr, .int .i64 fa, .int .i64 sl, .int .i64 sa, .int .i64 mg, .int .i64 cr, .int .i64 mt, .int .i64 md, .int .i64 de, .int .i64 st, .int .i64 kn, .int .i64 sh]) (.int .i64 7)).run Tryz.prog wz = .ok (.int .i64 md) wz := fun wz => by kernel_rfl
  have ix8 : ∀ wz : World, (Instr.index 187 (.agg #[.int .i64 gr, .int .i64 fa, .int .i64 sl, .int .i64 sa, .int .i64 mg, .int .i64 cr, .int .i64 mt, .int .i64 md, .int .i64 de, .int .i64 st, .int .i64 kn, .int .i64 sh]) (.int .i64 8)).run Tryz.prog wz = .ok (.int .i64 de) wz := fun wz => by kernel_rfl
  have ix9 : ∀ wz : World, (Instr.index 187 (.agg #[.int .i64 gr, .int .i64 fa, .int .i64 sl, .int .i64 sa, .int .i64 mg, .int .i64 cr, .int .i64 mt, .int .i64 md, .int .i64 de, .int .i64 st, .int .i64 kn, .int .i64 sh]) (.int .i64 9)).run Tryz.prog wz = .ok (.int .i64 st) wz := fun wz => by kernel_rfl
  have ix10 : ∀ wz : World, (Instr.index 187 (.agg #[.int .i64 gr, .int .i64 fa, .int .i64 sl, .int .i64 sa, .int .i64 mg, .int .i64 cr, .int .i64 mt, .int .i64 md, .int .i64 de, .int .i64 st, .int .i64 kn, .int .i64 sh]) (.int .i64 10)).run Tryz.prog wz = .ok (.int .i64 kn) wz := fun wz => by kernel_rfl
  have ix11 : ∀ wz : World, (Instr.index 187 (.agg #[.int .i64 gr, .int .i64 fa, .int .i64 sl, .int .i64 sa, .int .i64 mg, .int .i64 cr, .int .i64 mt, .int .i64 md, .int .i64 de, .int .i64 st, .int .i64 kn, .int .i64 sh]) (.int .i64 11)).run Tryz.prog wz = .ok (.int .i64 sh) wz := fun wz => by kernel_rfl
  go_enter Tryz.func43, Tryz.ntmps43
  go_wp2_with (first | ((with_reducible apply wl_build2); (· (first | exact wanted_none rfl | exact wanted_some rfl rfl rfl)); (· rfl); (· rfl); simp only [Act.put, List.setIfInBounds_toArray, List.set_cons_succ, List.set_cons_zero]) | ((with_reducible refine wl_build (T := 186) (V := .agg #[.int .i64 3000, .int .i64 20000, .int .i64 1, .int .i64 10000, .int .i64 1, .int .i64 fa, .int .i64 0, .int .i64 mg, .int .i64 1, .int .i64 20000, .int .i64 1, .int .i64 1000000, .int .i64 200, .int .i64 1200, .int .i64 100, .int .i64 400, .int .i64 200, .int .i64 1500, .int .i64 1000, .int .i64 30000, .int .i64 0, .int .i64 1000, .int .i64 0, .int .i64 200]) ?_ ?_ ?_); (· (first | exact wanted_none rfl | exact wanted_some rfl rfl rfl)); (· kernel_rfl); simp only [Act.put, List.setIfInBounds_toArray, List.set_cons_succ, List.set_cons_zero]) | ((with_reducible apply wl_store' lwA122); (· (first | exact wanted_none rfl | exact wanted_some rfl rfl rfl)); (· rfl); (· rfl); (· infer_instance); (· rfl); (· rfl); (· (simp [Value.oneCell'])); try simp only [setRow_alloc, setRow_new, setRow_new1, setRow_new2, setRow_new11, setRow_new111]) | ((with_reducible apply wl_load' lwSpc); (· (first | exact wanted_none rfl | exact wanted_some rfl rfl rfl)); (· rfl); (· infer_instance); (· rfl)) | (go_at_call 81; refine (wnumbers_any ⟨nm, gr, fa, sl, sa, mg, cr, mt, md, de, st, kn, sh⟩ _).mono ?_; unfold numC; rintro e w' ⟨rfl, n, rfl⟩))
  refine wp_loop_rounds 13 ?_
  rcases b0 : betw gr 3000 20000 with _ | _
  · have HB : Hid (Spc.ok ⟨nm, gr, fa, sl, sa, mg, cr, mt, md, de, st, kn, sh⟩ = false) := Lib.hid (by unfold Spc.ok; simp only [b0]; rfl)
    rcases betw_f b0 with q1 | ⟨q1, q2⟩
    · rw [rounds_succ]
      go_wp2_with fail
      go_ret
      exact ⟨ret_bool HB.out.symm, by exact ExtOf.of (by with_reducible repeat' (first | exact Ext.refl _ | exact ExtOf.ext _ | refine Ext.trans ?_ (ExtOf.ext _) | refine Ext.alloc ?_ _ | refine Ext.drew ?_ | refine Ext.setCell ?_ ?_ _ | refine Ext.setRow ?_ ?_ _ | exact HX.out | refine Ext.trans ?_ HX.out | omega | (simp; done) | (simp; omega)))⟩
    · rw [rounds_succ]
      go_wp2_with fail
      go_ret
      exact ⟨ret_bool HB.out.symm, by exact ExtOf.of (by with_reducible repeat' (first | exact Ext.refl _ | exact ExtOf.ext _ | refine Ext.trans ?_ (ExtOf.ext _) | refine Ext.alloc ?_ _ | refine Ext.drew ?_ | refine Ext.setCell ?_ ?_ _ | refine Ext.setRow ?_ ?_ _ | exact HX.out | refine Ext.trans ?_ HX.out | omega | (simp; done) | (simp; omega)))⟩
  obtain ⟨q0a, q0b⟩ := betw_t b0
  rw [rounds_succ]
  go_wp2_with fail
  rcases b1 : betw fa 1 10000 with _ | _
  · have HB : Hid (Spc.ok ⟨nm, gr, fa, sl, sa, mg, cr, mt, md, de, st, kn, sh⟩ = false) := Lib.hid (by unfold Spc.ok; simp only [b0, b1]; rfl)
    rcases betw_f b1 with q1 | ⟨q1, q2⟩
    · rw [rounds_succ]
      go_wp2_with fail
      go_ret
      exact ⟨ret_bool HB.out.symm, by exact ExtOf.of (by with_reducible repeat' (first | exact Ext.refl _ | exact ExtOf.ext _ | refine Ext.trans ?_ (ExtOf.ext _) | refine Ext.alloc ?_ _ | refine Ext.drew ?_ | refine Ext.setCell ?_ ?_ _ | refine Ext.setRow ?_ ?_ _ | exact HX.out | refine Ext.trans ?_ HX.out | omega | (simp; done) | (simp; omega)))⟩
    · rw [rounds_succ]
      go_wp2_with fail
      go_ret
      exact ⟨ret_bool HB.out.symm, by exact ExtOf.of (by with_reducible repeat' (first | exact Ext.refl _ | exact ExtOf.ext _ | refine Ext.trans ?_ (ExtOf.ext _) | refine Ext.alloc ?_ _ | refine Ext.drew ?_ | refine Ext.setCell ?_ ?_ _ | refine Ext.setRow ?_ ?_ _ | exact HX.out | refine Ext.trans ?_ HX.out | omega | (simp; done) | (simp; omega)))⟩
  obtain ⟨q1a, q1b⟩ := betw_t b1
  rw [rounds_succ]
  go_wp2_with fail
  rcases b2 : betw sl 1 fa with _ | _
  · have HB : Hid (Spc.ok ⟨nm, gr, fa, sl, sa, mg, cr, mt, md, de, st, kn, sh⟩ = false) := Lib.hid (by unfold Spc.ok; simp only [b0, b1, b2]; rfl)
    rcases betw_f b2 with q1 | ⟨q1, q2⟩
    · rw [rounds_succ]
      go_wp2_with fail
      go_ret
      exact ⟨ret_bool HB.out.symm, by exact ExtOf.of (by with_reducible repeat' (first | exact Ext.refl _ | exact ExtOf.ext _ | refine Ext.trans ?_ (ExtOf.ext _) | refine Ext.alloc ?_ _ | refine Ext.drew ?_ | refine Ext.setCell ?_ ?_ _ | refine Ext.setRow ?_ ?_ _ | exact HX.out | refine Ext.trans ?_ HX.out | omega | (simp; done) | (simp; omega)))⟩
    · rw [rounds_succ]
      go_wp2_with fail
      go_ret
      exact ⟨ret_bool HB.out.symm, by exact ExtOf.of (by with_reducible repeat' (first | exact Ext.refl _ | exact ExtOf.ext _ | refine Ext.trans ?_ (ExtOf.ext _) | refine Ext.alloc ?_ _ | refine Ext.drew ?_ | refine Ext.setCell ?_ ?_ _ | refine Ext.setRow ?_ ?_ _ | exact HX.out | refine Ext.trans ?_ HX.out | omega | (simp; done) | (simp; omega)))⟩
  obtain ⟨q2a, q2b⟩ := betw_t b2
  rw [rounds_succ]
  go_wp2_with fail
  rcases b3 : betw sa 0 mg with _ | _
  · have HB : Hid (Spc.ok ⟨nm, gr, fa, sl, sa, mg, cr, mt, md, de, st, kn, sh⟩ = false) := Lib.hid (by unfold Spc.ok; simp only [b0, b1, b2, b3]; rfl)
    rcases betw_f b3 with q1 | ⟨q1, q2⟩
    · rw [rounds_succ]
      go_wp2_with fail
      go_ret
      exact ⟨ret_bool HB.out.symm, by exact ExtOf.of (by with_reducible repeat' (first | exact Ext.refl _ | exact ExtOf.ext _ | refine Ext.trans ?_ (ExtOf.ext _) | refine Ext.alloc ?_ _ | refine Ext.drew ?_ | refine Ext.setCell ?_ ?_ _ | refine Ext.setRow ?_ ?_ _ | exact HX.out | refine Ext.trans ?_ HX.out | omega | (simp; done) | (simp; omega)))⟩
    · rw [rounds_succ]
      go_wp2_with fail
      go_ret
      exact ⟨ret_bool HB.out.symm, by exact ExtOf.of (by with_reducible repeat' (first | exact Ext.refl _ | exact ExtOf.ext _ | refine Ext.trans ?_ (ExtOf.ext _) | refine Ext.alloc ?_ _ | refine Ext.drew ?_ | refine Ext.setCell ?_ ?_ _ | refine Ext.setRow ?_ ?_ _ | exact HX.out | refine Ext.trans ?_ HX.out | omega | (simp; done) | (simp; omega)))⟩
  obtain ⟨q3a, q3b⟩ := betw_t b3
  rw [rounds_succ]
  go_wp2_with fail
  rcases b4 : betw mg 1 20000 with _ | _
  · have HB : Hid (Spc.ok ⟨nm, gr, fa, sl, sa, mg, cr, mt, md, de, st, kn, sh⟩ = false) := Lib.hid (by unfold Spc.ok; simp only [b0, b1, b2, b3, b4]; rfl)
    rcases betw_f b4 with q1 | ⟨q1, q2⟩
    · rw [rounds_succ]
      go_wp2_with fail
      go_ret
      exact ⟨ret_bool HB.out.symm, by exact ExtOf.of (by with_reducible repeat' (first | exact Ext.refl _ | exact ExtOf.ext _ | refine Ext.trans ?_ (ExtOf.ext _) | refine Ext.alloc ?_ _ | refine Ext.drew ?_ | refine Ext.setCell ?_ ?_ _ | refine Ext.setRow ?_ ?_ _ | exact HX.out | refine Ext.trans ?_ HX.out | omega | (simp; done) | (simp; omega)))⟩
    · rw [rounds_succ]
      go_wp2_with fail
      go_ret
      exact ⟨ret_bool HB.out.symm, by exact ExtOf.of (by with_reducible repeat' (first | exact Ext.refl _ | exact ExtOf.ext _ | refine Ext.trans ?_ (ExtOf.ext _) | refine Ext.alloc ?_ _ | refine Ext.drew ?_ | refine Ext.setCell ?_ ?_ _ | refine Ext.setRow ?_ ?_ _ | exact HX.out | refine Ext.trans ?_ HX.out | omega | (simp; done) | (simp; omega)))⟩
  obtain ⟨q4a, q4b⟩ := betw_t b4
  rw [rounds_succ]
  go_wp2_with fail
  rcases b5 : betw cr 1 1000000 with _ | _
  · have HB : Hid (Spc.ok ⟨nm, gr, fa, sl, sa, mg, cr, mt, md, de, st, kn, sh⟩ = false) := Lib.hid (by unfold Spc.ok; simp only [b0, b1, b2, b3, b4, b5]; rfl)
    rcases betw_f b5 with q1 | ⟨q1, q2⟩
    · rw [rounds_succ]
      go_wp2_with fail
      go_ret
      exact ⟨ret_bool HB.out.symm, by exact ExtOf.of (by with_reducible repeat' (first | exact Ext.refl _ | exact ExtOf.ext _ | refine Ext.trans ?_ (ExtOf.ext _) | refine Ext.alloc ?_ _ | refine Ext.drew ?_ | refine Ext.setCell ?_ ?_ _ | refine Ext.setRow ?_ ?_ _ | exact HX.out | refine Ext.trans ?_ HX.out | omega | (simp; done) | (simp; omega)))⟩
    · rw [rounds_succ]
      go_wp2_with fail
      go_ret
      exact ⟨ret_bool HB.out.symm, by exact ExtOf.of (by with_reducible repeat' (first | exact Ext.refl _ | exact ExtOf.ext _ | refine Ext.trans ?_ (ExtOf.ext _) | refine Ext.alloc ?_ _ | refine Ext.drew ?_ | refine Ext.setCell ?_ ?_ _ | refine Ext.setRow ?_ ?_ _ | exact HX.out | refine Ext.trans ?_ HX.out | omega | (simp; done) | (simp; omega)))⟩
  obtain ⟨q5a, q5b⟩ := betw_t b5
  rw [rounds_succ]
  go_wp2_with fail
  rcases b6 : betw mt 200 1200 with _ | _
  · have HB : Hid (Spc.ok ⟨nm, gr, fa, sl, sa, mg, cr, mt, md, de, st, kn, sh⟩ = false) := Lib.hid (by unfold Spc.ok; simp only [b0, b1, b2, b3, b4, b5, b6]; rfl)
    rcases betw_f b6 with q1 | ⟨q1, q2⟩
    · rw [rounds_succ]
      go_wp2_with fail
      go_ret
      exact ⟨ret_bool HB.out.symm, by exact ExtOf.of (by with_reducible repeat' (first | exact Ext.refl _ | exact ExtOf.ext _ | refine Ext.trans ?_ (ExtOf.ext _) | refine Ext.alloc ?_ _ | refine Ext.drew ?_ | refine Ext.setCell ?_ ?_ _ | refine Ext.setRow ?_ ?_ _ | exact HX.out | refine Ext.trans ?_ HX.out | omega | (simp; done) | (simp; omega)))⟩
    · rw [rounds_succ]
      go_wp2_with fail
      go_ret
      exact ⟨ret_bool HB.out.symm, by exact ExtOf.of (by with_reducible repeat' (first | exact Ext.refl _ | exact ExtOf.ext _ | refine Ext.trans ?_ (ExtOf.ext _) | refine Ext.alloc ?_ _ | refine Ext.drew ?_ | refine Ext.setCell ?_ ?_ _ | refine Ext.setRow ?_ ?_ _ | exact HX.out | refine Ext.trans ?_ HX.out | omega | (simp; done) | (simp; omega)))⟩
  obtain ⟨q6a, q6b⟩ := betw_t b6
  rw [rounds_succ]
  go_wp2_with fail
  rcases b7 : betw md 100 400 with _ | _
  · have HB : Hid (Spc.ok ⟨nm, gr, fa, sl, sa, mg, cr, mt, md, de, st, kn, sh⟩ = false) := Lib.hid (by unfold Spc.ok; simp only [b0, b1, b2, b3, b4, b5, b6, b7]; rfl)
    rcases betw_f b7 with q1 | ⟨q1, q2⟩
    · rw [rounds_succ]
      go_wp2_with fail
      go_ret
      exact ⟨ret_bool HB.out.symm, by exact ExtOf.of (by with_reducible repeat' (first | exact Ext.refl _ | exact ExtOf.ext _ | refine Ext.trans ?_ (ExtOf.ext _) | refine Ext.alloc ?_ _ | refine Ext.drew ?_ | refine Ext.setCell ?_ ?_ _ | refine Ext.setRow ?_ ?_ _ | exact HX.out | refine Ext.trans ?_ HX.out | omega | (simp; done) | (simp; omega)))⟩
    · rw [rounds_succ]
      go_wp2_with fail
      go_ret
      exact ⟨ret_bool HB.out.symm, by exact ExtOf.of (by with_reducible repeat' (first | exact Ext.refl _ | exact ExtOf.ext _ | refine Ext.trans ?_ (ExtOf.ext _) | refine Ext.alloc ?_ _ | refine Ext.drew ?_ | refine Ext.setCell ?_ ?_ _ | refine Ext.setRow ?_ ?_ _ | exact HX.out | refine Ext.trans ?_ HX.out | omega | (simp; done) | (simp; omega)))⟩
  obtain ⟨q7a, q7b⟩ := betw_t b7
  rw [rounds_succ]
  go_wp2_with fail
  rcases b8 : betw de 200 1500 with _ | _
  · have HB : Hid (Spc.ok ⟨nm, gr, fa, sl, sa, mg, cr, mt, md, de, st, kn, sh⟩ = false) := Lib.hid (by unfold Spc.ok; simp only [b0, b1, b2, b3, b4, b5, b6, b7, b8]; rfl)
    rcases betw_f b8 with q1 | ⟨q1, q2⟩
    · rw [rounds_succ]
      go_wp2_with fail
      go_ret
      exact ⟨ret_bool HB.out.symm, by exact ExtOf.of (by with_reducible repeat' (first | exact Ext.refl _ | exact ExtOf.ext _ | refine Ext.trans ?_ (ExtOf.ext _) | refine Ext.alloc ?_ _ | refine Ext.drew ?_ | refine Ext.setCell ?_ ?_ _ | refine Ext.setRow ?_ ?_ _ | exact HX.out | refine Ext.trans ?_ HX.out | omega | (simp; done) | (simp; omega)))⟩
    · rw [rounds_succ]
      go_wp2_with fail
      go_ret
      exact ⟨ret_bool HB.out.symm, by exact ExtOf.of (by with_reducible repeat' (first | exact Ext.refl _ | exact ExtOf.ext _ | refine Ext.trans ?_ (ExtOf.ext _) | refine Ext.alloc ?_ _ | refine Ext.drew ?_ | refine Ext.setCell ?_ ?_ _ | refine Ext.setRow ?_ ?_ _ | exact HX.out | refine Ext.trans ?_ HX.out | omega | (simp; done) | (simp; omega)))⟩
  obtain ⟨q8a, q8b⟩ := betw_t b8
  rw [rounds_succ]
  go_wp2_with fail
  rcases b9 : betw st 1000 30000 with _ | _
  · have HB : Hid (Spc.ok ⟨nm, gr, fa, sl, sa, mg, cr, mt, md, de, st, kn, sh⟩ = false) := Lib.hid (by unfold Spc.ok; simp only [b0, b1, b2, b3, b4, b5, b6, b7, b8, b9]; rfl)
    rcases betw_f b9 with q1 | ⟨q1, q2⟩
    · rw [rounds_succ]
      go_wp2_with fail
      go_ret
      exact ⟨ret_bool HB.out.symm, by exact ExtOf.of (by with_reducible repeat' (first | exact Ext.refl _ | exact ExtOf.ext _ | refine Ext.trans ?_ (ExtOf.ext _) | refine Ext.alloc ?_ _ | refine Ext.drew ?_ | refine Ext.setCell ?_ ?_ _ | refine Ext.setRow ?_ ?_ _ | exact HX.out | refine Ext.trans ?_ HX.out | omega | (simp; done) | (simp; omega)))⟩
    · rw [rounds_succ]
      go_wp2_with fail
      go_ret
      exact ⟨ret_bool HB.out.symm, by exact ExtOf.of (by with_reducible repeat' (first | exact Ext.refl _ | exact ExtOf.ext _ | refine Ext.trans ?_ (ExtOf.ext _) | refine Ext.alloc ?_ _ | refine Ext.drew ?_ | refine Ext.setCell ?_ ?_ _ | refine Ext.setRow ?_ ?_ _ | exact HX.out | refine Ext.trans ?_ HX.out | omega | (simp; done) | (simp; omega)))⟩
  obtain ⟨q9a, q9b⟩ := betw_t b9
  rw [rounds_succ]
  go_wp2_with fail
  rcases b10 : betw kn 0 1000 with _ | _
  · have HB : Hid (Spc.ok ⟨nm, gr, fa, sl, sa, mg, cr, mt, md, de, st, kn, sh⟩ = false) := Lib.hid (by unfold Spc.ok; simp only [b0, b1, b2, b3, b4, b5, b6, b7, b8, b9, b10]; rfl)
    rcases betw_f b10 with q1 | ⟨q1, q2⟩
    · rw [rounds_succ]
      go_wp2_with fail
      go_ret
      exact ⟨ret_bool HB.out.symm, by exact ExtOf.of (by with_reducible repeat' (first | exact Ext.refl _ | exact ExtOf.ext _ | refine Ext.trans ?_ (ExtOf.ext _) | refine Ext.alloc ?_ _ | refine Ext.drew ?_ | refine Ext.setCell ?_ ?_ _ | refine Ext.setRow ?_ ?_ _ | exact HX.out | refine Ext.trans ?_ HX.out | omega | (simp; done) | (simp; omega)))⟩
    · rw [rounds_succ]
      go_wp2_with fail
      go_ret
      exact ⟨ret_bool HB.out.symm, by exact ExtOf.of (by with_reducible repeat' (first | exact Ext.refl _ | exact ExtOf.ext _ | refine Ext.trans ?_ (ExtOf.ext _) | refine Ext.alloc ?_ _ | refine Ext.drew ?_ | refine Ext.setCell ?_ ?_ _ | refine Ext.setRow ?_ ?_ _ | exact HX.out | refine Ext.trans ?_ HX.out | omega | (simp; done) | (simp; omega)))⟩
  obtain ⟨q10a, q10b⟩ := betw_t b10
  rw [rounds_succ]
  go_wp2_with fail
  rcases b11 : betw sh 0 200 with _ | _
  · have HB : Hid (Spc.ok ⟨nm, gr, fa, sl, sa, mg, cr, mt, md, de, st, kn, sh⟩ = false) := Lib.hid (by unfold Spc.ok; simp only [b0, b1, b2, b3, b4, b5, b6, b7, b8, b9, b10, b11]; rfl)
    rcases betw_f b11 with q1 | ⟨q1, q2⟩
    · rw [rounds_succ]
      go_wp2_with fail
      go_ret
      exact ⟨ret_bool HB.out.symm, by exact ExtOf.of (by with_reducible repeat' (first | exact Ext.refl _ | exact ExtOf.ext _ | refine Ext.trans ?_ (ExtOf.ext _) | refine Ext.alloc ?_ _ | refine Ext.drew ?_ | refine Ext.setCell ?_ ?_ _ | refine Ext.setRow ?_ ?_ _ | exact HX.out | refine Ext.trans ?_ HX.out | omega | (simp; done) | (simp; omega)))⟩
    · rw [rounds_succ]
      go_wp2_with fail
      go_ret
      exact ⟨ret_bool HB.out.symm, by exact ExtOf.of (by with_reducible repeat' (first | exact Ext.refl _ | exact ExtOf.ext _ | refine Ext.trans ?_ (ExtOf.ext _) | refine Ext.alloc ?_ _ | refine Ext.drew ?_ | refine Ext.setCell ?_ ?_ _ | refine Ext.setRow ?_ ?_ _ | exact HX.out | refine Ext.trans ?_ HX.out | omega | (simp; done) | (simp; omega)))⟩
  obtain ⟨q11a, q11b⟩ := betw_t b11
  rw [rounds_succ]
  go_wp2_with fail
  have HB : Hid (Spc.ok ⟨nm, gr, fa, sl, sa, mg, cr, mt, md, de, st, kn, sh⟩ = true) := Lib.hid (by unfold Spc.ok; simp only [b0, b1, b2, b3, b4, b5, b6, b7, b8, b9, b10, b11]; rfl)
  rw [rounds_succ]
  go_wp2_with fail
  go_ret
  exact ⟨ret_bool HB.out.symm, by exact ExtOf.of (by with_reducible repeat' (first | exact Ext.refl _ | exact ExtOf.ext _ | refine Ext.trans ?_ (ExtOf.ext _) | refine Ext.alloc ?_ _ | refine Ext.drew ?_ | refine Ext.setCell ?_ ?_ _ | refine Ext.setRow ?_ ?_ _ | exact HX.out | refine Ext.trans ?_ HX.out | omega | (simp; done) | (simp; omega)))⟩
end Go.Proofs.YteokijolhbohaaaGreatDoor
end
/-
  Chapter 59: the numbers of a species, the reference.
-/
section
set_option linter.unusedVariables false
set_option linter.unusedSimpArgs false
namespace Go.Proofs.YteokijolhbohaaaGreatDoor
open Go.RowKit StM

attribute [local go_sem] ExtOf.cell ExtOf.frozen Block.cell Block.frozen ExtB.cell ExtB.frozen alloc_cell alloc_frozen
theorem from34_any (n lo hi : Int) (w : World) : Calls Tryz.prog 86 #[.int .i64 n, .int .i64 lo, .int .i64 hi] w fun e w' => e = .returned (.bool (betw n lo hi)) ∧ w' = w := by
  rcases q1 : decide (lo ≤ n) with _ | _
  · go_enter Tryz.func86, Tryz.ntmps86
    go_wp2_with fail
    go_ret
    exact ⟨ret_bool (by unfold betw; rw [q1]; rfl), rfl⟩
  · go_enter Tryz.func86, Tryz.ntmps86
    go_wp2_with fail
    go_ret
    exact ⟨ret_bool (by unfold betw; rw [q1]; rfl), rfl⟩
theorem from37_any (n lo hi : Int) (w : World) : Calls Tryz.prog 54 #[.int .i64 n, .int .i64 lo, .int .i64 hi] w fun e w' => e = .returned (.bool (betw n lo hi)) ∧ w' = w := by
  rcases q1 : decide (lo ≤ n) with _ | _
  · go_enter Tryz.func54, Tryz.ntmps54
    go_wp2_with fail
    go_ret
    exact ⟨ret_bool (by unfold betw; rw [q1]; rfl), rfl⟩
  · go_enter Tryz.func54, Tryz.ntmps54
    go_wp2_with fail
    go_ret
    exact ⟨ret_bool (by unfold betw; rw [q1]; rfl), rfl⟩
theorem from20_any (n lo hi : Int) (w : World) : Calls Tryz.prog 55 #[.int .i64 n, .int .i64 lo, .int .i64 hi] w fun e w' => e = .returned (.bool (betw n lo hi)) ∧ w' = w := by
  rcases q1 : decide (lo ≤ n) with _ | _
  · go_enter Tryz.func55, Tryz.ntmps55
    go_wp2_with fail
    go_ret
    exact ⟨ret_bool (by unfold betw; rw [q1]; rfl), rfl⟩
  · go_enter Tryz.func55, Tryz.ntmps55
    go_wp2_with fail
    go_ret
    exact ⟨ret_bool (by unfold betw; rw [q1]; rfl), rfl⟩
set_option maxHeartbeats 3200000 in
set_option maxRecDepth 20000 in
theorem rvalid_any (s : Spc) (w : World) : Calls Tryz.prog 52 #[.agg (spcC s)] w fun e w' => e = .returned (.bool s.ok) ∧ ∃ n : ExtOf w, w' = n.val := by
  obtain ⟨nm, gr, fa, sl, sa, mg, cr, mt, md, de, st, kn, sh⟩ := s
  unfold spcC
  rcases b0 : betw gr 3000 20000 with _ | _
  · have HB : Hid (Spc.ok ⟨nm, gr, fa, sl, sa, mg, cr, mt, md, de, st, kn, sh⟩ = false) := Lib.hid (by unfold Spc.ok; simp [b0])
    go_enter Tryz.func52, Tryz.ntmps52
    go_wp2_with (go_at_call 86; refine (from34_any _ _ _ _).mono ?_; rintro e w' ⟨rfl, rfl⟩)
    go_ret
    exact ⟨ret_bool HB.out.symm, by exact ExtOf.of (by with_reducible repeat' (first | exact Ext.refl _ | exact ExtOf.ext _ | refine Ext.trans ?_ (ExtOf.ext _) | refine Ext.alloc ?_ _ | refine Ext.drew ?_ | refine Ext.setCell ?_ ?_ _ | refine Ext.setRow ?_ ?_ _ | exact HX.out | refine Ext.trans ?_ HX.out | omega | (simp; done) | (simp; omega)))⟩
  rcases b1 : betw fa 1 10000 with _ | _
  · have HB : Hid (Spc.ok ⟨nm, gr, fa, sl, sa, mg, cr, mt, md, de, st, kn, sh⟩ = false) := Lib.hid (by unfold Spc.ok; simp [b0, b1])
    go_enter Tryz.func52, Tryz.ntmps52
    go_wp2_with (go_at_call 86; refine (from34_any _ _ _ _).mono ?_; rintro e w' ⟨rfl, rfl⟩)
    go_ret
    exact ⟨ret_bool HB.out.symm, by exact ExtOf.of (by with_reducible repeat' (first | exact Ext.refl _ | exact ExtOf.ext _ | refine Ext.trans ?_ (ExtOf.ext _) | refine Ext.alloc ?_ _ | refine Ext.drew ?_ | refine Ext.setCell ?_ ?_ _ | refine Ext.setRow ?_ ?_ _ | exact HX.out | refine Ext.trans ?_ HX.out | omega | (simp; done) | (simp; omega)))⟩
  rcases b2 : betw sl 1 fa with _ | _
  · have HB : Hid (Spc.ok ⟨nm, gr, fa, sl, sa, mg, cr, mt, md, de, st, kn, sh⟩ = false) := Lib.hid (by unfold Spc.ok; simp [b0, b1, b2])
    go_enter Tryz.func52, Tryz.ntmps52
    go_wp2_with (go_at_call 86; refine (from34_any _ _ _ _).mono ?_; rintro e w' ⟨rfl, rfl⟩)
    go_ret
    exact ⟨ret_bool HB.out.symm, by exact ExtOf.of (by with_reducible repeat' (first | exact Ext.refl _ | exact ExtOf.ext _ | refine Ext.trans ?_ (ExtOf.ext _) | refine Ext.alloc ?_ _ | refine Ext.drew ?_ | refine Ext.setCell ?_ ?_ _ | refine Ext.setRow ?_ ?_ _ | exact HX.out | refine Ext.trans ?_ HX.out | omega | (simp; done) | (simp; omega)))⟩
  rcases b4 : betw mg 1 20000 with _ | _
  · have HB : Hid (Spc.ok ⟨nm, gr, fa, sl, sa, mg, cr, mt, md, de, st, kn, sh⟩ = false) := Lib.hid (by unfold Spc.ok; simp [b0, b1, b2, b4])
    go_enter Tryz.func52, Tryz.ntmps52
    go_wp2_with (go_at_call 86; refine (from34_any _ _ _ _).mono ?_; rintro e w' ⟨rfl, rfl⟩)
    go_ret
    exact ⟨ret_bool HB.out.symm, by exact ExtOf.of (by with_reducible repeat' (first | exact Ext.refl _ | exact ExtOf.ext _ | refine Ext.trans ?_ (ExtOf.ext _) | refine Ext.alloc ?_ _ | refine Ext.drew ?_ | refine Ext.setCell ?_ ?_ _ | refine Ext.setRow ?_ ?_ _ | exact HX.out | refine Ext.trans ?_ HX.out | omega | (simp; done) | (simp; omega)))⟩
  rcases b3 : betw sa 0 mg with _ | _
  · have HB : Hid (Spc.ok ⟨nm, gr, fa, sl, sa, mg, cr, mt, md, de, st, kn, sh⟩ = false) := Lib.hid (by unfold Spc.ok; simp [b0, b1, b2, b4, b3])
    go_enter Tryz.func52, Tryz.ntmps52
    go_wp2_with (go_at_call 86; refine (from34_any _ _ _ _).mono ?_; rintro e w' ⟨rfl, rfl⟩)
    go_ret
    exact ⟨ret_bool HB.out.symm, by exact ExtOf.of (by with_reducible repeat' (first | exact Ext.refl _ | exact ExtOf.ext _ | refine Ext.trans ?_ (ExtOf.ext _) | refine Ext.alloc ?_ _ | refine Ext.drew ?_ | refine Ext.setCell ?_ ?_ _ | refine Ext.setRow ?_ ?_ _ | exact HX.out | refine Ext.trans ?_ HX.out | omega | (simp; done) | (simp; omega)))⟩
  rcases b5 : betw cr 1 1000000 with _ | _
  · have HB : Hid (Spc.ok ⟨nm, gr, fa, sl, sa, mg, cr, mt, md, de, st, kn, sh⟩ = false) := Lib.hid (by unfold Spc.ok; simp [b0, b1, b2, b4, b3, b5])
    go_enter Tryz.func52, Tryz.ntmps52
    go_wp2_with (go_at_call 86; refine (from34_any _ _ _ _).mono ?_; rintro e w' ⟨rfl, rfl⟩)
    go_ret
    exact ⟨ret_bool HB.out.symm, by exact ExtOf.of (by with_reducible repeat' (first | exact Ext.refl _ | exact ExtOf.ext _ | refine Ext.trans ?_ (ExtOf.ext _) | refine Ext.alloc ?_ _ | refine Ext.drew ?_ | refine Ext.setCell ?_ ?_ _ | refine Ext.setRow ?_ ?_ _ | exact HX.out | refine Ext.trans ?_ HX.out | omega | (simp; done) | (simp; omega)))⟩
  rcases b6 : betw mt 200 1200 with _ | _
  · have HB : Hid (Spc.ok ⟨nm, gr, fa, sl, sa, mg, cr, mt, md, de, st, kn, sh⟩ = false) := Lib.hid (by unfold Spc.ok; simp [b0, b1, b2, b4, b3, b5, b6])
    go_enter Tryz.func52, Tryz.ntmps52
    go_wp2_with (go_at_call 86; refine (from34_any _ _ _ _).mono ?_; rintro e w' ⟨rfl, rfl⟩)
    go_ret
    exact ⟨ret_bool HB.out.symm, by exact ExtOf.of (by with_reducible repeat' (first | exact Ext.refl _ | exact ExtOf.ext _ | refine Ext.trans ?_ (ExtOf.ext _) | refine Ext.alloc ?_ _ | refine Ext.drew ?_ | refine Ext.setCell ?_ ?_ _ | refine Ext.setRow ?_ ?_ _ | exact HX.out | refine Ext.trans ?_ HX.out | omega | (simp; done) | (simp; omega)))⟩
  rcases b7 : betw md 100 400 with _ | _
  · have HB : Hid (Spc.ok ⟨nm, gr, fa, sl, sa, mg, cr, mt, md, de, st, kn, sh⟩ = false) := Lib.hid (by unfold Spc.ok; simp [b0, b1, b2, b4, b3, b5, b6, b7])
    go_enter Tryz.func52, Tryz.ntmps52
    go_wp2_with (go_at_call 86; refine (from34_any _ _ _ _).mono ?_; rintro e w' ⟨rfl, rfl⟩)
    go_ret
    exact ⟨ret_bool HB.out.symm, by exact ExtOf.of (by with_reducible repeat' (first | exact Ext.refl _ | exact ExtOf.ext _ | refine Ext.trans ?_ (ExtOf.ext _) | refine Ext.alloc ?_ _ | refine Ext.drew ?_ | refine Ext.setCell ?_ ?_ _ | refine Ext.setRow ?_ ?_ _ | exact HX.out | refine Ext.trans ?_ HX.out | omega | (simp; done) | (simp; omega)))⟩
  rcases b8 : betw de 200 1500 with _ | _
  · have HB : Hid (Spc.ok ⟨nm, gr, fa, sl, sa, mg, cr, mt, md, de, st, kn, sh⟩ = false) := Lib.hid (by unfold Spc.ok; simp [b0, b1, b2, b4, b3, b5, b6, b7, b8])
    go_enter Tryz.func52, Tryz.ntmps52
    go_wp2_with (go_at_call 86; refine (from34_any _ _ _ _).mono ?_; rintro e w' ⟨rfl, rfl⟩)
    go_ret
    exact ⟨ret_bool HB.out.symm, by exact ExtOf.of (by with_reducible repeat' (first | exact Ext.refl _ | exact ExtOf.ext _ | refine Ext.trans ?_ (ExtOf.ext _) | refine Ext.alloc ?_ _ | refine Ext.drew ?_ | refine Ext.setCell ?_ ?_ _ | refine Ext.setRow ?_ ?_ _ | exact HX.out | refine Ext.trans ?_ HX.out | omega | (simp; done) | (simp; omega)))⟩
  rcases b9 : betw st 1000 30000 with _ | _
  · have HB : Hid (Spc.ok ⟨nm, gr, fa, sl, sa, mg, cr, mt, md, de, st, kn, sh⟩ = false) := Lib.hid (by unfold Spc.ok; simp [b0, b1, b2, b4, b3, b5, b6, b7, b8, b9])
    go_enter Tryz.func52, Tryz.ntmps52
    go_wp2_with (go_at_call 86; refine (from34_any _ _ _ _).mono ?_; rintro e w' ⟨rfl, rfl⟩)
    go_ret
    exact ⟨ret_bool HB.out.symm, by exact ExtOf.of (by with_reducible repeat' (first | exact Ext.refl _ | exact ExtOf.ext _ | refine Ext.trans ?_ (ExtOf.ext _) | refine Ext.alloc ?_ _ | refine Ext.drew ?_ | refine Ext.setCell ?_ ?_ _ | refine Ext.setRow ?_ ?_ _ | exact HX.out | refine Ext.trans ?_ HX.out | omega | (simp; done) | (simp; omega)))⟩
  rcases b10 : betw kn 0 1000 with _ | _
  · have HB : Hid (Spc.ok ⟨nm, gr, fa, sl, sa, mg, cr, mt, md, de, st, kn, sh⟩ = false) := Lib.hid (by unfold Spc.ok; simp [b0, b1, b2, b4, b3, b5, b6, b7, b8, b9, b10])
    go_enter Tryz.func52, Tryz.ntmps52
    go_wp2_with (go_at_call 86; refine (from34_any _ _ _ _).mono ?_; rintro e w' ⟨rfl, rfl⟩)
    go_ret
    exact ⟨ret_bool HB.out.symm, by exact ExtOf.of (by with_reducible repeat' (first | exact Ext.refl _ | exact ExtOf.ext _ | refine Ext.trans ?_ (ExtOf.ext _) | refine Ext.alloc ?_ _ | refine Ext.drew ?_ | refine Ext.setCell ?_ ?_ _ | refine Ext.setRow ?_ ?_ _ | exact HX.out | refine Ext.trans ?_ HX.out | omega | (simp; done) | (simp; omega)))⟩
  rcases b11 : betw sh 0 200 with _ | _
  · have HB : Hid (Spc.ok ⟨nm, gr, fa, sl, sa, mg, cr, mt, md, de, st, kn, sh⟩ = false) := Lib.hid (by unfold Spc.ok; simp [b0, b1, b2, b4, b3, b5, b6, b7, b8, b9, b10, b11])
    go_enter Tryz.func52, Tryz.ntmps52
    go_wp2_with (go_at_call 86; refine (from34_any _ _ _ _).mono ?_; rintro e w' ⟨rfl, rfl⟩)
    go_ret
    exact ⟨ret_bool HB.out.symm, by exact ExtOf.of (by with_reducible repeat' (first | exact Ext.refl _ | exact ExtOf.ext _ | refine Ext.trans ?_ (ExtOf.ext _) | refine Ext.alloc ?_ _ | refine Ext.drew ?_ | refine Ext.setCell ?_ ?_ _ | refine Ext.setRow ?_ ?_ _ | exact HX.out | refine Ext.trans ?_ HX.out | omega | (simp; done) | (simp; omega)))⟩
  have HB : Hid (Spc.ok ⟨nm, gr, fa, sl, sa, mg, cr, mt, md, de, st, kn, sh⟩ = true) := Lib.hid (by unfold Spc.ok; simp [b0, b1, b2, b4, b3, b5, b6, b7, b8, b9, b10, b11])
  go_enter Tryz.func52, Tryz.ntmps52
  go_wp2_with (go_at_call 86; refine (from34_any _ _ _ _).mono ?_; rintro e w' ⟨rfl, rfl⟩)
  go_ret
  exact ⟨ret_bool HB.out.symm, by exact ExtOf.of (by with_reducible repeat' (first | exact Ext.refl _ | exact ExtOf.ext _ | refine Ext.trans ?_ (ExtOf.ext _) | refine Ext.alloc ?_ _ | refine Ext.drew ?_ | refine Ext.setCell ?_ ?_ _ | refine Ext.setRow ?_ ?_ _ | exact HX.out | refine Ext.trans ?_ HX.out | omega | (simp; done) | (simp; omega)))⟩
end Go.Proofs.YteokijolhbohaaaGreatDoor
end
