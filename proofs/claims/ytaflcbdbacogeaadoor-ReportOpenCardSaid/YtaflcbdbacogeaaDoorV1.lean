/-
  Lists that are equal: ints, same.
-/
import Derived.Test.YtaflcbdbacogeaaDoorU3
set_option linter.unusedVariables false
set_option linter.unusedSimpArgs false
namespace Go.Proofs.YtaflcbdbacogeaaDoor
open Go.RowKit ReportM

attribute [local go_sem] ExtOf.cell ExtOf.frozen ExtS.cell ExtS.frozen Block.cell Block.frozen ExtB.cell ExtB.frozen alloc_cell alloc_frozen
set_option maxHeartbeats 800000 in
theorem ints_eq (L : List Nat) (u v : Value) (w : World) (hu : SliceOf encN 1 w u L) (hv : SliceOf encN 1 w v L) (hl : L.length ≤ 1000) : Calls Tryd.prog 18 #[u, v] w fun e w' => e = .returned (.bool true) ∧ ∃ n : ExtOf w, w' = n.val := by
  obtain ⟨pu, cu, rfl, _, _, _⟩ := SliceOf.form hu
  obtain ⟨pv, cv, rfl, _, _, _⟩ := SliceOf.form hv
  have HU := Lib.hid hu
  have HV := Lib.hid hv
  clear hu hv
  go_enter Tryd.func18, Tryd.ntmps18
  go_wp2_with fail
  go_loopw [5] (fun i wr => ∃ k : Nat, k ≤ L.length ∧ i = .int .i64 k ∧ Ext w wr) (fun i _ => L.length - (intOf i).toNat)
  case atStart => exact ⟨0, by omega, rfl, Ext.refl _⟩
  case round =>
    obtain ⟨k, hk, rfl, hx⟩ := hrel
    have HX := Lib.hid hx
    clear hx
    by_cases hlt : k < L.length
    · obtain ⟨bu, ou, rfl, ru⟩ := SliceOf.elemK HU.out hlt
      obtain ⟨bv, ov, rfl, rv⟩ := SliceOf.elemK HV.out hlt
      have cu0 : wr.cell? ⟨bu, ou + k, none⟩ = some (.int .i64 ((L[k] : Nat) : Int)) := by have := HX.out.cell (ru 0 _ rfl); simpa using this
      have cv0 : wr.cell? ⟨bv, ov + k, none⟩ = some (.int .i64 ((L[k] : Nat) : Int)) := by have := HX.out.cell (rv 0 _ rfl); simpa using this
      have o1 : Old bu wr := Old.of_cell cu0
      have o2 : Old bv wr := Old.of_cell cv0
      generalize ((L[k] : Nat) : Int) = z at *
      clear ru rv
      go_wp2_with fail
      refine wp_region_ext (by kernel_rfl) (by kernel_rfl) ?_
      repeat (first | go_big_quiet_skip | go_big_quiet_step (fail))
      refine wpQuiet_nil ?_
      intro _ hw'
      obtain ⟨nq, hw''⟩ := hw'
      subst hw''
      go_wp2_with fail
      go_roundw
      case rel => exact ⟨k + 1, by omega, by first | rfl | go_num, HX.out.trans nq.ext⟩
      case measure => simp [intOf]; omega
    · go_wp2_with fail
      go_ret
      exact ⟨rfl, ExtOf.of HX.out⟩
theorem eq_int (d : Nat) (W : World) (A : Int) : (Op.equalIn (d + 1) 3 (.int .i64 A) (.int .i64 A)).run Tryd.prog W = .ok true W := by
  simp [Op.equalIn, run_underlying Tryd.underlying3]
theorem p50 (W : World) (a b c d e : Int) : (Go.part 3 #[.int .i64 a, .int .i64 b, .int .i64 c, .int .i64 d, .int .i64 e] 0).run Tryd.prog W = .ok (.int .i64 a) W := by kernel_rfl
theorem p51 (W : World) (a b c d e : Int) : (Go.part 3 #[.int .i64 a, .int .i64 b, .int .i64 c, .int .i64 d, .int .i64 e] 1).run Tryd.prog W = .ok (.int .i64 b) W := by kernel_rfl
theorem p52 (W : World) (a b c d e : Int) : (Go.part 3 #[.int .i64 a, .int .i64 b, .int .i64 c, .int .i64 d, .int .i64 e] 2).run Tryd.prog W = .ok (.int .i64 c) W := by kernel_rfl
theorem p53 (W : World) (a b c d e : Int) : (Go.part 3 #[.int .i64 a, .int .i64 b, .int .i64 c, .int .i64 d, .int .i64 e] 3).run Tryd.prog W = .ok (.int .i64 d) W := by kernel_rfl
theorem p54 (W : World) (a b c d e : Int) : (Go.part 3 #[.int .i64 a, .int .i64 b, .int .i64 c, .int .i64 d, .int .i64 e] 4).run Tryd.prog W = .ok (.int .i64 e) W := by kernel_rfl
theorem stoodRw : Tryd.prog.stoodInHeld 77 = false := by kernel_rfl
theorem guardlessRw : Tryd.prog.eqGuardType Tryd.prog.depth 77 = false := by kernel_rfl
theorem eqRw (W : World) (a b c d e : Int) : (Op.equal 77 (.agg #[.int .i64 a, .int .i64 b, .int .i64 c, .int .i64 d, .int .i64 e]) (.agg #[.int .i64 a, .int .i64 b, .int .i64 c, .int .i64 d, .int .i64 e])).run Tryd.prog W = .ok true W := by
  show (Op.equalIn (9998 + 2) 77 _ _).run Tryd.prog W = _
  unfold Op.equalIn
  simp [run_underlying Tryd.underlying77, eq_int, p50, p51, p52, p53, p54, stoodRw]
theorem eqgRw (op : BinOp) (x y : Operand) (a b : Array Value) (W : World) : (eqGuard op 77 x y (.agg a) (.agg b)).run Tryd.prog W = .ok () W := by
  unfold eqGuard
  cases op <;> simp [program, Sem.run, guardlessRw, Sem.run_bind]
theorem stoodYd : Tryd.prog.stoodInHeld 65 = false := by kernel_rfl
theorem guardlessYd : Tryd.prog.eqGuardType Tryd.prog.depth 65 = false := by kernel_rfl
theorem eqYd (W : World) (a b c d e : Int) : (Op.equal 65 (.agg #[.int .i64 a, .int .i64 b, .int .i64 c, .int .i64 d, .int .i64 e]) (.agg #[.int .i64 a, .int .i64 b, .int .i64 c, .int .i64 d, .int .i64 e])).run Tryd.prog W = .ok true W := by
  show (Op.equalIn (9998 + 2) 65 _ _).run Tryd.prog W = _
  unfold Op.equalIn
  simp [run_underlying Tryd.underlying65, eq_int, p50, p51, p52, p53, p54, stoodYd]
theorem eqgYd (op : BinOp) (x y : Operand) (a b : Array Value) (W : World) : (eqGuard op 65 x y (.agg a) (.agg b)).run Tryd.prog W = .ok () W := by
  unfold eqGuard
  cases op <;> simp [program, Sem.run, guardlessYd, Sem.run_bind]
attribute [local go_sem] eqRw eqYd eqgRw eqgYd
set_option maxHeartbeats 1600000 in
theorem same_eq (ts : List Tal) (u v : Value) (w : World) (hu : SliceOf encT 5 w u ts) (hv : SliceOf encT 5 w v ts) (hl : ts.length ≤ 1000) : Calls Tryd.prog 11 #[u, v] w fun e w' => e = .returned (.bool true) ∧ ∃ n : ExtOf w, w' = n.val := by
  obtain ⟨pu, cu, rfl, _, _, _⟩ := SliceOf.form hu
  obtain ⟨pv, cv, rfl, _, _, _⟩ := SliceOf.form hv
  have HU := Lib.hid hu
  have HV := Lib.hid hv
  clear hu hv
  go_enter Tryd.func11, Tryd.ntmps11
  go_wp2_with fail
  go_loopw [5] (fun i wr => ∃ k : Nat, k ≤ ts.length ∧ i = .int .i64 k ∧ Ext w wr) (fun i _ => ts.length - (intOf i).toNat)
  case atStart => exact ⟨0, by omega, rfl, Ext.refl _⟩
  case round =>
    obtain ⟨k, hk, rfl, hx⟩ := hrel
    have HX := Lib.hid hx
    clear hx
    by_cases hlt : k < ts.length
    · obtain ⟨bu, ou, rfl, ru0⟩ := SliceOf.elemK HU.out hlt
      obtain ⟨bv, ov, rfl, rv0⟩ := SliceOf.elemK HV.out hlt
      generalize ts[k] = t at *
      obtain ⟨⟨t1, t2, t3⟩, t4, t5⟩ := t
      have ru : World.rangeAt wr bu (ou + k * 5) [.int .i64 t1, .int .i64 t2, .int .i64 t3, .int .i64 t4, .int .i64 t5] := HX.out.range ru0
      have rv : World.rangeAt wr bv (ov + k * 5) [.int .i64 t1, .int .i64 t2, .int .i64 t3, .int .i64 t4, .int .i64 t5] := HX.out.range rv0
      have c0 : wr.cell? ⟨bv, ov + k * 5, none⟩ = some (.int .i64 t1) := rv 0 _ rfl
      have c1 : wr.cell? ⟨bv, ov + k * 5 + 1, none⟩ = some (.int .i64 t2) := rv 1 _ rfl
      have c2 : wr.cell? ⟨bv, ov + k * 5 + 2, none⟩ = some (.int .i64 t3) := rv 2 _ rfl
      have c3 : wr.cell? ⟨bv, ov + k * 5 + 3, none⟩ = some (.int .i64 t4) := rv 3 _ rfl
      have c4 : wr.cell? ⟨bv, ov + k * 5 + 4, none⟩ = some (.int .i64 t5) := rv 4 _ rfl
      have o2 : Old bv wr := Old.of_cell c0
      clear ru0 rv0 rv
      go_wp2_with fail
      refine wp_region_ext (by kernel_rfl) (by kernel_rfl) ?_
      repeat (first | go_big_quiet_skip | ((with_reducible apply q_loadM midRow ru); (· rfl); (· (first | exact wanted_none rfl | exact wanted_some rfl rfl rfl)); (· rfl); simp only [Act.put, List.setIfInBounds_toArray, List.set_cons_succ, List.set_cons_zero]) | go_big_quiet_step (fail))
      refine wpQuiet_nil ?_
      intro _ hw'
      obtain ⟨nq, hw''⟩ := hw'
      subst hw''
      go_wp2_with fail
      go_roundw
      case rel => exact ⟨k + 1, by omega, by first | rfl | go_num, HX.out.trans nq.ext⟩
      case measure => simp [intOf]; omega
    · go_wp2_with fail
      go_ret
      exact ⟨rfl, ExtOf.of HX.out⟩
end Go.Proofs.YtaflcbdbacogeaaDoor
