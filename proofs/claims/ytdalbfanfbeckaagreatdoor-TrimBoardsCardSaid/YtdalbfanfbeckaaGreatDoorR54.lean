/-
  Chapter 26: the comparison of boxes and of defects.
-/
import Derived.Test.YtdalbfanfbeckaaGreatDoorK49
set_option linter.unusedVariables false
set_option linter.unusedSimpArgs false
namespace Go.Proofs.YtdalbfanfbeckaaGreatDoor
open Go.RowKit TrimM

theorem bxPart0 (W : World) (a b c d e f : Int) : (Go.part 23 #[.int .i64 a, .int .i64 b, .int .i64 c, .int .i64 d, .int .i64 e, .int .i64 f] 0).run Tryz.prog W = .ok (.agg #[.int .i64 a, .int .i64 b]) W := by kernel_rfl
theorem bxPart2 (W : World) (a b c d e f : Int) : (Go.part 23 #[.int .i64 a, .int .i64 b, .int .i64 c, .int .i64 d, .int .i64 e, .int .i64 f] 2).run Tryz.prog W = .ok (.agg #[.int .i64 c, .int .i64 d]) W := by kernel_rfl
theorem bxPart4 (W : World) (a b c d e f : Int) : (Go.part 23 #[.int .i64 a, .int .i64 b, .int .i64 c, .int .i64 d, .int .i64 e, .int .i64 f] 4).run Tryz.prog W = .ok (.agg #[.int .i64 e, .int .i64 f]) W := by kernel_rfl
theorem bxStood : Tryz.prog.stoodInHeld 25 = false := by kernel_rfl
theorem bxGuardless : Tryz.prog.eqGuardType Tryz.prog.depth 25 = false := by kernel_rfl
theorem equalIn_box (D : Nat) (W : World) (a b c d e f : Int) : (Op.equalIn (D + 3) 25 (.agg #[.int .i64 a, .int .i64 b, .int .i64 c, .int .i64 d, .int .i64 e, .int .i64 f]) (.agg #[.int .i64 a, .int .i64 b, .int .i64 c, .int .i64 d, .int .i64 e, .int .i64 f])).run Tryz.prog W = .ok true W := by
  unfold Op.equalIn
  simp [run_underlying Tryz.underlying25, equalIn_span, bxPart0, bxPart2, bxPart4, bxStood]
theorem equal_box (W : World) (a b c d e f : Int) : (Op.equal 25 (.agg #[.int .i64 a, .int .i64 b, .int .i64 c, .int .i64 d, .int .i64 e, .int .i64 f]) (.agg #[.int .i64 a, .int .i64 b, .int .i64 c, .int .i64 d, .int .i64 e, .int .i64 f])).run Tryz.prog W = .ok true W := equalIn_box 9997 W a b c d e f
theorem equalX_box (W : World) (a b c d e f : Int) : (Op.equalIn 10000 25 (.agg #[.int .i64 a, .int .i64 b, .int .i64 c, .int .i64 d, .int .i64 e, .int .i64 f]) (.agg #[.int .i64 a, .int .i64 b, .int .i64 c, .int .i64 d, .int .i64 e, .int .i64 f])).run Tryz.prog W = .ok true W := equalIn_box 9997 W a b c d e f
theorem eqGuard_box (op : BinOp) (x y : Operand) (a b : Array Value) (W : World) : (eqGuard op 25 x y (.agg a) (.agg b)).run Tryz.prog W = .ok () W := by
  unfold eqGuard
  cases op <;> simp [program, Sem.run, bxGuardless, Sem.run_bind]
theorem dfPart0 (W : World) (k a b c d e f : Int) : (Go.part 3 #[.int .i64 k, .int .i64 a, .int .i64 b, .int .i64 c, .int .i64 d, .int .i64 e, .int .i64 f] 0).run Tryz.prog W = .ok (.int .i64 k) W := by kernel_rfl
theorem dfPart1 (W : World) (k a b c d e f : Int) : (Go.part 25 #[.int .i64 k, .int .i64 a, .int .i64 b, .int .i64 c, .int .i64 d, .int .i64 e, .int .i64 f] 1).run Tryz.prog W = .ok (.agg #[.int .i64 a, .int .i64 b, .int .i64 c, .int .i64 d, .int .i64 e, .int .i64 f]) W := by kernel_rfl
theorem dfStood : Tryz.prog.stoodInHeld 53 = false := by kernel_rfl
theorem dfGuardless : Tryz.prog.eqGuardType Tryz.prog.depth 53 = false := by kernel_rfl
theorem equalIn_df (D : Nat) (W : World) (k a b c d e f : Int) : (Op.equalIn (D + 4) 53 (.agg #[.int .i64 k, .int .i64 a, .int .i64 b, .int .i64 c, .int .i64 d, .int .i64 e, .int .i64 f]) (.agg #[.int .i64 k, .int .i64 a, .int .i64 b, .int .i64 c, .int .i64 d, .int .i64 e, .int .i64 f])).run Tryz.prog W = .ok true W := by
  unfold Op.equalIn
  simp [run_underlying Tryz.underlying53, equalIn_box, spIn_int, dfPart0, dfPart1, dfStood]
theorem equal_df (W : World) (k a b c d e f : Int) : (Op.equal 53 (.agg #[.int .i64 k, .int .i64 a, .int .i64 b, .int .i64 c, .int .i64 d, .int .i64 e, .int .i64 f]) (.agg #[.int .i64 k, .int .i64 a, .int .i64 b, .int .i64 c, .int .i64 d, .int .i64 e, .int .i64 f])).run Tryz.prog W = .ok true W := equalIn_df 9996 W k a b c d e f
theorem equalX_df (W : World) (k a b c d e f : Int) : (Op.equalIn 10000 53 (.agg #[.int .i64 k, .int .i64 a, .int .i64 b, .int .i64 c, .int .i64 d, .int .i64 e, .int .i64 f]) (.agg #[.int .i64 k, .int .i64 a, .int .i64 b, .int .i64 c, .int .i64 d, .int .i64 e, .int .i64 f])).run Tryz.prog W = .ok true W := equalIn_df 9996 W k a b c d e f
theorem eqGuard_df (op : BinOp) (x y : Operand) (a b : Array Value) (W : World) : (eqGuard op 53 x y (.agg a) (.agg b)).run Tryz.prog W = .ok () W := by
  unfold eqGuard
  cases op <;> simp [program, Sem.run, dfGuardless, Sem.run_bind]
theorem clPart0 (W : World) (a b c : Int) : (Go.part 3 #[.int .i64 a, .int .i64 b, .int .i64 c] 0).run Tryz.prog W = .ok (.int .i64 a) W := by kernel_rfl
theorem clPart1 (W : World) (a b c : Int) : (Go.part 3 #[.int .i64 a, .int .i64 b, .int .i64 c] 1).run Tryz.prog W = .ok (.int .i64 b) W := by kernel_rfl
theorem clPart2 (W : World) (a b c : Int) : (Go.part 3 #[.int .i64 a, .int .i64 b, .int .i64 c] 2).run Tryz.prog W = .ok (.int .i64 c) W := by kernel_rfl
theorem clStood : Tryz.prog.stoodInHeld 28 = false := by kernel_rfl
theorem clGuardless : Tryz.prog.eqGuardType Tryz.prog.depth 28 = false := by kernel_rfl
theorem equalIn_cell (D : Nat) (W : World) (a b c : Int) : (Op.equalIn (D + 2) 28 (.agg #[.int .i64 a, .int .i64 b, .int .i64 c]) (.agg #[.int .i64 a, .int .i64 b, .int .i64 c])).run Tryz.prog W = .ok true W := by
  unfold Op.equalIn
  simp [run_underlying Tryz.underlying28, spIn_int, clPart0, clPart1, clPart2, clStood]
theorem equal_cell (W : World) (a b c : Int) : (Op.equal 28 (.agg #[.int .i64 a, .int .i64 b, .int .i64 c]) (.agg #[.int .i64 a, .int .i64 b, .int .i64 c])).run Tryz.prog W = .ok true W := equalIn_cell 9998 W a b c
theorem equalX_cell (W : World) (a b c : Int) : (Op.equalIn 10000 28 (.agg #[.int .i64 a, .int .i64 b, .int .i64 c]) (.agg #[.int .i64 a, .int .i64 b, .int .i64 c])).run Tryz.prog W = .ok true W := equalIn_cell 9998 W a b c
theorem eqGuard_cell (op : BinOp) (x y : Operand) (a b : Array Value) (W : World) : (eqGuard op 28 x y (.agg a) (.agg b)).run Tryz.prog W = .ok () W := by
  unfold eqGuard
  cases op <;> simp [program, Sem.run, clGuardless, Sem.run_bind]
theorem midCell : Mid Tryz.prog 28 3 := mid_of Tryz.underlying28 rfl (by kernel_rfl)
end Go.Proofs.YtdalbfanfbeckaaGreatDoor
