/-
  The contracts of board.isBox and board.Volume.
-/
import Derived.Test.YtmlgclkclnhmhaaM2
namespace Go.Proofs.Ytmlgclkclnhmhaa
open Go.RowKit

attribute [local go_sem] ExtOf.cell ExtOf.frozen Block.cell Block.frozen

def bxB (xa xb ya yb za zb : Int) : Bool := acr xa xb && acr ya yb && alg za zb

set_option maxRecDepth 20000 in
set_option maxHeartbeats 1600000 in
theorem isbox_yes (xa xb ya yb za zb : Int) (w : World) (hx : acr xa xb = true) (hy : acr ya yb = true) :
    Calls Try.prog 34 #[.agg #[.int .i64 xa, .int .i64 xb, .int .i64 ya, .int .i64 yb, .int .i64 za, .int .i64 zb]] w fun e w' => e = .returned (.bool (alg za zb)) ∧ ∃ n : ExtOf w, w' = n.val := by
  obtain ⟨x1, x2, x3⟩ := acr_true hx
  obtain ⟨y1, y2, y3⟩ := acr_true hy
  have i0 : ∀ W : World, (Instr.index 66 (.agg #[.int .i64 xa, .int .i64 xb, .int .i64 ya, .int .i64 yb]) (.int .i64 0)).run Try.prog W = .ok (.agg #[.int .i64 xa, .int .i64 xb]) W := fun _ => by kernel_rfl
  have i1 : ∀ W : World, (Instr.index 66 (.agg #[.int .i64 xa, .int .i64 xb, .int .i64 ya, .int .i64 yb]) (.int .i64 1)).run Try.prog W = .ok (.agg #[.int .i64 ya, .int .i64 yb]) W := fun _ => by kernel_rfl
  clear hx hy
  go_enter Try.func34, Try.ntmps34
  go_wp2_with fail
  refine wp_loop_rounds 3 ?_
  rw [rounds_succ]
  go_wp2_with ((go_at_call 40; refine (isalong_any _ _ _).mono ?_; rintro e w' ⟨rfl, n, rfl⟩))
  rw [rounds_succ]
  go_wp2_with ((go_at_call 40; refine (isalong_any _ _ _).mono ?_; rintro e w' ⟨rfl, n, rfl⟩))
  rw [rounds_succ]
  go_wp2_with ((go_at_call 40; refine (isalong_any _ _ _).mono ?_; rintro e w' ⟨rfl, n, rfl⟩))
  go_ret
  refine ⟨rfl, ?_⟩
  exact ExtOf.of (by repeat' (first | (with_reducible exact Ext.refl _) | (with_reducible exact ExtOf.ext _) | (with_reducible refine Ext.trans ?_ (ExtOf.ext _)) | (with_reducible refine Ext.alloc ?_ _) | (with_reducible refine Ext.drew ?_) | (with_reducible refine Ext.setCell ?_ ?_ _) | (with_reducible refine Ext.setRow ?_ ?_ _) | (simp; done) | (simp; omega)))

theorem acr_false {a b : Int} (h : acr a b = false) : a < -600 ∨ (-600 ≤ a ∧ 600 < b) ∨ (-600 ≤ a ∧ b ≤ 600 ∧ b ≤ a) := by
  have : ¬ (-600 ≤ a ∧ a < b ∧ b ≤ 600) := by simpa [acr] using h
  omega

set_option maxRecDepth 20000 in
set_option maxHeartbeats 1600000 in
theorem isbox_nox (xa xb ya yb za zb : Int) (w : World) (hx : acr xa xb = false) :
    Calls Try.prog 34 #[.agg #[.int .i64 xa, .int .i64 xb, .int .i64 ya, .int .i64 yb, .int .i64 za, .int .i64 zb]] w fun e w' => e = .returned (.bool false) ∧ ∃ n : ExtOf w, w' = n.val := by
  have i0 : ∀ W : World, (Instr.index 66 (.agg #[.int .i64 xa, .int .i64 xb, .int .i64 ya, .int .i64 yb]) (.int .i64 0)).run Try.prog W = .ok (.agg #[.int .i64 xa, .int .i64 xb]) W := fun _ => by kernel_rfl
  have i1 : ∀ W : World, (Instr.index 66 (.agg #[.int .i64 xa, .int .i64 xb, .int .i64 ya, .int .i64 yb]) (.int .i64 1)).run Try.prog W = .ok (.agg #[.int .i64 ya, .int .i64 yb]) W := fun _ => by kernel_rfl
  rcases acr_false hx with h | ⟨h, h'⟩ | ⟨h, h', h2⟩
  all_goals
    clear hx
    go_enter Try.func34, Try.ntmps34
    go_wp2_with fail
    refine wp_loop_rounds 3 ?_
    rw [rounds_succ]
    go_wp2
    go_ret
    refine ⟨rfl, ?_⟩
    exact ExtOf.of (by repeat' (first | (with_reducible exact Ext.refl _) | (with_reducible exact ExtOf.ext _) | (with_reducible refine Ext.trans ?_ (ExtOf.ext _)) | (with_reducible refine Ext.alloc ?_ _) | (with_reducible refine Ext.drew ?_) | (with_reducible refine Ext.setCell ?_ ?_ _) | (with_reducible refine Ext.setRow ?_ ?_ _) | (simp; done) | (simp; omega)))

set_option maxRecDepth 20000 in
set_option maxHeartbeats 1600000 in
theorem isbox_noy (xa xb ya yb za zb : Int) (w : World) (hx : acr xa xb = true) (hy : acr ya yb = false) :
    Calls Try.prog 34 #[.agg #[.int .i64 xa, .int .i64 xb, .int .i64 ya, .int .i64 yb, .int .i64 za, .int .i64 zb]] w fun e w' => e = .returned (.bool false) ∧ ∃ n : ExtOf w, w' = n.val := by
  obtain ⟨x1, x2, x3⟩ := acr_true hx
  have i0 : ∀ W : World, (Instr.index 66 (.agg #[.int .i64 xa, .int .i64 xb, .int .i64 ya, .int .i64 yb]) (.int .i64 0)).run Try.prog W = .ok (.agg #[.int .i64 xa, .int .i64 xb]) W := fun _ => by kernel_rfl
  have i1 : ∀ W : World, (Instr.index 66 (.agg #[.int .i64 xa, .int .i64 xb, .int .i64 ya, .int .i64 yb]) (.int .i64 1)).run Try.prog W = .ok (.agg #[.int .i64 ya, .int .i64 yb]) W := fun _ => by kernel_rfl
  rcases acr_false hy with h | ⟨h, h'⟩ | ⟨h, h', h2⟩
  all_goals
    clear hx hy
    go_enter Try.func34, Try.ntmps34
    go_wp2_with fail
    refine wp_loop_rounds 3 ?_
    rw [rounds_succ]
    go_wp2
    rw [rounds_succ]
    go_wp2
    go_ret
    refine ⟨rfl, ?_⟩
    exact ExtOf.of (by repeat' (first | (with_reducible exact Ext.refl _) | (with_reducible exact ExtOf.ext _) | (with_reducible refine Ext.trans ?_ (ExtOf.ext _)) | (with_reducible refine Ext.alloc ?_ _) | (with_reducible refine Ext.drew ?_) | (with_reducible refine Ext.setCell ?_ ?_ _) | (with_reducible refine Ext.setRow ?_ ?_ _) | (simp; done) | (simp; omega)))

theorem isbox_any (xa xb ya yb za zb : Int) (w : World) :
    Calls Try.prog 34 #[.agg #[.int .i64 xa, .int .i64 xb, .int .i64 ya, .int .i64 yb, .int .i64 za, .int .i64 zb]] w fun e w' => e = .returned (.bool (bxB xa xb ya yb za zb)) ∧ ∃ n : ExtOf w, w' = n.val := by
  unfold bxB
  rcases hx : acr xa xb with _ | _
  · exact isbox_nox xa xb ya yb za zb w hx
  · rcases hy : acr ya yb with _ | _
    · exact isbox_noy xa xb ya yb za zb w hx hy
    · exact isbox_yes xa xb ya yb za zb w hx hy

end Go.Proofs.Ytmlgclkclnhmhaa
