/-
  The walk of the statement SpanLens: it returns true.
-/
import Derived.Test.YtfbcaafkekcmbaaW11
namespace Go.Proofs.Ytfbcaafkekcmbaa
open Go.RowKit SpanM

attribute [local go_sem] ExtOf.cell ExtOf.frozen Block.cell Block.frozen ExtB.cell ExtB.frozen alloc_cell alloc_frozen equal_span eqGuard_span

theorem wf_le {a : Int} (h : (Lit.int .i64 a).wf = true) : -9223372036854775808 ≤ a ∧ a ≤ 9223372036854775807 := by
  simp [Lit.wf, IntKind.min, IntKind.max, IntKind.signed, IntKind.bits] at h
  omega
theorem In_of {a b : Int} (h1 : (Lit.int .i64 a).wf = true) (h2 : (Lit.int .i64 b).wf = true) : In (a, b) := by
  have := wf_le h1
  have := wf_le h2
  unfold In
  simp only
  omega

set_option maxRecDepth 20000 in
set_option maxHeartbeats 3200000 in
theorem lens_walk (s t : Sp) (w : World) (hs : In s) : Calls Try.prog 3 #[.agg #[.int .i64 s.1, .int .i64 s.2], .agg #[.int .i64 t.1, .int .i64 t.2]] w fun e w' => e = .returned (.bool true) ∧ ∃ n : ExtOf w, w' = n.val := by
  obtain ⟨a, b⟩ := s
  obtain ⟨c, d⟩ := t
  have HS := Lib.hid hs
  clear hs
  go_enter Try.func3, Try.ntmps3
  go_wp2
  refine wp_region_ext (by kernel_rfl) (by kernel_rfl) ?_
  repeat (first | go_big_quiet_skip | go_big_quiet_step ((first | (go_at_call 11; exact ext_call (len_any (a, b) _ HS.out)) | (go_at_call 12; exact ext_call (rlen_any (a, b) _ HS.out)) | (go_at_call 13; exact ext_call (meet_any (a, b) (c, d) _)) | (go_at_call 14; exact ext_call (rmeet_any (a, b) (c, d) _)) | (go_at_call 15; exact ext_call (awake_any _)))))
  refine wpQuiet_nil ?_
  intro _ hw'
  obtain ⟨nq, hw''⟩ := hw'
  subst hw''
  go_wp2
  go_ret
  refine ⟨rfl, ?_⟩
  exact ExtOf.of (by repeat' (first | (with_reducible exact Ext.refl _) | (with_reducible exact ExtOf.ext _) | (with_reducible refine Ext.trans ?_ (ExtOf.ext _)) | (with_reducible refine Ext.alloc ?_ _) | (with_reducible refine Ext.drew ?_) | (with_reducible refine Ext.setCell ?_ ?_ _) | (with_reducible refine Ext.setRow ?_ ?_ _) | (with_reducible exact HX.out) | (with_reducible refine Ext.trans ?_ HX.out) | (with_reducible refine Ext.below ?_ (Nat.le_refl _) _) | (simp; done) | (simp; omega)))

end Go.Proofs.Ytfbcaafkekcmbaa
