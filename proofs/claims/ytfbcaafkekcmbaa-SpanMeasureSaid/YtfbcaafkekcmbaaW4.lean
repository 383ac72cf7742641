/-
  The contracts of cmp.Compare, cmp.Or and of the comparison that Canon sorts by.
-/
import Derived.Test.YtfbcaafkekcmbaaW1
import Derived.StillTailTactics
namespace Go.Proofs.Ytfbcaafkekcmbaa
open Go.RowKit SpanM

def cmpI (a b : Int) : Int := if a < b then -1 else if b < a then 1 else 0
def cmpS (s t : Sp) : Int := if cmpI s.1 t.1 ≠ 0 then cmpI s.1 t.1 else cmpI s.2 t.2

theorem isnan_any (a : Int) (w : World) : Calls Try.prog 45 #[.int .i64 a] w fun e w' => e = .returned (.bool false) ∧ w = w' := by
  go_enter Try.func45, Try.ntmps45
  go_wp2
  go_ret
  exact ⟨rfl, rfl⟩

set_option maxHeartbeats 400000 in
theorem cmp_any (a b : Int) (w : World) : Calls Try.prog 40 #[.int .i64 a, .int .i64 b] w fun e w' => e = .returned (.int .i64 (cmpI a b)) ∧ w = w' := by
  unfold cmpI
  by_cases h1 : a < b
  · rw [if_pos h1]
    go_enter Try.func40, Try.ntmps40
    go_wp2_with (go_at_call 45; refine (isnan_any _ _).mono ?_; rintro e w' ⟨rfl, rfl⟩)
    go_ret
    exact ⟨rfl, rfl⟩
  · rw [if_neg h1]
    have h1' : decide (a < b) = false := by simpa using h1
    by_cases h2 : b < a
    · rw [if_pos h2]
      go_enter Try.func40, Try.ntmps40
      go_wp2_with (go_at_call 45; refine (isnan_any _ _).mono ?_; rintro e w' ⟨rfl, rfl⟩)
      go_ret
      exact ⟨rfl, rfl⟩
    · rw [if_neg h2]
      have h2' : decide (b < a) = false := by simpa using h2
      go_enter Try.func40, Try.ntmps40
      go_wp2_with (go_at_call 45; refine (isnan_any _ _).mono ?_; rintro e w' ⟨rfl, rfl⟩)
      go_ret
      exact ⟨rfl, rfl⟩

set_option maxHeartbeats 400000 in
theorem or_any (x y : Int) (b : Nat) (w : World) (hb : Block w b #[.int .i64 x, .int .i64 y]) : Calls Try.prog 39 #[.slice (some ⟨b, 0, none⟩) 2 2] w fun e w' => e = .returned (.int .i64 (if x ≠ 0 then x else y)) ∧ w = w' := by
  have c0 : w.cell? ⟨b, 0, none⟩ = some (.int .i64 x) := by rw [Block.cell]; rfl
  have c1 : w.cell? ⟨b, 1, none⟩ = some (.int .i64 y) := by rw [Block.cell]; rfl
  clear hb
  rcases h1 : (x != 0) with _ | _
  · obtain rfl : x = 0 := by simpa using h1
    rcases h2 : (y != 0) with _ | _
    · obtain rfl : y = 0 := by simpa using h2
      go_enter Try.func39, Try.ntmps39
      go_wp2
      refine wp_loop_rounds 3 ?_
      rw [rounds_succ]
      go_wp2
      rw [rounds_succ]
      go_wp2
      rw [rounds_succ]
      go_wp2
      go_ret
      exact ⟨rfl, rfl⟩
    · go_enter Try.func39, Try.ntmps39
      go_wp2
      refine wp_loop_rounds 3 ?_
      rw [rounds_succ]
      go_wp2
      rw [rounds_succ]
      go_wp2
      go_ret
      exact ⟨rfl, rfl⟩
  · have e : x ≠ 0 := by simpa using h1
    rw [if_pos e]
    clear e
    go_enter Try.func39, Try.ntmps39
    go_wp2
    refine wp_loop_rounds 3 ?_
    rw [rounds_succ]
    go_wp2
    go_ret
    exact ⟨rfl, rfl⟩

theorem cmp_any' (a b : Int) (w : World) : Calls Try.prog 40 #[.int .i64 a, .int .i64 b] w fun e w' => e = .returned (.int .i64 (cmpI a b)) ∧ w' = w := (cmp_any a b w).mono fun _ _ h => ⟨h.1, h.2.symm⟩

set_option maxHeartbeats 1000000 in
theorem cmpS_any (s t : Sp) (w : World) : Calls Try.prog 38 #[.agg #[.int .i64 s.1, .int .i64 s.2], .agg #[.int .i64 t.1, .int .i64 t.2]] w fun e w' => e = .returned (.int .i64 (cmpS s t)) ∧ ∃ o1 o2 o3 : Obj, w' = (((w.alloc o1).alloc o2).alloc o3).drew := by
  obtain ⟨a, b⟩ := s
  obtain ⟨c, d⟩ := t
  go_enter Try.func38, Try.ntmps38
  go_wp2_with fail
  refine wp_region_still_tail 10 (by kernel_rfl) (by kernel_rfl) ?_
  simp only [List.take_succ_cons, List.take_zero, List.drop_succ_cons, List.drop_zero]
  change wpStill _ _ (World.drew _) _ _ _
  repeat (first | still_step | still_call (cmp_any' _ _ _))
  refine wpStill_nil ?_
  change wpList _ _ _ _ _ (World.drew _)
  go_wp2_with (go_at_call 39; refine (or_any _ _ _ _ inferInstance).mono ?_; rintro e w' ⟨rfl, rfl⟩)
  all_goals
    go_ret
    exact ⟨ret_int (by simp [cmpS, *]), _, _, _, rfl⟩
theorem ltS_cmp (s t : Sp) : decide (cmpS s t < 0) = ltS s t := by
  unfold cmpS cmpI ltS
  rw [Bool.eq_iff_iff]
  simp only [decide_eq_true_eq]
  rcases Int.lt_trichotomy s.1 t.1 with h | h | h
  · rw [if_pos h]; simp [h]
  · rw [if_neg (show ¬ s.1 < t.1 by omega), if_neg (show ¬ t.1 < s.1 by omega)]
    simp only [ne_eq, not_true_eq_false, if_false]
    rcases Int.lt_trichotomy s.2 t.2 with k | k | k
    · rw [if_pos k]; omega
    · rw [if_neg (show ¬ s.2 < t.2 by omega), if_neg (show ¬ t.2 < s.2 by omega)]; omega
    · rw [if_neg (show ¬ s.2 < t.2 by omega), if_pos k]; omega
  · rw [if_neg (show ¬ s.1 < t.1 by omega), if_pos h]; simp; omega

end Go.Proofs.Ytfbcaafkekcmbaa
