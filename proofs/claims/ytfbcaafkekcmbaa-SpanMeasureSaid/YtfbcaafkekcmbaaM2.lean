/-
  The examples of the chapter, reckoned.
-/
import Derived.Test.YtfbcaafkekcmbaaM1
namespace SpanM
theorem lit_canon {l m : List Sp} (hc : Can m) (h : ∀ n, Mem n m ↔ Mem n l) : canon l = m := (canon_eq hc h).symm
theorem x_canon : canon [(5, 8), (1, 3), (7, 7), (3, 4), (6, 9)] = [(1, 4), (5, 9)] := lit_canon (by simp [Can]) (fun n => by simp [Mem, mem]; omega)
theorem x_is : isGo none [(5, 8), (1, 3), (7, 7), (3, 4), (6, 9)] = false := by decide
theorem x_minus : minus [(0, 10)] [(3, 5)] = [(0, 3), (5, 10)] := can_unique (minus_ok _ _).1 (by simp [Can]) (fun n => by rw [(minus_ok _ _).2]; simp [Mem, mem]; omega)
theorem x_common : common [(0, 4), (6, 9)] [(2, 7)] = [(2, 4), (6, 7)] := can_unique (common_ok _ _).1 (by simp [Can]) (fun n => by rw [(common_ok _ _).2]; simp [Mem, mem]; omega)
theorem x_total : total [(0, 4), (2, 6)] = 6 := by
  have : canon [(0, 4), (2, 6)] = [(0, 6)] := lit_canon (by simp [Can]) (fun n => by simp [Mem, mem]; omega)
  unfold total
  rw [this]
  decide
theorem x_union : canon [(5, 8), (1, 3)] = [(1, 3), (5, 8)] := lit_canon (by simp [Can]) (fun n => by simp [Mem, mem]; omega)
theorem x_has8 : has [(5, 8), (1, 3), (7, 7), (3, 4), (6, 9)] 8 = true := by decide
theorem x_has4 : has [(5, 8), (1, 3), (7, 7), (3, 4), (6, 9)] 4 = false := by decide
theorem x_long : longest [(0, 2), (5, 8), (10, 13)] = (5, 8) := by
  unfold longest
  rw [canon_id (by simp [Can])]
  decide
theorem x_long2 : longest [(7, 7)] = (0, 0) := by
  have : canon [(7, 7)] = [] := lit_canon Can_nil (fun n => by simp [Mem, mem])
  unfold longest
  rw [this]
  rfl
theorem x_len : len (-2, 3) = 5 := by decide
theorem x_meet : meet (1, 5) (3, 9) = (3, 5) := by decide
end SpanM
