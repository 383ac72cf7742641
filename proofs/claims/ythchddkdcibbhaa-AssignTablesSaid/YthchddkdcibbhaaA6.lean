/-
  The search by recursion finds one more board.
-/
import Derived.Test.YthchddkdcibbhaaA5
namespace AssignM
/-- the search has found a board for order o; boards that were seen before stay where they are -/
structure OneS (F : List (List Bool)) (R C lo o : Nat) (a : Mat) (s : Nat → Bool) (t : Mat) : Prop where
  ok : Ok F R C t
  cnts : ∀ x, cnt C t lo x = bump (cnt C a lo) o x
  low : ∀ m, m < lo → t m = a m
  keep : ∀ m, s m = true → t m = a m
theorem OneS.free {F : List (List Bool)} {R C lo o k : Nat} {a : Mat} {s : Nat → Bool} (ha : Ok F R C a) (hk : lo ≤ k) (hkC : k < C) (ho : o < R) (hf : fit F o k = true) (hak : a k = none) (hs : s k = false) : OneS F R C lo o a s (upd a k (some o)) := by
  refine ⟨ha.upd (fun j hj => by obtain rfl : o = j := (by simpa using hj); exact ⟨hkC, ho, hf⟩), fun x => ?_, fun m hm => upd_other (by omega), fun m hm => upd_other (fun e => by subst e; rw [hs] at hm; cases hm)⟩
  unfold bump
  by_cases e : x = o
  · subst e; rw [if_pos rfl]; exact cnt_upd_new hkC hk (by rw [hak]; simp)
  · rw [if_neg e]; exact cnt_upd_other (by rw [hak]; simp) (by simp; exact fun h => e h.symm)
theorem OneS.step {F : List (List Bool)} {R C lo o k j : Nat} {a t2 : Mat} {s s1 : Nat → Bool} (hk : lo ≤ k) (hkC : k < C) (ho : o < R) (hf : fit F o k = true) (hak : a k = some j) (hs : s k = false) (hss : ∀ m, s m = true → s1 m = true)
    (h : OneS F R C lo j a (setB s1 k) t2) : OneS F R C lo o a s (upd t2 k (some o)) := by
  have htk : t2 k = some j := by rw [h.keep k (by simp [setB])]; exact hak
  refine ⟨h.ok.upd (fun i hi => by obtain rfl : o = i := (by simpa using hi); exact ⟨hkC, ho, hf⟩), fun x => ?_, fun m hm => by rw [upd_other (by omega)]; exact h.low m hm, fun m hm => ?_⟩
  · have hx := h.cnts x
    by_cases ej : o = j
    · subst ej
      rw [← hx]
      refine cnt_congr fun m _ => ?_
      by_cases e : m = k
      · subst e; rw [upd_same, htk]
      · rw [upd_other e]
    · unfold bump at hx ⊢
      by_cases e : x = o
      · subst e
        rw [if_neg ej] at hx
        rw [if_pos rfl, cnt_upd_new hkC hk (by rw [htk]; simp; exact fun h => ej h.symm), hx]
      · rw [if_neg e]
        by_cases e2 : x = j
        · subst e2
          rw [if_pos rfl] at hx
          have := cnt_upd_gone (x := some o) hkC hk htk (by simp; exact fun h => e h.symm)
          omega
        · rw [if_neg e2] at hx
          rw [cnt_upd_other (by rw [htk]; simp; exact fun h => e2 h.symm) (by simp; exact fun h => e h.symm), hx]
  · have hmk : m ≠ k := fun e => by subst e; rw [hs] at hm; cases hm
    rw [upd_other hmk]
    exact h.keep m (by simp [setB, hss m hm])
def unseen (s : Nat → Bool) (C : Nat) : Nat := cntP (fun k => !s k) C
theorem unseen_le {s s1 : Nat → Bool} {C : Nat} (h : ∀ k, s k = true → s1 k = true) : unseen s1 C ≤ unseen s C := by
  refine cntP_le fun k _ hk => ?_
  cases hs : s k
  · rfl
  · rw [h k hs] at hk; cases hk
theorem unseen_set {s : Nat → Bool} {C k : Nat} (hk : k < C) (hs : s k = false) : unseen (setB s k) C + 1 = unseen s C :=
  (cntP_turn (p := fun m => !setB s k m) hk (fun m hm => by simp [setB, hm]) (by simp [setB]) (by simp [hs])).symm
end AssignM
