/-
  The counts are the best ones; the earliest assignment is valid, has its counts, and comes before all others.
-/
import Derived.Test.YthchddkdcibbhaaA6
namespace AssignM
theorem feas_zero {F : List (List Bool)} {R C lo : Nat} : Feas F R C lo (fun _ => 0) := ⟨fun _ => none, ⟨fun k i h => by cases h⟩, fun i _ => cntP_zero fun k _ => by simp⟩
theorem fillOne_feas {F : List (List Bool)} {R C i : Nat} : ∀ {n : Nat} {c : Nat → Nat}, Feas F R C 0 c → Feas F R C 0 (fillOne F R C i n c)
  | 0, c, h => h
  | n + 1, c, h => by
    rw [fillOne]
    split
    · rename_i hf; exact fillOne_feas (feasB_iff.1 hf)
    · exact h
theorem fillTo_feas {F : List (List Bool)} {R C : Nat} {most : Nat → Nat} : ∀ i, Feas F R C 0 (fillTo F R C most i)
  | 0 => feas_zero
  | i + 1 => fillOne_feas (fillTo_feas i)
theorem fillAll_feas {F : List (List Bool)} {R C : Nat} {most : Nat → Nat} : Feas F R C 0 (fillAll F R C most) := fillTo_feas R
theorem fillOne_stop {F : List (List Bool)} {R C i : Nat} : ∀ {n : Nat} {c : Nat → Nat}, fillOne F R C i n c i = c i + n ∨ ¬ Feas F R C 0 (bump (fillOne F R C i n c) i)
  | 0, c => .inl rfl
  | n + 1, c => by
    rw [fillOne]
    split
    · rcases fillOne_stop (F := F) (R := R) (C := C) (i := i) (n := n) (c := bump c i) with h | h
      · left; rw [h]; simp [bump]; omega
      · exact .inr h
    · rename_i hf
      right
      rw [feasB_iff] at hf
      exact hf
/-- NO POSSIBLE COUNTS WITHIN THE LIMITS ARE BETTER -/
theorem fillAll_max {F : List (List Bool)} {R C : Nat} {most d : Nat → Nat} {i : Nat} (hi : i < R) (hd : Feas F R C 0 d) (hm : d i ≤ most i) (he : ∀ j, j < i → d j = fillAll F R C most j) : d i ≤ fillAll F R C most i := by
  rcases Nat.lt_or_ge (fillAll F R C most i) (d i) with h | h
  · exfalso
    have hst : ∀ j, j ≤ i → fillAll F R C most j = fillTo F R C most (i + 1) j := fun j hj => by
      unfold fillAll
      rw [fillTo_stable (show j < R by omega)]
      rcases Nat.lt_or_ge j i with hh | hh
      · rw [fillTo_stable (show j < i + 1 by omega)]
      · obtain rfl : j = i := by omega
        rfl
    rcases fillOne_stop (F := F) (R := R) (C := C) (i := i) (n := most i) (c := fillTo F R C most i) with h1 | h1
    · have h2 : fillAll F R C most i = most i := by
        rw [hst i (Nat.le_refl _), fillTo, h1, fillTo_above (Nat.le_refl i)]; omega
      omega
    · refine h1 (Feas.mono (Nat.le_refl _) hd fun x _ => ?_)
      have h3 : fillOne F R C i (most i) (fillTo F R C most i) = fillTo F R C most (i + 1) := rfl
      rw [h3]
      unfold bump
      by_cases e : x = i
      · subst e; rw [if_pos rfl, ← hst x (Nat.le_refl _)]; omega
      · rw [if_neg e]
        rcases Nat.lt_or_ge x i with hx | hx
        · rw [he x hx, hst x (by omega)]; omega
        · rw [fillTo_above (by omega)]; omega
  · exact h
/-- the limits only fall; in the end no order has too few -/
theorem bestF_spec {F : List (List Bool)} {R C : Nat} {least : Nat → Nat} : ∀ {n : Nat} {lim : Nat → Nat}, nz lim R ≤ n → Feas F R C 0 (bestF F R C least n lim) ∧ ∀ i, i < R → bestF F R C least n lim i ≤ lim i ∧ (bestF F R C least n lim i = 0 ∨ least i ≤ bestF F R C least n lim i)
  | n, lim, hn => by
    rcases hs : short (fillAll F R C lim) least R with _ | j
    · rw [bestF_none hs]
      refine ⟨fillAll_feas, fun i hi => ⟨fillAll_le hi, ?_⟩⟩
      have := List.find?_eq_none.1 hs i (List.mem_range.2 hi)
      simp only [decide_eq_true_eq] at this
      omega
    · obtain ⟨k, rfl, h1, h2⟩ := bestF_some hs hn
      rw [h2]
      obtain ⟨h3, h4⟩ := bestF_spec h1
      refine ⟨h3, fun i hi => ⟨?_, (h4 i hi).2⟩⟩
      have h5 := (h4 i hi).1
      have h6 : zero lim j i ≤ lim i := by
        unfold zero
        split <;> omega
      omega
/-- what a list of orders of boards k, k+1, .. gives: an assignment of those boards -/
def matFrom (k : Nat) (l : List (Option Nat)) : Mat := fun m => if m < k then none else (l[m - k]?).getD none
def cntL (l : List (Option Nat)) (i : Nat) : Nat := l.countP fun x => decide (x = some i)
theorem pick_spec {F : List (List Bool)} {R C k i : Nat} {left : Nat → Nat} (h : pick F R C k left = some i) : i < R ∧ fit F i k = true ∧ 0 < left i ∧ Feas F R C (k + 1) (drop1 left i) ∧ ∀ j, j < i → okFor F R C k left j = false := by
  have h1 := List.mem_range.1 (List.mem_of_find?_eq_some h)
  have h2 := List.find?_some h
  unfold okFor at h2
  rw [Bool.and_eq_true, Bool.and_eq_true, feasB_iff, decide_eq_true_eq] at h2
  refine ⟨h1, h2.1.1, h2.1.2, h2.2, fun j hj => ?_⟩
  have := (List.find?_range_eq_some.1 h).2.2 j hj
  simpa using this
/-- nobody can have board k: the boards behind it are enough -/
theorem pick_none {F : List (List Bool)} {R C k : Nat} {left : Nat → Nat} (hk : k < C) (hf : Feas F R C k left) (h : pick F R C k left = none) : Feas F R C (k + 1) left := by
  obtain ⟨a, ha, hc⟩ := hf
  rcases hak : a k with _ | j
  · exact ⟨a, ha, fun i hi => by have := cnt_step (x := i) (a := a) hk; rw [hak] at this; rw [← hc i hi, this]; simp⟩
  · exfalso
    obtain ⟨_, hj, hfit⟩ := ha.at_ k j hak
    have hok : okFor F R C k left j = true := by
      unfold okFor
      rw [hfit, Bool.true_and, Bool.and_eq_true, feasB_iff, decide_eq_true_eq]
      have hs := cnt_step (x := j) (a := a) hk
      rw [hak] at hs
      refine ⟨by rw [← hc j hj]; simp at hs; omega, a, ha, fun i hi => ?_⟩
      have hs2 := cnt_step (x := i) (a := a) hk
      rw [hak] at hs2
      unfold drop1
      rw [← hc i hi]
      by_cases e : i = j
      · subst e; simp at hs2 ⊢; omega
      · simp [e, Ne.symm e] at hs2 ⊢; omega
    have := List.find?_eq_none.1 h j (List.mem_range.2 hj)
    exact this hok
/-- THE EARLIEST ASSIGNMENT: its entries fit, and it has the counts -/
theorem firstF_ok {F : List (List Bool)} {R C : Nat} : ∀ {n k : Nat} {left : Nat → Nat}, k + n = C → Feas F R C k left →
    (∀ (m : Nat) i, (firstF F R C n k left)[m]? = some (some i) → i < R ∧ fit F i (k + m) = true) ∧ ∀ i, i < R → cntL (firstF F R C n k left) i = left i
  | 0, k, left, hk, hf => by
    refine ⟨fun m i h => by simp [firstF] at h, fun i hi => ?_⟩
    obtain ⟨a, ha, hc⟩ := hf
    rw [← hc i hi]
    unfold cnt
    rw [cntP_zero fun m hm => by simp; omega]
    rfl
  | n + 1, k, left, hk, hf => by
    rw [firstF]
    rcases hp : pick F R C k left with _ | j
    · obtain ⟨h1, h2⟩ := firstF_ok (n := n) (k := k + 1) (left := left) (by omega) (pick_none (by omega) hf hp)
      refine ⟨fun m i h => ?_, fun i hi => by have h3 := h2 i hi; unfold cntL at h3; simp only [after, cntL, List.countP_cons]; rw [h3]; simp⟩
      cases m with
      | zero => simp at h
      | succ m => have := h1 m i (by simpa [after] using h); rw [show k + (m + 1) = k + 1 + m by omega]; exact this
    · obtain ⟨p1, p2, p3, p4, _⟩ := pick_spec hp
      obtain ⟨h1, h2⟩ := firstF_ok (n := n) (k := k + 1) (left := drop1 left j) (by omega) p4
      refine ⟨fun m i h => ?_, fun i hi => ?_⟩
      · cases m with
        | zero => simp at h; subst h; exact ⟨p1, by simpa using p2⟩
        | succ m => have := h1 m i (by simpa [after] using h); rw [show k + (m + 1) = k + 1 + m by omega]; exact this
      · have h3 := h2 i hi
        simp only [after, cntL, List.countP_cons]
        unfold cntL at h3
        rw [h3]
        unfold drop1
        by_cases e : i = j
        · subst e; simp; omega
        · simp [e, Ne.symm e]
/-- NO OTHER ASSIGNMENT WITH THE SAME COUNTS COMES BEFORE IT: where the two part, the other board goes to nobody or to a later order -/
theorem firstF_min {F : List (List Bool)} {R C : Nat} {a : Mat} (ha : Ok F R C a) : ∀ {n k : Nat} {left : Nat → Nat}, k + n = C → (∀ i, i < R → cnt C a k i = left i) → ∀ m, m < n → (∀ j, j < m → (firstF F R C n k left)[j]? = some (a (k + j))) → (firstF F R C n k left)[m]? ≠ some (a (k + m)) →
    ∃ i, (firstF F R C n k left)[m]? = some (some i) ∧ ∀ j, a (k + m) = some j → i < j
  | 0, k, left, _, _, m, hm, _, _ => by omega
  | n + 1, k, left, hk, hc, m, hm, hpre, hne => by
    rw [firstF] at hpre hne ⊢
    have hkC : k < C := by omega
    have hok : ∀ j, a k = some j → okFor F R C k left j = true := fun j hak => by
      obtain ⟨_, hj, hfit⟩ := ha.at_ k j hak
      unfold okFor
      rw [hfit, Bool.true_and, Bool.and_eq_true, feasB_iff, decide_eq_true_eq]
      have hs := cnt_step (x := j) (a := a) hkC
      rw [hak] at hs
      refine ⟨by rw [← hc j hj]; simp at hs; omega, a, ha, fun i hi => ?_⟩
      have hs2 := cnt_step (x := i) (a := a) hkC
      rw [hak] at hs2
      unfold drop1
      rw [← hc i hi]
      by_cases e : i = j
      · subst e; simp at hs2 ⊢; omega
      · simp [e, Ne.symm e] at hs2 ⊢; omega
    cases m with
    | zero =>
      simp only [List.getElem?_cons_zero, Nat.add_zero, ne_eq, Option.some.injEq] at hne ⊢
      rcases hak : a k with _ | j
      · rw [hak] at hne
        obtain ⟨i, hi⟩ := Option.ne_none_iff_exists'.1 hne
        exact ⟨i, hi, fun j hj => by cases hj⟩
      · have h1 := hok j hak
        rcases hp : pick F R C k left with _ | i
        · have := List.find?_eq_none.1 hp j (List.mem_range.2 (ha.at_ k j hak).2.1)
          exact absurd h1 this
        · refine ⟨i, rfl, fun j' hj' => ?_⟩
          obtain rfl : j = j' := by simpa using hj'
          obtain ⟨_, _, _, _, p5⟩ := pick_spec hp
          rcases Nat.lt_trichotomy i j with h | h | h
          · exact h
          · subst h; rw [hp, hak] at hne; exact absurd rfl hne
          · have := p5 j h; rw [h1] at this; cases this
    | succ m =>
      have h0 := hpre 0 (by omega)
      simp only [List.getElem?_cons_zero, Nat.add_zero, Option.some.injEq] at h0
      have hc2 : ∀ i, i < R → cnt C a (k + 1) i = after left (pick F R C k left) i := fun i hi => by
        have hs2 := cnt_step (x := i) (a := a) hkC
        rw [h0]
        rcases hak : a k with _ | j
        · rw [hak] at hs2; simp only [after]; rw [← hc i hi]; simp at hs2; omega
        · rw [hak] at hs2
          simp only [after, drop1]
          rw [← hc i hi]
          by_cases e : i = j
          · subst e; simp at hs2 ⊢; omega
          · simp [e, Ne.symm e] at hs2 ⊢; omega
      have := firstF_min ha (n := n) (k := k + 1) (by omega) hc2 m (by omega) (fun j hj => by
        have := hpre (j + 1) (by omega)
        rw [show k + 1 + j = k + (j + 1) by omega]
        simpa using this) (by
        rw [show k + 1 + m = k + (m + 1) by omega]
        simpa using hne)
      rw [show k + 1 + m = k + (m + 1) by omega] at this
      simpa using this
end AssignM
