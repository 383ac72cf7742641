/-
  The limits of Best.
-/
import Derived.Test.YthchddkdcibbhaaA4
namespace AssignM
theorem fillOne_le {F : List (List Bool)} {R C i : Nat} : ∀ (n : Nat) (c : Nat → Nat), fillOne F R C i n c i ≤ c i + n
  | 0, c => by simp [fillOne]
  | n + 1, c => by
    rw [fillOne]
    split
    · have := fillOne_le (F := F) (R := R) (C := C) (i := i) n (bump c i)
      simp [bump] at this
      omega
    · omega
theorem fillTo_stable {F : List (List Bool)} {R C : Nat} {most : Nat → Nat} {j : Nat} : ∀ {i : Nat}, j < i → fillTo F R C most i j = fillTo F R C most (j + 1) j
  | i + 1, h => by
    by_cases e : j = i
    · subst e; rfl
    · rw [fillTo, fillOne_other e, fillTo_stable (by omega)]
theorem fillAll_le {F : List (List Bool)} {R C : Nat} {most : Nat → Nat} {i : Nat} (h : i < R) : fillAll F R C most i ≤ most i := by
  unfold fillAll
  rw [fillTo_stable h, fillTo]
  have := fillOne_le (F := F) (R := R) (C := C) (i := i) (most i) (fillTo F R C most i)
  rw [fillTo_above (Nat.le_refl i)] at this
  omega
theorem fillTo_congr {F : List (List Bool)} {R C : Nat} {m m' : Nat → Nat} : ∀ {i : Nat}, (∀ j, j < i → m j = m' j) → fillTo F R C m i = fillTo F R C m' i
  | 0, _ => rfl
  | i + 1, h => by rw [fillTo, fillTo, fillTo_congr (fun j hj => h j (by omega)), h i (by omega)]
theorem fillAll_congr {F : List (List Bool)} {R C : Nat} {m m' : Nat → Nat} (h : ∀ j, j < R → m j = m' j) : fillAll F R C m = fillAll F R C m' := fillTo_congr h
/-- the first order that has boards, but too few -/
def short (c least : Nat → Nat) (R : Nat) : Option Nat := (List.range R).find? fun i => decide (0 < c i ∧ c i < least i)
def zero (lim : Nat → Nat) (i : Nat) : Nat → Nat := fun j => if j = i then 0 else lim j
def bestF (F : List (List Bool)) (R C : Nat) (least : Nat → Nat) : Nat → (Nat → Nat) → Nat → Nat
  | 0, lim => fillAll F R C lim
  | n + 1, lim => match short (fillAll F R C lim) least R with
    | none => fillAll F R C lim
    | some i => bestF F R C least n (zero lim i)
def nz (lim : Nat → Nat) (R : Nat) : Nat := cntP (fun i => decide (lim i ≠ 0)) R
theorem short_spec {c least : Nat → Nat} {R i : Nat} (h : short c least R = some i) : i < R ∧ 0 < c i ∧ c i < least i := by
  unfold short at h
  have h1 := List.mem_of_find?_eq_some h
  have h2 := List.find?_some h
  simp only [decide_eq_true_eq] at h2
  exact ⟨List.mem_range.1 h1, h2⟩
theorem bestF_none {F : List (List Bool)} {R C : Nat} {least lim : Nat → Nat} (h : short (fillAll F R C lim) least R = none) : ∀ n, bestF F R C least n lim = fillAll F R C lim
  | 0 => rfl
  | n + 1 => by rw [bestF, h]
theorem bestF_some {F : List (List Bool)} {R C : Nat} {least lim : Nat → Nat} {i : Nat} (h : short (fillAll F R C lim) least R = some i) {n : Nat} (hn : nz lim R ≤ n) : ∃ k, n = k + 1 ∧ nz (zero lim i) R ≤ k ∧ bestF F R C least n lim = bestF F R C least k (zero lim i) := by
  obtain ⟨h1, h2, h3⟩ := short_spec h
  have hl : lim i ≠ 0 := by have := fillAll_le (F := F) (C := C) (most := lim) h1; omega
  have hz : nz lim R = nz (zero lim i) R + 1 := cntP_turn (p := fun j => decide (zero lim i j ≠ 0)) h1 (fun k hk => by simp [zero, hk]) (by simp [zero]) (by simpa using hl)
  obtain ⟨k, rfl⟩ : ∃ k, n = k + 1 := ⟨n - 1, by omega⟩
  exact ⟨k, rfl, by omega, by rw [bestF, h]⟩
end AssignM
