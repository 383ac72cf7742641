/-
  The specification of the best assignment: counts, limits, the earliest assignment.
-/
import Derived.Test.YthchddkdcibbhaaA2
namespace AssignM
def matOf (l : List (Option Nat)) : Mat := fun k => (l[k]?).getD none
/-- all assignments of the first boards -/
def enumM (F : List (List Bool)) (R : Nat) : Nat → List (List (Option Nat))
  | 0 => [[]]
  | k + 1 => (enumM F R k).flatMap fun l => (l ++ [none]) :: ((List.range R).filter fun i => fit F i k).map fun i => l ++ [some i]
theorem mem_enumM {F : List (List Bool)} {R : Nat} : ∀ {C : Nat} {l : List (Option Nat)}, l ∈ enumM F R C ↔ l.length = C ∧ ∀ (k : Nat) i, l[k]? = some (some i) → i < R ∧ fit F i k = true
  | 0, l => by
    simp only [enumM, List.mem_singleton]
    constructor
    · rintro rfl; exact ⟨rfl, fun k i h => by simp at h⟩
    · rintro ⟨h, _⟩; exact List.eq_nil_of_length_eq_zero h
  | C + 1, l => by
    simp only [enumM, List.mem_flatMap, List.mem_cons, List.mem_map, List.mem_filter, List.mem_range]
    constructor
    · rintro ⟨l', h1, h2⟩
      obtain ⟨e, h3⟩ := mem_enumM.1 h1
      have key : ∀ x : Option Nat, (∀ i, x = some i → i < R ∧ fit F i C = true) → l = l' ++ [x] → l.length = C + 1 ∧ ∀ (k : Nat) i, l[k]? = some (some i) → i < R ∧ fit F i k = true := by
        rintro x hx rfl
        refine ⟨by simp [e], fun k i hk => ?_⟩
        rcases Nat.lt_or_ge k l'.length with h | h
        · rw [List.getElem?_append_left h] at hk; exact h3 k i hk
        · rw [List.getElem?_append_right h] at hk
          have h0 : k - l'.length = 0 := by have := (List.getElem?_eq_some_iff.1 hk).1; simp at this; omega
          rw [h0] at hk
          have : x = some i := by simpa using hk
          have hkC : k = C := by omega
          rw [hkC]
          exact hx i this
      rcases h2 with rfl | ⟨i, ⟨hi1, hi2⟩, rfl⟩
      · exact key none (fun i h => by cases h) rfl
      · exact key (some i) (fun j h => by obtain rfl : i = j := (by simpa using h); exact ⟨hi1, hi2⟩) rfl
    · rintro ⟨h1, h2⟩
      rcases List.eq_nil_or_concat l with rfl | ⟨l', x, rfl⟩
      · simp at h1
      · rw [List.concat_eq_append] at *
        have hl : l'.length = C := by simpa using h1
        refine ⟨l', mem_enumM.2 ⟨hl, fun k i hk => h2 k i ?_⟩, ?_⟩
        · rw [List.getElem?_append_left (List.getElem?_eq_some_iff.1 hk).1]; exact hk
        · rcases x with _ | i
          · exact .inl rfl
          · right
            have := h2 C i (by rw [List.getElem?_append_right (by omega), hl]; simp)
            exact ⟨i, this, rfl⟩
def feasB (F : List (List Bool)) (R C lo : Nat) (c : Nat → Nat) : Bool := (enumM F R C).any fun l => (List.range R).all fun i => cnt C (matOf l) lo i == c i
theorem matOf_ok {F : List (List Bool)} {R C : Nat} {l : List (Option Nat)} (h : l ∈ enumM F R C) : Ok F R C (matOf l) := by
  obtain ⟨h1, h2⟩ := mem_enumM.1 h
  refine ⟨fun k i hk => ?_⟩
  unfold matOf at hk
  rcases hh : l[k]? with _ | x
  · rw [hh] at hk; cases hk
  · rw [hh] at hk
    have hx : x = some i := hk
    subst hx
    exact ⟨by have := (List.getElem?_eq_some_iff.1 hh).1; omega, h2 k i hh⟩
theorem cnt_congr {C lo i : Nat} {a b : Mat} (h : ∀ k, k < C → a k = b k) : cnt C a lo i = cnt C b lo i := by
  unfold cnt
  exact cntP_congr fun k hk => by rw [h k hk]
theorem enum_of {F : List (List Bool)} {R C : Nat} {a : Mat} (ha : Ok F R C a) : (List.range C).map a ∈ enumM F R C ∧ ∀ k, k < C → matOf ((List.range C).map a) k = a k := by
  refine ⟨mem_enumM.2 ⟨by simp, fun k i hk => ?_⟩, fun k hk => by simp [matOf, hk]⟩
  obtain ⟨hk1, hk2⟩ := List.getElem?_eq_some_iff.1 hk
  simp at hk2
  exact (ha.at_ k i hk2).2
theorem feasB_iff {F : List (List Bool)} {R C lo : Nat} {c : Nat → Nat} : feasB F R C lo c = true ↔ Feas F R C lo c := by
  unfold feasB
  rw [List.any_eq_true]
  constructor
  · rintro ⟨l, hl, h⟩
    refine ⟨matOf l, matOf_ok hl, fun i hi => ?_⟩
    have := List.all_eq_true.1 h i (List.mem_range.2 hi)
    simpa using this
  · rintro ⟨a, ha, hc⟩
    obtain ⟨h1, h2⟩ := enum_of ha
    refine ⟨_, h1, List.all_eq_true.2 fun i hi => ?_⟩
    rw [cnt_congr h2, hc i (List.mem_range.1 hi)]
    simp
theorem feasB_false {F : List (List Bool)} {R C lo : Nat} {c : Nat → Nat} : feasB F R C lo c = false ↔ ¬ Feas F R C lo c := by
  rw [← feasB_iff, Bool.not_eq_true]
theorem feasB_congr {F : List (List Bool)} {R C lo : Nat} {c d : Nat → Nat} (h : ∀ i, i < R → c i = d i) : feasB F R C lo c = feasB F R C lo d := by
  rw [Bool.eq_iff_iff, feasB_iff, feasB_iff, Feas.congr h]
theorem bump_congr {R : Nat} {c d : Nat → Nat} (h : ∀ i, i < R → c i = d i) (o : Nat) : ∀ i, i < R → bump c o i = bump d o i := fun i hi => by unfold bump; rw [h i hi]

/-! ### the counts -/
def fillOne (F : List (List Bool)) (R C i : Nat) : Nat → (Nat → Nat) → Nat → Nat
  | 0, c => c
  | n + 1, c => if feasB F R C 0 (bump c i) then fillOne F R C i n (bump c i) else c
def fillTo (F : List (List Bool)) (R C : Nat) (most : Nat → Nat) : Nat → Nat → Nat
  | 0 => fun _ => 0
  | i + 1 => fillOne F R C i (most i) (fillTo F R C most i)
def fillAll (F : List (List Bool)) (R C : Nat) (most : Nat → Nat) : Nat → Nat := fillTo F R C most R
theorem fillOne_other {F : List (List Bool)} {R C i j : Nat} (h : j ≠ i) : ∀ (n : Nat) (c : Nat → Nat), fillOne F R C i n c j = c j
  | 0, c => rfl
  | n + 1, c => by
    rw [fillOne]
    split
    · rw [fillOne_other h n]; simp [bump, h]
    · rfl
theorem fillTo_above {F : List (List Bool)} {R C : Nat} {most : Nat → Nat} : ∀ {i j : Nat}, i ≤ j → fillTo F R C most i j = 0
  | 0, j, _ => rfl
  | i + 1, j, h => by rw [fillTo, fillOne_other (by omega), fillTo_above (by omega)]
/-- what the loops know: order i has m boards so far -/
structure Filling (F : List (List Bool)) (R C : Nat) (most : Nat → Nat) (i : Nat) (c : Nat → Nat) : Prop where
  le : c i ≤ most i
  rest : fillOne F R C i (most i - c i) c = fillTo F R C most (i + 1)
  above : ∀ j, i < j → c j = 0
theorem Filling.start {F : List (List Bool)} {R C : Nat} {most : Nat → Nat} {i : Nat} : Filling F R C most i (fillTo F R C most i) :=
  ⟨by rw [fillTo_above (Nat.le_refl _)]; omega, by rw [fillTo_above (Nat.le_refl _), Nat.sub_zero]; rfl, fun j hj => fillTo_above (by omega)⟩
theorem Filling.more {F : List (List Bool)} {R C : Nat} {most : Nat → Nat} {i : Nat} {c : Nat → Nat} (h : Filling F R C most i c) (hlt : c i < most i) (hf : Feas F R C 0 (bump c i)) : Filling F R C most i (bump c i) := by
  have hb : bump c i i = c i + 1 := by simp [bump]
  refine ⟨by rw [hb]; omega, ?_, fun j hj => by rw [← h.above j hj]; simp [bump]; omega⟩
  rw [hb, ← h.rest]
  obtain ⟨n, hn⟩ : ∃ n, most i - c i = n + 1 := ⟨most i - c i - 1, by omega⟩
  rw [hn, show most i - (c i + 1) = n by omega, fillOne, if_pos (feasB_iff.2 hf)]
theorem Filling.full {F : List (List Bool)} {R C : Nat} {most : Nat → Nat} {i : Nat} {c : Nat → Nat} (h : Filling F R C most i c) (hlt : ¬ c i < most i) : c = fillTo F R C most (i + 1) := by
  rw [← h.rest, show most i - c i = 0 by omega]; rfl
theorem Filling.stop {F : List (List Bool)} {R C : Nat} {most : Nat → Nat} {i : Nat} {c : Nat → Nat} (h : Filling F R C most i c) (hf : ¬ Feas F R C 0 (bump c i)) : c = fillTo F R C most (i + 1) := by
  rw [← h.rest]
  cases hn : most i - c i with
  | zero => rfl
  | succ n => rw [fillOne, if_neg (by rw [feasB_iff]; exact hf)]
end AssignM
