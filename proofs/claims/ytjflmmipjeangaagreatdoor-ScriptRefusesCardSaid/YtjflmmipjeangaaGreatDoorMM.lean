/-
  Chapter 62, the plain part: which lines are as a command must be.
-/
import Derived.Test.YtjflmmipjeangaaGreatDoorRows
set_option linter.unusedVariables false
set_option linter.unusedSimpArgs false
namespace ScM

/-- a digit -/
def dig (c : UInt8) : Bool := decide (48 ≤ c.toNat ∧ c.toNat ≤ 57)
/-- the number that digits are -/
def val (l : List UInt8) : Nat := l.foldl (fun a c => 10 * a + (c.toNat - 48)) 0
/-- the form of a number without a sign -/
def formOk (l : List UInt8) : Bool := !l.isEmpty && !(decide (1 < l.length) && decide (l.head? = some 48)) && l.all dig
/-- a word without its sign -/
def bare (l : List UInt8) : List UInt8 := if l.head? = some 45 then l.tail else l
/-- is a word a number from -2^40 to 2^40? -/
def numOk (l : List UInt8) : Bool := formOk (bare l) && !(decide (l.head? = some 45) && decide (val (bare l) = 0)) && decide (val (bare l) ≤ 1099511627776)
theorem val_snoc (l : List UInt8) (c : UInt8) : val (l ++ [c]) = 10 * val l + (c.toNat - 48) := by simp [val, List.foldl_append]
theorem val_take (l : List UInt8) {k : Nat} (h : k < l.length) : val (l.take (k + 1)) = 10 * val (l.take k) + (l[k].toNat - 48) := by
  rw [List.take_succ_eq_append_getElem h, val_snoc]
theorem foldl_mono : ∀ (l : List UInt8) (a b : Nat), a ≤ b → a ≤ l.foldl (fun a c => 10 * a + (c.toNat - 48)) b
  | [], a, b, h => h
  | c :: l, a, b, h => foldl_mono l a _ (by show a ≤ 10 * b + (c.toNat - 48); omega)
theorem val_le (l : List UInt8) (k : Nat) : val (l.take k) ≤ val l := by
  have : val l = (l.drop k).foldl (fun a c => 10 * a + (c.toNat - 48)) (val (l.take k)) := by
    unfold val
    rw [← List.foldl_append, List.take_append_drop]
  rw [this]
  exact foldl_mono _ _ _ (Nat.le_refl _)
theorem dig_iff (c : UInt8) : dig c = true ↔ 48 ≤ c.toNat ∧ c.toNat ≤ 57 := by simp [dig]
/-- all digits are zero -/
def zeros (l : List UInt8) : Bool := l.all fun c => c.toNat == 48
theorem val_zero : ∀ (l : List UInt8) (a : Nat), l.all dig = true → (l.foldl (fun a c => 10 * a + (c.toNat - 48)) a = 0 ↔ a = 0 ∧ zeros l = true)
  | [], a, _ => by simp [zeros]
  | c :: l, a, h => by
    simp only [List.all_cons, Bool.and_eq_true] at h
    have hc := (dig_iff c).1 h.1
    rw [List.foldl_cons, val_zero l _ h.2]
    simp only [zeros, List.all_cons, Bool.and_eq_true, beq_iff_eq]
    constructor
    · rintro ⟨h1, h2⟩; exact ⟨by omega, by omega, h2⟩
    · rintro ⟨h1, h2, h3⟩; exact ⟨by omega, h3⟩

/-- the parts between blanks -/
def parts : List UInt8 → List (List UInt8)
  | [] => [[]]
  | c :: l => if c = 32 then [] :: parts l else match parts l with
    | x :: r => (c :: x) :: r
    | [] => [[c]]
theorem parts_ne (l : List UInt8) : parts l ≠ [] := by
  cases l with
  | nil => simp [parts]
  | cons c l =>
    unfold parts
    split
    · simp
    · split <;> simp
theorem parts_blank (l : List UInt8) : parts (32 :: l) = [] :: parts l := by simp [parts]
theorem parts_char {c : UInt8} (h : c ≠ 32) (l : List UInt8) : ∃ x r, parts l = x :: r ∧ parts (c :: l) = (c :: x) :: r := by
  cases hp : parts l with
  | nil => exact absurd hp (parts_ne l)
  | cons x r => exact ⟨x, r, rfl, by rw [parts, if_neg h, hp]⟩
/-- one more byte at the end -/
theorem parts_snoc : ∀ (l : List UInt8) (c : UInt8), parts (l ++ [c]) = if c = 32 then parts l ++ [[]] else (parts l).dropLast ++ [((parts l).getLastD []) ++ [c]]
  | [], c => by
    by_cases h : c = 32
    · subst h; rfl
    · simp [parts, h]
  | d :: l, c => by
    have ih := parts_snoc l c
    by_cases hd : d = 32
    · subst hd
      rw [List.cons_append, parts_blank, parts_blank, ih]
      have hne := parts_ne l
      split
      · rfl
      · cases hp : parts l with
        | nil => exact absurd hp hne
        | cons x r => simp [List.dropLast, List.getLastD]
    · obtain ⟨x, r, h1, h2⟩ := parts_char hd l
      obtain ⟨y, s, h3, h4⟩ := parts_char hd (l ++ [c])
      rw [List.cons_append, h4, h2]
      rw [h1] at ih
      rw [h3] at ih
      by_cases hc : c = 32
      · rw [if_pos hc] at ih ⊢
        simp only [List.cons_append, List.cons.injEq] at ih ⊢
        exact ⟨⟨trivial, ih.1⟩, ih.2⟩
      · rw [if_neg hc] at ih ⊢
        cases r with
        | nil =>
          simp only [List.dropLast_singleton, List.nil_append, List.getLastD_cons, List.getLastD_nil] at ih ⊢
          simp only [List.cons.injEq] at ih ⊢
          exact ⟨by rw [ih.1]; rfl, ih.2⟩
        | cons z t =>
          simp only [List.dropLast_cons_cons, List.cons_append, List.cons.injEq, List.getLastD_cons] at ih ⊢
          exact ⟨⟨trivial, ih.1⟩, ih.2⟩
/-- the bytes of a text literal -/
def lit (s : List Nat) : List UInt8 := s.map UInt8.ofNat
end ScM
