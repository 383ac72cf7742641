/-
  The stable sort of the library: blocks, then merges: the plain part.
-/
import Derived.Test.YtaflcbdbacogeaaDoorP3
import Derived.Test.YtaflcbdbacogeaaDoorU2
set_option linter.unusedVariables false
set_option linter.unusedSimpArgs false
namespace Go.Proofs.YtaflcbdbacogeaaDoor
open Go.RowKit ReportM Go.Shelf Go.Lib Go.Sort

section
variable {N : Nat} [Inhabited (Fin N)] {T : Fin N → Fin N → Bool}
/-- the places lo ≤ i < hi hold the indices lo .. hi - 1, in order -/
structure Run (T : Fin N → Fin N → Bool) (lo hi : Nat) (d : Array (Fin N)) : Prop where
  ord : SortedIn T lo hi d
  mem : ∀ i, lo ≤ i → i < hi → lo ≤ (d[i]!).val ∧ (d[i]!).val < hi
theorem Run.agree {lt : Fin N → Fin N → Bool} (hag : ∀ i j : Fin N, i.val < j.val → lt j i = T j i) {a m b : Nat} {d : Array (Fin N)} (h1 : Run T a m d) (h2 : Run T m b d) : Agree lt T a m b d := fun i j g1 g2 g3 g4 => by
  have := h1.mem i g1 g2
  have := h2.mem j g3 g4
  exact hag _ _ (by omega)
theorem Run.merge {a m b : Nat} {d d' : Array (Fin N)} (h1 : Run T a m d) (h2 : Run T m b d) (hab : a ≤ m) (hmb : m ≤ b) (hb : b ≤ d.size) (hp : PermIn a b d d') (hs : SortedIn T a b d') : Run T a b d' :=
  ⟨hs, fun i g1 g2 => permIn_all d d' a b (fun x => a ≤ x.val ∧ x.val < b) hb hp (fun j k1 k2 => by
    rcases Nat.lt_or_ge j m with h | h
    · have := h1.mem j k1 h; omega
    · have := h2.mem j h k2; omega) i g1 g2⟩
theorem Run.keep {lo hi a b : Nat} {d d' : Array (Fin N)} (h : Run T lo hi d) (hp : PermIn a b d d') (ho : hi ≤ a ∨ b ≤ lo) : Run T lo hi d' := by
  have e : ∀ i, lo ≤ i → i < hi → d'[i]! = d[i]! := fun i h1 h2 => hp.2.1 i (by omega)
  exact ⟨fun i j h1 h2 h3 => by rw [e i h1 (by omega), e j (by omega) h3]; exact h.ord i j h1 h2 h3, fun i h1 h2 => by rw [e i h1 h2]; exact h.mem i h1 h2⟩
end


theorem dvd_gap {c x y : Nat} (h1 : c ∣ x) (h2 : c ∣ y) (h : x < y) : x + c ≤ y := by
  obtain ⟨u, rfl⟩ := h1
  obtain ⟨v, rfl⟩ := h2
  have : u < v := Nat.lt_of_mul_lt_mul_left h
  have := Nat.mul_le_mul_left c this
  rw [Nat.mul_succ] at this
  exact this
section
variable {N : Nat} [Inhabited (Fin N)] {T : Fin N → Fin N → Bool}
/-- every block of bs places is in order -/
def Blocks (T : Fin N → Fin N → Bool) (bs n : Nat) (d : Array (Fin N)) : Prop := ∀ lo, bs ∣ lo → lo < n → Run T lo (min (lo + bs) n) d
/-- below a blocks of 2 bs, from a on blocks of bs -/
structure Pass (T : Fin N → Fin N → Bool) (bs a n : Nat) (d : Array (Fin N)) : Prop where
  div : 2 * bs ∣ a
  lo : ∀ x, 2 * bs ∣ x → x < a → Run T x (x + 2 * bs) d
  hi : ∀ x, bs ∣ x → a ≤ x → x < n → Run T x (min (x + bs) n) d
theorem Pass.start {bs n : Nat} {d : Array (Fin N)} (h : Blocks T bs n d) : Pass T bs 0 n d := ⟨⟨0, by simp⟩, fun x _ hx => by omega, fun x h1 _ h3 => h x h1 h3⟩
theorem Pass.step {bs a n : Nat} {d d' : Array (Fin N)} (h : Pass T bs a n d) (hb : a + 2 * bs ≤ n) (h0 : 0 < bs) (hp : PermIn a (a + 2 * bs) d d') (hr : Run T a (a + 2 * bs) d') : Pass T bs (a + 2 * bs) n d' := by
  refine ⟨Nat.dvd_add h.div ⟨1, by omega⟩, fun x h1 h2 => ?_, fun x h1 h2 h3 => (h.hi x h1 (by omega) h3).keep hp (Or.inr h2)⟩
  rcases Nat.lt_trichotomy x a with c | c | c
  · exact (h.lo x h1 c).keep hp (Or.inl (dvd_gap h1 h.div c))
  · subst c; exact hr
  · have := dvd_gap h.div h1 c; omega
theorem Pass.done {bs a n : Nat} {d d' : Array (Fin N)} (h : Pass T bs a n d) (han : a ≤ n) (hn : n < a + 2 * bs) (hp : PermIn a n d d') (hr : a < n → Run T a n d') : Blocks T (2 * bs) n d' := by
  intro x h1 h2
  rcases Nat.lt_trichotomy x a with c | c | c
  · have g := dvd_gap h1 h.div c
    rw [Nat.min_eq_left (by omega)]
    exact (h.lo x h1 c).keep hp (Or.inl g)
  · subst c
    rw [Nat.min_eq_right (by omega)]
    exact hr h2
  · have := dvd_gap h.div h1 c; omega
/-- the first pass: below a blocks of c in order, from a on nothing is moved -/
structure Fst (T : Fin N → Fin N → Bool) (c a n : Nat) (d : Array (Fin N)) : Prop where
  div : c ∣ a
  lo : ∀ x, c ∣ x → x < a → Run T x (x + c) d
  hi : ∀ i, a ≤ i → i < n → (d[i]!).val = i
theorem Fst.run {lt : Fin N → Fin N → Bool} (hS : SWO T) (hag : ∀ i j : Fin N, i.val < j.val → lt j i = T j i) {c a b n : Nat} {d : Array (Fin N)} (h : Fst T c a n d) (hab : a ≤ b) (hbn : b ≤ n) (hsz : n ≤ d.size) : PermIn a b d (insertionSort lt d a b) ∧ Run T a b (insertionSort lt d a b) := by
  obtain ⟨h1, h2⟩ := insertionSort_agree (lt := lt) (a := a) (b := b) (d := d) hS hab (by omega) (fun p q g1 g2 g3 => hag _ _ (by rw [h.hi p (by omega) (by omega), h.hi q (by omega) (by omega)]; exact g2))
  exact ⟨h1, h2, fun i g1 g2 => permIn_all d _ a b (fun x => a ≤ x.val ∧ x.val < b) (by omega) h1 (fun j k1 k2 => by rw [h.hi j k1 (by omega)]; exact ⟨k1, k2⟩) i g1 g2⟩
theorem Fst.step {c a n : Nat} {d d' : Array (Fin N)} (h : Fst T c a n d) (hb : a + c ≤ n) (h0 : 0 < c) (hp : PermIn a (a + c) d d') (hr : Run T a (a + c) d') : Fst T c (a + c) n d' := by
  refine ⟨Nat.dvd_add h.div ⟨1, by omega⟩, fun x h1 h2 => ?_, fun i h1 h2 => by rw [hp.2.1 i (Or.inr h1)]; exact h.hi i (by omega) h2⟩
  rcases Nat.lt_trichotomy x a with k | k | k
  · exact (h.lo x h1 k).keep hp (Or.inl (dvd_gap h1 h.div k))
  · subst k; exact hr
  · have := dvd_gap h.div h1 k; omega
theorem Fst.done {c a n : Nat} {d d' : Array (Fin N)} (h : Fst T c a n d) (han : a ≤ n) (hn : n < a + c) (hp : PermIn a n d d') (hr : Run T a n d') : Blocks T c n d' := by
  intro x h1 h2
  rcases Nat.lt_trichotomy x a with k | k | k
  · have g := dvd_gap h1 h.div k
    rw [Nat.min_eq_left (by omega)]
    exact (h.lo x h1 k).keep hp (Or.inl g)
  · subst k
    rw [Nat.min_eq_right (by omega)]
    exact hr
  · have := dvd_gap h.div h1 k; omega
end
end Go.Proofs.YtaflcbdbacogeaaDoor
