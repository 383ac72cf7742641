/-
  Plain facts on the numbers of sizing: shrinkage is monotone, and so is the allowance.
-/
import Derived.Test.YtmlgclkclnhmhaaW8
namespace Go.Proofs.Ytmlgclkclnhmhaa

theorem shr_moist {sh size m m' : Int} (hm : m ≤ m') : shr sh size m ≤ shr sh size m' := by
  unfold shr
  split
  · omega
  · rename_i h
    have h1 : 0 ≤ size * sh := Int.mul_nonneg (by omega) (by omega)
    have h2 : size * sh * (3000 - max 0 (min m' 3000)) ≤ size * sh * (3000 - max 0 (min m 3000)) := Int.mul_le_mul_of_nonneg_left (by omega) h1
    have h3 := Int.ediv_le_ediv (c := 3000000) (by omega) h2
    omega
theorem shr_wood {sh sh' size m : Int} (h0 : 0 ≤ sh) (h1 : sh ≤ sh') (h2 : sh' ≤ 200) : shr sh' size m ≤ shr sh size m := by
  unfold shr
  by_cases hs : size < 0 ∨ 20000 < size
  · rw [if_pos (by omega), if_pos (by omega)]; omega
  · rw [if_neg (by omega), if_neg (by omega)]
    have e1 : size * sh ≤ size * sh' := Int.mul_le_mul_of_nonneg_left h1 (by omega)
    have e2 : size * sh * (3000 - max 0 (min m 3000)) ≤ size * sh' * (3000 - max 0 (min m 3000)) := Int.mul_le_mul_of_nonneg_right e1 (by omega)
    have e3 := Int.ediv_le_ediv (c := 3000000) (by omega) e2
    omega
theorem alwFrom_ge (sh th wi m : Int) : ∀ (n : Nat) (a : Int), a ≤ alwFrom sh th wi m n a ∧ alwFrom sh th wi m n a ≤ a + n
  | 0, a => by simp [alwFrom]
  | n + 1, a => by
    unfold alwFrom
    split
    · omega
    · have := alwFrom_ge sh th wi m n (a + 1)
      omega
theorem alwFrom_le {sh sh' th wi m m' : Int} (h : ∀ a, okA sh th wi m a = true → okA sh' th wi m' a = true) : ∀ (n : Nat) (a : Int), alwFrom sh' th wi m' n a ≤ alwFrom sh th wi m n a
  | 0, a => by simp [alwFrom]
  | n + 1, a => by
    unfold alwFrom
    by_cases h1 : okA sh th wi m a = true
    · rw [if_pos (h a h1), if_pos h1]; omega
    · rw [if_neg h1]
      split
      · have := alwFrom_ge sh th wi m n (a + 1); omega
      · exact alwFrom_le h n (a + 1)
theorem alw_moist {sh th wi m m' : Int} (hm : m ≤ m') : alw sh th wi m' ≤ alw sh th wi m := by
  unfold alw
  split
  · refine alwFrom_le (fun a ha => ?_) _ _
    simp only [okA, decide_eq_true_eq] at *
    have h1 := shr_moist (sh := sh) (size := grT th wi a) hm
    have h2 := shr_moist (sh := sh) (size := grW th wi a) hm
    omega
  · omega
theorem alw_wood {sh sh' th wi m : Int} (h0 : 0 ≤ sh) (h1 : sh ≤ sh') (h2 : sh' ≤ 200) : alw sh th wi m ≤ alw sh' th wi m := by
  unfold alw
  split
  · refine alwFrom_le (fun a ha => ?_) _ _
    simp only [okA, decide_eq_true_eq] at *
    have h3 := shr_wood (size := grT th wi a) (m := m) h0 h1 h2
    have h4 := shr_wood (size := grW th wi a) (m := m) h0 h1 h2
    omega
  · omega
theorem alw_range (sh th wi m : Int) : 0 ≤ alw sh th wi m ∧ alw sh th wi m ≤ 201 := by
  unfold alw
  split
  · have := alwFrom_ge sh th wi m 201 0; omega
  · omega

theorem mean_range (s c t : Int) : 0 ≤ mean s c t ∧ mean s c t ≤ 20000 := by
  unfold mean
  split
  · rename_i h; have := mck_zero h; omega
  · omega
theorem mean_core {s c t d : Int} (h : mck s c t = 0) (h' : mck s (c + d) t = 0) (hd : 0 ≤ d) : mean s c t ≤ mean s (c + d) t := by
  unfold mean
  rw [if_pos h, if_pos h']; omega

theorem alwFrom_spec (sh th wi m : Int) : ∀ (n : Nat) (a : Int), (alwFrom sh th wi m n a < a + n → okA sh th wi m (alwFrom sh th wi m n a) = true) ∧ (∀ b, a ≤ b → b < alwFrom sh th wi m n a → okA sh th wi m b = false)
  | 0, a => by simp only [alwFrom]; exact ⟨fun h => by omega, fun b h1 h2 => by omega⟩
  | n + 1, a => by
    have ih := alwFrom_spec sh th wi m n (a + 1)
    unfold alwFrom
    split
    · rename_i h
      exact ⟨fun _ => h, fun b h1 h2 => by omega⟩
    · rename_i h
      refine ⟨fun hh => ih.1 (by omega), fun b h1 h2 => ?_⟩
      by_cases hb : b = a
      · rw [hb]; simpa using h
      · exact ih.2 b (by omega) h2
theorem alw_ok {sh th wi m : Int} (hz : szd th wi = true) (h : alw sh th wi m ≤ 200) : okA sh th wi m (alw sh th wi m) = true := by
  unfold alw at *
  rw [if_pos hz] at *
  exact (alwFrom_spec sh th wi m 201 0).1 (by omega)
theorem alw_less {sh th wi m : Int} (hz : szd th wi = true) (h : 0 < alw sh th wi m) : okA sh th wi m (alw sh th wi m - 1) = false := by
  unfold alw at *
  rw [if_pos hz] at *
  exact (alwFrom_spec sh th wi m 201 0).2 _ (by omega) (by omega)

theorem gr_bound {th wi a : Int} (h1 : 1 ≤ th) (h2 : th ≤ 480) (h3 : 1 ≤ wi) (h4 : wi ≤ 480) (h5 : 0 ≤ a) (h6 : a ≤ 200) :
    1 ≤ grT th wi a ∧ grT th wi a ≤ 600 ∧ 1 ≤ grW th wi a ∧ grW th wi a ≤ 600 ∧ (th ≤ wi → grT th wi a ≤ grW th wi a) := by
  have hok : okG th wi a = true := by simp [okG]; omega
  simp only [grT, grW, hok, if_true, grw]
  have e1 : 1 * 1000 ≤ th * (1000 + a) := Int.mul_le_mul h1 (by omega) (by omega) (by omega)
  have e2 : th * (1000 + a) ≤ 480 * 1200 := Int.mul_le_mul h2 (by omega) (by omega) (by omega)
  have e3 : 1 * 1000 ≤ wi * (1000 + a) := Int.mul_le_mul h3 (by omega) (by omega) (by omega)
  have e4 : wi * (1000 + a) ≤ 480 * 1200 := Int.mul_le_mul h4 (by omega) (by omega) (by omega)
  refine ⟨by omega, by omega, by omega, by omega, fun h => ?_⟩
  have e5 : th * (1000 + a) ≤ wi * (1000 + a) := Int.mul_le_mul_of_nonneg_right h (by omega)
  exact Int.ediv_le_ediv (by omega) (by omega)

/-- what Under says of the board with the green sizes of an allowance -/
theorem und_green {sh th wi m a : Int} (h1 : 1 ≤ th) (h2 : th ≤ 480) (h3 : 1 ≤ wi) (h4 : wi ≤ 480) (h5 : 0 ≤ a) (h6 : a ≤ 200) (hm0 : 0 ≤ m) (hm1 : m ≤ 20000) (ht : th ≤ wi) :
    und (dT (-grT th wi a) 0 0 (grW th wi a) m m 0 sh) (dW (-grT th wi a) 0 0 (grW th wi a) m m 0 sh) th wi = !okA sh th wi m a := by
  obtain ⟨g1, g2, g3, g4, g5⟩ := gr_bound h1 h2 h3 h4 h5 h6
  have g5 := g5 ht
  have a1 : acr (-grT th wi a) 0 = true := by simp only [acr, decide_eq_true_eq]; omega
  have a2 : acr 0 (grW th wi a) = true := by simp only [acr, decide_eq_true_eq]; omega
  have hm : mean m m 0 = m := by
    have : mck m m 0 = 0 := by unfold mck; rw [if_neg (by omega), if_neg (by omega)]
    unfold mean; rw [if_pos this]; omega
  have e1 : min (0 - -grT th wi a) (grW th wi a - 0) = grT th wi a := by omega
  have e2 : max (0 - -grT th wi a) (grW th wi a - 0) = grW th wi a := by omega
  simp only [dT, dW, a1, a2, hm, e1, e2, and_self, if_true, und, okA]
  rw [← decide_not, decide_eq_decide]
  omega

end Go.Proofs.Ytmlgclkclnhmhaa
