/-
  Plain facts on the numbers of sizing (2): a moister board is not smaller, one of wood that shrinks more is not greater.
-/
import Derived.Test.YtmlgclkclnhmhaaM1
namespace Go.Proofs.Ytmlgclkclnhmhaa

theorem dT_moist {xa xb ya yb su co st su' co' st' sh : Int} (h : mean su co st ≤ mean su' co' st') : dT xa xb ya yb su co st sh ≤ dT xa xb ya yb su' co' st' sh ∧ dW xa xb ya yb su co st sh ≤ dW xa xb ya yb su' co' st' sh := by
  unfold dT dW
  split
  · exact ⟨shr_moist h, shr_moist h⟩
  · omega
theorem dT_wood {xa xb ya yb su co st sh sh' : Int} (h0 : 0 ≤ sh) (h1 : sh ≤ sh') (h2 : sh' ≤ 200) : dT xa xb ya yb su co st sh' ≤ dT xa xb ya yb su co st sh ∧ dW xa xb ya yb su co st sh' ≤ dW xa xb ya yb su co st sh := by
  unfold dT dW
  split
  · exact ⟨shr_wood h0 h1 h2, shr_wood h0 h1 h2⟩
  · omega
theorem dT_swap (xa xb ya yb su co st sh : Int) : dT ya yb xa xb su co st sh = dT xa xb ya yb su co st sh ∧ dW ya yb xa xb su co st sh = dW xa xb ya yb su co st sh := by
  unfold dT dW
  rw [Int.min_comm (yb - ya), Int.max_comm (yb - ya)]
  constructor <;> (congr 1; rw [And.comm])
theorem shr_size {sh size m : Int} (h0 : 0 ≤ size) (h1 : size ≤ 20000) : 0 ≤ shr sh size m ∧ shr sh size m ≤ size := by
  unfold shr
  split
  · omega
  · have e1 : 0 ≤ size * sh := Int.mul_nonneg h0 (by omega)
    have e2 : 0 ≤ size * sh * (3000 - max 0 (min m 3000)) := Int.mul_nonneg e1 (by omega)
    have e3 : size * sh ≤ size * 200 := Int.mul_le_mul_of_nonneg_left (by omega) h0
    have e4 : size * sh * (3000 - max 0 (min m 3000)) ≤ size * 200 * 3000 := Int.mul_le_mul e3 (by omega) (by omega) (Int.mul_nonneg h0 (by omega))
    have e5 : 0 ≤ size * sh * (3000 - max 0 (min m 3000)) / 3000000 := Int.ediv_nonneg e2 (by omega)
    have e6 : size * sh * (3000 - max 0 (min m 3000)) / 3000000 ≤ size := by
      refine Int.ediv_le_of_le_mul (by omega) ?_
      omega
    omega
theorem shr_le {sh a b m : Int} (h0 : 0 ≤ a) (h1 : a ≤ b) (h2 : b ≤ 20000) : shr sh a m ≤ shr sh b m := by
  by_cases hs : sh < 0 ∨ 200 < sh
  · unfold shr; rw [if_pos (by omega), if_pos (by omega)]; exact h1
  · unfold shr
    rw [if_neg (by omega), if_neg (by omega)]
    generalize hd : 3000 - max 0 (min m 3000) = d
    have d0 : 0 ≤ d := by omega
    have d1 : d ≤ 3000 := by omega
    obtain ⟨k, hk⟩ : ∃ k, b = a + k := ⟨b - a, by omega⟩
    subst hk
    have e1 : (a + k) * sh * d = a * sh * d + k * sh * d := by rw [Int.add_mul, Int.add_mul]
    have e2 : k * sh ≤ k * 200 := Int.mul_le_mul_of_nonneg_left (by omega) (by omega)
    have e3 : k * sh * d ≤ k * 200 * 3000 := Int.mul_le_mul e2 d1 d0 (Int.mul_nonneg (by omega) (by omega))
    rw [e1]
    omega
theorem shr_wet {sh size m : Int} (hm : 3000 ≤ m) : shr sh size m = size := by
  unfold shr
  split
  · rfl
  · rw [show 3000 - max 0 (min m 3000) = 0 from by omega, Int.mul_zero]; simp

end Go.Proofs.Ytmlgclkclnhmhaa
