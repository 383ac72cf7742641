/-
  Plain facts on the numbers of sizing (3): the volume of a dried board is at most that of its box.
-/
import Derived.Test.YtmlgclkclnhmhaaW10
import Derived.Test.YtmlgclkclnhmhaaL2
import Derived.Test.YtmlgclkclnhmhaaBase2
namespace Go.Proofs.Ytmlgclkclnhmhaa

theorem dT_eq {xa xb ya yb za zb su co st sh : Int} (h : bxB xa xb ya yb za zb = true) : dT xa xb ya yb su co st sh = shr sh (min (xb - xa) (yb - ya)) (mean su co st) ∧ dW xa xb ya yb su co st sh = shr sh (max (xb - xa) (yb - ya)) (mean su co st) := by
  obtain ⟨hx, hy, _⟩ := bxB_true h
  unfold dT dW
  rw [if_pos ⟨hx, hy⟩, if_pos ⟨hx, hy⟩]
  exact ⟨rfl, rfl⟩
theorem dT_nn (xa xb ya yb su co st sh : Int) : 0 ≤ dT xa xb ya yb su co st sh ∧ dT xa xb ya yb su co st sh ≤ dW xa xb ya yb su co st sh := by
  unfold dT dW
  split
  · rename_i h
    obtain ⟨x1, x2, x3⟩ := acr_true h.1
    obtain ⟨y1, y2, y3⟩ := acr_true h.2
    exact ⟨(shr_size (by omega) (by omega)).1, shr_le (by omega) (by omega) (by omega)⟩
  · omega
theorem vlm_le {t w a b l : Int} (t0 : 0 ≤ t) (ta : t ≤ a) (w0 : 0 ≤ w) (wb : w ≤ b) (a1 : a ≤ 1200) (b1 : b ≤ 1200) (l0 : 0 ≤ l) (l1 : l ≤ 20000) : vlm t w l ≤ vlm a b l := by
  have e0 : 0 ≤ t * w := Int.mul_nonneg t0 w0
  have e1 : t * w ≤ a * b := Int.mul_le_mul ta wb w0 (by omega)
  have e2 : a * b ≤ 1200 * 1200 := Int.mul_le_mul a1 b1 (by omega) (by omega)
  have e3 : t * w * l ≤ a * b * l := Int.mul_le_mul_of_nonneg_right e1 l0
  have e4 : a * b * l ≤ 1440000 * 20000 := Int.mul_le_mul (by omega) l1 l0 (by omega)
  have e5 : 0 ≤ t * w * l := Int.mul_nonneg e0 l0
  unfold vlm
  rw [IntWalk.wrap64_in (t * w) (by omega), IntWalk.wrap64_in (a * b) (by omega), IntWalk.wrap64_in _ (by omega), IntWalk.wrap64_in _ (by omega)]
  exact e3
theorem vlm_pos {a b l : Int} (a0 : 0 < a) (b0 : 0 < b) (a1 : a ≤ 1200) (b1 : b ≤ 1200) (l0 : 0 < l) (l1 : l ≤ 20000) : 0 < vlm a b l := by
  have e0 : 0 < a * b := Int.mul_pos a0 b0
  have e2 : a * b ≤ 1200 * 1200 := Int.mul_le_mul a1 b1 (by omega) (by omega)
  have e4 : a * b * l ≤ 1440000 * 20000 := Int.mul_le_mul (by omega) l1 (by omega) (by omega)
  have e5 : 0 < a * b * l := Int.mul_pos e0 l0
  unfold vlm
  rw [IntWalk.wrap64_in (a * b) (by omega), IntWalk.wrap64_in _ (by omega)]
  exact e5
theorem vlm_swap (a b l : Int) : vlm b a l = vlm a b l := by unfold vlm; rw [Int.mul_comm b a]

/-- all that SizingShrinks asks, for a board with a good box -/
theorem shrinks_facts {xa xb ya yb za zb su co st sh : Int} (h : bxB xa xb ya yb za zb = true) :
    (-600 ≤ xa ∧ xa < xb ∧ xb ≤ 600) ∧ (-600 ≤ ya ∧ ya < yb ∧ yb ≤ 600) ∧ bvl xa xb ya yb za zb ≠ 0 ∧
    dT xa xb ya yb su co st sh ≤ min (xb - xa) (yb - ya) ∧ dW xa xb ya yb su co st sh ≤ max (xb - xa) (yb - ya) ∧
    vlm (dT xa xb ya yb su co st sh) (dW xa xb ya yb su co st sh) (bln za zb) ≤ bvl xa xb ya yb za zb ∧
    (3000 ≤ mean su co st → dT xa xb ya yb su co st sh = min (xb - xa) (yb - ya) ∧ dW xa xb ya yb su co st sh = max (xb - xa) (yb - ya)) := by
  obtain ⟨hx, hy, hz⟩ := bxB_true h
  obtain ⟨x1, x2, x3⟩ := acr_true hx
  obtain ⟨y1, y2, y3⟩ := acr_true hy
  have hz' : 0 ≤ za ∧ zb ≤ 20000 ∧ za < zb := by simpa [alg] using hz
  obtain ⟨eT, eW⟩ := dT_eq (su := su) (co := co) (st := st) (sh := sh) h
  have hT := shr_size (sh := sh) (m := mean su co st) (size := min (xb - xa) (yb - ya)) (by omega) (by omega)
  have hW := shr_size (sh := sh) (m := mean su co st) (size := max (xb - xa) (yb - ya)) (by omega) (by omega)
  have eb : bvl xa xb ya yb za zb = vlm (min (xb - xa) (yb - ya)) (max (xb - xa) (yb - ya)) (zb - za) := by
    rw [bvl, if_pos h]
    rcases Int.le_total (xb - xa) (yb - ya) with g | g
    · rw [Int.min_eq_left g, Int.max_eq_right g]
    · rw [Int.min_eq_right g, Int.max_eq_left g, vlm_swap]
  have el : bln za zb = zb - za := by rw [bln, if_pos hz]
  refine ⟨⟨x1, x2, x3⟩, ⟨y1, y2, y3⟩, ?_, by rw [eT]; exact hT.2, by rw [eW]; exact hW.2, ?_, fun hm => ?_⟩
  · have := vlm_pos (a := min (xb - xa) (yb - ya)) (b := max (xb - xa) (yb - ya)) (l := zb - za) (by omega) (by omega) (by omega) (by omega) (by omega) (by omega)
    omega
  · rw [eT, eW, eb, el]
    exact vlm_le hT.1 hT.2 hW.1 hW.2 (by omega) (by omega) (by omega) (by omega)
  · rw [eT, eW, shr_wet hm, shr_wet hm]
    exact ⟨rfl, rfl⟩
theorem bvl_no {xa xb ya yb za zb : Int} (h : bxB xa xb ya yb za zb = false) : bvl xa xb ya yb za zb = 0 := by simp [bvl, h]

end Go.Proofs.Ytmlgclkclnhmhaa
