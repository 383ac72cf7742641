/-
  The statement SizingMoister, its cases put together.
-/
import Derived.Test.YtmlgclkclnhmhaaL5
namespace Go.Proofs.Ytmlgclkclnhmhaa
open Go.RowKit
theorem moister_walk (id lg sp pr vo df wa dr gr : Value) (xa xb ya yb za zb su co st : Int) (sn : ByteArray) (s1 s2 s3 s4 s5 s6 s7 s8 s9 s10 s11 sh : Int) (m0 m1 : Int) (w : World) (o1 : id.oneCell' = true) (o2 : lg.oneCell' = true) (o3 : sp.oneCell' = true) (o4 : pr.oneCell' = true) (o5 : vo.oneCell' = true) (o6 : df.oneCell' = true) (o7 : wa.oneCell' = true) (o8 : dr.oneCell' = true) (o9 : gr.oneCell' = true) : Calls Try.prog 5 #[.agg #[id, lg, sp, pr, .int .i64 xa, .int .i64 xb, .int .i64 ya, .int .i64 yb, .int .i64 za, .int .i64 zb, vo, df, wa, .int .i64 su, .int .i64 co, .int .i64 st, dr, gr], .agg #[.string sn, .int .i64 s1, .int .i64 s2, .int .i64 s3, .int .i64 s4, .int .i64 s5, .int .i64 s6, .int .i64 s7, .int .i64 s8, .int .i64 s9, .int .i64 s10, .int .i64 s11, .int .i64 sh], .agg #[.int .i64 m0, .int .i64 m1]] w fun e w' => e = .returned (.bool true) ∧ ∃ n : ExtOf w, w' = n.val := by
  rcases d1 : decide (m0 < 0) with _ | _
  rotate_left
  · exact moister_a id lg sp pr vo df wa dr gr xa xb ya yb za zb su co st sn s1 s2 s3 s4 s5 s6 s7 s8 s9 s10 s11 sh m0 m1 w o1 o2 o3 o4 o5 o6 o7 o8 o9 d1
  rcases d2 : decide (20000 < m0) with _ | _
  rotate_left
  · exact moister_b id lg sp pr vo df wa dr gr xa xb ya yb za zb su co st sn s1 s2 s3 s4 s5 s6 s7 s8 s9 s10 s11 sh m0 m1 w o1 o2 o3 o4 o5 o6 o7 o8 o9 d1 d2
  rcases d3 : decide (m1 < 0) with _ | _
  rotate_left
  · exact moister_c id lg sp pr vo df wa dr gr xa xb ya yb za zb su co st sn s1 s2 s3 s4 s5 s6 s7 s8 s9 s10 s11 sh m0 m1 w o1 o2 o3 o4 o5 o6 o7 o8 o9 d1 d2 d3
  rcases d4 : decide (200 < m1) with _ | _
  rotate_left
  · exact moister_d id lg sp pr vo df wa dr gr xa xb ya yb za zb su co st sn s1 s2 s3 s4 s5 s6 s7 s8 s9 s10 s11 sh m0 m1 w o1 o2 o3 o4 o5 o6 o7 o8 o9 d1 d2 d3 d4
  rcases d5 : wd sh with _ | _
  · exact moister_e id lg sp pr vo df wa dr gr xa xb ya yb za zb su co st sn s1 s2 s3 s4 s5 s6 s7 s8 s9 s10 s11 sh m0 m1 w o1 o2 o3 o4 o5 o6 o7 o8 o9 d1 d2 d3 d4 d5
  rcases d6 : (mck su co st != 0) with _ | _
  rotate_left
  · exact moister_f id lg sp pr vo df wa dr gr xa xb ya yb za zb su co st sn s1 s2 s3 s4 s5 s6 s7 s8 s9 s10 s11 sh m0 m1 w o1 o2 o3 o4 o5 o6 o7 o8 o9 d1 d2 d3 d4 d5 d6
  have e1 : ¬ m0 < 0 := by simpa only [decide_eq_false_iff_not] using d1
  have e2 : ¬ 20000 < m0 := by simpa only [decide_eq_false_iff_not] using d2
  have e3 : ¬ m1 < 0 := by simpa only [decide_eq_false_iff_not] using d3
  have e4 : ¬ 200 < m1 := by simpa only [decide_eq_false_iff_not] using d4
  have e5 : 0 ≤ sh ∧ sh ≤ 200 := by simpa [wd] using d5
  have e6 : mck su co st = 0 := by simpa using d6
  obtain ⟨_, _, c0, c1, _, _⟩ := mck_zero e6
  rcases k1 : (mck su (co + m0) st == 0) with _ | _
  · rcases k4 : wd (sh + m1) with _ | _
    · exact moister_j id lg sp pr vo df wa dr gr xa xb ya yb za zb su co st sn s1 s2 s3 s4 s5 s6 s7 s8 s9 s10 s11 sh m0 m1 w o1 o2 o3 o4 o5 o6 o7 o8 o9 d1 d2 d3 d4 d5 d6 c0 c1 e5.1 e5.2 (by omega) (by omega) (by omega) (by omega) k1 k4
    · have e7 : 0 ≤ sh + m1 ∧ sh + m1 ≤ 200 := by simpa [wd] using k4
      have k5 := dT_wood (xa := xa) (xb := xb) (ya := ya) (yb := yb) (su := su) (co := co) (st := st) e5.1 (by omega : sh ≤ sh + m1) e7.2
      exact moister_i id lg sp pr vo df wa dr gr xa xb ya yb za zb su co st sn s1 s2 s3 s4 s5 s6 s7 s8 s9 s10 s11 sh m0 m1 w o1 o2 o3 o4 o5 o6 o7 o8 o9 d1 d2 d3 d4 d5 d6 c0 c1 e5.1 e5.2 (by omega) (by omega) (by omega) (by omega) k1 k4 (decide_eq_true k5.1) (decide_eq_true k5.2)
  · have e8 : mck su (co + m0) st = 0 := by simpa using k1
    have k2 := dT_moist (xa := xa) (xb := xb) (ya := ya) (yb := yb) (sh := sh) (mean_core e6 e8 (by omega))
    have k2' : decide (dT xa xb ya yb su (co + m0) st sh < dT xa xb ya yb su co st sh) = false := decide_eq_false (by omega)
    have k3' : decide (dW xa xb ya yb su (co + m0) st sh < dW xa xb ya yb su co st sh) = false := decide_eq_false (by omega)
    rcases k4 : wd (sh + m1) with _ | _
    · exact moister_h id lg sp pr vo df wa dr gr xa xb ya yb za zb su co st sn s1 s2 s3 s4 s5 s6 s7 s8 s9 s10 s11 sh m0 m1 w o1 o2 o3 o4 o5 o6 o7 o8 o9 d1 d2 d3 d4 d5 d6 c0 c1 e5.1 e5.2 (by omega) (by omega) (by omega) (by omega) k1 k2' k3' k4
    · have e7 : 0 ≤ sh + m1 ∧ sh + m1 ≤ 200 := by simpa [wd] using k4
      have k5 := dT_wood (xa := xa) (xb := xb) (ya := ya) (yb := yb) (su := su) (co := co) (st := st) e5.1 (by omega : sh ≤ sh + m1) e7.2
      exact moister_g id lg sp pr vo df wa dr gr xa xb ya yb za zb su co st sn s1 s2 s3 s4 s5 s6 s7 s8 s9 s10 s11 sh m0 m1 w o1 o2 o3 o4 o5 o6 o7 o8 o9 d1 d2 d3 d4 d5 d6 c0 c1 e5.1 e5.2 (by omega) (by omega) (by omega) (by omega) k1 k2' k3' k4 (decide_eq_true k5.1) (decide_eq_true k5.2)

end Go.Proofs.Ytmlgclkclnhmhaa
