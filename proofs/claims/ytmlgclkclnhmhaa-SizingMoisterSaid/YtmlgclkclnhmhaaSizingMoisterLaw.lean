/-
  The statement SizingMoisterSaid: the law SizingMoister returns true for every input, and every argument reads as it did before.
-/
import Derived.Test.YtmlgclkclnhmhaaL6
namespace Go.Proofs.Ytmlgclkclnhmhaa.sizingMoister
open Go.ChangeShapes Go.WideShapes Go.ChangeAt Go.RowKit Go.Proofs.Ytmlgclkclnhmhaa
set_option linter.unusedVariables false

theorem own : ownKnob Try.prog.godebug = none := by kernel_rfl
theorem laidOut : laidOutB Try.prog = true := by kernel_rfl

theorem flat30 : flat Try.prog 5 30 = [.inr (.inl false), .inr (.inl false), .inr (.inl false), .inl .i64, .inl .i64, .inl .i64, .inl .i64, .inl .i64, .inl .i64, .inl .i64, .inl .i64, .inr (.inr 26), .inl .i64, .inl .i64, .inl .i64, .inl .i64, .inr (.inl true), .inl .i64] := by kernel_rfl
theorem flat35 : flat Try.prog 3 35 = [.inr (.inl false), .inl .i64, .inl .i64, .inl .i64, .inl .i64, .inl .i64, .inl .i64, .inl .i64, .inl .i64, .inl .i64, .inl .i64, .inl .i64, .inl .i64] := by kernel_rfl
theorem flat43 : flat Try.prog 3 43 = [.inl .i64, .inl .i64] := by kernel_rfl

set_option maxRecDepth 100000 in
theorem lifted (os : Os) (started : os.Started) (H : Type) (enc : TypeId × Value → H) :
    ReturnsInHanded {} Try.checked os 5 .any (Rows.sizingMoisterSpec.pre6 enc Try.prog Try.f5 Rows.sizingMoisterRow.domain false) (Rows.sizingMoisterSpec.post enc Try.prog Try.f5 false true false false) := by
  refine returnsInHanded_of_change (C := Try.checked) own started (by kernel_rfl) Try.func5
    (ChangeSpec.witness6 (enc := enc) (C := Try.checked) false ⟨#[], #[.agg #[.string .empty, .string .empty, .string .empty, .int .i64 0, .int .i64 0, .int .i64 0, .int .i64 0, .int .i64 0, .int .i64 0, .int .i64 0, .int .i64 0, .slice none 0 0, .int .i64 0, .int .i64 0, .int .i64 0, .int .i64 0, .bool false, .int .i64 0], .agg #[.string .empty, .int .i64 0, .int .i64 0, .int .i64 0, .int .i64 0, .int .i64 0, .int .i64 0, .int .i64 0, .int .i64 0, .int .i64 0, .int .i64 0, .int .i64 0, .int .i64 0], .agg #[.int .i64 0, .int .i64 0]], []⟩ 8 (by kernel_rfl) (by kernel_rfl) (by kernel_rfl) (by kernel_rfl)) ?_
  intro W base args ds gs before hval0 hW hcnd _
  have hval : ∀ (j : Nat) t v, Try.f5.params[j]? = some t → args[j]? = some v → Value.okWide Try.prog W .any base t v := hval0
  have hW' := hW
  obtain ⟨p, q, hA0, hV, rfl, hfz, hnd⟩ := hW
  have hA : DataW.TrodAll enc Try.prog W 0 (fun _ => true) true Try.f5.params.toList args.toList ds p := hA0
  rw [Try.params5] at hA hval
  obtain ⟨v0, vs0, d0, ds0, p0, q0, hargs, rfl, rfl, h0, r0⟩ := trodAll_cons hA
  obtain ⟨v1, vs1, d1, ds1, p1, q1, rfl, rfl, rfl, h1, r1⟩ := trodAll_cons r0
  obtain ⟨v2, vs2, d2, ds2, p2, q2, rfl, rfl, rfl, h2, r2⟩ := trodAll_cons r1
  obtain ⟨rfl, rfl, rfl⟩ := trodAll_nil r2
  obtain rfl : args = #[v0, v1, v2] := by cases args; simp_all
  obtain ⟨cs0, rfl, f0_0⟩ := open_flat 5 (by kernel_rfl) (Or.inl ⟨_, Try.underlying30⟩) (hval 0 30 v0 rfl rfl) h0
  rw [flat30] at f0_0
  obtain ⟨a0_0, cs0_0, rfl, w0_0, f0_1⟩ := f0_0.str
  obtain ⟨a0_1, cs0_1, rfl, w0_1, f0_2⟩ := f0_1.str
  obtain ⟨a0_2, cs0_2, rfl, w0_2, f0_3⟩ := f0_2.str
  obtain ⟨a0_3, cs0_3, rfl, w0_3, f0_4⟩ := f0_3.int
  obtain ⟨a0_4, cs0_4, rfl, w0_4, f0_5⟩ := f0_4.int
  obtain ⟨a0_5, cs0_5, rfl, w0_5, f0_6⟩ := f0_5.int
  obtain ⟨a0_6, cs0_6, rfl, w0_6, f0_7⟩ := f0_6.int
  obtain ⟨a0_7, cs0_7, rfl, w0_7, f0_8⟩ := f0_7.int
  obtain ⟨a0_8, cs0_8, rfl, w0_8, f0_9⟩ := f0_8.int
  obtain ⟨a0_9, cs0_9, rfl, w0_9, f0_10⟩ := f0_9.int
  obtain ⟨a0_10, cs0_10, rfl, w0_10, f0_11⟩ := f0_10.int
  obtain ⟨a0_11, cs0_11, rfl, w0_11, f0_12⟩ := f0_11.other
  obtain ⟨a0_12, cs0_12, rfl, w0_12, f0_13⟩ := f0_12.int
  obtain ⟨a0_13, cs0_13, rfl, w0_13, f0_14⟩ := f0_13.int
  obtain ⟨a0_14, cs0_14, rfl, w0_14, f0_15⟩ := f0_14.int
  obtain ⟨a0_15, cs0_15, rfl, w0_15, f0_16⟩ := f0_15.int
  obtain ⟨a0_16, cs0_16, rfl, f0_17⟩ := f0_16.bool
  obtain ⟨a0_17, cs0_17, rfl, w0_17, f0_18⟩ := f0_17.int
  obtain rfl := f0_18.nil
  obtain ⟨cs1, rfl, f1_0⟩ := open_flat 3 (by kernel_rfl) (Or.inl ⟨_, Try.underlying35⟩) (hval 1 35 v1 rfl rfl) h1
  rw [flat35] at f1_0
  obtain ⟨a1_0, cs1_0, rfl, w1_0, f1_1⟩ := f1_0.str
  obtain ⟨a1_1, cs1_1, rfl, w1_1, f1_2⟩ := f1_1.int
  obtain ⟨a1_2, cs1_2, rfl, w1_2, f1_3⟩ := f1_2.int
  obtain ⟨a1_3, cs1_3, rfl, w1_3, f1_4⟩ := f1_3.int
  obtain ⟨a1_4, cs1_4, rfl, w1_4, f1_5⟩ := f1_4.int
  obtain ⟨a1_5, cs1_5, rfl, w1_5, f1_6⟩ := f1_5.int
  obtain ⟨a1_6, cs1_6, rfl, w1_6, f1_7⟩ := f1_6.int
  obtain ⟨a1_7, cs1_7, rfl, w1_7, f1_8⟩ := f1_7.int
  obtain ⟨a1_8, cs1_8, rfl, w1_8, f1_9⟩ := f1_8.int
  obtain ⟨a1_9, cs1_9, rfl, w1_9, f1_10⟩ := f1_9.int
  obtain ⟨a1_10, cs1_10, rfl, w1_10, f1_11⟩ := f1_10.int
  obtain ⟨a1_11, cs1_11, rfl, w1_11, f1_12⟩ := f1_11.int
  obtain ⟨a1_12, cs1_12, rfl, w1_12, f1_13⟩ := f1_12.int
  obtain rfl := f1_13.nil
  obtain ⟨cs2, rfl, f2_0⟩ := open_flat 3 (by kernel_rfl) (Or.inr ⟨_, _, Try.underlying43⟩) (hval 2 43 v2 rfl rfl) h2
  rw [flat43] at f2_0
  obtain ⟨a2_0, cs2_0, rfl, w2_0, f2_1⟩ := f2_0.int
  obtain ⟨a2_1, cs2_1, rfl, w2_1, f2_2⟩ := f2_1.int
  obtain rfl := f2_2.nil
  refine ((fun W => moister_walk _ _ _ _ _ _ _ _ _ _ _ _ _ _ _ _ _ _ _ _ _ _ _ _ _ _ _ _ _ _ _ _ _ W rfl rfl rfl rfl rfl (trod_slice_one Try.underlying26 w0_11) rfl rfl rfl) W).mono fun e W' hh => ?_
  obtain ⟨he, m, hm⟩ := hh
  subst he
  subst hm
  exact ⟨_, rfl, law_post (tb := 4) laidOut (of_decide_eq_true (by kernel_rfl)) (by kernel_rfl) Try.underlying4 rfl (fun ds h => by
    match ds, h with
    | [_, _, _], _ => exact ⟨rfl, rfl, rfl⟩) rfl hW' m.ext⟩

theorem over : Rows.sizingMoisterRow.holds Try.pinned (OpenSpec.ofChange Rows.sizingMoisterSpec) :=
  OpenClaim.holds_of_wide 5 Try.f5 rfl rfl rfl rfl rfl rfl rfl ⟨rfl, rfl, rfl, rfl, rfl⟩ rfl rfl rfl rfl rfl (by kernel_rfl) Try.func5 (by kernel_rfl)
    (of_decide_eq_true (by kernel_rfl)) (by unfold Func.isWrapper; first | (rw [if_pos (by decide +kernel)]; kernel_rfl) | (rw [if_neg (by decide +kernel)]; exact ⟨rfl, rfl⟩))
    (fun os started H enc _ => lifted os started H enc)

theorem proved : Rows.SizingMoisterSaid :=
  over
#print axioms proved
end Go.Proofs.Ytmlgclkclnhmhaa.sizingMoister
