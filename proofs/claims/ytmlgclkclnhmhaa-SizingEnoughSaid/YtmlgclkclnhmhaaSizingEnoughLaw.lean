/-
  The statement SizingEnoughSaid: the law SizingEnough returns true for every input, and every argument reads as it did before.
-/
import Derived.Test.YtmlgclkclnhmhaaL3
namespace Go.Proofs.Ytmlgclkclnhmhaa.sizingEnough
open Go.ChangeShapes Go.WideShapes Go.ChangeAt Go.RowKit Go.Proofs.Ytmlgclkclnhmhaa
set_option linter.unusedVariables false

theorem own : ownKnob Try.prog.godebug = none := by kernel_rfl
theorem laidOut : laidOutB Try.prog = true := by kernel_rfl

theorem flat33 : flat Try.prog 3 33 = [.inr (.inl false), .inl .i64, .inl .i64, .inl .i64, .inl .i64, .inr (.inr 31), .inr (.inr 31)] := by kernel_rfl
theorem flat35 : flat Try.prog 3 35 = [.inr (.inl false), .inl .i64, .inl .i64, .inl .i64, .inl .i64, .inl .i64, .inl .i64, .inl .i64, .inl .i64, .inl .i64, .inl .i64, .inl .i64, .inl .i64] := by kernel_rfl

set_option maxRecDepth 100000 in
theorem lifted (os : Os) (started : os.Started) (H : Type) (enc : TypeId × Value → H) :
    ReturnsInHanded {} Try.checked os 6 .any (Rows.sizingEnoughSpec.pre6 enc Try.prog Try.f6 Rows.sizingEnoughRow.domain false) (Rows.sizingEnoughSpec.post enc Try.prog Try.f6 false true false false) := by
  refine returnsInHanded_of_change (C := Try.checked) own started (by kernel_rfl) Try.func6
    (ChangeSpec.witness6 (enc := enc) (C := Try.checked) false ⟨#[], #[.agg #[.string .empty, .int .i64 0, .int .i64 0, .int .i64 0, .int .i64 0, .slice none 0 0, .slice none 0 0], .agg #[.string .empty, .int .i64 0, .int .i64 0, .int .i64 0, .int .i64 0, .int .i64 0, .int .i64 0, .int .i64 0, .int .i64 0, .int .i64 0, .int .i64 0, .int .i64 0, .int .i64 0], .int .i64 0], []⟩ 8 (by kernel_rfl) (by kernel_rfl) (by kernel_rfl) (by kernel_rfl)) ?_
  intro W base args ds gs before hval0 hW hcnd _
  have hval : ∀ (j : Nat) t v, Try.f6.params[j]? = some t → args[j]? = some v → Value.okWide Try.prog W .any base t v := hval0
  have hW' := hW
  obtain ⟨p, q, hA0, hV, rfl, hfz, hnd⟩ := hW
  have hA : DataW.TrodAll enc Try.prog W 0 (fun _ => true) true Try.f6.params.toList args.toList ds p := hA0
  rw [Try.params6] at hA hval
  obtain ⟨v0, vs0, d0, ds0, p0, q0, hargs, rfl, rfl, h0, r0⟩ := trodAll_cons hA
  obtain ⟨v1, vs1, d1, ds1, p1, q1, rfl, rfl, rfl, h1, r1⟩ := trodAll_cons r0
  obtain ⟨v2, vs2, d2, ds2, p2, q2, rfl, rfl, rfl, h2, r2⟩ := trodAll_cons r1
  obtain ⟨rfl, rfl, rfl⟩ := trodAll_nil r2
  obtain rfl : args = #[v0, v1, v2] := by cases args; simp_all
  obtain ⟨cs0, rfl, f0_0⟩ := open_flat 3 (by kernel_rfl) (Or.inl ⟨_, Try.underlying33⟩) (hval 0 33 v0 rfl rfl) h0
  rw [flat33] at f0_0
  obtain ⟨a0_0, cs0_0, rfl, w0_0, f0_1⟩ := f0_0.str
  obtain ⟨a0_1, cs0_1, rfl, w0_1, f0_2⟩ := f0_1.int
  obtain ⟨a0_2, cs0_2, rfl, w0_2, f0_3⟩ := f0_2.int
  obtain ⟨a0_3, cs0_3, rfl, w0_3, f0_4⟩ := f0_3.int
  obtain ⟨a0_4, cs0_4, rfl, w0_4, f0_5⟩ := f0_4.int
  obtain ⟨a0_5, cs0_5, rfl, w0_5, f0_6⟩ := f0_5.other
  obtain ⟨a0_6, cs0_6, rfl, w0_6, f0_7⟩ := f0_6.other
  obtain rfl := f0_7.nil
  obtain ⟨cs1, rfl, f1_0⟩ := open_flat 3 (by kernel_rfl) (Or.inl ⟨_, Try.underlying35⟩) (hval 1 35 v1 rfl rfl) h1
  rw [flat35] at f1_0
  obtain ⟨a1_0, cs1_0, rfl, w1_0, f1_1⟩ := f1_0.str
  obtain ⟨a1_1, cs1_1, rfl, w1_1, f1_2⟩ := f1_1.int
  obtain ⟨a1_2, cs1_2, rfl, w1_2, f1_3⟩ := f1_2.int
  obtain ⟨a1_3, cs1_3, rfl, w1_3, f1_4⟩ := f1_3.int
  obtain ⟨a1_4, cs1_4, rfl, w1_4, f1_5⟩ := f1_4.int
  obtain ⟨a1_5, cs1_5, rfl, w1_5, f1_6⟩ := f1_5.int
  obtain ⟨a1_6, cs1_6, rfl, w1_6, f1_7⟩ := f1_6.int
  obtain ⟨a1_7, cs1_7, rfl, w1_7, f1_8⟩ := f1_7.int
  obtain ⟨a1_8, cs1_8, rfl, w1_8, f1_9⟩ := f1_8.int
  obtain ⟨a1_9, cs1_9, rfl, w1_9, f1_10⟩ := f1_9.int
  obtain ⟨a1_10, cs1_10, rfl, w1_10, f1_11⟩ := f1_10.int
  obtain ⟨a1_11, cs1_11, rfl, w1_11, f1_12⟩ := f1_11.int
  obtain ⟨a1_12, cs1_12, rfl, w1_12, f1_13⟩ := f1_12.int
  obtain rfl := f1_13.nil
  obtain ⟨a2, rfl, rfl, rfl, w2⟩ := open_int Try.underlying3 (hval 2 3 v2 rfl rfl) h2
  refine (enough_walk _ _ _ _ _ _ _ _ _ _ _ _ _ _ _ _ _ _ _ _ _ W).mono fun e W' hh => ?_
  obtain ⟨he, m, hm⟩ := hh
  subst he
  subst hm
  exact ⟨_, rfl, law_post (tb := 4) laidOut (of_decide_eq_true (by kernel_rfl)) (by kernel_rfl) Try.underlying4 rfl (fun ds h => by
    match ds, h with
    | [_, _, _], _ => exact ⟨rfl, rfl, rfl⟩) rfl hW' m.ext⟩

theorem over : Rows.sizingEnoughRow.holds Try.pinned (OpenSpec.ofChange Rows.sizingEnoughSpec) :=
  OpenClaim.holds_of_wide 6 Try.f6 rfl rfl rfl rfl rfl rfl rfl ⟨rfl, rfl, rfl, rfl, rfl⟩ rfl rfl rfl rfl rfl (by kernel_rfl) Try.func6 (by kernel_rfl)
    (of_decide_eq_true (by kernel_rfl)) (by unfold Func.isWrapper; first | (rw [if_pos (by decide +kernel)]; kernel_rfl) | (rw [if_neg (by decide +kernel)]; exact ⟨rfl, rfl⟩))
    (fun os started H enc _ => lifted os started H enc)

theorem proved : Rows.SizingEnoughSaid :=
  over
#print axioms proved
end Go.Proofs.Ytmlgclkclnhmhaa.sizingEnough
