/-
  The statement SpanLensSaid: the law SpanLens returns true for every input, and every argument reads as it did before.
-/
import Derived.Test.YtfbcaafkekcmbaaL1
namespace Go.Proofs.Ytfbcaafkekcmbaa.spanLens
open Go.ChangeShapes Go.WideShapes Go.ChangeAt Go.RowKit Go.Proofs.Ytfbcaafkekcmbaa
set_option linter.unusedVariables false

theorem own : ownKnob Try.prog.godebug = none := by kernel_rfl
theorem laidOut : laidOutB Try.prog = true := by kernel_rfl

theorem flat23 : flat Try.prog 3 23 = [.inl .i64, .inl .i64] := by kernel_rfl

set_option maxRecDepth 100000 in
theorem lifted (os : Os) (started : os.Started) (H : Type) (enc : TypeId × Value → H) :
    ReturnsInHanded {} Try.checked os 3 .any (Rows.spanLensSpec.pre6 enc Try.prog Try.f3 Rows.spanLensRow.domain false) (Rows.spanLensSpec.post enc Try.prog Try.f3 false true false false) := by
  refine returnsInHanded_of_change (C := Try.checked) own started (by kernel_rfl) Try.func3
    (ChangeSpec.witness6 (enc := enc) (C := Try.checked) false ⟨#[], #[.agg #[.int .i64 0, .int .i64 0], .agg #[.int .i64 0, .int .i64 0]], []⟩ 8 (by kernel_rfl) (by kernel_rfl) (by kernel_rfl) (by kernel_rfl)) ?_
  intro W base args ds gs before hval0 hW hcnd _
  have hval : ∀ (j : Nat) t v, Try.f3.params[j]? = some t → args[j]? = some v → Value.okWide Try.prog W .any base t v := hval0
  have hW' := hW
  obtain ⟨p, q, hA0, hV, rfl, hfz, hnd⟩ := hW
  have hA : DataW.TrodAll enc Try.prog W 0 (fun _ => true) true Try.f3.params.toList args.toList ds p := hA0
  rw [Try.params3] at hA hval
  obtain ⟨v0, vs0, d0, ds0, p0, q0, hargs, rfl, rfl, h0, r0⟩ := trodAll_cons hA
  obtain ⟨v1, vs1, d1, ds1, p1, q1, rfl, rfl, rfl, h1, r1⟩ := trodAll_cons r0
  obtain ⟨rfl, rfl, rfl⟩ := trodAll_nil r1
  obtain rfl : args = #[v0, v1] := by cases args; simp_all
  obtain ⟨cs0, rfl, f0_0⟩ := open_flat 3 (by kernel_rfl) (Or.inl ⟨_, Try.underlying23⟩) (hval 0 23 v0 rfl rfl) h0
  rw [flat23] at f0_0
  obtain ⟨a0_0, cs0_0, rfl, w0_0, f0_1⟩ := f0_0.int
  obtain ⟨a0_1, cs0_1, rfl, w0_1, f0_2⟩ := f0_1.int
  obtain rfl := f0_2.nil
  obtain ⟨cs1, rfl, f1_0⟩ := open_flat 3 (by kernel_rfl) (Or.inl ⟨_, Try.underlying23⟩) (hval 1 23 v1 rfl rfl) h1
  rw [flat23] at f1_0
  obtain ⟨a1_0, cs1_0, rfl, w1_0, f1_1⟩ := f1_0.int
  obtain ⟨a1_1, cs1_1, rfl, w1_1, f1_2⟩ := f1_1.int
  obtain rfl := f1_2.nil
  refine ((fun W => lens_walk (_, _) (_, _) W (In_of w0_0 w0_1)) W).mono fun e W' hh => ?_
  obtain ⟨he, m, hm⟩ := hh
  subst he
  subst hm
  exact ⟨_, rfl, law_post (tb := 4) laidOut (of_decide_eq_true (by kernel_rfl)) (by kernel_rfl) Try.underlying4 rfl (fun ds h => by
    match ds, h with
    | [_, _], _ => exact ⟨rfl, rfl, rfl⟩) rfl hW' m.ext⟩

theorem over : Rows.spanLensRow.holds Try.pinned (OpenSpec.ofChange Rows.spanLensSpec) :=
  OpenClaim.holds_of_wide 3 Try.f3 rfl rfl rfl rfl rfl rfl rfl ⟨rfl, rfl, rfl, rfl, rfl⟩ rfl rfl rfl rfl rfl (by kernel_rfl) Try.func3 (by kernel_rfl)
    (of_decide_eq_true (by kernel_rfl)) (by unfold Func.isWrapper; first | (rw [if_pos (by decide +kernel)]; kernel_rfl) | (rw [if_neg (by decide +kernel)]; exact ⟨rfl, rfl⟩))
    (fun os started H enc _ => lifted os started H enc)

theorem proved : Rows.SpanLensSaid :=
  over
#print axioms proved
end Go.Proofs.Ytfbcaafkekcmbaa.spanLens
