/-
  The statement AssignFirstSaid: the law AssignFirst returns true for every input, and every argument reads as it did before.
-/
import Derived.Test.YthchddkdcibbhaaD5
namespace Go.Proofs.Ythchddkdcibbhaa.assignFirst
open Go.ChangeShapes Go.WideShapes Go.ChangeAt Go.RowKit Go.Proofs.Ythchddkdcibbhaa
set_option linter.unusedVariables false

theorem own : ownKnob Try.prog.godebug = none := by kernel_rfl
theorem laidOut : laidOutB Try.prog = true := by kernel_rfl

theorem flat31 : flat Try.prog 3 31 = [.inr (.inr 25), .inr (.inr 29), .inr (.inr 29)] := by kernel_rfl

set_option maxRecDepth 100000 in
theorem lifted (os : Os) (started : os.Started) (H : Type) (enc : TypeId × Value → H) :
    ReturnsInHanded {} Try.checked os 8 .any (Rows.assignFirstSpec.pre6 enc Try.prog Try.f8 Rows.assignFirstRow.domain false) (Rows.assignFirstSpec.post enc Try.prog Try.f8 false true false false) := by
  refine returnsInHanded_of_change (C := Try.checked) own started (by kernel_rfl) Try.func8
    (ChangeSpec.witness6 (enc := enc) (C := Try.checked) false ⟨#[], #[.agg #[.slice none 0 0, .slice none 0 0, .slice none 0 0], .slice none 0 0], []⟩ 8 (by kernel_rfl) (by kernel_rfl) (by kernel_rfl) (by kernel_rfl)) ?_
  intro W base args ds gs before hval0 hW hcnd _
  have hval : ∀ (j : Nat) t v, Try.f8.params[j]? = some t → args[j]? = some v → Value.okWide Try.prog W .any base t v := hval0
  have hW' := hW
  obtain ⟨p, q, hA0, hV, rfl, hfz, hnd⟩ := hW
  have hA : DataW.TrodAll enc Try.prog W 0 (fun _ => true) true Try.f8.params.toList args.toList ds p := hA0
  rw [Try.params8] at hA hval
  obtain ⟨v0, vs0, d0, ds0, p0, q0, hargs, rfl, rfl, h0, r0⟩ := trodAll_cons hA
  obtain ⟨v1, vs1, d1, ds1, p1, q1, rfl, rfl, rfl, h1, r1⟩ := trodAll_cons r0
  obtain ⟨rfl, rfl, rfl⟩ := trodAll_nil r1
  obtain rfl : args = #[v0, v1] := by cases args; simp_all
  obtain ⟨cs0, rfl, f0_0⟩ := open_flat 3 (by kernel_rfl) (Or.inl ⟨_, Try.underlying31⟩) (hval 0 31 v0 rfl rfl) h0
  rw [flat31] at f0_0
  obtain ⟨a0_0, cs0_0, rfl, w0_0, f0_1⟩ := f0_0.other
  obtain ⟨l0_0, s0_0⟩ := leaf_grid w0_0
  obtain ⟨a0_1, cs0_1, rfl, w0_1, f0_2⟩ := f0_1.other
  obtain ⟨l0_1, s0_1⟩ := leaf_ints w0_1
  obtain ⟨a0_2, cs0_2, rfl, w0_2, f0_3⟩ := f0_2.other
  obtain ⟨l0_2, s0_2⟩ := leaf_ints w0_2
  obtain rfl := f0_3.nil
  obtain ⟨l1, s1⟩ := par_ints (hval 1 29 v1 rfl rfl) h1
  refine (first_walk l0_0 l0_1 l0_2 l1 a0_0 a0_1 a0_2 v1 W s0_0 s0_1 s0_2 s1).mono fun e W' hh => ?_
  obtain ⟨he, m, hm⟩ := hh
  subst he
  subst hm
  exact ⟨_, rfl, law_post (tb := 4) laidOut (of_decide_eq_true (by kernel_rfl)) (by kernel_rfl) Try.underlying4 rfl (fun ds h => by
    match ds, h with
    | [_, _], _ => exact ⟨rfl, rfl, rfl⟩) rfl hW' m.ext⟩

theorem over : Rows.assignFirstRow.holds Try.pinned (OpenSpec.ofChange Rows.assignFirstSpec) :=
  OpenClaim.holds_of_wide 8 Try.f8 rfl rfl rfl rfl rfl rfl rfl ⟨rfl, rfl, rfl, rfl, rfl⟩ rfl rfl rfl rfl rfl (by kernel_rfl) Try.func8 (by kernel_rfl)
    (of_decide_eq_true (by kernel_rfl)) (by unfold Func.isWrapper; first | (rw [if_pos (by decide +kernel)]; kernel_rfl) | (rw [if_neg (by decide +kernel)]; exact ⟨rfl, rfl⟩))
    (fun os started H enc _ => lifted os started H enc)

theorem proved : Rows.AssignFirstSaid :=
  over
#print axioms proved
end Go.Proofs.Ythchddkdcibbhaa.assignFirst
