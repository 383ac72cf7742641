/-
  The statement StateChecksSaid: the law StateChecks returns true for every input, and every argument reads as it did before.
-/
import Derived.Test.YteokijolhbohaaaGreatDoorS29
import Derived.Test.YteokijolhbohaaaGreatDoorS31
import Derived.Test.YteokijolhbohaaaGreatDoorGoes
import Derived.Test.YteokijolhbohaaaGreatDoorClosed0
import Derived.Test.YteokijolhbohaaaGreatDoorClosed1
import Derived.Test.YteokijolhbohaaaGreatDoorClosed2
import Derived.Test.YteokijolhbohaaaGreatDoorClosed3
import Derived.Test.YteokijolhbohaaaGreatDoorCards
import Derived.Test.YteokijolhbohaaaGreatDoorTie
import Derived.ProofKit
import Derived.LaidMore
import Derived.OpenShut
import Derived.Stop.Joined
import Derived.SevenTiedAt
namespace Go.Proofs.YteokijolhbohaaaGreatDoor.stateChecks
open Go.ChangeShapes Go.WideShapes Go.ChangeAt Go.RowKit Go.Proofs.YteokijolhbohaaaGreatDoor
set_option linter.unusedVariables false

theorem own : ownKnob Tryz.prog.godebug = none := by kernel_rfl
theorem laidOut : laidOutB Tryz.prog = true := by kernel_rfl

theorem flat31 : flat Tryz.prog 4 31 = [.inr (.inr 22), .inr (.inr 23), .inr (.inr 24), .inr (.inr 25), .inl .i64, .inl .i64, .inl .i64, .inl .i64, .inl .i64, .inl .i64, .inl .i64, .inl .i64, .inl .i64] := by kernel_rfl

abbrev laid3 : List (String × DataW Unit) := Rows.stateChecksRow.laid
set_option maxRecDepth 100000 in
theorem door_met (os : Os) (args : Array Value) : laidMetH Tryz.prog laid3 ((World.doorLaid Tryz.prog 400 os).forCall (fun _ _ => 0) ⟨#[], args, []⟩).memory :=
  laidMetH_of_parts3 (fuel := 8) (laidMet_of_run' 8 (by kernel_rfl) (by kernel_rfl)) (by kernel_rfl) (by kernel_rfl)
set_option maxRecDepth 100000 in
theorem lifted (os : Os) (started : os.Started) (H : Type) (enc : TypeId × Value → H) :
    ReturnsInHanded {} Tryz.checked os 3 .any (fun w args => (Rows.stateChecksSpec.pre enc Tryz.prog Tryz.f3 [] false w args ∧ laidMetH Tryz.prog laid3 w) ∧ sizedMet enc Tryz.prog Tryz.f3 (OpenSpec.ofChange Rows.stateChecksSpec) false w args) (Rows.stateChecksSpec.post enc Tryz.prog Tryz.f3 false true false false) := by
  refine returnsInHanded_of_change_and (C := Tryz.checked) (X := fun w _ => laidMetH Tryz.prog laid3 w) (fun _ _ _ hh h => h.of_heap hh) own started (by kernel_rfl) Tryz.func3
    (ChangeSpec.witness_shaped (enc := enc) (C := Tryz.checked) (os := os) (X := fun w _ => laidMetH Tryz.prog laid3 w) false (World.doorLaid Tryz.prog 400 os) #[.agg #[.slice none 0 0, .slice none 0 0, .slice none 0 0, .slice none 0 0, .int .i64 0, .int .i64 0, .int .i64 0, .int .i64 0, .int .i64 0, .int .i64 0, .int .i64 0, .int .i64 0, .int .i64 0]] 8 rfl (World.shaped_of_RefB (by kernel_rfl) (by kernel_rfl)) (by kernel_rfl) (by kernel_rfl) (by kernel_rfl) (door_met os _)) ?_
  intro W base args ds gs before hval0 hW _ _ hL _
  have hval : ∀ (j : Nat) t v, Tryz.f3.params[j]? = some t → args[j]? = some v → Value.okWide Tryz.prog W .any base t v := hval0
  have hW' := hW
  obtain ⟨p, q, hA0, hV, rfl, hfz, hnd⟩ := hW
  have hA : DataW.TrodAll enc Tryz.prog W 0 (fun _ => true) true Tryz.f3.params.toList args.toList ds p := hA0
  rw [Tryz.params3] at hA hval
  have htab := tab_of hL
  obtain ⟨v0, vs0, d0, ds0, p0, q0, hargs, rfl, rfl, h0, r0⟩ := trodAll_cons hA
  obtain ⟨rfl, rfl, rfl⟩ := trodAll_nil r0
  obtain rfl : args = #[v0] := by cases args; simp_all
  obtain ⟨cs0, rfl, f0_0⟩ := open_flat 4 (by kernel_rfl) (Or.inl ⟨_, Tryz.underlying31⟩) (hval 0 31 v0 rfl rfl) h0
  rw [flat31] at f0_0
  obtain ⟨a0_0, cs0_0, rfl, w0_0, f0_1⟩ := f0_0.other
  obtain ⟨l0_0, s0_0⟩ := leafPd w0_0
  obtain ⟨a0_1, cs0_1, rfl, w0_1, f0_2⟩ := f0_1.other
  obtain ⟨l0_1, s0_1⟩ := leafSpc w0_1
  obtain ⟨a0_2, cs0_2, rfl, w0_2, f0_3⟩ := f0_2.other
  obtain ⟨l0_2, s0_2⟩ := leafRu w0_2
  obtain ⟨a0_3, cs0_3, rfl, w0_3, f0_4⟩ := f0_3.other
  obtain ⟨l0_3, s0_3⟩ := leafSch w0_3
  obtain ⟨a0_4, cs0_4, rfl, w0_4, f0_5⟩ := f0_4.int
  obtain ⟨a0_5, cs0_5, rfl, w0_5, f0_6⟩ := f0_5.int
  obtain ⟨a0_6, cs0_6, rfl, w0_6, f0_7⟩ := f0_6.int
  obtain ⟨a0_7, cs0_7, rfl, w0_7, f0_8⟩ := f0_7.int
  obtain ⟨a0_8, cs0_8, rfl, w0_8, f0_9⟩ := f0_8.int
  obtain ⟨a0_9, cs0_9, rfl, w0_9, f0_10⟩ := f0_9.int
  obtain ⟨a0_10, cs0_10, rfl, w0_10, f0_11⟩ := f0_10.int
  obtain ⟨a0_11, cs0_11, rfl, w0_11, f0_12⟩ := f0_11.int
  obtain ⟨a0_12, cs0_12, rfl, w0_12, f0_13⟩ := f0_12.int
  obtain rfl := f0_13.nil
  refine (law_walk ⟨l0_0, l0_1, l0_2, l0_3⟩ _ _ _ _ _ _ _ _ _ _ _ _ _ W ⟨s0_0, s0_1, s0_2, s0_3⟩ htab).mono fun e W' hh => ?_
  obtain ⟨he, m, hm⟩ := hh
  subst he
  subst hm
  exact ⟨_, rfl, law_post (tb := 4) laidOut (of_decide_eq_true (by kernel_rfl)) (by kernel_rfl) Tryz.underlying4 rfl (fun ds h => by
    match ds, h with
    | [_], _ => exact ⟨rfl, rfl, rfl⟩) rfl hW' m.ext⟩

theorem joined : joinedFacts Tryz.prog 3 Tryz.f3 Rows.stateChecksSpec Rows.stateChecksRow = true :=
  Closed.joined_of Closed.k1 Closed.k2 Closed.k3 Closed.k4 Closed.k5 Closed.k6 Closed.k7 Closed.k8 Closed.k9 Closed.k10 Closed.k11 Closed.k12 Closed.k13 Closed.k14 Closed.k15 Closed.k16 Closed.k17 Closed.k17b Closed.k18 Closed.k19 Closed.k20 Closed.k21 Closed.k22 Closed.k23 Closed.k23b Closed.k24 Closed.k24b Closed.k24c Closed.k25 Closed.k25b Closed.k26 Closed.k27 Closed.k28
theorem over : Rows.StateChecksSaid :=
  OpenClaim.holds_of_wide 3 Tryz.f3 rfl rfl rfl rfl rfl rfl rfl ⟨rfl, rfl, rfl, rfl, rfl⟩ rfl rfl rfl rfl rfl Closed.kf Tryz.func3 joined
    Closed.ki Closed.kw
    (fun os started H enc _ => lifted os started H enc)
theorem goesNone : Tryz.prog.funcs.any Func.goes = false := by kernel_rfl
theorem proved : Rows.StateChecksCardSaid :=
  Claim7.holds_tied_plain_at .later [] [.data, .data, .data, .data, .data, .data] true (true, "8edccc9da35160a0a0d8749ffde7ec99171e48408ad3d842fa0f7bd6a7f8a251") false
    over (fun _ h => by cases h) (by kernel_rfl) (fun _ h => by cases h) stateChecks_row_tie rfl ⟨rfl, rfl⟩ (by kernel_rfl) rfl
    (fun f fn hf hfn => by
      obtain rfl : f = 3 := Option.some.inj ((show Tryz.prog.funcNamed Rows.stateChecksRow.func = some 3 by kernel_rfl).symm.trans hf) |>.symm
      obtain rfl : fn = Tryz.f3 := (Option.some.inj (Tryz.func3.symm.trans hfn)).symm
      exact ⟨by kernel_rfl, fun j t ht => by
        rw [Tryz.params3] at ht
        have hm : t ∈ [31] := by simpa using Array.mem_of_getElem? ht
        have hall : ([31].all fun u => !Tryz.prog.wantsStandIn u) = true := by kernel_rfl
        exact (show Tryz.prog.wantsStandIn t = false by simpa using List.all_eq_true.1 hall t hm)⟩)
    (goesBy_none goesNone _).symm
#print axioms proved
end Go.Proofs.YteokijolhbohaaaGreatDoor.stateChecks
