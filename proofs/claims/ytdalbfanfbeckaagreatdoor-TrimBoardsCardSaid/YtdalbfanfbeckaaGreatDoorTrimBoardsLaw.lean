/-
  The statement TrimBoardsSaid: the law TrimBoards returns true for every input, and every argument reads as it did before.
-/
import Derived.Test.YtdalbfanfbeckaaGreatDoorR69
import Derived.Test.YtdalbfanfbeckaaGreatDoorK45
import Derived.Test.YtdalbfanfbeckaaGreatDoorCards
import Derived.Test.YtdalbfanfbeckaaGreatDoorTie
import Derived.ProofKit
import Derived.LaidMore
import Derived.OpenShut
import Derived.Stop.Joined
import Derived.SevenTiedAt
namespace Go.Proofs.YtdalbfanfbeckaaGreatDoor.trimBoards
open Go.ChangeShapes Go.WideShapes Go.ChangeAt Go.RowKit Go.Proofs.YtdalbfanfbeckaaGreatDoor
set_option linter.unusedVariables false

theorem own : ownKnob Tryz.prog.godebug = none := by kernel_rfl
theorem laidOut : laidOutB Tryz.prog = true := by kernel_rfl

theorem flat35 : flat Tryz.prog 6 35 = [.inr (.inl false), .inr (.inl false), .inr (.inl false), .inl .i64, .inl .i64, .inl .i64, .inl .i64, .inl .i64, .inl .i64, .inl .i64, .inl .i64, .inr (.inr 26), .inl .i64, .inl .i64, .inl .i64, .inl .i64, .inr (.inl true), .inl .i64, .inr (.inl false), .inl .i64, .inl .i64, .inl .i64, .inl .i64, .inr (.inr 31), .inr (.inr 31), .inl .i64, .inl .i64, .inl .i64] := by kernel_rfl

abbrev laid3 : List (String × DataW Unit) := Rows.trimBoardsRow.laid
set_option maxRecDepth 100000 in
theorem door_met (os : Os) (args : Array Value) : laidMetH Tryz.prog laid3 ((World.doorLaid Tryz.prog 400 os).forCall (fun _ _ => 0) ⟨#[], args, []⟩).memory :=
  laidMetH_of_parts3 (fuel := 8) (laidMet_of_run' 8 (by kernel_rfl) (by kernel_rfl)) (by kernel_rfl) (by kernel_rfl)
set_option maxRecDepth 100000 in
theorem lifted (os : Os) (started : os.Started) (H : Type) (enc : TypeId × Value → H) :
    ReturnsInHanded {} Tryz.checked os 3 .any (fun w args => (Rows.trimBoardsSpec.pre enc Tryz.prog Tryz.f3 [] false w args ∧ laidMetH Tryz.prog laid3 w) ∧ sizedMet enc Tryz.prog Tryz.f3 (OpenSpec.ofChange Rows.trimBoardsSpec) false w args) (Rows.trimBoardsSpec.post enc Tryz.prog Tryz.f3 false true false false) := by
  refine returnsInHanded_of_change_and (C := Tryz.checked) (X := fun w _ => laidMetH Tryz.prog laid3 w) (fun _ _ _ hh h => h.of_heap hh) own started (by kernel_rfl) Tryz.func3
    (ChangeSpec.witness_shaped (enc := enc) (C := Tryz.checked) (os := os) (X := fun w _ => laidMetH Tryz.prog laid3 w) false (World.doorLaid Tryz.prog 400 os) #[.agg #[.string .empty, .string .empty, .string .empty, .int .i64 0, .int .i64 0, .int .i64 0, .int .i64 0, .int .i64 0, .int .i64 0, .int .i64 0, .int .i64 0, .slice none 0 0, .int .i64 0, .int .i64 0, .int .i64 0, .int .i64 0, .bool false, .int .i64 0, .string .empty, .int .i64 0, .int .i64 0, .int .i64 0, .int .i64 0, .slice none 0 0, .slice none 0 0, .int .i64 0, .int .i64 0, .int .i64 0], .slice none 0 0] 8 rfl (World.shaped_of_RefB (by kernel_rfl) (by kernel_rfl)) (by kernel_rfl) (by kernel_rfl) (by kernel_rfl) (door_met os _)) ?_
  intro W base args ds gs before hval0 hW _ _ hL _
  have hval : ∀ (j : Nat) t v, Tryz.f3.params[j]? = some t → args[j]? = some v → Value.okWide Tryz.prog W .any base t v := hval0
  have hW' := hW
  obtain ⟨p, q, hA0, hV, rfl, hfz, hnd⟩ := hW
  have hA : DataW.TrodAll enc Tryz.prog W 0 (fun _ => true) true Tryz.f3.params.toList args.toList ds p := hA0
  rw [Tryz.params3] at hA hval
  have htab := tab_of hL
  obtain ⟨v0, vs0, d0, ds0, p0, q0, hargs, rfl, rfl, h0, r0⟩ := trodAll_cons hA
  obtain ⟨v1, vs1, d1, ds1, p1, q1, rfl, rfl, rfl, h1, r1⟩ := trodAll_cons r0
  obtain ⟨rfl, rfl, rfl⟩ := trodAll_nil r1
  obtain rfl : args = #[v0, v1] := by cases args; simp_all
  obtain ⟨cs0, rfl, f0_0⟩ := open_flat 6 (by kernel_rfl) (Or.inl ⟨_, Tryz.underlying35⟩) (hval 0 35 v0 rfl rfl) h0
  rw [flat35] at f0_0
  obtain ⟨a0_0, cs0_0, rfl, w0_0, f0_1⟩ := f0_0.str
  obtain ⟨a0_1, cs0_1, rfl, w0_1, f0_2⟩ := f0_1.str
  obtain ⟨a0_2, cs0_2, rfl, w0_2, f0_3⟩ := f0_2.str
  obtain ⟨a0_3, cs0_3, rfl, w0_3, f0_4⟩ := f0_3.int
  obtain ⟨a0_4, cs0_4, rfl, w0_4, f0_5⟩ := f0_4.int
  obtain ⟨a0_5, cs0_5, rfl, w0_5, f0_6⟩ := f0_5.int
  obtain ⟨a0_6, cs0_6, rfl, w0_6, f0_7⟩ := f0_6.int
  obtain ⟨a0_7, cs0_7, rfl, w0_7, f0_8⟩ := f0_7.int
  obtain ⟨a0_8, cs0_8, rfl, w0_8, f0_9⟩ := f0_8.int
  obtain ⟨a0_9, cs0_9, rfl, w0_9, f0_10⟩ := f0_9.int
  obtain ⟨a0_10, cs0_10, rfl, w0_10, f0_11⟩ := f0_10.int
  obtain ⟨a0_11, cs0_11, rfl, w0_11, f0_12⟩ := f0_11.other
  obtain ⟨l0_11, s0_11⟩ := leafDf w0_11
  obtain ⟨a0_12, cs0_12, rfl, w0_12, f0_13⟩ := f0_12.int
  obtain ⟨a0_13, cs0_13, rfl, w0_13, f0_14⟩ := f0_13.int
  obtain ⟨a0_14, cs0_14, rfl, w0_14, f0_15⟩ := f0_14.int
  obtain ⟨a0_15, cs0_15, rfl, w0_15, f0_16⟩ := f0_15.int
  obtain ⟨a0_16, cs0_16, rfl, f0_17⟩ := f0_16.bool
  obtain ⟨a0_17, cs0_17, rfl, w0_17, f0_18⟩ := f0_17.int
  obtain ⟨a0_18, cs0_18, rfl, w0_18, f0_19⟩ := f0_18.str
  obtain ⟨a0_19, cs0_19, rfl, w0_19, f0_20⟩ := f0_19.int
  obtain ⟨a0_20, cs0_20, rfl, w0_20, f0_21⟩ := f0_20.int
  obtain ⟨a0_21, cs0_21, rfl, w0_21, f0_22⟩ := f0_21.int
  obtain ⟨a0_22, cs0_22, rfl, w0_22, f0_23⟩ := f0_22.int
  obtain ⟨a0_23, cs0_23, rfl, w0_23, f0_24⟩ := f0_23.other
  obtain ⟨l0_23, s0_23⟩ := leafI w0_23
  obtain ⟨a0_24, cs0_24, rfl, w0_24, f0_25⟩ := f0_24.other
  obtain ⟨l0_24, s0_24⟩ := leafI w0_24
  obtain ⟨a0_25, cs0_25, rfl, w0_25, f0_26⟩ := f0_25.int
  obtain ⟨a0_26, cs0_26, rfl, w0_26, f0_27⟩ := f0_26.int
  obtain ⟨a0_27, cs0_27, rfl, w0_27, f0_28⟩ := f0_27.int
  obtain rfl := f0_28.nil
  obtain ⟨l1, s1, i1⟩ := parPc (hval 1 36 v1 rfl rfl) h1
  refine (boards_walk ⟨a0_0, a0_1, a0_2, a0_3, ⟨a0_4, a0_5, a0_6, a0_7, a0_8, a0_9⟩, a0_10, a0_12, a0_13, a0_14, a0_15, a0_16, a0_17⟩ a0_11 l0_11 ⟨a0_18, a0_19, a0_20, a0_21, a0_22, l0_23, l0_24⟩ a0_23 a0_24 a0_25 a0_26 a0_27 l1 v1 W s0_11 s0_23 s0_24 s1 htab).mono fun e W' hh => ?_
  obtain ⟨he, m, hm⟩ := hh
  subst he
  subst hm
  exact ⟨_, rfl, law_post (tb := 4) laidOut (of_decide_eq_true (by kernel_rfl)) (by kernel_rfl) Tryz.underlying4 rfl (fun ds h => by
    match ds, h with
    | [_, _], _ => exact ⟨rfl, rfl, rfl⟩) rfl hW' m.ext⟩

theorem over : Rows.TrimBoardsSaid :=
  OpenClaim.holds_of_wide 3 Tryz.f3 rfl rfl rfl rfl rfl rfl rfl ⟨rfl, rfl, rfl, rfl, rfl⟩ rfl rfl rfl rfl rfl (by kernel_rfl) Tryz.func3 (by kernel_rfl)
    (of_decide_eq_true (by kernel_rfl)) (by unfold Func.isWrapper; first | (rw [if_pos (by decide +kernel)]; kernel_rfl) | (rw [if_neg (by decide +kernel)]; exact ⟨rfl, rfl⟩))
    (fun os started H enc _ => lifted os started H enc)

theorem proved : Rows.TrimBoardsCardSaid :=
  Claim7.holds_tied_plain_at .later [] [.data] true (true, "7d7287527ef97d6cb7e7d15cfd0d003fa2fe3b4b3d3e4c993b284c4fb3253b7e") false
    over (fun _ h => by cases h) (by kernel_rfl) (fun _ h => by cases h) trimBoards_row_tie rfl ⟨rfl, rfl⟩ (by kernel_rfl) rfl
    (fun f fn hf hfn => by
      obtain rfl : f = 3 := Option.some.inj ((show Tryz.prog.funcNamed Rows.trimBoardsRow.func = some 3 by kernel_rfl).symm.trans hf) |>.symm
      obtain rfl : fn = Tryz.f3 := (Option.some.inj (Tryz.func3.symm.trans hfn)).symm
      exact ⟨by kernel_rfl, fun j t ht => by
        rw [Tryz.params3] at ht
        have hm : t ∈ [35, 36] := by simpa using Array.mem_of_getElem? ht
        have hall : ([35, 36].all fun u => !Tryz.prog.wantsStandIn u) = true := by kernel_rfl
        exact (show Tryz.prog.wantsStandIn t = false by simpa using List.all_eq_true.1 hall t hm)⟩)
    (by kernel_rfl)
#print axioms proved
end Go.Proofs.YtdalbfanfbeckaaGreatDoor.trimBoards
