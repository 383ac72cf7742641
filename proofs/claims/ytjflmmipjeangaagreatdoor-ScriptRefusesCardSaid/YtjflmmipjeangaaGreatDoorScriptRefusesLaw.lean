/-
  The statement ScriptRefusesCardSaid: the law ScriptRefuses returns true for every line, and the line reads as it did before.
-/
import Derived.Test.YtjflmmipjeangaaGreatDoorK12
import Derived.Test.YtjflmmipjeangaaGreatDoorClo
import Derived.Test.YtjflmmipjeangaaGreatDoorClB
import Derived.Test.YtjflmmipjeangaaGreatDoorClC
import Derived.Test.YtjflmmipjeangaaGreatDoorLo
import Derived.Test.YtjflmmipjeangaaGreatDoorClosed0
import Derived.Test.YtjflmmipjeangaaGreatDoorClosed1
import Derived.Test.YtjflmmipjeangaaGreatDoorClosed2
import Derived.Test.YtjflmmipjeangaaGreatDoorClosed3
import Derived.Test.YtjflmmipjeangaaGreatDoorClosed4
import Derived.Test.YtjflmmipjeangaaGreatDoorTiA
import Derived.Test.YtjflmmipjeangaaGreatDoorTiB
import Derived.Test.YtjflmmipjeangaaGreatDoorTiC
import Derived.Test.YtjflmmipjeangaaGreatDoorWit
import Derived.Test.YtjflmmipjeangaaGreatDoorCards
import Derived.ProofKit
import Derived.LaidMore
import Derived.OpenShut
import Derived.Stop.Joined
import Derived.SevenTiedAt
namespace Go.Proofs.YtjflmmipjeangaaGreatDoor.scriptRefuses
open Go.ChangeShapes Go.WideShapes Go.ChangeAt Go.RowKit Go.Proofs.YtjflmmipjeangaaGreatDoor
set_option linter.unusedVariables false
set_option linter.unusedSimpArgs false

theorem own : ownKnob Tryz.prog.godebug = none := by kernel_rfl
theorem laidOut : laidOutB Tryz.prog = true := laidOut_ok
abbrev laid3 : List (String × DataW Unit) := Rows.scriptRefusesRow.laid
set_option maxRecDepth 100000 in
theorem lifted (os : Os) (started : os.Started) (H : Type) (enc : TypeId × Value → H) :
    ReturnsInHanded {} Tryz.checked os 3 .any (fun w args => (Rows.scriptRefusesSpec.pre enc Tryz.prog Tryz.f3 [] false w args ∧ laidMetH Tryz.prog laid3 w) ∧ sizedMet enc Tryz.prog Tryz.f3 (OpenSpec.ofChange Rows.scriptRefusesSpec) false w args) (Rows.scriptRefusesSpec.post enc Tryz.prog Tryz.f3 false true false false) := by
  refine returnsInHanded_of_change_and (C := Tryz.checked) (X := fun w _ => laidMetH Tryz.prog laid3 w) (fun _ _ _ hh h => h.of_heap hh) own started (by kernel_rfl) Tryz.func3
    (ChangeSpec.witness_shaped (enc := enc) (C := Tryz.checked) (os := os) (X := fun w _ => laidMetH Tryz.prog laid3 w) false (World.laidAll Tryz.prog os laid3) #[.string .empty] 8 (World.laidAll_os _ _ _) (Wit.sh os) (Wit.ok os) (Wit.pre H enc os) (Wit.sz H enc os) (Wit.met os)) ?_
  intro W base args ds gs before hval0 hW _ _ hL _
  have hval : ∀ (j : Nat) t v, Tryz.f3.params[j]? = some t → args[j]? = some v → Value.okWide Tryz.prog W .any base t v := hval0
  have hW' := hW
  obtain ⟨p, q, hA0, hV, rfl, hfz, hnd⟩ := hW
  have hA : DataW.TrodAll enc Tryz.prog W 0 (fun _ => true) true Tryz.f3.params.toList args.toList ds p := hA0
  rw [Tryz.params3] at hA hval
  have htab := tab_of hL
  obtain ⟨v0, vs0, d0, ds0, p0, q0, hargs, rfl, rfl, h0, r0⟩ := trodAll_cons hA
  obtain ⟨rfl, rfl, rfl⟩ := trodAll_nil r0
  obtain rfl : args = #[v0] := by cases args; simp_all
  obtain ⟨a0, rfl, rfl, rfl, w0⟩ := Go.ChangeMaps.open_string Tryz.underlying9 (hval 0 9 v0 rfl rfl) h0
  refine (law_walk a0 W htab).mono fun e W' hh => ?_
  obtain ⟨he, m, hm⟩ := hh
  subst he
  subst hm
  exact ⟨_, rfl, law_post (tb := 4) laidOut (of_decide_eq_true (by kernel_rfl)) (by kernel_rfl) Tryz.underlying4 rfl (fun ds h => by
    match ds, h with
    | [_], _ => exact ⟨rfl, rfl, rfl⟩) rfl hW' m.ext⟩
theorem joined : joinedFacts Tryz.prog 3 Tryz.f3 Rows.scriptRefusesSpec Rows.scriptRefusesRow = true :=
  Closed.joined_of Closed.k1 Closed.k2 Closed.k3 Closed.k4 Closed.k5 Closed.k6 Closed.k7 Closed.k8 Closed.k9 Closed.k10 Closed.k11 Closed.k12 Closed.k13 Closed.k14 Closed.k15 Closed.k16 Closed.k17 Closed.k17b Closed.k18 Closed.k19 Closed.k20 Closed.k21 Closed.k22 Closed.k23 Closed.k23b Closed.k24 Closed.k24b Closed.k24c Closed.k25 Closed.k25b Closed.k26 Closed.k27 Closed.k28
theorem over : Rows.ScriptRefusesSaid :=
  OpenClaim.holds_of_wide 3 Tryz.f3 rfl rfl rfl rfl rfl rfl rfl ⟨rfl, rfl, rfl, rfl, rfl⟩ rfl rfl rfl rfl rfl Closed.kf Tryz.func3 joined
    Closed.ki Closed.kw
    (fun os started H enc _ => lifted os started H enc)
theorem tie : Tryz.prog.laidByTextLater [("sawmill/schedule.words", Rows.laid_sawmill_schedule_words), ("sawmill/ring.directions", Rows.laid_sawmill_ring_directions), ("sawmill/poly.turns", Rows.laid_sawmill_poly_turns), ("internal/strconv.uint64pow10", Rows.laid_internal_strconv_uint64pow10), ("math/bits.deBruijn32tab", Rows.laid_math_bits_deBruijn32tab), ("math/bits.deBruijn64tab", Rows.laid_math_bits_deBruijn64tab), ("sawmill/kiln.stillAir", Rows.laid_sawmill_kiln_stillAir), ("unicode/utf8.acceptRanges", Rows.laid_unicode_utf8_acceptRanges), ("sawmill/cutting.none", Rows.laid_sawmill_cutting_none)] [.data, .data, .data, .data, .data, .data, .data, .data, .data] true :=
  Program.laidByTextLater_by_one 55 8 65 Own.hw Own.hw' Own.hroot Own.hk (by rw [Own.gv]; rfl) Own.hn Own.hrun
theorem fits : Tryz.pinned.checked.prog.listedFits [("sawmill/schedule.words", Rows.laid_sawmill_schedule_words), ("sawmill/ring.directions", Rows.laid_sawmill_ring_directions), ("sawmill/poly.turns", Rows.laid_sawmill_poly_turns), ("internal/strconv.uint64pow10", Rows.laid_internal_strconv_uint64pow10), ("math/bits.deBruijn32tab", Rows.laid_math_bits_deBruijn32tab), ("math/bits.deBruijn64tab", Rows.laid_math_bits_deBruijn64tab), ("sawmill/kiln.stillAir", Rows.laid_sawmill_kiln_stillAir), ("unicode/utf8.first", Rows.laid_unicode_utf8_first), ("unicode/utf8.acceptRanges", Rows.laid_unicode_utf8_acceptRanges), ("sawmill/cutting.none", Rows.laid_sawmill_cutting_none)] = true := by
  unfold Program.listedFits
  rw [Own.noOwnUnsafe]
  kernel_rfl
theorem pin0 : Tryz.pinned.checked.prog.pinnedFits "unicode/utf8.first" = true := by kernel_rfl
theorem row_tie : Rows.scriptRefusesRow.laidByTextAt .later Tryz.pinned [.data, .data, .data, .data, .data, .data, .data, .pinned, .data, .data] true :=
  OpenClaim.laidByTextAt_pinned rfl rfl tie rfl rfl rfl rfl (fun y hy _e => by
    simp only [Rows.scriptRefusesRow, List.zip_cons_cons, List.zip_nil_right, List.mem_cons, List.mem_nil_iff, or_false] at hy
    rcases hy with rfl | rfl | rfl | rfl | rfl | rfl | rfl | rfl | rfl | rfl
    · cases _e
    · cases _e
    · cases _e
    · cases _e
    · cases _e
    · cases _e
    · cases _e
    · exact ⟨pin0, by kernel_rfl⟩
    · cases _e
    · cases _e) fits
theorem proved : Rows.ScriptRefusesCardSaid :=
  Claim7.holds_tied_plain_at .later [] [.data, .data, .data, .data, .data, .data, .data, .pinned, .data, .data] true (true, "26340c84e37e13e035bdd6669c814ed4d4cb4daf9304dae2b96fc3310c2bf3a1") true
    over (fun _ h => by cases h) (by kernel_rfl) (fun _ h => by cases h) row_tie rfl ⟨rfl, rfl⟩ (by kernel_rfl) rfl
    (fun f fn hf hfn => by
      obtain rfl : f = 3 := Option.some.inj (Closed.kf.symm.trans hf) |>.symm
      obtain rfl : fn = Tryz.f3 := (Option.some.inj (Tryz.func3.symm.trans hfn)).symm
      exact ⟨by kernel_rfl, fun j t ht => by
        rw [Tryz.params3] at ht
        have hm : t ∈ [9] := by simpa using Array.mem_of_getElem? ht
        have hall : ([9].all fun u => !Tryz.prog.wantsStandIn u) = true := by kernel_rfl
        exact (show Tryz.prog.wantsStandIn t = false by simpa using List.all_eq_true.1 hall t hm)⟩)
    (goesBy_none Closed.goesNone _).symm
#print axioms proved
end Go.Proofs.YtjflmmipjeangaaGreatDoor.scriptRefuses
