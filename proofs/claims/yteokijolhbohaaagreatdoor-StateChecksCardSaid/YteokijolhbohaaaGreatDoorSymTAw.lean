/-
  The run of awake: with the table of known calls it returns true.
-/
import Derived.Test.YteokijolhbohaaaGreatDoorXD
import Derived.Test.YteokijolhbohaaaGreatDoorTA
import Derived.Test.YteokijolhbohaaaGreatDoorSymTOf0
import Derived.Test.YteokijolhbohaaaGreatDoorSymTOf1
import Derived.Test.YteokijolhbohaaaGreatDoorSymTOf2
import Derived.Test.YteokijolhbohaaaGreatDoorSymTOf3
import Derived.Test.YteokijolhbohaaaGreatDoorTB
import Derived.Test.YteokijolhbohaaaGreatDoorTE
import Derived.Test.YteokijolhbohaaaGreatDoorTC
import Derived.Test.YteokijolhbohaaaGreatDoorTD
set_option linter.unusedSimpArgs false
set_option linter.unusedVariables false
set_option maxRecDepth 1000000
namespace Go.Proofs.YteokijolhbohaaaGreatDoor.Sx
open Go Go.RowKit
noncomputable def awD : List Ent := [hull0, hull1, hull2, hull3, of0, of1, of2, of3, meet0, chk0, chk1, area0, area1, vol0, vol1, place0, place1, place2, place3, build0, parse0, swith0, swith1, swith2, lacks0, lacks1, wane0, best0, within0, within1, within2, within3, within4, bnew0, wood0, scheck0, pchk0, pchk1, pcheck0, leaves0]
theorem awD_ok : ∀ e ∈ awD, EntOk Tryz.prog gM glM e := fun e h => by
  simp only [awD, List.mem_cons, List.not_mem_nil, or_false] at h
  rcases h with rfl | rfl | rfl | rfl | rfl | rfl | rfl | rfl | rfl | rfl | rfl | rfl | rfl | rfl | rfl | rfl | rfl | rfl | rfl | rfl | rfl | rfl | rfl | rfl | rfl | rfl | rfl | rfl | rfl | rfl | rfl | rfl | rfl | rfl | rfl | rfl | rfl | rfl | rfl | rfl
  · exact hull0_ok
  · exact hull1_ok
  · exact hull2_ok
  · exact hull3_ok
  · exact of0_ok
  · exact of1_ok
  · exact of2_ok
  · exact of3_ok
  · exact meet0_ok
  · exact chk0_ok
  · exact chk1_ok
  · exact area0_ok
  · exact area1_ok
  · exact vol0_ok
  · exact vol1_ok
  · exact place0_ok
  · exact place1_ok
  · exact place2_ok
  · exact place3_ok
  · exact build0_ok
  · exact parse0_ok
  · exact swith0_ok
  · exact swith1_ok
  · exact swith2_ok
  · exact lacks0_ok
  · exact lacks1_ok
  · exact wane0_ok
  · exact best0_ok
  · exact within0_ok
  · exact within1_ok
  · exact within2_ok
  · exact within3_ok
  · exact within4_ok
  · exact bnew0_ok
  · exact wood0_ok
  · exact scheck0_ok
  · exact pchk0_ok
  · exact pchk1_ok
  · exact pcheck0_ok
  · exact leaves0_ok
noncomputable def awCl : FuncId → List SVal → Hp → Out := clD Tryz.prog gM (joinO 277 (orcT glM awD)) 2000 60
def isTrue (o : Out) : Bool := match o with
  | some (.v (.bool true), _) => true
  | _ => false
theorem aw_runs : isTrue (awCl 5 [] (fragH glM)) = true := by kernel_rfl
theorem isTrue_spec {o : Out} (h : isTrue o = true) : ∃ H, o = some (.v (.bool true), H) := by
  unfold isTrue at h
  split at h
  · next H => exact ⟨H, rfl⟩
  · cases h
theorem awake_of {W : World} {ρ : Pl} (hJ : JoinOk Tryz.prog 277) (hh : Held ρ (fragH glM) W) (hg : GlobsH gM ρ (fragH glM)) : Calls Tryz.prog 5 #[] W fun e W' => e = .returned (.bool true) ∧ Below W.heap.size W W' := by
  obtain ⟨H', hr⟩ := isTrue_spec aw_runs
  have hc : ClOk Tryz.prog gM awCl := clD_run (joinO_ok hJ (orcT_ok gM_lt awD awD_ok)) (by decide +kernel) 2000 60
  refine Calls.mono (hc _ _ _ _ _ hr ρ W [] (fragH_tidy _) hg hh .nil) ?_
  rintro e W' ⟨v, rfl, σ, hs, hv, _⟩
  cases hv
  refine ⟨rfl, hs.os, hs.tape, hs.output, hs.size, fun r hlt => hs.frame r hlt fun b k e hl => ?_⟩
  have h1 : ¬ (fragH glM).next.nat ≤ b.nat := fun h => by rw [hh.fresh b h] at e; cases e
  rw [fragH_next] at h1
  have h2 : lenR glM ≤ b.nat := hl
  rw [lenR_eq] at h2
  omega
end Go.Proofs.YteokijolhbohaaaGreatDoor.Sx
