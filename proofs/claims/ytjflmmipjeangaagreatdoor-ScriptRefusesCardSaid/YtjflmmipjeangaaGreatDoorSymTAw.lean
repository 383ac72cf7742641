/-
  The run of awake: with the table of known calls it returns true.
-/
import Derived.Test.YtjflmmipjeangaaGreatDoorTM
import Derived.Test.YtjflmmipjeangaaGreatDoorTF
import Derived.Test.YtjflmmipjeangaaGreatDoorTE
import Derived.Test.YtjflmmipjeangaaGreatDoorTS
import Derived.Test.YtjflmmipjeangaaGreatDoorTP
set_option linter.unusedSimpArgs false
set_option linter.unusedVariables false
set_option maxRecDepth 1000000
namespace Go.Proofs.YtjflmmipjeangaaGreatDoor.Sx
open Go Go.RowKit
noncomputable def awD : List Ent := [new0, words0, words1, words2, run0, apply0]
theorem awD_ok : ∀ e ∈ awD, EntOk Tryz.prog gM glM e := fun e h => by
  simp only [awD, List.mem_cons, List.not_mem_nil, or_false] at h
  rcases h with rfl | rfl | rfl | rfl | rfl | rfl
  · exact new0_ok
  · exact words0_ok
  · exact words1_ok
  · exact words2_ok
  · exact run0_ok
  · exact apply0_ok
noncomputable def awCl : FuncId → List SVal → Hp → Out := clD Tryz.prog gM (orcA awD) 2000 60
def isTrue (o : Out) : Bool := match o with
  | some (.v (.bool true), _) => true
  | _ => false
theorem aw_runs : isTrue (awCl 4 [] (fragH glM)) = true := by kernel_rfl
theorem isTrue_spec {o : Out} (h : isTrue o = true) : ∃ H, o = some (.v (.bool true), H) := by
  unfold isTrue at h
  split at h
  · next H => exact ⟨H, rfl⟩
  · cases h
theorem awake_of {W : World} {ρ : Pl} (hh : Held ρ (fragH glM) W) (hg : GlobsH gM ρ (fragH glM)) : Calls Tryz.prog 4 #[] W fun e W' => e = .returned (.bool true) ∧ Below W.heap.size W W' := by
  obtain ⟨H', hr⟩ := isTrue_spec aw_runs
  have hc : ClOk Tryz.prog gM awCl := clD_run (orcA_ok awD awD_ok) (by decide +kernel) 2000 60
  refine Calls.mono (hc _ _ _ _ _ hr ρ W [] (fragH_tidy _) hg hh .nil) ?_
  rintro e W' ⟨v, rfl, σ, hs, hv, _⟩
  cases hv
  refine ⟨rfl, hs.os, hs.tape, hs.output, hs.size, fun r hlt => hs.frame r hlt fun b k e hl => ?_⟩
  have h1 : ¬ (fragH glM).next.nat ≤ b.nat := fun h => by rw [hh.fresh b h] at e; cases e
  rw [fragH_next] at h1
  have h2 : lenR glM ≤ b.nat := hl
  rw [lenR_eq] at h2
  omega
end Go.Proofs.YtjflmmipjeangaaGreatDoor.Sx
