/-
  Chapter 59: several texts in one (SymTPchk0, SymTPchk1, SymTPcheck0, SymTLeaves0).
-/
import Derived.Test.YteokijolhbohaaaGreatDoorXD
section
set_option linter.unusedSimpArgs false
set_option linter.unusedVariables false
set_option maxRecDepth 1000000
namespace Go.Proofs.YteokijolhbohaaaGreatDoor.Sx
open Go
noncomputable def pchk0D : List Ent := []
noncomputable def pchk0A : List SVal := [(.agg [(.v (.int .i64 (-50))), (.v (.int .i64 55)), (.v (.int .i64 0)), (.v (.int .i64 90)), (.slice (.I (.O .H)) 0 3 (.upto 0))]), (.v (.int .i64 4)), (.func (.func 387) [] [(.ptr (.O (.I .H)) 0)])]
noncomputable def pchk0F : List (List SVal) := [[(.v (.int .i64 3)), (.v (.int .i64 42)), (.v (.int .i64 1)), (.v (.int .i64 0)), (.v (.int .i64 0)), (.v (.int .i64 0))], [(.slice (.I (.I .H)) 0 1 (.known 1))], [(.v (.string ⟨⟨[112, 108, 97, 110, 107]⟩⟩)), (.v (.int .i64 40)), (.v (.int .i64 100)), (.v (.int .i64 50)), (.v (.int .i64 0)), (.slice (.O (.O (.O .H))) 0 1 (.known 1)), (.slice (.I (.O (.O .H))) 0 1 (.known 1))], [(.v (.int .i64 2000))], [(.v (.int .i64 70))]]
noncomputable def pchk0 : Ent := { f := 306, args := pchk0A, frag := pchk0F, s := (.v (.int .i64 (.ofNat 0))), outs := [] }
noncomputable def pchk0O : Option Ob := (enterR Tryz.prog gM (clD Tryz.prog gM (orcT glM pchk0D) 2000 60) stopRf 2000 306 pchk0A (fragH (glM ++ pchk0F))).begun
noncomputable def pchk0R0 : YE := (rfO Tryz.prog gM (clD Tryz.prog gM (orcT glM pchk0D) 2000 60) 2000 67 0 pchk0O).clear
noncomputable def pchk0R : YE := enterR Tryz.prog gM (clD Tryz.prog gM (orcT glM pchk0D) 2000 60) (toldRf pchk0R0) 2000 306 pchk0A (fragH (glM ++ pchk0F))
theorem pchk0_N : ∀ fn, Tryz.prog.funcs[pchk0.f]? = some fn → fn.ntmps = 67 := fun fn h => by
  have h1 : (Tryz.prog.funcs[306]?).map (·.ntmps) = some 67 := by kernel_rfl
  have h2 : Tryz.prog.funcs[306]? = some fn := h
  rw [h2] at h1; exact Option.some.inj h1
theorem pchk0_all : ∀ l, rfO Tryz.prog gM (clD Tryz.prog gM (orcT glM pchk0D) 2000 60) 2000 67 l pchk0O = pchk0R0.owe (repL 3 l) := fun l => by kernel_rfl
theorem pchk0_nb : pchk0R0 ≠ .bad := fun h => by
  have h1 : (match pchk0R0 with | .bad => true | _ => false) = false := by kernel_rfl
  rw [h] at h1; cases h1
theorem pchk0_ok : EntOk Tryz.prog gM glM pchk0 := EntOk.ofR (orc := orcT glM pchk0D) (fuel := 2000) (d := 60) (N := 67) (k := 3) (ob := pchk0O) (r0 := pchk0R0) (r := pchk0R) (orcT_ok gM_lt _ (fun _ h => by cases h)) (by decide +kernel) (by decide +kernel) pchk0_N rfl rfl pchk0_nb pchk0_all rfl (by kernel_rfl) (by kernel_rfl)
end Go.Proofs.YteokijolhbohaaaGreatDoor.Sx
end
section
set_option linter.unusedSimpArgs false
set_option linter.unusedVariables false
set_option maxRecDepth 1000000
namespace Go.Proofs.YteokijolhbohaaaGreatDoor.Sx
open Go
noncomputable def pchk1D : List Ent := []
noncomputable def pchk1A : List SVal := [(.agg [(.v (.int .i64 (-50))), (.v (.int .i64 55)), (.v (.int .i64 0)), (.v (.int .i64 90)), (.slice (.I (.O .H)) 0 3 (.upto 0))]), (.v (.int .i64 4)), (.v (.func (.func 307) ⟨[]⟩ ⟨[]⟩))]
noncomputable def pchk1F : List (List SVal) := [[(.v (.int .i64 3)), (.v (.int .i64 42)), (.v (.int .i64 1)), (.v (.int .i64 0)), (.v (.int .i64 0)), (.v (.int .i64 0))]]
noncomputable def pchk1 : Ent := { f := 306, args := pchk1A, frag := pchk1F, s := (.v (.int .i64 (.ofNat 0))), outs := [] }
noncomputable def pchk1O : Option Ob := (enterR Tryz.prog gM (clD Tryz.prog gM (orcT glM pchk1D) 2000 60) stopRf 2000 306 pchk1A (fragH (glM ++ pchk1F))).begun
noncomputable def pchk1R0 : YE := (rfO Tryz.prog gM (clD Tryz.prog gM (orcT glM pchk1D) 2000 60) 2000 67 0 pchk1O).clear
noncomputable def pchk1R : YE := enterR Tryz.prog gM (clD Tryz.prog gM (orcT glM pchk1D) 2000 60) (toldRf pchk1R0) 2000 306 pchk1A (fragH (glM ++ pchk1F))
theorem pchk1_N : ∀ fn, Tryz.prog.funcs[pchk1.f]? = some fn → fn.ntmps = 67 := fun fn h => by
  have h1 : (Tryz.prog.funcs[306]?).map (·.ntmps) = some 67 := by kernel_rfl
  have h2 : Tryz.prog.funcs[306]? = some fn := h
  rw [h2] at h1; exact Option.some.inj h1
theorem pchk1_all : ∀ l, rfO Tryz.prog gM (clD Tryz.prog gM (orcT glM pchk1D) 2000 60) 2000 67 l pchk1O = pchk1R0.owe (repL 3 l) := fun l => by kernel_rfl
theorem pchk1_nb : pchk1R0 ≠ .bad := fun h => by
  have h1 : (match pchk1R0 with | .bad => true | _ => false) = false := by kernel_rfl
  rw [h] at h1; cases h1
theorem pchk1_ok : EntOk Tryz.prog gM glM pchk1 := EntOk.ofR (orc := orcT glM pchk1D) (fuel := 2000) (d := 60) (N := 67) (k := 3) (ob := pchk1O) (r0 := pchk1R0) (r := pchk1R) (orcT_ok gM_lt _ (fun _ h => by cases h)) (by decide +kernel) (by decide +kernel) pchk1_N rfl rfl pchk1_nb pchk1_all rfl (by kernel_rfl) (by kernel_rfl)
end Go.Proofs.YteokijolhbohaaaGreatDoor.Sx
end
section
set_option linter.unusedSimpArgs false
set_option linter.unusedVariables false
set_option maxRecDepth 1000000
namespace Go.Proofs.YteokijolhbohaaaGreatDoor.Sx
open Go
noncomputable def pcheck0D : List Ent := [pchk0, pchk1]
noncomputable def pcheck0A : List SVal := [(.agg [(.v (.int .i64 (-50))), (.v (.int .i64 55)), (.v (.int .i64 0)), (.v (.int .i64 90)), (.slice (.I (.O .H)) 0 3 (.upto 0))]), (.slice (.O (.I .H)) 0 1 (.known 1)), (.v (.int .i64 4))]
noncomputable def pcheck0F : List (List SVal) := [[(.v (.int .i64 3)), (.v (.int .i64 42)), (.v (.int .i64 1)), (.v (.int .i64 0)), (.v (.int .i64 0)), (.v (.int .i64 0))], [(.v (.string ⟨⟨[112, 108, 97, 110, 107]⟩⟩)), (.v (.int .i64 40)), (.v (.int .i64 100)), (.v (.int .i64 50)), (.v (.int .i64 0)), (.slice (.I (.I .H)) 0 1 (.known 1)), (.slice (.O (.O (.O .H))) 0 1 (.known 1))], [(.v (.int .i64 2000))], [(.v (.int .i64 70))]]
noncomputable def pcheck0 : Ent := { f := 305, args := pcheck0A, frag := pcheck0F, s := (.v (.int .i64 (.ofNat 0))), outs := [] }
theorem pcheck0_ok : EntOk Tryz.prog gM glM pcheck0 := EntOk.of (orc := orcT glM pcheck0D) (fuel := 2000) (d := 60) (orcT_ok gM_lt _ (fun e h => by simp only [pcheck0D, List.mem_cons, List.not_mem_nil, or_false] at h; rcases h with rfl | rfl <;> first | exact pchk0_ok | exact pchk1_ok)) (by decide +kernel) (by decide +kernel) (by kernel_rfl)
end Go.Proofs.YteokijolhbohaaaGreatDoor.Sx
end
section
set_option linter.unusedSimpArgs false
set_option linter.unusedVariables false
set_option maxRecDepth 1000000
namespace Go.Proofs.YteokijolhbohaaaGreatDoor.Sx
open Go
noncomputable def leaves0D : List Ent := [pchk0, pchk1]
noncomputable def leaves0A : List SVal := [(.agg [(.v (.int .i64 (-50))), (.v (.int .i64 55)), (.v (.int .i64 0)), (.v (.int .i64 90)), (.slice (.I (.O .H)) 0 3 (.upto 0))]), (.v (.int .i64 4))]
noncomputable def leaves0F : List (List SVal) := [[(.v (.int .i64 3)), (.v (.int .i64 42)), (.v (.int .i64 1)), (.v (.int .i64 0)), (.v (.int .i64 0)), (.v (.int .i64 0))]]
noncomputable def leaves0 : Ent := { f := 229, args := leaves0A, frag := leaves0F, s := (.tuple [(.slice (.I (.I (.I (.I (.O .H))))) 0 2 (.upto 0)), (.v (.int .i64 (.ofNat 0)))]), outs := [((.I (.I (.I (.I (.O .H))))), (.cells [(.v (.int .i64 (.negSucc 49))), (.v (.int .i64 (.ofNat 55))), (.v (.int .i64 (.ofNat 0))), (.v (.int .i64 (.ofNat 42))), (.v (.int .i64 (.ofNat 0))), (.v (.int .i64 (.negSucc 49))), (.v (.int .i64 (.ofNat 55))), (.v (.int .i64 (.ofNat 46))), (.v (.int .i64 (.ofNat 90))), (.v (.int .i64 (.negSucc 0)))] 368 (.some 5)))] }
noncomputable def leaves0O : Option Ob := (enterR Tryz.prog gM (clD Tryz.prog gM (orcT glM leaves0D) 2000 60) stopRf 2000 229 leaves0A (fragH (glM ++ leaves0F))).begun
noncomputable def leaves0R0 : YE := (rfO Tryz.prog gM (clD Tryz.prog gM (orcT glM leaves0D) 2000 60) 2000 48 0 leaves0O).clear
noncomputable def leaves0R : YE := enterR Tryz.prog gM (clD Tryz.prog gM (orcT glM leaves0D) 2000 60) (toldRf leaves0R0) 2000 229 leaves0A (fragH (glM ++ leaves0F))
theorem leaves0_N : ∀ fn, Tryz.prog.funcs[leaves0.f]? = some fn → fn.ntmps = 48 := fun fn h => by
  have h1 : (Tryz.prog.funcs[229]?).map (·.ntmps) = some 48 := by kernel_rfl
  have h2 : Tryz.prog.funcs[229]? = some fn := h
  rw [h2] at h1; exact Option.some.inj h1
theorem leaves0_all : ∀ l, rfO Tryz.prog gM (clD Tryz.prog gM (orcT glM leaves0D) 2000 60) 2000 48 l leaves0O = leaves0R0.owe (repL 3 l) := fun l => by kernel_rfl
theorem leaves0_nb : leaves0R0 ≠ .bad := fun h => by
  have h1 : (match leaves0R0 with | .bad => true | _ => false) = false := by kernel_rfl
  rw [h] at h1; cases h1
theorem leaves0_ok : EntOk Tryz.prog gM glM leaves0 := EntOk.ofR (orc := orcT glM leaves0D) (fuel := 2000) (d := 60) (N := 48) (k := 3) (ob := leaves0O) (r0 := leaves0R0) (r := leaves0R) (orcT_ok gM_lt _ (fun e h => by simp only [leaves0D, List.mem_cons, List.not_mem_nil, or_false] at h; rcases h with rfl | rfl <;> first | exact pchk0_ok | exact pchk1_ok)) (by decide +kernel) (by decide +kernel) leaves0_N rfl rfl leaves0_nb leaves0_all rfl (by kernel_rfl) (by kernel_rfl)
end Go.Proofs.YteokijolhbohaaaGreatDoor.Sx
end
