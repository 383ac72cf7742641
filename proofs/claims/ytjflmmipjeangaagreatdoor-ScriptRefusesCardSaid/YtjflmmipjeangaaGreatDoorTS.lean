/-
  Chapter 62: several texts in one (SymTRun0).
-/
import Derived.Test.YtjflmmipjeangaaGreatDoorSymOrc
import Derived.Test.YtjflmmipjeangaaGreatDoorTM
import Derived.Test.YtjflmmipjeangaaGreatDoorTF
import Derived.Test.YtjflmmipjeangaaGreatDoorTE
import Derived.Test.YtjflmmipjeangaaGreatDoorTD
import Derived.Test.YtjflmmipjeangaaGreatDoorTQ
import Derived.Test.YtjflmmipjeangaaGreatDoorTR
section
set_option linter.unusedSimpArgs false
set_option linter.unusedVariables false
set_option maxRecDepth 1000000
namespace Go.Proofs.YtjflmmipjeangaaGreatDoor.Sx
open Go
noncomputable def run0D : List Ent := [new0, words0, words1, words2, words3, words4, words5, eenc0, eenc1, eenc2, div0, div1, line0, line1, line2, outc0, outc1, outc2]
noncomputable def run0A : List SVal := [(.v (.string ⟨⟨[112, 101, 114, 109, 105, 116, 32, 80, 48, 48, 48, 48, 48, 49, 68, 32, 112, 105, 110, 101, 32, 48, 32, 49, 48, 48, 48, 32, 49, 48, 48, 48, 48, 48, 48, 48, 48, 48, 10, 102, 101, 108, 108, 32, 76, 48, 48, 48, 48, 48, 49, 87, 32, 80, 48, 48, 48, 48, 48, 49, 68, 10, 10, 115, 99, 97, 110, 32, 76, 48, 48, 48, 48, 48, 49, 87, 32, 51, 48, 48, 48, 32, 49, 48, 48, 32, 48, 32, 48]⟩⟩))]
noncomputable def run0F : List (List SVal) := []
noncomputable def run0 : Ent := { f := 9, args := run0A, frag := run0F, s := (.v (.string ⟨⟨[100, 48, 32, 48, 48, 58, 48, 48, 32, 112, 101, 114, 109, 105, 116, 32, 80, 48, 48, 48, 48, 48, 49, 68, 32, 48, 32, 49, 48, 48, 48, 32, 49, 48, 48, 48, 48, 48, 48, 48, 48, 48, 10, 100, 48, 32, 48, 48, 58, 48, 48, 32, 102, 101, 108, 108, 32, 76, 48, 48, 48, 48, 48, 49, 87, 32, 80, 48, 48, 48, 48, 48, 49, 68, 10, 100, 48, 32, 48, 48, 58, 48, 48, 32, 115, 99, 97, 110, 32, 76, 48, 48, 48, 48, 48, 49, 87, 10]⟩⟩)), outs := [] }
noncomputable def run0O : Option Ob := (enterR Tryz.prog gM (clD Tryz.prog gM (orcA run0D) 2000 60) stopRf 2000 9 run0A (fragH (glM ++ run0F))).begun
noncomputable def run0R0 : YE := (rfO Tryz.prog gM (clD Tryz.prog gM (orcA run0D) 2000 60) 2000 21 0 run0O).clear
noncomputable def run0R : YE := enterR Tryz.prog gM (clD Tryz.prog gM (orcA run0D) 2000 60) (toldRf run0R0) 2000 9 run0A (fragH (glM ++ run0F))
theorem run0_N : ∀ fn, Tryz.prog.funcs[run0.f]? = some fn → fn.ntmps = 21 := fun fn h => by
  have h1 : (Tryz.prog.funcs[9]?).map (·.ntmps) = some 21 := by kernel_rfl
  have h2 : Tryz.prog.funcs[9]? = some fn := h
  rw [h2] at h1; exact Option.some.inj h1
theorem run0_all : ∀ l, rfO Tryz.prog gM (clD Tryz.prog gM (orcA run0D) 2000 60) 2000 21 l run0O = run0R0.owe (repL 4 l) := fun l => by kernel_rfl
theorem run0_nb : run0R0 ≠ .bad := fun h => by
  have h1 : (match run0R0 with | .bad => true | _ => false) = false := by kernel_rfl
  rw [h] at h1; cases h1
theorem run0_ok : EntOk Tryz.prog gM glM run0 := EntOk.ofR (orc := orcA run0D) (fuel := 2000) (d := 60) (N := 21) (k := 4) (ob := run0O) (r0 := run0R0) (r := run0R) (orcA_ok _ (fun e h => by simp only [run0D, List.mem_cons, List.not_mem_nil, or_false] at h; rcases h with rfl | rfl | rfl | rfl | rfl | rfl | rfl | rfl | rfl | rfl | rfl | rfl | rfl | rfl | rfl | rfl | rfl | rfl <;> first | exact new0_ok | exact words0_ok | exact words1_ok | exact words2_ok | exact words3_ok | exact words4_ok | exact words5_ok | exact eenc0_ok | exact eenc1_ok | exact eenc2_ok | exact div0_ok | exact div1_ok | exact line0_ok | exact line1_ok | exact line2_ok | exact outc0_ok | exact outc1_ok | exact outc2_ok)) (by decide +kernel) (by decide +kernel) run0_N rfl rfl run0_nb run0_all rfl (by kernel_rfl) (by kernel_rfl)
end Go.Proofs.YtjflmmipjeangaaGreatDoor.Sx
end
