/-
  Chapter 62: several texts in one (SymTChk0, SymTArea0, SymTWood0, SymTWood1, SymTDiv0, SymTWords0, SymTDiv1).
-/
import Derived.Test.YtjflmmipjeangaaGreatDoorSymOrc
section
set_option linter.unusedSimpArgs false
set_option linter.unusedVariables false
set_option maxRecDepth 1000000
namespace Go.Proofs.YtjflmmipjeangaaGreatDoor.Sx
open Go
noncomputable def chk0D : List Ent := []
noncomputable def chk0A : List SVal := [(.slice (.O (.I (.O .H))) 0 2 (.known 2))]
noncomputable def chk0F : List (List SVal) := [[(.v (.int .i64 1500)), (.v (.int .i64 (-9))), (.slice (.I (.I (.O .H))) 0 18 (.upto 0)), (.v (.int .i64 1500)), (.v (.int .i64 (-9))), (.slice (.O (.O (.I .H))) 0 18 (.upto 0))], [(.v (.int .i64 (-23))), (.v (.int .i64 23)), (.v (.int .i64 (-46))), (.v (.int .i64 46)), (.v (.int .i64 (-70))), (.v (.int .i64 70)), (.v (.int .i64 (-74))), (.v (.int .i64 74)), (.v (.int .i64 (-78))), (.v (.int .i64 78)), (.v (.int .i64 (-82))), (.v (.int .i64 82)), (.v (.int .i64 (-87))), (.v (.int .i64 87)), (.v (.int .i64 (-91))), (.v (.int .i64 91)), (.v (.int .i64 (-95))), (.v (.int .i64 95)), (.v (.int .i64 (-95))), (.v (.int .i64 95)), (.v (.int .i64 (-91))), (.v (.int .i64 91)), (.v (.int .i64 (-87))), (.v (.int .i64 87)), (.v (.int .i64 (-82))), (.v (.int .i64 82)), (.v (.int .i64 (-78))), (.v (.int .i64 78)), (.v (.int .i64 (-74))), (.v (.int .i64 74)), (.v (.int .i64 (-70))), (.v (.int .i64 70)), (.v (.int .i64 (-46))), (.v (.int .i64 46)), (.v (.int .i64 (-23))), (.v (.int .i64 23)), (.v (.int .i64 0)), (.v (.int .i64 0)), (.v (.int .i64 0)), (.v (.int .i64 0)), (.v (.int .i64 0)), (.v (.int .i64 0)), (.v (.int .i64 0)), (.v (.int .i64 0)), (.v (.int .i64 0)), (.v (.int .i64 0)), (.v (.int .i64 0)), (.v (.int .i64 0)), (.v (.int .i64 0)), (.v (.int .i64 0)), (.v (.int .i64 0)), (.v (.int .i64 0)), (.v (.int .i64 0)), (.v (.int .i64 0)), (.v (.int .i64 0)), (.v (.int .i64 0)), (.v (.int .i64 0)), (.v (.int .i64 0)), (.v (.int .i64 0)), (.v (.int .i64 0)), (.v (.int .i64 0)), (.v (.int .i64 0)), (.v (.int .i64 0)), (.v (.int .i64 0)), (.v (.int .i64 0)), (.v (.int .i64 0)), (.v (.int .i64 0)), (.v (.int .i64 0)), (.v (.int .i64 0)), (.v (.int .i64 0)), (.v (.int .i64 0)), (.v (.int .i64 0)), (.v (.int .i64 0)), (.v (.int .i64 0)), (.v (.int .i64 0)), (.v (.int .i64 0)), (.v (.int .i64 0)), (.v (.int .i64 0)), (.v (.int .i64 0)), (.v (.int .i64 0)), (.v (.int .i64 0)), (.v (.int .i64 0)), (.v (.int .i64 0)), (.v (.int .i64 0)), (.v (.int .i64 0)), (.v (.int .i64 0)), (.v (.int .i64 0)), (.v (.int .i64 0)), (.v (.int .i64 0)), (.v (.int .i64 0)), (.v (.int .i64 0)), (.v (.int .i64 0)), (.v (.int .i64 0)), (.v (.int .i64 0)), (.v (.int .i64 0)), (.v (.int .i64 0)), (.v (.int .i64 0)), (.v (.int .i64 0)), (.v (.int .i64 0)), (.v (.int .i64 0)), (.v (.int .i64 0)), (.v (.int .i64 0)), (.v (.int .i64 0)), (.v (.int .i64 0)), (.v (.int .i64 0)), (.v (.int .i64 0)), (.v (.int .i64 0)), (.v (.int .i64 0)), (.v (.int .i64 0)), (.v (.int .i64 0)), (.v (.int .i64 0)), (.v (.int .i64 0)), (.v (.int .i64 0)), (.v (.int .i64 0)), (.v (.int .i64 0)), (.v (.int .i64 0)), (.v (.int .i64 0)), (.v (.int .i64 0)), (.v (.int .i64 0)), (.v (.int .i64 0)), (.v (.int .i64 0)), (.v (.int .i64 0)), (.v (.int .i64 0)), (.v (.int .i64 0)), (.v (.int .i64 0)), (.v (.int .i64 0)), (.v (.int .i64 0)), (.v (.int .i64 0)), (.v (.int .i64 0)), (.v (.int .i64 0)), (.v (.int .i64 0)), (.v (.int .i64 0)), (.v (.int .i64 0)), (.v (.int .i64 0)), (.v (.int .i64 0)), (.v (.int .i64 0)), (.v (.int .i64 0)), (.v (.int .i64 0))], [(.v (.int .i64 (-23))), (.v (.int .i64 23)), (.v (.int .i64 (-46))), (.v (.int .i64 46)), (.v (.int .i64 (-70))), (.v (.int .i64 70)), (.v (.int .i64 (-74))), (.v (.int .i64 74)), (.v (.int .i64 (-78))), (.v (.int .i64 78)), (.v (.int .i64 (-82))), (.v (.int .i64 82)), (.v (.int .i64 (-87))), (.v (.int .i64 87)), (.v (.int .i64 (-91))), (.v (.int .i64 91)), (.v (.int .i64 (-95))), (.v (.int .i64 95)), (.v (.int .i64 (-95))), (.v (.int .i64 95)), (.v (.int .i64 (-91))), (.v (.int .i64 91)), (.v (.int .i64 (-87))), (.v (.int .i64 87)), (.v (.int .i64 (-82))), (.v (.int .i64 82)), (.v (.int .i64 (-78))), (.v (.int .i64 78)), (.v (.int .i64 (-74))), (.v (.int .i64 74)), (.v (.int .i64 (-70))), (.v (.int .i64 70)), (.v (.int .i64 (-46))), (.v (.int .i64 46)), (.v (.int .i64 (-23))), (.v (.int .i64 23)), (.v (.int .i64 0)), (.v (.int .i64 0)), (.v (.int .i64 0)), (.v (.int .i64 0)), (.v (.int .i64 0)), (.v (.int .i64 0)), (.v (.int .i64 0)), (.v (.int .i64 0)), (.v (.int .i64 0)), (.v (.int .i64 0)), (.v (.int .i64 0)), (.v (.int .i64 0)), (.v (.int .i64 0)), (.v (.int .i64 0)), (.v (.int .i64 0)), (.v (.int .i64 0)), (.v (.int .i64 0)), (.v (.int .i64 0)), (.v (.int .i64 0)), (.v (.int .i64 0)), (.v (.int .i64 0)), (.v (.int .i64 0)), (.v (.int .i64 0)), (.v (.int .i64 0)), (.v (.int .i64 0)), (.v (.int .i64 0)), (.v (.int .i64 0)), (.v (.int .i64 0)), (.v (.int .i64 0)), (.v (.int .i64 0)), (.v (.int .i64 0)), (.v (.int .i64 0)), (.v (.int .i64 0)), (.v (.int .i64 0)), (.v (.int .i64 0)), (.v (.int .i64 0)), (.v (.int .i64 0)), (.v (.int .i64 0)), (.v (.int .i64 0)), (.v (.int .i64 0)), (.v (.int .i64 0)), (.v (.int .i64 0)), (.v (.int .i64 0)), (.v (.int .i64 0)), (.v (.int .i64 0)), (.v (.int .i64 0)), (.v (.int .i64 0)), (.v (.int .i64 0)), (.v (.int .i64 0)), (.v (.int .i64 0)), (.v (.int .i64 0)), (.v (.int .i64 0)), (.v (.int .i64 0)), (.v (.int .i64 0)), (.v (.int .i64 0)), (.v (.int .i64 0)), (.v (.int .i64 0)), (.v (.int .i64 0)), (.v (.int .i64 0)), (.v (.int .i64 0)), (.v (.int .i64 0)), (.v (.int .i64 0)), (.v (.int .i64 0)), (.v (.int .i64 0)), (.v (.int .i64 0)), (.v (.int .i64 0)), (.v (.int .i64 0)), (.v (.int .i64 0)), (.v (.int .i64 0)), (.v (.int .i64 0)), (.v (.int .i64 0)), (.v (.int .i64 0)), (.v (.int .i64 0)), (.v (.int .i64 0)), (.v (.int .i64 0)), (.v (.int .i64 0)), (.v (.int .i64 0)), (.v (.int .i64 0)), (.v (.int .i64 0)), (.v (.int .i64 0)), (.v (.int .i64 0)), (.v (.int .i64 0)), (.v (.int .i64 0)), (.v (.int .i64 0)), (.v (.int .i64 0)), (.v (.int .i64 0)), (.v (.int .i64 0)), (.v (.int .i64 0)), (.v (.int .i64 0)), (.v (.int .i64 0)), (.v (.int .i64 0)), (.v (.int .i64 0)), (.v (.int .i64 0)), (.v (.int .i64 0)), (.v (.int .i64 0)), (.v (.int .i64 0)), (.v (.int .i64 0)), (.v (.int .i64 0)), (.v (.int .i64 0)), (.v (.int .i64 0)), (.v (.int .i64 0)), (.v (.int .i64 0))]]
noncomputable def chk0 : Ent := { f := 387, args := chk0A, frag := chk0F, s := (.v (.int .i64 (.ofNat 0))), outs := [] }
theorem chk0_ok : EntOk Tryz.prog gM glM chk0 := EntOk.of (orc := orcA chk0D) (fuel := 2000) (d := 60) (orcA_ok _ (fun _ h => by cases h)) (by decide +kernel) (by decide +kernel) (by kernel_rfl)
end Go.Proofs.YtjflmmipjeangaaGreatDoor.Sx
end
section
set_option linter.unusedSimpArgs false
set_option linter.unusedVariables false
set_option maxRecDepth 1000000
namespace Go.Proofs.YtjflmmipjeangaaGreatDoor.Sx
open Go
noncomputable def area0D : List Ent := []
noncomputable def area0A : List SVal := [(.agg [(.v (.int .i64 (-9))), (.slice (.O (.I (.O .H))) 0 18 (.upto 0))])]
noncomputable def area0F : List (List SVal) := [[(.v (.int .i64 (-23))), (.v (.int .i64 23)), (.v (.int .i64 (-46))), (.v (.int .i64 46)), (.v (.int .i64 (-70))), (.v (.int .i64 70)), (.v (.int .i64 (-74))), (.v (.int .i64 74)), (.v (.int .i64 (-78))), (.v (.int .i64 78)), (.v (.int .i64 (-82))), (.v (.int .i64 82)), (.v (.int .i64 (-87))), (.v (.int .i64 87)), (.v (.int .i64 (-91))), (.v (.int .i64 91)), (.v (.int .i64 (-95))), (.v (.int .i64 95)), (.v (.int .i64 (-95))), (.v (.int .i64 95)), (.v (.int .i64 (-91))), (.v (.int .i64 91)), (.v (.int .i64 (-87))), (.v (.int .i64 87)), (.v (.int .i64 (-82))), (.v (.int .i64 82)), (.v (.int .i64 (-78))), (.v (.int .i64 78)), (.v (.int .i64 (-74))), (.v (.int .i64 74)), (.v (.int .i64 (-70))), (.v (.int .i64 70)), (.v (.int .i64 (-46))), (.v (.int .i64 46)), (.v (.int .i64 (-23))), (.v (.int .i64 23)), (.v (.int .i64 0)), (.v (.int .i64 0)), (.v (.int .i64 0)), (.v (.int .i64 0)), (.v (.int .i64 0)), (.v (.int .i64 0)), (.v (.int .i64 0)), (.v (.int .i64 0)), (.v (.int .i64 0)), (.v (.int .i64 0)), (.v (.int .i64 0)), (.v (.int .i64 0)), (.v (.int .i64 0)), (.v (.int .i64 0)), (.v (.int .i64 0)), (.v (.int .i64 0)), (.v (.int .i64 0)), (.v (.int .i64 0)), (.v (.int .i64 0)), (.v (.int .i64 0)), (.v (.int .i64 0)), (.v (.int .i64 0)), (.v (.int .i64 0)), (.v (.int .i64 0)), (.v (.int .i64 0)), (.v (.int .i64 0)), (.v (.int .i64 0)), (.v (.int .i64 0)), (.v (.int .i64 0)), (.v (.int .i64 0)), (.v (.int .i64 0)), (.v (.int .i64 0)), (.v (.int .i64 0)), (.v (.int .i64 0)), (.v (.int .i64 0)), (.v (.int .i64 0)), (.v (.int .i64 0)), (.v (.int .i64 0)), (.v (.int .i64 0)), (.v (.int .i64 0)), (.v (.int .i64 0)), (.v (.int .i64 0)), (.v (.int .i64 0)), (.v (.int .i64 0)), (.v (.int .i64 0)), (.v (.int .i64 0)), (.v (.int .i64 0)), (.v (.int .i64 0)), (.v (.int .i64 0)), (.v (.int .i64 0)), (.v (.int .i64 0)), (.v (.int .i64 0)), (.v (.int .i64 0)), (.v (.int .i64 0)), (.v (.int .i64 0)), (.v (.int .i64 0)), (.v (.int .i64 0)), (.v (.int .i64 0)), (.v (.int .i64 0)), (.v (.int .i64 0)), (.v (.int .i64 0)), (.v (.int .i64 0)), (.v (.int .i64 0)), (.v (.int .i64 0)), (.v (.int .i64 0)), (.v (.int .i64 0)), (.v (.int .i64 0)), (.v (.int .i64 0)), (.v (.int .i64 0)), (.v (.int .i64 0)), (.v (.int .i64 0)), (.v (.int .i64 0)), (.v (.int .i64 0)), (.v (.int .i64 0)), (.v (.int .i64 0)), (.v (.int .i64 0)), (.v (.int .i64 0)), (.v (.int .i64 0)), (.v (.int .i64 0)), (.v (.int .i64 0)), (.v (.int .i64 0)), (.v (.int .i64 0)), (.v (.int .i64 0)), (.v (.int .i64 0)), (.v (.int .i64 0)), (.v (.int .i64 0)), (.v (.int .i64 0)), (.v (.int .i64 0)), (.v (.int .i64 0)), (.v (.int .i64 0)), (.v (.int .i64 0)), (.v (.int .i64 0)), (.v (.int .i64 0)), (.v (.int .i64 0)), (.v (.int .i64 0)), (.v (.int .i64 0)), (.v (.int .i64 0)), (.v (.int .i64 0)), (.v (.int .i64 0)), (.v (.int .i64 0)), (.v (.int .i64 0)), (.v (.int .i64 0))]]
noncomputable def area0 : Ent := { f := 433, args := area0A, frag := area0F, s := (.v (.int .i64 (.ofNat 25840))), outs := [] }
theorem area0_ok : EntOk Tryz.prog gM glM area0 := EntOk.of (orc := orcA area0D) (fuel := 2000) (d := 60) (orcA_ok _ (fun _ h => by cases h)) (by decide +kernel) (by decide +kernel) (by kernel_rfl)
end Go.Proofs.YtjflmmipjeangaaGreatDoor.Sx
end
section
set_option linter.unusedSimpArgs false
set_option linter.unusedVariables false
set_option maxRecDepth 1000000
namespace Go.Proofs.YtjflmmipjeangaaGreatDoor.Sx
open Go
noncomputable def wood0D : List Ent := []
noncomputable def wood0A : List SVal := [(.slice (.O (.I (.O .H))) 0 4 (.known 4))]
noncomputable def wood0F : List (List SVal) := [[(.v (.string ⟨⟨[112, 105, 110, 101]⟩⟩)), (.v (.int .i64 9000)), (.v (.int .i64 500)), (.v (.int .i64 80)), (.v (.int .i64 600)), (.v (.int .i64 2500)), (.v (.int .i64 20000)), (.v (.int .i64 800)), (.v (.int .i64 250)), (.v (.int .i64 480)), (.v (.int .i64 11000)), (.v (.int .i64 400)), (.v (.int .i64 60)), (.v (.string ⟨⟨[115, 112, 114, 117, 99, 101]⟩⟩)), (.v (.int .i64 8000)), (.v (.int .i64 600)), (.v (.int .i64 100)), (.v (.int .i64 700)), (.v (.int .i64 2500)), (.v (.int .i64 20000)), (.v (.int .i64 850)), (.v (.int .i64 280)), (.v (.int .i64 430)), (.v (.int .i64 11500)), (.v (.int .i64 450)), (.v (.int .i64 65)), (.v (.string ⟨⟨[111, 97, 107]⟩⟩)), (.v (.int .i64 8000)), (.v (.int .i64 150)), (.v (.int .i64 20)), (.v (.int .i64 300)), (.v (.int .i64 1500)), (.v (.int .i64 8000)), (.v (.int .i64 600)), (.v (.int .i64 120)), (.v (.int .i64 650)), (.v (.int .i64 12500)), (.v (.int .i64 350)), (.v (.int .i64 75)), (.v (.string ⟨⟨[98, 101, 101, 99, 104]⟩⟩)), (.v (.int .i64 7500)), (.v (.int .i64 250)), (.v (.int .i64 40)), (.v (.int .i64 400)), (.v (.int .i64 1800)), (.v (.int .i64 12000)), (.v (.int .i64 700)), (.v (.int .i64 180)), (.v (.int .i64 680)), (.v (.int .i64 14000)), (.v (.int .i64 300)), (.v (.int .i64 100))]]
noncomputable def wood0 : Ent := { f := 56, args := wood0A, frag := wood0F, s := (.v (.int .i64 (.ofNat 0))), outs := [] }
theorem wood0_ok : EntOk Tryz.prog gM glM wood0 := EntOk.of (orc := orcA wood0D) (fuel := 2000) (d := 60) (orcA_ok _ (fun _ h => by cases h)) (by decide +kernel) (by decide +kernel) (by kernel_rfl)
end Go.Proofs.YtjflmmipjeangaaGreatDoor.Sx
end
section
set_option linter.unusedSimpArgs false
set_option linter.unusedVariables false
set_option maxRecDepth 1000000
namespace Go.Proofs.YtjflmmipjeangaaGreatDoor.Sx
open Go
noncomputable def wood1D : List Ent := []
noncomputable def wood1A : List SVal := [(.slice (.O (.I (.O .H))) 0 4 (.upto 0))]
noncomputable def wood1F : List (List SVal) := [[(.v (.string ⟨⟨[112, 105, 110, 101]⟩⟩)), (.v (.int .i64 9000)), (.v (.int .i64 500)), (.v (.int .i64 80)), (.v (.int .i64 600)), (.v (.int .i64 2500)), (.v (.int .i64 20000)), (.v (.int .i64 800)), (.v (.int .i64 250)), (.v (.int .i64 480)), (.v (.int .i64 11000)), (.v (.int .i64 400)), (.v (.int .i64 60)), (.v (.string ⟨⟨[115, 112, 114, 117, 99, 101]⟩⟩)), (.v (.int .i64 8000)), (.v (.int .i64 600)), (.v (.int .i64 100)), (.v (.int .i64 700)), (.v (.int .i64 2500)), (.v (.int .i64 20000)), (.v (.int .i64 850)), (.v (.int .i64 280)), (.v (.int .i64 430)), (.v (.int .i64 11500)), (.v (.int .i64 450)), (.v (.int .i64 65)), (.v (.string ⟨⟨[111, 97, 107]⟩⟩)), (.v (.int .i64 8000)), (.v (.int .i64 150)), (.v (.int .i64 20)), (.v (.int .i64 300)), (.v (.int .i64 1500)), (.v (.int .i64 8000)), (.v (.int .i64 600)), (.v (.int .i64 120)), (.v (.int .i64 650)), (.v (.int .i64 12500)), (.v (.int .i64 350)), (.v (.int .i64 75)), (.v (.string ⟨⟨[98, 101, 101, 99, 104]⟩⟩)), (.v (.int .i64 7500)), (.v (.int .i64 250)), (.v (.int .i64 40)), (.v (.int .i64 400)), (.v (.int .i64 1800)), (.v (.int .i64 12000)), (.v (.int .i64 700)), (.v (.int .i64 180)), (.v (.int .i64 680)), (.v (.int .i64 14000)), (.v (.int .i64 300)), (.v (.int .i64 100))]]
noncomputable def wood1 : Ent := { f := 56, args := wood1A, frag := wood1F, s := (.v (.int .i64 (.ofNat 0))), outs := [] }
theorem wood1_ok : EntOk Tryz.prog gM glM wood1 := EntOk.of (orc := orcA wood1D) (fuel := 2000) (d := 60) (orcA_ok _ (fun _ h => by cases h)) (by decide +kernel) (by decide +kernel) (by kernel_rfl)
end Go.Proofs.YtjflmmipjeangaaGreatDoor.Sx
end
section
set_option linter.unusedSimpArgs false
set_option linter.unusedVariables false
set_option maxRecDepth 1000000
namespace Go.Proofs.YtjflmmipjeangaaGreatDoor.Sx
open Go
noncomputable def div0D : List Ent := []
noncomputable def div0A : List SVal := [(.v (.int .u64 0)), (.slice (.O (.I (.O .H))) 0 1 (.upto 0))]
noncomputable def div0F : List (List SVal) := [[(.v (.string ⟨⟨[2, 0, 8, 80, 48, 48, 48, 48, 48, 49, 68, 0, 3, 0, 208, 15, 128, 168, 214, 185, 7, 4, 112, 105, 110, 101]⟩⟩))]]
noncomputable def div0 : Ent := { f := 488, args := div0A, frag := div0F, s := (.tuple [(.slice (.O (.O (.I (.O .H)))) 0 1 (.upto 0)), (.v (.int .u64 (.ofNat 7426487107732220295))), (.v (.int .i64 (.ofNat 0)))]), outs := [((.O (.O (.I (.O .H)))), (.cells [(.v (.string ⟨⟨[54, 55, 49, 48, 50, 101, 97, 100, 54, 49, 54, 53, 97, 57, 56, 55, 46, 50, 55, 26, 2, 0, 8, 80, 48, 48, 48, 48, 48, 49, 68, 0, 3, 0, 208, 15, 128, 168, 214, 185, 7, 4, 112, 105, 110, 101]⟩⟩))] 9 (.some 1)))] }
theorem div0_ok : EntOk Tryz.prog gM glM div0 := EntOk.of (orc := orcA div0D) (fuel := 2000) (d := 60) (orcA_ok _ (fun _ h => by cases h)) (by decide +kernel) (by decide +kernel) (by kernel_rfl)
end Go.Proofs.YtjflmmipjeangaaGreatDoor.Sx
end
section
set_option linter.unusedSimpArgs false
set_option linter.unusedVariables false
set_option maxRecDepth 1000000
namespace Go.Proofs.YtjflmmipjeangaaGreatDoor.Sx
open Go
noncomputable def words0D : List Ent := []
noncomputable def words0A : List SVal := [(.v (.string ⟨⟨[102, 108, 121]⟩⟩))]
noncomputable def words0F : List (List SVal) := []
noncomputable def words0 : Ent := { f := 33, args := words0A, frag := words0F, s := (.tuple [(.slice (.O (.I (.O .H))) 0 1 (.known 1)), (.v (.int .i64 (.ofNat 0)))]), outs := [((.O (.I (.O .H))), (.cells [(.v (.string ⟨⟨[102, 108, 121]⟩⟩))] 9 .none))] }
theorem words0_ok : EntOk Tryz.prog gM glM words0 := EntOk.of (orc := orcA words0D) (fuel := 2000) (d := 60) (orcA_ok _ (fun _ h => by cases h)) (by decide +kernel) (by decide +kernel) (by kernel_rfl)
end Go.Proofs.YtjflmmipjeangaaGreatDoor.Sx
end
section
set_option linter.unusedSimpArgs false
set_option linter.unusedVariables false
set_option maxRecDepth 1000000
namespace Go.Proofs.YtjflmmipjeangaaGreatDoor.Sx
open Go
noncomputable def div1D : List Ent := []
noncomputable def div1A : List SVal := [(.v (.int .u64 7426487107732220295)), (.slice (.O (.I (.O .H))) 0 1 (.upto 0))]
noncomputable def div1F : List (List SVal) := [[(.v (.string ⟨⟨[4, 0, 8, 76, 48, 48, 48, 48, 48, 49, 87, 8, 80, 48, 48, 48, 48, 48, 49, 68, 0, 0]⟩⟩))]]
noncomputable def div1 : Ent := { f := 488, args := div1A, frag := div1F, s := (.tuple [(.slice (.O (.O (.I (.O .H)))) 0 1 (.upto 0)), (.v (.int .u64 (.ofNat 10050094621246607065))), (.v (.int .i64 (.ofNat 0)))]), outs := [((.O (.O (.I (.O .H)))), (.cells [(.v (.string ⟨⟨[56, 98, 55, 57, 49, 98, 99, 102, 55, 50, 55, 55, 99, 101, 100, 57, 46, 50, 51, 22, 4, 0, 8, 76, 48, 48, 48, 48, 48, 49, 87, 8, 80, 48, 48, 48, 48, 48, 49, 68, 0, 0]⟩⟩))] 9 (.some 1)))] }
theorem div1_ok : EntOk Tryz.prog gM glM div1 := EntOk.of (orc := orcA div1D) (fuel := 2000) (d := 60) (orcA_ok _ (fun _ h => by cases h)) (by decide +kernel) (by decide +kernel) (by kernel_rfl)
end Go.Proofs.YtjflmmipjeangaaGreatDoor.Sx
end
