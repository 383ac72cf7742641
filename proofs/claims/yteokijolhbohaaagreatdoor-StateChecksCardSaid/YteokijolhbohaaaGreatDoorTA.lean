/-
  Chapter 59: several texts in one (SymTHull0, SymTHull1, SymTHull2, SymTHull3).
-/
import Derived.Test.YteokijolhbohaaaGreatDoorXD
section
set_option linter.unusedSimpArgs false
set_option linter.unusedVariables false
set_option maxRecDepth 1000000
namespace Go.Proofs.YteokijolhbohaaaGreatDoor.Sx
open Go
noncomputable def hull0D : List Ent := []
noncomputable def hull0A : List SVal := [(.slice (.I (.O .H)) 0 8 (.known 8))]
noncomputable def hull0F : List (List SVal) := [[(.v (.int .i64 100)), (.v (.int .i64 0)), (.v (.int .i64 100)), (.v (.int .i64 100)), (.v (.int .i64 0)), (.v (.int .i64 100)), (.v (.int .i64 (-100))), (.v (.int .i64 100)), (.v (.int .i64 (-100))), (.v (.int .i64 0)), (.v (.int .i64 (-100))), (.v (.int .i64 (-100))), (.v (.int .i64 0)), (.v (.int .i64 (-100))), (.v (.int .i64 100)), (.v (.int .i64 (-100)))]]
noncomputable def hull0 : Ent := { f := 439, args := hull0A, frag := hull0F, s := (.slice (.O (.O (.O (.I (.O (.I (.O .H))))))) 0 4 (.upto 0)), outs := [((.O (.O (.O (.I (.O (.I (.O .H))))))), (.cells [(.v (.int .i64 (.negSucc 99))), (.v (.int .i64 (.negSucc 99))), (.v (.int .i64 (.ofNat 100))), (.v (.int .i64 (.negSucc 99))), (.v (.int .i64 (.ofNat 100))), (.v (.int .i64 (.ofNat 100))), (.v (.int .i64 (.negSucc 99))), (.v (.int .i64 (.ofNat 100)))] 147 (.some 2)))] }
theorem hull0_ok : EntOk Tryz.prog gM glM hull0 := EntOk.of (orc := orcT glM hull0D) (fuel := 2000) (d := 60) (orcT_ok gM_lt _ (fun _ h => by cases h)) (by decide +kernel) (by decide +kernel) (by kernel_rfl)
end Go.Proofs.YteokijolhbohaaaGreatDoor.Sx
end
section
set_option linter.unusedSimpArgs false
set_option linter.unusedVariables false
set_option maxRecDepth 1000000
namespace Go.Proofs.YteokijolhbohaaaGreatDoor.Sx
open Go
noncomputable def hull1D : List Ent := []
noncomputable def hull1A : List SVal := [(.slice (.I (.O .H)) 0 8 (.known 8))]
noncomputable def hull1F : List (List SVal) := [[(.v (.int .i64 0)), (.v (.int .i64 100)), (.v (.int .i64 (-100))), (.v (.int .i64 100)), (.v (.int .i64 (-100))), (.v (.int .i64 0)), (.v (.int .i64 (-100))), (.v (.int .i64 (-100))), (.v (.int .i64 0)), (.v (.int .i64 (-100))), (.v (.int .i64 100)), (.v (.int .i64 (-100))), (.v (.int .i64 100)), (.v (.int .i64 0)), (.v (.int .i64 100)), (.v (.int .i64 100))]]
noncomputable def hull1 : Ent := { f := 439, args := hull1A, frag := hull1F, s := (.slice (.I (.I (.I (.O (.O (.O (.O .H))))))) 0 4 (.upto 0)), outs := [((.I (.I (.I (.O (.O (.O (.O .H))))))), (.cells [(.v (.int .i64 (.negSucc 99))), (.v (.int .i64 (.negSucc 99))), (.v (.int .i64 (.ofNat 100))), (.v (.int .i64 (.negSucc 99))), (.v (.int .i64 (.ofNat 100))), (.v (.int .i64 (.ofNat 100))), (.v (.int .i64 (.negSucc 99))), (.v (.int .i64 (.ofNat 100)))] 147 (.some 2)))] }
theorem hull1_ok : EntOk Tryz.prog gM glM hull1 := EntOk.of (orc := orcT glM hull1D) (fuel := 2000) (d := 60) (orcT_ok gM_lt _ (fun _ h => by cases h)) (by decide +kernel) (by decide +kernel) (by kernel_rfl)
end Go.Proofs.YteokijolhbohaaaGreatDoor.Sx
end
section
set_option linter.unusedSimpArgs false
set_option linter.unusedVariables false
set_option maxRecDepth 1000000
namespace Go.Proofs.YteokijolhbohaaaGreatDoor.Sx
open Go
noncomputable def hull2D : List Ent := []
noncomputable def hull2A : List SVal := [(.slice (.I (.O .H)) 0 8 (.known 8))]
noncomputable def hull2F : List (List SVal) := [[(.v (.int .i64 (-100))), (.v (.int .i64 0)), (.v (.int .i64 (-100))), (.v (.int .i64 (-100))), (.v (.int .i64 0)), (.v (.int .i64 (-100))), (.v (.int .i64 100)), (.v (.int .i64 (-100))), (.v (.int .i64 100)), (.v (.int .i64 0)), (.v (.int .i64 100)), (.v (.int .i64 100)), (.v (.int .i64 0)), (.v (.int .i64 100)), (.v (.int .i64 (-100))), (.v (.int .i64 100))]]
noncomputable def hull2 : Ent := { f := 439, args := hull2A, frag := hull2F, s := (.slice (.I (.I (.O (.O (.I (.O (.O .H))))))) 0 4 (.upto 0)), outs := [((.I (.I (.O (.O (.I (.O (.O .H))))))), (.cells [(.v (.int .i64 (.negSucc 99))), (.v (.int .i64 (.negSucc 99))), (.v (.int .i64 (.ofNat 100))), (.v (.int .i64 (.negSucc 99))), (.v (.int .i64 (.ofNat 100))), (.v (.int .i64 (.ofNat 100))), (.v (.int .i64 (.negSucc 99))), (.v (.int .i64 (.ofNat 100)))] 147 (.some 2)))] }
theorem hull2_ok : EntOk Tryz.prog gM glM hull2 := EntOk.of (orc := orcT glM hull2D) (fuel := 2000) (d := 60) (orcT_ok gM_lt _ (fun _ h => by cases h)) (by decide +kernel) (by decide +kernel) (by kernel_rfl)
end Go.Proofs.YteokijolhbohaaaGreatDoor.Sx
end
section
set_option linter.unusedSimpArgs false
set_option linter.unusedVariables false
set_option maxRecDepth 1000000
namespace Go.Proofs.YteokijolhbohaaaGreatDoor.Sx
open Go
noncomputable def hull3D : List Ent := []
noncomputable def hull3A : List SVal := [(.slice (.I (.O .H)) 0 8 (.known 8))]
noncomputable def hull3F : List (List SVal) := [[(.v (.int .i64 0)), (.v (.int .i64 (-100))), (.v (.int .i64 100)), (.v (.int .i64 (-100))), (.v (.int .i64 100)), (.v (.int .i64 0)), (.v (.int .i64 100)), (.v (.int .i64 100)), (.v (.int .i64 0)), (.v (.int .i64 100)), (.v (.int .i64 (-100))), (.v (.int .i64 100)), (.v (.int .i64 (-100))), (.v (.int .i64 0)), (.v (.int .i64 (-100))), (.v (.int .i64 (-100)))]]
noncomputable def hull3 : Ent := { f := 439, args := hull3A, frag := hull3F, s := (.slice (.I (.O (.O (.O (.I (.I (.O .H))))))) 0 4 (.upto 0)), outs := [((.I (.O (.O (.O (.I (.I (.O .H))))))), (.cells [(.v (.int .i64 (.negSucc 99))), (.v (.int .i64 (.negSucc 99))), (.v (.int .i64 (.ofNat 100))), (.v (.int .i64 (.negSucc 99))), (.v (.int .i64 (.ofNat 100))), (.v (.int .i64 (.ofNat 100))), (.v (.int .i64 (.negSucc 99))), (.v (.int .i64 (.ofNat 100)))] 147 (.some 2)))] }
theorem hull3_ok : EntOk Tryz.prog gM glM hull3 := EntOk.of (orc := orcT glM hull3D) (fuel := 2000) (d := 60) (orcT_ok gM_lt _ (fun _ h => by cases h)) (by decide +kernel) (by decide +kernel) (by kernel_rfl)
end Go.Proofs.YteokijolhbohaaaGreatDoor.Sx
end
