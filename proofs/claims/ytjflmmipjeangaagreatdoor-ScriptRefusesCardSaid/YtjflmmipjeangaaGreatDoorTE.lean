/-
  Chapter 62: several texts in one (SymTWords3, SymTEenc1, SymTWords5, SymTEenc0, SymTLine1, SymTEenc2, SymTWords4, SymTLine2, SymTWords2, SymTWords1).
-/
import Derived.Test.YtjflmmipjeangaaGreatDoorSymOrc
section
set_option linter.unusedSimpArgs false
set_option linter.unusedVariables false
set_option maxRecDepth 1000000
namespace Go.Proofs.YtjflmmipjeangaaGreatDoor.Sx
open Go
noncomputable def words3D : List Ent := []
noncomputable def words3A : List SVal := [(.v (.string ⟨⟨[112, 101, 114, 109, 105, 116, 32, 80, 48, 48, 48, 48, 48, 49, 68, 32, 112, 105, 110, 101, 32, 48, 32, 49, 48, 48, 48, 32, 49, 48, 48, 48, 48, 48, 48, 48, 48, 48]⟩⟩))]
noncomputable def words3F : List (List SVal) := []
noncomputable def words3 : Ent := { f := 33, args := words3A, frag := words3F, s := (.tuple [(.slice (.O (.I (.O .H))) 0 6 (.known 6)), (.v (.int .i64 (.ofNat 0)))]), outs := [((.O (.I (.O .H))), (.cells [(.v (.string ⟨⟨[112, 101, 114, 109, 105, 116]⟩⟩)), (.v (.string ⟨⟨[80, 48, 48, 48, 48, 48, 49, 68]⟩⟩)), (.v (.string ⟨⟨[112, 105, 110, 101]⟩⟩)), (.v (.string ⟨⟨[48]⟩⟩)), (.v (.string ⟨⟨[49, 48, 48, 48]⟩⟩)), (.v (.string ⟨⟨[49, 48, 48, 48, 48, 48, 48, 48, 48, 48]⟩⟩))] 9 .none))] }
theorem words3_ok : EntOk Tryz.prog gM glM words3 := EntOk.of (orc := orcA words3D) (fuel := 2000) (d := 60) (orcA_ok _ (fun _ h => by cases h)) (by decide +kernel) (by decide +kernel) (by kernel_rfl)
end Go.Proofs.YtjflmmipjeangaaGreatDoor.Sx
end
section
set_option linter.unusedSimpArgs false
set_option linter.unusedVariables false
set_option maxRecDepth 1000000
namespace Go.Proofs.YtjflmmipjeangaaGreatDoor.Sx
open Go
noncomputable def eenc1D : List Ent := []
noncomputable def eenc1A : List SVal := [(.agg [(.v (.int .i64 2)), (.v (.int .i64 0)), (.v (.string ⟨⟨[76, 48, 48, 48, 48, 48, 49, 87]⟩⟩)), (.v (.string ⟨⟨[80, 48, 48, 48, 48, 48, 49, 68]⟩⟩)), (.v (.slice none 0 0)), (.v (.string ⟨⟨[]⟩⟩))])]
noncomputable def eenc1F : List (List SVal) := []
noncomputable def eenc1 : Ent := { f := 225, args := eenc1A, frag := eenc1F, s := (.tuple [(.v (.string ⟨⟨[4, 0, 8, 76, 48, 48, 48, 48, 48, 49, 87, 8, 80, 48, 48, 48, 48, 48, 49, 68, 0, 0]⟩⟩)), (.v (.int .i64 (.ofNat 0)))]), outs := [] }
theorem eenc1_ok : EntOk Tryz.prog gM glM eenc1 := EntOk.of (orc := orcA eenc1D) (fuel := 2000) (d := 60) (orcA_ok _ (fun _ h => by cases h)) (by decide +kernel) (by decide +kernel) (by kernel_rfl)
end Go.Proofs.YtjflmmipjeangaaGreatDoor.Sx
end
section
set_option linter.unusedSimpArgs false
set_option linter.unusedVariables false
set_option maxRecDepth 1000000
namespace Go.Proofs.YtjflmmipjeangaaGreatDoor.Sx
open Go
noncomputable def words5D : List Ent := []
noncomputable def words5A : List SVal := [(.v (.string ⟨⟨[115, 99, 97, 110, 32, 76, 48, 48, 48, 48, 48, 49, 87, 32, 51, 48, 48, 48, 32, 49, 48, 48, 32, 48, 32, 48]⟩⟩))]
noncomputable def words5F : List (List SVal) := []
noncomputable def words5 : Ent := { f := 33, args := words5A, frag := words5F, s := (.tuple [(.slice (.O (.I (.O .H))) 0 6 (.known 6)), (.v (.int .i64 (.ofNat 0)))]), outs := [((.O (.I (.O .H))), (.cells [(.v (.string ⟨⟨[115, 99, 97, 110]⟩⟩)), (.v (.string ⟨⟨[76, 48, 48, 48, 48, 48, 49, 87]⟩⟩)), (.v (.string ⟨⟨[51, 48, 48, 48]⟩⟩)), (.v (.string ⟨⟨[49, 48, 48]⟩⟩)), (.v (.string ⟨⟨[48]⟩⟩)), (.v (.string ⟨⟨[48]⟩⟩))] 9 .none))] }
theorem words5_ok : EntOk Tryz.prog gM glM words5 := EntOk.of (orc := orcA words5D) (fuel := 2000) (d := 60) (orcA_ok _ (fun _ h => by cases h)) (by decide +kernel) (by decide +kernel) (by kernel_rfl)
end Go.Proofs.YtjflmmipjeangaaGreatDoor.Sx
end
section
set_option linter.unusedSimpArgs false
set_option linter.unusedVariables false
set_option maxRecDepth 1000000
namespace Go.Proofs.YtjflmmipjeangaaGreatDoor.Sx
open Go
noncomputable def eenc0D : List Ent := []
noncomputable def eenc0A : List SVal := [(.agg [(.v (.int .i64 1)), (.v (.int .i64 0)), (.v (.string ⟨⟨[80, 48, 48, 48, 48, 48, 49, 68]⟩⟩)), (.v (.string ⟨⟨[]⟩⟩)), (.slice (.O (.I (.O .H))) 0 3 (.upto 0)), (.v (.string ⟨⟨[112, 105, 110, 101]⟩⟩))])]
noncomputable def eenc0F : List (List SVal) := [[(.v (.int .i64 0)), (.v (.int .i64 1000)), (.v (.int .i64 1000000000))]]
noncomputable def eenc0 : Ent := { f := 225, args := eenc0A, frag := eenc0F, s := (.tuple [(.v (.string ⟨⟨[2, 0, 8, 80, 48, 48, 48, 48, 48, 49, 68, 0, 3, 0, 208, 15, 128, 168, 214, 185, 7, 4, 112, 105, 110, 101]⟩⟩)), (.v (.int .i64 (.ofNat 0)))]), outs := [] }
theorem eenc0_ok : EntOk Tryz.prog gM glM eenc0 := EntOk.of (orc := orcA eenc0D) (fuel := 2000) (d := 60) (orcA_ok _ (fun _ h => by cases h)) (by decide +kernel) (by decide +kernel) (by kernel_rfl)
end Go.Proofs.YtjflmmipjeangaaGreatDoor.Sx
end
section
set_option linter.unusedSimpArgs false
set_option linter.unusedVariables false
set_option maxRecDepth 1000000
namespace Go.Proofs.YtjflmmipjeangaaGreatDoor.Sx
open Go
noncomputable def line1D : List Ent := []
noncomputable def line1A : List SVal := [(.agg [(.v (.int .i64 2)), (.v (.int .i64 0)), (.v (.string ⟨⟨[76, 48, 48, 48, 48, 48, 49, 87]⟩⟩)), (.v (.string ⟨⟨[80, 48, 48, 48, 48, 48, 49, 68]⟩⟩)), (.v (.slice none 0 0)), (.v (.string ⟨⟨[]⟩⟩))])]
noncomputable def line1F : List (List SVal) := []
noncomputable def line1 : Ent := { f := 210, args := line1A, frag := line1F, s := (.v (.string ⟨⟨[100, 48, 32, 48, 48, 58, 48, 48, 32, 102, 101, 108, 108, 32, 76, 48, 48, 48, 48, 48, 49, 87, 32, 80, 48, 48, 48, 48, 48, 49, 68, 10]⟩⟩)), outs := [] }
theorem line1_ok : EntOk Tryz.prog gM glM line1 := EntOk.of (orc := orcA line1D) (fuel := 2000) (d := 60) (orcA_ok _ (fun _ h => by cases h)) (by decide +kernel) (by decide +kernel) (by kernel_rfl)
end Go.Proofs.YtjflmmipjeangaaGreatDoor.Sx
end
section
set_option linter.unusedSimpArgs false
set_option linter.unusedVariables false
set_option maxRecDepth 1000000
namespace Go.Proofs.YtjflmmipjeangaaGreatDoor.Sx
open Go
noncomputable def eenc2D : List Ent := []
noncomputable def eenc2A : List SVal := [(.agg [(.v (.int .i64 3)), (.v (.int .i64 0)), (.v (.string ⟨⟨[76, 48, 48, 48, 48, 48, 49, 87]⟩⟩)), (.v (.string ⟨⟨[]⟩⟩)), (.v (.slice none 0 0)), (.v (.string ⟨⟨[3, 0, 184, 23, 240, 46, 24, 2, 200, 1, 0, 2, 140, 1, 140, 1, 2, 0, 200, 1, 2, 139, 1, 140, 1, 2, 199, 1, 0, 2, 139, 1, 139, 1, 2, 0, 199, 1, 2, 140, 1, 139, 1, 24, 2, 200, 1, 0, 2, 140, 1, 140, 1, 2, 0, 200, 1, 2, 139, 1, 140, 1, 2, 199, 1, 0, 2, 139, 1, 139, 1, 2, 0, 199, 1, 2, 140, 1, 139, 1, 24, 2, 200, 1, 0, 2, 140, 1, 140, 1, 2, 0, 200, 1, 2, 139, 1, 140, 1, 2, 199, 1, 0, 2, 139, 1, 139, 1, 2, 0, 199, 1, 2, 140, 1, 139, 1, 0]⟩⟩))])]
noncomputable def eenc2F : List (List SVal) := []
noncomputable def eenc2 : Ent := { f := 225, args := eenc2A, frag := eenc2F, s := (.tuple [(.v (.string ⟨⟨[6, 0, 8, 76, 48, 48, 48, 48, 48, 49, 87, 0, 0, 118, 3, 0, 184, 23, 240, 46, 24, 2, 200, 1, 0, 2, 140, 1, 140, 1, 2, 0, 200, 1, 2, 139, 1, 140, 1, 2, 199, 1, 0, 2, 139, 1, 139, 1, 2, 0, 199, 1, 2, 140, 1, 139, 1, 24, 2, 200, 1, 0, 2, 140, 1, 140, 1, 2, 0, 200, 1, 2, 139, 1, 140, 1, 2, 199, 1, 0, 2, 139, 1, 139, 1, 2, 0, 199, 1, 2, 140, 1, 139, 1, 24, 2, 200, 1, 0, 2, 140, 1, 140, 1, 2, 0, 200, 1, 2, 139, 1, 140, 1, 2, 199, 1, 0, 2, 139, 1, 139, 1, 2, 0, 199, 1, 2, 140, 1, 139, 1, 0]⟩⟩)), (.v (.int .i64 (.ofNat 0)))]), outs := [] }
theorem eenc2_ok : EntOk Tryz.prog gM glM eenc2 := EntOk.of (orc := orcA eenc2D) (fuel := 2000) (d := 60) (orcA_ok _ (fun _ h => by cases h)) (by decide +kernel) (by decide +kernel) (by kernel_rfl)
end Go.Proofs.YtjflmmipjeangaaGreatDoor.Sx
end
section
set_option linter.unusedSimpArgs false
set_option linter.unusedVariables false
set_option maxRecDepth 1000000
namespace Go.Proofs.YtjflmmipjeangaaGreatDoor.Sx
open Go
noncomputable def words4D : List Ent := []
noncomputable def words4A : List SVal := [(.v (.string ⟨⟨[102, 101, 108, 108, 32, 76, 48, 48, 48, 48, 48, 49, 87, 32, 80, 48, 48, 48, 48, 48, 49, 68]⟩⟩))]
noncomputable def words4F : List (List SVal) := []
noncomputable def words4 : Ent := { f := 33, args := words4A, frag := words4F, s := (.tuple [(.slice (.O (.I (.O .H))) 0 3 (.known 3)), (.v (.int .i64 (.ofNat 0)))]), outs := [((.O (.I (.O .H))), (.cells [(.v (.string ⟨⟨[102, 101, 108, 108]⟩⟩)), (.v (.string ⟨⟨[76, 48, 48, 48, 48, 48, 49, 87]⟩⟩)), (.v (.string ⟨⟨[80, 48, 48, 48, 48, 48, 49, 68]⟩⟩))] 9 .none))] }
theorem words4_ok : EntOk Tryz.prog gM glM words4 := EntOk.of (orc := orcA words4D) (fuel := 2000) (d := 60) (orcA_ok _ (fun _ h => by cases h)) (by decide +kernel) (by decide +kernel) (by kernel_rfl)
end Go.Proofs.YtjflmmipjeangaaGreatDoor.Sx
end
section
set_option linter.unusedSimpArgs false
set_option linter.unusedVariables false
set_option maxRecDepth 1000000
namespace Go.Proofs.YtjflmmipjeangaaGreatDoor.Sx
open Go
noncomputable def line2D : List Ent := []
noncomputable def line2A : List SVal := [(.agg [(.v (.int .i64 3)), (.v (.int .i64 0)), (.v (.string ⟨⟨[76, 48, 48, 48, 48, 48, 49, 87]⟩⟩)), (.v (.string ⟨⟨[]⟩⟩)), (.v (.slice none 0 0)), (.v (.string ⟨⟨[3, 0, 184, 23, 240, 46, 24, 2, 200, 1, 0, 2, 140, 1, 140, 1, 2, 0, 200, 1, 2, 139, 1, 140, 1, 2, 199, 1, 0, 2, 139, 1, 139, 1, 2, 0, 199, 1, 2, 140, 1, 139, 1, 24, 2, 200, 1, 0, 2, 140, 1, 140, 1, 2, 0, 200, 1, 2, 139, 1, 140, 1, 2, 199, 1, 0, 2, 139, 1, 139, 1, 2, 0, 199, 1, 2, 140, 1, 139, 1, 24, 2, 200, 1, 0, 2, 140, 1, 140, 1, 2, 0, 200, 1, 2, 139, 1, 140, 1, 2, 199, 1, 0, 2, 139, 1, 139, 1, 2, 0, 199, 1, 2, 140, 1, 139, 1, 0]⟩⟩))])]
noncomputable def line2F : List (List SVal) := []
noncomputable def line2 : Ent := { f := 210, args := line2A, frag := line2F, s := (.v (.string ⟨⟨[100, 48, 32, 48, 48, 58, 48, 48, 32, 115, 99, 97, 110, 32, 76, 48, 48, 48, 48, 48, 49, 87, 10]⟩⟩)), outs := [] }
theorem line2_ok : EntOk Tryz.prog gM glM line2 := EntOk.of (orc := orcA line2D) (fuel := 2000) (d := 60) (orcA_ok _ (fun _ h => by cases h)) (by decide +kernel) (by decide +kernel) (by kernel_rfl)
end Go.Proofs.YtjflmmipjeangaaGreatDoor.Sx
end
section
set_option linter.unusedSimpArgs false
set_option linter.unusedVariables false
set_option maxRecDepth 1000000
namespace Go.Proofs.YtjflmmipjeangaaGreatDoor.Sx
open Go
noncomputable def words2D : List Ent := []
noncomputable def words2A : List SVal := [(.v (.string ⟨⟨[98, 111, 97, 114, 100, 32, 66, 48, 48, 48, 48, 48, 49, 77]⟩⟩))]
noncomputable def words2F : List (List SVal) := []
noncomputable def words2 : Ent := { f := 33, args := words2A, frag := words2F, s := (.tuple [(.slice (.O (.I (.O .H))) 0 2 (.known 2)), (.v (.int .i64 (.ofNat 0)))]), outs := [((.O (.I (.O .H))), (.cells [(.v (.string ⟨⟨[98, 111, 97, 114, 100]⟩⟩)), (.v (.string ⟨⟨[66, 48, 48, 48, 48, 48, 49, 77]⟩⟩))] 9 .none))] }
theorem words2_ok : EntOk Tryz.prog gM glM words2 := EntOk.of (orc := orcA words2D) (fuel := 2000) (d := 60) (orcA_ok _ (fun _ h => by cases h)) (by decide +kernel) (by decide +kernel) (by kernel_rfl)
end Go.Proofs.YtjflmmipjeangaaGreatDoor.Sx
end
section
set_option linter.unusedSimpArgs false
set_option linter.unusedVariables false
set_option maxRecDepth 1000000
namespace Go.Proofs.YtjflmmipjeangaaGreatDoor.Sx
open Go
noncomputable def words1D : List Ent := []
noncomputable def words1A : List SVal := [(.v (.string ⟨⟨[119, 97, 105, 116, 32, 53]⟩⟩))]
noncomputable def words1F : List (List SVal) := []
noncomputable def words1 : Ent := { f := 33, args := words1A, frag := words1F, s := (.tuple [(.slice (.O (.I (.O .H))) 0 2 (.known 2)), (.v (.int .i64 (.ofNat 0)))]), outs := [((.O (.I (.O .H))), (.cells [(.v (.string ⟨⟨[119, 97, 105, 116]⟩⟩)), (.v (.string ⟨⟨[53]⟩⟩))] 9 .none))] }
theorem words1_ok : EntOk Tryz.prog gM glM words1 := EntOk.of (orc := orcA words1D) (fuel := 2000) (d := 60) (orcA_ok _ (fun _ h => by cases h)) (by decide +kernel) (by decide +kernel) (by kernel_rfl)
end Go.Proofs.YtjflmmipjeangaaGreatDoor.Sx
end
