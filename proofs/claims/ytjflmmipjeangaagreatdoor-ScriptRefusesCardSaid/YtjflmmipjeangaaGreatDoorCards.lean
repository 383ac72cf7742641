/-
  DERIVED. GIVEN WITH THE SEED: THE CARDS: each row of YtjflmmipjeangaaGreatDoorRows.lean that lists a variable, with what it lists TIED to the program's text (the seventh form; the later family's looks); each row that meets fmt, with fmt's text TOLD by the authors' own Lean function (tested against real Go, not proved from fmt's source: count such statements apart). THE CARD IS WHAT COUNTS. Prove the row's statement (the work); the ties are given (YtjflmmipjeangaaGreatDoorTie.lean); close each card by the builder's one call (the guide's Derived/Test/ToyasCard.lean, 'card_holds'). Laid BY PROGRAM, IN A SANDBOX (cutbox-door.mjs). By AI agents, Wed Nov 11 2026. No macro, syntax, notation, axiom, sorry.
-/
import Derived.Test.YtjflmmipjeangaaGreatDoorRows
import GoSem.ClaimSeven
namespace Go.Proofs.YtjflmmipjeangaaGreatDoor
namespace Rows

/-- THE TIED CARD OF 'sawmilllaw62.ScriptRefuses'. -/
def scriptRefusesCard : Claim7 := { stood := { row := scriptRefusesRow, standIns := [], harness := (true, "26340c84e37e13e035bdd6669c814ed4d4cb4daf9304dae2b96fc3310c2bf3a1"), looks := true }, kinds := [], alts := [], laidByText := true, laidKinds := [.data, .data, .data, .data, .data, .data, .data, .pinned, .data, .data], laidTests := true, laidLooks := .later }
def ScriptRefusesCardSaid : Prop := Claim7.holds Tryz.pinned (.plain (OpenSpec.ofChange scriptRefusesSpec)) scriptRefusesCard

/-- THE SECOND FORM's CARD OF 'sawmilllaw62.ScriptRefuses'. -/
def scriptRefusesUptoCard : Claim7 := { stood := { row := scriptRefusesUptoRow, standIns := [], harness := (true, "26340c84e37e13e035bdd6669c814ed4d4cb4daf9304dae2b96fc3310c2bf3a1"), looks := true }, kinds := [], alts := [], laidByText := true, laidKinds := [.data, .data, .data, .data, .data, .data, .data, .pinned, .data, .data], laidTests := true, laidLooks := .later }
def ScriptRefusesUptoCardSaid : Prop := Claim7.holds Tryz.pinned (.plain (OpenSpec.upto scriptRefusesSpec)) scriptRefusesUptoCard
end Rows
end Go.Proofs.YtjflmmipjeangaaGreatDoor
