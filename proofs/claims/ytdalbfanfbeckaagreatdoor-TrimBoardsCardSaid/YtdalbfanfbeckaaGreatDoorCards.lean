/-
  DERIVED. GIVEN WITH THE SEED: THE CARDS: each row of YtdalbfanfbeckaaGreatDoorRows.lean that lists a variable, with what it lists TIED to the program's text (the seventh form; the later family's looks); each row that meets fmt, with fmt's text TOLD by the authors' own Lean function (tested against real Go, not proved from fmt's source: count such statements apart). THE CARD IS WHAT COUNTS. Prove the row's statement (the work); the ties are given (YtdalbfanfbeckaaGreatDoorTie.lean); close each card by the builder's one call (the guide's Derived/Test/ToyasCard.lean, 'card_holds'). Laid BY PROGRAM, IN A SANDBOX (cutbox-door.mjs). By AI agents, Wed Nov 11 2026. No macro, syntax, notation, axiom, sorry.
-/
import Derived.Test.YtdalbfanfbeckaaGreatDoorRows
import GoSem.ClaimSeven
namespace Go.Proofs.YtdalbfanfbeckaaGreatDoor
namespace Rows

/-- THE TIED CARD OF 'sawmilllaw26.TrimBoards'. -/
def trimBoardsCard : Claim7 := { stood := { row := trimBoardsRow, standIns := [], harness := (true, "7d7287527ef97d6cb7e7d15cfd0d003fa2fe3b4b3d3e4c993b284c4fb3253b7e"), looks := false }, kinds := [], alts := [], laidByText := true, laidKinds := [.data], laidTests := true, laidLooks := .later }
def TrimBoardsCardSaid : Prop := Claim7.holds Tryz.pinned (.plain (OpenSpec.ofChange trimBoardsSpec)) trimBoardsCard

/-- THE SECOND FORM's CARD OF 'sawmilllaw26.TrimBoards'. -/
def trimBoardsUptoCard : Claim7 := { stood := { row := trimBoardsUptoRow, standIns := [], harness := (true, "7d7287527ef97d6cb7e7d15cfd0d003fa2fe3b4b3d3e4c993b284c4fb3253b7e"), looks := false }, kinds := [], alts := [], laidByText := true, laidKinds := [.data], laidTests := true, laidLooks := .later }
def TrimBoardsUptoCardSaid : Prop := Claim7.holds Tryz.pinned (.plain (OpenSpec.upto trimBoardsSpec)) trimBoardsUptoCard
end Rows
end Go.Proofs.YtdalbfanfbeckaaGreatDoor
