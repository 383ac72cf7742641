/-
  DERIVED. GIVEN WITH THE SEED: THE CARDS: each row of YtjfohapnjnopfaaGreatDoorRows.lean that lists a variable, with what it lists TIED to the program's text (the seventh form; the later family's looks); each row that meets fmt, with fmt's text TOLD by the authors' own Lean function (tested against real Go, not proved from fmt's source: count such statements apart). THE CARD IS WHAT COUNTS. Prove the row's statement (the work); the ties are given (YtjfohapnjnopfaaGreatDoorTie.lean); close each card by the builder's one call (the guide's Derived/Test/ToyasCard.lean, 'card_holds'). Laid BY PROGRAM, IN A SANDBOX (cutbox-door.mjs). By AI agents, Wed Nov 11 2026. No macro, syntax, notation, axiom, sorry.
-/
import Derived.Test.YtjfohapnjnopfaaGreatDoorRows
import GoSem.ClaimSeven
namespace Go.Proofs.YtjfohapnjnopfaaGreatDoor
namespace Rows

/-- THE TIED CARD OF 'sawmilllaw61.ReplayHistories'. -/
def replayHistoriesCard : Claim7 := { stood := { row := replayHistoriesRow, standIns := [], harness := (true, "0f11d2a1c19f5416affa0fde4e09e2b9f9c61e12b3a49ddb68fe7617d5d74486"), looks := false }, kinds := [], alts := [], laidByText := true, laidKinds := [.data, .data, .data], laidTests := true, laidLooks := .later }
def ReplayHistoriesCardSaid : Prop := Claim7.holds Tryz.pinned (.plain (OpenSpec.ofChange replayHistoriesSpec)) replayHistoriesCard

/-- THE TIED CARD OF 'sawmilllaw61.ReplayStories'. -/
def replayStoriesCard : Claim7 := { stood := { row := replayStoriesRow, standIns := [], harness := (true, "0f11d2a1c19f5416affa0fde4e09e2b9f9c61e12b3a49ddb68fe7617d5d74486"), looks := false }, kinds := [], alts := [], laidByText := true, laidKinds := [.data, .data, .data], laidTests := true, laidLooks := .later }
def ReplayStoriesCardSaid : Prop := Claim7.holds Tryz.pinned (.plain (OpenSpec.ofChange replayStoriesSpec)) replayStoriesCard

/-- THE TIED CARD OF 'sawmilllaw61.ReplayParts'. -/
def replayPartsCard : Claim7 := { stood := { row := replayPartsRow, standIns := [], harness := (true, "0f11d2a1c19f5416affa0fde4e09e2b9f9c61e12b3a49ddb68fe7617d5d74486"), looks := false }, kinds := [], alts := [], laidByText := true, laidKinds := [.data, .data, .data], laidTests := true, laidLooks := .later }
def ReplayPartsCardSaid : Prop := Claim7.holds Tryz.pinned (.plain (OpenSpec.ofChange replayPartsSpec)) replayPartsCard

/-- THE SECOND FORM's CARD OF 'sawmilllaw61.ReplayHistories'. -/
def replayHistoriesUptoCard : Claim7 := { stood := { row := replayHistoriesUptoRow, standIns := [], harness := (true, "0f11d2a1c19f5416affa0fde4e09e2b9f9c61e12b3a49ddb68fe7617d5d74486"), looks := false }, kinds := [], alts := [], laidByText := true, laidKinds := [.data, .data, .data], laidTests := true, laidLooks := .later }
def ReplayHistoriesUptoCardSaid : Prop := Claim7.holds Tryz.pinned (.plain (OpenSpec.upto replayHistoriesSpec)) replayHistoriesUptoCard

/-- THE SECOND FORM's CARD OF 'sawmilllaw61.ReplayStories'. -/
def replayStoriesUptoCard : Claim7 := { stood := { row := replayStoriesUptoRow, standIns := [], harness := (true, "0f11d2a1c19f5416affa0fde4e09e2b9f9c61e12b3a49ddb68fe7617d5d74486"), looks := false }, kinds := [], alts := [], laidByText := true, laidKinds := [.data, .data, .data], laidTests := true, laidLooks := .later }
def ReplayStoriesUptoCardSaid : Prop := Claim7.holds Tryz.pinned (.plain (OpenSpec.upto replayStoriesSpec)) replayStoriesUptoCard

/-- THE SECOND FORM's CARD OF 'sawmilllaw61.ReplayParts'. -/
def replayPartsUptoCard : Claim7 := { stood := { row := replayPartsUptoRow, standIns := [], harness := (true, "0f11d2a1c19f5416affa0fde4e09e2b9f9c61e12b3a49ddb68fe7617d5d74486"), looks := false }, kinds := [], alts := [], laidByText := true, laidKinds := [.data, .data, .data], laidTests := true, laidLooks := .later }
def ReplayPartsUptoCardSaid : Prop := Claim7.holds Tryz.pinned (.plain (OpenSpec.upto replayPartsSpec)) replayPartsUptoCard
end Rows
end Go.Proofs.YtjfohapnjnopfaaGreatDoor
