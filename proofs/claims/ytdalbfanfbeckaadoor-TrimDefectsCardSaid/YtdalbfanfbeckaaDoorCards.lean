/-
  DERIVED. GIVEN WITH THE SEED: THE CARDS: each row of YtdalbfanfbeckaaDoorRows.lean that lists a variable, with what it lists TIED to the program's text (the seventh form; the later family's looks); each row that meets fmt, with fmt's text TOLD by the authors' own Lean function (tested against real Go, not proved from fmt's source: count such statements apart). THE CARD IS WHAT COUNTS. Prove the row's statement (the work); the ties are given (YtdalbfanfbeckaaDoorTie.lean); close each card by the builder's one call (the guide's Derived/Test/ToyasCard.lean, 'card_holds'). Laid BY PROGRAM, IN A SANDBOX (cutbox-door.mjs). By AI agents, Wed Nov 11 2026. No macro, syntax, notation, axiom, sorry.
-/
import Derived.Test.YtdalbfanfbeckaaDoorRows
import GoSem.ClaimSeven
namespace Go.Proofs.YtdalbfanfbeckaaDoor
namespace Rows

/-- THE TIED CARD OF 'sawmilllaw26.TrimLines'. -/
def trimLinesCard : Claim7 := { stood := { row := trimLinesRow, standIns := [], harness := (true, "92070a9622bd7fafe40b5f2759f9056e2c83f5cfa814be9f9f623e214da4ebdc"), looks := false }, kinds := [], alts := [], laidByText := true, laidKinds := [.data], laidTests := true, laidLooks := .later }
def TrimLinesCardSaid : Prop := Claim7.holds Tryd.pinned (.plain (OpenSpec.ofChange trimLinesSpec)) trimLinesCard

/-- THE TIED CARD OF 'sawmilllaw26.TrimBests'. -/
def trimBestsCard : Claim7 := { stood := { row := trimBestsRow, standIns := [], harness := (true, "92070a9622bd7fafe40b5f2759f9056e2c83f5cfa814be9f9f623e214da4ebdc"), looks := false }, kinds := [], alts := [], laidByText := true, laidKinds := [.data], laidTests := true, laidLooks := .later }
def TrimBestsCardSaid : Prop := Claim7.holds Tryd.pinned (.plain (OpenSpec.ofChange trimBestsSpec)) trimBestsCard

/-- THE TIED CARD OF 'sawmilllaw26.TrimCovers'. -/
def trimCoversCard : Claim7 := { stood := { row := trimCoversRow, standIns := [], harness := (true, "92070a9622bd7fafe40b5f2759f9056e2c83f5cfa814be9f9f623e214da4ebdc"), looks := false }, kinds := [], alts := [], laidByText := true, laidKinds := [.data], laidTests := true, laidLooks := .later }
def TrimCoversCardSaid : Prop := Claim7.holds Tryd.pinned (.plain (OpenSpec.ofChange trimCoversSpec)) trimCoversCard

/-- THE TIED CARD OF 'sawmilllaw26.TrimOptimal'. -/
def trimOptimalCard : Claim7 := { stood := { row := trimOptimalRow, standIns := [], harness := (true, "92070a9622bd7fafe40b5f2759f9056e2c83f5cfa814be9f9f623e214da4ebdc"), looks := false }, kinds := [], alts := [], laidByText := true, laidKinds := [.data], laidTests := true, laidLooks := .later }
def TrimOptimalCardSaid : Prop := Claim7.holds Tryd.pinned (.plain (OpenSpec.ofChange trimOptimalSpec)) trimOptimalCard

/-- THE TIED CARD OF 'sawmilllaw26.TrimDefects'. -/
def trimDefectsCard : Claim7 := { stood := { row := trimDefectsRow, standIns := [], harness := (true, "92070a9622bd7fafe40b5f2759f9056e2c83f5cfa814be9f9f623e214da4ebdc"), looks := false }, kinds := [], alts := [], laidByText := true, laidKinds := [.data], laidTests := true, laidLooks := .later }
def TrimDefectsCardSaid : Prop := Claim7.holds Tryd.pinned (.plain (OpenSpec.ofChange trimDefectsSpec)) trimDefectsCard

/-- THE SECOND FORM's CARD OF 'sawmilllaw26.TrimLines'. -/
def trimLinesUptoCard : Claim7 := { stood := { row := trimLinesUptoRow, standIns := [], harness := (true, "92070a9622bd7fafe40b5f2759f9056e2c83f5cfa814be9f9f623e214da4ebdc"), looks := false }, kinds := [], alts := [], laidByText := true, laidKinds := [.data], laidTests := true, laidLooks := .later }
def TrimLinesUptoCardSaid : Prop := Claim7.holds Tryd.pinned (.plain (OpenSpec.upto trimLinesSpec)) trimLinesUptoCard

/-- THE SECOND FORM's CARD OF 'sawmilllaw26.TrimBests'. -/
def trimBestsUptoCard : Claim7 := { stood := { row := trimBestsUptoRow, standIns := [], harness := (true, "92070a9622bd7fafe40b5f2759f9056e2c83f5cfa814be9f9f623e214da4ebdc"), looks := false }, kinds := [], alts := [], laidByText := true, laidKinds := [.data], laidTests := true, laidLooks := .later }
def TrimBestsUptoCardSaid : Prop := Claim7.holds Tryd.pinned (.plain (OpenSpec.upto trimBestsSpec)) trimBestsUptoCard

/-- THE SECOND FORM's CARD OF 'sawmilllaw26.TrimCovers'. -/
def trimCoversUptoCard : Claim7 := { stood := { row := trimCoversUptoRow, standIns := [], harness := (true, "92070a9622bd7fafe40b5f2759f9056e2c83f5cfa814be9f9f623e214da4ebdc"), looks := false }, kinds := [], alts := [], laidByText := true, laidKinds := [.data], laidTests := true, laidLooks := .later }
def TrimCoversUptoCardSaid : Prop := Claim7.holds Tryd.pinned (.plain (OpenSpec.upto trimCoversSpec)) trimCoversUptoCard

/-- THE SECOND FORM's CARD OF 'sawmilllaw26.TrimOptimal'. -/
def trimOptimalUptoCard : Claim7 := { stood := { row := trimOptimalUptoRow, standIns := [], harness := (true, "92070a9622bd7fafe40b5f2759f9056e2c83f5cfa814be9f9f623e214da4ebdc"), looks := false }, kinds := [], alts := [], laidByText := true, laidKinds := [.data], laidTests := true, laidLooks := .later }
def TrimOptimalUptoCardSaid : Prop := Claim7.holds Tryd.pinned (.plain (OpenSpec.upto trimOptimalSpec)) trimOptimalUptoCard

/-- THE SECOND FORM's CARD OF 'sawmilllaw26.TrimDefects'. -/
def trimDefectsUptoCard : Claim7 := { stood := { row := trimDefectsUptoRow, standIns := [], harness := (true, "92070a9622bd7fafe40b5f2759f9056e2c83f5cfa814be9f9f623e214da4ebdc"), looks := false }, kinds := [], alts := [], laidByText := true, laidKinds := [.data], laidTests := true, laidLooks := .later }
def TrimDefectsUptoCardSaid : Prop := Claim7.holds Tryd.pinned (.plain (OpenSpec.upto trimDefectsSpec)) trimDefectsUptoCard
end Rows
end Go.Proofs.YtdalbfanfbeckaaDoor
