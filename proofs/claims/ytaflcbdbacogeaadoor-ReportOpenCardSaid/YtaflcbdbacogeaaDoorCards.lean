/-
  DERIVED. GIVEN WITH THE SEED: THE CARDS: each row of YtaflcbdbacogeaaDoorRows.lean that lists a variable, with what it lists TIED to the program's text (the seventh form; the later family's looks); each row that meets fmt, with fmt's text TOLD by the authors' own Lean function (tested against real Go, not proved from fmt's source: count such statements apart). THE CARD IS WHAT COUNTS. Prove the row's statement (the work); the ties are given (YtaflcbdbacogeaaDoorTie.lean); close each card by the builder's one call (the guide's Derived/Test/ToyasCard.lean, 'card_holds'). Laid BY PROGRAM, IN A SANDBOX (cutbox-door.mjs). By AI agents, Wed Nov 11 2026. No macro, syntax, notation, axiom, sorry.
-/
import Derived.Test.YtaflcbdbacogeaaDoorRows
import GoSem.ClaimSeven
namespace Go.Proofs.YtaflcbdbacogeaaDoor
namespace Rows

/-- THE TIED CARD OF 'sawmilllaw64.ReportStocks'. -/
def reportStocksCard : Claim7 := { stood := { row := reportStocksRow, standIns := [], harness := (true, "9ed31d71be94acd78862616f9e5eef6152dc112e9f45fc8ebe1b2a6aafba6eb8"), looks := false }, kinds := [], alts := [], laidByText := true, laidKinds := [.data, .data, .data], laidTests := true, laidLooks := .later }
def ReportStocksCardSaid : Prop := Claim7.holds Tryd.pinned (.plain (OpenSpec.ofChange reportStocksSpec)) reportStocksCard

/-- THE TIED CARD OF 'sawmilllaw64.ReportRecovers'. -/
def reportRecoversCard : Claim7 := { stood := { row := reportRecoversRow, standIns := [], harness := (true, "9ed31d71be94acd78862616f9e5eef6152dc112e9f45fc8ebe1b2a6aafba6eb8"), looks := false }, kinds := [], alts := [], laidByText := true, laidKinds := [.data, .data, .data], laidTests := true, laidLooks := .later }
def ReportRecoversCardSaid : Prop := Claim7.holds Tryd.pinned (.plain (OpenSpec.ofChange reportRecoversSpec)) reportRecoversCard

/-- THE TIED CARD OF 'sawmilllaw64.ReportOpens'. -/
def reportOpensCard : Claim7 := { stood := { row := reportOpensRow, standIns := [], harness := (true, "9ed31d71be94acd78862616f9e5eef6152dc112e9f45fc8ebe1b2a6aafba6eb8"), looks := false }, kinds := [], alts := [], laidByText := true, laidKinds := [.data, .data, .data], laidTests := true, laidLooks := .later }
def ReportOpensCardSaid : Prop := Claim7.holds Tryd.pinned (.plain (OpenSpec.ofChange reportOpensSpec)) reportOpensCard

/-- THE TIED CARD OF 'sawmilllaw64.ReportSums'. -/
def reportSumsCard : Claim7 := { stood := { row := reportSumsRow, standIns := [], harness := (true, "9ed31d71be94acd78862616f9e5eef6152dc112e9f45fc8ebe1b2a6aafba6eb8"), looks := false }, kinds := [], alts := [], laidByText := true, laidKinds := [.data, .data, .data], laidTests := true, laidLooks := .later }
def ReportSumsCardSaid : Prop := Claim7.holds Tryd.pinned (.plain (OpenSpec.ofChange reportSumsSpec)) reportSumsCard

/-- THE TIED CARD OF 'sawmilllaw64.ReportSpecies'. -/
def reportSpeciesCard : Claim7 := { stood := { row := reportSpeciesRow, standIns := [], harness := (true, "9ed31d71be94acd78862616f9e5eef6152dc112e9f45fc8ebe1b2a6aafba6eb8"), looks := false }, kinds := [], alts := [], laidByText := true, laidKinds := [.data, .data, .data], laidTests := true, laidLooks := .later }
def ReportSpeciesCardSaid : Prop := Claim7.holds Tryd.pinned (.plain (OpenSpec.ofChange reportSpeciesSpec)) reportSpeciesCard

/-- THE TIED CARD OF 'sawmilllaw64.ReportOpen'. -/
def reportOpenCard : Claim7 := { stood := { row := reportOpenRow, standIns := [], harness := (true, "9ed31d71be94acd78862616f9e5eef6152dc112e9f45fc8ebe1b2a6aafba6eb8"), looks := false }, kinds := [], alts := [], laidByText := true, laidKinds := [.data, .data, .data], laidTests := true, laidLooks := .later }
def ReportOpenCardSaid : Prop := Claim7.holds Tryd.pinned (.plain (OpenSpec.ofChange reportOpenSpec)) reportOpenCard

/-- THE SECOND FORM's CARD OF 'sawmilllaw64.ReportStocks'. -/
def reportStocksUptoCard : Claim7 := { stood := { row := reportStocksUptoRow, standIns := [], harness := (true, "9ed31d71be94acd78862616f9e5eef6152dc112e9f45fc8ebe1b2a6aafba6eb8"), looks := false }, kinds := [], alts := [], laidByText := true, laidKinds := [.data, .data, .data], laidTests := true, laidLooks := .later }
def ReportStocksUptoCardSaid : Prop := Claim7.holds Tryd.pinned (.plain (OpenSpec.upto reportStocksSpec)) reportStocksUptoCard

/-- THE SECOND FORM's CARD OF 'sawmilllaw64.ReportRecovers'. -/
def reportRecoversUptoCard : Claim7 := { stood := { row := reportRecoversUptoRow, standIns := [], harness := (true, "9ed31d71be94acd78862616f9e5eef6152dc112e9f45fc8ebe1b2a6aafba6eb8"), looks := false }, kinds := [], alts := [], laidByText := true, laidKinds := [.data, .data, .data], laidTests := true, laidLooks := .later }
def ReportRecoversUptoCardSaid : Prop := Claim7.holds Tryd.pinned (.plain (OpenSpec.upto reportRecoversSpec)) reportRecoversUptoCard

/-- THE SECOND FORM's CARD OF 'sawmilllaw64.ReportOpens'. -/
def reportOpensUptoCard : Claim7 := { stood := { row := reportOpensUptoRow, standIns := [], harness := (true, "9ed31d71be94acd78862616f9e5eef6152dc112e9f45fc8ebe1b2a6aafba6eb8"), looks := false }, kinds := [], alts := [], laidByText := true, laidKinds := [.data, .data, .data], laidTests := true, laidLooks := .later }
def ReportOpensUptoCardSaid : Prop := Claim7.holds Tryd.pinned (.plain (OpenSpec.upto reportOpensSpec)) reportOpensUptoCard

/-- THE SECOND FORM's CARD OF 'sawmilllaw64.ReportSums'. -/
def reportSumsUptoCard : Claim7 := { stood := { row := reportSumsUptoRow, standIns := [], harness := (true, "9ed31d71be94acd78862616f9e5eef6152dc112e9f45fc8ebe1b2a6aafba6eb8"), looks := false }, kinds := [], alts := [], laidByText := true, laidKinds := [.data, .data, .data], laidTests := true, laidLooks := .later }
def ReportSumsUptoCardSaid : Prop := Claim7.holds Tryd.pinned (.plain (OpenSpec.upto reportSumsSpec)) reportSumsUptoCard

/-- THE SECOND FORM's CARD OF 'sawmilllaw64.ReportSpecies'. -/
def reportSpeciesUptoCard : Claim7 := { stood := { row := reportSpeciesUptoRow, standIns := [], harness := (true, "9ed31d71be94acd78862616f9e5eef6152dc112e9f45fc8ebe1b2a6aafba6eb8"), looks := false }, kinds := [], alts := [], laidByText := true, laidKinds := [.data, .data, .data], laidTests := true, laidLooks := .later }
def ReportSpeciesUptoCardSaid : Prop := Claim7.holds Tryd.pinned (.plain (OpenSpec.upto reportSpeciesSpec)) reportSpeciesUptoCard

/-- THE SECOND FORM's CARD OF 'sawmilllaw64.ReportOpen'. -/
def reportOpenUptoCard : Claim7 := { stood := { row := reportOpenUptoRow, standIns := [], harness := (true, "9ed31d71be94acd78862616f9e5eef6152dc112e9f45fc8ebe1b2a6aafba6eb8"), looks := false }, kinds := [], alts := [], laidByText := true, laidKinds := [.data, .data, .data], laidTests := true, laidLooks := .later }
def ReportOpenUptoCardSaid : Prop := Claim7.holds Tryd.pinned (.plain (OpenSpec.upto reportOpenSpec)) reportOpenUptoCard
end Rows
end Go.Proofs.YtaflcbdbacogeaaDoor
