/-
  No cell of these rows narrows 'for every input' (looked for: loops, veiled, ifaces, maps, wideKeys, modest, calm, conditions, laid).
  DERIVED. THE GIVEN ROWS OF THIS SEAT. 6 by the template 'for every input the law returns true; each argument reads behind the call as it read before'; 0 by the template 'total and deterministic' (their statements: YtmlgclkclnhmhaaTotals.lean).
  GIVEN WITH THE SEED: the statements are not yours to turn. If you find one false, say at which input.
  Laid BY PROGRAM, IN A SANDBOX (cutbox-rows.mjs): the forced cells as the released guide's own fill.sh prints them over the translation 753d0e14ca615bdd… (all of the seat's roots in one cut). By AI agents, Wed Nov 11 2026. No macro, syntax, notation, axiom, sorry.
-/
import Derived.Test.YtmlgclkclnhmhaaChecked
import GoSem.Claim
import GoSem.ClaimJoined
import GoSem.ClaimMapViews
import Derived.JoinedTies
import Derived.KernelRfl
namespace Go.Proofs.Ytmlgclkclnhmhaa
/- THE CELL 'sum', in the pinned program and in every row, IS THE sha256 OF THE DUMP (.gsa) THAT YtmlgclkclnhmhaaProg.lean LOADS. Nothing in Lean hashes anything: it is a label: what it is worth is what the hold of that sum in a sandbox is worth. -/
noncomputable def Try.pinned : Pinned := { name := "ytmlgclkclnhmhaa", sum := "753d0e14ca615bdd133136cc7d9fd8a4ab63e18f546608e198dc4460644982fc", checked := Try.checked }
namespace Rows
def none {H : Type} : Left H := { results := [], args := [] }

/-- 'sawmilllaw39.SizingDries': WHATEVER THE INPUT: true; the input reads as it did. -/
def sizingDriesSpec : ChangeSpec := { name := "sizingDries", fn := fun _ => fun
  | [d1, d2, d3] => { results := [.lit (.bool true)], args := [d1, d2, d3] }
  | _ => none }
def sizingDriesRow : OpenClaim := { program := "ytmlgclkclnhmhaa", sum := "753d0e14ca615bdd133136cc7d9fd8a4ab63e18f546608e198dc4460644982fc", func := "sawmill/sawmilllaw39.SizingDries", spec := "sizingDries", apart := false }
def SizingDriesSaid : Prop := sizingDriesRow.holds Try.pinned (OpenSpec.ofChange sizingDriesSpec)

/-- ITS FALSE NEIGHBOUR: 'it returns false'. Refute it at one input. -/
def sizingDriesWrong : ChangeSpec := { name := "sizingDries", fn := fun _ => fun
  | [d1, d2, d3] => { results := [.lit (.bool false)], args := [d1, d2, d3] }
  | _ => none }
def SizingDriesWrongFalsely : Prop := sizingDriesRow.holds Try.pinned (OpenSpec.ofChange sizingDriesWrong)

/-- 'sawmilllaw39.SizingAllows': WHATEVER THE INPUT: true; the input reads as it did. -/
def sizingAllowsSpec : ChangeSpec := { name := "sizingAllows", fn := fun _ => fun
  | [d1, d2, d3] => { results := [.lit (.bool true)], args := [d1, d2, d3] }
  | _ => none }
def sizingAllowsRow : OpenClaim := { program := "ytmlgclkclnhmhaa", sum := "753d0e14ca615bdd133136cc7d9fd8a4ab63e18f546608e198dc4460644982fc", func := "sawmill/sawmilllaw39.SizingAllows", spec := "sizingAllows", apart := false }
def SizingAllowsSaid : Prop := sizingAllowsRow.holds Try.pinned (OpenSpec.ofChange sizingAllowsSpec)

/-- ITS FALSE NEIGHBOUR: 'it returns false'. Refute it at one input. -/
def sizingAllowsWrong : ChangeSpec := { name := "sizingAllows", fn := fun _ => fun
  | [d1, d2, d3] => { results := [.lit (.bool false)], args := [d1, d2, d3] }
  | _ => none }
def SizingAllowsWrongFalsely : Prop := sizingAllowsRow.holds Try.pinned (OpenSpec.ofChange sizingAllowsWrong)

/-- 'sawmilllaw39.SizingMoister': WHATEVER THE INPUT: true; the input reads as it did. -/
def sizingMoisterSpec : ChangeSpec := { name := "sizingMoister", fn := fun _ => fun
  | [d1, d2, d3] => { results := [.lit (.bool true)], args := [d1, d2, d3] }
  | _ => none }
def sizingMoisterRow : OpenClaim := { program := "ytmlgclkclnhmhaa", sum := "753d0e14ca615bdd133136cc7d9fd8a4ab63e18f546608e198dc4460644982fc", func := "sawmill/sawmilllaw39.SizingMoister", spec := "sizingMoister", apart := false }
def SizingMoisterSaid : Prop := sizingMoisterRow.holds Try.pinned (OpenSpec.ofChange sizingMoisterSpec)

/-- ITS FALSE NEIGHBOUR: 'it returns false'. Refute it at one input. -/
def sizingMoisterWrong : ChangeSpec := { name := "sizingMoister", fn := fun _ => fun
  | [d1, d2, d3] => { results := [.lit (.bool false)], args := [d1, d2, d3] }
  | _ => none }
def SizingMoisterWrongFalsely : Prop := sizingMoisterRow.holds Try.pinned (OpenSpec.ofChange sizingMoisterWrong)

/-- 'sawmilllaw39.SizingEnough': WHATEVER THE INPUT: true; the input reads as it did. -/
def sizingEnoughSpec : ChangeSpec := { name := "sizingEnough", fn := fun _ => fun
  | [d1, d2, d3] => { results := [.lit (.bool true)], args := [d1, d2, d3] }
  | _ => none }
def sizingEnoughRow : OpenClaim := { program := "ytmlgclkclnhmhaa", sum := "753d0e14ca615bdd133136cc7d9fd8a4ab63e18f546608e198dc4460644982fc", func := "sawmill/sawmilllaw39.SizingEnough", spec := "sizingEnough", apart := false }
def SizingEnoughSaid : Prop := sizingEnoughRow.holds Try.pinned (OpenSpec.ofChange sizingEnoughSpec)

/-- ITS FALSE NEIGHBOUR: 'it returns false'. Refute it at one input. -/
def sizingEnoughWrong : ChangeSpec := { name := "sizingEnough", fn := fun _ => fun
  | [d1, d2, d3] => { results := [.lit (.bool false)], args := [d1, d2, d3] }
  | _ => none }
def SizingEnoughWrongFalsely : Prop := sizingEnoughRow.holds Try.pinned (OpenSpec.ofChange sizingEnoughWrong)

/-- 'sawmilllaw39.SizingNeeds': WHATEVER THE INPUT: true; the input reads as it did. -/
def sizingNeedsSpec : ChangeSpec := { name := "sizingNeeds", fn := fun _ => fun
  | [d1, d2, d3] => { results := [.lit (.bool true)], args := [d1, d2, d3] }
  | _ => none }
def sizingNeedsRow : OpenClaim := { program := "ytmlgclkclnhmhaa", sum := "753d0e14ca615bdd133136cc7d9fd8a4ab63e18f546608e198dc4460644982fc", func := "sawmill/sawmilllaw39.SizingNeeds", spec := "sizingNeeds", apart := false }
def SizingNeedsSaid : Prop := sizingNeedsRow.holds Try.pinned (OpenSpec.ofChange sizingNeedsSpec)

/-- ITS FALSE NEIGHBOUR: 'it returns false'. Refute it at one input. -/
def sizingNeedsWrong : ChangeSpec := { name := "sizingNeeds", fn := fun _ => fun
  | [d1, d2, d3] => { results := [.lit (.bool false)], args := [d1, d2, d3] }
  | _ => none }
def SizingNeedsWrongFalsely : Prop := sizingNeedsRow.holds Try.pinned (OpenSpec.ofChange sizingNeedsWrong)

/-- 'sawmilllaw39.SizingShrinks': WHATEVER THE INPUT: true; the input reads as it did. -/
def sizingShrinksSpec : ChangeSpec := { name := "sizingShrinks", fn := fun _ => fun
  | [d1, d2] => { results := [.lit (.bool true)], args := [d1, d2] }
  | _ => none }
def sizingShrinksRow : OpenClaim := { program := "ytmlgclkclnhmhaa", sum := "753d0e14ca615bdd133136cc7d9fd8a4ab63e18f546608e198dc4460644982fc", func := "sawmill/sawmilllaw39.SizingShrinks", spec := "sizingShrinks", apart := false }
def SizingShrinksSaid : Prop := sizingShrinksRow.holds Try.pinned (OpenSpec.ofChange sizingShrinksSpec)

/-- ITS FALSE NEIGHBOUR: 'it returns false'. Refute it at one input. -/
def sizingShrinksWrong : ChangeSpec := { name := "sizingShrinks", fn := fun _ => fun
  | [d1, d2] => { results := [.lit (.bool false)], args := [d1, d2] }
  | _ => none }
def SizingShrinksWrongFalsely : Prop := sizingShrinksRow.holds Try.pinned (OpenSpec.ofChange sizingShrinksWrong)

/- THE SECOND FORM. 'bulk': how many values and letters a reading holds, each counted each time it is reached (what is shared counts as often as it is met; a slice's spare places count too). A statement '..UptoSaid' is the law's where the arguments, and the package variables that the reading takes, are together of bulk at most 1048576: NARROWER than '..Said'. Prove '..Said' where nothing that the law and all that it calls make is longer than what came in: it says more and counts as full. Else prove '..UptoSaid'. A law counts once. -/
mutual
def uptoBulk {H : Type} : DataW H → Nat
  | .lit (.string bytes) => bytes.length + 1
  | .lit _ => 1
  | .nil => 1
  | .ptr d => uptoBulk d + 1
  | .slice elems spare => uptoBulkAll elems + uptoBulkAll spare + 1
  | .agg parts => uptoBulkAll parts + 1
  | .iface _ d => uptoBulk d + 1
  | .map entries => uptoBulkEntries entries + 1
  | .held _ => 1
def uptoBulkAll {H : Type} : List (DataW H) → Nat
  | [] => 0
  | d :: r => uptoBulk d + uptoBulkAll r
def uptoBulkEntries {H : Type} : List (Lit × DataW H) → Nat
  | [] => 0
  | x :: r => uptoBulkEntry x + uptoBulkEntries r
def uptoBulkEntry {H : Type} : Lit × DataW H → Nat
  | (.string bytes, d) => bytes.length + uptoBulk d + 1
  | (_, d) => uptoBulk d + 1
 end
def uptoSmall : (H : Type) → List (DataW H) → Bool := fun _ ds => decide (uptoBulkAll ds ≤ 1048576)
def OpenSpec.upto (s : _root_.Go.ChangeSpec) : _root_.Go.OpenSpec := { _root_.Go.OpenSpec.ofChange s with cond := some uptoSmall }

/-- 'sawmilllaw39.SizingDries', WHERE WHAT IT READS IS OF BULK AT MOST 1048576: true; the input reads as it did. -/
def sizingDriesUptoRow : OpenClaim := { program := "ytmlgclkclnhmhaa", sum := "753d0e14ca615bdd133136cc7d9fd8a4ab63e18f546608e198dc4460644982fc", func := "sawmill/sawmilllaw39.SizingDries", spec := "sizingDries", apart := false, narrowed := true }
def SizingDriesUptoSaid : Prop := sizingDriesUptoRow.holds Try.pinned (OpenSpec.upto sizingDriesSpec)

/-- 'sawmilllaw39.SizingAllows', WHERE WHAT IT READS IS OF BULK AT MOST 1048576: true; the input reads as it did. -/
def sizingAllowsUptoRow : OpenClaim := { program := "ytmlgclkclnhmhaa", sum := "753d0e14ca615bdd133136cc7d9fd8a4ab63e18f546608e198dc4460644982fc", func := "sawmill/sawmilllaw39.SizingAllows", spec := "sizingAllows", apart := false, narrowed := true }
def SizingAllowsUptoSaid : Prop := sizingAllowsUptoRow.holds Try.pinned (OpenSpec.upto sizingAllowsSpec)

/-- 'sawmilllaw39.SizingMoister', WHERE WHAT IT READS IS OF BULK AT MOST 1048576: true; the input reads as it did. -/
def sizingMoisterUptoRow : OpenClaim := { program := "ytmlgclkclnhmhaa", sum := "753d0e14ca615bdd133136cc7d9fd8a4ab63e18f546608e198dc4460644982fc", func := "sawmill/sawmilllaw39.SizingMoister", spec := "sizingMoister", apart := false, narrowed := true }
def SizingMoisterUptoSaid : Prop := sizingMoisterUptoRow.holds Try.pinned (OpenSpec.upto sizingMoisterSpec)

/-- 'sawmilllaw39.SizingEnough', WHERE WHAT IT READS IS OF BULK AT MOST 1048576: true; the input reads as it did. -/
def sizingEnoughUptoRow : OpenClaim := { program := "ytmlgclkclnhmhaa", sum := "753d0e14ca615bdd133136cc7d9fd8a4ab63e18f546608e198dc4460644982fc", func := "sawmill/sawmilllaw39.SizingEnough", spec := "sizingEnough", apart := false, narrowed := true }
def SizingEnoughUptoSaid : Prop := sizingEnoughUptoRow.holds Try.pinned (OpenSpec.upto sizingEnoughSpec)

/-- 'sawmilllaw39.SizingNeeds', WHERE WHAT IT READS IS OF BULK AT MOST 1048576: true; the input reads as it did. -/
def sizingNeedsUptoRow : OpenClaim := { program := "ytmlgclkclnhmhaa", sum := "753d0e14ca615bdd133136cc7d9fd8a4ab63e18f546608e198dc4460644982fc", func := "sawmill/sawmilllaw39.SizingNeeds", spec := "sizingNeeds", apart := false, narrowed := true }
def SizingNeedsUptoSaid : Prop := sizingNeedsUptoRow.holds Try.pinned (OpenSpec.upto sizingNeedsSpec)

/-- 'sawmilllaw39.SizingShrinks', WHERE WHAT IT READS IS OF BULK AT MOST 1048576: true; the input reads as it did. -/
def sizingShrinksUptoRow : OpenClaim := { program := "ytmlgclkclnhmhaa", sum := "753d0e14ca615bdd133136cc7d9fd8a4ab63e18f546608e198dc4460644982fc", func := "sawmill/sawmilllaw39.SizingShrinks", spec := "sizingShrinks", apart := false, narrowed := true }
def SizingShrinksUptoSaid : Prop := sizingShrinksUptoRow.holds Try.pinned (OpenSpec.upto sizingShrinksSpec)

end Rows
end Go.Proofs.Ytmlgclkclnhmhaa
