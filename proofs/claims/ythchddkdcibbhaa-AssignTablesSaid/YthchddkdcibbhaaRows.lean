/-
  No cell of these rows narrows 'for every input' (looked for: loops, veiled, ifaces, maps, wideKeys, modest, calm, conditions, laid).
  DERIVED. THE GIVEN ROWS OF THIS SEAT. 7 by the template 'for every input the law returns true; each argument reads behind the call as it read before'; 0 by the template 'total and deterministic' (their statements: YthchddkdcibbhaaTotals.lean).
  GIVEN WITH THE SEED: the statements are not yours to turn. If you find one false, say at which input.
  Laid BY PROGRAM, IN A SANDBOX (cutbox-rows.mjs): the forced cells as the released guide's own fill.sh prints them over the translation 6e1da85557d5367c… (all of the seat's roots in one cut). By AI agents, Wed Nov 11 2026. No macro, syntax, notation, axiom, sorry.
-/
import Derived.Test.YthchddkdcibbhaaChecked
import GoSem.Claim
import GoSem.ClaimJoined
import GoSem.ClaimMapViews
import Derived.JoinedTies
import Derived.KernelRfl
namespace Go.Proofs.Ythchddkdcibbhaa
/- THE CELL 'sum', in the pinned program and in every row, IS THE sha256 OF THE DUMP (.gsa) THAT YthchddkdcibbhaaProg.lean LOADS. Nothing in Lean hashes anything: it is a label: what it is worth is what the hold of that sum in a sandbox is worth. -/
noncomputable def Try.pinned : Pinned := { name := "ythchddkdcibbhaa", sum := "6e1da85557d5367caae6b72e24c4438d5d50126cf79eed2fffc21806414a5d44", checked := Try.checked }
namespace Rows
def none {H : Type} : Left H := { results := [], args := [] }

/-- 'sawmilllaw48.AssignTables': WHATEVER THE INPUT: true; the input reads as it did. -/
def assignTablesSpec : ChangeSpec := { name := "assignTables", fn := fun _ => fun
  | [d1, d2] => { results := [.lit (.bool true)], args := [d1, d2] }
  | _ => none }
def assignTablesRow : OpenClaim := { program := "ythchddkdcibbhaa", sum := "6e1da85557d5367caae6b72e24c4438d5d50126cf79eed2fffc21806414a5d44", func := "sawmill/sawmilllaw48.AssignTables", spec := "assignTables", apart := false }
def AssignTablesSaid : Prop := assignTablesRow.holds Try.pinned (OpenSpec.ofChange assignTablesSpec)

/-- ITS FALSE NEIGHBOUR: 'it returns false'. Refute it at one input. -/
def assignTablesWrong : ChangeSpec := { name := "assignTables", fn := fun _ => fun
  | [d1, d2] => { results := [.lit (.bool false)], args := [d1, d2] }
  | _ => none }
def AssignTablesWrongFalsely : Prop := assignTablesRow.holds Try.pinned (OpenSpec.ofChange assignTablesWrong)

/-- 'sawmilllaw48.AssignCounts': WHATEVER THE INPUT: true; the input reads as it did. -/
def assignCountsSpec : ChangeSpec := { name := "assignCounts", fn := fun _ => fun
  | [d] => { results := [.lit (.bool true)], args := [d] }
  | _ => none }
def assignCountsRow : OpenClaim := { program := "ythchddkdcibbhaa", sum := "6e1da85557d5367caae6b72e24c4438d5d50126cf79eed2fffc21806414a5d44", func := "sawmill/sawmilllaw48.AssignCounts", spec := "assignCounts", recurses := true, apart := false }
def AssignCountsSaid : Prop := assignCountsRow.holds Try.pinned (OpenSpec.ofChange assignCountsSpec)

/-- ITS FALSE NEIGHBOUR: 'it returns false'. Refute it at one input. -/
def assignCountsWrong : ChangeSpec := { name := "assignCounts", fn := fun _ => fun
  | [d] => { results := [.lit (.bool false)], args := [d] }
  | _ => none }
def AssignCountsWrongFalsely : Prop := assignCountsRow.holds Try.pinned (OpenSpec.ofChange assignCountsWrong)

/-- 'sawmilllaw48.AssignBests': WHATEVER THE INPUT: true; the input reads as it did. -/
def assignBestsSpec : ChangeSpec := { name := "assignBests", fn := fun _ => fun
  | [d] => { results := [.lit (.bool true)], args := [d] }
  | _ => none }
def assignBestsRow : OpenClaim := { program := "ythchddkdcibbhaa", sum := "6e1da85557d5367caae6b72e24c4438d5d50126cf79eed2fffc21806414a5d44", func := "sawmill/sawmilllaw48.AssignBests", spec := "assignBests", recurses := true, apart := false }
def AssignBestsSaid : Prop := assignBestsRow.holds Try.pinned (OpenSpec.ofChange assignBestsSpec)

/-- ITS FALSE NEIGHBOUR: 'it returns false'. Refute it at one input. -/
def assignBestsWrong : ChangeSpec := { name := "assignBests", fn := fun _ => fun
  | [d] => { results := [.lit (.bool false)], args := [d] }
  | _ => none }
def AssignBestsWrongFalsely : Prop := assignBestsRow.holds Try.pinned (OpenSpec.ofChange assignBestsWrong)

/-- 'sawmilllaw48.AssignValids': WHATEVER THE INPUT: true; the input reads as it did. -/
def assignValidsSpec : ChangeSpec := { name := "assignValids", fn := fun _ => fun
  | [d1, d2] => { results := [.lit (.bool true)], args := [d1, d2] }
  | _ => none }
def assignValidsRow : OpenClaim := { program := "ythchddkdcibbhaa", sum := "6e1da85557d5367caae6b72e24c4438d5d50126cf79eed2fffc21806414a5d44", func := "sawmill/sawmilllaw48.AssignValids", spec := "assignValids", recurses := true, apart := false }
def AssignValidsSaid : Prop := assignValidsRow.holds Try.pinned (OpenSpec.ofChange assignValidsSpec)

/-- ITS FALSE NEIGHBOUR: 'it returns false'. Refute it at one input. -/
def assignValidsWrong : ChangeSpec := { name := "assignValids", fn := fun _ => fun
  | [d1, d2] => { results := [.lit (.bool false)], args := [d1, d2] }
  | _ => none }
def AssignValidsWrongFalsely : Prop := assignValidsRow.holds Try.pinned (OpenSpec.ofChange assignValidsWrong)

/-- 'sawmilllaw48.AssignPriority': WHATEVER THE INPUT: true; the input reads as it did. -/
def assignPrioritySpec : ChangeSpec := { name := "assignPriority", fn := fun _ => fun
  | [d1, d2] => { results := [.lit (.bool true)], args := [d1, d2] }
  | _ => none }
def assignPriorityRow : OpenClaim := { program := "ythchddkdcibbhaa", sum := "6e1da85557d5367caae6b72e24c4438d5d50126cf79eed2fffc21806414a5d44", func := "sawmill/sawmilllaw48.AssignPriority", spec := "assignPriority", apart := false }
def AssignPrioritySaid : Prop := assignPriorityRow.holds Try.pinned (OpenSpec.ofChange assignPrioritySpec)

/-- ITS FALSE NEIGHBOUR: 'it returns false'. Refute it at one input. -/
def assignPriorityWrong : ChangeSpec := { name := "assignPriority", fn := fun _ => fun
  | [d1, d2] => { results := [.lit (.bool false)], args := [d1, d2] }
  | _ => none }
def AssignPriorityWrongFalsely : Prop := assignPriorityRow.holds Try.pinned (OpenSpec.ofChange assignPriorityWrong)

/-- 'sawmilllaw48.AssignFirst': WHATEVER THE INPUT: true; the input reads as it did. -/
def assignFirstSpec : ChangeSpec := { name := "assignFirst", fn := fun _ => fun
  | [d1, d2] => { results := [.lit (.bool true)], args := [d1, d2] }
  | _ => none }
def assignFirstRow : OpenClaim := { program := "ythchddkdcibbhaa", sum := "6e1da85557d5367caae6b72e24c4438d5d50126cf79eed2fffc21806414a5d44", func := "sawmill/sawmilllaw48.AssignFirst", spec := "assignFirst", apart := false }
def AssignFirstSaid : Prop := assignFirstRow.holds Try.pinned (OpenSpec.ofChange assignFirstSpec)

/-- ITS FALSE NEIGHBOUR: 'it returns false'. Refute it at one input. -/
def assignFirstWrong : ChangeSpec := { name := "assignFirst", fn := fun _ => fun
  | [d1, d2] => { results := [.lit (.bool false)], args := [d1, d2] }
  | _ => none }
def AssignFirstWrongFalsely : Prop := assignFirstRow.holds Try.pinned (OpenSpec.ofChange assignFirstWrong)

/-- 'sawmilllaw48.AssignMore': WHATEVER THE INPUT: true; the input reads as it did. -/
def assignMoreSpec : ChangeSpec := { name := "assignMore", fn := fun _ => fun
  | [d1, d2, d3] => { results := [.lit (.bool true)], args := [d1, d2, d3] }
  | _ => none }
def assignMoreRow : OpenClaim := { program := "ythchddkdcibbhaa", sum := "6e1da85557d5367caae6b72e24c4438d5d50126cf79eed2fffc21806414a5d44", func := "sawmill/sawmilllaw48.AssignMore", spec := "assignMore", apart := false }
def AssignMoreSaid : Prop := assignMoreRow.holds Try.pinned (OpenSpec.ofChange assignMoreSpec)

/-- ITS FALSE NEIGHBOUR: 'it returns false'. Refute it at one input. -/
def assignMoreWrong : ChangeSpec := { name := "assignMore", fn := fun _ => fun
  | [d1, d2, d3] => { results := [.lit (.bool false)], args := [d1, d2, d3] }
  | _ => none }
def AssignMoreWrongFalsely : Prop := assignMoreRow.holds Try.pinned (OpenSpec.ofChange assignMoreWrong)

/- THE SECOND FORM. 'bulk': how many values and letters a reading holds, each counted each time it is reached (what is shared counts as often as it is met; a slice's spare places count too). A statement '..UptoSaid' is the law's where the arguments, and the package variables that the reading takes, are together of bulk at most 1048576: NARROWER than '..Said'. Prove '..Said' where nothing that the law and all that it calls make is longer than what came in: it says more and counts as full. Else prove '..UptoSaid'. A law counts once. -/
mutual
def uptoBulk {H : Type} : DataW H → Nat
  | .lit (.string bytes) => bytes.length + 1
  | .lit _ => 1
  | .nil => 1
  | .ptr d => uptoBulk d + 1
  | .slice elems spare => uptoBulkAll elems + uptoBulkAll spare + 1
  | .agg parts => uptoBulkAll parts + 1
  | .iface _ d => uptoBulk d + 1
  | .map entries => uptoBulkEntries entries + 1
  | .held _ => 1
def uptoBulkAll {H : Type} : List (DataW H) → Nat
  | [] => 0
  | d :: r => uptoBulk d + uptoBulkAll r
def uptoBulkEntries {H : Type} : List (Lit × DataW H) → Nat
  | [] => 0
  | x :: r => uptoBulkEntry x + uptoBulkEntries r
def uptoBulkEntry {H : Type} : Lit × DataW H → Nat
  | (.string bytes, d) => bytes.length + uptoBulk d + 1
  | (_, d) => uptoBulk d + 1
 end
def uptoSmall : (H : Type) → List (DataW H) → Bool := fun _ ds => decide (uptoBulkAll ds ≤ 1048576)
def OpenSpec.upto (s : _root_.Go.ChangeSpec) : _root_.Go.OpenSpec := { _root_.Go.OpenSpec.ofChange s with cond := some uptoSmall }

/-- 'sawmilllaw48.AssignTables', WHERE WHAT IT READS IS OF BULK AT MOST 1048576: true; the input reads as it did. -/
def assignTablesUptoRow : OpenClaim := { program := "ythchddkdcibbhaa", sum := "6e1da85557d5367caae6b72e24c4438d5d50126cf79eed2fffc21806414a5d44", func := "sawmill/sawmilllaw48.AssignTables", spec := "assignTables", apart := false, narrowed := true }
def AssignTablesUptoSaid : Prop := assignTablesUptoRow.holds Try.pinned (OpenSpec.upto assignTablesSpec)

/-- 'sawmilllaw48.AssignCounts', WHERE WHAT IT READS IS OF BULK AT MOST 1048576: true; the input reads as it did. -/
def assignCountsUptoRow : OpenClaim := { program := "ythchddkdcibbhaa", sum := "6e1da85557d5367caae6b72e24c4438d5d50126cf79eed2fffc21806414a5d44", func := "sawmill/sawmilllaw48.AssignCounts", spec := "assignCounts", recurses := true, apart := false, narrowed := true }
def AssignCountsUptoSaid : Prop := assignCountsUptoRow.holds Try.pinned (OpenSpec.upto assignCountsSpec)

/-- 'sawmilllaw48.AssignBests', WHERE WHAT IT READS IS OF BULK AT MOST 1048576: true; the input reads as it did. -/
def assignBestsUptoRow : OpenClaim := { program := "ythchddkdcibbhaa", sum := "6e1da85557d5367caae6b72e24c4438d5d50126cf79eed2fffc21806414a5d44", func := "sawmill/sawmilllaw48.AssignBests", spec := "assignBests", recurses := true, apart := false, narrowed := true }
def AssignBestsUptoSaid : Prop := assignBestsUptoRow.holds Try.pinned (OpenSpec.upto assignBestsSpec)

/-- 'sawmilllaw48.AssignValids', WHERE WHAT IT READS IS OF BULK AT MOST 1048576: true; the input reads as it did. -/
def assignValidsUptoRow : OpenClaim := { program := "ythchddkdcibbhaa", sum := "6e1da85557d5367caae6b72e24c4438d5d50126cf79eed2fffc21806414a5d44", func := "sawmill/sawmilllaw48.AssignValids", spec := "assignValids", recurses := true, apart := false, narrowed := true }
def AssignValidsUptoSaid : Prop := assignValidsUptoRow.holds Try.pinned (OpenSpec.upto assignValidsSpec)

/-- 'sawmilllaw48.AssignPriority', WHERE WHAT IT READS IS OF BULK AT MOST 1048576: true; the input reads as it did. -/
def assignPriorityUptoRow : OpenClaim := { program := "ythchddkdcibbhaa", sum := "6e1da85557d5367caae6b72e24c4438d5d50126cf79eed2fffc21806414a5d44", func := "sawmill/sawmilllaw48.AssignPriority", spec := "assignPriority", apart := false, narrowed := true }
def AssignPriorityUptoSaid : Prop := assignPriorityUptoRow.holds Try.pinned (OpenSpec.upto assignPrioritySpec)

/-- 'sawmilllaw48.AssignFirst', WHERE WHAT IT READS IS OF BULK AT MOST 1048576: true; the input reads as it did. -/
def assignFirstUptoRow : OpenClaim := { program := "ythchddkdcibbhaa", sum := "6e1da85557d5367caae6b72e24c4438d5d50126cf79eed2fffc21806414a5d44", func := "sawmill/sawmilllaw48.AssignFirst", spec := "assignFirst", apart := false, narrowed := true }
def AssignFirstUptoSaid : Prop := assignFirstUptoRow.holds Try.pinned (OpenSpec.upto assignFirstSpec)

/-- 'sawmilllaw48.AssignMore', WHERE WHAT IT READS IS OF BULK AT MOST 1048576: true; the input reads as it did. -/
def assignMoreUptoRow : OpenClaim := { program := "ythchddkdcibbhaa", sum := "6e1da85557d5367caae6b72e24c4438d5d50126cf79eed2fffc21806414a5d44", func := "sawmill/sawmilllaw48.AssignMore", spec := "assignMore", apart := false, narrowed := true }
def AssignMoreUptoSaid : Prop := assignMoreUptoRow.holds Try.pinned (OpenSpec.upto assignMoreSpec)

end Rows
end Go.Proofs.Ythchddkdcibbhaa
