/-
  NARROWER THAN 'FOR EVERY INPUT', by the rows' own cells (each row's printed sentence says how): TrimLines: laid · TrimBests: laid · TrimCovers: laid · TrimOptimal: laid · TrimDefects: laid.
  DERIVED. THE GIVEN ROWS OF THIS SEAT. 5 by the template 'for every input the law returns true; each argument reads behind the call as it read before'; 0 by the template 'total and deterministic' (their statements: YtdalbfanfbeckaaDoorTotals.lean).
  GIVEN WITH THE SEED: the statements are not yours to turn. If you find one false, say at which input.
  Laid BY PROGRAM, IN A SANDBOX (cutbox-rows.mjs): the forced cells as the released guide's own fill.sh prints them over the translation d523cb31bcdc75be… (all of the seat's roots in one cut). By AI agents, Wed Nov 11 2026. No macro, syntax, notation, axiom, sorry.
-/
import Derived.Test.YtdalbfanfbeckaaDoorChecked
import GoSem.Claim
import GoSem.ClaimJoined
import GoSem.ClaimMapViews
import Derived.JoinedTies
import Derived.KernelRfl
namespace Go.Proofs.YtdalbfanfbeckaaDoor
/- THE CELL 'sum', in the pinned program and in every row, IS THE sha256 OF THE DUMP (.gsa) THAT YtdalbfanfbeckaaDoorProg.lean LOADS. Nothing in Lean hashes anything: it is a label: what it is worth is what the hold of that sum in a sandbox is worth. -/
noncomputable def Tryd.pinned : Pinned := { name := "ytdalbfanfbeckaadoor", sum := "d523cb31bcdc75bee0c8404436393eb7524202b9e66e438153148790df68dbb6", checked := Tryd.checked }
namespace Rows
def none {H : Type} : Left H := { results := [], args := [] }

/- WHAT THE LISTED PACKAGE-LEVEL VARIABLES READ AS WHEN THE CALL BEGINS. Each datum BY PROGRAM (the guide's laid-datum.mjs) off the statement by which the dump's own 'gosem.cut.vars' lays the variable. In a bare row this is a premise. The card (YtdalbfanfbeckaaDoorCards.lean) ties it to the program's text. -/
def laid_sawmill_cutting_none {H : Type} : DataW H := .agg [.lit (.int .i64 (-1)), .lit (.int .i64 (-1))]

/-- 'sawmilllaw26.TrimLines': WHATEVER THE INPUT: true; the input reads as it did. -/
def trimLinesSpec : ChangeSpec := { name := "trimLines", fn := fun _ => fun
  | [d] => { results := [.lit (.bool true)], args := [d] }
  | _ => none }
def trimLinesRow : OpenClaim := { program := "ytdalbfanfbeckaadoor", sum := "d523cb31bcdc75bee0c8404436393eb7524202b9e66e438153148790df68dbb6", func := "sawmill/sawmilllaw26.TrimLines", spec := "trimLines", unfollowed := true, recurses := true, named := ["sawmill/cutting.none"], apart := false, laid := [("sawmill/cutting.none", laid_sawmill_cutting_none)] }
def TrimLinesSaid : Prop := trimLinesRow.holds Tryd.pinned (OpenSpec.ofChange trimLinesSpec)

/-- ITS FALSE NEIGHBOUR: 'it returns false'. Refute it at one input. -/
def trimLinesWrong : ChangeSpec := { name := "trimLines", fn := fun _ => fun
  | [d] => { results := [.lit (.bool false)], args := [d] }
  | _ => none }
def TrimLinesWrongFalsely : Prop := trimLinesRow.holds Tryd.pinned (OpenSpec.ofChange trimLinesWrong)

/-- 'sawmilllaw26.TrimBests': WHATEVER THE INPUT: true; the input reads as it did. -/
def trimBestsSpec : ChangeSpec := { name := "trimBests", fn := fun _ => fun
  | [d] => { results := [.lit (.bool true)], args := [d] }
  | _ => none }
def trimBestsRow : OpenClaim := { program := "ytdalbfanfbeckaadoor", sum := "d523cb31bcdc75bee0c8404436393eb7524202b9e66e438153148790df68dbb6", func := "sawmill/sawmilllaw26.TrimBests", spec := "trimBests", unfollowed := true, recurses := true, named := ["sawmill/cutting.none"], apart := false, laid := [("sawmill/cutting.none", laid_sawmill_cutting_none)] }
def TrimBestsSaid : Prop := trimBestsRow.holds Tryd.pinned (OpenSpec.ofChange trimBestsSpec)

/-- ITS FALSE NEIGHBOUR: 'it returns false'. Refute it at one input. -/
def trimBestsWrong : ChangeSpec := { name := "trimBests", fn := fun _ => fun
  | [d] => { results := [.lit (.bool false)], args := [d] }
  | _ => none }
def TrimBestsWrongFalsely : Prop := trimBestsRow.holds Tryd.pinned (OpenSpec.ofChange trimBestsWrong)

/-- 'sawmilllaw26.TrimCovers': WHATEVER THE INPUT: true; the input reads as it did. -/
def trimCoversSpec : ChangeSpec := { name := "trimCovers", fn := fun _ => fun
  | [d1, d2] => { results := [.lit (.bool true)], args := [d1, d2] }
  | _ => none }
def trimCoversRow : OpenClaim := { program := "ytdalbfanfbeckaadoor", sum := "d523cb31bcdc75bee0c8404436393eb7524202b9e66e438153148790df68dbb6", func := "sawmill/sawmilllaw26.TrimCovers", spec := "trimCovers", unfollowed := true, recurses := true, named := ["sawmill/cutting.none"], apart := false, laid := [("sawmill/cutting.none", laid_sawmill_cutting_none)] }
def TrimCoversSaid : Prop := trimCoversRow.holds Tryd.pinned (OpenSpec.ofChange trimCoversSpec)

/-- ITS FALSE NEIGHBOUR: 'it returns false'. Refute it at one input. -/
def trimCoversWrong : ChangeSpec := { name := "trimCovers", fn := fun _ => fun
  | [d1, d2] => { results := [.lit (.bool false)], args := [d1, d2] }
  | _ => none }
def TrimCoversWrongFalsely : Prop := trimCoversRow.holds Tryd.pinned (OpenSpec.ofChange trimCoversWrong)

/-- 'sawmilllaw26.TrimOptimal': WHATEVER THE INPUT: true; the input reads as it did. -/
def trimOptimalSpec : ChangeSpec := { name := "trimOptimal", fn := fun _ => fun
  | [d1, d2, d3] => { results := [.lit (.bool true)], args := [d1, d2, d3] }
  | _ => none }
def trimOptimalRow : OpenClaim := { program := "ytdalbfanfbeckaadoor", sum := "d523cb31bcdc75bee0c8404436393eb7524202b9e66e438153148790df68dbb6", func := "sawmill/sawmilllaw26.TrimOptimal", spec := "trimOptimal", unfollowed := true, recurses := true, named := ["sawmill/cutting.none"], apart := false, laid := [("sawmill/cutting.none", laid_sawmill_cutting_none)] }
def TrimOptimalSaid : Prop := trimOptimalRow.holds Tryd.pinned (OpenSpec.ofChange trimOptimalSpec)

/-- ITS FALSE NEIGHBOUR: 'it returns false'. Refute it at one input. -/
def trimOptimalWrong : ChangeSpec := { name := "trimOptimal", fn := fun _ => fun
  | [d1, d2, d3] => { results := [.lit (.bool false)], args := [d1, d2, d3] }
  | _ => none }
def TrimOptimalWrongFalsely : Prop := trimOptimalRow.holds Tryd.pinned (OpenSpec.ofChange trimOptimalWrong)

/-- 'sawmilllaw26.TrimDefects': WHATEVER THE INPUT: true; the input reads as it did. -/
def trimDefectsSpec : ChangeSpec := { name := "trimDefects", fn := fun _ => fun
  | [d1, d2, d3] => { results := [.lit (.bool true)], args := [d1, d2, d3] }
  | _ => none }
def trimDefectsRow : OpenClaim := { program := "ytdalbfanfbeckaadoor", sum := "d523cb31bcdc75bee0c8404436393eb7524202b9e66e438153148790df68dbb6", func := "sawmill/sawmilllaw26.TrimDefects", spec := "trimDefects", unfollowed := true, recurses := true, named := ["sawmill/cutting.none"], apart := false, laid := [("sawmill/cutting.none", laid_sawmill_cutting_none)] }
def TrimDefectsSaid : Prop := trimDefectsRow.holds Tryd.pinned (OpenSpec.ofChange trimDefectsSpec)

/-- ITS FALSE NEIGHBOUR: 'it returns false'. Refute it at one input. -/
def trimDefectsWrong : ChangeSpec := { name := "trimDefects", fn := fun _ => fun
  | [d1, d2, d3] => { results := [.lit (.bool false)], args := [d1, d2, d3] }
  | _ => none }
def TrimDefectsWrongFalsely : Prop := trimDefectsRow.holds Tryd.pinned (OpenSpec.ofChange trimDefectsWrong)

/- THE SECOND FORM. 'bulk': how many values and letters a reading holds, each counted each time it is reached (what is shared counts as often as it is met; a slice's spare places count too). A statement '..UptoSaid' is the law's where the arguments, and the package variables that the reading takes, are together of bulk at most 1048576: NARROWER than '..Said'. Prove '..Said' where nothing that the law and all that it calls make is longer than what came in: it says more and counts as full. Else prove '..UptoSaid'. A law counts once. -/
mutual
def uptoBulk {H : Type} : DataW H → Nat
  | .lit (.string bytes) => bytes.length + 1
  | .lit _ => 1
  | .nil => 1
  | .ptr d => uptoBulk d + 1
  | .slice elems spare => uptoBulkAll elems + uptoBulkAll spare + 1
  | .agg parts => uptoBulkAll parts + 1
  | .iface _ d => uptoBulk d + 1
  | .map entries => uptoBulkEntries entries + 1
  | .held _ => 1
def uptoBulkAll {H : Type} : List (DataW H) → Nat
  | [] => 0
  | d :: r => uptoBulk d + uptoBulkAll r
def uptoBulkEntries {H : Type} : List (Lit × DataW H) → Nat
  | [] => 0
  | x :: r => uptoBulkEntry x + uptoBulkEntries r
def uptoBulkEntry {H : Type} : Lit × DataW H → Nat
  | (.string bytes, d) => bytes.length + uptoBulk d + 1
  | (_, d) => uptoBulk d + 1
 end
def uptoSmall : (H : Type) → List (DataW H) → Bool := fun _ ds => decide (uptoBulkAll ds ≤ 1048576)
def OpenSpec.upto (s : _root_.Go.ChangeSpec) : _root_.Go.OpenSpec := { _root_.Go.OpenSpec.ofChange s with cond := some uptoSmall }

/-- 'sawmilllaw26.TrimLines', WHERE WHAT IT READS IS OF BULK AT MOST 1048576: true; the input reads as it did. -/
def trimLinesUptoRow : OpenClaim := { program := "ytdalbfanfbeckaadoor", sum := "d523cb31bcdc75bee0c8404436393eb7524202b9e66e438153148790df68dbb6", func := "sawmill/sawmilllaw26.TrimLines", spec := "trimLines", unfollowed := true, recurses := true, named := ["sawmill/cutting.none"], apart := false, laid := [("sawmill/cutting.none", laid_sawmill_cutting_none)], narrowed := true }
def TrimLinesUptoSaid : Prop := trimLinesUptoRow.holds Tryd.pinned (OpenSpec.upto trimLinesSpec)

/-- 'sawmilllaw26.TrimBests', WHERE WHAT IT READS IS OF BULK AT MOST 1048576: true; the input reads as it did. -/
def trimBestsUptoRow : OpenClaim := { program := "ytdalbfanfbeckaadoor", sum := "d523cb31bcdc75bee0c8404436393eb7524202b9e66e438153148790df68dbb6", func := "sawmill/sawmilllaw26.TrimBests", spec := "trimBests", unfollowed := true, recurses := true, named := ["sawmill/cutting.none"], apart := false, laid := [("sawmill/cutting.none", laid_sawmill_cutting_none)], narrowed := true }
def TrimBestsUptoSaid : Prop := trimBestsUptoRow.holds Tryd.pinned (OpenSpec.upto trimBestsSpec)

/-- 'sawmilllaw26.TrimCovers', WHERE WHAT IT READS IS OF BULK AT MOST 1048576: true; the input reads as it did. -/
def trimCoversUptoRow : OpenClaim := { program := "ytdalbfanfbeckaadoor", sum := "d523cb31bcdc75bee0c8404436393eb7524202b9e66e438153148790df68dbb6", func := "sawmill/sawmilllaw26.TrimCovers", spec := "trimCovers", unfollowed := true, recurses := true, named := ["sawmill/cutting.none"], apart := false, laid := [("sawmill/cutting.none", laid_sawmill_cutting_none)], narrowed := true }
def TrimCoversUptoSaid : Prop := trimCoversUptoRow.holds Tryd.pinned (OpenSpec.upto trimCoversSpec)

/-- 'sawmilllaw26.TrimOptimal', WHERE WHAT IT READS IS OF BULK AT MOST 1048576: true; the input reads as it did. -/
def trimOptimalUptoRow : OpenClaim := { program := "ytdalbfanfbeckaadoor", sum := "d523cb31bcdc75bee0c8404436393eb7524202b9e66e438153148790df68dbb6", func := "sawmill/sawmilllaw26.TrimOptimal", spec := "trimOptimal", unfollowed := true, recurses := true, named := ["sawmill/cutting.none"], apart := false, laid := [("sawmill/cutting.none", laid_sawmill_cutting_none)], narrowed := true }
def TrimOptimalUptoSaid : Prop := trimOptimalUptoRow.holds Tryd.pinned (OpenSpec.upto trimOptimalSpec)

/-- 'sawmilllaw26.TrimDefects', WHERE WHAT IT READS IS OF BULK AT MOST 1048576: true; the input reads as it did. -/
def trimDefectsUptoRow : OpenClaim := { program := "ytdalbfanfbeckaadoor", sum := "d523cb31bcdc75bee0c8404436393eb7524202b9e66e438153148790df68dbb6", func := "sawmill/sawmilllaw26.TrimDefects", spec := "trimDefects", unfollowed := true, recurses := true, named := ["sawmill/cutting.none"], apart := false, laid := [("sawmill/cutting.none", laid_sawmill_cutting_none)], narrowed := true }
def TrimDefectsUptoSaid : Prop := trimDefectsUptoRow.holds Tryd.pinned (OpenSpec.upto trimDefectsSpec)

end Rows
end Go.Proofs.YtdalbfanfbeckaaDoor
