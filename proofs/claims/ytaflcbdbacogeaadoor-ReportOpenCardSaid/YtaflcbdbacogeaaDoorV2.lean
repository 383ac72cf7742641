/-
  The examples of the chapter: what they compute.
-/
import Derived.Test.YtaflcbdbacogeaaDoorV1
set_option linter.unusedVariables false
set_option linter.unusedSimpArgs false
namespace Go.Proofs.YtaflcbdbacogeaaDoor
open Go.RowKit ReportM

theorem slice_lit {α : Type} {enc : α → List Value} {k g : Nat} {W : World} {cs : Array Value} {l : List α} (hk : ∀ x, (enc x).length = k) (hB : Block W g cs) (hcs : cs.toList = l.flatMap enc) (hl : l.length ≤ 1000) : SliceOf enc k W (.slice (some ⟨g, 0, none⟩) l.length l.length) l := by
  refine ⟨_, l.length, rfl, Nat.le_refl _, by unfold maxLen; omega, fun h => (by cases h), fun i x hi => ⟨g, 0, rfl, fun j u hj => ?_⟩⟩
  rw [Block.cell (h := hB), Nat.zero_add]
  have := flatMap_get hk hi hj
  rw [← hcs] at this
  simpa using this
def aPl : List Pl := [⟨0, 2000, 2, 5, 1⟩, ⟨0, 2000, 1, 3, 1⟩, ⟨0, 2000, 2, 7, 1⟩, ⟨0, 0, 0, 0, 2⟩]
def aIt : List It := [⟨0, 0, 2000, 2, 5, 1⟩, ⟨0, 1, 2001, 1, 3, 1⟩, ⟨0, 2, 2002, 2, 7, 1⟩, ⟨0, 3, 3, 0, 0, 2⟩]
def pine : ByteArray := ⟨#[112, 105, 110, 101]⟩
def oak : ByteArray := ⟨#[111, 97, 107]⟩
def plank : ByteArray := ⟨#[112, 108, 97, 110, 107]⟩
def aSw : List Sw := [⟨pine, true, ⟨9, 5, 3, 1, 7⟩⟩]
def aDu : List Du := [⟨50, false⟩, ⟨20, true⟩, ⟨10, false⟩, ⟨50, false⟩]
def aTs : List Tal := [⟨(0, 2000, 1), 1, 3⟩, ⟨(0, 2000, 2), 2, 12⟩]
def aPd : List Pd := [⟨plank, 0, 0, 0, 0, .slice none 0 0, .slice none 0 0⟩]
theorem aIts : itsTo aPl aPl.length = aIt := by rfl
theorem aVo : ∀ x ∈ aPl, 0 ≤ x.vo ∧ x.vo < 4294967296 := by
  intro x hx
  simp only [aPl, List.mem_cons, List.not_mem_nil, or_false] at hx
  rcases hx with rfl | rfl | rfl | rfl <;> decide
theorem aItOk : ∀ x ∈ aIt, ItOk x := by
  intro x hx
  simp only [aIt, List.mem_cons, List.not_mem_nil, or_false] at hx
  rcases hx with rfl | rfl | rfl | rfl <;> exact ⟨by decide, by decide, by decide, ⟨by decide, by decide⟩, ⟨by decide, by decide⟩, by decide, by decide⟩
theorem aXs : xsOf aIt 1 = [((0, 2000, 2), 5), ((0, 2000, 1), 3), ((0, 2000, 2), 7)] := by rfl
theorem aOk : Ok (xsOf aIt 1) aTs := by
  rw [aXs]
  refine ⟨by decide, fun k => ?_, fun t ht => ?_⟩
  · simp only [aTs, List.map_cons, List.map_nil, List.mem_cons, List.not_mem_nil, or_false]
    constructor
    · rintro (h | h) <;> simp [h]
    · rintro (h | h | h) <;> simp [h]
  · simp only [aTs, List.mem_cons, List.not_mem_nil, or_false] at ht
    rcases ht with rfl | rfl <;> decide
theorem aAsc : Asc aTs := by
  unfold Asc aTs
  simp only [List.pairwise_cons, List.mem_cons, List.not_mem_nil, or_false, List.Pairwise.nil, and_true, false_implies, implies_true]
  rintro b rfl
  decide
theorem aRec1 : recF pine aSw zeroY = (⟨9, 5, 3, 1, 7⟩, 0) := by kernel_rfl
theorem aRec2 : recF oak aSw zeroY = (zeroY, 0) := by kernel_rfl
theorem aOpen : OpenOk aDu [2, 0, 3] := by
  refine ⟨fun i => ?_, by simp [ltO, dueOf, aDu]⟩
  by_cases h : i < 4
  · rcases (show i = 0 ∨ i = 1 ∨ i = 2 ∨ i = 3 by omega) with rfl | rfl | rfl | rfl <;> decide
  · simp [aDu]; omega
theorem aText : textF aPd aTs = [112, 108, 97, 110, 107, 32, 50, 48, 48, 48, 32, 49, 32, 49, 32, 51, 10, 112, 108, 97, 110, 107, 32, 50, 48, 48, 48, 32, 50, 32, 50, 32, 49, 50, 10] := by
  simp [textF, aTs, aPd, lineF, nameF, plank, Lib.itoa, Lib.decDigits]
end Go.Proofs.YtaflcbdbacogeaaDoor
