/-
  The card's fact 'goes', for a great program: where no function of the program starts a goroutine, no row does; without the closure.
-/
import Derived.SevenTiedAt
namespace Go.Proofs.YteokijolhbohaaaGreatDoor

theorem goes_none {P : Program} (h : P.funcs.any Func.goes = false) (f : FuncId) : P.goes f = false := by
  have h' : ∀ fn ∈ P.funcs, Func.goes fn = false := by
    intro fn hfn
    cases hg : Func.goes fn with
    | false => rfl
    | true =>
      have : P.funcs.any Func.goes = true := Array.any_eq_true'.2 ⟨fn, hfn, hg⟩
      rw [this] at h
      cases h
  have h1 : ((P.closure f).any fun g => (P.funcs[g]?).any Func.goes) = false := by
    rw [Bool.eq_false_iff]
    intro ht
    simp only [List.any_eq_true] at ht
    obtain ⟨g, hg, ha⟩ := ht
    cases hq : P.funcs[g]? with
    | none => rw [hq] at ha; cases ha
    | some fn =>
      rw [hq] at ha
      simp only [Option.any_some] at ha
      rw [h' fn (Array.mem_of_getElem? hq)] at ha
      cases ha
  unfold Program.goes
  rw [h1, h]
  simp
theorem goesBy_none {P : Program} (h : P.funcs.any Func.goes = false) (c : OpenClaim) : c.goesBy P = false := by
  unfold OpenClaim.goesBy Program.goesAt Program.goesFrom
  have h1 : (P.funcNamed c.func).any P.goes = false := by
    cases P.funcNamed c.func with
    | none => rfl
    | some f => exact goes_none h f
  have h2 : P.inits.toList.any P.goes = false := by
    rw [List.any_eq_false]
    intro f _
    rw [goes_none h f]
    decide
  rw [h1]
  cases c.start <;> simp only [Bool.false_or] <;> first | rfl | exact h2
end Go.Proofs.YteokijolhbohaaaGreatDoor
