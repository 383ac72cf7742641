/-
  Two facts for a great program: where no function starts a goroutine, no row does; the closure, reckoned over a table.
-/
import Derived.SevenTiedAt
import Derived.Test.YtjflmmipjeangaaGreatDoorRows
namespace Go.Proofs.YtjflmmipjeangaaGreatDoor

theorem goes_none {P : Program} (h : P.funcs.any Func.goes = false) (f : FuncId) : P.goes f = false := by
  have h' : ∀ fn ∈ P.funcs, Func.goes fn = false := by
    intro fn hfn
    cases hg : Func.goes fn with
    | false => rfl
    | true =>
      have : P.funcs.any Func.goes = true := Array.any_eq_true'.2 ⟨fn, hfn, hg⟩
      rw [this] at h
      cases h
  have h1 : ((P.closure f).any fun g => (P.funcs[g]?).any Func.goes) = false := by
    rw [Bool.eq_false_iff]
    intro ht
    simp only [List.any_eq_true] at ht
    obtain ⟨g, hg, ha⟩ := ht
    cases hq : P.funcs[g]? with
    | none => rw [hq] at ha; cases ha
    | some fn =>
      rw [hq] at ha
      simp only [Option.any_some] at ha
      rw [h' fn (Array.mem_of_getElem? hq)] at ha
      cases ha
  unfold Program.goes
  rw [h1, h]
  simp
theorem goesBy_none {P : Program} (h : P.funcs.any Func.goes = false) (c : OpenClaim) : c.goesBy P = false := by
  unfold OpenClaim.goesBy Program.goesAt Program.goesFrom
  have h1 : (P.funcNamed c.func).any P.goes = false := by
    cases P.funcNamed c.func with
    | none => rfl
    | some f => exact goes_none h f
  have h2 : P.inits.toList.any P.goes = false := by
    rw [List.any_eq_false]
    intro f _
    rw [goes_none h f]
    decide
  rw [h1]
  cases c.start <;> simp only [Bool.false_or] <;> first | rfl | exact h2
end Go.Proofs.YtjflmmipjeangaaGreatDoor
namespace Go.Proofs.YtjflmmipjeangaaGreatDoor
open Go
def viaT (T : List (List FuncId)) : (fuel : Nat) → (todo seen : List FuncId) → Nat → List FuncId
  | 0, _, seen, _ => seen.reverse
  | _ + 1, [], seen, _ => seen.reverse
  | n + 1, f :: todo, seen, m =>
    bif m.testBit f then viaT T n todo seen m
    else viaT T n ((T[f]?).getD [] ++ todo) (f :: seen) (m ||| (1 <<< f))
theorem closureVia_tab {P : Program} {T : List (List FuncId)} (hT : P.funcs.toList.map P.leadsTo = T) : ∀ (n : Nat) (todo seen : List FuncId) (m : Nat), (∀ x, m.testBit x = seen.contains x) →
    P.closureVia n todo seen = viaT T n todo seen m := by
  have hl : ∀ f, (P.funcs[f]?).elim [] P.leadsTo = (T[f]?).getD [] := fun f => by
    rw [← hT, List.getElem?_map, Array.getElem?_toList]
    cases P.funcs[f]? <;> rfl
  intro n
  induction n with
  | zero => intro todo seen m h; unfold Program.closureVia viaT; rfl
  | succ n ih =>
    intro todo seen m h
    cases todo with
    | nil => unfold Program.closureVia viaT; rfl
    | cons f todo =>
      unfold Program.closureVia viaT
      rw [h f, hl f]
      cases hc : seen.contains f with
      | true => simp only [if_true, cond_true]; exact ih _ _ _ h
      | false =>
        simp only [Bool.false_eq_true, if_false, cond_false]
        refine ih _ _ _ fun x => ?_
        rw [Nat.testBit_or, h x, Nat.one_shiftLeft, Nat.testBit_two_pow, List.contains_cons]
        by_cases hx : x = f
        · subst hx; simp
        · have h1 : ¬ f = x := fun e => hx e.symm
          simp [h1, beq_eq_false_iff_ne.2 hx]
theorem closure_tab {P : Program} {T : List (List FuncId)} (hT : P.funcs.toList.map P.leadsTo = T) (f : FuncId) : P.closure f = viaT T (1 + (T.map fun l => l.length + 1).sum) [f] [] 0 := by
  have h := closureVia_tab hT (1 + (P.funcs.toList.map fun g => (P.leadsTo g).length + 1).sum) [f] [] 0 (fun x => by simp)
  have e : (P.funcs.toList.map fun g => (P.leadsTo g).length + 1) = T.map fun l => l.length + 1 := by
    rw [← hT, List.map_map]
    rfl
  unfold Program.closure
  rw [e] at h ⊢
  exact h
/-- a list by its parts -/
theorem parts_map {α β : Type} (f : α → β) (l : List α) (n : Nat) {a b : List β} (h1 : (l.take n).map f = a) (h2 : (l.drop n).map f = b) : l.map f = a ++ b := by
  rw [← List.take_append_drop n l, List.map_append, h1, h2]
end Go.Proofs.YtjflmmipjeangaaGreatDoor
