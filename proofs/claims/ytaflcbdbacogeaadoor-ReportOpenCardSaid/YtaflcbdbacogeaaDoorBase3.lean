/-
  More program-independent ground: an allocation in a region that draws its order; worlds under a new name with what is known of their blocks.
-/
import Derived.Test.YtaflcbdbacogeaaDoorBase2
set_option linter.unusedVariables false
set_option linter.unusedSimpArgs false
namespace Go.Proofs.YtaflcbdbacogeaaDoor
open Go.RowKit Go.WideShapes Go.ChangeShapes

section
variable {P : Program} {ops : Array Oper} {Q : Exit → Act → World → Prop} {S : World → Prop} {listed : Array Bool} {fuel : Nat} {a : Act} {w : World}
/-- an allocation comes up -/
theorem wpOp_alloc {i T d b : Nat} {ty : TypeId} {pos : String} {aft : Array Edge} {cs : Array Value} {K : Act → World → Prop} (hi : ops[i]? = some ⟨some d, .alloc T, ty, pos, aft, none⟩)
    (hb : w.heap.size = b) (hz : (Instr.alloc T true (.tuple #[])).run P w = .ok (.pointer (some ⟨w.heap.size, 0, none⟩)) (w.alloc (.cells cs T)))
    (hk : K (a.put (some d) (.pointer (some ⟨b, 0, none⟩))) (w.alloc (.cells cs T))) : wpOp P ops Q i K a w := by
  subst hb
  unfold wpOp
  rw [hi]
  simp only [Region.wanted, if_true]
  refine .inl ?_
  unfold Oper.wp execOp
  simp only [Sem.run_bind, hz, Result.andThen_ok, Sem.run_pure]
  exact hk
end
instance {w : World} {b : Nat} [h : Old b w] : Apart b (w.heap.size + 1) := ⟨by have := h.lt; omega⟩
instance {w : World} {b : Nat} [h : Old b w] : Apart (w.heap.size + 1) b := ⟨by have := h.lt; omega⟩
theorem Block.old {w : World} {b : Nat} {cs : Array Value} (h : Block w b cs) : Old b w := ⟨h.lt⟩
end Go.Proofs.YtaflcbdbacogeaaDoor
