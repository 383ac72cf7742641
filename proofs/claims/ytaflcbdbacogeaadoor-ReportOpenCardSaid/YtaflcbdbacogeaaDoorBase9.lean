/-
  More program-independent ground: in a region that draws its order a struct that is built is laid into a new box.
-/
import Derived.Test.YtaflcbdbacogeaaDoorBase8
set_option linter.unusedVariables false
set_option linter.unusedSimpArgs false
namespace Go.Proofs.YtaflcbdbacogeaaDoor
open Go.RowKit Go.WideShapes Go.ChangeShapes

section
variable {P : Program} {ops : Array Oper} {Q : Exit → Act → World → Prop} {S : World → Prop} {listed : Array Bool} {fuel : Nat} {a : Act} {w : World}
/-- a struct that is built is stored into a new box: the two last operations of a region -/
theorem ah_new {al st T d1 d2 n : Nat} {ta ts : TypeId} {pa ps : String} {aa ea : Array Edge} {cs z : Array Value}
    (hoa : ops[al]? = some ⟨some d2, .alloc T, ta, pa, aa, none⟩) (hos : ops[st]? = some ⟨none, .store T (.tmp d2) (.tmp d1), ts, ps, ea, none⟩)
    (L : Whole P T n) (hcs : cs.size = n) (h1 : cs.all (·.oneCell') = true) (hz : ∀ W : World, (Instr.alloc T true (.tuple #[])).run P W = .ok (.pointer (some ⟨W.heap.size, 0, none⟩)) (W.alloc (.cells z T))) (hzs : z.size = n)
    (hne : d1 ≠ d2) (hb2 : d2 < a.tmps.size) (hv : a.eval (.tmp d1) = .agg cs)
    (r0 : Region.ready .any ops listed = [al]) (r1 : Region.ready .any ops (listed.setIfInBounds al true) = [st]) (r2 : Region.ready .any ops ((listed.setIfInBounds al true).setIfInBounds st true) = [])
    (hS : ∀ W : World, Ext w W → S W)
    (hk : ∀ (W : World) (g : Nat), Ext w W → w.heap.size ≤ g → Block W g cs → Q .normal (a.put (some d2) (.pointer (some ⟨g, 0, none⟩))) W) :
    wpAnyH P .any ops Q S (fuel + 2) listed a w := by
  have hx : Ext w (w.alloc (.cells z T)) := (Ext.refl w).alloc _
  refine ah_one r0 (wpOp_alloc (b := w.heap.size) hoa rfl (hz _) ⟨hS _ hx, ?_⟩)
  refine ah_store (i := st) (b := w.heap.size) (cs := cs) L hos r1 (eval_put_same hb2) (by rw [eval_put_other (Ne.symm hne)]; exact hv) (Block.new _ _ _) hzs hcs h1 (hS _ (hx.setRow (Nat.le_refl _) _)) ?_
  exact wpAnyH_done r2 (hk _ _ (hx.setRow (Nat.le_refl _) _) (Nat.le_refl _) inferInstance) _
end
end Go.Proofs.YtaflcbdbacogeaaDoor
