/-
  More program-independent ground: in a region that draws its order a call's result is laid into a new box, in whichever order the two come.
-/
import Derived.Test.YtaflcbdbacogeaaDoorBase5
set_option linter.unusedVariables false
set_option linter.unusedSimpArgs false
namespace Go.Proofs.YtaflcbdbacogeaaDoor
open Go.RowKit Go.WideShapes Go.ChangeShapes

theorem eval_put_same {a : Act} {d : Nat} {v : Value} (h : d < a.tmps.size) : (a.put (some d) v).eval (.tmp d) = v := by
  simp [Act.eval, Act.put, Array.getElem?_setIfInBounds_self_of_lt h]
theorem eval_put_other {a : Act} {d t : Nat} {v : Value} (h : d ≠ t) : (a.put (some d) v).eval (.tmp t) = a.eval (.tmp t) := Act.eval_put (fun e he hh => h (by injection he with he; injection hh with hh; rw [he, hh]))
theorem size_put {a : Act} {d : Option Nat} {v : Value} : (a.put d v).tmps.size = a.tmps.size := by cases d <;> simp [Act.put]

section
variable {P : Program} {ops : Array Oper} {Q : Exit → Act → World → Prop} {S : World → Prop} {listed : Array Bool} {fuel : Nat} {a : Act} {w : World}
theorem ah_one {i : Nat} (hr : Region.ready .any ops listed = [i]) (h : wpOp P ops Q i (fun a' w' => S w' ∧ wpAnyH P .any ops Q S fuel (listed.setIfInBounds i true) a' w') a w) : wpAnyH P .any ops Q S (fuel + 1) listed a w := by
  refine wpAnyH_all hr (by simp) ?_
  intro j hj
  obtain rfl : j = i := by simpa using hj
  exact h
/-- a call's struct result is stored into a new box: the call and the allocation in whichever order -/
theorem ah_box {c al st f T d1 d2 n : Nat} {oc : Oper} {vals : Array Value} {ta ts : TypeId} {pa ps : String} {aa ea : Array Edge} {cs z : Array Value}
    (hoc : ops[c]? = some oc) (hgc : oc.guard = none) (hdc : oc.dst = some d1) (hoa : ops[al]? = some ⟨some d2, .alloc T, ta, pa, aa, none⟩) (hos : ops[st]? = some ⟨none, .store T (.tmp d2) (.tmp d1), ts, ps, ea, none⟩)
    (L : Whole P T n) (hcs : cs.size = n) (h1 : cs.all (·.oneCell') = true) (hz : ∀ W : World, (Instr.alloc T true (.tuple #[])).run P W = .ok (.pointer (some ⟨W.heap.size, 0, none⟩)) (W.alloc (.cells z T))) (hzs : z.size = n)
    (hne : d1 ≠ d2) (hb1 : d1 < a.tmps.size) (hb2 : d2 < a.tmps.size)
    (r0 : Region.ready .any ops listed = [c, al]) (r1 : Region.ready .any ops (listed.setIfInBounds c true) = [al]) (r2 : Region.ready .any ops ((listed.setIfInBounds c true).setIfInBounds al true) = [st])
    (r3 : Region.ready .any ops (listed.setIfInBounds al true) = [c]) (r4 : Region.ready .any ops ((listed.setIfInBounds al true).setIfInBounds c true) = [st])
    (r5 : Region.ready .any ops (((listed.setIfInBounds c true).setIfInBounds al true).setIfInBounds st true) = []) (r6 : Region.ready .any ops (((listed.setIfInBounds al true).setIfInBounds c true).setIfInBounds st true) = [])
    (he : ∀ W : World, (execOp a.eval oc).run P W = .ok (.enter f vals) W) (he' : ∀ (W : World) (x : Value), (execOp (a.put (some d2) x).eval oc).run P W = .ok (.enter f vals) W)
    (hc : ∀ W : World, Ext w W → Calls P f vals W fun e w' => e = .returned (.agg cs) ∧ ∃ n : ExtOf W, w' = n.val) (hS : ∀ W : World, Ext w W → S W)
    (hk : ∀ (W : World) (g : Nat), Ext w W → w.heap.size ≤ g → Block W g cs → Q .normal ((a.put (some d1) (.agg cs)).put (some d2) (.pointer (some ⟨g, 0, none⟩))) W) :
    wpAnyH P .any ops Q S (fuel + 3) listed a w := by
  refine wpAnyH_all r0 (by simp) ?_
  intro j hj
  rcases (by simpa using hj : j = c ∨ j = al) with rfl | rfl
  · refine wpOp_call hoc hgc (he w) ?_
    refine (hc w (Ext.refl w)).mono ?_
    rintro e w' ⟨rfl, m, rfl⟩
    refine ⟨_, rfl, hS _ m.ext, ?_⟩
    rw [hdc]
    refine ah_one r1 (wpOp_alloc (b := m.val.heap.size) hoa rfl (hz _) ⟨hS _ (m.ext.alloc _), ?_⟩)
    refine ah_store (i := st) (b := m.val.heap.size) (cs := cs) L hos r2 (eval_put_same (by rw [size_put]; exact hb2)) (by rw [eval_put_other (Ne.symm hne)]; exact eval_put_same hb1) (Block.new _ _ _) hzs hcs h1 (hS _ ((m.ext.alloc _).setRow m.ext.size _)) ?_
    exact wpAnyH_done r5 (hk _ _ ((m.ext.alloc _).setRow m.ext.size _) m.ext.size inferInstance) _
  · refine wpOp_alloc (b := w.heap.size) hoa rfl (hz _) ⟨hS _ ((Ext.refl w).alloc _), ?_⟩
    refine ah_one r3 (wpOp_call hoc hgc (he' _ _) ?_)
    refine (hc _ ((Ext.refl w).alloc _)).mono ?_
    rintro e w' ⟨rfl, m, rfl⟩
    have hx : Ext w m.val := Ext.trans ((Ext.refl w).alloc _) m.ext
    refine ⟨_, rfl, hS _ hx, ?_⟩
    rw [hdc]
    refine ah_store (i := st) (b := w.heap.size) (cs := cs) L hos r4 (by rw [eval_put_other hne]; exact eval_put_same hb2) (eval_put_same (by rw [size_put]; exact hb1)) (inferInstance : Block m.val w.heap.size z) hzs hcs h1 (hS _ (hx.setRow (Nat.le_refl _) _)) ?_
    refine wpAnyH_done r6 ?_ _
    have := hk (m.val.setRow w.heap.size cs) w.heap.size (hx.setRow (Nat.le_refl _) _) (Nat.le_refl _) inferInstance
    rw [Act.put_comm a (.agg cs) (.pointer (some ⟨w.heap.size, 0, none⟩)) (fun d hd hh => hne (by injection hd with hd; injection hh with hh; rw [hd, hh]))] at this
    exact this
end
end Go.Proofs.YtaflcbdbacogeaaDoor
