/-
  'a, b := x, y' of structs: two new boxes in whichever order, then two stores.
-/
import Derived.Test.YtaflcbdbacogeaaDoorPair
import Derived.Test.YtaflcbdbacogeaaDoorBase6
set_option linter.unusedVariables false
set_option linter.unusedSimpArgs false
namespace Go.Proofs.YtaflcbdbacogeaaDoor
open Go.RowKit

section
variable {P : Program} {ops : Array Oper} {Q : Exit → Act → World → Prop} {S : World → Prop} {listed : Array Bool} {fuel : Nat} {a : Act} {w : World}
def twoB (ops : Array Oper) (listed : Array Bool) (a1 a2 s1 s2 : Nat) : Bool :=
  let r (l : Array Bool) (x : List Nat) : Bool := decide (Region.ready .any ops l = x)
  let s (l : Array Bool) (i : Nat) := l.setIfInBounds i true
  r listed [a1, a2] && r (s listed a1) [a2] && r (s listed a2) [a1] &&
  r (s (s listed a1) a2) [s1] && r (s (s (s listed a1) a2) s1) [s2] && r (s (s (s (s listed a1) a2) s1) s2) [] &&
  r (s (s listed a2) a1) [s1] && r (s (s (s listed a2) a1) s1) [s2] && r (s (s (s (s listed a2) a1) s1) s2) []
theorem put_none (b : Act) (x : Value) : b.put none x = b := rfl
theorem ah_two {a1 a2 s1 s2 T d1 d2 x1 x2 n : Nat} {t1 t2 t3 t4 : TypeId} {p1 p2 p3 p4 : String} {e1 e2 e3 e4 : Array Edge} {c1 c2 z : Array Value}
    (ho1 : ops[a1]? = some ⟨some d1, .alloc T, t1, p1, e1, none⟩) (ho2 : ops[a2]? = some ⟨some d2, .alloc T, t2, p2, e2, none⟩)
    (hs1 : ops[s1]? = some ⟨none, .store T (.tmp d1) (.tmp x1), t3, p3, e3, none⟩) (hs2 : ops[s2]? = some ⟨none, .store T (.tmp d2) (.tmp x2), t4, p4, e4, none⟩)
    (L : Whole P T n) (z1 : c1.size = n) (z2 : c2.size = n) (h1 : c1.all (·.oneCell') = true) (h2 : c2.all (·.oneCell') = true)
    (hz : ∀ W : World, (Instr.alloc T true (.tuple #[])).run P W = .ok (.pointer (some ⟨W.heap.size, 0, none⟩)) (W.alloc (.cells z T))) (hzs : z.size = n)
    (hx1 : a.eval (.tmp x1) = .agg c1) (hx2 : a.eval (.tmp x2) = .agg c2) (hd : noTwice [d1, d2, x1, x2] = true) (hb : [d1, d2].all (fun d => decide (d < a.tmps.size)) = true) (hB : twoB ops listed a1 a2 s1 s2 = true)
    (hS : ∀ W : World, Ext w W → S W)
    (hk : ∀ (W : World) (g1 g2 : Nat), Ext w W → w.heap.size ≤ g1 → w.heap.size ≤ g2 → Apart g1 g2 → Apart g2 g1 → Block W g1 c1 → Block W g2 c2 → Q .normal ((a.put (some d1) (.pointer (some ⟨g1, 0, none⟩))).put (some d2) (.pointer (some ⟨g2, 0, none⟩))) W) :
    wpAnyH P .any ops Q S (fuel + 4) listed a w := by
  have hnd := noTwice_nodup hd
  simp only [List.nodup_cons, List.mem_cons, List.not_mem_nil, or_false, not_or, not_false_eq_true, List.nodup_nil, and_true] at hnd
  obtain ⟨⟨n1, n2, n3⟩, ⟨m1, m2⟩, k1⟩ := hnd
  simp only [List.all_cons, List.all_nil, Bool.and_eq_true, decide_eq_true_eq, and_true] at hb
  obtain ⟨b1, b2⟩ := hb
  simp only [twoB, Bool.and_eq_true, decide_eq_true_eq] at hB
  obtain ⟨⟨⟨⟨⟨⟨⟨⟨r0, r1⟩, r2⟩, r3⟩, r4⟩, r5⟩, r6⟩, r7⟩, r8⟩ := hB
  have hA : Apart w.heap.size (w.heap.size + 1) := ⟨by omega⟩
  have hA' : Apart (w.heap.size + 1) w.heap.size := ⟨by omega⟩
  have hx : Ext w ((w.alloc (.cells z T)).alloc (.cells z T)) := ((Ext.refl w).alloc _).alloc _
  refine wpAnyH_all r0 (by simp) ?_
  intro j hj
  rcases (by simpa using hj : j = a1 ∨ j = a2) with rfl | rfl
  · refine wpOp_alloc (b := w.heap.size) ho1 rfl (hz _) ⟨hS _ ((Ext.refl w).alloc _), ?_⟩
    refine ah_one r1 (wpOp_alloc (b := w.heap.size + 1) ho2 (by simp) (hz _) ⟨hS _ hx, ?_⟩)
    refine ah_store (i := s1) (b := w.heap.size) (cs := c1) (old := z) L hs1 r3 (by rw [eval_put_other (Ne.symm n1)]; exact eval_put_same b1) (by rw [eval_put_other m1, eval_put_other n2]; exact hx1) inferInstance hzs z1 h1 (hS _ (hx.setRow (Nat.le_refl _) _)) ?_
    refine ah_store (i := s2) (b := w.heap.size + 1) (cs := c2) (old := z) L hs2 r4 (by rw [put_none]; exact eval_put_same (by simp only [size_put]; exact b2)) (by rw [put_none, eval_put_other m2, eval_put_other n3]; exact hx2) inferInstance hzs z2 h2 (hS _ ((hx.setRow (Nat.le_refl _) _).setRow (Nat.le_succ _) _)) ?_
    exact wpAnyH_done r5 (hk _ w.heap.size (w.heap.size + 1) ((hx.setRow (Nat.le_refl _) _).setRow (Nat.le_succ _) _) (Nat.le_refl _) (Nat.le_succ _) hA hA' inferInstance inferInstance) _
  · refine wpOp_alloc (b := w.heap.size) ho2 rfl (hz _) ⟨hS _ ((Ext.refl w).alloc _), ?_⟩
    refine ah_one r2 (wpOp_alloc (b := w.heap.size + 1) ho1 (by simp) (hz _) ⟨hS _ hx, ?_⟩)
    refine ah_store (i := s1) (b := w.heap.size + 1) (cs := c1) (old := z) L hs1 r6 (eval_put_same (by simp only [size_put]; exact b1)) (by rw [eval_put_other n2, eval_put_other m1]; exact hx1) inferInstance hzs z1 h1 (hS _ (hx.setRow (Nat.le_succ _) _)) ?_
    refine ah_store (i := s2) (b := w.heap.size) (cs := c2) (old := z) L hs2 r7 (by rw [put_none, eval_put_other n1]; exact eval_put_same b2) (by rw [put_none, eval_put_other n3, eval_put_other m2]; exact hx2) inferInstance hzs z2 h2 (hS _ ((hx.setRow (Nat.le_succ _) _).setRow (Nat.le_refl _) _)) ?_
    refine wpAnyH_done r8 ?_ _
    have := hk _ (w.heap.size + 1) w.heap.size ((hx.setRow (Nat.le_succ _) c1).setRow (Nat.le_refl _) c2) (Nat.le_succ _) (Nat.le_refl _) hA' hA inferInstance inferInstance
    rw [put_comm' n1] at this
    exact this
end
end Go.Proofs.YtaflcbdbacogeaaDoor
