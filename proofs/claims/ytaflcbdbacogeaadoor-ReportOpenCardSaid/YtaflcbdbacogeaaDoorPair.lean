/-
  A region that draws its order: operations that only read are taken first; then 'x, e := f(..)': a call, an allocation in whichever order, what the call hands back is taken apart, the first part is stored into the new box.
-/
import Derived.Test.YtaflcbdbacogeaaDoorStr2
set_option linter.unusedVariables false
set_option linter.unusedSimpArgs false
namespace Go.Proofs.YtaflcbdbacogeaaDoor
open Go.RowKit

/-- operations that hand back a value, whatever they do -/
def plainB : Op → Bool
  | .move _ | .assign _ | .load _ _ | .fieldAddr _ _ _ | .indexAddr _ _ _ | .extract _ _ | .binOp _ _ _ _ _ | .unOp _ _ _ | .build _ _ | .field _ _ _ | .index _ _ _ | .lookup _ _ _ _ => true
  | _ => false
section
variable {P : Program} {ops : Array Oper} {Q : Exit → Act → World → Prop} {S : World → Prop} {listed : Array Bool} {fuel : Nat} {a : Act} {w : World}
theorem quietUpon_bind {C : World → Prop} {s : Sem Value} {w : World} {v : Value} (h : Oper.quietUpon P C w v ((do pure (Next.value (← s)) : Sem Next).run P w)) : (do pure (Next.value (← s)) : Sem Next).run P w = .ok (.value v) w := by
  simp only [Sem.run_bind] at h ⊢
  cases hr : s.run P w with
  | ok x w' =>
    rw [hr] at h
    simp only [Result.andThen_ok, Sem.run_pure, Oper.quietUpon] at h ⊢
    obtain ⟨rfl, rfl⟩ := h
    rfl
  | halt x w' =>
    rw [hr] at h
    simp [Result.andThen, Oper.quietUpon] at h
theorem plain_yields {C : World → Prop} {o : Oper} {ev : Operand → Value} {w : World} {v : Value} (hp : plainB o.op = true) (h : Oper.quietUpon P C w v ((execOp ev o).run P w)) : (execOp ev o).run P w = .ok (.value v) w := by
  unfold execOp at h ⊢
  cases ho : o.op <;> rw [ho] at h hp <;> simp only [plainB, Bool.false_eq_true] at hp <;> first
    | exact quietUpon_bind h
    | (simp only [Sem.run_pure, Oper.quietUpon] at h ⊢; obtain ⟨_, rfl⟩ := h; rfl)
theorem putQ (hQ : ∀ c a (d : Tmp) v w, Q (.panic c) (a.put (some d) v) w → Q (.panic c) a w) (d : Option Tmp) (v : Value) : ∀ c a w, Q (.panic c) (a.put d v) w → Q (.panic c) a w := fun c a w h => by
  cases d with
  | none => exact h
  | some d => exact hQ c a d v w h
def takeB (ops : Array Oper) : List Nat → Array Bool → Bool
  | [], _ => true
  | i :: is, listed => (Region.ready .any ops listed).contains i && Region.free .any ops listed i && takeB ops is (listed.setIfInBounds i true)
def listAll : List Nat → Array Bool → Array Bool
  | [], listed => listed
  | i :: is, listed => listAll is (listed.setIfInBounds i true)
/-- the operations is, which only read, are taken first -/
theorem wpAnyH_quiet (hsel : Region.noSelect ops = true) (hQ : ∀ c a (d : Tmp) v w, Q (.panic c) (a.put (some d) v) w → Q (.panic c) a w) (hS : S w) : ∀ (is : List Nat) (l : List Oper) (listed : Array Bool) (a : Act), OpsAt ops is l → (l.all fun o => plainB o.op) = true → takeB ops is listed = true →
    wpQuiet P ops S (fun a' => wpAnyH P .any ops Q S fuel (listAll is listed) a' w) l a → wpAnyH P .any ops Q S (fuel + is.length) listed a w
  | [], [], listed, a, _, _, _, h => h
  | i :: is, o :: l, listed, a, ho, hp, hB, h => by
    obtain ⟨h0, hl⟩ := ho
    simp only [takeB, Bool.and_eq_true] at hB
    obtain ⟨⟨hr, hf⟩, hB'⟩ := hB
    simp only [List.all_cons, Bool.and_eq_true] at hp
    unfold wpQuiet at h
    by_cases hw : Region.wanted o (yielded ops a.tmps) = true
    · rw [if_pos hw] at h
      obtain ⟨v, hv, hk⟩ := h
      refine wpAnyH_take (v := v) (fuel := fuel + is.length) h0 hsel hf hr (putQ hQ _ _) (.inl ⟨hw, fun w' hw' => plain_yields hp.1 (hv w' hw')⟩) hS ?_
      exact wpAnyH_quiet hsel hQ hS is l _ _ hl hp.2 hB' hk
    · rw [if_neg hw] at h
      refine wpAnyH_take (v := undef) (fuel := fuel + is.length) h0 hsel hf hr (putQ hQ _ _) (.inr ⟨by simpa using hw, rfl⟩) hS ?_
      exact wpAnyH_quiet hsel hQ hS is l _ _ hl hp.2 hB' h
  | [], _ :: _, _, _, hl, _, _, _ => hl.elim
  | _ :: _, [], _, _, hl, _, _, _ => hl.elim
/-- the region: the operations of the mask are taken first -/
theorem region_quiet {id : Nat} {l : List Oper} (mh : List Bool) (n : Nat) (hm : P.follows .mixedOrders = true) (hlen : decide (mh.length ≤ l.length) = true) (hsel : Region.noSelect l.toArray = true) (hQ : ∀ c a (d : Tmp) v w, Q (.panic c) (a.put (some d) v) w → Q (.panic c) a w) (hS : S w.drew)
    (hp : ((part l mh).all fun o => plainB o.op) = true) (hB : takeB l.toArray (idx 0 mh) (Array.replicate l.toArray.size false) = true) (hf : l.toArray.size = n + (idx 0 mh).length)
    (hq : wpQuiet P l.toArray S (fun a' => wpAnyH P .any l.toArray Q S n (listAll (idx 0 mh) (Array.replicate l.toArray.size false)) a' w.drew) (part l mh) a) : (Code.region id l.toArray true).wp P Q a w := by
  refine region_held (S := S) hm ?_
  have e1 := opsAt_part l mh l 0 (by simpa using hlen) (fun j => by simp)
  have := wpAnyH_quiet (P := P) (Q := Q) (fuel := n) hsel hQ hS _ _ _ a e1 hp hB hq
  rw [← hf] at this
  exact this

def pairB (ops : Array Oper) (listed : Array Bool) (c mv e0 e1 al st asg : Nat) : Bool :=
  let r (l : Array Bool) (x : List Nat) : Bool := decide (Region.ready .any ops l = x)
  let s (l : Array Bool) (i : Nat) := l.setIfInBounds i true
  let tk (l : Array Bool) (i : Nat) : Bool := (Region.ready .any ops l).contains i && Region.free .any ops l i
  Region.noSelect ops && r listed [c, al] &&
  (let l := s listed c; tk l mv && tk (s l mv) e0 && tk (s (s l mv) e0) e1 && r (s (s (s l mv) e0) e1) [al] && r (s (s (s (s l mv) e0) e1) al) [st] && r (s (s (s (s (s l mv) e0) e1) al) st) [asg] && r (s (s (s (s (s (s l mv) e0) e1) al) st) asg) []) &&
  r (s listed al) [c] &&
  (let l := s (s listed al) c; tk l mv && tk (s l mv) e0 && tk (s (s l mv) e0) e1 && r (s (s (s l mv) e0) e1) [st] && r (s (s (s (s l mv) e0) e1) st) [asg] && r (s (s (s (s (s l mv) e0) e1) st) asg) [])
theorem put_comm' {a : Act} {d e : Nat} (h : d ≠ e) (u v : Value) : (a.put (some d) u).put (some e) v = (a.put (some e) v).put (some d) u :=
  by simp only [Act.put]; rw [Array.setIfInBounds_comm _ _ h]
theorem run_move {o : Oper} {x : Operand} (ho : o.op = .move x) (W : World) : (execOp a.eval o).run P W = .ok (.value (a.eval x)) W := by unfold execOp; rw [ho]; rfl
theorem run_assign {o : Oper} {x : Operand} (ho : o.op = .assign x) (W : World) : (execOp a.eval o).run P W = .ok (.value (a.eval x)) W := by unfold execOp; rw [ho]; rfl
theorem run_extract {o : Oper} {x : Operand} {k : Nat} {vs : Array Value} {v : Value} (ho : o.op = .extract x k) (hx : a.eval x = .tuple vs) (hv : vs[k]? = some v) (W : World) : (execOp a.eval o).run P W = .ok (.value v) W := by
  unfold execOp; rw [ho]; simp only [hx]; simp [Instr.extract, hv, go_sem]
set_option maxHeartbeats 1600000 in
/-- 'x, e := f(..)' -/
theorem ah_pair {c mv e0 e1 al st asg f T d1 dm d3 d4 d2 d5 n : Nat} {oc omv oe0 oe1 oas : Oper} {vals : Array Value} {ta ts : TypeId} {pa ps : String} {aa ea : Array Edge} {cs z : Array Value} {v1 : Value}
    (hoc : ops[c]? = some oc) (hgc : oc.guard = none) (hdc : oc.dst = some d1)
    (hmv : ops[mv]? = some omv) (hmv' : omv.dst = some dm ∧ omv.op = .move (.tmp d1) ∧ omv.guard = none)
    (hoe0 : ops[e0]? = some oe0) (hoe0' : oe0.dst = some d3 ∧ oe0.op = .extract (.tmp dm) 0 ∧ oe0.guard = none)
    (hoe1 : ops[e1]? = some oe1) (hoe1' : oe1.dst = some d4 ∧ oe1.op = .extract (.tmp dm) 1 ∧ oe1.guard = none)
    (hoa : ops[al]? = some ⟨some d2, .alloc T, ta, pa, aa, none⟩) (hos : ops[st]? = some ⟨none, .store T (.tmp d2) (.tmp d3), ts, ps, ea, none⟩)
    (hoas : ops[asg]? = some oas) (hoas' : oas.dst = some d5 ∧ oas.op = .assign (.tmp d4) ∧ oas.guard = none)
    (L : Whole P T n) (hcs : cs.size = n) (h1 : cs.all (·.oneCell') = true) (hz : ∀ W : World, (Instr.alloc T true (.tuple #[])).run P W = .ok (.pointer (some ⟨W.heap.size, 0, none⟩)) (W.alloc (.cells z T))) (hzs : z.size = n)
    (hd : noTwice [d1, dm, d3, d4, d2, d5] = true) (hb : [d1, dm, d3, d4, d2, d5].all (fun d => decide (d < a.tmps.size)) = true) (hB : pairB ops listed c mv e0 e1 al st asg = true)
    (hQ : ∀ c a (d : Tmp) v w, Q (.panic c) (a.put (some d) v) w → Q (.panic c) a w)
    (he : ∀ W : World, (execOp a.eval oc).run P W = .ok (.enter f vals) W) (he' : ∀ (W : World) (x : Value), (execOp (a.put (some d2) x).eval oc).run P W = .ok (.enter f vals) W)
    (hc : ∀ W : World, Ext w W → Calls P f vals W fun e w' => e = .returned (.tuple #[.agg cs, v1]) ∧ ∃ n : ExtOf W, w' = n.val) (hS : ∀ W : World, Ext w W → S W)
    (hk : ∀ (W : World) (g : Nat), Ext w W → w.heap.size ≤ g → Block W g cs → Q .normal ((((((a.put (some d1) (.tuple #[.agg cs, v1])).put (some dm) (.tuple #[.agg cs, v1])).put (some d3) (.agg cs)).put (some d4) v1).put (some d2) (.pointer (some ⟨g, 0, none⟩))).put (some d5) v1) W) :
    wpAnyH P .any ops Q S (fuel + 7) listed a w := by
  have hnd := noTwice_nodup hd
  simp only [List.nodup_cons, List.mem_cons, List.not_mem_nil, or_false, not_or, not_false_eq_true, List.nodup_nil, and_true] at hnd
  obtain ⟨⟨n1, n2, n3, n4, n5⟩, ⟨m1, m2, m3, m4⟩, ⟨k1, k2, k3⟩, ⟨j1, j2⟩, i1⟩ := hnd
  simp only [List.all_cons, List.all_nil, Bool.and_eq_true, decide_eq_true_eq, and_true] at hb
  obtain ⟨b1, b2, b3, b4, b5, b6⟩ := hb
  simp only [pairB, Bool.and_eq_true, decide_eq_true_eq] at hB
  obtain ⟨⟨⟨⟨hsel, r0⟩, ⟨⟨⟨⟨⟨⟨t1, t2⟩, t3⟩, r1⟩, r2⟩, r3⟩, r4⟩⟩, r5⟩, ⟨⟨⟨⟨⟨s1, s2⟩, s3⟩, r6⟩, r7⟩, r8⟩⟩ := hB
  have hS0 := hS w (Ext.refl w)
  obtain ⟨dmv, omv, gmv⟩ := hmv'
  obtain ⟨de0, oe0', ge0⟩ := hoe0'
  obtain ⟨de1, oe1', ge1⟩ := hoe1'
  obtain ⟨das, oas', gas⟩ := hoas'
  refine wpAnyH_all r0 (by simp) ?_
  intro j hj
  rcases (by simpa using hj : j = c ∨ j = al) with rfl | rfl
  · refine wpOp_call hoc hgc (he w) ?_
    refine (hc w (Ext.refl w)).mono ?_
    rintro e w' ⟨rfl, m, rfl⟩
    refine ⟨_, rfl, hS _ m.ext, ?_⟩
    rw [hdc]
    refine wpAnyH_take (v := .tuple #[.agg cs, v1]) hmv hsel t1.2 t1.1 (putQ hQ _ _) (.inl ⟨wanted_none gmv, fun W _ => by rw [run_move omv, eval_put_same b1]⟩) (hS _ m.ext) ?_
    rw [dmv]
    refine wpAnyH_take (v := .agg cs) hoe0 hsel t2.2 t2.1 (putQ hQ _ _) (.inl ⟨wanted_none ge0, fun W _ => run_extract oe0' (eval_put_same (by rw [size_put]; exact b2)) rfl W⟩) (hS _ m.ext) ?_
    rw [de0]
    refine wpAnyH_take (v := v1) hoe1 hsel t3.2 t3.1 (putQ hQ _ _) (.inl ⟨wanted_none ge1, fun W _ => run_extract oe1' (by rw [eval_put_other (Ne.symm m1)]; exact eval_put_same (by rw [size_put]; exact b2)) rfl W⟩) (hS _ m.ext) ?_
    rw [de1]
    refine ah_one r1 (wpOp_alloc (b := m.val.heap.size) hoa rfl (hz _) ⟨hS _ (m.ext.alloc _), ?_⟩)
    refine ah_store (i := st) (b := m.val.heap.size) (cs := cs) L hos r2 (eval_put_same (by simp only [size_put]; exact b5)) (by rw [eval_put_other (Ne.symm k2), eval_put_other (Ne.symm k1)]; exact eval_put_same (by simp only [size_put]; exact b3)) (Block.new _ _ _) hzs hcs h1 (hS _ ((m.ext.alloc _).setRow m.ext.size _)) ?_
    refine ah_one r3 ?_
    refine YieldsIf.wpOp (S := S) (v := v1) hoas (.inl ⟨wanted_none gas, fun W _ => by rw [run_assign oas']; rw [show ∀ (b : Act) x, (b.put none x) = b from fun _ _ => rfl]; rw [eval_put_other (Ne.symm j1), eval_put_same (by simp only [size_put]; exact b4)]⟩) (hS _ ((m.ext.alloc _).setRow m.ext.size _)) ?_
    refine ⟨hS _ ((m.ext.alloc _).setRow m.ext.size _), ?_⟩
    rw [das]
    exact wpAnyH_done r4 (hk _ _ ((m.ext.alloc _).setRow m.ext.size _) m.ext.size inferInstance) _
  · refine wpOp_alloc (b := w.heap.size) hoa rfl (hz _) ⟨hS _ ((Ext.refl w).alloc _), ?_⟩
    refine ah_one r5 (wpOp_call hoc hgc (he' _ _) ?_)
    refine (hc _ ((Ext.refl w).alloc _)).mono ?_
    rintro e w' ⟨rfl, m, rfl⟩
    have hx : Ext w m.val := Ext.trans ((Ext.refl w).alloc _) m.ext
    refine ⟨_, rfl, hS _ hx, ?_⟩
    rw [hdc]
    refine wpAnyH_take (v := .tuple #[.agg cs, v1]) hmv hsel s1.2 s1.1 (putQ hQ _ _) (.inl ⟨wanted_none gmv, fun W _ => by rw [run_move omv, eval_put_same (by rw [size_put]; exact b1)]⟩) (hS _ hx) ?_
    rw [dmv]
    refine wpAnyH_take (v := .agg cs) hoe0 hsel s2.2 s2.1 (putQ hQ _ _) (.inl ⟨wanted_none ge0, fun W _ => run_extract oe0' (eval_put_same (by simp only [size_put]; exact b2)) rfl W⟩) (hS _ hx) ?_
    rw [de0]
    refine wpAnyH_take (v := v1) hoe1 hsel s3.2 s3.1 (putQ hQ _ _) (.inl ⟨wanted_none ge1, fun W _ => run_extract oe1' (by rw [eval_put_other (Ne.symm m1)]; exact eval_put_same (by simp only [size_put]; exact b2)) rfl W⟩) (hS _ hx) ?_
    rw [de1]
    refine ah_store (i := st) (b := w.heap.size) (cs := cs) L hos r6 (by rw [eval_put_other j1, eval_put_other k2, eval_put_other m3, eval_put_other n4]; exact eval_put_same b5) (by rw [eval_put_other (Ne.symm k1)]; exact eval_put_same (by simp only [size_put]; exact b3)) (inferInstance : Block m.val w.heap.size z) hzs hcs h1 (hS _ (hx.setRow (Nat.le_refl _) _)) ?_
    refine ah_one r7 ?_
    refine YieldsIf.wpOp (S := S) (v := v1) hoas (.inl ⟨wanted_none gas, fun W _ => by rw [run_assign oas']; rw [show ∀ (b : Act) x, (b.put none x) = b from fun _ _ => rfl]; rw [eval_put_same (by simp only [size_put]; exact b4)]⟩) (hS _ (hx.setRow (Nat.le_refl _) _)) ?_
    refine ⟨hS _ (hx.setRow (Nat.le_refl _) _), ?_⟩
    rw [das]
    refine wpAnyH_done r8 ?_ _
    have := hk (m.val.setRow w.heap.size cs) w.heap.size (hx.setRow (Nat.le_refl _) _) (Nat.le_refl _) inferInstance
    rw [put_comm' j1, put_comm' k2, put_comm' m3, put_comm' n4] at this
    exact this
end
end Go.Proofs.YtaflcbdbacogeaaDoor
