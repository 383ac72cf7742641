/-
  More program-independent ground: structs in the midst of a block, struct results.
-/
import Derived.Test.YtaflcbdbacogeaaDoorMaker
import Derived.Test.YtaflcbdbacogeaaDoorOpen
import Derived.Deep.MidRow
set_option linter.unusedVariables false
set_option linter.unusedSimpArgs false
namespace Go.Proofs.YtaflcbdbacogeaaDoor
open Go.RowKit

section
variable {P : Program} {ops : Array Oper} {rest : List Oper} {a : Act} {x y : Operand} {T b off : Nat} {cs : List Value} {dst : Option Tmp} {ty : TypeId} {pos : String} {aft : Array Edge} {g : Option (Nat × Bool)}
/-- type T is loaded whole, out of the midst of a block -/
structure Mid (P : Program) (T n : Nat) : Prop where
  load : ∀ (w : World) (b o : Nat) (cs : List Value), cs.length = n → w.rangeAt b o cs → (loadVar T ⟨b, o, none⟩).run P w = .ok (.agg cs.toArray) w
theorem mid_of {T n : Nat} {d : TypeDesc} (hu : P.underlying T = some d) (hd : d.isRow = true) (hi : (P.info? T).map (·.size) = some n) : Mid P T n := ⟨fun w b o cs hl hc => run_loadVar_mid w b o T cs d hc hu hd (by rw [hl]; exact hi)⟩
theorem Ext.range {w w' : World} (h : Ext w w') {b o : Nat} {cs : List Value} (hc : w.rangeAt b o cs) : w'.rangeAt b o cs := fun j v hj => h.cell (hc j v hj)
theorem q_loadM {n : Nat} {w : World} {Q : Act → Prop} (L : Mid P T n) (hc : w.rangeAt b off cs) (hsz : cs.length = n) (hw : Region.wanted ⟨dst, .load T x, ty, pos, aft, g⟩ (yielded ops a.tmps) = true) (hx : a.eval x = .pointer (some ⟨b, off, none⟩))
    (hk : wpQuiet P ops (fun w' => ∃ n : ExtOf w, w' = n.val) Q rest (a.put dst (.agg cs.toArray))) : wpQuiet P ops (fun w' => ∃ n : ExtOf w, w' = n.val) Q (⟨dst, .load T x, ty, pos, aft, g⟩ :: rest) a := by
  refine wpQuiet_step fun K hK => ?_
  rw [if_pos hw]
  refine ⟨.agg cs.toArray, ?_, hK _ hk⟩
  rintro w' ⟨m, rfl⟩
  unfold Oper.quietAt execOp
  simp only [hx, Instr.loadAt, Instr.sureAddr, Sem.run_bind, Sem.run_pure, Result.andThen_ok, L.load m.val b off cs hsz (m.ext.range hc)]
  exact ⟨rfl, rfl⟩
theorem q_loadMS {n : Nat} {w : World} {S : World → Prop} {Q : Act → Prop} (L : Mid P T n) (hc : w.rangeAt b off cs) (hsz : cs.length = n) (hw : Region.wanted ⟨dst, .load T x, ty, pos, aft, g⟩ (yielded ops a.tmps) = true) (hx : a.eval x = .pointer (some ⟨b, off, none⟩))
    (hk : wpQuiet P ops (fun w' => ∃ n : ExtS w S, w' = n.val) Q rest (a.put dst (.agg cs.toArray))) : wpQuiet P ops (fun w' => ∃ n : ExtS w S, w' = n.val) Q (⟨dst, .load T x, ty, pos, aft, g⟩ :: rest) a := by
  refine wpQuiet_step fun K hK => ?_
  rw [if_pos hw]
  refine ⟨.agg cs.toArray, ?_, hK _ hk⟩
  rintro w' ⟨m, rfl⟩
  unfold Oper.quietAt execOp
  simp only [hx, Instr.loadAt, Instr.sureAddr, Sem.run_bind, Sem.run_pure, Result.andThen_ok, L.load m.val b off cs hsz (m.ext.range hc)]
  exact ⟨rfl, rfl⟩
theorem q_loadS {n : Nat} {w : World} {S : World → Prop} {Q : Act → Prop} {cs : Array Value} (L : Whole P T n) (hw : Region.wanted ⟨dst, .load T x, ty, pos, aft, g⟩ (yielded ops a.tmps) = true) (hx : a.eval x = .pointer (some ⟨b, 0, none⟩))
    (hc : Block w b cs) (hsz : cs.size = n) (hk : wpQuiet P ops (fun w' => ∃ n : ExtS w S, w' = n.val) Q rest (a.put dst (.agg cs))) : wpQuiet P ops (fun w' => ∃ n : ExtS w S, w' = n.val) Q (⟨dst, .load T x, ty, pos, aft, g⟩ :: rest) a := by
  refine wpQuiet_step fun K hK => ?_
  rw [if_pos hw]
  refine ⟨.agg cs, ?_, hK _ hk⟩
  rintro w' ⟨m, rfl⟩
  unfold Oper.quietAt
  rw [run_load_op (o := ⟨dst, .load T x, ty, pos, aft, g⟩) L rfl hx (inferInstance : Block m.val b cs) hsz]
  exact ⟨rfl, rfl⟩
/-- a new block that holds cs: of a slice of one element -/
def MadeS (w : World) (cs : Array Value) (v : Value) (W : World) : Prop := ∃ g, v = .slice (some ⟨g, 0, none⟩) 1 1 ∧ w.heap.size ≤ g ∧ Block W g cs
theorem MadeS.keep {w : World} {cs : Array Value} : ∀ v W W', MadeS w cs v W → Ext W W' → MadeS w cs v W' := fun v W W' ⟨g, h1, h2, h3⟩ hx => ⟨g, h1, h2, h3.ext hx⟩
theorem MadeS.new {w W : World} {cs : Array Value} {T : TypeId} (hx : Ext w W) : MadeS w cs (.slice (some ⟨W.heap.size, 0, none⟩) 1 1) (W.alloc (.cells cs T)) := ⟨W.heap.size, rfl, hx.size, Block.new _ _ _⟩
/-- a new block that holds cs -/
def MadeP (w : World) (cs : Array Value) (v : Value) (W : World) : Prop := ∃ g, v = .pointer (some ⟨g, 0, none⟩) ∧ w.heap.size ≤ g ∧ Block W g cs
theorem MadeP.keep {w : World} {cs : Array Value} : ∀ v W W', MadeP w cs v W → Ext W W' → MadeP w cs v W' := fun v W W' ⟨g, h1, h2, h3⟩ hx => ⟨g, h1, h2, h3.ext hx⟩
theorem MadeP.new {w W : World} {cs : Array Value} {T : TypeId} (hx : Ext w W) : MadeP w cs (.pointer (some ⟨W.heap.size, 0, none⟩)) (W.alloc (.cells cs T)) := ⟨W.heap.size, rfl, hx.size, Block.new _ _ _⟩
theorem wl_loadM {n : Nat} {w : World} {Q : Exit → Act → World → Prop} (L : Mid P T n) (hc : w.rangeAt b off cs) (hsz : cs.length = n) (hw : Region.wanted ⟨dst, .load T x, ty, pos, aft, g⟩ (yielded ops a.tmps) = true) (hx : a.eval x = .pointer (some ⟨b, off, none⟩))
    (hk : wpList P ops Q rest (a.put dst (.agg cs.toArray)) w) : wpList P ops Q (⟨dst, .load T x, ty, pos, aft, g⟩ :: rest) a w := by
  refine wpList_step fun K hK => ?_
  rw [if_pos hw]
  unfold Oper.wp execOp
  simp only [hx, Instr.loadAt, Instr.sureAddr, Sem.run_bind, Sem.run_pure, Result.andThen_ok, L.load w b off cs hsz hc]
  exact hK _ _ hk
end
theorem SliceOf.elemK {α : Type} {enc : α → List Value} {k : Nat} {w : World} {p : Option Addr} {n cap : Nat} {l : List α} (h : SliceOf enc k w (.slice p n cap) l) {i : Nat} (hi : i < l.length) :
    ∃ b off, p = some ⟨b, off, none⟩ ∧ w.rangeAt b (off + i * k) (enc l[i]) := by
  obtain ⟨p', cap', e, h1, h2, h3, h4⟩ := h
  simp only [Value.slice.injEq] at e
  obtain ⟨rfl, _, _⟩ := e
  obtain ⟨b, off, hp, hc⟩ := h4 i l[i] (List.getElem?_eq_getElem hi)
  exact ⟨b, off, hp, fun j u hj => by rw [Nat.add_assoc]; exact hc j u hj⟩
theorem SliceOf.form {α : Type} {enc : α → List Value} {k : Nat} {w : World} {v : Value} {l : List α} (h : SliceOf enc k w v l) : ∃ p cap, v = .slice p l.length cap ∧ l.length ≤ cap ∧ cap ≤ maxLen ∧ (p = none → cap = 0) := by
  obtain ⟨p, cap, e, h1, h2, h3, _⟩ := h
  exact ⟨p, cap, e, h1, h2, h3⟩
theorem SliceOf.kept {α : Type} {enc : α → List Value} {k : Nat} {w w' : World} {v : Value} {l : List α} (h : SliceOf enc k w v l) (hx : Ext w w') : SliceOf enc k w' v l := SliceOf.ext h hx
section
variable {P : Program} {fn : Func} {p0 p1 : Tmp} {t0 t1 n0 n1 b0 b1 : Nat} {tmps : Array Value} {w : World} {c0 c1 : Array Value}
theorem results_c1 (h : fn.results = #[.cell p0 t0]) (L0 : Whole P t0 n0) (h0 : tmps.getD p0 undef = .pointer (some ⟨b0, 0, none⟩)) (B0 : Block w b0 c0) (s0 : c0.size = n0) : (results fn tmps).run P w = .ok (.agg c0) w := by
  have g0 : tmps[p0]?.getD undef = .pointer (some ⟨b0, 0, none⟩) := by simpa using h0
  simp [results, h, g0, asAddr, L0.load w b0 c0 B0 s0]
theorem results_c2 (h : fn.results = #[.cell p0 t0, .cell p1 t1]) (L0 : Whole P t0 n0) (L1 : Whole P t1 n1) (h0 : tmps.getD p0 undef = .pointer (some ⟨b0, 0, none⟩)) (h1 : tmps.getD p1 undef = .pointer (some ⟨b1, 0, none⟩))
    (B0 : Block w b0 c0) (B1 : Block w b1 c1) (s0 : c0.size = n0) (s1 : c1.size = n1) : (results fn tmps).run P w = .ok (.tuple #[.agg c0, .agg c1]) w := by
  have g0 : tmps[p0]?.getD undef = .pointer (some ⟨b0, 0, none⟩) := by simpa using h0
  have g1 : tmps[p1]?.getD undef = .pointer (some ⟨b1, 0, none⟩) := by simpa using h1
  simp [results, h, g0, g1, asAddr, L0.load w b0 c0 B0 s0, L1.load w b1 c1 B1 s1]
theorem results_cs {v : Value} (h : fn.results = #[.cell p0 t0, .tmp p1]) (L0 : Whole P t0 n0) (h0 : tmps.getD p0 undef = .pointer (some ⟨b0, 0, none⟩)) (h1 : tmps.getD p1 undef = v)
    (B0 : Block w b0 c0) (s0 : c0.size = n0) : (results fn tmps).run P w = .ok (.tuple #[.agg c0, v]) w := by
  have g0 : tmps[p0]?.getD undef = .pointer (some ⟨b0, 0, none⟩) := by simpa using h0
  have g1 : tmps[p1]?.getD undef = v := by simpa using h1
  simp [results, h, g0, g1, asAddr, L0.load w b0 c0 B0 s0]
end
theorem ret_int {k : IntKind} {a b : Int} (h : a = b) : Ending.returned (.int k a) = .returned (.int k b) := by rw [h]
theorem ret_bool {a b : Bool} (h : a = b) : Ending.returned (.bool a) = .returned (.bool b) := by rw [h]
end Go.Proofs.YtaflcbdbacogeaaDoor
