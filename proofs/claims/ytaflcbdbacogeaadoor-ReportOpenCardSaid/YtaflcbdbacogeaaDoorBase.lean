/-
  Program-independent ground for the claims of this seat: worlds that extend a world, a region whose operations only read or call functions that leave old memory alone, the last step of a law, how the cells of an argument read.
-/
import Derived.WalkKit
import Derived.WalkSpells
import Derived.WalkLawsBesides
import Derived.Deep.QuietTactic
import Derived.BigQuiet
import Derived.Handy
import Derived.ProofKit
import Derived.OpenShut
import Derived.Carry
import Derived.Lib.Hide
import Derived.OrdersHeld
set_option linter.unusedVariables false
set_option linter.unusedSimpArgs false
namespace Go.Proofs.YtaflcbdbacogeaaDoor
open Go.RowKit Go.WideShapes Go.ChangeShapes

/-- w' is w with new blocks: nothing of w has changed. -/
def Ext (w w' : World) : Prop := Below w.heap.size w w'
theorem Ext.refl (w : World) : Ext w w := Below.refl _ _
theorem Ext.trans {a b c : World} (h : Ext a b) (k : Ext b c) : Ext a c := Below.trans h (Below.mono k h.size)
theorem Ext.drew {a b : World} (h : Ext a b) : Ext a b.drew := Below.drew h
theorem Ext.alloc {a b : World} (h : Ext a b) (o : Obj) : Ext a (b.alloc o) := Below.alloc h h.size o
theorem Ext.setCell {a b : World} (h : Ext a b) {p : Addr} (hp : a.heap.size ≤ p.block) (v : Value) : Ext a (b.setCell p v) := Below.setCell h hp v

/-- the worlds that extend w -/
def ExtOf (w : World) : Type := { w' : World // Ext w w' }
def ExtOf.val {w : World} (n : ExtOf w) : World := Subtype.val n
theorem ExtOf.ext {w : World} (n : ExtOf w) : Ext w n.val := n.2
instance {w : World} : Nonempty (ExtOf w) := ⟨⟨w, Ext.refl w⟩⟩
theorem ExtOf.of {w w' : World} (h : Ext w w') : ∃ n : ExtOf w, w' = n.val := ⟨⟨w', h⟩, rfl⟩

/-- block b stands in w -/
class Old (b : Nat) (w : World) : Prop where
  lt : b < w.heap.size
theorem ExtOf.size {w : World} (n : ExtOf w) : w.heap.size ≤ n.val.heap.size := n.ext.size
instance {w : World} {b : Nat} [h : Old b w] (n : ExtOf w) : Old b n.val := ⟨Nat.lt_of_lt_of_le h.lt n.size⟩
instance {w : World} {b : Nat} [h : Old b w] (o : Obj) : Old b (w.alloc o) := ⟨by have := h.lt; simp; omega⟩
instance {w : World} {b : Nat} [h : Old b w] : Old b w.drew := ⟨h.lt⟩
instance {w : World} {b : Nat} [h : Old b w] (a : Addr) (v : Value) : Old b (w.setCell a v) := ⟨by have := h.lt; simpa [World.setCell] using this⟩
instance (w : World) (o : Obj) : Old w.heap.size (w.alloc o) := ⟨by simp⟩
instance (w : World) (o p : Obj) : Old (w.heap.size + 1) ((w.alloc o).alloc p) := ⟨by simp⟩
instance (w : World) (o p q : Obj) : Old (w.heap.size + 2) (((w.alloc o).alloc p).alloc q) := ⟨by simp⟩
instance (w : World) (o p q r : Obj) : Old (w.heap.size + 3) ((((w.alloc o).alloc p).alloc q).alloc r) := ⟨by simp⟩
instance (w : World) (o p q r s : Obj) : Old (w.heap.size + 4) (((((w.alloc o).alloc p).alloc q).alloc r).alloc s) := ⟨by simp⟩
instance (w : World) (o p q r s t : Obj) : Old (w.heap.size + 5) ((((((w.alloc o).alloc p).alloc q).alloc r).alloc s).alloc t) := ⟨by simp⟩
instance (w : World) (o p q : Obj) : Old (w.heap.size + 1 + 1) (((w.alloc o).alloc p).alloc q) := ⟨by simp⟩
instance (w : World) (o p q r : Obj) : Old (w.heap.size + 1 + 1 + 1) ((((w.alloc o).alloc p).alloc q).alloc r) := ⟨by simp⟩
theorem ExtOf.cell {w : World} (n : ExtOf w) (b o : Nat) [h : Old b w] : n.val.cell? ⟨b, o, none⟩ = w.cell? ⟨b, o, none⟩ := Below.cell (p := ⟨b, o, none⟩) n.ext h.lt
theorem ExtOf.frozen {w : World} (n : ExtOf w) (b o : Nat) [h : Old b w] : n.val.frozen? ⟨b, o, none⟩ = w.frozen? ⟨b, o, none⟩ := Below.frozen (p := ⟨b, o, none⟩) n.ext h.lt

/-- block b of w holds the cells cs, free to be written -/
class Block (w : World) (b : Nat) (cs : outParam (Array Value)) : Prop where
  get : ∃ t, w.heap[b]? = some (.cells cs t (0, 0))
theorem Block.lt {w : World} {b : Nat} {cs : Array Value} (h : Block w b cs) : b < w.heap.size := by
  obtain ⟨t, h⟩ := h.get
  exact (Array.getElem?_eq_some_iff.1 h).1
theorem Block.new (w : World) (cs : Array Value) (t : TypeId) : Block (w.alloc (.cells cs t)) w.heap.size cs := ⟨t, (MapKept.heap_alloc w _).1⟩
instance (w : World) (cs : Array Value) (t : TypeId) : Block (w.alloc (.cells cs t)) w.heap.size cs := Block.new w cs t
instance (w : World) (o : Obj) (cs : Array Value) (t : TypeId) : Block ((w.alloc o).alloc (.cells cs t)) (w.heap.size + 1) cs := by
  have e : w.heap.size + 1 = (w.alloc o).heap.size := by simp
  rw [e]; exact Block.new _ _ _
instance (w : World) (o p : Obj) (cs : Array Value) (t : TypeId) : Block (((w.alloc o).alloc p).alloc (.cells cs t)) (w.heap.size + 2) cs := by
  have e : w.heap.size + 2 = ((w.alloc o).alloc p).heap.size := by simp
  rw [e]; exact Block.new _ _ _
instance (w : World) (o p q : Obj) (cs : Array Value) (t : TypeId) : Block ((((w.alloc o).alloc p).alloc q).alloc (.cells cs t)) (w.heap.size + 3) cs := by
  have e : w.heap.size + 3 = (((w.alloc o).alloc p).alloc q).heap.size := by simp
  rw [e]; exact Block.new _ _ _
instance (w : World) (o p : Obj) (cs : Array Value) (t : TypeId) : Block (((w.alloc o).alloc p).alloc (.cells cs t)) (w.heap.size + 1 + 1) cs := by
  have e : w.heap.size + 1 + 1 = ((w.alloc o).alloc p).heap.size := by simp
  rw [e]; exact Block.new _ _ _
instance (w : World) (o p q : Obj) (cs : Array Value) (t : TypeId) : Block ((((w.alloc o).alloc p).alloc q).alloc (.cells cs t)) (w.heap.size + 1 + 1 + 1) cs := by
  have e : w.heap.size + 1 + 1 + 1 = (((w.alloc o).alloc p).alloc q).heap.size := by simp
  rw [e]; exact Block.new _ _ _
instance {w : World} {b : Nat} {cs : Array Value} [h : Block w b cs] (o : Obj) : Block (w.alloc o) b cs := ⟨by obtain ⟨t, e⟩ := h.get; exact ⟨t, by rw [Below.heap_alloc _ _ _ h.lt]; exact e⟩⟩
instance {w : World} {b : Nat} {cs : Array Value} [h : Block w b cs] : Block w.drew b cs := ⟨h.get⟩
instance {w : World} {b : Nat} {cs : Array Value} [h : Block w b cs] (n : ExtOf w) : Block n.val b cs := ⟨by obtain ⟨t, e⟩ := h.get; exact ⟨t, by rw [n.ext.block b h.lt]; exact e⟩⟩
instance {w : World} {b : Nat} {cs : Array Value} [h : Block w b cs] (cs' : Array Value) : Block (w.setRow b cs') b cs' := ⟨by obtain ⟨t, e⟩ := h.get; exact ⟨t, setRow_heap w b cs cs' t _ e⟩⟩

theorem Block.cell {w : World} {b : Nat} {cs : Array Value} [h : Block w b cs] (i : Nat) : w.cell? ⟨b, i, none⟩ = cs[i]? := by
  obtain ⟨t, e⟩ := h.get
  simp [World.cell?, e]
theorem Block.frozen {w : World} {b : Nat} {cs : Array Value} [h : Block w b cs] (i : Nat) : w.frozen? ⟨b, i, none⟩ = false := by
  obtain ⟨t, e⟩ := h.get
  simp [World.frozen?, e]
/-- two blocks are not the same -/
class Apart (a b : Nat) : Prop where
  ne : a ≠ b
instance (n : Nat) : Apart n (n + 1) := ⟨by omega⟩
instance (n : Nat) : Apart n (n + 2) := ⟨by omega⟩
instance (n : Nat) : Apart n (n + 3) := ⟨by omega⟩
instance (n : Nat) : Apart (n + 1) n := ⟨by omega⟩
instance (n : Nat) : Apart (n + 2) n := ⟨by omega⟩
instance (n : Nat) : Apart (n + 3) n := ⟨by omega⟩
instance (n : Nat) : Apart (n + 1) (n + 2) := ⟨by omega⟩
instance (n : Nat) : Apart (n + 1) (n + 3) := ⟨by omega⟩
instance (n : Nat) : Apart (n + 2) (n + 1) := ⟨by omega⟩
instance (n : Nat) : Apart (n + 2) (n + 3) := ⟨by omega⟩
instance (n : Nat) : Apart (n + 3) (n + 1) := ⟨by omega⟩
instance (n : Nat) : Apart (n + 3) (n + 2) := ⟨by omega⟩
instance (n : Nat) : Apart (n) (n + 1 + 1) := ⟨by omega⟩
instance (n : Nat) : Apart (n) (n + 1 + 1 + 1) := ⟨by omega⟩
instance (n : Nat) : Apart (n + 1) (n + 1 + 1) := ⟨by omega⟩
instance (n : Nat) : Apart (n + 1) (n + 1 + 1 + 1) := ⟨by omega⟩
instance (n : Nat) : Apart (n + 1 + 1) (n) := ⟨by omega⟩
instance (n : Nat) : Apart (n + 1 + 1) (n + 1) := ⟨by omega⟩
instance (n : Nat) : Apart (n + 1 + 1) (n + 1 + 1 + 1) := ⟨by omega⟩
instance (n : Nat) : Apart (n + 1 + 1) (n + 3) := ⟨by omega⟩
instance (n : Nat) : Apart (n + 1 + 1 + 1) (n) := ⟨by omega⟩
instance (n : Nat) : Apart (n + 1 + 1 + 1) (n + 1) := ⟨by omega⟩
instance (n : Nat) : Apart (n + 1 + 1 + 1) (n + 1 + 1) := ⟨by omega⟩
instance (n : Nat) : Apart (n + 1 + 1 + 1) (n + 2) := ⟨by omega⟩
instance (n : Nat) : Apart (n + 2) (n + 1 + 1 + 1) := ⟨by omega⟩
instance (n : Nat) : Apart (n + 3) (n + 1 + 1) := ⟨by omega⟩
instance {w : World} {b g : Nat} {cs : Array Value} [h : Block w b cs] [ha : Apart g b] (cs' : Array Value) : Block (w.setRow g cs') b cs := ⟨by
  obtain ⟨t, e⟩ := h.get
  refine ⟨t, ?_⟩
  simp only [World.setRow, Array.getElem?_modify]
  rw [if_neg ha.ne]
  exact e⟩
instance {w : World} {b : Nat} [h : Old b w] : Apart b w.heap.size := ⟨by have := h.lt; omega⟩
instance {w : World} {b : Nat} [h : Old b w] : Apart w.heap.size b := ⟨by have := h.lt; omega⟩
instance {w : World} {b : Nat} {cs : Array Value} [h : Block w b cs] (i : Nat) (v : Value) : Block (w.setCell ⟨b, i, none⟩ v) b (cs.setIfInBounds i v) := ⟨by
  obtain ⟨t, e⟩ := h.get
  refine ⟨t, ?_⟩
  rw [setCell_eq_setRow w b i cs t (0, 0) v e]
  exact setRow_heap w b cs _ t _ e⟩
instance {w : World} {b g : Nat} {cs : Array Value} [h : Block w b cs] [ha : Apart g b] (i : Nat) (s : Option Nat) (v : Value) : Block (w.setCell ⟨g, i, s⟩ v) b cs := ⟨by
  obtain ⟨t, e⟩ := h.get
  refine ⟨t, ?_⟩
  rw [Below.heap_setCell _ _ _ _ (Ne.symm ha.ne)]
  exact e⟩

theorem setRow_alloc {w : World} {b : Nat} [h : Old b w] (o : Obj) (cs : Array Value) : (w.alloc o).setRow b cs = (w.setRow b cs).alloc o := by
  have hlt := h.lt
  cases w with
  | mk heap tape drawn os output =>
    simp only [World.setRow, World.alloc]
    congr 1
    simp only at hlt
    apply Array.ext_getElem?
    intro i
    simp only [Array.getElem?_modify, Array.getElem?_push, Array.size_modify]
    by_cases h1 : i = heap.size
    · rw [if_pos h1, if_pos h1, if_neg (by omega)]
    · rw [if_neg h1, if_neg h1]
theorem setRow_new (w : World) (c c' : Array Value) (t : TypeId) : (w.alloc (.cells c t)).setRow w.heap.size c' = w.alloc (.cells c' t) := by
  cases w with
  | mk heap tape drawn os output =>
    simp only [World.setRow, World.alloc]
    congr 1
    apply Array.ext_getElem?
    intro i
    simp only [Array.getElem?_modify, Array.getElem?_push]
    by_cases h1 : i = heap.size
    · rw [if_pos h1.symm, if_pos h1, if_pos h1]; rfl
    · rw [if_neg (Ne.symm h1), if_neg h1, if_neg h1]
theorem setRow_new1 (w : World) (o : Obj) (c c' : Array Value) (t : TypeId) : ((w.alloc o).alloc (.cells c t)).setRow (w.heap.size + 1) c' = (w.alloc o).alloc (.cells c' t) := by
  have e : w.heap.size + 1 = (w.alloc o).heap.size := by simp
  rw [e]; exact setRow_new _ _ _ _
theorem setRow_new2 (w : World) (o p : Obj) (c c' : Array Value) (t : TypeId) : (((w.alloc o).alloc p).alloc (.cells c t)).setRow (w.heap.size + 2) c' = ((w.alloc o).alloc p).alloc (.cells c' t) := by
  have e : w.heap.size + 2 = ((w.alloc o).alloc p).heap.size := by simp
  rw [e]; exact setRow_new _ _ _ _
theorem setRow_new11 (w : World) (o p : Obj) (c c' : Array Value) (t : TypeId) : (((w.alloc o).alloc p).alloc (.cells c t)).setRow (w.heap.size + 1 + 1) c' = ((w.alloc o).alloc p).alloc (.cells c' t) := setRow_new2 w o p c c' t
theorem setRow_new111 (w : World) (o p q : Obj) (c c' : Array Value) (t : TypeId) : ((((w.alloc o).alloc p).alloc q).alloc (.cells c t)).setRow (w.heap.size + 1 + 1 + 1) c' = (((w.alloc o).alloc p).alloc q).alloc (.cells c' t) := by
  have e : w.heap.size + 1 + 1 + 1 = (((w.alloc o).alloc p).alloc q).heap.size := by simp
  rw [e]; exact setRow_new _ _ _ _
theorem Ext.setRow {a b : World} (h : Ext a b) {g : Nat} (hg : a.heap.size ≤ g) (cs : Array Value) : Ext a (b.setRow g cs) :=
  Below.trans h ⟨rfl, rfl, rfl, by simp [World.setRow], fun k hk => by simp only [World.setRow, Array.getElem?_modify]; rw [if_neg (by omega)]⟩

/-- type T has n cells and is loaded and stored whole -/
structure Whole (P : Program) (T n : Nat) : Prop where
  load : ∀ (w : World) (b : Nat) (cs : Array Value), Block w b cs → cs.size = n → (loadVar T ⟨b, 0, none⟩).run P w = .ok (.agg cs) w
  store : ∀ (w : World) (b : Nat) (old cs : Array Value), Block w b old → old.size = n → cs.size = n → cs.all (·.oneCell') = true → (storeVar T ⟨b, 0, none⟩ (.agg cs)).run P w = .ok () (w.setRow b cs)

theorem whole_of {P : Program} {T n : Nat} {d : TypeDesc} (hu : P.underlying T = some d) (hd : (match d with | .struct _ | .array _ _ => true | _ => false) = true) (hi : (P.info? T).map (·.size) = some n) : Whole P T n :=
  ⟨fun w b cs h hs => by
    obtain ⟨ty, hg⟩ := h.get
    exact run_loadVar_row w b ty T _ _ d hg hu hd (by rw [hs]; exact hi),
   fun w b old cs h h1 h2 h3 => by
    obtain ⟨ty, hg⟩ := h.get
    exact run_storeVar_row w b ty T old cs hg (by rw [h2]; exact hi) (by rw [h1, h2]) h3⟩

section
variable {P : Program} {ops : Array Oper} {o : Oper} {rest : List Oper} {a : Act} {x y : Operand} {T n b : Nat} {cs : Array Value}
theorem run_load_op {w : World} (L : Whole P T n) (ho : o.op = .load T x) (hx : a.eval x = .pointer (some ⟨b, 0, none⟩)) (hc : Block w b cs) (hsz : cs.size = n) :
    (execOp a.eval o).run P w = .ok (.value (.agg cs)) w := by
  unfold execOp
  simp only [ho, hx, Instr.loadAt, Instr.sureAddr, Sem.run_bind, Sem.run_pure, Result.andThen_ok, L.load w b cs hc hsz]

/-- the walk's arm: a whole struct is loaded -/
theorem wl_load {w : World} {Q : Exit → Act → World → Prop} (L : Whole P T n) (ho : o.op = .load T x) (hw : Region.wanted o (yielded ops a.tmps) = true) (hx : a.eval x = .pointer (some ⟨b, 0, none⟩))
    [hc : Block w b cs] (hsz : cs.size = n) (hk : wpList P ops Q rest (a.put o.dst (.agg cs)) w) : wpList P ops Q (o :: rest) a w := by
  refine wpList_step fun K hK => ?_
  rw [if_pos hw]
  unfold Oper.wp
  rw [run_load_op L ho hx hc hsz]
  exact hK _ _ hk

/-- the walk's arm: a whole struct is stored -/
theorem wl_store {w : World} {Q : Exit → Act → World → Prop} {old : Array Value} (L : Whole P T n) (ho : o.op = .store T x y) (hw : Region.wanted o (yielded ops a.tmps) = true) (hx : a.eval x = .pointer (some ⟨b, 0, none⟩)) (hy : a.eval y = .agg cs)
    [hc : Block w b old] (hold : old.size = n) (hsz : cs.size = n) (h1 : cs.all (·.oneCell') = true) (hk : wpList P ops Q rest (a.put o.dst undef) (w.setRow b cs)) : wpList P ops Q (o :: rest) a w := by
  refine wpList_step fun K hK => ?_
  rw [if_pos hw]
  unfold Oper.wp execOp
  simp only [ho, hx, hy, Instr.storeAt, Instr.sureAddr, Sem.run_bind, Sem.run_pure, Result.andThen_ok, L.store w b old cs hc hold hsz h1]
  exact hK _ _ hk

theorem q_load {w : World} {Q : Act → Prop} (L : Whole P T n) (ho : o.op = .load T x) (hw : Region.wanted o (yielded ops a.tmps) = true) (hx : a.eval x = .pointer (some ⟨b, 0, none⟩))
    [hc : Block w b cs] (hsz : cs.size = n) (hk : wpQuiet P ops (fun w' => ∃ n : ExtOf w, w' = n.val) Q rest (a.put o.dst (.agg cs))) : wpQuiet P ops (fun w' => ∃ n : ExtOf w, w' = n.val) Q (o :: rest) a := by
  refine wpQuiet_step fun K hK => ?_
  rw [if_pos hw]
  refine ⟨.agg cs, ?_, hK _ hk⟩
  rintro w' ⟨m, rfl⟩
  unfold Oper.quietAt
  rw [run_load_op L ho hx (inferInstance : Block m.val b cs) hsz]
  exact ⟨rfl, rfl⟩

theorem wanted_none {o : Oper} {y : Nat → Option Bool} (hg : o.guard = none) : Region.wanted o y = true := by simp [Region.wanted, hg]
theorem wanted_some {o : Oper} {tmps : Array Value} {j d : Nat} {want : Bool} (hg : o.guard = some (j, want)) (hj : (ops[j]?).bind (·.dst) = some d) (hv : tmps.getD d undef = .bool want) : Region.wanted o (yielded ops tmps) = true := by
  have hv' : tmps[d]? = some (.bool want) := by
    have h2 : tmps.getD d undef = (tmps[d]?).getD undef := by simp
    rw [h2] at hv
    cases h : tmps[d]? with
    | none => rw [h] at hv; simp [undef] at hv
    | some v => rw [h] at hv; simp at hv; rw [hv]
  simp [Region.wanted, hg, yielded, hj, hv']
section
variable {dst : Option Tmp} {ty : TypeId} {pos : String} {aft : Array Edge} {g : Option (Nat × Bool)}
/-- the same, the operation written out (it fails at once where it does not fit) -/
theorem wl_load' {w : World} {Q : Exit → Act → World → Prop} (L : Whole P T n) (hw : Region.wanted ⟨dst, .load T x, ty, pos, aft, g⟩ (yielded ops a.tmps) = true) (hx : a.eval x = .pointer (some ⟨b, 0, none⟩))
    (hc : Block w b cs) (hsz : cs.size = n) (hk : wpList P ops Q rest (a.put dst (.agg cs)) w) : wpList P ops Q (⟨dst, .load T x, ty, pos, aft, g⟩ :: rest) a w := wl_load (o := ⟨dst, .load T x, ty, pos, aft, g⟩) L rfl hw hx hsz hk
theorem wl_store' {w : World} {Q : Exit → Act → World → Prop} {old : Array Value} (L : Whole P T n) (hw : Region.wanted ⟨dst, .store T x y, ty, pos, aft, g⟩ (yielded ops a.tmps) = true) (hx : a.eval x = .pointer (some ⟨b, 0, none⟩)) (hy : a.eval y = .agg cs)
    (hc : Block w b old) (hold : old.size = n) (hsz : cs.size = n) (h1 : cs.all (·.oneCell') = true) (hk : wpList P ops Q rest (a.put dst undef) (w.setRow b cs)) : wpList P ops Q (⟨dst, .store T x y, ty, pos, aft, g⟩ :: rest) a w := wl_store (o := ⟨dst, .store T x y, ty, pos, aft, g⟩) L rfl hw hx hy hold hsz h1 hk
theorem q_load' {w : World} {Q : Act → Prop} (L : Whole P T n) (hw : Region.wanted ⟨dst, .load T x, ty, pos, aft, g⟩ (yielded ops a.tmps) = true) (hx : a.eval x = .pointer (some ⟨b, 0, none⟩))
    (hc : Block w b cs) (hsz : cs.size = n) (hk : wpQuiet P ops (fun w' => ∃ n : ExtOf w, w' = n.val) Q rest (a.put dst (.agg cs))) : wpQuiet P ops (fun w' => ∃ n : ExtOf w, w' = n.val) Q (⟨dst, .load T x, ty, pos, aft, g⟩ :: rest) a := q_load (o := ⟨dst, .load T x, ty, pos, aft, g⟩) L rfl hw hx hsz hk
end

/-- three struct results -/
theorem results_cell3 {fn : Func} {p0 p1 p2 : Tmp} {t0 t1 t2 n0 n1 n2 b0 b1 b2 : Nat} {tmps : Array Value} {w : World} {c0 c1 c2 : Array Value} (h : fn.results = #[.cell p0 t0, .cell p1 t1, .cell p2 t2])
    (L0 : Whole P t0 n0) (L1 : Whole P t1 n1) (L2 : Whole P t2 n2) (h0 : tmps.getD p0 undef = .pointer (some ⟨b0, 0, none⟩)) (h1 : tmps.getD p1 undef = .pointer (some ⟨b1, 0, none⟩)) (h2 : tmps.getD p2 undef = .pointer (some ⟨b2, 0, none⟩))
    [B0 : Block w b0 c0] [B1 : Block w b1 c1] [B2 : Block w b2 c2] (s0 : c0.size = n0) (s1 : c1.size = n1) (s2 : c2.size = n2) : (results fn tmps).run P w = .ok (.tuple #[.agg c0, .agg c1, .agg c2]) w := by
  have g0 : tmps[p0]?.getD undef = .pointer (some ⟨b0, 0, none⟩) := by simpa using h0
  have g1 : tmps[p1]?.getD undef = .pointer (some ⟨b1, 0, none⟩) := by simpa using h1
  have g2 : tmps[p2]?.getD undef = .pointer (some ⟨b2, 0, none⟩) := by simpa using h2
  simp [results, h, g0, g1, g2, asAddr, L0.load w b0 c0 B0 s0, L1.load w b1 c1 B1 s1, L2.load w b2 c2 B2 s2]
end

section
variable {P : Program} {ops : Array Oper} {Q : Exit → Act → World → Prop} {S : World → Prop} {listed : Array Bool} {fuel : Nat} {a : Act} {w : World}
theorem region_held {id : Nat} (hm : P.follows .mixedOrders = true) (h : wpAnyH P .any ops Q S ops.size (Array.replicate ops.size false) a w.drew) : (Code.region id ops true).wp P Q a w := wp_region_held hm h
/-- the world under a new name: what is known of it are blocks and that it extends another one -/
theorem wp_fresh4 {c : Code} {w0 : World} (b0 b1 b2 b3 : Nat) {c0 c1 c2 c3 : Array Value} (h0 : Block w b0 c0) (h1 : Block w b1 c1) (h2 : Block w b2 c2) (h3 : Block w b3 c3) (hx : Ext w0 w)
    (h : ∀ W, Block W b0 c0 → Block W b1 c1 → Block W b2 c2 → Block W b3 c3 → Hid (Ext w0 W) → c.wp P Q a W) : c.wp P Q a w := h w h0 h1 h2 h3 hx
/-- a store of a whole struct comes up alone -/
theorem ah_store {i T n b : Nat} {x y : Operand} {dst : Option Tmp} {ty : TypeId} {pos : String} {aft : Array Edge} {old cs : Array Value} (L : Whole P T n) (hi : ops[i]? = some ⟨dst, .store T x y, ty, pos, aft, none⟩)
    (hr : Region.ready .any ops listed = [i]) (hx : a.eval x = .pointer (some ⟨b, 0, none⟩)) (hy : a.eval y = .agg cs) (hc : Block w b old) (hold : old.size = n) (hsz : cs.size = n) (h1 : cs.all (·.oneCell') = true)
    (hS : S (w.setRow b cs)) (hk : wpAnyH P .any ops Q S fuel (listed.setIfInBounds i true) (a.put dst undef) (w.setRow b cs)) : wpAnyH P .any ops Q S (fuel + 1) listed a w := by
  refine wpAnyH_all hr (by simp) ?_
  intro j hj
  obtain rfl : j = i := by simpa using hj
  unfold wpOp
  rw [hi]
  simp only [Region.wanted, if_true]
  refine .inl ?_
  unfold Oper.wp execOp
  simp only [hx, hy, Instr.storeAt, Instr.sureAddr, Sem.run_bind, Sem.run_pure, Result.andThen_ok, L.store w b old cs hc hold hsz h1]
  exact ⟨hS, hk⟩
end

section
variable {P : Program}
theorem wp_region_ext {id : Nat} {Q : Exit → Act → World → Prop} {a : Act} {w : World} {l : List Oper} (hm : P.follows .mixedOrders = true) (hB : Region.lexB .any l.toArray = true)
    (h : wpQuiet P l.toArray (fun w' => ∃ n : ExtOf w, w' = n.val) (fun a' => ∀ w', (∃ n : ExtOf w, w' = n.val) → Q .normal a' w') l a) : (Code.region id l.toArray true).wp P Q a w :=
  wp_region_quiet (C := fun w' => ∃ n : ExtOf w, w' = n.val) hm hB (ExtOf.of (Ext.drew (Ext.refl w))) (by simpa using h)

/-- a callee that leaves old memory alone, met in a world that extends w -/
theorem ext_call {f : FuncId} {args : Array Value} {w : World} {n : ExtOf w} {v : Value}
    (h : Calls P f args n.val fun e w' => e = .returned v ∧ ∃ m : ExtOf n.val, w' = m.val) : Calls P f args n.val fun e w'' => e = .returned v ∧ ∃ m : ExtOf w, w'' = m.val :=
  h.mono fun _ _ ⟨he, m, hm⟩ => ⟨he, ExtOf.of (hm ▸ n.ext.trans m.ext)⟩
end

section
variable {H : Type} {enc : TypeId × Value → H} {P : Program}
theorem post_of_below {f : Func} {s : ChangeSpec} {apart fresh handsOn again : Bool} {W W' : World} {args : Array Value} {v : Value} {ds gs : List (DataW H)} {before pa pv : List MemPlace}
    (hW : DataW.Whole enc P f.params.toList s.vars apart W args.toList ds gs before)
    (hres : ∀ (b : Nat) (sp : Nat → Bool) (hd : Bool), DataW.TrodAll enc P W' b sp hd f.resultTypes.toList (v.resultList f.resultTypes.size) (s.fn H (ds ++ gs)).results [])
    (hargs : ∀ sp : Nat → Bool, (∀ p ∈ before, sp p.block = true) → DataW.TrodAll enc P W' 0 sp true f.params.toList args.toList (s.fn H (ds ++ gs)).args pa)
    (hvars : ∀ sp : Nat → Bool, (∀ p ∈ before, sp p.block = true) → DataW.TrodVars enc P W' sp s.vars (s.fn H (ds ++ gs)).vars pv)
    (hps : before = pa ++ pv) (hb : Below W.heap.size W W')
    (hok : ∀ (j : Nat) (t : TypeId) (r : Value), f.resultTypes[j]? = some t → (v.resultList f.resultTypes.size)[j]? = some r → Value.okWide P W' .any 0 t r) :
    s.post enc P f apart fresh handsOn again W args v W' := by
  have hlt : ∀ p ∈ before, p.block < W.heap.size := fun p hp => hW.lt p hp
  have hold : ∀ p ∈ before, (fun b => decide (b < W.heap.size)) p.block = true := fun p hp => by simpa using hlt p hp
  refine ⟨ds, gs, before, [], pa, pv, hW, hres _ _ _, hargs _ hold, hvars _ hold, World.keptBut_mono (fun p hp => ⟨hp, ?_⟩) (hb.frame (· ∈ before)), fun _ => ?_⟩
  · rw [hps, List.mem_append] at hp
    exact Or.inr hp
  · obtain ⟨_, _, _, _, _, hz, hn⟩ := hW
    refine ⟨hok, _, _, ([] ++ pa) ++ pv, ⟨[] ++ pa, pv, trodAll_append (hargs _ (fun _ _ => rfl)) (hres _ _ _), hvars _ (fun _ _ => rfl), rfl, ?_, ?_⟩, ?_⟩
    · intro b off hp
      have hin : MemPlace.cell b off ∈ before := by rw [hps]; simpa using hp
      rw [hb.frozen (hlt _ hin)]
      exact hz b off hin
    · intro ha
      have := hn ha
      rw [hps] at this
      simpa using this
    · intro p hp _
      rw [hps]
      simpa using hp

/-- every argument reads as it did, in a world that extends the old one -/
theorem trodAll_stays (hl : laidOutB P = true) {W W' : World} (hb : Below W.heap.size W W') {sp : Nat → Bool} : ∀ {ts : List TypeId} {vs : List Value} {ds : List (DataW H)} {ps : List MemPlace},
    (∀ t ∈ ts, P.readableRec t = true ∧ t < P.types.size) → DataW.TrodAll enc P W 0 (fun _ => true) true ts vs ds ps → (∀ p ∈ ps, p.block < W.heap.size) → (∀ p ∈ ps, sp p.block = true) →
    DataW.TrodAll enc P W' 0 sp true ts vs ds ps
  | [], [], [], _, _, h, _, _ => h
  | t :: ts, v :: vs, d :: ds, ps, hr, h, hlt, hs => by
    obtain ⟨p, q, h1, h2, rfl⟩ := h
    refine ⟨p, q, ?_, trodAll_stays hl hb (fun t ht => hr t (by simp [ht])) h2 (fun x hx => hlt x (by simp [hx])) (fun x hx => hs x (by simp [hx])), rfl⟩
    exact WideElems.Trod_stays hl (hr t (by simp)).1 (hr t (by simp)).2 h1 (fun x hx => hb.same (hlt x (by simp [hx]))) (fun x hx => hs x (by simp [hx]))
  | [], [], _ :: _, _, _, h, _, _ => h.elim
  | [], _ :: _, [], _, _, h, _, _ => h.elim
  | [], _ :: _, _ :: _, _, _, h, _, _ => h.elim
  | _ :: _, [], [], _, _, h, _, _ => h.elim
  | _ :: _, [], _ :: _, _, _, h, _, _ => h.elim
  | _ :: _, _ :: _, [], _, _, h, _, _ => h.elim

/-- THE LAST STEP OF A LAW: it has returned true, and old memory is as it was. -/
theorem law_post {f : Func} {s : ChangeSpec} {W W' : World} {args : Array Value} {ds gs : List (DataW H)} {before : List MemPlace} {tb : TypeId}
    (hl : laidOutB P = true) (hr : ∀ t ∈ f.params.toList, P.readableRec t = true ∧ t < P.types.size) (hres : f.resultTypes = #[tb]) (htb : P.underlying tb = some .bool) (hvars : s.vars = [])
    (hfn : ∀ ds, ds.length = f.params.size → (s.fn H ds).results = [.lit (.bool true)] ∧ (s.fn H ds).args = ds ∧ (s.fn H ds).vars = [])
    (hlen : ds.length = f.params.size)
    (hW : DataW.Whole enc P f.params.toList s.vars false W args.toList ds gs before) (hb : Below W.heap.size W W') :
    s.post enc P f false true false false W args (.bool true) W' := by
  have hW' := hW
  obtain ⟨p, q, hA, hV, rfl, hfz, hnd⟩ := hW
  rw [hvars] at hV
  obtain ⟨rfl, rfl⟩ := trodVars_none hV
  obtain ⟨e1, e2, e3⟩ := hfn ds hlen
  have hlt : ∀ x ∈ p, x.block < W.heap.size := fun x hx => hW'.lt x (by simp [hx])
  refine post_of_below (pa := p) (pv := []) hW' ?_ ?_ ?_ rfl hb ?_
  · intro b sp hd
    rw [List.append_nil, e1, hres]
    exact trodAll_cons_mk (shut_bool htb true) trodAll_mk0
  · intro sp hs
    rw [List.append_nil, e2]
    exact trodAll_stays hl hb hr hA hlt (fun x hx => hs x (by simp [hx]))
  · intro sp hs
    rw [List.append_nil, e3, hvars]
    exact rfl
  · exact ok_one hres rfl (okWide_bool_mk htb true)
end

section
variable {H : Type} {enc : TypeId × Value → H} {P : Program} {w : World} {base : Nat} {spare : Nat → Bool} {held : Bool}

/-- what a cell of an argument is: an integer (inl), a bool (inr inl true), a string (inr inl false), something else of a type (inr inr) -/
abbrev FK := IntKind ⊕ (Bool ⊕ TypeId)

/-- the kinds of the cells of a type, in order -/
def flat (P : Program) : Nat → TypeId → List FK
  | 0, t => [.inr (.inr t)]
  | n + 1, t =>
    match P.underlying t with
    | some (.int k) => [.inl k]
    | some .bool => [.inr (.inl true)]
    | some .string => [.inr (.inl false)]
    | some (.struct fs) => fs.toList.flatMap fun f => flat P n f.type
    | some (.array m e) => (List.range m).flatMap fun _ => flat P n e
    | _ => [.inr (.inr t)]

/-- the places of a struct's fields follow one another -/
def inRow (P : Program) : Nat → List Field → Bool
  | _, [] => true
  | n, f :: fs => f.offset == n && inRow P (n + P.cellsOf f.type) fs

/-- flat reads the type to its bottom, and its cells lie one behind the other -/
def laidB (P : Program) : Nat → TypeId → Bool
  | 0, t => P.cellsOf t == 1
  | n + 1, t =>
    match P.underlying t with
    | some (.int _) => true
    | some .bool => true
    | some .string => true
    | some (.struct fs) => inRow P 0 fs.toList && (fs.toList.map fun f => P.cellsOf f.type).sum == P.cellsOf t && fs.toList.all fun f => laidB P n f.type
    | some (.array m e) => m * P.cellsOf e == P.cellsOf t && laidB P n e
    | _ => P.cellsOf t == 1

def Fits (enc : TypeId × Value → H) (P : Program) (w : World) (base : Nat) (spare : Nat → Bool) (held : Bool) : List FK → List Value → Prop
  | [], [] => True
  | .inl k :: ks, v :: vs => (∃ n, v = .int k n ∧ (Lit.int k n).wf = true) ∧ Fits enc P w base spare held ks vs
  | .inr (.inl true) :: ks, v :: vs => (∃ b, v = .bool b) ∧ Fits enc P w base spare held ks vs
  | .inr (.inl false) :: ks, v :: vs => (∃ s, v = .string s ∧ s.size ≤ maxLen) ∧ Fits enc P w base spare held ks vs
  | .inr (.inr t) :: ks, v :: vs => (∃ n x, DataW.trod enc P w base spare held n t [v] = some x) ∧ Fits enc P w base spare held ks vs
  | _, _ => False

theorem Fits.append : ∀ {k1 k2 : List FK} {v1 v2 : List Value}, Fits enc P w base spare held k1 v1 → Fits enc P w base spare held k2 v2 → Fits enc P w base spare held (k1 ++ k2) (v1 ++ v2)
  | [], _, [], _, _, h => h
  | .inl _ :: _, _, _ :: _, _, ⟨h1, h2⟩, h => ⟨h1, Fits.append h2 h⟩
  | .inr (.inl true) :: _, _, _ :: _, _, ⟨h1, h2⟩, h => ⟨h1, Fits.append h2 h⟩
  | .inr (.inl false) :: _, _, _ :: _, _, ⟨h1, h2⟩, h => ⟨h1, Fits.append h2 h⟩
  | .inr (.inr _) :: _, _, _ :: _, _, ⟨h1, h2⟩, h => ⟨h1, Fits.append h2 h⟩
  | [], _, _ :: _, _, h, _ => h.elim
  | .inl _ :: _, _, [], _, h, _ => h.elim
  | .inr (.inl true) :: _, _, [], _, h, _ => h.elim
  | .inr (.inl false) :: _, _, [], _, h, _ => h.elim
  | .inr (.inr _) :: _, _, [], _, h, _ => h.elim

theorem fits_fields (n : Nat) (IH : ∀ (t : TypeId) (cs : List Value) (fuel : Nat) (x : DataW H × List MemPlace), laidB P n t = true → cs.length = P.cellsOf t → DataW.trod enc P w base spare held fuel t cs = some x → Fits enc P w base spare held (flat P n t) cs) :
    ∀ (fs : List Field) (off : Nat) (cs : List Value), inRow P off fs = true → cs.length = off + (fs.map fun f => P.cellsOf f.type).sum → (fs.all fun f => laidB P n f.type) = true →
      (∀ f ∈ fs, ∃ fuel x, DataW.trod enc P w base spare held fuel f.type ((cs.drop f.offset).take (P.cellsOf f.type)) = some x) → Fits enc P w base spare held (fs.flatMap fun f => flat P n f.type) (cs.drop off)
  | [], off, cs, _, hl, _, _ => by
    have : cs.drop off = [] := List.drop_of_length_le (by simp at hl; omega)
    rw [this]; exact trivial
  | f :: fs, off, cs, hr, hl, ha, ht => by
    simp only [inRow, Bool.and_eq_true, beq_iff_eq] at hr
    obtain ⟨rfl, hr⟩ := hr
    simp only [List.all_cons, Bool.and_eq_true] at ha
    simp only [List.map_cons, List.sum_cons] at hl
    obtain ⟨fuel, x, hx⟩ := ht f (by simp)
    have h1 := IH f.type _ fuel x ha.1 (by simp; omega) hx
    have h2 := fits_fields n IH fs (f.offset + P.cellsOf f.type) cs hr (by omega) ha.2 (fun g hg => ht g (by simp [hg]))
    have e : cs.drop f.offset = (cs.drop f.offset).take (P.cellsOf f.type) ++ cs.drop (f.offset + P.cellsOf f.type) := by
      rw [← List.drop_drop, List.take_append_drop]
    rw [e, List.flatMap_cons]
    exact h1.append h2

theorem fits_elems (n : Nat) (e : TypeId) (IH : ∀ (cs : List Value) (fuel : Nat) (x : DataW H × List MemPlace), cs.length = P.cellsOf e → DataW.trod enc P w base spare held fuel e cs = some x → Fits enc P w base spare held (flat P n e) cs) :
    ∀ (m k : Nat) (cs : List Value), cs.length = (k + m) * P.cellsOf e → (∀ i, i < k + m → ∃ fuel x, DataW.trod enc P w base spare held fuel e ((cs.drop (i * P.cellsOf e)).take (P.cellsOf e)) = some x) →
      Fits enc P w base spare held ((List.range m).flatMap fun _ => flat P n e) (cs.drop (k * P.cellsOf e))
  | 0, k, cs, hl, _ => by
    have : cs.drop (k * P.cellsOf e) = [] := List.drop_of_length_le (by simp at hl; omega)
    rw [this]; exact trivial
  | m + 1, k, cs, hl, ht => by
    obtain ⟨fuel, x, hx⟩ := ht k (by omega)
    have hle : (k + 1) * P.cellsOf e ≤ (k + (m + 1)) * P.cellsOf e := Nat.mul_le_mul_right _ (by omega)
    have hk : (k + 1) * P.cellsOf e = k * P.cellsOf e + P.cellsOf e := Nat.succ_mul _ _
    have h1 := IH _ fuel x (by simp; omega) hx
    have h2 := fits_elems n e IH m (k + 1) cs (by rw [hl]; congr 1; omega) (fun i hi => ht i (by omega))
    have e1 : cs.drop (k * P.cellsOf e) = (cs.drop (k * P.cellsOf e)).take (P.cellsOf e) ++ cs.drop ((k + 1) * P.cellsOf e) := by
      rw [hk, ← List.drop_drop, List.take_append_drop]
    have e2 : ((List.range (m + 1)).flatMap fun _ => flat P n e) = flat P n e ++ (List.range m).flatMap fun _ => flat P n e := by
      rw [List.range_succ_eq_map, List.flatMap_cons, List.flatMap_map]
    rw [e1, e2]
    exact h1.append h2

/-- THE CELLS OF AN ARGUMENT, kind by kind -/
theorem fits_of_trod : ∀ (n : Nat) (t : TypeId) (cs : List Value) (fuel : Nat) (x : DataW H × List MemPlace), laidB P n t = true → cs.length = P.cellsOf t →
    DataW.trod enc P w base spare held fuel t cs = some x → Fits enc P w base spare held (flat P n t) cs := by
  intro n
  have leaf : ∀ (t : TypeId) (cs : List Value) (fuel : Nat) (x : DataW H × List MemPlace), P.cellsOf t = 1 → cs.length = P.cellsOf t → DataW.trod enc P w base spare held fuel t cs = some x → Fits enc P w base spare held [.inr (.inr t)] cs := by
    intro t cs fuel x h1 hl h
    rw [h1] at hl
    obtain ⟨v, rfl⟩ := List.length_eq_one_iff.1 hl
    exact ⟨⟨fuel, x, h⟩, trivial⟩
  induction n with
  | zero => intro t cs fuel x hb hl h; exact leaf t cs fuel x (by simpa [laidB] using hb) hl h
  | succ n IH =>
    intro t cs fuel x hb hl h
    unfold laidB at hb
    unfold flat
    split at hb
    · rename_i k hk
      obtain ⟨m, rfl, _, hw⟩ := DataW.trod_int hk h
      exact ⟨⟨m, rfl, hw⟩, trivial⟩
    · rename_i hk
      obtain ⟨b, rfl, _⟩ := DataW.trod_bool hk h
      exact ⟨⟨b, rfl⟩, trivial⟩
    · rename_i hk
      obtain ⟨s, rfl, _, hs⟩ := DataW.trod_string hk h
      exact ⟨⟨s, rfl, hs⟩, trivial⟩
    · rename_i fs hk
      simp only [Bool.and_eq_true, beq_iff_eq] at hb
      obtain ⟨⟨hr, hsum⟩, hall⟩ := hb
      obtain ⟨xs, m, rfl, _, _, hxl, hf⟩ := DataW.trod_struct hk h
      have := fits_fields (enc := enc) (w := w) (base := base) (spare := spare) (held := held) n IH fs.toList 0 cs hr (by omega) hall (fun f hm => by
        obtain ⟨i, hi, e⟩ := List.getElem_of_mem hm
        have hi' : i < fs.size := by simpa using hi
        have h2 := hf i f (by rw [Array.getElem?_eq_getElem hi', ← e]; simp)
        exact ⟨m, xs[i]'(by omega), by rw [h2, List.getElem?_eq_getElem]⟩)
      simpa using this
    · rename_i m e hk
      simp only [Bool.and_eq_true, beq_iff_eq] at hb
      obtain ⟨hm, hb⟩ := hb
      obtain ⟨xs, q, rfl, _, _, hxl, hf⟩ := DataW.trod_array hk h
      have := fits_elems (enc := enc) (w := w) (base := base) (spare := spare) (held := held) n e (fun cs fuel x => IH e cs fuel x hb) m 0 cs (by rw [hl, ← hm]; simp) (fun i hi => by
        exact ⟨q, xs[i]'(by omega), by rw [hf i (by omega), List.getElem?_eq_getElem]⟩)
      simpa using this
    · rename_i h1 h2 h3 h4 h5
      exact leaf t cs fuel x (by simpa using hb) hl h

/-- a struct or array argument: its value and the kinds of its cells -/
theorem open_flat {r : Reach} {b0 : Nat} (n : Nat) {t : TypeId} {v : Value} {d : DataW H} {p : List MemPlace} (hb : laidB P n t = true) (ha : (∃ fs, P.underlying t = some (.struct fs)) ∨ ∃ m e, P.underlying t = some (.array m e))
    (hv : Value.okWide P w r b0 t v) (h : DataW.Trod enc P w base spare held t v d p) : ∃ cs : List Value, v = .agg cs.toArray ∧ Fits enc P w base spare held (flat P n t) cs := by
  obtain ⟨fuel, hf⟩ := h
  have hv' : ∃ cs, v = .agg cs ∧ cs.size = P.cellsOf t := by
    unfold Value.okWide at hv
    rcases ha with ⟨fs, hs⟩ | ⟨m, e, hs⟩ <;> rw [hs] at hv
    · obtain ⟨cs, h1, h2, _⟩ := hv; exact ⟨cs, h1, h2⟩
    · obtain ⟨cs, h1, h2, _⟩ := hv; exact ⟨cs, h1, h2⟩
  obtain ⟨cs, rfl, hsz⟩ := hv'
  exact ⟨cs.toList, by simp, fits_of_trod n t _ fuel _ hb (by simp [Value.cells, hsz]) hf⟩

section
variable {ks : List FK} {cs : List Value}
theorem Fits.int {k : IntKind} (h : Fits enc P w base spare held (.inl k :: ks) cs) : ∃ (n : Int) (vs : List Value), cs = .int k n :: vs ∧ (Lit.int k n).wf = true ∧ Fits enc P w base spare held ks vs := by
  match cs, h with
  | v :: vs, ⟨⟨n, e, hw⟩, h2⟩ => exact ⟨n, vs, by rw [e], hw, h2⟩
theorem Fits.bool (h : Fits enc P w base spare held (.inr (.inl true) :: ks) cs) : ∃ (b : Bool) (vs : List Value), cs = .bool b :: vs ∧ Fits enc P w base spare held ks vs := by
  match cs, h with
  | v :: vs, ⟨⟨n, e⟩, h2⟩ => exact ⟨n, vs, by rw [e], h2⟩
theorem Fits.str (h : Fits enc P w base spare held (.inr (.inl false) :: ks) cs) : ∃ (s : ByteArray) (vs : List Value), cs = .string s :: vs ∧ s.size ≤ maxLen ∧ Fits enc P w base spare held ks vs := by
  match cs, h with
  | v :: vs, ⟨⟨s, e, hs⟩, h2⟩ => exact ⟨s, vs, by rw [e], hs, h2⟩
theorem Fits.other {t : TypeId} (h : Fits enc P w base spare held (.inr (.inr t) :: ks) cs) : ∃ (v : Value) (vs : List Value), cs = v :: vs ∧ (∃ n x, DataW.trod enc P w base spare held n t [v] = some x) ∧ Fits enc P w base spare held ks vs := by
  match cs, h with
  | v :: vs, ⟨h1, h2⟩ => exact ⟨v, vs, rfl, h1, h2⟩
theorem Fits.nil (h : Fits enc P w base spare held [] cs) : cs = [] := by
  match cs, h with
  | [], _ => rfl
end
end
end Go.Proofs.YtaflcbdbacogeaaDoor
