/-
  Chapter 62: several texts in one (Base, Base2, Base3, Base4, Base5, Base6, Base7, Base8, Base9, Open).
-/
import Derived.WalkKit
import Derived.WalkSpells
import Derived.WalkLawsBesides
import Derived.Deep.QuietTactic
import Derived.BigQuiet
import Derived.Handy
import Derived.ProofKit
import Derived.OpenShut
import Derived.Carry
import Derived.Lib.Hide
import Derived.OrdersHeld
import Derived.Laws.AppendOwnNone
import Derived.Deep.Slices
/-
  Program-independent ground for the claims of this seat: worlds that extend a world, a region whose operations only read or call functions that leave old memory alone, the last step of a law, how the cells of an argument read.
-/
section
set_option linter.unusedVariables false
set_option linter.unusedSimpArgs false
namespace Go.Proofs.YtjflmmipjeangaaGreatDoor
open Go.RowKit Go.WideShapes Go.ChangeShapes

/-- w' is w with new blocks: nothing of w has changed. -/
def Ext (w w' : World) : Prop := Below w.heap.size w w'
theorem Ext.refl (w : World) : Ext w w := Below.refl _ _
theorem Ext.trans {a b c : World} (h : Ext a b) (k : Ext b c) : Ext a c := Below.trans h (Below.mono k h.size)
theorem Ext.drew {a b : World} (h : Ext a b) : Ext a b.drew := Below.drew h
theorem Ext.alloc {a b : World} (h : Ext a b) (o : Obj) : Ext a (b.alloc o) := Below.alloc h h.size o
theorem Ext.setCell {a b : World} (h : Ext a b) {p : Addr} (hp : a.heap.size ≤ p.block) (v : Value) : Ext a (b.setCell p v) := Below.setCell h hp v

/-- the worlds that extend w -/
def ExtOf (w : World) : Type := { w' : World // Ext w w' }
def ExtOf.val {w : World} (n : ExtOf w) : World := Subtype.val n
theorem ExtOf.ext {w : World} (n : ExtOf w) : Ext w n.val := n.2
instance {w : World} : Nonempty (ExtOf w) := ⟨⟨w, Ext.refl w⟩⟩
theorem ExtOf.of {w w' : World} (h : Ext w w') : ∃ n : ExtOf w, w' = n.val := ⟨⟨w', h⟩, rfl⟩

/-- block b stands in w -/
class Old (b : Nat) (w : World) : Prop where
  lt : b < w.heap.size
theorem ExtOf.size {w : World} (n : ExtOf w) : w.heap.size ≤ n.val.heap.size := n.ext.size
instance {w : World} {b : Nat} [h : Old b w] (n : ExtOf w) : Old b n.val := ⟨Nat.lt_of_lt_of_le h.lt n.size⟩
instance {w : World} {b : Nat} [h : Old b w] (o : Obj) : Old b (w.alloc o) := ⟨by have := h.lt; simp; omega⟩
instance {w : World} {b : Nat} [h : Old b w] : Old b w.drew := ⟨h.lt⟩
instance {w : World} {b : Nat} [h : Old b w] (a : Addr) (v : Value) : Old b (w.setCell a v) := ⟨by have := h.lt; simpa [World.setCell] using this⟩
instance (w : World) (o : Obj) : Old w.heap.size (w.alloc o) := ⟨by simp⟩
instance (w : World) (o p : Obj) : Old (w.heap.size + 1) ((w.alloc o).alloc p) := ⟨by simp⟩
instance (w : World) (o p q : Obj) : Old (w.heap.size + 2) (((w.alloc o).alloc p).alloc q) := ⟨by simp⟩
instance (w : World) (o p q r : Obj) : Old (w.heap.size + 3) ((((w.alloc o).alloc p).alloc q).alloc r) := ⟨by simp⟩
instance (w : World) (o p q r s : Obj) : Old (w.heap.size + 4) (((((w.alloc o).alloc p).alloc q).alloc r).alloc s) := ⟨by simp⟩
instance (w : World) (o p q r s t : Obj) : Old (w.heap.size + 5) ((((((w.alloc o).alloc p).alloc q).alloc r).alloc s).alloc t) := ⟨by simp⟩
instance (w : World) (o p q : Obj) : Old (w.heap.size + 1 + 1) (((w.alloc o).alloc p).alloc q) := ⟨by simp⟩
instance (w : World) (o p q r : Obj) : Old (w.heap.size + 1 + 1 + 1) ((((w.alloc o).alloc p).alloc q).alloc r) := ⟨by simp⟩
theorem ExtOf.cell {w : World} (n : ExtOf w) (b o : Nat) [h : Old b w] : n.val.cell? ⟨b, o, none⟩ = w.cell? ⟨b, o, none⟩ := Below.cell (p := ⟨b, o, none⟩) n.ext h.lt
theorem ExtOf.frozen {w : World} (n : ExtOf w) (b o : Nat) [h : Old b w] : n.val.frozen? ⟨b, o, none⟩ = w.frozen? ⟨b, o, none⟩ := Below.frozen (p := ⟨b, o, none⟩) n.ext h.lt

/-- block b of w holds the cells cs, free to be written -/
class Block (w : World) (b : Nat) (cs : outParam (Array Value)) : Prop where
  get : ∃ t, w.heap[b]? = some (.cells cs t (0, 0))
theorem Block.lt {w : World} {b : Nat} {cs : Array Value} (h : Block w b cs) : b < w.heap.size := by
  obtain ⟨t, h⟩ := h.get
  exact (Array.getElem?_eq_some_iff.1 h).1
theorem Block.new (w : World) (cs : Array Value) (t : TypeId) : Block (w.alloc (.cells cs t)) w.heap.size cs := ⟨t, (MapKept.heap_alloc w _).1⟩
instance (w : World) (cs : Array Value) (t : TypeId) : Block (w.alloc (.cells cs t)) w.heap.size cs := Block.new w cs t
instance (w : World) (o : Obj) (cs : Array Value) (t : TypeId) : Block ((w.alloc o).alloc (.cells cs t)) (w.heap.size + 1) cs := by
  have e : w.heap.size + 1 = (w.alloc o).heap.size := by simp
  rw [e]; exact Block.new _ _ _
instance (w : World) (o p : Obj) (cs : Array Value) (t : TypeId) : Block (((w.alloc o).alloc p).alloc (.cells cs t)) (w.heap.size + 2) cs := by
  have e : w.heap.size + 2 = ((w.alloc o).alloc p).heap.size := by simp
  rw [e]; exact Block.new _ _ _
instance (w : World) (o p q : Obj) (cs : Array Value) (t : TypeId) : Block ((((w.alloc o).alloc p).alloc q).alloc (.cells cs t)) (w.heap.size + 3) cs := by
  have e : w.heap.size + 3 = (((w.alloc o).alloc p).alloc q).heap.size := by simp
  rw [e]; exact Block.new _ _ _
instance (w : World) (o p : Obj) (cs : Array Value) (t : TypeId) : Block (((w.alloc o).alloc p).alloc (.cells cs t)) (w.heap.size + 1 + 1) cs := by
  have e : w.heap.size + 1 + 1 = ((w.alloc o).alloc p).heap.size := by simp
  rw [e]; exact Block.new _ _ _
instance (w : World) (o p q : Obj) (cs : Array Value) (t : TypeId) : Block ((((w.alloc o).alloc p).alloc q).alloc (.cells cs t)) (w.heap.size + 1 + 1 + 1) cs := by
  have e : w.heap.size + 1 + 1 + 1 = (((w.alloc o).alloc p).alloc q).heap.size := by simp
  rw [e]; exact Block.new _ _ _
instance {w : World} {b : Nat} {cs : Array Value} [h : Block w b cs] (o : Obj) : Block (w.alloc o) b cs := ⟨by obtain ⟨t, e⟩ := h.get; exact ⟨t, by rw [Below.heap_alloc _ _ _ h.lt]; exact e⟩⟩
instance {w : World} {b : Nat} {cs : Array Value} [h : Block w b cs] : Block w.drew b cs := ⟨h.get⟩
instance {w : World} {b : Nat} {cs : Array Value} [h : Block w b cs] (n : ExtOf w) : Block n.val b cs := ⟨by obtain ⟨t, e⟩ := h.get; exact ⟨t, by rw [n.ext.block b h.lt]; exact e⟩⟩
instance {w : World} {b : Nat} {cs : Array Value} [h : Block w b cs] (cs' : Array Value) : Block (w.setRow b cs') b cs' := ⟨by obtain ⟨t, e⟩ := h.get; exact ⟨t, setRow_heap w b cs cs' t _ e⟩⟩

theorem Block.cell {w : World} {b : Nat} {cs : Array Value} [h : Block w b cs] (i : Nat) : w.cell? ⟨b, i, none⟩ = cs[i]? := by
  obtain ⟨t, e⟩ := h.get
  simp [World.cell?, e]
theorem Block.frozen {w : World} {b : Nat} {cs : Array Value} [h : Block w b cs] (i : Nat) : w.frozen? ⟨b, i, none⟩ = false := by
  obtain ⟨t, e⟩ := h.get
  simp [World.frozen?, e]
/-- two blocks are not the same -/
class Apart (a b : Nat) : Prop where
  ne : a ≠ b
instance (n : Nat) : Apart n (n + 1) := ⟨by omega⟩
instance (n : Nat) : Apart n (n + 2) := ⟨by omega⟩
instance (n : Nat) : Apart n (n + 3) := ⟨by omega⟩
instance (n : Nat) : Apart (n + 1) n := ⟨by omega⟩
instance (n : Nat) : Apart (n + 2) n := ⟨by omega⟩
instance (n : Nat) : Apart (n + 3) n := ⟨by omega⟩
instance (n : Nat) : Apart (n + 1) (n + 2) := ⟨by omega⟩
instance (n : Nat) : Apart (n + 1) (n + 3) := ⟨by omega⟩
instance (n : Nat) : Apart (n + 2) (n + 1) := ⟨by omega⟩
instance (n : Nat) : Apart (n + 2) (n + 3) := ⟨by omega⟩
instance (n : Nat) : Apart (n + 3) (n + 1) := ⟨by omega⟩
instance (n : Nat) : Apart (n + 3) (n + 2) := ⟨by omega⟩
instance (n : Nat) : Apart (n) (n + 1 + 1) := ⟨by omega⟩
instance (n : Nat) : Apart (n) (n + 1 + 1 + 1) := ⟨by omega⟩
instance (n : Nat) : Apart (n + 1) (n + 1 + 1) := ⟨by omega⟩
instance (n : Nat) : Apart (n + 1) (n + 1 + 1 + 1) := ⟨by omega⟩
instance (n : Nat) : Apart (n + 1 + 1) (n) := ⟨by omega⟩
instance (n : Nat) : Apart (n + 1 + 1) (n + 1) := ⟨by omega⟩
instance (n : Nat) : Apart (n + 1 + 1) (n + 1 + 1 + 1) := ⟨by omega⟩
instance (n : Nat) : Apart (n + 1 + 1) (n + 3) := ⟨by omega⟩
instance (n : Nat) : Apart (n + 1 + 1 + 1) (n) := ⟨by omega⟩
instance (n : Nat) : Apart (n + 1 + 1 + 1) (n + 1) := ⟨by omega⟩
instance (n : Nat) : Apart (n + 1 + 1 + 1) (n + 1 + 1) := ⟨by omega⟩
instance (n : Nat) : Apart (n + 1 + 1 + 1) (n + 2) := ⟨by omega⟩
instance (n : Nat) : Apart (n + 2) (n + 1 + 1 + 1) := ⟨by omega⟩
instance (n : Nat) : Apart (n + 3) (n + 1 + 1) := ⟨by omega⟩
instance {w : World} {b g : Nat} {cs : Array Value} [h : Block w b cs] [ha : Apart g b] (cs' : Array Value) : Block (w.setRow g cs') b cs := ⟨by
  obtain ⟨t, e⟩ := h.get
  refine ⟨t, ?_⟩
  simp only [World.setRow, Array.getElem?_modify]
  rw [if_neg ha.ne]
  exact e⟩
instance {w : World} {b : Nat} [h : Old b w] : Apart b w.heap.size := ⟨by have := h.lt; omega⟩
instance {w : World} {b : Nat} [h : Old b w] : Apart w.heap.size b := ⟨by have := h.lt; omega⟩
instance {w : World} {b : Nat} {cs : Array Value} [h : Block w b cs] (i : Nat) (v : Value) : Block (w.setCell ⟨b, i, none⟩ v) b (cs.setIfInBounds i v) := ⟨by
  obtain ⟨t, e⟩ := h.get
  refine ⟨t, ?_⟩
  rw [setCell_eq_setRow w b i cs t (0, 0) v e]
  exact setRow_heap w b cs _ t _ e⟩
instance {w : World} {b g : Nat} {cs : Array Value} [h : Block w b cs] [ha : Apart g b] (i : Nat) (s : Option Nat) (v : Value) : Block (w.setCell ⟨g, i, s⟩ v) b cs := ⟨by
  obtain ⟨t, e⟩ := h.get
  refine ⟨t, ?_⟩
  rw [Below.heap_setCell _ _ _ _ (Ne.symm ha.ne)]
  exact e⟩

theorem setRow_alloc {w : World} {b : Nat} [h : Old b w] (o : Obj) (cs : Array Value) : (w.alloc o).setRow b cs = (w.setRow b cs).alloc o := by
  have hlt := h.lt
  cases w with
  | mk heap tape drawn os output =>
    simp only [World.setRow, World.alloc]
    congr 1
    simp only at hlt
    apply Array.ext_getElem?
    intro i
    simp only [Array.getElem?_modify, Array.getElem?_push, Array.size_modify]
    by_cases h1 : i = heap.size
    · rw [if_pos h1, if_pos h1, if_neg (by omega)]
    · rw [if_neg h1, if_neg h1]
theorem setRow_new (w : World) (c c' : Array Value) (t : TypeId) : (w.alloc (.cells c t)).setRow w.heap.size c' = w.alloc (.cells c' t) := by
  cases w with
  | mk heap tape drawn os output =>
    simp only [World.setRow, World.alloc]
    congr 1
    apply Array.ext_getElem?
    intro i
    simp only [Array.getElem?_modify, Array.getElem?_push]
    by_cases h1 : i = heap.size
    · rw [if_pos h1.symm, if_pos h1, if_pos h1]; rfl
    · rw [if_neg (Ne.symm h1), if_neg h1, if_neg h1]
theorem setRow_new1 (w : World) (o : Obj) (c c' : Array Value) (t : TypeId) : ((w.alloc o).alloc (.cells c t)).setRow (w.heap.size + 1) c' = (w.alloc o).alloc (.cells c' t) := by
  have e : w.heap.size + 1 = (w.alloc o).heap.size := by simp
  rw [e]; exact setRow_new _ _ _ _
theorem setRow_new2 (w : World) (o p : Obj) (c c' : Array Value) (t : TypeId) : (((w.alloc o).alloc p).alloc (.cells c t)).setRow (w.heap.size + 2) c' = ((w.alloc o).alloc p).alloc (.cells c' t) := by
  have e : w.heap.size + 2 = ((w.alloc o).alloc p).heap.size := by simp
  rw [e]; exact setRow_new _ _ _ _
theorem setRow_new11 (w : World) (o p : Obj) (c c' : Array Value) (t : TypeId) : (((w.alloc o).alloc p).alloc (.cells c t)).setRow (w.heap.size + 1 + 1) c' = ((w.alloc o).alloc p).alloc (.cells c' t) := setRow_new2 w o p c c' t
theorem setRow_new111 (w : World) (o p q : Obj) (c c' : Array Value) (t : TypeId) : ((((w.alloc o).alloc p).alloc q).alloc (.cells c t)).setRow (w.heap.size + 1 + 1 + 1) c' = (((w.alloc o).alloc p).alloc q).alloc (.cells c' t) := by
  have e : w.heap.size + 1 + 1 + 1 = (((w.alloc o).alloc p).alloc q).heap.size := by simp
  rw [e]; exact setRow_new _ _ _ _
theorem Ext.setRow {a b : World} (h : Ext a b) {g : Nat} (hg : a.heap.size ≤ g) (cs : Array Value) : Ext a (b.setRow g cs) :=
  Below.trans h ⟨rfl, rfl, rfl, by simp [World.setRow], fun k hk => by simp only [World.setRow, Array.getElem?_modify]; rw [if_neg (by omega)]⟩

/-- type T has n cells and is loaded and stored whole -/
structure Whole (P : Program) (T n : Nat) : Prop where
  load : ∀ (w : World) (b : Nat) (cs : Array Value), Block w b cs → cs.size = n → (loadVar T ⟨b, 0, none⟩).run P w = .ok (.agg cs) w
  store : ∀ (w : World) (b : Nat) (old cs : Array Value), Block w b old → old.size = n → cs.size = n → cs.all (·.oneCell') = true → (storeVar T ⟨b, 0, none⟩ (.agg cs)).run P w = .ok () (w.setRow b cs)

theorem whole_of {P : Program} {T n : Nat} {d : TypeDesc} (hu : P.underlying T = some d) (hd : (match d with | .struct _ | .array _ _ => true | _ => false) = true) (hi : (P.info? T).map (·.size) = some n) : Whole P T n :=
  ⟨fun w b cs h hs => by
    obtain ⟨ty, hg⟩ := h.get
    exact run_loadVar_row w b ty T _ _ d hg hu hd (by rw [hs]; exact hi),
   fun w b old cs h h1 h2 h3 => by
    obtain ⟨ty, hg⟩ := h.get
    exact run_storeVar_row w b ty T old cs hg (by rw [h2]; exact hi) (by rw [h1, h2]) h3⟩

section
variable {P : Program} {ops : Array Oper} {o : Oper} {rest : List Oper} {a : Act} {x y : Operand} {T n b : Nat} {cs : Array Value}
theorem run_load_op {w : World} (L : Whole P T n) (ho : o.op = .load T x) (hx : a.eval x = .pointer (some ⟨b, 0, none⟩)) (hc : Block w b cs) (hsz : cs.size = n) :
    (execOp a.eval o).run P w = .ok (.value (.agg cs)) w := by
  unfold execOp
  simp only [ho, hx, Instr.loadAt, Instr.sureAddr, Sem.run_bind, Sem.run_pure, Result.andThen_ok, L.load w b cs hc hsz]

/-- the walk's arm: a whole struct is loaded -/
theorem wl_load {w : World} {Q : Exit → Act → World → Prop} (L : Whole P T n) (ho : o.op = .load T x) (hw : Region.wanted o (yielded ops a.tmps) = true) (hx : a.eval x = .pointer (some ⟨b, 0, none⟩))
    [hc : Block w b cs] (hsz : cs.size = n) (hk : wpList P ops Q rest (a.put o.dst (.agg cs)) w) : wpList P ops Q (o :: rest) a w := by
  refine wpList_step fun K hK => ?_
  rw [if_pos hw]
  unfold Oper.wp
  rw [run_load_op L ho hx hc hsz]
  exact hK _ _ hk

/-- the walk's arm: a whole struct is stored -/
theorem wl_store {w : World} {Q : Exit → Act → World → Prop} {old : Array Value} (L : Whole P T n) (ho : o.op = .store T x y) (hw : Region.wanted o (yielded ops a.tmps) = true) (hx : a.eval x = .pointer (some ⟨b, 0, none⟩)) (hy : a.eval y = .agg cs)
    [hc : Block w b old] (hold : old.size = n) (hsz : cs.size = n) (h1 : cs.all (·.oneCell') = true) (hk : wpList P ops Q rest (a.put o.dst undef) (w.setRow b cs)) : wpList P ops Q (o :: rest) a w := by
  refine wpList_step fun K hK => ?_
  rw [if_pos hw]
  unfold Oper.wp execOp
  simp only [ho, hx, hy, Instr.storeAt, Instr.sureAddr, Sem.run_bind, Sem.run_pure, Result.andThen_ok, L.store w b old cs hc hold hsz h1]
  exact hK _ _ hk

theorem q_load {w : World} {Q : Act → Prop} (L : Whole P T n) (ho : o.op = .load T x) (hw : Region.wanted o (yielded ops a.tmps) = true) (hx : a.eval x = .pointer (some ⟨b, 0, none⟩))
    [hc : Block w b cs] (hsz : cs.size = n) (hk : wpQuiet P ops (fun w' => ∃ n : ExtOf w, w' = n.val) Q rest (a.put o.dst (.agg cs))) : wpQuiet P ops (fun w' => ∃ n : ExtOf w, w' = n.val) Q (o :: rest) a := by
  refine wpQuiet_step fun K hK => ?_
  rw [if_pos hw]
  refine ⟨.agg cs, ?_, hK _ hk⟩
  rintro w' ⟨m, rfl⟩
  unfold Oper.quietAt
  rw [run_load_op L ho hx (inferInstance : Block m.val b cs) hsz]
  exact ⟨rfl, rfl⟩

theorem wanted_none {o : Oper} {y : Nat → Option Bool} (hg : o.guard = none) : Region.wanted o y = true := by simp [Region.wanted, hg]
theorem wanted_some {o : Oper} {tmps : Array Value} {j d : Nat} {want : Bool} (hg : o.guard = some (j, want)) (hj : (ops[j]?).bind (·.dst) = some d) (hv : tmps.getD d undef = .bool want) : Region.wanted o (yielded ops tmps) = true := by
  have hv' : tmps[d]? = some (.bool want) := by
    have h2 : tmps.getD d undef = (tmps[d]?).getD undef := by simp
    rw [h2] at hv
    cases h : tmps[d]? with
    | none => rw [h] at hv; simp [undef] at hv
    | some v => rw [h] at hv; simp at hv; rw [hv]
  simp [Region.wanted, hg, yielded, hj, hv']
section
variable {dst : Option Tmp} {ty : TypeId} {pos : String} {aft : Array Edge} {g : Option (Nat × Bool)}
/-- the same, the operation written out (it fails at once where it does not fit) -/
theorem wl_load' {w : World} {Q : Exit → Act → World → Prop} (L : Whole P T n) (hw : Region.wanted ⟨dst, .load T x, ty, pos, aft, g⟩ (yielded ops a.tmps) = true) (hx : a.eval x = .pointer (some ⟨b, 0, none⟩))
    (hc : Block w b cs) (hsz : cs.size = n) (hk : wpList P ops Q rest (a.put dst (.agg cs)) w) : wpList P ops Q (⟨dst, .load T x, ty, pos, aft, g⟩ :: rest) a w := wl_load (o := ⟨dst, .load T x, ty, pos, aft, g⟩) L rfl hw hx hsz hk
theorem wl_store' {w : World} {Q : Exit → Act → World → Prop} {old : Array Value} (L : Whole P T n) (hw : Region.wanted ⟨dst, .store T x y, ty, pos, aft, g⟩ (yielded ops a.tmps) = true) (hx : a.eval x = .pointer (some ⟨b, 0, none⟩)) (hy : a.eval y = .agg cs)
    (hc : Block w b old) (hold : old.size = n) (hsz : cs.size = n) (h1 : cs.all (·.oneCell') = true) (hk : wpList P ops Q rest (a.put dst undef) (w.setRow b cs)) : wpList P ops Q (⟨dst, .store T x y, ty, pos, aft, g⟩ :: rest) a w := wl_store (o := ⟨dst, .store T x y, ty, pos, aft, g⟩) L rfl hw hx hy hold hsz h1 hk
theorem q_load' {w : World} {Q : Act → Prop} (L : Whole P T n) (hw : Region.wanted ⟨dst, .load T x, ty, pos, aft, g⟩ (yielded ops a.tmps) = true) (hx : a.eval x = .pointer (some ⟨b, 0, none⟩))
    (hc : Block w b cs) (hsz : cs.size = n) (hk : wpQuiet P ops (fun w' => ∃ n : ExtOf w, w' = n.val) Q rest (a.put dst (.agg cs))) : wpQuiet P ops (fun w' => ∃ n : ExtOf w, w' = n.val) Q (⟨dst, .load T x, ty, pos, aft, g⟩ :: rest) a := q_load (o := ⟨dst, .load T x, ty, pos, aft, g⟩) L rfl hw hx hsz hk
end

/-- three struct results -/
theorem results_cell3 {fn : Func} {p0 p1 p2 : Tmp} {t0 t1 t2 n0 n1 n2 b0 b1 b2 : Nat} {tmps : Array Value} {w : World} {c0 c1 c2 : Array Value} (h : fn.results = #[.cell p0 t0, .cell p1 t1, .cell p2 t2])
    (L0 : Whole P t0 n0) (L1 : Whole P t1 n1) (L2 : Whole P t2 n2) (h0 : tmps.getD p0 undef = .pointer (some ⟨b0, 0, none⟩)) (h1 : tmps.getD p1 undef = .pointer (some ⟨b1, 0, none⟩)) (h2 : tmps.getD p2 undef = .pointer (some ⟨b2, 0, none⟩))
    [B0 : Block w b0 c0] [B1 : Block w b1 c1] [B2 : Block w b2 c2] (s0 : c0.size = n0) (s1 : c1.size = n1) (s2 : c2.size = n2) : (results fn tmps).run P w = .ok (.tuple #[.agg c0, .agg c1, .agg c2]) w := by
  have g0 : tmps[p0]?.getD undef = .pointer (some ⟨b0, 0, none⟩) := by simpa using h0
  have g1 : tmps[p1]?.getD undef = .pointer (some ⟨b1, 0, none⟩) := by simpa using h1
  have g2 : tmps[p2]?.getD undef = .pointer (some ⟨b2, 0, none⟩) := by simpa using h2
  simp [results, h, g0, g1, g2, asAddr, L0.load w b0 c0 B0 s0, L1.load w b1 c1 B1 s1, L2.load w b2 c2 B2 s2]
end

section
variable {P : Program} {ops : Array Oper} {Q : Exit → Act → World → Prop} {S : World → Prop} {listed : Array Bool} {fuel : Nat} {a : Act} {w : World}
theorem region_held {id : Nat} (hm : P.follows .mixedOrders = true) (h : wpAnyH P .any ops Q S ops.size (Array.replicate ops.size false) a w.drew) : (Code.region id ops true).wp P Q a w := wp_region_held hm h
/-- the world under a new name: what is known of it are blocks and that it extends another one -/
theorem wp_fresh4 {c : Code} {w0 : World} (b0 b1 b2 b3 : Nat) {c0 c1 c2 c3 : Array Value} (h0 : Block w b0 c0) (h1 : Block w b1 c1) (h2 : Block w b2 c2) (h3 : Block w b3 c3) (hx : Ext w0 w)
    (h : ∀ W, Block W b0 c0 → Block W b1 c1 → Block W b2 c2 → Block W b3 c3 → Hid (Ext w0 W) → c.wp P Q a W) : c.wp P Q a w := h w h0 h1 h2 h3 hx
/-- a store of a whole struct comes up alone -/
theorem ah_store {i T n b : Nat} {x y : Operand} {dst : Option Tmp} {ty : TypeId} {pos : String} {aft : Array Edge} {old cs : Array Value} (L : Whole P T n) (hi : ops[i]? = some ⟨dst, .store T x y, ty, pos, aft, none⟩)
    (hr : Region.ready .any ops listed = [i]) (hx : a.eval x = .pointer (some ⟨b, 0, none⟩)) (hy : a.eval y = .agg cs) (hc : Block w b old) (hold : old.size = n) (hsz : cs.size = n) (h1 : cs.all (·.oneCell') = true)
    (hS : S (w.setRow b cs)) (hk : wpAnyH P .any ops Q S fuel (listed.setIfInBounds i true) (a.put dst undef) (w.setRow b cs)) : wpAnyH P .any ops Q S (fuel + 1) listed a w := by
  refine wpAnyH_all hr (by simp) ?_
  intro j hj
  obtain rfl : j = i := by simpa using hj
  unfold wpOp
  rw [hi]
  simp only [Region.wanted, if_true]
  refine .inl ?_
  unfold Oper.wp execOp
  simp only [hx, hy, Instr.storeAt, Instr.sureAddr, Sem.run_bind, Sem.run_pure, Result.andThen_ok, L.store w b old cs hc hold hsz h1]
  exact ⟨hS, hk⟩
end

section
variable {P : Program}
theorem wp_region_ext {id : Nat} {Q : Exit → Act → World → Prop} {a : Act} {w : World} {l : List Oper} (hm : P.follows .mixedOrders = true) (hB : Region.lexB .any l.toArray = true)
    (h : wpQuiet P l.toArray (fun w' => ∃ n : ExtOf w, w' = n.val) (fun a' => ∀ w', (∃ n : ExtOf w, w' = n.val) → Q .normal a' w') l a) : (Code.region id l.toArray true).wp P Q a w :=
  wp_region_quiet (C := fun w' => ∃ n : ExtOf w, w' = n.val) hm hB (ExtOf.of (Ext.drew (Ext.refl w))) (by simpa using h)

/-- a callee that leaves old memory alone, met in a world that extends w -/
theorem ext_call {f : FuncId} {args : Array Value} {w : World} {n : ExtOf w} {v : Value}
    (h : Calls P f args n.val fun e w' => e = .returned v ∧ ∃ m : ExtOf n.val, w' = m.val) : Calls P f args n.val fun e w'' => e = .returned v ∧ ∃ m : ExtOf w, w'' = m.val :=
  h.mono fun _ _ ⟨he, m, hm⟩ => ⟨he, ExtOf.of (hm ▸ n.ext.trans m.ext)⟩
end

section
variable {H : Type} {enc : TypeId × Value → H} {P : Program}
theorem post_of_below {f : Func} {s : ChangeSpec} {apart fresh handsOn again : Bool} {W W' : World} {args : Array Value} {v : Value} {ds gs : List (DataW H)} {before pa pv : List MemPlace}
    (hW : DataW.Whole enc P f.params.toList s.vars apart W args.toList ds gs before)
    (hres : ∀ (b : Nat) (sp : Nat → Bool) (hd : Bool), DataW.TrodAll enc P W' b sp hd f.resultTypes.toList (v.resultList f.resultTypes.size) (s.fn H (ds ++ gs)).results [])
    (hargs : ∀ sp : Nat → Bool, (∀ p ∈ before, sp p.block = true) → DataW.TrodAll enc P W' 0 sp true f.params.toList args.toList (s.fn H (ds ++ gs)).args pa)
    (hvars : ∀ sp : Nat → Bool, (∀ p ∈ before, sp p.block = true) → DataW.TrodVars enc P W' sp s.vars (s.fn H (ds ++ gs)).vars pv)
    (hps : before = pa ++ pv) (hb : Below W.heap.size W W')
    (hok : ∀ (j : Nat) (t : TypeId) (r : Value), f.resultTypes[j]? = some t → (v.resultList f.resultTypes.size)[j]? = some r → Value.okWide P W' .any 0 t r) :
    s.post enc P f apart fresh handsOn again W args v W' := by
  have hlt : ∀ p ∈ before, p.block < W.heap.size := fun p hp => hW.lt p hp
  have hold : ∀ p ∈ before, (fun b => decide (b < W.heap.size)) p.block = true := fun p hp => by simpa using hlt p hp
  refine ⟨ds, gs, before, [], pa, pv, hW, hres _ _ _, hargs _ hold, hvars _ hold, World.keptBut_mono (fun p hp => ⟨hp, ?_⟩) (hb.frame (· ∈ before)), fun _ => ?_⟩
  · rw [hps, List.mem_append] at hp
    exact Or.inr hp
  · obtain ⟨_, _, _, _, _, hz, hn⟩ := hW
    refine ⟨hok, _, _, ([] ++ pa) ++ pv, ⟨[] ++ pa, pv, trodAll_append (hargs _ (fun _ _ => rfl)) (hres _ _ _), hvars _ (fun _ _ => rfl), rfl, ?_, ?_⟩, ?_⟩
    · intro b off hp
      have hin : MemPlace.cell b off ∈ before := by rw [hps]; simpa using hp
      rw [hb.frozen (hlt _ hin)]
      exact hz b off hin
    · intro ha
      have := hn ha
      rw [hps] at this
      simpa using this
    · intro p hp _
      rw [hps]
      simpa using hp

/-- every argument reads as it did, in a world that extends the old one -/
theorem trodAll_stays (hl : laidOutB P = true) {W W' : World} (hb : Below W.heap.size W W') {sp : Nat → Bool} : ∀ {ts : List TypeId} {vs : List Value} {ds : List (DataW H)} {ps : List MemPlace},
    (∀ t ∈ ts, P.readableRec t = true ∧ t < P.types.size) → DataW.TrodAll enc P W 0 (fun _ => true) true ts vs ds ps → (∀ p ∈ ps, p.block < W.heap.size) → (∀ p ∈ ps, sp p.block = true) →
    DataW.TrodAll enc P W' 0 sp true ts vs ds ps
  | [], [], [], _, _, h, _, _ => h
  | t :: ts, v :: vs, d :: ds, ps, hr, h, hlt, hs => by
    obtain ⟨p, q, h1, h2, rfl⟩ := h
    refine ⟨p, q, ?_, trodAll_stays hl hb (fun t ht => hr t (by simp [ht])) h2 (fun x hx => hlt x (by simp [hx])) (fun x hx => hs x (by simp [hx])), rfl⟩
    exact WideElems.Trod_stays hl (hr t (by simp)).1 (hr t (by simp)).2 h1 (fun x hx => hb.same (hlt x (by simp [hx]))) (fun x hx => hs x (by simp [hx]))
  | [], [], _ :: _, _, _, h, _, _ => h.elim
  | [], _ :: _, [], _, _, h, _, _ => h.elim
  | [], _ :: _, _ :: _, _, _, h, _, _ => h.elim
  | _ :: _, [], [], _, _, h, _, _ => h.elim
  | _ :: _, [], _ :: _, _, _, h, _, _ => h.elim
  | _ :: _, _ :: _, [], _, _, h, _, _ => h.elim

/-- THE LAST STEP OF A LAW: it has returned true, and old memory is as it was. -/
theorem law_post {f : Func} {s : ChangeSpec} {W W' : World} {args : Array Value} {ds gs : List (DataW H)} {before : List MemPlace} {tb : TypeId}
    (hl : laidOutB P = true) (hr : ∀ t ∈ f.params.toList, P.readableRec t = true ∧ t < P.types.size) (hres : f.resultTypes = #[tb]) (htb : P.underlying tb = some .bool) (hvars : s.vars = [])
    (hfn : ∀ ds, ds.length = f.params.size → (s.fn H ds).results = [.lit (.bool true)] ∧ (s.fn H ds).args = ds ∧ (s.fn H ds).vars = [])
    (hlen : ds.length = f.params.size)
    (hW : DataW.Whole enc P f.params.toList s.vars false W args.toList ds gs before) (hb : Below W.heap.size W W') :
    s.post enc P f false true false false W args (.bool true) W' := by
  have hW' := hW
  obtain ⟨p, q, hA, hV, rfl, hfz, hnd⟩ := hW
  rw [hvars] at hV
  obtain ⟨rfl, rfl⟩ := trodVars_none hV
  obtain ⟨e1, e2, e3⟩ := hfn ds hlen
  have hlt : ∀ x ∈ p, x.block < W.heap.size := fun x hx => hW'.lt x (by simp [hx])
  refine post_of_below (pa := p) (pv := []) hW' ?_ ?_ ?_ rfl hb ?_
  · intro b sp hd
    rw [List.append_nil, e1, hres]
    exact trodAll_cons_mk (shut_bool htb true) trodAll_mk0
  · intro sp hs
    rw [List.append_nil, e2]
    exact trodAll_stays hl hb hr hA hlt (fun x hx => hs x (by simp [hx]))
  · intro sp hs
    rw [List.append_nil, e3, hvars]
    exact rfl
  · exact ok_one hres rfl (okWide_bool_mk htb true)
end

section
variable {H : Type} {enc : TypeId × Value → H} {P : Program} {w : World} {base : Nat} {spare : Nat → Bool} {held : Bool}

/-- what a cell of an argument is: an integer (inl), a bool (inr inl true), a string (inr inl false), something else of a type (inr inr) -/
abbrev FK := IntKind ⊕ (Bool ⊕ TypeId)

/-- the kinds of the cells of a type, in order -/
def flat (P : Program) : Nat → TypeId → List FK
  | 0, t => [.inr (.inr t)]
  | n + 1, t =>
    match P.underlying t with
    | some (.int k) => [.inl k]
    | some .bool => [.inr (.inl true)]
    | some .string => [.inr (.inl false)]
    | some (.struct fs) => fs.toList.flatMap fun f => flat P n f.type
    | some (.array m e) => (List.range m).flatMap fun _ => flat P n e
    | _ => [.inr (.inr t)]

/-- the places of a struct's fields follow one another -/
def inRow (P : Program) : Nat → List Field → Bool
  | _, [] => true
  | n, f :: fs => f.offset == n && inRow P (n + P.cellsOf f.type) fs

/-- flat reads the type to its bottom, and its cells lie one behind the other -/
def laidB (P : Program) : Nat → TypeId → Bool
  | 0, t => P.cellsOf t == 1
  | n + 1, t =>
    match P.underlying t with
    | some (.int _) => true
    | some .bool => true
    | some .string => true
    | some (.struct fs) => inRow P 0 fs.toList && (fs.toList.map fun f => P.cellsOf f.type).sum == P.cellsOf t && fs.toList.all fun f => laidB P n f.type
    | some (.array m e) => m * P.cellsOf e == P.cellsOf t && laidB P n e
    | _ => P.cellsOf t == 1

def Fits (enc : TypeId × Value → H) (P : Program) (w : World) (base : Nat) (spare : Nat → Bool) (held : Bool) : List FK → List Value → Prop
  | [], [] => True
  | .inl k :: ks, v :: vs => (∃ n, v = .int k n ∧ (Lit.int k n).wf = true) ∧ Fits enc P w base spare held ks vs
  | .inr (.inl true) :: ks, v :: vs => (∃ b, v = .bool b) ∧ Fits enc P w base spare held ks vs
  | .inr (.inl false) :: ks, v :: vs => (∃ s, v = .string s ∧ s.size ≤ maxLen) ∧ Fits enc P w base spare held ks vs
  | .inr (.inr t) :: ks, v :: vs => (∃ n x, DataW.trod enc P w base spare held n t [v] = some x) ∧ Fits enc P w base spare held ks vs
  | _, _ => False

theorem Fits.append : ∀ {k1 k2 : List FK} {v1 v2 : List Value}, Fits enc P w base spare held k1 v1 → Fits enc P w base spare held k2 v2 → Fits enc P w base spare held (k1 ++ k2) (v1 ++ v2)
  | [], _, [], _, _, h => h
  | .inl _ :: _, _, _ :: _, _, ⟨h1, h2⟩, h => ⟨h1, Fits.append h2 h⟩
  | .inr (.inl true) :: _, _, _ :: _, _, ⟨h1, h2⟩, h => ⟨h1, Fits.append h2 h⟩
  | .inr (.inl false) :: _, _, _ :: _, _, ⟨h1, h2⟩, h => ⟨h1, Fits.append h2 h⟩
  | .inr (.inr _) :: _, _, _ :: _, _, ⟨h1, h2⟩, h => ⟨h1, Fits.append h2 h⟩
  | [], _, _ :: _, _, h, _ => h.elim
  | .inl _ :: _, _, [], _, h, _ => h.elim
  | .inr (.inl true) :: _, _, [], _, h, _ => h.elim
  | .inr (.inl false) :: _, _, [], _, h, _ => h.elim
  | .inr (.inr _) :: _, _, [], _, h, _ => h.elim

theorem fits_fields (n : Nat) (IH : ∀ (t : TypeId) (cs : List Value) (fuel : Nat) (x : DataW H × List MemPlace), laidB P n t = true → cs.length = P.cellsOf t → DataW.trod enc P w base spare held fuel t cs = some x → Fits enc P w base spare held (flat P n t) cs) :
    ∀ (fs : List Field) (off : Nat) (cs : List Value), inRow P off fs = true → cs.length = off + (fs.map fun f => P.cellsOf f.type).sum → (fs.all fun f => laidB P n f.type) = true →
      (∀ f ∈ fs, ∃ fuel x, DataW.trod enc P w base spare held fuel f.type ((cs.drop f.offset).take (P.cellsOf f.type)) = some x) → Fits enc P w base spare held (fs.flatMap fun f => flat P n f.type) (cs.drop off)
  | [], off, cs, _, hl, _, _ => by
    have : cs.drop off = [] := List.drop_of_length_le (by simp at hl; omega)
    rw [this]; exact trivial
  | f :: fs, off, cs, hr, hl, ha, ht => by
    simp only [inRow, Bool.and_eq_true, beq_iff_eq] at hr
    obtain ⟨rfl, hr⟩ := hr
    simp only [List.all_cons, Bool.and_eq_true] at ha
    simp only [List.map_cons, List.sum_cons] at hl
    obtain ⟨fuel, x, hx⟩ := ht f (by simp)
    have h1 := IH f.type _ fuel x ha.1 (by simp; omega) hx
    have h2 := fits_fields n IH fs (f.offset + P.cellsOf f.type) cs hr (by omega) ha.2 (fun g hg => ht g (by simp [hg]))
    have e : cs.drop f.offset = (cs.drop f.offset).take (P.cellsOf f.type) ++ cs.drop (f.offset + P.cellsOf f.type) := by
      rw [← List.drop_drop, List.take_append_drop]
    rw [e, List.flatMap_cons]
    exact h1.append h2

theorem fits_elems (n : Nat) (e : TypeId) (IH : ∀ (cs : List Value) (fuel : Nat) (x : DataW H × List MemPlace), cs.length = P.cellsOf e → DataW.trod enc P w base spare held fuel e cs = some x → Fits enc P w base spare held (flat P n e) cs) :
    ∀ (m k : Nat) (cs : List Value), cs.length = (k + m) * P.cellsOf e → (∀ i, i < k + m → ∃ fuel x, DataW.trod enc P w base spare held fuel e ((cs.drop (i * P.cellsOf e)).take (P.cellsOf e)) = some x) →
      Fits enc P w base spare held ((List.range m).flatMap fun _ => flat P n e) (cs.drop (k * P.cellsOf e))
  | 0, k, cs, hl, _ => by
    have : cs.drop (k * P.cellsOf e) = [] := List.drop_of_length_le (by simp at hl; omega)
    rw [this]; exact trivial
  | m + 1, k, cs, hl, ht => by
    obtain ⟨fuel, x, hx⟩ := ht k (by omega)
    have hle : (k + 1) * P.cellsOf e ≤ (k + (m + 1)) * P.cellsOf e := Nat.mul_le_mul_right _ (by omega)
    have hk : (k + 1) * P.cellsOf e = k * P.cellsOf e + P.cellsOf e := Nat.succ_mul _ _
    have h1 := IH _ fuel x (by simp; omega) hx
    have h2 := fits_elems n e IH m (k + 1) cs (by rw [hl]; congr 1; omega) (fun i hi => ht i (by omega))
    have e1 : cs.drop (k * P.cellsOf e) = (cs.drop (k * P.cellsOf e)).take (P.cellsOf e) ++ cs.drop ((k + 1) * P.cellsOf e) := by
      rw [hk, ← List.drop_drop, List.take_append_drop]
    have e2 : ((List.range (m + 1)).flatMap fun _ => flat P n e) = flat P n e ++ (List.range m).flatMap fun _ => flat P n e := by
      rw [List.range_succ_eq_map, List.flatMap_cons, List.flatMap_map]
    rw [e1, e2]
    exact h1.append h2

/-- THE CELLS OF AN ARGUMENT, kind by kind -/
theorem fits_of_trod : ∀ (n : Nat) (t : TypeId) (cs : List Value) (fuel : Nat) (x : DataW H × List MemPlace), laidB P n t = true → cs.length = P.cellsOf t →
    DataW.trod enc P w base spare held fuel t cs = some x → Fits enc P w base spare held (flat P n t) cs := by
  intro n
  have leaf : ∀ (t : TypeId) (cs : List Value) (fuel : Nat) (x : DataW H × List MemPlace), P.cellsOf t = 1 → cs.length = P.cellsOf t → DataW.trod enc P w base spare held fuel t cs = some x → Fits enc P w base spare held [.inr (.inr t)] cs := by
    intro t cs fuel x h1 hl h
    rw [h1] at hl
    obtain ⟨v, rfl⟩ := List.length_eq_one_iff.1 hl
    exact ⟨⟨fuel, x, h⟩, trivial⟩
  induction n with
  | zero => intro t cs fuel x hb hl h; exact leaf t cs fuel x (by simpa [laidB] using hb) hl h
  | succ n IH =>
    intro t cs fuel x hb hl h
    unfold laidB at hb
    unfold flat
    split at hb
    · rename_i k hk
      obtain ⟨m, rfl, _, hw⟩ := DataW.trod_int hk h
      exact ⟨⟨m, rfl, hw⟩, trivial⟩
    · rename_i hk
      obtain ⟨b, rfl, _⟩ := DataW.trod_bool hk h
      exact ⟨⟨b, rfl⟩, trivial⟩
    · rename_i hk
      obtain ⟨s, rfl, _, hs⟩ := DataW.trod_string hk h
      exact ⟨⟨s, rfl, hs⟩, trivial⟩
    · rename_i fs hk
      simp only [Bool.and_eq_true, beq_iff_eq] at hb
      obtain ⟨⟨hr, hsum⟩, hall⟩ := hb
      obtain ⟨xs, m, rfl, _, _, hxl, hf⟩ := DataW.trod_struct hk h
      have := fits_fields (enc := enc) (w := w) (base := base) (spare := spare) (held := held) n IH fs.toList 0 cs hr (by omega) hall (fun f hm => by
        obtain ⟨i, hi, e⟩ := List.getElem_of_mem hm
        have hi' : i < fs.size := by simpa using hi
        have h2 := hf i f (by rw [Array.getElem?_eq_getElem hi', ← e]; simp)
        exact ⟨m, xs[i]'(by omega), by rw [h2, List.getElem?_eq_getElem]⟩)
      simpa using this
    · rename_i m e hk
      simp only [Bool.and_eq_true, beq_iff_eq] at hb
      obtain ⟨hm, hb⟩ := hb
      obtain ⟨xs, q, rfl, _, _, hxl, hf⟩ := DataW.trod_array hk h
      have := fits_elems (enc := enc) (w := w) (base := base) (spare := spare) (held := held) n e (fun cs fuel x => IH e cs fuel x hb) m 0 cs (by rw [hl, ← hm]; simp) (fun i hi => by
        exact ⟨q, xs[i]'(by omega), by rw [hf i (by omega), List.getElem?_eq_getElem]⟩)
      simpa using this
    · rename_i h1 h2 h3 h4 h5
      exact leaf t cs fuel x (by simpa using hb) hl h

/-- a struct or array argument: its value and the kinds of its cells -/
theorem open_flat {r : Reach} {b0 : Nat} (n : Nat) {t : TypeId} {v : Value} {d : DataW H} {p : List MemPlace} (hb : laidB P n t = true) (ha : (∃ fs, P.underlying t = some (.struct fs)) ∨ ∃ m e, P.underlying t = some (.array m e))
    (hv : Value.okWide P w r b0 t v) (h : DataW.Trod enc P w base spare held t v d p) : ∃ cs : List Value, v = .agg cs.toArray ∧ Fits enc P w base spare held (flat P n t) cs := by
  obtain ⟨fuel, hf⟩ := h
  have hv' : ∃ cs, v = .agg cs ∧ cs.size = P.cellsOf t := by
    unfold Value.okWide at hv
    rcases ha with ⟨fs, hs⟩ | ⟨m, e, hs⟩ <;> rw [hs] at hv
    · obtain ⟨cs, h1, h2, _⟩ := hv; exact ⟨cs, h1, h2⟩
    · obtain ⟨cs, h1, h2, _⟩ := hv; exact ⟨cs, h1, h2⟩
  obtain ⟨cs, rfl, hsz⟩ := hv'
  exact ⟨cs.toList, by simp, fits_of_trod n t _ fuel _ hb (by simp [Value.cells, hsz]) hf⟩

section
variable {ks : List FK} {cs : List Value}
theorem Fits.int {k : IntKind} (h : Fits enc P w base spare held (.inl k :: ks) cs) : ∃ (n : Int) (vs : List Value), cs = .int k n :: vs ∧ (Lit.int k n).wf = true ∧ Fits enc P w base spare held ks vs := by
  match cs, h with
  | v :: vs, ⟨⟨n, e, hw⟩, h2⟩ => exact ⟨n, vs, by rw [e], hw, h2⟩
theorem Fits.bool (h : Fits enc P w base spare held (.inr (.inl true) :: ks) cs) : ∃ (b : Bool) (vs : List Value), cs = .bool b :: vs ∧ Fits enc P w base spare held ks vs := by
  match cs, h with
  | v :: vs, ⟨⟨n, e⟩, h2⟩ => exact ⟨n, vs, by rw [e], h2⟩
theorem Fits.str (h : Fits enc P w base spare held (.inr (.inl false) :: ks) cs) : ∃ (s : ByteArray) (vs : List Value), cs = .string s :: vs ∧ s.size ≤ maxLen ∧ Fits enc P w base spare held ks vs := by
  match cs, h with
  | v :: vs, ⟨⟨s, e, hs⟩, h2⟩ => exact ⟨s, vs, by rw [e], hs, h2⟩
theorem Fits.other {t : TypeId} (h : Fits enc P w base spare held (.inr (.inr t) :: ks) cs) : ∃ (v : Value) (vs : List Value), cs = v :: vs ∧ (∃ n x, DataW.trod enc P w base spare held n t [v] = some x) ∧ Fits enc P w base spare held ks vs := by
  match cs, h with
  | v :: vs, ⟨h1, h2⟩ => exact ⟨v, vs, rfl, h1, h2⟩
theorem Fits.nil (h : Fits enc P w base spare held [] cs) : cs = [] := by
  match cs, h with
  | [], _ => rfl
end
end
end Go.Proofs.YtjflmmipjeangaaGreatDoor
end
/-
  More program-independent ground: what a cell that is a slice reads as.
-/
section
set_option linter.unusedVariables false
set_option linter.unusedSimpArgs false
namespace Go.Proofs.YtjflmmipjeangaaGreatDoor
open Go.RowKit Go.WideShapes Go.ChangeShapes

section
variable {H : Type} {enc : TypeId × Value → H} {P : Program} {w : World} {base : Nat} {spare : Nat → Bool} {held : Bool}
theorem trod_slice_form {t e : TypeId} {v : Value} {fuel : Nat} {x : DataW H × List MemPlace} (ht : P.underlying t = some (.slice e)) (h : DataW.trod enc P w base spare held fuel t [v] = some x) :
    v = .slice none 0 0 ∨ ∃ a l c, v = .slice (some a) l c := by
  cases fuel with
  | zero => simp [DataW.trod] at h
  | succ n =>
    unfold DataW.trod at h
    rw [ht] at h
    split at h <;> simp_all
theorem trod_slice_one {t e : TypeId} {v : Value} (ht : P.underlying t = some (.slice e)) (h : ∃ fuel x, DataW.trod enc P w base spare held fuel t [v] = some x) : v.oneCell' = true := by
  obtain ⟨fuel, x, h⟩ := h
  rcases trod_slice_form ht h with rfl | ⟨a, l, c, rfl⟩ <;> rfl
end
end Go.Proofs.YtjflmmipjeangaaGreatDoor
end
/-
  More program-independent ground: an allocation in a region that draws its order; worlds under a new name with what is known of their blocks.
-/
section
set_option linter.unusedVariables false
set_option linter.unusedSimpArgs false
namespace Go.Proofs.YtjflmmipjeangaaGreatDoor
open Go.RowKit Go.WideShapes Go.ChangeShapes

section
variable {P : Program} {ops : Array Oper} {Q : Exit → Act → World → Prop} {S : World → Prop} {listed : Array Bool} {fuel : Nat} {a : Act} {w : World}
/-- an allocation comes up -/
theorem wpOp_alloc {i T d b : Nat} {ty : TypeId} {pos : String} {aft : Array Edge} {cs : Array Value} {K : Act → World → Prop} (hi : ops[i]? = some ⟨some d, .alloc T, ty, pos, aft, none⟩)
    (hb : w.heap.size = b) (hz : (Instr.alloc T true (.tuple #[])).run P w = .ok (.pointer (some ⟨w.heap.size, 0, none⟩)) (w.alloc (.cells cs T)))
    (hk : K (a.put (some d) (.pointer (some ⟨b, 0, none⟩))) (w.alloc (.cells cs T))) : wpOp P ops Q i K a w := by
  subst hb
  unfold wpOp
  rw [hi]
  simp only [Region.wanted, if_true]
  refine .inl ?_
  unfold Oper.wp execOp
  simp only [Sem.run_bind, hz, Result.andThen_ok, Sem.run_pure]
  exact hk
end
instance {w : World} {b : Nat} [h : Old b w] : Apart b (w.heap.size + 1) := ⟨by have := h.lt; omega⟩
instance {w : World} {b : Nat} [h : Old b w] : Apart (w.heap.size + 1) b := ⟨by have := h.lt; omega⟩
theorem Block.old {w : World} {b : Nat} {cs : Array Value} (h : Block w b cs) : Old b w := ⟨h.lt⟩
end Go.Proofs.YtjflmmipjeangaaGreatDoor
end
/-
  More program-independent ground: slices that read as lists; slices of a call's own; worlds that are alike below a block.
-/
section
set_option linter.unusedVariables false
set_option linter.unusedSimpArgs false
namespace Go.Proofs.YtjflmmipjeangaaGreatDoor
open Go.RowKit Go.WideShapes Go.ChangeShapes

/-- the worlds that are as w is below block B -/
def ExtB (B : Nat) (w : World) : Type := { w' : World // Below B w w' }
def ExtB.val {B : Nat} {w : World} (n : ExtB B w) : World := Subtype.val n
theorem ExtB.below {B : Nat} {w : World} (n : ExtB B w) : Below B w n.val := n.2
theorem ExtB.of {B : Nat} {w w' : World} (h : Below B w w') : ∃ n : ExtB B w, w' = n.val := ⟨⟨w', h⟩, rfl⟩
/-- block b lies below B -/
class Under (b B : Nat) : Prop where
  lt : b < B
instance {w : World} {b : Nat} [h : Old b w] : Under b w.heap.size := ⟨h.lt⟩
instance {B : Nat} {w : World} {b : Nat} [h : Old b w] (n : ExtB B w) : Old b n.val := ⟨Nat.lt_of_lt_of_le h.lt n.below.size⟩
instance {B : Nat} {w : World} {b : Nat} {cs : Array Value} [h : Block w b cs] [hu : Under b B] (n : ExtB B w) : Block n.val b cs := ⟨by obtain ⟨t, e⟩ := h.get; exact ⟨t, by rw [n.below.block b hu.lt]; exact e⟩⟩
theorem ExtB.cell {B : Nat} {w : World} (n : ExtB B w) (b o : Nat) [h : Under b B] : n.val.cell? ⟨b, o, none⟩ = w.cell? ⟨b, o, none⟩ := Below.cell (p := ⟨b, o, none⟩) n.below h.lt
theorem ExtB.frozen {B : Nat} {w : World} (n : ExtB B w) (b o : Nat) [h : Under b B] : n.val.frozen? ⟨b, o, none⟩ = w.frozen? ⟨b, o, none⟩ := Below.frozen (p := ⟨b, o, none⟩) n.below h.lt
theorem Ext.below {w0 w : World} {B : Nat} (h : Ext w0 w) (hB : w0.heap.size ≤ B) (n : ExtB B w) : Ext w0 n.val := Below.trans h (Below.mono n.below hB)
theorem Old.of_cell {w : World} {b o : Nat} {v : Value} (h : w.cell? ⟨b, o, none⟩ = some v) : Old b w := ⟨World.block_lt_of_cell? w ⟨b, o, none⟩ h⟩
theorem Ext.cell {w w' : World} (h : Ext w w') {b o : Nat} {v : Value} (hc : w.cell? ⟨b, o, none⟩ = some v) : w'.cell? ⟨b, o, none⟩ = some v :=
  (Below.cell (p := ⟨b, o, none⟩) h (World.block_lt_of_cell? w ⟨b, o, none⟩ hc)).trans hc

theorem alloc_cell {w : World} (o : Obj) (b off : Nat) [h : Old b w] : (w.alloc o).cell? ⟨b, off, none⟩ = w.cell? ⟨b, off, none⟩ := World.cell?_alloc_past _ _ _ h.lt
theorem alloc_frozen {w : World} (o : Obj) (b off : Nat) [h : Old b w] : (w.alloc o).frozen? ⟨b, off, none⟩ = w.frozen? ⟨b, off, none⟩ := World.frozen?_alloc_past _ _ _ h.lt
section
variable {P : Program} {ops : Array Oper} {Q : Exit → Act → World → Prop} {a : Act} {w : World}
/-- a call of a Go function comes up in a region that draws its order -/
theorem wpOp_call {i : Nat} {o : Oper} {f : FuncId} {vals : Array Value} {K : Act → World → Prop} (hi : ops[i]? = some o) (hg : o.guard = none) (he : (execOp a.eval o).run P w = .ok (.enter f vals) w)
    (hc : Calls P f vals w fun e w' => ∃ v, e = .returned v ∧ K (a.put o.dst v) w') : wpOp P ops Q i K a w := by
  unfold wpOp
  rw [hi]
  simp only [Region.wanted, hg, if_true]
  refine .inl ?_
  unfold Oper.wp
  rw [he]
  exact hc.mono fun e w' ⟨v, h1, h2⟩ => by subst h1; exact h2
end
section
variable {α : Type} {enc : α → List Value} {k : Nat}
/-- v is a slice that reads as the list l in w, each element in k cells -/
def SliceOf (enc : α → List Value) (k : Nat) (w : World) (v : Value) (l : List α) : Prop :=
  ∃ p cap, v = .slice p l.length cap ∧ l.length ≤ cap ∧ cap ≤ maxLen ∧ (p = none → cap = 0) ∧ ∀ i x, l[i]? = some x → ∃ b off, p = some ⟨b, off, none⟩ ∧ ∀ j u, (enc x)[j]? = some u → w.cell? ⟨b, off + (i * k + j), none⟩ = some u
theorem SliceOf.ext {w w' : World} {v : Value} {l : List α} (h : SliceOf enc k w v l) (hx : Ext w w') : SliceOf enc k w' v l := by
  obtain ⟨p, cap, e, h1, h2, h3, h4⟩ := h
  refine ⟨p, cap, e, h1, h2, h3, fun i x hi => ?_⟩
  obtain ⟨b, off, hp, hc⟩ := h4 i x hi
  exact ⟨b, off, hp, fun j u hj => hx.cell (hc j u hj)⟩
theorem SliceOf.nil (w : World) : SliceOf enc k w (.slice none 0 0) [] := ⟨none, 0, rfl, Nat.le_refl _, Nat.zero_le _, fun _ => rfl, fun i x h => by simp at h⟩

theorem SliceOf.setCell {w : World} {p : Option Addr} {n cap : Nat} {l : List α} (h : SliceOf enc k w (.slice p n cap) l) {g i : Nat} (hne : ∀ a, p = some a → a.block ≠ g) (x : Value) : SliceOf enc k (w.setCell ⟨g, i, none⟩ x) (.slice p n cap) l := by
  obtain ⟨p', cap', e, h1, h2, h3, h4⟩ := h
  refine ⟨p', cap', e, h1, h2, h3, fun i' x' hi => ?_⟩
  simp only [Value.slice.injEq] at e
  obtain ⟨rfl, _, _⟩ := e
  obtain ⟨b, off, hp, hc⟩ := h4 i' x' hi
  refine ⟨b, off, hp, fun j u hj => ?_⟩
  have hb : b ≠ g := hne _ hp
  rw [World.cell?_setCell_other _ _ _ _ (by simp [hb])]
  exact hc j u hj
theorem flatMap_get {l : List α} (hk : ∀ x, (enc x).length = k) : ∀ {i : Nat} {x : α} {j : Nat} {u : Value}, l[i]? = some x → (enc x)[j]? = some u → (l.flatMap enc)[i * k + j]? = some u := by
  induction l with
  | nil => intro i x j u h; simp at h
  | cons y l ih =>
    intro i x j u hi hj
    rw [List.flatMap_cons]
    cases i with
    | zero =>
      simp only [List.getElem?_cons_zero, Option.some.injEq] at hi
      subst hi
      have hlt : j < (enc y).length := (List.getElem?_eq_some_iff.1 hj).1
      rw [Nat.zero_mul, Nat.zero_add, List.getElem?_append_left hlt]
      exact hj
    | succ i =>
      rw [List.getElem?_cons_succ] at hi
      have e : (i + 1) * k + j = (enc y).length + (i * k + j) := by rw [hk, Nat.succ_mul]; omega
      rw [e, List.getElem?_append_right (by omega), Nat.add_sub_cancel_left]
      exact ih hi hj
theorem flatMap_len {l : List α} (hk : ∀ x, (enc x).length = k) : (l.flatMap enc).length = l.length * k := by
  induction l with
  | nil => simp
  | cons y l ih => rw [List.flatMap_cons, List.length_append, ih, hk, List.length_cons, Nat.succ_mul]; omega

/-- a slice of the call's own, from block base on, that holds l -/
def Own (enc : α → List Value) (k : Nat) (E : TypeId) (base : Nat) (w : World) (v : Value) (l : List α) : Prop := w.ownsRow base E k v l.length (l.flatMap enc)
theorem Own.nil {E base : Nat} (w : World) : Own enc k E base w (.slice none 0 0) [] := World.ownsRow_nil w base E k
theorem Own.slice {E base : Nat} {w : World} {v : Value} {l : List α} (hk : ∀ x, (enc x).length = k) (h : Own enc k E base w v l) : SliceOf enc k w v l := by
  have h0 := h
  obtain ⟨hl, h | ⟨g, cap, cur, rfl, hb, hg, hn, hc, hs, ht⟩⟩ := h
  · obtain ⟨rfl, hn⟩ := h
    have : l = [] := List.eq_nil_of_length_eq_zero hn
    subst this
    exact SliceOf.nil w
  · refine ⟨_, cap, rfl, hn, hc, (fun h => by cases h), fun i x hi => ⟨g, 0, rfl, fun j u hj => ?_⟩⟩
    have h1 := flatMap_get hk hi hj
    have h2 := h0.cells (g := g) rfl (i * k + j) u h1
    rw [Nat.zero_add]
    have hadd : (⟨g, 0, none⟩ : Addr).add (i * k + j) = ⟨g, i * k + j, none⟩ := by unfold Addr.add; split <;> simp_all
    rw [hadd] at h2
    exact h2
theorem Own.alloc {E base : Nat} {w : World} {v : Value} {l : List α} (h : Own enc k E base w v l) (o : Obj) : Own enc k E base (w.alloc o) v l := World.ownsRow.alloc h o
theorem Own.of_ext {E base : Nat} {w : World} {v : Value} {l : List α} (h : Own enc k E base w v l) (n : ExtOf w) : Own enc k E base n.val v l := by
  refine ⟨h.1, ?_⟩
  rcases h.2 with hn | ⟨g, cap, cur, rfl, hb, hgg, rest⟩
  · exact .inl hn
  · refine .inr ⟨g, cap, cur, rfl, hb, ?_, rest⟩
    rw [n.ext.block g (Array.getElem?_eq_some_iff.1 hgg).1]
    exact hgg
theorem Own.drew {E base : Nat} {w : World} {v : Value} {l : List α} (h : Own enc k E base w v l) : Own enc k E base w.drew v l := h
/-- one more element, by append: the operation written out -/
theorem wl_append1 {P : Program} {ops : Array Oper} {rest : List Oper} {a : Act} {Q : Exit → Act → World → Prop} {w : World} {dst : Option Tmp} {ty : TypeId} {pos : String} {aft : Array Edge} {s x : Operand} {t E : TypeId} {i : TypeInfo} {z : Value} {bytes base : Nat} {v : Value} {l : List α} {y : α} {b c : Nat} {cs : Array Value}
    (ht : P.underlying t = some (.slice E)) (hi : P.info? E = some i) (hz : i.zero = some z) (hsize : i.size = k) (hby : i.bytes = bytes) (hzs : z.cells.size = k) (hk0 : 0 < k) (hk : ∀ x, (enc x).length = k) (h1 : ∀ x, ∀ u ∈ enc x, u.oneCell' = true)
    (hs : a.eval s = v) (hx : a.eval x = .slice (some ⟨b, 0, none⟩) 1 c) (hown : Own enc k E base w v l) (hb : Block w b cs) (hcs : cs.toList = enc y) (h63 : l.length + 1 ≤ maxLen) (hbytes : (l.length + 1) * bytes ≤ 140737488355328) (hbase : base ≤ w.heap.size)
    (h : ∀ (v' : Value) (n : ExtB base w), Own enc k E base n.val v' (l ++ [y]) → wpList P ops Q rest (a.put dst v') n.val) :
    wpList P ops Q (⟨dst, .call { callee := .builtin .append, args := #[s, x], argTypes := #[t, t] }, ty, pos, aft, none⟩ :: rest) a w := by
  refine wpList_append_own (o := ⟨dst, .call { callee := .builtin .append, args := #[s, x], argTypes := #[t, t] }, ty, pos, aft, none⟩) w rfl s x t rfl base E i z k bytes ht hi hz hsize hby hzs hk0 v l.length (l.flatMap enc) hs hown ⟨b, 0, none⟩ 1 c (enc y) hx (by rw [hk, Nat.one_mul]) ?_ (h1 y) h63 hbytes hbase ?_
  · intro j u hj
    have hadd : (⟨b, 0, none⟩ : Addr).add j = ⟨b, j, none⟩ := by unfold Addr.add; split <;> simp_all
    rw [hadd, Block.cell (h := hb), ← hj, ← hcs]
    simp
  · intro v' w' ho hg _
    have hbl : Below base w w' := ⟨hg.os, hg.tape, hg.output, hg.size, fun q hq => hg.block q (by omega) (fun e => by have := (World.ownsRow.lt hown q e.symm).1; omega)⟩
    refine h v' ⟨w', hbl⟩ ?_
    show w'.ownsRow base E k v' (l ++ [y]).length ((l ++ [y]).flatMap enc)
    rw [List.flatMap_append, List.length_append]
    simpa using ho
end
end Go.Proofs.YtjflmmipjeangaaGreatDoor
end
/-
  More program-independent ground: append of a slice that reads as a list; append of zeros to nil.
-/
section
set_option linter.unusedVariables false
set_option linter.unusedSimpArgs false
namespace Go.Proofs.YtjflmmipjeangaaGreatDoor
open Go.RowKit Go.WideShapes Go.ChangeShapes

section
variable {α : Type} {enc : α → List Value} {k : Nat}
theorem SliceOf.cells {w : World} {b off n cap : Nat} {l : List α} (hk : ∀ x, (enc x).length = k) (hk0 : 0 < k) (h : SliceOf enc k w (.slice (some ⟨b, off, none⟩) n cap) l) : ∀ j u, (l.flatMap enc)[j]? = some u → w.cell? ((⟨b, off, none⟩ : Addr).add j) = some u := by
  obtain ⟨p', cap', e, h1, h2, h3, h4⟩ := h
  simp only [Value.slice.injEq] at e
  obtain ⟨rfl, _, _⟩ := e
  intro j u hj
  have hlt : j < l.length * k := by have := (List.getElem?_eq_some_iff.1 hj).1; rwa [flatMap_len hk] at this
  have hi : j / k < l.length := (Nat.div_lt_iff_lt_mul hk0).2 hlt
  have hm : j % k < (enc l[j / k]).length := by rw [hk]; exact Nat.mod_lt _ hk0
  have hg := flatMap_get hk (List.getElem?_eq_getElem hi) (List.getElem?_eq_getElem hm)
  have ej : j / k * k + j % k = j := by rw [Nat.mul_comm]; exact Nat.div_add_mod j k
  rw [ej] at hg
  rw [hg] at hj
  obtain ⟨b', off', hp, hc⟩ := h4 _ _ (List.getElem?_eq_getElem hi)
  obtain ⟨rfl, rfl⟩ : b = b' ∧ off = off' := by simpa using hp
  have := hc (j % k) _ (List.getElem?_eq_getElem hm)
  rw [ej] at this
  have hadd : (⟨b, off, none⟩ : Addr).add j = ⟨b, off + j, none⟩ := by unfold Addr.add; split <;> simp_all
  rw [hadd, this]
  exact hj
/-- append of a whole slice to a slice of the call's own -/
theorem wl_appendS {P : Program} {ops : Array Oper} {rest : List Oper} {a : Act} {Q : Exit → Act → World → Prop} {w : World} {dst : Option Tmp} {ty : TypeId} {pos : String} {aft : Array Edge} {s x : Operand} {t E : TypeId} {i : TypeInfo} {z : Value} {bytes base : Nat} {v : Value} {l m : List α} {p : Option Addr} {n c : Nat}
    (ht : P.underlying t = some (.slice E)) (hi : P.info? E = some i) (hz : i.zero = some z) (hsize : i.size = k) (hby : i.bytes = bytes) (hzs : z.cells.size = k) (hk0 : 0 < k) (hk : ∀ x, (enc x).length = k) (h1 : ∀ x, ∀ u ∈ enc x, u.oneCell' = true)
    (hs : a.eval s = v) (hx : a.eval x = .slice p n c) (hown : Own enc k E base w v l) (hb : SliceOf enc k w (.slice p n c) m) (h63 : l.length + m.length ≤ maxLen) (hbytes : (l.length + m.length) * bytes ≤ 140737488355328) (hbase : base ≤ w.heap.size)
    (h : ∀ (v' : Value) (n : ExtB base w), Own enc k E base n.val v' (l ++ m) → wpList P ops Q rest (a.put dst v') n.val) :
    wpList P ops Q (⟨dst, .call { callee := .builtin .append, args := #[s, x], argTypes := #[t, t] }, ty, pos, aft, none⟩ :: rest) a w := by
  have hb0 := hb
  obtain ⟨p', c', e, e1, e2, e3, e4⟩ := hb
  simp only [Value.slice.injEq] at e
  obtain ⟨rfl, rfl, rfl⟩ := e
  cases p with
  | none =>
    have hc : c = 0 := e3 rfl
    subst hc
    have hm0 : m = [] := List.eq_nil_of_length_eq_zero (by omega)
    subst hm0
    refine wpList_append_own_none (o := ⟨dst, .call { callee := .builtin .append, args := #[s, x], argTypes := #[t, t] }, ty, pos, aft, none⟩) rfl s x t rfl base E i k ht hi v l.length (l.flatMap enc) hs hown (by simpa using hx) ?_
    have := h v ⟨w, Below.refl _ _⟩ (by rw [List.append_nil]; exact hown)
    exact this
  | some ad =>
    by_cases hm0 : m = []
    · subst hm0
      refine wpList_append_own (o := ⟨dst, .call { callee := .builtin .append, args := #[s, x], argTypes := #[t, t] }, ty, pos, aft, none⟩) w rfl s x t rfl base E i z k bytes ht hi hz hsize hby hzs hk0 v l.length (l.flatMap enc) hs hown ad 0 c [] (by simpa using hx) (by simp) (fun j u hj => by simp at hj) (fun u hu => by simp at hu) (by simpa using h63) (by simpa using hbytes) hbase ?_
      intro v' w' ho hg _
      have hbl : Below base w w' := ⟨hg.os, hg.tape, hg.output, hg.size, fun q hq => hg.block q (by omega) (fun e => by have := (World.ownsRow.lt hown q e.symm).1; omega)⟩
      refine h v' ⟨w', hbl⟩ ?_
      show w'.ownsRow base E k v' (l ++ []).length ((l ++ []).flatMap enc)
      simpa using ho
    · obtain ⟨b, off, hp, _⟩ := e4 0 (m[0]'(by cases m; simp at hm0; simp)) (List.getElem?_eq_getElem _)
      obtain rfl : ad = ⟨b, off, none⟩ := by simpa using hp
      refine wpList_append_own (o := ⟨dst, .call { callee := .builtin .append, args := #[s, x], argTypes := #[t, t] }, ty, pos, aft, none⟩) w rfl s x t rfl base E i z k bytes ht hi hz hsize hby hzs hk0 v l.length (l.flatMap enc) hs hown _ m.length c (m.flatMap enc) hx (flatMap_len hk) (SliceOf.cells hk hk0 hb0) (fun u hu => by obtain ⟨y, _, hy⟩ := List.mem_flatMap.1 hu; exact h1 y u hy) h63 hbytes hbase ?_
      intro v' w' ho hg _
      have hbl : Below base w w' := ⟨hg.os, hg.tape, hg.output, hg.size, fun q hq => hg.block q (by omega) (fun e => by have := (World.ownsRow.lt hown q e.symm).1; omega)⟩
      refine h v' ⟨w', hbl⟩ ?_
      show w'.ownsRow base E k v' (l ++ m).length ((l ++ m).flatMap enc)
      rw [List.flatMap_append, List.length_append]
      exact ho
end
/-- append of n zeros to nil -/
theorem run_append_zeros {P : Program} (w : World) (t tI ty e : TypeId) (ik : IntKind) (i : TypeInfo) (z : Value) (ht : P.underlying t = some (.slice e)) (hI : P.underlying tI = some (.int ik)) (hi : P.info? e = some i) (hz : i.zero = some z)
    (n : Nat) (h0 : 0 < n) (hs0 : 0 < i.size) (h63 : (n : Int) ≤ 9223372036854775807) (h48 : n * i.bytes ≤ 281474976710656) :
    (Builtin.append_ #[t, tI] ty #[.slice none 0 0, .int .i64 n]).run P w =
      .ok (.slice (some ⟨w.heap.size, 0, none⟩) n (grownCap w n 0 e)) (w.drew.alloc (.cells (Builtin.zeroCells z.cells n ++ Builtin.zeroCells z.cells (grownCap w n 0 e - n)) e)) := by
  have hn : n ≠ 0 := by omega
  have h63' : ¬ (9223372036854775807 < (n : Int)) := by omega
  have h48' : ¬ (281474976710656 < Builtin.nextslicecap n 0 * i.bytes) := by rw [nextslicecap_zero h0]; omega
  have hw : IntKind.i64.wrap (n : Int) = n := IntWalk.i64_in _ (by omega)
  have h48'' : ¬ (281474976710656 < (n : Int) * (i.bytes : Int)) := by
    have : (n : Int) * (i.bytes : Int) = ((n * i.bytes : Nat) : Int) := by simp
    omega
  have hs : ¬ (n * i.size = 0) := by have := Nat.mul_pos h0 hs0; omega
  have hnn : ¬ ((n : Int) < 0) := by omega
  have hai : (asIntOf (.int .i64 (n : Int))).run P w = .ok (.i64, (n : Int)) w := rfl
  simp [Builtin.append_, run_underlying ht, run_underlying hI, sizeOf, typeInfo, zeroValue, hi, hz, hn, h63', h48', h48'', hw, hs, hnn, hai, asInt, Question.forced, run_firstCells_none, newRow, grownCap]
theorem wl_append_zeros {P : Program} {ops : Array Oper} {rest : List Oper} {a : Act} {Q : Exit → Act → World → Prop} {w : World} {dst : Option Tmp} {ty : TypeId} {pos : String} {aft : Array Edge} {s x : Operand} {t tI e : TypeId} {ik : IntKind} {i : TypeInfo} {z : Value} {n size bytes : Nat}
    (ht : P.underlying t = some (.slice e)) (hI : P.underlying tI = some (.int ik)) (hi : P.info? e = some i) (hz : i.zero = some z) (hsize : i.size = size) (hby : i.bytes = bytes) (hzs : z.cells.size = size) (hs0 : 0 < size)
    (hs : a.eval s = .slice none 0 0) (hx : a.eval x = .int .i64 n) (h0 : 0 < n) (h63 : n ≤ maxLen) (h48 : n * bytes ≤ 281474976710656)
    (h : ∀ (cap : Nat) (C : Array Value), n ≤ cap → cap ≤ maxLen → C.size = cap * size → wpList P ops Q rest (a.put dst (.slice (some ⟨w.heap.size, 0, none⟩) n cap)) (w.drew.alloc (.cells C e))) :
    wpList P ops Q (⟨dst, .call { callee := .builtin .append, args := #[s, x], argTypes := #[t, tI] }, ty, pos, aft, none⟩ :: rest) a w := by
  subst hsize
  subst hby
  refine wpList_plain rfl fun K hK => ?_
  have hr := run_append_zeros (P := P) w t tI ty e ik i z ht hI hi hz n h0 hs0 (by unfold maxLen at h63; omega) h48
  have hge := grownCap_ge w n 0 e
  have hcm := grownCap_le_maxLen w n 0 e h63
  unfold Oper.wp execOp
  simp only [resolve, invoke, builtin, Sem.run_bind, Sem.run_pure, Result.andThen_ok, List.map_toArray, List.map_cons, List.map_nil, hs, hx, hr]
  refine hK _ _ (h _ _ hge hcm ?_)
  simp only [Array.size_append, size_zeroCells, hzs, ← Nat.add_mul]
  congr 1
  omega
end Go.Proofs.YtjflmmipjeangaaGreatDoor
end
/-
  More program-independent ground: in a region that draws its order a call's result is laid into a new box, in whichever order the two come.
-/
section
set_option linter.unusedVariables false
set_option linter.unusedSimpArgs false
namespace Go.Proofs.YtjflmmipjeangaaGreatDoor
open Go.RowKit Go.WideShapes Go.ChangeShapes

theorem eval_put_same {a : Act} {d : Nat} {v : Value} (h : d < a.tmps.size) : (a.put (some d) v).eval (.tmp d) = v := by
  simp [Act.eval, Act.put, Array.getElem?_setIfInBounds_self_of_lt h]
theorem eval_put_other {a : Act} {d t : Nat} {v : Value} (h : d ≠ t) : (a.put (some d) v).eval (.tmp t) = a.eval (.tmp t) := Act.eval_put (fun e he hh => h (by injection he with he; injection hh with hh; rw [he, hh]))
theorem size_put {a : Act} {d : Option Nat} {v : Value} : (a.put d v).tmps.size = a.tmps.size := by cases d <;> simp [Act.put]

section
variable {P : Program} {ops : Array Oper} {Q : Exit → Act → World → Prop} {S : World → Prop} {listed : Array Bool} {fuel : Nat} {a : Act} {w : World}
theorem ah_one {i : Nat} (hr : Region.ready .any ops listed = [i]) (h : wpOp P ops Q i (fun a' w' => S w' ∧ wpAnyH P .any ops Q S fuel (listed.setIfInBounds i true) a' w') a w) : wpAnyH P .any ops Q S (fuel + 1) listed a w := by
  refine wpAnyH_all hr (by simp) ?_
  intro j hj
  obtain rfl : j = i := by simpa using hj
  exact h
/-- a call's struct result is stored into a new box: the call and the allocation in whichever order -/
theorem ah_box {c al st f T d1 d2 n : Nat} {oc : Oper} {vals : Array Value} {ta ts : TypeId} {pa ps : String} {aa ea : Array Edge} {cs z : Array Value}
    (hoc : ops[c]? = some oc) (hgc : oc.guard = none) (hdc : oc.dst = some d1) (hoa : ops[al]? = some ⟨some d2, .alloc T, ta, pa, aa, none⟩) (hos : ops[st]? = some ⟨none, .store T (.tmp d2) (.tmp d1), ts, ps, ea, none⟩)
    (L : Whole P T n) (hcs : cs.size = n) (h1 : cs.all (·.oneCell') = true) (hz : ∀ W : World, (Instr.alloc T true (.tuple #[])).run P W = .ok (.pointer (some ⟨W.heap.size, 0, none⟩)) (W.alloc (.cells z T))) (hzs : z.size = n)
    (hne : d1 ≠ d2) (hb1 : d1 < a.tmps.size) (hb2 : d2 < a.tmps.size)
    (r0 : Region.ready .any ops listed = [c, al]) (r1 : Region.ready .any ops (listed.setIfInBounds c true) = [al]) (r2 : Region.ready .any ops ((listed.setIfInBounds c true).setIfInBounds al true) = [st])
    (r3 : Region.ready .any ops (listed.setIfInBounds al true) = [c]) (r4 : Region.ready .any ops ((listed.setIfInBounds al true).setIfInBounds c true) = [st])
    (r5 : Region.ready .any ops (((listed.setIfInBounds c true).setIfInBounds al true).setIfInBounds st true) = []) (r6 : Region.ready .any ops (((listed.setIfInBounds al true).setIfInBounds c true).setIfInBounds st true) = [])
    (he : ∀ W : World, (execOp a.eval oc).run P W = .ok (.enter f vals) W) (he' : ∀ (W : World) (x : Value), (execOp (a.put (some d2) x).eval oc).run P W = .ok (.enter f vals) W)
    (hc : ∀ W : World, Ext w W → Calls P f vals W fun e w' => e = .returned (.agg cs) ∧ ∃ n : ExtOf W, w' = n.val) (hS : ∀ W : World, Ext w W → S W)
    (hk : ∀ (W : World) (g : Nat), Ext w W → w.heap.size ≤ g → Block W g cs → Q .normal ((a.put (some d1) (.agg cs)).put (some d2) (.pointer (some ⟨g, 0, none⟩))) W) :
    wpAnyH P .any ops Q S (fuel + 3) listed a w := by
  refine wpAnyH_all r0 (by simp) ?_
  intro j hj
  rcases (by simpa using hj : j = c ∨ j = al) with rfl | rfl
  · refine wpOp_call hoc hgc (he w) ?_
    refine (hc w (Ext.refl w)).mono ?_
    rintro e w' ⟨rfl, m, rfl⟩
    refine ⟨_, rfl, hS _ m.ext, ?_⟩
    rw [hdc]
    refine ah_one r1 (wpOp_alloc (b := m.val.heap.size) hoa rfl (hz _) ⟨hS _ (m.ext.alloc _), ?_⟩)
    refine ah_store (i := st) (b := m.val.heap.size) (cs := cs) L hos r2 (eval_put_same (by rw [size_put]; exact hb2)) (by rw [eval_put_other (Ne.symm hne)]; exact eval_put_same hb1) (Block.new _ _ _) hzs hcs h1 (hS _ ((m.ext.alloc _).setRow m.ext.size _)) ?_
    exact wpAnyH_done r5 (hk _ _ ((m.ext.alloc _).setRow m.ext.size _) m.ext.size inferInstance) _
  · refine wpOp_alloc (b := w.heap.size) hoa rfl (hz _) ⟨hS _ ((Ext.refl w).alloc _), ?_⟩
    refine ah_one r3 (wpOp_call hoc hgc (he' _ _) ?_)
    refine (hc _ ((Ext.refl w).alloc _)).mono ?_
    rintro e w' ⟨rfl, m, rfl⟩
    have hx : Ext w m.val := Ext.trans ((Ext.refl w).alloc _) m.ext
    refine ⟨_, rfl, hS _ hx, ?_⟩
    rw [hdc]
    refine ah_store (i := st) (b := w.heap.size) (cs := cs) L hos r4 (by rw [eval_put_other hne]; exact eval_put_same hb2) (eval_put_same (by rw [size_put]; exact hb1)) (inferInstance : Block m.val w.heap.size z) hzs hcs h1 (hS _ (hx.setRow (Nat.le_refl _) _)) ?_
    refine wpAnyH_done r6 ?_ _
    have := hk (m.val.setRow w.heap.size cs) w.heap.size (hx.setRow (Nat.le_refl _) _) (Nat.le_refl _) inferInstance
    rw [Act.put_comm a (.agg cs) (.pointer (some ⟨w.heap.size, 0, none⟩)) (fun d hd hh => hne (by injection hd with hd; injection hh with hh; rw [hd, hh]))] at this
    exact this
end
end Go.Proofs.YtjflmmipjeangaaGreatDoor
end
/-
  More program-independent ground: append to a slice of the call's own leaves every other block as it was.
-/
section
set_option linter.unusedVariables false
set_option linter.unusedSimpArgs false
namespace Go.Proofs.YtjflmmipjeangaaGreatDoor
open Go.RowKit Go.WideShapes Go.ChangeShapes

/-- where the slice that append hands back lies -/
theorem append_block {P : Program} {w : World} {base : Nat} {t ty e : TypeId} {i : TypeInfo} {z : Value} (ht : P.underlying t = some (.slice e)) (hi : P.info? e = some i) (hz : i.zero = some z)
    {v : Value} {n : Nat} {xs : List Value} (hown : w.ownsRow base e i.size v n xs) {a : Addr} {m c : Nat} {news : List Value} (hl : news.length = m * i.size) (hnews : ∀ j u, news[j]? = some u → w.cell? (a.add j) = some u) (h1 : ∀ u ∈ news, u.oneCell' = true)
    (h63 : n + m ≤ maxLen) (hbytes : (n + m) * i.bytes ≤ 140737488355328) {v' : Value} {w' : World} (hr : (Builtin.append_ #[t, t] ty #[v, .slice (some a) m c]).run P w = .ok v' w') :
    v'.ownBlock = v.ownBlock ∨ v'.ownBlock = some w.heap.size := by
  have hsmall : n + m ≤ 9223372036854775807 := by simp only [maxLen] at h63; omega
  have hcells := fun g => World.ownsRow.cells hown (g := g)
  rcases hown.2 with ⟨rfl, rfl⟩ | ⟨g, cap, cur, rfl, hbg, hg, hnc, hcm, hcs, htake⟩
  · by_cases hm : m = 0
    · subst hm
      have hn : news = [] := List.eq_nil_of_length_eq_zero (by simpa using hl)
      have : (Builtin.append_ #[t, t] ty #[.slice none 0 0, .slice (some a) 0 c]).run P w = .ok (.slice none 0 0) w := by
        simp [Builtin.append_, run_underlying ht, sizeOf, typeInfo, hi, Builtin.lenOf, Builtin.firstCells, loadCells, loadCellsFrom]
      rw [this] at hr
      injection hr with h2 h3
      exact .inl (by rw [← h2])
    · rw [run_append_nil (P := P) w t ty e i z ht hi hz a m c news hl hnews (by omega) (by omega) (by simp only [Nat.zero_add] at hbytes; omega)] at hr
      injection hr with h2 h3
      exact .inr (by rw [← h2]; rfl)
  · by_cases hroom : n + m ≤ cap
    · have hfit : n * i.size + news.length ≤ cur.size := by rw [hl, hcs, ← Nat.add_mul]; exact Nat.mul_le_mul_right _ hroom
      rw [run_append_room (P := P) w t ty e i ht hi g n cap cur hg a m c news hl hnews h1 hroom hfit] at hr
      injection hr with h2 h3
      exact .inl (by rw [← h2]; rfl)
    · rw [run_append_grow (P := P) w t ty e i z ht hi hz ⟨g, 0, none⟩ n cap xs hown.1 (hcells g rfl) a m c news hl hnews (by omega) (by omega) (growslice_fits (by omega) hbytes)] at hr
      injection hr with h2 h3
      exact .inr (by rw [← h2]; rfl)

section
variable {α : Type} {enc : α → List Value} {k : Nat}
/-- one more element, by append; every block but the slice's own is as it was -/
theorem wl_append1k {P : Program} {ops : Array Oper} {rest : List Oper} {a : Act} {Q : Exit → Act → World → Prop} {w : World} {dst : Option Tmp} {ty : TypeId} {pos : String} {aft : Array Edge} {s x : Operand} {t E : TypeId} {i : TypeInfo} {z : Value} {bytes base : Nat} {v : Value} {l : List α} {y : α} {b c : Nat} {cs : Array Value}
    (ht : P.underlying t = some (.slice E)) (hi : P.info? E = some i) (hz : i.zero = some z) (hsize : i.size = k) (hby : i.bytes = bytes) (hzs : z.cells.size = k) (hk0 : 0 < k) (hk : ∀ x, (enc x).length = k) (h1 : ∀ x, ∀ u ∈ enc x, u.oneCell' = true)
    (hs : a.eval s = v) (hx : a.eval x = .slice (some ⟨b, 0, none⟩) 1 c) (hown : Own enc k E base w v l) (hb : Block w b cs) (hcs : cs.toList = enc y) (h63 : l.length + 1 ≤ maxLen) (hbytes : (l.length + 1) * bytes ≤ 140737488355328) (hbase : base ≤ w.heap.size)
    (h : ∀ (v' : Value) (n : ExtB base w), Own enc k E base n.val v' (l ++ [y]) → (∀ (b' : Nat) (cs' : Array Value), Block w b' cs' → v.ownBlock ≠ some b' → Block n.val b' cs' ∧ v'.ownBlock ≠ some b') → wpList P ops Q rest (a.put dst v') n.val) :
    wpList P ops Q (⟨dst, .call { callee := .builtin .append, args := #[s, x], argTypes := #[t, t] }, ty, pos, aft, none⟩ :: rest) a w := by
  subst hsize
  subst hby
  have hnews : ∀ j u, (enc y)[j]? = some u → w.cell? ((⟨b, 0, none⟩ : Addr).add j) = some u := by
    intro j u hj
    have hadd : (⟨b, 0, none⟩ : Addr).add j = ⟨b, j, none⟩ := by unfold Addr.add; split <;> simp_all
    rw [hadd, Block.cell (h := hb), ← hj, ← hcs]
    simp
  have hnl : (enc y).length = 1 * i.size := by rw [hk, Nat.one_mul]
  obtain ⟨v', w', hr, ho, hg, _⟩ := run_append_own (P := P) w base t ty E i z i.size i.bytes ht hi hz rfl rfl hzs hk0 v l.length (l.flatMap enc) hown ⟨b, 0, none⟩ 1 c (enc y) hnl hnews (h1 y) h63 hbytes hbase
  have hblk := append_block ht hi hz hown hnl hnews (h1 y) h63 hbytes hr
  refine wpList_plain rfl fun K hK => ?_
  unfold Oper.wp execOp
  simp only [resolve, invoke, builtin, Sem.run_bind, Sem.run_pure, Result.andThen_ok, List.map_toArray, List.map_cons, List.map_nil, hs, hx, hr]
  have hbl : Below base w w' := ⟨hg.os, hg.tape, hg.output, hg.size, fun q hq => hg.block q (by omega) (fun e => by have := (World.ownsRow.lt hown q e.symm).1; omega)⟩
  refine hK _ _ (h v' ⟨w', hbl⟩ ?_ ?_)
  · show w'.ownsRow base E i.size v' (l ++ [y]).length ((l ++ [y]).flatMap enc)
    rw [List.flatMap_append, List.length_append]
    simpa using ho
  · intro b' cs' hB hne
    have hlt := hB.lt
    refine ⟨⟨?_⟩, ?_⟩
    · obtain ⟨tt, e⟩ := hB.get
      exact ⟨tt, by show w'.heap[b']? = _; rw [hg.block b' hlt (Ne.symm hne)]; exact e⟩
    · rcases hblk with h2 | h2 <;> rw [h2]
      · exact hne
      · simp; omega
end
theorem Block.ext {w w' : World} {b : Nat} {cs : Array Value} (h : Block w b cs) (hx : Ext w w') : Block w' b cs := ⟨by obtain ⟨t, e⟩ := h.get; exact ⟨t, by rw [hx.block b h.lt]; exact e⟩⟩
theorem Own.ext {α : Type} {enc : α → List Value} {k E base : Nat} {w w' : World} {v : Value} {l : List α} (h : Own enc k E base w v l) (hx : Ext w w') : Own enc k E base w' v l := Own.of_ext h ⟨w', hx⟩
theorem Own.block_lt {α : Type} {enc : α → List Value} {k E base : Nat} {w : World} {v : Value} {l : List α} (h : Own enc k E base w v l) {b : Nat} (hb : w.heap.size ≤ b) : v.ownBlock ≠ some b := fun e => by
  have := (World.ownsRow.lt h b e).2
  omega
end Go.Proofs.YtjflmmipjeangaaGreatDoor
end
/-
  More program-independent ground: append to a slice of the call's own, beside other slices of the call's own.
-/
section
set_option linter.unusedVariables false
set_option linter.unusedSimpArgs false
namespace Go.Proofs.YtjflmmipjeangaaGreatDoor
open Go.RowKit Go.WideShapes Go.ChangeShapes

/-- two slices do not lie in one block -/
def Apt (u v : Value) : Prop := ∀ b, u.ownBlock = some b → v.ownBlock ≠ some b
theorem Apt.symm {u v : Value} (h : Apt u v) : Apt v u := fun b h1 h2 => h b h2 h1
theorem Apt.nil (v : Value) : Apt (.slice none 0 0) v := fun b h => by cases h
/-- the worlds that append to v can leave: every block but that of v is as it was -/
structure Kept (w : World) (v : Value) (w' : World) (v' : Value) : Prop where
  heap : ∀ q, q < w.heap.size → v.ownBlock ≠ some q → w'.heap[q]? = w.heap[q]?
  own : v'.ownBlock = v.ownBlock ∨ v'.ownBlock = some w.heap.size
  size : w.heap.size ≤ w'.heap.size

section
variable {α : Type} {enc : α → List Value} {k : Nat}
theorem Kept.block {w w' : World} {v v' : Value} (h : Kept w v w' v') {b : Nat} {cs : Array Value} (hB : Block w b cs) (hne : v.ownBlock ≠ some b) : Block w' b cs := by
  obtain ⟨t, e⟩ := hB.get
  exact ⟨⟨t, by rw [h.heap b hB.lt hne]; exact e⟩⟩
theorem Kept.ne {w w' : World} {v v' : Value} (h : Kept w v w' v') {b : Nat} (hb : b < w.heap.size) (hne : v.ownBlock ≠ some b) : v'.ownBlock ≠ some b := by
  rcases h.own with h2 | h2 <;> rw [h2]
  · exact hne
  · simp; omega
theorem Kept.other {w w' : World} {v v' u : Value} {E base : Nat} {l : List α} (h : Kept w v w' v') (ho : Own enc k E base w u l) (hne : Apt v u) : Own enc k E base w' u l := by
  refine ⟨ho.1, ?_⟩
  rcases ho.2 with hn | ⟨g, cap, cur, rfl, hb, hgg, rest⟩
  · exact .inl hn
  · refine .inr ⟨g, cap, cur, rfl, hb, ?_, rest⟩
    rw [h.heap g (Array.getElem?_eq_some_iff.1 hgg).1 (fun e => hne g e rfl)]
    exact hgg
theorem Kept.apt {w w' : World} {v v' u : Value} {E base : Nat} {l : List α} (h : Kept w v w' v') (ho : Own enc k E base w u l) (hne : Apt v u) : Apt v' u := by
  intro b hb
  rcases h.own with h2 | h2 <;> rw [h2] at hb
  · exact hne b hb
  · injection hb with hb
    subst hb
    exact Own.block_lt ho (Nat.le_refl _)
/-- a slice that does not lie in v's block reads as it did -/
theorem Kept.slice {w w' : World} {v v' : Value} {p : Option Addr} {n cap : Nat} {l : List α} (h : Kept w v w' v') (hs : SliceOf enc k w (.slice p n cap) l) (hne : ∀ a, p = some a → v.ownBlock ≠ some a.block) : SliceOf enc k w' (.slice p n cap) l := by
  obtain ⟨p', cap', e, h1, h2, h3, h4⟩ := hs
  refine ⟨p', cap', e, h1, h2, h3, fun i x hi => ?_⟩
  obtain ⟨b, off, hp, hc⟩ := h4 i x hi
  refine ⟨b, off, hp, fun j u hj => ?_⟩
  have h5 := hc j u hj
  have hlt := World.block_lt_of_cell? w ⟨b, off + (i * k + j), none⟩ h5
  simp only [Value.slice.injEq] at e
  obtain ⟨rfl, _, _⟩ := e
  have h6 := h.heap b hlt (hne _ hp)
  rw [← h5]
  simp only [World.cell?]
  rw [h6]
/-- one more element, by append -/
theorem wl_append1g {P : Program} {ops : Array Oper} {rest : List Oper} {a : Act} {Q : Exit → Act → World → Prop} {w : World} {dst : Option Tmp} {ty : TypeId} {pos : String} {aft : Array Edge} {s x : Operand} {t E : TypeId} {i : TypeInfo} {z : Value} {bytes base : Nat} {v : Value} {l : List α} {y : α} {b c : Nat} {cs : Array Value}
    (ht : P.underlying t = some (.slice E)) (hi : P.info? E = some i) (hz : i.zero = some z) (hsize : i.size = k) (hby : i.bytes = bytes) (hzs : z.cells.size = k) (hk0 : 0 < k) (hk : ∀ x, (enc x).length = k) (h1 : ∀ x, ∀ u ∈ enc x, u.oneCell' = true)
    (hs : a.eval s = v) (hx : a.eval x = .slice (some ⟨b, 0, none⟩) 1 c) (hown : Own enc k E base w v l) (hb : Block w b cs) (hcs : cs.toList = enc y) (h63 : l.length + 1 ≤ maxLen) (hbytes : (l.length + 1) * bytes ≤ 140737488355328) (hbase : base ≤ w.heap.size)
    (h : ∀ (v' : Value) (n : ExtB base w), Own enc k E base n.val v' (l ++ [y]) → Kept w v n.val v' → wpList P ops Q rest (a.put dst v') n.val) :
    wpList P ops Q (⟨dst, .call { callee := .builtin .append, args := #[s, x], argTypes := #[t, t] }, ty, pos, aft, none⟩ :: rest) a w := by
  subst hsize
  subst hby
  have hnews : ∀ j u, (enc y)[j]? = some u → w.cell? ((⟨b, 0, none⟩ : Addr).add j) = some u := by
    intro j u hj
    have hadd : (⟨b, 0, none⟩ : Addr).add j = ⟨b, j, none⟩ := by unfold Addr.add; split <;> simp_all
    rw [hadd, Block.cell (h := hb), ← hj, ← hcs]
    simp
  have hnl : (enc y).length = 1 * i.size := by rw [hk, Nat.one_mul]
  obtain ⟨v', w', hr, ho, hg, _⟩ := run_append_own (P := P) w base t ty E i z i.size i.bytes ht hi hz rfl rfl hzs hk0 v l.length (l.flatMap enc) hown ⟨b, 0, none⟩ 1 c (enc y) hnl hnews (h1 y) h63 hbytes hbase
  have hblk := append_block ht hi hz hown hnl hnews (h1 y) h63 hbytes hr
  refine wpList_plain rfl fun K hK => ?_
  unfold Oper.wp execOp
  simp only [resolve, invoke, builtin, Sem.run_bind, Sem.run_pure, Result.andThen_ok, List.map_toArray, List.map_cons, List.map_nil, hs, hx, hr]
  have hbl : Below base w w' := ⟨hg.os, hg.tape, hg.output, hg.size, fun q hq => hg.block q (by omega) (fun e => by have := (World.ownsRow.lt hown q e.symm).1; omega)⟩
  refine hK _ _ (h v' ⟨w', hbl⟩ ?_ ⟨fun q hq hne => hg.block q hq (Ne.symm hne), hblk, hg.size⟩)
  show w'.ownsRow base E i.size v' (l ++ [y]).length ((l ++ [y]).flatMap enc)
  rw [List.flatMap_append, List.length_append]
  simpa using ho
end
end Go.Proofs.YtjflmmipjeangaaGreatDoor
end
/-
  More program-independent ground: in a region that draws its order a struct that is built is laid into a new box.
-/
section
set_option linter.unusedVariables false
set_option linter.unusedSimpArgs false
namespace Go.Proofs.YtjflmmipjeangaaGreatDoor
open Go.RowKit Go.WideShapes Go.ChangeShapes

section
variable {P : Program} {ops : Array Oper} {Q : Exit → Act → World → Prop} {S : World → Prop} {listed : Array Bool} {fuel : Nat} {a : Act} {w : World}
/-- a struct that is built is stored into a new box: the two last operations of a region -/
theorem ah_new {al st T d1 d2 n : Nat} {ta ts : TypeId} {pa ps : String} {aa ea : Array Edge} {cs z : Array Value}
    (hoa : ops[al]? = some ⟨some d2, .alloc T, ta, pa, aa, none⟩) (hos : ops[st]? = some ⟨none, .store T (.tmp d2) (.tmp d1), ts, ps, ea, none⟩)
    (L : Whole P T n) (hcs : cs.size = n) (h1 : cs.all (·.oneCell') = true) (hz : ∀ W : World, (Instr.alloc T true (.tuple #[])).run P W = .ok (.pointer (some ⟨W.heap.size, 0, none⟩)) (W.alloc (.cells z T))) (hzs : z.size = n)
    (hne : d1 ≠ d2) (hb2 : d2 < a.tmps.size) (hv : a.eval (.tmp d1) = .agg cs)
    (r0 : Region.ready .any ops listed = [al]) (r1 : Region.ready .any ops (listed.setIfInBounds al true) = [st]) (r2 : Region.ready .any ops ((listed.setIfInBounds al true).setIfInBounds st true) = [])
    (hS : ∀ W : World, Ext w W → S W)
    (hk : ∀ (W : World) (g : Nat), Ext w W → w.heap.size ≤ g → Block W g cs → Q .normal (a.put (some d2) (.pointer (some ⟨g, 0, none⟩))) W) :
    wpAnyH P .any ops Q S (fuel + 2) listed a w := by
  have hx : Ext w (w.alloc (.cells z T)) := (Ext.refl w).alloc _
  refine ah_one r0 (wpOp_alloc (b := w.heap.size) hoa rfl (hz _) ⟨hS _ hx, ?_⟩)
  refine ah_store (i := st) (b := w.heap.size) (cs := cs) L hos r1 (eval_put_same hb2) (by rw [eval_put_other (Ne.symm hne)]; exact hv) (Block.new _ _ _) hzs hcs h1 (hS _ (hx.setRow (Nat.le_refl _) _)) ?_
  exact wpAnyH_done r2 (hk _ _ (hx.setRow (Nat.le_refl _) _) (Nat.le_refl _) inferInstance) _
end
end Go.Proofs.YtjflmmipjeangaaGreatDoor
end
/-
  How a parameter that is a slice reads as a list, whatever its elements are.
-/
section
set_option linter.unusedVariables false
set_option linter.unusedSimpArgs false
namespace Go.Proofs.YtjflmmipjeangaaGreatDoor
open Go.RowKit Go.Deep Go.ChangeShapes Go.WideShapes

theorem list_upto {α : Type} {p : Nat → α → Prop} : ∀ n : Nat, (∀ i, i < n → ∃ x, p i x) → ∃ l : List α, l.length = n ∧ ∀ i x, l[i]? = some x → p i x
  | 0, _ => ⟨[], rfl, fun i x h => by simp at h⟩
  | n + 1, h => by
    obtain ⟨l, hl, hp⟩ := list_upto n (fun i hi => h i (by omega))
    obtain ⟨y, hy⟩ := h n (by omega)
    refine ⟨l ++ [y], by simp [hl], fun i x hx => ?_⟩
    rcases Nat.lt_or_ge i l.length with hi | hi
    · rw [List.getElem?_append_left hi] at hx
      exact hp i x hx
    · rw [List.getElem?_append_right hi] at hx
      have : i - l.length = 0 := by
        have := (List.getElem?_eq_some_iff.1 hx).1
        simp at this
        omega
      rw [this] at hx
      simp at hx
      subst hx
      obtain rfl : i = n := by omega
      exact hy
theorem addr_mid (b o k : Nat) : (⟨b, o, none⟩ : Addr).add k = ⟨b, o + k, none⟩ := by
  unfold Addr.add
  split
  · rename_i h; rw [h]; rfl
  · rfl
section
variable {H : Type} {enc : TypeId × Value → H} {P : Program} {W : World} {base : Nat} {sp : Nat → Bool} {held : Bool}
/-- a slice reads as a list of what its elements are -/
theorem list_of {α : Type} {enc2 : α → List Value} {I : α → Prop} {t e : TypeId} {k fuel : Nat} {v : Value} {x : DataW H × List MemPlace} (ht : P.underlying t = some (.slice e)) (hc : P.cellsOf e = k) (hk : 0 < k)
    (hel : ∀ (cs : List Value) (n : Nat) (y : DataW H × List MemPlace), cs.length = k → DataW.trod enc P W base sp held n e cs = some y → ∃ z, cs = enc2 z ∧ I z)
    (h : DataW.trod enc P W base sp held fuel t [v] = some x) : ∃ l : List α, SliceOf enc2 k W v l ∧ ∀ z ∈ l, I z := by
  rcases open_slice ht h with ⟨hcc, _⟩ | ⟨a, len, cap, m, n, D, Pl, hcs, hb, hl, hm, hmm, hx, hi⟩
  · obtain rfl : v = .slice none 0 0 := by simpa using hcc
    exact ⟨[], SliceOf.nil W, fun s hs => by cases hs⟩
  · obtain rfl : v = .slice (some a) len cap := by simpa using hcs
    rw [hc] at hi
    have hle : len ≤ m := by rw [hmm]; split <;> omega
    obtain ⟨l, hll, hp⟩ := list_upto (p := fun i (z : α) => (enc2 z).length = k ∧ (∀ j u, (enc2 z)[j]? = some u → W.cell? (a.add (i * k + j)) = some u) ∧ I z) len (fun i hin => by
      obtain ⟨cs', h1, h2⟩ := hi i (by omega)
      obtain ⟨_, hlen, hat⟩ := World.cells?_some h1
      obtain ⟨z, rfl, hz⟩ := hel cs' n _ hlen h2
      refine ⟨z, hlen, fun j u hj => ?_, hz⟩
      have hjk : j < k := by have := (List.getElem?_eq_some_iff.1 hj).1; omega
      have := hat j hjk
      rw [Go.Deep.add_add] at this
      rw [this, hj])
    refine ⟨l, ⟨some a, cap, by rw [hll], by rw [hll]; exact hl, hm, (fun h => by cases h), fun i z hz => ?_⟩, fun z hz => ?_⟩
    · obtain ⟨q0, q1, _⟩ := hp i z hz
      have hi0 := (List.getElem?_eq_some_iff.1 hz).1
      obtain ⟨z0, z1, _⟩ := hp 0 l[0] (List.getElem?_eq_getElem (by omega))
      have z2 := z1 0 _ (List.getElem?_eq_getElem (by omega))
      obtain ⟨b, o, spot⟩ := a
      have hspot : spot = none := by simpa [Addr.add] using World.cell?_spot z2
      subst hspot
      refine ⟨b, o, rfl, fun j u hj => ?_⟩
      have := q1 j u hj
      rw [addr_mid] at this
      exact this
    · obtain ⟨i, hi0, rfl⟩ := List.getElem_of_mem hz
      exact (hp i _ (List.getElem?_eq_getElem hi0)).2.2
/-- the same for a parameter -/
theorem par_list {α : Type} {enc2 : α → List Value} {I : α → Prop} {t e : TypeId} {k : Nat} {r : Reach} {b0 : Nat} {v : Value} {d : DataW H} {pl : List MemPlace} (ht : P.underlying t = some (.slice e)) (hc : P.cellsOf e = k) (hk : 0 < k)
    (hel : ∀ (cs : List Value) (n : Nat) (y : DataW H × List MemPlace), cs.length = k → DataW.trod enc P W base sp held n e cs = some y → ∃ z, cs = enc2 z ∧ I z)
    (hv : Value.okWide P W r b0 t v) (h : DataW.Trod enc P W base sp held t v d pl) : ∃ l : List α, SliceOf enc2 k W v l ∧ ∀ z ∈ l, I z := by
  obtain ⟨fuel, hf⟩ := h
  obtain ⟨p, n, c, rfl⟩ := okWide_slice ht hv
  exact list_of ht hc hk hel (by simpa [Value.cells] using hf)
end
end Go.Proofs.YtjflmmipjeangaaGreatDoor
end
