/-
  More program-independent ground: slices that read as lists; slices of a call's own; worlds that are alike below a block.
-/
import Derived.Test.YtaflcbdbacogeaaDoorBase3
set_option linter.unusedVariables false
set_option linter.unusedSimpArgs false
namespace Go.Proofs.YtaflcbdbacogeaaDoor
open Go.RowKit Go.WideShapes Go.ChangeShapes

/-- the worlds that are as w is below block B -/
def ExtB (B : Nat) (w : World) : Type := { w' : World // Below B w w' }
def ExtB.val {B : Nat} {w : World} (n : ExtB B w) : World := Subtype.val n
theorem ExtB.below {B : Nat} {w : World} (n : ExtB B w) : Below B w n.val := n.2
theorem ExtB.of {B : Nat} {w w' : World} (h : Below B w w') : ∃ n : ExtB B w, w' = n.val := ⟨⟨w', h⟩, rfl⟩
/-- block b lies below B -/
class Under (b B : Nat) : Prop where
  lt : b < B
instance {w : World} {b : Nat} [h : Old b w] : Under b w.heap.size := ⟨h.lt⟩
instance {B : Nat} {w : World} {b : Nat} [h : Old b w] (n : ExtB B w) : Old b n.val := ⟨Nat.lt_of_lt_of_le h.lt n.below.size⟩
instance {B : Nat} {w : World} {b : Nat} {cs : Array Value} [h : Block w b cs] [hu : Under b B] (n : ExtB B w) : Block n.val b cs := ⟨by obtain ⟨t, e⟩ := h.get; exact ⟨t, by rw [n.below.block b hu.lt]; exact e⟩⟩
theorem ExtB.cell {B : Nat} {w : World} (n : ExtB B w) (b o : Nat) [h : Under b B] : n.val.cell? ⟨b, o, none⟩ = w.cell? ⟨b, o, none⟩ := Below.cell (p := ⟨b, o, none⟩) n.below h.lt
theorem ExtB.frozen {B : Nat} {w : World} (n : ExtB B w) (b o : Nat) [h : Under b B] : n.val.frozen? ⟨b, o, none⟩ = w.frozen? ⟨b, o, none⟩ := Below.frozen (p := ⟨b, o, none⟩) n.below h.lt
theorem Ext.below {w0 w : World} {B : Nat} (h : Ext w0 w) (hB : w0.heap.size ≤ B) (n : ExtB B w) : Ext w0 n.val := Below.trans h (Below.mono n.below hB)
theorem Old.of_cell {w : World} {b o : Nat} {v : Value} (h : w.cell? ⟨b, o, none⟩ = some v) : Old b w := ⟨World.block_lt_of_cell? w ⟨b, o, none⟩ h⟩
theorem Ext.cell {w w' : World} (h : Ext w w') {b o : Nat} {v : Value} (hc : w.cell? ⟨b, o, none⟩ = some v) : w'.cell? ⟨b, o, none⟩ = some v :=
  (Below.cell (p := ⟨b, o, none⟩) h (World.block_lt_of_cell? w ⟨b, o, none⟩ hc)).trans hc

theorem alloc_cell {w : World} (o : Obj) (b off : Nat) [h : Old b w] : (w.alloc o).cell? ⟨b, off, none⟩ = w.cell? ⟨b, off, none⟩ := World.cell?_alloc_past _ _ _ h.lt
theorem alloc_frozen {w : World} (o : Obj) (b off : Nat) [h : Old b w] : (w.alloc o).frozen? ⟨b, off, none⟩ = w.frozen? ⟨b, off, none⟩ := World.frozen?_alloc_past _ _ _ h.lt
section
variable {P : Program} {ops : Array Oper} {Q : Exit → Act → World → Prop} {a : Act} {w : World}
/-- a call of a Go function comes up in a region that draws its order -/
theorem wpOp_call {i : Nat} {o : Oper} {f : FuncId} {vals : Array Value} {K : Act → World → Prop} (hi : ops[i]? = some o) (hg : o.guard = none) (he : (execOp a.eval o).run P w = .ok (.enter f vals) w)
    (hc : Calls P f vals w fun e w' => ∃ v, e = .returned v ∧ K (a.put o.dst v) w') : wpOp P ops Q i K a w := by
  unfold wpOp
  rw [hi]
  simp only [Region.wanted, hg, if_true]
  refine .inl ?_
  unfold Oper.wp
  rw [he]
  exact hc.mono fun e w' ⟨v, h1, h2⟩ => by subst h1; exact h2
end
section
variable {α : Type} {enc : α → List Value} {k : Nat}
/-- v is a slice that reads as the list l in w, each element in k cells -/
def SliceOf (enc : α → List Value) (k : Nat) (w : World) (v : Value) (l : List α) : Prop :=
  ∃ p cap, v = .slice p l.length cap ∧ l.length ≤ cap ∧ cap ≤ maxLen ∧ (p = none → cap = 0) ∧ ∀ i x, l[i]? = some x → ∃ b off, p = some ⟨b, off, none⟩ ∧ ∀ j u, (enc x)[j]? = some u → w.cell? ⟨b, off + (i * k + j), none⟩ = some u
theorem SliceOf.ext {w w' : World} {v : Value} {l : List α} (h : SliceOf enc k w v l) (hx : Ext w w') : SliceOf enc k w' v l := by
  obtain ⟨p, cap, e, h1, h2, h3, h4⟩ := h
  refine ⟨p, cap, e, h1, h2, h3, fun i x hi => ?_⟩
  obtain ⟨b, off, hp, hc⟩ := h4 i x hi
  exact ⟨b, off, hp, fun j u hj => hx.cell (hc j u hj)⟩
theorem SliceOf.nil (w : World) : SliceOf enc k w (.slice none 0 0) [] := ⟨none, 0, rfl, Nat.le_refl _, Nat.zero_le _, fun _ => rfl, fun i x h => by simp at h⟩

theorem SliceOf.setCell {w : World} {p : Option Addr} {n cap : Nat} {l : List α} (h : SliceOf enc k w (.slice p n cap) l) {g i : Nat} (hne : ∀ a, p = some a → a.block ≠ g) (x : Value) : SliceOf enc k (w.setCell ⟨g, i, none⟩ x) (.slice p n cap) l := by
  obtain ⟨p', cap', e, h1, h2, h3, h4⟩ := h
  refine ⟨p', cap', e, h1, h2, h3, fun i' x' hi => ?_⟩
  simp only [Value.slice.injEq] at e
  obtain ⟨rfl, _, _⟩ := e
  obtain ⟨b, off, hp, hc⟩ := h4 i' x' hi
  refine ⟨b, off, hp, fun j u hj => ?_⟩
  have hb : b ≠ g := hne _ hp
  rw [World.cell?_setCell_other _ _ _ _ (by simp [hb])]
  exact hc j u hj
theorem flatMap_get {l : List α} (hk : ∀ x, (enc x).length = k) : ∀ {i : Nat} {x : α} {j : Nat} {u : Value}, l[i]? = some x → (enc x)[j]? = some u → (l.flatMap enc)[i * k + j]? = some u := by
  induction l with
  | nil => intro i x j u h; simp at h
  | cons y l ih =>
    intro i x j u hi hj
    rw [List.flatMap_cons]
    cases i with
    | zero =>
      simp only [List.getElem?_cons_zero, Option.some.injEq] at hi
      subst hi
      have hlt : j < (enc y).length := (List.getElem?_eq_some_iff.1 hj).1
      rw [Nat.zero_mul, Nat.zero_add, List.getElem?_append_left hlt]
      exact hj
    | succ i =>
      rw [List.getElem?_cons_succ] at hi
      have e : (i + 1) * k + j = (enc y).length + (i * k + j) := by rw [hk, Nat.succ_mul]; omega
      rw [e, List.getElem?_append_right (by omega), Nat.add_sub_cancel_left]
      exact ih hi hj
theorem flatMap_len {l : List α} (hk : ∀ x, (enc x).length = k) : (l.flatMap enc).length = l.length * k := by
  induction l with
  | nil => simp
  | cons y l ih => rw [List.flatMap_cons, List.length_append, ih, hk, List.length_cons, Nat.succ_mul]; omega

/-- a slice of the call's own, from block base on, that holds l -/
def Own (enc : α → List Value) (k : Nat) (E : TypeId) (base : Nat) (w : World) (v : Value) (l : List α) : Prop := w.ownsRow base E k v l.length (l.flatMap enc)
theorem Own.nil {E base : Nat} (w : World) : Own enc k E base w (.slice none 0 0) [] := World.ownsRow_nil w base E k
theorem Own.slice {E base : Nat} {w : World} {v : Value} {l : List α} (hk : ∀ x, (enc x).length = k) (h : Own enc k E base w v l) : SliceOf enc k w v l := by
  have h0 := h
  obtain ⟨hl, h | ⟨g, cap, cur, rfl, hb, hg, hn, hc, hs, ht⟩⟩ := h
  · obtain ⟨rfl, hn⟩ := h
    have : l = [] := List.eq_nil_of_length_eq_zero hn
    subst this
    exact SliceOf.nil w
  · refine ⟨_, cap, rfl, hn, hc, (fun h => by cases h), fun i x hi => ⟨g, 0, rfl, fun j u hj => ?_⟩⟩
    have h1 := flatMap_get hk hi hj
    have h2 := h0.cells (g := g) rfl (i * k + j) u h1
    rw [Nat.zero_add]
    have hadd : (⟨g, 0, none⟩ : Addr).add (i * k + j) = ⟨g, i * k + j, none⟩ := by unfold Addr.add; split <;> simp_all
    rw [hadd] at h2
    exact h2
theorem Own.alloc {E base : Nat} {w : World} {v : Value} {l : List α} (h : Own enc k E base w v l) (o : Obj) : Own enc k E base (w.alloc o) v l := World.ownsRow.alloc h o
theorem Own.of_ext {E base : Nat} {w : World} {v : Value} {l : List α} (h : Own enc k E base w v l) (n : ExtOf w) : Own enc k E base n.val v l := by
  refine ⟨h.1, ?_⟩
  rcases h.2 with hn | ⟨g, cap, cur, rfl, hb, hgg, rest⟩
  · exact .inl hn
  · refine .inr ⟨g, cap, cur, rfl, hb, ?_, rest⟩
    rw [n.ext.block g (Array.getElem?_eq_some_iff.1 hgg).1]
    exact hgg
theorem Own.drew {E base : Nat} {w : World} {v : Value} {l : List α} (h : Own enc k E base w v l) : Own enc k E base w.drew v l := h
/-- one more element, by append: the operation written out -/
theorem wl_append1 {P : Program} {ops : Array Oper} {rest : List Oper} {a : Act} {Q : Exit → Act → World → Prop} {w : World} {dst : Option Tmp} {ty : TypeId} {pos : String} {aft : Array Edge} {s x : Operand} {t E : TypeId} {i : TypeInfo} {z : Value} {bytes base : Nat} {v : Value} {l : List α} {y : α} {b c : Nat} {cs : Array Value}
    (ht : P.underlying t = some (.slice E)) (hi : P.info? E = some i) (hz : i.zero = some z) (hsize : i.size = k) (hby : i.bytes = bytes) (hzs : z.cells.size = k) (hk0 : 0 < k) (hk : ∀ x, (enc x).length = k) (h1 : ∀ x, ∀ u ∈ enc x, u.oneCell' = true)
    (hs : a.eval s = v) (hx : a.eval x = .slice (some ⟨b, 0, none⟩) 1 c) (hown : Own enc k E base w v l) (hb : Block w b cs) (hcs : cs.toList = enc y) (h63 : l.length + 1 ≤ maxLen) (hbytes : (l.length + 1) * bytes ≤ 140737488355328) (hbase : base ≤ w.heap.size)
    (h : ∀ (v' : Value) (n : ExtB base w), Own enc k E base n.val v' (l ++ [y]) → wpList P ops Q rest (a.put dst v') n.val) :
    wpList P ops Q (⟨dst, .call { callee := .builtin .append, args := #[s, x], argTypes := #[t, t] }, ty, pos, aft, none⟩ :: rest) a w := by
  refine wpList_append_own (o := ⟨dst, .call { callee := .builtin .append, args := #[s, x], argTypes := #[t, t] }, ty, pos, aft, none⟩) w rfl s x t rfl base E i z k bytes ht hi hz hsize hby hzs hk0 v l.length (l.flatMap enc) hs hown ⟨b, 0, none⟩ 1 c (enc y) hx (by rw [hk, Nat.one_mul]) ?_ (h1 y) h63 hbytes hbase ?_
  · intro j u hj
    have hadd : (⟨b, 0, none⟩ : Addr).add j = ⟨b, j, none⟩ := by unfold Addr.add; split <;> simp_all
    rw [hadd, Block.cell (h := hb), ← hj, ← hcs]
    simp
  · intro v' w' ho hg _
    have hbl : Below base w w' := ⟨hg.os, hg.tape, hg.output, hg.size, fun q hq => hg.block q (by omega) (fun e => by have := (World.ownsRow.lt hown q e.symm).1; omega)⟩
    refine h v' ⟨w', hbl⟩ ?_
    show w'.ownsRow base E k v' (l ++ [y]).length ((l ++ [y]).flatMap enc)
    rw [List.flatMap_append, List.length_append]
    simpa using ho
end
end Go.Proofs.YtaflcbdbacogeaaDoor
