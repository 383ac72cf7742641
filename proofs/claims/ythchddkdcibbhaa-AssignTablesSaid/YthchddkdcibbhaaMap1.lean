/-
  Program-independent ground: a map from small numbers to numbers, read as a function; worlds in which one block has turned.
-/
import Derived.Test.YthchddkdcibbhaaBase9
import Derived.Test.YthchddkdcibbhaaA1
import Derived.Maps.OwnSet
namespace Go.Proofs.Ythchddkdcibbhaa
open Go.RowKit Go.WideShapes Go.ChangeShapes Go.Maps AssignM

/-- w' is w but for block g and new blocks -/
abbrev Turn (w w' : World) (g : Nat) : Prop := w.grownBy w' (some g)
theorem Turn.blk {w w' : World} {g b : Nat} {cs : Array Value} (h : Turn w w' g) (hB : Block w b cs) (hne : b ≠ g) : Block w' b cs := by
  obtain ⟨t, e⟩ := hB.get
  exact ⟨⟨t, by rw [h.block b hB.lt (by simpa using hne)]; exact e⟩⟩
theorem Turn.ext {w0 w w' : World} {g : Nat} (h : Turn w w' g) (hx : Ext w0 w) (hg : w0.heap.size ≤ g) : Ext w0 w' :=
  Below.trans hx ⟨h.os, h.tape, h.output, h.size, fun q hq => h.block q (Nat.lt_of_lt_of_le hq hx.size) (by simp; omega)⟩
theorem Turn.trans {w w' w'' : World} {g : Nat} (h : Turn w w' g) (k : Turn w' w'' g) : Turn w w'' g :=
  ⟨k.os.trans h.os, k.tape.trans h.tape, k.output.trans h.output, Nat.le_trans h.size k.size, fun q hq hne => (k.block q (Nat.lt_of_lt_of_le hq h.size) hne).trans (h.block q hq hne)⟩
theorem Turn.of_ext {w w' : World} {g : Nat} (h : Ext w w') : Turn w w' g := ⟨h.os, h.tape, h.output, h.size, fun q hq _ => h.block q hq⟩
theorem Turn.old {w w' : World} {g b : Nat} (h : Turn w w' g) (ho : Old b w) : Old b w' := ⟨Nat.lt_of_lt_of_le ho.lt h.size⟩

theorem wf_nat {k : Nat} (h : k < 9223372036854775808) : (Lit.int .i64 (k : Int)).wf = true := by
  simp [Lit.wf, IntKind.min, IntKind.max, IntKind.signed, IntKind.bits]; omega
/-- block b is a map that reads as a, on the keys below C; it has no other keys -/
def MapN (P : Program) (k e : TypeId) (C : Nat) (w : World) (b : Nat) (a : Mat) : Prop :=
  ∃ D : DataW Unit, w.ownsMap P k (plainElem P e) b (Maps.size D) D ∧ Maps.size D = cntP (fun x => (a x).isSome) C ∧
    ∀ x : Nat, x < C → Maps.has D (.int .i64 (x : Int)) = (a x).isSome ∧ ∀ i, a x = some i → D.atKey (.int .i64 (x : Int)) (.lit (.int .i64 0)) = .lit (.int .i64 (i : Int))
section
variable {P : Program} {k e C : Nat} {w : World} {b : Nat} {a : Mat}
theorem MapN.made (P : Program) (k e C : Nat) (w : World) : MapN P k e C (w.alloc (.map #[] 0)) w.heap.size (fun _ => none) :=
  ⟨.map [], World.ownsMap_made w P k _, (cntP_zero (fun _ _ => rfl)).symm, fun x _ => ⟨rfl, fun i h => by cases h⟩⟩
theorem MapN.lt (h : MapN P k e C w b a) : b < w.heap.size := by obtain ⟨D, h1, _⟩ := h; exact h1.lt
theorem MapN.kept {w' : World} {row : Option Nat} (h : MapN P k e C w b a) (hg : w.grownBy w' row) (hne : some b ≠ row) : MapN P k e C w' b a := by
  obtain ⟨D, h1, r⟩ := h; exact ⟨D, h1.kept hg hne, r⟩
theorem MapN.turn {w' : World} {g : Nat} (h : MapN P k e C w b a) (hg : Turn w w' g) (hne : b ≠ g) : MapN P k e C w' b a := h.kept hg (by simpa using hne)
theorem MapN.ext {w' : World} (h : MapN P k e C w b a) (hx : Ext w w') : MapN P k e C w' b a := h.kept (row := none) ⟨hx.os, hx.tape, hx.output, hx.size, fun q hq _ => hx.block q hq⟩ (by simp)
theorem MapN.alloc (h : MapN P k e C w b a) (o : Obj) : MapN P k e C (w.alloc o) b a := by obtain ⟨D, h1, r⟩ := h; exact ⟨D, h1.alloc o, r⟩
theorem MapN.drew (h : MapN P k e C w b a) : MapN P k e C w.drew b a := h
theorem MapN.setCell (h : MapN P k e C w b a) {g i : Nat} (hne : b ≠ g) (u : Value) : MapN P k e C (w.setCell ⟨g, i, none⟩ u) b a := by obtain ⟨D, h1, r⟩ := h; exact ⟨D, h1.setCell (a := ⟨g, i, none⟩) hne u, r⟩
theorem tight {D : DataW Unit} {n : Nat} {R : Value → Option (DataW Unit × List MemPlace)} (h : w.ownsMap P k R b n D) : w.ownsMap P k R b (Maps.size D) D := by
  obtain ⟨es, clock, h1, h2, h3, rfl⟩ := h
  exact ⟨es, clock, h1, h2, by rw [Maps.size_eq, length_read]; exact Nat.le_refl _, rfl⟩
theorem lit_ne {x y : Nat} (h : x ≠ y) : (Lit.int .i64 (x : Int)) ≠ .int .i64 (y : Int) := fun e => by
  injection e with _ e
  exact h (by omega)
theorem cntP_upd_some {x i : Nat} (hx : x < C) : cntP (fun y => (upd a x (some i) y).isSome) C = if (a x).isSome then cntP (fun y => (a y).isSome) C else cntP (fun y => (a y).isSome) C + 1 := by
  cases h : a x with
  | none =>
    rw [if_neg (by simp)]
    exact cntP_turn hx (fun y hy => by rw [upd_other hy]) (by rw [h]; rfl) (by rw [upd_same]; rfl)
  | some j =>
    rw [if_pos (by simp)]
    refine cntP_congr fun y _ => ?_
    by_cases e : y = x
    · subst e; rw [upd_same, h]; rfl
    · rw [upd_other e]
theorem cntP_upd_none {x : Nat} (hx : x < C) : cntP (fun y => (upd a x none y).isSome) C + (if (a x).isSome then 1 else 0) = cntP (fun y => (a y).isSome) C := by
  cases h : a x with
  | none =>
    rw [if_neg (by simp), Nat.add_zero]
    refine cntP_congr fun y _ => ?_
    by_cases e : y = x
    · subst e; rw [upd_same, h]
    · rw [upd_other e]
  | some j =>
    rw [if_pos (by simp)]
    exact (cntP_turn (p := fun y => (upd a x none y).isSome) hx (fun y hy => by rw [upd_other hy]) (by rw [upd_same]; rfl) (by rw [h]; rfl)).symm
theorem MapN.put {D : DataW Unit} {w' : World} {n x i : Nat} (hD : Maps.Tidy D) (hs : Maps.size D = cntP (fun x => (a x).isSome) C) (hr : ∀ x : Nat, x < C → Maps.has D (.int .i64 (x : Int)) = (a x).isSome ∧ ∀ i, a x = some i → D.atKey (.int .i64 (x : Int)) (.lit (.int .i64 0)) = .lit (.int .i64 (i : Int)))
    (hx : x < C) (h : w'.ownsMap P k (plainElem P e) b n (D.put (.int .i64 (x : Int)) (.lit (.int .i64 (i : Int))))) : MapN P k e C w' b (upd a x (some i)) := by
  refine ⟨_, tight h, ?_, fun y hy => ?_⟩
  · rw [Maps.size_put hD, cntP_upd_some hx, (hr x hx).1, hs]
  · by_cases e : y = x
    · subst e
      rw [upd_same]
      refine ⟨by rw [Maps.has_put_same hD.isMap (k := .int .i64 (y : Int)) trivial]; rfl, fun j hj => ?_⟩
      obtain rfl : i = j := by simpa using hj
      rw [Maps.atKey_put_same hD.isMap (k := .int .i64 (y : Int)) trivial]
    · rw [upd_other e, Maps.has_put_other (lit_ne e)]
      refine ⟨(hr y hy).1, fun j hj => ?_⟩
      rw [Maps.atKey_put_other (lit_ne e)]
      exact (hr y hy).2 j hj
theorem MapN.del {D : DataW Unit} {w' : World} {n x : Nat} (hD : Maps.Tidy D) (hs : Maps.size D = cntP (fun x => (a x).isSome) C) (hr : ∀ x : Nat, x < C → Maps.has D (.int .i64 (x : Int)) = (a x).isSome ∧ ∀ i, a x = some i → D.atKey (.int .i64 (x : Int)) (.lit (.int .i64 0)) = .lit (.int .i64 (i : Int)))
    (hx : x < C) (h : w'.ownsMap P k (plainElem P e) b n (D.del (.int .i64 (x : Int)))) : MapN P k e C w' b (upd a x none) := by
  refine ⟨_, tight h, ?_, fun y hy => ?_⟩
  · have h1 := Maps.size_del (k := .int .i64 (x : Int)) hD
    have h2 := cntP_upd_none (a := a) hx
    rw [(hr x hx).1] at h1
    omega
  · by_cases e : y = x
    · subst e
      rw [upd_same]
      exact ⟨Maps.has_del_same, fun j hj => by cases hj⟩
    · rw [upd_other e, Maps.has_del_other (lit_ne e)]
      refine ⟨(hr y hy).1, fun j hj => ?_⟩
      rw [Maps.atKey_del_other (lit_ne e)]
      exact (hr y hy).2 j hj
end
section
variable {P : Program} {k e C : Nat} {w : World} {b : Nat} {m : Mat} {ops : Array Oper} {rest : List Oper} {o : Oper} {a : Act} {Q : Exit → Act → World → Prop}
/-- 'v, ok := m[x]' -/
theorem wl_look_ok (hM : MapN P k e C w b m) (hk : P.underlying k = some (.int .i64)) (he : P.underlying e = some (.int .i64)) {t : TypeId} (ht : P.underlying t = some (.map k e)) (hz : ∀ W : World, (zeroValue e).run P W = .ok (.int .i64 0) W)
    {x : Nat} (hx : x < C) (hC : C < 9223372036854775807) (hg : o.guard = none) (mo xo : Operand) (hop : o.op = Op.lookup t mo xo true) (hm : a.eval mo = .map (some b)) (hxo : a.eval xo = .int .i64 (x : Int))
    (h : wpList P ops Q rest (a.put o.dst (.tuple #[.int .i64 (((m x).getD 0 : Nat) : Int), .bool (m x).isSome])) w) : wpList P ops Q (o :: rest) a w := by
  obtain ⟨D, hown, hs, hr⟩ := hM
  refine wpList_lookup_own_ok_int w hg mo xo t hop k e .i64 (int_keyed hk) ht he (hz w) b _ D hm hown _ _ hxo (keyOf_int_mk hk (wf_nat (by omega))) ?_
  intro c hat _
  rw [(hr x hx).1]
  rcases hmx : m x with _ | i
  · rw [hmx] at h
    have hno : Maps.has D (.int .i64 (x : Int)) = false := by rw [(hr x hx).1, hmx]; rfl
    rw [Maps.atKey_of_not_has hno] at hat
    have : c = 0 := by injection hat with hat; injection hat with _ hat; exact hat.symm
    subst this
    exact h
  · rw [hmx] at h
    rw [(hr x hx).2 i hmx] at hat
    have : c = (i : Int) := by injection hat with hat; injection hat with _ hat; exact hat.symm
    subst this
    exact h
/-- 'm[x]' of a key that is there -/
theorem wl_look (hM : MapN P k e C w b m) (hk : P.underlying k = some (.int .i64)) (he : P.underlying e = some (.int .i64)) {t : TypeId} (ht : P.underlying t = some (.map k e)) (hz : ∀ W : World, (zeroValue e).run P W = .ok (.int .i64 0) W)
    {x i : Nat} (hx : x < C) (hC : C < 9223372036854775807) (hmx : m x = some i) (hg : o.guard = none) (mo xo : Operand) (hop : o.op = Op.lookup t mo xo false) (hm : a.eval mo = .map (some b)) (hxo : a.eval xo = .int .i64 (x : Int))
    (h : wpList P ops Q rest (a.put o.dst (.int .i64 (i : Int))) w) : wpList P ops Q (o :: rest) a w := by
  obtain ⟨D, hown, hs, hr⟩ := hM
  refine wpList_lookup_own_int w hg mo xo t hop k e .i64 (int_keyed hk) ht he (hz w) b _ D hm hown _ _ hxo (keyOf_int_mk hk (wf_nat (by omega))) ?_
  intro c hat _
  rw [(hr x hx).2 i hmx] at hat
  have : c = (i : Int) := by injection hat with hat; injection hat with _ hat; exact hat.symm
  subst this
  exact h
/-- 'm[x] = i' -/
theorem wl_mput (hM : MapN P k e C w b m) (hk : P.underlying k = some (.int .i64)) (he : P.underlying e = some (.int .i64)) {t : TypeId} (ht : P.underlying t = some (.map k e))
    {x i : Nat} (hx : x < C) (hC : C < 9223372036854775807) (hi : i < 9223372036854775808) (hg : o.guard = none) (mo xo vo : Operand) (hop : o.op = Op.mapUpdate t mo xo vo) (hm : a.eval mo = .map (some b)) (hxo : a.eval xo = .int .i64 (x : Int)) (hvo : a.eval vo = .int .i64 (i : Int))
    (h : ∀ w', MapN P k e C w' b (upd m x (some i)) → Turn w w' b → wpList P ops Q rest (a.put o.dst undef) w') : wpList P ops Q (o :: rest) a w := by
  obtain ⟨D, hown, hs, hr⟩ := hM
  have hle := cntP_len (fun x => (m x).isSome) C
  refine wpList_mapUpdate_in w hg mo xo vo t hop k e (int_keyed hk) ht _ b _ D hm hown (by unfold maxLen; omega) _ _ _ hxo hvo (keyOf_int_mk hk (wf_nat (by omega))) _ [] (plainElem_int he (wf_nat hi)) ?_
  intro w' h1 h2
  exact h w' (MapN.put (hown.tidy (int_keyed hk)) hs hr hx h1) h2.grown
/-- 'delete(m, x)' -/
theorem wl_mdel (hM : MapN P k e C w b m) (hk : P.underlying k = some (.int .i64)) {t : TypeId} (ht : P.underlying t = some (.map k e))
    {x : Nat} (hx : x < C) (hC : C < 9223372036854775807) (hg : o.guard = none) (mo xo : Operand) (hop : o.op = Op.call { callee := Callee.builtin Builtin.delete, args := #[mo, xo], argTypes := #[t, k] }) (hm : a.eval mo = .map (some b)) (hxo : a.eval xo = .int .i64 (x : Int))
    (h : ∀ w', MapN P k e C w' b (upd m x none) → Turn w w' b → wpList P ops Q rest (a.put o.dst (.tuple #[])) w') : wpList P ops Q (o :: rest) a w := by
  obtain ⟨D, hown, hs, hr⟩ := hM
  refine wpList_delete_own w hg mo xo t k hop e (int_keyed hk) ht _ b _ D hm hown _ _ hxo (keyOf_int_mk hk (wf_nat (by omega))) ?_
  intro w' h1 h2
  exact h w' (MapN.del (hown.tidy (int_keyed hk)) hs hr hx h1) h2.grown
end
end Go.Proofs.Ythchddkdcibbhaa
