/-
  Program-independent ground: a queue of numbers in a slice of the call's own: taken from at its head, appended to at its end.
-/
import Derived.Test.YthchddkdcibbhaaMap1
import Derived.ArgAppend
namespace Go.Proofs.Ythchddkdcibbhaa
open Go.RowKit Go.WideShapes Go.ChangeShapes

/-- v is a slice of the call's own, from block base on, that holds the numbers xs; it need not begin at its array's first element -/
def Que (E base : Nat) (w : World) (v : Value) (xs : List Nat) : Prop :=
  ∃ g off cap cur, v = .slice (some ⟨g, off, none⟩) xs.length cap ∧ base ≤ g ∧ w.heap[g]? = some (.cells cur E) ∧ xs.length ≤ cap ∧ off + cap ≤ cur.size ∧ ∀ (i : Nat) x, xs[i]? = some x → cur[off + i]? = some (.int .i64 (x : Int))
theorem Que.made (E : Nat) (w : World) (x : Nat) : Que E w.heap.size (w.alloc (.cells #[.int .i64 (x : Int)] E)) (.slice (some ⟨w.heap.size, 0, none⟩) 1 1) [x] :=
  ⟨w.heap.size, 0, 1, _, rfl, Nat.le_refl _, (MapKept.heap_alloc w _).1, Nat.le_refl _, by simp, fun i y h => by
    match i, h with
    | 0, h => simp at h; subst h; rfl
    | (i + 1), h => simp at h⟩
theorem Que.lower {E base base' : Nat} {w : World} {v : Value} {xs : List Nat} (h : Que E base w v xs) (hb : base' ≤ base) : Que E base' w v xs := by
  obtain ⟨g, off, cap, cur, h1, h2, r⟩ := h
  exact ⟨g, off, cap, cur, h1, Nat.le_trans hb h2, r⟩
theorem Que.form {E base : Nat} {w : World} {v : Value} {xs : List Nat} (h : Que E base w v xs) : ∃ g off cap, v = .slice (some ⟨g, off, none⟩) xs.length cap ∧ base ≤ g ∧ Old g w ∧ xs.length ≤ cap := by
  obtain ⟨g, off, cap, cur, h1, h2, h3, h4, _⟩ := h
  exact ⟨g, off, cap, h1, h2, ⟨(Array.getElem?_eq_some_iff.1 h3).1⟩, h4⟩
theorem Que.head {E base : Nat} {w : World} {g off n cap x : Nat} {xs : List Nat} (h : Que E base w (.slice (some ⟨g, off, none⟩) n cap) (x :: xs)) : w.cell? ⟨g, off, none⟩ = some (.int .i64 (x : Int)) := by
  obtain ⟨g', off', cap', cur, h1, h2, h3, h4, h5, h6⟩ := h
  simp only [Value.slice.injEq, Option.some.injEq, Addr.mk.injEq] at h1
  obtain ⟨⟨rfl, rfl, _⟩, _, rfl⟩ := h1
  have := h6 0 x rfl
  simp [World.cell?, h3]
  simpa using this
theorem Que.tail {E base : Nat} {w : World} {g off n cap x : Nat} {xs : List Nat} (h : Que E base w (.slice (some ⟨g, off, none⟩) n cap) (x :: xs)) : (cap ≠ 1 → Que E base w (.slice (some ⟨g, off + 1, none⟩) xs.length (cap - 1)) xs) ∧ (cap = 1 → xs = [] ∧ Que E base w (.slice (some ⟨g, off, none⟩) 0 0) []) := by
  obtain ⟨g', off', cap', cur, h1, h2, h3, h4, h5, h6⟩ := h
  simp only [Value.slice.injEq, Option.some.injEq, Addr.mk.injEq] at h1
  obtain ⟨⟨rfl, rfl, _⟩, _, rfl⟩ := h1
  simp only [List.length_cons] at h4
  refine ⟨fun _ => ⟨g, off + 1, cap - 1, cur, rfl, h2, h3, by omega, by omega, fun i y hy => ?_⟩, fun hc => ⟨List.eq_nil_of_length_eq_zero (by omega), g, off, 0, cur, rfl, h2, h3, Nat.le_refl _, by omega, fun i y hy => by simp at hy⟩⟩
  have := h6 (i + 1) y (by simpa using hy)
  rw [show off + 1 + i = off + (i + 1) by omega]
  exact this
theorem Que.turn {E base g : Nat} {w w' : World} {v : Value} {xs : List Nat} (h : Que E base w v xs) (hT : Turn w w' g) (hne : v.ownBlock ≠ some g) : Que E base w' v xs := by
  obtain ⟨g', off, cap, cur, rfl, h2, h3, r⟩ := h
  exact ⟨g', off, cap, cur, rfl, h2, by rw [hT.block g' (Array.getElem?_eq_some_iff.1 h3).1 (by simpa [Value.ownBlock] using hne)]; exact h3, r⟩
theorem Que.ext {E base : Nat} {w w' : World} {v : Value} {xs : List Nat} (h : Que E base w v xs) (hx : Ext w w') : Que E base w' v xs := by
  obtain ⟨g', off, cap, cur, rfl, h2, h3, r⟩ := h
  exact ⟨g', off, cap, cur, rfl, h2, by rw [hx.block g' (Array.getElem?_eq_some_iff.1 h3).1]; exact h3, r⟩
theorem Que.alloc {E base : Nat} {w : World} {v : Value} {xs : List Nat} (h : Que E base w v xs) (o : Obj) : Que E base (w.alloc o) v xs := h.ext ((Ext.refl w).alloc o)
theorem Que.setCell {E base g i : Nat} {w : World} {v : Value} {xs : List Nat} (h : Que E base w v xs) (hne : v.ownBlock ≠ some g) (u : Value) : Que E base (w.setCell ⟨g, i, none⟩ u) v xs := by
  obtain ⟨g', off, cap, cur, rfl, h2, h3, r⟩ := h
  refine ⟨g', off, cap, cur, rfl, h2, ?_, r⟩
  have hgne : g' ≠ g := fun e => hne (by rw [e]; rfl)
  rw [← h3]
  unfold World.setCell
  simp only [Array.getElem?_modify, if_neg (Ne.symm hgne)]
/-- one more number at the end -/
theorem wl_push {P : Program} {ops : Array Oper} {rest : List Oper} {a : Act} {Q : Exit → Act → World → Prop} {w : World} {dst : Option Tmp} {ty : TypeId} {pos : String} {aft : Array Edge} {s x : Operand} {t E : TypeId} {i : TypeInfo} {base : Nat} {v : Value} {xs : List Nat} {y : Nat} {b c : Nat}
    (ht : P.underlying t = some (.slice E)) (hi : P.info? E = some i) (hz : i.zero = some (.int .i64 0)) (hsize : i.size = 1) (hby : i.bytes = 8)
    (hs : a.eval s = v) (hx : a.eval x = .slice (some ⟨b, 0, none⟩) 1 c) (hq : Que E base w v xs) (hb : Block w b #[.int .i64 (y : Int)]) (hlen : xs.length ≤ 1099511627776) (hbase : base ≤ w.heap.size)
    (h : ∀ (v' : Value) (n : ExtB base w), Que E base n.val v' (xs ++ [y]) → Kept w v n.val v' → wpList P ops Q rest (a.put dst v') n.val) :
    wpList P ops Q (⟨dst, .call { callee := .builtin .append, args := #[s, x], argTypes := #[t, t] }, ty, pos, aft, none⟩ :: rest) a w := by
  obtain ⟨g, off, cap, cur, rfl, h2, h3, h4, h5, h6⟩ := hq
  have hglt := (Array.getElem?_eq_some_iff.1 h3).1
  have hnews : ∀ (j : Nat) u, ([Value.int .i64 (y : Int)])[j]? = some u → w.cell? ((⟨b, 0, none⟩ : Addr).add j) = some u := by
    intro j u hj
    have hadd : (⟨b, 0, none⟩ : Addr).add j = ⟨b, j, none⟩ := by unfold Addr.add; split <;> simp_all
    rw [hadd, Block.cell (h := hb), ← hj]
    simp
  have hcell : ∀ (j : Nat) u, cur[j]? = some u → w.cell? ⟨g, j, none⟩ = some u := fun j u hj => by simp [World.cell?, h3]; simpa using hj
  refine wpList_plain rfl fun K hK => ?_
  unfold Oper.wp execOp
  by_cases hroom : xs.length + 1 ≤ cap
  · have hin : off + xs.length < cur.size := by omega
    have hr := run_append_room_cells (P := P) w t ty E i ht hi g off xs.length cap ⟨b, 0, none⟩ 1 c [.int .i64 (y : Int)] (by simp [hsize]) hnews (by simp [Value.oneCell']) hroom (fun j hj => by
      have : j = 0 := by simpa using hj
      subst this
      rw [hsize, Nat.mul_one, hcell _ cur[off + xs.length] (by simp [hin])]
      rfl) (fun j hj => by simp [World.frozen?, h3])
    simp only [resolve, invoke, builtin, Sem.run_bind, Sem.run_pure, Result.andThen_ok, List.map_toArray, List.map_cons, List.map_nil, hs, hx, hr]
    rw [hsize, Nat.mul_one]
    have hw : w.setCells g (off + xs.length) [.int .i64 (y : Int)] = w.setCell ⟨g, off + xs.length, none⟩ (.int .i64 (y : Int)) := rfl
    rw [hw]
    have hheap : (w.setCell ⟨g, off + xs.length, none⟩ (.int .i64 (y : Int))).heap[g]? = some (.cells (cur.setIfInBounds (off + xs.length) (.int .i64 (y : Int))) E) := by
      rw [setCell_eq_setRow w g (off + xs.length) cur _ (0, 0) _ h3]
      exact setRow_heap w g cur _ _ _ h3
    have hoth : ∀ q, q ≠ g → (w.setCell ⟨g, off + xs.length, none⟩ (.int .i64 (y : Int))).heap[q]? = w.heap[q]? := fun q hq => Below.heap_setCell _ _ _ _ hq
    have hbl : Below base w (w.setCell ⟨g, off + xs.length, none⟩ (.int .i64 (y : Int))) := ⟨rfl, rfl, rfl, by simp [World.setCell], fun q hq => hoth q (by omega)⟩
    refine hK _ _ (h _ ⟨w.setCell ⟨g, off + xs.length, none⟩ (.int .i64 (y : Int)), hbl⟩ ⟨g, off, cap, _, by simp, h2, hheap, by simpa using hroom, by simpa using h5, fun j z hj => ?_⟩ ⟨fun q hq hne => hoth q (fun e => hne (by rw [e]; rfl)), .inl rfl, by simp [ExtB.val, World.setCell]⟩)
    rcases Nat.lt_or_ge j xs.length with hj' | hj'
    · rw [List.getElem?_append_left hj'] at hj
      rw [Array.getElem?_setIfInBounds_ne (by omega)]
      exact h6 j z hj
    · rw [List.getElem?_append_right hj'] at hj
      have hj0 : j - xs.length = 0 := by have := (List.getElem?_eq_some_iff.1 hj).1; simp at this; omega
      rw [hj0] at hj
      obtain rfl : y = z := by simpa using hj
      rw [show off + j = off + xs.length by omega, Array.getElem?_setIfInBounds_self_of_lt hin]
  · have hr := run_append_grow (P := P) w t ty E i (.int .i64 0) ht hi hz ⟨g, off, none⟩ xs.length cap (xs.map fun z : Nat => Value.int .i64 (z : Int)) (by simp [hsize]) (fun j u hj => by
      obtain ⟨z, hz1, hz2⟩ := by simpa using hj
      subst hz2
      have hadd : (⟨g, off, none⟩ : Addr).add j = ⟨g, off + j, none⟩ := by
        unfold Addr.add
        split
        · rename_i e; rw [e]; rfl
        · rfl
      rw [hadd]
      exact hcell _ _ (h6 j z hz1)) ⟨b, 0, none⟩ 1 c [.int .i64 (y : Int)] (by simp [hsize]) hnews (by omega) (by omega) (growslice_fits (by omega) (by rw [hby]; omega))
    simp only [resolve, invoke, builtin, Sem.run_bind, Sem.run_pure, Result.andThen_ok, List.map_toArray, List.map_cons, List.map_nil, hs, hx, hr]
    have hge := grownCap_ge w (xs.length + 1) cap E
    have hold : ∀ (o : Obj) q, q < w.heap.size → (w.drew.alloc o).heap[q]? = w.heap[q]? := fun o q hq => Below.heap_alloc w.drew o q hq
    have hbl : ∀ o : Obj, Below base w (w.drew.alloc o) := fun o => ⟨rfl, rfl, rfl, by simp, fun q hq => hold _ q (by omega)⟩
    refine hK _ _ (h _ ⟨_, hbl _⟩ ⟨w.heap.size, 0, grownCap w (xs.length + 1) cap E, _, by simp, hbase, (MapKept.heap_alloc w.drew _).1, by simpa using hge, ?_, fun j z hj => ?_⟩ ⟨fun q hq _ => hold _ q hq, .inr rfl, by simp [ExtB.val]⟩)
    · simp [size_zeroCells, Value.cells]; omega
    · have hj' : j < (xs ++ [y]).length := (List.getElem?_eq_some_iff.1 hj).1
      have hj3 : j < xs.length + 1 := by simpa using hj'
      rw [Nat.zero_add, Array.getElem?_append_left (by simp; omega)]
      rcases Nat.lt_or_ge j xs.length with hj2 | hj2
      · rw [List.getElem?_append_left hj2] at hj
        rw [Array.getElem?_append_left (by simpa using hj2)]
        simp [hj]
      · rw [List.getElem?_append_right hj2] at hj
        have hj0 : j - xs.length = 0 := by have := (List.getElem?_eq_some_iff.1 hj).1; simp at this; omega
        rw [hj0] at hj
        obtain rfl : y = z := by simpa using hj
        rw [Array.getElem?_append_right (by simpa using hj2)]
        simp [hj0]
end Go.Proofs.Ythchddkdcibbhaa
