/-
  More program-independent ground: append to a slice of the call's own, beside other slices of the call's own.
-/
import Derived.Test.YtaflcbdbacogeaaDoorBase7
set_option linter.unusedVariables false
set_option linter.unusedSimpArgs false
namespace Go.Proofs.YtaflcbdbacogeaaDoor
open Go.RowKit Go.WideShapes Go.ChangeShapes

/-- two slices do not lie in one block -/
def Apt (u v : Value) : Prop := ∀ b, u.ownBlock = some b → v.ownBlock ≠ some b
theorem Apt.symm {u v : Value} (h : Apt u v) : Apt v u := fun b h1 h2 => h b h2 h1
theorem Apt.nil (v : Value) : Apt (.slice none 0 0) v := fun b h => by cases h
/-- the worlds that append to v can leave: every block but that of v is as it was -/
structure Kept (w : World) (v : Value) (w' : World) (v' : Value) : Prop where
  heap : ∀ q, q < w.heap.size → v.ownBlock ≠ some q → w'.heap[q]? = w.heap[q]?
  own : v'.ownBlock = v.ownBlock ∨ v'.ownBlock = some w.heap.size
  size : w.heap.size ≤ w'.heap.size

section
variable {α : Type} {enc : α → List Value} {k : Nat}
theorem Kept.block {w w' : World} {v v' : Value} (h : Kept w v w' v') {b : Nat} {cs : Array Value} (hB : Block w b cs) (hne : v.ownBlock ≠ some b) : Block w' b cs := by
  obtain ⟨t, e⟩ := hB.get
  exact ⟨⟨t, by rw [h.heap b hB.lt hne]; exact e⟩⟩
theorem Kept.ne {w w' : World} {v v' : Value} (h : Kept w v w' v') {b : Nat} (hb : b < w.heap.size) (hne : v.ownBlock ≠ some b) : v'.ownBlock ≠ some b := by
  rcases h.own with h2 | h2 <;> rw [h2]
  · exact hne
  · simp; omega
theorem Kept.other {w w' : World} {v v' u : Value} {E base : Nat} {l : List α} (h : Kept w v w' v') (ho : Own enc k E base w u l) (hne : Apt v u) : Own enc k E base w' u l := by
  refine ⟨ho.1, ?_⟩
  rcases ho.2 with hn | ⟨g, cap, cur, rfl, hb, hgg, rest⟩
  · exact .inl hn
  · refine .inr ⟨g, cap, cur, rfl, hb, ?_, rest⟩
    rw [h.heap g (Array.getElem?_eq_some_iff.1 hgg).1 (fun e => hne g e rfl)]
    exact hgg
theorem Kept.apt {w w' : World} {v v' u : Value} {E base : Nat} {l : List α} (h : Kept w v w' v') (ho : Own enc k E base w u l) (hne : Apt v u) : Apt v' u := by
  intro b hb
  rcases h.own with h2 | h2 <;> rw [h2] at hb
  · exact hne b hb
  · injection hb with hb
    subst hb
    exact Own.block_lt ho (Nat.le_refl _)
/-- a slice that does not lie in v's block reads as it did -/
theorem Kept.slice {w w' : World} {v v' : Value} {p : Option Addr} {n cap : Nat} {l : List α} (h : Kept w v w' v') (hs : SliceOf enc k w (.slice p n cap) l) (hne : ∀ a, p = some a → v.ownBlock ≠ some a.block) : SliceOf enc k w' (.slice p n cap) l := by
  obtain ⟨p', cap', e, h1, h2, h3, h4⟩ := hs
  refine ⟨p', cap', e, h1, h2, h3, fun i x hi => ?_⟩
  obtain ⟨b, off, hp, hc⟩ := h4 i x hi
  refine ⟨b, off, hp, fun j u hj => ?_⟩
  have h5 := hc j u hj
  have hlt := World.block_lt_of_cell? w ⟨b, off + (i * k + j), none⟩ h5
  simp only [Value.slice.injEq] at e
  obtain ⟨rfl, _, _⟩ := e
  have h6 := h.heap b hlt (hne _ hp)
  rw [← h5]
  simp only [World.cell?]
  rw [h6]
/-- one more element, by append -/
theorem wl_append1g {P : Program} {ops : Array Oper} {rest : List Oper} {a : Act} {Q : Exit → Act → World → Prop} {w : World} {dst : Option Tmp} {ty : TypeId} {pos : String} {aft : Array Edge} {s x : Operand} {t E : TypeId} {i : TypeInfo} {z : Value} {bytes base : Nat} {v : Value} {l : List α} {y : α} {b c : Nat} {cs : Array Value}
    (ht : P.underlying t = some (.slice E)) (hi : P.info? E = some i) (hz : i.zero = some z) (hsize : i.size = k) (hby : i.bytes = bytes) (hzs : z.cells.size = k) (hk0 : 0 < k) (hk : ∀ x, (enc x).length = k) (h1 : ∀ x, ∀ u ∈ enc x, u.oneCell' = true)
    (hs : a.eval s = v) (hx : a.eval x = .slice (some ⟨b, 0, none⟩) 1 c) (hown : Own enc k E base w v l) (hb : Block w b cs) (hcs : cs.toList = enc y) (h63 : l.length + 1 ≤ maxLen) (hbytes : (l.length + 1) * bytes ≤ 140737488355328) (hbase : base ≤ w.heap.size)
    (h : ∀ (v' : Value) (n : ExtB base w), Own enc k E base n.val v' (l ++ [y]) → Kept w v n.val v' → wpList P ops Q rest (a.put dst v') n.val) :
    wpList P ops Q (⟨dst, .call { callee := .builtin .append, args := #[s, x], argTypes := #[t, t] }, ty, pos, aft, none⟩ :: rest) a w := by
  subst hsize
  subst hby
  have hnews : ∀ j u, (enc y)[j]? = some u → w.cell? ((⟨b, 0, none⟩ : Addr).add j) = some u := by
    intro j u hj
    have hadd : (⟨b, 0, none⟩ : Addr).add j = ⟨b, j, none⟩ := by unfold Addr.add; split <;> simp_all
    rw [hadd, Block.cell (h := hb), ← hj, ← hcs]
    simp
  have hnl : (enc y).length = 1 * i.size := by rw [hk, Nat.one_mul]
  obtain ⟨v', w', hr, ho, hg, _⟩ := run_append_own (P := P) w base t ty E i z i.size i.bytes ht hi hz rfl rfl hzs hk0 v l.length (l.flatMap enc) hown ⟨b, 0, none⟩ 1 c (enc y) hnl hnews (h1 y) h63 hbytes hbase
  have hblk := append_block ht hi hz hown hnl hnews (h1 y) h63 hbytes hr
  refine wpList_plain rfl fun K hK => ?_
  unfold Oper.wp execOp
  simp only [resolve, invoke, builtin, Sem.run_bind, Sem.run_pure, Result.andThen_ok, List.map_toArray, List.map_cons, List.map_nil, hs, hx, hr]
  have hbl : Below base w w' := ⟨hg.os, hg.tape, hg.output, hg.size, fun q hq => hg.block q (by omega) (fun e => by have := (World.ownsRow.lt hown q e.symm).1; omega)⟩
  refine hK _ _ (h v' ⟨w', hbl⟩ ?_ ⟨fun q hq hne => hg.block q hq (Ne.symm hne), hblk, hg.size⟩)
  show w'.ownsRow base E i.size v' (l ++ [y]).length ((l ++ [y]).flatMap enc)
  rw [List.flatMap_append, List.length_append]
  simpa using ho
end
end Go.Proofs.YtaflcbdbacogeaaDoor
