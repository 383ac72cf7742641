/-
  Program-independent ground: a map of the call's own whose elements are pointers to new blocks; a region with a tail over any class of worlds.
-/
import Derived.Test.YtaflcbdbacogeaaDoorPair
import Derived.Maps.OwnSet
set_option linter.unusedVariables false
set_option linter.unusedSimpArgs false
namespace Go.Proofs.YtaflcbdbacogeaaDoor
open Go.RowKit Go.Maps

def ptrElem : Value → Option (DataW Unit × List MemPlace)
  | .pointer none => some (.lit (.bool false), [])
  | .pointer (some ⟨g, 0, none⟩) => some (.lit (.int .i64 (g : Int)), [])
  | _ => none
def ptrV : Option Nat → Value
  | none => .pointer none
  | some g => .pointer (some ⟨g, 0, none⟩)
def ptrD : Option Nat → DataW Unit
  | none => .lit (.bool false)
  | some g => .lit (.int .i64 (g : Int))
theorem ptrElem_v (o : Option Nat) : ptrElem (ptrV o) = some (ptrD o, []) := by cases o <;> rfl
theorem ptrElem_inv {v : Value} {o : Option Nat} {ps : List MemPlace} (h : ptrElem v = some (ptrD o, ps)) : v = ptrV o := by
  unfold ptrElem at h
  split at h
  · cases o with
    | none => rfl
    | some g => simp [ptrD] at h
  · cases o with
    | none => simp [ptrD] at h
    | some g =>
      simp only [ptrD, Option.some.injEq, Prod.mk.injEq, DataW.lit.injEq, Lit.int.injEq, true_and] at h
      obtain ⟨h, _⟩ := h
      obtain rfl := Int.ofNat.inj h
      rfl
  · cases h
section
variable {P : Program} {k : TypeId} {κ : Type} {kv : κ → Value} {W W' : World} {b n : Nat} {a : κ → Option Nat}
/-- block b is a map of at most n entries that leads each key to the block a of it -/
def PMap (P : Program) (k : TypeId) (kv : κ → Value) (W : World) (b n : Nat) (a : κ → Option Nat) : Prop :=
  ∃ D, W.ownsMap P k ptrElem b n D ∧ ∀ x l, keyOf P k (kv x) = some l → D.atKey l (.lit (.bool false)) = ptrD (a x)
theorem PMap.made (W : World) : PMap P k kv (W.alloc (.map #[] 0)) W.heap.size 0 (fun _ => none) :=
  ⟨.map [], World.ownsMap_made W P k ptrElem, fun x l _ => rfl⟩
theorem PMap.lt (h : PMap P k kv W b n a) : b < W.heap.size := by obtain ⟨D, h1, _⟩ := h; exact h1.lt
theorem PMap.kept {row : Option Nat} (h : PMap P k kv W b n a) (hg : W.grownBy W' row) (hne : some b ≠ row) : PMap P k kv W' b n a := by
  obtain ⟨D, h1, r⟩ := h; exact ⟨D, h1.kept hg hne, r⟩
theorem PMap.ext (h : PMap P k kv W b n a) (hx : Ext W W') : PMap P k kv W' b n a := h.kept (row := none) ⟨hx.os, hx.tape, hx.output, hx.size, fun q hq _ => hx.block q hq⟩ (by simp)
theorem PMap.setCell (h : PMap P k kv W b n a) {g i : Nat} (hne : b ≠ g) (u : Value) : PMap P k kv (W.setCell ⟨g, i, none⟩ u) b n a := by
  obtain ⟨D, h1, r⟩ := h; exact ⟨D, h1.setCell (a := ⟨g, i, none⟩) hne u, r⟩
theorem PMap.lookup (h : PMap P k kv W b n a) (K : Keyed P k) {t e : TypeId} (ht : P.underlying t = some (.map k e)) (hz : ∀ W : World, (zeroValue e).run P W = .ok (.pointer none) W) {x : κ} (hx : ∃ l, keyOf P k (kv x) = some l) :
    (Instr.lookup t (.map (some b)) (kv x) false).run P W = .ok (ptrV (a x)) W := by
  obtain ⟨D, h1, r⟩ := h
  obtain ⟨l, hl⟩ := hx
  obtain ⟨v, ps, hrun, hv⟩ := h1.lookup K ht (hz W) (zd := .lit (.bool false)) (zp := []) rfl hl
  rw [r x l hl] at hv
  rw [hrun, ptrElem_inv hv]
theorem PMap.store [DecidableEq κ] (h : PMap P k kv W b n a) (K : Keyed P k) (hkv : ∀ x y, kv x = kv y → x = y) {t e : TypeId} (ht : P.underlying t = some (.map k e)) (hn : n < maxLen) {x : κ} (hx : ∃ l, keyOf P k (kv x) = some l) (g : Nat) :
    ∃ W', (Instr.mapUpdate t (.map (some b)) (kv x) (.pointer (some ⟨g, 0, none⟩))).run P W = .ok () W' ∧ PMap P k kv W' b (n + 1) (fun y => if y = x then some g else a y) ∧ W.grownBy W' (some b) := by
  obtain ⟨D, h1, r⟩ := h
  obtain ⟨l, hl⟩ := hx
  obtain ⟨W', hrun, hown, hturn⟩ := h1.store K ht hn hl (ptrElem_v (some g))
  refine ⟨W', hrun, ⟨_, hown, fun y l' hl' => ?_⟩, hturn.grown⟩
  by_cases e : y = x
  · subst e
    obtain rfl : l = l' := by rw [hl] at hl'; exact Option.some.inj hl'
    simp only [if_true]
    rw [Maps.atKey_put_same h1.isMap (K.key hl)]
  · simp only [if_neg e]
    have hne : l' ≠ l := fun e' => e (hkv _ _ (K.inj hl' (by rw [e']; exact hl)))
    rw [Maps.atKey_put_other hne, r y l' hl']
end
section
variable {P : Program} {C : World → Prop}
/-- THE REGION: n operations that stay in a class of worlds, and a tail -/
theorem wp_region_class_tail {id : Nat} {Q : Exit → Act → World → Prop} {a : Act} {w : World} {l : List Oper} (n : Nat) (hm : P.follows .mixedOrders = true) (hB : Region.lexTailB .any l.toArray n = true) (hC : C w.drew)
    (h : wpQuiet P l.toArray C (fun a' => ∀ w', C w' → wpList P l.toArray Q (l.drop n) a' w') (l.take n) a) : (Code.region id l.toArray true).wp P Q a w := by
  simp only [Region.lexTailB, Bool.and_eq_true, decide_eq_true_eq] at hB
  obtain ⟨⟨⟨⟨hsel, hn⟩, hs⟩, hc⟩, hlex⟩ := hB
  have hn' : n < l.length := by simpa using hn
  have htl : (l.take n).length = n := by simp; omega
  have hdl : (l.drop n).length = l.toArray.size - n := by simp
  have inv0 : HeadInv .any l.toArray n (Array.replicate l.toArray.size false) :=
    ⟨by simp, fun j oj _ hl => (by rw [getD_replicate_false] at hl; cases hl), fun t _ ht => getD_in (by simpa using ht) (getD_replicate_false _ _)⟩
  have H := wpAnyT_lex (md := .any) (g := l.toArray.size - n) hsel hs hc hn (l.take n) 0 _ a (fun j hj => by
    have hj' : j < n := by rw [htl] at hj; exact hj
    simp [hj']) (by simpa using htl) inv0 (by rw [htl]; exact hlex) h
  refine wp_region_any hm ?_
  have := wpAny_of_headT (Q' := Q) (g := l.toArray.size - n) (fun listed a' w' hw' hL => by
    have := wpAny_of_seq (md := .any) (Q' := Q) (l.drop n) n listed a' w' (fun j => by simp [List.getElem?_drop]) (by rw [hdl]; exact hL.1) (hL.2 w' hw')
    rwa [hdl] at this) _ _ _ { w with drawn := w.drawn + 1 } hC H
  rw [htl, show n + (l.toArray.size - n) = l.toArray.size by omega] at this
  exact this
end
end Go.Proofs.YtaflcbdbacogeaaDoor
