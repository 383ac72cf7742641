/-
  Program-independent ground: parts of slices, slices of the call's own that are written in the midst.
-/
import Derived.Test.YtaflcbdbacogeaaDoorPMap
set_option linter.unusedVariables false
set_option linter.unusedSimpArgs false
namespace Go.Proofs.YtaflcbdbacogeaaDoor
open Go.RowKit

section
variable {α : Type} {enc : α → List Value} {k : Nat} {w : World}
theorem Own.lower {E base base' : Nat} {v : Value} {l : List α} (h : Own enc k E base w v l) (hb : base' ≤ base) : Own enc k E base' w v l := by
  obtain ⟨h1, hn | ⟨g, cap, cur, rfl, hg, r⟩⟩ := h
  · exact ⟨h1, .inl hn⟩
  · exact ⟨h1, .inr ⟨g, cap, cur, rfl, by omega, r⟩⟩
/-- '[]T{}' -/
theorem Own.empty {E base : Nat} (hb : base ≤ w.heap.size) : Own enc k E base (w.alloc (.cells #[] E)) (.slice (some ⟨w.heap.size, 0, none⟩) 0 0) ([] : List α) :=
  ⟨by simp, .inr ⟨w.heap.size, 0, #[], rfl, hb, (MapKept.heap_alloc w _).1, Nat.le_refl _, Nat.zero_le _, by simp, by simp⟩⟩
theorem SliceOf.take {p : Option Addr} {n cap j : Nat} {l : List α} (h : SliceOf enc k w (.slice p n cap) l) (hj : j ≤ l.length) : SliceOf enc k w (.slice p j cap) (l.take j) := by
  obtain ⟨p', cap', e, h1, h2, h3, h4⟩ := h
  simp only [Value.slice.injEq] at e
  obtain ⟨rfl, rfl, rfl⟩ := e
  refine ⟨p, cap, by simp; omega, by simp; omega, h2, h3, fun i x hi => ?_⟩
  rw [List.getElem?_take] at hi
  split at hi
  · exact h4 i x hi
  · cases hi
theorem SliceOf.drop {b off n cap j : Nat} {l : List α} (h : SliceOf enc k w (.slice (some ⟨b, off, none⟩) n cap) l) (hj : j ≤ l.length) : SliceOf enc k w (.slice (some ⟨b, off + j * k, none⟩) (n - j) (cap - j)) (l.drop j) := by
  obtain ⟨p', cap', e, h1, h2, h3, h4⟩ := h
  simp only [Value.slice.injEq] at e
  obtain ⟨rfl, rfl, rfl⟩ := e
  refine ⟨_, cap - j, by simp, by simp; omega, by omega, fun h => (by cases h), fun i x hi => ⟨b, off + j * k, rfl, fun q u hq => ?_⟩⟩
  rw [List.getElem?_drop] at hi
  obtain ⟨b', o', e, hc⟩ := h4 (j + i) x hi
  simp only [Option.some.injEq, Addr.mk.injEq, and_true] at e
  obtain ⟨rfl, rfl⟩ := e
  have := hc q u hq
  rw [Nat.add_mul] at this
  rw [show off + j * k + (i * k + q) = off + (j * k + i * k + q) by omega]
  exact this
theorem SliceOf.none_of_nil {p : Option Addr} : SliceOf enc k w (.slice p 0 0) ([] : List α) :=
  ⟨p, 0, rfl, Nat.le_refl _, Nat.zero_le _, fun _ => rfl, fun i x h => by simp at h⟩
end
end Go.Proofs.YtaflcbdbacogeaaDoor
