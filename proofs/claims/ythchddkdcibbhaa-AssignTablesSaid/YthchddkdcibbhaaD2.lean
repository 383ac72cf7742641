/-
  How parameters that are tables and lists of numbers read.
-/
import Derived.Test.YthchddkdcibbhaaD1
import Derived.Deep.Slices
namespace Go.Proofs.Ythchddkdcibbhaa
open Go.RowKit Go.Deep Go.ChangeShapes Go.WideShapes AssignM

theorem cellsInt : Try.prog.cellsOf 3 = 1 := by kernel_rfl
theorem cellsBool : Try.prog.cellsOf 4 = 1 := by kernel_rfl
theorem cellsRow : Try.prog.cellsOf 27 = 1 := by kernel_rfl
section
variable {H : Type} {enc : TypeId × Value → H} {W : World} {base : Nat} {sp : Nat → Bool} {held : Bool}
theorem addr_add {b o k : Nat} : (⟨b, o, none⟩ : Addr).add k = ⟨b, o + k, none⟩ := by
  unfold Addr.add
  split
  · rename_i h; rw [h]; rfl
  · rfl
/-- a slice whose elements have one cell each -/
theorem slice1_of {t e : TypeId} {fuel : Nat} {v : Value} {x : DataW H × List MemPlace} (ht : Try.prog.underlying t = some (.slice e)) (hc : Try.prog.cellsOf e = 1) (h : DataW.trod enc Try.prog W base sp held fuel t [v] = some x) :
    ∃ l : List Value, SliceOf encV 1 W v l ∧ ∀ u ∈ l, ∃ n y, DataW.trod enc Try.prog W base sp held n e [u] = some y := by
  rcases open_slice1 ht hc h with ⟨hc, _⟩ | ⟨a, len, cap, m, n, V, D, Pl, hcs, hb, hl, hm, hmm, hx, hi⟩
  · obtain rfl : v = .slice none 0 0 := by simpa using hc
    exact ⟨[], SliceOf.nil W, fun u hu => by cases hu⟩
  · obtain rfl : v = .slice (some a) len cap := by simpa using hcs
    have hle : len ≤ m := by rw [hmm]; split <;> omega
    refine ⟨(List.range len).map V, ⟨some a, cap, by simp, by simpa using hl, hm, (fun h => by cases h), fun i u hu => ?_⟩, fun u hu => ?_⟩
    · have hi0 := (List.getElem?_eq_some_iff.1 hu).1
      simp at hi0
      have hu' : V i = u := by simpa [hi0] using hu
      have h0 := (hi 0 (by omega)).1
      obtain ⟨b, o, spot⟩ := a
      have hspot : spot = none := by simpa [Addr.add] using World.cell?_spot h0
      subst hspot
      refine ⟨b, o, rfl, fun j u2 hj => ?_⟩
      have hj0 : j = 0 := by have := (List.getElem?_eq_some_iff.1 hj).1; simp [encV] at this; omega
      subst hj0
      have hu2 : u = u2 := by simpa [encV] using hj
      subst hu2
      have h1 := (hi i (by omega)).1
      rw [addr_add, hu'] at h1
      simpa using h1
    · obtain ⟨i, hi0, rfl⟩ := List.mem_map.1 hu
      exact ⟨n, _, (hi i (by have := List.mem_range.1 hi0; omega)).2⟩
/-- the same cells, read otherwise -/
theorem SliceOf.recode {α : Type} {enc2 : α → List Value} {v : Value} {l : List Value} {f : α → Value} {l2 : List α} (h : SliceOf encV 1 W v l) (hl : l = l2.map f) (he : ∀ x, enc2 x = [f x]) : SliceOf enc2 1 W v l2 := by
  subst hl
  obtain ⟨p, cap, e, h1, h2, h3, h4⟩ := h
  refine ⟨p, cap, by simpa using e, by simpa using h1, h2, h3, fun i x hi => ?_⟩
  obtain ⟨b, off, hp, hc⟩ := h4 i (f x) (by simp [hi])
  exact ⟨b, off, hp, fun j u hj => hc j u (by rw [he] at hj; exact hj)⟩
theorem map_of {α : Type} {f : α → Value} : ∀ {l : List Value}, (∀ u ∈ l, ∃ x, u = f x) → ∃ l2 : List α, l = l2.map f
  | [], _ => ⟨[], rfl⟩
  | u :: l, h => by
    obtain ⟨x, rfl⟩ := h u (by simp)
    obtain ⟨l2, rfl⟩ := map_of (l := l) (fun u hu => h u (by simp [hu]))
    exact ⟨x :: l2, rfl⟩
theorem open_ints48 {fuel : Nat} {v : Value} {x : DataW H × List MemPlace} (h : DataW.trod enc Try.prog W base sp held fuel 29 [v] = some x) : ∃ l : List Int, IntS W v l := by
  obtain ⟨l, h1, h2⟩ := slice1_of Try.underlying29 cellsInt h
  obtain ⟨l2, e⟩ := map_of (f := fun n : Int => Value.int .i64 n) (l := l) (fun u hu => by
    obtain ⟨n, y, hy⟩ := h2 u hu
    obtain ⟨k, hk, _⟩ := DataW.trod_int Try.underlying3 hy
    exact ⟨k, by simpa using hk⟩)
  exact ⟨l2, SliceOf.recode h1 e (fun _ => rfl)⟩
theorem open_bools48 {fuel : Nat} {v : Value} {x : DataW H × List MemPlace} (h : DataW.trod enc Try.prog W base sp held fuel 27 [v] = some x) : ∃ l : List Bool, BoolS W v l := by
  obtain ⟨l, h1, h2⟩ := slice1_of Try.underlying27 cellsBool h
  obtain ⟨l2, e⟩ := map_of (f := fun n : Bool => Value.bool n) (l := l) (fun u hu => by
    obtain ⟨n, y, hy⟩ := h2 u hu
    obtain ⟨k, hk, _⟩ := DataW.trod_bool Try.underlying4 hy
    exact ⟨k, by simpa using hk⟩)
  exact ⟨l2, SliceOf.recode h1 e (fun _ => rfl)⟩
theorem open_grid48 {fuel : Nat} {v : Value} {x : DataW H × List MemPlace} (h : DataW.trod enc Try.prog W base sp held fuel 25 [v] = some x) : ∃ F : List (List Bool), GridS W v F := by
  obtain ⟨l, h1, h2⟩ := slice1_of Try.underlying25 cellsRow h
  have key : ∀ l : List Value, (∀ u ∈ l, ∃ n y, DataW.trod enc Try.prog W base sp held n 27 [u] = some y) → ∃ F : List (List Bool), l.length = F.length ∧ ∀ (i : Nat) r b, l[i]? = some r → F[i]? = some b → BoolS W r b := by
    intro l
    induction l with
    | nil => exact fun _ => ⟨[], rfl, fun i r b h => by simp at h⟩
    | cons u l ih =>
      intro hh
      obtain ⟨n, y, hy⟩ := hh u (by simp)
      obtain ⟨b0, hb0⟩ := open_bools48 hy
      obtain ⟨F, e1, e2⟩ := ih (fun u hu => hh u (by simp [hu]))
      refine ⟨b0 :: F, by simp [e1], fun i r b hr hb => ?_⟩
      cases i with
      | zero => simp at hr hb; subst hr hb; exact hb0
      | succ i => exact e2 i r b (by simpa using hr) (by simpa using hb)
  obtain ⟨F, e1, e2⟩ := key l h2
  exact ⟨F, l, h1, e1, e2⟩
theorem leaf_ints {v : Value} (h : ∃ n x, DataW.trod enc Try.prog W base sp held n 29 [v] = some x) : ∃ l : List Int, IntS W v l := by
  obtain ⟨n, x, h⟩ := h; exact open_ints48 h
theorem leaf_grid {v : Value} (h : ∃ n x, DataW.trod enc Try.prog W base sp held n 25 [v] = some x) : ∃ F : List (List Bool), GridS W v F := by
  obtain ⟨n, x, h⟩ := h; exact open_grid48 h
theorem par_ints {r : Reach} {b0 : Nat} {v : Value} {d : DataW H} {pl : List MemPlace} (hv : Value.okWide Try.prog W r b0 29 v) (h : DataW.Trod enc Try.prog W base sp held 29 v d pl) : ∃ l : List Int, IntS W v l := by
  obtain ⟨fuel, hf⟩ := h
  obtain ⟨p, n, c, rfl⟩ := okWide_slice Try.underlying29 hv
  exact open_ints48 (by simpa [Value.cells] using hf)
theorem par_bools {r : Reach} {b0 : Nat} {v : Value} {d : DataW H} {pl : List MemPlace} (hv : Value.okWide Try.prog W r b0 27 v) (h : DataW.Trod enc Try.prog W base sp held 27 v d pl) : ∃ l : List Bool, BoolS W v l := by
  obtain ⟨fuel, hf⟩ := h
  obtain ⟨p, n, c, rfl⟩ := okWide_slice Try.underlying27 hv
  exact open_bools48 (by simpa [Value.cells] using hf)
end
end Go.Proofs.Ythchddkdcibbhaa
