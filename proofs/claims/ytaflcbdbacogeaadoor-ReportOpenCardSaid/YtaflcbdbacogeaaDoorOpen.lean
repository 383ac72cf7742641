/-
  How a parameter that is a slice reads as a list, whatever its elements are.
-/
import Derived.Test.YtaflcbdbacogeaaDoorBase4
import Derived.Deep.Slices
set_option linter.unusedVariables false
set_option linter.unusedSimpArgs false
namespace Go.Proofs.YtaflcbdbacogeaaDoor
open Go.RowKit Go.Deep Go.ChangeShapes Go.WideShapes

theorem list_upto {α : Type} {p : Nat → α → Prop} : ∀ n : Nat, (∀ i, i < n → ∃ x, p i x) → ∃ l : List α, l.length = n ∧ ∀ i x, l[i]? = some x → p i x
  | 0, _ => ⟨[], rfl, fun i x h => by simp at h⟩
  | n + 1, h => by
    obtain ⟨l, hl, hp⟩ := list_upto n (fun i hi => h i (by omega))
    obtain ⟨y, hy⟩ := h n (by omega)
    refine ⟨l ++ [y], by simp [hl], fun i x hx => ?_⟩
    rcases Nat.lt_or_ge i l.length with hi | hi
    · rw [List.getElem?_append_left hi] at hx
      exact hp i x hx
    · rw [List.getElem?_append_right hi] at hx
      have : i - l.length = 0 := by
        have := (List.getElem?_eq_some_iff.1 hx).1
        simp at this
        omega
      rw [this] at hx
      simp at hx
      subst hx
      obtain rfl : i = n := by omega
      exact hy
theorem addr_mid (b o k : Nat) : (⟨b, o, none⟩ : Addr).add k = ⟨b, o + k, none⟩ := by
  unfold Addr.add
  split
  · rename_i h; rw [h]; rfl
  · rfl
section
variable {H : Type} {enc : TypeId × Value → H} {P : Program} {W : World} {base : Nat} {sp : Nat → Bool} {held : Bool}
/-- a slice reads as a list of what its elements are -/
theorem list_of {α : Type} {enc2 : α → List Value} {I : α → Prop} {t e : TypeId} {k fuel : Nat} {v : Value} {x : DataW H × List MemPlace} (ht : P.underlying t = some (.slice e)) (hc : P.cellsOf e = k) (hk : 0 < k)
    (hel : ∀ (cs : List Value) (n : Nat) (y : DataW H × List MemPlace), cs.length = k → DataW.trod enc P W base sp held n e cs = some y → ∃ z, cs = enc2 z ∧ I z)
    (h : DataW.trod enc P W base sp held fuel t [v] = some x) : ∃ l : List α, SliceOf enc2 k W v l ∧ ∀ z ∈ l, I z := by
  rcases open_slice ht h with ⟨hcc, _⟩ | ⟨a, len, cap, m, n, D, Pl, hcs, hb, hl, hm, hmm, hx, hi⟩
  · obtain rfl : v = .slice none 0 0 := by simpa using hcc
    exact ⟨[], SliceOf.nil W, fun s hs => by cases hs⟩
  · obtain rfl : v = .slice (some a) len cap := by simpa using hcs
    rw [hc] at hi
    have hle : len ≤ m := by rw [hmm]; split <;> omega
    obtain ⟨l, hll, hp⟩ := list_upto (p := fun i (z : α) => (enc2 z).length = k ∧ (∀ j u, (enc2 z)[j]? = some u → W.cell? (a.add (i * k + j)) = some u) ∧ I z) len (fun i hin => by
      obtain ⟨cs', h1, h2⟩ := hi i (by omega)
      obtain ⟨_, hlen, hat⟩ := World.cells?_some h1
      obtain ⟨z, rfl, hz⟩ := hel cs' n _ hlen h2
      refine ⟨z, hlen, fun j u hj => ?_, hz⟩
      have hjk : j < k := by have := (List.getElem?_eq_some_iff.1 hj).1; omega
      have := hat j hjk
      rw [Go.Deep.add_add] at this
      rw [this, hj])
    refine ⟨l, ⟨some a, cap, by rw [hll], by rw [hll]; exact hl, hm, (fun h => by cases h), fun i z hz => ?_⟩, fun z hz => ?_⟩
    · obtain ⟨q0, q1, _⟩ := hp i z hz
      have hi0 := (List.getElem?_eq_some_iff.1 hz).1
      obtain ⟨z0, z1, _⟩ := hp 0 l[0] (List.getElem?_eq_getElem (by omega))
      have z2 := z1 0 _ (List.getElem?_eq_getElem (by omega))
      obtain ⟨b, o, spot⟩ := a
      have hspot : spot = none := by simpa [Addr.add] using World.cell?_spot z2
      subst hspot
      refine ⟨b, o, rfl, fun j u hj => ?_⟩
      have := q1 j u hj
      rw [addr_mid] at this
      exact this
    · obtain ⟨i, hi0, rfl⟩ := List.getElem_of_mem hz
      exact (hp i _ (List.getElem?_eq_getElem hi0)).2.2
/-- the same for a parameter -/
theorem par_list {α : Type} {enc2 : α → List Value} {I : α → Prop} {t e : TypeId} {k : Nat} {r : Reach} {b0 : Nat} {v : Value} {d : DataW H} {pl : List MemPlace} (ht : P.underlying t = some (.slice e)) (hc : P.cellsOf e = k) (hk : 0 < k)
    (hel : ∀ (cs : List Value) (n : Nat) (y : DataW H × List MemPlace), cs.length = k → DataW.trod enc P W base sp held n e cs = some y → ∃ z, cs = enc2 z ∧ I z)
    (hv : Value.okWide P W r b0 t v) (h : DataW.Trod enc P W base sp held t v d pl) : ∃ l : List α, SliceOf enc2 k W v l ∧ ∀ z ∈ l, I z := by
  obtain ⟨fuel, hf⟩ := h
  obtain ⟨p, n, c, rfl⟩ := okWide_slice ht hv
  exact list_of ht hc hk hel (by simpa [Value.cells] using hf)
end
end Go.Proofs.YtaflcbdbacogeaaDoor
