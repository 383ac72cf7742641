/-
  How a parameter that is a list of spans reads.
-/
import Derived.Test.YtfbcaafkekcmbaaL1
import Derived.Deep.Slices
namespace Go.Proofs.Ytfbcaafkekcmbaa
open Go.RowKit SpanM Go.Deep Go.ChangeShapes Go.WideShapes

theorem flatSp : flat Try.prog 3 23 = [.inl .i64, .inl .i64] := by kernel_rfl
theorem laidSp : laidB Try.prog 3 23 = true := by kernel_rfl
theorem cellsSp : Try.prog.cellsOf 23 = 2 := by kernel_rfl
theorem list_upto {p : Nat → Sp → Prop} : ∀ n : Nat, (∀ i, i < n → ∃ x, p i x) → ∃ l : List Sp, l.length = n ∧ ∀ i x, l[i]? = some x → p i x
  | 0, _ => ⟨[], rfl, fun i x h => by simp at h⟩
  | n + 1, h => by
    obtain ⟨l, hl, hp⟩ := list_upto n (fun i hi => h i (by omega))
    obtain ⟨y, hy⟩ := h n (by omega)
    refine ⟨l ++ [y], by simp [hl], fun i x hx => ?_⟩
    rcases Nat.lt_or_ge i l.length with hi | hi
    · rw [List.getElem?_append_left hi] at hx
      exact hp i x hx
    · rw [List.getElem?_append_right hi] at hx
      have : i - l.length = 0 := by
        have := (List.getElem?_eq_some_iff.1 hx).1
        simp at this
        omega
      rw [this] at hx
      simp at hx
      subst hx
      obtain rfl : i = n := by omega
      exact hy

theorem open_spans {H : Type} {enc : TypeId × Value → H} {W : World} {base : Nat} {sp : Nat → Bool} {held : Bool} {r : Reach} {b0 : Nat} {v : Value} {d : DataW H} {pl : List MemPlace} (hv : Value.okWide Try.prog W r b0 28 v) (h : DataW.Trod enc Try.prog W base sp held 28 v d pl) :
    ∃ (q : Option Addr) (cap : Nat) (l : List Sp), v = .slice q l.length cap ∧ SpS W (.slice q l.length cap) l ∧ ∀ s ∈ l, In s := by
  obtain ⟨fuel, hf⟩ := h
  have hone : ∃ p n c, v = .slice p n c := okWide_slice Try.underlying28 hv
  obtain ⟨p0, n0, c0, rfl⟩ := hone
  rcases open_slice Try.underlying28 hf with ⟨hc, _⟩ | ⟨a, len, cap, m, n, D, Pl, hcs, hb, hl, hm, hmm, hx, hi⟩
  · obtain ⟨rfl, rfl, rfl⟩ : p0 = none ∧ n0 = 0 ∧ c0 = 0 := by simpa [Value.cells] using hc
    exact ⟨none, 0, [], rfl, SliceOf.nil W, fun s hs => by cases hs⟩
  · obtain ⟨rfl, rfl, rfl⟩ : p0 = some a ∧ n0 = len ∧ c0 = cap := by simpa [Value.cells] using hcs
    rw [cellsSp] at hi
    have hle : n0 ≤ m := by rw [hmm]; split <;> omega
    obtain ⟨l, hll, hp⟩ := list_upto (p := fun i x => W.cell? (a.add (i * 2)) = some (.int .i64 x.1) ∧ W.cell? (a.add (i * 2 + 1)) = some (.int .i64 x.2) ∧ In x) n0 (fun i hin => by
      obtain ⟨cs', h1, h2⟩ := hi i (by omega)
      obtain ⟨_, hlen, hat⟩ := World.cells?_some h1
      have hfit := fits_of_trod 3 23 cs' n _ laidSp (by rw [cellsSp]; exact hlen) h2
      rw [flatSp] at hfit
      obtain ⟨A, cs1, rfl, wa, f1⟩ := hfit.int
      obtain ⟨B, cs2, rfl, wb, f2⟩ := f1.int
      obtain rfl := f2.nil
      have e0 := hat 0 (by omega)
      have e1 := hat 1 (by omega)
      rw [Go.Deep.add_add] at e0 e1
      exact ⟨(A, B), by simpa using e0, by simpa using e1, In_of wa wb⟩)
    refine ⟨some a, c0, l, by rw [hll], ⟨some a, c0, rfl, by rw [hll]; exact hl, hm, (fun h => by cases h), fun i x hx => ?_⟩, fun s hs => ?_⟩
    · obtain ⟨q0, q1, _⟩ := hp i x hx
      have hi0 := (List.getElem?_eq_some_iff.1 hx).1
      obtain ⟨z0, _, _⟩ := hp 0 l[0] (List.getElem?_eq_getElem (by omega))
      obtain ⟨b, o, spot⟩ := a
      have hspot : spot = none := by simpa [Addr.add] using World.cell?_spot z0
      subst hspot
      refine ⟨b, o, rfl, fun j u hj => ?_⟩
      have hadd : ∀ k : Nat, (⟨b, o, none⟩ : Addr).add k = ⟨b, o + k, none⟩ := fun k => by
        unfold Addr.add
        split
        · rename_i h
          rw [h]
          rfl
        · rfl
      rw [hadd] at q0 q1
      match j, hj with
      | 0, hj => exact (by simpa [encS] using hj : Value.int .i64 x.1 = u) ▸ q0
      | 1, hj => exact (by simpa [encS] using hj : Value.int .i64 x.2 = u) ▸ q1
      | (k + 2), hj => simp [encS] at hj
    · obtain ⟨i, hi', e⟩ := List.getElem_of_mem hs
      exact (hp i s (by rw [List.getElem?_eq_getElem hi', e])).2.2

end Go.Proofs.Ytfbcaafkekcmbaa
