/-
  The stable sort of the library: blocks, then merges: the plain part.
-/
import Derived.Test.YtaflcbdbacogeaaDoorP3
import Derived.Test.YtaflcbdbacogeaaDoorU2
set_option linter.unusedVariables false
set_option linter.unusedSimpArgs false
namespace Go.Proofs.YtaflcbdbacogeaaDoor
open Go.RowKit ReportM Go.Shelf Go.Lib Go.Sort

section
variable {N : Nat} [Inhabited (Fin N)] {T : Fin N → Fin N → Bool}
/-- the places lo ≤ i < hi hold the indices lo .. hi - 1, in order -/
structure Run (T : Fin N → Fin N → Bool) (lo hi : Nat) (d : Array (Fin N)) : Prop where
  ord : SortedIn T lo hi d
  mem : ∀ i, lo ≤ i → i < hi → lo ≤ (d[i]!).val ∧ (d[i]!).val < hi
theorem Run.agree {lt : Fin N → Fin N → Bool} (hag : ∀ i j : Fin N, i.val < j.val → lt j i = T j i) {a m b : Nat} {d : Array (Fin N)} (h1 : Run T a m d) (h2 : Run T m b d) : Agree lt T a m b d := fun i j g1 g2 g3 g4 => by
  have := h1.mem i g1 g2
  have := h2.mem j g3 g4
  exact hag _ _ (by omega)
theorem Run.merge {a m b : Nat} {d d' : Array (Fin N)} (h1 : Run T a m d) (h2 : Run T m b d) (hab : a ≤ m) (hmb : m ≤ b) (hb : b ≤ d.size) (hp : PermIn a b d d') (hs : SortedIn T a b d') : Run T a b d' :=
  ⟨hs, fun i g1 g2 => permIn_all d d' a b (fun x => a ≤ x.val ∧ x.val < b) hb hp (fun j k1 k2 => by
    rcases Nat.lt_or_ge j m with h | h
    · have := h1.mem j k1 h; omega
    · have := h2.mem j h k2; omega) i g1 g2⟩
theorem Run.keep {lo hi a b : Nat} {d d' : Array (Fin N)} (h : Run T lo hi d) (hp : PermIn a b d d') (ho : hi ≤ a ∨ b ≤ lo) : Run T lo hi d' := by
  have e : ∀ i, lo ≤ i → i < hi → d'[i]! = d[i]! := fun i h1 h2 => hp.2.1 i (by omega)
  exact ⟨fun i j h1 h2 h3 => by rw [e i h1 (by omega), e j (by omega) h3]; exact h.ord i j h1 h2 h3, fun i h1 h2 => by rw [e i h1 h2]; exact h.mem i h1 h2⟩
end
end Go.Proofs.YtaflcbdbacogeaaDoor
