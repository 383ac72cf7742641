/-
  More program-independent ground: what a cell that is a slice reads as.
-/
import Derived.Test.YtaflcbdbacogeaaDoorBase
set_option linter.unusedVariables false
set_option linter.unusedSimpArgs false
namespace Go.Proofs.YtaflcbdbacogeaaDoor
open Go.RowKit Go.WideShapes Go.ChangeShapes

section
variable {H : Type} {enc : TypeId × Value → H} {P : Program} {w : World} {base : Nat} {spare : Nat → Bool} {held : Bool}
theorem trod_slice_form {t e : TypeId} {v : Value} {fuel : Nat} {x : DataW H × List MemPlace} (ht : P.underlying t = some (.slice e)) (h : DataW.trod enc P w base spare held fuel t [v] = some x) :
    v = .slice none 0 0 ∨ ∃ a l c, v = .slice (some a) l c := by
  cases fuel with
  | zero => simp [DataW.trod] at h
  | succ n =>
    unfold DataW.trod at h
    rw [ht] at h
    split at h <;> simp_all
theorem trod_slice_one {t e : TypeId} {v : Value} (ht : P.underlying t = some (.slice e)) (h : ∃ fuel x, DataW.trod enc P w base spare held fuel t [v] = some x) : v.oneCell' = true := by
  obtain ⟨fuel, x, h⟩ := h
  rcases trod_slice_form ht h with rfl | ⟨a, l, c, rfl⟩ <;> rfl
end
end Go.Proofs.YtaflcbdbacogeaaDoor
