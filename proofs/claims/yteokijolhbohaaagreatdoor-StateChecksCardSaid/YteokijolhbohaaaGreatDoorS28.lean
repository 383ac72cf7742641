/-
  Chapter 59: awake returns true.
-/
import Derived.Test.YteokijolhbohaaaGreatDoorK1
import Derived.Test.YteokijolhbohaaaGreatDoorSymTAw
import Derived.Test.YteokijolhbohaaaGreatDoorShelf
set_option linter.unusedVariables false
set_option linter.unusedSimpArgs false
namespace Go.Proofs.YteokijolhbohaaaGreatDoor
open Go.RowKit StM

attribute [local go_sem] ExtOf.cell ExtOf.frozen Block.cell Block.frozen ExtB.cell ExtB.frozen alloc_cell alloc_frozen
/-- the world holds the laid variables that awake reads -/
def TabAw (W : World) : Prop := ∃ ρ, Sx.Held ρ (Sx.fragH Sx.glM) W ∧ Sx.GlobsH Sx.gM ρ (Sx.fragH Sx.glM)
theorem TabAw.ext {W W' : World} (h : TabAw W) (hx : Ext W W') : TabAw W' := by
  obtain ⟨ρ, hh, hg⟩ := h
  exact ⟨ρ, ⟨hh.fresh, fun b r k e => Nat.lt_of_lt_of_le (hh.lt b r k e) hx.size, fun b r k e => (hh.obj b r k e).world (hx.block r (hh.lt b r k e)), hh.apart⟩, hg⟩
theorem joinOk : Sx.JoinOk Tryz.prog 277 := fun bk o c xs sep w h1 h2 h3 h4 h5 h6 => Tryz.strings_Join bk o c xs sep w h1 h2 (by omega) h5 (by omega)
theorem awake_any (w : World) (h : TabAw w) : Calls Tryz.prog 5 #[] w fun e w' => e = .returned (.bool true) ∧ ∃ n : ExtOf w, w' = n.val := by
  obtain ⟨ρ, hh, hg⟩ := h
  exact (Sx.awake_of joinOk hh hg).mono fun e w' ⟨h1, h2⟩ => ⟨h1, ExtOf.of h2⟩
end Go.Proofs.YteokijolhbohaaaGreatDoor
