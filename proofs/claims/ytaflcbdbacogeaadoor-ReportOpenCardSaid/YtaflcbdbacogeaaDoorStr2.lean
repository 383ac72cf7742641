/-
  More program-independent ground: a struct in the midst of a block that is known whole.
-/
import Derived.Test.YtaflcbdbacogeaaDoorStr
set_option linter.unusedVariables false
set_option linter.unusedSimpArgs false
namespace Go.Proofs.YtaflcbdbacogeaaDoor
open Go.RowKit

theorem Block.rangeL {w : World} {b : Nat} {cs : Array Value} (h : Block w b cs) {off n : Nat} {l : List Value} (hl : (cs.toList.drop off).take n = l) : w.rangeAt b off l := fun j u hj => by
  rw [Block.cell]
  subst hl
  rw [List.getElem?_take] at hj
  split at hj
  · rw [List.getElem?_drop] at hj
    simpa using hj
  · cases hj
section
variable {P : Program} {ops : Array Oper} {rest : List Oper} {a : Act} {x y : Operand} {T b off n : Nat} {cs : Array Value} {l : List Value} {dst : Option Tmp} {ty : TypeId} {pos : String} {aft : Array Edge} {g : Option (Nat × Bool)} {w : World}
theorem wl_loadB {Q : Exit → Act → World → Prop} (L : Mid P T n) (hw : Region.wanted ⟨dst, .load T x, ty, pos, aft, g⟩ (yielded ops a.tmps) = true) (hx : a.eval x = .pointer (some ⟨b, off, none⟩)) (hb : Block w b cs) (hl : (cs.toList.drop off).take n = l) (hsz : l.length = n)
    (hk : wpList P ops Q rest (a.put dst (.agg l.toArray)) w) : wpList P ops Q (⟨dst, .load T x, ty, pos, aft, g⟩ :: rest) a w := wl_loadM L (hb.rangeL hl) hsz hw hx hk
theorem q_loadB {Q : Act → Prop} (L : Mid P T n) (hw : Region.wanted ⟨dst, .load T x, ty, pos, aft, g⟩ (yielded ops a.tmps) = true) (hx : a.eval x = .pointer (some ⟨b, off, none⟩)) (hb : Block w b cs) (hl : (cs.toList.drop off).take n = l) (hsz : l.length = n)
    (hk : wpQuiet P ops (fun w' => ∃ n : ExtOf w, w' = n.val) Q rest (a.put dst (.agg l.toArray))) : wpQuiet P ops (fun w' => ∃ n : ExtOf w, w' = n.val) Q (⟨dst, .load T x, ty, pos, aft, g⟩ :: rest) a := q_loadM L (hb.rangeL hl) hsz hw hx hk
theorem q_loadBS {S : World → Prop} {Q : Act → Prop} (L : Mid P T n) (hw : Region.wanted ⟨dst, .load T x, ty, pos, aft, g⟩ (yielded ops a.tmps) = true) (hx : a.eval x = .pointer (some ⟨b, off, none⟩)) (hb : Block w b cs) (hl : (cs.toList.drop off).take n = l) (hsz : l.length = n)
    (hk : wpQuiet P ops (fun w' => ∃ n : ExtS w S, w' = n.val) Q rest (a.put dst (.agg l.toArray))) : wpQuiet P ops (fun w' => ∃ n : ExtS w S, w' = n.val) Q (⟨dst, .load T x, ty, pos, aft, g⟩ :: rest) a := q_loadMS L (hb.rangeL hl) hsz hw hx hk
end
end Go.Proofs.YtaflcbdbacogeaaDoor
