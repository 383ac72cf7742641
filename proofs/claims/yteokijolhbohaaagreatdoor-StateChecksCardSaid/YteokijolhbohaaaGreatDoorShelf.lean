/-
  DERIVED: THE SHELF's CONTRACTS AT THIS DUMP, IN PLAIN WORDS (tools/lay-plain.mjs out of 'YteokijolhbohaaaGreatDoorShelf0.lean', which tools/lay-shelf.mjs wrote): THE SAME DECLARATIONS UNDER THE SAME NAMES: 'import', 'namespace', 'open', 'def', 'theorem' AND NOTHING ELSE: no command of the shelf's: FOR A HAND-IN. Each laying: the table of numbers ('.._ren') and one theorem, a field a fact of the dump's own or the kernel's comparison; each contract: ONE APPLICATION.
-/
import Derived.Shelf.Strings.OnBuilder
import Derived.Shelf.LaysM
import Derived.Test.YteokijolhbohaaaGreatDoorProg
namespace Go.Proofs
open Go.Shelf
def Tryz.lays156_ren : Go.Shelf.Ren := ⟨fun | 156 => 277 | 165 => 362 | 166 => 363 | 169 => 364 | 240 => 435 | 241 => 436 | 276 => 477 | 277 => 478 | n => n, fun | 31 => 86 | 9 => 9 | 3 => 3 | 4 => 4 | 0 => 0 | 20 => 20 | 72 => 522 | 76 => 525 | 70 => 520 | 37 => 305 | 75 => 524 | 127 => 582 | 164 => 610 | 5 => 5 | 80 => 527 | n => n, fun | n => n⟩
theorem Tryz.lays156 : Go.Proofs.Lays.n156 Tryz.prog Tryz.lays156_ren := {
  mixed := by kernel_rfl
  f156 := Tryz.func277.trans (congrArg some (by kernel_rfl))
  f165 := Tryz.func362.trans (congrArg some (by kernel_rfl))
  f166 := Tryz.func363.trans (congrArg some (by kernel_rfl))
  f169 := Tryz.func364.trans (congrArg some (by kernel_rfl))
  f240 := Tryz.func435.trans (congrArg some (by kernel_rfl))
  f241 := Tryz.func436.trans (congrArg some (by kernel_rfl))
  f276 := Tryz.func477.trans (congrArg some (by kernel_rfl))
  f277 := Tryz.func478.trans (congrArg some (by kernel_rfl))
  t0 := Tryz.underlying0
  a0 := Tryz.isAgg0
  z0 := Tryz.sizeOf0
  v0 := Tryz.zeroValue0
  t3 := Tryz.underlying3
  a3 := Tryz.isAgg3
  z3 := Tryz.sizeOf3
  v3 := Tryz.zeroValue3
  t4 := Tryz.underlying4
  a4 := Tryz.isAgg4
  z4 := Tryz.sizeOf4
  v4 := Tryz.zeroValue4
  t9 := Tryz.underlying9
  a9 := Tryz.isAgg9
  z9 := Tryz.sizeOf9
  v9 := Tryz.zeroValue9
  t20 := Tryz.underlying20
  a20 := Tryz.isAgg20
  z20 := Tryz.sizeOf20
  v20 := Tryz.zeroValue20
  t31 := Tryz.underlying86
  a31 := Tryz.isAgg86
  z31 := Tryz.sizeOf86
  v31 := Tryz.zeroValue86
  t37 := Tryz.underlying305
  a37 := Tryz.isAgg305
  z37 := Tryz.sizeOf305
  v37 := Tryz.zeroValue305
  t70 := Tryz.underlying520
  a70 := Tryz.isAgg520
  z70 := Tryz.sizeOf520
  v70 := Tryz.zeroValue520
  t72 := Tryz.underlying522
  a72 := Tryz.isAgg522
  z72 := Tryz.sizeOf522
  v72 := Tryz.zeroValue522
  t75 := Tryz.underlying524
  a75 := Tryz.isAgg524
  z75 := Tryz.sizeOf524
  v75 := Tryz.zeroValue524
  t76 := Tryz.underlying525
  a76 := Tryz.isAgg525
  z76 := Tryz.sizeOf525
  v76 := Tryz.zeroValue525
  t127 := Tryz.underlying582
  a127 := Tryz.isAgg582
  z127 := Tryz.sizeOf582
  v127 := Tryz.zeroValue582
  t164 := Tryz.underlying610
  a164 := Tryz.isAgg610
  z164 := Tryz.sizeOf610
  v164 := Tryz.zeroValue610 }
theorem Tryz.Builder_Extra_156 : Builder.Extra Tryz.prog Tryz.lays156_ren := {
  sizeBuilder := by kernel_rfl
  liesBuilder := by kernel_rfl
  t5 := Tryz.underlying5
  a5 := Tryz.isAgg5
  z5 := Tryz.sizeOf5
  v5 := Tryz.zeroValue5
  infoByte := by kernel_rfl
  cellsByte := by kernel_rfl
  sizeByte := by kernel_rfl
  neB5 := by decide }
open Go.RowKit in
theorem Tryz.strings_Join (bk o c : Nat) (xs : List ByteArray) (sep : ByteArray) (w : World) (hcells : ∀ (j : Nat) x, xs[j]? = some x → w.cell? ⟨bk, o + j, none⟩ = some (.string x)) (hbk : bk < w.heap.size) (hN : xs.length ≤ 140737488355328) (hcap : xs.length ≤ c) (hlen : (Lib.join (xs.map (·.data.toList)) sep.data.toList).length ≤ 140737488355328) :
    Calls Tryz.prog 277 #[.slice (some ⟨bk, o, none⟩) xs.length c, .string sep] w fun e w' => e = .returned (.string ⟨(Lib.join (xs.map (·.data.toList)) sep.data.toList).toArray⟩) ∧ Below w.heap.size w w' := Any.strings_Join Tryz.lays156 Tryz.Builder_Extra_156 bk o c xs sep w hcells hbk hN hcap hlen
end Go.Proofs
