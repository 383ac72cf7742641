/-
  How parameters that are orders and boards read.
-/
import Derived.Test.YthchddkdcibbhaaT4
set_option linter.unusedVariables false
set_option linter.unusedSimpArgs false
namespace Go.Proofs.Ythchddkdcibbhaa
open Go.RowKit Go.Deep Go.ChangeShapes Go.WideShapes AssignM

theorem flatord : flat Try.prog 3 44 = [.inr (.inl false), .inr (.inl false), .inl .i64, .inl .i64, .inl .i64, .inl .i64, .inl .i64, .inl .i64, .inl .i64, .inl .i64, .inl .i64] := by kernel_rfl
theorem ord_of {H : Type} {enc : TypeId × Value → H} {W : World} {base : Nat} {sp : Nat → Bool} {held : Bool} (cs : List Value) (n : Nat) (y : DataW H × List MemPlace) (hl : cs.length = 11) (h : DataW.trod enc Try.prog W base sp held n 44 cs = some y) : ∃ z : Ord, cs = encO z ∧ True := by
  have f0 := fits_of_trod 3 44 cs n _ (by kernel_rfl) (by rw [hl]; kernel_rfl) h
  rw [flatord] at f0
  obtain ⟨a0, c1, rfl, _, f1⟩ := f0.str
  obtain ⟨a1, c2, rfl, _, f2⟩ := f1.str
  obtain ⟨a2, c3, rfl, _, f3⟩ := f2.int
  obtain ⟨a3, c4, rfl, _, f4⟩ := f3.int
  obtain ⟨a4, c5, rfl, _, f5⟩ := f4.int
  obtain ⟨a5, c6, rfl, _, f6⟩ := f5.int
  obtain ⟨a6, c7, rfl, _, f7⟩ := f6.int
  obtain ⟨a7, c8, rfl, _, f8⟩ := f7.int
  obtain ⟨a8, c9, rfl, _, f9⟩ := f8.int
  obtain ⟨a9, c10, rfl, _, f10⟩ := f9.int
  obtain ⟨a10, c11, rfl, _, f11⟩ := f10.int
  obtain rfl := f11.nil
  exact ⟨⟨a0, a1, a2, a3, a4, a5, a6, a7, a8, a9, a10⟩, rfl, trivial⟩
theorem flatbrd : flat Try.prog 5 54 = [.inr (.inl false), .inr (.inl false), .inr (.inl false), .inl .i64, .inl .i64, .inl .i64, .inl .i64, .inl .i64, .inl .i64, .inl .i64, .inl .i64, .inr (.inr 50), .inl .i64, .inl .i64, .inl .i64, .inl .i64, .inr (.inl true), .inl .i64] := by kernel_rfl
theorem brd_of {H : Type} {enc : TypeId × Value → H} {W : World} {base : Nat} {sp : Nat → Bool} {held : Bool} (cs : List Value) (n : Nat) (y : DataW H × List MemPlace) (hl : cs.length = 18) (h : DataW.trod enc Try.prog W base sp held n 54 cs = some y) : ∃ z : Brd, cs = encD z ∧ True := by
  have f0 := fits_of_trod 5 54 cs n _ (by kernel_rfl) (by rw [hl]; kernel_rfl) h
  rw [flatbrd] at f0
  obtain ⟨a0, c1, rfl, _, f1⟩ := f0.str
  obtain ⟨a1, c2, rfl, _, f2⟩ := f1.str
  obtain ⟨a2, c3, rfl, _, f3⟩ := f2.str
  obtain ⟨a3, c4, rfl, _, f4⟩ := f3.int
  obtain ⟨a4, c5, rfl, _, f5⟩ := f4.int
  obtain ⟨a5, c6, rfl, _, f6⟩ := f5.int
  obtain ⟨a6, c7, rfl, _, f7⟩ := f6.int
  obtain ⟨a7, c8, rfl, _, f8⟩ := f7.int
  obtain ⟨a8, c9, rfl, _, f9⟩ := f8.int
  obtain ⟨a9, c10, rfl, _, f10⟩ := f9.int
  obtain ⟨a10, c11, rfl, _, f11⟩ := f10.int
  obtain ⟨a11, c12, rfl, _, f12⟩ := f11.other
  obtain ⟨a12, c13, rfl, _, f13⟩ := f12.int
  obtain ⟨a13, c14, rfl, _, f14⟩ := f13.int
  obtain ⟨a14, c15, rfl, _, f15⟩ := f14.int
  obtain ⟨a15, c16, rfl, _, f16⟩ := f15.int
  obtain ⟨a16, c17, rfl, f17⟩ := f16.bool
  obtain ⟨a17, c18, rfl, _, f18⟩ := f17.int
  obtain rfl := f18.nil
  exact ⟨⟨a0, a1, a2, a3, a4, a5, a6, a7, a8, a9, a10, a11, a12, a13, a14, a15, a16, a17⟩, rfl, trivial⟩
theorem par_orders {H : Type} {enc : TypeId × Value → H} {W : World} {base : Nat} {sp : Nat → Bool} {held : Bool} {r : Reach} {b0 : Nat} {v : Value} {d : DataW H} {pl : List MemPlace} (hv : Value.okWide Try.prog W r b0 22 v) (h : DataW.Trod enc Try.prog W base sp held 22 v d pl) : ∃ l : List Ord, OrdS W v l := by
  obtain ⟨l, h1, _⟩ := par_list (enc2 := encO) (I := fun _ => True) Try.underlying22 (k := 11) (by kernel_rfl) (by decide) ord_of hv h
  exact ⟨l, h1⟩
theorem par_boards {H : Type} {enc : TypeId × Value → H} {W : World} {base : Nat} {sp : Nat → Bool} {held : Bool} {r : Reach} {b0 : Nat} {v : Value} {d : DataW H} {pl : List MemPlace} (hv : Value.okWide Try.prog W r b0 23 v) (h : DataW.Trod enc Try.prog W base sp held 23 v d pl) : ∃ l : List Brd, BrdS W v l := by
  obtain ⟨l, h1, _⟩ := par_list (enc2 := encD) (I := fun _ => True) Try.underlying23 (k := 18) (by kernel_rfl) (by decide) brd_of hv h
  exact ⟨l, h1⟩
end Go.Proofs.Ythchddkdcibbhaa
