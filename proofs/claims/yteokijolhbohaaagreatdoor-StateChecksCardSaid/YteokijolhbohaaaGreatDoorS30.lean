/-
  Chapter 59: how the parameter of the law reads, and what the listed tables give.
-/
import Derived.Test.YteokijolhbohaaaGreatDoorS28
import Derived.Test.YteokijolhbohaaaGreatDoorK1
import Derived.Test.YteokijolhbohaaaGreatDoorLB
import Derived.Lib.LaidTab
import Derived.LaidMore
import Derived.ChangeSame
set_option linter.unusedVariables false
set_option linter.unusedSimpArgs false
namespace Go.Proofs.YteokijolhbohaaaGreatDoor
open Go.RowKit Go.Deep Go.ChangeShapes Go.WideShapes StM

set_option maxRecDepth 100000
section
variable {H : Type} {enc : TypeId × Value → H} {W : World} {base : Nat} {sp : Nat → Bool} {held : Bool}
theorem ofI (cs : List Value) (n : Nat) (y : DataW H × List MemPlace) (hl : cs.length = 1) (h : DataW.trod enc Tryz.prog W base sp held n 3 cs = some y) : ∃ z : Int, cs = encI z ∧ True := by
  obtain ⟨k, hk, _⟩ := DataW.trod_int Tryz.underlying3 h
  exact ⟨k, hk, trivial⟩
theorem leafI {v : Value} (h : ∃ n x, DataW.trod enc Tryz.prog W base sp held n 38 [v] = some x) : ∃ l : List Int, SliceOf encI 1 W v l := by
  obtain ⟨n, x, h⟩ := h
  obtain ⟨l, h1, _⟩ := list_of (I := fun _ => True) Tryz.underlying38 (k := 1) (by kernel_rfl) (by decide) ofI h
  exact ⟨l, h1⟩
theorem flatPd : flat Tryz.prog 4 40 = [.inr (.inl false), .inl .i64, .inl .i64, .inl .i64, .inl .i64, .inr (.inr 38), .inr (.inr 38)] := by kernel_rfl
theorem ofPd (cs : List Value) (n : Nat) (y : DataW H × List MemPlace) (hl : cs.length = 7) (h : DataW.trod enc Tryz.prog W base sp held n 40 cs = some y) : ∃ z : PdP, cs = encPd z ∧ (IntS W z.2.1.v z.1.ls ∧ IntS W z.2.2.v z.1.ps) := by
  have f0 := fits_of_trod 4 40 cs n _ (by kernel_rfl) (by rw [hl]; kernel_rfl) h
  rw [flatPd] at f0
  obtain ⟨a0, c1, rfl, w0, f1⟩ := f0.str
  obtain ⟨a1, c2, rfl, w1, f2⟩ := f1.int
  obtain ⟨a2, c3, rfl, w2, f3⟩ := f2.int
  obtain ⟨a3, c4, rfl, w3, f4⟩ := f3.int
  obtain ⟨a4, c5, rfl, w4, f5⟩ := f4.int
  obtain ⟨a5, c6, rfl, w5, f6⟩ := f5.other
  obtain ⟨a6, c7, rfl, w6, f7⟩ := f6.other
  obtain rfl := f7.nil
  obtain ⟨l5, h5⟩ := leafI w5
  obtain ⟨l6, h6⟩ := leafI w6
  obtain ⟨p5, k5, rfl, _⟩ := SliceOf.form h5
  obtain ⟨p6, k6, rfl, _⟩ := SliceOf.form h6
  exact ⟨(⟨a0, a1, a2, a3, a4, l5, l6⟩, ⟨p5, l5.length, k5⟩, ⟨p6, l6.length, k6⟩), rfl, h5, h6⟩
theorem leafPd {v : Value} (h : ∃ n x, DataW.trod enc Tryz.prog W base sp held n 22 [v] = some x) : ∃ l : List PdP, PdS W v l := by
  obtain ⟨n, x, h⟩ := h
  obtain ⟨l, h1, h2⟩ := list_of (I := fun z : PdP => IntS W z.2.1.v z.1.ls ∧ IntS W z.2.2.v z.1.ps) Tryz.underlying22 (k := 7) (by kernel_rfl) (by decide) ofPd h
  exact ⟨l, h1, h2⟩
theorem flatSpc : flat Tryz.prog 4 42 = [.inr (.inl false), .inl .i64, .inl .i64, .inl .i64, .inl .i64, .inl .i64, .inl .i64, .inl .i64, .inl .i64, .inl .i64, .inl .i64, .inl .i64, .inl .i64] := by kernel_rfl
theorem ofSpc (cs : List Value) (n : Nat) (y : DataW H × List MemPlace) (hl : cs.length = 13) (h : DataW.trod enc Tryz.prog W base sp held n 42 cs = some y) : ∃ z : Spc, cs = encSpc z ∧ True := by
  have f0 := fits_of_trod 4 42 cs n _ (by kernel_rfl) (by rw [hl]; kernel_rfl) h
  rw [flatSpc] at f0
  obtain ⟨a0, c1, rfl, w0, f1⟩ := f0.str
  obtain ⟨a1, c2, rfl, w1, f2⟩ := f1.int
  obtain ⟨a2, c3, rfl, w2, f3⟩ := f2.int
  obtain ⟨a3, c4, rfl, w3, f4⟩ := f3.int
  obtain ⟨a4, c5, rfl, w4, f5⟩ := f4.int
  obtain ⟨a5, c6, rfl, w5, f6⟩ := f5.int
  obtain ⟨a6, c7, rfl, w6, f7⟩ := f6.int
  obtain ⟨a7, c8, rfl, w7, f8⟩ := f7.int
  obtain ⟨a8, c9, rfl, w8, f9⟩ := f8.int
  obtain ⟨a9, c10, rfl, w9, f10⟩ := f9.int
  obtain ⟨a10, c11, rfl, w10, f11⟩ := f10.int
  obtain ⟨a11, c12, rfl, w11, f12⟩ := f11.int
  obtain ⟨a12, c13, rfl, w12, f13⟩ := f12.int
  obtain rfl := f13.nil
  exact ⟨⟨a0, a1, a2, a3, a4, a5, a6, a7, a8, a9, a10, a11, a12⟩, rfl, trivial⟩
theorem leafSpc {v : Value} (h : ∃ n x, DataW.trod enc Tryz.prog W base sp held n 23 [v] = some x) : ∃ l : List Spc, SpcS W v l := by
  obtain ⟨n, x, h⟩ := h
  obtain ⟨l, h1, _⟩ := list_of (I := fun _ => True) Tryz.underlying23 (k := 13) (by kernel_rfl) (by decide) ofSpc h
  exact ⟨l, h1⟩
theorem flatStg : flat Tryz.prog 4 130 = [.inl .i64, .inl .i64, .inl .i64, .inl .i64] := by kernel_rfl
theorem ofStg (cs : List Value) (n : Nat) (y : DataW H × List MemPlace) (hl : cs.length = 4) (h : DataW.trod enc Tryz.prog W base sp held n 130 cs = some y) : ∃ z : Stg, cs = encStg z ∧ True := by
  have f0 := fits_of_trod 4 130 cs n _ (by kernel_rfl) (by rw [hl]; kernel_rfl) h
  rw [flatStg] at f0
  obtain ⟨a1, c2, rfl, w1, f2⟩ := f0.int
  obtain ⟨a2, c3, rfl, w2, f3⟩ := f2.int
  obtain ⟨a3, c4, rfl, w3, f4⟩ := f3.int
  obtain ⟨a4, c5, rfl, w4, f5⟩ := f4.int
  obtain rfl := f5.nil
  exact ⟨⟨a1, a2, a3, a4⟩, rfl, trivial⟩
theorem leafStg {v : Value} (h : ∃ n x, DataW.trod enc Tryz.prog W base sp held n 43 [v] = some x) : ∃ l : List Stg, StgS W v l := by
  obtain ⟨n, x, h⟩ := h
  obtain ⟨l, h1, _⟩ := list_of (I := fun _ => True) Tryz.underlying43 (k := 4) (by kernel_rfl) (by decide) ofStg h
  exact ⟨l, h1⟩
theorem flatSch : flat Tryz.prog 4 45 = [.inr (.inl false), .inl .i64, .inr (.inr 43)] := by kernel_rfl
theorem ofSch (cs : List Value) (n : Nat) (y : DataW H × List MemPlace) (hl : cs.length = 3) (h : DataW.trod enc Tryz.prog W base sp held n 45 cs = some y) : ∃ z : SchP, cs = encSch z ∧ StgS W z.2.v z.1.st := by
  have f0 := fits_of_trod 4 45 cs n _ (by kernel_rfl) (by rw [hl]; kernel_rfl) h
  rw [flatSch] at f0
  obtain ⟨a0, c1, rfl, w0, f1⟩ := f0.str
  obtain ⟨a1, c2, rfl, w1, f2⟩ := f1.int
  obtain ⟨a2, c3, rfl, w2, f3⟩ := f2.other
  obtain rfl := f3.nil
  obtain ⟨l, h2⟩ := leafStg w2
  obtain ⟨p, k, rfl, _⟩ := SliceOf.form h2
  exact ⟨(⟨a0, a1, l⟩, ⟨p, l.length, k⟩), rfl, h2⟩
theorem leafSch {v : Value} (h : ∃ n x, DataW.trod enc Tryz.prog W base sp held n 25 [v] = some x) : ∃ l : List SchP, SchS W v l := by
  obtain ⟨n, x, h⟩ := h
  obtain ⟨l, h1, h2⟩ := list_of (I := fun z : SchP => StgS W z.2.v z.1.st) Tryz.underlying25 (k := 3) (by kernel_rfl) (by decide) ofSch h
  exact ⟨l, h1, h2⟩
theorem flatEx : flat Tryz.prog 4 49 = [.inl .i64, .inl .i64, .inr (.inl false), .inr (.inr 47)] := by kernel_rfl
theorem ofEx : ∀ (d : Nat) (cs : List Value) (n : Nat) (y : DataW H × List MemPlace), cs.length = 4 → DataW.trod enc Tryz.prog W base sp held n 49 cs = some y → ∃ z : EX, cs = encEX z ∧ ExD d W z := by
  intro d
  induction d with
  | zero =>
    intro cs n y hl h
    have f0 := fits_of_trod 4 49 cs n _ (by kernel_rfl) (by rw [hl]; kernel_rfl) h
    rw [flatEx] at f0
    obtain ⟨a0, c1, rfl, w0, f1⟩ := f0.int
    obtain ⟨a1, c2, rfl, w1, f2⟩ := f1.int
    obtain ⟨a2, c3, rfl, w2, f3⟩ := f2.str
    obtain ⟨a3, c4, rfl, ⟨m, x, w3⟩, f4⟩ := f3.other
    obtain rfl := f4.nil
    rcases trod_slice_form Tryz.underlying47 w3 with rfl | ⟨p, k, c, rfl⟩
    · exact ⟨⟨a0, a1, a2, ⟨none, 0, 0⟩, []⟩, rfl, trivial⟩
    · exact ⟨⟨a0, a1, a2, ⟨some p, k, c⟩, []⟩, rfl, trivial⟩
  | succ d ih =>
    intro cs n y hl h
    have f0 := fits_of_trod 4 49 cs n _ (by kernel_rfl) (by rw [hl]; kernel_rfl) h
    rw [flatEx] at f0
    obtain ⟨a0, c1, rfl, w0, f1⟩ := f0.int
    obtain ⟨a1, c2, rfl, w1, f2⟩ := f1.int
    obtain ⟨a2, c3, rfl, w2, f3⟩ := f2.str
    obtain ⟨a3, c4, rfl, ⟨m, x, w3⟩, f4⟩ := f3.other
    obtain rfl := f4.nil
    obtain ⟨l, h1, h2⟩ := list_of (I := fun z : EX => ExD d W z) Tryz.underlying47 (k := 4) (by kernel_rfl) (by decide) ih w3
    obtain ⟨p, k, rfl, _⟩ := SliceOf.form h1
    exact ⟨⟨a0, a1, a2, ⟨p, l.length, k⟩, l⟩, rfl, h1, h2⟩
theorem flatRu : flat Tryz.prog 4 51 = [.inl .i64, .inl .i64, .inl .i64, .inr (.inl false), .inr (.inr 47)] := by kernel_rfl
theorem ofRu (cs : List Value) (n : Nat) (y : DataW H × List MemPlace) (hl : cs.length = 5) (h : DataW.trod enc Tryz.prog W base sp held n 51 cs = some y) : ∃ z : RuP, cs = encRu z ∧ ExD 210 W z.2 := by
  have f0 := fits_of_trod 4 51 cs n _ (by kernel_rfl) (by rw [hl]; kernel_rfl) h
  rw [flatRu] at f0
  obtain ⟨g0, c0, rfl, w9, f9⟩ := f0.int
  obtain ⟨a0, c1, rfl, w0, f1⟩ := f9.int
  obtain ⟨a1, c2, rfl, w1, f2⟩ := f1.int
  obtain ⟨a2, c3, rfl, w2, f3⟩ := f2.str
  obtain ⟨a3, c4, rfl, ⟨m, x, w3⟩, f4⟩ := f3.other
  obtain rfl := f4.nil
  obtain ⟨l, h1, h2⟩ := list_of (I := fun z : EX => ExD 209 W z) Tryz.underlying47 (k := 4) (by kernel_rfl) (by decide) (ofEx 209) w3
  obtain ⟨p, k, rfl, _⟩ := SliceOf.form h1
  exact ⟨(g0, ⟨a0, a1, a2, ⟨p, l.length, k⟩, l⟩), rfl, h1, h2⟩
theorem leafRu {v : Value} (h : ∃ n x, DataW.trod enc Tryz.prog W base sp held n 24 [v] = some x) : ∃ l : List RuP, RuS W v l := by
  obtain ⟨n, x, h⟩ := h
  obtain ⟨l, h1, h2⟩ := list_of (I := fun z : RuP => ExD 210 W z.2) Tryz.underlying24 (k := 5) (by kernel_rfl) (by decide) ofRu h
  exact ⟨l, h1, h2⟩
end
end Go.Proofs.YteokijolhbohaaaGreatDoor
