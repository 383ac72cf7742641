/-
  How the parameters of the chapter's laws read, and what the listed tables give.
-/
import Derived.Test.YtaflcbdbacogeaaDoorV3
import Derived.Test.YtaflcbdbacogeaaDoorOpen
import Derived.Lib.LaidTab
import Derived.LaidMore
set_option linter.unusedVariables false
set_option linter.unusedSimpArgs false
namespace Go.Proofs.YtaflcbdbacogeaaDoor
open Go.RowKit Go.Deep Go.ChangeShapes Go.WideShapes ReportM

set_option maxRecDepth 100000
def PlOk (x : Pl) : Prop := InR x.pr ∧ InR x.gr ∧ (0 ≤ x.vo ∧ x.vo < 4294967296)
theorem in_wf {a : Int} (h : (Lit.int .i64 a).wf = true) : InR a := by
  simp [Lit.wf, IntKind.min, IntKind.max, IntKind.signed, IntKind.bits] at h
  exact ⟨by omega, by omega⟩
theorem in_wfu {a : Int} (h : (Lit.int .u32 a).wf = true) : 0 ≤ a ∧ a < 4294967296 := by
  simp [Lit.wf, IntKind.min, IntKind.max, IntKind.signed, IntKind.bits] at h
  omega
theorem flatSw : flat Tryd.prog 4 83 = [.inr (.inl false), .inr (.inl true), .inl .i64, .inl .i64, .inl .i64, .inl .i64, .inl .i64] := by kernel_rfl
theorem ofSw {H : Type} {enc : TypeId × Value → H} {W : World} {base : Nat} {sp : Nat → Bool} {held : Bool} (cs : List Value) (n : Nat) (y : DataW H × List MemPlace) (hl : cs.length = 7) (h : DataW.trod enc Tryd.prog W base sp held n 83 cs = some y) : ∃ z : Sw, cs = encSw z ∧ (fun _ => True) z := by
  have f0 := fits_of_trod 4 83 cs n _ (by kernel_rfl) (by rw [hl]; kernel_rfl) h
  rw [flatSw] at f0
  obtain ⟨a0, c1, rfl, w0, f1⟩ := f0.str
  obtain ⟨a1, c2, rfl, f2⟩ := f1.bool
  obtain ⟨a2, c3, rfl, w2, f3⟩ := f2.int
  obtain ⟨a3, c4, rfl, w3, f4⟩ := f3.int
  obtain ⟨a4, c5, rfl, w4, f5⟩ := f4.int
  obtain ⟨a5, c6, rfl, w5, f6⟩ := f5.int
  obtain ⟨a6, c7, rfl, w6, f7⟩ := f6.int
  obtain rfl := f7.nil
  exact ⟨⟨a0, a1, ⟨a2, a3, a4, a5, a6⟩⟩, rfl, trivial⟩
theorem flatPl : flat Tryd.prog 3 80 = [.inl .i64, .inl .i64, .inl .i64, .inl .u32, .inl .i64] := by kernel_rfl
theorem ofPl {H : Type} {enc : TypeId × Value → H} {W : World} {base : Nat} {sp : Nat → Bool} {held : Bool} (cs : List Value) (n : Nat) (y : DataW H × List MemPlace) (hl : cs.length = 5) (h : DataW.trod enc Tryd.prog W base sp held n 80 cs = some y) : ∃ z : Pl, cs = encPl z ∧ PlOk z := by
  have f0 := fits_of_trod 3 80 cs n _ (by kernel_rfl) (by rw [hl]; kernel_rfl) h
  rw [flatPl] at f0
  obtain ⟨a0, c1, rfl, w0, f1⟩ := f0.int
  obtain ⟨a1, c2, rfl, w1, f2⟩ := f1.int
  obtain ⟨a2, c3, rfl, w2, f3⟩ := f2.int
  obtain ⟨a3, c4, rfl, w3, f4⟩ := f3.int
  obtain ⟨a4, c5, rfl, w4, f5⟩ := f4.int
  obtain rfl := f5.nil
  exact ⟨⟨a0, a1, a2, a3, a4⟩, rfl, ⟨in_wf w0, in_wf w2, in_wfu w3⟩⟩
theorem flatDu : flat Tryd.prog 3 88 = [.inl .i64, .inr (.inl true)] := by kernel_rfl
theorem ofDu {H : Type} {enc : TypeId × Value → H} {W : World} {base : Nat} {sp : Nat → Bool} {held : Bool} (cs : List Value) (n : Nat) (y : DataW H × List MemPlace) (hl : cs.length = 2) (h : DataW.trod enc Tryd.prog W base sp held n 88 cs = some y) : ∃ z : Du, cs = encDu z ∧ (fun _ => True) z := by
  have f0 := fits_of_trod 3 88 cs n _ (by kernel_rfl) (by rw [hl]; kernel_rfl) h
  rw [flatDu] at f0
  obtain ⟨a0, c1, rfl, w0, f1⟩ := f0.int
  obtain ⟨a1, c2, rfl, f2⟩ := f1.bool
  obtain rfl := f2.nil
  exact ⟨⟨a0, a1⟩, rfl, trivial⟩
theorem flatPd : flat Tryd.prog 4 27 = [.inr (.inl false), .inl .i64, .inl .i64, .inl .i64, .inl .i64, .inr (.inr 25), .inr (.inr 25)] := by kernel_rfl
theorem ofPd {H : Type} {enc : TypeId × Value → H} {W : World} {base : Nat} {sp : Nat → Bool} {held : Bool} (cs : List Value) (n : Nat) (y : DataW H × List MemPlace) (hl : cs.length = 7) (h : DataW.trod enc Tryd.prog W base sp held n 27 cs = some y) : ∃ z : Pd, cs = encPd z ∧ (fun _ => True) z := by
  have f0 := fits_of_trod 4 27 cs n _ (by kernel_rfl) (by rw [hl]; kernel_rfl) h
  rw [flatPd] at f0
  obtain ⟨a0, c1, rfl, w0, f1⟩ := f0.str
  obtain ⟨a1, c2, rfl, w1, f2⟩ := f1.int
  obtain ⟨a2, c3, rfl, w2, f3⟩ := f2.int
  obtain ⟨a3, c4, rfl, w3, f4⟩ := f3.int
  obtain ⟨a4, c5, rfl, w4, f5⟩ := f4.int
  obtain ⟨a5, c6, rfl, w5, f6⟩ := f5.other
  obtain ⟨a6, c7, rfl, w6, f7⟩ := f6.other
  obtain rfl := f7.nil
  exact ⟨⟨a0, a1, a2, a3, a4, a5, a6⟩, rfl, trivial⟩
theorem parPd {H : Type} {enc : TypeId × Value → H} {W : World} {base : Nat} {sp : Nat → Bool} {held : Bool} {r : Reach} {b0 : Nat} {v : Value} {d : DataW H} {pl : List MemPlace} (hv : Value.okWide Tryd.prog W r b0 23 v) (h : DataW.Trod enc Tryd.prog W base sp held 23 v d pl) : ∃ l : List Pd, SliceOf encPd 7 W v l ∧ ∀ z ∈ l, (fun _ => True) z :=
  par_list Tryd.underlying23 (by kernel_rfl) (by decide) ofPd hv h
theorem parSw {H : Type} {enc : TypeId × Value → H} {W : World} {base : Nat} {sp : Nat → Bool} {held : Bool} {r : Reach} {b0 : Nat} {v : Value} {d : DataW H} {pl : List MemPlace} (hv : Value.okWide Tryd.prog W r b0 63 v) (h : DataW.Trod enc Tryd.prog W base sp held 63 v d pl) : ∃ l : List Sw, SliceOf encSw 7 W v l ∧ ∀ z ∈ l, (fun _ => True) z :=
  par_list Tryd.underlying63 (by kernel_rfl) (by decide) ofSw hv h
theorem parPl {H : Type} {enc : TypeId × Value → H} {W : World} {base : Nat} {sp : Nat → Bool} {held : Bool} {r : Reach} {b0 : Nat} {v : Value} {d : DataW H} {pl : List MemPlace} (hv : Value.okWide Tryd.prog W r b0 22 v) (h : DataW.Trod enc Tryd.prog W base sp held 22 v d pl) : ∃ l : List Pl, SliceOf encPl 5 W v l ∧ ∀ z ∈ l, PlOk z :=
  par_list Tryd.underlying22 (by kernel_rfl) (by decide) ofPl hv h
theorem parDu {H : Type} {enc : TypeId × Value → H} {W : World} {base : Nat} {sp : Nat → Bool} {held : Bool} {r : Reach} {b0 : Nat} {v : Value} {d : DataW H} {pl : List MemPlace} (hv : Value.okWide Tryd.prog W r b0 71 v) (h : DataW.Trod enc Tryd.prog W base sp held 71 v d pl) : ∃ l : List Du, SliceOf encDu 2 W v l ∧ ∀ z ∈ l, (fun _ => True) z :=
  par_list Tryd.underlying71 (by kernel_rfl) (by decide) ofDu hv h
theorem tab_of {W : World} (h : laidMetH Tryd.prog [("math/bits.deBruijn32tab", Rows.laid_math_bits_deBruijn32tab), ("math/bits.deBruijn64tab", Rows.laid_math_bits_deBruijn64tab), ("internal/strconv.uint64pow10", Rows.laid_internal_strconv_uint64pow10)] W) : Tab W := by
  rw [MakeChecks.laidMetH_plain _ _ _ (by kernel_rfl)] at h
  obtain ⟨ps, ⟨g0, t0, cs0, f0, p0, q0, _, _, _, _, ⟨g1, t1, cs1, f1, p1, q1, _, _, _, _, ⟨g2, t2, cs2, f2, p2, q2, hg, hty, hvar, hd, _, _⟩, _⟩, _⟩, _, _⟩ := h
  have hG : Tryd.prog.globalNamed "internal/strconv.uint64pow10" = some 0 := by kernel_rfl
  obtain rfl := Option.some.inj (hG.symm.trans hg)
  have hT : (Tryd.prog.globals[0]?).map (·.type) = some 186 := by kernel_rfl
  obtain rfl := Option.some.inj (hT.symm.trans hty)
  unfold Tab Lib.TabIs
  rw [hvar, ← Lib.cells_of_tab (zs := Lib.pow10Tab) (k := .u64) Tryd.underlying186 Tryd.underlying146 (by kernel_rfl) (by kernel_rfl) hd]
end Go.Proofs.YtaflcbdbacogeaaDoor
