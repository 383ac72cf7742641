/-
  Chapter 61: several texts in one (R60, R61).
-/
import Derived.Test.YtjfohapnjnopfaaGreatDoorK57
import Derived.Test.YtjfohapnjnopfaaGreatDoorK43
import Derived.Test.YtjfohapnjnopfaaGreatDoorK23
import Derived.Test.YtjfohapnjnopfaaGreatDoorK5
import Derived.Test.YtjfohapnjnopfaaGreatDoorLA
import Derived.Lib.LaidTab
import Derived.LaidMore
/-
  Chapter 61: the laws of histories and of stories.
-/
section
set_option linter.unusedVariables false
set_option linter.unusedSimpArgs false
namespace Go.Proofs.YtjfohapnjnopfaaGreatDoor
open Go.RowKit Go.WideShapes RepM

attribute [local go_sem] ExtOf.cell ExtOf.frozen ExtS.cell ExtS.frozen Block.cell Block.frozen ExtB.cell ExtB.frozen alloc_cell alloc_frozen
set_option maxHeartbeats 1600000 in
set_option maxRecDepth 20000 in
theorem histories_walk (l : List EvP) (v : Value) (s : ByteArray) (w : World) (h : EvsS w v l) (ht : Tab w) : Calls Tryz.prog 3 #[v, .string s] w fun e w' => e = .returned (.bool true) ∧ ∃ n : ExtOf w, w' = n.val := by
  have H := Lib.hid h
  have HT := Lib.hid ht
  clear h ht
  go_enter Tryz.func3, Tryz.ntmps3
  go_upto_region 1 with fail
  go_wp2_with (first | (go_at_call 6; refine (lshort_any l v s _ H.out).mono ?_; rintro en w' ⟨c, rfl, hc, n1, rfl⟩; (have HC := Lib.hid hc); clear hc; cases c) | (go_at_call 7; refine (awake_any _ (HT.out.ext (by repeat' (first | (with_reducible exact Ext.refl _) | (with_reducible exact ExtOf.ext _) | (with_reducible refine Ext.trans ?_ (ExtOf.ext _)) | (with_reducible refine Ext.alloc ?_ _) | (with_reducible refine Ext.drew ?_) | (with_reducible refine Ext.setCell ?_ ?_ _) | (with_reducible refine Ext.setRow ?_ ?_ _) | (with_reducible exact HX.out) | (with_reducible refine Ext.trans ?_ HX.out) | (with_reducible refine Ext.below ?_ (Nat.le_refl _) _) | omega | (simp; done) | (simp; omega))))).mono ?_; rintro en w' ⟨rfl, n2, rfl⟩) | (go_at_call 8; refine (phistory_any l v s _ (H.out.ext (by repeat' (first | (with_reducible exact Ext.refl _) | (with_reducible exact ExtOf.ext _) | (with_reducible refine Ext.trans ?_ (ExtOf.ext _)) | (with_reducible refine Ext.alloc ?_ _) | (with_reducible refine Ext.drew ?_) | (with_reducible refine Ext.setCell ?_ ?_ _) | (with_reducible refine Ext.setRow ?_ ?_ _) | (with_reducible exact HX.out) | (with_reducible refine Ext.trans ?_ HX.out) | (with_reducible refine Ext.below ?_ (Nat.le_refl _) _) | omega | (simp; done) | (simp; omega)))) (Nat.le_trans (HC.out (by first | rfl | trivial)).1 (by decide)) (HT.out.ext (by repeat' (first | (with_reducible exact Ext.refl _) | (with_reducible exact ExtOf.ext _) | (with_reducible refine Ext.trans ?_ (ExtOf.ext _)) | (with_reducible refine Ext.alloc ?_ _) | (with_reducible refine Ext.drew ?_) | (with_reducible refine Ext.setCell ?_ ?_ _) | (with_reducible refine Ext.setRow ?_ ?_ _) | (with_reducible exact HX.out) | (with_reducible refine Ext.trans ?_ HX.out) | (with_reducible refine Ext.below ?_ (Nat.le_refl _) _) | omega | (simp; done) | (simp; omega))))).mono ?_; rintro en w' ⟨va, ha, rfl, hea, hqa, n3, rfl⟩; (have HEA := Lib.hid hea); (have HQA := Lib.hid hqa); clear hea hqa) | (go_at_call 9; refine (rhistory_any l v s _ (H.out.ext (by repeat' (first | (with_reducible exact Ext.refl _) | (with_reducible exact ExtOf.ext _) | (with_reducible refine Ext.trans ?_ (ExtOf.ext _)) | (with_reducible refine Ext.alloc ?_ _) | (with_reducible refine Ext.drew ?_) | (with_reducible refine Ext.setCell ?_ ?_ _) | (with_reducible refine Ext.setRow ?_ ?_ _) | (with_reducible exact HX.out) | (with_reducible refine Ext.trans ?_ HX.out) | (with_reducible refine Ext.below ?_ (Nat.le_refl _) _) | omega | (simp; done) | (simp; omega)))) (Nat.le_trans (HC.out (by first | rfl | trivial)).1 (by decide))).mono ?_; rintro en w' ⟨vb, hb, rfl, heb, hqb, n4, rfl⟩; (have HEB := Lib.hid heb); (have HQB := Lib.hid hqb); clear heb hqb) | (go_at_call 10; refine (rsame61_any ha hb _ _ _ (HEA.out.ext (by repeat' (first | (with_reducible exact Ext.refl _) | (with_reducible exact ExtOf.ext _) | (with_reducible refine Ext.trans ?_ (ExtOf.ext _)) | (with_reducible refine Ext.alloc ?_ _) | (with_reducible refine Ext.drew ?_) | (with_reducible refine Ext.setCell ?_ ?_ _) | (with_reducible refine Ext.setRow ?_ ?_ _) | (with_reducible exact HX.out) | (with_reducible refine Ext.trans ?_ HX.out) | (with_reducible refine Ext.below ?_ (Nat.le_refl _) _) | omega | (simp; done) | (simp; omega)))) (HEB.out.ext (by repeat' (first | (with_reducible exact Ext.refl _) | (with_reducible exact ExtOf.ext _) | (with_reducible refine Ext.trans ?_ (ExtOf.ext _)) | (with_reducible refine Ext.alloc ?_ _) | (with_reducible refine Ext.drew ?_) | (with_reducible refine Ext.setCell ?_ ?_ _) | (with_reducible refine Ext.setRow ?_ ?_ _) | (with_reducible exact HX.out) | (with_reducible refine Ext.trans ?_ HX.out) | (with_reducible refine Ext.below ?_ (Nat.le_refl _) _) | omega | (simp; done) | (simp; omega))))).mono ?_; rintro en w' ⟨rfl, n5, rfl⟩; rw [HQA.out, HQB.out, sameL_self]))
  all_goals (go_ret; exact ⟨rfl, by exact ExtOf.of (by repeat' (first | (with_reducible exact Ext.refl _) | (with_reducible exact ExtOf.ext _) | (with_reducible refine Ext.trans ?_ (ExtOf.ext _)) | (with_reducible refine Ext.alloc ?_ _) | (with_reducible refine Ext.drew ?_) | (with_reducible refine Ext.setCell ?_ ?_ _) | (with_reducible refine Ext.setRow ?_ ?_ _) | (with_reducible exact HX.out) | (with_reducible refine Ext.trans ?_ HX.out) | (with_reducible refine Ext.below ?_ (Nat.le_refl _) _) | omega | (simp; done) | (simp; omega)))⟩)
set_option maxHeartbeats 1600000 in
set_option maxRecDepth 20000 in
theorem stories_walk (l : List EvP) (v : Value) (s : ByteArray) (w : World) (h : EvsS w v l) (ht : Tab w) : Calls Tryz.prog 4 #[v, .string s] w fun e w' => e = .returned (.bool true) ∧ ∃ n : ExtOf w, w' = n.val := by
  have H := Lib.hid h
  have HT := Lib.hid ht
  clear h ht
  obtain ⟨S, hS⟩ : ∃ S, S = cB (storyL (histOf (evs l) s)) := ⟨_, rfl⟩
  obtain ⟨E, hE⟩ : ∃ E, E = errOf (evs l) s := ⟨_, rfl⟩
  obtain ⟨⟨P, pe⟩, hP⟩ : ∃ q, q = permOf (evs l) s := ⟨_, rfl⟩
  have HA := Lib.hid (fun W (hx : Ext w W) (hl : l.length ≤ 1000) => pstory_any l v s W (H.out.ext hx) hl (HT.out.ext hx))
  have HB := Lib.hid (fun W (hx : Ext w W) (hl : l.length ≤ 1000) => rstory_any l v s W (H.out.ext hx) hl)
  have HC1 := Lib.hid (fun W (hx : Ext w W) (hl : l.length ≤ 1000) => ppermit_any l v s W (H.out.ext hx) hl (HT.out.ext hx))
  have HC2 := Lib.hid (fun W (hx : Ext w W) (hl : l.length ≤ 1000) => rpermit_any l v s W (H.out.ext hx) hl)
  unfold storyV at HA
  unfold permV at HC1 HC2
  rw [← hS, ← hE] at HA HB
  rw [← hP] at HC1 HC2
  simp only at HC1 HC2
  have q1 := str_eq (m := S) (n := S) rfl
  have q2 := str_eq (m := P) (n := P) rfl
  have q3 : (E == E) = true := beq_iff_eq.2 rfl
  have q4 : (pe == pe) = true := beq_iff_eq.2 rfl
  clear hS hE hP
  go_enter Tryz.func4, Tryz.ntmps4
  go_wp2_with (first | (go_at_call 6; refine (lshort_any l v s _ H.out).mono ?_; rintro en w' ⟨c, rfl, hc, n1, rfl⟩; (have HC := Lib.hid hc); clear hc; cases c) | (go_at_call 7; refine (awake_any _ (HT.out.ext (by repeat' (first | (with_reducible exact Ext.refl _) | (with_reducible exact ExtOf.ext _) | (with_reducible refine Ext.trans ?_ (ExtOf.ext _)) | (with_reducible refine Ext.alloc ?_ _) | (with_reducible refine Ext.drew ?_) | (with_reducible refine Ext.setCell ?_ ?_ _) | (with_reducible refine Ext.setRow ?_ ?_ _) | (with_reducible exact HX.out) | (with_reducible refine Ext.trans ?_ HX.out) | (with_reducible refine Ext.below ?_ (Nat.le_refl _) _) | omega | (simp; done) | (simp; omega))))).mono ?_; rintro en w' ⟨rfl, n2, rfl⟩) | (go_at_call 11; (with_reducible refine Calls.mono (HA.out _ (by repeat' (first | (with_reducible exact Ext.refl _) | (with_reducible exact ExtOf.ext _) | (with_reducible refine Ext.trans ?_ (ExtOf.ext _)) | (with_reducible refine Ext.alloc ?_ _) | (with_reducible refine Ext.drew ?_) | (with_reducible refine Ext.setCell ?_ ?_ _) | (with_reducible refine Ext.setRow ?_ ?_ _) | (with_reducible exact HX.out) | (with_reducible refine Ext.trans ?_ HX.out) | (with_reducible refine Ext.below ?_ (Nat.le_refl _) _) | omega | (simp; done) | (simp; omega))) (Nat.le_trans (HC.out (by first | rfl | trivial)).1 (by decide))) ?_); rintro en w' ⟨rfl, n3, rfl⟩) | (go_at_call 12; (with_reducible refine Calls.mono (HB.out _ (by repeat' (first | (with_reducible exact Ext.refl _) | (with_reducible exact ExtOf.ext _) | (with_reducible refine Ext.trans ?_ (ExtOf.ext _)) | (with_reducible refine Ext.alloc ?_ _) | (with_reducible refine Ext.drew ?_) | (with_reducible refine Ext.setCell ?_ ?_ _) | (with_reducible refine Ext.setRow ?_ ?_ _) | (with_reducible exact HX.out) | (with_reducible refine Ext.trans ?_ HX.out) | (with_reducible refine Ext.below ?_ (Nat.le_refl _) _) | omega | (simp; done) | (simp; omega))) (Nat.le_trans (HC.out (by first | rfl | trivial)).1 (by decide))) ?_); rintro en w' ⟨rfl, n4, rfl⟩) | (go_at_call 13; (with_reducible refine Calls.mono (HC1.out _ (by repeat' (first | (with_reducible exact Ext.refl _) | (with_reducible exact ExtOf.ext _) | (with_reducible refine Ext.trans ?_ (ExtOf.ext _)) | (with_reducible refine Ext.alloc ?_ _) | (with_reducible refine Ext.drew ?_) | (with_reducible refine Ext.setCell ?_ ?_ _) | (with_reducible refine Ext.setRow ?_ ?_ _) | (with_reducible exact HX.out) | (with_reducible refine Ext.trans ?_ HX.out) | (with_reducible refine Ext.below ?_ (Nat.le_refl _) _) | omega | (simp; done) | (simp; omega))) (Nat.le_trans (HC.out (by first | rfl | trivial)).1 (by decide))) ?_); rintro en w' ⟨rfl, n5, rfl⟩) | (go_at_call 14; (with_reducible refine Calls.mono (HC2.out _ (by repeat' (first | (with_reducible exact Ext.refl _) | (with_reducible exact ExtOf.ext _) | (with_reducible refine Ext.trans ?_ (ExtOf.ext _)) | (with_reducible refine Ext.alloc ?_ _) | (with_reducible refine Ext.drew ?_) | (with_reducible refine Ext.setCell ?_ ?_ _) | (with_reducible refine Ext.setRow ?_ ?_ _) | (with_reducible exact HX.out) | (with_reducible refine Ext.trans ?_ HX.out) | (with_reducible refine Ext.below ?_ (Nat.le_refl _) _) | omega | (simp; done) | (simp; omega))) (Nat.le_trans (HC.out (by first | rfl | trivial)).1 (by decide))) ?_); rintro en w' ⟨rfl, n6, rfl⟩))
  all_goals (go_ret; exact ⟨rfl, by exact ExtOf.of (by repeat' (first | (with_reducible exact Ext.refl _) | (with_reducible exact ExtOf.ext _) | (with_reducible refine Ext.trans ?_ (ExtOf.ext _)) | (with_reducible refine Ext.alloc ?_ _) | (with_reducible refine Ext.drew ?_) | (with_reducible refine Ext.setCell ?_ ?_ _) | (with_reducible refine Ext.setRow ?_ ?_ _) | (with_reducible exact HX.out) | (with_reducible refine Ext.trans ?_ HX.out) | (with_reducible refine Ext.below ?_ (Nat.le_refl _) _) | omega | (simp; done) | (simp; omega)))⟩)
end Go.Proofs.YtjfohapnjnopfaaGreatDoor
end
/-
  Chapter 61: how the parameters of the laws read, and what the listed tables give.
-/
section
set_option linter.unusedVariables false
set_option linter.unusedSimpArgs false
namespace Go.Proofs.YtjfohapnjnopfaaGreatDoor
open Go.RowKit Go.Deep Go.ChangeShapes Go.WideShapes RepM

set_option maxRecDepth 100000
theorem ofI {H : Type} {enc : TypeId × Value → H} {W : World} {base : Nat} {sp : Nat → Bool} {held : Bool} (cs : List Value) (n : Nat) (y : DataW H × List MemPlace) (hl : cs.length = 1) (h : DataW.trod enc Tryz.prog W base sp held n 3 cs = some y) : ∃ z : Int, cs = encI z ∧ True := by
  obtain ⟨k, hk, _⟩ := DataW.trod_int Tryz.underlying3 h
  exact ⟨k, hk, trivial⟩
theorem leafI {H : Type} {enc : TypeId × Value → H} {W : World} {base : Nat} {sp : Nat → Bool} {held : Bool} {v : Value} (h : ∃ n x, DataW.trod enc Tryz.prog W base sp held n 32 [v] = some x) : ∃ l : List Int, SliceOf encI 1 W v l := by
  obtain ⟨n, x, h⟩ := h
  obtain ⟨l, h1, _⟩ := list_of (I := fun _ => True) Tryz.underlying32 (k := 1) (by kernel_rfl) (by decide) ofI h
  exact ⟨l, h1⟩
theorem flatEv : flat Tryz.prog 4 34 = [.inl .i64, .inl .i64, .inr (.inl false), .inr (.inl false), .inr (.inr 32), .inr (.inl false)] := by kernel_rfl
theorem ofEv {H : Type} {enc : TypeId × Value → H} {W : World} {base : Nat} {sp : Nat → Bool} {held : Bool} (cs : List Value) (n : Nat) (y : DataW H × List MemPlace) (hl : cs.length = 6) (h : DataW.trod enc Tryz.prog W base sp held n 34 cs = some y) : ∃ z : EvP, cs = encEv z ∧ IntS W z.2.v z.1.n := by
  have f0 := fits_of_trod 4 34 cs n _ (by kernel_rfl) (by rw [hl]; kernel_rfl) h
  rw [flatEv] at f0
  obtain ⟨a0, c1, rfl, w0, f1⟩ := f0.int
  obtain ⟨a1, c2, rfl, w1, f2⟩ := f1.int
  obtain ⟨a2, c3, rfl, w2, f3⟩ := f2.str
  obtain ⟨a3, c4, rfl, w3, f4⟩ := f3.str
  obtain ⟨a4, c5, rfl, w4, f5⟩ := f4.other
  obtain ⟨a5, c6, rfl, w5, f6⟩ := f5.str
  obtain rfl := f6.nil
  obtain ⟨l, hl4⟩ := leafI w4
  obtain ⟨p, cap, rfl, _⟩ := SliceOf.form hl4
  exact ⟨(⟨a0, a1, a2, a3, l, a5⟩, ⟨p, l.length, cap⟩), rfl, hl4⟩
theorem parEv {H : Type} {enc : TypeId × Value → H} {W : World} {base : Nat} {sp : Nat → Bool} {held : Bool} {r : Reach} {b0 : Nat} {v : Value} {d : DataW H} {pl : List MemPlace} (hv : Value.okWide Tryz.prog W r b0 22 v) (h : DataW.Trod enc Tryz.prog W base sp held 22 v d pl) : ∃ l : List EvP, SliceOf encEv 6 W v l ∧ ∀ z ∈ l, IntS W z.2.v z.1.n :=
  par_list (α := EvP) (enc2 := encEv) (k := 6) (I := fun z => IntS W z.2.v z.1.n) Tryz.underlying22 (by kernel_rfl) (by decide) ofEv hv h
theorem tab_of {W : World} (h : laidMetH Tryz.prog [("math/bits.deBruijn32tab", Rows.laid_math_bits_deBruijn32tab), ("math/bits.deBruijn64tab", Rows.laid_math_bits_deBruijn64tab), ("internal/strconv.uint64pow10", Rows.laid_internal_strconv_uint64pow10)] W) : Tab W := by
  rw [MakeChecks.laidMetH_plain _ _ _ (by kernel_rfl)] at h
  obtain ⟨ps, ⟨g0, t0, cs0, f0, p0, q0, _, _, _, _, ⟨g1, t1, cs1, f1, p1, q1, _, _, _, _, ⟨g2, t2, cs2, f2, p2, q2, hg, hty, hvar, hd, _, _⟩, _⟩, _⟩, _, _⟩ := h
  have hG : Tryz.prog.globalNamed "internal/strconv.uint64pow10" = some 0 := by kernel_rfl
  obtain rfl := Option.some.inj (hG.symm.trans hg)
  have hT : (Tryz.prog.globals[0]?).map (·.type) = some 179 := by kernel_rfl
  obtain rfl := Option.some.inj (hT.symm.trans hty)
  unfold Tab Lib.TabIs
  rw [hvar, ← Lib.cells_of_tab (zs := Lib.pow10Tab) (k := .u64) Tryz.underlying179 Tryz.underlying130 (by kernel_rfl) (by kernel_rfl) hd]
end Go.Proofs.YtjfohapnjnopfaaGreatDoor
end
