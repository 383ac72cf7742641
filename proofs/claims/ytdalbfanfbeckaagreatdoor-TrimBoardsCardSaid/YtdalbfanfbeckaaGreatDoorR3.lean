/-
  Chapter 26: the numbers of a product: checkNumbers, and the reference's checkLengths.
-/
import Derived.Test.YtdalbfanfbeckaaGreatDoorK2
set_option linter.unusedVariables false
set_option linter.unusedSimpArgs false
namespace Go.Proofs.YtdalbfanfbeckaaGreatDoor
open Go.RowKit TrimM

attribute [local go_sem] ExtOf.cell ExtOf.frozen Block.cell Block.frozen ExtB.cell ExtB.frozen alloc_cell alloc_frozen
theorem SliceOf.elem1 {α : Type} {enc : α → List Value} {w : World} {p : Option Addr} {n cap : Nat} {l : List α} (h : SliceOf enc 1 w (.slice p n cap) l) {i : Nat} (hi : i < l.length) {u : Value} (hu : enc l[i] = [u]) :
    ∃ b off, p = some ⟨b, off, none⟩ ∧ Old b w ∧ w.cell? ⟨b, off + i, none⟩ = some u := by
  obtain ⟨p', cap', e, h1, h2, h3, h4⟩ := h
  simp only [Value.slice.injEq] at e
  obtain ⟨rfl, _, _⟩ := e
  obtain ⟨b, off, hp, hc⟩ := h4 i l[i] (List.getElem?_eq_getElem hi)
  have c0 := hc 0 u (by rw [hu]; rfl)
  exact ⟨b, off, hp, Old.of_cell c0, by simpa using c0⟩
def lensAt (ls : List Int) (k : Nat) : Int := lensE (if k = 0 then none else ls[k - 1]?) (ls.drop k)
theorem lensAt_zero (ls : List Int) : lensE none ls = lensAt ls 0 := rfl
theorem lensAt_end (ls : List Int) {k : Nat} (h : ls.length ≤ k) : lensAt ls k = 0 := by
  unfold lensAt; rw [List.drop_of_length_le h]; rfl
theorem lensAt_bad {ls : List Int} {k : Nat} (h : k < ls.length) (hb : ls[k] < 100 ∨ 20000 < ls[k]) : lensAt ls k = 9 := by
  unfold lensAt; rw [List.drop_eq_getElem_cons h]; unfold lensE; rw [if_pos (by omega)]
theorem lensAt_first {ls : List Int} (h : 0 < ls.length) (hb : ¬ (ls[0] < 100 ∨ 20000 < ls[0])) : lensAt ls 0 = lensAt ls 1 := by
  unfold lensAt
  rw [List.drop_eq_getElem_cons h]
  show lensE none (ls[0] :: ls.drop 1) = lensE (ls[0]?) (ls.drop 1)
  conv => lhs; unfold lensE
  rw [if_neg (by omega), List.getElem?_eq_getElem h]
theorem lensAt_ord {ls : List Int} {m : Nat} (h : m + 1 < ls.length) (hb : ¬ (ls[m + 1] < 100 ∨ 20000 < ls[m + 1])) (ho : ls[m + 1] ≤ ls[m]) : lensAt ls (m + 1) = 11 := by
  unfold lensAt
  rw [List.drop_eq_getElem_cons h, if_neg (by omega), Nat.add_sub_cancel, List.getElem?_eq_getElem (show m < ls.length by omega)]
  unfold lensE
  rw [if_neg (by omega)]
  simp only
  rw [if_pos ho]
theorem lensAt_next {ls : List Int} {m : Nat} (h : m + 1 < ls.length) (hb : ¬ (ls[m + 1] < 100 ∨ 20000 < ls[m + 1])) (ho : ¬ ls[m + 1] ≤ ls[m]) : lensAt ls (m + 1) = lensAt ls (m + 2) := by
  unfold lensAt
  rw [List.drop_eq_getElem_cons h, if_neg (by omega), Nat.add_sub_cancel, List.getElem?_eq_getElem (show m < ls.length by omega)]
  conv => lhs; unfold lensE
  rw [if_neg (by omega)]
  simp only
  rw [if_neg ho, if_neg (by omega)]
  simp [List.getElem?_eq_getElem h]
def priceAt (ps : List Int) (k : Nat) : Int := pricesE (ps.drop k)
theorem priceAt_end (ps : List Int) {k : Nat} (h : ps.length ≤ k) : priceAt ps k = 0 := by
  unfold priceAt; rw [List.drop_of_length_le h]; rfl
theorem priceAt_bad {ps : List Int} {k : Nat} (h : k < ps.length) (hb : ps[k] < 0 ∨ 1000000 < ps[k]) : priceAt ps k = 9 := by
  unfold priceAt; rw [List.drop_eq_getElem_cons h]; unfold pricesE; rw [if_pos (by omega)]
theorem priceAt_next {ps : List Int} {k : Nat} (h : k < ps.length) (hb : ¬ (ps[k] < 0 ∨ 1000000 < ps[k])) : priceAt ps k = priceAt ps (k + 1) := by
  unfold priceAt; rw [List.drop_eq_getElem_cons h]; conv => lhs; unfold pricesE
  rw [if_neg (by omega)]
theorem listsE_eq (ls ps : List Int) (h1 : ls.length ≠ 0) (h2 : ls.length ≤ 8) (h3 : ps.length = ls.length) : listsE ls ps = if lensAt ls 0 ≠ 0 then lensAt ls 0 else priceAt ps 0 := by
  unfold listsE
  rw [if_neg h1, if_neg (by omega), if_neg (by omega), lensAt_zero]
  rfl
set_option maxHeartbeats 1600000 in
theorem checkNumbers_any (p : Pdt) (lv pv : Value) (w : World) (hl : IntS w lv p.ls) (hp : IntS w pv p.ps) :
    Calls Tryz.prog 76 #[.agg (pdC p lv pv)] w fun e w' => e = .returned (.int .i64 (numE p)) ∧ ∃ n : ExtOf w, w' = n.val := by
  obtain ⟨nm, th, wi, al, wa, ls, ps⟩ := p
  obtain ⟨lq, lcap, rfl, hl1, hl2, hl3⟩ := SliceOf.form hl
  obtain ⟨pq, pcap, rfl, hp1, hp2, hp3⟩ := SliceOf.form hp
  have HL := Lib.hid hl
  have HP := Lib.hid hp
  clear hl hp
  unfold maxLen at hl2 hp2
  try unfold pdC
  have hgr := okG_eq ⟨nm, th, wi, al, wa, ls, ps⟩
  simp only at hgr
  have HG2 : Hid ((TrimM.green th wi al).2 = grW th wi al) := Lib.hid (by rw [← hgr])
  clear hgr
  by_cases a1 : th < 5
  · have HE : Hid (numE ⟨nm, th, wi, al, wa, ls, ps⟩ = 9) := Lib.hid (by unfold numE; rw [if_pos (by simp only; omega)])
    clear HL HP
    go_enter Tryz.func76, Tryz.ntmps76
    go_wp2_with (first | ((with_reducible apply wl_load' lwPd); (· (first | exact wanted_none rfl | exact wanted_some rfl rfl rfl)); (· rfl); (· infer_instance); (· rfl)) | (go_at_call 54; refine (green_any _ _ _ _ _ _ _ _).mono ?_; rintro e w' ⟨rfl, n, rfl⟩))
    go_ret
    exact ⟨ret_int HE.out.symm, by exact ExtOf.of (by repeat' (first | (with_reducible exact Ext.refl _) | (with_reducible exact ExtOf.ext _) | (with_reducible refine Ext.trans ?_ (ExtOf.ext _)) | (with_reducible refine Ext.alloc ?_ _) | (with_reducible refine Ext.drew ?_) | (with_reducible refine Ext.setCell ?_ ?_ _) | (with_reducible refine Ext.setRow ?_ ?_ _) | (with_reducible exact HX.out) | (with_reducible refine Ext.trans ?_ HX.out) | (with_reducible refine Ext.below ?_ (Nat.le_refl _) _) | omega | (simp; done) | (simp; omega)))⟩
  have q1 : decide (th < 5) = false := decide_eq_false a1
  by_cases a2 : 300 < th
  · have HE : Hid (numE ⟨nm, th, wi, al, wa, ls, ps⟩ = 9) := Lib.hid (by unfold numE; rw [if_pos (by simp only; omega)])
    clear HL HP
    go_enter Tryz.func76, Tryz.ntmps76
    go_wp2_with (first | ((with_reducible apply wl_load' lwPd); (· (first | exact wanted_none rfl | exact wanted_some rfl rfl rfl)); (· rfl); (· infer_instance); (· rfl)) | (go_at_call 54; refine (green_any _ _ _ _ _ _ _ _).mono ?_; rintro e w' ⟨rfl, n, rfl⟩))
    go_ret
    exact ⟨ret_int HE.out.symm, by exact ExtOf.of (by repeat' (first | (with_reducible exact Ext.refl _) | (with_reducible exact ExtOf.ext _) | (with_reducible refine Ext.trans ?_ (ExtOf.ext _)) | (with_reducible refine Ext.alloc ?_ _) | (with_reducible refine Ext.drew ?_) | (with_reducible refine Ext.setCell ?_ ?_ _) | (with_reducible refine Ext.setRow ?_ ?_ _) | (with_reducible exact HX.out) | (with_reducible refine Ext.trans ?_ HX.out) | (with_reducible refine Ext.below ?_ (Nat.le_refl _) _) | omega | (simp; done) | (simp; omega)))⟩
  have q2 : decide (300 < th) = false := decide_eq_false a2
  by_cases a3 : wi < th
  · have HE : Hid (numE ⟨nm, th, wi, al, wa, ls, ps⟩ = 9) := Lib.hid (by unfold numE; rw [if_pos (by simp only; omega)])
    clear HL HP
    go_enter Tryz.func76, Tryz.ntmps76
    go_wp2_with (first | ((with_reducible apply wl_load' lwPd); (· (first | exact wanted_none rfl | exact wanted_some rfl rfl rfl)); (· rfl); (· infer_instance); (· rfl)) | (go_at_call 54; refine (green_any _ _ _ _ _ _ _ _).mono ?_; rintro e w' ⟨rfl, n, rfl⟩))
    go_ret
    exact ⟨ret_int HE.out.symm, by exact ExtOf.of (by repeat' (first | (with_reducible exact Ext.refl _) | (with_reducible exact ExtOf.ext _) | (with_reducible refine Ext.trans ?_ (ExtOf.ext _)) | (with_reducible refine Ext.alloc ?_ _) | (with_reducible refine Ext.drew ?_) | (with_reducible refine Ext.setCell ?_ ?_ _) | (with_reducible refine Ext.setRow ?_ ?_ _) | (with_reducible exact HX.out) | (with_reducible refine Ext.trans ?_ HX.out) | (with_reducible refine Ext.below ?_ (Nat.le_refl _) _) | omega | (simp; done) | (simp; omega)))⟩
  have q3 : decide (wi < th) = false := decide_eq_false a3
  by_cases a4 : 600 < wi
  · have HE : Hid (numE ⟨nm, th, wi, al, wa, ls, ps⟩ = 9) := Lib.hid (by unfold numE; rw [if_pos (by simp only; omega)])
    clear HL HP
    go_enter Tryz.func76, Tryz.ntmps76
    go_wp2_with (first | ((with_reducible apply wl_load' lwPd); (· (first | exact wanted_none rfl | exact wanted_some rfl rfl rfl)); (· rfl); (· infer_instance); (· rfl)) | (go_at_call 54; refine (green_any _ _ _ _ _ _ _ _).mono ?_; rintro e w' ⟨rfl, n, rfl⟩))
    go_ret
    exact ⟨ret_int HE.out.symm, by exact ExtOf.of (by repeat' (first | (with_reducible exact Ext.refl _) | (with_reducible exact ExtOf.ext _) | (with_reducible refine Ext.trans ?_ (ExtOf.ext _)) | (with_reducible refine Ext.alloc ?_ _) | (with_reducible refine Ext.drew ?_) | (with_reducible refine Ext.setCell ?_ ?_ _) | (with_reducible refine Ext.setRow ?_ ?_ _) | (with_reducible exact HX.out) | (with_reducible refine Ext.trans ?_ HX.out) | (with_reducible refine Ext.below ?_ (Nat.le_refl _) _) | omega | (simp; done) | (simp; omega)))⟩
  have q4 : decide (600 < wi) = false := decide_eq_false a4
  by_cases a5 : al < 0
  · have HE : Hid (numE ⟨nm, th, wi, al, wa, ls, ps⟩ = 9) := Lib.hid (by unfold numE; rw [if_neg (by simp only; omega), if_pos (by simp only; omega)])
    clear HL HP
    go_enter Tryz.func76, Tryz.ntmps76
    go_wp2_with (first | ((with_reducible apply wl_load' lwPd); (· (first | exact wanted_none rfl | exact wanted_some rfl rfl rfl)); (· rfl); (· infer_instance); (· rfl)) | (go_at_call 54; refine (green_any _ _ _ _ _ _ _ _).mono ?_; rintro e w' ⟨rfl, n, rfl⟩))
    go_ret
    exact ⟨ret_int HE.out.symm, by exact ExtOf.of (by repeat' (first | (with_reducible exact Ext.refl _) | (with_reducible exact ExtOf.ext _) | (with_reducible refine Ext.trans ?_ (ExtOf.ext _)) | (with_reducible refine Ext.alloc ?_ _) | (with_reducible refine Ext.drew ?_) | (with_reducible refine Ext.setCell ?_ ?_ _) | (with_reducible refine Ext.setRow ?_ ?_ _) | (with_reducible exact HX.out) | (with_reducible refine Ext.trans ?_ HX.out) | (with_reducible refine Ext.below ?_ (Nat.le_refl _) _) | omega | (simp; done) | (simp; omega)))⟩
  have q5 : decide (al < 0) = false := decide_eq_false a5
  by_cases a6 : 200 < al
  · have HE : Hid (numE ⟨nm, th, wi, al, wa, ls, ps⟩ = 9) := Lib.hid (by unfold numE; rw [if_neg (by simp only; omega), if_pos (by simp only; omega)])
    clear HL HP
    go_enter Tryz.func76, Tryz.ntmps76
    go_wp2_with (first | ((with_reducible apply wl_load' lwPd); (· (first | exact wanted_none rfl | exact wanted_some rfl rfl rfl)); (· rfl); (· infer_instance); (· rfl)) | (go_at_call 54; refine (green_any _ _ _ _ _ _ _ _).mono ?_; rintro e w' ⟨rfl, n, rfl⟩))
    go_ret
    exact ⟨ret_int HE.out.symm, by exact ExtOf.of (by repeat' (first | (with_reducible exact Ext.refl _) | (with_reducible exact ExtOf.ext _) | (with_reducible refine Ext.trans ?_ (ExtOf.ext _)) | (with_reducible refine Ext.alloc ?_ _) | (with_reducible refine Ext.drew ?_) | (with_reducible refine Ext.setCell ?_ ?_ _) | (with_reducible refine Ext.setRow ?_ ?_ _) | (with_reducible exact HX.out) | (with_reducible refine Ext.trans ?_ HX.out) | (with_reducible refine Ext.below ?_ (Nat.le_refl _) _) | omega | (simp; done) | (simp; omega)))⟩
  have q6 : decide (200 < al) = false := decide_eq_false a6
  by_cases a7 : wa < 0
  · have HE : Hid (numE ⟨nm, th, wi, al, wa, ls, ps⟩ = 9) := Lib.hid (by unfold numE; rw [if_neg (by simp only; omega), if_pos (by simp only; omega)])
    clear HL HP
    go_enter Tryz.func76, Tryz.ntmps76
    go_wp2_with (first | ((with_reducible apply wl_load' lwPd); (· (first | exact wanted_none rfl | exact wanted_some rfl rfl rfl)); (· rfl); (· infer_instance); (· rfl)) | (go_at_call 54; refine (green_any _ _ _ _ _ _ _ _).mono ?_; rintro e w' ⟨rfl, n, rfl⟩))
    go_ret
    exact ⟨ret_int HE.out.symm, by exact ExtOf.of (by repeat' (first | (with_reducible exact Ext.refl _) | (with_reducible exact ExtOf.ext _) | (with_reducible refine Ext.trans ?_ (ExtOf.ext _)) | (with_reducible refine Ext.alloc ?_ _) | (with_reducible refine Ext.drew ?_) | (with_reducible refine Ext.setCell ?_ ?_ _) | (with_reducible refine Ext.setRow ?_ ?_ _) | (with_reducible exact HX.out) | (with_reducible refine Ext.trans ?_ HX.out) | (with_reducible refine Ext.below ?_ (Nat.le_refl _) _) | omega | (simp; done) | (simp; omega)))⟩
  have q7 : decide (wa < 0) = false := decide_eq_false a7
  by_cases a8 : 1000 < wa
  · have HE : Hid (numE ⟨nm, th, wi, al, wa, ls, ps⟩ = 9) := Lib.hid (by unfold numE; rw [if_neg (by simp only; omega), if_pos (by simp only; omega)])
    clear HL HP
    go_enter Tryz.func76, Tryz.ntmps76
    go_wp2_with (first | ((with_reducible apply wl_load' lwPd); (· (first | exact wanted_none rfl | exact wanted_some rfl rfl rfl)); (· rfl); (· infer_instance); (· rfl)) | (go_at_call 54; refine (green_any _ _ _ _ _ _ _ _).mono ?_; rintro e w' ⟨rfl, n, rfl⟩))
    go_ret
    exact ⟨ret_int HE.out.symm, by exact ExtOf.of (by repeat' (first | (with_reducible exact Ext.refl _) | (with_reducible exact ExtOf.ext _) | (with_reducible refine Ext.trans ?_ (ExtOf.ext _)) | (with_reducible refine Ext.alloc ?_ _) | (with_reducible refine Ext.drew ?_) | (with_reducible refine Ext.setCell ?_ ?_ _) | (with_reducible refine Ext.setRow ?_ ?_ _) | (with_reducible exact HX.out) | (with_reducible refine Ext.trans ?_ HX.out) | (with_reducible refine Ext.below ?_ (Nat.le_refl _) _) | omega | (simp; done) | (simp; omega)))⟩
  have q8 : decide (1000 < wa) = false := decide_eq_false a8
  have HN : Hid (numE ⟨nm, th, wi, al, wa, ls, ps⟩ = if grW th wi al > 600 then 9 else listsE ls ps) := Lib.hid (by unfold numE; rw [if_neg (by simp only; omega), if_neg (by simp only; omega)]; simp only [HG2.out])
  clear a1 a2 a3 a4 a5 a6 a7 a8
  by_cases a9 : 600 < grW th wi al
  · have HE : Hid (numE ⟨nm, th, wi, al, wa, ls, ps⟩ = 9) := Lib.hid (by rw [HN.out, if_pos (by omega)])
    clear HL HP
    go_enter Tryz.func76, Tryz.ntmps76
    go_wp2_with (first | ((with_reducible apply wl_load' lwPd); (· (first | exact wanted_none rfl | exact wanted_some rfl rfl rfl)); (· rfl); (· infer_instance); (· rfl)) | (go_at_call 54; refine (green_any _ _ _ _ _ _ _ _).mono ?_; rintro e w' ⟨rfl, n, rfl⟩))
    go_ret
    exact ⟨ret_int HE.out.symm, by exact ExtOf.of (by repeat' (first | (with_reducible exact Ext.refl _) | (with_reducible exact ExtOf.ext _) | (with_reducible refine Ext.trans ?_ (ExtOf.ext _)) | (with_reducible refine Ext.alloc ?_ _) | (with_reducible refine Ext.drew ?_) | (with_reducible refine Ext.setCell ?_ ?_ _) | (with_reducible refine Ext.setRow ?_ ?_ _) | (with_reducible exact HX.out) | (with_reducible refine Ext.trans ?_ HX.out) | (with_reducible refine Ext.below ?_ (Nat.le_refl _) _) | omega | (simp; done) | (simp; omega)))⟩
  have HN2 : Hid (numE ⟨nm, th, wi, al, wa, ls, ps⟩ = listsE ls ps) := Lib.hid (by rw [HN.out, if_neg (by omega)])
  clear HN
  by_cases b1 : ls.length = 0
  · have HE : Hid (numE ⟨nm, th, wi, al, wa, ls, ps⟩ = 3) := Lib.hid (by rw [HN2.out]; unfold listsE; rw [if_pos b1])
    have b2 : ((ls.length : Int) == 0) = true := by simp [b1]
    rw [b1]
    clear HL HP
    go_enter Tryz.func76, Tryz.ntmps76
    go_wp2_with (first | ((with_reducible apply wl_load' lwPd); (· (first | exact wanted_none rfl | exact wanted_some rfl rfl rfl)); (· rfl); (· infer_instance); (· rfl)) | (go_at_call 54; refine (green_any _ _ _ _ _ _ _ _).mono ?_; rintro e w' ⟨rfl, n, rfl⟩))
    go_ret
    exact ⟨ret_int HE.out.symm, by exact ExtOf.of (by repeat' (first | (with_reducible exact Ext.refl _) | (with_reducible exact ExtOf.ext _) | (with_reducible refine Ext.trans ?_ (ExtOf.ext _)) | (with_reducible refine Ext.alloc ?_ _) | (with_reducible refine Ext.drew ?_) | (with_reducible refine Ext.setCell ?_ ?_ _) | (with_reducible refine Ext.setRow ?_ ?_ _) | (with_reducible exact HX.out) | (with_reducible refine Ext.trans ?_ HX.out) | (with_reducible refine Ext.below ?_ (Nat.le_refl _) _) | omega | (simp; done) | (simp; omega)))⟩
  have b2 : ((ls.length : Int) == 0) = false := by rw [beq_eq_false_iff_ne]; omega
  by_cases c1 : 8 < ls.length
  · have HE : Hid (numE ⟨nm, th, wi, al, wa, ls, ps⟩ = 4) := Lib.hid (by rw [HN2.out]; unfold listsE; rw [if_neg b1, if_pos (by omega)])
    clear HL HP
    go_enter Tryz.func76, Tryz.ntmps76
    go_wp2_with (first | ((with_reducible apply wl_load' lwPd); (· (first | exact wanted_none rfl | exact wanted_some rfl rfl rfl)); (· rfl); (· infer_instance); (· rfl)) | (go_at_call 54; refine (green_any _ _ _ _ _ _ _ _).mono ?_; rintro e w' ⟨rfl, n, rfl⟩))
    go_ret
    exact ⟨ret_int HE.out.symm, by exact ExtOf.of (by repeat' (first | (with_reducible exact Ext.refl _) | (with_reducible exact ExtOf.ext _) | (with_reducible refine Ext.trans ?_ (ExtOf.ext _)) | (with_reducible refine Ext.alloc ?_ _) | (with_reducible refine Ext.drew ?_) | (with_reducible refine Ext.setCell ?_ ?_ _) | (with_reducible refine Ext.setRow ?_ ?_ _) | (with_reducible exact HX.out) | (with_reducible refine Ext.trans ?_ HX.out) | (with_reducible refine Ext.below ?_ (Nat.le_refl _) _) | omega | (simp; done) | (simp; omega)))⟩
  by_cases d1 : ps.length = ls.length
  · have HR : Hid (numE ⟨nm, th, wi, al, wa, ls, ps⟩ = if lensAt ls 0 ≠ 0 then lensAt ls 0 else priceAt ps 0) := Lib.hid (by rw [HN2.out, listsE_eq ls ps b1 (by omega) d1])
    have d2 : ((ps.length : Int) != (ls.length : Int)) = false := bne_eq_false_iff_eq.2 (by omega)
    clear d1
    go_enter Tryz.func76, Tryz.ntmps76
    go_wp2_with (first | ((with_reducible apply wl_load' lwPd); (· (first | exact wanted_none rfl | exact wanted_some rfl rfl rfl)); (· rfl); (· infer_instance); (· rfl)) | (go_at_call 54; refine (green_any _ _ _ _ _ _ _ _).mono ?_; rintro e w' ⟨rfl, n, rfl⟩))
    clear HN2 HG2
    go_loopw [72] (fun v wr => ∃ k : Nat, k ≤ ls.length ∧ v = .int .i64 k ∧ Block wr w.heap.size #[.string nm, .int .i64 th, .int .i64 wi, .int .i64 al, .int .i64 wa, .slice lq ls.length lcap, .slice pq ps.length pcap] ∧ Ext w wr ∧ lensAt ls 0 = lensAt ls k) (fun v _ => ls.length - (intOf v).toNat)
    case atStart => exact ⟨0, by omega, rfl, inferInstance, by repeat' (first | (with_reducible exact Ext.refl _) | (with_reducible exact ExtOf.ext _) | (with_reducible refine Ext.trans ?_ (ExtOf.ext _)) | (with_reducible refine Ext.alloc ?_ _) | (with_reducible refine Ext.drew ?_) | (with_reducible refine Ext.setCell ?_ ?_ _) | (with_reducible refine Ext.setRow ?_ ?_ _) | (with_reducible exact HX.out) | (with_reducible refine Ext.trans ?_ HX.out) | (with_reducible refine Ext.below ?_ (Nat.le_refl _) _) | omega | (simp; done) | (simp; omega)), rfl⟩
    case round =>
      obtain ⟨k, hk, rfl, hB, hx, hla⟩ := hrel
      have HX := Lib.hid hx
      have HLA := Lib.hid hla
      have ob := hB.old
      clear hx hla
      by_cases hlt : k < ls.length
      · obtain ⟨bl, ol, hbl, o1, c0⟩ := SliceOf.elem1 (SliceOf.ext HL.out HX.out) hlt rfl
        subst hbl
        obtain ⟨x, hx⟩ : ∃ x, x = ls[k] := ⟨_, rfl⟩
        rw [← hx] at c0
        have HXE := Lib.hid hx
        clear hx
        by_cases t1 : x < 100
        · have HB9 : Hid (lensAt ls k = 9) := Lib.hid (lensAt_bad hlt (by rw [← HXE.out]; omega))
          go_wp2_with fail
          skip
          go_ret
          exact ⟨ret_int (by (rw [HR.out, HLA.out, HB9.out]; rfl)), by exact ExtOf.of (by repeat' (first | (with_reducible exact Ext.refl _) | (with_reducible exact ExtOf.ext _) | (with_reducible refine Ext.trans ?_ (ExtOf.ext _)) | (with_reducible refine Ext.alloc ?_ _) | (with_reducible refine Ext.drew ?_) | (with_reducible refine Ext.setCell ?_ ?_ _) | (with_reducible refine Ext.setRow ?_ ?_ _) | (with_reducible exact HX.out) | (with_reducible refine Ext.trans ?_ HX.out) | (with_reducible refine Ext.below ?_ (Nat.le_refl _) _) | omega | (simp; done) | (simp; omega)))⟩
        have t2 : decide (x < 100) = false := decide_eq_false t1
        by_cases t3 : 20000 < x
        · have HB9 : Hid (lensAt ls k = 9) := Lib.hid (lensAt_bad hlt (by rw [← HXE.out]; omega))
          go_wp2_with fail
          skip
          go_ret
          exact ⟨ret_int (by (rw [HR.out, HLA.out, HB9.out]; rfl)), by exact ExtOf.of (by repeat' (first | (with_reducible exact Ext.refl _) | (with_reducible exact ExtOf.ext _) | (with_reducible refine Ext.trans ?_ (ExtOf.ext _)) | (with_reducible refine Ext.alloc ?_ _) | (with_reducible refine Ext.drew ?_) | (with_reducible refine Ext.setCell ?_ ?_ _) | (with_reducible refine Ext.setRow ?_ ?_ _) | (with_reducible exact HX.out) | (with_reducible refine Ext.trans ?_ HX.out) | (with_reducible refine Ext.below ?_ (Nat.le_refl _) _) | omega | (simp; done) | (simp; omega)))⟩
        have t4 : decide (20000 < x) = false := decide_eq_false t3
        rcases Nat.eq_zero_or_pos k with hk0 | hk0
        · have HNX : Hid (lensAt ls 0 = lensAt ls (k + 1)) := Lib.hid (by subst hk0; exact lensAt_first hlt (by rw [← HXE.out]; omega))
          have q1 : decide (0 < k) = false := by simp [hk0]
          have ci0 : wr.cell? ⟨bl, ol, none⟩ = some (.int .i64 x) := by rw [hk0] at c0; simpa using c0
          have hki : (k : Int) = 0 := by omega
          have q2 : decide ((0 : Int) < (k : Int)) = false := by simp [hk0]
          clear hk0
          go_wp2_with fail
          skip
          go_roundw
          case rel => exact ⟨k + 1, by omega, by first | rfl | go_num, inferInstance, by repeat' (first | (with_reducible exact Ext.refl _) | (with_reducible exact ExtOf.ext _) | (with_reducible refine Ext.trans ?_ (ExtOf.ext _)) | (with_reducible refine Ext.alloc ?_ _) | (with_reducible refine Ext.drew ?_) | (with_reducible refine Ext.setCell ?_ ?_ _) | (with_reducible refine Ext.setRow ?_ ?_ _) | (with_reducible exact HX.out) | (with_reducible refine Ext.trans ?_ HX.out) | (with_reducible refine Ext.below ?_ (Nat.le_refl _) _) | omega | (simp; done) | (simp; omega)), HNX.out⟩
          case measure => simp [intOf]; omega
        · obtain ⟨m, hm1, hm2⟩ : ∃ m, m + 1 ≤ k ∧ k ≤ m + 1 := ⟨k - 1, by omega, by omega⟩
          have hmz : (k : Int) - 1 = (m : Int) := by omega
          have hml : m < ls.length := by omega
          obtain ⟨b', o', e', o2, c1⟩ := SliceOf.elem1 (SliceOf.ext HL.out HX.out) hml rfl
          simp only [Option.some.injEq, Addr.mk.injEq, and_true] at e'
          obtain ⟨rfl, rfl⟩ := e'
          obtain ⟨y, hy⟩ : ∃ y, y = ls[m] := ⟨_, rfl⟩
          rw [← hy] at c1
          have HYE := Lib.hid hy
          have HKM : Hid (k = m + 1) := Lib.hid (by omega)
          have q1 : decide (0 < k) = true := by simpa using hk0
          clear hy
          by_cases t5 : x ≤ y
          · have HB9 : Hid (lensAt ls k = 11) := Lib.hid (by
              have e := HKM.out
              subst e
              exact lensAt_ord hlt (by rw [← HXE.out]; omega) (by rw [← HXE.out, ← HYE.out]; exact t5))
            go_wp2_with fail
            skip
            go_ret
            exact ⟨ret_int (by (rw [HR.out, HLA.out, HB9.out]; rfl)), by exact ExtOf.of (by repeat' (first | (with_reducible exact Ext.refl _) | (with_reducible exact ExtOf.ext _) | (with_reducible refine Ext.trans ?_ (ExtOf.ext _)) | (with_reducible refine Ext.alloc ?_ _) | (with_reducible refine Ext.drew ?_) | (with_reducible refine Ext.setCell ?_ ?_ _) | (with_reducible refine Ext.setRow ?_ ?_ _) | (with_reducible exact HX.out) | (with_reducible refine Ext.trans ?_ HX.out) | (with_reducible refine Ext.below ?_ (Nat.le_refl _) _) | omega | (simp; done) | (simp; omega)))⟩
          · have HNX : Hid (lensAt ls k = lensAt ls (k + 1)) := Lib.hid (by
              have e := HKM.out
              subst e
              exact lensAt_next hlt (by rw [← HXE.out]; omega) (by rw [← HXE.out, ← HYE.out]; exact t5))
            go_wp2_with fail
            skip
            go_roundw
            case rel => exact ⟨k + 1, by omega, by first | rfl | go_num, inferInstance, by repeat' (first | (with_reducible exact Ext.refl _) | (with_reducible exact ExtOf.ext _) | (with_reducible refine Ext.trans ?_ (ExtOf.ext _)) | (with_reducible refine Ext.alloc ?_ _) | (with_reducible refine Ext.drew ?_) | (with_reducible refine Ext.setCell ?_ ?_ _) | (with_reducible refine Ext.setRow ?_ ?_ _) | (with_reducible exact HX.out) | (with_reducible refine Ext.trans ?_ HX.out) | (with_reducible refine Ext.below ?_ (Nat.le_refl _) _) | omega | (simp; done) | (simp; omega)), HLA.out.trans HNX.out⟩
            case measure => simp [intOf]; omega
      · have HL0 : Hid (lensAt ls 0 = 0) := Lib.hid (by rw [HLA.out, lensAt_end ls (by omega)])
        have HR2 : Hid (numE ⟨nm, th, wi, al, wa, ls, ps⟩ = priceAt ps 0) := Lib.hid (by rw [HR.out, if_neg (by simp [HL0.out])])
        clear HR HLA HL0
        go_wp2_with fail
        skip
        go_loopw [99] (fun v wz => ∃ k : Nat, k ≤ ps.length ∧ v = .int .i64 k ∧ Block wz w.heap.size #[.string nm, .int .i64 th, .int .i64 wi, .int .i64 al, .int .i64 wa, .slice lq ls.length lcap, .slice pq ps.length pcap] ∧ Ext w wz ∧ priceAt ps 0 = priceAt ps k) (fun v _ => ps.length - (intOf v).toNat)
        case atStart => exact ⟨0, by omega, rfl, inferInstance, HX.out, rfl⟩
        case round =>
          clear hB HX ob hlt hk
          obtain ⟨k, hk, rfl, hB, hx, hla⟩ := hrel
          have HX := Lib.hid hx
          have HLA := Lib.hid hla
          have ob := hB.old
          clear hx hla
          by_cases hlt : k < ps.length
          · obtain ⟨bl, ol, hbl, o1, c0⟩ := SliceOf.elem1 (SliceOf.ext HP.out HX.out) hlt rfl
            subst hbl
            obtain ⟨x, hx⟩ : ∃ x, x = ps[k] := ⟨_, rfl⟩
            rw [← hx] at c0
            have HXE := Lib.hid hx
            clear hx
            by_cases t1 : x < 0
            · have HB9 : Hid (priceAt ps k = 9) := Lib.hid (priceAt_bad hlt (by rw [← HXE.out]; omega))
              go_wp2_with fail
              skip
              go_ret
              exact ⟨ret_int (by rw [HR2.out, HLA.out, HB9.out]), by exact ExtOf.of (by repeat' (first | (with_reducible exact Ext.refl _) | (with_reducible exact ExtOf.ext _) | (with_reducible refine Ext.trans ?_ (ExtOf.ext _)) | (with_reducible refine Ext.alloc ?_ _) | (with_reducible refine Ext.drew ?_) | (with_reducible refine Ext.setCell ?_ ?_ _) | (with_reducible refine Ext.setRow ?_ ?_ _) | (with_reducible exact HX.out) | (with_reducible refine Ext.trans ?_ HX.out) | (with_reducible refine Ext.below ?_ (Nat.le_refl _) _) | omega | (simp; done) | (simp; omega)))⟩
            have t2 : decide (x < 0) = false := decide_eq_false t1
            by_cases t3 : 1000000 < x
            · have HB9 : Hid (priceAt ps k = 9) := Lib.hid (priceAt_bad hlt (by rw [← HXE.out]; omega))
              go_wp2_with fail
              skip
              go_ret
              exact ⟨ret_int (by rw [HR2.out, HLA.out, HB9.out]), by exact ExtOf.of (by repeat' (first | (with_reducible exact Ext.refl _) | (with_reducible exact ExtOf.ext _) | (with_reducible refine Ext.trans ?_ (ExtOf.ext _)) | (with_reducible refine Ext.alloc ?_ _) | (with_reducible refine Ext.drew ?_) | (with_reducible refine Ext.setCell ?_ ?_ _) | (with_reducible refine Ext.setRow ?_ ?_ _) | (with_reducible exact HX.out) | (with_reducible refine Ext.trans ?_ HX.out) | (with_reducible refine Ext.below ?_ (Nat.le_refl _) _) | omega | (simp; done) | (simp; omega)))⟩
            have t4 : decide (1000000 < x) = false := decide_eq_false t3
            have HNX : Hid (priceAt ps k = priceAt ps (k + 1)) := Lib.hid (priceAt_next hlt (by rw [← HXE.out]; omega))
            go_wp2_with fail
            skip
            go_roundw
            case rel => exact ⟨k + 1, by omega, by first | rfl | go_num, inferInstance, by repeat' (first | (with_reducible exact Ext.refl _) | (with_reducible exact ExtOf.ext _) | (with_reducible refine Ext.trans ?_ (ExtOf.ext _)) | (with_reducible refine Ext.alloc ?_ _) | (with_reducible refine Ext.drew ?_) | (with_reducible refine Ext.setCell ?_ ?_ _) | (with_reducible refine Ext.setRow ?_ ?_ _) | (with_reducible exact HX.out) | (with_reducible refine Ext.trans ?_ HX.out) | (with_reducible refine Ext.below ?_ (Nat.le_refl _) _) | omega | (simp; done) | (simp; omega)), HLA.out.trans HNX.out⟩
            case measure => simp [intOf]; omega
          · have HL0 : Hid (priceAt ps k = 0) := Lib.hid (priceAt_end ps (by omega))
            go_wp2_with fail
            skip
            go_ret
            exact ⟨ret_int (by rw [HR2.out, HLA.out, HL0.out]), by exact ExtOf.of (by repeat' (first | (with_reducible exact Ext.refl _) | (with_reducible exact ExtOf.ext _) | (with_reducible refine Ext.trans ?_ (ExtOf.ext _)) | (with_reducible refine Ext.alloc ?_ _) | (with_reducible refine Ext.drew ?_) | (with_reducible refine Ext.setCell ?_ ?_ _) | (with_reducible refine Ext.setRow ?_ ?_ _) | (with_reducible exact HX.out) | (with_reducible refine Ext.trans ?_ HX.out) | (with_reducible refine Ext.below ?_ (Nat.le_refl _) _) | omega | (simp; done) | (simp; omega)))⟩
  · have HE : Hid (numE ⟨nm, th, wi, al, wa, ls, ps⟩ = 19) := Lib.hid (by rw [HN2.out]; unfold listsE; rw [if_neg b1, if_neg (by omega), if_pos d1])
    have d2 : ((ps.length : Int) != (ls.length : Int)) = true := bne_iff_ne.2 (by omega)
    clear HL HP
    go_enter Tryz.func76, Tryz.ntmps76
    go_wp2_with (first | ((with_reducible apply wl_load' lwPd); (· (first | exact wanted_none rfl | exact wanted_some rfl rfl rfl)); (· rfl); (· infer_instance); (· rfl)) | (go_at_call 54; refine (green_any _ _ _ _ _ _ _ _).mono ?_; rintro e w' ⟨rfl, n, rfl⟩))
    go_ret
    exact ⟨ret_int HE.out.symm, by exact ExtOf.of (by repeat' (first | (with_reducible exact Ext.refl _) | (with_reducible exact ExtOf.ext _) | (with_reducible refine Ext.trans ?_ (ExtOf.ext _)) | (with_reducible refine Ext.alloc ?_ _) | (with_reducible refine Ext.drew ?_) | (with_reducible refine Ext.setCell ?_ ?_ _) | (with_reducible refine Ext.setRow ?_ ?_ _) | (with_reducible exact HX.out) | (with_reducible refine Ext.trans ?_ HX.out) | (with_reducible refine Ext.below ?_ (Nat.le_refl _) _) | omega | (simp; done) | (simp; omega)))⟩
set_option maxHeartbeats 1600000 in
theorem rLengths_any (p : Pdt) (lv pv : Value) (w : World) (hl : IntS w lv p.ls) (hp : IntS w pv p.ps) :
    Calls Tryz.prog 91 #[.agg (pdC p lv pv)] w fun e w' => e = .returned (.int .i64 (listsE p.ls p.ps)) ∧ ∃ n : ExtOf w, w' = n.val := by
  obtain ⟨nm, th, wi, al, wa, ls, ps⟩ := p
  obtain ⟨lq, lcap, rfl, hl1, hl2, hl3⟩ := SliceOf.form hl
  obtain ⟨pq, pcap, rfl, hp1, hp2, hp3⟩ := SliceOf.form hp
  have HL := Lib.hid hl
  have HP := Lib.hid hp
  clear hl hp
  unfold maxLen at hl2 hp2
  try unfold pdC
  simp only
  by_cases b1 : ls.length = 0
  · have HE : Hid (listsE ls ps = 3) := Lib.hid (by unfold listsE; rw [if_pos b1])
    have b2 : ((ls.length : Int) == 0) = true := by simp [b1]
    rw [b1]
    clear HL HP
    go_enter Tryz.func91, Tryz.ntmps91
    go_wp2_with (first | ((with_reducible apply wl_load' lwPd); (· (first | exact wanted_none rfl | exact wanted_some rfl rfl rfl)); (· rfl); (· infer_instance); (· rfl)) | (go_at_call 54; refine (green_any _ _ _ _ _ _ _ _).mono ?_; rintro e w' ⟨rfl, n, rfl⟩))
    go_ret
    exact ⟨ret_int HE.out.symm, by exact ExtOf.of (by repeat' (first | (with_reducible exact Ext.refl _) | (with_reducible exact ExtOf.ext _) | (with_reducible refine Ext.trans ?_ (ExtOf.ext _)) | (with_reducible refine Ext.alloc ?_ _) | (with_reducible refine Ext.drew ?_) | (with_reducible refine Ext.setCell ?_ ?_ _) | (with_reducible refine Ext.setRow ?_ ?_ _) | (with_reducible exact HX.out) | (with_reducible refine Ext.trans ?_ HX.out) | (with_reducible refine Ext.below ?_ (Nat.le_refl _) _) | omega | (simp; done) | (simp; omega)))⟩
  have b2 : ((ls.length : Int) == 0) = false := by rw [beq_eq_false_iff_ne]; omega
  by_cases c1 : 8 < ls.length
  · have HE : Hid (listsE ls ps = 4) := Lib.hid (by unfold listsE; rw [if_neg b1, if_pos (by omega)])
    clear HL HP
    go_enter Tryz.func91, Tryz.ntmps91
    go_wp2_with (first | ((with_reducible apply wl_load' lwPd); (· (first | exact wanted_none rfl | exact wanted_some rfl rfl rfl)); (· rfl); (· infer_instance); (· rfl)) | (go_at_call 54; refine (green_any _ _ _ _ _ _ _ _).mono ?_; rintro e w' ⟨rfl, n, rfl⟩))
    go_ret
    exact ⟨ret_int HE.out.symm, by exact ExtOf.of (by repeat' (first | (with_reducible exact Ext.refl _) | (with_reducible exact ExtOf.ext _) | (with_reducible refine Ext.trans ?_ (ExtOf.ext _)) | (with_reducible refine Ext.alloc ?_ _) | (with_reducible refine Ext.drew ?_) | (with_reducible refine Ext.setCell ?_ ?_ _) | (with_reducible refine Ext.setRow ?_ ?_ _) | (with_reducible exact HX.out) | (with_reducible refine Ext.trans ?_ HX.out) | (with_reducible refine Ext.below ?_ (Nat.le_refl _) _) | omega | (simp; done) | (simp; omega)))⟩
  by_cases d1 : ps.length = ls.length
  · have HR : Hid (listsE ls ps = if lensAt ls 0 ≠ 0 then lensAt ls 0 else priceAt ps 0) := Lib.hid (listsE_eq ls ps b1 (by omega) d1)
    have d2 : ((ps.length : Int) != (ls.length : Int)) = false := bne_eq_false_iff_eq.2 (by omega)
    clear d1
    go_enter Tryz.func91, Tryz.ntmps91
    go_wp2_with (first | ((with_reducible apply wl_load' lwPd); (· (first | exact wanted_none rfl | exact wanted_some rfl rfl rfl)); (· rfl); (· infer_instance); (· rfl)) | (go_at_call 54; refine (green_any _ _ _ _ _ _ _ _).mono ?_; rintro e w' ⟨rfl, n, rfl⟩))
    go_loopw [3] (fun v wr => ∃ k : Nat, k ≤ ls.length ∧ v = .int .i64 k ∧ Block wr w.heap.size #[.string nm, .int .i64 th, .int .i64 wi, .int .i64 al, .int .i64 wa, .slice lq ls.length lcap, .slice pq ps.length pcap] ∧ Ext w wr ∧ lensAt ls 0 = lensAt ls k) (fun v _ => ls.length - (intOf v).toNat)
    case atStart => exact ⟨0, by omega, rfl, inferInstance, by repeat' (first | (with_reducible exact Ext.refl _) | (with_reducible exact ExtOf.ext _) | (with_reducible refine Ext.trans ?_ (ExtOf.ext _)) | (with_reducible refine Ext.alloc ?_ _) | (with_reducible refine Ext.drew ?_) | (with_reducible refine Ext.setCell ?_ ?_ _) | (with_reducible refine Ext.setRow ?_ ?_ _) | (with_reducible exact HX.out) | (with_reducible refine Ext.trans ?_ HX.out) | (with_reducible refine Ext.below ?_ (Nat.le_refl _) _) | omega | (simp; done) | (simp; omega)), rfl⟩
    case round =>
      obtain ⟨k, hk, rfl, hB, hx, hla⟩ := hrel
      have HX := Lib.hid hx
      have HLA := Lib.hid hla
      have ob := hB.old
      clear hx hla
      by_cases hlt : k < ls.length
      · obtain ⟨bl, ol, hbl, o1, c0⟩ := SliceOf.elem1 (SliceOf.ext HL.out HX.out) hlt rfl
        subst hbl
        obtain ⟨x, hx⟩ : ∃ x, x = ls[k] := ⟨_, rfl⟩
        rw [← hx] at c0
        have HXE := Lib.hid hx
        clear hx
        by_cases t1 : x < 100
        · have HB9 : Hid (lensAt ls k = 9) := Lib.hid (lensAt_bad hlt (by rw [← HXE.out]; omega))
          go_wp2_with fail
          skip
          go_ret
          exact ⟨ret_int (by (rw [HR.out, HLA.out, HB9.out]; rfl)), by exact ExtOf.of (by repeat' (first | (with_reducible exact Ext.refl _) | (with_reducible exact ExtOf.ext _) | (with_reducible refine Ext.trans ?_ (ExtOf.ext _)) | (with_reducible refine Ext.alloc ?_ _) | (with_reducible refine Ext.drew ?_) | (with_reducible refine Ext.setCell ?_ ?_ _) | (with_reducible refine Ext.setRow ?_ ?_ _) | (with_reducible exact HX.out) | (with_reducible refine Ext.trans ?_ HX.out) | (with_reducible refine Ext.below ?_ (Nat.le_refl _) _) | omega | (simp; done) | (simp; omega)))⟩
        have t2 : decide (x < 100) = false := decide_eq_false t1
        by_cases t3 : 20000 < x
        · have HB9 : Hid (lensAt ls k = 9) := Lib.hid (lensAt_bad hlt (by rw [← HXE.out]; omega))
          go_wp2_with fail
          skip
          go_ret
          exact ⟨ret_int (by (rw [HR.out, HLA.out, HB9.out]; rfl)), by exact ExtOf.of (by repeat' (first | (with_reducible exact Ext.refl _) | (with_reducible exact ExtOf.ext _) | (with_reducible refine Ext.trans ?_ (ExtOf.ext _)) | (with_reducible refine Ext.alloc ?_ _) | (with_reducible refine Ext.drew ?_) | (with_reducible refine Ext.setCell ?_ ?_ _) | (with_reducible refine Ext.setRow ?_ ?_ _) | (with_reducible exact HX.out) | (with_reducible refine Ext.trans ?_ HX.out) | (with_reducible refine Ext.below ?_ (Nat.le_refl _) _) | omega | (simp; done) | (simp; omega)))⟩
        have t4 : decide (20000 < x) = false := decide_eq_false t3
        rcases Nat.eq_zero_or_pos k with hk0 | hk0
        · have HNX : Hid (lensAt ls 0 = lensAt ls (k + 1)) := Lib.hid (by subst hk0; exact lensAt_first hlt (by rw [← HXE.out]; omega))
          have q1 : decide (0 < k) = false := by simp [hk0]
          have ci0 : wr.cell? ⟨bl, ol, none⟩ = some (.int .i64 x) := by rw [hk0] at c0; simpa using c0
          have hki : (k : Int) = 0 := by omega
          have q2 : decide ((0 : Int) < (k : Int)) = false := by simp [hk0]
          clear hk0
          go_wp2_with fail
          refine wp_region_ext (by kernel_rfl) (by kernel_rfl) ?_
          repeat (first | go_big_quiet_skip | go_big_quiet_step (fail))
          refine wpQuiet_nil ?_
          intro _ hw'
          obtain ⟨nq, hw''⟩ := hw'
          subst hw''
          go_wp2_with fail
          go_roundw
          case rel => exact ⟨k + 1, by omega, by first | rfl | go_num, inferInstance, by repeat' (first | (with_reducible exact Ext.refl _) | (with_reducible exact ExtOf.ext _) | (with_reducible refine Ext.trans ?_ (ExtOf.ext _)) | (with_reducible refine Ext.alloc ?_ _) | (with_reducible refine Ext.drew ?_) | (with_reducible refine Ext.setCell ?_ ?_ _) | (with_reducible refine Ext.setRow ?_ ?_ _) | (with_reducible exact HX.out) | (with_reducible refine Ext.trans ?_ HX.out) | (with_reducible refine Ext.below ?_ (Nat.le_refl _) _) | omega | (simp; done) | (simp; omega)), HNX.out⟩
          case measure => simp [intOf]; omega
        · obtain ⟨m, hm1, hm2⟩ : ∃ m, m + 1 ≤ k ∧ k ≤ m + 1 := ⟨k - 1, by omega, by omega⟩
          have hmz : (k : Int) - 1 = (m : Int) := by omega
          have hml : m < ls.length := by omega
          obtain ⟨b', o', e', o2, c1⟩ := SliceOf.elem1 (SliceOf.ext HL.out HX.out) hml rfl
          simp only [Option.some.injEq, Addr.mk.injEq, and_true] at e'
          obtain ⟨rfl, rfl⟩ := e'
          obtain ⟨y, hy⟩ : ∃ y, y = ls[m] := ⟨_, rfl⟩
          rw [← hy] at c1
          have HYE := Lib.hid hy
          have HKM : Hid (k = m + 1) := Lib.hid (by omega)
          have q1 : decide (0 < k) = true := by simpa using hk0
          clear hy
          by_cases t5 : x ≤ y
          · have HB9 : Hid (lensAt ls k = 11) := Lib.hid (by
              have e := HKM.out
              subst e
              exact lensAt_ord hlt (by rw [← HXE.out]; omega) (by rw [← HXE.out, ← HYE.out]; exact t5))
            go_wp2_with fail
            refine wp_region_ext (by kernel_rfl) (by kernel_rfl) ?_
            repeat (first | go_big_quiet_skip | go_big_quiet_step (fail))
            refine wpQuiet_nil ?_
            intro _ hw'
            obtain ⟨nq, hw''⟩ := hw'
            subst hw''
            go_wp2_with fail
            go_ret
            exact ⟨ret_int (by (rw [HR.out, HLA.out, HB9.out]; rfl)), by exact ExtOf.of (by repeat' (first | (with_reducible exact Ext.refl _) | (with_reducible exact ExtOf.ext _) | (with_reducible refine Ext.trans ?_ (ExtOf.ext _)) | (with_reducible refine Ext.alloc ?_ _) | (with_reducible refine Ext.drew ?_) | (with_reducible refine Ext.setCell ?_ ?_ _) | (with_reducible refine Ext.setRow ?_ ?_ _) | (with_reducible exact HX.out) | (with_reducible refine Ext.trans ?_ HX.out) | (with_reducible refine Ext.below ?_ (Nat.le_refl _) _) | omega | (simp; done) | (simp; omega)))⟩
          · have HNX : Hid (lensAt ls k = lensAt ls (k + 1)) := Lib.hid (by
              have e := HKM.out
              subst e
              exact lensAt_next hlt (by rw [← HXE.out]; omega) (by rw [← HXE.out, ← HYE.out]; exact t5))
            go_wp2_with fail
            refine wp_region_ext (by kernel_rfl) (by kernel_rfl) ?_
            repeat (first | go_big_quiet_skip | go_big_quiet_step (fail))
            refine wpQuiet_nil ?_
            intro _ hw'
            obtain ⟨nq, hw''⟩ := hw'
            subst hw''
            go_wp2_with fail
            go_roundw
            case rel => exact ⟨k + 1, by omega, by first | rfl | go_num, inferInstance, by repeat' (first | (with_reducible exact Ext.refl _) | (with_reducible exact ExtOf.ext _) | (with_reducible refine Ext.trans ?_ (ExtOf.ext _)) | (with_reducible refine Ext.alloc ?_ _) | (with_reducible refine Ext.drew ?_) | (with_reducible refine Ext.setCell ?_ ?_ _) | (with_reducible refine Ext.setRow ?_ ?_ _) | (with_reducible exact HX.out) | (with_reducible refine Ext.trans ?_ HX.out) | (with_reducible refine Ext.below ?_ (Nat.le_refl _) _) | omega | (simp; done) | (simp; omega)), HLA.out.trans HNX.out⟩
            case measure => simp [intOf]; omega
      · have HL0 : Hid (lensAt ls 0 = 0) := Lib.hid (by rw [HLA.out, lensAt_end ls (by omega)])
        have HR2 : Hid (listsE ls ps = priceAt ps 0) := Lib.hid (by rw [HR.out, if_neg (by simp [HL0.out])])
        clear HR HLA HL0
        go_wp2_with fail
        skip
        go_loopw [4] (fun v wz => ∃ k : Nat, k ≤ ps.length ∧ v = .int .i64 k ∧ Block wz w.heap.size #[.string nm, .int .i64 th, .int .i64 wi, .int .i64 al, .int .i64 wa, .slice lq ls.length lcap, .slice pq ps.length pcap] ∧ Ext w wz ∧ priceAt ps 0 = priceAt ps k) (fun v _ => ps.length - (intOf v).toNat)
        case atStart => exact ⟨0, by omega, rfl, inferInstance, HX.out, rfl⟩
        case round =>
          clear hB HX ob hlt hk
          obtain ⟨k, hk, rfl, hB, hx, hla⟩ := hrel
          have HX := Lib.hid hx
          have HLA := Lib.hid hla
          have ob := hB.old
          clear hx hla
          by_cases hlt : k < ps.length
          · obtain ⟨bl, ol, hbl, o1, c0⟩ := SliceOf.elem1 (SliceOf.ext HP.out HX.out) hlt rfl
            subst hbl
            obtain ⟨x, hx⟩ : ∃ x, x = ps[k] := ⟨_, rfl⟩
            rw [← hx] at c0
            have HXE := Lib.hid hx
            clear hx
            by_cases t1 : x < 0
            · have HB9 : Hid (priceAt ps k = 9) := Lib.hid (priceAt_bad hlt (by rw [← HXE.out]; omega))
              go_wp2_with fail
              skip
              go_ret
              exact ⟨ret_int (by rw [HR2.out, HLA.out, HB9.out]), by exact ExtOf.of (by repeat' (first | (with_reducible exact Ext.refl _) | (with_reducible exact ExtOf.ext _) | (with_reducible refine Ext.trans ?_ (ExtOf.ext _)) | (with_reducible refine Ext.alloc ?_ _) | (with_reducible refine Ext.drew ?_) | (with_reducible refine Ext.setCell ?_ ?_ _) | (with_reducible refine Ext.setRow ?_ ?_ _) | (with_reducible exact HX.out) | (with_reducible refine Ext.trans ?_ HX.out) | (with_reducible refine Ext.below ?_ (Nat.le_refl _) _) | omega | (simp; done) | (simp; omega)))⟩
            have t2 : decide (x < 0) = false := decide_eq_false t1
            by_cases t3 : 1000000 < x
            · have HB9 : Hid (priceAt ps k = 9) := Lib.hid (priceAt_bad hlt (by rw [← HXE.out]; omega))
              go_wp2_with fail
              skip
              go_ret
              exact ⟨ret_int (by rw [HR2.out, HLA.out, HB9.out]), by exact ExtOf.of (by repeat' (first | (with_reducible exact Ext.refl _) | (with_reducible exact ExtOf.ext _) | (with_reducible refine Ext.trans ?_ (ExtOf.ext _)) | (with_reducible refine Ext.alloc ?_ _) | (with_reducible refine Ext.drew ?_) | (with_reducible refine Ext.setCell ?_ ?_ _) | (with_reducible refine Ext.setRow ?_ ?_ _) | (with_reducible exact HX.out) | (with_reducible refine Ext.trans ?_ HX.out) | (with_reducible refine Ext.below ?_ (Nat.le_refl _) _) | omega | (simp; done) | (simp; omega)))⟩
            have t4 : decide (1000000 < x) = false := decide_eq_false t3
            have HNX : Hid (priceAt ps k = priceAt ps (k + 1)) := Lib.hid (priceAt_next hlt (by rw [← HXE.out]; omega))
            go_wp2_with fail
            skip
            go_roundw
            case rel => exact ⟨k + 1, by omega, by first | rfl | go_num, inferInstance, by repeat' (first | (with_reducible exact Ext.refl _) | (with_reducible exact ExtOf.ext _) | (with_reducible refine Ext.trans ?_ (ExtOf.ext _)) | (with_reducible refine Ext.alloc ?_ _) | (with_reducible refine Ext.drew ?_) | (with_reducible refine Ext.setCell ?_ ?_ _) | (with_reducible refine Ext.setRow ?_ ?_ _) | (with_reducible exact HX.out) | (with_reducible refine Ext.trans ?_ HX.out) | (with_reducible refine Ext.below ?_ (Nat.le_refl _) _) | omega | (simp; done) | (simp; omega)), HLA.out.trans HNX.out⟩
            case measure => simp [intOf]; omega
          · have HL0 : Hid (priceAt ps k = 0) := Lib.hid (priceAt_end ps (by omega))
            go_wp2_with fail
            skip
            go_ret
            exact ⟨ret_int (by rw [HR2.out, HLA.out, HL0.out]), by exact ExtOf.of (by repeat' (first | (with_reducible exact Ext.refl _) | (with_reducible exact ExtOf.ext _) | (with_reducible refine Ext.trans ?_ (ExtOf.ext _)) | (with_reducible refine Ext.alloc ?_ _) | (with_reducible refine Ext.drew ?_) | (with_reducible refine Ext.setCell ?_ ?_ _) | (with_reducible refine Ext.setRow ?_ ?_ _) | (with_reducible exact HX.out) | (with_reducible refine Ext.trans ?_ HX.out) | (with_reducible refine Ext.below ?_ (Nat.le_refl _) _) | omega | (simp; done) | (simp; omega)))⟩
  · have HE : Hid (listsE ls ps = 19) := Lib.hid (by unfold listsE; rw [if_neg b1, if_neg (by omega), if_pos d1])
    have d2 : ((ps.length : Int) != (ls.length : Int)) = true := bne_iff_ne.2 (by omega)
    clear HL HP
    go_enter Tryz.func91, Tryz.ntmps91
    go_wp2_with (first | ((with_reducible apply wl_load' lwPd); (· (first | exact wanted_none rfl | exact wanted_some rfl rfl rfl)); (· rfl); (· infer_instance); (· rfl)) | (go_at_call 54; refine (green_any _ _ _ _ _ _ _ _).mono ?_; rintro e w' ⟨rfl, n, rfl⟩))
    go_ret
    exact ⟨ret_int HE.out.symm, by exact ExtOf.of (by repeat' (first | (with_reducible exact Ext.refl _) | (with_reducible exact ExtOf.ext _) | (with_reducible refine Ext.trans ?_ (ExtOf.ext _)) | (with_reducible refine Ext.alloc ?_ _) | (with_reducible refine Ext.drew ?_) | (with_reducible refine Ext.setCell ?_ ?_ _) | (with_reducible refine Ext.setRow ?_ ?_ _) | (with_reducible exact HX.out) | (with_reducible refine Ext.trans ?_ HX.out) | (with_reducible refine Ext.below ?_ (Nat.le_refl _) _) | omega | (simp; done) | (simp; omega)))⟩
end Go.Proofs.YtdalbfanfbeckaaGreatDoor
