/-
  Chapter 61: several texts in one (R20, R21, R22).
-/
import Derived.RangeFuncNested
import Derived.RangeFuncBound
import Derived.RangeFuncCalls
import Derived.RangeFuncLeaves
import Derived.Shelf.Abstract
import Derived.Shelf.RegionOpen
import Derived.OwnWalkIn
import Derived.TacticsInMore
import Derived.LoopNIn
import Derived.LoopIn
import Derived.Test.YtjfohapnjnopfaaGreatDoorK10
import Derived.Test.YtjfohapnjnopfaaGreatDoorR19
import Derived.Test.YtjfohapnjnopfaaGreatDoorLC
/-
  Chapter 61: the program's makers: first numbers; the library's range backward.
-/
section
set_option linter.unusedVariables false
set_option linter.unusedSimpArgs false
namespace Go.Proofs.YtjfohapnjnopfaaGreatDoor
open Go.RowKit Go.Shelf RepM

section
attribute [local go_sem] ExtOf.cell ExtOf.frozen Block.cell Block.frozen ExtB.cell ExtB.frozen alloc_cell alloc_frozen
set_option maxHeartbeats 1600000 in
theorem pfirst_any (x : Ev) (sl : SlT) (w : World) (hok : okEv x = true) (hn : IntS w sl.v x.n) : Calls Tryz.prog 74 #[.agg #[.int .i64 x.kind, .int .i64 x.at_, .string x.item, .string x.of, sl.v, .string x.text]] w fun e w' => e = .returned (.tuple #[.int .i64 (mkT x).1, .bool (mkT x).2.2]) ∧ ∃ n : ExtOf w, w' = n.val := by
  obtain ⟨p, cap, hv, hc1, hc2, hc3⟩ := IntS.form hn
  rw [hv] at hn ⊢
  unfold maxLen at hc2
  by_cases h4 : x.kind = 4
  · have h2 := ok_saw hok h4
    obtain ⟨b, off, rfl, hc⟩ := IntS.elem hn (i := 1) (by omega)
    have HM : Hid (mkT x = (x.n[1], -1, true)) := Lib.hid (by unfold mkT; rw [if_pos h4, List.getD_eq_getElem?_getD, List.getElem?_eq_getElem (by omega)]; rfl)
    generalize x.n[1] = m at *
    generalize x.n.length = nl at *
    have ob := Old.of_cell hc
    clear hn hok hv
    rw [h4]
    go_enter Tryz.func74, Tryz.ntmps74
    go_wp2_with fail
    go_ret2
    exact ⟨by rw [HM.out]; rfl, by exact ExtOf.of (by repeat' (first | (with_reducible exact Ext.refl _) | (with_reducible exact ExtOf.ext _) | (with_reducible refine Ext.trans ?_ (ExtOf.ext _)) | (with_reducible refine Ext.alloc ?_ _) | (with_reducible refine Ext.drew ?_) | (with_reducible refine Ext.setCell ?_ ?_ _) | (with_reducible refine Ext.setRow ?_ ?_ _) | (with_reducible exact HX.out) | (with_reducible refine Ext.trans ?_ HX.out) | (with_reducible refine Ext.below ?_ (Nat.le_refl _) _) | omega | (simp; done) | (simp; omega)))⟩
  · have q4 : (x.kind == 4) = false := beq_eq_false_iff_ne.2 h4
    by_cases h13 : x.kind = 13
    · have h2 := ok_trim hok h13
      obtain ⟨b, off, rfl, hc⟩ := IntS.elem hn (i := 0) (by omega)
      rw [Nat.add_zero] at hc
      have HM : Hid (mkT x = (x.n[0], ((x.n.length : Int) - 1) / 2, true)) := Lib.hid (by unfold mkT; rw [if_neg h4, if_pos h13, List.getD_eq_getElem?_getD, List.getElem?_eq_getElem (by omega)]; rfl)
      generalize x.n[0] = m at *
      generalize x.n.length = nl at *
      have ob := Old.of_cell hc
      clear hn hok hv
      rw [h13] at q4 ⊢
      go_enter Tryz.func74, Tryz.ntmps74
      go_wp2_with fail
      go_ret2
      exact ⟨by rw [HM.out]; rfl, by exact ExtOf.of (by repeat' (first | (with_reducible exact Ext.refl _) | (with_reducible exact ExtOf.ext _) | (with_reducible refine Ext.trans ?_ (ExtOf.ext _)) | (with_reducible refine Ext.alloc ?_ _) | (with_reducible refine Ext.drew ?_) | (with_reducible refine Ext.setCell ?_ ?_ _) | (with_reducible refine Ext.setRow ?_ ?_ _) | (with_reducible exact HX.out) | (with_reducible refine Ext.trans ?_ HX.out) | (with_reducible refine Ext.below ?_ (Nat.le_refl _) _) | omega | (simp; done) | (simp; omega)))⟩
    · have q13 : (x.kind == 13) = false := beq_eq_false_iff_ne.2 h13
      by_cases h14 : x.kind = 14
      · have h2 := ok_resaw hok h14
        obtain ⟨b, off, rfl, hc⟩ := IntS.elem hn (i := 0) (by omega)
        rw [Nat.add_zero] at hc
        have HM : Hid (mkT x = (x.n[0], (x.n.length : Int) - 1, true)) := Lib.hid (by unfold mkT; rw [if_neg h4, if_neg h13, if_pos h14, List.getD_eq_getElem?_getD, List.getElem?_eq_getElem (by omega)]; rfl)
        generalize x.n[0] = m at *
        generalize x.n.length = nl at *
        have ob := Old.of_cell hc
        clear hn hok hv
        rw [h14] at q4 q13 ⊢
        go_enter Tryz.func74, Tryz.ntmps74
        go_wp2_with fail
        go_ret2
        exact ⟨by rw [HM.out]; rfl, by exact ExtOf.of (by repeat' (first | (with_reducible exact Ext.refl _) | (with_reducible exact ExtOf.ext _) | (with_reducible refine Ext.trans ?_ (ExtOf.ext _)) | (with_reducible refine Ext.alloc ?_ _) | (with_reducible refine Ext.drew ?_) | (with_reducible refine Ext.setCell ?_ ?_ _) | (with_reducible refine Ext.setRow ?_ ?_ _) | (with_reducible exact HX.out) | (with_reducible refine Ext.trans ?_ HX.out) | (with_reducible refine Ext.below ?_ (Nat.le_refl _) _) | omega | (simp; done) | (simp; omega)))⟩
      · have q14 : (x.kind == 14) = false := beq_eq_false_iff_ne.2 h14
        have HM : Hid (mkT x = (0, 0, false)) := Lib.hid (by unfold mkT; rw [if_neg h4, if_neg h13, if_neg h14])
        go_enter Tryz.func74, Tryz.ntmps74
        go_wp2_with fail
        go_ret2
        exact ⟨by rw [HM.out]; rfl, by exact ExtOf.of (by repeat' (first | (with_reducible exact Ext.refl _) | (with_reducible exact ExtOf.ext _) | (with_reducible refine Ext.trans ?_ (ExtOf.ext _)) | (with_reducible refine Ext.alloc ?_ _) | (with_reducible refine Ext.drew ?_) | (with_reducible refine Ext.setCell ?_ ?_ _) | (with_reducible refine Ext.setRow ?_ ?_ _) | (with_reducible exact HX.out) | (with_reducible refine Ext.trans ?_ HX.out) | (with_reducible refine Ext.below ?_ (Nat.le_refl _) _) | omega | (simp; done) | (simp; omega)))⟩
set_option maxHeartbeats 800000 in
theorem pmade_any (x : Ev) (sl : SlT) (w : World) (hok : okEv x = true) (h : x.kind = 13 ∨ x.kind = 14) (hn : IntS w sl.v x.n) : Calls Tryz.prog 75 #[.agg #[.int .i64 x.kind, .int .i64 x.at_, .string x.item, .string x.of, sl.v, .string x.text]] w fun e w' => e = .returned (.int .i64 (mkT x).2.1) ∧ ∃ n : ExtOf w, w' = n.val := by
  have hl := ok_len hok
  obtain ⟨p, cap, hv, hc1, hc2, hc3⟩ := IntS.form hn
  rw [hv]
  clear hn hv
  unfold maxLen at hc2
  rcases h with h13 | h14
  · have h2 := ok_trim hok h13
    have HM : Hid ((mkT x).2.1 = ((x.n.length : Int) - 1) / 2) := Lib.hid (by unfold mkT; rw [if_neg (by omega), if_pos h13])
    rw [h13]
    go_enter Tryz.func75, Tryz.ntmps75
    go_wp2_with fail
    go_ret
    exact ⟨by rw [HM.out]; rfl, by exact ExtOf.of (by repeat' (first | (with_reducible exact Ext.refl _) | (with_reducible exact ExtOf.ext _) | (with_reducible refine Ext.trans ?_ (ExtOf.ext _)) | (with_reducible refine Ext.alloc ?_ _) | (with_reducible refine Ext.drew ?_) | (with_reducible refine Ext.setCell ?_ ?_ _) | (with_reducible refine Ext.setRow ?_ ?_ _) | (with_reducible exact HX.out) | (with_reducible refine Ext.trans ?_ HX.out) | (with_reducible refine Ext.below ?_ (Nat.le_refl _) _) | omega | (simp; done) | (simp; omega)))⟩
  · have h2 := ok_resaw hok h14
    have HM : Hid ((mkT x).2.1 = (x.n.length : Int) - 1) := Lib.hid (by unfold mkT; rw [if_neg (by omega), if_neg (by omega), if_pos h14])
    rw [h14]
    go_enter Tryz.func75, Tryz.ntmps75
    go_wp2_with fail
    go_ret
    exact ⟨by rw [HM.out]; rfl, by exact ExtOf.of (by repeat' (first | (with_reducible exact Ext.refl _) | (with_reducible exact ExtOf.ext _) | (with_reducible refine Ext.trans ?_ (ExtOf.ext _)) | (with_reducible refine Ext.alloc ?_ _) | (with_reducible refine Ext.drew ?_) | (with_reducible refine Ext.setCell ?_ ?_ _) | (with_reducible refine Ext.setRow ?_ ?_ _) | (with_reducible exact HX.out) | (with_reducible refine Ext.trans ?_ HX.out) | (with_reducible refine Ext.below ?_ (Nat.le_refl _) _) | omega | (simp; done) | (simp; omega)))⟩
end
attribute [local go_sem] Oper.semAt_some
/-- the indices from the last on down -/
def dn (m : Nat) : List (Fin m) := (List.finRange m).reverse
theorem dn_len (m : Nat) : (dn m).length = m := by simp [dn]
theorem dn_get {m k : Nat} (h : k < (dn m).length) : ((dn m)[k]).val = m - 1 - k := by
  unfold dn at h ⊢
  rw [List.getElem_reverse]
  simp
/-- what is yielded -/
def encD (l : List EvP) (x : Fin l.length) : Array Value := #[.int .i64 (x.val : Int), .agg (evC (l[x]).1 (l[x]).2.v)]
set_option maxRecDepth 100000 in
set_option maxHeartbeats 2000000 in
theorem back1_in (F : Fence) (n : Nat) (hf : F.fn 121) (hro : F.round = none) (hn : 1 ≤ n) (lp Bs n₀ : Nat) (l : List EvP) (p : Option Addr) (cap : Nat) (hB : Bs < n₀) (J Jx : List (Fin l.length) → World → Prop)
    (hY : ∀ pre x W, J pre W → pre.length < l.length → YieldAt F (n - 1) Tryz.prog lp (encD l x) W fun e W' =>
      (e = .returned (.bool true) ∧ J (pre ++ [x]) W' ∧ Below n₀ W W') ∨ (e = .returned (.bool false) ∧ Jx (pre ++ [x]) W'))
    (W : World) (hBs : W.cell? ⟨Bs, 0, none⟩ = some (.slice p l.length cap)) (hcap : l.length ≤ cap) (hl : l.length ≤ 1000) (hc : ∀ i (h : i < l.length), ∃ b off, p = some ⟨b, off, none⟩ ∧ b < n₀ ∧ W.rangeAt b (off + i * 6) (encEv l[i])) (h0 : J [] W) :
    CallsIn F n Tryz.prog 121 #[.func (.yield lp) #[] #[], .pointer (some ⟨Bs, 0, none⟩)] W fun e W' => (∃ v, e = .returned v) ∧
      ((∃ ys, ys = dn l.length ∧ J ys W') ∨ (∃ pre, (∃ k, k ≤ l.length ∧ pre = (dn l.length).take k) ∧ Jx pre W')) := by
  refine callsIn_of_wp Tryz.func121 rfl hf ?_ hro
  simp only [Tryz.ntmps121, List.size_toArray, List.length_cons, List.length_nil, Nat.reduceAdd, Nat.reduceSub, Array.replicate_succ, Array.replicate_zero, List.push_toArray, List.append_toArray, List.nil_append, List.cons_append]
  gi_wp2
  gi_loopw [3] (fun i wr => ∃ k : Nat, k ≤ l.length ∧ i = .int .i64 ((l.length : Int) - 1 - k) ∧ J ((dn l.length).take k) wr ∧ Below n₀ W wr) (fun i _ => (intOf i + 1).toNat)
  case atStart => exact ⟨0, Nat.zero_le _, by simp, by rw [List.take_zero]; exact h0, Below.refl _ _⟩
  case round =>
    obtain ⟨k, hk, rfl, hJs, hnx⟩ := hrel
    have hbx : wr.cell? ⟨Bs, 0, none⟩ = some (.slice p l.length cap) := (hnx.cell (p := ⟨Bs, 0, none⟩) hB).trans hBs
    by_cases hlt : k < l.length
    · obtain ⟨j, hj⟩ : ∃ j, j = l.length - 1 - k := ⟨_, rfl⟩
      have hjl : j < l.length := by omega
      have hji : (l.length : Int) - 1 - k = (j : Int) := by omega
      have hkd : k < (dn l.length).length := by rw [dn_len]; exact hlt
      have hxv : (dn l.length)[k].val = j := by rw [dn_get hkd, hj]
      obtain ⟨b, off, rfl, hb, hr⟩ := hc j hjl
      obtain ⟨fn, tmps, assign, body, hy, hR⟩ := hY _ (dn l.length)[k] wr hJs (by rw [List.length_take, dn_len]; omega)
      have hke : ∃ e sl, l[j] = (e, sl) ∧ encD l (dn l.length)[k] = #[.int .i64 (j : Int), .agg #[.int .i64 e.kind, .int .i64 e.at_, .string e.item, .string e.of, .slice sl.p sl.n sl.cap, .string e.text]] := ⟨_, _, rfl, by
        have hfe : l[(dn l.length)[k]] = l[j] := by
          show l[(dn l.length)[k].val] = l[j]
          congr 1
        unfold encD
        rw [hxv, hfe]; rfl⟩
      obtain ⟨e, sl, hle, hen⟩ := hke
      rw [hen] at hy
      rw [hle] at hr
      have hrr : wr.rangeAt b (off + j * 6) (encEv (e, sl)) := fun i v hv => (hnx.cell (p := ⟨b, off + j * 6 + i, none⟩) hb).trans (hr i v hv)
      have c0 : wr.cell? ⟨b, off + j * 6, none⟩ = some (.int .i64 e.kind) := by have := hrr 0 _ rfl; simpa using this
      have c1 : wr.cell? ⟨b, off + j * 6 + 1, none⟩ = some (.int .i64 e.at_) := hrr 1 _ rfl
      have c2 : wr.cell? ⟨b, off + j * 6 + 2, none⟩ = some (.string e.item) := hrr 2 _ rfl
      have c3 : wr.cell? ⟨b, off + j * 6 + 3, none⟩ = some (.string e.of) := hrr 3 _ rfl
      have c4 : wr.cell? ⟨b, off + j * 6 + 4, none⟩ = some (.slice sl.p sl.n sl.cap) := hrr 4 _ rfl
      have c5 : wr.cell? ⟨b, off + j * 6 + 5, none⟩ = some (.string e.text) := hrr 5 _ rfl
      rw [hji]
      have HJ := Lib.hid hj
      clear hr hrr hen hle hc hji hxv hj
      gi_wp2
      refine hR.mono ?_
      have htk : (dn l.length).take (k + 1) = (dn l.length).take k ++ [(dn l.length)[k]] := by rw [List.take_succ_eq_append_getElem hkd]
      rintro en W3 (⟨rfl, hJ3, hk3⟩ | ⟨rfl, hJx3⟩)
      · gi_wp2
        go_roundw
        case rel => exact ⟨k + 1, by omega, by first | (congr 1; done) | (have := HJ.out; congr 1; omega), by rw [htk]; exact hJ3, hnx.trans hk3⟩
        case measure => first | (simp [intOf]; done) | (have := HJ.out; simp [intOf]; omega)
      · gi_wp2
        refine bodyPost_ret (results_none rfl _ _ _) rfl ?_
        exact ⟨⟨_, rfl⟩, .inr ⟨_, ⟨k + 1, by omega, htk.symm⟩, hJx3⟩⟩
    · obtain rfl : k = l.length := by omega
      gi_wp2
      go_end0
      refine ⟨⟨_, rfl⟩, .inl ⟨_, rfl, ?_⟩⟩
      have := hJs
      rwa [List.take_of_length_le (by rw [dn_len]; exact Nat.le_refl _)] at this
set_option maxHeartbeats 1000000 in
theorem back_in (F : Fence) (n : Nat) (hf : F.fn 99) (hro : F.round = none) (p : Option Addr) (len cap : Nat) (w : World) :
    CallsIn F n Tryz.prog 99 #[.slice p len cap] w fun e w' => e = .returned (.func (.func 121) #[] #[.pointer (some ⟨w.heap.size, 0, none⟩)]) ∧ w' = w.alloc (.cells #[.slice p len cap] 59) := by
  refine callsIn_of_wp Tryz.func99 rfl hf ?_ hro
  simp only [Tryz.ntmps99, List.size_toArray, List.length_cons, List.length_nil, Nat.reduceAdd, Nat.reduceSub, Array.replicate_succ, Array.replicate_zero, List.push_toArray, List.append_toArray, List.nil_append, List.cons_append]
  gi_wp2
  go_ret
  exact ⟨rfl, rfl⟩
/-- the library's range backward: all indices, from the last on down, or the first k of them -/
theorem back_stops (F : Fence) (n : Nat) (hf : F.fn 121) (hro : F.round = none) (hn : 1 ≤ n) (Bs n₀ : Nat) (l : List EvP) (p : Option Addr) (cap : Nat) (w : World) (hB : Bs < n₀) (hn₀ : n₀ ≤ w.heap.size)
    (hBs : w.cell? ⟨Bs, 0, none⟩ = some (.slice p l.length cap)) (hcap : l.length ≤ cap) (hl : l.length ≤ 1000) (hc : ∀ i (h : i < l.length), ∃ b off, p = some ⟨b, off, none⟩ ∧ b < n₀ ∧ w.rangeAt b (off + i * 6) (encEv l[i])) :
    SeqStopsK F n Tryz.prog 121 #[.pointer (some ⟨Bs, 0, none⟩)] (encD l) (Below n₀) (fun ys => ys = dn l.length) (fun pre => ∃ k, k ≤ l.length ∧ pre = (dn l.length).take k) l.length w := fun lp J Jx W hW _ _ hY h0 =>
  back1_in F n hf hro hn lp Bs n₀ l p cap hB J Jx hY W ((hW.cell (p := ⟨Bs, 0, none⟩) (show Bs < w.heap.size by omega)).trans hBs) hcap hl
    (fun i h => by obtain ⟨b, off, e, hb, hr⟩ := hc i h; exact ⟨b, off, e, hb, fun j v hv => (hW.cell (p := ⟨b, off + i * 6 + j, none⟩) (show b < w.heap.size by omega)).trans (hr j v hv)⟩) h0
end Go.Proofs.YtjfohapnjnopfaaGreatDoor
end
/-
  Chapter 61: the program's makers.
-/
section
set_option linter.unusedVariables false
set_option linter.unusedSimpArgs false
namespace Go.Proofs.YtjfohapnjnopfaaGreatDoor
open Go.RowKit Go.Shelf RepM

attribute [local go_sem] Oper.semAt_some Block.cell Block.frozen
def zEv : Value := .agg #[.int .i64 0, .int .i64 0, .string ⟨#[]⟩, .string ⟨#[]⟩, .slice none 0 0, .string ⟨#[]⟩]
/-- what a maker answers -/
def MkRet (l : List EvP) (n : Int) (en : Ending) : Prop :=
  (maker (evs l) n = none ∧ en = .returned (.tuple #[zEv, .bool false])) ∨ ∃ (i : Nat) (h : i < l.length), maker (evs l) n = some (l[i]).1 ∧ en = .returned (.tuple #[.agg (evC (l[i]).1 (l[i]).2.v), .bool true])
theorem block_grown {W W' : World} {b : Nat} {cs : Array Value} {row : Option Nat} (h : Block W b cs) (hg : W.grownBy W' row) (hr : ∀ r, row = some r → ∃ o : Obj, W.heap[r]? = some o ∧ o.isCells = false) : Block W' b cs := by
  obtain ⟨t, e⟩ := h.get
  refine ⟨⟨t, ?_⟩⟩
  rw [hg.block b h.lt (fun e' => ?_)]
  · exact e
  · obtain ⟨o, ho, hc⟩ := hr b e'.symm
    rw [e] at ho
    cases ho
    cases hc
theorem ext_grown {w W W' : World} {row : Option Nat} (h : Ext w W) (hg : W.grownBy W' row) (hr : ∀ r, row = some r → w.heap.size ≤ r) : Ext w W' := Below.grown h hg h.size hr
theorem keeps_ext {B : Nat} {W W' : World} (h : Ext W W') : KeepsFrom B W W' := ⟨h.size, fun k o _ hk _ => (h.block k (Array.getElem?_eq_some_iff.1 hk).1).trans hk⟩
theorem keeps_setRow {B b : Nat} {W : World} {cs cs' : Array Value} (h : Block W b cs) : KeepsFrom B W (W.setRow b cs') := by
  refine ⟨by simp [World.setRow], fun k o _ hk ho => ?_⟩
  obtain ⟨t, e⟩ := h.get
  have hne : b ≠ k := fun e' => by subst e'; rw [e] at hk; cases hk; cases ho
  simp only [World.setRow, Array.getElem?_modify]
  rw [if_neg hne]
  exact hk
/-- the loop has been left: the last of those that came is the maker -/
def MkX (l : List EvP) (n : Int) (w : World) (pre : List (Fin l.length)) (W : World) : Prop :=
  ∃ pre' x, pre = pre' ++ [x] ∧ (∀ y ∈ pre', makes n (l[y]).1 = false) ∧ makes n (l[x]).1 = true ∧ Block W (w.heap.size + 1) (evC (l[x]).1 (l[x]).2.v) ∧ Block W (w.heap.size + 1 + 1) #[.bool true] ∧ Ext w W
theorem MkX.grown {l : List EvP} {n : Int} {w W W' : World} {pre : List (Fin l.length)} {row : Option Nat} (h : MkX l n w pre W) (hg : W.grownBy W' row) (h1 : ∀ r, row = some r → w.heap.size ≤ r) (hr : ∀ r, row = some r → ∃ o : Obj, W.heap[r]? = some o ∧ o.isCells = false) : MkX l n w pre W' := by
  obtain ⟨pre', x, a, b, c, d, e, f⟩ := h
  exact ⟨pre', x, a, b, c, block_grown d hg hr, block_grown e hg hr, ext_grown f hg h1⟩
theorem ld_bool {w : World} {b : Nat} {v : Bool} (h : Block w b #[.bool v]) : (loadVar 4 ⟨b, 0, none⟩).run Tryz.prog w = .ok (.bool v) w := by
  have hc := h.cell (i := 0)
  simp at hc
  simp [go_sem, hc]
theorem results_cb {fn : Func} {p0 p1 : Tmp} {t0 n0 b0 b1 : Nat} {tmps : Array Value} {w : World} {c0 : Array Value} {v : Bool} (h : fn.results = #[.cell p0 t0, .cell p1 4]) (L0 : Whole Tryz.prog t0 n0) (h0 : tmps.getD p0 undef = .pointer (some ⟨b0, 0, none⟩)) (h1 : tmps.getD p1 undef = .pointer (some ⟨b1, 0, none⟩))
    (B0 : Block w b0 c0) (B1 : Block w b1 #[.bool v]) (s0 : c0.size = n0) : (results fn tmps).run Tryz.prog w = .ok (.tuple #[.agg c0, .bool v]) w := by
  have g0 : tmps[p0]?.getD undef = .pointer (some ⟨b0, 0, none⟩) := by simpa using h0
  have g1 : tmps[p1]?.getD undef = .pointer (some ⟨b1, 0, none⟩) := by simpa using h1
  simp [results, h, g0, g1, asAddr, L0.load w b0 c0 B0 s0, ld_bool B1]
theorem dn_map (l : List EvP) : (dn l.length).map (fun i => (l[i]).1) = (evs l).reverse := by
  unfold dn evs
  rw [List.map_reverse]
  congr 1
  apply List.ext_getElem
  · simp
  · intro i h1 h2
    simp
theorem mk_none {l : List EvP} {n : Int} (h : ∀ y ∈ dn l.length, makes n (l[y]).1 = false) : maker (evs l) n = none := by
  unfold maker
  rw [← dn_map, List.find?_map, Option.map_eq_none_iff, List.find?_eq_none]
  intro y hy
  show ¬ makes n (l[y]).1 = true
  rw [h y hy]; decide
theorem mk_some {l : List EvP} {n : Int} {k : Nat} {pre' : List (Fin l.length)} {x : Fin l.length} (hpx : (dn l.length).take k = pre' ++ [x]) (hno : ∀ y ∈ pre', makes n (l[y]).1 = false) (hyes : makes n (l[x]).1 = true) : maker (evs l) n = some (l[x.val]).1 := by
  unfold maker
  have e : dn l.length = pre' ++ x :: (dn l.length).drop k := (List.take_append_drop k (dn l.length)).symm.trans (by rw [hpx, List.append_assoc]; rfl)
  rw [← dn_map, List.find?_map, e, List.find?_append]
  have h1 : pre'.find? (makes n ∘ fun i => (l[i]).1) = none := by
    rw [List.find?_eq_none]
    intro y hy
    show ¬ makes n (l[y]).1 = true
    rw [hno y hy]; decide
  rw [h1, List.find?_cons]
  have h2 : (makes n ∘ fun i => (l[i]).1) x = true := hyes
  rw [h2]
  rfl
theorem mk_more {l : List EvP} {n : Int} {pre : List (Fin l.length)} {x : Fin l.length} {e : Ev} {sl : SlT} (h : ∀ y ∈ pre, makes n (l[y]).1 = false) (he : l[x.val] = (e, sl)) (hm : makes n e = false) : ∀ y ∈ pre ++ [x], makes n (l[y]).1 = false := by
  intro y hy
  rcases List.mem_append.1 hy with hy | hy
  · exact h y hy
  · rw [List.mem_singleton] at hy
    subst hy
    show makes n (l[y.val]).1 = false
    rw [he]; exact hm
set_option maxHeartbeats 3200000 in
set_option maxRecDepth 100000 in
theorem pmaker_any (l : List EvP) (v : Value) (n : Int) (w : World) (h : PastS w v l) : Calls Tryz.prog 73 #[v, .int .i64 n] w fun en w' => MkRet l n en ∧ ∃ m : ExtOf w, w' = m.val := by
  obtain ⟨p, cap, rfl, hc1, hc2, hc3⟩ := EvsS.form h.ev
  unfold maxLen at hc2
  have hlen := h.len
  have H := Lib.hid h
  clear h
  refine (callsIn_wide (n := 6)).1 ?_
  refine callsIn_of_wp_marks Tryz.func73 rfl trivial ?_ rfl
  simp only [Tryz.ntmps73, List.size_toArray, List.length_cons, List.length_nil, Nat.reduceAdd, Nat.reduceSub, Array.replicate_succ, Array.replicate_zero, List.push_toArray, List.append_toArray, List.nil_append, List.cons_append]
  gi_wp2_with (refine ⟨trivial, ?_⟩; gi_at_call 99; refine (back_in Fence.wide 5 trivial rfl _ _ _ _).mono ?_; rintro e w' ⟨rfl, rfl⟩)
  have e3 : w.heap.size + 1 + 1 + 1 = ((((w.alloc (.cells #[.int .i64 n] 3)).alloc (.cells #[.int .i64 0, .int .i64 0, .string ⟨#[]⟩, .string ⟨#[]⟩, .slice none 0 0, .string ⟨#[]⟩] 34)).alloc (.cells #[.bool false] 4))).heap.size := by simp
  obtain ⟨W0, hW0⟩ : ∃ W0, W0 = (((w.alloc (.cells #[.int .i64 n] 3)).alloc (.cells #[.int .i64 0, .int .i64 0, .string ⟨#[]⟩, .string ⟨#[]⟩, .slice none 0 0, .string ⟨#[]⟩] 34)).alloc (.cells #[.bool false] 4)).alloc (.cells #[.slice p l.length cap] 59) := ⟨_, rfl⟩
  have b0 : Block W0 w.heap.size #[.int .i64 n] := by rw [hW0]; infer_instance
  have b1 : Block W0 (w.heap.size + 1) #[.int .i64 0, .int .i64 0, .string ⟨#[]⟩, .string ⟨#[]⟩, .slice none 0 0, .string ⟨#[]⟩] := by rw [hW0]; infer_instance
  have b2 : Block W0 (w.heap.size + 1 + 1) #[.bool false] := by rw [hW0]; infer_instance
  have b3 : Block W0 (w.heap.size + 1 + 1 + 1) #[.slice p l.length cap] := by rw [hW0]; infer_instance
  have hx0 : Ext w W0 := by rw [hW0]; repeat' (first | (with_reducible exact Ext.refl _) | (with_reducible exact ExtOf.ext _) | (with_reducible refine Ext.trans ?_ (ExtOf.ext _)) | (with_reducible refine Ext.alloc ?_ _) | (with_reducible refine Ext.drew ?_) | (with_reducible refine Ext.setCell ?_ ?_ _) | (with_reducible refine Ext.setRow ?_ ?_ _) | (with_reducible exact HX.out) | (with_reducible refine Ext.trans ?_ HX.out) | (with_reducible refine Ext.below ?_ (Nat.le_refl _) _) | omega | (simp; done) | (simp; omega))
  have hsz : W0.heap.size = w.heap.size + 4 := by rw [hW0]; simp
  rw [← hW0]
  clear hW0 e3
  have hcs : ∀ i (h : i < l.length), ∃ b off, p = some ⟨b, off, none⟩ ∧ b < W0.heap.size ∧ W0.rangeAt b (off + i * 6) (encEv l[i]) := fun i h => by
    obtain ⟨b, off, e, hr, _⟩ := EvsS.elem (H.out.ev.ext hx0) h
    have hc := hr 0 _ rfl
    exact ⟨b, off, e, World.block_lt_of_cell? W0 ⟨b, _, none⟩ hc, hr⟩
  refine wpIn_rangeFunc_ownH rfl (by decide) (gf := 121) (lb := #[.pointer (some ⟨w.heap.size + 1 + 1 + 1, 0, none⟩)]) rfl trivial (enters_of Tryz.func121 (by kernel_rfl) rfl)
    (back_stops Fence.wide 5 trivial rfl (by decide) (w.heap.size + 1 + 1 + 1) W0.heap.size l p cap W0 (by omega) (Nat.le_refl _) (Block.cell (h := b3) 0) hc1 hlen hcs) belowK_t (belowK_b (Nat.le_refl _)) (Below.refl _ _) (fun _ => rfl)
    (fun pre W => (∀ x ∈ pre, makes n (l[x]).1 = false) ∧ Below W0.heap.size W0 W)
    (fun c pre W => c = .ret ∧ MkX l n w pre W)
    (OwnFrom.and (ownFrom_pure _ _) (ownFrom_below (Nat.le_refl _) (Nat.le_refl _)))
    (fun c pre W W' row hs hg hr => ⟨hs.1, hs.2.grown hg (fun r e => by have := (hr r e).1; omega) (fun r e => (hr r e).2)⟩)
    ⟨fun x hx => by simp at hx, Below.refl _ _⟩
    (fun x a' W => ∃ Bx, W0.heap.size ≤ Bx ∧ Block W Bx (evC (l[x]).1 (l[x]).2.v) ∧ a' = { tmps := #[.slice p l.length cap, .int .i64 n, undef, .pointer (some ⟨w.heap.size, 0, none⟩), .pointer (some ⟨w.heap.size + 1, 0, none⟩), .pointer (some ⟨w.heap.size + 1 + 1, 0, none⟩), undef, .pointer (some ⟨Bx, 0, none⟩), undef, undef, .slice p l.length cap, .func (.func 121) #[] #[.pointer (some ⟨w.heap.size + 1 + 1 + 1, 0, none⟩)], .int .i64 (x.val : Int), .agg (evC (l[x]).1 (l[x]).2.v), undef, undef, undef, undef, undef, undef, undef, undef, undef, undef, undef, undef, undef], defers := [] })
    (fun x a' _ X Y row hs hg hr => by obtain ⟨Bx, h1, h2, h3⟩ := hs; exact ⟨Bx, h1, block_grown h2 hg (fun r e => (hr r e).2), h3⟩)
    ?assign ?body ?done ?stop
  case assign =>
    rintro lp pre x W K ⟨hp, hb⟩ hK
    obtain ⟨⟨e, ⟨q, m, mc⟩⟩, hle⟩ : ∃ z, l[x] = z := ⟨_, rfl⟩
    unfold encD
    have hle' : l[x.val] = (e, ⟨q, m, mc⟩) := hle
    simp only [Fin.getElem_fin, hle', evC, SlT.v] at hK ⊢
    gi_wp2
    exact hK _ _ ((KeepsOthers.alloc _ _).from _) ((Below.refl _ W).alloc hb.size _) ⟨hp, hb.alloc hb.size _⟩ ⟨W.heap.size, hb.size, Block.new _ _ _, rfl⟩
  case body =>
    rintro lp pre x a' W hl ⟨r, hr⟩ ⟨hp, hb⟩ ⟨Bx, hBx, bX, rfl⟩ hlt
    have hok := H.out.ok _ (List.getElem_mem x.isLt)
    have hin := H.out.ev.2 _ (List.getElem_mem x.isLt)
    obtain ⟨⟨e, ⟨q, m, mc⟩⟩, hle⟩ : ∃ z, l[x] = z := ⟨_, rfl⟩
    have hle' : l[x.val] = (e, ⟨q, m, mc⟩) := hle
    rw [hle'] at hok hin
    simp only at hok hin
    simp only [Fin.getElem_fin, hle', evC, SlT.v] at bX ⊢
    have HIN : Hid (IntS w (SlT.v ⟨q, m, mc⟩) e.n) := Lib.hid hin
    have HOK := Lib.hid hok
    clear hok hin
    have hwW : Ext w W := Below.trans hx0 (Below.mono hb (by omega))
    have HX := Lib.hid hwW
    have c0 := bX.cell (i := 0)
    have c1 := bX.cell (i := 1)
    have c2 := bX.cell (i := 2)
    have c3 := bX.cell (i := 3)
    have c4 := bX.cell (i := 4)
    have c5 := bX.cell (i := 5)
    gi_wp2
    refine ⟨trivial, (CallsIn.inRound lp (callsIn_wide.2 (pfirst_any e ⟨q, m, mc⟩ _ HOK.out (IntS.ext HIN.out HX.out)))).mono ?_⟩
    rintro en w' ⟨rfl, nf, rfl⟩
    have k0 := (b0.below hb (by omega)).ext nf.ext
    have k1 := (b1.below hb (by omega)).ext nf.ext
    have k2 := (b2.below hb (by omega)).ext nf.ext
    have kX := bX.ext nf.ext
    have hxf := nf.ext
    have hbf := Below.trans hb (Below.mono hxf hb.size)
    have HXF := Lib.hid hxf
    generalize nf.val = W2 at *
    clear c0 c1 c2 c3 c4 c5 bX nf
    have c0 := kX.cell (i := 0)
    have c1 := kX.cell (i := 1)
    have c2 := kX.cell (i := 2)
    have c3 := kX.cell (i := 3)
    have c4 := kX.cell (i := 4)
    have c5 := kX.cell (i := 5)
    have cn := k0.cell (i := 0)
    have HB := Lib.hid hbf
    have HHP := Lib.hid hp
    have HMK := Lib.hid (mkT_makes e n)
    obtain ⟨f, mm, c, hmk⟩ : ∃ f mm c, mkT e = (f, mm, c) := ⟨_, _, _, rfl⟩
    rw [hmk] at HMK ⊢
    clear hmk hbf hp
    simp only at HMK ⊢
    cases c
    · have HME : Hid (makes n e = false) := Lib.hid (by rw [HMK.out]; rfl)
      gi_wp2
      exact ⟨keeps_ext HXF.out, Below.mono HXF.out hb.size, mk_more HHP.out hle' HME.out, HB.out⟩
    · by_cases hf : f ≤ n
      · have qf : decide (f ≤ n) = true := decide_eq_true hf
        have HME : Hid (makes n e = true) := Lib.hid (by rw [HMK.out, qf]; rfl)
        gi_wp2_with (first | ((with_reducible apply wlIn_load lwEv); (· rfl); (· infer_instance); (· rfl)) | ((with_reducible apply wlIn_store lwEv); (· rfl); (· rfl); (· infer_instance); (· rfl); (· rfl); (· (simp [Value.oneCell', SlT.v]))))
        refine ⟨(keeps_ext HXF.out).trans ((keeps_setRow k1).trans ((KeepsOthers.setCell _ _ _).from _)), rfl, pre, x, rfl, HHP.out, ?_, ?_, inferInstance, ?_⟩
        · show makes n (l[x.val]).1 = true
          rw [hle']; exact HME.out
        · show Block _ _ (evC (l[x.val]).1 (l[x.val]).2.v)
          rw [hle']; infer_instance
        · exact Ext.setCell (Ext.setRow (HX.out.trans HXF.out) (by omega) _) (by show w.heap.size ≤ w.heap.size + 1 + 1; omega) _
      · have qf : decide (f ≤ n) = false := decide_eq_false hf
        have HME : Hid (makes n e = false) := Lib.hid (by rw [HMK.out, qf]; rfl)
        gi_wp2
        exact ⟨keeps_ext HXF.out, by rw [← hsz]; exact Below.mono HXF.out hb.size, mk_more HHP.out hle' HME.out, by rw [← hsz]; exact HB.out⟩
  case done =>
    rintro D xs W hD rfl ⟨hp, hb⟩ hK
    have HB := Lib.hid hb
    have HHP := Lib.hid hp
    have k1 := b1.below hb (by omega)
    have k2 := b2.below hb (by omega)
    have HK := Lib.hid hK
    clear hb hp
    gi_wp2_with (first | ((with_reducible apply wlIn_load lwEv); (· rfl); (· infer_instance); (· rfl)) | ((with_reducible apply wlIn_store lwEv); (· rfl); (· rfl); (· infer_instance); (· rfl); (· rfl); (· (simp [Value.oneCell', SlT.v]))))
    have hkd := ((keeps_setRow (B := W0.heap.size) (cs' := #[.int .i64 0, .int .i64 0, .string ⟨#[]⟩, .string ⟨#[]⟩, .slice none 0 0, .string ⟨#[]⟩]) k1).trans ((KeepsOthers.setCell _ ⟨w.heap.size + 1 + 1, 0, none⟩ (.bool false)).from _)).same D _ hD HK.out rfl
    refine ⟨by simp, .inl ⟨_, _, rfl, run_takeDeferred hkd, ?_⟩⟩
    have hg := grownBy_putObj' ((W.setRow (w.heap.size + 1) #[.int .i64 0, .int .i64 0, .string ⟨#[]⟩, .string ⟨#[]⟩, .slice none 0 0, .string ⟨#[]⟩]).setCell ⟨w.heap.size + 1 + 1, 0, none⟩ (.bool false)) D (.deferred none)
    have hrow : ∀ r, some D = some r → ∃ o : Obj, ((W.setRow (w.heap.size + 1) #[.int .i64 0, .int .i64 0, .string ⟨#[]⟩, .string ⟨#[]⟩, .slice none 0 0, .string ⟨#[]⟩]).setCell ⟨w.heap.size + 1 + 1, 0, none⟩ (.bool false)).heap[r]? = some o ∧ o.isCells = false := fun r e => by cases e; exact ⟨_, hkd, rfl⟩
    have hxW : Ext w ((W.setRow (w.heap.size + 1) #[.int .i64 0, .int .i64 0, .string ⟨#[]⟩, .string ⟨#[]⟩, .slice none 0 0, .string ⟨#[]⟩]).setCell ⟨w.heap.size + 1 + 1, 0, none⟩ (.bool false)) := Ext.setCell (Ext.setRow (show Ext w W from Below.trans hx0 (Below.mono HB.out (by omega))) (by omega) _) (by show w.heap.size ≤ w.heap.size + 1 + 1; omega) _
    refine ⟨_, results_cb rfl lwEv rfl rfl (block_grown (b := w.heap.size + 1) (cs := #[.int .i64 0, .int .i64 0, .string ⟨#[]⟩, .string ⟨#[]⟩, .slice none 0 0, .string ⟨#[]⟩]) inferInstance hg hrow) (block_grown (b := w.heap.size + 1 + 1) (cs := #[.bool false]) inferInstance hg hrow) rfl, .inl ⟨?_, rfl⟩, ExtOf.of (ext_grown hxW hg (fun r e => by cases e; omega))⟩
    exact mk_none HHP.out
  case stop =>
    rintro D c pre W hD ⟨k, hk, rfl⟩ ⟨rfl, hx⟩ hK
    gi_wp2
    have hg := grownBy_putObj' W D (.deferred none)
    have hrow : ∀ r, some D = some r → ∃ o : Obj, W.heap[r]? = some o ∧ o.isCells = false := fun r e => by cases e; exact ⟨_, hK, rfl⟩
    obtain ⟨pre', x, hpx, hno, hyes, k1, k2, hxW⟩ := hx
    refine ⟨by simp, .inl ⟨_, _, rfl, run_takeDeferred hK, ?_⟩⟩
    refine ⟨_, results_cb rfl lwEv rfl rfl (block_grown k1 hg hrow) (block_grown k2 hg hrow) rfl, .inr ⟨x.val, x.isLt, ?_, rfl⟩, ExtOf.of (ext_grown hxW hg (fun r e => by cases e; omega))⟩
    exact mk_some hpx hno hyes
end Go.Proofs.YtjfohapnjnopfaaGreatDoor
end
/-
  Chapter 61: the program's logs of boards.
-/
section
set_option linter.unusedVariables false
set_option linter.unusedSimpArgs false
namespace Go.Proofs.YtjfohapnjnopfaaGreatDoor
open Go.RowKit RepM

attribute [local go_sem] ExtOf.cell ExtOf.frozen Block.cell Block.frozen ExtB.cell ExtB.frozen alloc_cell alloc_frozen
set_option maxHeartbeats 3200000 in
set_option maxRecDepth 20000 in
theorem plog_any (l : List EvP) (v : Value) (n : Int) (w : World) (h : PastS w v l) (hn : wideN n) : Calls Tryz.prog 43 #[v, .int .i64 n] w fun e w' => e = .returned (undV (log num (evs l) n)) ∧ ∃ n : ExtOf w, w' = n.val := by
  obtain ⟨p, cap, rfl, hc1, hc2, hc3⟩ := EvsS.form h.ev
  unfold maxLen at hc2
  have hlen := h.len
  have H := Lib.hid h
  clear h
  go_enter Tryz.func43, Tryz.ntmps43
  go_wp2_with fail
  go_loopw [1] (fun vn wr => ∃ m : Int, vn = .int .i64 m ∧ wideN m ∧ log num (evs l) n = log num (evs l) m ∧ Ext w wr) (fun m _ => (intOf m).toNat)
  case atStart => exact ⟨n, rfl, hn, rfl, Ext.refl _⟩
  case round =>
    obtain ⟨m, rfl, hm, hlg, hx⟩ := hrel
    have HX := Lib.hid hx
    have HLG := Lib.hid hlg
    clear hx hlg
    go_wp2_with fail
    refine (pmaker_any l _ m wr (H.out.ext HX.out)).mono ?_
    rintro en w' ⟨⟨hnone, rfl⟩ | ⟨i, hi, hsome, rfl⟩, n1, rfl⟩
    · have HN := Lib.hid (log_none hnone)
      clear hnone
      unfold zEv
      go_wp2_with (first | ((with_reducible apply wl_load' lwEv); (· (first | exact wanted_none rfl | exact wanted_some rfl rfl rfl)); (· rfl); (· infer_instance); (· rfl)) | ((with_reducible apply wl_store' lwEv); (· (first | exact wanted_none rfl | exact wanted_some rfl rfl rfl)); (· rfl); (· rfl); (· infer_instance); (· rfl); (· rfl); (· (simp [Value.oneCell', SlT.v])); try simp only [setRow_alloc, setRow_new, setRow_new1, setRow_new2, setRow_new11, setRow_new111]))
      go_ret2
      exact ⟨by rw [HLG.out, HN.out]; rfl, ExtOf.of (HX.out.trans (by repeat' (first | (with_reducible exact Ext.refl _) | (with_reducible exact ExtOf.ext _) | (with_reducible refine Ext.trans ?_ (ExtOf.ext _)) | (with_reducible refine Ext.alloc ?_ _) | (with_reducible refine Ext.drew ?_) | (with_reducible refine Ext.setCell ?_ ?_ _) | (with_reducible refine Ext.setRow ?_ ?_ _) | (with_reducible exact HX.out) | (with_reducible refine Ext.trans ?_ HX.out) | (with_reducible refine Ext.below ?_ (Nat.le_refl _) _) | omega | (simp; done) | (simp; omega))))⟩
    · have hok := H.out.ok _ (List.getElem_mem hi)
      have hin := H.out.ev.2 _ (List.getElem_mem hi)
      obtain ⟨⟨x, sl⟩, he⟩ : ∃ z, z = l[i] := ⟨_, rfl⟩
      rw [← he] at hok hin hsome ⊢
      simp only at hok hin hsome ⊢
      have HI := Lib.hid hin
      have HK := Lib.hid hok
      have HS := Lib.hid hsome
      clear he hin hok hsome
      unfold evC
      by_cases h4 : x.kind = 4
      · have q4 : (x.kind == 4) = true := beq_iff_eq.2 h4
        have HN := Lib.hid (log_saw HS.out h4)
        clear h4
        go_wp2_with (first | ((with_reducible apply wl_load' lwEv); (· (first | exact wanted_none rfl | exact wanted_some rfl rfl rfl)); (· rfl); (· infer_instance); (· rfl)) | ((with_reducible apply wl_store' lwEv); (· (first | exact wanted_none rfl | exact wanted_some rfl rfl rfl)); (· rfl); (· rfl); (· infer_instance); (· rfl); (· rfl); (· (simp [Value.oneCell', SlT.v])); try simp only [setRow_alloc, setRow_new, setRow_new1, setRow_new2, setRow_new11, setRow_new111]))
        go_ret2
        exact ⟨by rw [HLG.out, HN.out]; rfl, ExtOf.of (HX.out.trans (by repeat' (first | (with_reducible exact Ext.refl _) | (with_reducible exact ExtOf.ext _) | (with_reducible refine Ext.trans ?_ (ExtOf.ext _)) | (with_reducible refine Ext.alloc ?_ _) | (with_reducible refine Ext.drew ?_) | (with_reducible refine Ext.setCell ?_ ?_ _) | (with_reducible refine Ext.setRow ?_ ?_ _) | (with_reducible exact HX.out) | (with_reducible refine Ext.trans ?_ HX.out) | (with_reducible refine Ext.below ?_ (Nat.le_refl _) _) | omega | (simp; done) | (simp; omega))))⟩
      · have q4 : (x.kind == 4) = false := beq_eq_false_iff_ne.2 h4
        obtain ⟨f, mm, c, hmk⟩ : ∃ f m c, mkT x = (f, m, c) := ⟨_, _, _, rfl⟩
        have hrg := mkT_range HK.out
        have hmm := maker_mk HS.out
        have HMD : Hid (x.kind = 13 ∨ x.kind = 14) := Lib.hid (by
          have := hmm.1
          unfold mkT at this
          rw [if_neg h4] at this
          by_cases h13 : x.kind = 13
          · exact .inl h13
          · rw [if_neg h13] at this
            by_cases h14 : x.kind = 14
            · exact .inr h14
            · rw [if_neg h14] at this; cases this)
        have HMK := Lib.hid hmk
        rw [hmk] at hrg hmm
        simp only at hrg hmm
        clear hmk
        have hnr := num_range x.item
        have HSTOP : Hid (mm ≤ m - f ∨ f ≤ num x.item → log num (evs l) m = none) := Lib.hid (fun hs => log_stop HS.out h4 (by rw [HMK.out]; exact hs))
        have HNEXT : Hid (¬ mm ≤ m - f → ¬ f ≤ num x.item → log num (evs l) m = log num (evs l) (num x.item)) := Lib.hid (fun h1 h2 => log_next HS.out h4 (by rw [HMK.out]; exact h1) (by rw [HMK.out]; exact h2))
        obtain ⟨hm1, hm2⟩ := hm
        clear h4
        by_cases t1 : mm ≤ m - f
        · have q1 : decide (f + mm ≤ m) = true := decide_eq_true (by omega)
          go_wp2_with (first | ((with_reducible apply wl_load' lwEv); (· (first | exact wanted_none rfl | exact wanted_some rfl rfl rfl)); (· rfl); (· infer_instance); (· rfl)) | ((with_reducible apply wl_store' lwEv); (· (first | exact wanted_none rfl | exact wanted_some rfl rfl rfl)); (· rfl); (· rfl); (· infer_instance); (· rfl); (· rfl); (· (simp [Value.oneCell', SlT.v])); try simp only [setRow_alloc, setRow_new, setRow_new1, setRow_new2, setRow_new11, setRow_new111]) | (go_at_call 74; refine (pfirst_any x sl _ HK.out (IntS.ext HI.out (HX.out.trans (by repeat' (first | (with_reducible exact Ext.refl _) | (with_reducible exact ExtOf.ext _) | (with_reducible refine Ext.trans ?_ (ExtOf.ext _)) | (with_reducible refine Ext.alloc ?_ _) | (with_reducible refine Ext.drew ?_) | (with_reducible refine Ext.setCell ?_ ?_ _) | (with_reducible refine Ext.setRow ?_ ?_ _) | (with_reducible exact HX.out) | (with_reducible refine Ext.trans ?_ HX.out) | (with_reducible refine Ext.below ?_ (Nat.le_refl _) _) | omega | (simp; done) | (simp; omega)))))).mono ?_; rintro en w' ⟨rfl, nf, rfl⟩; rw [HMK.out]) | (go_at_call 42; refine (pnum_any x.item _).mono ?_; rintro en w' ⟨rfl, nn, rfl⟩) | (go_at_call 75; refine (pmade_any x sl _ HK.out HMD.out (IntS.ext HI.out (HX.out.trans (by repeat' (first | (with_reducible exact Ext.refl _) | (with_reducible exact ExtOf.ext _) | (with_reducible refine Ext.trans ?_ (ExtOf.ext _)) | (with_reducible refine Ext.alloc ?_ _) | (with_reducible refine Ext.drew ?_) | (with_reducible refine Ext.setCell ?_ ?_ _) | (with_reducible refine Ext.setRow ?_ ?_ _) | (with_reducible exact HX.out) | (with_reducible refine Ext.trans ?_ HX.out) | (with_reducible refine Ext.below ?_ (Nat.le_refl _) _) | omega | (simp; done) | (simp; omega)))))).mono ?_; rintro en w' ⟨rfl, nm, rfl⟩; rw [HMK.out]))
          go_ret2
          exact ⟨by rw [HLG.out, HSTOP.out (.inl t1)]; rfl, ExtOf.of (HX.out.trans (by repeat' (first | (with_reducible exact Ext.refl _) | (with_reducible exact ExtOf.ext _) | (with_reducible refine Ext.trans ?_ (ExtOf.ext _)) | (with_reducible refine Ext.alloc ?_ _) | (with_reducible refine Ext.drew ?_) | (with_reducible refine Ext.setCell ?_ ?_ _) | (with_reducible refine Ext.setRow ?_ ?_ _) | (with_reducible exact HX.out) | (with_reducible refine Ext.trans ?_ HX.out) | (with_reducible refine Ext.below ?_ (Nat.le_refl _) _) | omega | (simp; done) | (simp; omega))))⟩
        · have q1 : decide (f + mm ≤ m) = false := decide_eq_false (by omega)
          by_cases t2 : f ≤ num x.item
          · have q2 : decide (f ≤ num x.item) = true := decide_eq_true t2
            go_wp2_with (first | ((with_reducible apply wl_load' lwEv); (· (first | exact wanted_none rfl | exact wanted_some rfl rfl rfl)); (· rfl); (· infer_instance); (· rfl)) | ((with_reducible apply wl_store' lwEv); (· (first | exact wanted_none rfl | exact wanted_some rfl rfl rfl)); (· rfl); (· rfl); (· infer_instance); (· rfl); (· rfl); (· (simp [Value.oneCell', SlT.v])); try simp only [setRow_alloc, setRow_new, setRow_new1, setRow_new2, setRow_new11, setRow_new111]) | (go_at_call 74; refine (pfirst_any x sl _ HK.out (IntS.ext HI.out (HX.out.trans (by repeat' (first | (with_reducible exact Ext.refl _) | (with_reducible exact ExtOf.ext _) | (with_reducible refine Ext.trans ?_ (ExtOf.ext _)) | (with_reducible refine Ext.alloc ?_ _) | (with_reducible refine Ext.drew ?_) | (with_reducible refine Ext.setCell ?_ ?_ _) | (with_reducible refine Ext.setRow ?_ ?_ _) | (with_reducible exact HX.out) | (with_reducible refine Ext.trans ?_ HX.out) | (with_reducible refine Ext.below ?_ (Nat.le_refl _) _) | omega | (simp; done) | (simp; omega)))))).mono ?_; rintro en w' ⟨rfl, nf, rfl⟩; rw [HMK.out]) | (go_at_call 42; refine (pnum_any x.item _).mono ?_; rintro en w' ⟨rfl, nn, rfl⟩) | (go_at_call 75; refine (pmade_any x sl _ HK.out HMD.out (IntS.ext HI.out (HX.out.trans (by repeat' (first | (with_reducible exact Ext.refl _) | (with_reducible exact ExtOf.ext _) | (with_reducible refine Ext.trans ?_ (ExtOf.ext _)) | (with_reducible refine Ext.alloc ?_ _) | (with_reducible refine Ext.drew ?_) | (with_reducible refine Ext.setCell ?_ ?_ _) | (with_reducible refine Ext.setRow ?_ ?_ _) | (with_reducible exact HX.out) | (with_reducible refine Ext.trans ?_ HX.out) | (with_reducible refine Ext.below ?_ (Nat.le_refl _) _) | omega | (simp; done) | (simp; omega)))))).mono ?_; rintro en w' ⟨rfl, nm, rfl⟩; rw [HMK.out]))
            go_ret2
            exact ⟨by rw [HLG.out, HSTOP.out (.inr t2)]; rfl, ExtOf.of (HX.out.trans (by repeat' (first | (with_reducible exact Ext.refl _) | (with_reducible exact ExtOf.ext _) | (with_reducible refine Ext.trans ?_ (ExtOf.ext _)) | (with_reducible refine Ext.alloc ?_ _) | (with_reducible refine Ext.drew ?_) | (with_reducible refine Ext.setCell ?_ ?_ _) | (with_reducible refine Ext.setRow ?_ ?_ _) | (with_reducible exact HX.out) | (with_reducible refine Ext.trans ?_ HX.out) | (with_reducible refine Ext.below ?_ (Nat.le_refl _) _) | omega | (simp; done) | (simp; omega))))⟩
          · have q2 : decide (f ≤ num x.item) = false := decide_eq_false t2
            go_wp2_with (first | ((with_reducible apply wl_load' lwEv); (· (first | exact wanted_none rfl | exact wanted_some rfl rfl rfl)); (· rfl); (· infer_instance); (· rfl)) | ((with_reducible apply wl_store' lwEv); (· (first | exact wanted_none rfl | exact wanted_some rfl rfl rfl)); (· rfl); (· rfl); (· infer_instance); (· rfl); (· rfl); (· (simp [Value.oneCell', SlT.v])); try simp only [setRow_alloc, setRow_new, setRow_new1, setRow_new2, setRow_new11, setRow_new111]) | (go_at_call 74; refine (pfirst_any x sl _ HK.out (IntS.ext HI.out (HX.out.trans (by repeat' (first | (with_reducible exact Ext.refl _) | (with_reducible exact ExtOf.ext _) | (with_reducible refine Ext.trans ?_ (ExtOf.ext _)) | (with_reducible refine Ext.alloc ?_ _) | (with_reducible refine Ext.drew ?_) | (with_reducible refine Ext.setCell ?_ ?_ _) | (with_reducible refine Ext.setRow ?_ ?_ _) | (with_reducible exact HX.out) | (with_reducible refine Ext.trans ?_ HX.out) | (with_reducible refine Ext.below ?_ (Nat.le_refl _) _) | omega | (simp; done) | (simp; omega)))))).mono ?_; rintro en w' ⟨rfl, nf, rfl⟩; rw [HMK.out]) | (go_at_call 42; refine (pnum_any x.item _).mono ?_; rintro en w' ⟨rfl, nn, rfl⟩) | (go_at_call 75; refine (pmade_any x sl _ HK.out HMD.out (IntS.ext HI.out (HX.out.trans (by repeat' (first | (with_reducible exact Ext.refl _) | (with_reducible exact ExtOf.ext _) | (with_reducible refine Ext.trans ?_ (ExtOf.ext _)) | (with_reducible refine Ext.alloc ?_ _) | (with_reducible refine Ext.drew ?_) | (with_reducible refine Ext.setCell ?_ ?_ _) | (with_reducible refine Ext.setRow ?_ ?_ _) | (with_reducible exact HX.out) | (with_reducible refine Ext.trans ?_ HX.out) | (with_reducible refine Ext.below ?_ (Nat.le_refl _) _) | omega | (simp; done) | (simp; omega)))))).mono ?_; rintro en w' ⟨rfl, nm, rfl⟩; rw [HMK.out]))
            go_roundw
            case rel => exact ⟨num x.item, rfl, num_wide _, by rw [HLG.out]; exact HNEXT.out t1 t2, HX.out.trans (by repeat' (first | (with_reducible exact Ext.refl _) | (with_reducible exact ExtOf.ext _) | (with_reducible refine Ext.trans ?_ (ExtOf.ext _)) | (with_reducible refine Ext.alloc ?_ _) | (with_reducible refine Ext.drew ?_) | (with_reducible refine Ext.setCell ?_ ?_ _) | (with_reducible refine Ext.setRow ?_ ?_ _) | (with_reducible exact HX.out) | (with_reducible refine Ext.trans ?_ HX.out) | (with_reducible refine Ext.below ?_ (Nat.le_refl _) _) | omega | (simp; done) | (simp; omega)))⟩
            case measure => simp [intOf]; omega
end Go.Proofs.YtjfohapnjnopfaaGreatDoor
end
