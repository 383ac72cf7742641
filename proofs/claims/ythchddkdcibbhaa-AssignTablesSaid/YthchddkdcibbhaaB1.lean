/-
  Tables in memory; the contracts of columns and hand.
-/
import Derived.Test.YthchddkdcibbhaaRows
import Derived.Test.YthchddkdcibbhaaMap1
import Derived.Test.YthchddkdcibbhaaA2
namespace Go.Proofs.Ythchddkdcibbhaa
open Go.RowKit AssignM

attribute [local go_sem] ExtOf.cell ExtOf.frozen Block.cell Block.frozen ExtB.cell ExtB.frozen alloc_cell alloc_frozen

theorem ret_int {k : IntKind} {a b : Int} (h : a = b) : Ending.returned (.int k a) = .returned (.int k b) := by rw [h]
theorem ret_bool {a b : Bool} (h : a = b) : Ending.returned (.bool a) = .returned (.bool b) := by rw [h]
theorem zeroI (W : World) : (zeroValue 3).run Try.prog W = .ok (.int .i64 0) W := by kernel_rfl
def encB (b : Bool) : List Value := [.bool b]
def encI (n : Int) : List Value := [.int .i64 n]
def encV (v : Value) : List Value := [v]
theorem encB_len (s : Bool) : (encB s).length = 1 := rfl
theorem encI_len (s : Int) : (encI s).length = 1 := rfl
abbrev BoolS (w : World) (v : Value) (l : List Bool) : Prop := SliceOf encB 1 w v l
abbrev IntS (w : World) (v : Value) (l : List Int) : Prop := SliceOf encI 1 w v l
/-- element i of a slice of elements of one cell -/
theorem SliceOf.elem1 {α : Type} {enc : α → List Value} {w : World} {p : Option Addr} {n cap : Nat} {l : List α} (h : SliceOf enc 1 w (.slice p n cap) l) {i : Nat} (hi : i < l.length) {u : Value} (hu : enc l[i] = [u]) :
    ∃ b off, p = some ⟨b, off, none⟩ ∧ Old b w ∧ w.cell? ⟨b, off + i, none⟩ = some u := by
  obtain ⟨p', cap', e, h1, h2, h3, h4⟩ := h
  simp only [Value.slice.injEq] at e
  obtain ⟨rfl, _, _⟩ := e
  obtain ⟨b, off, hp, hc⟩ := h4 i l[i] (List.getElem?_eq_getElem hi)
  have c0 := hc 0 u (by rw [hu]; rfl)
  exact ⟨b, off, hp, Old.of_cell c0, by simpa using c0⟩
theorem SliceOf.form {α : Type} {enc : α → List Value} {k : Nat} {w : World} {v : Value} {l : List α} (h : SliceOf enc k w v l) : ∃ p cap, v = .slice p l.length cap ∧ l.length ≤ cap ∧ cap ≤ maxLen ∧ (p = none → cap = 0) := by
  obtain ⟨p, cap, e, h1, h2, h3, _⟩ := h
  exact ⟨p, cap, e, h1, h2, h3⟩
/-- v is a table -/
def GridS (w : World) (v : Value) (F : List (List Bool)) : Prop :=
  ∃ rs : List Value, SliceOf encV 1 w v rs ∧ rs.length = F.length ∧ ∀ (i : Nat) r l, rs[i]? = some r → F[i]? = some l → BoolS w r l
theorem GridS.ext {w w' : World} {v : Value} {F : List (List Bool)} (h : GridS w v F) (hx : Ext w w') : GridS w' v F := by
  obtain ⟨rs, h1, h2, h3⟩ := h
  exact ⟨rs, SliceOf.ext h1 hx, h2, fun i r l hr hl => SliceOf.ext (h3 i r l hr hl) hx⟩
theorem GridS.form {w : World} {v : Value} {F : List (List Bool)} (h : GridS w v F) : ∃ p cap, v = .slice p F.length cap ∧ F.length ≤ cap ∧ cap ≤ maxLen ∧ (p = none → cap = 0) := by
  obtain ⟨rs, h1, h2, _⟩ := h
  rw [← h2]
  exact SliceOf.form h1
theorem GridS.row {w : World} {p : Option Addr} {n cap : Nat} {F : List (List Bool)} (h : GridS w (.slice p n cap) F) {i : Nat} (hi : i < F.length) :
    ∃ b off rp rc, p = some ⟨b, off, none⟩ ∧ Old b w ∧ w.cell? ⟨b, off + i, none⟩ = some (.slice rp F[i].length rc) ∧ BoolS w (.slice rp F[i].length rc) F[i] := by
  obtain ⟨rs, h1, h2, h3⟩ := h
  have hi' : i < rs.length := by omega
  obtain ⟨b, off, e1, e2, e3⟩ := SliceOf.elem1 h1 hi' (u := rs[i]) rfl
  have hb := h3 i rs[i] F[i] (List.getElem?_eq_getElem hi') (List.getElem?_eq_getElem hi)
  obtain ⟨rp, rc, er, _⟩ := SliceOf.form hb
  rw [er] at e3 hb
  exact ⟨b, off, rp, rc, e1, e2, e3, hb⟩
/-- how many boards a table has -/
def cols (F : List (List Bool)) : Nat := ((F[0]?).getD []).length

set_option maxHeartbeats 400000 in
theorem columns_any (v : Value) (F : List (List Bool)) (w : World) (h : GridS w v F) (hF : F.length ≤ 1099511627776) :
    Calls Try.prog 34 #[v] w fun e w' => e = .returned (.int .i64 (cols F)) ∧ ∃ n : ExtOf w, w' = n.val := by
  obtain ⟨p, cap, rfl, h1, h2, h3⟩ := h.form
  rcases hl : F with _ | ⟨r, F'⟩
  · subst hl
    simp only [List.length_nil] at *
    go_enter Try.func34, Try.ntmps34
    go_wp2
    go_ret
    refine ⟨rfl, ?_⟩
    exact ExtOf.of (by repeat' (first | (with_reducible exact Ext.refl _) | (with_reducible exact ExtOf.ext _) | (with_reducible refine Ext.trans ?_ (ExtOf.ext _)) | (with_reducible refine Ext.alloc ?_ _) | (with_reducible refine Ext.drew ?_) | (with_reducible refine Ext.setCell ?_ ?_ _) | (with_reducible refine Ext.setRow ?_ ?_ _) | (with_reducible exact HX.out) | (with_reducible refine Ext.trans ?_ HX.out) | (with_reducible refine Ext.below ?_ (Nat.le_refl _) _) | (simp; done) | (simp; omega)))
  · obtain ⟨b, off, rp, rc, rfl, ho, c0, hb⟩ := h.row (i := 0) (by rw [hl]; simp)
    have e0 : F[0]'(by rw [hl]; simp) = r := by simp [hl]
    rw [e0] at c0
    have hz : ((F.length : Int) == 0) = false := by rw [hl]; simp; omega
    rw [← hl]
    have hc : cols F = r.length := by rw [hl]; rfl
    rw [hc]
    have hpos : 0 < F.length := by rw [hl]; simp
    rw [Nat.add_zero] at c0
    clear hb hl e0 hc
    go_enter Try.func34, Try.ntmps34
    go_wp2
    go_ret
    refine ⟨rfl, ?_⟩
    exact ExtOf.of (by repeat' (first | (with_reducible exact Ext.refl _) | (with_reducible exact ExtOf.ext _) | (with_reducible refine Ext.trans ?_ (ExtOf.ext _)) | (with_reducible refine Ext.alloc ?_ _) | (with_reducible refine Ext.drew ?_) | (with_reducible refine Ext.setCell ?_ ?_ _) | (with_reducible refine Ext.setRow ?_ ?_ _) | (with_reducible exact HX.out) | (with_reducible refine Ext.trans ?_ HX.out) | (with_reducible refine Ext.below ?_ (Nat.le_refl _) _) | (simp; done) | (simp; omega)))

abbrev MapI (C : Nat) (w : World) (b : Nat) (a : Mat) : Prop := MapN Try.prog 3 3 C w b a
/-- an array of numbers: what an order can give away, -1: nothing -/
def givCells (giv : Mat) (R : Nat) : Array Value := ((List.range R).map fun i => Value.int .i64 (match giv i with | some k => (k : Int) | none => -1)).toArray
theorem givCells_get {giv : Mat} {R i : Nat} (hi : i < R) : (givCells giv R)[i]? = some (.int .i64 (match giv i with | some k => (k : Int) | none => -1)) := by
  simp [givCells, hi]
/-- what extend leaves where it could give one more board -/
structure OneMore (F : List (List Bool)) (R C lo o : Nat) (a t : Mat) : Prop where
  ok : Ok F R C t
  cnts : ∀ x, cnt C t lo x = bump (cnt C a lo) o x
  low : ∀ m, m < lo → t m = a m

set_option maxHeartbeats 800000 in
theorem hand_any (F : List (List Bool)) (R C lo o : Nat) (a vis giv : Mat) (rk : Nat → Nat) (v0 : Value) (gm bm bv gg : Nat) (fst : Int) (kb i : Nat) (w : World) (hR : R ≤ 1048576) (hC : C ≤ 1048576) (ho : o < R)
    (hM : Block w gm #[v0, .map (some bm), .int .i64 fst]) (h1 : MapI C w bm a) (h2 : MapI C w bv vis) (hne : bv ≠ bm) (hG : Block w gg (givCells giv R)) (hB : Bfs' F R C lo o a vis giv rk) (hH : Handing F R C lo o a vis giv rk a kb i) :
    Calls Try.prog 51 #[.pointer (some ⟨gm, 0, none⟩), .int .i64 kb, .int .i64 o, .map (some bv), .slice (some ⟨gg, 0, none⟩) R R] w fun e w' => e = .returned (.tuple #[]) ∧ ∃ t, OneMore F R C lo o a t ∧ MapI C w' bm t ∧ Turn w w' bm := by
  have HB := Lib.hid hB
  have HH := Lib.hid hH
  have H1 := Lib.hid h1
  have H2 := Lib.hid h2
  have hgm : gm ≠ bm := fun e => by
    subst e
    obtain ⟨t, ht⟩ := hM.get
    obtain ⟨D, ⟨es, cl, hh, _⟩, _⟩ := h1
    rw [hh] at ht; cases ht
  have hgg : gg ≠ bm := fun e => by
    subst e
    obtain ⟨t, ht⟩ := hG.get
    obtain ⟨D, ⟨es, cl, hh, _⟩, _⟩ := h1
    rw [hh] at ht; cases ht
  clear hB hH h1 h2
  go_enter Try.func51, Try.ntmps51
  go_wp2_with fail
  go_loopw [1] (fun v wr => ∃ (t : Mat) (kb i : Nat), v = .int .i64 kb ∧ Handing F R C lo o a vis giv rk t kb i ∧ MapI C wr bm t ∧ MapI C wr bv vis ∧ Block wr gm #[v0, .map (some bm), .int .i64 fst] ∧ Block wr gg (givCells giv R) ∧ Turn w wr bm) (fun v _ => rk ((vis (intOf v).toNat).getD 0))
  case atStart => exact ⟨a, kb, i, rfl, HH.out, H1.out, H2.out, hM, hG, Turn.of_ext (Ext.refl _)⟩
  case round =>
    clear hM hG HH H1 H2
    obtain ⟨t, kb, i, rfl, hH, h1, h2, hM, hG, hT⟩ := hrel
    have HH := Lib.hid hH
    have H1 := Lib.hid h1
    have H2 := Lib.hid h2
    have HT := Lib.hid hT
    have hkC := hH.hi_
    have hiR := hH.iR
    have HV := Lib.hid hH.visk
    have og := hM.old
    have ogg := hG.old
    clear h1 h2 hH hT
    by_cases hio : i = o
    · subst hio
      go_wp2_with (first | (at_lookup; refine wl_look H2.out Try.underlying3 Try.underlying3 Try.underlying68 zeroI hkC (by omega) HV.out rfl _ _ rfl rfl rfl ?_) | ((at_mapUpdate; refine wl_mput H1.out Try.underlying3 Try.underlying3 Try.underlying68 hkC (by omega) (by omega) rfl _ _ _ rfl rfl rfl rfl ?_); intro w1 hm1 ht1; have hM1 := ht1.blk hM hgm; have hG1 := ht1.blk hG hgg; have HM1 := Lib.hid hm1; have HT1 := Lib.hid ht1; clear hm1 ht1))
      refine bodyPost_ret (v := .tuple #[]) (by simp [results, Try.results51, go_sem]) rfl ?_
      refine ⟨rfl, _, ⟨HH.out.okn, HH.out.cnts, HH.out.lown⟩, HM1.out, HT.out.trans HT1.out⟩
    · obtain ⟨kb', i', e1, e2, e3⟩ := HH.out.next HB.out hio
      have HN := Lib.hid e3
      have HR := Lib.hid e2
      have hgi := givCells_get (giv := giv) hiR
      rw [e1] at hgi
      simp only at hgi
      have heq : ((i : Int) == (o : Int)) = false := by rw [beq_eq_false_iff_ne]; omega
      clear e1 e2 e3
      go_wp2_with (first | (at_lookup; refine wl_look H2.out Try.underlying3 Try.underlying3 Try.underlying68 zeroI hkC (by omega) HV.out rfl _ _ rfl rfl rfl ?_) | ((at_mapUpdate; refine wl_mput H1.out Try.underlying3 Try.underlying3 Try.underlying68 hkC (by omega) (by omega) rfl _ _ _ rfl rfl rfl rfl ?_); intro w1 hm1 ht1; have hM1 := ht1.blk hM hgm; have hG1 := ht1.blk hG hgg; have HM1 := Lib.hid hm1; have HT1 := Lib.hid ht1; clear hm1 ht1))
      go_roundw
      case rel => exact ⟨_, kb', i', rfl, HN.out, HM1.out, H2.out.turn HT1.out hne, hM1, hG1, HT.out.trans HT1.out⟩
      case measure =>
        have e1 := HN.out.visk
        have e2 := HV.out
        have e3 := HR.out
        simp [intOf, e1, e2]
        exact e3

end Go.Proofs.Ythchddkdcibbhaa
