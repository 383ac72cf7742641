/-
  The contracts of unfilled, slices.Clone and Best.
-/
import Derived.Test.YthchddkdcibbhaaB6
import Derived.Test.YthchddkdcibbhaaA5
namespace Go.Proofs.Ythchddkdcibbhaa
open Go.RowKit AssignM

attribute [local go_sem] ExtOf.cell ExtOf.frozen Block.cell Block.frozen ExtB.cell ExtB.frozen alloc_cell alloc_frozen

theorem encN_len (n : Nat) : (encN n).length = 1 := rfl
theorem encN_one (n : Nat) : ∀ u ∈ encN n, u.oneCell' = true := by intro u hu; simp [encN] at hu; subst hu; rfl
theorem NatS.ofBlock {w : World} {g R : Nat} {c : Nat → Nat} (h : Block w g (natCells c R)) (hm : R ≤ maxLen) : NatS w (.slice (some ⟨g, 0, none⟩) R R) ((List.range R).map c) := by
  refine ⟨some ⟨g, 0, none⟩, R, by simp, by simp, hm, (fun h => by cases h), fun i x hi => ⟨g, 0, rfl, fun j u hj => ?_⟩⟩
  have hj0 : j = 0 := by have := (List.getElem?_eq_some_iff.1 hj).1; simp [encN] at this; omega
  subst hj0
  have hu : Value.int .i64 (x : Int) = u := by simpa [encN] using hj
  subst hu
  have hi0 := (List.getElem?_eq_some_iff.1 hi).1
  simp at hi0
  have hx : c i = x := by simpa [hi0] using hi
  rw [Block.cell (h := h), show 0 + (i * 1 + 0) = i by omega, natCells_get hi0, hx]
theorem nth_range {c : Nat → Nat} {R i : Nat} (h : i < R) : nth ((List.range R).map c) i = c i := by simp [nth, h]
/-- an element of a slice of the call's own, and how it is changed -/
theorem Own.set1 {E base : Nat} {w : World} {v : Value} {l : List Nat} (h : Own encN 1 E base w v l) {i : Nat} (hi : i < l.length) :
    ∃ g cap, v = .slice (some ⟨g, 0, none⟩) l.length cap ∧ base ≤ g ∧ Old g w ∧ w.cell? ⟨g, i, none⟩ = some (.int .i64 (l[i] : Int)) ∧ w.frozen? ⟨g, i, none⟩ = false ∧
      ∀ X : Nat, Own encN 1 E base (w.setCell ⟨g, i, none⟩ (.int .i64 (X : Int))) v (l.set i X) := by
  have hsl := Own.slice encN_len h
  obtain ⟨hl, hn | ⟨g, cap, cur, rfl, hb, hg, hn, hc, hs, ht⟩⟩ := h
  · obtain ⟨_, hn⟩ := hn
    omega
  · obtain ⟨b, off, hp, ho, hcell⟩ := SliceOf.elem1 hsl hi rfl
    obtain ⟨rfl, rfl⟩ : g = b ∧ 0 = off := by simpa using hp
    rw [Nat.zero_add] at hcell
    refine ⟨g, cap, rfl, hb, ho, hcell, by simp [World.frozen?, hg], fun X => ⟨by rw [flatMap_len encN_len], .inr ⟨g, cap, cur.setIfInBounds i (.int .i64 (X : Int)), by simp, hb, ?_, by simpa using hn, hc, by simpa using hs, ?_⟩⟩⟩
    · rw [setCell_eq_setRow w g i cur _ (0, 0) _ hg]
      exact setRow_heap w g cur _ _ _ hg
    · rw [Array.toList_setIfInBounds, List.length_set, List.take_set, ht]
      apply List.ext_getElem?
      intro j
      have hfm : ∀ (m : List Nat), m.flatMap encN = m.map (fun x : Nat => Value.int .i64 (x : Int)) := fun m => by
        induction m with
        | nil => rfl
        | cons a m ih => simp [encN, ih]
      rw [hfm, hfm, List.map_set]
theorem Own.formN {E base : Nat} {w : World} {v : Value} {r : List Nat} (h : Own encN 1 E base w v r) : ∃ q cap, v = .slice q r.length cap := by
  obtain ⟨p, cap, e, _⟩ := Own.slice encN_len h
  exact ⟨p, cap, e⟩
theorem Own.built (w : World) : Own encN 1 3 w.heap.size (w.alloc (.cells #[] 3)) (.slice (some ⟨w.heap.size, 0, none⟩) 0 0) [] :=
  ⟨rfl, .inr ⟨w.heap.size, 0, #[], rfl, Nat.le_refl _, (MapKept.heap_alloc w _).1, Nat.le_refl _, Nat.zero_le _, rfl, rfl⟩⟩

theorem eql_nil (a : Option Addr) (l c : Nat) (W : World) : (binOp .eql 29 (.slice a l c) (.slice none 0 0)).run Try.prog W = .ok (.bool a.isNone) W := by
  simp only [binOp]
  simp [run_equal_slice_nil W 29 3 a l c Try.underlying29]
attribute [local go_sem] eql_nil
set_option maxHeartbeats 800000 in
theorem clone_any (l : List Nat) (v : Value) (w : World) (h : NatS w v l) (hl : l.length ≤ 1048576) :
    Calls Try.prog 30 #[v] w fun e w' => ∃ v', e = .returned v' ∧ Own encN 1 3 w.heap.size w' v' l ∧ ∃ n : ExtOf w, w' = n.val := by
  obtain ⟨i0, hi, hz0, hz1, hz2⟩ := info_parts infoI
  obtain ⟨p, cap, rfl, h1, h2, h3⟩ := SliceOf.form h
  have H := Lib.hid h
  clear h
  rcases p with _ | a
  · have hc := h3 rfl
    obtain rfl : l = [] := List.eq_nil_of_length_eq_zero (by omega)
    subst hc
    simp only [List.length_nil]
    go_enter Try.func30, Try.ntmps30
    go_wp2
    go_ret
    exact ⟨_, rfl, Own.nil _, ExtOf.of (by repeat' (first | (with_reducible exact Ext.refl _) | (with_reducible exact ExtOf.ext _) | (with_reducible refine Ext.trans ?_ (ExtOf.ext _)) | (with_reducible refine Ext.alloc ?_ _) | (with_reducible refine Ext.drew ?_) | (with_reducible refine Ext.setCell ?_ ?_ _) | (with_reducible refine Ext.setRow ?_ ?_ _) | (with_reducible exact HX.out) | (with_reducible refine Ext.trans ?_ HX.out) | (with_reducible refine Ext.below ?_ (Nat.le_refl _) _) | (simp; done) | (simp; omega)))⟩
  · go_enter Try.func30, Try.ntmps30
    go_wp2_with (at_builtin; refine wl_appendS (enc := encN) (k := 1) (E := 3) (base := w.heap.size) (l := []) (m := l) Try.underlying29 hi hz0 hz1 hz2 rfl (by decide) encN_len encN_one rfl rfl (Own.built w) (SliceOf.ext H.out (by repeat' (first | (with_reducible exact Ext.refl _) | (with_reducible exact ExtOf.ext _) | (with_reducible refine Ext.trans ?_ (ExtOf.ext _)) | (with_reducible refine Ext.alloc ?_ _) | (with_reducible refine Ext.drew ?_) | (with_reducible refine Ext.setCell ?_ ?_ _) | (with_reducible refine Ext.setRow ?_ ?_ _) | (with_reducible exact HX.out) | (with_reducible refine Ext.trans ?_ HX.out) | (with_reducible refine Ext.below ?_ (Nat.le_refl _) _) | (simp; done) | (simp; omega)))) (by simp; unfold maxLen; omega) (by simp; omega) (by simp) ?_; intro v' nb hown')
    go_ret
    exact ⟨_, rfl, by simpa using hown', ExtOf.of (by repeat' (first | (with_reducible exact Ext.refl _) | (with_reducible exact ExtOf.ext _) | (with_reducible refine Ext.trans ?_ (ExtOf.ext _)) | (with_reducible refine Ext.alloc ?_ _) | (with_reducible refine Ext.drew ?_) | (with_reducible refine Ext.setCell ?_ ?_ _) | (with_reducible refine Ext.setRow ?_ ?_ _) | (with_reducible exact HX.out) | (with_reducible refine Ext.trans ?_ HX.out) | (with_reducible refine Ext.below ?_ (Nat.le_refl _) _) | (simp; done) | (simp; omega)))⟩

set_option maxHeartbeats 800000 in
theorem unfilled_any (c least : List Nat) (v0 v1 : Value) (w : World) (h0 : NatS w v0 c) (h1 : NatS w v1 least) (hl : least.length = c.length) (hc : c.length ≤ 1048576) :
    Calls Try.prog 31 #[v0, v1] w fun e w' => e = .returned (.tuple #[.int .i64 (((short (nth c) (nth least) c.length).getD 0 : Nat) : Int), .bool (short (nth c) (nth least) c.length).isSome]) ∧ ∃ n : ExtOf w, w' = n.val := by
  obtain ⟨p0, cap0, rfl, hg1, hg2, hg3⟩ := SliceOf.form h0
  obtain ⟨p1, cap1, rfl, hg4, hg5, hg6⟩ := SliceOf.form h1
  have H0 := Lib.hid h0
  have H1 := Lib.hid h1
  clear h0 h1
  go_enter Try.func31, Try.ntmps31
  go_wp2
  go_loopw [10] (fun v wr => ∃ k : Nat, k ≤ c.length ∧ v = .int .i64 k ∧ (∀ j, j < k → decide (0 < nth c j ∧ nth c j < nth least j) = false) ∧ Ext w wr) (fun v _ => c.length - (intOf v).toNat)
  case atStart => exact ⟨0, by omega, rfl, (fun j h => by omega), Ext.refl _⟩
  case round =>
    obtain ⟨k, hk, rfl, hno, hx⟩ := hrel
    have HX := Lib.hid hx
    have HN := Lib.hid hno
    clear hx hno
    by_cases hlt : k < c.length
    · have hlt' : k < least.length := by omega
      obtain ⟨b0, off0, rfl, o0, c0⟩ := SliceOf.elem1 (SliceOf.ext H0.out HX.out) hlt rfl
      obtain ⟨b1, off1, rfl, o1, c1⟩ := SliceOf.elem1 (SliceOf.ext H1.out HX.out) hlt' rfl
      rw [← nth_eq hlt] at c0
      rw [← nth_eq hlt'] at c1
      rcases t1 : decide (0 < nth c k) with _ | _
      · have t1' : decide ((0 : Int) < (nth c k : Int)) = false := by simp at t1 ⊢; omega
        have HN2 := Lib.hid (lt_step (p := fun j => decide (0 < nth c j ∧ nth c j < nth least j)) HN.out (by simp at t1 ⊢; omega))
        generalize nth c k = ck at *
        go_wp2
        go_roundw
        case rel => exact ⟨k + 1, by omega, by go_num, HN2.out, by repeat' (first | (with_reducible exact Ext.refl _) | (with_reducible exact ExtOf.ext _) | (with_reducible refine Ext.trans ?_ (ExtOf.ext _)) | (with_reducible refine Ext.alloc ?_ _) | (with_reducible refine Ext.drew ?_) | (with_reducible refine Ext.setCell ?_ ?_ _) | (with_reducible refine Ext.setRow ?_ ?_ _) | (with_reducible exact HX.out) | (with_reducible refine Ext.trans ?_ HX.out) | (with_reducible refine Ext.below ?_ (Nat.le_refl _) _) | (simp; done) | (simp; omega))⟩
        case measure => simp [intOf]; omega
      · have t1' : decide ((0 : Int) < (nth c k : Int)) = true := by simp at t1 ⊢; omega
        rcases t2 : decide (nth c k < nth least k) with _ | _
        · have t2' : decide ((nth c k : Int) < (nth least k : Int)) = false := by simp at t2 ⊢; omega
          have HN2 := Lib.hid (lt_step (p := fun j => decide (0 < nth c j ∧ nth c j < nth least j)) HN.out (by simp at t2 ⊢; omega))
          generalize nth c k = ck at *
          generalize nth least k = lk at *
          go_wp2
          go_roundw
          case rel => exact ⟨k + 1, by omega, by go_num, HN2.out, by repeat' (first | (with_reducible exact Ext.refl _) | (with_reducible exact ExtOf.ext _) | (with_reducible refine Ext.trans ?_ (ExtOf.ext _)) | (with_reducible refine Ext.alloc ?_ _) | (with_reducible refine Ext.drew ?_) | (with_reducible refine Ext.setCell ?_ ?_ _) | (with_reducible refine Ext.setRow ?_ ?_ _) | (with_reducible exact HX.out) | (with_reducible refine Ext.trans ?_ HX.out) | (with_reducible refine Ext.below ?_ (Nat.le_refl _) _) | (simp; done) | (simp; omega))⟩
          case measure => simp [intOf]; omega
        · have t2' : decide ((nth c k : Int) < (nth least k : Int)) = true := by simp at t2 ⊢; omega
          have hs : short (nth c) (nth least) c.length = some k := find_range hlt (by simp at t1 t2 ⊢; omega) HN.out
          have HS := Lib.hid hs
          clear hs
          generalize hck : nth c k = ck at *
          generalize hlk : nth least k = lk at *
          clear hck hlk
          go_wp2
          refine bodyPost_ret (v := .tuple #[.int .i64 (k : Int), .bool true]) (by simp [results, Try.results31, go_sem]) rfl ?_
          rw [HS.out]
          refine ⟨rfl, ?_⟩
          exact ExtOf.of (by repeat' (first | (with_reducible exact Ext.refl _) | (with_reducible exact ExtOf.ext _) | (with_reducible refine Ext.trans ?_ (ExtOf.ext _)) | (with_reducible refine Ext.alloc ?_ _) | (with_reducible refine Ext.drew ?_) | (with_reducible refine Ext.setCell ?_ ?_ _) | (with_reducible refine Ext.setRow ?_ ?_ _) | (with_reducible exact HX.out) | (with_reducible refine Ext.trans ?_ HX.out) | (with_reducible refine Ext.below ?_ (Nat.le_refl _) _) | (simp; done) | (simp; omega)))
    · have hs : short (nth c) (nth least) c.length = none := find_none (fun j hj => HN.out j (by omega))
      have HS := Lib.hid hs
      clear hs
      go_wp2
      refine bodyPost_ret (v := .tuple #[.int .i64 0, .bool false]) (by simp [results, Try.results31, go_sem]) rfl ?_
      rw [HS.out]
      refine ⟨rfl, ?_⟩
      exact ExtOf.of (by repeat' (first | (with_reducible exact Ext.refl _) | (with_reducible exact ExtOf.ext _) | (with_reducible refine Ext.trans ?_ (ExtOf.ext _)) | (with_reducible refine Ext.alloc ?_ _) | (with_reducible refine Ext.drew ?_) | (with_reducible refine Ext.setCell ?_ ?_ _) | (with_reducible refine Ext.setRow ?_ ?_ _) | (with_reducible exact HX.out) | (with_reducible refine Ext.trans ?_ HX.out) | (with_reducible refine Ext.below ?_ (Nat.le_refl _) _) | (simp; done) | (simp; omega)))

end Go.Proofs.Ythchddkdcibbhaa
