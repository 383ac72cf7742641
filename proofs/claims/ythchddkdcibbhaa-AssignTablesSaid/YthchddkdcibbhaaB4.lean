/-
  The contracts of has and move.
-/
import Derived.Test.YthchddkdcibbhaaB3
import Derived.Test.YthchddkdcibbhaaA4
namespace Go.Proofs.Ythchddkdcibbhaa
open Go.RowKit AssignM

attribute [local go_sem] ExtOf.cell ExtOf.frozen Block.cell Block.frozen ExtB.cell ExtB.frozen alloc_cell alloc_frozen

set_option maxHeartbeats 800000 in
theorem has_any (C : Nat) (a : Mat) (v0 : Value) (gm bm : Nat) (fst : Int) (i k : Nat) (w : World) (hC : C ≤ 1048576) (hk : k < C) (hi : i ≤ 1048576) (hM : Block w gm #[v0, .map (some bm), .int .i64 fst]) (h1 : MapI C w bm a) :
    Calls Try.prog 53 #[.pointer (some ⟨gm, 0, none⟩), .int .i64 i, .int .i64 k] w fun e w' => e = .returned (.bool (decide (a k = some i))) ∧ ∃ n : ExtOf w, w' = n.val := by
  have H1 := Lib.hid h1
  clear h1
  have om := hM.old
  rcases t1 : a k with _ | j
  · have e : decide ((none : Option Nat) = some i) = false := by simp
    rw [e]
    go_enter Try.func53, Try.ntmps53
    go_wp2_with (at_lookup; refine wl_look_ok H1.out Try.underlying3 Try.underlying3 Try.underlying68 zeroI hk (by omega) rfl _ _ rfl rfl rfl ?_)
    go_ret
    refine ⟨rfl, ?_⟩
    exact ExtOf.of (by repeat' (first | (with_reducible exact Ext.refl _) | (with_reducible exact ExtOf.ext _) | (with_reducible refine Ext.trans ?_ (ExtOf.ext _)) | (with_reducible refine Ext.alloc ?_ _) | (with_reducible refine Ext.drew ?_) | (with_reducible refine Ext.setCell ?_ ?_ _) | (with_reducible refine Ext.setRow ?_ ?_ _) | (with_reducible exact HX.out) | (with_reducible refine Ext.trans ?_ HX.out) | (with_reducible refine Ext.below ?_ (Nat.le_refl _) _) | (simp; done) | (simp; omega)))
  · rcases t2 : decide (j = i) with _ | _
    · have e : decide (some j = some i) = false := by simpa using t2
      have e2 : ((j : Int) == (i : Int)) = false := by rw [beq_eq_false_iff_ne]; simp at t2; omega
      rw [e]
      go_enter Try.func53, Try.ntmps53
      go_wp2_with (at_lookup; refine wl_look_ok H1.out Try.underlying3 Try.underlying3 Try.underlying68 zeroI hk (by omega) rfl _ _ rfl rfl rfl ?_)
      go_ret
      refine ⟨rfl, ?_⟩
      exact ExtOf.of (by repeat' (first | (with_reducible exact Ext.refl _) | (with_reducible exact ExtOf.ext _) | (with_reducible refine Ext.trans ?_ (ExtOf.ext _)) | (with_reducible refine Ext.alloc ?_ _) | (with_reducible refine Ext.drew ?_) | (with_reducible refine Ext.setCell ?_ ?_ _) | (with_reducible refine Ext.setRow ?_ ?_ _) | (with_reducible exact HX.out) | (with_reducible refine Ext.trans ?_ HX.out) | (with_reducible refine Ext.below ?_ (Nat.le_refl _) _) | (simp; done) | (simp; omega)))
    · have e : decide (some j = some i) = true := by simpa using t2
      obtain rfl : j = i := by simpa using t2
      rw [e]
      clear e t2
      go_enter Try.func53, Try.ntmps53
      go_wp2_with (at_lookup; refine wl_look_ok H1.out Try.underlying3 Try.underlying3 Try.underlying68 zeroI hk (by omega) rfl _ _ rfl rfl rfl ?_)
      go_ret
      refine ⟨rfl, ?_⟩
      exact ExtOf.of (by repeat' (first | (with_reducible exact Ext.refl _) | (with_reducible exact ExtOf.ext _) | (with_reducible refine Ext.trans ?_ (ExtOf.ext _)) | (with_reducible refine Ext.alloc ?_ _) | (with_reducible refine Ext.drew ?_) | (with_reducible refine Ext.setCell ?_ ?_ _) | (with_reducible refine Ext.setRow ?_ ?_ _) | (with_reducible exact HX.out) | (with_reducible refine Ext.trans ?_ HX.out) | (with_reducible refine Ext.below ?_ (Nat.le_refl _) _) | (simp; done) | (simp; omega)))

theorem MapN.notcell {P : Program} {k e C b bm o : Nat} {w : World} {a : Mat} {u : Value} (h : MapN P k e C w bm a) (hc : w.cell? ⟨b, o, none⟩ = some u) : b ≠ bm := fun e => by
  subst e
  obtain ⟨D, ⟨es, cl, hh, _⟩, _⟩ := h
  simp [World.cell?, hh] at hc
theorem SliceOf.turn {α : Type} {enc : α → List Value} {n : Nat} {P : Program} {k e C bm : Nat} {w w' : World} {a : Mat} {v : Value} {l : List α} (h : SliceOf enc n w v l) (hm : MapN P k e C w bm a) (hT : Turn w w' bm) : SliceOf enc n w' v l := by
  obtain ⟨p, cap, e, h1, h2, h3, h4⟩ := h
  refine ⟨p, cap, e, h1, h2, h3, fun i x hi => ?_⟩
  obtain ⟨b, off, hp, hc⟩ := h4 i x hi
  refine ⟨b, off, hp, fun j u hj => ?_⟩
  have h5 := hc j u hj
  have hlt := World.block_lt_of_cell? w ⟨b, off + (i * n + j), none⟩ h5
  have h6 := hT.block b hlt (by simp; exact hm.notcell h5)
  rw [← h5]
  simp only [World.cell?]
  rw [h6]
theorem GridS.turn {P : Program} {k e C bm : Nat} {w w' : World} {a : Mat} {v : Value} {F : List (List Bool)} (h : GridS w v F) (hm : MapN P k e C w bm a) (hT : Turn w w' bm) : GridS w' v F := by
  obtain ⟨rs, h1, h2, h3⟩ := h
  exact ⟨rs, SliceOf.turn h1 hm hT, h2, fun i r l hr hl => SliceOf.turn (h3 i r l hr hl) hm hT⟩
/-- the map is as it was -/
theorem restored {a : Mat} {b f i now : Nat} (hab : a b = some now) (hbf : b < f) (hf : a f = some i) : upd (upd (upd (upd a b (some i)) f none) b (some now)) f (some i) = a := by
  funext m
  by_cases e1 : m = f
  · subst e1; rw [upd_same, hf]
  · rw [upd_other e1]
    by_cases e2 : m = b
    · subst e2; rw [upd_same, hab]
    · rw [upd_other e2, upd_other e1, upd_other e2]
set_option maxRecDepth 20000 in
set_option maxHeartbeats 1600000 in
theorem move_any (F : List (List Bool)) (C : Nat) (a : Mat) (v0 : Value) (gm bm b i : Nat) (w : World) (hR : F.length ≤ 1048576) (hC : C ≤ 1048576) (hF : Rect F F.length C) (hOk : Ok F F.length C a) (hb : b < C) (hi : i < F.length) (hfit : fit F i b = true) (hab : a b ≠ some i)
    (hM : Block w gm #[v0, .map (some bm), .int .i64 (b + 1 : Nat)]) (h1 : MapI C w bm a) (hG : GridS w v0 F) :
    Calls Try.prog 52 #[.pointer (some ⟨gm, 0, none⟩), .int .i64 b, .int .i64 i] w fun e w' => ∃ bb : Bool, e = .returned (.bool bb) ∧ ((bb = true ∧ ∃ t, Moved F F.length C b i a t ∧ MapI C w' bm t) ∨ (bb = false ∧ okFor F F.length C b (cnt C a b) i = false ∧ MapI C w' bm a)) ∧ Turn w w' bm := by
  have hcols := hF.first
  have HF := Lib.hid hF
  have HOK := Lib.hid hOk
  have H1 := Lib.hid h1
  have HG := Lib.hid hG
  have HFIT := Lib.hid hfit
  have HAB := Lib.hid hab
  have ogm := hM.old
  have hgm : gm ≠ bm := fun e => by
    subst e
    obtain ⟨t, ht⟩ := hM.get
    obtain ⟨D, ⟨es, cl, hh, _⟩, _⟩ := h1
    rw [hh] at ht; cases ht
  clear hF hOk h1 hG hfit hab
  go_enter Try.func52, Try.ntmps52
  go_wp2
  go_loopw [7] (fun v wr => ∃ f : Nat, v = .int .i64 f ∧ b < f ∧ f ≤ C ∧ (∀ k, b < k → k < f → a k ≠ some i) ∧ Ext w wr) (fun v _ => C - (intOf v).toNat)
  case atStart => exact ⟨b + 1, by go_num, by omega, by omega, (fun k h1 h2 => by omega), Ext.refl _⟩
  case round =>
    obtain ⟨f, rfl, hbf, hfC, hno, hx⟩ := hrel
    have HNO := Lib.hid hno
    clear hno
    have hMr := hM.ext hx
    have ogr := hMr.old
    go_wp2_with fail
    refine (columns_any _ F _ (HG.out.ext hx) (by omega)).mono ?_
    rintro e w' ⟨rfl, n, rfl⟩
    rw [hcols]
    have HX := Lib.hid (hx.trans n.ext)
    clear hx hMr ogr
    generalize n.val = W2 at *
    clear n
    have hM2 := hM.ext HX.out
    have og2 := hM2.old
    by_cases hlt : f < C
    · rcases t1 : decide (a f = some i) with _ | _
      · go_wp2_with fail
        refine (has_any C a _ gm bm _ i f _ hC hlt (by omega) hM2 (H1.out.ext HX.out)).mono ?_
        rintro e w' ⟨rfl, n, rfl⟩
        rw [t1]
        go_wp2
        go_roundw
        case rel => exact ⟨f + 1, by go_num, by omega, by omega, (fun k h1 h2 => by rcases Nat.lt_or_ge k f with h | h; exact HNO.out k h1 h; obtain rfl : k = f := (by omega); simpa using t1), HX.out.trans n.ext⟩
        case measure => simp [intOf]; omega
      · have HAF : Hid (a f = some i) := Lib.hid (by simpa using t1)
        go_wp2_with fail
        refine (has_any C a _ gm bm _ i f _ hC hlt (by omega) hM2 (H1.out.ext HX.out)).mono ?_
        rintro e w' ⟨rfl, n, rfl⟩
        rw [t1]
        have HX3 := Lib.hid (HX.out.trans n.ext)
        clear hM2 og2
        generalize n.val = W3 at *
        clear n HX t1
        have hM3 := hM.ext HX3.out
        have og3 := hM3.old
        have hne : ((f : Int) == (C : Int)) = false := by rw [beq_eq_false_iff_ne]; omega
        go_wp2_with fail
        refine (columns_any _ F _ (HG.out.ext HX3.out) (by omega)).mono ?_
        rintro e w' ⟨rfl, n, rfl⟩
        rw [hcols]
        have HX4 := Lib.hid (HX3.out.trans n.ext)
        clear hM3 og3
        generalize n.val = W4 at *
        clear n HX3
        have hM4 := hM.ext HX4.out
        have og4 := hM4.old
        have HT4 : Hid (MapI C W4 bm a) := Lib.hid (H1.out.ext HX4.out)
        rcases t2 : a b with _ | now
        · go_wp2_with (first | (at_lookup; refine wl_look_ok HT4.out Try.underlying3 Try.underlying3 Try.underlying68 zeroI hb (by omega) rfl _ _ rfl rfl rfl ?_) | ((at_mapUpdate; refine wl_mput HT4.out Try.underlying3 Try.underlying3 Try.underlying68 hb (by omega) (by omega) rfl _ _ _ rfl rfl rfl rfl ?_); intro w5 hm5 ht5; have hM5 := ht5.blk hM4 hgm; have og5 := hM5.old; have HT5 := Lib.hid hm5; have HX5 := Lib.hid ht5; clear hm5 ht5) | ((at_delete; refine wl_mdel HT5.out Try.underlying3 Try.underlying68 hlt (by omega) rfl _ _ rfl rfl rfl ?_); intro w6 hm6 ht6; have hM6 := ht6.blk hM5 hgm; have og6 := hM6.old; have HT6 := Lib.hid hm6; have HX6 := Lib.hid ht6; clear hm6 ht6))
          go_ret
          exact ⟨true, rfl, .inl ⟨rfl, _, Moved.free HOK.out hb hi HFIT.out t2 hbf HAF.out, HT6.out⟩, ((Turn.of_ext HX4.out).trans HX5.out).trans HX6.out⟩
        · have hnow : i ≠ now := fun e => HAB.out (by rw [t2, e])
          have hnR := (HOK.out.at_ b now t2).2.1
          go_wp2_with (first | (at_lookup; refine wl_look_ok HT4.out Try.underlying3 Try.underlying3 Try.underlying68 zeroI hb (by omega) rfl _ _ rfl rfl rfl ?_) | ((at_mapUpdate; refine wl_mput HT4.out Try.underlying3 Try.underlying3 Try.underlying68 hb (by omega) (by omega) rfl _ _ _ rfl rfl rfl rfl ?_); intro w5 hm5 ht5; have hM5 := ht5.blk hM4 hgm; have og5 := hM5.old; have HT5 := Lib.hid hm5; have HX5 := Lib.hid ht5; clear hm5 ht5) | ((at_delete; refine wl_mdel HT5.out Try.underlying3 Try.underlying68 hlt (by omega) rfl _ _ rfl rfl rfl ?_); intro w6 hm6 ht6; have hM6 := ht6.blk hM5 hgm; have og6 := hM6.old; have HT6 := Lib.hid hm6; have HX6 := Lib.hid ht6; clear hm6 ht6))
          have HG6 : Hid (GridS w6 v0 F) := Lib.hid (((HG.out.ext HX4.out).turn HT4.out HX5.out).turn HT5.out HX6.out)
          refine (extend_any F F.length C (b + 1) now _ v0 gm bm w6 hR hC (by omega) hnR HF.out (swap_ok HOK.out hb hi HFIT.out) hM6 HT6.out HG6.out).mono ?_
          rintro e w' ⟨bb, rfl, hcase, hT⟩
          have hM7 := hT.blk hM6 hgm
          have og7 := hM7.old
          have HT7 : Hid (Turn w w' bm) := Lib.hid ((((Turn.of_ext HX4.out).trans HX5.out).trans HX6.out).trans hT)
          clear hT
          rcases hcase with ⟨rfl, t, hone, hmt⟩ | ⟨rfl, hnf, hmt⟩
          · have HO := Lib.hid hone
            have HMT := Lib.hid hmt
            clear hone hmt
            go_wp2
            go_ret
            exact ⟨true, rfl, .inl ⟨rfl, t, Moved.taken HOK.out hb t2 hnow hbf HAF.out HO.out.ok HO.out.cnts HO.out.low, HMT.out⟩, HT7.out⟩
          · have HN := Lib.hid (not_okFor HOK.out hb t2 hnow hbf HAF.out hnf)
            have HMT := Lib.hid hmt
            clear hmt hnf
            go_wp2_with (first | ((at_mapUpdate; refine wl_mput HMT.out Try.underlying3 Try.underlying3 Try.underlying68 hb (by omega) (by omega) rfl _ _ _ rfl rfl rfl rfl ?_); intro w8 hm8 ht8; have hM8 := ht8.blk hM7 hgm; have og8 := hM8.old; have HT8 := Lib.hid hm8; have HX8 := Lib.hid ht8; clear hm8 ht8) | ((at_mapUpdate; refine wl_mput HT8.out Try.underlying3 Try.underlying3 Try.underlying68 hlt (by omega) (by omega) rfl _ _ _ rfl rfl rfl rfl ?_); intro w9 hm9 ht9; have hM9 := ht9.blk hM8 hgm; have og9 := hM9.old; have HT9 := Lib.hid hm9; have HX9 := Lib.hid ht9; clear hm9 ht9))
            go_ret
            refine ⟨false, rfl, .inr ⟨rfl, HN.out, ?_⟩, (HT7.out.trans HX8.out).trans HX9.out⟩
            have := HT9.out
            rwa [restored t2 hbf HAF.out] at this
    · obtain rfl : f = C := by omega
      have hNO := not_okFor_none (F := F) (R := F.length) hb HAB.out (fun k h1 h2 => HNO.out k h1 h2)
      have HN := Lib.hid hNO
      clear hNO
      go_wp2_with fail
      refine (columns_any _ F _ (HG.out.ext HX.out) (by omega)).mono ?_
      rintro e w' ⟨rfl, n, rfl⟩
      rw [hcols]
      go_wp2
      go_ret
      exact ⟨false, rfl, .inr ⟨rfl, HN.out, H1.out.ext (HX.out.trans n.ext)⟩, Turn.of_ext (HX.out.trans n.ext)⟩

end Go.Proofs.Ythchddkdcibbhaa
