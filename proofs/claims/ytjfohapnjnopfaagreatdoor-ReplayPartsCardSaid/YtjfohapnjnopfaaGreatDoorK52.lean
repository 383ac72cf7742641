/-
  Chapter 61: several texts in one (R52, R53).
-/
import Derived.Test.YtjfohapnjnopfaaGreatDoorK49
/-
  Chapter 61: the reference's check of a scan: it returns.
-/
section
set_option linter.unusedVariables false
set_option linter.unusedSimpArgs false
namespace Go.Proofs.YtjfohapnjnopfaaGreatDoor
open Go.RowKit Go.WideShapes RepM

attribute [local go_sem] ExtOf.cell ExtOf.frozen ExtS.cell ExtS.frozen Block.cell Block.frozen ExtB.cell ExtB.frozen alloc_cell alloc_frozen
/-- rings -/
def encG (g : Int × SlT) : List Value := [.int .i64 g.1, g.2.v]
theorem encG_len (g : Int × SlT) : (encG g).length = 2 := rfl
theorem encG_one : ∀ x : Int × SlT, ∀ u ∈ encG x, u.oneCell' = true := by
  intro x u hu
  simp [encG] at hu
  rcases hu with rfl | rfl <;> rfl
/-- a slice reads as rings, whose readings are readings -/
structure RingsS (w : World) (v : Value) (gs : List (Int × SlT)) : Prop where
  rows : SliceOf encG 2 w v gs
  reads : ∀ g ∈ gs, ∃ rs, SliceOf encR 3 w g.2.v rs
theorem RingsS.ext {w w' : World} {v : Value} {gs : List (Int × SlT)} (h : RingsS w v gs) (hx : Ext w w') : RingsS w' v gs := ⟨h.rows.ext hx, fun g hg => by obtain ⟨rs, hr⟩ := h.reads g hg; exact ⟨rs, hr.ext hx⟩⟩
theorem G.elem {w : World} {p : Option Addr} {n cap : Nat} {gs : List (Int × SlT)} (h : SliceOf encG 2 w (.slice p n cap) gs) {i : Nat} (hi : i < gs.length) : ∃ b off, p = some ⟨b, off, none⟩ ∧ w.rangeAt b (off + i * 2) [.int .i64 (gs[i]).1, (gs[i]).2.v] := SliceOf.elemK h hi
set_option maxHeartbeats 3200000 in
set_option maxRecDepth 20000 in
theorem check15_any (vr vd : Value) (gs : List (Int × SlT)) (ds : List DfT) (w : World) (hr : RingsS w vr gs) (hd : SliceOf encDf 7 w vd ds) : Calls Tryz.prog 96 #[.agg #[vr, vd]] w (SomeR w) := by
  obtain ⟨p, cap, rfl, hc1, hc2, hc3⟩ := SliceOf.form hr.rows
  obtain ⟨pd, cd, rfl, hd1, hd2, hd3⟩ := SliceOf.form hd
  unfold maxLen at hc2 hd2
  have HR := Lib.hid hr
  have HD := Lib.hid hd
  clear hr hd
  by_cases h2 : gs.length < 2
  · have d1 : decide ((gs.length : Int) < 2) = true := decide_eq_true (by omega)
    go_enter Tryz.func96, Tryz.ntmps96
    go_wp2_with (first | ((with_reducible apply wl_store' lwScan); (· (first | exact wanted_none rfl | exact wanted_some rfl rfl rfl)); (· rfl); (· rfl); (· infer_instance); (· rfl); (· rfl); (· (simp [Value.oneCell', SlT.v])); try simp only [setRow_alloc, setRow_new, setRow_new1, setRow_new2, setRow_new11, setRow_new111]) | ((with_reducible apply wl_load' lwScan); (· (first | exact wanted_none rfl | exact wanted_some rfl rfl rfl)); (· rfl); (· infer_instance); (· rfl)))
    (go_ret; exact ⟨⟨_, rfl⟩, by exact ExtOf.of (by repeat' (first | (with_reducible exact Ext.refl _) | (with_reducible exact ExtOf.ext _) | (with_reducible refine Ext.trans ?_ (ExtOf.ext _)) | (with_reducible refine Ext.alloc ?_ _) | (with_reducible refine Ext.drew ?_) | (with_reducible refine Ext.setCell ?_ ?_ _) | (with_reducible refine Ext.setRow ?_ ?_ _) | (with_reducible exact HX.out) | (with_reducible refine Ext.trans ?_ HX.out) | (with_reducible refine Ext.below ?_ (Nat.le_refl _) _) | omega | (simp; done) | (simp; omega)))⟩)
  have d1 : decide ((gs.length : Int) < 2) = false := decide_eq_false (by omega)
  by_cases h24 : 24 < gs.length
  · have d2 : decide (24 < (gs.length : Int)) = true := decide_eq_true (by omega)
    go_enter Tryz.func96, Tryz.ntmps96
    go_wp2_with (first | ((with_reducible apply wl_store' lwScan); (· (first | exact wanted_none rfl | exact wanted_some rfl rfl rfl)); (· rfl); (· rfl); (· infer_instance); (· rfl); (· rfl); (· (simp [Value.oneCell', SlT.v])); try simp only [setRow_alloc, setRow_new, setRow_new1, setRow_new2, setRow_new11, setRow_new111]) | ((with_reducible apply wl_load' lwScan); (· (first | exact wanted_none rfl | exact wanted_some rfl rfl rfl)); (· rfl); (· infer_instance); (· rfl)))
    (go_ret; exact ⟨⟨_, rfl⟩, by exact ExtOf.of (by repeat' (first | (with_reducible exact Ext.refl _) | (with_reducible exact ExtOf.ext _) | (with_reducible refine Ext.trans ?_ (ExtOf.ext _)) | (with_reducible refine Ext.alloc ?_ _) | (with_reducible refine Ext.drew ?_) | (with_reducible refine Ext.setCell ?_ ?_ _) | (with_reducible refine Ext.setRow ?_ ?_ _) | (with_reducible exact HX.out) | (with_reducible refine Ext.trans ?_ HX.out) | (with_reducible refine Ext.below ?_ (Nat.le_refl _) _) | omega | (simp; done) | (simp; omega)))⟩)
  have d2 : decide (24 < (gs.length : Int)) = false := decide_eq_false (by omega)
  obtain ⟨b, off, rfl, hr0⟩ := G.elem HR.out.rows (i := 0) (by omega)
  obtain ⟨⟨z0, ⟨q0, n0, m0⟩⟩, he0⟩ : ∃ g, g = gs[0] := ⟨_, rfl⟩
  rw [← he0] at hr0
  have hc0 : w.cell? ⟨b, off + 1, none⟩ = some (.slice q0 n0 m0) := by have := hr0 1 _ rfl; simpa [SlT.v] using this
  have ob0 := Old.of_cell hc0
  have HC0 := Lib.hid hc0
  clear hr0 he0 hc0
  go_enter Tryz.func96, Tryz.ntmps96
  go_wp2_with (first | ((with_reducible apply wl_store' lwScan); (· (first | exact wanted_none rfl | exact wanted_some rfl rfl rfl)); (· rfl); (· rfl); (· infer_instance); (· rfl); (· rfl); (· (simp [Value.oneCell', SlT.v])); try simp only [setRow_alloc, setRow_new, setRow_new1, setRow_new2, setRow_new11, setRow_new111]) | ((with_reducible apply wl_load' lwScan); (· (first | exact wanted_none rfl | exact wanted_some rfl rfl rfl)); (· rfl); (· infer_instance); (· rfl)))
  go_loopw [3, 4] (fun vl vi wr => ∃ (last : Int) (k : Nat), k ≤ gs.length ∧ vl = .int .i64 last ∧ vi = .int .i64 k ∧ Block wr w.heap.size #[.slice (some ⟨b, off, none⟩) gs.length cap, .slice pd ds.length cd] ∧ Ext w wr) (fun _ i _ => gs.length - (intOf i).toNat)
  case atStart => exact ⟨0, 0, by omega, rfl, rfl, inferInstance, by repeat' (first | (with_reducible exact Ext.refl _) | (with_reducible exact ExtOf.ext _) | (with_reducible refine Ext.trans ?_ (ExtOf.ext _)) | (with_reducible refine Ext.alloc ?_ _) | (with_reducible refine Ext.drew ?_) | (with_reducible refine Ext.setCell ?_ ?_ _) | (with_reducible refine Ext.setRow ?_ ?_ _) | (with_reducible exact HX.out) | (with_reducible refine Ext.trans ?_ HX.out) | (with_reducible refine Ext.below ?_ (Nat.le_refl _) _) | omega | (simp; done) | (simp; omega))⟩
  case round =>
    obtain ⟨last, k, hk, rfl, rfl, hb, hx⟩ := hrel
    have HX := Lib.hid hx
    clear hx
    by_cases hlt : k < gs.length
    · obtain ⟨b', off', e', hr⟩ := G.elem (SliceOf.ext HR.out.rows HX.out) hlt
      cases e'
      obtain ⟨rs, hrs⟩ := HR.out.reads _ (List.getElem_mem hlt)
      obtain ⟨⟨z, ⟨q, n, m⟩⟩, he⟩ : ∃ g, g = gs[k] := ⟨_, rfl⟩
      rw [← he] at hr hrs
      simp only [SlT.v] at hr hrs
      have HR1 : Hid (wr.rangeAt b (off + k * 2) [.int .i64 z, .slice q n m]) := Lib.hid hr
      have HK := Lib.hid (fun W (hx : Ext w W) => check12_any z _ rs W (hrs.ext hx))
      have hc1 : wr.cell? ⟨b, off + 1, none⟩ = some (.slice q0 n0 m0) := HX.out.cell HC0.out
      have ob1 := Old.of_cell hc1
      clear hr hrs he
      by_cases hk0 : k = 0
      · subst hk0
        go_upto_region 15 with (first | ((with_reducible refine wl_loadM midRing (Ext.range ?_ (Hid.out HR1)) ?_ ?_ ?_ ?_); (· repeat' (first | (with_reducible exact Ext.refl _) | (with_reducible exact ExtOf.ext _) | (with_reducible refine Ext.trans ?_ (ExtOf.ext _)) | (with_reducible refine Ext.alloc ?_ _) | (with_reducible refine Ext.drew ?_) | (with_reducible refine Ext.setCell ?_ ?_ _) | (with_reducible refine Ext.setRow ?_ ?_ _) | (with_reducible exact HX.out) | (with_reducible refine Ext.trans ?_ HX.out) | (with_reducible refine Ext.below ?_ (Nat.le_refl _) _) | omega | (simp; done) | (simp; omega))); (· rfl); (· (first | exact wanted_none rfl | exact wanted_some rfl rfl rfl)); (· rfl)) | ((with_reducible apply wl_store' lwRing); (· (first | exact wanted_none rfl | exact wanted_some rfl rfl rfl)); (· rfl); (· rfl); (· infer_instance); (· rfl); (· rfl); (· (simp [Value.oneCell', SlT.v])); try simp only [setRow_alloc, setRow_new, setRow_new1, setRow_new2, setRow_new11, setRow_new111]) | ((with_reducible apply wl_load' lwRing); (· (first | exact wanted_none rfl | exact wanted_some rfl rfl rfl)); (· rfl); (· infer_instance); (· rfl)) | (go_at_call 117; refine (HK.out _ (HX.out.trans (by repeat' (first | (with_reducible exact Ext.refl _) | (with_reducible exact ExtOf.ext _) | (with_reducible refine Ext.trans ?_ (ExtOf.ext _)) | (with_reducible refine Ext.alloc ?_ _) | (with_reducible refine Ext.drew ?_) | (with_reducible refine Ext.setCell ?_ ?_ _) | (with_reducible refine Ext.setRow ?_ ?_ _) | (with_reducible exact HX.out) | (with_reducible refine Ext.trans ?_ HX.out) | (with_reducible refine Ext.below ?_ (Nat.le_refl _) _) | omega | (simp; done) | (simp; omega))))).mono ?_; rintro en w' ⟨⟨cc, rfl⟩, n1, rfl⟩))
        all_goals first
          | (go_ret; exact ⟨⟨_, rfl⟩, ExtOf.of (HX.out.trans (by repeat' (first | (with_reducible exact Ext.refl _) | (with_reducible exact ExtOf.ext _) | (with_reducible refine Ext.trans ?_ (ExtOf.ext _)) | (with_reducible refine Ext.alloc ?_ _) | (with_reducible refine Ext.drew ?_) | (with_reducible refine Ext.setCell ?_ ?_ _) | (with_reducible refine Ext.setRow ?_ ?_ _) | (with_reducible exact HX.out) | (with_reducible refine Ext.trans ?_ HX.out) | (with_reducible refine Ext.below ?_ (Nat.le_refl _) _) | omega | (simp; done) | (simp; omega))))⟩)
          | (refine wp_region_ext (by kernel_rfl) (by kernel_rfl) ?_
             repeat (first | go_big_quiet_skip | go_big_quiet_step (fail))
             refine wpQuiet_nil ?_
             intro _ hw'
             obtain ⟨nq, hw''⟩ := hw'
             subst hw''
             go_wp2_with fail
             all_goals first
               | (go_ret; exact ⟨⟨_, rfl⟩, ExtOf.of (HX.out.trans (by repeat' (first | (with_reducible exact Ext.refl _) | (with_reducible exact ExtOf.ext _) | (with_reducible refine Ext.trans ?_ (ExtOf.ext _)) | (with_reducible refine Ext.alloc ?_ _) | (with_reducible refine Ext.drew ?_) | (with_reducible refine Ext.setCell ?_ ?_ _) | (with_reducible refine Ext.setRow ?_ ?_ _) | (with_reducible exact HX.out) | (with_reducible refine Ext.trans ?_ HX.out) | (with_reducible refine Ext.below ?_ (Nat.le_refl _) _) | omega | (simp; done) | (simp; omega))))⟩)
               | (go_roundw
                  case rel => exact ⟨_, 0 + 1, by omega, by first | rfl | go_num, by first | rfl | go_num, inferInstance, HX.out.trans (by repeat' (first | (with_reducible exact Ext.refl _) | (with_reducible exact ExtOf.ext _) | (with_reducible refine Ext.trans ?_ (ExtOf.ext _)) | (with_reducible refine Ext.alloc ?_ _) | (with_reducible refine Ext.drew ?_) | (with_reducible refine Ext.setCell ?_ ?_ _) | (with_reducible refine Ext.setRow ?_ ?_ _) | (with_reducible exact HX.out) | (with_reducible refine Ext.trans ?_ HX.out) | (with_reducible refine Ext.below ?_ (Nat.le_refl _) _) | omega | (simp; done) | (simp; omega)))⟩
                  case measure => first | (simp [intOf]; done) | (simp [intOf]; omega)))
      · have k1 : ((k : Int) == 0) = false := beq_eq_false_iff_ne.2 (by omega)
        have k2 : decide (0 < (k : Int)) = true := decide_eq_true (by omega)
        go_upto_region 15 with (first | ((with_reducible refine wl_loadM midRing (Ext.range ?_ (Hid.out HR1)) ?_ ?_ ?_ ?_); (· repeat' (first | (with_reducible exact Ext.refl _) | (with_reducible exact ExtOf.ext _) | (with_reducible refine Ext.trans ?_ (ExtOf.ext _)) | (with_reducible refine Ext.alloc ?_ _) | (with_reducible refine Ext.drew ?_) | (with_reducible refine Ext.setCell ?_ ?_ _) | (with_reducible refine Ext.setRow ?_ ?_ _) | (with_reducible exact HX.out) | (with_reducible refine Ext.trans ?_ HX.out) | (with_reducible refine Ext.below ?_ (Nat.le_refl _) _) | omega | (simp; done) | (simp; omega))); (· rfl); (· (first | exact wanted_none rfl | exact wanted_some rfl rfl rfl)); (· rfl)) | ((with_reducible apply wl_store' lwRing); (· (first | exact wanted_none rfl | exact wanted_some rfl rfl rfl)); (· rfl); (· rfl); (· infer_instance); (· rfl); (· rfl); (· (simp [Value.oneCell', SlT.v])); try simp only [setRow_alloc, setRow_new, setRow_new1, setRow_new2, setRow_new11, setRow_new111]) | ((with_reducible apply wl_load' lwRing); (· (first | exact wanted_none rfl | exact wanted_some rfl rfl rfl)); (· rfl); (· infer_instance); (· rfl)) | (go_at_call 117; refine (HK.out _ (HX.out.trans (by repeat' (first | (with_reducible exact Ext.refl _) | (with_reducible exact ExtOf.ext _) | (with_reducible refine Ext.trans ?_ (ExtOf.ext _)) | (with_reducible refine Ext.alloc ?_ _) | (with_reducible refine Ext.drew ?_) | (with_reducible refine Ext.setCell ?_ ?_ _) | (with_reducible refine Ext.setRow ?_ ?_ _) | (with_reducible exact HX.out) | (with_reducible refine Ext.trans ?_ HX.out) | (with_reducible refine Ext.below ?_ (Nat.le_refl _) _) | omega | (simp; done) | (simp; omega))))).mono ?_; rintro en w' ⟨⟨cc, rfl⟩, n1, rfl⟩))
        all_goals first
          | (go_ret; exact ⟨⟨_, rfl⟩, ExtOf.of (HX.out.trans (by repeat' (first | (with_reducible exact Ext.refl _) | (with_reducible exact ExtOf.ext _) | (with_reducible refine Ext.trans ?_ (ExtOf.ext _)) | (with_reducible refine Ext.alloc ?_ _) | (with_reducible refine Ext.drew ?_) | (with_reducible refine Ext.setCell ?_ ?_ _) | (with_reducible refine Ext.setRow ?_ ?_ _) | (with_reducible exact HX.out) | (with_reducible refine Ext.trans ?_ HX.out) | (with_reducible refine Ext.below ?_ (Nat.le_refl _) _) | omega | (simp; done) | (simp; omega))))⟩)
          | (refine wp_region_ext (by kernel_rfl) (by kernel_rfl) ?_
             repeat (first | go_big_quiet_skip | go_big_quiet_step (fail))
             refine wpQuiet_nil ?_
             intro _ hw'
             obtain ⟨nq, hw''⟩ := hw'
             subst hw''
             go_wp2_with fail
             all_goals first
               | (go_ret; exact ⟨⟨_, rfl⟩, ExtOf.of (HX.out.trans (by repeat' (first | (with_reducible exact Ext.refl _) | (with_reducible exact ExtOf.ext _) | (with_reducible refine Ext.trans ?_ (ExtOf.ext _)) | (with_reducible refine Ext.alloc ?_ _) | (with_reducible refine Ext.drew ?_) | (with_reducible refine Ext.setCell ?_ ?_ _) | (with_reducible refine Ext.setRow ?_ ?_ _) | (with_reducible exact HX.out) | (with_reducible refine Ext.trans ?_ HX.out) | (with_reducible refine Ext.below ?_ (Nat.le_refl _) _) | omega | (simp; done) | (simp; omega))))⟩)
               | (go_roundw
                  case rel => exact ⟨_, k + 1, by omega, by first | rfl | go_num, by first | rfl | go_num, inferInstance, HX.out.trans (by repeat' (first | (with_reducible exact Ext.refl _) | (with_reducible exact ExtOf.ext _) | (with_reducible refine Ext.trans ?_ (ExtOf.ext _)) | (with_reducible refine Ext.alloc ?_ _) | (with_reducible refine Ext.drew ?_) | (with_reducible refine Ext.setCell ?_ ?_ _) | (with_reducible refine Ext.setRow ?_ ?_ _) | (with_reducible exact HX.out) | (with_reducible refine Ext.trans ?_ HX.out) | (with_reducible refine Ext.below ?_ (Nat.le_refl _) _) | omega | (simp; done) | (simp; omega)))⟩
                  case measure => first | (simp [intOf]; done) | (simp [intOf]; omega)))
    · obtain rfl : k = gs.length := by omega
      go_wp2_with (first | (go_at_call 118; refine (check13_any _ ds _ (HD.out.ext (HX.out.trans (by repeat' (first | (with_reducible exact Ext.refl _) | (with_reducible exact ExtOf.ext _) | (with_reducible refine Ext.trans ?_ (ExtOf.ext _)) | (with_reducible refine Ext.alloc ?_ _) | (with_reducible refine Ext.drew ?_) | (with_reducible refine Ext.setCell ?_ ?_ _) | (with_reducible refine Ext.setRow ?_ ?_ _) | (with_reducible exact HX.out) | (with_reducible refine Ext.trans ?_ HX.out) | (with_reducible refine Ext.below ?_ (Nat.le_refl _) _) | omega | (simp; done) | (simp; omega)))))).mono ?_; rintro en w' ⟨⟨cc, rfl⟩, n1, rfl⟩))
      all_goals first
        | (go_ret; exact ⟨⟨_, rfl⟩, ExtOf.of (HX.out.trans (by repeat' (first | (with_reducible exact Ext.refl _) | (with_reducible exact ExtOf.ext _) | (with_reducible refine Ext.trans ?_ (ExtOf.ext _)) | (with_reducible refine Ext.alloc ?_ _) | (with_reducible refine Ext.drew ?_) | (with_reducible refine Ext.setCell ?_ ?_ _) | (with_reducible refine Ext.setRow ?_ ?_ _) | (with_reducible exact HX.out) | (with_reducible refine Ext.trans ?_ HX.out) | (with_reducible refine Ext.below ?_ (Nat.le_refl _) _) | omega | (simp; done) | (simp; omega))))⟩)
        | skip
      have hb1 : Block n1.val w.heap.size #[.slice (some ⟨b, off, none⟩) gs.length cap, .slice pd ds.length cd] := inferInstance
      have HX1 := Lib.hid (HX.out.trans n1.ext)
      generalize n1.val = W1 at *
      clear HX hb
      go_loopw [8] (fun vi wr => ∃ k : Nat, k ≤ ds.length ∧ vi = .int .i64 k ∧ Block wr w.heap.size #[.slice (some ⟨b, off, none⟩) gs.length cap, .slice pd ds.length cd] ∧ Ext w wr) (fun i _ => ds.length - (intOf i).toNat)
      case atStart => exact ⟨0, by omega, rfl, hb1, HX1.out⟩
      case round =>
        obtain ⟨k, hk, rfl, hb, hx⟩ := hrel
        have HX := Lib.hid hx
        clear hx
        by_cases hlt : k < ds.length
        · obtain ⟨bd, od, rfl, hr⟩ := SliceOf.elemK (SliceOf.ext HD.out HX.out) hlt
          have hc6 : wr.cell? ⟨bd, od + k * 7 + 6, none⟩ = some (.int .i64 (ds[k]).2.2.2.2.2.2) := hr 6 _ rfl
          have ob6 := Old.of_cell hc6
          generalize (ds[k]).2.2.2.2.2.2 = x6 at *
          clear hr
          go_wp2_with fail
          all_goals first
            | (go_ret; exact ⟨⟨_, rfl⟩, ExtOf.of HX.out⟩)
            | (go_roundw
               case rel => exact ⟨k + 1, by omega, by first | rfl | go_num, hb, HX.out⟩
               case measure => simp [intOf]; omega)
        · obtain rfl : k = ds.length := by omega
          go_wp2_with fail
          (go_ret; exact ⟨⟨_, rfl⟩, ExtOf.of HX.out⟩)
end Go.Proofs.YtjfohapnjnopfaaGreatDoor
end
/-
  Chapter 61: a scan is read: ground.
-/
section
set_option linter.unusedVariables false
set_option linter.unusedSimpArgs false
namespace Go.Proofs.YtjfohapnjnopfaaGreatDoor
open Go.RowKit Go.WideShapes RepM

/-- rings in a slice of the call's own, whose readings lie elsewhere -/
structure GsS (base : Nat) (w : World) (v : Value) (gs : List (Int × SlT)) : Prop where
  own : Own encG 2 98 base w v gs
  reads : ∀ g ∈ gs, ∃ rs, SliceOf encR 3 w g.2.v rs
  apart : ∀ g ∈ gs, ∀ q, g.2.p = some q → base ≤ q.block ∧ q.block < w.heap.size ∧ v.ownBlock ≠ some q.block
theorem GsS.nil {base : Nat} {w : World} : GsS base w (.slice none 0 0) [] := ⟨Own.nil _, fun x h => by simp at h, fun x h => by simp at h⟩
theorem GsS.ext {base : Nat} {w w' : World} {v : Value} {gs : List (Int × SlT)} (h : GsS base w v gs) (hx : Ext w w') : GsS base w' v gs := ⟨h.own.ext hx, fun g hg => by obtain ⟨rs, hr⟩ := h.reads g hg; exact ⟨rs, hr.ext hx⟩, fun g hg q hq => ⟨(h.apart g hg q hq).1, Nat.lt_of_lt_of_le (h.apart g hg q hq).2.1 hx.size, (h.apart g hg q hq).2.2⟩⟩
theorem SliceOf.heapB {α : Type} {enc : α → List Value} {k : Nat} {w w' : World} {p : Option Addr} {n cap : Nat} {l : List α} (h : SliceOf enc k w (.slice p n cap) l) (hh : ∀ a, p = some a → w'.heap[a.block]? = w.heap[a.block]?) : SliceOf enc k w' (.slice p n cap) l := by
  obtain ⟨p', cap', e, h1, h2, h3, h4⟩ := h
  refine ⟨p', cap', e, h1, h2, h3, fun i x hi => ?_⟩
  obtain ⟨b, off, hp, hc⟩ := h4 i x hi
  simp only [Value.slice.injEq] at e
  obtain ⟨rfl, _, _⟩ := e
  refine ⟨b, off, hp, fun j u hj => ?_⟩
  have := hh _ hp
  rw [← hc j u hj]
  simp only [World.cell?]
  rw [this]
theorem GsS.low {base : Nat} {w w' : World} {v : Value} {gs : List (Int × SlT)} (h : GsS base w v gs) (hh : ∀ q, base ≤ q → w'.heap[q]? = w.heap[q]?) (hsz : w.heap.size ≤ w'.heap.size) : GsS base w' v gs :=
  ⟨Own.heapB h.own hh, fun g hg => by obtain ⟨rs, hr⟩ := h.reads g hg; exact ⟨rs, SliceOf.heapB hr (fun a ha => hh _ (h.apart g hg a ha).1)⟩, fun g hg q hq => ⟨(h.apart g hg q hq).1, Nat.lt_of_lt_of_le (h.apart g hg q hq).2.1 hsz, (h.apart g hg q hq).2.2⟩⟩
theorem SliceOf.lt {α : Type} {enc : α → List Value} {k : Nat} {w : World} {q : Addr} {n cap : Nat} {l : List α} (h : SliceOf enc k w (.slice (some q) n cap) l) (hk : ∀ x, 0 < (enc x).length) (hl : l ≠ []) : q.block < w.heap.size := by
  obtain ⟨p', cap', e, h1, h2, h3, h4⟩ := h
  obtain ⟨x, l', rfl⟩ : ∃ x l', l = x :: l' := by cases l with | nil => exact absurd rfl hl | cons x l' => exact ⟨x, l', rfl⟩
  obtain ⟨b, off, hp, hc⟩ := h4 0 x rfl
  simp only [Value.slice.injEq] at e
  obtain ⟨rfl, _, _⟩ := e
  cases hp
  have h5 := hk x
  exact World.block_lt_of_cell? w ⟨b, off + (0 * k + 0), none⟩ (hc 0 _ (List.getElem?_eq_getElem h5))
/-- one more ring -/
theorem GsS.push {base : Nat} {w w' : World} {v v' : Value} {gs : List (Int × SlT)} {g : Int × SlT} {rs : List (Int × Int × Bool)} (h : GsS base w v gs) (k : Kept w v w' v') (ho : Own encG 2 98 base w' v' (gs ++ [g])) (hi : SliceOf encR 3 w g.2.v rs) (ha : ∀ q, g.2.p = some q → base ≤ q.block ∧ q.block < w.heap.size ∧ v.ownBlock ≠ some q.block) :
    GsS base w' v' (gs ++ [g]) := by
  refine ⟨ho, fun x hx => ?_, fun x hx q hq => ?_⟩
  · rcases List.mem_append.1 hx with hx | hx
    · obtain ⟨rs', hr⟩ := h.reads x hx
      exact ⟨rs', Kept.slice k hr (fun a ha => (h.apart x hx a ha).2.2)⟩
    · rw [List.mem_singleton] at hx
      subst hx
      exact ⟨rs, Kept.slice k hi (fun a h9 => (ha a h9).2.2)⟩
  · have key : base ≤ q.block ∧ q.block < w.heap.size ∧ v.ownBlock ≠ some q.block := by
      rcases List.mem_append.1 hx with hx | hx
      · exact h.apart x hx q hq
      · rw [List.mem_singleton] at hx
        subst hx
        exact ha q hq
    exact ⟨key.1, Nat.lt_of_lt_of_le key.2.1 k.size, k.ne key.2.1 key.2.2⟩
/-- what lies below B but for two blocks is as it was -/
structure Low (W w : World) (B a b : Nat) : Prop where
  heap : ∀ q, q < B → q ≠ a → q ≠ b → w.heap[q]? = W.heap[q]?
  size : B ≤ w.heap.size
theorem Low.refl {W : World} {B a b : Nat} (h : B ≤ W.heap.size) : Low W W B a b := ⟨fun _ _ _ _ => rfl, h⟩
theorem Low.below {W w w' : World} {B a b : Nat} (h : Low W w B a b) (hx : Below B w w') : Low W w' B a b := ⟨fun q h1 h2 h3 => (hx.block q h1).trans (h.heap q h1 h2 h3), Nat.le_trans h.size hx.size⟩
theorem Low.ext {W w w' : World} {B a b : Nat} (h : Low W w B a b) (hx : Ext w w') : Low W w' B a b := h.below (Below.mono hx h.size)
theorem Low.set {W w : World} {B a b c i : Nat} {u : Value} (h : Low W w B a b) (hc : c = a ∨ c = b) : Low W (w.setCell ⟨c, i, none⟩ u) B a b :=
  ⟨fun q h1 h2 h3 => by rw [Below.heap_setCell _ _ _ _ (by show q ≠ c; rcases hc with rfl | rfl <;> assumption)]; exact h.heap q h1 h2 h3, by simpa [World.setCell] using h.size⟩
theorem Low.setRow {W w : World} {B a b c : Nat} {cs : Array Value} (h : Low W w B a b) (hc : c = a ∨ c = b) : Low W (w.setRow c cs) B a b :=
  ⟨fun q h1 h2 h3 => by rw [heap_setRow_ne _ _ _ (by rcases hc with rfl | rfl <;> assumption)]; exact h.heap q h1 h2 h3, by simpa [World.setRow] using h.size⟩
theorem Low.slice {α : Type} {enc : α → List Value} {k : Nat} {W w : World} {B a b : Nat} {p : Option Addr} {n cap : Nat} {l : List α} (h : Low W w B a b) (hs : SliceOf enc k W (.slice p n cap) l) (hq : ∀ q, p = some q → q.block < B ∧ q.block ≠ a ∧ q.block ≠ b) : SliceOf enc k w (.slice p n cap) l :=
  SliceOf.heapB hs (fun q hp => h.heap _ (hq q hp).1 (hq q hp).2.1 (hq q hp).2.2)
theorem Own.base_leG {α : Type} {enc : α → List Value} {k E base : Nat} {w : World} {q : Option Addr} {n c : Nat} {l : List α} (h : Own enc k E base w (.slice q n c) l) : ∀ a, q = some a → base ≤ a.block := by
  intro a ha
  subst ha
  rcases h.2 with ⟨e, _⟩ | ⟨g, cap, cur, e, hb, _⟩
  · cases e
  · simp only [Value.slice.injEq, Option.some.injEq] at e
    obtain ⟨rfl, _, _⟩ := e
    exact hb
end Go.Proofs.YtjfohapnjnopfaaGreatDoor
end
