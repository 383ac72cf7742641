/-
  Chapter 61: several texts in one (R55, R56).
-/
import Derived.Test.YtjfohapnjnopfaaGreatDoorR54
/-
  Chapter 61: is a scan slim?
-/
section
set_option linter.unusedVariables false
set_option linter.unusedSimpArgs false
namespace Go.Proofs.YtjfohapnjnopfaaGreatDoor
open Go.RowKit Go.WideShapes RepM

attribute [local go_sem] ExtOf.cell ExtOf.frozen ExtS.cell ExtS.frozen Block.cell Block.frozen ExtB.cell ExtB.frozen alloc_cell alloc_frozen
/-- what is handed back of a scan that is decoded -/
def DecR (w : World) (en : Ending) (w' : World) : Prop := ∃ (vr : Value) (pd : Option Addr) (nd cd : Nat) (e : Int) (gs : List (Int × SlT)), en = .returned (.tuple #[.agg #[vr, .slice pd nd cd], .int .i64 e]) ∧ RingsS w' vr gs ∧ ∃ m : ExtOf w, w' = m.val
theorem Below.setRow_ext {w w1 : World} (h : Ext w w1) (cs : Array Value) : Ext w (w1.setRow w.heap.size cs) := Ext.setRow h (Nat.le_refl _) cs
theorem RingsS.low {w : World} {b : Nat} {cs : Array Value} {p : Option Addr} {n cap : Nat} {gs : List (Int × SlT)} (h : RingsS w (.slice p n cap) gs) (hb : ∃ t fz u0 u1, w.heap[b]? = some (.cells #[u0, u1] t fz) ∧ (∀ m, u0 ≠ .int .i64 m) ∧ (∀ m, u1 ≠ .int .i64 m)) : RingsS (w.setRow b cs) (.slice p n cap) gs := by
  obtain ⟨t, fz, u0, u1, hh, h0, h1⟩ := hb
  have key : ∀ (g off j : Nat) (m : Int), w.cell? ⟨g, off + j, none⟩ = some (.int .i64 m) → g ≠ b := by
    rintro g off j m hc rfl
    rw [Lib.cell_of_heap hh] at hc
    rcases hq : off + j with _ | _ | n
    · rw [hq] at hc; simp at hc; exact h0 _ hc
    · rw [hq] at hc; simp at hc; exact h1 _ hc
    · rw [hq] at hc; simp at hc
  refine ⟨?_, fun g hg => ?_⟩
  · obtain ⟨p', cap', e, a1, a2, a3, a4⟩ := h.rows
    refine ⟨p', cap', e, a1, a2, a3, fun i x hi => ?_⟩
    obtain ⟨b', off, hp, hc⟩ := a4 i x hi
    have hne : b' ≠ b := key b' off _ _ (hc 0 _ rfl)
    refine ⟨b', off, hp, fun j u hj => ?_⟩
    rw [← hc j u hj]
    simp only [World.cell?]
    rw [heap_setRow_ne _ _ _ hne]
  · obtain ⟨rs, hr⟩ := h.reads g hg
    obtain ⟨p', cap', e, a1, a2, a3, a4⟩ := hr
    refine ⟨rs, p', cap', e, a1, a2, a3, fun i x hi => ?_⟩
    obtain ⟨b', off, hp, hc⟩ := a4 i x hi
    have hne : b' ≠ b := key b' off _ _ (hc 0 _ rfl)
    refine ⟨b', off, hp, fun j u hj => ?_⟩
    rw [← hc j u hj]
    simp only [World.cell?]
    rw [heap_setRow_ne _ _ _ hne]
set_option maxHeartbeats 1600000 in
set_option maxRecDepth 20000 in
theorem decode_any (s : ByteArray) (w : World) (hs : s.size ≤ 100000) : Calls Tryz.prog 69 #[.string s] w (DecR w) := by
  go_enter Tryz.func69, Tryz.ntmps69
  go_upto_region 2 with (first | ((with_reducible apply wl_store' lwScan); (· (first | exact wanted_none rfl | exact wanted_some rfl rfl rfl)); (· rfl); (· rfl); (· infer_instance); (· rfl); (· rfl); (· (simp [Value.oneCell', SlT.v])); try simp only [setRow_alloc, setRow_new, setRow_new1, setRow_new2, setRow_new11, setRow_new111]) | ((with_reducible apply wl_load' lwScan); (· (first | exact wanted_none rfl | exact wanted_some rfl rfl rfl)); (· rfl); (· infer_instance); (· rfl)) | (go_at_call 95; refine (form_any s _ hs).mono ?_; rintro en w' ⟨vr, vd, c, gs, ds, rfl, hr, hd, n1, rfl⟩; (obtain ⟨p, cap, rfl, hp1⟩ := SliceOf.form hr.rows); (obtain ⟨pd, cd, rfl, hp2⟩ := SliceOf.form hd)))
  have hblk : ∃ t fz u0 u1, n1.val.heap[w.heap.size]? = some (.cells #[u0, u1] t fz) ∧ (∀ m, u0 ≠ .int .i64 m) ∧ (∀ m, u1 ≠ .int .i64 m) := by
    have : Block n1.val w.heap.size #[.slice none 0 0, .slice none 0 0] := inferInstance
    obtain ⟨t, e⟩ := this.get
    exact ⟨t, _, _, _, e, fun m h => (by cases h), fun m h => (by cases h)⟩
  clear hp1 hp2
  have HR := Lib.hid hr
  have HD := Lib.hid hd
  have HB := Lib.hid hblk
  clear hr hd hblk
  cases c
  · go_wp2_with (first | ((with_reducible apply wl_store' lwScan); (· (first | exact wanted_none rfl | exact wanted_some rfl rfl rfl)); (· rfl); (· rfl); (· infer_instance); (· rfl); (· rfl); (· (simp [Value.oneCell', SlT.v])); try simp only [setRow_alloc, setRow_new, setRow_new1, setRow_new2, setRow_new11, setRow_new111]) | ((with_reducible apply wl_load' lwScan); (· (first | exact wanted_none rfl | exact wanted_some rfl rfl rfl)); (· rfl); (· infer_instance); (· rfl)))
    refine bodyPost_ret (results_cs (b0 := w.heap.size) rfl lwScan rfl rfl inferInstance rfl) rfl ⟨_, _, _, _, _, [], rfl, rings_nil _, by exact ExtOf.of (by repeat' (first | (with_reducible exact Ext.refl _) | (with_reducible exact ExtOf.ext _) | (with_reducible refine Ext.trans ?_ (ExtOf.ext _)) | (with_reducible refine Ext.alloc ?_ _) | (with_reducible refine Ext.drew ?_) | (with_reducible refine Ext.setCell ?_ ?_ _) | (with_reducible refine Ext.setRow ?_ ?_ _) | (with_reducible exact HX.out) | (with_reducible refine Ext.trans ?_ HX.out) | (with_reducible refine Ext.below ?_ (Nat.le_refl _) _) | omega | (simp; done) | (simp; omega)))⟩
  · go_upto_region 5 with (first | ((with_reducible apply wl_store' lwScan); (· (first | exact wanted_none rfl | exact wanted_some rfl rfl rfl)); (· rfl); (· rfl); (· infer_instance); (· rfl); (· rfl); (· (simp [Value.oneCell', SlT.v])); try simp only [setRow_alloc, setRow_new, setRow_new1, setRow_new2, setRow_new11, setRow_new111]) | ((with_reducible apply wl_load' lwScan); (· (first | exact wanted_none rfl | exact wanted_some rfl rfl rfl)); (· rfl); (· infer_instance); (· rfl)) | (go_at_call 96; refine (check15_any _ _ gs ds _ (HR.out.ext (by repeat' (first | (with_reducible exact Ext.refl _) | (with_reducible exact ExtOf.ext _) | (with_reducible refine Ext.trans ?_ (ExtOf.ext _)) | (with_reducible refine Ext.alloc ?_ _) | (with_reducible refine Ext.drew ?_) | (with_reducible refine Ext.setCell ?_ ?_ _) | (with_reducible refine Ext.setRow ?_ ?_ _) | (with_reducible exact HX.out) | (with_reducible refine Ext.trans ?_ HX.out) | (with_reducible refine Ext.below ?_ (Nat.le_refl _) _) | omega | (simp; done) | (simp; omega)))) (HD.out.ext (by repeat' (first | (with_reducible exact Ext.refl _) | (with_reducible exact ExtOf.ext _) | (with_reducible refine Ext.trans ?_ (ExtOf.ext _)) | (with_reducible refine Ext.alloc ?_ _) | (with_reducible refine Ext.drew ?_) | (with_reducible refine Ext.setCell ?_ ?_ _) | (with_reducible refine Ext.setRow ?_ ?_ _) | (with_reducible exact HX.out) | (with_reducible refine Ext.trans ?_ HX.out) | (with_reducible refine Ext.below ?_ (Nat.le_refl _) _) | omega | (simp; done) | (simp; omega))))).mono ?_; rintro en w' ⟨⟨er, rfl⟩, n2, rfl⟩))
    by_cases he : er = 0
    · subst he
      go_wp2_with (first | ((with_reducible apply wl_store' lwScan); (· (first | exact wanted_none rfl | exact wanted_some rfl rfl rfl)); (· rfl); (· rfl); (· infer_instance); (· rfl); (· rfl); (· (simp [Value.oneCell', SlT.v])); try simp only [setRow_alloc, setRow_new, setRow_new1, setRow_new2, setRow_new11, setRow_new111]) | ((with_reducible apply wl_load' lwScan); (· (first | exact wanted_none rfl | exact wanted_some rfl rfl rfl)); (· rfl); (· infer_instance); (· rfl)))
      refine bodyPost_ret (results_cs (b0 := w.heap.size) rfl lwScan rfl rfl inferInstance rfl) rfl ⟨_, _, _, _, _, gs, rfl, ?_, by exact ExtOf.of (by repeat' (first | (with_reducible exact Ext.refl _) | (with_reducible exact ExtOf.ext _) | (with_reducible refine Ext.trans ?_ (ExtOf.ext _)) | (with_reducible refine Ext.alloc ?_ _) | (with_reducible refine Ext.drew ?_) | (with_reducible refine Ext.setCell ?_ ?_ _) | (with_reducible refine Ext.setRow ?_ ?_ _) | (with_reducible exact HX.out) | (with_reducible refine Ext.trans ?_ HX.out) | (with_reducible refine Ext.below ?_ (Nat.le_refl _) _) | omega | (simp; done) | (simp; omega)))⟩
      have hx12 : Ext n1.val n2.val := by repeat' (first | (with_reducible exact Ext.refl _) | (with_reducible exact ExtOf.ext _) | (with_reducible refine Ext.trans ?_ (ExtOf.ext _)) | (with_reducible refine Ext.alloc ?_ _) | (with_reducible refine Ext.drew ?_) | (with_reducible refine Ext.setCell ?_ ?_ _) | (with_reducible refine Ext.setRow ?_ ?_ _) | (with_reducible exact HX.out) | (with_reducible refine Ext.trans ?_ HX.out) | (with_reducible refine Ext.below ?_ (Nat.le_refl _) _) | omega | (simp; done) | (simp; omega))
      refine (HR.out.ext hx12).low ?_
      obtain ⟨t, fz, u0, u1, hh, h0, h1⟩ := HB.out
      exact ⟨t, fz, u0, u1, (hx12.block _ (Array.getElem?_eq_some_iff.1 hh).1).trans hh, h0, h1⟩
    · have q0 : (er != 0) = true := bne_iff_ne.2 he
      go_wp2_with (first | ((with_reducible apply wl_store' lwScan); (· (first | exact wanted_none rfl | exact wanted_some rfl rfl rfl)); (· rfl); (· rfl); (· infer_instance); (· rfl); (· rfl); (· (simp [Value.oneCell', SlT.v])); try simp only [setRow_alloc, setRow_new, setRow_new1, setRow_new2, setRow_new11, setRow_new111]) | ((with_reducible apply wl_load' lwScan); (· (first | exact wanted_none rfl | exact wanted_some rfl rfl rfl)); (· rfl); (· infer_instance); (· rfl)))
      refine bodyPost_ret (results_cs (b0 := w.heap.size) rfl lwScan rfl rfl inferInstance rfl) rfl ⟨_, _, _, _, _, [], rfl, rings_nil _, by exact ExtOf.of (by repeat' (first | (with_reducible exact Ext.refl _) | (with_reducible exact ExtOf.ext _) | (with_reducible refine Ext.trans ?_ (ExtOf.ext _)) | (with_reducible refine Ext.alloc ?_ _) | (with_reducible refine Ext.drew ?_) | (with_reducible refine Ext.setCell ?_ ?_ _) | (with_reducible refine Ext.setRow ?_ ?_ _) | (with_reducible exact HX.out) | (with_reducible refine Ext.trans ?_ HX.out) | (with_reducible refine Ext.below ?_ (Nat.le_refl _) _) | omega | (simp; done) | (simp; omega)))⟩
theorem lwPoint : Whole Tryz.prog 100 2 := whole_of Tryz.underlying100 rfl (by kernel_rfl)
set_option maxHeartbeats 3200000 in
set_option maxRecDepth 20000 in
theorem slim_any (s : ByteArray) (w : World) (hs : s.size ≤ 100000) : Calls Tryz.prog 39 #[.string s] w (SomeB w) := by
  go_enter Tryz.func39, Tryz.ntmps39
  go_upto_region 2 with (first | ((with_reducible apply wl_store' lwScan); (· (first | exact wanted_none rfl | exact wanted_some rfl rfl rfl)); (· rfl); (· rfl); (· infer_instance); (· rfl); (· rfl); (· (simp [Value.oneCell', SlT.v])); try simp only [setRow_alloc, setRow_new, setRow_new1, setRow_new2, setRow_new11, setRow_new111]) | ((with_reducible apply wl_load' lwScan); (· (first | exact wanted_none rfl | exact wanted_some rfl rfl rfl)); (· rfl); (· infer_instance); (· rfl)) | (go_at_call 69; refine (decode_any s _ hs).mono ?_; rintro en w' ⟨vr, pd, nd, cd, er, gs, rfl, hr, n1, rfl⟩; (obtain ⟨p, cap, rfl, hp1, hp2, hp3⟩ := SliceOf.form hr.rows)))
  unfold maxLen at hp2
  have HR := Lib.hid hr
  clear hr
  by_cases he : er = 0
  case neg =>
    have q0 : (er != 0) = true := bne_iff_ne.2 he
    go_wp2_with fail
    (go_ret; exact ⟨⟨_, rfl⟩, by exact ExtOf.of (by repeat' (first | (with_reducible exact Ext.refl _) | (with_reducible exact ExtOf.ext _) | (with_reducible refine Ext.trans ?_ (ExtOf.ext _)) | (with_reducible refine Ext.alloc ?_ _) | (with_reducible refine Ext.drew ?_) | (with_reducible refine Ext.setCell ?_ ?_ _) | (with_reducible refine Ext.setRow ?_ ?_ _) | (with_reducible exact HX.out) | (with_reducible refine Ext.trans ?_ HX.out) | (with_reducible refine Ext.below ?_ (Nat.le_refl _) _) | omega | (simp; done) | (simp; omega)))⟩)
  subst he
  have hb1 : Block (n1.val.alloc (.cells #[.slice p gs.length cap, .slice pd nd cd] 93)) n1.val.heap.size #[.slice p gs.length cap, .slice pd nd cd] := Block.new _ _ _
  have HX1 : Hid (Ext w (n1.val.alloc (.cells #[.slice p gs.length cap, .slice pd nd cd] 93))) := Lib.hid (by repeat' (first | (with_reducible exact Ext.refl _) | (with_reducible exact ExtOf.ext _) | (with_reducible refine Ext.trans ?_ (ExtOf.ext _)) | (with_reducible refine Ext.alloc ?_ _) | (with_reducible refine Ext.drew ?_) | (with_reducible refine Ext.setCell ?_ ?_ _) | (with_reducible refine Ext.setRow ?_ ?_ _) | (with_reducible exact HX.out) | (with_reducible refine Ext.trans ?_ HX.out) | (with_reducible refine Ext.below ?_ (Nat.le_refl _) _) | omega | (simp; done) | (simp; omega)))
  have HR1 : Hid (RingsS (n1.val.alloc (.cells #[.slice p gs.length cap, .slice pd nd cd] 93)) (.slice p gs.length cap) gs) := Lib.hid (HR.out.ext (by repeat' (first | (with_reducible exact Ext.refl _) | (with_reducible exact ExtOf.ext _) | (with_reducible refine Ext.trans ?_ (ExtOf.ext _)) | (with_reducible refine Ext.alloc ?_ _) | (with_reducible refine Ext.drew ?_) | (with_reducible refine Ext.setCell ?_ ?_ _) | (with_reducible refine Ext.setRow ?_ ?_ _) | (with_reducible exact HX.out) | (with_reducible refine Ext.trans ?_ HX.out) | (with_reducible refine Ext.below ?_ (Nat.le_refl _) _) | omega | (simp; done) | (simp; omega))))
  obtain ⟨W1, hW1⟩ : ∃ W1, W1 = n1.val.alloc (.cells #[.slice p gs.length cap, .slice pd nd cd] 93) := ⟨_, rfl⟩
  obtain ⟨X, hX⟩ : ∃ X, X = n1.val.heap.size := ⟨_, rfl⟩
  rw [← hW1] at hb1 HX1 HR1 ⊢
  rw [← hX] at hb1 ⊢
  clear hW1 hX HR
  go_wp2_with fail
  go_loopw [5] (fun vi wr => ∃ k : Nat, k ≤ gs.length ∧ vi = .int .i64 k ∧ Block wr X #[.slice p gs.length cap, .slice pd nd cd] ∧ Ext W1 wr) (fun i _ => gs.length - (intOf i).toNat)
  case atStart => exact ⟨0, by omega, rfl, hb1, Ext.refl _⟩
  case round =>
    obtain ⟨k, hk, rfl, hb, hx⟩ := hrel
    have HX : Hid (Ext w wr) := Lib.hid (HX1.out.trans hx)
    have HXS := Lib.hid hx
    clear hx
    by_cases hlt : k < gs.length
    · by_cases h7 : 7 < k
      · have d7 : decide (7 < (k : Int)) = true := decide_eq_true (by omega)
        go_wp2_with fail
        (go_ret; exact ⟨⟨_, rfl⟩, ExtOf.of HX.out⟩)
      have d7 : decide (7 < (k : Int)) = false := decide_eq_false (by omega)
      have HRW := HR1.out.ext HXS.out
      obtain ⟨b, off, rfl, hr⟩ := G.elem HRW.rows hlt
      obtain ⟨rs, hrs⟩ := HRW.reads _ (List.getElem_mem hlt)
      obtain ⟨⟨z, ⟨q, n, m⟩⟩, hg⟩ : ∃ g, g = gs[k] := ⟨_, rfl⟩
      rw [← hg] at hr hrs
      simp only [SlT.v] at hr hrs
      obtain ⟨q', m', hv, hm1, hm2, hm3⟩ := SliceOf.form hrs
      unfold maxLen at hm2
      obtain ⟨rfl, rfl, rfl⟩ : q = q' ∧ n = rs.length ∧ m = m' := by simpa using hv
      have cz : wr.cell? ⟨b, off + k * 2, none⟩ = some (.int .i64 z) := hr 0 _ rfl
      have cr : wr.cell? ⟨b, off + k * 2 + 1, none⟩ = some (.slice q rs.length m) := hr 1 _ rfl
      have ob := Old.of_cell cz
      have HRS := Lib.hid hrs
      clear hr hrs hg hv HRW
      by_cases hz : 3000 < z
      · have dz : decide (3000 < z) = true := decide_eq_true hz
        go_wp2_with fail
        (go_ret; exact ⟨⟨_, rfl⟩, ExtOf.of HX.out⟩)
      have dz : decide (3000 < z) = false := decide_eq_false hz
      clear hz h7
      go_wp2_with fail
      rename World => W2
      go_loopw [6] (fun vi wr => ∃ j : Nat, j ≤ rs.length ∧ vi = .int .i64 j ∧ Ext W2 wr) (fun i _ => rs.length - (intOf i).toNat)
      case atStart => exact ⟨0, by omega, rfl, Ext.refl _⟩
      case round =>
        obtain ⟨j, hj, rfl, hx2⟩ := hrel
        have HX2 := Lib.hid hx2
        have cz2 := hx2.cell cz
        have cr2 := hx2.cell cr
        have ob2 := Old.of_cell cz2
        have hb2 := hb.ext hx2
        clear hx2
        by_cases hlj : j < rs.length
        · obtain ⟨bb, oo, rfl, hrr⟩ := SliceOf.elemK (SliceOf.ext HRS.out HX2.out) hlj
          obtain ⟨⟨px, py, ok⟩, hp⟩ : ∃ r, r = rs[j] := ⟨_, rfl⟩
          rw [← hp] at hrr
          have HP : Hid (wr.rangeAt bb (oo + j * 3) [.int .i64 px, .int .i64 py]) := Lib.hid (fun i u hi => by
            have hi2 : i < 2 := by have := (List.getElem?_eq_some_iff.1 hi).1; simpa using this
            refine hrr i u ?_
            rcases i with _ | _ | i
            · exact hi
            · exact hi
            · omega)
          have cp : wr.cell? ⟨bb, oo + j * 3, none⟩ = some (.int .i64 px) := hrr 0 _ rfl
          have obp := Old.of_cell cp
          clear hrr hp
          go_wp2_with (first | ((with_reducible refine wl_loadM midPoint (Ext.range ?_ (Hid.out HP)) ?_ ?_ ?_ ?_); (· repeat' (first | (with_reducible exact Ext.refl _) | (with_reducible exact ExtOf.ext _) | (with_reducible refine Ext.trans ?_ (ExtOf.ext _)) | (with_reducible refine Ext.alloc ?_ _) | (with_reducible refine Ext.drew ?_) | (with_reducible refine Ext.setCell ?_ ?_ _) | (with_reducible refine Ext.setRow ?_ ?_ _) | (with_reducible exact HX.out) | (with_reducible refine Ext.trans ?_ HX.out) | (with_reducible refine Ext.below ?_ (Nat.le_refl _) _) | omega | (simp; done) | (simp; omega))); (· rfl); (· (first | exact wanted_none rfl | exact wanted_some rfl rfl rfl)); (· rfl)) | ((with_reducible apply wl_store' lwPoint); (· (first | exact wanted_none rfl | exact wanted_some rfl rfl rfl)); (· rfl); (· rfl); (· infer_instance); (· rfl); (· rfl); (· (simp [Value.oneCell', SlT.v])); try simp only [setRow_alloc, setRow_new, setRow_new1, setRow_new2, setRow_new11, setRow_new111]))
          all_goals first
            | (go_ret; exact ⟨⟨_, rfl⟩, ExtOf.of (HX.out.trans (HX2.out.trans (by repeat' (first | (with_reducible exact Ext.refl _) | (with_reducible exact ExtOf.ext _) | (with_reducible refine Ext.trans ?_ (ExtOf.ext _)) | (with_reducible refine Ext.alloc ?_ _) | (with_reducible refine Ext.drew ?_) | (with_reducible refine Ext.setCell ?_ ?_ _) | (with_reducible refine Ext.setRow ?_ ?_ _) | (with_reducible exact HX.out) | (with_reducible refine Ext.trans ?_ HX.out) | (with_reducible refine Ext.below ?_ (Nat.le_refl _) _) | omega | (simp; done) | (simp; omega)))))⟩)
            | (go_roundw
               case rel => exact ⟨j + 1, by omega, by first | rfl | go_num, HX2.out.trans (by repeat' (first | (with_reducible exact Ext.refl _) | (with_reducible exact ExtOf.ext _) | (with_reducible refine Ext.trans ?_ (ExtOf.ext _)) | (with_reducible refine Ext.alloc ?_ _) | (with_reducible refine Ext.drew ?_) | (with_reducible refine Ext.setCell ?_ ?_ _) | (with_reducible refine Ext.setRow ?_ ?_ _) | (with_reducible exact HX.out) | (with_reducible refine Ext.trans ?_ HX.out) | (with_reducible refine Ext.below ?_ (Nat.le_refl _) _) | omega | (simp; done) | (simp; omega)))⟩
               case measure => simp [intOf]; omega)
        · obtain rfl : j = rs.length := by omega
          go_wp2_with fail
          go_roundw
          case rel => exact ⟨k + 1, by omega, by first | rfl | go_num, hb2, HXS.out.trans HX2.out⟩
          case measure => simp [intOf]; omega
    · obtain rfl : k = gs.length := by omega
      go_wp2_with fail
      (go_ret; exact ⟨⟨_, rfl⟩, ExtOf.of HX.out⟩)
end Go.Proofs.YtjfohapnjnopfaaGreatDoor
end
/-
  Chapter 61: is a list of events short?
-/
section
set_option linter.unusedVariables false
set_option linter.unusedSimpArgs false
namespace Go.Proofs.YtjfohapnjnopfaaGreatDoor
open Go.RowKit Go.WideShapes RepM

attribute [local go_sem] ExtOf.cell ExtOf.frozen ExtS.cell ExtS.frozen Block.cell Block.frozen ExtB.cell ExtB.frozen alloc_cell alloc_frozen
/-- a truth value is handed back; if it is true, the list is short -/
def ShoR (w : World) (l : List EvP) (en : Ending) (w' : World) : Prop := ∃ c : Bool, en = .returned (.bool c) ∧ (c = true → l.length ≤ 40 ∧ ∀ x ∈ l, x.1.n.length ≤ 200) ∧ ∃ m : ExtOf w, w' = m.val
theorem take_all {l : List EvP} {k : Nat} (h : k < l.length) (ha : ∀ x ∈ l.take k, x.1.n.length ≤ 200) (hb : (l[k]).1.n.length ≤ 200) : ∀ x ∈ l.take (k + 1), x.1.n.length ≤ 200 := by
  intro x hx
  rw [List.take_succ_eq_append_getElem h] at hx
  rcases List.mem_append.1 hx with hx | hx
  · exact ha x hx
  · rw [List.mem_singleton] at hx
    subst hx
    exact hb
set_option maxHeartbeats 6400000 in
set_option maxRecDepth 20000 in
theorem l59short_any (l : List EvP) (v : Value) (w : World) (h : EvsS w v l) : Calls Tryz.prog 17 #[v, .int .i64 40] w (ShoR w l) := by
  obtain ⟨p, cap, rfl, hc1, hc2, hc3⟩ := EvsS.form h
  unfold maxLen at hc2
  have H := Lib.hid h
  clear h
  by_cases h40 : 40 < l.length
  · have d1 : decide (40 < (l.length : Int)) = true := decide_eq_true (by omega)
    go_enter Tryz.func17, Tryz.ntmps17
    go_wp2_with fail
    (go_ret; exact ⟨false, rfl, fun h => (by cases h), by exact ExtOf.of (by repeat' (first | (with_reducible exact Ext.refl _) | (with_reducible exact ExtOf.ext _) | (with_reducible refine Ext.trans ?_ (ExtOf.ext _)) | (with_reducible refine Ext.alloc ?_ _) | (with_reducible refine Ext.drew ?_) | (with_reducible refine Ext.setCell ?_ ?_ _) | (with_reducible refine Ext.setRow ?_ ?_ _) | (with_reducible exact HX.out) | (with_reducible refine Ext.trans ?_ HX.out) | (with_reducible refine Ext.below ?_ (Nat.le_refl _) _) | omega | (simp; done) | (simp; omega)))⟩)
  have d1 : decide (40 < (l.length : Int)) = false := decide_eq_false (by omega)
  go_enter Tryz.func17, Tryz.ntmps17
  go_wp2_with fail
  go_loopw [5] (fun vi wr => ∃ k : Nat, k ≤ l.length ∧ vi = .int .i64 k ∧ (∀ x ∈ l.take k, x.1.n.length ≤ 200) ∧ Ext w wr) (fun i _ => l.length - (intOf i).toNat)
  case atStart => exact ⟨0, by omega, rfl, fun x hx => by simp at hx, Ext.refl _⟩
  case round =>
    obtain ⟨k, hk, rfl, ha, hx⟩ := hrel
    have HX := Lib.hid hx
    have HA := Lib.hid ha
    clear hx ha
    by_cases hlt : k < l.length
    · obtain ⟨b, off, rfl, hr, hin⟩ := EvsS.elem (EvsS.ext H.out HX.out) hlt
      have HTA := Lib.hid (take_all hlt HA.out)
      obtain ⟨⟨x, sl⟩, he⟩ : ∃ z, z = l[k] := ⟨_, rfl⟩
      rw [← he] at hr hin HTA
      simp only at hin HTA
      obtain ⟨kind, at_, item, of, ns, text⟩ := x
      obtain ⟨q, nn, mc⟩ := sl
      simp only [SlT.v] at hin
      obtain ⟨q0, mc0, hv, hn1, hn2, hn3⟩ := IntS.form hin
      obtain ⟨rfl, rfl, rfl⟩ : q = q0 ∧ nn = ns.length ∧ mc = mc0 := by simpa using hv
      have HR : Hid (wr.rangeAt b (off + k * 6) [.int .i64 kind, .int .i64 at_, .string item, .string of, .slice q ns.length mc, .string text]) := Lib.hid hr
      have HIN := Lib.hid hin
      simp only at HTA
      clear hr he hv hin
      go_upto_region 7 with (first | ((with_reducible refine wl_loadM midEv (Ext.range ?_ (Hid.out HR)) ?_ ?_ ?_ ?_); (· repeat' (first | (with_reducible exact Ext.refl _) | (with_reducible exact ExtOf.ext _) | (with_reducible refine Ext.trans ?_ (ExtOf.ext _)) | (with_reducible refine Ext.alloc ?_ _) | (with_reducible refine Ext.drew ?_) | (with_reducible refine Ext.setCell ?_ ?_ _) | (with_reducible refine Ext.setRow ?_ ?_ _) | (with_reducible exact HX.out) | (with_reducible refine Ext.trans ?_ HX.out) | (with_reducible refine Ext.below ?_ (Nat.le_refl _) _) | omega | (simp; done) | (simp; omega))); (· rfl); (· (first | exact wanted_none rfl | exact wanted_some rfl rfl rfl)); (· rfl)) | ((with_reducible apply wl_store' lwEv); (· (first | exact wanted_none rfl | exact wanted_some rfl rfl rfl)); (· rfl); (· rfl); (· infer_instance); (· rfl); (· rfl); (· (simp [Value.oneCell', SlT.v])); try simp only [setRow_alloc, setRow_new, setRow_new1, setRow_new2, setRow_new11, setRow_new111]))
      have hbx : Block (wr.alloc (.cells #[.int .i64 kind, .int .i64 at_, .string item, .string of, .slice q ns.length mc, .string text] 34)) wr.heap.size #[.int .i64 kind, .int .i64 at_, .string item, .string of, .slice q ns.length mc, .string text] := Block.new _ _ _
      have HXW : Hid (Ext w (wr.alloc (.cells #[.int .i64 kind, .int .i64 at_, .string item, .string of, .slice q ns.length mc, .string text] 34))) := Lib.hid (HX.out.trans (by repeat' (first | (with_reducible exact Ext.refl _) | (with_reducible exact ExtOf.ext _) | (with_reducible refine Ext.trans ?_ (ExtOf.ext _)) | (with_reducible refine Ext.alloc ?_ _) | (with_reducible refine Ext.drew ?_) | (with_reducible refine Ext.setCell ?_ ?_ _) | (with_reducible refine Ext.setRow ?_ ?_ _) | (with_reducible exact HX.out) | (with_reducible refine Ext.trans ?_ HX.out) | (with_reducible refine Ext.below ?_ (Nat.le_refl _) _) | omega | (simp; done) | (simp; omega))))
      have HIX : Hid (IntS (wr.alloc (.cells #[.int .i64 kind, .int .i64 at_, .string item, .string of, .slice q ns.length mc, .string text] 34)) (.slice q ns.length mc) ns) := Lib.hid (IntS.ext HIN.out (by repeat' (first | (with_reducible exact Ext.refl _) | (with_reducible exact ExtOf.ext _) | (with_reducible refine Ext.trans ?_ (ExtOf.ext _)) | (with_reducible refine Ext.alloc ?_ _) | (with_reducible refine Ext.drew ?_) | (with_reducible refine Ext.setCell ?_ ?_ _) | (with_reducible refine Ext.setRow ?_ ?_ _) | (with_reducible exact HX.out) | (with_reducible refine Ext.trans ?_ HX.out) | (with_reducible refine Ext.below ?_ (Nat.le_refl _) _) | omega | (simp; done) | (simp; omega))))
      obtain ⟨Wx, hWx⟩ : ∃ Wx, Wx = wr.alloc (.cells #[.int .i64 kind, .int .i64 at_, .string item, .string of, .slice q ns.length mc, .string text] 34) := ⟨_, rfl⟩
      obtain ⟨g, hg⟩ : ∃ g, g = wr.heap.size := ⟨_, rfl⟩
      rw [← hWx] at hbx HXW HIX ⊢
      rw [← hg] at hbx ⊢
      clear hWx hg
      by_cases h200 : 200 < ns.length
      · have d2 : decide (200 < (ns.length : Int)) = true := decide_eq_true (by omega)
        go_wp2_with fail
        (go_ret; exact ⟨false, rfl, fun h => (by cases h), ExtOf.of HXW.out⟩)
      have d2 : decide (200 < (ns.length : Int)) = false := decide_eq_false (by omega)
      have HAN := Lib.hid (HTA.out (by omega))
      by_cases h8000 : 8000 < text.size
      · have d3 : decide (8000 < (text.size : Int)) = true := decide_eq_true (by omega)
        go_wp2_with fail
        (go_ret; exact ⟨false, rfl, fun h => (by cases h), ExtOf.of HXW.out⟩)
      have d3 : decide (8000 < (text.size : Int)) = false := decide_eq_false (by omega)
      have HSL := Lib.hid (fun W => slim_any text W (by omega))
      clear h8000
      by_cases h100 : 100 < wrap64 ((item.size : Int) + of.size)
      · have d4 : decide (100 < wrap64 ((item.size : Int) + of.size)) = true := decide_eq_true h100
        clear h100
        go_wp2_with fail
        (go_ret; exact ⟨false, rfl, fun h => (by cases h), ExtOf.of HXW.out⟩)
      have d4 : decide (100 < wrap64 ((item.size : Int) + of.size)) = false := decide_eq_false h100
      clear h100
      by_cases h6 : kind = 6
      · have q6 : (kind == 6) = true := beq_iff_eq.2 h6
        have q3 : (kind == 3) = false := beq_eq_false_iff_ne.2 (by omega)
        by_cases hn : 0 < ns.length
        · have d5 : decide (0 < (ns.length : Int)) = true := decide_eq_true (by omega)
          obtain ⟨bb, oo, rfl, e0⟩ := IntS.elem HIX.out hn
          rw [Nat.add_zero] at e0
          have ob0 := Old.of_cell e0
          generalize ns[0] = m0 at *
          clear h6
          by_cases h1000 : 1000 < m0
          · have d6 : decide (1000 < m0) = true := decide_eq_true h1000
            clear h1000
            go_wp2_with fail
            (go_ret; exact ⟨false, rfl, fun h => (by cases h), ExtOf.of HXW.out⟩)
          have d6 : decide (1000 < m0) = false := decide_eq_false h1000
          clear h1000
          go_wp2_with fail
          all_goals first
            | (go_ret; exact ⟨false, rfl, fun h => (by cases h), ExtOf.of (HXW.out.trans (by repeat' (first | (with_reducible exact Ext.refl _) | (with_reducible exact ExtOf.ext _) | (with_reducible refine Ext.trans ?_ (ExtOf.ext _)) | (with_reducible refine Ext.alloc ?_ _) | (with_reducible refine Ext.drew ?_) | (with_reducible refine Ext.setCell ?_ ?_ _) | (with_reducible refine Ext.setRow ?_ ?_ _) | (with_reducible exact HX.out) | (with_reducible refine Ext.trans ?_ HX.out) | (with_reducible refine Ext.below ?_ (Nat.le_refl _) _) | omega | (simp; done) | (simp; omega))))⟩)
            | (go_roundw
               case rel => exact ⟨k + 1, by omega, by first | rfl | go_num, HAN.out, HXW.out.trans (by repeat' (first | (with_reducible exact Ext.refl _) | (with_reducible exact ExtOf.ext _) | (with_reducible refine Ext.trans ?_ (ExtOf.ext _)) | (with_reducible refine Ext.alloc ?_ _) | (with_reducible refine Ext.drew ?_) | (with_reducible refine Ext.setCell ?_ ?_ _) | (with_reducible refine Ext.setRow ?_ ?_ _) | (with_reducible exact HX.out) | (with_reducible refine Ext.trans ?_ HX.out) | (with_reducible refine Ext.below ?_ (Nat.le_refl _) _) | omega | (simp; done) | (simp; omega)))⟩
               case measure => simp [intOf]; omega)
        · have d5 : decide (0 < (ns.length : Int)) = false := decide_eq_false (by omega)
          clear h6
          go_wp2_with fail
          all_goals first
            | (go_ret; exact ⟨false, rfl, fun h => (by cases h), ExtOf.of (HXW.out.trans (by repeat' (first | (with_reducible exact Ext.refl _) | (with_reducible exact ExtOf.ext _) | (with_reducible refine Ext.trans ?_ (ExtOf.ext _)) | (with_reducible refine Ext.alloc ?_ _) | (with_reducible refine Ext.drew ?_) | (with_reducible refine Ext.setCell ?_ ?_ _) | (with_reducible refine Ext.setRow ?_ ?_ _) | (with_reducible exact HX.out) | (with_reducible refine Ext.trans ?_ HX.out) | (with_reducible refine Ext.below ?_ (Nat.le_refl _) _) | omega | (simp; done) | (simp; omega))))⟩)
            | (go_roundw
               case rel => exact ⟨k + 1, by omega, by first | rfl | go_num, HAN.out, HXW.out.trans (by repeat' (first | (with_reducible exact Ext.refl _) | (with_reducible exact ExtOf.ext _) | (with_reducible refine Ext.trans ?_ (ExtOf.ext _)) | (with_reducible refine Ext.alloc ?_ _) | (with_reducible refine Ext.drew ?_) | (with_reducible refine Ext.setCell ?_ ?_ _) | (with_reducible refine Ext.setRow ?_ ?_ _) | (with_reducible exact HX.out) | (with_reducible refine Ext.trans ?_ HX.out) | (with_reducible refine Ext.below ?_ (Nat.le_refl _) _) | omega | (simp; done) | (simp; omega)))⟩
               case measure => simp [intOf]; omega)
      · have q6 : (kind == 6) = false := beq_eq_false_iff_ne.2 h6
        by_cases h3 : kind = 3
        · have q3 : (kind == 3) = true := beq_iff_eq.2 h3
          clear h6 h3
          go_wp2_with (go_at_call 39; refine (HSL.out _).mono ?_; rintro en w' ⟨⟨cc, rfl⟩, n1, rfl⟩; cases cc)
          all_goals first
            | (go_ret; exact ⟨false, rfl, fun h => (by cases h), ExtOf.of (HXW.out.trans (by repeat' (first | (with_reducible exact Ext.refl _) | (with_reducible exact ExtOf.ext _) | (with_reducible refine Ext.trans ?_ (ExtOf.ext _)) | (with_reducible refine Ext.alloc ?_ _) | (with_reducible refine Ext.drew ?_) | (with_reducible refine Ext.setCell ?_ ?_ _) | (with_reducible refine Ext.setRow ?_ ?_ _) | (with_reducible exact HX.out) | (with_reducible refine Ext.trans ?_ HX.out) | (with_reducible refine Ext.below ?_ (Nat.le_refl _) _) | omega | (simp; done) | (simp; omega))))⟩)
            | (go_roundw
               case rel => exact ⟨k + 1, by omega, by first | rfl | go_num, HAN.out, HXW.out.trans (by repeat' (first | (with_reducible exact Ext.refl _) | (with_reducible exact ExtOf.ext _) | (with_reducible refine Ext.trans ?_ (ExtOf.ext _)) | (with_reducible refine Ext.alloc ?_ _) | (with_reducible refine Ext.drew ?_) | (with_reducible refine Ext.setCell ?_ ?_ _) | (with_reducible refine Ext.setRow ?_ ?_ _) | (with_reducible exact HX.out) | (with_reducible refine Ext.trans ?_ HX.out) | (with_reducible refine Ext.below ?_ (Nat.le_refl _) _) | omega | (simp; done) | (simp; omega)))⟩
               case measure => simp [intOf]; omega)
        · have q3 : (kind == 3) = false := beq_eq_false_iff_ne.2 h3
          clear h6 h3
          go_wp2_with fail
          all_goals first
            | (go_ret; exact ⟨false, rfl, fun h => (by cases h), ExtOf.of (HXW.out.trans (by repeat' (first | (with_reducible exact Ext.refl _) | (with_reducible exact ExtOf.ext _) | (with_reducible refine Ext.trans ?_ (ExtOf.ext _)) | (with_reducible refine Ext.alloc ?_ _) | (with_reducible refine Ext.drew ?_) | (with_reducible refine Ext.setCell ?_ ?_ _) | (with_reducible refine Ext.setRow ?_ ?_ _) | (with_reducible exact HX.out) | (with_reducible refine Ext.trans ?_ HX.out) | (with_reducible refine Ext.below ?_ (Nat.le_refl _) _) | omega | (simp; done) | (simp; omega))))⟩)
            | (go_roundw
               case rel => exact ⟨k + 1, by omega, by first | rfl | go_num, HAN.out, HXW.out.trans (by repeat' (first | (with_reducible exact Ext.refl _) | (with_reducible exact ExtOf.ext _) | (with_reducible refine Ext.trans ?_ (ExtOf.ext _)) | (with_reducible refine Ext.alloc ?_ _) | (with_reducible refine Ext.drew ?_) | (with_reducible refine Ext.setCell ?_ ?_ _) | (with_reducible refine Ext.setRow ?_ ?_ _) | (with_reducible exact HX.out) | (with_reducible refine Ext.trans ?_ HX.out) | (with_reducible refine Ext.below ?_ (Nat.le_refl _) _) | omega | (simp; done) | (simp; omega)))⟩
               case measure => simp [intOf]; omega)
    · obtain rfl : k = l.length := by omega
      rw [List.take_length] at HA
      go_wp2_with fail
      (go_ret; exact ⟨true, rfl, fun _ => ⟨by omega, HA.out⟩, ExtOf.of HX.out⟩)
end Go.Proofs.YtjfohapnjnopfaaGreatDoor
end
