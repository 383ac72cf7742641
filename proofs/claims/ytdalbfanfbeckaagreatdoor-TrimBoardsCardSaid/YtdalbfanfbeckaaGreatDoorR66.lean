/-
  Chapter 26 (Boards): boards compared.
-/
import Derived.Test.YtdalbfanfbeckaaGreatDoorR61
import Derived.Test.YtdalbfanfbeckaaGreatDoorK50
set_option linter.unusedVariables false
set_option linter.unusedSimpArgs false
namespace Go.Proofs.YtdalbfanfbeckaaGreatDoor
open Go.RowKit TrimM

attribute [local go_sem] ExtOf.cell ExtOf.frozen ExtS.cell ExtS.frozen Block.cell Block.frozen ExtB.cell ExtB.frozen alloc_cell alloc_frozen equal_box equalX_box eqGuard_box equal_cell equalX_cell eqGuard_cell
set_option maxHeartbeats 1600000 in
set_option maxRecDepth 20000 in
theorem sameBoard_any (x : Bd) (b : Bx) (l : List Df) (v1 v2 : Value) (w : World) (h1 : DfS w v1 l) (h2 : DfS w v2 l) : Calls Tryz.prog 27 #[.agg (nbC x v1 b), .agg (nbC x v2 b)] w fun e w' => e = .returned (.bool true) ∧ ∃ n : ExtOf w, w' = n.val := by
  obtain ⟨p1, c1, rfl, _, _, _⟩ := SliceOf.form h1
  obtain ⟨p2, c2, rfl, _, _, _⟩ := SliceOf.form h2
  have H1 := Lib.hid h1
  have H2 := Lib.hid h2
  clear h1 h2
  unfold nbC
  go_enter Tryz.func27, Tryz.ntmps27
  go_wp2_with (first | ((with_reducible apply wl_load' lwBd); (· (first | exact wanted_none rfl | exact wanted_some rfl rfl rfl)); (· rfl); (· infer_instance); (· rfl)) | ((with_reducible apply wl_loadB midBox); (· (first | exact wanted_none rfl | exact wanted_some rfl rfl rfl)); (· rfl); (· infer_instance); (· rfl); (· rfl)) | ((with_reducible apply wl_loadB midCell); (· (first | exact wanted_none rfl | exact wanted_some rfl rfl rfl)); (· rfl); (· infer_instance); (· rfl); (· rfl)) | (go_at_call 51; refine (rdSame_any l _ _ _ (SliceOf.ext H1.out (by repeat' (first | (with_reducible exact Ext.refl _) | (with_reducible exact ExtOf.ext _) | (with_reducible refine Ext.trans ?_ (ExtOf.ext _)) | (with_reducible refine Ext.alloc ?_ _) | (with_reducible refine Ext.drew ?_) | (with_reducible refine Ext.setCell ?_ ?_ _) | (with_reducible refine Ext.setRow ?_ ?_ _) | (with_reducible exact HX.out) | (with_reducible refine Ext.trans ?_ HX.out) | (with_reducible refine Ext.below ?_ (Nat.le_refl _) _) | omega | (simp; done) | (simp; omega)))) (SliceOf.ext H2.out (by repeat' (first | (with_reducible exact Ext.refl _) | (with_reducible exact ExtOf.ext _) | (with_reducible refine Ext.trans ?_ (ExtOf.ext _)) | (with_reducible refine Ext.alloc ?_ _) | (with_reducible refine Ext.drew ?_) | (with_reducible refine Ext.setCell ?_ ?_ _) | (with_reducible refine Ext.setRow ?_ ?_ _) | (with_reducible exact HX.out) | (with_reducible refine Ext.trans ?_ HX.out) | (with_reducible refine Ext.below ?_ (Nat.le_refl _) _) | omega | (simp; done) | (simp; omega))))).mono ?_; rintro e w' ⟨rfl, ns, rfl⟩))
  go_ret
  exact ⟨rfl, by exact ExtOf.of (by repeat' (first | (with_reducible exact Ext.refl _) | (with_reducible exact ExtOf.ext _) | (with_reducible refine Ext.trans ?_ (ExtOf.ext _)) | (with_reducible refine Ext.alloc ?_ _) | (with_reducible refine Ext.drew ?_) | (with_reducible refine Ext.setCell ?_ ?_ _) | (with_reducible refine Ext.setRow ?_ ?_ _) | (with_reducible exact HX.out) | (with_reducible refine Ext.trans ?_ HX.out) | (with_reducible refine Ext.below ?_ (Nat.le_refl _) _) | omega | (simp; done) | (simp; omega)))⟩
set_option maxHeartbeats 1600000 in
set_option maxRecDepth 20000 in
theorem sameBoards_any (x : Bd) (Y : List (Bx × List Df)) (v v' : Value) (w : World) (h0 : BdsR w v x Y) (h1 : BdsR w v' x Y) : Calls Tryz.prog 8 #[v, v'] w fun e w' => e = .returned (.bool true) ∧ ∃ n : ExtOf w, w' = n.val := by
  obtain ⟨r0, s0, l0, d0⟩ := h0
  obtain ⟨r1, s1, l1, d1⟩ := h1
  obtain ⟨p0, c0, rfl, a1, a2, a3⟩ := SliceOf.form s0
  obtain ⟨p1, c1, rfl, b1, b2, b3⟩ := SliceOf.form s1
  unfold maxLen at a2 b2
  have hl : r1.length = r0.length := by omega
  rw [hl] at s1 ⊢
  have H0 := Lib.hid s0
  have H1 := Lib.hid s1
  have HD : Hid (∀ i (hi : i < r0.length) (hj : i < r1.length), r0[i].2 = r1[i].2 ∧ ∃ l, DfS w (rowV r0[i].1) l ∧ DfS w (rowV r1[i].1) l) := Lib.hid (fun i hi hj => by
    have hy : i < Y.length := by omega
    obtain ⟨e0, f0⟩ := d0 i _ _ (List.getElem?_eq_getElem hi) (List.getElem?_eq_getElem hy)
    obtain ⟨e1, f1⟩ := d1 i _ _ (List.getElem?_eq_getElem hj) (List.getElem?_eq_getElem hy)
    exact ⟨e0.trans e1.symm, _, f0, f1⟩)
  have HLL := Lib.hid hl
  clear s0 s1 l0 l1 d0 d1 hl
  go_enter Tryz.func8, Tryz.ntmps8
  go_wp2_with fail
  go_loopw [5] (fun v wr => ∃ k : Nat, k ≤ r0.length ∧ v = .int .i64 k ∧ Ext w wr) (fun v _ => r0.length - (intOf v).toNat)
  case atStart => exact ⟨0, by omega, rfl, Ext.refl _⟩
  case round =>
    obtain ⟨k, hk, rfl, hx⟩ := hrel
    have HX := Lib.hid hx
    clear hx
    by_cases hlt : k < r0.length
    · have hlt1 : k < r1.length := by rw [HLL.out]; exact hlt
      obtain ⟨g0, f0, rfl, ra⟩ := SliceOf.elemK (SliceOf.ext H0.out HX.out) hlt
      obtain ⟨g1, f1, rfl, rb⟩ := SliceOf.elemK (SliceOf.ext H1.out HX.out) hlt1
      obtain ⟨e, l, m0, m1⟩ := HD.out k hlt hlt1
      obtain ⟨⟨u0, bx⟩, hu0⟩ : ∃ z, r0[k] = z := ⟨_, rfl⟩
      obtain ⟨⟨u1, by_⟩, hu1⟩ : ∃ z, r1[k] = z := ⟨_, rfl⟩
      rw [hu0] at ra e m0
      rw [hu1] at rb e m1
      simp only at e m0 m1
      subst e
      have rA : wr.rangeAt g0 (f0 + k * 18) (nbC x (rowV u0) bx).toList := ra
      have rB : wr.rangeAt g1 (f1 + k * 18) (nbC x (rowV u1) bx).toList := rb
      have HS : Hid (∀ W, Ext wr W → Calls Tryz.prog 27 #[.agg (nbC x (rowV u0) bx), .agg (nbC x (rowV u1) bx)] W fun e w' => e = .returned (.bool true) ∧ ∃ n : ExtOf W, w' = n.val) := Lib.hid (fun W hx => sameBoard_any x bx l _ _ W (SliceOf.ext m0 (HX.out.trans hx)) (SliceOf.ext m1 (HX.out.trans hx)))
      clear hu0 hu1 ra rb m0 m1 hlt1
      go_wp2_with fail
      refine wp_region_ext (by kernel_rfl) (by kernel_rfl) ?_
      repeat (first | go_big_quiet_skip | ((with_reducible apply q_loadM midBd rA); (· rfl); (· (first | exact wanted_none rfl | exact wanted_some rfl rfl rfl)); (· rfl); simp only [Act.put, List.setIfInBounds_toArray, List.set_cons_succ, List.set_cons_zero]) | ((with_reducible apply q_loadM midBd rB); (· rfl); (· (first | exact wanted_none rfl | exact wanted_some rfl rfl rfl)); (· rfl); simp only [Act.put, List.setIfInBounds_toArray, List.set_cons_succ, List.set_cons_zero]) | go_big_quiet_step ((go_at_call 27; exact ext_call (HS.out _ (ExtOf.ext _)))))
      refine wpQuiet_nil ?_
      intro _ hw'
      obtain ⟨nq, hw''⟩ := hw'
      subst hw''
      go_wp2_with fail
      go_roundw
      case rel => exact ⟨k + 1, by omega, by first | rfl | go_num, by repeat' (first | (with_reducible exact Ext.refl _) | (with_reducible exact ExtOf.ext _) | (with_reducible refine Ext.trans ?_ (ExtOf.ext _)) | (with_reducible refine Ext.alloc ?_ _) | (with_reducible refine Ext.drew ?_) | (with_reducible refine Ext.setCell ?_ ?_ _) | (with_reducible refine Ext.setRow ?_ ?_ _) | (with_reducible exact HX.out) | (with_reducible refine Ext.trans ?_ HX.out) | (with_reducible refine Ext.below ?_ (Nat.le_refl _) _) | omega | (simp; done) | (simp; omega))⟩
      case measure => simp [intOf]; omega
    · go_wp2_with fail
      go_ret
      exact ⟨rfl, by exact ExtOf.of (by repeat' (first | (with_reducible exact Ext.refl _) | (with_reducible exact ExtOf.ext _) | (with_reducible refine Ext.trans ?_ (ExtOf.ext _)) | (with_reducible refine Ext.alloc ?_ _) | (with_reducible refine Ext.drew ?_) | (with_reducible refine Ext.setCell ?_ ?_ _) | (with_reducible refine Ext.setRow ?_ ?_ _) | (with_reducible exact HX.out) | (with_reducible refine Ext.trans ?_ HX.out) | (with_reducible refine Ext.below ?_ (Nat.le_refl _) _) | omega | (simp; done) | (simp; omega)))⟩
end Go.Proofs.YtdalbfanfbeckaaGreatDoor
