/-
  The walk of the statement AssignValids.
-/
import Derived.Test.YthchddkdcibbhaaD2
import Derived.Test.YthchddkdcibbhaaC4
namespace Go.Proofs.Ythchddkdcibbhaa
open Go.RowKit AssignM

attribute [local go_sem] ExtOf.cell ExtOf.frozen Block.cell Block.frozen ExtB.cell ExtB.frozen alloc_cell alloc_frozen
set_option maxHeartbeats 1600000 in
theorem valids_walk (F : List (List Bool)) (l m to : List Int) (v0 v1 v2 v3 : Value) (w : World) (hG : GridS w v0 F) (h1 : IntS w v1 l) (h2 : IntS w v2 m) (h3 : IntS w v3 to) :
    Calls Try.prog 6 #[.agg #[v0, v1, v2], v3] w fun e w' => e = .returned (.bool true) ∧ ∃ n : ExtOf w, w' = n.val := by
  obtain ⟨p2, cap2, rfl, hg7, hg8, hg9⟩ := SliceOf.form h2
  obtain ⟨p3, cap3, rfl, hg4, hg5, hg6⟩ := SliceOf.form h3
  have HG := Lib.hid hG
  have H2 := Lib.hid h2
  have H3 := Lib.hid h3
  clear hG h1 h2 h3
  go_enter Try.func6, Try.ntmps6
  go_wp2_with fail
  refine (small_any F _ _ (HG.out.ext (by repeat' (first | (with_reducible exact Ext.refl _) | (with_reducible exact ExtOf.ext _) | (with_reducible refine Ext.trans ?_ (ExtOf.ext _)) | (with_reducible refine Ext.alloc ?_ _) | (with_reducible refine Ext.drew ?_) | (with_reducible refine Ext.setCell ?_ ?_ _) | (with_reducible refine Ext.setRow ?_ ?_ _) | (with_reducible exact HX.out) | (with_reducible refine Ext.trans ?_ HX.out) | (with_reducible refine Ext.below ?_ (Nat.le_refl _) _) | (simp; done) | (simp; omega))))).mono ?_
  rintro e w' ⟨b, rfl, hb, n1, rfl⟩
  rcases b with _ | _
  · go_wp2_with fail
    refine (awake_any _).mono ?_
    rintro e w' ⟨rfl, nz, rfl⟩
    go_wp2_with fail
    go_ret
    refine ⟨rfl, ?_⟩
    exact ExtOf.of (by repeat' (first | (with_reducible exact Ext.refl _) | (with_reducible exact ExtOf.ext _) | (with_reducible refine Ext.trans ?_ (ExtOf.ext _)) | (with_reducible refine Ext.alloc ?_ _) | (with_reducible refine Ext.drew ?_) | (with_reducible refine Ext.setCell ?_ ?_ _) | (with_reducible refine Ext.setRow ?_ ?_ _) | (with_reducible exact HX.out) | (with_reducible refine Ext.trans ?_ HX.out) | (with_reducible refine Ext.below ?_ (Nat.le_refl _) _) | (simp; done) | (simp; omega)))
  · have hR := hb rfl
    rcases t1 : decide (50 < m.length) with _ | _
    · have t1' : decide ((50 : Int) < (m.length : Int)) = false := by simp at t1 ⊢; omega
      have hml : m.length ≤ 50 := by simp at t1; omega
      rcases t2 : decide (1000 < to.length) with _ | _
      · have t2' : decide ((1000 : Int) < (to.length : Int)) = false := by simp at t2 ⊢; omega
        have htl : to.length ≤ 1000 := by simp at t2; omega
        go_wp2_with fail
        refine wp_region_ext (by kernel_rfl) (by kernel_rfl) ?_
        repeat (first | go_big_quiet_skip | go_big_quiet_step (first | (go_at_call 19; exact ext_call (valid_any F m to _ _ _ _ (by omega) (by omega) (by omega) (HG.out.ext (by repeat' (first | (with_reducible exact Ext.refl _) | (with_reducible exact ExtOf.ext _) | (with_reducible refine Ext.trans ?_ (ExtOf.ext _)) | (with_reducible refine Ext.alloc ?_ _) | (with_reducible refine Ext.drew ?_) | (with_reducible refine Ext.setCell ?_ ?_ _) | (with_reducible refine Ext.setRow ?_ ?_ _) | (with_reducible exact HX.out) | (with_reducible refine Ext.trans ?_ HX.out) | (with_reducible refine Ext.below ?_ (Nat.le_refl _) _) | (simp; done) | (simp; omega)))) (SliceOf.ext H2.out (by repeat' (first | (with_reducible exact Ext.refl _) | (with_reducible exact ExtOf.ext _) | (with_reducible refine Ext.trans ?_ (ExtOf.ext _)) | (with_reducible refine Ext.alloc ?_ _) | (with_reducible refine Ext.drew ?_) | (with_reducible refine Ext.setCell ?_ ?_ _) | (with_reducible refine Ext.setRow ?_ ?_ _) | (with_reducible exact HX.out) | (with_reducible refine Ext.trans ?_ HX.out) | (with_reducible refine Ext.below ?_ (Nat.le_refl _) _) | (simp; done) | (simp; omega)))) (SliceOf.ext H3.out (by repeat' (first | (with_reducible exact Ext.refl _) | (with_reducible exact ExtOf.ext _) | (with_reducible refine Ext.trans ?_ (ExtOf.ext _)) | (with_reducible refine Ext.alloc ?_ _) | (with_reducible refine Ext.drew ?_) | (with_reducible refine Ext.setCell ?_ ?_ _) | (with_reducible refine Ext.setRow ?_ ?_ _) | (with_reducible exact HX.out) | (with_reducible refine Ext.trans ?_ HX.out) | (with_reducible refine Ext.below ?_ (Nat.le_refl _) _) | (simp; done) | (simp; omega)))))) | (go_at_call 20; exact ext_call (rValid_any F m to _ _ _ _ (by omega) (by omega) (by omega) (HG.out.ext (by repeat' (first | (with_reducible exact Ext.refl _) | (with_reducible exact ExtOf.ext _) | (with_reducible refine Ext.trans ?_ (ExtOf.ext _)) | (with_reducible refine Ext.alloc ?_ _) | (with_reducible refine Ext.drew ?_) | (with_reducible refine Ext.setCell ?_ ?_ _) | (with_reducible refine Ext.setRow ?_ ?_ _) | (with_reducible exact HX.out) | (with_reducible refine Ext.trans ?_ HX.out) | (with_reducible refine Ext.below ?_ (Nat.le_refl _) _) | (simp; done) | (simp; omega)))) (SliceOf.ext H2.out (by repeat' (first | (with_reducible exact Ext.refl _) | (with_reducible exact ExtOf.ext _) | (with_reducible refine Ext.trans ?_ (ExtOf.ext _)) | (with_reducible refine Ext.alloc ?_ _) | (with_reducible refine Ext.drew ?_) | (with_reducible refine Ext.setCell ?_ ?_ _) | (with_reducible refine Ext.setRow ?_ ?_ _) | (with_reducible exact HX.out) | (with_reducible refine Ext.trans ?_ HX.out) | (with_reducible refine Ext.below ?_ (Nat.le_refl _) _) | (simp; done) | (simp; omega)))) (SliceOf.ext H3.out (by repeat' (first | (with_reducible exact Ext.refl _) | (with_reducible exact ExtOf.ext _) | (with_reducible refine Ext.trans ?_ (ExtOf.ext _)) | (with_reducible refine Ext.alloc ?_ _) | (with_reducible refine Ext.drew ?_) | (with_reducible refine Ext.setCell ?_ ?_ _) | (with_reducible refine Ext.setRow ?_ ?_ _) | (with_reducible exact HX.out) | (with_reducible refine Ext.trans ?_ HX.out) | (with_reducible refine Ext.below ?_ (Nat.le_refl _) _) | (simp; done) | (simp; omega)))))) | (go_at_call 10; exact ext_call (awake_any _))))
        refine wpQuiet_nil ?_
        intro _ hw'
        obtain ⟨nq, hw''⟩ := hw'
        subst hw''
        go_wp2_with fail
        go_ret
        refine ⟨rfl, ?_⟩
        exact ExtOf.of (by repeat' (first | (with_reducible exact Ext.refl _) | (with_reducible exact ExtOf.ext _) | (with_reducible refine Ext.trans ?_ (ExtOf.ext _)) | (with_reducible refine Ext.alloc ?_ _) | (with_reducible refine Ext.drew ?_) | (with_reducible refine Ext.setCell ?_ ?_ _) | (with_reducible refine Ext.setRow ?_ ?_ _) | (with_reducible exact HX.out) | (with_reducible refine Ext.trans ?_ HX.out) | (with_reducible refine Ext.below ?_ (Nat.le_refl _) _) | (simp; done) | (simp; omega)))
      · have t2' : decide ((1000 : Int) < (to.length : Int)) = true := by simp at t2 ⊢; omega
        go_wp2_with fail
        refine (awake_any _).mono ?_
        rintro e w' ⟨rfl, nz, rfl⟩
        go_wp2_with fail
        go_ret
        refine ⟨rfl, ?_⟩
        exact ExtOf.of (by repeat' (first | (with_reducible exact Ext.refl _) | (with_reducible exact ExtOf.ext _) | (with_reducible refine Ext.trans ?_ (ExtOf.ext _)) | (with_reducible refine Ext.alloc ?_ _) | (with_reducible refine Ext.drew ?_) | (with_reducible refine Ext.setCell ?_ ?_ _) | (with_reducible refine Ext.setRow ?_ ?_ _) | (with_reducible exact HX.out) | (with_reducible refine Ext.trans ?_ HX.out) | (with_reducible refine Ext.below ?_ (Nat.le_refl _) _) | (simp; done) | (simp; omega)))
    · have t1' : decide ((50 : Int) < (m.length : Int)) = true := by simp at t1 ⊢; omega
      go_wp2_with fail
      refine (awake_any _).mono ?_
      rintro e w' ⟨rfl, nz, rfl⟩
      go_wp2_with fail
      go_ret
      refine ⟨rfl, ?_⟩
      exact ExtOf.of (by repeat' (first | (with_reducible exact Ext.refl _) | (with_reducible exact ExtOf.ext _) | (with_reducible refine Ext.trans ?_ (ExtOf.ext _)) | (with_reducible refine Ext.alloc ?_ _) | (with_reducible refine Ext.drew ?_) | (with_reducible refine Ext.setCell ?_ ?_ _) | (with_reducible refine Ext.setRow ?_ ?_ _) | (with_reducible exact HX.out) | (with_reducible refine Ext.trans ?_ HX.out) | (with_reducible refine Ext.below ?_ (Nat.le_refl _) _) | (simp; done) | (simp; omega)))

end Go.Proofs.Ythchddkdcibbhaa
