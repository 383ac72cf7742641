/-
  The contracts of slices.Grow (of nil), slices.Concat (of two) and Union.
-/
import Derived.Test.YtfbcaafkekcmbaaW6
import Derived.Test.YtfbcaafkekcmbaaBase5
namespace Go.Proofs.Ytfbcaafkekcmbaa
open Go.RowKit SpanM

attribute [local go_sem] ExtOf.cell ExtOf.frozen Block.cell Block.frozen ExtB.cell ExtB.frozen alloc_cell alloc_frozen

/-- a slice of the call's own is returned -/
def RetO (w : World) (l : List Sp) (e : Ending) (w' : World) : Prop := ∃ v, e = .returned v ∧ Own encS 2 23 w.heap.size w' v l ∧ ∃ n : ExtOf w, w' = n.val

set_option maxHeartbeats 800000 in
theorem grow_any (n : Nat) (w : World) (hn : n ≤ 4398046511104) : Calls Try.prog 46 #[.slice none 0 0, .int .i64 n] w (RetO w []) := by
  obtain ⟨i0, hi, hz0, hz1, hz2⟩ := info_parts infoS
  by_cases h0 : 0 < n
  · go_enter Try.func46, Try.ntmps46
    go_wp2_with (at_builtin; refine wl_append_zeros (n := n) Try.underlying28 Try.underlying3 hi hz0 hz1 hz2 rfl (by decide) rfl rfl h0 (by unfold maxLen; omega) (by omega) ?_; intro cap C hc1 hc2 hcs)
    go_ret
    exact ⟨_, rfl, World.ownsRow_made w C cap (Nat.le_refl _) hc2 hcs, ExtOf.of (by repeat' (first | (with_reducible exact Ext.refl _) | (with_reducible exact ExtOf.ext _) | (with_reducible refine Ext.trans ?_ (ExtOf.ext _)) | (with_reducible refine Ext.alloc ?_ _) | (with_reducible refine Ext.drew ?_) | (with_reducible refine Ext.setCell ?_ ?_ _) | (with_reducible refine Ext.setRow ?_ ?_ _) | (with_reducible exact HX.out) | (with_reducible refine Ext.trans ?_ HX.out) | (with_reducible refine Ext.below ?_ (Nat.le_refl _) _) | (simp; done) | (simp; omega)))⟩
  · obtain rfl : n = 0 := by omega
    go_enter Try.func46, Try.ntmps46
    go_wp2
    go_ret
    exact ⟨_, rfl, Own.nil _, ExtOf.of (Ext.refl _)⟩

set_option maxHeartbeats 1600000 in
theorem concat_any (p p' : Option Addr) (cap cap' : Nat) (a b : List Sp) (blk : Nat) (w : World) (hB : Block w blk #[.slice p a.length cap, .slice p' b.length cap']) (ha : SpS w (.slice p a.length cap) a) (hb : SpS w (.slice p' b.length cap') b) (hla : a.length ≤ 1099511627776) (hlb : b.length ≤ 1099511627776) :
    Calls Try.prog 42 #[.slice (some ⟨blk, 0, none⟩) 2 2] w (RetO w (a ++ b)) := by
  obtain ⟨i0, hi, hz0, hz1, hz2⟩ := info_parts infoS
  have ob := hB.old
  have HA := Lib.hid ha
  have HB := Lib.hid hb
  clear ha hb
  go_enter Try.func42, Try.ntmps42
  go_wp2
  refine wp_loop_rounds 3 ?_
  rw [rounds_succ]
  go_wp2
  rw [rounds_succ]
  go_wp2
  rw [rounds_succ]
  go_wp2_with (go_at_call 46; refine (grow_any (a.length + b.length) _ (by omega)).mono ?_; rintro e w' ⟨v, rfl, hown, n, rfl⟩)
  have HO := Lib.hid hown
  have hs1 := n.size
  clear hown
  refine wp_loop_rounds 3 ?_
  rw [rounds_succ]
  go_wp2_with ((at_builtin; refine wl_appendS (enc := encS) (k := 2) (E := 23) (base := w.heap.size) (l := []) (m := a) Try.underlying28 hi hz0 hz1 hz2 rfl (by decide) encS_len encS_one rfl rfl HO.out (SliceOf.ext HA.out n.ext) (by unfold maxLen; first | omega | (simp; omega)) (by first | omega | (simp; omega)) (by first | omega | (simp; omega)) ?_; intro v' nb hown'))
  have HO1 := Lib.hid hown'
  have HX1 : Hid (Ext w nb.val) := Lib.hid (Ext.below n.ext (Nat.le_refl _) nb)
  have hs2 := nb.below.size
  have HBn := Lib.hid (SliceOf.ext HB.out HX1.out)
  clear hown'
  rw [rounds_succ]
  go_wp2_with ((at_builtin; refine wl_appendS (enc := encS) (k := 2) (E := 23) (base := w.heap.size) (l := ([] ++ a)) (m := b) Try.underlying28 hi hz0 hz1 hz2 rfl (by decide) encS_len encS_one rfl rfl HO1.out HBn.out (by unfold maxLen; first | omega | (simp; omega)) (by first | omega | (simp; omega)) (by first | omega | (simp; omega)) ?_; intro v' nb hown'))
  rw [rounds_succ]
  go_wp2
  go_ret
  exact ⟨_, rfl, hown', ExtOf.of (Ext.below HX1.out (Nat.le_refl _) _)⟩

set_option maxHeartbeats 800000 in
theorem union_any (p p' : Option Addr) (cap cap' : Nat) (a b : List Sp) (w : World) (ha : SpS w (.slice p a.length cap) a) (hb : SpS w (.slice p' b.length cap') b) (hla : a.length ≤ 1099511627776) (hlb : b.length ≤ 549755813888) (hla' : a.length ≤ 549755813888) :
    Calls Try.prog 22 #[.slice p a.length cap, .slice p' b.length cap'] w (RetS w (SpanM.canon (a ++ b))) := by
  have HA := Lib.hid ha
  have HB := Lib.hid hb
  obtain ⟨z, hz⟩ : ∃ z, z = a ++ b := ⟨_, rfl⟩
  have hl : z.length ≤ 1099511627776 := by rw [hz]; simp; omega
  rw [← hz]
  have HZ := Lib.hid hz
  clear ha hb hz
  go_enter Try.func22, Try.ntmps22
  go_wp2_with (first | (go_at_call 42; refine (concat_any p p' cap cap' a b _ _ inferInstance (SliceOf.ext HA.out (by repeat' (first | (with_reducible exact Ext.refl _) | (with_reducible exact ExtOf.ext _) | (with_reducible refine Ext.trans ?_ (ExtOf.ext _)) | (with_reducible refine Ext.alloc ?_ _) | (with_reducible refine Ext.drew ?_) | (with_reducible refine Ext.setCell ?_ ?_ _) | (with_reducible refine Ext.setRow ?_ ?_ _) | (with_reducible exact HX.out) | (with_reducible refine Ext.trans ?_ HX.out) | (with_reducible refine Ext.below ?_ (Nat.le_refl _) _) | (simp; done) | (simp; omega)))) (SliceOf.ext HB.out (by repeat' (first | (with_reducible exact Ext.refl _) | (with_reducible exact ExtOf.ext _) | (with_reducible refine Ext.trans ?_ (ExtOf.ext _)) | (with_reducible refine Ext.alloc ?_ _) | (with_reducible refine Ext.drew ?_) | (with_reducible refine Ext.setCell ?_ ?_ _) | (with_reducible refine Ext.setRow ?_ ?_ _) | (with_reducible exact HX.out) | (with_reducible refine Ext.trans ?_ HX.out) | (with_reducible refine Ext.below ?_ (Nat.le_refl _) _) | (simp; done) | (simp; omega)))) (by omega) (by omega)).mono ?_; rintro e w' ⟨v, rfl, hown, n, rfl⟩; rw [← HZ.out] at hown; obtain ⟨q, c, rfl⟩ := Own.form hown; have HO := Lib.hid (Own.slice encS_len hown); clear hown) | (go_at_call 18; refine (canon_any _ _ z _ HO.out hl).mono ?_; rintro e w' ⟨q2, c2, rfl, hs, hfr, n2, rfl⟩))
  go_ret
  refine ⟨_, _, rfl, hs, fun x hx => ?_, ?_⟩
  · have h1 := hfr x hx
    have h2 := n.size
    simp at h2
    omega
  · exact ExtOf.of (by repeat' (first | (with_reducible exact Ext.refl _) | (with_reducible exact ExtOf.ext _) | (with_reducible refine Ext.trans ?_ (ExtOf.ext _)) | (with_reducible refine Ext.alloc ?_ _) | (with_reducible refine Ext.drew ?_) | (with_reducible refine Ext.setCell ?_ ?_ _) | (with_reducible refine Ext.setRow ?_ ?_ _) | (with_reducible exact HX.out) | (with_reducible refine Ext.trans ?_ HX.out) | (with_reducible refine Ext.below ?_ (Nat.le_refl _) _) | (simp; done) | (simp; omega)))

end Go.Proofs.Ytfbcaafkekcmbaa
