/-
  The contract of better, and what it says.
-/
import Derived.Test.YthchddkdcibbhaaE1
namespace Go.Proofs.Ythchddkdcibbhaa
open Go.RowKit AssignM

attribute [local go_sem] ExtOf.cell ExtOf.frozen Block.cell Block.frozen ExtB.cell ExtB.frozen alloc_cell alloc_frozen

/-- at the first difference the first list has more -/
def betterS : List Int → List Int → Bool
  | x :: a, y :: b => if x = y then betterS a b else decide (y < x)
  | _, _ => false
theorem better_step {a b : List Int} {k : Nat} (h : betterS a b = betterS (a.drop k) (b.drop k)) (ha : k < a.length) (hb : k < b.length) : (a[k] ≠ b[k] → betterS a b = decide (b[k] < a[k])) ∧ (a[k] = b[k] → betterS a b = betterS (a.drop (k + 1)) (b.drop (k + 1))) := by
  rw [List.drop_eq_getElem_cons ha, List.drop_eq_getElem_cons hb, betterS] at h
  exact ⟨fun c => by rw [h, if_neg c], fun c => by rw [h, if_pos c]⟩
theorem better_end {a b : List Int} (h : a = [] ∨ b = []) : betterS a b = false := by
  rcases h with rfl | rfl
  · rfl
  · cases a <;> rfl
theorem better_false : ∀ {a b : List Int}, (∀ (k : Nat) x y, a[k]? = some x → b[k]? = some y → (∀ j, j < k → a[j]? = b[j]?) → x ≤ y) → betterS a b = false
  | [], b, _ => rfl
  | _ :: _, [], _ => rfl
  | x :: a, y :: b, h => by
    rw [betterS]
    by_cases e : x = y
    · subst e
      rw [if_pos rfl]
      refine better_false fun k x' y' hx hy hpre => h (k + 1) x' y' (by simpa using hx) (by simpa using hy) fun j hj => ?_
      cases j with
      | zero => simp
      | succ j => simpa using hpre j (by omega)
    · rw [if_neg e]
      have := h 0 x y rfl rfl (fun j hj => by omega)
      simp; omega
set_option maxHeartbeats 800000 in
theorem better_any (a b : List Int) (v0 v1 : Value) (w : World) (h0 : IntS w v0 a) (h1 : IntS w v1 b) (hla : a.length ≤ 1048576) (hlb : b.length ≤ 1048576) :
    Calls Try.prog 22 #[v0, v1] w fun e w' => e = .returned (.bool (betterS a b)) ∧ ∃ n : ExtOf w, w' = n.val := by
  obtain ⟨p0, cap0, rfl, hg1, hg2, hg3⟩ := SliceOf.form h0
  obtain ⟨p1, cap1, rfl, hg4, hg5, hg6⟩ := SliceOf.form h1
  have H0 := Lib.hid h0
  have H1 := Lib.hid h1
  clear h0 h1
  go_enter Try.func22, Try.ntmps22
  go_wp2
  go_loopw [5] (fun v wr => ∃ k : Nat, k ≤ a.length ∧ v = .int .i64 k ∧ betterS a b = betterS (a.drop k) (b.drop k) ∧ Ext w wr) (fun v _ => a.length - (intOf v).toNat)
  case atStart => exact ⟨0, by omega, rfl, rfl, Ext.refl _⟩
  case round =>
    obtain ⟨k, hk, rfl, hs, hx⟩ := hrel
    have HX := Lib.hid hx
    clear hx
    by_cases hlt : k < a.length
    · by_cases hlt' : k < b.length
      · have HB := Lib.hid (better_step hs hlt hlt')
        clear hs
        obtain ⟨b0, off0, rfl, o0, c0⟩ := SliceOf.elem1 (SliceOf.ext H0.out HX.out) hlt rfl
        obtain ⟨b1, off1, rfl, o1, c1⟩ := SliceOf.elem1 (SliceOf.ext H1.out HX.out) hlt' rfl
        obtain ⟨x, hx0⟩ : ∃ x : Int, x = a[k] := ⟨_, rfl⟩
        obtain ⟨y, hy0⟩ : ∃ y : Int, y = b[k] := ⟨_, rfl⟩
        rw [← hx0] at c0 HB
        rw [← hy0] at c1 HB
        clear hx0 hy0
        by_cases t1 : x = y
        · have HN := Lib.hid (HB.out.2 t1)
          subst t1
          clear HB
          go_wp2
          refine wp_region_ext (by kernel_rfl) (by kernel_rfl) ?_
          repeat (first | go_big_quiet_skip | go_big_quiet_step (fail))
          refine wpQuiet_nil ?_
          intro _ hw'
          obtain ⟨nq, hw''⟩ := hw'
          subst hw''
          go_wp2
          go_roundw
          case rel => exact ⟨k + 1, by omega, by go_num, HN.out, by repeat' (first | (with_reducible exact Ext.refl _) | (with_reducible exact ExtOf.ext _) | (with_reducible refine Ext.trans ?_ (ExtOf.ext _)) | (with_reducible refine Ext.alloc ?_ _) | (with_reducible refine Ext.drew ?_) | (with_reducible refine Ext.setCell ?_ ?_ _) | (with_reducible refine Ext.setRow ?_ ?_ _) | (with_reducible exact HX.out) | (with_reducible refine Ext.trans ?_ HX.out) | (with_reducible refine Ext.below ?_ (Nat.le_refl _) _) | (simp; done) | (simp; omega))⟩
          case measure => simp [intOf]; omega
        · have HN := Lib.hid (HB.out.1 t1)
          have hne : (x != y) = true := by simpa using t1
          clear HB
          go_wp2
          refine wp_region_ext (by kernel_rfl) (by kernel_rfl) ?_
          repeat (first | go_big_quiet_skip | go_big_quiet_step (fail))
          refine wpQuiet_nil ?_
          intro _ hw'
          obtain ⟨nq, hw''⟩ := hw'
          subst hw''
          go_wp2
          refine wp_region_ext (by kernel_rfl) (by kernel_rfl) ?_
          repeat (first | go_big_quiet_skip | go_big_quiet_step (fail))
          refine wpQuiet_nil ?_
          intro _ hw'
          obtain ⟨nq, hw''⟩ := hw'
          subst hw''
          go_wp2
          go_ret
          refine ⟨ret_bool HN.out.symm, ?_⟩
          exact ExtOf.of (by repeat' (first | (with_reducible exact Ext.refl _) | (with_reducible exact ExtOf.ext _) | (with_reducible refine Ext.trans ?_ (ExtOf.ext _)) | (with_reducible refine Ext.alloc ?_ _) | (with_reducible refine Ext.drew ?_) | (with_reducible refine Ext.setCell ?_ ?_ _) | (with_reducible refine Ext.setRow ?_ ?_ _) | (with_reducible exact HX.out) | (with_reducible refine Ext.trans ?_ HX.out) | (with_reducible refine Ext.below ?_ (Nat.le_refl _) _) | (simp; done) | (simp; omega)))
      · have HN := Lib.hid (hs.trans (better_end (.inr (List.drop_of_length_le (by omega)))))
        have d1 : decide ((k : Int) < (b.length : Int)) = false := by simp; omega
        clear hs
        go_wp2
        go_ret
        refine ⟨ret_bool HN.out.symm, ?_⟩
        exact ExtOf.of (by repeat' (first | (with_reducible exact Ext.refl _) | (with_reducible exact ExtOf.ext _) | (with_reducible refine Ext.trans ?_ (ExtOf.ext _)) | (with_reducible refine Ext.alloc ?_ _) | (with_reducible refine Ext.drew ?_) | (with_reducible refine Ext.setCell ?_ ?_ _) | (with_reducible refine Ext.setRow ?_ ?_ _) | (with_reducible exact HX.out) | (with_reducible refine Ext.trans ?_ HX.out) | (with_reducible refine Ext.below ?_ (Nat.le_refl _) _) | (simp; done) | (simp; omega)))
    · have HN := Lib.hid (hs.trans (better_end (.inl (List.drop_of_length_le (by omega)))))
      have d1 : decide ((k : Int) < (a.length : Int)) = false := by simp; omega
      clear hs
      go_wp2
      go_ret
      refine ⟨ret_bool HN.out.symm, ?_⟩
      exact ExtOf.of (by repeat' (first | (with_reducible exact Ext.refl _) | (with_reducible exact ExtOf.ext _) | (with_reducible refine Ext.trans ?_ (ExtOf.ext _)) | (with_reducible refine Ext.alloc ?_ _) | (with_reducible refine Ext.drew ?_) | (with_reducible refine Ext.setCell ?_ ?_ _) | (with_reducible refine Ext.setRow ?_ ?_ _) | (with_reducible exact HX.out) | (with_reducible refine Ext.trans ?_ HX.out) | (with_reducible refine Ext.below ?_ (Nat.le_refl _) _) | (simp; done) | (simp; omega)))

end Go.Proofs.Ythchddkdcibbhaa
