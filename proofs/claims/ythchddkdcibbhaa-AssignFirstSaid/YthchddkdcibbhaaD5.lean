/-
  The walk of the statement AssignFirst.
-/
import Derived.Test.YthchddkdcibbhaaD2
import Derived.Test.YthchddkdcibbhaaE3
namespace Go.Proofs.Ythchddkdcibbhaa
open Go.RowKit AssignM

attribute [local go_sem] ExtOf.cell ExtOf.frozen Block.cell Block.frozen ExtB.cell ExtB.frozen alloc_cell alloc_frozen
theorem valid_is {F : List (List Bool)} {m to : List Int} {b : Bool} {v0 v1 v2 : Value} {w : World} (h : validS F m to = b) (hR : F.length ≤ 1048576) (hl : m.length ≤ 1048576) (ht : to.length ≤ 1048576) (hG : GridS w v0 F) (h1 : IntS w v1 m) (h2 : IntS w v2 to) :
    Calls Try.prog 19 #[v0, v1, v2] w fun e w' => e = .returned (.bool b) ∧ ∃ n : ExtOf w, w' = n.val := by
  have := valid_any F m to v0 v1 v2 w hR hl ht hG h1 h2
  rw [h] at this
  exact this
theorem ints_is {a b : List Int} {x : Bool} {v0 v1 : Value} {w : World} (h : sameI a b = x) (hla : a.length ≤ 1048576) (hlb : b.length ≤ 1048576) (h0 : IntS w v0 a) (h1 : IntS w v1 b) :
    Calls Try.prog 16 #[v0, v1] w fun e w' => e = .returned (.bool x) ∧ ∃ n : ExtOf w, w' = n.val := by
  have := ints_any a b v0 v1 w h0 h1 hla hlb
  rw [h] at this
  exact this
set_option maxRecDepth 20000 in
set_option maxHeartbeats 3200000 in
theorem first_walk (F : List (List Bool)) (l m to : List Int) (v0 v1 v2 v3 : Value) (w : World) (hG : GridS w v0 F) (h1 : IntS w v1 l) (h2 : IntS w v2 m) (h3 : IntS w v3 to) :
    Calls Try.prog 8 #[.agg #[v0, v1, v2], v3] w fun e w' => e = .returned (.bool true) ∧ ∃ n : ExtOf w, w' = n.val := by
  obtain ⟨p0, cap0, rfl, hh1, hh2, hh3⟩ := hG.form
  obtain ⟨p1, cap1, rfl, hg1, hg2, hg3⟩ := SliceOf.form h1
  obtain ⟨p2, cap2, rfl, hg4, hg5, hg6⟩ := SliceOf.form h2
  obtain ⟨p3, cap3, rfl, hg7, hg8, hg9⟩ := SliceOf.form h3
  have HG := Lib.hid hG
  have H1 := Lib.hid h1
  have H2 := Lib.hid h2
  have H3 := Lib.hid h3
  clear hG h1 h2 h3
  go_enter Try.func8, Try.ntmps8
  go_wp2_with fail
  refine (small_any F _ _ (HG.out.ext (by repeat' (first | (with_reducible exact Ext.refl _) | (with_reducible exact ExtOf.ext _) | (with_reducible refine Ext.trans ?_ (ExtOf.ext _)) | (with_reducible refine Ext.alloc ?_ _) | (with_reducible refine Ext.drew ?_) | (with_reducible refine Ext.setCell ?_ ?_ _) | (with_reducible refine Ext.setRow ?_ ?_ _) | (with_reducible exact HX.out) | (with_reducible refine Ext.trans ?_ HX.out) | (with_reducible refine Ext.below ?_ (Nat.le_refl _) _) | (simp; done) | (simp; omega))))).mono ?_
  rintro e w' ⟨b, rfl, hb, n1, rfl⟩
  rcases b with _ | _
  · go_wp2_with fail
    refine (awake_any _).mono ?_
    rintro e w' ⟨rfl, nz, rfl⟩
    go_wp2_with fail
    go_ret
    refine ⟨rfl, ?_⟩
    exact ExtOf.of (by repeat' (first | (with_reducible exact Ext.refl _) | (with_reducible exact ExtOf.ext _) | (with_reducible refine Ext.trans ?_ (ExtOf.ext _)) | (with_reducible refine Ext.alloc ?_ _) | (with_reducible refine Ext.drew ?_) | (with_reducible refine Ext.setCell ?_ ?_ _) | (with_reducible refine Ext.setRow ?_ ?_ _) | (with_reducible exact HX.out) | (with_reducible refine Ext.trans ?_ HX.out) | (with_reducible refine Ext.below ?_ (Nat.le_refl _) _) | (simp; done) | (simp; omega)))
  · have hR := hb rfl
    clear hb
    rcases t1 : decide (50 < m.length) with _ | _
    · have t1' : decide ((50 : Int) < (m.length : Int)) = false := by simp at t1 ⊢; omega
      have hml : m.length ≤ 50 := by simp at t1; omega
      rcases t2 : decide (50 < l.length) with _ | _
      · have t2' : decide ((50 : Int) < (l.length : Int)) = false := by simp at t2 ⊢; omega
        have hll : l.length ≤ 50 := by simp at t2; omega
        rcases t3 : decide (100 < to.length) with _ | _
        · have t3' : decide ((100 : Int) < (to.length : Int)) = false := by simp at t3 ⊢; omega
          have htl : to.length ≤ 100 := by simp at t3; omega
          clear t1 t2 t3
          have hbs := bestS_len (F := F) (l := l) (m := m)
          go_wp2_with fail
          refine (best_any F l m _ _ _ _ (by omega) (by omega) (by omega) (HG.out.ext (by repeat' (first | (with_reducible exact Ext.refl _) | (with_reducible exact ExtOf.ext _) | (with_reducible refine Ext.trans ?_ (ExtOf.ext _)) | (with_reducible refine Ext.alloc ?_ _) | (with_reducible refine Ext.drew ?_) | (with_reducible refine Ext.setCell ?_ ?_ _) | (with_reducible refine Ext.setRow ?_ ?_ _) | (with_reducible exact HX.out) | (with_reducible refine Ext.trans ?_ HX.out) | (with_reducible refine Ext.below ?_ (Nat.le_refl _) _) | (simp; done) | (simp; omega)))) (SliceOf.ext H1.out (by repeat' (first | (with_reducible exact Ext.refl _) | (with_reducible exact ExtOf.ext _) | (with_reducible refine Ext.trans ?_ (ExtOf.ext _)) | (with_reducible refine Ext.alloc ?_ _) | (with_reducible refine Ext.drew ?_) | (with_reducible refine Ext.setCell ?_ ?_ _) | (with_reducible refine Ext.setRow ?_ ?_ _) | (with_reducible exact HX.out) | (with_reducible refine Ext.trans ?_ HX.out) | (with_reducible refine Ext.below ?_ (Nat.le_refl _) _) | (simp; done) | (simp; omega)))) (SliceOf.ext H2.out (by repeat' (first | (with_reducible exact Ext.refl _) | (with_reducible exact ExtOf.ext _) | (with_reducible refine Ext.trans ?_ (ExtOf.ext _)) | (with_reducible refine Ext.alloc ?_ _) | (with_reducible refine Ext.drew ?_) | (with_reducible refine Ext.setCell ?_ ?_ _) | (with_reducible refine Ext.setRow ?_ ?_ _) | (with_reducible exact HX.out) | (with_reducible refine Ext.trans ?_ HX.out) | (with_reducible refine Ext.below ?_ (Nat.le_refl _) _) | (simp; done) | (simp; omega))))).mono ?_
          rintro e w' ⟨va, rfl, hva, n2, rfl⟩
          obtain ⟨p4, cap4, rfl, hk1, hk2, hk3⟩ := SliceOf.form hva
          have c0 : n2.val.cell? ⟨w.heap.size, 0, none⟩ = some (.slice p0 F.length cap0) := by simp [go_sem]
          have c2 : n2.val.cell? ⟨w.heap.size, 2, none⟩ = some (.slice p2 m.length cap2) := by simp [go_sem]
          have HX : Hid (Ext w n2.val) := Lib.hid (by repeat' (first | (with_reducible exact Ext.refl _) | (with_reducible exact ExtOf.ext _) | (with_reducible refine Ext.trans ?_ (ExtOf.ext _)) | (with_reducible refine Ext.alloc ?_ _) | (with_reducible refine Ext.drew ?_) | (with_reducible refine Ext.setCell ?_ ?_ _) | (with_reducible refine Ext.setRow ?_ ?_ _) | (with_reducible exact HX.out) | (with_reducible refine Ext.trans ?_ HX.out) | (with_reducible refine Ext.below ?_ (Nat.le_refl _) _) | (simp; done) | (simp; omega)))
          have HVA := Lib.hid hva
          have ow : Old w.heap.size n2.val := Old.of_cell c0
          clear hva t1' t2' t3'
          generalize n2.val = W2 at *
          clear n2 n1
          by_cases t4 : bestErr F l m = 0
          · have HBV := Lib.hid (bestS_valid t4)
            have HFM := Lib.hid (fun hv hc k hk hk' => bestS_first (to := to) t4 hv hc (k := k) hk hk')
            have HBLE := Lib.hid (bestS_length t4)
            rw [t4]
            generalize bestS F l m = bs at *
            rcases t5 : validS F m to with _ | _
            · clear HFM
              go_wp2_with fail
              refine wp_region_ext (by kernel_rfl) (by kernel_rfl) ?_
              repeat (first | go_big_quiet_skip | go_big_quiet_step ((go_at_call 19; with_reducible exact ext_call (valid_is t5 (by omega) (by omega) (by omega) (HG.out.ext (by repeat' (first | (with_reducible exact Ext.refl _) | (with_reducible exact ExtOf.ext _) | (with_reducible refine Ext.trans ?_ (ExtOf.ext _)) | (with_reducible refine Ext.alloc ?_ _) | (with_reducible refine Ext.drew ?_) | (with_reducible refine Ext.setCell ?_ ?_ _) | (with_reducible refine Ext.setRow ?_ ?_ _) | (with_reducible exact HX.out) | (with_reducible refine Ext.trans ?_ HX.out) | (with_reducible refine Ext.below ?_ (Nat.le_refl _) _) | (simp; done) | (simp; omega)))) (SliceOf.ext H2.out (by repeat' (first | (with_reducible exact Ext.refl _) | (with_reducible exact ExtOf.ext _) | (with_reducible refine Ext.trans ?_ (ExtOf.ext _)) | (with_reducible refine Ext.alloc ?_ _) | (with_reducible refine Ext.drew ?_) | (with_reducible refine Ext.setCell ?_ ?_ _) | (with_reducible refine Ext.setRow ?_ ?_ _) | (with_reducible exact HX.out) | (with_reducible refine Ext.trans ?_ HX.out) | (with_reducible refine Ext.below ?_ (Nat.le_refl _) _) | (simp; done) | (simp; omega)))) (SliceOf.ext H3.out (by repeat' (first | (with_reducible exact Ext.refl _) | (with_reducible exact ExtOf.ext _) | (with_reducible refine Ext.trans ?_ (ExtOf.ext _)) | (with_reducible refine Ext.alloc ?_ _) | (with_reducible refine Ext.drew ?_) | (with_reducible refine Ext.setCell ?_ ?_ _) | (with_reducible refine Ext.setRow ?_ ?_ _) | (with_reducible exact HX.out) | (with_reducible refine Ext.trans ?_ HX.out) | (with_reducible refine Ext.below ?_ (Nat.le_refl _) _) | (simp; done) | (simp; omega))))))))
              refine wpQuiet_nil ?_
              intro _ hw'
              obtain ⟨nq, hw''⟩ := hw'
              subst hw''
              go_wp2_with fail
              refine (valid_is HBV.out (by omega) (by omega) (by omega) (HG.out.ext (by repeat' (first | (with_reducible exact Ext.refl _) | (with_reducible exact ExtOf.ext _) | (with_reducible refine Ext.trans ?_ (ExtOf.ext _)) | (with_reducible refine Ext.alloc ?_ _) | (with_reducible refine Ext.drew ?_) | (with_reducible refine Ext.setCell ?_ ?_ _) | (with_reducible refine Ext.setRow ?_ ?_ _) | (with_reducible exact HX.out) | (with_reducible refine Ext.trans ?_ HX.out) | (with_reducible refine Ext.below ?_ (Nat.le_refl _) _) | (simp; done) | (simp; omega)))) (SliceOf.ext H2.out (by repeat' (first | (with_reducible exact Ext.refl _) | (with_reducible exact ExtOf.ext _) | (with_reducible refine Ext.trans ?_ (ExtOf.ext _)) | (with_reducible refine Ext.alloc ?_ _) | (with_reducible refine Ext.drew ?_) | (with_reducible refine Ext.setCell ?_ ?_ _) | (with_reducible refine Ext.setRow ?_ ?_ _) | (with_reducible exact HX.out) | (with_reducible refine Ext.trans ?_ HX.out) | (with_reducible refine Ext.below ?_ (Nat.le_refl _) _) | (simp; done) | (simp; omega)))) (SliceOf.ext HVA.out (by repeat' (first | (with_reducible exact Ext.refl _) | (with_reducible exact ExtOf.ext _) | (with_reducible refine Ext.trans ?_ (ExtOf.ext _)) | (with_reducible refine Ext.alloc ?_ _) | (with_reducible refine Ext.drew ?_) | (with_reducible refine Ext.setCell ?_ ?_ _) | (with_reducible refine Ext.setRow ?_ ?_ _) | (with_reducible exact HX.out) | (with_reducible refine Ext.trans ?_ HX.out) | (with_reducible refine Ext.below ?_ (Nat.le_refl _) _) | (simp; done) | (simp; omega))))).mono ?_
              rintro e w' ⟨rfl, n3, rfl⟩
              go_wp2_with fail
              refine (awake_any _).mono ?_
              rintro e w' ⟨rfl, nz, rfl⟩
              go_wp2_with fail
              go_ret
              refine ⟨rfl, ?_⟩
              exact ExtOf.of (by repeat' (first | (with_reducible exact Ext.refl _) | (with_reducible exact ExtOf.ext _) | (with_reducible refine Ext.trans ?_ (ExtOf.ext _)) | (with_reducible refine Ext.alloc ?_ _) | (with_reducible refine Ext.drew ?_) | (with_reducible refine Ext.setCell ?_ ?_ _) | (with_reducible refine Ext.setRow ?_ ?_ _) | (with_reducible exact HX.out) | (with_reducible refine Ext.trans ?_ HX.out) | (with_reducible refine Ext.below ?_ (Nat.le_refl _) _) | (simp; done) | (simp; omega)))
            · have HLEN : Hid (bs.length = to.length) := Lib.hid (by rw [HBLE.out]; exact (validS_iff.1 t5).2.1.symm)
              clear HBLE
              rcases t6 : sameI (cntsL F.length bs) (cntsL F.length to) with _ | _
              · go_wp2_with fail
                refine region_held (S := fun W' => Ext W2.drew W') (by kernel_rfl) ?_
                have HSW : Hid (Ext W2.drew W2.drew) := Lib.hid (Ext.refl _)
                have c0d : W2.drew.cell? ⟨w.heap.size, 0, none⟩ = some (.slice p0 F.length cap0) := c0
                have c2d : W2.drew.cell? ⟨w.heap.size, 2, none⟩ = some (.slice p2 m.length cap2) := c2
                refine wpAnyH_take (i := 0) (v := .int .i64 0) rfl (by kernel_rfl) (by kernel_rfl) (by kernel_rfl) (fun _ _ _ h => h) (.inl ⟨rfl, fun w' hb => rfl⟩) HSW.out ?_
                simp only [List.getElem_toArray, List.getElem_cons_succ, List.getElem_cons_zero, Act.put, List.setIfInBounds_toArray, List.set_cons_succ, List.set_cons_zero]
                refine wpAnyH_take (i := 1) (v := .bool false) rfl (by kernel_rfl) (by kernel_rfl) (by kernel_rfl) (fun _ _ _ h => h) (.inl ⟨rfl, fun w' hb => (by simp [go_sem])⟩) HSW.out ?_
                simp only [List.getElem_toArray, List.getElem_cons_succ, List.getElem_cons_zero, Act.put, List.setIfInBounds_toArray, List.set_cons_succ, List.set_cons_zero]
                refine wpAnyH_take (i := 2) (v := .bool false) rfl (by kernel_rfl) (by kernel_rfl) (by kernel_rfl) (fun _ _ _ h => h) (.inl ⟨rfl, fun w' hb => rfl⟩) HSW.out ?_
                simp only [List.getElem_toArray, List.getElem_cons_succ, List.getElem_cons_zero, Act.put, List.setIfInBounds_toArray, List.set_cons_succ, List.set_cons_zero]
                refine wpAnyH_take (i := 3) (v := .pointer (some ⟨w.heap.size, 0, none⟩)) rfl (by kernel_rfl) (by kernel_rfl) (by kernel_rfl) (fun _ _ _ h => h) (.inl ⟨rfl, fun w' hb => (by simp [go_sem])⟩) HSW.out ?_
                simp only [List.getElem_toArray, List.getElem_cons_succ, List.getElem_cons_zero, Act.put, List.setIfInBounds_toArray, List.set_cons_succ, List.set_cons_zero]
                refine wpAnyH_take (i := 4) (v := .slice p0 F.length cap0) rfl (by kernel_rfl) (by kernel_rfl) (by kernel_rfl) (fun _ _ _ h => h) (.inl ⟨rfl, fun w' hb => (by have e0 := hb.cell c0d; simp [go_sem, e0])⟩) HSW.out ?_
                simp only [List.getElem_toArray, List.getElem_cons_succ, List.getElem_cons_zero, Act.put, List.setIfInBounds_toArray, List.set_cons_succ, List.set_cons_zero]
                refine wpAnyH_take (i := 5) (v := .pointer (some ⟨w.heap.size, 2, none⟩)) rfl (by kernel_rfl) (by kernel_rfl) (by kernel_rfl) (fun _ _ _ h => h) (.inl ⟨rfl, fun w' hb => (by simp [go_sem])⟩) HSW.out ?_
                simp only [List.getElem_toArray, List.getElem_cons_succ, List.getElem_cons_zero, Act.put, List.setIfInBounds_toArray, List.set_cons_succ, List.set_cons_zero]
                refine wpAnyH_take (i := 6) (v := .slice p2 m.length cap2) rfl (by kernel_rfl) (by kernel_rfl) (by kernel_rfl) (fun _ _ _ h => h) (.inl ⟨rfl, fun w' hb => (by have e0 := hb.cell c2d; simp [go_sem, e0])⟩) HSW.out ?_
                simp only [List.getElem_toArray, List.getElem_cons_succ, List.getElem_cons_zero, Act.put, List.setIfInBounds_toArray, List.set_cons_succ, List.set_cons_zero]
                refine wpAnyH_take (i := 7) (v := .slice p3 to.length cap3) rfl (by kernel_rfl) (by kernel_rfl) (by kernel_rfl) (fun _ _ _ h => h) (.inl ⟨rfl, fun w' hb => rfl⟩) HSW.out ?_
                simp only [List.getElem_toArray, List.getElem_cons_succ, List.getElem_cons_zero, Act.put, List.setIfInBounds_toArray, List.set_cons_succ, List.set_cons_zero]
                (refine wpAnyH_all (rs := [8]) (by kernel_rfl) (by simp) ?_; intro j hj; obtain rfl : j = 8 := by simpa using hj)
                refine wpOp_callg (f := 19) (vals := #[.slice p0 F.length cap0, .slice p2 m.length cap2, .slice p3 to.length cap3]) rfl rfl (by kernel_rfl) ?_
                refine (valid_is t5 (by omega) (by omega) (by omega) (HG.out.ext (by repeat' (first | (with_reducible exact Ext.refl _) | (with_reducible exact ExtOf.ext _) | (with_reducible refine Ext.trans ?_ (ExtOf.ext _)) | (with_reducible refine Ext.alloc ?_ _) | (with_reducible refine Ext.drew ?_) | (with_reducible refine Ext.setCell ?_ ?_ _) | (with_reducible refine Ext.setRow ?_ ?_ _) | (with_reducible exact HX.out) | (with_reducible refine Ext.trans ?_ HX.out) | (with_reducible refine Ext.below ?_ (Nat.le_refl _) _) | (simp; done) | (simp; omega)))) (SliceOf.ext H2.out (by repeat' (first | (with_reducible exact Ext.refl _) | (with_reducible exact ExtOf.ext _) | (with_reducible refine Ext.trans ?_ (ExtOf.ext _)) | (with_reducible refine Ext.alloc ?_ _) | (with_reducible refine Ext.drew ?_) | (with_reducible refine Ext.setCell ?_ ?_ _) | (with_reducible refine Ext.setRow ?_ ?_ _) | (with_reducible exact HX.out) | (with_reducible refine Ext.trans ?_ HX.out) | (with_reducible refine Ext.below ?_ (Nat.le_refl _) _) | (simp; done) | (simp; omega)))) (SliceOf.ext H3.out (by repeat' (first | (with_reducible exact Ext.refl _) | (with_reducible exact ExtOf.ext _) | (with_reducible refine Ext.trans ?_ (ExtOf.ext _)) | (with_reducible refine Ext.alloc ?_ _) | (with_reducible refine Ext.drew ?_) | (with_reducible refine Ext.setCell ?_ ?_ _) | (with_reducible refine Ext.setRow ?_ ?_ _) | (with_reducible exact HX.out) | (with_reducible refine Ext.trans ?_ HX.out) | (with_reducible refine Ext.below ?_ (Nat.le_refl _) _) | (simp; done) | (simp; omega))))).mono ?_
                rintro e w' ⟨rfl, n3, rfl⟩
                have hx1 : Ext W2.drew n3.val := n3.ext
                refine ⟨_, rfl, hx1, ?_⟩
                simp only [List.getElem_toArray, List.getElem_cons_succ, List.getElem_cons_zero, Act.put, List.setIfInBounds_toArray, List.set_cons_succ, List.set_cons_zero]
                clear HSW
                have HSW : Hid (Ext W2.drew n3.val) := Lib.hid hx1
                refine wpAnyH_take (i := 9) (v := .bool false) rfl (by kernel_rfl) (by kernel_rfl) (by kernel_rfl) (fun _ _ _ h => h) (.inl ⟨rfl, fun w' hb => (by simp [go_sem])⟩) HSW.out ?_
                simp only [List.getElem_toArray, List.getElem_cons_succ, List.getElem_cons_zero, Act.put, List.setIfInBounds_toArray, List.set_cons_succ, List.set_cons_zero]
                refine wpAnyH_take (i := 10) (v := .bool false) rfl (by kernel_rfl) (by kernel_rfl) (by kernel_rfl) (fun _ _ _ h => h) (.inl ⟨rfl, fun w' hb => (by simp [go_sem])⟩) HSW.out ?_
                simp only [List.getElem_toArray, List.getElem_cons_succ, List.getElem_cons_zero, Act.put, List.setIfInBounds_toArray, List.set_cons_succ, List.set_cons_zero]
                refine wpAnyH_take (i := 11) (v := .bool false) rfl (by kernel_rfl) (by kernel_rfl) (by kernel_rfl) (fun _ _ _ h => h) (.inl ⟨rfl, fun w' hb => rfl⟩) HSW.out ?_
                simp only [List.getElem_toArray, List.getElem_cons_succ, List.getElem_cons_zero, Act.put, List.setIfInBounds_toArray, List.set_cons_succ, List.set_cons_zero]
                refine wpAnyH_take (i := 12) (v := .slice p4 bs.length cap4) rfl (by kernel_rfl) (by kernel_rfl) (by kernel_rfl) (fun _ _ _ h => h) (.inl ⟨rfl, fun w' hb => rfl⟩) HSW.out ?_
                simp only [List.getElem_toArray, List.getElem_cons_succ, List.getElem_cons_zero, Act.put, List.setIfInBounds_toArray, List.set_cons_succ, List.set_cons_zero]
                refine wpAnyH_take (i := 13) (v := .int .i64 bs.length) rfl (by kernel_rfl) (by kernel_rfl) (by kernel_rfl) (fun _ _ _ h => h) (.inl ⟨rfl, fun w' hb => (by simp [go_sem])⟩) HSW.out ?_
                simp only [List.getElem_toArray, List.getElem_cons_succ, List.getElem_cons_zero, Act.put, List.setIfInBounds_toArray, List.set_cons_succ, List.set_cons_zero]
                refine wpAnyH_take (i := 14) (v := .slice p3 to.length cap3) rfl (by kernel_rfl) (by kernel_rfl) (by kernel_rfl) (fun _ _ _ h => h) (.inl ⟨rfl, fun w' hb => rfl⟩) HSW.out ?_
                simp only [List.getElem_toArray, List.getElem_cons_succ, List.getElem_cons_zero, Act.put, List.setIfInBounds_toArray, List.set_cons_succ, List.set_cons_zero]
                refine wpAnyH_take (i := 15) (v := .int .i64 to.length) rfl (by kernel_rfl) (by kernel_rfl) (by kernel_rfl) (fun _ _ _ h => h) (.inl ⟨rfl, fun w' hb => (by simp [go_sem])⟩) HSW.out ?_
                simp only [List.getElem_toArray, List.getElem_cons_succ, List.getElem_cons_zero, Act.put, List.setIfInBounds_toArray, List.set_cons_succ, List.set_cons_zero]
                refine wpAnyH_take (i := 16) (v := .bool false) rfl (by kernel_rfl) (by kernel_rfl) (by kernel_rfl) (fun _ _ _ h => h) (.inl ⟨rfl, fun w' hb => (by simp [go_sem, HLEN.out])⟩) HSW.out ?_
                simp only [List.getElem_toArray, List.getElem_cons_succ, List.getElem_cons_zero, Act.put, List.setIfInBounds_toArray, List.set_cons_succ, List.set_cons_zero]
                refine wpAnyH_take (i := 17) (v := .bool false) rfl (by kernel_rfl) (by kernel_rfl) (by kernel_rfl) (fun _ _ _ h => h) (.inl ⟨rfl, fun w' hb => (by simp [go_sem])⟩) HSW.out ?_
                simp only [List.getElem_toArray, List.getElem_cons_succ, List.getElem_cons_zero, Act.put, List.setIfInBounds_toArray, List.set_cons_succ, List.set_cons_zero]
                refine wpAnyH_take (i := 18) (v := .bool false) rfl (by kernel_rfl) (by kernel_rfl) (by kernel_rfl) (fun _ _ _ h => h) (.inl ⟨rfl, fun w' hb => rfl⟩) HSW.out ?_
                simp only [List.getElem_toArray, List.getElem_cons_succ, List.getElem_cons_zero, Act.put, List.setIfInBounds_toArray, List.set_cons_succ, List.set_cons_zero]
                refine wpAnyH_take (i := 19) (v := .pointer (some ⟨w.heap.size, 0, none⟩)) rfl (by kernel_rfl) (by kernel_rfl) (by kernel_rfl) (fun _ _ _ h => h) (.inl ⟨rfl, fun w' hb => (by simp [go_sem])⟩) HSW.out ?_
                simp only [List.getElem_toArray, List.getElem_cons_succ, List.getElem_cons_zero, Act.put, List.setIfInBounds_toArray, List.set_cons_succ, List.set_cons_zero]
                refine wpAnyH_take (i := 20) (v := .slice p0 F.length cap0) rfl (by kernel_rfl) (by kernel_rfl) (by kernel_rfl) (fun _ _ _ h => h) (.inl ⟨rfl, fun w' hb => (by have e0 := hb.cell c0d; simp [go_sem, e0])⟩) HSW.out ?_
                simp only [List.getElem_toArray, List.getElem_cons_succ, List.getElem_cons_zero, Act.put, List.setIfInBounds_toArray, List.set_cons_succ, List.set_cons_zero]
                refine wpAnyH_take (i := 21) (v := .int .i64 F.length) rfl (by kernel_rfl) (by kernel_rfl) (by kernel_rfl) (fun _ _ _ h => h) (.inl ⟨rfl, fun w' hb => (by simp [go_sem])⟩) HSW.out ?_
                simp only [List.getElem_toArray, List.getElem_cons_succ, List.getElem_cons_zero, Act.put, List.setIfInBounds_toArray, List.set_cons_succ, List.set_cons_zero]
                refine wpAnyH_take (i := 22) (v := .slice p4 bs.length cap4) rfl (by kernel_rfl) (by kernel_rfl) (by kernel_rfl) (fun _ _ _ h => h) (.inl ⟨rfl, fun w' hb => rfl⟩) HSW.out ?_
                simp only [List.getElem_toArray, List.getElem_cons_succ, List.getElem_cons_zero, Act.put, List.setIfInBounds_toArray, List.set_cons_succ, List.set_cons_zero]
                refine wpAnyH_take (i := 24) (v := .pointer (some ⟨w.heap.size, 0, none⟩)) rfl (by kernel_rfl) (by kernel_rfl) (by kernel_rfl) (fun _ _ _ h => h) (.inl ⟨rfl, fun w' hb => (by simp [go_sem])⟩) HSW.out ?_
                simp only [List.getElem_toArray, List.getElem_cons_succ, List.getElem_cons_zero, Act.put, List.setIfInBounds_toArray, List.set_cons_succ, List.set_cons_zero]
                refine wpAnyH_take (i := 25) (v := .slice p0 F.length cap0) rfl (by kernel_rfl) (by kernel_rfl) (by kernel_rfl) (fun _ _ _ h => h) (.inl ⟨rfl, fun w' hb => (by have e0 := hb.cell c0d; simp [go_sem, e0])⟩) HSW.out ?_
                simp only [List.getElem_toArray, List.getElem_cons_succ, List.getElem_cons_zero, Act.put, List.setIfInBounds_toArray, List.set_cons_succ, List.set_cons_zero]
                refine wpAnyH_take (i := 26) (v := .int .i64 F.length) rfl (by kernel_rfl) (by kernel_rfl) (by kernel_rfl) (fun _ _ _ h => h) (.inl ⟨rfl, fun w' hb => (by simp [go_sem])⟩) HSW.out ?_
                simp only [List.getElem_toArray, List.getElem_cons_succ, List.getElem_cons_zero, Act.put, List.setIfInBounds_toArray, List.set_cons_succ, List.set_cons_zero]
                refine wpAnyH_take (i := 27) (v := .slice p3 to.length cap3) rfl (by kernel_rfl) (by kernel_rfl) (by kernel_rfl) (fun _ _ _ h => h) (.inl ⟨rfl, fun w' hb => rfl⟩) HSW.out ?_
                simp only [List.getElem_toArray, List.getElem_cons_succ, List.getElem_cons_zero, Act.put, List.setIfInBounds_toArray, List.set_cons_succ, List.set_cons_zero]
                have hvb : IntS n3.val (.slice p4 bs.length cap4) bs := SliceOf.ext HVA.out (Ext.trans (Ext.drew (Ext.refl _)) hx1)
                have hvt : IntS n3.val (.slice p3 to.length cap3) to := SliceOf.ext H3.out (HX.out.trans (Ext.trans (Ext.drew (Ext.refl _)) hx1))
                (refine wpAnyH_all (rs := [23]) (by kernel_rfl) (by simp) ?_; intro j hj; obtain rfl : j = 23 := by simpa using hj)
                refine wpOp_callg (f := 21) (vals := #[.int .i64 F.length, .slice p4 bs.length cap4]) rfl rfl (by kernel_rfl) ?_
                refine (countsOf_any F.length bs _ _ (by omega) (by omega) (hvb)).mono ?_
                rintro e w' ⟨g1, rfl, hB1, n4, rfl⟩
                refine ⟨_, rfl, Ext.trans hx1 n4.ext, ?_⟩
                simp only [List.getElem_toArray, List.getElem_cons_succ, List.getElem_cons_zero, Act.put, List.setIfInBounds_toArray, List.set_cons_succ, List.set_cons_zero]
                (refine wpAnyH_all (rs := [28]) (by kernel_rfl) (by simp) ?_; intro j hj; obtain rfl : j = 28 := by simpa using hj)
                refine wpOp_callg (f := 21) (vals := #[.int .i64 F.length, .slice p3 to.length cap3]) rfl rfl (by kernel_rfl) ?_
                refine (countsOf_any F.length to _ _ (by omega) (by omega) (SliceOf.ext hvt n4.ext)).mono ?_
                rintro e w' ⟨g2, rfl, hB2, n6, rfl⟩
                have hx2 : Ext W2.drew n6.val := Ext.trans hx1 (Ext.trans n4.ext n6.ext)
                replace hB1 := hB1.ext n6.ext
                refine ⟨_, rfl, hx2, ?_⟩
                simp only [List.getElem_toArray, List.getElem_cons_succ, List.getElem_cons_zero, Act.put, List.setIfInBounds_toArray, List.set_cons_succ, List.set_cons_zero]
                clear HSW
                have HSW : Hid (Ext W2.drew _) := Lib.hid hx2
                (refine wpAnyH_all (rs := [29]) (by kernel_rfl) (by simp) ?_; intro j hj; obtain rfl : j = 29 := by simpa using hj)
                refine wpOp_callg (f := 16) (vals := #[.slice (some ⟨g1, 0, none⟩) F.length F.length, .slice (some ⟨g2, 0, none⟩) F.length F.length]) rfl rfl (by kernel_rfl) ?_
                refine (ints_is t6 (by rw [cntsL_len]; omega) (by rw [cntsL_len]; omega) (IntS.ofBlock (l := cntsL F.length bs) (by have := hB1; rw [natCells_list] at this; exact this) cntsL_len (by unfold maxLen; omega)) (IntS.ofBlock (l := cntsL F.length to) (by have := hB2; rw [natCells_list] at this; exact this) cntsL_len (by unfold maxLen; omega))).mono ?_
                rintro e w' ⟨rfl, n5, rfl⟩
                have hx3 := Ext.trans hx2 n5.ext
                refine ⟨_, rfl, hx3, ?_⟩
                simp only [List.getElem_toArray, List.getElem_cons_succ, List.getElem_cons_zero, Act.put, List.setIfInBounds_toArray, List.set_cons_succ, List.set_cons_zero]
                clear HSW
                have HSW : Hid (Ext W2.drew n5.val) := Lib.hid hx3
                refine wpAnyH_take (i := 30) (v := .bool (!false)) rfl (by kernel_rfl) (by kernel_rfl) (by kernel_rfl) (fun _ _ _ h => h) (.inl ⟨rfl, fun w' hb => (by simp [go_sem])⟩) HSW.out ?_
                simp only [List.getElem_toArray, List.getElem_cons_succ, List.getElem_cons_zero, Act.put, List.setIfInBounds_toArray, List.set_cons_succ, List.set_cons_zero]
                refine wpAnyH_take (i := 31) (v := .bool (!false)) rfl (by kernel_rfl) (by kernel_rfl) (by kernel_rfl) (fun _ _ _ h => h) (.inl ⟨rfl, fun w' hb => (by simp [go_sem])⟩) HSW.out ?_
                simp only [List.getElem_toArray, List.getElem_cons_succ, List.getElem_cons_zero, Act.put, List.setIfInBounds_toArray, List.set_cons_succ, List.set_cons_zero]
                refine wpAnyH_done (by kernel_rfl) ?_ _
                have HX3 : Hid (Ext W2 n5.val) := Lib.hid (Ext.trans (Ext.drew (Ext.refl _)) hx3)
                clear HSW hx3 hx2
                have c0' := HX3.out.cell c0
                have c2' := HX3.out.cell c2
                have ow' : Old w.heap.size n5.val := Old.of_cell c0'
                generalize n5.val = W3 at *
                have HX0 := HX
                clear HX
                have HX : Hid (Ext w W3) := Lib.hid (HX0.out.trans HX3.out)
                go_wp2_with fail
                refine (valid_is HBV.out (by omega) (by omega) (by omega) (HG.out.ext (by repeat' (first | (with_reducible exact Ext.refl _) | (with_reducible exact ExtOf.ext _) | (with_reducible refine Ext.trans ?_ (ExtOf.ext _)) | (with_reducible refine Ext.alloc ?_ _) | (with_reducible refine Ext.drew ?_) | (with_reducible refine Ext.setCell ?_ ?_ _) | (with_reducible refine Ext.setRow ?_ ?_ _) | (with_reducible exact HX.out) | (with_reducible refine Ext.trans ?_ HX.out) | (with_reducible refine Ext.below ?_ (Nat.le_refl _) _) | (simp; done) | (simp; omega)))) (SliceOf.ext H2.out (by repeat' (first | (with_reducible exact Ext.refl _) | (with_reducible exact ExtOf.ext _) | (with_reducible refine Ext.trans ?_ (ExtOf.ext _)) | (with_reducible refine Ext.alloc ?_ _) | (with_reducible refine Ext.drew ?_) | (with_reducible refine Ext.setCell ?_ ?_ _) | (with_reducible refine Ext.setRow ?_ ?_ _) | (with_reducible exact HX.out) | (with_reducible refine Ext.trans ?_ HX.out) | (with_reducible refine Ext.below ?_ (Nat.le_refl _) _) | (simp; done) | (simp; omega)))) (SliceOf.ext HVA.out (by first | exact HX3.out | exact HX3.out.trans (by repeat' (first | (with_reducible exact Ext.refl _) | (with_reducible exact ExtOf.ext _) | (with_reducible refine Ext.trans ?_ (ExtOf.ext _)) | (with_reducible refine Ext.alloc ?_ _) | (with_reducible refine Ext.drew ?_) | (with_reducible refine Ext.setCell ?_ ?_ _) | (with_reducible refine Ext.setRow ?_ ?_ _) | (with_reducible exact HX.out) | (with_reducible refine Ext.trans ?_ HX.out) | (with_reducible refine Ext.below ?_ (Nat.le_refl _) _) | (simp; done) | (simp; omega)))))).mono ?_
                rintro e w' ⟨rfl, n6, rfl⟩
                go_wp2_with fail
                refine (awake_any _).mono ?_
                rintro e w' ⟨rfl, nz, rfl⟩
                go_wp2_with fail
                go_ret
                refine ⟨rfl, ?_⟩
                exact ExtOf.of (by repeat' (first | (with_reducible exact Ext.refl _) | (with_reducible exact ExtOf.ext _) | (with_reducible refine Ext.trans ?_ (ExtOf.ext _)) | (with_reducible refine Ext.alloc ?_ _) | (with_reducible refine Ext.drew ?_) | (with_reducible refine Ext.setCell ?_ ?_ _) | (with_reducible refine Ext.setRow ?_ ?_ _) | (with_reducible exact HX.out) | (with_reducible refine Ext.trans ?_ HX.out) | (with_reducible refine Ext.below ?_ (Nat.le_refl _) _) | (simp; done) | (simp; omega)))
              · go_wp2_with fail
                refine region_held (S := fun W' => Ext W2.drew W') (by kernel_rfl) ?_
                have HSW : Hid (Ext W2.drew W2.drew) := Lib.hid (Ext.refl _)
                have c0d : W2.drew.cell? ⟨w.heap.size, 0, none⟩ = some (.slice p0 F.length cap0) := c0
                have c2d : W2.drew.cell? ⟨w.heap.size, 2, none⟩ = some (.slice p2 m.length cap2) := c2
                refine wpAnyH_take (i := 0) (v := .int .i64 0) rfl (by kernel_rfl) (by kernel_rfl) (by kernel_rfl) (fun _ _ _ h => h) (.inl ⟨rfl, fun w' hb => rfl⟩) HSW.out ?_
                simp only [List.getElem_toArray, List.getElem_cons_succ, List.getElem_cons_zero, Act.put, List.setIfInBounds_toArray, List.set_cons_succ, List.set_cons_zero]
                refine wpAnyH_take (i := 1) (v := .bool false) rfl (by kernel_rfl) (by kernel_rfl) (by kernel_rfl) (fun _ _ _ h => h) (.inl ⟨rfl, fun w' hb => (by simp [go_sem])⟩) HSW.out ?_
                simp only [List.getElem_toArray, List.getElem_cons_succ, List.getElem_cons_zero, Act.put, List.setIfInBounds_toArray, List.set_cons_succ, List.set_cons_zero]
                refine wpAnyH_take (i := 2) (v := .bool false) rfl (by kernel_rfl) (by kernel_rfl) (by kernel_rfl) (fun _ _ _ h => h) (.inl ⟨rfl, fun w' hb => rfl⟩) HSW.out ?_
                simp only [List.getElem_toArray, List.getElem_cons_succ, List.getElem_cons_zero, Act.put, List.setIfInBounds_toArray, List.set_cons_succ, List.set_cons_zero]
                refine wpAnyH_take (i := 3) (v := .pointer (some ⟨w.heap.size, 0, none⟩)) rfl (by kernel_rfl) (by kernel_rfl) (by kernel_rfl) (fun _ _ _ h => h) (.inl ⟨rfl, fun w' hb => (by simp [go_sem])⟩) HSW.out ?_
                simp only [List.getElem_toArray, List.getElem_cons_succ, List.getElem_cons_zero, Act.put, List.setIfInBounds_toArray, List.set_cons_succ, List.set_cons_zero]
                refine wpAnyH_take (i := 4) (v := .slice p0 F.length cap0) rfl (by kernel_rfl) (by kernel_rfl) (by kernel_rfl) (fun _ _ _ h => h) (.inl ⟨rfl, fun w' hb => (by have e0 := hb.cell c0d; simp [go_sem, e0])⟩) HSW.out ?_
                simp only [List.getElem_toArray, List.getElem_cons_succ, List.getElem_cons_zero, Act.put, List.setIfInBounds_toArray, List.set_cons_succ, List.set_cons_zero]
                refine wpAnyH_take (i := 5) (v := .pointer (some ⟨w.heap.size, 2, none⟩)) rfl (by kernel_rfl) (by kernel_rfl) (by kernel_rfl) (fun _ _ _ h => h) (.inl ⟨rfl, fun w' hb => (by simp [go_sem])⟩) HSW.out ?_
                simp only [List.getElem_toArray, List.getElem_cons_succ, List.getElem_cons_zero, Act.put, List.setIfInBounds_toArray, List.set_cons_succ, List.set_cons_zero]
                refine wpAnyH_take (i := 6) (v := .slice p2 m.length cap2) rfl (by kernel_rfl) (by kernel_rfl) (by kernel_rfl) (fun _ _ _ h => h) (.inl ⟨rfl, fun w' hb => (by have e0 := hb.cell c2d; simp [go_sem, e0])⟩) HSW.out ?_
                simp only [List.getElem_toArray, List.getElem_cons_succ, List.getElem_cons_zero, Act.put, List.setIfInBounds_toArray, List.set_cons_succ, List.set_cons_zero]
                refine wpAnyH_take (i := 7) (v := .slice p3 to.length cap3) rfl (by kernel_rfl) (by kernel_rfl) (by kernel_rfl) (fun _ _ _ h => h) (.inl ⟨rfl, fun w' hb => rfl⟩) HSW.out ?_
                simp only [List.getElem_toArray, List.getElem_cons_succ, List.getElem_cons_zero, Act.put, List.setIfInBounds_toArray, List.set_cons_succ, List.set_cons_zero]
                (refine wpAnyH_all (rs := [8]) (by kernel_rfl) (by simp) ?_; intro j hj; obtain rfl : j = 8 := by simpa using hj)
                refine wpOp_callg (f := 19) (vals := #[.slice p0 F.length cap0, .slice p2 m.length cap2, .slice p3 to.length cap3]) rfl rfl (by kernel_rfl) ?_
                refine (valid_is t5 (by omega) (by omega) (by omega) (HG.out.ext (by repeat' (first | (with_reducible exact Ext.refl _) | (with_reducible exact ExtOf.ext _) | (with_reducible refine Ext.trans ?_ (ExtOf.ext _)) | (with_reducible refine Ext.alloc ?_ _) | (with_reducible refine Ext.drew ?_) | (with_reducible refine Ext.setCell ?_ ?_ _) | (with_reducible refine Ext.setRow ?_ ?_ _) | (with_reducible exact HX.out) | (with_reducible refine Ext.trans ?_ HX.out) | (with_reducible refine Ext.below ?_ (Nat.le_refl _) _) | (simp; done) | (simp; omega)))) (SliceOf.ext H2.out (by repeat' (first | (with_reducible exact Ext.refl _) | (with_reducible exact ExtOf.ext _) | (with_reducible refine Ext.trans ?_ (ExtOf.ext _)) | (with_reducible refine Ext.alloc ?_ _) | (with_reducible refine Ext.drew ?_) | (with_reducible refine Ext.setCell ?_ ?_ _) | (with_reducible refine Ext.setRow ?_ ?_ _) | (with_reducible exact HX.out) | (with_reducible refine Ext.trans ?_ HX.out) | (with_reducible refine Ext.below ?_ (Nat.le_refl _) _) | (simp; done) | (simp; omega)))) (SliceOf.ext H3.out (by repeat' (first | (with_reducible exact Ext.refl _) | (with_reducible exact ExtOf.ext _) | (with_reducible refine Ext.trans ?_ (ExtOf.ext _)) | (with_reducible refine Ext.alloc ?_ _) | (with_reducible refine Ext.drew ?_) | (with_reducible refine Ext.setCell ?_ ?_ _) | (with_reducible refine Ext.setRow ?_ ?_ _) | (with_reducible exact HX.out) | (with_reducible refine Ext.trans ?_ HX.out) | (with_reducible refine Ext.below ?_ (Nat.le_refl _) _) | (simp; done) | (simp; omega))))).mono ?_
                rintro e w' ⟨rfl, n3, rfl⟩
                have hx1 : Ext W2.drew n3.val := n3.ext
                refine ⟨_, rfl, hx1, ?_⟩
                simp only [List.getElem_toArray, List.getElem_cons_succ, List.getElem_cons_zero, Act.put, List.setIfInBounds_toArray, List.set_cons_succ, List.set_cons_zero]
                clear HSW
                have HSW : Hid (Ext W2.drew n3.val) := Lib.hid hx1
                refine wpAnyH_take (i := 9) (v := .bool false) rfl (by kernel_rfl) (by kernel_rfl) (by kernel_rfl) (fun _ _ _ h => h) (.inl ⟨rfl, fun w' hb => (by simp [go_sem])⟩) HSW.out ?_
                simp only [List.getElem_toArray, List.getElem_cons_succ, List.getElem_cons_zero, Act.put, List.setIfInBounds_toArray, List.set_cons_succ, List.set_cons_zero]
                refine wpAnyH_take (i := 10) (v := .bool false) rfl (by kernel_rfl) (by kernel_rfl) (by kernel_rfl) (fun _ _ _ h => h) (.inl ⟨rfl, fun w' hb => (by simp [go_sem])⟩) HSW.out ?_
                simp only [List.getElem_toArray, List.getElem_cons_succ, List.getElem_cons_zero, Act.put, List.setIfInBounds_toArray, List.set_cons_succ, List.set_cons_zero]
                refine wpAnyH_take (i := 11) (v := .bool false) rfl (by kernel_rfl) (by kernel_rfl) (by kernel_rfl) (fun _ _ _ h => h) (.inl ⟨rfl, fun w' hb => rfl⟩) HSW.out ?_
                simp only [List.getElem_toArray, List.getElem_cons_succ, List.getElem_cons_zero, Act.put, List.setIfInBounds_toArray, List.set_cons_succ, List.set_cons_zero]
                refine wpAnyH_take (i := 12) (v := .slice p4 bs.length cap4) rfl (by kernel_rfl) (by kernel_rfl) (by kernel_rfl) (fun _ _ _ h => h) (.inl ⟨rfl, fun w' hb => rfl⟩) HSW.out ?_
                simp only [List.getElem_toArray, List.getElem_cons_succ, List.getElem_cons_zero, Act.put, List.setIfInBounds_toArray, List.set_cons_succ, List.set_cons_zero]
                refine wpAnyH_take (i := 13) (v := .int .i64 bs.length) rfl (by kernel_rfl) (by kernel_rfl) (by kernel_rfl) (fun _ _ _ h => h) (.inl ⟨rfl, fun w' hb => (by simp [go_sem])⟩) HSW.out ?_
                simp only [List.getElem_toArray, List.getElem_cons_succ, List.getElem_cons_zero, Act.put, List.setIfInBounds_toArray, List.set_cons_succ, List.set_cons_zero]
                refine wpAnyH_take (i := 14) (v := .slice p3 to.length cap3) rfl (by kernel_rfl) (by kernel_rfl) (by kernel_rfl) (fun _ _ _ h => h) (.inl ⟨rfl, fun w' hb => rfl⟩) HSW.out ?_
                simp only [List.getElem_toArray, List.getElem_cons_succ, List.getElem_cons_zero, Act.put, List.setIfInBounds_toArray, List.set_cons_succ, List.set_cons_zero]
                refine wpAnyH_take (i := 15) (v := .int .i64 to.length) rfl (by kernel_rfl) (by kernel_rfl) (by kernel_rfl) (fun _ _ _ h => h) (.inl ⟨rfl, fun w' hb => (by simp [go_sem])⟩) HSW.out ?_
                simp only [List.getElem_toArray, List.getElem_cons_succ, List.getElem_cons_zero, Act.put, List.setIfInBounds_toArray, List.set_cons_succ, List.set_cons_zero]
                refine wpAnyH_take (i := 16) (v := .bool false) rfl (by kernel_rfl) (by kernel_rfl) (by kernel_rfl) (fun _ _ _ h => h) (.inl ⟨rfl, fun w' hb => (by simp [go_sem, HLEN.out])⟩) HSW.out ?_
                simp only [List.getElem_toArray, List.getElem_cons_succ, List.getElem_cons_zero, Act.put, List.setIfInBounds_toArray, List.set_cons_succ, List.set_cons_zero]
                refine wpAnyH_take (i := 17) (v := .bool false) rfl (by kernel_rfl) (by kernel_rfl) (by kernel_rfl) (fun _ _ _ h => h) (.inl ⟨rfl, fun w' hb => (by simp [go_sem])⟩) HSW.out ?_
                simp only [List.getElem_toArray, List.getElem_cons_succ, List.getElem_cons_zero, Act.put, List.setIfInBounds_toArray, List.set_cons_succ, List.set_cons_zero]
                refine wpAnyH_take (i := 18) (v := .bool false) rfl (by kernel_rfl) (by kernel_rfl) (by kernel_rfl) (fun _ _ _ h => h) (.inl ⟨rfl, fun w' hb => rfl⟩) HSW.out ?_
                simp only [List.getElem_toArray, List.getElem_cons_succ, List.getElem_cons_zero, Act.put, List.setIfInBounds_toArray, List.set_cons_succ, List.set_cons_zero]
                refine wpAnyH_take (i := 19) (v := .pointer (some ⟨w.heap.size, 0, none⟩)) rfl (by kernel_rfl) (by kernel_rfl) (by kernel_rfl) (fun _ _ _ h => h) (.inl ⟨rfl, fun w' hb => (by simp [go_sem])⟩) HSW.out ?_
                simp only [List.getElem_toArray, List.getElem_cons_succ, List.getElem_cons_zero, Act.put, List.setIfInBounds_toArray, List.set_cons_succ, List.set_cons_zero]
                refine wpAnyH_take (i := 20) (v := .slice p0 F.length cap0) rfl (by kernel_rfl) (by kernel_rfl) (by kernel_rfl) (fun _ _ _ h => h) (.inl ⟨rfl, fun w' hb => (by have e0 := hb.cell c0d; simp [go_sem, e0])⟩) HSW.out ?_
                simp only [List.getElem_toArray, List.getElem_cons_succ, List.getElem_cons_zero, Act.put, List.setIfInBounds_toArray, List.set_cons_succ, List.set_cons_zero]
                refine wpAnyH_take (i := 21) (v := .int .i64 F.length) rfl (by kernel_rfl) (by kernel_rfl) (by kernel_rfl) (fun _ _ _ h => h) (.inl ⟨rfl, fun w' hb => (by simp [go_sem])⟩) HSW.out ?_
                simp only [List.getElem_toArray, List.getElem_cons_succ, List.getElem_cons_zero, Act.put, List.setIfInBounds_toArray, List.set_cons_succ, List.set_cons_zero]
                refine wpAnyH_take (i := 22) (v := .slice p4 bs.length cap4) rfl (by kernel_rfl) (by kernel_rfl) (by kernel_rfl) (fun _ _ _ h => h) (.inl ⟨rfl, fun w' hb => rfl⟩) HSW.out ?_
                simp only [List.getElem_toArray, List.getElem_cons_succ, List.getElem_cons_zero, Act.put, List.setIfInBounds_toArray, List.set_cons_succ, List.set_cons_zero]
                refine wpAnyH_take (i := 24) (v := .pointer (some ⟨w.heap.size, 0, none⟩)) rfl (by kernel_rfl) (by kernel_rfl) (by kernel_rfl) (fun _ _ _ h => h) (.inl ⟨rfl, fun w' hb => (by simp [go_sem])⟩) HSW.out ?_
                simp only [List.getElem_toArray, List.getElem_cons_succ, List.getElem_cons_zero, Act.put, List.setIfInBounds_toArray, List.set_cons_succ, List.set_cons_zero]
                refine wpAnyH_take (i := 25) (v := .slice p0 F.length cap0) rfl (by kernel_rfl) (by kernel_rfl) (by kernel_rfl) (fun _ _ _ h => h) (.inl ⟨rfl, fun w' hb => (by have e0 := hb.cell c0d; simp [go_sem, e0])⟩) HSW.out ?_
                simp only [List.getElem_toArray, List.getElem_cons_succ, List.getElem_cons_zero, Act.put, List.setIfInBounds_toArray, List.set_cons_succ, List.set_cons_zero]
                refine wpAnyH_take (i := 26) (v := .int .i64 F.length) rfl (by kernel_rfl) (by kernel_rfl) (by kernel_rfl) (fun _ _ _ h => h) (.inl ⟨rfl, fun w' hb => (by simp [go_sem])⟩) HSW.out ?_
                simp only [List.getElem_toArray, List.getElem_cons_succ, List.getElem_cons_zero, Act.put, List.setIfInBounds_toArray, List.set_cons_succ, List.set_cons_zero]
                refine wpAnyH_take (i := 27) (v := .slice p3 to.length cap3) rfl (by kernel_rfl) (by kernel_rfl) (by kernel_rfl) (fun _ _ _ h => h) (.inl ⟨rfl, fun w' hb => rfl⟩) HSW.out ?_
                simp only [List.getElem_toArray, List.getElem_cons_succ, List.getElem_cons_zero, Act.put, List.setIfInBounds_toArray, List.set_cons_succ, List.set_cons_zero]
                have hvb : IntS n3.val (.slice p4 bs.length cap4) bs := SliceOf.ext HVA.out (Ext.trans (Ext.drew (Ext.refl _)) hx1)
                have hvt : IntS n3.val (.slice p3 to.length cap3) to := SliceOf.ext H3.out (HX.out.trans (Ext.trans (Ext.drew (Ext.refl _)) hx1))
                (refine wpAnyH_all (rs := [23]) (by kernel_rfl) (by simp) ?_; intro j hj; obtain rfl : j = 23 := by simpa using hj)
                refine wpOp_callg (f := 21) (vals := #[.int .i64 F.length, .slice p4 bs.length cap4]) rfl rfl (by kernel_rfl) ?_
                refine (countsOf_any F.length bs _ _ (by omega) (by omega) (hvb)).mono ?_
                rintro e w' ⟨g1, rfl, hB1, n4, rfl⟩
                refine ⟨_, rfl, Ext.trans hx1 n4.ext, ?_⟩
                simp only [List.getElem_toArray, List.getElem_cons_succ, List.getElem_cons_zero, Act.put, List.setIfInBounds_toArray, List.set_cons_succ, List.set_cons_zero]
                (refine wpAnyH_all (rs := [28]) (by kernel_rfl) (by simp) ?_; intro j hj; obtain rfl : j = 28 := by simpa using hj)
                refine wpOp_callg (f := 21) (vals := #[.int .i64 F.length, .slice p3 to.length cap3]) rfl rfl (by kernel_rfl) ?_
                refine (countsOf_any F.length to _ _ (by omega) (by omega) (SliceOf.ext hvt n4.ext)).mono ?_
                rintro e w' ⟨g2, rfl, hB2, n6, rfl⟩
                have hx2 : Ext W2.drew n6.val := Ext.trans hx1 (Ext.trans n4.ext n6.ext)
                replace hB1 := hB1.ext n6.ext
                refine ⟨_, rfl, hx2, ?_⟩
                simp only [List.getElem_toArray, List.getElem_cons_succ, List.getElem_cons_zero, Act.put, List.setIfInBounds_toArray, List.set_cons_succ, List.set_cons_zero]
                clear HSW
                have HSW : Hid (Ext W2.drew _) := Lib.hid hx2
                (refine wpAnyH_all (rs := [29]) (by kernel_rfl) (by simp) ?_; intro j hj; obtain rfl : j = 29 := by simpa using hj)
                refine wpOp_callg (f := 16) (vals := #[.slice (some ⟨g1, 0, none⟩) F.length F.length, .slice (some ⟨g2, 0, none⟩) F.length F.length]) rfl rfl (by kernel_rfl) ?_
                refine (ints_is t6 (by rw [cntsL_len]; omega) (by rw [cntsL_len]; omega) (IntS.ofBlock (l := cntsL F.length bs) (by have := hB1; rw [natCells_list] at this; exact this) cntsL_len (by unfold maxLen; omega)) (IntS.ofBlock (l := cntsL F.length to) (by have := hB2; rw [natCells_list] at this; exact this) cntsL_len (by unfold maxLen; omega))).mono ?_
                rintro e w' ⟨rfl, n5, rfl⟩
                have hx3 := Ext.trans hx2 n5.ext
                refine ⟨_, rfl, hx3, ?_⟩
                simp only [List.getElem_toArray, List.getElem_cons_succ, List.getElem_cons_zero, Act.put, List.setIfInBounds_toArray, List.set_cons_succ, List.set_cons_zero]
                clear HSW
                have HSW : Hid (Ext W2.drew n5.val) := Lib.hid hx3
                refine wpAnyH_take (i := 30) (v := .bool (!true)) rfl (by kernel_rfl) (by kernel_rfl) (by kernel_rfl) (fun _ _ _ h => h) (.inl ⟨rfl, fun w' hb => (by simp [go_sem])⟩) HSW.out ?_
                simp only [List.getElem_toArray, List.getElem_cons_succ, List.getElem_cons_zero, Act.put, List.setIfInBounds_toArray, List.set_cons_succ, List.set_cons_zero]
                refine wpAnyH_take (i := 31) (v := .bool (!true)) rfl (by kernel_rfl) (by kernel_rfl) (by kernel_rfl) (fun _ _ _ h => h) (.inl ⟨rfl, fun w' hb => (by simp [go_sem])⟩) HSW.out ?_
                simp only [List.getElem_toArray, List.getElem_cons_succ, List.getElem_cons_zero, Act.put, List.setIfInBounds_toArray, List.set_cons_succ, List.set_cons_zero]
                refine wpAnyH_done (by kernel_rfl) ?_ _
                have HX3 : Hid (Ext W2 n5.val) := Lib.hid (Ext.trans (Ext.drew (Ext.refl _)) hx3)
                clear HSW hx3 hx2
                have c0' := HX3.out.cell c0
                have c2' := HX3.out.cell c2
                have ow' : Old w.heap.size n5.val := Old.of_cell c0'
                generalize n5.val = W3 at *
                have HFK : Hid (∀ k (hk : k < bs.length) (hk' : k < to.length), (∀ j, j < k → bs[j]? = to[j]?) → bs[k] ≠ to[k] → 0 ≤ bs[k] ∧ (to[k] < 0 ∨ bs[k] < to[k])) := Lib.hid (fun k hk hk' => HFM.out t5 (fun i hi => cntsL_get (by simpa [sameI] using t6) hi) k hk hk')
                have HX0 : Hid (Ext w W3) := Lib.hid (HX.out.trans HX3.out)
                clear HFM HX
                go_wp2_with fail
                go_loopw [7] (fun v wr => ∃ k : Nat, k ≤ to.length ∧ v = .int .i64 k ∧ (∀ j, j < k → bs[j]? = to[j]?) ∧ Ext W3 wr) (fun v _ => to.length - (intOf v).toNat)
                case atStart => exact ⟨0, by omega, rfl, (fun j hj => by omega), Ext.refl _⟩
                case round =>
                  obtain ⟨k, hk, rfl, hpre, hx⟩ := hrel
                  have HX : Hid (Ext w wr) := Lib.hid (HX0.out.trans hx)
                  have HXB : Hid (Ext W2 wr) := Lib.hid (HX3.out.trans hx)
                  have HP := Lib.hid hpre
                  have HXL := Lib.hid hx
                  clear hpre hx
                  by_cases hlt : k < to.length
                  · have hlt' : k < bs.length := by rw [HLEN.out]; exact hlt
                    obtain ⟨b0, off0, rfl, o0, c3⟩ := SliceOf.elem1 (SliceOf.ext HVA.out HXB.out) hlt' rfl
                    obtain ⟨b1, off1, rfl, o1, c4⟩ := SliceOf.elem1 (SliceOf.ext H3.out HX.out) hlt rfl
                    have HK := Lib.hid (HFK.out k hlt' hlt HP.out)
                    have HNX : Hid (bs[k] = to[k] → ∀ j, j < k + 1 → bs[j]? = to[j]?) := Lib.hid (fun e j hj => by
                      by_cases e1 : j = k
                      · subst e1; rw [List.getElem?_eq_getElem hlt, List.getElem?_eq_getElem hlt', e]
                      · exact HP.out j (by omega))
                    obtain ⟨x, hx0⟩ : ∃ x : Int, x = bs[k] := ⟨_, rfl⟩
                    obtain ⟨y, hy0⟩ : ∃ y : Int, y = to[k] := ⟨_, rfl⟩
                    rw [← hx0] at c3 HK HNX
                    rw [← hy0] at c4 HK HNX
                    clear hx0 hy0 HFK HP
                    by_cases t7 : x = y
                    · have HN := Lib.hid (HNX.out t7)
                      subst t7
                      clear HK HNX
                      go_wp2_with fail
                      refine wp_region_ext (by kernel_rfl) (by kernel_rfl) ?_
                      repeat (first | go_big_quiet_skip | go_big_quiet_step (fail))
                      refine wpQuiet_nil ?_
                      intro _ hw'
                      obtain ⟨nq, hw''⟩ := hw'
                      subst hw''
                      go_wp2_with fail
                      go_roundw
                      case rel => exact ⟨k + 1, by omega, by go_num, HN.out, by exact HXL.out.trans (by repeat' (first | (with_reducible exact Ext.refl _) | (with_reducible exact ExtOf.ext _) | (with_reducible refine Ext.trans ?_ (ExtOf.ext _)) | (with_reducible refine Ext.alloc ?_ _) | (with_reducible refine Ext.drew ?_) | (with_reducible refine Ext.setCell ?_ ?_ _) | (with_reducible refine Ext.setRow ?_ ?_ _) | (with_reducible exact HX.out) | (with_reducible refine Ext.trans ?_ HX.out) | (with_reducible refine Ext.below ?_ (Nat.le_refl _) _) | (simp; done) | (simp; omega)))⟩
                      case measure => simp [intOf]; omega
                    · have hne : (x != y) = true := by simpa using t7
                      obtain ⟨d1, d2⟩ := HK.out t7
                      clear HK HNX t7
                      rcases t8 : decide (y < 0) with _ | _
                      · have d3 : x < y := by simp at t8; omega
                        go_wp2_with fail
                        refine wp_region_ext (by kernel_rfl) (by kernel_rfl) ?_
                        repeat (first | go_big_quiet_skip | go_big_quiet_step (fail))
                        refine wpQuiet_nil ?_
                        intro _ hw'
                        obtain ⟨nq, hw''⟩ := hw'
                        subst hw''
                        go_wp2_with fail
                        refine wp_region_ext (by kernel_rfl) (by kernel_rfl) ?_
                        repeat (first | go_big_quiet_skip | go_big_quiet_step ((go_at_call 10; with_reducible exact ext_call (awake_any _))))
                        refine wpQuiet_nil ?_
                        intro _ hw'
                        obtain ⟨nq, hw''⟩ := hw'
                        subst hw''
                        go_wp2_with fail
                        go_ret
                        refine ⟨rfl, ?_⟩
                        exact ExtOf.of (by repeat' (first | (with_reducible exact Ext.refl _) | (with_reducible exact ExtOf.ext _) | (with_reducible refine Ext.trans ?_ (ExtOf.ext _)) | (with_reducible refine Ext.alloc ?_ _) | (with_reducible refine Ext.drew ?_) | (with_reducible refine Ext.setCell ?_ ?_ _) | (with_reducible refine Ext.setRow ?_ ?_ _) | (with_reducible exact HX.out) | (with_reducible refine Ext.trans ?_ HX.out) | (with_reducible refine Ext.below ?_ (Nat.le_refl _) _) | (simp; done) | (simp; omega)))
                      · go_wp2_with fail
                        refine wp_region_ext (by kernel_rfl) (by kernel_rfl) ?_
                        repeat (first | go_big_quiet_skip | go_big_quiet_step (fail))
                        refine wpQuiet_nil ?_
                        intro _ hw'
                        obtain ⟨nq, hw''⟩ := hw'
                        subst hw''
                        go_wp2_with fail
                        refine wp_region_ext (by kernel_rfl) (by kernel_rfl) ?_
                        repeat (first | go_big_quiet_skip | go_big_quiet_step ((go_at_call 10; with_reducible exact ext_call (awake_any _))))
                        refine wpQuiet_nil ?_
                        intro _ hw'
                        obtain ⟨nq, hw''⟩ := hw'
                        subst hw''
                        go_wp2_with fail
                        go_ret
                        refine ⟨rfl, ?_⟩
                        exact ExtOf.of (by repeat' (first | (with_reducible exact Ext.refl _) | (with_reducible exact ExtOf.ext _) | (with_reducible refine Ext.trans ?_ (ExtOf.ext _)) | (with_reducible refine Ext.alloc ?_ _) | (with_reducible refine Ext.drew ?_) | (with_reducible refine Ext.setCell ?_ ?_ _) | (with_reducible refine Ext.setRow ?_ ?_ _) | (with_reducible exact HX.out) | (with_reducible refine Ext.trans ?_ HX.out) | (with_reducible refine Ext.below ?_ (Nat.le_refl _) _) | (simp; done) | (simp; omega)))
                  · obtain rfl : k = to.length := by omega
                    go_wp2_with fail
                    refine (awake_any _).mono ?_
                    rintro e w' ⟨rfl, nz, rfl⟩
                    go_wp2_with fail
                    go_ret
                    refine ⟨rfl, ?_⟩
                    exact ExtOf.of (by repeat' (first | (with_reducible exact Ext.refl _) | (with_reducible exact ExtOf.ext _) | (with_reducible refine Ext.trans ?_ (ExtOf.ext _)) | (with_reducible refine Ext.alloc ?_ _) | (with_reducible refine Ext.drew ?_) | (with_reducible refine Ext.setCell ?_ ?_ _) | (with_reducible refine Ext.setRow ?_ ?_ _) | (with_reducible exact HX.out) | (with_reducible refine Ext.trans ?_ HX.out) | (with_reducible refine Ext.below ?_ (Nat.le_refl _) _) | (simp; done) | (simp; omega)))
          · have hne : (bestErr F l m != 0) = true := by simpa using t4
            generalize bestErr F l m = te at *
            go_wp2_with fail
            refine wp_region_ext (by kernel_rfl) (by kernel_rfl) ?_
            repeat (first | go_big_quiet_skip | go_big_quiet_step (fail))
            refine wpQuiet_nil ?_
            intro _ hw'
            obtain ⟨nq, hw''⟩ := hw'
            subst hw''
            go_wp2_with fail
            refine (awake_any _).mono ?_
            rintro e w' ⟨rfl, nz, rfl⟩
            go_wp2_with fail
            go_ret
            refine ⟨rfl, ?_⟩
            exact ExtOf.of (by repeat' (first | (with_reducible exact Ext.refl _) | (with_reducible exact ExtOf.ext _) | (with_reducible refine Ext.trans ?_ (ExtOf.ext _)) | (with_reducible refine Ext.alloc ?_ _) | (with_reducible refine Ext.drew ?_) | (with_reducible refine Ext.setCell ?_ ?_ _) | (with_reducible refine Ext.setRow ?_ ?_ _) | (with_reducible exact HX.out) | (with_reducible refine Ext.trans ?_ HX.out) | (with_reducible refine Ext.below ?_ (Nat.le_refl _) _) | (simp; done) | (simp; omega)))
        · have t3' : decide ((100 : Int) < (to.length : Int)) = true := by simp at t3 ⊢; omega
          go_wp2_with fail
          refine (awake_any _).mono ?_
          rintro e w' ⟨rfl, nz, rfl⟩
          go_wp2_with fail
          go_ret
          refine ⟨rfl, ?_⟩
          exact ExtOf.of (by repeat' (first | (with_reducible exact Ext.refl _) | (with_reducible exact ExtOf.ext _) | (with_reducible refine Ext.trans ?_ (ExtOf.ext _)) | (with_reducible refine Ext.alloc ?_ _) | (with_reducible refine Ext.drew ?_) | (with_reducible refine Ext.setCell ?_ ?_ _) | (with_reducible refine Ext.setRow ?_ ?_ _) | (with_reducible exact HX.out) | (with_reducible refine Ext.trans ?_ HX.out) | (with_reducible refine Ext.below ?_ (Nat.le_refl _) _) | (simp; done) | (simp; omega)))
      · have t2' : decide ((50 : Int) < (l.length : Int)) = true := by simp at t2 ⊢; omega
        go_wp2_with fail
        refine (awake_any _).mono ?_
        rintro e w' ⟨rfl, nz, rfl⟩
        go_wp2_with fail
        go_ret
        refine ⟨rfl, ?_⟩
        exact ExtOf.of (by repeat' (first | (with_reducible exact Ext.refl _) | (with_reducible exact ExtOf.ext _) | (with_reducible refine Ext.trans ?_ (ExtOf.ext _)) | (with_reducible refine Ext.alloc ?_ _) | (with_reducible refine Ext.drew ?_) | (with_reducible refine Ext.setCell ?_ ?_ _) | (with_reducible refine Ext.setRow ?_ ?_ _) | (with_reducible exact HX.out) | (with_reducible refine Ext.trans ?_ HX.out) | (with_reducible refine Ext.below ?_ (Nat.le_refl _) _) | (simp; done) | (simp; omega)))
    · have t1' : decide ((50 : Int) < (m.length : Int)) = true := by simp at t1 ⊢; omega
      go_wp2_with fail
      refine (awake_any _).mono ?_
      rintro e w' ⟨rfl, nz, rfl⟩
      go_wp2_with fail
      go_ret
      refine ⟨rfl, ?_⟩
      exact ExtOf.of (by repeat' (first | (with_reducible exact Ext.refl _) | (with_reducible exact ExtOf.ext _) | (with_reducible refine Ext.trans ?_ (ExtOf.ext _)) | (with_reducible refine Ext.alloc ?_ _) | (with_reducible refine Ext.drew ?_) | (with_reducible refine Ext.setCell ?_ ?_ _) | (with_reducible refine Ext.setRow ?_ ?_ _) | (with_reducible exact HX.out) | (with_reducible refine Ext.trans ?_ HX.out) | (with_reducible refine Ext.below ?_ (Nat.le_refl _) _) | (simp; done) | (simp; omega)))

end Go.Proofs.Ythchddkdcibbhaa
