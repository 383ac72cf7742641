/-
  Chapter 26: several texts in one (R17, R18, R19, R20, R45).
-/
import Derived.Test.YtdalbfanfbeckaaGreatDoorK16
import Derived.Test.YtdalbfanfbeckaaGreatDoorLA
import Derived.LaidMore
/-
  Chapter 26: the reference's check of a line that is fine.
-/
section
set_option linter.unusedVariables false
set_option linter.unusedSimpArgs false
namespace Go.Proofs.YtdalbfanfbeckaaGreatDoor
open Go.RowKit TrimM

attribute [local go_sem] ExtOf.cell ExtOf.frozen ExtS.cell ExtS.frozen Block.cell Block.frozen ExtB.cell ExtB.frozen alloc_cell alloc_frozen
set_option maxHeartbeats 800000 in
theorem rsmall_ok (l : List Int) (v : Value) (w : World) (h : IntS w v l) (hv : ∀ x ∈ l, -1125899906842624 ≤ x ∧ x ≤ 1125899906842624) : Calls Tryz.prog 69 #[v] w fun e w' => e = .returned (.bool true) ∧ ∃ n : ExtOf w, w' = n.val := by
  obtain ⟨p, c, rfl, a1, a2, a3⟩ := SliceOf.form h
  have H := Lib.hid h
  have HV := Lib.hid hv
  clear h hv
  unfold maxLen at a2
  go_enter Tryz.func69, Tryz.ntmps69
  go_wp2_with fail
  go_loopw [3] (fun v wr => ∃ k : Nat, k ≤ l.length ∧ v = .int .i64 k ∧ Ext w wr) (fun v _ => l.length - (intOf v).toNat)
  case atStart => exact ⟨0, by omega, rfl, Ext.refl _⟩
  case round =>
    obtain ⟨k, hk, rfl, hx⟩ := hrel
    have HX := Lib.hid hx
    clear hx
    by_cases hlt : k < l.length
    · obtain ⟨b, o, rfl, ob, c0⟩ := SliceOf.elem1 (SliceOf.ext H.out HX.out) hlt rfl
      obtain ⟨x, hx⟩ : ∃ x, x = l[k] := ⟨_, rfl⟩
      have hb := HV.out l[k] (List.getElem_mem hlt)
      rw [← hx] at c0 hb
      clear hx
      have q1 : decide (x < -1125899906842624) = false := decide_eq_false (by omega)
      have q2 : decide (1125899906842624 < x) = false := decide_eq_false (by omega)
      go_wp2_with fail
      go_roundw
      case rel => exact ⟨k + 1, by omega, by first | rfl | go_num, HX.out⟩
      case measure => simp [intOf]; omega
    · go_wp2_with fail
      go_ret
      exact ⟨rfl, by exact ExtOf.of (by repeat' (first | (with_reducible exact Ext.refl _) | (with_reducible exact ExtOf.ext _) | (with_reducible refine Ext.trans ?_ (ExtOf.ext _)) | (with_reducible refine Ext.alloc ?_ _) | (with_reducible refine Ext.drew ?_) | (with_reducible refine Ext.setCell ?_ ?_ _) | (with_reducible refine Ext.setRow ?_ ?_ _) | (with_reducible exact HX.out) | (with_reducible refine Ext.trans ?_ HX.out) | (with_reducible refine Ext.below ?_ (Nat.le_refl _) _) | omega | (simp; done) | (simp; omega)))⟩
set_option maxHeartbeats 1600000 in
set_option maxRecDepth 20000 in
theorem rcCheck_ok (L : Ln) (hL : L.Fine) (cs : Array Value) (w : World) (h : LineS w L cs) : Calls Tryz.prog 44 #[.agg cs] w fun e w' => e = .returned (.int .i64 0) ∧ ∃ n : ExtOf w, w' = n.val := by
  obtain ⟨vs, vg, vc, vd, rfl, h1, h2, h3, h4⟩ := h
  obtain ⟨N, hN⟩ : ∃ N, N = L.sizes.length := ⟨_, rfl⟩
  obtain ⟨ps, cs, rfl, a1, a2, a3⟩ := int_form h1 (n := N) (by rw [List.length_map, hN])
  obtain ⟨pg, cg, rfl, b1, b2, b3⟩ := grid_form h2 (n := N) (by rw [hL.rows, hN])
  obtain ⟨pc, cc, rfl, d1, d2, d3⟩ := int_form h3 (n := L.n) (by rw [List.length_replicate])
  obtain ⟨pd, cd, rfl, e1, e2, e3⟩ := int_form h4 (n := L.n) (by rw [List.length_replicate])
  have HS := Lib.hid h1
  have HG := Lib.hid h2
  have HC := Lib.hid h3
  have HD := Lib.hid h4
  have HF := Lib.hid hL
  have HN := Lib.hid hN
  have hn := hL.n
  have hk := hL.k
  have hs8 : N ≤ 8 := by rw [hN]; exact hL.sizes
  clear h1 h2 h3 h4 hL hN
  unfold maxLen at a2 b2 d2 e2
  have hz : ∀ x ∈ List.replicate L.n (0 : Int), -1125899906842624 ≤ x ∧ x ≤ 1125899906842624 := by intro x hx; have := List.eq_of_mem_replicate hx; omega
  have HSC : Hid (∀ W, Ext w W → Calls Tryz.prog 69 #[.slice pc L.n cc] W fun e w' => e = .returned (.bool true) ∧ ∃ n : ExtOf W, w' = n.val) := Lib.hid (fun W hx => rsmall_ok _ _ W (SliceOf.ext HC.out hx) hz)
  have HSD : Hid (∀ W, Ext w W → Calls Tryz.prog 69 #[.slice pd L.n cd] W fun e w' => e = .returned (.bool true) ∧ ∃ n : ExtOf W, w' = n.val) := Lib.hid (fun W hx => rsmall_ok _ _ W (SliceOf.ext HD.out hx) hz)
  clear hz
  have q1 : decide ((L.n : Int) < 0) = false := decide_eq_false (by omega)
  have q2 : decide ((2000 : Int) < (L.n : Int)) = false := decide_eq_false (by omega)
  have q3 : decide ((L.k : Int) < 0) = false := decide_eq_false (by omega)
  have q4 : decide ((20 : Int) < (L.k : Int)) = false := decide_eq_false (by omega)
  go_enter Tryz.func44, Tryz.ntmps44
  go_wp2_with fail
  go_loopw [3] (fun v wr => ∃ k : Nat, k ≤ N ∧ v = .int .i64 k ∧ Block wr w.heap.size #[.int .i64 (L.n : Int), .int .i64 (L.k : Int), .int .i64 1, .slice ps N cs, .slice pg N cg, .slice pc L.n cc, .slice pd L.n cd] ∧ Ext w wr) (fun v _ => N - (intOf v).toNat)
  case atStart => exact ⟨0, by omega, rfl, inferInstance, by repeat' (first | (with_reducible exact Ext.refl _) | (with_reducible exact ExtOf.ext _) | (with_reducible refine Ext.trans ?_ (ExtOf.ext _)) | (with_reducible refine Ext.alloc ?_ _) | (with_reducible refine Ext.drew ?_) | (with_reducible refine Ext.setCell ?_ ?_ _) | (with_reducible refine Ext.setRow ?_ ?_ _) | (with_reducible exact HX.out) | (with_reducible refine Ext.trans ?_ HX.out) | (with_reducible refine Ext.below ?_ (Nat.le_refl _) _) | omega | (simp; done) | (simp; omega))⟩
  case round =>
    obtain ⟨k, hk, rfl, hB, hx⟩ := hrel
    have HX := Lib.hid hx
    have ob := hB.old
    clear hx
    by_cases hlt : k < N
    · have hls : k < (L.sizes.map fun s : Nat => (s : Int)).length := by rw [List.length_map, ← HN.out]; exact hlt
      obtain ⟨sz, hsz⟩ : ∃ s, s = L.sizes[k]'(by rw [← HN.out]; exact hlt) := ⟨_, rfl⟩
      obtain ⟨bs, os, hbs, obs, c1⟩ := int_elem (SliceOf.ext HS.out HX.out) hls (x := (sz : Int)) (by rw [List.getElem_map, hsz])
      subst hbs
      have hszb := HF.out.size sz (by rw [hsz]; exact List.getElem_mem _)
      clear hsz hls
      have r1 : decide ((sz : Int) < 1) = false := decide_eq_false (by omega)
      have r2 : decide ((2000 : Int) < (sz : Int)) = false := decide_eq_false (by omega)
      go_wp2_with fail
      go_roundw
      case rel => exact ⟨k + 1, by omega, by first | rfl | go_num, hB, HX.out⟩
      case measure => simp [intOf]; omega
    · go_wp2_with fail
      go_loopw [4] (fun v wz => ∃ k : Nat, k ≤ N ∧ v = .int .i64 k ∧ Block wz w.heap.size #[.int .i64 (L.n : Int), .int .i64 (L.k : Int), .int .i64 1, .slice ps N cs, .slice pg N cg, .slice pc L.n cc, .slice pd L.n cd] ∧ Ext w wz) (fun v _ => N - (intOf v).toNat)
      case atStart => exact ⟨0, by omega, rfl, hB, HX.out⟩
      case round =>
        clear hB HX ob hlt hk
        obtain ⟨k, hk, rfl, hB, hx⟩ := hrel
        have HX := Lib.hid hx
        have ob := hB.old
        clear hx
        by_cases hlt : k < N
        · obtain ⟨bg, og, rp, rc, hbg, obg, c0, hr⟩ := GridI.row (GridI.ext HG.out HX.out) (i := k) (by rw [HF.out.rows, ← HN.out]; exact hlt)
          subst hbg
          have hls : k < (L.sizes.map fun s : Nat => (s : Int)).length := by rw [List.length_map, ← HN.out]; exact hlt
          obtain ⟨sz, hsz⟩ : ∃ s, s = L.sizes[k]'(by rw [← HN.out]; exact hlt) := ⟨_, rfl⟩
          obtain ⟨bs, os, hbs, obs, c1⟩ := int_elem (SliceOf.ext HS.out HX.out) hls (x := (sz : Int)) (by rw [List.getElem_map, hsz])
          subst hbs
          have hszb := HF.out.size sz (by rw [hsz]; exact List.getElem_mem _)
          obtain ⟨m, hm⟩ : ∃ m, m = L.n + 1 - sz := ⟨_, rfl⟩
          have hrl : (L.rows[k]'(by rw [HF.out.rows, ← HN.out]; exact hlt)).length = m := by
            obtain ⟨r, hr1, hr2⟩ := HF.out.row k (by rw [← HN.out]; exact hlt)
            have e : L.size k = sz := by unfold Ln.size; rw [List.getElem?_eq_getElem (by rw [← HN.out]; exact hlt), ← hsz]; rfl
            have h3 := (List.getElem?_eq_some_iff.1 hr1).2
            rw [h3, hr2, e, hm]
          rw [hrl] at c0
          clear hr hrl hsz hls
          have hmx : (if (0 : Int) < (L.n : Int) - (sz : Int) + 1 then (L.n : Int) - (sz : Int) + 1 else 0) = (m : Int) := by rw [hm]; split <;> omega
          have hmx2 : max (0 : Int) ((L.n : Int) - (sz : Int) + 1) = (m : Int) := by omega
          clear hm
          go_wp2_with fail
          refine wp_region_ext (by kernel_rfl) (by kernel_rfl) ?_
          repeat (first | go_big_quiet_skip | go_big_quiet_step (fail))
          refine wpQuiet_nil ?_
          intro _ hw'
          obtain ⟨nq, hw''⟩ := hw'
          subst hw''
          go_wp2_with fail
          go_roundw
          case rel => exact ⟨k + 1, by omega, by first | rfl | go_num, inferInstance, by repeat' (first | (with_reducible exact Ext.refl _) | (with_reducible exact ExtOf.ext _) | (with_reducible refine Ext.trans ?_ (ExtOf.ext _)) | (with_reducible refine Ext.alloc ?_ _) | (with_reducible refine Ext.drew ?_) | (with_reducible refine Ext.setCell ?_ ?_ _) | (with_reducible refine Ext.setRow ?_ ?_ _) | (with_reducible exact HX.out) | (with_reducible refine Ext.trans ?_ HX.out) | (with_reducible refine Ext.below ?_ (Nat.le_refl _) _) | omega | (simp; done) | (simp; omega))⟩
          case measure => simp [intOf]; omega
        · go_wp2_with (go_at_call 69; (first | (with_reducible refine Calls.mono (HSC.out _ (by repeat' (first | (with_reducible exact Ext.refl _) | (with_reducible exact ExtOf.ext _) | (with_reducible refine Ext.trans ?_ (ExtOf.ext _)) | (with_reducible refine Ext.alloc ?_ _) | (with_reducible refine Ext.drew ?_) | (with_reducible refine Ext.setCell ?_ ?_ _) | (with_reducible refine Ext.setRow ?_ ?_ _) | (with_reducible exact HX.out) | (with_reducible refine Ext.trans ?_ HX.out) | (with_reducible refine Ext.below ?_ (Nat.le_refl _) _) | omega | (simp; done) | (simp; omega)))) ?_) | (with_reducible refine Calls.mono (HSD.out _ (by repeat' (first | (with_reducible exact Ext.refl _) | (with_reducible exact ExtOf.ext _) | (with_reducible refine Ext.trans ?_ (ExtOf.ext _)) | (with_reducible refine Ext.alloc ?_ _) | (with_reducible refine Ext.drew ?_) | (with_reducible refine Ext.setCell ?_ ?_ _) | (with_reducible refine Ext.setRow ?_ ?_ _) | (with_reducible exact HX.out) | (with_reducible refine Ext.trans ?_ HX.out) | (with_reducible refine Ext.below ?_ (Nat.le_refl _) _) | omega | (simp; done) | (simp; omega)))) ?_)); (rintro e w' ⟨rfl, ns, rfl⟩))
          go_loopw [5, 6] (fun o v wz => ∃ k : Nat, k ≤ N ∧ v = .int .i64 k ∧ o = .bool true ∧ Block wz w.heap.size #[.int .i64 (L.n : Int), .int .i64 (L.k : Int), .int .i64 1, .slice ps N cs, .slice pg N cg, .slice pc L.n cc, .slice pd L.n cd] ∧ Ext w wz) (fun _ v _ => N - (intOf v).toNat)
          case atStart => exact ⟨0, by omega, rfl, rfl, inferInstance, by repeat' (first | (with_reducible exact Ext.refl _) | (with_reducible exact ExtOf.ext _) | (with_reducible refine Ext.trans ?_ (ExtOf.ext _)) | (with_reducible refine Ext.alloc ?_ _) | (with_reducible refine Ext.drew ?_) | (with_reducible refine Ext.setCell ?_ ?_ _) | (with_reducible refine Ext.setRow ?_ ?_ _) | (with_reducible exact HX.out) | (with_reducible refine Ext.trans ?_ HX.out) | (with_reducible refine Ext.below ?_ (Nat.le_refl _) _) | omega | (simp; done) | (simp; omega))⟩
          case round =>
            clear hB HX ob hlt hk
            obtain ⟨k, hk, rfl, rfl, hB, hx⟩ := hrel
            have HX := Lib.hid hx
            have ob := hB.old
            clear hx
            by_cases hlt : k < N
            · obtain ⟨bg, og, rp, rc, hbg, obg, c0, hr⟩ := GridI.row (GridI.ext HG.out HX.out) (i := k) (by rw [HF.out.rows, ← HN.out]; exact hlt)
              subst hbg
              have HRS : Hid (∀ W, Ext wr W → Calls Tryz.prog 69 #[.slice rp (L.rows[k]'(by rw [HF.out.rows, ← HN.out]; exact hlt)).length rc] W fun e w' => e = .returned (.bool true) ∧ ∃ n : ExtOf W, w' = n.val) := Lib.hid (fun W hx => rsmall_ok _ _ W (SliceOf.ext hr hx) (fun x hx => by have := HF.out.vals _ (List.getElem_mem _) x hx; omega))
              clear hr
              go_wp2_with (go_at_call 69; with_reducible refine Calls.mono (HRS.out _ (Ext.refl _)) ?_; rintro e w' ⟨rfl, ns, rfl⟩)
              go_roundw
              case rel => exact ⟨k + 1, by omega, by first | rfl | go_num, rfl, inferInstance, by repeat' (first | (with_reducible exact Ext.refl _) | (with_reducible exact ExtOf.ext _) | (with_reducible refine Ext.trans ?_ (ExtOf.ext _)) | (with_reducible refine Ext.alloc ?_ _) | (with_reducible refine Ext.drew ?_) | (with_reducible refine Ext.setCell ?_ ?_ _) | (with_reducible refine Ext.setRow ?_ ?_ _) | (with_reducible exact HX.out) | (with_reducible refine Ext.trans ?_ HX.out) | (with_reducible refine Ext.below ?_ (Nat.le_refl _) _) | omega | (simp; done) | (simp; omega))⟩
              case measure => simp [intOf]; omega
            · go_wp2_with fail
              go_ret
              exact ⟨rfl, by exact ExtOf.of (by repeat' (first | (with_reducible exact Ext.refl _) | (with_reducible exact ExtOf.ext _) | (with_reducible refine Ext.trans ?_ (ExtOf.ext _)) | (with_reducible refine Ext.alloc ?_ _) | (with_reducible refine Ext.drew ?_) | (with_reducible refine Ext.setCell ?_ ?_ _) | (with_reducible refine Ext.setRow ?_ ?_ _) | (with_reducible exact HX.out) | (with_reducible refine Ext.trans ?_ HX.out) | (with_reducible refine Ext.below ?_ (Nat.le_refl _) _) | omega | (simp; done) | (simp; omega)))⟩
end Go.Proofs.YtdalbfanfbeckaaGreatDoor
end
/-
  Chapter 26: the sums of nothing; the fresh edge behind a piece.
-/
section
set_option linter.unusedVariables false
set_option linter.unusedSimpArgs false
namespace Go.Proofs.YtdalbfanfbeckaaGreatDoor
open Go.RowKit TrimM

attribute [local go_sem] ExtOf.cell ExtOf.frozen ExtS.cell ExtS.frozen Block.cell Block.frozen ExtB.cell ExtB.frozen alloc_cell alloc_frozen
set_option maxHeartbeats 400000 in
theorem behind_any (L : Ln) (p : Int) (vs vg vc vd : Value) (q : Int) (w : World) (hn : L.n ≤ 2000) (hk : L.k ≤ 20) (hq : 0 ≤ q ∧ q ≤ 10000) : Calls Tryz.prog 34 #[.agg #[.int .i64 (L.n : Int), .int .i64 (L.k : Int), .int .i64 p, vs, vg, vc, vd], .int .i64 q] w fun e w' => e = .returned (.int .i64 (L.behind q)) ∧ ∃ n : ExtOf w, w' = n.val := by
  by_cases h : q = L.n
  · have h1 : (q == (L.n : Int)) = true := by simpa using h
    have HE : Hid (L.behind q = -1) := Lib.hid (by unfold Ln.behind; rw [if_pos h])
    clear h
    go_enter Tryz.func34, Tryz.ntmps34
    go_wp2_with fail
    go_ret
    exact ⟨ret_int HE.out.symm, by exact ExtOf.of (by repeat' (first | (with_reducible exact Ext.refl _) | (with_reducible exact ExtOf.ext _) | (with_reducible refine Ext.trans ?_ (ExtOf.ext _)) | (with_reducible refine Ext.alloc ?_ _) | (with_reducible refine Ext.drew ?_) | (with_reducible refine Ext.setCell ?_ ?_ _) | (with_reducible refine Ext.setRow ?_ ?_ _) | (with_reducible exact HX.out) | (with_reducible refine Ext.trans ?_ HX.out) | (with_reducible refine Ext.below ?_ (Nat.le_refl _) _) | omega | (simp; done) | (simp; omega)))⟩
  · have h1 : (q == (L.n : Int)) = false := beq_eq_false_iff_ne.2 h
    have HE : Hid (L.behind q = min (q + L.k) L.n) := Lib.hid (by unfold Ln.behind; rw [if_neg h])
    clear h
    go_enter Tryz.func34, Tryz.ntmps34
    go_wp2_with fail
    all_goals
      go_ret
      exact ⟨ret_int (by rw [HE.out]; omega), by exact ExtOf.of (by repeat' (first | (with_reducible exact Ext.refl _) | (with_reducible exact ExtOf.ext _) | (with_reducible refine Ext.trans ?_ (ExtOf.ext _)) | (with_reducible refine Ext.alloc ?_ _) | (with_reducible refine Ext.drew ?_) | (with_reducible refine Ext.setCell ?_ ?_ _) | (with_reducible refine Ext.setRow ?_ ?_ _) | (with_reducible exact HX.out) | (with_reducible refine Ext.trans ?_ HX.out) | (with_reducible refine Ext.below ?_ (Nat.le_refl _) _) | omega | (simp; done) | (simp; omega)))⟩
theorem zeros_set {n i : Nat} : (Array.replicate n (Value.int .i64 0)).setIfInBounds i (.int .i64 0) = Array.replicate n (.int .i64 0) := by
  apply Array.ext_getElem?
  intro j
  rw [Array.getElem?_setIfInBounds]
  split
  · rename_i h; subst h
    by_cases hi : i < n
    · simp [hi]
    · simp [hi]
  · rfl
set_option maxHeartbeats 800000 in
theorem sums_zero (n N : Nat) (hN : N = n + 1) (v : Value) (w : World) (hn : n ≤ 2000) (h : IntS w v (List.replicate n 0)) : Calls Tryz.prog 93 #[v] w fun e w' => ∃ g, e = .returned (.slice (some ⟨g, 0, none⟩) N N) ∧ w.heap.size ≤ g ∧ Block w' g (Array.replicate N (.int .i64 0)) ∧ ∃ m : ExtOf w, w' = m.val := by
  obtain ⟨p, c, rfl, a1, a2, a3⟩ := int_form h (n := n) (by simp)
  have H := Lib.hid h
  clear h
  unfold maxLen at a2
  have hm2 := run_make_row' (P := Tryz.prog) 31 3 (.int .i64 0) 8 Tryz.underlying31 infoInt rfl .i64 .i64 N (by omega) (by omega)
  rw [madeI] at hm2
  have hc : (n : Int) + 1 = (N : Int) := by omega
  have HN := Lib.hid hN
  have hNn : n < N := by omega
  clear hN
  go_enter Tryz.func93, Tryz.ntmps93
  go_wp2_with fail
  go_loopw [12] (fun v wr => ∃ k : Nat, k ≤ n ∧ v = .int .i64 k ∧ Block wr w.heap.size (Array.replicate N (.int .i64 0)) ∧ Ext w wr) (fun v _ => n - (intOf v).toNat)
  case atStart => exact ⟨0, by omega, rfl, inferInstance, by repeat' (first | (with_reducible exact Ext.refl _) | (with_reducible exact ExtOf.ext _) | (with_reducible refine Ext.trans ?_ (ExtOf.ext _)) | (with_reducible refine Ext.alloc ?_ _) | (with_reducible refine Ext.drew ?_) | (with_reducible refine Ext.setCell ?_ ?_ _) | (with_reducible refine Ext.setRow ?_ ?_ _) | (with_reducible exact HX.out) | (with_reducible refine Ext.trans ?_ HX.out) | (with_reducible refine Ext.below ?_ (Nat.le_refl _) _) | omega | (simp; done) | (simp; omega))⟩
  case round =>
    obtain ⟨k, hk, rfl, hB, hx⟩ := hrel
    have HX := Lib.hid hx
    have ob := hB.old
    clear hx
    by_cases hlt : k < n
    · obtain ⟨b, o, rfl, ob1, c0⟩ := int_elem (SliceOf.ext H.out HX.out) (i := k) (by simpa using hlt) (x := 0) (by simp)
      have hlt' : b < w.heap.size := by
        obtain ⟨b', o', e', ow, _⟩ := int_elem H.out (i := k) (by simpa using hlt) (x := 0) (by simp)
        simp only [Option.some.injEq, Addr.mk.injEq, and_true] at e'
        obtain ⟨rfl, rfl⟩ := e'
        exact ow.lt
      have c1 : wr.cell? ⟨w.heap.size, k, none⟩ = some (.int .i64 0) := by rw [Block.cell (h := hB), Array.getElem?_replicate, if_pos (by omega)]
      have c2 : wr.cell? ⟨w.heap.size, k + 1, none⟩ = some (.int .i64 0) := by rw [Block.cell (h := hB), Array.getElem?_replicate, if_pos (by omega)]
      go_wp2_with fail
      go_roundw
      case rel =>
        have hB2 : Block (wr.setCell ⟨w.heap.size, k + 1, none⟩ (.int .i64 0)) w.heap.size ((Array.replicate N (.int .i64 0)).setIfInBounds (k + 1) (.int .i64 0)) := inferInstance
        rw [zeros_set] at hB2
        exact ⟨k + 1, by omega, by first | rfl | go_num, hB2, Ext.setCell HX.out (Nat.le_refl _) _⟩
      case measure => simp [intOf]; omega
    · go_wp2_with fail
      go_ret
      exact ⟨_, rfl, Nat.le_refl _, hB, ExtOf.of HX.out⟩
end Go.Proofs.YtdalbfanfbeckaaGreatDoor
end
/-
  Chapter 26: the reference's sums of nothing.
-/
section
set_option linter.unusedVariables false
set_option linter.unusedSimpArgs false
namespace Go.Proofs.YtdalbfanfbeckaaGreatDoor
open Go.RowKit TrimM

attribute [local go_sem] ExtOf.cell ExtOf.frozen ExtS.cell ExtS.frozen Block.cell Block.frozen ExtB.cell ExtB.frozen alloc_cell alloc_frozen
theorem Own.one (w : World) (x : Int) (E : TypeId) : Own encI 1 E w.heap.size (w.alloc (.cells #[.int .i64 x] E)) (.slice (some ⟨w.heap.size, 0, none⟩) 1 1) [x] :=
  ⟨rfl, .inr ⟨w.heap.size, 1, #[.int .i64 x], rfl, Nat.le_refl _, (MapKept.heap_alloc w _).1, Nat.le_refl _, by unfold maxLen; omega, rfl, rfl⟩⟩
/-- k nothings -/
def noughts (k : Nat) : List Int := List.replicate k 0
theorem noughts_succ (k : Nat) : noughts (k + 1) = noughts k ++ [0] := List.replicate_succ'
theorem noughts_len (k : Nat) : (noughts k).length = k := List.length_replicate
theorem noughts_get {k i : Nat} (h : i < (noughts k).length) : (noughts k)[i] = 0 := List.getElem_replicate _
end Go.Proofs.YtdalbfanfbeckaaGreatDoor
end
/-
  Chapter 26: choices in memory; the variable none; the best piece that begins at a place.
-/
section
set_option linter.unusedVariables false
set_option linter.unusedSimpArgs false
namespace Go.Proofs.YtdalbfanfbeckaaGreatDoor
open Go.RowKit TrimM

attribute [local go_sem] ExtOf.cell ExtOf.frozen ExtS.cell ExtS.frozen Block.cell Block.frozen ExtB.cell ExtB.frozen alloc_cell alloc_frozen
/-- the variable that stands for no piece -/
def Tab (w : World) : Prop := w.rangeAt 0 0 [.int .i64 (-1), .int .i64 (-1)]
theorem Tab.ext {w w' : World} (h : Tab w) (hx : Ext w w') : Tab w' := hx.range h
theorem Tab.range {w w' : World} (h : Tab w) (hx : Ext w w') : w'.rangeAt 0 0 [.int .i64 (-1), .int .i64 (-1)] := hx.range h
theorem lwCh : Whole Tryz.prog 111 3 := whole_of Tryz.underlying111 rfl (by kernel_rfl)
theorem midCh : Mid Tryz.prog 111 3 := mid_of Tryz.underlying111 rfl (by kernel_rfl)
theorem eqIn_int (d : Nat) (W : World) (A C : Int) : (Op.equalIn (d + 1) 3 (.int .i64 A) (.int .i64 C)).run Tryz.prog W = .ok (A == C) W := by
  simp [Op.equalIn, run_underlying Tryz.underlying3]
theorem pcPart0 (W : World) (A B : Int) : (Go.part 3 #[.int .i64 A, .int .i64 B] 0).run Tryz.prog W = .ok (.int .i64 A) W := by kernel_rfl
theorem pcPart1 (W : World) (A B : Int) : (Go.part 3 #[.int .i64 A, .int .i64 B] 1).run Tryz.prog W = .ok (.int .i64 B) W := by kernel_rfl
theorem pcStood : Tryz.prog.stoodInHeld 55 = false := by kernel_rfl
theorem pcGuardless : Tryz.prog.eqGuardType Tryz.prog.depth 55 = false := by kernel_rfl
theorem equalIn_piece (d : Nat) (W : World) (A B C D : Int) : (Op.equalIn (d + 2) 55 (.agg #[.int .i64 A, .int .i64 B]) (.agg #[.int .i64 C, .int .i64 D])).run Tryz.prog W = .ok (A == C && B == D) W := by
  unfold Op.equalIn
  simp [run_underlying Tryz.underlying55, eqIn_int, pcPart0, pcPart1, pcStood]
  by_cases h1 : A = C <;> by_cases h2 : B = D <;> simp [h1, h2]
theorem equal_piece (W : World) (A B C D : Int) : (Op.equal 55 (.agg #[.int .i64 A, .int .i64 B]) (.agg #[.int .i64 C, .int .i64 D])).run Tryz.prog W = .ok (A == C && B == D) W := equalIn_piece 9998 W A B C D
theorem equalX_piece (W : World) (A B C D : Int) : (Op.equalIn 10000 55 (.agg #[.int .i64 A, .int .i64 B]) (.agg #[.int .i64 C, .int .i64 D])).run Tryz.prog W = .ok (A == C && B == D) W := equalIn_piece 9998 W A B C D
theorem eqGuard_piece (op : BinOp) (x y : Operand) (a b : Array Value) (W : World) : (eqGuard op 55 x y (.agg a) (.agg b)).run Tryz.prog W = .ok () W := by
  unfold eqGuard
  cases op <;> simp [program, Sem.run, pcGuardless, Sem.run_bind]
attribute [local go_sem] equal_piece equalX_piece eqGuard_piece
/-- a choice, as the program holds it -/
def cho : Option ((Nat × Nat) × Int) → Int × Int × Int
  | none => (-1, -1, 0)
  | some ((i, a), v) => ((i : Int), (a : Int), v)
def hereTo (L : Ln) (p k : Nat) : List (Nat × Nat) := (List.range k).filterMap fun i => if p + L.size i ≤ L.n ∧ 0 ≤ L.gain i p then some (i, p) else none
theorem hereTo_succ (L : Ln) (p k : Nat) : hereTo L p (k + 1) = if p + L.size k ≤ L.n ∧ 0 ≤ L.gain k p then hereTo L p k ++ [(k, p)] else hereTo L p k := by
  unfold hereTo
  rw [List.range_succ, List.filterMap_append]
  by_cases h : p + L.size k ≤ L.n ∧ 0 ≤ L.gain k p
  · rw [if_pos h, List.filterMap_cons, if_pos h]; rfl
  · rw [if_neg h, List.filterMap_cons, if_neg h]; simp
theorem topOf_snoc (L : Ln) (E : Nat → Int) (l : List (Nat × Nat)) (x : Nat × Nat) : topOf L E (l ++ [x]) = topS L E (topOf L E l) x := by
  unfold topOf; rw [List.foldl_append]; rfl
end Go.Proofs.YtdalbfanfbeckaaGreatDoor
end
/-
  Chapter 26: how the parameters of the laws read, and what the listed variable gives.
-/
section
set_option linter.unusedVariables false
set_option linter.unusedSimpArgs false
namespace Go.Proofs.YtdalbfanfbeckaaGreatDoor
open Go.RowKit Go.Deep Go.ChangeShapes Go.WideShapes TrimM

set_option maxRecDepth 100000
theorem flatDf : flat Tryz.prog 4 53 = [.inl .i64, .inl .i64, .inl .i64, .inl .i64, .inl .i64, .inl .i64, .inl .i64] := by kernel_rfl
theorem ofDf {H : Type} {enc : TypeId × Value → H} {W : World} {base : Nat} {sp : Nat → Bool} {held : Bool} (cs : List Value) (n : Nat) (y : DataW H × List MemPlace) (hl : cs.length = 7) (h : DataW.trod enc Tryz.prog W base sp held n 53 cs = some y) : ∃ z : Df, cs = encDf z ∧ True := by
  have f0 := fits_of_trod 4 53 cs n _ (by kernel_rfl) (by rw [hl]; kernel_rfl) h
  rw [flatDf] at f0
  obtain ⟨a0, c1, rfl, w0, f1⟩ := f0.int
  obtain ⟨a1, c2, rfl, w1, f2⟩ := f1.int
  obtain ⟨a2, c3, rfl, w2, f3⟩ := f2.int
  obtain ⟨a3, c4, rfl, w3, f4⟩ := f3.int
  obtain ⟨a4, c5, rfl, w4, f5⟩ := f4.int
  obtain ⟨a5, c6, rfl, w5, f6⟩ := f5.int
  obtain ⟨a6, c7, rfl, w6, f7⟩ := f6.int
  obtain rfl := f7.nil
  exact ⟨⟨a0, ⟨a1, a2, a3, a4, a5, a6⟩⟩, rfl, trivial⟩
theorem flatPc : flat Tryz.prog 3 55 = [.inl .i64, .inl .i64] := by kernel_rfl
theorem ofPc {H : Type} {enc : TypeId × Value → H} {W : World} {base : Nat} {sp : Nat → Bool} {held : Bool} (cs : List Value) (n : Nat) (y : DataW H × List MemPlace) (hl : cs.length = 2) (h : DataW.trod enc Tryz.prog W base sp held n 55 cs = some y) : ∃ z : Sp, cs = encSp z ∧ True := by
  have f0 := fits_of_trod 3 55 cs n _ (by kernel_rfl) (by rw [hl]; kernel_rfl) h
  rw [flatPc] at f0
  obtain ⟨a0, c1, rfl, w0, f1⟩ := f0.int
  obtain ⟨a1, c2, rfl, w1, f2⟩ := f1.int
  obtain rfl := f2.nil
  exact ⟨(a0, a1), rfl, trivial⟩
theorem ofI {H : Type} {enc : TypeId × Value → H} {W : World} {base : Nat} {sp : Nat → Bool} {held : Bool} (cs : List Value) (n : Nat) (y : DataW H × List MemPlace) (hl : cs.length = 1) (h : DataW.trod enc Tryz.prog W base sp held n 3 cs = some y) : ∃ z : Int, cs = encI z ∧ True := by
  obtain ⟨k, hk, _⟩ := DataW.trod_int Tryz.underlying3 h
  exact ⟨k, hk, trivial⟩
theorem leafDf {H : Type} {enc : TypeId × Value → H} {W : World} {base : Nat} {sp : Nat → Bool} {held : Bool} {v : Value} (h : ∃ n x, DataW.trod enc Tryz.prog W base sp held n 26 [v] = some x) : ∃ l : List Df, SliceOf encDf 7 W v l := by
  obtain ⟨n, x, h⟩ := h
  obtain ⟨l, h1, _⟩ := list_of (I := fun _ => True) Tryz.underlying26 (k := 7) (by kernel_rfl) (by decide) ofDf h
  exact ⟨l, h1⟩
theorem leafI {H : Type} {enc : TypeId × Value → H} {W : World} {base : Nat} {sp : Nat → Bool} {held : Bool} {v : Value} (h : ∃ n x, DataW.trod enc Tryz.prog W base sp held n 31 [v] = some x) : ∃ l : List Int, SliceOf encI 1 W v l := by
  obtain ⟨n, x, h⟩ := h
  obtain ⟨l, h1, _⟩ := list_of (I := fun _ => True) Tryz.underlying31 (k := 1) (by kernel_rfl) (by decide) ofI h
  exact ⟨l, h1⟩
theorem parDf {H : Type} {enc : TypeId × Value → H} {W : World} {base : Nat} {sp : Nat → Bool} {held : Bool} {r : Reach} {b0 : Nat} {v : Value} {d : DataW H} {pl : List MemPlace} (hv : Value.okWide Tryz.prog W r b0 26 v) (h : DataW.Trod enc Tryz.prog W base sp held 26 v d pl) : ∃ l : List Df, SliceOf encDf 7 W v l ∧ ∀ z ∈ l, True :=
  par_list (I := fun _ => True) Tryz.underlying26 (by kernel_rfl) (by decide) ofDf hv h
theorem parPc {H : Type} {enc : TypeId × Value → H} {W : World} {base : Nat} {sp : Nat → Bool} {held : Bool} {r : Reach} {b0 : Nat} {v : Value} {d : DataW H} {pl : List MemPlace} (hv : Value.okWide Tryz.prog W r b0 36 v) (h : DataW.Trod enc Tryz.prog W base sp held 36 v d pl) : ∃ l : List Sp, SliceOf encSp 2 W v l ∧ ∀ z ∈ l, True :=
  par_list (I := fun _ => True) Tryz.underlying36 (by kernel_rfl) (by decide) ofPc hv h
theorem tab_of {W : World} (h : laidMetH Tryz.prog [("sawmill/cutting.none", Rows.laid_sawmill_cutting_none)] W) : Tab W := by
  rw [MakeChecks.laidMetH_plain _ _ _ (by kernel_rfl)] at h
  obtain ⟨ps, ⟨g0, t0, cs0, f0, p0, q0, hg, hty, hvar, hd, _, _⟩, _, _⟩ := h
  have hG : Tryz.prog.globalNamed "sawmill/cutting.none" = some 0 := by kernel_rfl
  obtain rfl := Option.some.inj (hG.symm.trans hg)
  have hT : (Tryz.prog.globals[0]?).map (·.type) = some 55 := by kernel_rfl
  obtain rfl := Option.some.inj (hT.symm.trans hty)
  obtain ⟨y0, y1, n, hx, hl, h0, h1⟩ := trod_struct2 Tryz.underlying55 hd
  obtain ⟨k0, e0, rfl, _⟩ := DataW.trod_int Tryz.underlying3 h0
  obtain ⟨k1, e2, rfl, _⟩ := DataW.trod_int Tryz.underlying3 h1
  have hc1 : Tryz.prog.cellsOf 3 = 1 := by kernel_rfl
  have hc2 : Tryz.prog.cellsOf 55 = 2 := by kernel_rfl
  rw [hc2] at hl
  replace e0 : (cs0.toList.drop 0).take (Tryz.prog.cellsOf 3) = [.int .i64 k0] := e0
  replace e2 : (cs0.toList.drop 1).take (Tryz.prog.cellsOf 3) = [.int .i64 k1] := e2
  rw [hc1] at e0 e2
  obtain ⟨u0, u1, hcs⟩ : ∃ u0 u1, cs0.toList = [u0, u1] := match cs0.toList, hl with | [a, b], _ => ⟨a, b, rfl⟩
  rw [hcs] at e0 e2
  obtain rfl : u0 = .int .i64 k0 := by simpa using e0
  obtain rfl : u1 = .int .i64 k1 := by simpa using e2
  have hz := congrArg Prod.fst hx
  replace hz : (DataW.agg [.lit (.int .i64 (-1)), .lit (.int .i64 (-1))] : DataW Unit) = .agg [.lit (.int .i64 k0), .lit (.int .i64 k1)] := hz
  simp only [DataW.agg.injEq, List.cons.injEq, DataW.lit.injEq, Lit.int.injEq, true_and, and_true] at hz
  obtain ⟨rfl, rfl⟩ := hz
  intro j v hj
  have hv := World.var?_cell hg hvar j
  rw [← Array.getElem?_toList, hcs, hj] at hv
  rw [Nat.zero_add]
  exact hv
end Go.Proofs.YtdalbfanfbeckaaGreatDoor
end
