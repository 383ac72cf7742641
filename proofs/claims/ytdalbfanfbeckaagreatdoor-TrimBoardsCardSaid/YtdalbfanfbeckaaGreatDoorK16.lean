/-
  Chapter 26: several texts in one (R14, R15, R16).
-/
import Derived.Test.YtdalbfanfbeckaaGreatDoorR12
/-
  Chapter 26: the comparison of lists of numbers, of lines, of pieces.
-/
section
set_option linter.unusedVariables false
set_option linter.unusedSimpArgs false
namespace Go.Proofs.YtdalbfanfbeckaaGreatDoor
open Go.RowKit TrimM

attribute [local go_sem] ExtOf.cell ExtOf.frozen ExtS.cell ExtS.frozen Block.cell Block.frozen ExtB.cell ExtB.frozen alloc_cell alloc_frozen
/-- two lines of the same parts -/
structure LineP (w : World) (cs : Array Value) (n k p : Int) (S : List Int) (G : List (List Int)) (C D : List Int) : Prop where
  get : ∃ vs vg vc vd, cs = #[.int .i64 n, .int .i64 k, .int .i64 p, vs, vg, vc, vd] ∧ IntS w vs S ∧ GridI w vg G ∧ IntS w vc C ∧ IntS w vd D
theorem LineS.parts {w : World} {L : Ln} {cs : Array Value} (h : LineS w L cs) : LineP w cs L.n L.k 1 (L.sizes.map fun s : Nat => (s : Int)) L.rows (List.replicate L.n 0) (List.replicate L.n 0) := ⟨h⟩
theorem GridI.nil (w : World) : GridI w (.slice none 0 0) [] := ⟨[], SliceOf.nil w, rfl, fun i r l h => by simp at h⟩
theorem zLine_parts (w : World) : LineP w zLine 0 0 0 [] [] [] [] := ⟨_, _, _, _, rfl, SliceOf.nil w, GridI.nil w, SliceOf.nil w, SliceOf.nil w⟩
theorem LineP.ext {w w' : World} {cs : Array Value} {n k p : Int} {S : List Int} {G : List (List Int)} {C D : List Int} (h : LineP w cs n k p S G C D) (hx : Ext w w') : LineP w' cs n k p S G C D := by
  obtain ⟨vs, vg, vc, vd, e, h1, h2, h3, h4⟩ := h.get
  exact ⟨vs, vg, vc, vd, e, SliceOf.ext h1 hx, h2.ext hx, SliceOf.ext h3 hx, SliceOf.ext h4 hx⟩
end Go.Proofs.YtdalbfanfbeckaaGreatDoor
end
/-
  Chapter 26: the check of a line that is fine.
-/
section
set_option linter.unusedVariables false
set_option linter.unusedSimpArgs false
namespace Go.Proofs.YtdalbfanfbeckaaGreatDoor
open Go.RowKit TrimM

attribute [local go_sem] ExtOf.cell ExtOf.frozen ExtS.cell ExtS.frozen Block.cell Block.frozen ExtB.cell ExtB.frozen alloc_cell alloc_frozen
set_option maxHeartbeats 800000 in
theorem small_ok (G : List (List Int)) (v : Value) (w : World) (h : GridI w v G) (hv : ∀ r ∈ G, ∀ x ∈ r, -1125899906842624 ≤ x ∧ x ≤ 1125899906842624) : Calls Tryz.prog 58 #[v] w fun e w' => e = .returned (.bool true) ∧ ∃ n : ExtOf w, w' = n.val := by
  obtain ⟨p, c, rfl, a1, a2, a3⟩ := h.form
  have H := Lib.hid h
  have HV := Lib.hid hv
  clear h hv
  unfold maxLen at a2
  go_enter Tryz.func58, Tryz.ntmps58
  go_wp2_with fail
  go_loopw [9] (fun v wr => ∃ k : Nat, k ≤ G.length ∧ v = .int .i64 k ∧ Ext w wr) (fun v _ => G.length - (intOf v).toNat)
  case atStart => exact ⟨0, by omega, rfl, Ext.refl _⟩
  case round =>
    obtain ⟨k, hk, rfl, hx⟩ := hrel
    have HX := Lib.hid hx
    clear hx
    by_cases hlt : k < G.length
    · obtain ⟨b, o, rp, rc, rfl, ob, c0, hr⟩ := GridI.row (GridI.ext H.out HX.out) hlt
      obtain ⟨R, hR⟩ : ∃ R, R = G[k] := ⟨_, rfl⟩
      have hvr := HV.out G[k] (List.getElem_mem hlt)
      rw [← hR] at c0 hr hvr
      have HR := Lib.hid hr
      have HVR := Lib.hid hvr
      obtain ⟨_, _, e9, b1, b2, _⟩ := SliceOf.form hr
      simp only [Value.slice.injEq] at e9
      obtain ⟨rfl, _, rfl⟩ := e9
      unfold maxLen at b2
      clear hR hr hvr
      go_wp2_with fail
      rename World => W1
      go_loopw [15] (fun v wz => ∃ j : Nat, j ≤ R.length ∧ v = .int .i64 j ∧ Ext W1 wz) (fun v _ => R.length - (intOf v).toNat)
      case atStart => exact ⟨0, by omega, rfl, Ext.refl _⟩
      case round =>
        obtain ⟨j, hj, rfl, hx⟩ := hrel
        have HX2 := Lib.hid hx
        clear hx
        by_cases hlt2 : j < R.length
        · obtain ⟨b2, o2, rfl, ob2, c1⟩ := SliceOf.elem1 (SliceOf.ext HR.out HX2.out) hlt2 rfl
          obtain ⟨x, hx⟩ : ∃ x, x = R[j] := ⟨_, rfl⟩
          have hb := HVR.out R[j] (List.getElem_mem hlt2)
          rw [← hx] at c1 hb
          clear hx
          have q1 : decide (x < -1125899906842624) = false := decide_eq_false (by omega)
          have q2 : decide (1125899906842624 < x) = false := decide_eq_false (by omega)
          go_wp2_with fail
          go_roundw
          case rel => exact ⟨j + 1, by omega, by first | rfl | go_num, HX2.out⟩
          case measure => simp [intOf]; omega
        · go_wp2_with fail
          go_roundw
          case rel => exact ⟨k + 1, by omega, by first | rfl | go_num, HX.out.trans HX2.out⟩
          case measure => simp [intOf]; omega
    · go_wp2_with fail
      go_ret
      exact ⟨rfl, by exact ExtOf.of (by repeat' (first | (with_reducible exact Ext.refl _) | (with_reducible exact ExtOf.ext _) | (with_reducible refine Ext.trans ?_ (ExtOf.ext _)) | (with_reducible refine Ext.alloc ?_ _) | (with_reducible refine Ext.drew ?_) | (with_reducible refine Ext.setCell ?_ ?_ _) | (with_reducible refine Ext.setRow ?_ ?_ _) | (with_reducible exact HX.out) | (with_reducible refine Ext.trans ?_ HX.out) | (with_reducible refine Ext.below ?_ (Nat.le_refl _) _) | omega | (simp; done) | (simp; omega)))⟩
set_option maxHeartbeats 400000 in
theorem places_any (n : Nat) (k p : Int) (vs vg vc vd : Value) (s : Nat) (w : World) (hn : n ≤ 2000) (hs : s ≤ 2000) : Calls Tryz.prog 57 #[.agg #[.int .i64 (n : Int), .int .i64 k, .int .i64 p, vs, vg, vc, vd], .int .i64 (s : Int)] w fun e w' => e = .returned (.int .i64 ((n + 1 - s : Nat) : Int)) ∧ ∃ n : ExtOf w, w' = n.val := by
  go_enter Tryz.func57, Tryz.ntmps57
  go_wp2_with fail
  all_goals
    go_ret
    exact ⟨ret_int (by omega), by exact ExtOf.of (by repeat' (first | (with_reducible exact Ext.refl _) | (with_reducible exact ExtOf.ext _) | (with_reducible refine Ext.trans ?_ (ExtOf.ext _)) | (with_reducible refine Ext.alloc ?_ _) | (with_reducible refine Ext.drew ?_) | (with_reducible refine Ext.setCell ?_ ?_ _) | (with_reducible refine Ext.setRow ?_ ?_ _) | (with_reducible exact HX.out) | (with_reducible refine Ext.trans ?_ HX.out) | (with_reducible refine Ext.below ?_ (Nat.le_refl _) _) | omega | (simp; done) | (simp; omega)))⟩
theorem grid2 {w : World} {g : Nat} {vc vd : Value} {C D : List Int} (hb : Block w g #[vc, vd]) (h1 : IntS w vc C) (h2 : IntS w vd D) : GridI w (.slice (some ⟨g, 0, none⟩) 2 2) [C, D] := by
  obtain ⟨p1, c1, e1, _⟩ := SliceOf.form h1
  obtain ⟨p2, c2, e2, _⟩ := SliceOf.form h2
  refine ⟨[(p1, C.length, c1), (p2, D.length, c2)], ⟨some ⟨g, 0, none⟩, 2, rfl, by simp, by unfold maxLen; omega, (fun h => by cases h), fun i x hi => ⟨g, 0, rfl, fun j u hj => ?_⟩⟩, rfl, fun i r l hr hl => ?_⟩
  · have hj0 : j = 0 := by
      have := (List.getElem?_eq_some_iff.1 hj).1
      simp [encR] at this
      exact this
    subst hj0
    match i, hi with
    | 0, hi =>
      obtain rfl := (by simpa using hi : (p1, C.length, c1) = x)
      obtain rfl : rowV (p1, C.length, c1) = u := by simpa [encR] using hj
      rw [Block.cell (h := hb)]; simp [rowV, e1]
    | 1, hi =>
      obtain rfl := (by simpa using hi : (p2, D.length, c2) = x)
      obtain rfl : rowV (p2, D.length, c2) = u := by simpa [encR] using hj
      rw [Block.cell (h := hb)]; simp [rowV, e2]
    | n + 2, hi => simp at hi
  · match i, hr, hl with
    | 0, hr, hl =>
      obtain rfl := (by simpa using hr : (p1, C.length, c1) = r)
      obtain rfl := (by simpa using hl : C = l)
      rw [e1] at h1; exact h1
    | 1, hr, hl =>
      obtain rfl := (by simpa using hr : (p2, D.length, c2) = r)
      obtain rfl := (by simpa using hl : D = l)
      rw [e2] at h2; exact h2
    | n + 2, hr, hl => simp at hr
set_option maxHeartbeats 800000 in
theorem measures_ok (L : Ln) (hL : L.Fine) (cs : Array Value) (w : World) (h : LineS w L cs) : Calls Tryz.prog 56 #[.agg cs] w fun e w' => e = .returned (.int .i64 0) ∧ ∃ n : ExtOf w, w' = n.val := by
  obtain ⟨vs, vg, vc, vd, rfl, h1, h2, h3, h4⟩ := h
  obtain ⟨p, c, rfl, a1, a2, a3⟩ := SliceOf.form h1
  have H := Lib.hid h1
  have HF := Lib.hid hL
  have hn := hL.n
  have hk := hL.k
  have hs := hL.sizes
  clear h1 h2 h3 h4 hL
  rw [List.length_map]
  have q1 : decide ((L.n : Int) < 0) = false := decide_eq_false (by omega)
  have q2 : decide ((2000 : Int) < (L.n : Int)) = false := decide_eq_false (by omega)
  have q3 : decide ((L.k : Int) < 0) = false := decide_eq_false (by omega)
  have q4 : decide ((20 : Int) < (L.k : Int)) = false := decide_eq_false (by omega)
  go_enter Tryz.func56, Tryz.ntmps56
  go_wp2_with fail
  go_loopw [40] (fun v wr => ∃ k : Nat, k ≤ L.sizes.length ∧ v = .int .i64 k ∧ Ext w wr) (fun v _ => L.sizes.length - (intOf v).toNat)
  case atStart => exact ⟨0, by omega, rfl, by repeat' (first | (with_reducible exact Ext.refl _) | (with_reducible exact ExtOf.ext _) | (with_reducible refine Ext.trans ?_ (ExtOf.ext _)) | (with_reducible refine Ext.alloc ?_ _) | (with_reducible refine Ext.drew ?_) | (with_reducible refine Ext.setCell ?_ ?_ _) | (with_reducible refine Ext.setRow ?_ ?_ _) | (with_reducible exact HX.out) | (with_reducible refine Ext.trans ?_ HX.out) | (with_reducible refine Ext.below ?_ (Nat.le_refl _) _) | omega | (simp; done) | (simp; omega))⟩
  case round =>
    obtain ⟨k, hk, rfl, hx⟩ := hrel
    have HX := Lib.hid hx
    clear hx
    by_cases hlt : k < L.sizes.length
    · obtain ⟨b, o, rfl, ob, c0⟩ := SliceOf.elem1 (SliceOf.ext H.out HX.out) (i := k) (by rw [List.length_map]; exact hlt) rfl
      have hb := HF.out.size L.sizes[k] (List.getElem_mem hlt)
      rw [List.getElem_map] at c0
      obtain ⟨x, hx⟩ : ∃ x, x = L.sizes[k] := ⟨_, rfl⟩
      rw [← hx] at c0 hb
      clear hx
      have r1 : decide ((x : Int) < 1) = false := decide_eq_false (by omega)
      have r2 : decide ((2000 : Int) < (x : Int)) = false := decide_eq_false (by omega)
      go_wp2_with fail
      go_roundw
      case rel => exact ⟨k + 1, by omega, by first | rfl | go_num, HX.out⟩
      case measure => simp [intOf]; omega
    · go_wp2_with fail
      go_ret
      exact ⟨rfl, by exact ExtOf.of (by repeat' (first | (with_reducible exact Ext.refl _) | (with_reducible exact ExtOf.ext _) | (with_reducible refine Ext.trans ?_ (ExtOf.ext _)) | (with_reducible refine Ext.alloc ?_ _) | (with_reducible refine Ext.drew ?_) | (with_reducible refine Ext.setCell ?_ ?_ _) | (with_reducible refine Ext.setRow ?_ ?_ _) | (with_reducible exact HX.out) | (with_reducible refine Ext.trans ?_ HX.out) | (with_reducible refine Ext.below ?_ (Nat.le_refl _) _) | omega | (simp; done) | (simp; omega)))⟩
end Go.Proofs.YtdalbfanfbeckaaGreatDoor
end
/-
  Chapter 26: both checks of a line that is fine.
-/
section
set_option linter.unusedVariables false
set_option linter.unusedSimpArgs false
namespace Go.Proofs.YtdalbfanfbeckaaGreatDoor
open Go.RowKit TrimM

attribute [local go_sem] ExtOf.cell ExtOf.frozen ExtS.cell ExtS.frozen Block.cell Block.frozen ExtB.cell ExtB.frozen alloc_cell alloc_frozen
/-- a list of numbers, its length said otherwise -/
theorem int_form {w : World} {v : Value} {l : List Int} {n : Nat} (h : IntS w v l) (hn : l.length = n) : ∃ p cap, v = .slice p n cap ∧ n ≤ cap ∧ cap ≤ maxLen ∧ (p = none → cap = 0) := by
  subst hn; exact SliceOf.form h
theorem grid_form {w : World} {v : Value} {G : List (List Int)} {n : Nat} (h : GridI w v G) (hn : G.length = n) : ∃ p cap, v = .slice p n cap ∧ n ≤ cap ∧ cap ≤ maxLen ∧ (p = none → cap = 0) := by
  subst hn; exact h.form
theorem int_elem {w : World} {p : Option Addr} {n cap : Nat} {l : List Int} (h : IntS w (.slice p n cap) l) {i : Nat} (hi : i < l.length) {x : Int} (hx : l[i] = x) : ∃ b off, p = some ⟨b, off, none⟩ ∧ Old b w ∧ w.cell? ⟨b, off + i, none⟩ = some (.int .i64 x) := SliceOf.elem1 h hi (by rw [hx]; rfl)
set_option maxHeartbeats 1600000 in
set_option maxRecDepth 20000 in
theorem cCheck_ok (L : Ln) (hL : L.Fine) (cs : Array Value) (w : World) (h : LineS w L cs) : Calls Tryz.prog 31 #[.agg cs] w fun e w' => e = .returned (.int .i64 0) ∧ ∃ n : ExtOf w, w' = n.val := by
  have HME := Lib.hid (fun W (hx : Ext w W) => measures_ok L hL cs W (h.ext hx))
  obtain ⟨vs, vg, vc, vd, rfl, h1, h2, h3, h4⟩ := h
  obtain ⟨N, hN⟩ : ∃ N, N = L.sizes.length := ⟨_, rfl⟩
  obtain ⟨ps, cs, rfl, a1, a2, a3⟩ := int_form h1 (n := N) (by rw [List.length_map, hN])
  obtain ⟨pg, cg, rfl, b1, b2, b3⟩ := grid_form h2 (n := N) (by rw [hL.rows, hN])
  obtain ⟨pc, cc, rfl, d1, d2, d3⟩ := int_form h3 (n := L.n) (by rw [List.length_replicate])
  obtain ⟨pd, cd, rfl, e1, e2, e3⟩ := int_form h4 (n := L.n) (by rw [List.length_replicate])
  have HS := Lib.hid h1
  have HG := Lib.hid h2
  have HC := Lib.hid h3
  have HD := Lib.hid h4
  have HF := Lib.hid hL
  have HN := Lib.hid hN
  have hn := hL.n
  have hk := hL.k
  have hs8 : N ≤ 8 := by rw [hN]; exact hL.sizes
  clear h1 h2 h3 h4 hL hN
  unfold maxLen at a2 b2 d2 e2
  have HSG : Hid (∀ W, Ext w W → Calls Tryz.prog 58 #[.slice pg N cg] W fun e w' => e = .returned (.bool true) ∧ ∃ n : ExtOf W, w' = n.val) := Lib.hid (fun W hx => small_ok L.rows _ W (GridI.ext HG.out hx) (fun r hr x hx => by have := HF.out.vals r hr x hx; omega))
  go_enter Tryz.func31, Tryz.ntmps31
  go_wp2_with (first | ((with_reducible apply wl_load' lwLine); (· (first | exact wanted_none rfl | exact wanted_some rfl rfl rfl)); (· rfl); (· infer_instance); (· rfl)) | (go_at_call 56; with_reducible refine Calls.mono (HME.out _ (by repeat' (first | (with_reducible exact Ext.refl _) | (with_reducible exact ExtOf.ext _) | (with_reducible refine Ext.trans ?_ (ExtOf.ext _)) | (with_reducible refine Ext.alloc ?_ _) | (with_reducible refine Ext.drew ?_) | (with_reducible refine Ext.setCell ?_ ?_ _) | (with_reducible refine Ext.setRow ?_ ?_ _) | (with_reducible exact HX.out) | (with_reducible refine Ext.trans ?_ HX.out) | (with_reducible refine Ext.below ?_ (Nat.le_refl _) _) | omega | (simp; done) | (simp; omega)))) ?_; rintro e w' ⟨rfl, nm, rfl⟩))
  go_loopw [37] (fun v wr => ∃ k : Nat, k ≤ N ∧ v = .int .i64 k ∧ Block wr w.heap.size #[.int .i64 (L.n : Int), .int .i64 (L.k : Int), .int .i64 1, .slice ps N cs, .slice pg N cg, .slice pc L.n cc, .slice pd L.n cd] ∧ Ext w wr) (fun v _ => N - (intOf v).toNat)
  case atStart => exact ⟨0, by omega, rfl, inferInstance, by repeat' (first | (with_reducible exact Ext.refl _) | (with_reducible exact ExtOf.ext _) | (with_reducible refine Ext.trans ?_ (ExtOf.ext _)) | (with_reducible refine Ext.alloc ?_ _) | (with_reducible refine Ext.drew ?_) | (with_reducible refine Ext.setCell ?_ ?_ _) | (with_reducible refine Ext.setRow ?_ ?_ _) | (with_reducible exact HX.out) | (with_reducible refine Ext.trans ?_ HX.out) | (with_reducible refine Ext.below ?_ (Nat.le_refl _) _) | omega | (simp; done) | (simp; omega))⟩
  case round =>
    obtain ⟨k, hk, rfl, hB, hx⟩ := hrel
    have HX := Lib.hid hx
    have ob := hB.old
    clear hx
    by_cases hlt : k < N
    · obtain ⟨bg, og, rp, rc, hbg, obg, c0, hr⟩ := GridI.row (GridI.ext HG.out HX.out) (i := k) (by rw [HF.out.rows, ← HN.out]; exact hlt)
      subst hbg
      have hls : k < (L.sizes.map fun s : Nat => (s : Int)).length := by rw [List.length_map, ← HN.out]; exact hlt
      obtain ⟨sz, hsz⟩ : ∃ s, s = L.sizes[k]'(by rw [← HN.out]; exact hlt) := ⟨_, rfl⟩
      obtain ⟨bs, os, hbs, obs, c1⟩ := int_elem (SliceOf.ext HS.out HX.out) hls (x := (sz : Int)) (by rw [List.getElem_map, hsz])
      subst hbs
      have hszb := HF.out.size sz (by rw [hsz]; exact List.getElem_mem _)
      obtain ⟨m, hm⟩ : ∃ m, m = L.n + 1 - sz := ⟨_, rfl⟩
      have hrl : (L.rows[k]'(by rw [HF.out.rows, ← HN.out]; exact hlt)).length = m := by
        obtain ⟨r, hr1, hr2⟩ := HF.out.row k (by rw [← HN.out]; exact hlt)
        have e : L.size k = sz := by unfold Ln.size; rw [List.getElem?_eq_getElem (by rw [← HN.out]; exact hlt), ← hsz]; rfl
        have h3 := (List.getElem?_eq_some_iff.1 hr1).2
        rw [h3, hr2, e, hm]
      rw [hrl] at c0
      clear hr hrl hsz hls
      have HPL : Hid (∀ W, Calls Tryz.prog 57 #[.agg #[.int .i64 (L.n : Int), .int .i64 (L.k : Int), .int .i64 1, .slice (some ⟨bs, os, none⟩) N cs, .slice (some ⟨bg, og, none⟩) N cg, .slice pc L.n cc, .slice pd L.n cd], .int .i64 (sz : Int)] W fun e w' => e = .returned (.int .i64 (m : Int)) ∧ ∃ n : ExtOf W, w' = n.val) := Lib.hid (fun W => by rw [hm]; exact places_any L.n L.k 1 _ _ _ _ sz W (by omega) (by omega))
      clear hm
      go_wp2_with fail
      refine wp_region_ext (by kernel_rfl) (by kernel_rfl) ?_
      repeat (first | go_big_quiet_skip | ((with_reducible apply q_load' lwLine); (· (first | exact wanted_none rfl | exact wanted_some rfl rfl rfl)); (· rfl); (· infer_instance); (· rfl); simp only [Act.put, List.setIfInBounds_toArray, List.set_cons_succ, List.set_cons_zero]) | go_big_quiet_step ((go_at_call 57; exact ext_call (HPL.out _))))
      refine wpQuiet_nil ?_
      intro _ hw'
      obtain ⟨nq, hw''⟩ := hw'
      subst hw''
      go_wp2_with fail
      go_roundw
      case rel => exact ⟨k + 1, by omega, by first | rfl | go_num, inferInstance, by repeat' (first | (with_reducible exact Ext.refl _) | (with_reducible exact ExtOf.ext _) | (with_reducible refine Ext.trans ?_ (ExtOf.ext _)) | (with_reducible refine Ext.alloc ?_ _) | (with_reducible refine Ext.drew ?_) | (with_reducible refine Ext.setCell ?_ ?_ _) | (with_reducible refine Ext.setRow ?_ ?_ _) | (with_reducible exact HX.out) | (with_reducible refine Ext.trans ?_ HX.out) | (with_reducible refine Ext.below ?_ (Nat.le_refl _) _) | omega | (simp; done) | (simp; omega))⟩
      case measure => simp [intOf]; omega
    · have HZ2 : Hid (∀ r ∈ [List.replicate L.n (0 : Int), List.replicate L.n 0], ∀ x ∈ r, -1125899906842624 ≤ x ∧ x ≤ 1125899906842624) := Lib.hid (by intro r hr x hx; simp at hr; subst hr; have := List.eq_of_mem_replicate hx; omega)
      go_wp2_with (go_at_call 58; (first | (with_reducible refine Calls.mono (HSG.out _ (by repeat' (first | (with_reducible exact Ext.refl _) | (with_reducible exact ExtOf.ext _) | (with_reducible refine Ext.trans ?_ (ExtOf.ext _)) | (with_reducible refine Ext.alloc ?_ _) | (with_reducible refine Ext.drew ?_) | (with_reducible refine Ext.setCell ?_ ?_ _) | (with_reducible refine Ext.setRow ?_ ?_ _) | (with_reducible exact HX.out) | (with_reducible refine Ext.trans ?_ HX.out) | (with_reducible refine Ext.below ?_ (Nat.le_refl _) _) | omega | (simp; done) | (simp; omega)))) ?_) | (refine Calls.mono (small_ok [List.replicate L.n 0, List.replicate L.n 0] _ _ (grid2 (vc := .slice pc L.n cc) (vd := .slice pd L.n cd) inferInstance (SliceOf.ext HC.out (by repeat' (first | (with_reducible exact Ext.refl _) | (with_reducible exact ExtOf.ext _) | (with_reducible refine Ext.trans ?_ (ExtOf.ext _)) | (with_reducible refine Ext.alloc ?_ _) | (with_reducible refine Ext.drew ?_) | (with_reducible refine Ext.setCell ?_ ?_ _) | (with_reducible refine Ext.setRow ?_ ?_ _) | (with_reducible exact HX.out) | (with_reducible refine Ext.trans ?_ HX.out) | (with_reducible refine Ext.below ?_ (Nat.le_refl _) _) | omega | (simp; done) | (simp; omega)))) (SliceOf.ext HD.out (by repeat' (first | (with_reducible exact Ext.refl _) | (with_reducible exact ExtOf.ext _) | (with_reducible refine Ext.trans ?_ (ExtOf.ext _)) | (with_reducible refine Ext.alloc ?_ _) | (with_reducible refine Ext.drew ?_) | (with_reducible refine Ext.setCell ?_ ?_ _) | (with_reducible refine Ext.setRow ?_ ?_ _) | (with_reducible exact HX.out) | (with_reducible refine Ext.trans ?_ HX.out) | (with_reducible refine Ext.below ?_ (Nat.le_refl _) _) | omega | (simp; done) | (simp; omega))))) HZ2.out) ?_)); (rintro e w' ⟨rfl, ns, rfl⟩))
      go_ret
      exact ⟨rfl, by exact ExtOf.of (by repeat' (first | (with_reducible exact Ext.refl _) | (with_reducible exact ExtOf.ext _) | (with_reducible refine Ext.trans ?_ (ExtOf.ext _)) | (with_reducible refine Ext.alloc ?_ _) | (with_reducible refine Ext.drew ?_) | (with_reducible refine Ext.setCell ?_ ?_ _) | (with_reducible refine Ext.setRow ?_ ?_ _) | (with_reducible exact HX.out) | (with_reducible refine Ext.trans ?_ HX.out) | (with_reducible refine Ext.below ?_ (Nat.le_refl _) _) | omega | (simp; done) | (simp; omega)))⟩
end Go.Proofs.YtdalbfanfbeckaaGreatDoor
end
