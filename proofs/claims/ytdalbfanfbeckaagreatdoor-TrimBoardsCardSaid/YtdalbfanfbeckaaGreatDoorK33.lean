/-
  Chapter 26: several texts in one (R32, R33).
-/
import Derived.Test.YtdalbfanfbeckaaGreatDoorK27
/-
  Chapter 26: may a piece be cut next.
-/
section
set_option linter.unusedVariables false
set_option linter.unusedSimpArgs false
namespace Go.Proofs.YtdalbfanfbeckaaGreatDoor
open Go.RowKit TrimM

attribute [local go_sem] ExtOf.cell ExtOf.frozen ExtS.cell ExtS.frozen Block.cell Block.frozen ExtB.cell ExtB.frozen alloc_cell alloc_frozen
set_option maxHeartbeats 1600000 in
set_option maxRecDepth 20000 in
theorem permitted_any (L : Ln) (hL : L.Fine) (cs : Array Value) (ed i at_ : Int) (w : World) (he : -1 ≤ ed ∧ ed ≤ (L.n : Int)) (h : LineS w L cs) : Calls Tryz.prog 32 #[.agg cs, .int .i64 ed, .agg #[.int .i64 i, .int .i64 at_]] w fun e w' => e = .returned (.int .i64 (L.pieceE ed (i, at_))) ∧ ∃ n : ExtOf w, w' = n.val := by
  obtain ⟨vs, vg, vc, vd, rfl, h1, h2, h3, h4⟩ := h
  obtain ⟨N, hN⟩ : ∃ N, N = L.sizes.length := ⟨_, rfl⟩
  obtain ⟨ps, cs, rfl, a1, a2, a3⟩ := int_form h1 (n := N) (by rw [List.length_map, hN])
  obtain ⟨pg, cg, rfl, b1, b2, b3⟩ := grid_form h2 (n := N) (by rw [hL.rows, hN])
  obtain ⟨pc, cc, rfl, d1, d2, d3⟩ := int_form h3 (n := L.n) (by rw [List.length_replicate])
  obtain ⟨pd, cd, rfl, e1, e2, e3⟩ := int_form h4 (n := L.n) (by rw [List.length_replicate])
  have HS := Lib.hid h1
  have HG := Lib.hid h2
  have HC := Lib.hid h3
  have HD := Lib.hid h4
  have HF := Lib.hid hL
  have HN := Lib.hid hN
  have hn := hL.n
  have hk := hL.k
  have hs8 : N ≤ 8 := by rw [hN]; exact hL.sizes
  clear h1 h2 h3 h4 hL hN
  unfold maxLen at a2 b2 d2 e2
  have hkL : L.k ≤ 20 := HF.out.k
  have hNl : (N : Int) = (L.sizes.length : Int) := by rw [HN.out]
  by_cases i1 : i < 0
  · have HE : Hid (L.pieceE ed (i, at_) = 9) := Lib.hid (if_pos (Or.inl i1))
    have i1' : decide (i < 0) = true := decide_eq_true i1
    clear hNl
    go_enter Tryz.func32, Tryz.ntmps32
    go_wp2_with fail
    go_ret; exact ⟨ret_int HE.out.symm, by exact ExtOf.of (by repeat' (first | (with_reducible exact Ext.refl _) | (with_reducible exact ExtOf.ext _) | (with_reducible refine Ext.trans ?_ (ExtOf.ext _)) | (with_reducible refine Ext.alloc ?_ _) | (with_reducible refine Ext.drew ?_) | (with_reducible refine Ext.setCell ?_ ?_ _) | (with_reducible refine Ext.setRow ?_ ?_ _) | (with_reducible exact HX.out) | (with_reducible refine Ext.trans ?_ HX.out) | (with_reducible refine Ext.below ?_ (Nat.le_refl _) _) | omega | (simp; done) | (simp; omega)))⟩
  have i1' : decide (i < 0) = false := decide_eq_false i1
  by_cases i2 : (N : Int) ≤ i
  · have HE : Hid (L.pieceE ed (i, at_) = 9) := Lib.hid (if_pos (Or.inr (by show _ ≤ i; omega)))
    have i2' : decide ((N : Int) ≤ i) = true := decide_eq_true i2
    clear hNl
    go_enter Tryz.func32, Tryz.ntmps32
    go_wp2_with fail
    go_ret; exact ⟨ret_int HE.out.symm, by exact ExtOf.of (by repeat' (first | (with_reducible exact Ext.refl _) | (with_reducible exact ExtOf.ext _) | (with_reducible refine Ext.trans ?_ (ExtOf.ext _)) | (with_reducible refine Ext.alloc ?_ _) | (with_reducible refine Ext.drew ?_) | (with_reducible refine Ext.setCell ?_ ?_ _) | (with_reducible refine Ext.setRow ?_ ?_ _) | (with_reducible exact HX.out) | (with_reducible refine Ext.trans ?_ HX.out) | (with_reducible refine Ext.below ?_ (Nat.le_refl _) _) | omega | (simp; done) | (simp; omega)))⟩
  obtain ⟨k, rfl⟩ : ∃ k : Nat, i = (k : Int) := ⟨i.toNat, by omega⟩
  have hlt : k < N := by omega
  have i2' : decide (N ≤ k) = false := decide_eq_false (by omega)
  have i2'' : decide ((N : Int) ≤ (k : Int)) = false := decide_eq_false (by omega)
  have HA : Hid (L.pieceE ed ((k : Int), at_) = if at_ < 0 ∨ (L.n : Int) - L.size k < at_ then 20 else if ed < 0 ∨ at_ ≠ ed ∧ at_ - L.k - ed < 1 then 11 else if L.gain k at_.toNat < 0 then 14 else 0) := Lib.hid (by
    unfold Ln.pieceE
    simp only [Int.toNat_natCast]
    rw [if_neg (by omega)])
  clear hNl i1
  obtain ⟨bg, og, rp, rc, hbg, obg, c0, hr⟩ := GridI.row HG.out (i := k) (by rw [HF.out.rows, ← HN.out]; exact hlt)
  subst hbg
  have hls : k < (L.sizes.map fun s : Nat => (s : Int)).length := by rw [List.length_map, ← HN.out]; exact hlt
  obtain ⟨sz, hsz⟩ : ∃ s, s = L.sizes[k]'(by rw [← HN.out]; exact hlt) := ⟨_, rfl⟩
  obtain ⟨bs, os, hbs, obs, c1⟩ := int_elem HS.out hls (x := (sz : Int)) (by rw [List.getElem_map, hsz])
  subst hbs
  have hszb := HF.out.size sz (by rw [hsz]; exact List.getElem_mem _)
  have HSZ : Hid (L.size k = sz) := Lib.hid (by unfold Ln.size; rw [List.getElem?_eq_getElem (by rw [← HN.out]; exact hlt), ← hsz]; rfl)
  obtain ⟨m, hm⟩ : ∃ m, m = L.n + 1 - sz := ⟨_, rfl⟩
  have hrl : (L.rows[k]'(by rw [HF.out.rows, ← HN.out]; exact hlt)).length = m := by
    obtain ⟨r, hr1, hr2⟩ := HF.out.row k (by rw [← HN.out]; exact hlt)
    have h3 := (List.getElem?_eq_some_iff.1 hr1).2
    rw [h3, hr2, HSZ.out, hm]
  rw [hrl] at c0 hr
  have HRL := Lib.hid hrl
  have HR := Lib.hid hr
  have hmr : m ≤ 2001 := by omega
  have HM := Lib.hid hm
  clear hr hrl hsz hls hm
  by_cases a1 : at_ < 0
  · have HE : Hid (L.pieceE ed ((k : Int), at_) = 20) := Lib.hid (by rw [HA.out, if_pos (Or.inl a1)])
    have a1' : decide (at_ < 0) = true := decide_eq_true a1
    go_enter Tryz.func32, Tryz.ntmps32
    go_wp2_with fail
    refine wp_region_ext (by kernel_rfl) (by kernel_rfl) ?_
    repeat (first | go_big_quiet_skip | go_big_quiet_step (fail))
    refine wpQuiet_nil ?_
    intro _ hw'
    obtain ⟨nq, hw''⟩ := hw'
    subst hw''
    go_wp2_with fail
    go_ret; exact ⟨ret_int HE.out.symm, by exact ExtOf.of (by repeat' (first | (with_reducible exact Ext.refl _) | (with_reducible exact ExtOf.ext _) | (with_reducible refine Ext.trans ?_ (ExtOf.ext _)) | (with_reducible refine Ext.alloc ?_ _) | (with_reducible refine Ext.drew ?_) | (with_reducible refine Ext.setCell ?_ ?_ _) | (with_reducible refine Ext.setRow ?_ ?_ _) | (with_reducible exact HX.out) | (with_reducible refine Ext.trans ?_ HX.out) | (with_reducible refine Ext.below ?_ (Nat.le_refl _) _) | omega | (simp; done) | (simp; omega)))⟩
  have a1' : decide (at_ < 0) = false := decide_eq_false a1
  by_cases a2 : (L.n : Int) - (sz : Int) < at_
  · have HE : Hid (L.pieceE ed ((k : Int), at_) = 20) := Lib.hid (by rw [HA.out, if_pos (Or.inr (by rw [HSZ.out]; exact a2))])
    have a2' : decide ((L.n : Int) - (sz : Int) < at_) = true := decide_eq_true a2
    go_enter Tryz.func32, Tryz.ntmps32
    go_wp2_with fail
    refine wp_region_ext (by kernel_rfl) (by kernel_rfl) ?_
    repeat (first | go_big_quiet_skip | go_big_quiet_step (fail))
    refine wpQuiet_nil ?_
    intro _ hw'
    obtain ⟨nq, hw''⟩ := hw'
    subst hw''
    go_wp2_with fail
    go_ret; exact ⟨ret_int HE.out.symm, by exact ExtOf.of (by repeat' (first | (with_reducible exact Ext.refl _) | (with_reducible exact ExtOf.ext _) | (with_reducible refine Ext.trans ?_ (ExtOf.ext _)) | (with_reducible refine Ext.alloc ?_ _) | (with_reducible refine Ext.drew ?_) | (with_reducible refine Ext.setCell ?_ ?_ _) | (with_reducible refine Ext.setRow ?_ ?_ _) | (with_reducible exact HX.out) | (with_reducible refine Ext.trans ?_ HX.out) | (with_reducible refine Ext.below ?_ (Nat.le_refl _) _) | omega | (simp; done) | (simp; omega)))⟩
  obtain ⟨p, rfl⟩ : ∃ p : Nat, at_ = (p : Int) := ⟨at_.toNat, by omega⟩
  have a2' : decide ((L.n : Int) - (sz : Int) < (p : Int)) = false := decide_eq_false a2
  have HB : Hid (L.pieceE ed ((k : Int), (p : Int)) = if ed < 0 ∨ (p : Int) ≠ ed ∧ (p : Int) - L.k - ed < 1 then 11 else if L.gain k p < 0 then 14 else 0) := Lib.hid (by rw [HA.out, if_neg (by rw [HSZ.out]; omega), Int.toNat_natCast])
  by_cases e1 : ed < 0
  · have HE : Hid (L.pieceE ed ((k : Int), (p : Int)) = 11) := Lib.hid (by rw [HB.out, if_pos (Or.inl e1)])
    have e1' : decide (ed < 0) = true := decide_eq_true e1
    go_enter Tryz.func32, Tryz.ntmps32
    go_wp2_with fail
    refine wp_region_ext (by kernel_rfl) (by kernel_rfl) ?_
    repeat (first | go_big_quiet_skip | go_big_quiet_step (fail))
    refine wpQuiet_nil ?_
    intro _ hw'
    obtain ⟨nq, hw''⟩ := hw'
    subst hw''
    go_wp2_with fail
    go_ret; exact ⟨ret_int HE.out.symm, by exact ExtOf.of (by repeat' (first | (with_reducible exact Ext.refl _) | (with_reducible exact ExtOf.ext _) | (with_reducible refine Ext.trans ?_ (ExtOf.ext _)) | (with_reducible refine Ext.alloc ?_ _) | (with_reducible refine Ext.drew ?_) | (with_reducible refine Ext.setCell ?_ ?_ _) | (with_reducible refine Ext.setRow ?_ ?_ _) | (with_reducible exact HX.out) | (with_reducible refine Ext.trans ?_ HX.out) | (with_reducible refine Ext.below ?_ (Nat.le_refl _) _) | omega | (simp; done) | (simp; omega)))⟩
  have e1' : decide (ed < 0) = false := decide_eq_false e1
  by_cases e2 : (p : Int) = ed
  · have e2' : ((p : Int) != ed) = false := by simp [e2]
    have hmp : p < m := by have := HM.out; omega
    obtain ⟨g, ⟨br, orr, hbr, obr, c2⟩, hgb, HGX⟩ : ∃ g : Int, (∃ b off, rp = some ⟨b, off, none⟩ ∧ Old b w ∧ w.cell? ⟨b, off + p, none⟩ = some (.int .i64 g)) ∧ (-1 ≤ g ∧ g ≤ 1000000) ∧ Hid (L.gain k p = g) := by
      have hpl : p < (L.rows[k]'(by rw [HF.out.rows, ← HN.out]; exact hlt)).length := by rw [HRL.out]; exact hmp
      refine ⟨(L.rows[k]'(by rw [HF.out.rows, ← HN.out]; exact hlt))[p], int_elem HR.out hpl rfl, HF.out.vals _ (List.getElem_mem _) _ (List.getElem_mem _), Lib.hid ?_⟩
      have e1 : L.rows[k]? = some (L.rows[k]'(by rw [HF.out.rows, ← HN.out]; exact hlt)) := List.getElem?_eq_getElem _
      unfold Ln.gain
      rw [e1]
      simp only [Option.getD_some]
      rw [List.getElem?_eq_getElem hpl]; rfl
    subst hbr
    have HC : Hid (L.pieceE ed ((k : Int), (p : Int)) = if g < 0 then 14 else 0) := Lib.hid (by rw [HB.out, if_neg (by omega), HGX.out])
    clear e2
    by_cases g1 : g < 0
    · have g1' : decide (g < 0) = true := decide_eq_true g1
      have HE : Hid (L.pieceE ed ((k : Int), (p : Int)) = 14) := Lib.hid (by rw [HC.out, if_pos g1])
      go_enter Tryz.func32, Tryz.ntmps32
      go_wp2_with fail
      refine wp_region_ext (by kernel_rfl) (by kernel_rfl) ?_
      repeat (first | go_big_quiet_skip | go_big_quiet_step (fail))
      refine wpQuiet_nil ?_
      intro _ hw'
      obtain ⟨nq, hw''⟩ := hw'
      subst hw''
      go_wp2_with fail
      refine wp_region_ext (by kernel_rfl) (by kernel_rfl) ?_
      repeat (first | go_big_quiet_skip | go_big_quiet_step (fail))
      refine wpQuiet_nil ?_
      intro _ hw'
      obtain ⟨nq, hw''⟩ := hw'
      subst hw''
      go_wp2_with fail
      go_ret; exact ⟨ret_int HE.out.symm, by exact ExtOf.of (by repeat' (first | (with_reducible exact Ext.refl _) | (with_reducible exact ExtOf.ext _) | (with_reducible refine Ext.trans ?_ (ExtOf.ext _)) | (with_reducible refine Ext.alloc ?_ _) | (with_reducible refine Ext.drew ?_) | (with_reducible refine Ext.setCell ?_ ?_ _) | (with_reducible refine Ext.setRow ?_ ?_ _) | (with_reducible exact HX.out) | (with_reducible refine Ext.trans ?_ HX.out) | (with_reducible refine Ext.below ?_ (Nat.le_refl _) _) | omega | (simp; done) | (simp; omega)))⟩
    · have g1' : decide (g < 0) = false := decide_eq_false g1
      have HE : Hid (L.pieceE ed ((k : Int), (p : Int)) = 0) := Lib.hid (by rw [HC.out, if_neg g1])
      go_enter Tryz.func32, Tryz.ntmps32
      go_wp2_with fail
      refine wp_region_ext (by kernel_rfl) (by kernel_rfl) ?_
      repeat (first | go_big_quiet_skip | go_big_quiet_step (fail))
      refine wpQuiet_nil ?_
      intro _ hw'
      obtain ⟨nq, hw''⟩ := hw'
      subst hw''
      go_wp2_with fail
      refine wp_region_ext (by kernel_rfl) (by kernel_rfl) ?_
      repeat (first | go_big_quiet_skip | go_big_quiet_step (fail))
      refine wpQuiet_nil ?_
      intro _ hw'
      obtain ⟨nq, hw''⟩ := hw'
      subst hw''
      go_wp2_with fail
      go_ret; exact ⟨ret_int HE.out.symm, by exact ExtOf.of (by repeat' (first | (with_reducible exact Ext.refl _) | (with_reducible exact ExtOf.ext _) | (with_reducible refine Ext.trans ?_ (ExtOf.ext _)) | (with_reducible refine Ext.alloc ?_ _) | (with_reducible refine Ext.drew ?_) | (with_reducible refine Ext.setCell ?_ ?_ _) | (with_reducible refine Ext.setRow ?_ ?_ _) | (with_reducible exact HX.out) | (with_reducible refine Ext.trans ?_ HX.out) | (with_reducible refine Ext.below ?_ (Nat.le_refl _) _) | omega | (simp; done) | (simp; omega)))⟩
  have e2' : ((p : Int) != ed) = true := bne_iff_ne.2 e2
  by_cases e3 : (p : Int) - (L.k : Int) - ed < 1
  · have HE : Hid (L.pieceE ed ((k : Int), (p : Int)) = 11) := Lib.hid (by rw [HB.out, if_pos (Or.inr ⟨e2, e3⟩)])
    have e3' : decide ((p : Int) - (L.k : Int) - ed < 1) = true := decide_eq_true e3
    clear e2
    go_enter Tryz.func32, Tryz.ntmps32
    go_wp2_with fail
    refine wp_region_ext (by kernel_rfl) (by kernel_rfl) ?_
    repeat (first | go_big_quiet_skip | go_big_quiet_step (fail))
    refine wpQuiet_nil ?_
    intro _ hw'
    obtain ⟨nq, hw''⟩ := hw'
    subst hw''
    go_wp2_with fail
    go_ret; exact ⟨ret_int HE.out.symm, by exact ExtOf.of (by repeat' (first | (with_reducible exact Ext.refl _) | (with_reducible exact ExtOf.ext _) | (with_reducible refine Ext.trans ?_ (ExtOf.ext _)) | (with_reducible refine Ext.alloc ?_ _) | (with_reducible refine Ext.drew ?_) | (with_reducible refine Ext.setCell ?_ ?_ _) | (with_reducible refine Ext.setRow ?_ ?_ _) | (with_reducible exact HX.out) | (with_reducible refine Ext.trans ?_ HX.out) | (with_reducible refine Ext.below ?_ (Nat.le_refl _) _) | omega | (simp; done) | (simp; omega)))⟩
  have e3' : decide ((p : Int) - (L.k : Int) - ed < 1) = false := decide_eq_false e3
  have hmp : p < m := by have := HM.out; omega
  obtain ⟨g, ⟨br, orr, hbr, obr, c2⟩, hgb, HGX⟩ : ∃ g : Int, (∃ b off, rp = some ⟨b, off, none⟩ ∧ Old b w ∧ w.cell? ⟨b, off + p, none⟩ = some (.int .i64 g)) ∧ (-1 ≤ g ∧ g ≤ 1000000) ∧ Hid (L.gain k p = g) := by
    have hpl : p < (L.rows[k]'(by rw [HF.out.rows, ← HN.out]; exact hlt)).length := by rw [HRL.out]; exact hmp
    refine ⟨(L.rows[k]'(by rw [HF.out.rows, ← HN.out]; exact hlt))[p], int_elem HR.out hpl rfl, HF.out.vals _ (List.getElem_mem _) _ (List.getElem_mem _), Lib.hid ?_⟩
    have e1 : L.rows[k]? = some (L.rows[k]'(by rw [HF.out.rows, ← HN.out]; exact hlt)) := List.getElem?_eq_getElem _
    unfold Ln.gain
    rw [e1]
    simp only [Option.getD_some]
    rw [List.getElem?_eq_getElem hpl]; rfl
  subst hbr
  have HC : Hid (L.pieceE ed ((k : Int), (p : Int)) = if g < 0 then 14 else 0) := Lib.hid (by rw [HB.out, if_neg (by omega), HGX.out])
  clear e2
  by_cases g1 : g < 0
  · have g1' : decide (g < 0) = true := decide_eq_true g1
    have HE : Hid (L.pieceE ed ((k : Int), (p : Int)) = 14) := Lib.hid (by rw [HC.out, if_pos g1])
    go_enter Tryz.func32, Tryz.ntmps32
    go_wp2_with fail
    refine wp_region_ext (by kernel_rfl) (by kernel_rfl) ?_
    repeat (first | go_big_quiet_skip | go_big_quiet_step (fail))
    refine wpQuiet_nil ?_
    intro _ hw'
    obtain ⟨nq, hw''⟩ := hw'
    subst hw''
    go_wp2_with fail
    refine wp_region_ext (by kernel_rfl) (by kernel_rfl) ?_
    repeat (first | go_big_quiet_skip | go_big_quiet_step (fail))
    refine wpQuiet_nil ?_
    intro _ hw'
    obtain ⟨nq, hw''⟩ := hw'
    subst hw''
    go_wp2_with fail
    go_ret; exact ⟨ret_int HE.out.symm, by exact ExtOf.of (by repeat' (first | (with_reducible exact Ext.refl _) | (with_reducible exact ExtOf.ext _) | (with_reducible refine Ext.trans ?_ (ExtOf.ext _)) | (with_reducible refine Ext.alloc ?_ _) | (with_reducible refine Ext.drew ?_) | (with_reducible refine Ext.setCell ?_ ?_ _) | (with_reducible refine Ext.setRow ?_ ?_ _) | (with_reducible exact HX.out) | (with_reducible refine Ext.trans ?_ HX.out) | (with_reducible refine Ext.below ?_ (Nat.le_refl _) _) | omega | (simp; done) | (simp; omega)))⟩
  · have g1' : decide (g < 0) = false := decide_eq_false g1
    have HE : Hid (L.pieceE ed ((k : Int), (p : Int)) = 0) := Lib.hid (by rw [HC.out, if_neg g1])
    go_enter Tryz.func32, Tryz.ntmps32
    go_wp2_with fail
    refine wp_region_ext (by kernel_rfl) (by kernel_rfl) ?_
    repeat (first | go_big_quiet_skip | go_big_quiet_step (fail))
    refine wpQuiet_nil ?_
    intro _ hw'
    obtain ⟨nq, hw''⟩ := hw'
    subst hw''
    go_wp2_with fail
    refine wp_region_ext (by kernel_rfl) (by kernel_rfl) ?_
    repeat (first | go_big_quiet_skip | go_big_quiet_step (fail))
    refine wpQuiet_nil ?_
    intro _ hw'
    obtain ⟨nq, hw''⟩ := hw'
    subst hw''
    go_wp2_with fail
    go_ret; exact ⟨ret_int HE.out.symm, by exact ExtOf.of (by repeat' (first | (with_reducible exact Ext.refl _) | (with_reducible exact ExtOf.ext _) | (with_reducible refine Ext.trans ?_ (ExtOf.ext _)) | (with_reducible refine Ext.alloc ?_ _) | (with_reducible refine Ext.drew ?_) | (with_reducible refine Ext.setCell ?_ ?_ _) | (with_reducible refine Ext.setRow ?_ ?_ _) | (with_reducible exact HX.out) | (with_reducible refine Ext.trans ?_ HX.out) | (with_reducible refine Ext.below ?_ (Nat.le_refl _) _) | omega | (simp; done) | (simp; omega)))⟩
end Go.Proofs.YtdalbfanfbeckaaGreatDoor
end
/-
  Chapter 26: one more span, unless it is empty (the program's and the reference's add).
-/
section
set_option linter.unusedVariables false
set_option linter.unusedSimpArgs false
namespace Go.Proofs.YtdalbfanfbeckaaGreatDoor
open Go.RowKit TrimM

attribute [local go_sem] ExtOf.cell ExtOf.frozen ExtS.cell ExtS.frozen Block.cell Block.frozen ExtB.cell ExtB.frozen alloc_cell alloc_frozen
theorem infoSpan : (Tryz.prog.info? 23).map (fun i => (i.zero, i.size, i.bytes)) = some (some (.agg #[.int .i64 0, .int .i64 0]), 2, 16) := by kernel_rfl
/-- what a call that appends to v leaves as it was -/
structure Kp (base : Nat) (w : World) (v : Value) (w' : World) (v' : Value) : Prop where
  bel : Below base w w'
  heap : ∀ q, q < w.heap.size → v.ownBlock ≠ some q → w'.heap[q]? = w.heap[q]?
  own : v'.ownBlock = v.ownBlock ∨ ∃ b, v'.ownBlock = some b ∧ w.heap.size ≤ b
section
variable {α : Type} {enc : α → List Value} {k : Nat} {base : Nat} {w w' : World} {v v' : Value}
theorem Kp.block (h : Kp base w v w' v') {b : Nat} {cs : Array Value} (hB : Block w b cs) (hne : v.ownBlock ≠ some b) : Block w' b cs := by
  obtain ⟨t, e⟩ := hB.get
  exact ⟨⟨t, by rw [h.heap b hB.lt hne]; exact e⟩⟩
theorem Kp.ne (h : Kp base w v w' v') {b : Nat} (hb : b < w.heap.size) (hne : v.ownBlock ≠ some b) : v'.ownBlock ≠ some b := by
  rcases h.own with h2 | ⟨c, h2, h3⟩ <;> rw [h2]
  · exact hne
  · intro e; injection e with e; omega
theorem Kp.other {u : Value} {E base2 : Nat} {l : List α} (h : Kp base w v w' v') (ho : Own enc k E base2 w u l) (hne : Apt v u) : Own enc k E base2 w' u l := by
  refine ⟨ho.1, ?_⟩
  rcases ho.2 with hn | ⟨g, cap, cur, rfl, hb, hgg, rest⟩
  · exact .inl hn
  · refine .inr ⟨g, cap, cur, rfl, hb, ?_, rest⟩
    rw [h.heap g (Array.getElem?_eq_some_iff.1 hgg).1 (fun e => hne g e rfl)]
    exact hgg
theorem Kp.apt {u : Value} {E base2 : Nat} {l : List α} (h : Kp base w v w' v') (ho : Own enc k E base2 w u l) (hne : Apt v u) : Apt v' u := by
  intro b hb
  rcases h.own with h2 | ⟨c, h2, h3⟩ <;> rw [h2] at hb
  · exact hne b hb
  · injection hb with hb
    subst hb
    exact Own.block_lt ho h3
end
def AddPost (base : Nat) (l : List Sp) (v : Value) (a b : Int) (w : World) (e : Ending) (w' : World) : Prop := ∃ v', e = .returned v' ∧ Own encSp 2 23 base w' v' (addS l a b) ∧ Kp base w v w' v'
set_option maxHeartbeats 1600000 in
theorem add_any (base : Nat) (l : List Sp) (v : Value) (a b : Int) (w : World) (ho : Own encSp 2 23 base w v l) (hb : base ≤ w.heap.size) (hl : l.length ≤ 1000000) : Calls Tryz.prog 33 #[v, .int .i64 a, .int .i64 b] w (AddPost base l v a b w) := by
  obtain ⟨q, c, rfl⟩ := Own.form2 ho
  have HO := Lib.hid ho
  clear ho
  obtain ⟨iP, hiP, hP0, hP1, hP2⟩ := info_parts infoSpan
  by_cases hab : a < b
  · have hab' : decide (b ≤ a) = false := decide_eq_false (by omega)
    have HA : Hid (addS l a b = l ++ [(a, b)]) := Lib.hid (if_pos hab)
    go_enter Tryz.func33, Tryz.ntmps33
    go_wp2_with (at_builtin; refine wl_append1g (enc := encSp) (k := 2) (E := 23) (base := base) (l := l) (y := (a, b)) Tryz.underlying61 hiP hP0 hP1 hP2 rfl (by decide) encSp_len encSp_one rfl rfl (HO.out.alloc _) inferInstance rfl (by unfold maxLen; omega) (by omega) (by simp; omega) ?_; intro v7 n7 ho7 hk7)
    go_ret
    refine ⟨_, rfl, by rw [HA.out]; exact ho7, ?_, fun q' hq hne => ?_, ?_⟩
    · exact Below.trans (Below.alloc (Below.refl _ _) (by omega) _) n7.below
    · rw [hk7.heap q' (by simp; omega) hne, Below.heap_alloc _ _ _ hq]
    · rcases hk7.own with h2 | h2
      · exact .inl h2
      · exact .inr ⟨_, h2, by simp⟩
  · have hab' : decide (b ≤ a) = true := decide_eq_true (by omega)
    have HA : Hid (addS l a b = l) := Lib.hid (if_neg hab)
    go_enter Tryz.func33, Tryz.ntmps33
    go_wp2_with fail
    go_ret
    exact ⟨_, rfl, by rw [HA.out]; exact HO.out, Below.refl _ _, fun _ _ _ => rfl, .inl rfl⟩
end Go.Proofs.YtdalbfanfbeckaaGreatDoor
end
