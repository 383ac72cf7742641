/-
  Chapter 26: several texts in one (R28, R29).
-/
import Derived.Test.YtdalbfanfbeckaaDoorK27
/-
  Chapter 26: the reference's worth of a piece and of all behind it.
-/
section
set_option linter.unusedVariables false
set_option linter.unusedSimpArgs false
namespace Go.Proofs.YtdalbfanfbeckaaDoor
open Go.RowKit TrimM

attribute [local go_sem] ExtOf.cell ExtOf.frozen ExtS.cell ExtS.frozen Block.cell Block.frozen ExtB.cell ExtB.frozen alloc_cell alloc_frozen
set_option maxHeartbeats 1600000 in
set_option maxRecDepth 20000 in
theorem after_any (L : Ln) (hL : L.Fine) (cs : Array Value) (E : Nat → Int) (k p gd kd ge N1 : Nat) (w : World) (hlt : k < L.sizes.length) (hfit : p + L.size k ≤ L.n) (hN1 : N1 = L.n + 1) (h : LineS w L cs) (hdust : ∀ q, q < N1 → w.cell? ⟨gd, q, none⟩ = some (.int .i64 0)) (hedge : ∀ q, p < q → q ≤ L.n → w.cell? ⟨ge, q * 3, none⟩ = some (.int .i64 (E q))) (hE : ∀ q, 0 ≤ E q ∧ E q ≤ 2000000000) :
    Calls Tryd.prog 69 #[.agg cs, .agg #[.int .i64 (k : Int), .int .i64 (p : Int)], .slice (some ⟨gd, 0, none⟩) N1 kd, .slice (some ⟨ge, 0, none⟩) N1 N1] w fun e w' => e = .returned (.int .i64 (L.worth E (k, p))) ∧ ∃ n : ExtOf w, w' = n.val := by
  obtain ⟨vs, vg, vc, vd, rfl, h1, h2, h3, h4⟩ := h
  obtain ⟨N, hN⟩ : ∃ N, N = L.sizes.length := ⟨_, rfl⟩
  obtain ⟨ps, cs, rfl, a1, a2, a3⟩ := int_form h1 (n := N) (by rw [List.length_map, hN])
  obtain ⟨pg, cg, rfl, b1, b2, b3⟩ := grid_form h2 (n := N) (by rw [hL.rows, hN])
  obtain ⟨pc, cc, rfl, d1, d2, d3⟩ := int_form h3 (n := L.n) (by rw [List.length_replicate])
  obtain ⟨pd, cd, rfl, e1, e2, e3⟩ := int_form h4 (n := L.n) (by rw [List.length_replicate])
  have HS := Lib.hid h1
  have HG := Lib.hid h2
  have HC := Lib.hid h3
  have HD := Lib.hid h4
  have HF := Lib.hid hL
  have HN := Lib.hid hN
  have hn := hL.n
  have hk := hL.k
  have hs8 : N ≤ 8 := by rw [hN]; exact hL.sizes
  clear h1 h2 h3 h4 hL hN
  unfold maxLen at a2 b2 d2 e2
  rw [← HN.out] at hlt
  have HED := Lib.hid hedge
  have HEE := Lib.hid hE
  have HDU := Lib.hid hdust
  have hN1' : L.n < N1 := by omega
  have hN2 : N1 ≤ 2001 := by omega
  clear hedge hE hdust hN1
  have hkL : L.k ≤ 20 := HF.out.k
  obtain ⟨bg, og, rp, rc, hbg, obg, c0, hr⟩ := GridI.row HG.out (i := k) (by rw [HF.out.rows, ← HN.out]; exact hlt)
  subst hbg
  have hls : k < (L.sizes.map fun s : Nat => (s : Int)).length := by rw [List.length_map, ← HN.out]; exact hlt
  obtain ⟨sz, hsz⟩ : ∃ s, s = L.sizes[k]'(by rw [← HN.out]; exact hlt) := ⟨_, rfl⟩
  obtain ⟨bs, os, hbs, obs, c1⟩ := int_elem HS.out hls (x := (sz : Int)) (by rw [List.getElem_map, hsz])
  subst hbs
  have hszb := HF.out.size sz (by rw [hsz]; exact List.getElem_mem _)
  have HSZ : Hid (L.size k = sz) := Lib.hid (by unfold Ln.size; rw [List.getElem?_eq_getElem (by rw [← HN.out]; exact hlt), ← hsz]; rfl)
  obtain ⟨m, hm⟩ : ∃ m, m = L.n + 1 - sz := ⟨_, rfl⟩
  have hrl : (L.rows[k]'(by rw [HF.out.rows, ← HN.out]; exact hlt)).length = m := by
    obtain ⟨r, hr1, hr2⟩ := HF.out.row k (by rw [← HN.out]; exact hlt)
    have h3 := (List.getElem?_eq_some_iff.1 hr1).2
    rw [h3, hr2, HSZ.out, hm]
  rw [hrl] at c0 hr
  rw [HSZ.out] at hfit
  obtain ⟨g, ⟨br, orr, hbr, obr, c2⟩, hgb, HGX⟩ : ∃ g : Int, (∃ b off, rp = some ⟨b, off, none⟩ ∧ Old b w ∧ w.cell? ⟨b, off + p, none⟩ = some (.int .i64 g)) ∧ (-1 ≤ g ∧ g ≤ 1000000) ∧ Hid (L.gain k p = g) := by
    have hpl : p < (L.rows[k]'(by rw [HF.out.rows, ← HN.out]; exact hlt)).length := by omega
    refine ⟨(L.rows[k]'(by rw [HF.out.rows, ← HN.out]; exact hlt))[p], int_elem hr hpl rfl, HF.out.vals _ (List.getElem_mem _) _ (List.getElem_mem _), Lib.hid ?_⟩
    have e1 : L.rows[k]? = some (L.rows[k]'(by rw [HF.out.rows, ← HN.out]; exact hlt)) := List.getElem?_eq_getElem _
    unfold Ln.gain
    rw [e1]
    simp only [Option.getD_some]
    rw [List.getElem?_eq_getElem hpl]; rfl
  subst hbr
  have hmp : p < m := by omega
  have hmr : m ≤ 2001 := by omega
  clear hr hrl hsz hls hm
  have HWO : Hid (L.worth E (k, p) = g + (if p + sz = L.n then 0 else E (L.next (p + sz)))) := Lib.hid (by unfold Ln.worth; simp only; rw [HSZ.out, HGX.out])
  by_cases t3 : p + sz = L.n
  · have t3' : (((p : Int) + (sz : Int)) == (L.n : Int)) = true := beq_iff_eq.2 (by omega)
    have HV : Hid (L.worth E (k, p) = g) := Lib.hid (by rw [HWO.out, if_pos t3]; omega)
    clear t3
    go_enter Tryd.func69, Tryd.ntmps69
    go_wp2_with fail
    refine wp_region_ext (by kernel_rfl) (by kernel_rfl) ?_
    repeat (first | go_big_quiet_skip | go_big_quiet_step (fail))
    refine wpQuiet_nil ?_
    intro _ hw'
    obtain ⟨nq, hw''⟩ := hw'
    subst hw''
    go_wp2_with fail
    refine wp_region_ext (by kernel_rfl) (by kernel_rfl) ?_
    repeat (first | go_big_quiet_skip | go_big_quiet_step (fail))
    refine wpQuiet_nil ?_
    intro _ hw'
    obtain ⟨nq, hw''⟩ := hw'
    subst hw''
    go_wp2_with fail
    go_ret
    exact ⟨ret_int HV.out.symm, by exact ExtOf.of (by repeat' (first | (with_reducible exact Ext.refl _) | (with_reducible exact ExtOf.ext _) | (with_reducible refine Ext.trans ?_ (ExtOf.ext _)) | (with_reducible refine Ext.alloc ?_ _) | (with_reducible refine Ext.drew ?_) | (with_reducible refine Ext.setCell ?_ ?_ _) | (with_reducible refine Ext.setRow ?_ ?_ _) | (with_reducible exact HX.out) | (with_reducible refine Ext.trans ?_ HX.out) | (with_reducible refine Ext.below ?_ (Nat.le_refl _) _) | omega | (simp; done) | (simp; omega)))⟩
  · have t3' : (((p : Int) + (sz : Int)) == (L.n : Int)) = false := beq_eq_false_iff_ne.2 (by omega)
    obtain ⟨nx, hnx⟩ : ∃ q, q = L.next (p + sz) := ⟨_, rfl⟩
    have hnx2 : p < nx ∧ nx ≤ L.n := by rw [hnx]; unfold Ln.next; omega
    have hmin : min ((p : Int) + (sz : Int) + (L.k : Int)) (L.n : Int) = (nx : Int) := by rw [hnx]; unfold Ln.next; omega
    have hmin2 : (if (L.n : Int) < (p : Int) + (sz : Int) + (L.k : Int) then (L.n : Int) else (p : Int) + (sz : Int) + (L.k : Int)) = (nx : Int) := by rw [hnx]; unfold Ln.next; split <;> omega
    have HV : Hid (L.worth E (k, p) = g + E nx) := Lib.hid (by rw [HWO.out, if_neg t3, hnx])
    have cE := HED.out nx hnx2.1 hnx2.2
    have hbe := HEE.out nx
    obtain ⟨en, hen⟩ : ∃ x, x = E nx := ⟨_, rfl⟩
    rw [← hen] at cE hbe HV
    have oE : Old ge w := Old.of_cell cE
    have cD1 : w.cell? ⟨gd, nx, none⟩ = some (.int .i64 0) := HDU.out _ (by omega)
    have cD2 : w.cell? ⟨gd, p + sz, none⟩ = some (.int .i64 0) := HDU.out _ (by omega)
    have oD : Old gd w := Old.of_cell cD1
    clear t3 hen hnx hmin
    go_enter Tryd.func69, Tryd.ntmps69
    go_wp2_with fail
    refine wp_region_ext (by kernel_rfl) (by kernel_rfl) ?_
    repeat (first | go_big_quiet_skip | go_big_quiet_step (fail))
    refine wpQuiet_nil ?_
    intro _ hw'
    obtain ⟨nq, hw''⟩ := hw'
    subst hw''
    go_wp2_with fail
    refine wp_region_ext (by kernel_rfl) (by kernel_rfl) ?_
    repeat (first | go_big_quiet_skip | go_big_quiet_step (fail))
    refine wpQuiet_nil ?_
    intro _ hw'
    obtain ⟨nq, hw''⟩ := hw'
    subst hw''
    go_wp2_with fail
    refine wp_region_ext (by kernel_rfl) (by kernel_rfl) ?_
    repeat (first | go_big_quiet_skip | go_big_quiet_step (fail))
    refine wpQuiet_nil ?_
    intro _ hw'
    obtain ⟨nq, hw''⟩ := hw'
    subst hw''
    go_wp2_with fail
    go_ret
    exact ⟨ret_int HV.out.symm, by exact ExtOf.of (by repeat' (first | (with_reducible exact Ext.refl _) | (with_reducible exact ExtOf.ext _) | (with_reducible refine Ext.trans ?_ (ExtOf.ext _)) | (with_reducible refine Ext.alloc ?_ _) | (with_reducible refine Ext.drew ?_) | (with_reducible refine Ext.setCell ?_ ?_ _) | (with_reducible refine Ext.setRow ?_ ?_ _) | (with_reducible exact HX.out) | (with_reducible refine Ext.trans ?_ HX.out) | (with_reducible refine Ext.below ?_ (Nat.le_refl _) _) | omega | (simp; done) | (simp; omega)))⟩
end Go.Proofs.YtdalbfanfbeckaaDoor
end
/-
  Chapter 26: the reference's best continuation from a fresh edge.
-/
section
set_option linter.unusedVariables false
set_option linter.unusedSimpArgs false
namespace Go.Proofs.YtdalbfanfbeckaaDoor
open Go.RowKit TrimM

attribute [local go_sem] ExtOf.cell ExtOf.frozen ExtS.cell ExtS.frozen Block.cell Block.frozen ExtB.cell ExtB.frozen alloc_cell alloc_frozen
theorem lwStep : Whole Tryd.prog 94 3 := whole_of Tryd.underlying94 rfl (by kernel_rfl)
/-- a choice with its worth, as the reference holds it -/
def stpE : Option (Nat × Nat) × Int → Int × Int × Int
  | (none, v) => (v, -1, 0)
  | (some (i, a), v) => (v, (i : Int), (a : Int))
theorem stpE_val (c : Option (Nat × Nat) × Int) : (stpE c).1 = c.2 := by
  obtain ⟨o, v⟩ := c
  cases o <;> rfl
/-- the best choice of the first m places -/
def bestAtTo (L : Ln) (E : Nat → Int) (p m : Nat) : Option (Nat × Nat) × Int := (((L.places p).take m).flatMap L.here).foldl (L.better E) (none, 0)
theorem bestAtTo_all (L : Ln) (E : Nat → Int) {p m : Nat} (hm : L.n - (p + L.k) + 1 ≤ m) : bestAtTo L E p m = L.bestAt E p := by
  unfold bestAtTo
  rw [List.take_of_length_le (by rw [places_len]; exact hm)]; rfl
theorem bestAtTo_step (L : Ln) (E : Nat → Int) {p m a : Nat} (h : (L.places p)[m]? = some a) : bestAtTo L E p (m + 1) = (L.here a).foldl (L.better E) (bestAtTo L E p m) := by
  unfold bestAtTo
  rw [List.take_add_one, h, Option.toList_some, List.flatMap_append, List.foldl_append]
  simp
theorem place_zero (L : Ln) (p : Nat) : (L.places p)[0]? = some p := rfl
theorem place_succ (L : Ln) {p m : Nat} (h : p + (m + 1) + L.k ≤ L.n) : (L.places p)[m + 1]? = some (p + (m + 1) + L.k) := by
  unfold Ln.places
  rw [List.getElem?_cons_succ, List.getElem?_range' (by omega)]
  simp; omega
/-- the best choice of the first k pieces at a place -/
def innTo (L : Ln) (E : Nat → Int) (c : Option (Nat × Nat) × Int) (a k : Nat) : Option (Nat × Nat) × Int := (hereTo L a k).foldl (L.better E) c
theorem innTo_zero (L : Ln) (E : Nat → Int) (c : Option (Nat × Nat) × Int) (a : Nat) : innTo L E c a 0 = c := rfl
theorem innTo_skip (L : Ln) (E : Nat → Int) (c : Option (Nat × Nat) × Int) {a k : Nat} (h : ¬ (a + L.size k ≤ L.n ∧ 0 ≤ L.gain k a)) : innTo L E c a (k + 1) = innTo L E c a k := by
  unfold innTo; rw [hereTo_succ, if_neg h]
theorem innTo_step (L : Ln) (E : Nat → Int) (c : Option (Nat × Nat) × Int) {a k : Nat} (h : a + L.size k ≤ L.n ∧ 0 ≤ L.gain k a) : innTo L E c a (k + 1) = L.better E (innTo L E c a k) (k, a) := by
  unfold innTo; rw [hereTo_succ, if_pos h, List.foldl_append]; rfl
theorem worth_bound {L : Ln} (hL : L.Fine) {E : Nat → Int} (hE : ∀ q, 0 ≤ E q ∧ E q ≤ 2000000000) (x : Nat × Nat) : -1 ≤ L.worth E x ∧ L.worth E x ≤ 2001000000 := by
  unfold Ln.worth
  have h1 := gain_fine hL x.1 x.2
  have h2 := hE (L.next (x.2 + L.size x.1))
  split <;> omega
theorem Tbl.tripS {w : World} {g : Nat} (c : Option (Nat × Nat) × Int) (h : Block w g (trip (stpE c))) : ∃ x y : Int, stpE c = (c.2, x, y) ∧ Block w g #[.int .i64 c.2, .int .i64 x, .int .i64 y] := by
  refine ⟨(stpE c).2.1, (stpE c).2.2, ?_, ?_⟩
  · rw [← stpE_val c]
  · rw [← stpE_val c]; exact h
set_option maxHeartbeats 16000000 in
set_option maxRecDepth 20000 in
theorem from_any (L : Ln) (hL : L.Fine) (cs : Array Value) (E : Nat → Int) (p gc kc gd kd ge N1 : Nat) (w : World) (hp : p ≤ L.n) (hN1 : N1 = L.n + 1) (h : LineS w L cs) (hchip : ∀ q, q < N1 → w.cell? ⟨gc, q, none⟩ = some (.int .i64 0)) (hdust : ∀ q, q < N1 → w.cell? ⟨gd, q, none⟩ = some (.int .i64 0)) (hedge : ∀ q, p < q → q ≤ L.n → w.cell? ⟨ge, q * 3, none⟩ = some (.int .i64 (E q))) (hE : ∀ q, 0 ≤ E q ∧ E q ≤ 2000000000) :
    Calls Tryd.prog 49 #[.agg cs, .int .i64 (p : Int), .slice (some ⟨gc, 0, none⟩) N1 kc, .slice (some ⟨gd, 0, none⟩) N1 kd, .slice (some ⟨ge, 0, none⟩) N1 N1] w fun e w' => e = .returned (.agg (trip (stpE (L.bestAt E p)))) ∧ ∃ n : ExtOf w, w' = n.val := by
  have HL := Lib.hid h
  obtain ⟨vs, vg, vc, vd, rfl, h1, h2, h3, h4⟩ := h
  obtain ⟨N, hN⟩ : ∃ N, N = L.sizes.length := ⟨_, rfl⟩
  obtain ⟨ps, cs, rfl, a1, a2, a3⟩ := int_form h1 (n := N) (by rw [List.length_map, hN])
  obtain ⟨pg, cg, rfl, b1, b2, b3⟩ := grid_form h2 (n := N) (by rw [hL.rows, hN])
  obtain ⟨pc, cc, rfl, d1, d2, d3⟩ := int_form h3 (n := L.n) (by rw [List.length_replicate])
  obtain ⟨pd, cd, rfl, e1, e2, e3⟩ := int_form h4 (n := L.n) (by rw [List.length_replicate])
  have HS := Lib.hid h1
  have HG := Lib.hid h2
  have HC := Lib.hid h3
  have HD := Lib.hid h4
  have HF := Lib.hid hL
  have HN := Lib.hid hN
  have hn := hL.n
  have hk := hL.k
  have hs8 : N ≤ 8 := by rw [hN]; exact hL.sizes
  clear h1 h2 h3 h4 hL hN
  unfold maxLen at a2 b2 d2 e2
  have HED := Lib.hid hedge
  have HEE := Lib.hid hE
  have HCU := Lib.hid hchip
  have HDU := Lib.hid hdust
  have HN1 := Lib.hid hN1
  have hN1' : L.n < N1 := by omega
  have hN2 : N1 ≤ 2001 := by omega
  have hpN : p < N1 := by omega
  have hkL : L.k ≤ 20 := HF.out.k
  have k1 : w.cell? ⟨gc, L.n, none⟩ = some (.int .i64 0) := hchip _ hN1'
  have k2 : w.cell? ⟨gc, p, none⟩ = some (.int .i64 0) := hchip _ hpN
  have oC : Old gc w := Old.of_cell k2
  clear hedge hE hdust hchip hN1
  go_enter Tryd.func49, Tryd.ntmps49
  go_wp2_with fail
  apply wp_region_maker [true, true, true, true, true, true, true, true, true, true, true, true] 12 [false, false, false, false, false, false, false, false, false, false, false, false, false, true] _ 11 (MadeP _ #[.int .i64 0, .int .i64 0, .int .i64 0]) 13 [] (by kernel_rfl) rfl rfl (by kernel_rfl) (by kernel_rfl) (by kernel_rfl) (by kernel_rfl) MadeP.keep
  · intro S hS hN R hR
    simp only [part]
    repeat (first | go_big_quiet_skip | go_big_quiet_step (fail))
    with_reducible refine wpQuiet_nil ?_
    exact hR
  · refine ⟨wanted_none rfl, fun W' hx' => ⟨.pointer (some ⟨W'.heap.size, 0, none⟩), W'.alloc (.cells #[.int .i64 0, .int .i64 0, .int .i64 0] 94), ?_, (Ext.refl _).alloc _, MadeP.new hx'⟩⟩
    simp [go_sem]
  intro v' W1 hx1 hmade
  obtain ⟨gb, rfl, hgb, hbb⟩ := hmade
  simp only [part, Act.put, List.setIfInBounds_toArray, List.set_cons_succ, List.set_cons_zero]
  have hB1 : Block W1 w.heap.size #[.int .i64 (L.n : Int), .int .i64 (L.k : Int), .int .i64 1, .slice ps N cs, .slice pg N cg, .slice pc L.n cc, .slice pd L.n cd] := Block.ext (inferInstance : Block ((w.alloc _).alloc _) w.heap.size #[.int .i64 (L.n : Int), .int .i64 (L.k : Int), .int .i64 1, .slice ps N cs, .slice pg N cg, .slice pc L.n cc, .slice pd L.n cd]) hx1
  have hR1 : Block W1 (w.heap.size + 1) #[.int .i64 0, .int .i64 0, .int .i64 0] := Block.ext (inferInstance : Block ((w.alloc _).alloc _) (w.heap.size + 1) #[.int .i64 0, .int .i64 0, .int .i64 0]) hx1
  have hgw : w.heap.size + 2 ≤ gb := by simpa using hgb
  have HX : Hid (Ext w W1) := Lib.hid (Ext.trans (by repeat' (first | (with_reducible exact Ext.refl _) | (with_reducible refine Ext.alloc ?_ _) | (with_reducible refine Ext.drew ?_))) hx1)
  clear hx1 hgb k1 k2 oC
  have ap1 : Apart gb w.heap.size := ⟨by omega⟩
  have ap2 : Apart gb (w.heap.size + 1) := ⟨by omega⟩
  have ap3 : Apart w.heap.size gb := ⟨by omega⟩
  have ap4 : Apart (w.heap.size + 1) gb := ⟨by omega⟩
  go_wp2_with (((with_reducible apply wl_store' lwStep); (· (first | exact wanted_none rfl | exact wanted_some rfl rfl rfl)); (· rfl); (· rfl); (· infer_instance); (· rfl); (· rfl); (· (simp [Value.oneCell'])); try simp only [setRow_alloc, setRow_new, setRow_new1, setRow_new2, setRow_new11, setRow_new111]))
  go_loopw [12] (fun v wr => ∃ m : Nat, m ≤ L.n + 1 ∧ (m = 0 ∨ p + (m - 1) + L.k ≤ L.n ∨ m = 1) ∧ v = .int .i64 (m : Int) ∧ Block wr w.heap.size #[.int .i64 (L.n : Int), .int .i64 (L.k : Int), .int .i64 1, .slice ps N cs, .slice pg N cg, .slice pc L.n cc, .slice pd L.n cd] ∧ Block wr (w.heap.size + 1) #[.int .i64 0, .int .i64 0, .int .i64 0] ∧ Block wr gb (trip (stpE (bestAtTo L E p m))) ∧ Ext w wr) (fun v _ => L.n + 1 - (intOf v).toNat)
  case atStart => exact ⟨0, by omega, by omega, rfl, inferInstance, inferInstance, (inferInstance : Block _ gb #[.int .i64 0, .int .i64 (-1), .int .i64 0]), by repeat' (first | (with_reducible exact Ext.refl _) | (with_reducible exact ExtOf.ext _) | (with_reducible refine Ext.trans ?_ (ExtOf.ext _)) | (with_reducible refine Ext.alloc ?_ _) | (with_reducible refine Ext.drew ?_) | (with_reducible refine Ext.setCell ?_ ?_ _) | (with_reducible refine Ext.setRow ?_ ?_ _) | (with_reducible exact HX.out) | (with_reducible exact HXX.out) | (with_reducible refine Ext.trans ?_ HX.out) | (with_reducible refine Ext.trans ?_ HXX.out) | (with_reducible refine Ext.below ?_ (Nat.le_refl _) _) | omega | (simp; done) | (simp; omega))⟩
  case round =>
    rename World => W2
    obtain ⟨m, hm, hmv, rfl, hB2, hR2, hbb2, hx⟩ := hrel
    have HXX : Hid (Ext w W2) := Lib.hid hx
    have hszx := hx.size
    clear hx HX hB1 hR1 hbb
    have ob1 := hB2.old
    have ob2 := hR2.old
    have ob3 := hbb2.old
    by_cases hend : L.n < p + m
    · have e1 : decide ((p : Int) + (m : Int) ≤ (L.n : Int)) = false := decide_eq_false (by omega)
      have HFIN : Hid (bestAtTo L E p m = L.bestAt E p) := Lib.hid (bestAtTo_all L E (by omega))
      obtain ⟨x0, x1, hxx, hbb4⟩ := Tbl.tripS _ hbb2
      obtain ⟨bv, hbv⟩ : ∃ v, v = (bestAtTo L E p m).2 := ⟨_, rfl⟩
      rw [← hbv] at hbb4 hxx
      rw [HFIN.out] at hxx
      have HFX := Lib.hid hxx
      clear hxx hbb2 hbv
      go_wp2_with (first | ((with_reducible apply wl_store' lwStep); (· (first | exact wanted_none rfl | exact wanted_some rfl rfl rfl)); (· rfl); (· rfl); (· infer_instance); (· rfl); (· rfl); (· (simp [Value.oneCell'])); try simp only [setRow_alloc, setRow_new, setRow_new1, setRow_new2, setRow_new11, setRow_new111]) | ((with_reducible apply wl_load' lwStep); (· (first | exact wanted_none rfl | exact wanted_some rfl rfl rfl)); (· rfl); (· infer_instance); (· rfl)))
      refine bodyPost_ret (results_c1 (b0 := w.heap.size + 1) rfl lwStep rfl inferInstance rfl) rfl ⟨by rw [HFX.out]; rfl, by exact ExtOf.of (by repeat' (first | (with_reducible exact Ext.refl _) | (with_reducible exact ExtOf.ext _) | (with_reducible refine Ext.trans ?_ (ExtOf.ext _)) | (with_reducible refine Ext.alloc ?_ _) | (with_reducible refine Ext.drew ?_) | (with_reducible refine Ext.setCell ?_ ?_ _) | (with_reducible refine Ext.setRow ?_ ?_ _) | (with_reducible exact HX.out) | (with_reducible exact HXX.out) | (with_reducible refine Ext.trans ?_ HX.out) | (with_reducible refine Ext.trans ?_ HXX.out) | (with_reducible refine Ext.below ?_ (Nat.le_refl _) _) | omega | (simp; done) | (simp; omega)))⟩
    · have e1 : decide ((p : Int) + (m : Int) ≤ (L.n : Int)) = true := decide_eq_true (by omega)
      by_cases hbrk : 0 < m ∧ L.n < p + m + L.k
      · have e2 : decide (0 < m) = true := decide_eq_true (by omega)
        have e3 : decide ((L.n : Int) < (p : Int) + (m : Int) + (L.k : Int)) = true := decide_eq_true (by omega)
        have HFIN : Hid (bestAtTo L E p m = L.bestAt E p) := Lib.hid (bestAtTo_all L E (by omega))
        obtain ⟨x0, x1, hxx, hbb4⟩ := Tbl.tripS _ hbb2
        obtain ⟨bv, hbv⟩ : ∃ v, v = (bestAtTo L E p m).2 := ⟨_, rfl⟩
        rw [← hbv] at hbb4 hxx
        rw [HFIN.out] at hxx
        have HFX := Lib.hid hxx
        clear hxx hbb2 hbv
        go_wp2_with (first | ((with_reducible apply wl_store' lwStep); (· (first | exact wanted_none rfl | exact wanted_some rfl rfl rfl)); (· rfl); (· rfl); (· infer_instance); (· rfl); (· rfl); (· (simp [Value.oneCell'])); try simp only [setRow_alloc, setRow_new, setRow_new1, setRow_new2, setRow_new11, setRow_new111]) | ((with_reducible apply wl_load' lwStep); (· (first | exact wanted_none rfl | exact wanted_some rfl rfl rfl)); (· rfl); (· infer_instance); (· rfl)))
        refine bodyPost_ret (results_c1 (b0 := w.heap.size + 1) rfl lwStep rfl inferInstance rfl) rfl ⟨by rw [HFX.out]; rfl, by exact ExtOf.of (by repeat' (first | (with_reducible exact Ext.refl _) | (with_reducible exact ExtOf.ext _) | (with_reducible refine Ext.trans ?_ (ExtOf.ext _)) | (with_reducible refine Ext.alloc ?_ _) | (with_reducible refine Ext.drew ?_) | (with_reducible refine Ext.setCell ?_ ?_ _) | (with_reducible refine Ext.setRow ?_ ?_ _) | (with_reducible exact HX.out) | (with_reducible exact HXX.out) | (with_reducible refine Ext.trans ?_ HX.out) | (with_reducible refine Ext.trans ?_ HXX.out) | (with_reducible refine Ext.below ?_ (Nat.le_refl _) _) | omega | (simp; done) | (simp; omega)))⟩
      · obtain ⟨a, hadef, hpl⟩ : ∃ a : Nat, (a : Int) = (if m = 0 then (p : Int) else (p : Int) + m + L.k) ∧ (L.places p)[m]? = some a := by
          rcases m with _ | m
          · exact ⟨p, rfl, rfl⟩
          · exact ⟨p + (m + 1) + L.k, by rw [if_neg (by omega)]; omega, place_succ L (by omega)⟩
        have hapn : p ≤ a ∧ a ≤ L.n := by split at hadef <;> omega
        have HSTEP := Lib.hid (bestAtTo_step L E hpl)
        clear hpl
        go_upto_if 42 with fail
        go_cut [13, 14] (fun s13 s14 wx => s13 = .int .i64 (a : Int) ∧ s14 = .int .i64 0 ∧ Block wx w.heap.size #[.int .i64 (L.n : Int), .int .i64 (L.k : Int), .int .i64 1, .slice ps N cs, .slice pg N cg, .slice pc L.n cc, .slice pd L.n cd] ∧ Block wx (w.heap.size + 1) #[.int .i64 0, .int .i64 0, .int .i64 0] ∧ Block wx gb (trip (stpE (bestAtTo L E p m))) ∧ Hid (Ext w wx))
        case first =>
          by_cases hm0 : m = 0
          · have e2 : decide (0 < m) = false := decide_eq_false (by omega)
            have e2' : ¬ 0 < m := by omega
            rw [if_pos hm0] at hadef
            have hap : a = p := by omega
            subst hap
            clear hadef
            go_wp2_with fail
            go_meet
            exact ⟨rfl, rfl, hB2, hR2, hbb2, HXX⟩
          · have e2 : decide (0 < m) = true := decide_eq_true (by omega)
            have e2' : 0 < m := by omega
            have e3 : decide ((L.n : Int) < (p : Int) + (m : Int) + (L.k : Int)) = false := decide_eq_false (by omega)
            rw [if_neg hm0] at hadef
            have HAD : Hid ((p : Int) + (m : Int) + (L.k : Int) = (a : Int)) := Lib.hid hadef.symm
            have hadef2 := HAD.out
            have hpm : p + m < N1 := by omega
            have haN : a < N1 := by omega
            have k1 : W2.cell? ⟨gc, p + m, none⟩ = some (.int .i64 0) := HXX.out.cell (HCU.out _ hpm)
            have k2 : W2.cell? ⟨gc, p, none⟩ = some (.int .i64 0) := HXX.out.cell (HCU.out _ hpN)
            have k3 : W2.cell? ⟨gd, p + m, none⟩ = some (.int .i64 0) := HXX.out.cell (HDU.out _ hpm)
            have k4 : W2.cell? ⟨gd, a, none⟩ = some (.int .i64 0) := HXX.out.cell (HDU.out _ haN)
            have oC : Old gc W2 := Old.of_cell k1
            have oD : Old gd W2 := Old.of_cell k3
            clear hadef hm0
            go_wp2_with fail
            refine wp_region_ext (by kernel_rfl) (by kernel_rfl) ?_
            repeat (first | go_big_quiet_skip | go_big_quiet_step (fail))
            refine wpQuiet_nil ?_
            intro _ hw'
            obtain ⟨nq, hw''⟩ := hw'
            subst hw''
            go_wp2_with fail
            go_meet
            exact ⟨rfl, rfl, inferInstance, inferInstance, inferInstance, Lib.hid (by repeat' (first | (with_reducible exact Ext.refl _) | (with_reducible exact ExtOf.ext _) | (with_reducible refine Ext.trans ?_ (ExtOf.ext _)) | (with_reducible refine Ext.alloc ?_ _) | (with_reducible refine Ext.drew ?_) | (with_reducible refine Ext.setCell ?_ ?_ _) | (with_reducible refine Ext.setRow ?_ ?_ _) | (with_reducible exact HX.out) | (with_reducible exact HXX.out) | (with_reducible refine Ext.trans ?_ HX.out) | (with_reducible refine Ext.trans ?_ HXX.out) | (with_reducible refine Ext.below ?_ (Nat.le_refl _) _) | omega | (simp; done) | (simp; omega)))⟩
        case rest =>
          obtain ⟨rfl, rfl, hB3, hR3, hbb3, HXX3⟩ := hcut
          clear hB2 hR2 hbb2 ob1 ob2 ob3 HXX hadef
          go_wp2_with fail
          go_loopw [15] (fun v wr => ∃ k : Nat, k ≤ N ∧ v = .int .i64 (k : Int) ∧ Block wr w.heap.size #[.int .i64 (L.n : Int), .int .i64 (L.k : Int), .int .i64 1, .slice ps N cs, .slice pg N cg, .slice pc L.n cc, .slice pd L.n cd] ∧ Block wr (w.heap.size + 1) #[.int .i64 0, .int .i64 0, .int .i64 0] ∧ Block wr gb (trip (stpE (innTo L E (bestAtTo L E p m) a k))) ∧ Ext w wr) (fun v _ => N - (intOf v).toNat)
          case atStart => exact ⟨0, by omega, by go_num, hB3, hR3, hbb3, HXX3.out⟩
          case round =>
            obtain ⟨k, hk, rfl, hB, hR, hbb, hx⟩ := hrel
            have HX := Lib.hid hx
            have hszw := hx.size
            have ob := hB.old
            have ort := hR.old
            have obb := hbb.old
            clear hx hB3 hR3 hbb3 HXX3
            by_cases hlt : k < N
            · obtain ⟨bg, og, rp, rc, hbg, obg, c0, hr⟩ := GridI.row (GridI.ext HG.out HX.out) (i := k) (by rw [HF.out.rows, ← HN.out]; exact hlt)
              subst hbg
              have hls : k < (L.sizes.map fun s : Nat => (s : Int)).length := by rw [List.length_map, ← HN.out]; exact hlt
              obtain ⟨sz, hsz⟩ : ∃ s, s = L.sizes[k]'(by rw [← HN.out]; exact hlt) := ⟨_, rfl⟩
              obtain ⟨bs, os, hbs, obs, c1⟩ := int_elem (SliceOf.ext HS.out HX.out) hls (x := (sz : Int)) (by rw [List.getElem_map, hsz])
              subst hbs
              have hszb := HF.out.size sz (by rw [hsz]; exact List.getElem_mem _)
              have HSZ : Hid (L.size k = sz) := Lib.hid (by unfold Ln.size; rw [List.getElem?_eq_getElem (by rw [← HN.out]; exact hlt), ← hsz]; rfl)
              obtain ⟨m9, hm⟩ : ∃ m, m = L.n + 1 - sz := ⟨_, rfl⟩
              have hrl : (L.rows[k]'(by rw [HF.out.rows, ← HN.out]; exact hlt)).length = m9 := by
                obtain ⟨r, hr1, hr2⟩ := HF.out.row k (by rw [← HN.out]; exact hlt)
                have h3 := (List.getElem?_eq_some_iff.1 hr1).2
                rw [h3, hr2, HSZ.out, hm]
              rw [hrl] at c0 hr
              have HRP : Hid (¬ L.n < a + sz → ∃ g : Int, (∃ b off, rp = some ⟨b, off, none⟩ ∧ Old b wr ∧ wr.cell? ⟨b, off + a, none⟩ = some (.int .i64 g)) ∧ (-1 ≤ g ∧ g ≤ 1000000) ∧ Hid (L.gain k a = g) ∧ a < m9) := Lib.hid (fun hle => by
                have hpl : a < (L.rows[k]'(by rw [HF.out.rows, ← HN.out]; exact hlt)).length := by omega
                refine ⟨(L.rows[k]'(by rw [HF.out.rows, ← HN.out]; exact hlt))[a], int_elem hr hpl rfl, HF.out.vals _ (List.getElem_mem _) _ (List.getElem_mem _), Lib.hid ?_, by omega⟩
                have e1 : L.rows[k]? = some (L.rows[k]'(by rw [HF.out.rows, ← HN.out]; exact hlt)) := List.getElem?_eq_getElem _
                unfold Ln.gain
                rw [e1]
                simp only [Option.getD_some]
                rw [List.getElem?_eq_getElem hpl]; rfl)
              have hmr : m9 ≤ 2001 := by omega
              clear hr hrl hsz hls hm
              obtain ⟨x0, x1, hxx, hbb5⟩ := Tbl.tripS _ hbb
              obtain ⟨bv, hbv⟩ : ∃ v, v = (innTo L E (bestAtTo L E p m) a k).2 := ⟨_, rfl⟩
              rw [← hbv] at hbb5 hxx
              have HXB := Lib.hid hxx
              have HBV := Lib.hid hbv
              clear hxx hbv
              by_cases t1 : L.n < a + sz
              · have t1' : decide ((L.n : Int) - (sz : Int) < (a : Int)) = true := decide_eq_true (by omega)
                have HK : Hid (innTo L E (bestAtTo L E p m) a (k + 1) = innTo L E (bestAtTo L E p m) a k) := Lib.hid (innTo_skip L E _ (by rw [HSZ.out]; omega))
                clear hbb5
                go_wp2_with fail
                refine wp_region_ext (by kernel_rfl) (by kernel_rfl) ?_
                repeat (first | go_big_quiet_skip | go_big_quiet_step (fail))
                refine wpQuiet_nil ?_
                intro _ hw'
                obtain ⟨nq, hw''⟩ := hw'
                subst hw''
                go_wp2_with fail
                go_roundw
                case rel => exact ⟨k + 1, by omega, by first | rfl | go_num, inferInstance, inferInstance, by rw [HK.out]; infer_instance, by repeat' (first | (with_reducible exact Ext.refl _) | (with_reducible exact ExtOf.ext _) | (with_reducible refine Ext.trans ?_ (ExtOf.ext _)) | (with_reducible refine Ext.alloc ?_ _) | (with_reducible refine Ext.drew ?_) | (with_reducible refine Ext.setCell ?_ ?_ _) | (with_reducible refine Ext.setRow ?_ ?_ _) | (with_reducible exact HX.out) | (with_reducible exact HXX.out) | (with_reducible refine Ext.trans ?_ HX.out) | (with_reducible refine Ext.trans ?_ HXX.out) | (with_reducible refine Ext.below ?_ (Nat.le_refl _) _) | omega | (simp; done) | (simp; omega))⟩
                case measure => simp [intOf]; omega
              · have t1' : decide ((L.n : Int) - (sz : Int) < (a : Int)) = false := decide_eq_false (by omega)
                obtain ⟨g, hg, hgb2, HGX, ham⟩ := HRP.out t1
                obtain ⟨br, orr, hbr, obr, c2⟩ := hg
                subst hbr
                by_cases t2 : g < 0
                · have t2' : decide (g < 0) = true := decide_eq_true t2
                  have HK : Hid (innTo L E (bestAtTo L E p m) a (k + 1) = innTo L E (bestAtTo L E p m) a k) := Lib.hid (innTo_skip L E _ (by rw [HGX.out]; omega))
                  clear hbb5
                  go_wp2_with fail
                  refine wp_region_ext (by kernel_rfl) (by kernel_rfl) ?_
                  repeat (first | go_big_quiet_skip | go_big_quiet_step (fail))
                  refine wpQuiet_nil ?_
                  intro _ hw'
                  obtain ⟨nq, hw''⟩ := hw'
                  subst hw''
                  go_wp2_with fail
                  go_roundw
                  case rel => exact ⟨k + 1, by omega, by first | rfl | go_num, inferInstance, inferInstance, by rw [HK.out]; infer_instance, by repeat' (first | (with_reducible exact Ext.refl _) | (with_reducible exact ExtOf.ext _) | (with_reducible refine Ext.trans ?_ (ExtOf.ext _)) | (with_reducible refine Ext.alloc ?_ _) | (with_reducible refine Ext.drew ?_) | (with_reducible refine Ext.setCell ?_ ?_ _) | (with_reducible refine Ext.setRow ?_ ?_ _) | (with_reducible exact HX.out) | (with_reducible exact HXX.out) | (with_reducible refine Ext.trans ?_ HX.out) | (with_reducible refine Ext.trans ?_ HXX.out) | (with_reducible refine Ext.below ?_ (Nat.le_refl _) _) | omega | (simp; done) | (simp; omega))⟩
                  case measure => simp [intOf]; omega
                · have t2' : decide (g < 0) = false := decide_eq_false t2
                  have HK : Hid (innTo L E (bestAtTo L E p m) a (k + 1) = L.better E (innTo L E (bestAtTo L E p m) a k) (k, a)) := Lib.hid (innTo_step L E _ (by rw [HSZ.out, HGX.out]; omega))
                  obtain ⟨v, hv⟩ : ∃ v, v = L.worth E (k, a) := ⟨_, rfl⟩
                  have hvb := worth_bound HF.out HEE.out (k, a)
                  rw [← hv] at hvb
                  have HV := Lib.hid hv
                  have HAF : Hid (∀ W, Ext wr W → Calls Tryd.prog 69 #[.agg #[.int .i64 (L.n : Int), .int .i64 (L.k : Int), .int .i64 1, .slice (some ⟨bs, os, none⟩) N cs, .slice (some ⟨bg, og, none⟩) N cg, .slice pc L.n cc, .slice pd L.n cd], .agg #[.int .i64 (k : Int), .int .i64 (a : Int)], .slice (some ⟨gd, 0, none⟩) N1 kd, .slice (some ⟨ge, 0, none⟩) N1 N1] W fun e w' => e = .returned (.int .i64 v) ∧ ∃ n : ExtOf W, w' = n.val) := Lib.hid (fun W hxw => by
                    have hx2 := HX.out.trans hxw
                    rw [hv]
                    exact after_any L HF.out _ E k a gd kd ge N1 W (by rw [← HN.out]; exact hlt) (by rw [HSZ.out]; omega) HN1.out (LineS.ext HL.out hx2) (fun q h => hx2.cell (HDU.out q h)) (fun q h1 h2 => hx2.cell (HED.out q (by omega) h2)) HEE.out)
                  clear hv hbb
                  go_wp2_with fail
                  refine wp_region_ext (by kernel_rfl) (by kernel_rfl) ?_
                  repeat (first | go_big_quiet_skip | go_big_quiet_step (fail))
                  refine wpQuiet_nil ?_
                  intro _ hw'
                  obtain ⟨nq, hw''⟩ := hw'
                  subst hw''
                  by_cases t3 : bv < v
                  · have t3' : decide (bv < v) = true := decide_eq_true t3
                    have HKV : Hid (stpE (innTo L E (bestAtTo L E p m) a (k + 1)) = (v, (k : Int), (a : Int))) := Lib.hid (by rw [HK.out]; unfold Ln.better; rw [← HV.out, if_pos (by rw [← HBV.out]; exact t3)]; rfl)
                    go_wp2_with (first | ((with_reducible apply wl_store' lwPiece); (· (first | exact wanted_none rfl | exact wanted_some rfl rfl rfl)); (· rfl); (· rfl); (· infer_instance); (· rfl); (· rfl); (· (simp [Value.oneCell'])); try simp only [setRow_alloc, setRow_new, setRow_new1, setRow_new2, setRow_new11, setRow_new111]) | ((with_reducible apply wl_store' lwStep); (· (first | exact wanted_none rfl | exact wanted_some rfl rfl rfl)); (· rfl); (· rfl); (· infer_instance); (· rfl); (· rfl); (· (simp [Value.oneCell'])); try simp only [setRow_alloc, setRow_new, setRow_new1, setRow_new2, setRow_new11, setRow_new111]) | ((with_reducible apply wl_load' lwPiece); (· (first | exact wanted_none rfl | exact wanted_some rfl rfl rfl)); (· rfl); (· infer_instance); (· rfl)) | ((with_reducible apply wl_load' lwLine); (· (first | exact wanted_none rfl | exact wanted_some rfl rfl rfl)); (· rfl); (· infer_instance); (· rfl)) | (go_at_call 69; with_reducible refine Calls.mono (HAF.out _ (by repeat' (first | (with_reducible exact Ext.refl _) | (with_reducible exact ExtOf.ext _) | (with_reducible refine Ext.trans ?_ (ExtOf.ext _)) | (with_reducible refine Ext.alloc ?_ _) | (with_reducible refine Ext.drew ?_) | (with_reducible refine Ext.setRow ?_ ?_ _) | omega | (simp; done) | (simp; omega)))) ?_; rintro e w' ⟨rfl, na, rfl⟩))
                    go_roundw
                    case rel => exact ⟨k + 1, by omega, by first | rfl | go_num, inferInstance, inferInstance, by rw [HKV.out]; (show Block _ gb #[.int .i64 v, .int .i64 (k : Int), .int .i64 (a : Int)]); infer_instance, by repeat' (first | (with_reducible exact Ext.refl _) | (with_reducible exact ExtOf.ext _) | (with_reducible refine Ext.trans ?_ (ExtOf.ext _)) | (with_reducible refine Ext.alloc ?_ _) | (with_reducible refine Ext.drew ?_) | (with_reducible refine Ext.setCell ?_ ?_ _) | (with_reducible refine Ext.setRow ?_ ?_ _) | (with_reducible exact HX.out) | (with_reducible exact HXX.out) | (with_reducible refine Ext.trans ?_ HX.out) | (with_reducible refine Ext.trans ?_ HXX.out) | (with_reducible refine Ext.below ?_ (Nat.le_refl _) _) | omega | (simp; done) | (simp; omega))⟩
                    case measure => simp [intOf]; omega
                  · have t3' : decide (bv < v) = false := decide_eq_false t3
                    have HKV : Hid (stpE (innTo L E (bestAtTo L E p m) a (k + 1)) = (bv, x0, x1)) := Lib.hid (by rw [HK.out]; unfold Ln.better; rw [← HV.out, if_neg (by rw [← HBV.out]; exact t3)]; exact HXB.out)
                    go_wp2_with (first | ((with_reducible apply wl_store' lwPiece); (· (first | exact wanted_none rfl | exact wanted_some rfl rfl rfl)); (· rfl); (· rfl); (· infer_instance); (· rfl); (· rfl); (· (simp [Value.oneCell'])); try simp only [setRow_alloc, setRow_new, setRow_new1, setRow_new2, setRow_new11, setRow_new111]) | ((with_reducible apply wl_store' lwStep); (· (first | exact wanted_none rfl | exact wanted_some rfl rfl rfl)); (· rfl); (· rfl); (· infer_instance); (· rfl); (· rfl); (· (simp [Value.oneCell'])); try simp only [setRow_alloc, setRow_new, setRow_new1, setRow_new2, setRow_new11, setRow_new111]) | ((with_reducible apply wl_load' lwPiece); (· (first | exact wanted_none rfl | exact wanted_some rfl rfl rfl)); (· rfl); (· infer_instance); (· rfl)) | ((with_reducible apply wl_load' lwLine); (· (first | exact wanted_none rfl | exact wanted_some rfl rfl rfl)); (· rfl); (· infer_instance); (· rfl)) | (go_at_call 69; with_reducible refine Calls.mono (HAF.out _ (by repeat' (first | (with_reducible exact Ext.refl _) | (with_reducible exact ExtOf.ext _) | (with_reducible refine Ext.trans ?_ (ExtOf.ext _)) | (with_reducible refine Ext.alloc ?_ _) | (with_reducible refine Ext.drew ?_) | (with_reducible refine Ext.setRow ?_ ?_ _) | omega | (simp; done) | (simp; omega)))) ?_; rintro e w' ⟨rfl, na, rfl⟩))
                    go_roundw
                    case rel => exact ⟨k + 1, by omega, by first | rfl | go_num, inferInstance, inferInstance, by rw [HKV.out]; (show Block _ gb #[.int .i64 bv, .int .i64 x0, .int .i64 x1]); infer_instance, by repeat' (first | (with_reducible exact Ext.refl _) | (with_reducible exact ExtOf.ext _) | (with_reducible refine Ext.trans ?_ (ExtOf.ext _)) | (with_reducible refine Ext.alloc ?_ _) | (with_reducible refine Ext.drew ?_) | (with_reducible refine Ext.setCell ?_ ?_ _) | (with_reducible refine Ext.setRow ?_ ?_ _) | (with_reducible exact HX.out) | (with_reducible exact HXX.out) | (with_reducible refine Ext.trans ?_ HX.out) | (with_reducible refine Ext.trans ?_ HXX.out) | (with_reducible refine Ext.below ?_ (Nat.le_refl _) _) | omega | (simp; done) | (simp; omega))⟩
                    case measure => simp [intOf]; omega
            · have hkN : k = N := by omega
              have HE9 : Hid (innTo L E (bestAtTo L E p m) a k = bestAtTo L E p (m + 1)) := Lib.hid (by rw [HSTEP.out, hkN, HN.out]; rfl)
              clear hkN
              go_wp2_with fail
              go_roundw
              case rel => exact ⟨m + 1, by omega, by omega, by go_num, hB, hR, by rw [← HE9.out]; exact hbb, HX.out⟩
              case measure => simp [intOf]; omega
end Go.Proofs.YtdalbfanfbeckaaDoor
end
