/-
  Chapter 26: the best piece that begins at a place.
-/
import Derived.Test.YtdalbfanfbeckaaGreatDoorK45
set_option linter.unusedVariables false
set_option linter.unusedSimpArgs false
namespace Go.Proofs.YtdalbfanfbeckaaGreatDoor
open Go.RowKit TrimM

attribute [local go_sem] ExtOf.cell ExtOf.frozen ExtS.cell ExtS.frozen Block.cell Block.frozen ExtB.cell ExtB.frozen alloc_cell alloc_frozen equal_piece equalX_piece eqGuard_piece
def trip (c : Int × Int × Int) : Array Value := #[.int .i64 c.1, .int .i64 c.2.1, .int .i64 c.2.2]
theorem behind_next (L : Ln) {q : Nat} (h : q < L.n) : L.behind (q : Int) = ((L.next q : Nat) : Int) := by
  unfold Ln.behind Ln.next; rw [if_neg (by omega)]; omega
theorem behind_end (L : Ln) : L.behind (L.n : Int) = -1 := by unfold Ln.behind; rw [if_pos rfl]
set_option maxHeartbeats 1600000 in
set_option maxRecDepth 20000 in
theorem start_any (L : Ln) (hL : L.Fine) (cs : Array Value) (E : Nat → Int) (p gd ge N1 : Nat) (w : World) (hp : p ≤ L.n) (hN1 : N1 = L.n + 1) (h : LineS w L cs) (htab : Tab w) (hdust : Block w gd (Array.replicate N1 (.int .i64 0))) (hedge : ∀ q, p < q → q ≤ L.n → w.cell? ⟨ge, q * 3 + 2, none⟩ = some (.int .i64 (E q))) (hE : ∀ q, 0 ≤ E q ∧ E q ≤ 2000000000) :
    Calls Tryz.prog 94 #[.agg cs, .int .i64 (p : Int), .slice (some ⟨gd, 0, none⟩) N1 N1, .slice (some ⟨ge, 0, none⟩) N1 N1] w fun e w' => e = .returned (.agg (trip (cho (topOf L E (L.here p))))) ∧ ∃ n : ExtOf w, w' = n.val := by
  obtain ⟨vs, vg, vc, vd, rfl, h1, h2, h3, h4⟩ := h
  obtain ⟨N, hN⟩ : ∃ N, N = L.sizes.length := ⟨_, rfl⟩
  obtain ⟨ps, cs, rfl, a1, a2, a3⟩ := int_form h1 (n := N) (by rw [List.length_map, hN])
  obtain ⟨pg, cg, rfl, b1, b2, b3⟩ := grid_form h2 (n := N) (by rw [hL.rows, hN])
  obtain ⟨pc, cc, rfl, d1, d2, d3⟩ := int_form h3 (n := L.n) (by rw [List.length_replicate])
  obtain ⟨pd, cd, rfl, e1, e2, e3⟩ := int_form h4 (n := L.n) (by rw [List.length_replicate])
  have HS := Lib.hid h1
  have HG := Lib.hid h2
  have HC := Lib.hid h3
  have HD := Lib.hid h4
  have HF := Lib.hid hL
  have HN := Lib.hid hN
  have hn := hL.n
  have hk := hL.k
  have hs8 : N ≤ 8 := by rw [hN]; exact hL.sizes
  clear h1 h2 h3 h4 hL hN
  unfold maxLen at a2 b2 d2 e2
  have HTB := Lib.hid htab
  have HED := Lib.hid hedge
  have HEE := Lib.hid hE
  have HDU := Lib.hid hdust
  have HN1 := Lib.hid hN1
  have hN1' : L.n < N1 := by omega
  have hN2 : N1 ≤ 2001 := by omega
  clear htab hedge hE hdust hN1
  have hkL : L.k ≤ 20 := HF.out.k
  go_enter Tryz.func94, Tryz.ntmps94
  go_wp2_with (first | ((with_reducible apply wl_loadM midPiece); (· exact Tab.range HTB.out (by repeat' (first | (with_reducible exact Ext.refl _) | (with_reducible exact ExtOf.ext _) | (with_reducible refine Ext.trans ?_ (ExtOf.ext _)) | (with_reducible refine Ext.alloc ?_ _) | (with_reducible refine Ext.drew ?_) | (with_reducible refine Ext.setCell ?_ ?_ _) | (with_reducible refine Ext.setRow ?_ ?_ _) | (with_reducible exact HX.out) | (with_reducible refine Ext.trans ?_ HX.out) | (with_reducible refine Ext.below ?_ (Nat.le_refl _) _) | omega | (simp; done) | (simp; omega)))); (· rfl); (· (first | exact wanted_none rfl | exact wanted_some rfl rfl rfl)); (· rfl)) | ((with_reducible apply wl_store' lwCh); (· (first | exact wanted_none rfl | exact wanted_some rfl rfl rfl)); (· rfl); (· rfl); (· infer_instance); (· rfl); (· rfl); (· (simp [Value.oneCell'])); try simp only [setRow_alloc, setRow_new, setRow_new1, setRow_new2, setRow_new11, setRow_new111]))
  go_loopw [20] (fun v wr => ∃ k : Nat, k ≤ N ∧ v = .int .i64 k ∧ Block wr w.heap.size #[.int .i64 (L.n : Int), .int .i64 (L.k : Int), .int .i64 1, .slice ps N cs, .slice pg N cg, .slice pc L.n cc, .slice pd L.n cd] ∧ Block wr (w.heap.size + 1) #[.int .i64 0, .int .i64 0, .int .i64 0] ∧ Block wr (w.heap.size + 1 + 1) (trip (cho (topOf L E (hereTo L p k)))) ∧ Ext w wr) (fun v _ => N - (intOf v).toNat)
  case atStart => exact ⟨0, by omega, rfl, inferInstance, inferInstance, (inferInstance : Block _ (w.heap.size + 1 + 1) #[.int .i64 (-1), .int .i64 (-1), .int .i64 0]), by repeat' (first | (with_reducible exact Ext.refl _) | (with_reducible exact ExtOf.ext _) | (with_reducible refine Ext.trans ?_ (ExtOf.ext _)) | (with_reducible refine Ext.alloc ?_ _) | (with_reducible refine Ext.drew ?_) | (with_reducible refine Ext.setCell ?_ ?_ _) | (with_reducible refine Ext.setRow ?_ ?_ _) | (with_reducible exact HX.out) | (with_reducible refine Ext.trans ?_ HX.out) | (with_reducible refine Ext.below ?_ (Nat.le_refl _) _) | omega | (simp; done) | (simp; omega))⟩
  case round =>
    obtain ⟨k, hk, rfl, hB, hZ, hT, hx⟩ := hrel
    have HX := Lib.hid hx
    have ob := hB.old
    have ot := hT.old
    have oz := hZ.old
    have hszx := HX.out.size
    clear hx
    by_cases hlt : k < N
    · obtain ⟨bg, og, rp, rc, hbg, obg, c0, hr⟩ := GridI.row (GridI.ext HG.out HX.out) (i := k) (by rw [HF.out.rows, ← HN.out]; exact hlt)
      subst hbg
      have hls : k < (L.sizes.map fun s : Nat => (s : Int)).length := by rw [List.length_map, ← HN.out]; exact hlt
      obtain ⟨sz, hsz⟩ : ∃ s, s = L.sizes[k]'(by rw [← HN.out]; exact hlt) := ⟨_, rfl⟩
      obtain ⟨bs, os, hbs, obs, c1⟩ := int_elem (SliceOf.ext HS.out HX.out) hls (x := (sz : Int)) (by rw [List.getElem_map, hsz])
      subst hbs
      have hszb := HF.out.size sz (by rw [hsz]; exact List.getElem_mem _)
      have HSZ : Hid (L.size k = sz) := Lib.hid (by unfold Ln.size; rw [List.getElem?_eq_getElem (by rw [← HN.out]; exact hlt), ← hsz]; rfl)
      obtain ⟨m, hm⟩ : ∃ m, m = L.n + 1 - sz := ⟨_, rfl⟩
      have hrl : (L.rows[k]'(by rw [HF.out.rows, ← HN.out]; exact hlt)).length = m := by
        obtain ⟨r, hr1, hr2⟩ := HF.out.row k (by rw [← HN.out]; exact hlt)
        have h3 := (List.getElem?_eq_some_iff.1 hr1).2
        rw [h3, hr2, HSZ.out, hm]
      rw [hrl] at c0 hr
      have HRP : Hid (¬ L.n < p + sz → ∃ g : Int, (∃ b off, rp = some ⟨b, off, none⟩ ∧ Old b wr ∧ wr.cell? ⟨b, off + p, none⟩ = some (.int .i64 g)) ∧ (-1 ≤ g ∧ g ≤ 1000000) ∧ Hid (L.gain k p = g)) := Lib.hid (fun hle => by
        have hpl : p < (L.rows[k]'(by rw [HF.out.rows, ← HN.out]; exact hlt)).length := by omega
        refine ⟨(L.rows[k]'(by rw [HF.out.rows, ← HN.out]; exact hlt))[p], int_elem hr hpl rfl, HF.out.vals _ (List.getElem_mem _) _ (List.getElem_mem _), Lib.hid ?_⟩
        have e1 : L.rows[k]? = some (L.rows[k]'(by rw [HF.out.rows, ← HN.out]; exact hlt)) := List.getElem?_eq_getElem _
        unfold Ln.gain
        rw [e1]
        simp only [Option.getD_some]
        rw [List.getElem?_eq_getElem hpl]; rfl)
      have hmr : m ≤ 2001 := by omega
      clear hr hrl hsz hls
      have HKS := Lib.hid (hereTo_succ L p k)
      by_cases t1 : L.n < p + sz
      · have t1' : decide (L.n < p + sz) = true := decide_eq_true t1
        have HK : Hid (hereTo L p (k + 1) = hereTo L p k) := Lib.hid (by rw [HKS.out, if_neg (by rw [HSZ.out]; omega)])
        go_wp2_with fail
        go_roundw
        case rel => exact ⟨k + 1, by omega, by first | rfl | go_num, hB, hZ, by rw [HK.out]; exact hT, HX.out⟩
        case measure => simp [intOf]; omega
      · have t1' : decide (L.n < p + sz) = false := decide_eq_false t1
        obtain ⟨g, hg, hgb, HGX⟩ := HRP.out t1
        obtain ⟨br, orr, hbr, obr, c2⟩ := hg
        subst hbr
        by_cases t2 : g < 0
        · have t2' : decide (g < 0) = true := decide_eq_true t2
          have HK : Hid (hereTo L p (k + 1) = hereTo L p k) := Lib.hid (by rw [HKS.out, if_neg (by rw [HGX.out]; omega)])
          go_wp2_with fail
          go_roundw
          case rel => exact ⟨k + 1, by omega, by first | rfl | go_num, hB, hZ, by rw [HK.out]; exact hT, HX.out⟩
          case measure => simp [intOf]; omega
        · have t2' : decide (g < 0) = false := decide_eq_false t2
          have HK : Hid (hereTo L p (k + 1) = hereTo L p k ++ [(k, p)]) := Lib.hid (by rw [HKS.out, if_pos (by rw [HSZ.out, HGX.out]; omega)])
          have hed := HED.out
          have hee := HEE.out
          have HWO : Hid (L.worth E (k, p) = g + (if p + sz = L.n then 0 else E (L.next (p + sz)))) := Lib.hid (by unfold Ln.worth; simp only; rw [HSZ.out, HGX.out])
          by_cases t3 : p + sz = L.n
          · have HBH : Hid (∀ W, Calls Tryz.prog 34 #[.agg #[.int .i64 (L.n : Int), .int .i64 (L.k : Int), .int .i64 1, .slice (some ⟨bs, os, none⟩) N cs, .slice (some ⟨bg, og, none⟩) N cg, .slice pc L.n cc, .slice pd L.n cd], .int .i64 ((p : Int) + (sz : Int))] W fun e w' => e = .returned (.int .i64 (-1)) ∧ ∃ n : ExtOf W, w' = n.val) := Lib.hid (fun W => by
              have h9 := behind_any L 1 (.slice (some ⟨bs, os, none⟩) N cs) (.slice (some ⟨bg, og, none⟩) N cg) (.slice pc L.n cc) (.slice pd L.n cd) ((p : Int) + (sz : Int)) W hn hkL (by omega)
              rw [show (p : Int) + (sz : Int) = (L.n : Int) by omega] at h9 ⊢
              rw [behind_end] at h9
              exact h9)
            have HV : Hid (L.worth E (k, p) = g) := Lib.hid (by rw [HWO.out, if_pos t3]; omega)
            clear t3 hed hee
            rcases ht : topOf L E (hereTo L p k) with _ | ⟨⟨i, a⟩, v⟩
            · have HC1 : Hid (cho (topOf L E (hereTo L p (k + 1))) = ((k : Int), (p : Int), g)) := Lib.hid (by rw [HK.out, topOf_snoc, ht]; unfold topS cho; rw [HV.out])
              rw [ht] at hT
              replace hT : Block _ (w.heap.size + 1 + 1) #[.int .i64 (-1), .int .i64 (-1), .int .i64 0] := hT
              clear ht
              go_wp2_with (first | ((with_reducible apply wl_load' lwLine); (· (first | exact wanted_none rfl | exact wanted_some rfl rfl rfl)); (· rfl); (· infer_instance); (· rfl)) | ((with_reducible apply wl_load' lwCh); (· (first | exact wanted_none rfl | exact wanted_some rfl rfl rfl)); (· rfl); (· infer_instance); (· rfl)) | ((with_reducible apply wl_store' lwCh); (· (first | exact wanted_none rfl | exact wanted_some rfl rfl rfl)); (· rfl); (· rfl); (· infer_instance); (· rfl); (· rfl); (· (simp [Value.oneCell'])); try simp only [setRow_alloc, setRow_new, setRow_new1, setRow_new2, setRow_new11, setRow_new111]) | ((with_reducible apply wl_loadM midPiece); (· exact Tab.range HTB.out (by repeat' (first | (with_reducible exact Ext.refl _) | (with_reducible exact ExtOf.ext _) | (with_reducible refine Ext.trans ?_ (ExtOf.ext _)) | (with_reducible refine Ext.alloc ?_ _) | (with_reducible refine Ext.drew ?_) | (with_reducible refine Ext.setCell ?_ ?_ _) | (with_reducible refine Ext.setRow ?_ ?_ _) | (with_reducible exact HX.out) | (with_reducible refine Ext.trans ?_ HX.out) | (with_reducible refine Ext.below ?_ (Nat.le_refl _) _) | omega | (simp; done) | (simp; omega)))); (· rfl); (· (first | exact wanted_none rfl | exact wanted_some rfl rfl rfl)); (· rfl)) | ((with_reducible apply wl_loadB midPiece); (· (first | exact wanted_none rfl | exact wanted_some rfl rfl rfl)); (· rfl); (· infer_instance); (· rfl); (· rfl)) | (go_at_call 34; with_reducible refine Calls.mono (HBH.out _) ?_; rintro e w' ⟨rfl, nb, rfl⟩))
              go_roundw
              case rel => exact ⟨k + 1, by omega, by first | rfl | go_num, inferInstance, inferInstance, by rw [HC1.out]; (show Block _ (w.heap.size + 1 + 1) #[.int .i64 (k : Int), .int .i64 (p : Int), .int .i64 (g)]); infer_instance, by repeat' (first | (with_reducible exact Ext.refl _) | (with_reducible exact ExtOf.ext _) | (with_reducible refine Ext.trans ?_ (ExtOf.ext _)) | (with_reducible refine Ext.alloc ?_ _) | (with_reducible refine Ext.drew ?_) | (with_reducible refine Ext.setCell ?_ ?_ _) | (with_reducible refine Ext.setRow ?_ ?_ _) | (with_reducible exact HX.out) | (with_reducible refine Ext.trans ?_ HX.out) | (with_reducible refine Ext.below ?_ (Nat.le_refl _) _) | omega | (simp; done) | (simp; omega))⟩
              case measure => simp [intOf]; omega
            · rw [ht] at hT
              replace hT : Block _ (w.heap.size + 1 + 1) #[.int .i64 (i : Int), .int .i64 (a : Int), .int .i64 v] := hT
              have e1 : ((i : Int) == -1) = false := beq_eq_false_iff_ne.2 (by omega)
              by_cases t5 : v < g
              · have t5' : decide (v < g) = true := decide_eq_true t5
                have HC1 : Hid (cho (topOf L E (hereTo L p (k + 1))) = ((k : Int), (p : Int), g)) := Lib.hid (by rw [HK.out, topOf_snoc, ht]; unfold topS cho; simp only; rw [HV.out, if_pos t5])
                clear ht
                go_wp2_with (first | ((with_reducible apply wl_load' lwLine); (· (first | exact wanted_none rfl | exact wanted_some rfl rfl rfl)); (· rfl); (· infer_instance); (· rfl)) | ((with_reducible apply wl_load' lwCh); (· (first | exact wanted_none rfl | exact wanted_some rfl rfl rfl)); (· rfl); (· infer_instance); (· rfl)) | ((with_reducible apply wl_store' lwCh); (· (first | exact wanted_none rfl | exact wanted_some rfl rfl rfl)); (· rfl); (· rfl); (· infer_instance); (· rfl); (· rfl); (· (simp [Value.oneCell'])); try simp only [setRow_alloc, setRow_new, setRow_new1, setRow_new2, setRow_new11, setRow_new111]) | ((with_reducible apply wl_loadM midPiece); (· exact Tab.range HTB.out (by repeat' (first | (with_reducible exact Ext.refl _) | (with_reducible exact ExtOf.ext _) | (with_reducible refine Ext.trans ?_ (ExtOf.ext _)) | (with_reducible refine Ext.alloc ?_ _) | (with_reducible refine Ext.drew ?_) | (with_reducible refine Ext.setCell ?_ ?_ _) | (with_reducible refine Ext.setRow ?_ ?_ _) | (with_reducible exact HX.out) | (with_reducible refine Ext.trans ?_ HX.out) | (with_reducible refine Ext.below ?_ (Nat.le_refl _) _) | omega | (simp; done) | (simp; omega)))); (· rfl); (· (first | exact wanted_none rfl | exact wanted_some rfl rfl rfl)); (· rfl)) | ((with_reducible apply wl_loadB midPiece); (· (first | exact wanted_none rfl | exact wanted_some rfl rfl rfl)); (· rfl); (· infer_instance); (· rfl); (· rfl)) | (go_at_call 34; with_reducible refine Calls.mono (HBH.out _) ?_; rintro e w' ⟨rfl, nb, rfl⟩))
                go_roundw
                case rel => exact ⟨k + 1, by omega, by first | rfl | go_num, inferInstance, inferInstance, by rw [HC1.out]; (show Block _ (w.heap.size + 1 + 1) #[.int .i64 (k : Int), .int .i64 (p : Int), .int .i64 (g)]); infer_instance, by repeat' (first | (with_reducible exact Ext.refl _) | (with_reducible exact ExtOf.ext _) | (with_reducible refine Ext.trans ?_ (ExtOf.ext _)) | (with_reducible refine Ext.alloc ?_ _) | (with_reducible refine Ext.drew ?_) | (with_reducible refine Ext.setCell ?_ ?_ _) | (with_reducible refine Ext.setRow ?_ ?_ _) | (with_reducible exact HX.out) | (with_reducible refine Ext.trans ?_ HX.out) | (with_reducible refine Ext.below ?_ (Nat.le_refl _) _) | omega | (simp; done) | (simp; omega))⟩
                case measure => simp [intOf]; omega
              · have t5' : decide (v < g) = false := decide_eq_false t5
                have HC1 : Hid (cho (topOf L E (hereTo L p (k + 1))) = ((i : Int), (a : Int), v)) := Lib.hid (by rw [HK.out, topOf_snoc, ht]; unfold topS cho; simp only; rw [HV.out, if_neg t5])
                clear ht
                go_wp2_with (first | ((with_reducible apply wl_load' lwLine); (· (first | exact wanted_none rfl | exact wanted_some rfl rfl rfl)); (· rfl); (· infer_instance); (· rfl)) | ((with_reducible apply wl_load' lwCh); (· (first | exact wanted_none rfl | exact wanted_some rfl rfl rfl)); (· rfl); (· infer_instance); (· rfl)) | ((with_reducible apply wl_store' lwCh); (· (first | exact wanted_none rfl | exact wanted_some rfl rfl rfl)); (· rfl); (· rfl); (· infer_instance); (· rfl); (· rfl); (· (simp [Value.oneCell'])); try simp only [setRow_alloc, setRow_new, setRow_new1, setRow_new2, setRow_new11, setRow_new111]) | ((with_reducible apply wl_loadM midPiece); (· exact Tab.range HTB.out (by repeat' (first | (with_reducible exact Ext.refl _) | (with_reducible exact ExtOf.ext _) | (with_reducible refine Ext.trans ?_ (ExtOf.ext _)) | (with_reducible refine Ext.alloc ?_ _) | (with_reducible refine Ext.drew ?_) | (with_reducible refine Ext.setCell ?_ ?_ _) | (with_reducible refine Ext.setRow ?_ ?_ _) | (with_reducible exact HX.out) | (with_reducible refine Ext.trans ?_ HX.out) | (with_reducible refine Ext.below ?_ (Nat.le_refl _) _) | omega | (simp; done) | (simp; omega)))); (· rfl); (· (first | exact wanted_none rfl | exact wanted_some rfl rfl rfl)); (· rfl)) | ((with_reducible apply wl_loadB midPiece); (· (first | exact wanted_none rfl | exact wanted_some rfl rfl rfl)); (· rfl); (· infer_instance); (· rfl); (· rfl)) | (go_at_call 34; with_reducible refine Calls.mono (HBH.out _) ?_; rintro e w' ⟨rfl, nb, rfl⟩))
                go_roundw
                case rel => exact ⟨k + 1, by omega, by first | rfl | go_num, inferInstance, inferInstance, by rw [HC1.out]; (show Block _ (w.heap.size + 1 + 1) #[.int .i64 (i : Int), .int .i64 (a : Int), .int .i64 v]); infer_instance, by repeat' (first | (with_reducible exact Ext.refl _) | (with_reducible exact ExtOf.ext _) | (with_reducible refine Ext.trans ?_ (ExtOf.ext _)) | (with_reducible refine Ext.alloc ?_ _) | (with_reducible refine Ext.drew ?_) | (with_reducible refine Ext.setCell ?_ ?_ _) | (with_reducible refine Ext.setRow ?_ ?_ _) | (with_reducible exact HX.out) | (with_reducible refine Ext.trans ?_ HX.out) | (with_reducible refine Ext.below ?_ (Nat.le_refl _) _) | omega | (simp; done) | (simp; omega))⟩
                case measure => simp [intOf]; omega
          · obtain ⟨nx, hnx⟩ : ∃ q, q = L.next (p + sz) := ⟨_, rfl⟩
            have hnx2 : p < nx ∧ nx ≤ L.n := by rw [hnx]; unfold Ln.next; omega
            have HBH : Hid (∀ W, Calls Tryz.prog 34 #[.agg #[.int .i64 (L.n : Int), .int .i64 (L.k : Int), .int .i64 1, .slice (some ⟨bs, os, none⟩) N cs, .slice (some ⟨bg, og, none⟩) N cg, .slice pc L.n cc, .slice pd L.n cd], .int .i64 ((p : Int) + (sz : Int))] W fun e w' => e = .returned (.int .i64 (nx : Int)) ∧ ∃ n : ExtOf W, w' = n.val) := Lib.hid (fun W => by
              have h9 := behind_any L 1 (.slice (some ⟨bs, os, none⟩) N cs) (.slice (some ⟨bg, og, none⟩) N cg) (.slice pc L.n cc) (.slice pd L.n cd) ((p : Int) + (sz : Int)) W hn hkL (by omega)
              rw [show (p : Int) + (sz : Int) = ((p + sz : Nat) : Int) by omega] at h9 ⊢
              rw [behind_next L (by omega), ← hnx] at h9
              exact h9)
            have HV : Hid (L.worth E (k, p) = g + E nx) := Lib.hid (by rw [HWO.out, if_neg t3, hnx])
            have cE := HX.out.cell (hed nx hnx2.1 hnx2.2)
            have hbe := hee nx
            obtain ⟨en, hen⟩ : ∃ x, x = E nx := ⟨_, rfl⟩
            rw [← hen] at cE hbe HV
            have oE : Old ge wr := Old.of_cell cE
            have hD := HDU.out.ext HX.out
            have oD := hD.old
            have cD1 : wr.cell? ⟨gd, nx, none⟩ = some (.int .i64 0) := by rw [Block.cell (h := hD), Array.getElem?_replicate, if_pos (by omega)]
            have cD2 : wr.cell? ⟨gd, p + sz, none⟩ = some (.int .i64 0) := by rw [Block.cell (h := hD), Array.getElem?_replicate, if_pos (by omega)]
            clear t3 hed hee hen hnx hD
            go_wp2_with (first | ((with_reducible apply wl_load' lwLine); (· (first | exact wanted_none rfl | exact wanted_some rfl rfl rfl)); (· rfl); (· infer_instance); (· rfl)) | ((with_reducible apply wl_load' lwCh); (· (first | exact wanted_none rfl | exact wanted_some rfl rfl rfl)); (· rfl); (· infer_instance); (· rfl)) | ((with_reducible apply wl_store' lwCh); (· (first | exact wanted_none rfl | exact wanted_some rfl rfl rfl)); (· rfl); (· rfl); (· infer_instance); (· rfl); (· rfl); (· (simp [Value.oneCell'])); try simp only [setRow_alloc, setRow_new, setRow_new1, setRow_new2, setRow_new11, setRow_new111]) | ((with_reducible apply wl_loadM midPiece); (· exact Tab.range HTB.out (by repeat' (first | (with_reducible exact Ext.refl _) | (with_reducible exact ExtOf.ext _) | (with_reducible refine Ext.trans ?_ (ExtOf.ext _)) | (with_reducible refine Ext.alloc ?_ _) | (with_reducible refine Ext.drew ?_) | (with_reducible refine Ext.setCell ?_ ?_ _) | (with_reducible refine Ext.setRow ?_ ?_ _) | (with_reducible exact HX.out) | (with_reducible refine Ext.trans ?_ HX.out) | (with_reducible refine Ext.below ?_ (Nat.le_refl _) _) | omega | (simp; done) | (simp; omega)))); (· rfl); (· (first | exact wanted_none rfl | exact wanted_some rfl rfl rfl)); (· rfl)) | ((with_reducible apply wl_loadB midPiece); (· (first | exact wanted_none rfl | exact wanted_some rfl rfl rfl)); (· rfl); (· infer_instance); (· rfl); (· rfl)) | (go_at_call 34; with_reducible refine Calls.mono (HBH.out _) ?_; rintro e w' ⟨rfl, nb, rfl⟩))
            refine wp_region_ext_tail 19 (by kernel_rfl) (by kernel_rfl) ?_
            simp only [List.take_succ_cons, List.take_zero, List.drop_succ_cons, List.drop_zero]
            repeat (first | go_big_quiet_skip | go_big_quiet_step (fail))
            refine wpQuiet_nil ?_
            intro _ hw'
            obtain ⟨nq, hw''⟩ := hw'
            subst hw''
            rcases ht : topOf L E (hereTo L p k) with _ | ⟨⟨i, a⟩, v⟩
            · have HC1 : Hid (cho (topOf L E (hereTo L p (k + 1))) = ((k : Int), (p : Int), g + en)) := Lib.hid (by rw [HK.out, topOf_snoc, ht]; unfold topS cho; rw [HV.out])
              rw [ht] at hT
              replace hT : Block _ (w.heap.size + 1 + 1) #[.int .i64 (-1), .int .i64 (-1), .int .i64 0] := hT
              clear ht
              go_wp2_with (first | ((with_reducible apply wl_load' lwLine); (· (first | exact wanted_none rfl | exact wanted_some rfl rfl rfl)); (· rfl); (· infer_instance); (· rfl)) | ((with_reducible apply wl_load' lwCh); (· (first | exact wanted_none rfl | exact wanted_some rfl rfl rfl)); (· rfl); (· infer_instance); (· rfl)) | ((with_reducible apply wl_store' lwCh); (· (first | exact wanted_none rfl | exact wanted_some rfl rfl rfl)); (· rfl); (· rfl); (· infer_instance); (· rfl); (· rfl); (· (simp [Value.oneCell'])); try simp only [setRow_alloc, setRow_new, setRow_new1, setRow_new2, setRow_new11, setRow_new111]) | ((with_reducible apply wl_loadM midPiece); (· exact Tab.range HTB.out (by repeat' (first | (with_reducible exact Ext.refl _) | (with_reducible exact ExtOf.ext _) | (with_reducible refine Ext.trans ?_ (ExtOf.ext _)) | (with_reducible refine Ext.alloc ?_ _) | (with_reducible refine Ext.drew ?_) | (with_reducible refine Ext.setCell ?_ ?_ _) | (with_reducible refine Ext.setRow ?_ ?_ _) | (with_reducible exact HX.out) | (with_reducible refine Ext.trans ?_ HX.out) | (with_reducible refine Ext.below ?_ (Nat.le_refl _) _) | omega | (simp; done) | (simp; omega)))); (· rfl); (· (first | exact wanted_none rfl | exact wanted_some rfl rfl rfl)); (· rfl)) | ((with_reducible apply wl_loadB midPiece); (· (first | exact wanted_none rfl | exact wanted_some rfl rfl rfl)); (· rfl); (· infer_instance); (· rfl); (· rfl)) | (go_at_call 34; with_reducible refine Calls.mono (HBH.out _) ?_; rintro e w' ⟨rfl, nb, rfl⟩))
              go_roundw
              case rel => exact ⟨k + 1, by omega, by first | rfl | go_num, inferInstance, inferInstance, by rw [HC1.out]; (show Block _ (w.heap.size + 1 + 1) #[.int .i64 (k : Int), .int .i64 (p : Int), .int .i64 (g + en)]); infer_instance, by repeat' (first | (with_reducible exact Ext.refl _) | (with_reducible exact ExtOf.ext _) | (with_reducible refine Ext.trans ?_ (ExtOf.ext _)) | (with_reducible refine Ext.alloc ?_ _) | (with_reducible refine Ext.drew ?_) | (with_reducible refine Ext.setCell ?_ ?_ _) | (with_reducible refine Ext.setRow ?_ ?_ _) | (with_reducible exact HX.out) | (with_reducible refine Ext.trans ?_ HX.out) | (with_reducible refine Ext.below ?_ (Nat.le_refl _) _) | omega | (simp; done) | (simp; omega))⟩
              case measure => simp [intOf]; omega
            · rw [ht] at hT
              replace hT : Block _ (w.heap.size + 1 + 1) #[.int .i64 (i : Int), .int .i64 (a : Int), .int .i64 v] := hT
              have e1 : ((i : Int) == -1) = false := beq_eq_false_iff_ne.2 (by omega)
              by_cases t5 : v < g + en
              · have t5' : decide (v < g + en) = true := decide_eq_true t5
                have HC1 : Hid (cho (topOf L E (hereTo L p (k + 1))) = ((k : Int), (p : Int), g + en)) := Lib.hid (by rw [HK.out, topOf_snoc, ht]; unfold topS cho; simp only; rw [HV.out, if_pos t5])
                clear ht
                go_wp2_with (first | ((with_reducible apply wl_load' lwLine); (· (first | exact wanted_none rfl | exact wanted_some rfl rfl rfl)); (· rfl); (· infer_instance); (· rfl)) | ((with_reducible apply wl_load' lwCh); (· (first | exact wanted_none rfl | exact wanted_some rfl rfl rfl)); (· rfl); (· infer_instance); (· rfl)) | ((with_reducible apply wl_store' lwCh); (· (first | exact wanted_none rfl | exact wanted_some rfl rfl rfl)); (· rfl); (· rfl); (· infer_instance); (· rfl); (· rfl); (· (simp [Value.oneCell'])); try simp only [setRow_alloc, setRow_new, setRow_new1, setRow_new2, setRow_new11, setRow_new111]) | ((with_reducible apply wl_loadM midPiece); (· exact Tab.range HTB.out (by repeat' (first | (with_reducible exact Ext.refl _) | (with_reducible exact ExtOf.ext _) | (with_reducible refine Ext.trans ?_ (ExtOf.ext _)) | (with_reducible refine Ext.alloc ?_ _) | (with_reducible refine Ext.drew ?_) | (with_reducible refine Ext.setCell ?_ ?_ _) | (with_reducible refine Ext.setRow ?_ ?_ _) | (with_reducible exact HX.out) | (with_reducible refine Ext.trans ?_ HX.out) | (with_reducible refine Ext.below ?_ (Nat.le_refl _) _) | omega | (simp; done) | (simp; omega)))); (· rfl); (· (first | exact wanted_none rfl | exact wanted_some rfl rfl rfl)); (· rfl)) | ((with_reducible apply wl_loadB midPiece); (· (first | exact wanted_none rfl | exact wanted_some rfl rfl rfl)); (· rfl); (· infer_instance); (· rfl); (· rfl)) | (go_at_call 34; with_reducible refine Calls.mono (HBH.out _) ?_; rintro e w' ⟨rfl, nb, rfl⟩))
                go_roundw
                case rel => exact ⟨k + 1, by omega, by first | rfl | go_num, inferInstance, inferInstance, by rw [HC1.out]; (show Block _ (w.heap.size + 1 + 1) #[.int .i64 (k : Int), .int .i64 (p : Int), .int .i64 (g + en)]); infer_instance, by repeat' (first | (with_reducible exact Ext.refl _) | (with_reducible exact ExtOf.ext _) | (with_reducible refine Ext.trans ?_ (ExtOf.ext _)) | (with_reducible refine Ext.alloc ?_ _) | (with_reducible refine Ext.drew ?_) | (with_reducible refine Ext.setCell ?_ ?_ _) | (with_reducible refine Ext.setRow ?_ ?_ _) | (with_reducible exact HX.out) | (with_reducible refine Ext.trans ?_ HX.out) | (with_reducible refine Ext.below ?_ (Nat.le_refl _) _) | omega | (simp; done) | (simp; omega))⟩
                case measure => simp [intOf]; omega
              · have t5' : decide (v < g + en) = false := decide_eq_false t5
                have HC1 : Hid (cho (topOf L E (hereTo L p (k + 1))) = ((i : Int), (a : Int), v)) := Lib.hid (by rw [HK.out, topOf_snoc, ht]; unfold topS cho; simp only; rw [HV.out, if_neg t5])
                clear ht
                go_wp2_with (first | ((with_reducible apply wl_load' lwLine); (· (first | exact wanted_none rfl | exact wanted_some rfl rfl rfl)); (· rfl); (· infer_instance); (· rfl)) | ((with_reducible apply wl_load' lwCh); (· (first | exact wanted_none rfl | exact wanted_some rfl rfl rfl)); (· rfl); (· infer_instance); (· rfl)) | ((with_reducible apply wl_store' lwCh); (· (first | exact wanted_none rfl | exact wanted_some rfl rfl rfl)); (· rfl); (· rfl); (· infer_instance); (· rfl); (· rfl); (· (simp [Value.oneCell'])); try simp only [setRow_alloc, setRow_new, setRow_new1, setRow_new2, setRow_new11, setRow_new111]) | ((with_reducible apply wl_loadM midPiece); (· exact Tab.range HTB.out (by repeat' (first | (with_reducible exact Ext.refl _) | (with_reducible exact ExtOf.ext _) | (with_reducible refine Ext.trans ?_ (ExtOf.ext _)) | (with_reducible refine Ext.alloc ?_ _) | (with_reducible refine Ext.drew ?_) | (with_reducible refine Ext.setCell ?_ ?_ _) | (with_reducible refine Ext.setRow ?_ ?_ _) | (with_reducible exact HX.out) | (with_reducible refine Ext.trans ?_ HX.out) | (with_reducible refine Ext.below ?_ (Nat.le_refl _) _) | omega | (simp; done) | (simp; omega)))); (· rfl); (· (first | exact wanted_none rfl | exact wanted_some rfl rfl rfl)); (· rfl)) | ((with_reducible apply wl_loadB midPiece); (· (first | exact wanted_none rfl | exact wanted_some rfl rfl rfl)); (· rfl); (· infer_instance); (· rfl); (· rfl)) | (go_at_call 34; with_reducible refine Calls.mono (HBH.out _) ?_; rintro e w' ⟨rfl, nb, rfl⟩))
                go_roundw
                case rel => exact ⟨k + 1, by omega, by first | rfl | go_num, inferInstance, inferInstance, by rw [HC1.out]; (show Block _ (w.heap.size + 1 + 1) #[.int .i64 (i : Int), .int .i64 (a : Int), .int .i64 v]); infer_instance, by repeat' (first | (with_reducible exact Ext.refl _) | (with_reducible exact ExtOf.ext _) | (with_reducible refine Ext.trans ?_ (ExtOf.ext _)) | (with_reducible refine Ext.alloc ?_ _) | (with_reducible refine Ext.drew ?_) | (with_reducible refine Ext.setCell ?_ ?_ _) | (with_reducible refine Ext.setRow ?_ ?_ _) | (with_reducible exact HX.out) | (with_reducible refine Ext.trans ?_ HX.out) | (with_reducible refine Ext.below ?_ (Nat.le_refl _) _) | omega | (simp; done) | (simp; omega))⟩
                case measure => simp [intOf]; omega
    · have hkN : k = N := by omega
      have HE9 : Hid (hereTo L p k = L.here p) := Lib.hid (by rw [hkN, HN.out]; rfl)
      clear hkN
      rw [HE9.out] at hT
      replace hT : Block _ (w.heap.size + 1 + 1) #[.int .i64 (cho (topOf L E (L.here p))).1, .int .i64 (cho (topOf L E (L.here p))).2.1, .int .i64 (cho (topOf L E (L.here p))).2.2] := hT
      go_wp2_with (first | ((with_reducible apply wl_load' lwLine); (· (first | exact wanted_none rfl | exact wanted_some rfl rfl rfl)); (· rfl); (· infer_instance); (· rfl)) | ((with_reducible apply wl_load' lwCh); (· (first | exact wanted_none rfl | exact wanted_some rfl rfl rfl)); (· rfl); (· infer_instance); (· rfl)) | ((with_reducible apply wl_store' lwCh); (· (first | exact wanted_none rfl | exact wanted_some rfl rfl rfl)); (· rfl); (· rfl); (· infer_instance); (· rfl); (· rfl); (· (simp [Value.oneCell'])); try simp only [setRow_alloc, setRow_new, setRow_new1, setRow_new2, setRow_new11, setRow_new111]) | ((with_reducible apply wl_loadM midPiece); (· exact Tab.range HTB.out (by repeat' (first | (with_reducible exact Ext.refl _) | (with_reducible exact ExtOf.ext _) | (with_reducible refine Ext.trans ?_ (ExtOf.ext _)) | (with_reducible refine Ext.alloc ?_ _) | (with_reducible refine Ext.drew ?_) | (with_reducible refine Ext.setCell ?_ ?_ _) | (with_reducible refine Ext.setRow ?_ ?_ _) | (with_reducible exact HX.out) | (with_reducible refine Ext.trans ?_ HX.out) | (with_reducible refine Ext.below ?_ (Nat.le_refl _) _) | omega | (simp; done) | (simp; omega)))); (· rfl); (· (first | exact wanted_none rfl | exact wanted_some rfl rfl rfl)); (· rfl)) | ((with_reducible apply wl_loadB midPiece); (· (first | exact wanted_none rfl | exact wanted_some rfl rfl rfl)); (· rfl); (· infer_instance); (· rfl); (· rfl)) | (go_at_call 34; with_reducible refine Calls.mono (HBH.out _) ?_; rintro e w' ⟨rfl, nb, rfl⟩))
      refine bodyPost_ret (results_c1 (b0 := w.heap.size + 1) rfl lwCh rfl inferInstance rfl) rfl ⟨rfl, by exact ExtOf.of (by repeat' (first | (with_reducible exact Ext.refl _) | (with_reducible exact ExtOf.ext _) | (with_reducible refine Ext.trans ?_ (ExtOf.ext _)) | (with_reducible refine Ext.alloc ?_ _) | (with_reducible refine Ext.drew ?_) | (with_reducible refine Ext.setCell ?_ ?_ _) | (with_reducible refine Ext.setRow ?_ ?_ _) | (with_reducible exact HX.out) | (with_reducible refine Ext.trans ?_ HX.out) | (with_reducible refine Ext.below ?_ (Nat.le_refl _) _) | omega | (simp; done) | (simp; omega)))⟩
end Go.Proofs.YtdalbfanfbeckaaGreatDoor
