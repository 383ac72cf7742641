/-
  Chapter 26: the reference's line of a board.
-/
import Derived.Test.YtdalbfanfbeckaaGreatDoorR12
set_option linter.unusedVariables false
set_option linter.unusedSimpArgs false
namespace Go.Proofs.YtdalbfanfbeckaaGreatDoor
open Go.RowKit TrimM

attribute [local go_sem] ExtOf.cell ExtOf.frozen ExtS.cell ExtS.frozen Block.cell Block.frozen ExtB.cell ExtB.frozen alloc_cell alloc_frozen
theorem chkR_zero {b : Bx} {ds : List Df} {p : Pdt} {step kerf fine : Int} (h : chkR b ds p step kerf fine = 0) : (1 ≤ step ∧ step ≤ 20000) ∧ (0 ≤ kerf ∧ kerf ≤ 20) ∧ (b.za < b.zb ∧ 0 ≤ b.za ∧ b.zb ≤ 20000) := by
  unfold chkR at h
  split at h
  · rename_i h1; exact absurd h h1
  split at h
  · rename_i h1; exact absurd h h1
  split at h
  · cases h
  split at h
  · cases h
  split at h
  · cases h
  rename_i h1 h2 h3 h4 h5
  simp only [Bx.empty, Bool.or_eq_true, decide_eq_true_eq] at h4
  simp only [Bx.ranged, decide_eq_true_eq, Classical.not_not] at h5
  omega
theorem keeps_div {n step : Int} (hs : 1 ≤ step) (h : n % step = 0) : keeps step n = decide (n / step ≤ 2000) := by
  have h1 := TrimM.div_mul h
  unfold keeps
  rw [Bool.eq_iff_iff]
  simp only [decide_eq_true_eq, h, true_and]
  constructor
  · intro h2
    rcases Int.lt_or_le 2000 (n / step) with c | c
    · have : 2001 * step ≤ n / step * step := Int.mul_le_mul_of_nonneg_right (by omega) (by omega)
      omega
    · exact c
  · intro h2
    have : n / step * step ≤ 2000 * step := Int.mul_le_mul_of_nonneg_right h2 (by omega)
    omega
set_option maxHeartbeats 3200000 in
set_option maxRecDepth 20000 in
theorem rline_any (x : Bd) (dv : Value) (ds : List Df) (p : Pdt) (lv pv : Value) (step kerf fine : Int) (w : World) (hd : DfS w dv ds) (hl : IntS w lv p.ls) (hp : IntS w pv p.ps) :
    Calls Tryz.prog 20 #[.agg (bdC x dv), .agg (pdC p lv pv), .int .i64 step, .int .i64 kerf, .int .i64 fine] w (LinePost x ds p step kerf fine w) := by
  obtain ⟨lq, lcap, rfl, hl1, hl2, hl3⟩ := SliceOf.form hl
  obtain ⟨pq, pcap, rfl, hp1, hp2, hp3⟩ := SliceOf.form hp
  obtain ⟨q, cap, rfl, hd1, hd2, hd3⟩ := SliceOf.form hd
  have HL := Lib.hid hl
  have HP := Lib.hid hp
  have HD := Lib.hid hd
  clear hl hp hd
  unfold LinePost
  unfold maxLen at hl2 hp2 hd2
  unfold bdC pdC
  have HER := Lib.hid (chkE_R x.b ds p step kerf fine)
  by_cases r0 : ¬ chkR x.b ds p step kerf fine = 0
  · have h1 : (chkR x.b ds p step kerf fine != 0) = true := bne_iff_ne.2 r0
    have HE : Hid (chkE x.b ds p step kerf fine = chkR x.b ds p step kerf fine) := Lib.hid (by rw [HER.out, if_pos r0])
    have H0 : Hid (¬ chkE x.b ds p step kerf fine = 0) := Lib.hid (by rw [HE.out]; exact r0)
    clear r0
    go_enter Tryz.func20, Tryz.ntmps20
    go_wp2_with (first | ((with_reducible apply wl_load' lwBd); (· (first | exact wanted_none rfl | exact wanted_some rfl rfl rfl)); (· rfl); (· infer_instance); (· rfl)) | ((with_reducible apply wl_load' lwPd); (· (first | exact wanted_none rfl | exact wanted_some rfl rfl rfl)); (· rfl); (· infer_instance); (· rfl)) | (go_at_call 42; refine (rcheck26_any x _ ds p _ _ step kerf fine _ (SliceOf.ext HD.out (by repeat' (first | (with_reducible exact Ext.refl _) | (with_reducible exact ExtOf.ext _) | (with_reducible refine Ext.trans ?_ (ExtOf.ext _)) | (with_reducible refine Ext.alloc ?_ _) | (with_reducible refine Ext.drew ?_) | (with_reducible refine Ext.setCell ?_ ?_ _) | (with_reducible refine Ext.setRow ?_ ?_ _) | (with_reducible exact HX.out) | (with_reducible refine Ext.trans ?_ HX.out) | (with_reducible refine Ext.below ?_ (Nat.le_refl _) _) | omega | (simp; done) | (simp; omega)))) (SliceOf.ext HL.out (by repeat' (first | (with_reducible exact Ext.refl _) | (with_reducible exact ExtOf.ext _) | (with_reducible refine Ext.trans ?_ (ExtOf.ext _)) | (with_reducible refine Ext.alloc ?_ _) | (with_reducible refine Ext.drew ?_) | (with_reducible refine Ext.setCell ?_ ?_ _) | (with_reducible refine Ext.setRow ?_ ?_ _) | (with_reducible exact HX.out) | (with_reducible refine Ext.trans ?_ HX.out) | (with_reducible refine Ext.below ?_ (Nat.le_refl _) _) | omega | (simp; done) | (simp; omega)))) (SliceOf.ext HP.out (by repeat' (first | (with_reducible exact Ext.refl _) | (with_reducible exact ExtOf.ext _) | (with_reducible refine Ext.trans ?_ (ExtOf.ext _)) | (with_reducible refine Ext.alloc ?_ _) | (with_reducible refine Ext.drew ?_) | (with_reducible refine Ext.setCell ?_ ?_ _) | (with_reducible refine Ext.setRow ?_ ?_ _) | (with_reducible exact HX.out) | (with_reducible refine Ext.trans ?_ HX.out) | (with_reducible refine Ext.below ?_ (Nat.le_refl _) _) | omega | (simp; done) | (simp; omega))))).mono ?_; rintro e w' ⟨rfl, nc, rfl⟩) | ((with_reducible apply wl_store' lwLine); (· (first | exact wanted_none rfl | exact wanted_some rfl rfl rfl)); (· rfl); (· rfl); (· infer_instance); (· rfl); (· rfl); (· (simp [Value.oneCell'])); try simp only [setRow_alloc, setRow_new, setRow_new1, setRow_new2, setRow_new11, setRow_new111]))
    refine bodyPost_ret (results_cs (b0 := w.heap.size + 2) rfl lwLine rfl rfl inferInstance rfl) rfl ⟨zLine, by rw [HE.out]; rfl, fun _ => rfl, fun h => absurd h H0.out, by exact ExtOf.of (by repeat' (first | (with_reducible exact Ext.refl _) | (with_reducible exact ExtOf.ext _) | (with_reducible refine Ext.trans ?_ (ExtOf.ext _)) | (with_reducible refine Ext.alloc ?_ _) | (with_reducible refine Ext.drew ?_) | (with_reducible refine Ext.setCell ?_ ?_ _) | (with_reducible refine Ext.setRow ?_ ?_ _) | (with_reducible exact HX.out) | (with_reducible refine Ext.trans ?_ HX.out) | (with_reducible refine Ext.below ?_ (Nat.le_refl _) _) | omega | (simp; done) | (simp; omega)))⟩
  replace r0 := Classical.not_not.1 r0
  have h1 : (chkR x.b ds p step kerf fine != 0) = false := bne_eq_false_iff_eq.2 r0
  have HU : Hid (chkE x.b ds p step kerf fine = if (x.b.zb - x.b.za) / step > 2000 then 9 else 0) := Lib.hid (by rw [HER.out, if_neg (by simp [r0])])
  obtain ⟨⟨hs1, hs2⟩, ⟨hk1, hk2⟩, ⟨hz1, hz2, hz3⟩⟩ := chkR_zero r0
  have hun0 : 0 ≤ (x.b.zb - x.b.za) / step := Int.ediv_nonneg (by omega) (by omega)
  obtain ⟨u, hu⟩ : ∃ u : Nat, (x.b.zb - x.b.za) / step = (u : Int) := ⟨((x.b.zb - x.b.za) / step).toNat, by omega⟩
  have hkk0 : 0 ≤ (kerf + step - 1) / step := Int.ediv_nonneg (by omega) (by omega)
  obtain ⟨kk, hkk⟩ : ∃ k : Nat, (kerf + step - 1) / step = (k : Int) := ⟨((kerf + step - 1) / step).toNat, by omega⟩
  clear r0 HER hun0 hkk0
  go_enter Tryz.func20, Tryz.ntmps20
  go_wp2_with (first | ((with_reducible apply wl_load' lwBd); (· (first | exact wanted_none rfl | exact wanted_some rfl rfl rfl)); (· rfl); (· infer_instance); (· rfl)) | ((with_reducible apply wl_load' lwPd); (· (first | exact wanted_none rfl | exact wanted_some rfl rfl rfl)); (· rfl); (· infer_instance); (· rfl)) | (go_at_call 42; refine (rcheck26_any x _ ds p _ _ step kerf fine _ (SliceOf.ext HD.out (by repeat' (first | (with_reducible exact Ext.refl _) | (with_reducible exact ExtOf.ext _) | (with_reducible refine Ext.trans ?_ (ExtOf.ext _)) | (with_reducible refine Ext.alloc ?_ _) | (with_reducible refine Ext.drew ?_) | (with_reducible refine Ext.setCell ?_ ?_ _) | (with_reducible refine Ext.setRow ?_ ?_ _) | (with_reducible exact HX.out) | (with_reducible refine Ext.trans ?_ HX.out) | (with_reducible refine Ext.below ?_ (Nat.le_refl _) _) | omega | (simp; done) | (simp; omega)))) (SliceOf.ext HL.out (by repeat' (first | (with_reducible exact Ext.refl _) | (with_reducible exact ExtOf.ext _) | (with_reducible refine Ext.trans ?_ (ExtOf.ext _)) | (with_reducible refine Ext.alloc ?_ _) | (with_reducible refine Ext.drew ?_) | (with_reducible refine Ext.setCell ?_ ?_ _) | (with_reducible refine Ext.setRow ?_ ?_ _) | (with_reducible exact HX.out) | (with_reducible refine Ext.trans ?_ HX.out) | (with_reducible refine Ext.below ?_ (Nat.le_refl _) _) | omega | (simp; done) | (simp; omega)))) (SliceOf.ext HP.out (by repeat' (first | (with_reducible exact Ext.refl _) | (with_reducible exact ExtOf.ext _) | (with_reducible refine Ext.trans ?_ (ExtOf.ext _)) | (with_reducible refine Ext.alloc ?_ _) | (with_reducible refine Ext.drew ?_) | (with_reducible refine Ext.setCell ?_ ?_ _) | (with_reducible refine Ext.setRow ?_ ?_ _) | (with_reducible exact HX.out) | (with_reducible refine Ext.trans ?_ HX.out) | (with_reducible refine Ext.below ?_ (Nat.le_refl _) _) | omega | (simp; done) | (simp; omega))))).mono ?_; rintro e w' ⟨rfl, nc, rfl⟩) | ((with_reducible apply wl_store' lwLine); (· (first | exact wanted_none rfl | exact wanted_some rfl rfl rfl)); (· rfl); (· rfl); (· infer_instance); (· rfl); (· rfl); (· (simp [Value.oneCell'])); try simp only [setRow_alloc, setRow_new, setRow_new1, setRow_new2, setRow_new11, setRow_new111]))
  have kb0 : Block nc.val w.heap.size #[.string x.id, .string x.lg, .string x.sp, .int .i64 x.pr, .int .i64 x.b.xa, .int .i64 x.b.xb, .int .i64 x.b.ya, .int .i64 x.b.yb, .int .i64 x.b.za, .int .i64 x.b.zb, .int .i64 x.vol, .slice q ds.length cap, .int .i64 x.wa, .int .i64 x.su, .int .i64 x.co, .int .i64 x.st, .bool x.dr, .int .i64 x.gr] := inferInstance
  have kb1 : Block nc.val (w.heap.size + 1) #[.string p.nm, .int .i64 p.th, .int .i64 p.wi, .int .i64 p.al, .int .i64 p.wa, .slice lq p.ls.length lcap, .slice pq p.ps.length pcap] := inferInstance
  have kb2 : Block nc.val (w.heap.size + 1 + 1) #[.int .i64 0, .int .i64 0, .int .i64 0, .slice none 0 0, .slice none 0 0, .slice none 0 0, .slice none 0 0] := inferInstance
  have HXn : Hid (Ext w nc.val) := Lib.hid (by repeat' (first | (with_reducible exact Ext.refl _) | (with_reducible exact ExtOf.ext _) | (with_reducible refine Ext.trans ?_ (ExtOf.ext _)) | (with_reducible refine Ext.alloc ?_ _) | (with_reducible refine Ext.drew ?_) | (with_reducible refine Ext.setCell ?_ ?_ _) | (with_reducible refine Ext.setRow ?_ ?_ _) | (with_reducible exact HX.out) | (with_reducible refine Ext.trans ?_ HX.out) | (with_reducible refine Ext.below ?_ (Nat.le_refl _) _) | omega | (simp; done) | (simp; omega)))
  have hszn : w.heap.size + 3 ≤ nc.val.heap.size := by have := nc.size; simp at this; omega
  generalize nc.val = Wn at *
  apply wp_region_maker [true, true, true, true, true, true, true, true, true, true, true, true, true, true, true, true, true, true] 18 [false, false, false, false, false, false, false, false, false, false, false, false, false, false, false, false, false, false, false, true] _ 13 (MadeP Wn #[.int .i64 0, .int .i64 0, .int .i64 0, .slice none 0 0, .slice none 0 0, .slice none 0 0, .slice none 0 0]) 19 [] (by kernel_rfl) rfl rfl (by kernel_rfl) (by kernel_rfl) (by kernel_rfl) (by kernel_rfl) MadeP.keep
  · intro S hS hN R hR
    simp only [part]
    repeat (first | go_big_quiet_skip | go_big_quiet_step (fail))
    with_reducible refine wpQuiet_nil ?_
    exact hR
  · refine ⟨wanted_none rfl, fun W' hx' => ⟨.pointer (some ⟨W'.heap.size, 0, none⟩), W'.alloc (.cells #[.int .i64 0, .int .i64 0, .int .i64 0, .slice none 0 0, .slice none 0 0, .slice none 0 0, .slice none 0 0] 58), ?_, (Ext.refl _).alloc _, MadeP.new hx'⟩⟩
    simp [go_sem]
  intro v' W' hx' hmade
  obtain ⟨gn, rfl, hgn, hbn⟩ := hmade
  simp only [part, Act.put, List.setIfInBounds_toArray, List.set_cons_succ, List.set_cons_zero]
  have kc0 := kb0.ext hx'
  have kc1 := kb1.ext hx'
  have kc2 := kb2.ext hx'
  have hszw := hx'.size
  have ap0 : Apart gn w.heap.size := ⟨by omega⟩
  have ap1 : Apart gn (w.heap.size + 1) := ⟨by omega⟩
  have ap2 : Apart gn (w.heap.size + 1 + 1) := ⟨by omega⟩
  have ap3 : Apart (w.heap.size + 1 + 1) gn := ⟨by omega⟩
  have hgnW : gn < W'.heap.size := hbn.lt
  have HXW := Lib.hid (HXn.out.trans hx')
  clear kb0 kb1 kb2 hx' HXn
  by_cases hbig : 2000 < u
  · have HE : Hid (chkE x.b ds p step kerf fine = 9) := Lib.hid (by rw [HU.out, if_pos (by omega)])
    go_wp2_with (((with_reducible apply wl_store' lwLine); (· (first | exact wanted_none rfl | exact wanted_some rfl rfl rfl)); (· rfl); (· rfl); (· infer_instance); (· rfl); (· rfl); (· (simp [Value.oneCell'])); try simp only [setRow_alloc, setRow_new, setRow_new1, setRow_new2, setRow_new11, setRow_new111]))
    refine bodyPost_ret (results_cs (b0 := w.heap.size + 1 + 1) rfl lwLine rfl rfl inferInstance rfl) rfl ⟨zLine, by rw [HE.out]; rfl, fun _ => rfl, fun h => absurd h (by rw [HE.out]; decide), ExtOf.of (Ext.setRow (Ext.setRow HXW.out (by omega) _) (by omega) _)⟩
  have h0 : chkE x.b ds p step kerf fine = 0 := by rw [HU.out, if_neg (by omega)]
  have HC := Lib.hid (chkE_zero h0)
  have H0 := Lib.hid h0
  obtain ⟨hf1, hf2⟩ := HC.out.fin
  have hu2 : u ≤ 2000 := by omega
  clear h0 HU
  go_wp2_with (((with_reducible apply wl_store' lwLine); (· (first | exact wanted_none rfl | exact wanted_some rfl rfl rfl)); (· rfl); (· rfl); (· infer_instance); (· rfl); (· rfl); (· (simp [Value.oneCell'])); try simp only [setRow_alloc, setRow_new, setRow_new1, setRow_new2, setRow_new11, setRow_new111]))
  obtain ⟨gl, rfl⟩ : ∃ g, g = gn := ⟨_, rfl⟩
  obtain ⟨W0, hW0⟩ : ∃ W0, W0 = W'.setRow gl #[.int .i64 (u : Int), .int .i64 (kk : Int), .int .i64 1, .slice none 0 0, .slice none 0 0, .slice none 0 0, .slice none 0 0] := ⟨_, rfl⟩
  have hB0 : Block W0 w.heap.size #[.string x.id, .string x.lg, .string x.sp, .int .i64 x.pr, .int .i64 x.b.xa, .int .i64 x.b.xb, .int .i64 x.b.ya, .int .i64 x.b.yb, .int .i64 x.b.za, .int .i64 x.b.zb, .int .i64 x.vol, .slice q ds.length cap, .int .i64 x.wa, .int .i64 x.su, .int .i64 x.co, .int .i64 x.st, .bool x.dr, .int .i64 x.gr] := by rw [hW0]; infer_instance
  have hB1 : Block W0 (w.heap.size + 1) #[.string p.nm, .int .i64 p.th, .int .i64 p.wi, .int .i64 p.al, .int .i64 p.wa, .slice lq p.ls.length lcap, .slice pq p.ps.length pcap] := by rw [hW0]; infer_instance
  have hB2 : Block W0 (w.heap.size + 1 + 1) #[.int .i64 0, .int .i64 0, .int .i64 0, .slice none 0 0, .slice none 0 0, .slice none 0 0, .slice none 0 0] := by rw [hW0]; infer_instance
  have hB3 : Block W0 gl #[.int .i64 (u : Int), .int .i64 (kk : Int), .int .i64 1, .slice none 0 0, .slice none 0 0, .slice none 0 0, .slice none 0 0] := by rw [hW0]; infer_instance
  have HX0 : Hid (Ext w W0) := Lib.hid (by rw [hW0]; exact Ext.setRow HXW.out (by omega) _)
  have hsz : gl + 1 ≤ W0.heap.size := by rw [hW0]; simp [World.setRow]; omega
  have hlg : w.heap.size + 3 ≤ gl := by omega
  rw [← hW0]
  clear hW0 kc0 kc1 kc2 hbn HXW hszw hszn hgnW ap0 ap1 ap2 ap3
  have HLS0 : Hid (LineSt W0 (gl + 1) gl u kk (.slice none 0 0) (.slice none 0 0) (sizesTo p step 0) (rowsTo x.b ds p step fine u 0)) := Lib.hid ⟨hB3, by omega, hsz, Own.nil _, ⟨[], Own.nil _, rfl, fun i r l hr => by simp at hr⟩, Apt.nil _⟩
  obtain ⟨iI, hiI, hI0, hI1, hI2⟩ := info_parts infoInt
  obtain ⟨iR, hiR, hR0, hR1, hR2⟩ := info_parts infoRow
  have hgl2 : w.heap.size ≤ gl := by omega
  go_loopw [14] (fun v wr => ∃ (k : Nat) (vs vg : Value), k ≤ p.ls.length ∧ v = .int .i64 k ∧ LineSt wr (gl + 1) gl u kk vs vg (sizesTo p step k) (rowsTo x.b ds p step fine u k) ∧ Below gl W0 wr) (fun v _ => p.ls.length - (intOf v).toNat)
  case atStart => exact ⟨0, _, _, by omega, rfl, HLS0.out, Below.refl _ _⟩
  case round =>
    clear HLS0
    have HBF := Lib.hid (And.intro hB0 (And.intro hB1 hB2))
    obtain ⟨k, vs, vg, hk, rfl, hls, hbel⟩ := hrel
    replace hB0 := Block.below HBF.out.1 hbel (by omega)
    replace hB1 := Block.below HBF.out.2.1 hbel (by omega)
    replace hB2 := Block.below HBF.out.2.2 hbel (by omega)
    have HX : Hid (Ext w wr) := Lib.hid (Below.trans HX0.out (Below.mono hbel hgl2))
    have HLS := Lib.hid hls
    have HBE := Lib.hid hbel
    have hbl := hls.line
    have ob := hbl.old
    have hszr := hls.size
    clear hls hbel hB3 hsz
    by_cases hlt : k < p.ls.length
    · obtain ⟨b1, o1, rfl, ob1, c0⟩ := SliceOf.elem1 (SliceOf.ext HL.out HX.out) hlt rfl
      obtain ⟨n, hn⟩ : ∃ n, n = p.ls[k] := ⟨_, rfl⟩
      have hnr := HC.out.prod.lens p.ls[k] (List.getElem_mem hlt)
      rw [← hn] at c0 hnr
      have hkp : k < p.ps.length := by rw [HC.out.prod.same]; exact hlt
      have HKS := Lib.hid (keptTo_succ (step := step) hlt hkp)
      have HNE := Lib.hid hn
      have hk8 : p.ls.length ≤ 8 := HC.out.prod.len
      have hkl := keptTo_len p step k
      clear hn
      have hsz0 : 0 ≤ n / step := Int.ediv_nonneg (by omega) (by omega)
      obtain ⟨sz, hszz⟩ : ∃ s : Nat, n / step = (s : Int) := ⟨(n / step).toNat, by omega⟩
      clear hsz0
      by_cases t1 : n % step = 0
      · have t1' : (n % step != 0) = false := bne_eq_false_iff_eq.2 t1
        have HKD := Lib.hid (keeps_div hs1 t1)
        by_cases t2 : 2000 < sz
        · have t2' : decide (2000 < sz) = true := decide_eq_true t2
          have HK : Hid (keptTo p step (k + 1) = keptTo p step k) := Lib.hid (by rw [HKS.out, if_neg]; rw [← HNE.out, HKD.out, hszz]; simp; omega)
          clear t1
          go_wp2_with fail
          go_roundw
          case rel => exact ⟨k + 1, vs, vg, by omega, by first | rfl | go_num, by unfold sizesTo rowsTo; rw [HK.out]; exact HLS.out, HBE.out⟩
          case measure => simp [intOf]; omega
        · have t2' : decide (2000 < sz) = false := decide_eq_false t2
          have HK : Hid (keptTo p step (k + 1) = keptTo p step k ++ [(n, p.ps[k])]) := Lib.hid (by rw [HKS.out, if_pos]; rw [← HNE.out]; rw [← HNE.out, HKD.out, hszz]; simp; omega)
          have hq2 : n ≤ 2000 * step := by
            have h1 := HKD.out
            rw [hszz] at h1
            have h2 : decide ((sz : Int) ≤ 2000) = true := decide_eq_true (by omega)
            rw [h2] at h1
            simp only [keeps, decide_eq_true_eq] at h1
            exact h1.2
          have hq1 := (size_of hs1 hnr.1 t1 hq2).1
          clear t1
          go_wp2_with fail
          rw [hszz]
          obtain ⟨pr, hpr⟩ : ∃ z, z = p.ps[k] := ⟨_, rfl⟩
          have hprr := HC.out.prod.prices p.ps[k] (List.getElem_mem hkp)
          obtain ⟨b2, o2, hpq, ob2, c1⟩ := SliceOf.elem1 (SliceOf.ext HP.out HX.out) hkp rfl
          subst hpq
          rw [← hpr] at c1 hprr
          have HPE := Lib.hid hpr
          clear hpr
          have hszp : 1 ≤ sz := by omega
          have HB0 := Lib.hid hB0
          have HB1 := Lib.hid hB1
          have HC0 := Lib.hid c0
          have HC1 := Lib.hid c1
          clear hB0 hB1 hB2 c0 c1
          rename World => W2
          go_loopw [16, 17] (fun vr va wz => ∃ j : Nat, j ≤ u + 1 - sz ∧ va = .int .i64 j ∧ Own encI 1 3 W2.heap.size wz vr (rowTo x.b ds step fine n pr j) ∧ Ext W2 wz) (fun _ va _ => u + 1 - sz - (intOf va).toNat)
          case atStart => exact ⟨0, by omega, rfl, Own.nil _, Ext.refl _⟩
          case round =>
            obtain ⟨j, hj, rfl, how, hx2⟩ := hrel
            have HOW := Lib.hid how
            have HX2 := Lib.hid hx2
            have hB0 := HB0.out.ext hx2
            have hB1 := HB1.out.ext hx2
            have c1 := hx2.cell HC1.out
            have ob2 : Old b2 _ := Old.of_cell c1
            have hls2 := HLS.out.ext hx2
            have HLS2 := Lib.hid hls2
            have hbl2 := hls2.line
            have ob' := hbl2.old
            have hsz2 := hx2.size
            clear how hx2 hls2
            by_cases hjc : j < u + 1 - sz
            · have q1 : j + sz ≤ u := by omega
              have m1 : 0 ≤ (j : Int) * step := Int.mul_nonneg (by omega) (by omega)
              have m2 : (j : Int) * step ≤ 2000 * 20000 := Int.mul_le_mul (by omega) (by omega) (by omega) (by omega)
              have c0 := HX2.out.cell HC0.out
              have ob1' : Old b1 _ := Old.of_cell c0
              go_wp2_with fail
              have HX3 := Lib.hid HX2.out
              have HOW3 := Lib.hid HOW.out
              clear HX2 HOW HLS2 ob' hsz2
              rename World => W3
              have HDS : Hid (DfS W3 (.slice q ds.length cap) ds) := Lib.hid (SliceOf.ext HD.out (HX.out.trans HX3.out))
              have hd64 : ds.length ≤ 64 := by
                have := HC.out.defs
                unfold defsE at this
                split at this
                · cases this
                · omega
              have hlj := rowTo_len x.b ds step fine n pr j
              have HSUC := Lib.hid (rowTo_succ x.b ds step fine n pr j)
              obtain ⟨G, hG⟩ : ∃ G, G = TrimM.gain (x.b.part ((j : Int) * step) ((j : Int) * step + n)) fine ds pr := ⟨_, rfl⟩
              have HG := Lib.hid hG
              rw [← hG] at HSUC
              clear hG
              have HGA : Hid (∀ W', DfS W' (.slice q ds.length cap) ds → Calls Tryz.prog 43 #[.agg (bdC x (.slice q ds.length cap)), .agg #[.int .i64 (x.b.part ((j : Int) * step) ((j : Int) * step + n)).xa, .int .i64 (x.b.part ((j : Int) * step) ((j : Int) * step + n)).xb, .int .i64 (x.b.part ((j : Int) * step) ((j : Int) * step + n)).ya, .int .i64 (x.b.part ((j : Int) * step) ((j : Int) * step + n)).yb, .int .i64 (x.b.part ((j : Int) * step) ((j : Int) * step + n)).za, .int .i64 (x.b.part ((j : Int) * step) ((j : Int) * step + n)).zb], .int .i64 pr, .int .i64 fine] W' fun e w'' => e = .returned (.int .i64 G) ∧ ∃ n : ExtOf W', w'' = n.val) := Lib.hid (fun W' h => by rw [HG.out]; exact rgain_any x _ ds _ _ _ W' h hd64 hprr ⟨hf1, hf2⟩)
              apply wp_region_maker [true, true, true, true, true, true, true, true, true, true, true, true, true, true, true, true, true, true, true, true, true, true, true] 23 [false, false, false, false, false, false, false, false, false, false, false, false, false, false, false, false, false, false, false, false, false, false, false, false, true, true] _ 107 (MadeS W3 #[.int .i64 G]) 24 [25] (by kernel_rfl) rfl rfl (by kernel_rfl) (by kernel_rfl) (by kernel_rfl) (by kernel_rfl) MadeS.keep
              · intro S hS hN R hR
                simp only [part]
                repeat (first | go_big_quiet_skip | ((with_reducible apply q_loadS lwBd); (· (first | exact wanted_none rfl | exact wanted_some rfl rfl rfl)); (· rfl); (· infer_instance); (· rfl); simp only [Act.put, List.setIfInBounds_toArray, List.set_cons_succ, List.set_cons_zero]) | go_big_quiet_step ((first | (go_at_call 24; exact exts_call hS (rpart_any x _ _ _ _ (BOk.of HC.out))) | (go_at_call 43; exact exts_call hS (HGA.out _ (SliceOf.ext HDS.out (ExtS.ext _)))))))
                with_reducible refine wpQuiet_nil ?_
                exact hR
              · refine ⟨wanted_none rfl, fun W' hx' => ⟨.slice (some ⟨W'.heap.size, 0, none⟩) 1 1, W'.alloc (.cells #[.int .i64 G] 3), ?_, (Ext.refl _).alloc _, MadeS.new hx'⟩⟩
                simp [go_sem]
              intro v' W' hx' hmade
              obtain ⟨gn, rfl, hgn, hbn⟩ := hmade
              simp only [part, Act.put, List.setIfInBounds_toArray, List.set_cons_succ, List.set_cons_zero]
              have HX4 := Lib.hid (HX3.out.trans hx')
              have hszW := HX4.out.size
              go_wp2_with (at_builtin; refine wl_append1g (enc := encI) (k := 1) (E := 3) (base := W2.heap.size) (l := rowTo x.b ds step fine n pr j) (y := G) Tryz.underlying31 hiI hI0 hI1 hI2 rfl (by decide) encI_len encI_one rfl rfl (Own.ext HOW3.out hx') inferInstance rfl (by unfold maxLen; omega) (by omega) (by omega) ?_; intro v3 n3 ho3 hk3; have HO3 := Lib.hid ho3; clear ho3 hk3)
              go_roundw
              case rel => exact ⟨j + 1, by omega, by first | rfl | go_num, by rw [HSUC.out]; exact HO3.out, Below.trans HX4.out n3.below⟩
              case measure => simp [intOf]; omega
            · have hje : j = u + 1 - sz := by omega
              have q1 : ¬ (j + sz ≤ u) := by omega
              obtain ⟨rp, rn, rc, hvr, hrn, hrp⟩ := Own.low HOW.out
              subst hvr
              subst hrn
              obtain ⟨R0, hR0'⟩ : ∃ R, R = row x.b ds step fine u n pr := ⟨_, rfl⟩
              have HROW : Hid (rowTo x.b ds step fine n pr j = R0) := Lib.hid (by
                rw [hR0', hje]
                unfold rowTo row
                rw [hszz]
                congr 1)
              have HR0 := Lib.hid hR0'
              clear hR0'
              have HRS : Hid (RowSt wr (gl + 1) vs vg (rp, (rowTo x.b ds step fine n pr j).length, rc) R0) := Lib.hid ⟨by have := Own.slice encI_len HOW.out; have e := HROW.out; rw [e] at this; show IntS wr (.slice rp (rowTo x.b ds step fine n pr j).length rc) R0; rw [e]; exact this, fun a ha => by
                obtain ⟨q1, q2⟩ := hrp a ha
                obtain ⟨rs, g1, g2, g3⟩ := HLS.out.ownG
                exact ⟨by omega, q2, Own.block_lt HLS.out.ownS q1, Own.block_lt g1 q1⟩⟩
              clear hrp hjc hje
              have hlS : (sizesTo p step k).length ≤ k := by unfold sizesTo; rw [List.length_map]; exact hkl
              have hlR : (rowsTo x.b ds p step fine u k).length ≤ k := by unfold rowsTo; rw [List.length_map]; exact hkl
              have hg1 : gl + 1 ≤ wr.heap.size := HLS2.out.size
              go_wp2_with (first | (at_builtin; refine wl_append1g (dst := some 113) (enc := encI) (k := 1) (E := 3) (base := gl + 1) (l := sizesTo p step k) (y := (sz : Int)) Tryz.underlying31 hiI hI0 hI1 hI2 rfl (by decide) encI_len encI_one rfl rfl (Own.alloc HLS2.out.ownS _) inferInstance rfl (by unfold maxLen; omega) (by omega) (by simp; omega) ?_; intro v4 n4 ho4 hk4; obtain ⟨g4, c4, rfl, _, _⟩ := Own.formS ho4; have kb4 := Block.below (hbl2.ext ((Ext.refl _).alloc _)) n4.below (Nat.lt_succ_self gl); have HLS4 := Lib.hid (LineSt.pushS (HLS2.out.ext ((Ext.refl _).alloc _)) hk4 ho4); have HRS4 := Lib.hid (RowSt.pushS (HLS2.out.ext ((Ext.refl _).alloc _)) (HRS.out.ext ((Ext.refl _).alloc _)) hk4); have hbl4 := HLS4.out.line; have ob4 := hbl4.old; have hs4 := HLS4.out.size; clear ho4 hk4) | (at_builtin; (obtain ⟨rs4, f1, f2, f3⟩ := HLS4.out.ownG; refine wl_append1g (dst := some 119) (enc := encR) (k := 1) (E := 31) (base := gl + 1) (l := rs4) (y := (rp, (rowTo x.b ds step fine n pr j).length, rc)) Tryz.underlying56 hiR hR0 hR1 hR2 rfl (by decide) encR_len encR_one rfl rfl (Own.alloc f1 _) inferInstance rfl (by rw [f2]; unfold maxLen; omega) (by rw [f2]; omega) (by have h9 := hs4; simp at h9 ⊢; omega) ?_; intro v5 n5 ho5 hk5; obtain ⟨g5, c5, rfl, _, _⟩ := Own.formS ho5; have kb5 := Block.below (hbl4.ext ((Ext.refl _).alloc _)) n5.below (Nat.lt_succ_self gl); have HLS5 := Lib.hid (LineSt.pushG (HLS4.out.ext ((Ext.refl _).alloc _)) (Own.alloc f1 _) f2 (fun i r l hr hl => (f3 i r l hr hl).ext ((Ext.refl _).alloc _)) (HRS4.out.ext ((Ext.refl _).alloc _)) hk5 ho5); clear ho5 hk5)))
              have HLS6 : Hid (LineSt (n5.val.setCell ⟨gl, 4, none⟩ (.slice (some ⟨g5, 0, none⟩) ((rowsTo x.b ds p step fine u k).length + 1) c5)) (gl + 1) gl u kk (.slice (some ⟨g4, 0, none⟩) ((sizesTo p step k).length + 1) c4) (.slice (some ⟨g5, 0, none⟩) ((rowsTo x.b ds p step fine u k).length + 1) c5) (sizesTo p step (k + 1)) (rowsTo x.b ds p step fine u (k + 1))) := Lib.hid (by
                have h5 := HLS5.out
                rw [f2] at h5
                have e1 : sizesTo p step (k + 1) = sizesTo p step k ++ [(sz : Int)] := by
                  unfold sizesTo
                  rw [HK.out, List.map_append, List.map_cons, List.map_nil, hszz]
                have e2 : rowsTo x.b ds p step fine u (k + 1) = rowsTo x.b ds p step fine u k ++ [R0] := by
                  unfold rowsTo
                  rw [HK.out, List.map_append, List.map_cons, List.map_nil, ← HPE.out, ← HR0.out]
                rw [e1, e2]
                exact h5)
              have HBE5 : Hid (Below gl W0 (n5.val.setCell ⟨gl, 4, none⟩ (.slice (some ⟨g5, 0, none⟩) ((rowsTo x.b ds p step fine u k).length + 1) c5))) := Lib.hid (Below.setCell (Below.trans (Below.alloc (Below.setCell (Below.trans (Below.alloc (Below.trans HBE.out (Below.mono HX2.out (by omega))) (by omega) _) (Below.mono n4.below (Nat.le_succ _))) (Nat.le_refl _) _) (by omega) _) (Below.mono n5.below (Nat.le_succ _))) (Nat.le_refl _) _)
              go_roundw
              case rel => exact ⟨k + 1, _, _, by omega, by first | rfl | go_num, HLS6.out, HBE5.out⟩
              case measure => simp [intOf]; omega
      · have t1' : (n % step != 0) = true := bne_iff_ne.2 t1
        have HK : Hid (keptTo p step (k + 1) = keptTo p step k) := Lib.hid (by rw [HKS.out, if_neg]; rw [← HNE.out]; simp [keeps]; omega)
        clear t1
        go_wp2_with fail
        go_roundw
        case rel => exact ⟨k + 1, vs, vg, by omega, by first | rfl | go_num, by unfold sizesTo rowsTo; rw [HK.out]; exact HLS.out, HBE.out⟩
        case measure => simp [intOf]; omega
    · have hke : p.ls.length ≤ k := by omega
      have HKE : Hid (keptTo p step k = kept p step) := Lib.hid (keptTo_all hke)
      have hm2 := run_make_row' (P := Tryz.prog) 31 3 (.int .i64 0) 8 Tryz.underlying31 infoInt rfl .i64 .i64 u (by omega) (by omega)
      rw [madeI] at hm2
      have hszl := HLS.out.size
      obtain ⟨rsl, gsl1, gsl2, gsl3⟩ := HLS.out.ownG
      obtain ⟨pvs, nvs, cvs, evs, -, -⟩ := Own.low HLS.out.ownS
      obtain ⟨pvg, nvg, cvg, evg, -, -⟩ := Own.low gsl1
      subst evs
      subst evg
      clear gsl1 gsl2 gsl3
      have hB2' : Block wr (w.heap.size + 1 + 1) #[.int .i64 0, .int .i64 0, .int .i64 0, .slice none 0 0, .slice none 0 0, .slice none 0 0, .slice none 0 0] := hB2
      have ap1 : Apart gl (w.heap.size + 1 + 1) := ⟨by omega⟩
      have ap2 : Apart (w.heap.size + 1 + 1) gl := ⟨by omega⟩
      have ap3 : Apart gl (wr.heap.size + 1) := ⟨by omega⟩
      have ap4 : Apart (w.heap.size + 1 + 1) (wr.heap.size + 1) := ⟨by omega⟩
      have ob2 := hB2'.old
      clear hke
      go_wp2_with (first | (((with_reducible apply wl_load' lwLine); (· (first | exact wanted_none rfl | exact wanted_some rfl rfl rfl)); (· rfl); (· infer_instance); (· rfl)); simp only [List.setIfInBounds_toArray, List.set_cons_succ, List.set_cons_zero]) | ((with_reducible apply wl_store' lwLine); (· (first | exact wanted_none rfl | exact wanted_some rfl rfl rfl)); (· rfl); (· rfl); (· infer_instance); (· rfl); (· rfl); (· (simp [Value.oneCell'])); try simp only [setRow_alloc, setRow_new, setRow_new1, setRow_new2, setRow_new11, setRow_new111]))
      refine bodyPost_ret (results_cs (b0 := w.heap.size + 1 + 1) rfl lwLine rfl rfl inferInstance rfl) rfl ⟨_, by rw [H0.out]; rfl, fun h => absurd H0.out h, fun _ => ?_, by exact ExtOf.of (by repeat' (first | (with_reducible exact Ext.refl _) | (with_reducible exact ExtOf.ext _) | (with_reducible refine Ext.trans ?_ (ExtOf.ext _)) | (with_reducible refine Ext.alloc ?_ _) | (with_reducible refine Ext.drew ?_) | (with_reducible refine Ext.setCell ?_ ?_ _) | (with_reducible refine Ext.setRow ?_ ?_ _) | (with_reducible exact HX.out) | (with_reducible refine Ext.trans ?_ HX.out) | (with_reducible refine Ext.below ?_ (Nat.le_refl _) _) | omega | (simp; done) | (simp; omega)))⟩
      intro w2 hw2
      refine LineS.of (S := sizesTo p step k) (G := rowsTo x.b ds p step fine u k) (by show ((x.b.zb - x.b.za) / step).toNat = u; rw [hu]; rfl) (by show ((kerf + step - 1) / step).toNat = kk; rw [hkk]; rfl) ?_ ?_ (LineSt.gridW HLS.out ?_) (zerosS (Block.same hw2 (by omega) inferInstance) (by unfold maxLen; omega)) (zerosS (Block.same hw2 (by omega) inferInstance) (by unfold maxLen; omega))
      · unfold sizesTo
        rw [HKE.out, line_sizes, List.map_map]
        refine List.map_congr_left fun q hq => ?_
        obtain ⟨_, k1, k2, k3, k4, k5, k6⟩ := kept_mem HC.out.prod hq
        have := size_of hs1 k1 k5 k6
        show q.1 / step = (((q.1 / step).toNat : Nat) : Int)
        omega
      · unfold rowsTo
        rw [HKE.out, line_rows, hu]
      · intro q hq1 hq2
        have n1 : ¬ q = gl := by omega
        have n2 : ¬ q = w.heap.size + 1 + 1 := by omega
        rw [hw2 q (by omega) (by simp [World.setRow, World.setCell]; omega)]
        exact tail_heap wr _ _ _ _ gl _ _ hq2 n1 n2
end Go.Proofs.YtdalbfanfbeckaaGreatDoor
