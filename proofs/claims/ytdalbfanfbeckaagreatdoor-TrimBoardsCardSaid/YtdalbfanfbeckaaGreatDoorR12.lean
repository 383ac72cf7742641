/-
  Chapter 26: the line of a board.
-/
import Derived.Test.YtdalbfanfbeckaaGreatDoorK11
set_option linter.unusedVariables false
set_option linter.unusedSimpArgs false
namespace Go.Proofs.YtdalbfanfbeckaaGreatDoor
open Go.RowKit TrimM

attribute [local go_sem] ExtOf.cell ExtOf.frozen ExtS.cell ExtS.frozen Block.cell Block.frozen ExtB.cell ExtB.frozen alloc_cell alloc_frozen
theorem madeI (n : Nat) : madeCells #[Value.int .i64 0] n = Array.replicate n (Value.int .i64 0) := by
  apply Array.ext_getElem?
  intro j
  by_cases h : j < n
  · simp [madeCells, h, Nat.mod_one]
  · simp [madeCells, h]
theorem zerosS {w : World} {g n : Nat} (h : Block w g (Array.replicate n (.int .i64 0))) (hn : n ≤ maxLen) : IntS w (.slice (some ⟨g, 0, none⟩) n n) (List.replicate n 0) := by
  refine ⟨some ⟨g, 0, none⟩, n, by simp, by simp, hn, (fun h => by cases h), fun i x hi => ⟨g, 0, rfl, fun j u hj => ?_⟩⟩
  have hi1 := (List.getElem?_eq_some_iff.1 hi).1
  have hx := (List.getElem?_eq_some_iff.1 hi).2
  simp at hi1 hx
  subst hx
  have hj0 : j = 0 := by
    have := (List.getElem?_eq_some_iff.1 hj).1
    simp [encI] at this
    exact this
  subst hj0
  have hu : u = .int .i64 0 := by simpa [encI] using hj.symm
  rw [hu, Block.cell (h := h)]
  simp [hi1]
/-- the lengths among the first k that the line has, with their prices -/
def keptTo (p : Pdt) (step : Int) (k : Nat) : List (Int × Int) := ((p.ls.zip p.ps).take k).filter fun q => keeps step q.1
theorem keptTo_zero (p : Pdt) (step : Int) : keptTo p step 0 = [] := rfl
theorem keptTo_all {p : Pdt} {step : Int} {k : Nat} (hk : p.ls.length ≤ k) : keptTo p step k = kept p step := by
  unfold keptTo kept
  rw [List.take_of_length_le]
  rw [List.length_zip]; omega
theorem keptTo_succ {p : Pdt} {step : Int} {k : Nat} (h1 : k < p.ls.length) (h2 : k < p.ps.length) : keptTo p step (k + 1) = if keeps step p.ls[k] then keptTo p step k ++ [(p.ls[k], p.ps[k])] else keptTo p step k := by
  unfold keptTo
  have hz : k < (p.ls.zip p.ps).length := by rw [List.length_zip]; omega
  rw [List.take_succ_eq_append_getElem hz, List.filter_append]
  have e : (p.ls.zip p.ps)[k] = (p.ls[k], p.ps[k]) := List.getElem_zip
  rw [e]
  by_cases hk : keeps step p.ls[k] = true
  · simp [hk]
  · simp [hk]
theorem keptTo_len (p : Pdt) (step : Int) (k : Nat) : (keptTo p step k).length ≤ k := by
  unfold keptTo
  refine Nat.le_trans (List.length_filter_le _ _) ?_
  rw [List.length_take]; omega
def sizesTo (p : Pdt) (step : Int) (k : Nat) : List Int := (keptTo p step k).map fun q => q.1 / step
def rowsTo (b : Bx) (ds : List Df) (p : Pdt) (step fine un : Int) (k : Nat) : List (List Int) := (keptTo p step k).map fun q => row b ds step fine un q.1 q.2
/-- a row as far as it has come -/
def rowTo (b : Bx) (ds : List Df) (step fine n price : Int) (j : Nat) : List Int := (List.range j).map fun i : Nat => TrimM.gain (b.part ((i : Int) * step) ((i : Int) * step + n)) fine ds price
theorem rowTo_succ (b : Bx) (ds : List Df) (step fine n price : Int) (j : Nat) : rowTo b ds step fine n price (j + 1) = rowTo b ds step fine n price j ++ [TrimM.gain (b.part ((j : Int) * step) ((j : Int) * step + n)) fine ds price] := by
  unfold rowTo; rw [List.range_succ, List.map_append]; rfl
theorem rowTo_len (b : Bx) (ds : List Df) (step fine n price : Int) (j : Nat) : (rowTo b ds step fine n price j).length = j := by simp [rowTo]
def zLine : Array Value := #[.int .i64 0, .int .i64 0, .int .i64 0, .slice none 0 0, .slice none 0 0, .slice none 0 0, .slice none 0 0]
/-- a line that is read as such wherever the blocks from w's end on are as in w' -/
def LineW (w w' : World) (L : Ln) (cs : Array Value) : Prop := ∀ w2, (∀ q, w.heap.size ≤ q → q < w'.heap.size → w2.heap[q]? = w'.heap[q]?) → LineS w2 L cs
theorem LineW.here {w w' : World} {L : Ln} {cs : Array Value} (h : LineW w w' L cs) : LineS w' L cs := h w' fun _ _ _ => rfl
theorem Block.same {w' w2 : World} {g lo : Nat} {cs : Array Value} (hw : ∀ q, lo ≤ q → q < w'.heap.size → w2.heap[q]? = w'.heap[q]?) (hg : lo ≤ g) (h : Block w' g cs) : Block w2 g cs := by
  have hl := h.lt
  obtain ⟨t, e⟩ := h.get
  exact ⟨t, by rw [hw g hg hl]; exact e⟩
def LinePost (x : Bd) (ds : List Df) (p : Pdt) (step kerf fine : Int) (w : World) (e : Ending) (w' : World) : Prop :=
  ∃ cs, e = .returned (.tuple #[.agg cs, .int .i64 (chkE x.b ds p step kerf fine)]) ∧ (chkE x.b ds p step kerf fine ≠ 0 → cs = zLine) ∧ (chkE x.b ds p step kerf fine = 0 → LineW w w' (TrimM.line x.b ds p step kerf fine) cs) ∧ ∃ n : ExtOf w, w' = n.val
set_option maxHeartbeats 3200000 in
set_option maxRecDepth 20000 in
theorem line_any (x : Bd) (dv : Value) (ds : List Df) (p : Pdt) (lv pv : Value) (step kerf fine : Int) (w : World) (hd : DfS w dv ds) (hl : IntS w lv p.ls) (hp : IntS w pv p.ps) :
    Calls Tryz.prog 13 #[.agg (bdC x dv), .agg (pdC p lv pv), .int .i64 step, .int .i64 kerf, .int .i64 fine] w (LinePost x ds p step kerf fine w) := by
  obtain ⟨lq, lcap, rfl, hl1, hl2, hl3⟩ := SliceOf.form hl
  obtain ⟨pq, pcap, rfl, hp1, hp2, hp3⟩ := SliceOf.form hp
  obtain ⟨q, cap, rfl, hd1, hd2, hd3⟩ := SliceOf.form hd
  have HL := Lib.hid hl
  have HP := Lib.hid hp
  have HD := Lib.hid hd
  clear hl hp hd
  unfold LinePost
  unfold maxLen at hl2 hp2 hd2
  unfold bdC pdC
  by_cases h0 : ¬ chkE x.b ds p step kerf fine = 0
  · have h1 : (chkE x.b ds p step kerf fine != 0) = true := bne_iff_ne.2 h0
    have H0 := Lib.hid h0
    clear h0
    go_enter Tryz.func13, Tryz.ntmps13
    go_wp2_with (first | ((with_reducible apply wl_load' lwBd); (· (first | exact wanted_none rfl | exact wanted_some rfl rfl rfl)); (· rfl); (· infer_instance); (· rfl)) | ((with_reducible apply wl_load' lwPd); (· (first | exact wanted_none rfl | exact wanted_some rfl rfl rfl)); (· rfl); (· infer_instance); (· rfl)) | (go_at_call 29; refine (tcheck_any x _ ds p _ _ step kerf fine _ (SliceOf.ext HD.out (by repeat' (first | (with_reducible exact Ext.refl _) | (with_reducible exact ExtOf.ext _) | (with_reducible refine Ext.trans ?_ (ExtOf.ext _)) | (with_reducible refine Ext.alloc ?_ _) | (with_reducible refine Ext.drew ?_) | (with_reducible refine Ext.setCell ?_ ?_ _) | (with_reducible refine Ext.setRow ?_ ?_ _) | (with_reducible exact HX.out) | (with_reducible refine Ext.trans ?_ HX.out) | (with_reducible refine Ext.below ?_ (Nat.le_refl _) _) | omega | (simp; done) | (simp; omega)))) (SliceOf.ext HL.out (by repeat' (first | (with_reducible exact Ext.refl _) | (with_reducible exact ExtOf.ext _) | (with_reducible refine Ext.trans ?_ (ExtOf.ext _)) | (with_reducible refine Ext.alloc ?_ _) | (with_reducible refine Ext.drew ?_) | (with_reducible refine Ext.setCell ?_ ?_ _) | (with_reducible refine Ext.setRow ?_ ?_ _) | (with_reducible exact HX.out) | (with_reducible refine Ext.trans ?_ HX.out) | (with_reducible refine Ext.below ?_ (Nat.le_refl _) _) | omega | (simp; done) | (simp; omega)))) (SliceOf.ext HP.out (by repeat' (first | (with_reducible exact Ext.refl _) | (with_reducible exact ExtOf.ext _) | (with_reducible refine Ext.trans ?_ (ExtOf.ext _)) | (with_reducible refine Ext.alloc ?_ _) | (with_reducible refine Ext.drew ?_) | (with_reducible refine Ext.setCell ?_ ?_ _) | (with_reducible refine Ext.setRow ?_ ?_ _) | (with_reducible exact HX.out) | (with_reducible refine Ext.trans ?_ HX.out) | (with_reducible refine Ext.below ?_ (Nat.le_refl _) _) | omega | (simp; done) | (simp; omega))))).mono ?_; rintro e w' ⟨rfl, nc, rfl⟩) | ((with_reducible apply wl_store' lwLine); (· (first | exact wanted_none rfl | exact wanted_some rfl rfl rfl)); (· rfl); (· rfl); (· infer_instance); (· rfl); (· rfl); (· (simp [Value.oneCell'])); try simp only [setRow_alloc, setRow_new, setRow_new1, setRow_new2, setRow_new11, setRow_new111]))
    refine bodyPost_ret (results_cs (b0 := w.heap.size + 2) rfl lwLine rfl rfl inferInstance rfl) rfl ⟨zLine, rfl, fun _ => rfl, fun h => absurd h H0.out, by exact ExtOf.of (by repeat' (first | (with_reducible exact Ext.refl _) | (with_reducible exact ExtOf.ext _) | (with_reducible refine Ext.trans ?_ (ExtOf.ext _)) | (with_reducible refine Ext.alloc ?_ _) | (with_reducible refine Ext.drew ?_) | (with_reducible refine Ext.setCell ?_ ?_ _) | (with_reducible refine Ext.setRow ?_ ?_ _) | (with_reducible exact HX.out) | (with_reducible refine Ext.trans ?_ HX.out) | (with_reducible refine Ext.below ?_ (Nat.le_refl _) _) | omega | (simp; done) | (simp; omega)))⟩
  replace h0 := Classical.not_not.1 h0
  have h1 : (chkE x.b ds p step kerf fine != 0) = false := bne_eq_false_iff_eq.2 h0
  have HC := Lib.hid (chkE_zero h0)
  have H0 := Lib.hid h0
  clear h0
  obtain ⟨hs1, hs2⟩ := HC.out.stp
  obtain ⟨hk1, hk2⟩ := HC.out.krf
  obtain ⟨hf1, hf2⟩ := HC.out.fin
  obtain ⟨hz1, hz2, hz3⟩ := HC.out.z
  have hun := HC.out.units
  have hun0 : 0 ≤ (x.b.zb - x.b.za) / step := Int.ediv_nonneg (by omega) (by omega)
  obtain ⟨u, hu⟩ : ∃ u : Nat, (x.b.zb - x.b.za) / step = (u : Int) := ⟨((x.b.zb - x.b.za) / step).toNat, by omega⟩
  have hkk0 : 0 ≤ (kerf + step - 1) / step := Int.ediv_nonneg (by omega) (by omega)
  obtain ⟨kk, hkk⟩ : ∃ k : Nat, (kerf + step - 1) / step = (k : Int) := ⟨((kerf + step - 1) / step).toNat, by omega⟩
  have hu2 : u ≤ 2000 := by omega
  clear hun hun0 hkk0
  go_enter Tryz.func13, Tryz.ntmps13
  go_wp2_with (first | ((with_reducible apply wl_load' lwBd); (· (first | exact wanted_none rfl | exact wanted_some rfl rfl rfl)); (· rfl); (· infer_instance); (· rfl)) | ((with_reducible apply wl_load' lwPd); (· (first | exact wanted_none rfl | exact wanted_some rfl rfl rfl)); (· rfl); (· infer_instance); (· rfl)) | (go_at_call 29; refine (tcheck_any x _ ds p _ _ step kerf fine _ (SliceOf.ext HD.out (by repeat' (first | (with_reducible exact Ext.refl _) | (with_reducible exact ExtOf.ext _) | (with_reducible refine Ext.trans ?_ (ExtOf.ext _)) | (with_reducible refine Ext.alloc ?_ _) | (with_reducible refine Ext.drew ?_) | (with_reducible refine Ext.setCell ?_ ?_ _) | (with_reducible refine Ext.setRow ?_ ?_ _) | (with_reducible exact HX.out) | (with_reducible refine Ext.trans ?_ HX.out) | (with_reducible refine Ext.below ?_ (Nat.le_refl _) _) | omega | (simp; done) | (simp; omega)))) (SliceOf.ext HL.out (by repeat' (first | (with_reducible exact Ext.refl _) | (with_reducible exact ExtOf.ext _) | (with_reducible refine Ext.trans ?_ (ExtOf.ext _)) | (with_reducible refine Ext.alloc ?_ _) | (with_reducible refine Ext.drew ?_) | (with_reducible refine Ext.setCell ?_ ?_ _) | (with_reducible refine Ext.setRow ?_ ?_ _) | (with_reducible exact HX.out) | (with_reducible refine Ext.trans ?_ HX.out) | (with_reducible refine Ext.below ?_ (Nat.le_refl _) _) | omega | (simp; done) | (simp; omega)))) (SliceOf.ext HP.out (by repeat' (first | (with_reducible exact Ext.refl _) | (with_reducible exact ExtOf.ext _) | (with_reducible refine Ext.trans ?_ (ExtOf.ext _)) | (with_reducible refine Ext.alloc ?_ _) | (with_reducible refine Ext.drew ?_) | (with_reducible refine Ext.setCell ?_ ?_ _) | (with_reducible refine Ext.setRow ?_ ?_ _) | (with_reducible exact HX.out) | (with_reducible refine Ext.trans ?_ HX.out) | (with_reducible refine Ext.below ?_ (Nat.le_refl _) _) | omega | (simp; done) | (simp; omega))))).mono ?_; rintro e w' ⟨rfl, nc, rfl⟩) | ((with_reducible apply wl_store' lwLine); (· (first | exact wanted_none rfl | exact wanted_some rfl rfl rfl)); (· rfl); (· rfl); (· infer_instance); (· rfl); (· rfl); (· (simp [Value.oneCell'])); try simp only [setRow_alloc, setRow_new, setRow_new1, setRow_new2, setRow_new11, setRow_new111]))
  obtain ⟨W0, hW0⟩ : ∃ W0, W0 = nc.val.alloc (.cells #[.int .i64 u, .int .i64 kk, .int .i64 1, .slice none 0 0, .slice none 0 0, .slice none 0 0, .slice none 0 0] 58) := ⟨_, rfl⟩
  obtain ⟨gl, hgl⟩ : ∃ g, g = nc.val.heap.size := ⟨_, rfl⟩
  have hB0 : Block W0 w.heap.size #[.string x.id, .string x.lg, .string x.sp, .int .i64 x.pr, .int .i64 x.b.xa, .int .i64 x.b.xb, .int .i64 x.b.ya, .int .i64 x.b.yb, .int .i64 x.b.za, .int .i64 x.b.zb, .int .i64 x.vol, .slice q ds.length cap, .int .i64 x.wa, .int .i64 x.su, .int .i64 x.co, .int .i64 x.st, .bool x.dr, .int .i64 x.gr] := by rw [hW0]; infer_instance
  have hB1 : Block W0 (w.heap.size + 1) #[.string p.nm, .int .i64 p.th, .int .i64 p.wi, .int .i64 p.al, .int .i64 p.wa, .slice lq p.ls.length lcap, .slice pq p.ps.length pcap] := by rw [hW0]; infer_instance
  have hB2 : Block W0 (w.heap.size + 2) #[.int .i64 0, .int .i64 0, .int .i64 0, .slice none 0 0, .slice none 0 0, .slice none 0 0, .slice none 0 0] := by rw [hW0]; infer_instance
  have hB3 : Block W0 gl #[.int .i64 (u : Int), .int .i64 (kk : Int), .int .i64 1, .slice none 0 0, .slice none 0 0, .slice none 0 0, .slice none 0 0] := by rw [hW0, hgl]; infer_instance
  have HX0 : Hid (Ext w W0) := Lib.hid (by rw [hW0]; repeat' (first | (with_reducible exact Ext.refl _) | (with_reducible exact ExtOf.ext _) | (with_reducible refine Ext.trans ?_ (ExtOf.ext _)) | (with_reducible refine Ext.alloc ?_ _) | (with_reducible refine Ext.drew ?_) | (with_reducible refine Ext.setCell ?_ ?_ _) | (with_reducible refine Ext.setRow ?_ ?_ _) | (with_reducible exact HX.out) | (with_reducible refine Ext.trans ?_ HX.out) | (with_reducible refine Ext.below ?_ (Nat.le_refl _) _) | omega | (simp; done) | (simp; omega)))
  have hsz : gl + 1 ≤ W0.heap.size := by rw [hW0, hgl]; simp
  have hlg : w.heap.size + 3 ≤ gl := by rw [hgl]; have := nc.size; simp at this; omega
  rw [← hW0, ← hgl]
  clear hW0 hgl
  clear nc
  have HLS0 : Hid (LineSt W0 (gl + 1) gl u kk (.slice none 0 0) (.slice none 0 0) (sizesTo p step 0) (rowsTo x.b ds p step fine u 0)) := Lib.hid ⟨hB3, by omega, hsz, Own.nil _, ⟨[], Own.nil _, rfl, fun i r l hr => by simp at hr⟩, Apt.nil _⟩
  obtain ⟨iI, hiI, hI0, hI1, hI2⟩ := info_parts infoInt
  obtain ⟨iR, hiR, hR0, hR1, hR2⟩ := info_parts infoRow
  have hgl2 : w.heap.size ≤ gl := by omega
  go_loopw [53] (fun v wr => ∃ (k : Nat) (vs vg : Value), k ≤ p.ls.length ∧ v = .int .i64 k ∧ LineSt wr (gl + 1) gl u kk vs vg (sizesTo p step k) (rowsTo x.b ds p step fine u k) ∧ Below gl W0 wr) (fun v _ => p.ls.length - (intOf v).toNat)
  case atStart => exact ⟨0, _, _, by omega, rfl, HLS0.out, Below.refl _ _⟩
  case round =>
    clear HLS0
    have HBF := Lib.hid (And.intro hB0 (And.intro hB1 hB2))
    obtain ⟨k, vs, vg, hk, rfl, hls, hbel⟩ := hrel
    replace hB0 := Block.below HBF.out.1 hbel (by omega)
    replace hB1 := Block.below HBF.out.2.1 hbel (by omega)
    replace hB2 := Block.below HBF.out.2.2 hbel (by omega)
    have HX : Hid (Ext w wr) := Lib.hid (Below.trans HX0.out (Below.mono hbel hgl2))
    have HLS := Lib.hid hls
    have HBE := Lib.hid hbel
    have hbl := hls.line
    have ob := hbl.old
    have hszr := hls.size
    clear hls hbel hB3 hsz
    by_cases hlt : k < p.ls.length
    · obtain ⟨b1, o1, rfl, ob1, c0⟩ := SliceOf.elem1 (SliceOf.ext HL.out HX.out) hlt rfl
      obtain ⟨n, hn⟩ : ∃ n, n = p.ls[k] := ⟨_, rfl⟩
      have hnr := HC.out.prod.lens p.ls[k] (List.getElem_mem hlt)
      rw [← hn] at c0 hnr
      have hkp : k < p.ps.length := by rw [HC.out.prod.same]; exact hlt
      have HKS := Lib.hid (keptTo_succ (step := step) hlt hkp)
      have HNE := Lib.hid hn
      have hk8 : p.ls.length ≤ 8 := HC.out.prod.len
      have hkl := keptTo_len p step k
      clear hn
      by_cases t1 : n % step = 0
      · have t1' : (n % step != 0) = false := bne_eq_false_iff_eq.2 t1
        by_cases t2 : 2000 * step < n
        · have t2' : decide (2000 * step < n) = true := decide_eq_true t2
          have HK : Hid (keptTo p step (k + 1) = keptTo p step k) := Lib.hid (by rw [HKS.out, if_neg]; rw [← HNE.out]; simp [keeps]; omega)
          clear t1
          go_wp2_with fail
          go_roundw
          case rel => exact ⟨k + 1, vs, vg, by omega, by first | rfl | go_num, by unfold sizesTo rowsTo; rw [HK.out]; exact HLS.out, HBE.out⟩
          case measure => simp [intOf]; omega
        · have t2' : decide (2000 * step < n) = false := decide_eq_false t2
          have HK : Hid (keptTo p step (k + 1) = keptTo p step k ++ [(n, p.ps[k])]) := Lib.hid (by rw [HKS.out, if_pos]; rw [← HNE.out]; rw [← HNE.out]; simp [keeps]; omega)
          obtain ⟨hq1, hq2⟩ := size_of hs1 hnr.1 t1 (by omega)
          obtain ⟨sz, hszz⟩ : ∃ s : Nat, n / step = (s : Int) := ⟨(n / step).toNat, by omega⟩
          clear t1
          go_wp2_with fail
          obtain ⟨pr, hpr⟩ : ∃ z, z = p.ps[k] := ⟨_, rfl⟩
          have hprr := HC.out.prod.prices p.ps[k] (List.getElem_mem hkp)
          obtain ⟨b2, o2, hpq, ob2, c1⟩ := SliceOf.elem1 (SliceOf.ext HP.out HX.out) hkp rfl
          subst hpq
          rw [← hpr] at c1 hprr
          have HPE := Lib.hid hpr
          clear hpr
          have hszp : 1 ≤ sz := by omega
          have HB0 := Lib.hid hB0
          have HB1 := Lib.hid hB1
          have HC0 := Lib.hid c0
          have HC1 := Lib.hid c1
          clear hB0 hB1 hB2 c0 c1
          rename World => W2
          go_loopw [18, 19] (fun vr va wz => ∃ j : Nat, j ≤ u + 1 - sz ∧ va = .int .i64 j ∧ Own encI 1 3 W2.heap.size wz vr (rowTo x.b ds step fine n pr j) ∧ Ext W2 wz) (fun _ va _ => u + 1 - sz - (intOf va).toNat)
          case atStart => exact ⟨0, by omega, rfl, Own.nil _, Ext.refl _⟩
          case round =>
            obtain ⟨j, hj, rfl, how, hx2⟩ := hrel
            have HOW := Lib.hid how
            have HX2 := Lib.hid hx2
            have hB0 := HB0.out.ext hx2
            have hB1 := HB1.out.ext hx2
            have c1 := hx2.cell HC1.out
            have ob2 : Old b2 _ := Old.of_cell c1
            have hls2 := HLS.out.ext hx2
            have HLS2 := Lib.hid hls2
            have hbl2 := hls2.line
            have ob' := hbl2.old
            have hsz2 := hx2.size
            clear how hx2 hls2
            by_cases hjc : j < u + 1 - sz
            · have q1 : j + sz ≤ u := by omega
              have m1 : 0 ≤ (j : Int) * step := Int.mul_nonneg (by omega) (by omega)
              have m2 : (j : Int) * step ≤ 2000 * 20000 := Int.mul_le_mul (by omega) (by omega) (by omega) (by omega)
              go_wp2_with (((with_reducible apply wl_store' lwSpan); (· (first | exact wanted_none rfl | exact wanted_some rfl rfl rfl)); (· rfl); (· rfl); (· infer_instance); (· rfl); (· rfl); (· (simp [Value.oneCell'])); try simp only [setRow_alloc, setRow_new, setRow_new1, setRow_new2, setRow_new11, setRow_new111]))
              obtain ⟨gs, hgs⟩ : ∃ g, g = wr.heap.size := ⟨_, rfl⟩
              obtain ⟨W3, hW3⟩ : ∃ W, W = wr.alloc (.cells #[.int .i64 ((j : Int) * step), .int .i64 ((j : Int) * step + n)] 23) := ⟨_, rfl⟩
              have hax : Ext wr W3 := by rw [hW3]; exact (Ext.refl _).alloc _
              have kB0 := hB0.ext hax
              have kB1 := hB1.ext hax
              have kS : Block W3 gs #[.int .i64 ((j : Int) * step), .int .i64 ((j : Int) * step + n)] := by rw [hW3, hgs]; infer_instance
              have kc1 := hax.cell c1
              have HX3 := Lib.hid (HX2.out.trans hax)
              have HOW3 := Lib.hid (Own.ext HOW.out hax)
              have ob3 : Old b2 W3 := Old.of_cell kc1
              rw [← hW3, ← hgs]
              clear hax hW3 hgs hB0 hB1 c1 ob2 HLS2 hbl2 ob' hsz2 HOW
              have HDS : Hid (DfS W3 (.slice q ds.length cap) ds) := Lib.hid (SliceOf.ext HD.out (HX.out.trans HX3.out))
              have hd64 : ds.length ≤ 64 := by
                have := HC.out.defs
                unfold defsE at this
                split at this
                · cases this
                · omega
              have hlj := rowTo_len x.b ds step fine n pr j
              have HSUC := Lib.hid (rowTo_succ x.b ds step fine n pr j)
              obtain ⟨G, hG⟩ : ∃ G, G = TrimM.gain (x.b.part ((j : Int) * step) ((j : Int) * step + n)) fine ds pr := ⟨_, rfl⟩
              have HG := Lib.hid hG
              rw [← hG] at HSUC
              clear hG
              have HGA : Hid (∀ W', DfS W' (.slice q ds.length cap) ds → Calls Tryz.prog 30 #[.agg (bdC x (.slice q ds.length cap)), .agg #[.int .i64 ((j : Int) * step), .int .i64 ((j : Int) * step + n)], .int .i64 pr, .int .i64 fine] W' fun e w'' => e = .returned (.int .i64 G) ∧ ∃ n : ExtOf W', w'' = n.val) := Lib.hid (fun W' h => by rw [HG.out]; exact gain_any x _ ds _ _ _ _ W' (BOk.of HC.out) h hd64 hprr ⟨hf1, hf2⟩)
              simp only [Act.put]
              apply wp_region_maker [true, true, true, true, true, true, true, true, true, true] 10 [false, false, false, false, false, false, false, false, false, false, false, true, true] _ 97 (MadeS W3 #[.int .i64 G]) 11 [12] (by kernel_rfl) rfl rfl (by kernel_rfl) (by kernel_rfl) (by kernel_rfl) (by kernel_rfl) MadeS.keep
              · intro S hS hN R hR
                simp only [part]
                repeat (first | go_big_quiet_skip | ((with_reducible apply q_loadS lwBd); (· (first | exact wanted_none rfl | exact wanted_some rfl rfl rfl)); (· rfl); (· infer_instance); (· rfl); simp only [Act.put, List.setIfInBounds_toArray, List.set_cons_succ, List.set_cons_zero]) | ((with_reducible apply q_loadS lwSpan); (· (first | exact wanted_none rfl | exact wanted_some rfl rfl rfl)); (· rfl); (· infer_instance); (· rfl); simp only [Act.put, List.setIfInBounds_toArray, List.set_cons_succ, List.set_cons_zero]) | go_big_quiet_step ((go_at_call 30; exact exts_call hS (HGA.out _ (SliceOf.ext HDS.out (ExtS.ext _))))))
                with_reducible refine wpQuiet_nil ?_
                exact hR
              · refine ⟨wanted_none rfl, fun W' hx' => ⟨.slice (some ⟨W'.heap.size, 0, none⟩) 1 1, W'.alloc (.cells #[.int .i64 G] 3), ?_, (Ext.refl _).alloc _, MadeS.new hx'⟩⟩
                simp [go_sem]
              intro v' W' hx' hmade
              obtain ⟨gn, rfl, hgn, hbn⟩ := hmade
              simp only [part, Act.put, List.setIfInBounds_toArray, List.set_cons_succ, List.set_cons_zero]
              have HX4 := Lib.hid (HX3.out.trans hx')
              have hszW := HX4.out.size
              go_wp2_with (at_builtin; refine wl_append1g (enc := encI) (k := 1) (E := 3) (base := W2.heap.size) (l := rowTo x.b ds step fine n pr j) (y := G) Tryz.underlying31 hiI hI0 hI1 hI2 rfl (by decide) encI_len encI_one rfl rfl (Own.ext HOW3.out hx') inferInstance rfl (by unfold maxLen; omega) (by omega) (by omega) ?_; intro v3 n3 ho3 hk3; have HO3 := Lib.hid ho3; clear ho3 hk3)
              go_roundw
              case rel => exact ⟨j + 1, by omega, by first | rfl | go_num, by rw [HSUC.out]; exact HO3.out, Below.trans HX4.out n3.below⟩
              case measure => simp [intOf]; omega
            · have hje : j = u + 1 - sz := by omega
              have q1 : ¬ (j + sz ≤ u) := by omega
              obtain ⟨rp, rn, rc, hvr, hrn, hrp⟩ := Own.low HOW.out
              subst hvr
              subst hrn
              obtain ⟨R0, hR0'⟩ : ∃ R, R = row x.b ds step fine u n pr := ⟨_, rfl⟩
              have HROW : Hid (rowTo x.b ds step fine n pr j = R0) := Lib.hid (by
                rw [hR0', hje]
                unfold rowTo row
                rw [hszz]
                congr 1)
              have HR0 := Lib.hid hR0'
              clear hR0'
              have HRS : Hid (RowSt wr (gl + 1) vs vg (rp, (rowTo x.b ds step fine n pr j).length, rc) R0) := Lib.hid ⟨by have := Own.slice encI_len HOW.out; have e := HROW.out; rw [e] at this; show IntS wr (.slice rp (rowTo x.b ds step fine n pr j).length rc) R0; rw [e]; exact this, fun a ha => by
                obtain ⟨q1, q2⟩ := hrp a ha
                obtain ⟨rs, g1, g2, g3⟩ := HLS.out.ownG
                exact ⟨by omega, q2, Own.block_lt HLS.out.ownS q1, Own.block_lt g1 q1⟩⟩
              clear hrp hjc hje
              have hlS : (sizesTo p step k).length ≤ k := by unfold sizesTo; rw [List.length_map]; exact hkl
              have hlR : (rowsTo x.b ds p step fine u k).length ≤ k := by unfold rowsTo; rw [List.length_map]; exact hkl
              have hg1 : gl + 1 ≤ wr.heap.size := HLS2.out.size
              go_wp2_with (first | (at_builtin; refine wl_append1g (dst := some 103) (enc := encI) (k := 1) (E := 3) (base := gl + 1) (l := sizesTo p step k) (y := (sz : Int)) Tryz.underlying31 hiI hI0 hI1 hI2 rfl (by decide) encI_len encI_one rfl rfl (Own.alloc HLS2.out.ownS _) inferInstance rfl (by unfold maxLen; omega) (by omega) (by simp; omega) ?_; intro v4 n4 ho4 hk4; obtain ⟨g4, c4, rfl, _, _⟩ := Own.formS ho4; have kb4 := Block.below (hbl2.ext ((Ext.refl _).alloc _)) n4.below (Nat.lt_succ_self gl); have HLS4 := Lib.hid (LineSt.pushS (HLS2.out.ext ((Ext.refl _).alloc _)) hk4 ho4); have HRS4 := Lib.hid (RowSt.pushS (HLS2.out.ext ((Ext.refl _).alloc _)) (HRS.out.ext ((Ext.refl _).alloc _)) hk4); have hbl4 := HLS4.out.line; have ob4 := hbl4.old; have hs4 := HLS4.out.size; clear ho4 hk4) | (at_builtin; (obtain ⟨rs4, f1, f2, f3⟩ := HLS4.out.ownG; refine wl_append1g (dst := some 109) (enc := encR) (k := 1) (E := 31) (base := gl + 1) (l := rs4) (y := (rp, (rowTo x.b ds step fine n pr j).length, rc)) Tryz.underlying56 hiR hR0 hR1 hR2 rfl (by decide) encR_len encR_one rfl rfl (Own.alloc f1 _) inferInstance rfl (by rw [f2]; unfold maxLen; omega) (by rw [f2]; omega) (by have h9 := hs4; simp at h9 ⊢; omega) ?_; intro v5 n5 ho5 hk5; obtain ⟨g5, c5, rfl, _, _⟩ := Own.formS ho5; have kb5 := Block.below (hbl4.ext ((Ext.refl _).alloc _)) n5.below (Nat.lt_succ_self gl); have HLS5 := Lib.hid (LineSt.pushG (HLS4.out.ext ((Ext.refl _).alloc _)) (Own.alloc f1 _) f2 (fun i r l hr hl => (f3 i r l hr hl).ext ((Ext.refl _).alloc _)) (HRS4.out.ext ((Ext.refl _).alloc _)) hk5 ho5); clear ho5 hk5)))
              have HLS6 : Hid (LineSt (n5.val.setCell ⟨gl, 4, none⟩ (.slice (some ⟨g5, 0, none⟩) ((rowsTo x.b ds p step fine u k).length + 1) c5)) (gl + 1) gl u kk (.slice (some ⟨g4, 0, none⟩) ((sizesTo p step k).length + 1) c4) (.slice (some ⟨g5, 0, none⟩) ((rowsTo x.b ds p step fine u k).length + 1) c5) (sizesTo p step (k + 1)) (rowsTo x.b ds p step fine u (k + 1))) := Lib.hid (by
                have h5 := HLS5.out
                rw [f2] at h5
                have e1 : sizesTo p step (k + 1) = sizesTo p step k ++ [(sz : Int)] := by
                  unfold sizesTo
                  rw [HK.out, List.map_append, List.map_cons, List.map_nil, hszz]
                have e2 : rowsTo x.b ds p step fine u (k + 1) = rowsTo x.b ds p step fine u k ++ [R0] := by
                  unfold rowsTo
                  rw [HK.out, List.map_append, List.map_cons, List.map_nil, ← HPE.out, ← HR0.out]
                rw [e1, e2]
                exact h5)
              have HBE5 : Hid (Below gl W0 (n5.val.setCell ⟨gl, 4, none⟩ (.slice (some ⟨g5, 0, none⟩) ((rowsTo x.b ds p step fine u k).length + 1) c5))) := Lib.hid (Below.setCell (Below.trans (Below.alloc (Below.setCell (Below.trans (Below.alloc (Below.trans HBE.out (Below.mono HX2.out (by omega))) (by omega) _) (Below.mono n4.below (Nat.le_succ _))) (Nat.le_refl _) _) (by omega) _) (Below.mono n5.below (Nat.le_succ _))) (Nat.le_refl _) _)
              go_roundw
              case rel => exact ⟨k + 1, _, _, by omega, by first | rfl | go_num, HLS6.out, HBE5.out⟩
              case measure => simp [intOf]; omega
      · have t1' : (n % step != 0) = true := bne_iff_ne.2 t1
        have HK : Hid (keptTo p step (k + 1) = keptTo p step k) := Lib.hid (by rw [HKS.out, if_neg]; rw [← HNE.out]; simp [keeps]; omega)
        clear t1
        go_wp2_with fail
        go_roundw
        case rel => exact ⟨k + 1, vs, vg, by omega, by first | rfl | go_num, by unfold sizesTo rowsTo; rw [HK.out]; exact HLS.out, HBE.out⟩
        case measure => simp [intOf]; omega
    · have hke : p.ls.length ≤ k := by omega
      have HKE : Hid (keptTo p step k = kept p step) := Lib.hid (keptTo_all hke)
      have hm2 := run_make_row' (P := Tryz.prog) 31 3 (.int .i64 0) 8 Tryz.underlying31 infoInt rfl .i64 .i64 u (by omega) (by omega)
      rw [madeI] at hm2
      have hszl := HLS.out.size
      obtain ⟨rsl, gsl1, gsl2, gsl3⟩ := HLS.out.ownG
      obtain ⟨pvs, nvs, cvs, evs, -, -⟩ := Own.low HLS.out.ownS
      obtain ⟨pvg, nvg, cvg, evg, -, -⟩ := Own.low gsl1
      subst evs
      subst evg
      clear gsl1 gsl2 gsl3
      have hB2' : Block wr (w.heap.size + 1 + 1) #[.int .i64 0, .int .i64 0, .int .i64 0, .slice none 0 0, .slice none 0 0, .slice none 0 0, .slice none 0 0] := hB2
      have ap1 : Apart gl (w.heap.size + 1 + 1) := ⟨by omega⟩
      have ap2 : Apart (w.heap.size + 1 + 1) gl := ⟨by omega⟩
      have ap3 : Apart gl (wr.heap.size + 1) := ⟨by omega⟩
      have ap4 : Apart (w.heap.size + 1 + 1) (wr.heap.size + 1) := ⟨by omega⟩
      have ob2 := hB2'.old
      clear hke
      go_wp2_with (first | (((with_reducible apply wl_load' lwLine); (· (first | exact wanted_none rfl | exact wanted_some rfl rfl rfl)); (· rfl); (· infer_instance); (· rfl)); simp only [List.setIfInBounds_toArray, List.set_cons_succ, List.set_cons_zero]) | ((with_reducible apply wl_store' lwLine); (· (first | exact wanted_none rfl | exact wanted_some rfl rfl rfl)); (· rfl); (· rfl); (· infer_instance); (· rfl); (· rfl); (· (simp [Value.oneCell'])); try simp only [setRow_alloc, setRow_new, setRow_new1, setRow_new2, setRow_new11, setRow_new111]))
      refine bodyPost_ret (results_cs (b0 := w.heap.size + 1 + 1) rfl lwLine rfl rfl inferInstance rfl) rfl ⟨_, by rw [H0.out]; rfl, fun h => absurd H0.out h, fun _ => ?_, by exact ExtOf.of (by repeat' (first | (with_reducible exact Ext.refl _) | (with_reducible exact ExtOf.ext _) | (with_reducible refine Ext.trans ?_ (ExtOf.ext _)) | (with_reducible refine Ext.alloc ?_ _) | (with_reducible refine Ext.drew ?_) | (with_reducible refine Ext.setCell ?_ ?_ _) | (with_reducible refine Ext.setRow ?_ ?_ _) | (with_reducible exact HX.out) | (with_reducible refine Ext.trans ?_ HX.out) | (with_reducible refine Ext.below ?_ (Nat.le_refl _) _) | omega | (simp; done) | (simp; omega)))⟩
      intro w2 hw2
      refine LineS.of (S := sizesTo p step k) (G := rowsTo x.b ds p step fine u k) (by show ((x.b.zb - x.b.za) / step).toNat = u; rw [hu]; rfl) (by show ((kerf + step - 1) / step).toNat = kk; rw [hkk]; rfl) ?_ ?_ (LineSt.gridW HLS.out ?_) (zerosS (Block.same hw2 (by omega) inferInstance) (by unfold maxLen; omega)) (zerosS (Block.same hw2 (by omega) inferInstance) (by unfold maxLen; omega))
      · unfold sizesTo
        rw [HKE.out, line_sizes, List.map_map]
        refine List.map_congr_left fun q hq => ?_
        obtain ⟨_, k1, k2, k3, k4, k5, k6⟩ := kept_mem HC.out.prod hq
        have := size_of hs1 k1 k5 k6
        show q.1 / step = (((q.1 / step).toNat : Nat) : Int)
        omega
      · unfold rowsTo
        rw [HKE.out, line_rows, hu]
      · intro q hq1 hq2
        have n1 : ¬ q = gl := by omega
        have n2 : ¬ q = w.heap.size + 1 + 1 := by omega
        rw [hw2 q (by omega) (by simp [World.setRow, World.setCell]; omega)]
        exact tail_heap wr _ _ _ _ gl _ _ hq2 n1 n2
end Go.Proofs.YtdalbfanfbeckaaGreatDoor
