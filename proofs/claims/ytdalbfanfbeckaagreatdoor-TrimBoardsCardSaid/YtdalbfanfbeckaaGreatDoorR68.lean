/-
  Chapter 26 (Boards): the reference's Boards: pieces that can be cut.
-/
import Derived.Test.YtdalbfanfbeckaaGreatDoorR67
import Derived.Deep.DeepCutAuto
set_option linter.unusedVariables false
set_option linter.unusedSimpArgs false
namespace Go.Proofs.YtdalbfanfbeckaaGreatDoor
open Go.RowKit TrimM

attribute [local go_sem] ExtOf.cell ExtOf.frozen ExtS.cell ExtS.frozen Block.cell Block.frozen ExtB.cell ExtB.frozen alloc_cell alloc_frozen
/-- what the values of the region that makes a board are -/
def bdA2 (x : Bd) (b : Nat) (vb vds : Value) (z1 z2 : Int) (d : Nat) (v : Value) : Prop := match d with
  | 80 => v = vb
  | 81 => v = .pointer (some ⟨b, 1, none⟩)
  | 82 => v = .string x.lg
  | 83 => v = .pointer (some ⟨b, 2, none⟩)
  | 84 => v = .string x.sp
  | 85 => v = .pointer (some ⟨b, 3, none⟩)
  | 86 => v = .int .i64 x.pr
  | 87 => v = .agg (bdC x vds)
  | 88 => v = .int .i64 z1
  | 89 => v = .int .i64 z2
  | 90 => v = .agg #[.int .i64 (x.b.slab z1 z2).xa, .int .i64 (x.b.slab z1 z2).xb, .int .i64 (x.b.slab z1 z2).ya, .int .i64 (x.b.slab z1 z2).yb, .int .i64 (x.b.slab z1 z2).za, .int .i64 (x.b.slab z1 z2).zb]
  | 91 => v = .pointer (some ⟨b, 11, none⟩)
  | 92 => v = vds
  | 93 => v = .agg (bdC x vds)
  | 94 => v = .int .i64 z1
  | 95 => v = .int .i64 z2
  | 96 => v = .agg #[.int .i64 (x.b.part z1 z2).xa, .int .i64 (x.b.part z1 z2).xb, .int .i64 (x.b.part z1 z2).ya, .int .i64 (x.b.part z1 z2).yb, .int .i64 (x.b.part z1 z2).za, .int .i64 (x.b.part z1 z2).zb]
  | 98 => v = .pointer (some ⟨b, 12, none⟩)
  | 99 => v = .int .i64 x.wa
  | 100 => v = .pointer (some ⟨b, 13, none⟩)
  | 101 => v = .agg #[.int .i64 x.su, .int .i64 x.co, .int .i64 x.st]
  | 102 => v = .pointer (some ⟨b, 16, none⟩)
  | 103 => v = .bool x.dr
  | _ => True
def bdF2 (x : Bd) (lo : Nat) (z1 z2 : Int) (l : List Df) (d : Nat) (v : Value) (w : World) : Prop := match d with
  | 97 => ∃ r : RowV, v = rowV r ∧ NewD lo l r w
  | 104 => ∃ r : RowV, v = .agg (nbC x (rowV r) (x.b.slab z1 z2)) ∧ NewD lo l r w
  | 105 => ∃ (r : RowV) (g : Nat), v = .slice (some ⟨g, 0, none⟩) 1 1 ∧ Block w g (nbC x (rowV r) (x.b.slab z1 z2)) ∧ lo ≤ g ∧ NewD lo l r w
  | _ => True
theorem bdA2_some (x : Bd) (b : Nat) (vb vds : Value) (z1 z2 : Int) (d : Nat) : ∃ v, bdA2 x b vb vds z1 z2 d v := by
  unfold bdA2; split <;> first | exact ⟨_, rfl⟩ | exact ⟨undef, trivial⟩
theorem bdF2_keep (x : Bd) (lo : Nat) (z1 z2 : Int) (l : List Df) (d : Nat) (v : Value) (w w' : World) (h : bdF2 x lo z1 z2 l d v w) (hx : Ext w w') : bdF2 x lo z1 z2 l d v w' := by
  unfold bdF2 at *
  split at h
  · obtain ⟨r, h1, h2⟩ := h; exact ⟨r, h1, h2.ext hx⟩
  · obtain ⟨r, h1, h2⟩ := h; exact ⟨r, h1, h2.ext hx⟩
  · obtain ⟨r, g, h1, h2, h3, h4⟩ := h; exact ⟨r, g, h1, h2.ext hx, h3, h4.ext hx⟩
  · trivial
/-- what the values of the region of the results are -/
def rtA (x : Bd) (vb vw vd vds : Value) (d : Nat) (v : Value) : Prop := match d with
  | 142 => v = vb
  | 143 => v = vd
  | 144 => v = .agg (bdC x vds)
  | 145 => v = vw
  | 146 => v = vd
  | 10 => v = vb
  | 11 => v = vd
  | 13 => v = .int .i64 0
  | _ => True
def rtF (l1 l2 : List Bx) (d : Nat) (v : Value) (w : World) : Prop := match d with
  | 147 => SliceOf encBx 6 w v l1
  | 148 => SliceOf encBx 6 w v l2
  | 12 => SliceOf encBx 6 w v l2
  | _ => True
theorem rtA_some (x : Bd) (vb vw vd vds : Value) (d : Nat) : ∃ v, rtA x vb vw vd vds d v := by
  unfold rtA; split <;> first | exact ⟨_, rfl⟩ | exact ⟨undef, trivial⟩
theorem rtF_keep (l1 l2 : List Bx) (d : Nat) (v : Value) (w w' : World) (h : rtF l1 l2 d v w) (hx : Ext w w') : rtF l1 l2 d v w' := by
  unfold rtF at *
  split at h
  · exact SliceOf.ext h hx
  · exact SliceOf.ext h hx
  · exact SliceOf.ext h hx
  · trivial
set_option maxHeartbeats 6400000 in
set_option maxRecDepth 20000 in
theorem rboards_good (x : Bd) (dv : Value) (ds : List Df) (p : Pdt) (lv pv : Value) (step kerf : Int) (P : List Sp) (vp : Value) (w : World) (hd : DfS w dv ds) (hl : IntS w lv p.ls) (hp : IntS w pv p.ps) (hpp : SpS w vp P) (hPl : P.length ≤ 10000) (h0 : chkE x.b ds p step kerf 0 = 0) (hc : ((TrimM.line x.b ds p step kerf 0).cuts 0 [] [] P).1 = 0) :
    Calls Tryz.prog 7 #[.agg (bdC x dv), .agg (pdC p lv pv), .int .i64 step, .int .i64 kerf, vp] w (BoardsPost x ds p step kerf P w) := by
  obtain ⟨qq, qcap, rfl, hq1, hq2, hq3⟩ := SliceOf.form hpp
  have HQ := Lib.hid hpp
  clear hpp
  obtain ⟨lq, lcap, rfl, hl1, hl2, hl3⟩ := SliceOf.form hl
  obtain ⟨pq, pcap, rfl, hp1, hp2, hp3⟩ := SliceOf.form hp
  obtain ⟨q, cap, rfl, hd1, hd2, hd3⟩ := SliceOf.form hd
  have HL := Lib.hid hl
  have HP := Lib.hid hp
  have HD := Lib.hid hd
  clear hl hp hd
  unfold maxLen at hl2 hp2 hd2
  unfold bdC pdC
  unfold maxLen at hq2
  obtain ⟨L, hLd⟩ : ∃ L, L = TrimM.line x.b ds p step kerf 0 := ⟨_, rfl⟩
  have hE : boardsE x.b ds p step kerf P = 0 := by unfold boardsE; rw [if_neg (by rw [h0]; decide), hc]
  have HE := Lib.hid hE
  have HCK := Lib.hid (chkE_zero h0)
  rw [← hLd] at hc
  have hch := cuts_chain P 0 [] [] hc
  have hDu : (L.cuts 0 [] [] P).2.1 = L.dusts 0 P := by rw [cuts_dust P 0 [] [] hch]; rfl
  have HCH := Lib.hid hch
  have HDU := Lib.hid hDu
  have HCZ := Lib.hid hc
  have HLD := Lib.hid hLd
  have h1 : (chkE x.b ds p step kerf 0 != 0) = false := bne_eq_false_iff_eq.2 h0
  have HFI : Hid L.Fine := Lib.hid (by rw [hLd]; exact line_fine (chkE_zero h0))
  have H0 := Lib.hid h0
  have hst := HCK.out.stp
  have hkf := HCK.out.krf
  have hzz := HCK.out.z
  have hun : (L.n : Int) * step ≤ x.b.zb - x.b.za := by rw [hLd]; exact (units_le HCK.out).1
  have hn : L.n ≤ 2000 := HFI.out.n
  have HBK := Lib.hid (BOk.of HCK.out)
  clear h0 hE hc hch hDu hLd
  obtain ⟨iX, hiX, hX0, hX1, hX2⟩ := info_parts infoBox
  obtain ⟨iR, hiR, hR0, hR1, hR2⟩ := info_parts infoBd
  go_enter Tryz.func7, Tryz.ntmps7
  go_wp2_with (first | ((with_reducible apply wl_load' lwBd); (· (first | exact wanted_none rfl | exact wanted_some rfl rfl rfl)); (· rfl); (· infer_instance); (· rfl)) | ((with_reducible apply wl_load' lwPd); (· (first | exact wanted_none rfl | exact wanted_some rfl rfl rfl)); (· rfl); (· infer_instance); (· rfl)) | (go_at_call 20; refine (rline_any x _ ds p _ _ step kerf 0 _ (SliceOf.ext HD.out (by repeat' (first | (with_reducible exact Ext.refl _) | (with_reducible exact ExtOf.ext _) | (with_reducible refine Ext.trans ?_ (ExtOf.ext _)) | (with_reducible refine Ext.alloc ?_ _) | (with_reducible refine Ext.drew ?_) | (with_reducible refine Ext.setCell ?_ ?_ _) | (with_reducible refine Ext.setRow ?_ ?_ _) | (with_reducible exact HX.out) | (with_reducible refine Ext.trans ?_ HX.out) | (with_reducible refine Ext.below ?_ (Nat.le_refl _) _) | omega | (simp; done) | (simp; omega)))) (SliceOf.ext HL.out (by repeat' (first | (with_reducible exact Ext.refl _) | (with_reducible exact ExtOf.ext _) | (with_reducible refine Ext.trans ?_ (ExtOf.ext _)) | (with_reducible refine Ext.alloc ?_ _) | (with_reducible refine Ext.drew ?_) | (with_reducible refine Ext.setCell ?_ ?_ _) | (with_reducible refine Ext.setRow ?_ ?_ _) | (with_reducible exact HX.out) | (with_reducible refine Ext.trans ?_ HX.out) | (with_reducible refine Ext.below ?_ (Nat.le_refl _) _) | omega | (simp; done) | (simp; omega)))) (SliceOf.ext HP.out (by repeat' (first | (with_reducible exact Ext.refl _) | (with_reducible exact ExtOf.ext _) | (with_reducible refine Ext.trans ?_ (ExtOf.ext _)) | (with_reducible refine Ext.alloc ?_ _) | (with_reducible refine Ext.drew ?_) | (with_reducible refine Ext.setCell ?_ ?_ _) | (with_reducible refine Ext.setRow ?_ ?_ _) | (with_reducible exact HX.out) | (with_reducible refine Ext.trans ?_ HX.out) | (with_reducible refine Ext.below ?_ (Nat.le_refl _) _) | omega | (simp; done) | (simp; omega))))).mono ?_; rintro e w' ⟨lv, rfl, hl0, hl1, nl, rfl⟩; (have hls := LineW.here (hl1 H0.out)); rw [← HLD.out] at hls; (have HLS := Lib.hid hls); clear hl0 hl1 hls; (obtain ⟨ps, c0, pg, c1, pc, c2, pd, c3, hlv⟩ := LineS.form HFI.out HLS.out); subst hlv) | ((with_reducible apply wl_store' lwLine); (· (first | exact wanted_none rfl | exact wanted_some rfl rfl rfl)); (· rfl); (· rfl); (· infer_instance); (· rfl); (· rfl); (· (simp [Value.oneCell'])); try simp only [setRow_alloc, setRow_new, setRow_new1, setRow_new2, setRow_new11, setRow_new111]) | ((with_reducible apply wl_load' lwLine); (· (first | exact wanted_none rfl | exact wanted_some rfl rfl rfl)); (· rfl); (· infer_instance); (· rfl)) | (go_at_call 21; refine (rcuts_any _ HFI.out _ P _ _ (LineS.ext HLS.out (by repeat' (first | (with_reducible exact Ext.refl _) | (with_reducible exact ExtOf.ext _) | (with_reducible refine Ext.trans ?_ (ExtOf.ext _)) | (with_reducible refine Ext.alloc ?_ _) | (with_reducible refine Ext.drew ?_) | (with_reducible refine Ext.setCell ?_ ?_ _) | (with_reducible refine Ext.setRow ?_ ?_ _) | (with_reducible exact HX.out) | (with_reducible refine Ext.trans ?_ HX.out) | (with_reducible refine Ext.below ?_ (Nat.le_refl _) _) | omega | (simp; done) | (simp; omega)))) (SliceOf.ext HQ.out (by repeat' (first | (with_reducible exact Ext.refl _) | (with_reducible exact ExtOf.ext _) | (with_reducible refine Ext.trans ?_ (ExtOf.ext _)) | (with_reducible refine Ext.alloc ?_ _) | (with_reducible refine Ext.drew ?_) | (with_reducible refine Ext.setCell ?_ ?_ _) | (with_reducible refine Ext.setRow ?_ ?_ _) | (with_reducible exact HX.out) | (with_reducible refine Ext.trans ?_ HX.out) | (with_reducible refine Ext.below ?_ (Nat.le_refl _) _) | omega | (simp; done) | (simp; omega)))) hPl).mono ?_; rintro e w' ⟨vd, vc, rfl, hod, hoc, hap, nc, rfl⟩; rw [HCZ.out]; rw [HDU.out] at hod; (obtain ⟨qd, cdd, rfl⟩ := Own.form2 hod); (have HOD := Lib.hid hod); clear hod hoc hap))
  refine nameW (R := fun W => Code.wp _ _ _ _ W) (fun W => Hid (Ext w W) ∧ Block W w.heap.size #[.string x.id, .string x.lg, .string x.sp, .int .i64 x.pr, .int .i64 x.b.xa, .int .i64 x.b.xb, .int .i64 x.b.ya, .int .i64 x.b.yb, .int .i64 x.b.za, .int .i64 x.b.zb, .int .i64 x.vol, .slice q ds.length cap, .int .i64 x.wa, .int .i64 x.su, .int .i64 x.co, .int .i64 x.st, .bool x.dr, .int .i64 x.gr] ∧ Block W nl.val.heap.size #[.int .i64 (L.n : Int), .int .i64 (L.k : Int), .int .i64 1, .slice ps L.sizes.length c0, .slice pg L.sizes.length c1, .slice pc L.n c2, .slice pd L.n c3] ∧ Hid (SpS W (.slice qd (L.dusts 0 P).length cdd) (L.dusts 0 P)) ∧ Hid (IntS W (.slice ps L.sizes.length c0) (L.sizes.map fun s : Nat => (s : Int)))) ⟨Lib.hid (by repeat' (first | (with_reducible exact Ext.refl _) | (with_reducible exact ExtOf.ext _) | (with_reducible refine Ext.trans ?_ (ExtOf.ext _)) | (with_reducible refine Ext.alloc ?_ _) | (with_reducible refine Ext.drew ?_) | (with_reducible refine Ext.setCell ?_ ?_ _) | (with_reducible refine Ext.setRow ?_ ?_ _) | (with_reducible exact HX.out) | (with_reducible refine Ext.trans ?_ HX.out) | (with_reducible refine Ext.below ?_ (Nat.le_refl _) _) | omega | (simp; done) | (simp; omega))), inferInstance, inferInstance, Lib.hid (SliceOf.ext (Own.slice encSp_len HOD.out) (by repeat' (first | (with_reducible exact Ext.refl _) | (with_reducible exact ExtOf.ext _) | (with_reducible refine Ext.trans ?_ (ExtOf.ext _)) | (with_reducible refine Ext.alloc ?_ _) | (with_reducible refine Ext.drew ?_) | (with_reducible refine Ext.setCell ?_ ?_ _) | (with_reducible refine Ext.setRow ?_ ?_ _) | (with_reducible exact HX.out) | (with_reducible refine Ext.trans ?_ HX.out) | (with_reducible refine Ext.below ?_ (Nat.le_refl _) _) | omega | (simp; done) | (simp; omega)))), Lib.hid (SliceOf.ext HLS.out.sizesI (by repeat' (first | (with_reducible exact Ext.refl _) | (with_reducible exact ExtOf.ext _) | (with_reducible refine Ext.trans ?_ (ExtOf.ext _)) | (with_reducible refine Ext.alloc ?_ _) | (with_reducible refine Ext.drew ?_) | (with_reducible refine Ext.setCell ?_ ?_ _) | (with_reducible refine Ext.setRow ?_ ?_ _) | (with_reducible exact HX.out) | (with_reducible refine Ext.trans ?_ HX.out) | (with_reducible refine Ext.below ?_ (Nat.le_refl _) _) | omega | (simp; done) | (simp; omega))))⟩ ?_
  rintro W1 ⟨HX1, hb1, hl1', HOD1, HSZ1⟩
  obtain ⟨gl, hgl⟩ : ∃ g, g = nl.val.heap.size := ⟨_, rfl⟩
  rw [← hgl] at hl1' ⊢
  clear hgl HOD HLS
  have hwb : w.heap.size < W1.heap.size := hb1.lt
  have hwl : gl < W1.heap.size := hl1'.lt
  go_loopw [19, 20, 22] (fun v19 v20 v wr => ∃ (k : Nat) (rows : List (RowV × Bx)), k ≤ P.length ∧ v = .int .i64 (k : Int) ∧ WdSt x wr W1.heap.size v19 v20 (.slice none 0 0) rows ((boardsM L step (P.take k)).map fun s => (x.b.slab s.1 s.2, TrimM.clip ds (x.b.part s.1 s.2))) ((boardsM L step (P.take k)).map fun s => x.b.slab s.1 s.2) [] ∧ Ext W1 wr) (fun _ _ v _ => P.length - (intOf v).toNat)
  case atStart => exact ⟨0, [], by omega, rfl, ⟨Own.nil _, Own.nil _, Own.nil _, Apt.nil _, Apt.nil _, Apt.nil _, rfl, fun i r y h => by simp at h⟩, Ext.refl _⟩
  case round =>
    obtain ⟨k, rows, hk, rfl, hst2, hbel⟩ := hrel
    have HBE := Lib.hid hbel
    have HX : Hid (Ext w wr) := Lib.hid (HX1.out.trans hbel)
    have hszr := hbel.size
    have wb0 := hb1.ext hbel
    have wbl := hl1'.ext hbel
    have oc0 := wb0.old
    have ocl := wbl.old
    obtain ⟨T, hT⟩ : ∃ T, T = boardsM L step (P.take k) := ⟨_, rfl⟩
    obtain ⟨Y, hY⟩ : ∃ Y, Y = (boardsM L step (P.take k)).map fun s => (x.b.slab s.1 s.2, TrimM.clip ds (x.b.part s.1 s.2)) := ⟨_, rfl⟩
    obtain ⟨WL, hWL⟩ : ∃ Y, Y = (boardsM L step (P.take k)).map fun s => x.b.slab s.1 s.2 := ⟨_, rfl⟩
    rw [← hY, ← hWL] at hst2
    have hTl : T.length ≤ 10000 := by rw [hT, boardsM_len hk]; omega
    have hWl : WL.length ≤ 10000 := by rw [hWL, List.length_map, boardsM_len hk]; omega
    obtain ⟨qb, cb, rfl⟩ := Own.form2 hst2.ownB
    obtain ⟨qw, cw, rfl⟩ := Own.form2 hst2.ownW
    have hrl : rows.length ≤ 10000 := by rw [hst2.len, hY, List.length_map, ← hT]; exact hTl
    have HB := Lib.hid hst2
    have HT := Lib.hid hT
    have HY := Lib.hid hY
    have HWL := Lib.hid hWL
    clear hst2 hbel hT hY hWL
    by_cases hlt : k < P.length
    · obtain ⟨bp, fp, rfl, r0⟩ := SliceOf.elemK (SliceOf.ext HQ.out HX.out) hlt
      obtain ⟨⟨i, a⟩, hia⟩ : ∃ z, P[k] = z := ⟨_, rfl⟩
      have hm := chain_mem P 0 HCH.out _ (List.getElem_mem hlt)
      rw [hia] at r0 hm
      replace r0 : wr.rangeAt bp (fp + k * 2) [.int .i64 i, .int .i64 a] := r0
      obtain ⟨m1, m2, m3, m4⟩ := hm
      simp only at m1 m2 m3
      obtain ⟨ki, rfl⟩ : ∃ q : Nat, i = (q : Int) := ⟨i.toNat, by omega⟩
      have hki : ki < L.sizes.length := by omega
      have hls : ki < (L.sizes.map fun s : Nat => (s : Int)).length := by rw [List.length_map]; exact hki
      obtain ⟨sz, hsz⟩ : ∃ s, s = L.size ki := ⟨_, rfl⟩
      have hstp : L.stop ((ki : Int), a) = a + (sz : Int) := by unfold Ln.stop; simp only [Int.toNat_natCast]; rw [hsz]
      rw [hstp] at m4
      have hpos : 0 < sz := by rw [hsz]; exact (Ln.Fine.good HFI.out).size_pos hki
      have hszx : (L.sizes.map fun s : Nat => (s : Int))[ki] = (sz : Int) := by
        rw [List.getElem_map, hsz]; unfold Ln.size; rw [List.getElem?_eq_getElem hki]; rfl
      have HTK : Hid (boardsM L step (P.take (k + 1)) = T ++ [(a * step, (a + (sz : Int)) * step)]) := Lib.hid (by rw [boardsM_take hlt hia, hstp, HT.out])
      obtain ⟨bs, os, hbs, obs, e1⟩ := int_elem (SliceOf.ext HSZ1.out HBE.out) hls hszx
      subst hbs
      have hz0 : 0 ≤ a * step := Int.mul_nonneg m3 (by omega)
      have hz1 : a * step < (a + (sz : Int)) * step := mul_lt (by omega) (by omega)
      have hz2 : (a + (sz : Int)) * step ≤ x.b.zb - x.b.za := Int.le_trans (mul_le m4 (by omega)) hun
      have hzs : (a + (sz : Int)) * step = a * step + (sz : Int) * step := Int.add_mul _ _ _
      obtain ⟨z1, hzz1⟩ : ∃ z, a * step = z := ⟨_, rfl⟩
      obtain ⟨z2, hzz2⟩ : ∃ z, (a + (sz : Int)) * step = z := ⟨_, rfl⟩
      obtain ⟨z3, hzz3⟩ : ∃ z, (sz : Int) * step = z := ⟨_, rfl⟩
      rw [hzz1] at hz0 hz1
      rw [hzz2] at hz1 hz2
      rw [hzz1, hzz2] at HTK
      rw [hzz1, hzz2, hzz3] at hzs
      have hzz4 : z1 + z3 = z2 := hzs.symm
      have cc0 : wr.cell? ⟨bp, fp + k * 2, none⟩ = some (.int .i64 (ki : Int)) := r0 0 _ rfl
      have cc1 : wr.cell? ⟨bp, fp + k * 2 + 1, none⟩ = some (.int .i64 a) := r0 1 _ rfl
      have oo0 : Old bp wr := Old.of_cell cc0
      clear hszx hsz hstp hls hia r0 hzs hzz2
      go_wp2_with fail
      refine wp_region_ext (by kernel_rfl) (by kernel_rfl) ?_
      repeat (first | go_big_quiet_skip | go_big_quiet_step (fail))
      refine wpQuiet_nil ?_
      intro _ hw'
      obtain ⟨nq, hw''⟩ := hw'
      subst hw''
      go_wp2_with (first | ((with_reducible apply wl_load' lwBd); (· (first | exact wanted_none rfl | exact wanted_some rfl rfl rfl)); (· rfl); (· infer_instance); (· rfl)) | (go_at_call 22; refine (rslab_any x _ z1 z2 _ HBK.out (by omega) (by omega)).mono ?_; rintro e w' ⟨rfl, ns, rfl⟩; have hns := ns.size) | (at_builtin; refine wl_append1g (enc := encBx) (k := 6) (E := 25) (base := W1.heap.size) (l := WL) (y := x.b.slab z1 z2) Tryz.underlying40 hiX hX0 hX1 hX2 rfl (by decide) encBx_len encBx_one rfl rfl (((HB.out.ext (ExtOf.ext nq)).ext (ExtOf.ext ns)).ext (Ext.alloc (Ext.refl _) _)).ownW (Block.new _ _ _) rfl (by unfold maxLen; omega) (by omega) (by have := nq.size; simp; omega) ?_; intro v7 n7 ho7 hk7; (obtain ⟨g7, c7, rfl, hg7, hg7b⟩ := Own.formS ho7)))
      have un : Under w.heap.size W1.heap.size := ⟨hwb⟩
      have un2 : Under gl W1.heap.size := ⟨hwl⟩
      refine nameW (R := fun W => Code.wp _ _ _ _ W) (fun W => Hid (WdSt x W W1.heap.size (.slice qb rows.length cb) (.slice (some ⟨g7, 0, none⟩) (WL.length + 1) c7) (.slice none 0 0) rows Y (WL ++ [x.b.slab z1 z2]) []) ∧ Hid (Ext W1 W) ∧ Block W w.heap.size #[.string x.id, .string x.lg, .string x.sp, .int .i64 x.pr, .int .i64 x.b.xa, .int .i64 x.b.xb, .int .i64 x.b.ya, .int .i64 x.b.yb, .int .i64 x.b.za, .int .i64 x.b.zb, .int .i64 x.vol, .slice q ds.length cap, .int .i64 x.wa, .int .i64 x.su, .int .i64 x.co, .int .i64 x.st, .bool x.dr, .int .i64 x.gr]) ⟨Lib.hid ?_, Lib.hid ?_, ?_⟩ ?_
      · exact (((HB.out.ext (ExtOf.ext nq)).ext (ExtOf.ext ns)).ext (Ext.alloc (Ext.refl _) _)).pushW hk7 ho7
      · exact Ext.below (HBE.out.trans ((ExtOf.ext nq).trans ((ExtOf.ext ns).trans (Ext.alloc (Ext.refl _) _)))) (Nat.le_refl _) n7
      · infer_instance
      rintro W3 ⟨HB3, HBE3, d3⟩
      have HX3 : Hid (Ext w W3) := Lib.hid (HX1.out.trans HBE3.out)
      have od3 := d3.old
      clear hk7 ho7 hg7b
      refine wp_region_softT (bdA2 x w.heap.size (.slice qb rows.length cb) (.slice q ds.length cap) z1 z2) (bdF2 x W3.heap.size z1 z2 (TrimM.clip ds (x.b.part z1 z2))) [true, true, true, true, true, true, true, true, true, true, true, true, true, true, true, true, true, true, true, true, true, true, true, true, true, true] [false, false, false, false, false, false, false, false, false, false, false, false, false, false, false, false, false, false, false, false, false, false, false, false, false, false, true, true] 26 [27] (by kernel_rfl) rfl (by kernel_rfl) (by kernel_rfl) rfl (bdA2_some _ _ _ _ _ _) (bdF2_keep _ _ _ _ _) ?_
      have HNE : Hid (clipA ds (x.b.part z1 z2) = TrimM.clip ds (x.b.part z1 z2)) := Lib.hid (if_pos ⟨HCK.out.defs, by
        have hbx := HCK.out.x
        have hby := HCK.out.y
        unfold near
        rw [(insd_iff _ _ _ _).2 (by show (-1099511627776 ≤ (0 : Int) ∧ -1099511627776 ≤ x.b.xb - x.b.xa) ∧ (0 : Int) ≤ 1099511627776 ∧ x.b.xb - x.b.xa ≤ 1099511627776; omega), (insd_iff _ _ _ _).2 (by show (-1099511627776 ≤ (0 : Int) ∧ -1099511627776 ≤ x.b.yb - x.b.ya) ∧ (0 : Int) ≤ 1099511627776 ∧ x.b.yb - x.b.ya ≤ 1099511627776; omega), (insd_iff _ _ _ _).2 (by show (-1099511627776 ≤ z1 ∧ -1099511627776 ≤ z2) ∧ z1 ≤ 1099511627776 ∧ z2 ≤ 1099511627776; omega)]
        rfl⟩)
      simp only [part]
      refine soft_det (d := 80) (V := .slice qb rows.length cb) rfl (by kernel_rfl) (fun v h => h) rfl (fun _ => trivial) (fun W hx _ => by kernel_rfl) ?_
      refine soft_det (d := 81) (V := .pointer (some ⟨w.heap.size, 1, none⟩)) rfl (by kernel_rfl) (fun v h => h) rfl (fun _ => trivial) (fun W hx _ => by kernel_rfl) ?_
      refine soft_det (d := 82) (V := .string x.lg) rfl (by kernel_rfl) (fun v h => h) rfl (fun _ => trivial) (fun W hx _ => (by have := Block.ext d3 hx; simp [execOp, go_sem])) ?_
      refine soft_det (d := 83) (V := .pointer (some ⟨w.heap.size, 2, none⟩)) rfl (by kernel_rfl) (fun v h => h) rfl (fun _ => trivial) (fun W hx _ => by kernel_rfl) ?_
      refine soft_det (d := 84) (V := .string x.sp) rfl (by kernel_rfl) (fun v h => h) rfl (fun _ => trivial) (fun W hx _ => (by have := Block.ext d3 hx; simp [execOp, go_sem])) ?_
      refine soft_det (d := 85) (V := .pointer (some ⟨w.heap.size, 3, none⟩)) rfl (by kernel_rfl) (fun v h => h) rfl (fun _ => trivial) (fun W hx _ => by kernel_rfl) ?_
      refine soft_det (d := 86) (V := .int .i64 x.pr) rfl (by kernel_rfl) (fun v h => h) rfl (fun _ => trivial) (fun W hx _ => (by have := Block.ext d3 hx; simp [execOp, go_sem])) ?_
      refine soft_det (d := 87) (V := .agg #[.string x.id, .string x.lg, .string x.sp, .int .i64 x.pr, .int .i64 x.b.xa, .int .i64 x.b.xb, .int .i64 x.b.ya, .int .i64 x.b.yb, .int .i64 x.b.za, .int .i64 x.b.zb, .int .i64 x.vol, .slice q ds.length cap, .int .i64 x.wa, .int .i64 x.su, .int .i64 x.co, .int .i64 x.st, .bool x.dr, .int .i64 x.gr]) rfl (by kernel_rfl) (fun v h => h) rfl (fun _ => trivial) (fun W hx _ => (by have hb := Block.ext d3 hx; (with_reducible refine run_loadL lwBd ?_ hb ?_); (· kernel_rfl); (· rfl))) ?_
      refine soft_det (d := 88) (V := .int .i64 z1) rfl (by kernel_rfl) (fun v h => h) rfl (fun _ => trivial) (fun W hx _ => by kernel_rfl) ?_
      refine soft_det (d := 89) (V := .int .i64 z2) rfl (by kernel_rfl) (fun v h => h) rfl (fun _ => trivial) (fun W hx _ => by kernel_rfl) ?_
      refine soft_call (d := 90) (V := .agg #[.int .i64 (x.b.slab z1 z2).xa, .int .i64 (x.b.slab z1 z2).xb, .int .i64 (x.b.slab z1 z2).ya, .int .i64 (x.b.slab z1 z2).yb, .int .i64 (x.b.slab z1 z2).za, .int .i64 (x.b.slab z1 z2).zb]) (f := 22) (vals := #[.agg (bdC x (.slice q ds.length cap)), .int .i64 z1, .int .i64 z2]) rfl (by kernel_rfl) (fun v h => h) rfl (fun _ => trivial) (fun W => by kernel_rfl) (fun W hx _ => rslab_any x _ z1 z2 W HBK.out (by omega) (by omega)) ?_
      refine soft_det (d := 91) (V := .pointer (some ⟨w.heap.size, 11, none⟩)) rfl (by kernel_rfl) (fun v h => h) rfl (fun _ => trivial) (fun W hx _ => by kernel_rfl) ?_
      refine soft_det (d := 92) (V := .slice q ds.length cap) rfl (by kernel_rfl) (fun v h => h) rfl (fun _ => trivial) (fun W hx _ => (by have := Block.ext d3 hx; simp [execOp, go_sem])) ?_
      refine soft_det (d := 93) (V := .agg #[.string x.id, .string x.lg, .string x.sp, .int .i64 x.pr, .int .i64 x.b.xa, .int .i64 x.b.xb, .int .i64 x.b.ya, .int .i64 x.b.yb, .int .i64 x.b.za, .int .i64 x.b.zb, .int .i64 x.vol, .slice q ds.length cap, .int .i64 x.wa, .int .i64 x.su, .int .i64 x.co, .int .i64 x.st, .bool x.dr, .int .i64 x.gr]) rfl (by kernel_rfl) (fun v h => h) rfl (fun _ => trivial) (fun W hx _ => (by have hb := Block.ext d3 hx; (with_reducible refine run_loadL lwBd ?_ hb ?_); (· kernel_rfl); (· rfl))) ?_
      refine soft_det (d := 94) (V := .int .i64 z1) rfl (by kernel_rfl) (fun v h => h) rfl (fun _ => trivial) (fun W hx _ => by kernel_rfl) ?_
      refine soft_det (d := 95) (V := .int .i64 z2) rfl (by kernel_rfl) (fun v h => h) rfl (fun _ => trivial) (fun W hx _ => by kernel_rfl) ?_
      refine soft_call (d := 96) (V := .agg #[.int .i64 (x.b.part z1 z2).xa, .int .i64 (x.b.part z1 z2).xb, .int .i64 (x.b.part z1 z2).ya, .int .i64 (x.b.part z1 z2).yb, .int .i64 (x.b.part z1 z2).za, .int .i64 (x.b.part z1 z2).zb]) (f := 24) (vals := #[.agg (bdC x (.slice q ds.length cap)), .int .i64 z1, .int .i64 z2]) rfl (by kernel_rfl) (fun v h => h) rfl (fun _ => trivial) (fun W => by kernel_rfl) (fun W hx _ => rpart_any x _ z1 z2 W HBK.out) ?_
      refine soft_callS (d := 97) (f := 23) (vals := #[.slice q ds.length cap, .agg #[.int .i64 (x.b.part z1 z2).xa, .int .i64 (x.b.part z1 z2).xb, .int .i64 (x.b.part z1 z2).ya, .int .i64 (x.b.part z1 z2).yb, .int .i64 (x.b.part z1 z2).za, .int .i64 (x.b.part z1 z2).zb]]) rfl (by kernel_rfl) (fun v => trivial) (fun W => by kernel_rfl) (fun W hx _ => (rdClip_any ds _ (x.b.part z1 z2) W (SliceOf.ext HD.out (HX3.out.trans hx))).mono fun e w' ⟨v, h1, h2, h4⟩ => by
        rw [HNE.out] at h2
        obtain ⟨pp, nn, cc, rfl, e2, hlow⟩ := Own.low h2
        exact ⟨_, h1, ⟨(pp, nn, cc), rfl, Own.slice encDf_len h2, fun a ha => ⟨Nat.le_trans hx.size (hlow a ha).1, (hlow a ha).2⟩⟩, h4⟩) ?_
      intro v97
      refine soft_det (d := 98) (V := .pointer (some ⟨w.heap.size, 12, none⟩)) rfl (by kernel_rfl) (fun v h => h) rfl (fun _ => trivial) (fun W hx _ => by kernel_rfl) ?_
      refine soft_det (d := 99) (V := .int .i64 x.wa) rfl (by kernel_rfl) (fun v h => h) rfl (fun _ => trivial) (fun W hx _ => (by have := Block.ext d3 hx; simp [execOp, go_sem])) ?_
      refine soft_det (d := 100) (V := .pointer (some ⟨w.heap.size, 13, none⟩)) rfl (by kernel_rfl) (fun v h => h) rfl (fun _ => trivial) (fun W hx _ => by kernel_rfl) ?_
      refine soft_det (d := 101) (V := .agg #[.int .i64 x.su, .int .i64 x.co, .int .i64 x.st]) rfl (by kernel_rfl) (fun v h => h) rfl (fun _ => trivial) (fun W hx _ => (by have := Block.ext d3 hx; simp [execOp, go_sem])) ?_
      refine soft_det (d := 102) (V := .pointer (some ⟨w.heap.size, 16, none⟩)) rfl (by kernel_rfl) (fun v h => h) rfl (fun _ => trivial) (fun W hx _ => by kernel_rfl) ?_
      refine soft_det (d := 103) (V := .bool x.dr) rfl (by kernel_rfl) (fun v h => h) rfl (fun _ => trivial) (fun W hx _ => (by have := Block.ext d3 hx; simp [execOp, go_sem])) ?_
      refine soft_some (d := 104) rfl (by kernel_rfl) (fun v => trivial) (fun W hx hk => by
        obtain ⟨r, rfl, hr⟩ : ∃ r : RowV, v97 = rowV r ∧ NewD W3.heap.size (TrimM.clip ds (x.b.part z1 z2)) r W := known_get (d := 97) (v := v97) (n := 17) hk (by kernel_rfl) (by kernel_rfl) (by kernel_rfl)
        exact ⟨.agg (nbC x (rowV r) (x.b.slab z1 z2)), W, by kernel_rfl, Ext.refl _, r, rfl, hr⟩) ?_
      intro v104
      refine soft_some (d := 105) rfl (by kernel_rfl) (fun v => trivial) (fun W hx hk => by
        obtain ⟨r, rfl, hr⟩ : ∃ r : RowV, v104 = .agg (nbC x (rowV r) (x.b.slab z1 z2)) ∧ NewD W3.heap.size (TrimM.clip ds (x.b.part z1 z2)) r W := known_get (d := 104) (v := v104) (n := 24) hk (by kernel_rfl) (by kernel_rfl) (by kernel_rfl)
        exact ⟨.slice (some ⟨W.heap.size, 0, none⟩) 1 1, W.alloc (.cells (nbC x (rowV r) (x.b.slab z1 z2)) 30), by kernel_rfl, (Ext.refl _).alloc _, r, W.heap.size, rfl, Block.new _ _ _, hx.size, hr.ext ((Ext.refl _).alloc _)⟩) ?_
      intro v105
      intro W4 hx4 hF4
      obtain ⟨r5, g5, hv105, hb5, hg5, hnd5⟩ : ∃ (r : RowV) (g : Nat), v105 = .slice (some ⟨g, 0, none⟩) 1 1 ∧ Block W4 g (nbC x (rowV r) (x.b.slab z1 z2)) ∧ W3.heap.size ≤ g ∧ NewD W3.heap.size (TrimM.clip ds (x.b.part z1 z2)) r W4 := known_endT hF4 (d := 105) (i := 25) (v := v105) (by kernel_rfl) (by kernel_rfl) (by kernel_rfl)
      subst hv105
      have hBS4 := HB3.out.ext hx4
      have hW13 : W1.heap.size ≤ W3.heap.size := HBE3.out.size
      have hRD : RowD W4 W1.heap.size (.slice qb rows.length cb) (.slice (some ⟨g7, 0, none⟩) (WL.length + 1) c7) (.slice none 0 0) r5 (TrimM.clip ds (x.b.part z1 z2)) := ⟨hnd5.1, fun a ha => by
        obtain ⟨k1, k2⟩ := hnd5.2 a ha
        exact ⟨Nat.le_trans hW13 k1, k2, Own.block_lt HB3.out.ownB k1, Own.block_lt HB3.out.ownW k1, Own.block_lt HB3.out.ownD k1⟩⟩
      have HBS4 := Lib.hid hBS4
      have HRD := Lib.hid hRD
      have hz4 : W1.heap.size ≤ W4.heap.size := Nat.le_trans hW13 hx4.size
      clear hBS4 hRD hF4 hnd5
      simp only [part, Act.put, List.setIfInBounds_toArray, List.set_cons_succ, List.set_cons_zero]
      go_wp2_with (at_builtin; refine wl_append1g (enc := encRB x) (k := 18) (E := 30) (base := W1.heap.size) (l := rows) (y := (r5, x.b.slab z1 z2)) Tryz.underlying39 hiR hR0 hR1 hR2 rfl (by decide) (encRB_len x) (encRB_one x) rfl rfl HBS4.out.ownB hb5 rfl (by unfold maxLen; omega) (by omega) hz4 ?_; intro v8 n8 ho8 hk8)
      have hP9 := HBS4.out.pushB hk8 HRD.out ho8
      have hB9 : Ext W1 n8.val := Ext.below (HBE3.out.trans hx4) (Nat.le_refl _) n8
      go_roundw
      case rel =>
        refine ⟨k + 1, rows ++ [(r5, x.b.slab z1 z2)], by omega, by first | rfl | go_num, ?_, hB9⟩
        rw [HTK.out, List.map_append, List.map_append, HT.out, ← HY.out, ← HWL.out]
        exact hP9
      case measure => simp [intOf]; omega
    · have hkP : k = P.length := by omega
      rw [hkP, List.take_length] at HT HY HWL
      obtain ⟨DD, hDD⟩ : ∃ DD, DD = L.dusts 0 P := ⟨_, rfl⟩
      rw [← hDD] at HOD1 ⊢
      have HDM : Hid (∀ y ∈ DD, 0 ≤ y.1 ∧ y.1 < y.2 ∧ y.2 ≤ L.n) := Lib.hid (by rw [hDD]; exact dusts_mem P 0 HCH.out)
      have HDD := Lib.hid hDD
      have hDl : DD.length ≤ 20000 := by rw [hDD]; have := dusts_len' (L := L) P 0; omega
      have HB1 := HB
      have HBE1 := HBE
      clear hDD
      go_wp2_with fail
      clear hlt hkP wb0 wbl oc0 ocl HX HB HBE
      go_loopw [21, 25] (fun v21 v wq => ∃ (k2 : Nat) (TT : List Sp), k2 ≤ DD.length ∧ v = .int .i64 (k2 : Int) ∧ TT = (DD.take k2).map (dustM step kerf) ∧ WdSt x wq W1.heap.size (.slice qb rows.length cb) (.slice qw WL.length cw) v21 rows Y WL (TT.map fun s => x.b.slab s.1 s.2) ∧ Ext W1 wq) (fun _ v _ => DD.length - (intOf v).toNat)
      case atStart => exact ⟨0, [], by omega, rfl, rfl, HB1.out, HBE1.out⟩
      case round =>
        obtain ⟨k2, TT, hk2, rfl, hTT, hst2, hbel⟩ := hrel
        rename World => wq
        have HBE := Lib.hid hbel
        have HX : Hid (Ext w wq) := Lib.hid (HX1.out.trans hbel)
        have hszq := hbel.size
        have wb0 := hb1.ext hbel
        have oc0 := wb0.old
        have hTTl : TT.length ≤ 20000 := by rw [hTT, List.length_map, List.length_take]; omega
        obtain ⟨D3, hD3⟩ : ∃ D3, D3 = TT.map fun s => x.b.slab s.1 s.2 := ⟨_, rfl⟩
        rw [← hD3] at hst2
        have hD3l : D3.length ≤ 20000 := by rw [hD3, List.length_map]; exact hTTl
        obtain ⟨qd2, cd2, rfl⟩ := Own.form2 hst2.ownD
        have HB := Lib.hid hst2
        have HTT := Lib.hid hTT
        have HD3 := Lib.hid hD3
        clear hst2 hbel hTT hD3
        by_cases hlt : k2 < DD.length
        · obtain ⟨bp, fp, rfl, r0⟩ := SliceOf.elemK (SliceOf.ext HOD1.out HBE.out) hlt
          obtain ⟨⟨A, B⟩, hab⟩ : ∃ z, DD[k2] = z := ⟨_, rfl⟩
          have hm := HDM.out _ (List.getElem_mem hlt)
          rw [hab] at r0 hm
          obtain ⟨m1, m2, m3⟩ := hm
          simp only at m1 m2 m3
          have cA : wq.cell? ⟨bp, fp + k2 * 2, none⟩ = some (.int .i64 A) := r0 0 _ rfl
          have cB : wq.cell? ⟨bp, fp + k2 * 2 + 1, none⟩ = some (.int .i64 B) := r0 1 _ rfl
          have oA : Old bp wq := Old.of_cell cA
          have HTK : Hid ((DD.take (k2 + 1)).map (dustM step kerf) = TT ++ [(A * step, min (A * step + kerf) (B * step))]) := Lib.hid (by rw [List.take_succ_eq_append_getElem hlt, hab, List.map_append, HTT.out]; rfl)
          have hz0 : 0 ≤ A * step := Int.mul_nonneg m1 (by omega)
          have hz1 : A * step < B * step := mul_lt (by omega) (by omega)
          have hz2 : B * step ≤ x.b.zb - x.b.za := Int.le_trans (mul_le m3 (by omega)) hun
          obtain ⟨z1, hzz1⟩ : ∃ z, A * step = z := ⟨_, rfl⟩
          obtain ⟨z3, hzz3⟩ : ∃ z, B * step = z := ⟨_, rfl⟩
          rw [hzz1] at hz0 hz1
          rw [hzz3] at hz1 hz2
          rw [hzz1, hzz3] at HTK
          have hz3 : z1 ≤ min (z1 + kerf) z3 ∧ min (z1 + kerf) z3 ≤ z3 := by omega
          obtain ⟨z2, hzz2⟩ : ∃ z, min (z1 + kerf) z3 = z := ⟨_, rfl⟩
          rw [hzz2] at HTK hz3
          have hbd : (0 ≤ z1 ∧ z1 ≤ 100000) ∧ (0 ≤ z2 ∧ z2 ≤ 100000) := by omega
          have HSLB : Hid (∀ W, Calls Tryz.prog 22 #[.agg #[.string x.id, .string x.lg, .string x.sp, .int .i64 x.pr, .int .i64 x.b.xa, .int .i64 x.b.xb, .int .i64 x.b.ya, .int .i64 x.b.yb, .int .i64 x.b.za, .int .i64 x.b.zb, .int .i64 x.vol, .slice q ds.length cap, .int .i64 x.wa, .int .i64 x.su, .int .i64 x.co, .int .i64 x.st, .bool x.dr, .int .i64 x.gr], .int .i64 z1, .int .i64 z2] W fun e w' => e = .returned (.agg #[.int .i64 (x.b.slab z1 z2).xa, .int .i64 (x.b.slab z1 z2).xb, .int .i64 (x.b.slab z1 z2).ya, .int .i64 (x.b.slab z1 z2).yb, .int .i64 (x.b.slab z1 z2).za, .int .i64 (x.b.slab z1 z2).zb]) ∧ ∃ n : ExtOf W, w' = n.val) := Lib.hid (fun W => rslab_any x _ z1 z2 W HBK.out hbd.1 hbd.2)
          clear hab r0
          go_wp2_with fail
          apply wp_region_maker [true, true, true, true, true, true, true, true, true, true, true, true, true, true, true, true, true, true, true, true, true, true, true, true, true, true, true] 27 [false, false, false, false, false, false, false, false, false, false, false, false, false, false, false, false, false, false, false, false, false, false, false, false, false, false, false, false, true, true] _ 140 (MadeS wq (encBx (x.b.slab z1 z2)).toArray) 28 [29] (by kernel_rfl) rfl rfl (by kernel_rfl) (by kernel_rfl) (by kernel_rfl) (by kernel_rfl) MadeS.keep
          · intro S hS hN R hR
            simp only [part]
            repeat (first | go_big_quiet_skip | ((with_reducible apply q_loadS lwBd); (· (first | exact wanted_none rfl | exact wanted_some rfl rfl rfl)); (· rfl); (· infer_instance); (· rfl); simp only [Act.put, List.setIfInBounds_toArray, List.set_cons_succ, List.set_cons_zero]) | go_big_quiet_step ((go_at_call 22; exact exts_call hS (HSLB.out _))))
            with_reducible refine wpQuiet_nil ?_
            exact hR
          · refine ⟨wanted_none rfl, fun W' hx' => ⟨.slice (some ⟨W'.heap.size, 0, none⟩) 1 1, W'.alloc (.cells (encBx (x.b.slab z1 z2)).toArray 25), ?_, (Ext.refl _).alloc _, MadeS.new hx'⟩⟩
            simp [go_sem, encBx]
          intro v' W' hx' hmade
          obtain ⟨gn, rfl, hgn, hbn⟩ := hmade
          simp only [part, Act.put, List.setIfInBounds_toArray, List.set_cons_succ, List.set_cons_zero]
          have HBW := Lib.hid (HB.out.ext hx')
          have hsw := hx'.size
          go_wp2_with (at_builtin; refine wl_append1g (enc := encBx) (k := 6) (E := 25) (base := W1.heap.size) (l := D3) (y := x.b.slab z1 z2) Tryz.underlying40 hiX hX0 hX1 hX2 rfl (by decide) encBx_len encBx_one rfl rfl HBW.out.ownD hbn rfl (by unfold maxLen; omega) (by omega) (by omega) ?_; intro v8 n8 ho8 hk8)
          have hP9 := HBW.out.pushD hk8 ho8
          have hB9 : Ext W1 n8.val := Ext.below (HBE.out.trans hx') (Nat.le_refl _) n8
          go_roundw
          case rel =>
            refine ⟨k2 + 1, TT ++ [(z1, z2)], by omega, by first | rfl | go_num, HTK.out.symm, ?_, hB9⟩
            rw [List.map_append, ← HD3.out]
            exact hP9
          case measure => simp [intOf]; omega
        · have hkD : k2 = DD.length := by omega
          rw [hkD, List.take_length] at HTT
          have hch : (TrimM.line x.b ds p step kerf 0).chain 0 P := by rw [← HLD.out]; exact HCH.out
          have hTe : TT = dustsM (TrimM.line x.b ds p step kerf 0) step kerf 0 P := by rw [HTT.out, HDD.out, ← HLD.out]; rfl
          have hMt : TrimM.merged (boardsM L step P) TT = takenT x.b ds p step kerf 0 P := by
            rw [hTe, HLD.out]
            obtain ⟨s1, s2⟩ := boards_sorted HCK.out hch
            exact taken_unique HCK.out hch (merged_perm _ _ _ (Nat.le_refl _)) (merged_sorted _ _ _ (Nat.le_refl _) s1 s2)
          have hBl : (boardsM L step P).length = P.length := by unfold boardsM; rw [List.length_map]
          have hTl2 : (takenT x.b ds p step kerf 0 P).length ≤ 100000 := by
            rw [← hMt, (merged_perm _ _ _ (Nat.le_refl _)).length_eq, List.length_append]
            omega
          obtain ⟨q1, q2⟩ := taken_seq HCK.out hch
          have hDe : D3 = dustY x.b ds p step kerf P := by
            rw [HD3.out, hTe]
            unfold dustY
            rw [if_pos HE.out]
          have hYe : Y = boardsY x.b ds p step kerf P := by
            rw [HY.out]
            unfold boardsY
            rw [if_pos HE.out, ← HLD.out]
          have hcY : chipY x.b ds p step kerf P = (TrimM.gaps (x.b.zb - x.b.za) 0 (takenT x.b ds p step kerf 0 P)).map fun s => x.b.slab s.1 s.2 := if_pos HE.out
          have hWT : SliceOf encBx 6 wq (.slice qw WL.length cw) ((boardsM L step P).map fun s => x.b.slab s.1 s.2) := by
            have h9 := HB.out.read.2.1
            rw [HWL.out] at h9 ⊢
            exact h9
          have hDT : SliceOf encBx 6 wq (.slice qd2 D3.length cd2) (TT.map fun s => x.b.slab s.1 s.2) := by
            have h9 := HB.out.read.2.2
            rw [HD3.out] at h9 ⊢
            exact h9
          have HMT := Lib.hid hMt
          have HBL : Hid ((boardsM L step P).length ≤ 100000) := Lib.hid (by rw [hBl]; omega)
          have HTL2 := Lib.hid hTl2
          have HSQ := Lib.hid q1
          have HSL := Lib.hid q2
          have HDE := Lib.hid hDe
          have HYE := Lib.hid hYe
          have HCY := Lib.hid hcY
          have HWT := Lib.hid hWT
          have HDT := Lib.hid hDT
          have HTTL : Hid (TT.length ≤ 100000) := Lib.hid (by omega)
          clear hch hTe hMt hBl hTl2 q1 q2 hDe hYe hcY hWT hDT
          go_wp2_with fail
          have hdr : Ext wq wq.drew := (Ext.refl _).drew
          have wb1 := wb0.ext hdr
          refine wp_region_softF (rtA x (.slice qb rows.length cb) (.slice qw WL.length cw) (.slice qd2 D3.length cd2) (.slice q ds.length cap)) (rtF ((takenT x.b ds p step kerf 0 P).map fun s => x.b.slab s.1 s.2) (chipY x.b ds p step kerf P)) (by kernel_rfl) (by kernel_rfl) (by kernel_rfl) (by kernel_rfl) (by kernel_rfl) (rtA_some _ _ _ _ _) (rtF_keep _ _) ?_
          refine soft_det (d := 142) (V := .slice qb rows.length cb) rfl (by kernel_rfl) (fun v h => h) rfl (fun _ => trivial) (fun W hx _ => by kernel_rfl) ?_
          refine soft_det (d := 143) (V := .slice qd2 D3.length cd2) rfl (by kernel_rfl) (fun v h => h) rfl (fun _ => trivial) (fun W hx _ => by kernel_rfl) ?_
          refine soft_det (d := 144) (V := .agg #[.string x.id, .string x.lg, .string x.sp, .int .i64 x.pr, .int .i64 x.b.xa, .int .i64 x.b.xb, .int .i64 x.b.ya, .int .i64 x.b.yb, .int .i64 x.b.za, .int .i64 x.b.zb, .int .i64 x.vol, .slice q ds.length cap, .int .i64 x.wa, .int .i64 x.su, .int .i64 x.co, .int .i64 x.st, .bool x.dr, .int .i64 x.gr]) rfl (by kernel_rfl) (fun v h => h) rfl (fun _ => trivial) (fun W hx _ => (by have hb := Block.ext wb1 hx; (with_reducible refine run_loadL lwBd ?_ hb ?_); (· kernel_rfl); (· rfl))) ?_
          refine soft_det (d := 145) (V := .slice qw WL.length cw) rfl (by kernel_rfl) (fun v h => h) rfl (fun _ => trivial) (fun W hx _ => by kernel_rfl) ?_
          refine soft_det (d := 146) (V := .slice qd2 D3.length cd2) rfl (by kernel_rfl) (fun v h => h) rfl (fun _ => trivial) (fun W hx _ => by kernel_rfl) ?_
          refine soft_callS (d := 147) (f := 26) (vals := #[.slice qw WL.length cw, .slice qd2 D3.length cd2]) rfl (by kernel_rfl) (fun v => trivial) (fun W => by kernel_rfl) (fun W hx _ => (rmerged_any x.b (boardsM L step P) TT _ _ W (SliceOf.ext HWT.out (hdr.trans hx)) (SliceOf.ext HDT.out (hdr.trans hx)) HBL.out HTTL.out).mono fun e w' ⟨v, h1, h2, h4⟩ => by
            rw [HMT.out] at h2
            exact ⟨_, h1, Own.slice encBx_len h2, h4⟩) ?_
          intro v147
          refine soft_callS (d := 148) (f := 25) (vals := #[.agg (bdC x (.slice q ds.length cap)), v147]) rfl (by kernel_rfl) (fun v => trivial) (fun W => by kernel_rfl) (fun W hx hk => by
            have h9 : SliceOf encBx 6 W v147 ((takenT x.b ds p step kerf 0 P).map fun s => x.b.slab s.1 s.2) := known_get (d := 147) (v := v147) (n := 5) hk (by kernel_rfl) (by kernel_rfl) (by kernel_rfl)
            exact (rgaps_any x _ _ _ W HBK.out h9 HSQ.out HSL.out HTL2.out).mono fun e w' ⟨v, h1, h2, h4⟩ => by
              rw [← HCY.out] at h2
              exact ⟨_, h1, Own.slice encBx_len h2, h4⟩) ?_
          intro v148
          refine soft_det (d := 10) (V := .slice qb rows.length cb) rfl (by kernel_rfl) (fun v h => h) rfl (fun _ => trivial) (fun W hx _ => by kernel_rfl) ?_
          refine soft_det (d := 11) (V := .slice qd2 D3.length cd2) rfl (by kernel_rfl) (fun v h => h) rfl (fun _ => trivial) (fun W hx _ => by kernel_rfl) ?_
          refine soft_some (d := 12) rfl (by kernel_rfl) (fun v => trivial) (fun W hx hk => ⟨v148, W, by kernel_rfl, Ext.refl _, known_get (d := 148) (v := v148) (n := 6) hk (by kernel_rfl) (by kernel_rfl) (by kernel_rfl)⟩) ?_
          intro v12
          refine soft_det (d := 13) (V := .int .i64 0) rfl (by kernel_rfl) (fun v h => h) rfl (fun _ => trivial) (fun W hx _ => by kernel_rfl) ?_
          intro W4 hx4 hF4
          have hch4 : SliceOf encBx 6 W4 v12 (chipY x.b ds p step kerf P) := known_end (d := 12) (v := v12) hF4 (by kernel_rfl) (by kernel_rfl)
          have HC4 := Lib.hid hch4
          have HB4 := Lib.hid (HB.out.ext (hdr.trans hx4))
          have HX4 := Lib.hid (HX.out.trans (hdr.trans hx4))
          clear hF4 hch4
          simp only [Act.put, List.setIfInBounds_toArray, List.set_cons_succ, List.set_cons_zero]
          go_wp2_with fail
          exact bodyPost_ret (v := .tuple #[.slice qb rows.length cb, .slice qd2 D3.length cd2, v12, .int .i64 (boardsE x.b ds p step kerf P)]) (by rw [HE.out]; simp [results, Tryz.results7, go_sem]) rfl ⟨_, _, _, rfl, by rw [← HYE.out]; exact HB4.out.read.1, by rw [← HDE.out]; exact HB4.out.read.2.2, HC4.out, ExtOf.of HX4.out⟩
end Go.Proofs.YtdalbfanfbeckaaGreatDoor
