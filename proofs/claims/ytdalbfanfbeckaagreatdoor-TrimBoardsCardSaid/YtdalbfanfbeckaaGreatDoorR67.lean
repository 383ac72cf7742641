/-
  Chapter 26 (Boards): the reference's lists of boards, wood and dust in memory; its calls that end in an error.
-/
import Derived.Test.YtdalbfanfbeckaaGreatDoorR66
import Derived.Test.YtdalbfanfbeckaaGreatDoorR65
import Derived.Test.YtdalbfanfbeckaaGreatDoorR64
import Derived.Test.YtdalbfanfbeckaaGreatDoorR63
import Derived.Test.YtdalbfanfbeckaaGreatDoorK42
import Derived.Test.YtdalbfanfbeckaaGreatDoorR13
set_option linter.unusedVariables false
set_option linter.unusedSimpArgs false
namespace Go.Proofs.YtdalbfanfbeckaaGreatDoor
open Go.RowKit TrimM

structure WdSt (x : Bd) (w : World) (B : Nat) (vb vw vd : Value) (rows : List (RowV × Bx)) (Y : List (Bx × List Df)) (WL DL : List Bx) : Prop where
  ownB : Own (encRB x) 18 30 B w vb rows
  ownW : Own encBx 6 25 B w vw WL
  ownD : Own encBx 6 25 B w vd DL
  bw : Apt vb vw
  bd : Apt vb vd
  wd : Apt vw vd
  len : rows.length = Y.length
  rd : ∀ (i : Nat) r y, rows[i]? = some r → Y[i]? = some y → r.2 = y.1 ∧ RowD w B vb vw vd r.1 y.2
section
variable {x : Bd} {w w' w1 : World} {B : Nat} {vb vw vd vb' vw' vd' : Value} {rows : List (RowV × Bx)} {Y : List (Bx × List Df)} {WL DL WL' DL' : List Bx}
theorem WdSt.ext (h : WdSt x w B vb vw vd rows Y WL DL) (hx : Ext w w') : WdSt x w' B vb vw vd rows Y WL DL :=
  ⟨h.ownB.ext hx, h.ownW.ext hx, h.ownD.ext hx, h.bw, h.bd, h.wd, h.len, fun i r y h1 h2 => ⟨(h.rd i r y h1 h2).1, (h.rd i r y h1 h2).2.ext hx⟩⟩
theorem WdSt.pushW (h : WdSt x w B vb vw vd rows Y WL DL) (hk : Kept w vw w1 vw') (ho : Own encBx 6 25 B w1 vw' WL') : WdSt x w1 B vb vw' vd rows Y WL' DL := by
  refine ⟨hk.other h.ownB h.bw.symm, ho, hk.other h.ownD h.wd, (hk.apt h.ownB h.bw.symm).symm, h.bd, hk.apt h.ownD h.wd, h.len, fun i r y h1 h2 => ?_⟩
  obtain ⟨e, hr⟩ := h.rd i r y h1 h2
  refine ⟨e, hk.slice hr.sl (fun a ha => (hr.at_ a ha).2.2.2.1), fun a ha => ?_⟩
  obtain ⟨q1, q2, q3, q4, q5⟩ := hr.at_ a ha
  exact ⟨q1, Nat.lt_of_lt_of_le q2 hk.size, q3, hk.ne q2 q4, q5⟩
theorem WdSt.pushD (h : WdSt x w B vb vw vd rows Y WL DL) (hk : Kept w vd w1 vd') (ho : Own encBx 6 25 B w1 vd' DL') : WdSt x w1 B vb vw vd' rows Y WL DL' := by
  refine ⟨hk.other h.ownB h.bd.symm, hk.other h.ownW h.wd.symm, ho, h.bw, (hk.apt h.ownB h.bd.symm).symm, (hk.apt h.ownW h.wd.symm).symm, h.len, fun i r y h1 h2 => ?_⟩
  obtain ⟨e, hr⟩ := h.rd i r y h1 h2
  refine ⟨e, hk.slice hr.sl (fun a ha => (hr.at_ a ha).2.2.2.2), fun a ha => ?_⟩
  obtain ⟨q1, q2, q3, q4, q5⟩ := hr.at_ a ha
  exact ⟨q1, Nat.lt_of_lt_of_le q2 hk.size, q3, q4, hk.ne q2 q5⟩
theorem WdSt.pushB {r0 : RowV × Bx} {l0 : List Df} (h : WdSt x w B vb vw vd rows Y WL DL) (hk : Kept w vb w1 vb') (h0 : RowD w B vb vw vd r0.1 l0) (ho : Own (encRB x) 18 30 B w1 vb' (rows ++ [r0])) : WdSt x w1 B vb' vw vd (rows ++ [r0]) (Y ++ [(r0.2, l0)]) WL DL := by
  refine ⟨ho, hk.other h.ownW h.bw, hk.other h.ownD h.bd, hk.apt h.ownW h.bw, hk.apt h.ownD h.bd, h.wd, by simp [h.len], fun i r y h1 h2 => ?_⟩
  rcases Nat.lt_trichotomy i rows.length with hi | hi | hi
  · rw [List.getElem?_append_left hi] at h1
    rw [List.getElem?_append_left (by rw [← h.len]; exact hi)] at h2
    exact ⟨(h.rd i r y h1 h2).1, (h.rd i r y h1 h2).2.afterB hk⟩
  · subst hi
    rw [h.len] at h2
    simp at h1 h2
    subst h1
    subst h2
    exact ⟨rfl, h0.afterB hk⟩
  · rw [List.getElem?_eq_none (by simp; omega)] at h1
    cases h1
theorem WdSt.read (h : WdSt x w B vb vw vd rows Y WL DL) : BdsR w vb x Y ∧ SliceOf encBx 6 w vw WL ∧ SliceOf encBx 6 w vd DL :=
  ⟨⟨rows, Own.slice (encRB_len x) h.ownB, h.len, fun i r y a b => ⟨(h.rd i r y a b).1, (h.rd i r y a b).2.sl⟩⟩, Own.slice encBx_len h.ownW, Own.slice encBx_len h.ownD⟩
end
attribute [local go_sem] ExtOf.cell ExtOf.frozen ExtS.cell ExtS.frozen Block.cell Block.frozen ExtB.cell ExtB.frozen alloc_cell alloc_frozen
set_option maxHeartbeats 1600000 in
set_option maxRecDepth 20000 in
theorem rboards_bad1 (x : Bd) (dv : Value) (ds : List Df) (p : Pdt) (lv pv : Value) (step kerf : Int) (P : List Sp) (vp : Value) (w : World) (hd : DfS w dv ds) (hl : IntS w lv p.ls) (hp : IntS w pv p.ps) (h0 : ¬ chkE x.b ds p step kerf 0 = 0) :
    Calls Tryz.prog 7 #[.agg (bdC x dv), .agg (pdC p lv pv), .int .i64 step, .int .i64 kerf, vp] w (BoardsPost x ds p step kerf P w) := by
  obtain ⟨lq, lcap, rfl, hl1, hl2, hl3⟩ := SliceOf.form hl
  obtain ⟨pq, pcap, rfl, hp1, hp2, hp3⟩ := SliceOf.form hp
  obtain ⟨q, cap, rfl, hd1, hd2, hd3⟩ := SliceOf.form hd
  have HL := Lib.hid hl
  have HP := Lib.hid hp
  have HD := Lib.hid hd
  clear hl hp hd
  unfold maxLen at hl2 hp2 hd2
  unfold bdC pdC
  have hE : boardsE x.b ds p step kerf P = chkE x.b ds p step kerf 0 := if_pos h0
  have hE0 : ¬ boardsE x.b ds p step kerf P = 0 := by rw [hE]; exact h0
  have HY : Hid (boardsY x.b ds p step kerf P = []) := Lib.hid (if_neg hE0)
  have HD1 : Hid (dustY x.b ds p step kerf P = []) := Lib.hid (if_neg hE0)
  have HC1 : Hid (chipY x.b ds p step kerf P = []) := Lib.hid (if_neg hE0)
  have HE := Lib.hid hE
  have h1 : (chkE x.b ds p step kerf 0 != 0) = true := bne_iff_ne.2 h0
  have H0 := Lib.hid h0
  clear h0 hE hE0
  go_enter Tryz.func7, Tryz.ntmps7
  go_wp2_with (first | ((with_reducible apply wl_load' lwBd); (· (first | exact wanted_none rfl | exact wanted_some rfl rfl rfl)); (· rfl); (· infer_instance); (· rfl)) | ((with_reducible apply wl_load' lwPd); (· (first | exact wanted_none rfl | exact wanted_some rfl rfl rfl)); (· rfl); (· infer_instance); (· rfl)) | (go_at_call 20; refine (rline_any x _ ds p _ _ step kerf 0 _ (SliceOf.ext HD.out (by repeat' (first | (with_reducible exact Ext.refl _) | (with_reducible exact ExtOf.ext _) | (with_reducible refine Ext.trans ?_ (ExtOf.ext _)) | (with_reducible refine Ext.alloc ?_ _) | (with_reducible refine Ext.drew ?_) | (with_reducible refine Ext.setCell ?_ ?_ _) | (with_reducible refine Ext.setRow ?_ ?_ _) | (with_reducible exact HX.out) | (with_reducible refine Ext.trans ?_ HX.out) | (with_reducible refine Ext.below ?_ (Nat.le_refl _) _) | omega | (simp; done) | (simp; omega)))) (SliceOf.ext HL.out (by repeat' (first | (with_reducible exact Ext.refl _) | (with_reducible exact ExtOf.ext _) | (with_reducible refine Ext.trans ?_ (ExtOf.ext _)) | (with_reducible refine Ext.alloc ?_ _) | (with_reducible refine Ext.drew ?_) | (with_reducible refine Ext.setCell ?_ ?_ _) | (with_reducible refine Ext.setRow ?_ ?_ _) | (with_reducible exact HX.out) | (with_reducible refine Ext.trans ?_ HX.out) | (with_reducible refine Ext.below ?_ (Nat.le_refl _) _) | omega | (simp; done) | (simp; omega)))) (SliceOf.ext HP.out (by repeat' (first | (with_reducible exact Ext.refl _) | (with_reducible exact ExtOf.ext _) | (with_reducible refine Ext.trans ?_ (ExtOf.ext _)) | (with_reducible refine Ext.alloc ?_ _) | (with_reducible refine Ext.drew ?_) | (with_reducible refine Ext.setCell ?_ ?_ _) | (with_reducible refine Ext.setRow ?_ ?_ _) | (with_reducible exact HX.out) | (with_reducible refine Ext.trans ?_ HX.out) | (with_reducible refine Ext.below ?_ (Nat.le_refl _) _) | omega | (simp; done) | (simp; omega))))).mono ?_; rintro e w' ⟨lv, rfl, hl0, hl1, nl, rfl⟩; (obtain rfl := hl0 H0.out); unfold zLine) | ((with_reducible apply wl_store' lwLine); (· (first | exact wanted_none rfl | exact wanted_some rfl rfl rfl)); (· rfl); (· rfl); (· infer_instance); (· rfl); (· rfl); (· (simp [Value.oneCell'])); try simp only [setRow_alloc, setRow_new, setRow_new1, setRow_new2, setRow_new11, setRow_new111]))
  exact bodyPost_ret (v := .tuple #[.slice none 0 0, .slice none 0 0, .slice none 0 0, .int .i64 (boardsE x.b ds p step kerf P)]) (by rw [HE.out]; simp [results, Tryz.results7, go_sem]) rfl ⟨_, _, _, rfl, by rw [HY.out]; exact BdsR.nil _ _, by rw [HD1.out]; exact SliceOf.nil _, by rw [HC1.out]; exact SliceOf.nil _, by exact ExtOf.of (by repeat' (first | (with_reducible exact Ext.refl _) | (with_reducible exact ExtOf.ext _) | (with_reducible refine Ext.trans ?_ (ExtOf.ext _)) | (with_reducible refine Ext.alloc ?_ _) | (with_reducible refine Ext.drew ?_) | (with_reducible refine Ext.setCell ?_ ?_ _) | (with_reducible refine Ext.setRow ?_ ?_ _) | (with_reducible exact HX.out) | (with_reducible refine Ext.trans ?_ HX.out) | (with_reducible refine Ext.below ?_ (Nat.le_refl _) _) | omega | (simp; done) | (simp; omega)))⟩
set_option maxHeartbeats 1600000 in
set_option maxRecDepth 20000 in
theorem rboards_bad2 (x : Bd) (dv : Value) (ds : List Df) (p : Pdt) (lv pv : Value) (step kerf : Int) (P : List Sp) (vp : Value) (w : World) (hd : DfS w dv ds) (hl : IntS w lv p.ls) (hp : IntS w pv p.ps) (hpp : SpS w vp P) (hPl : P.length ≤ 10000) (h0 : chkE x.b ds p step kerf 0 = 0) (hc : ¬ ((TrimM.line x.b ds p step kerf 0).cuts 0 [] [] P).1 = 0) :
    Calls Tryz.prog 7 #[.agg (bdC x dv), .agg (pdC p lv pv), .int .i64 step, .int .i64 kerf, vp] w (BoardsPost x ds p step kerf P w) := by
  obtain ⟨qq, qcap, rfl, hq1, hq2, hq3⟩ := SliceOf.form hpp
  have HQ := Lib.hid hpp
  clear hpp
  obtain ⟨lq, lcap, rfl, hl1, hl2, hl3⟩ := SliceOf.form hl
  obtain ⟨pq, pcap, rfl, hp1, hp2, hp3⟩ := SliceOf.form hp
  obtain ⟨q, cap, rfl, hd1, hd2, hd3⟩ := SliceOf.form hd
  have HL := Lib.hid hl
  have HP := Lib.hid hp
  have HD := Lib.hid hd
  clear hl hp hd
  unfold maxLen at hl2 hp2 hd2
  unfold bdC pdC
  unfold maxLen at hq2
  have hE : boardsE x.b ds p step kerf P = ((TrimM.line x.b ds p step kerf 0).cuts 0 [] [] P).1 := if_neg (by rw [h0]; decide)
  have hE0 : ¬ boardsE x.b ds p step kerf P = 0 := by rw [hE]; exact hc
  have HY : Hid (boardsY x.b ds p step kerf P = []) := Lib.hid (if_neg hE0)
  have HD1 : Hid (dustY x.b ds p step kerf P = []) := Lib.hid (if_neg hE0)
  have HC1 : Hid (chipY x.b ds p step kerf P = []) := Lib.hid (if_neg hE0)
  have HE := Lib.hid hE
  have h1 : (chkE x.b ds p step kerf 0 != 0) = false := bne_eq_false_iff_eq.2 h0
  have h2 : (((TrimM.line x.b ds p step kerf 0).cuts 0 [] [] P).1 != 0) = true := bne_iff_ne.2 hc
  have HFI := Lib.hid (line_fine (chkE_zero h0))
  have H0 := Lib.hid h0
  clear h0 hE hE0 hc
  go_enter Tryz.func7, Tryz.ntmps7
  go_wp2_with (first | ((with_reducible apply wl_load' lwBd); (· (first | exact wanted_none rfl | exact wanted_some rfl rfl rfl)); (· rfl); (· infer_instance); (· rfl)) | ((with_reducible apply wl_load' lwPd); (· (first | exact wanted_none rfl | exact wanted_some rfl rfl rfl)); (· rfl); (· infer_instance); (· rfl)) | (go_at_call 20; refine (rline_any x _ ds p _ _ step kerf 0 _ (SliceOf.ext HD.out (by repeat' (first | (with_reducible exact Ext.refl _) | (with_reducible exact ExtOf.ext _) | (with_reducible refine Ext.trans ?_ (ExtOf.ext _)) | (with_reducible refine Ext.alloc ?_ _) | (with_reducible refine Ext.drew ?_) | (with_reducible refine Ext.setCell ?_ ?_ _) | (with_reducible refine Ext.setRow ?_ ?_ _) | (with_reducible exact HX.out) | (with_reducible refine Ext.trans ?_ HX.out) | (with_reducible refine Ext.below ?_ (Nat.le_refl _) _) | omega | (simp; done) | (simp; omega)))) (SliceOf.ext HL.out (by repeat' (first | (with_reducible exact Ext.refl _) | (with_reducible exact ExtOf.ext _) | (with_reducible refine Ext.trans ?_ (ExtOf.ext _)) | (with_reducible refine Ext.alloc ?_ _) | (with_reducible refine Ext.drew ?_) | (with_reducible refine Ext.setCell ?_ ?_ _) | (with_reducible refine Ext.setRow ?_ ?_ _) | (with_reducible exact HX.out) | (with_reducible refine Ext.trans ?_ HX.out) | (with_reducible refine Ext.below ?_ (Nat.le_refl _) _) | omega | (simp; done) | (simp; omega)))) (SliceOf.ext HP.out (by repeat' (first | (with_reducible exact Ext.refl _) | (with_reducible exact ExtOf.ext _) | (with_reducible refine Ext.trans ?_ (ExtOf.ext _)) | (with_reducible refine Ext.alloc ?_ _) | (with_reducible refine Ext.drew ?_) | (with_reducible refine Ext.setCell ?_ ?_ _) | (with_reducible refine Ext.setRow ?_ ?_ _) | (with_reducible exact HX.out) | (with_reducible refine Ext.trans ?_ HX.out) | (with_reducible refine Ext.below ?_ (Nat.le_refl _) _) | omega | (simp; done) | (simp; omega))))).mono ?_; rintro e w' ⟨lv, rfl, hl0, hl1, nl, rfl⟩; (have HLS := Lib.hid (LineW.here (hl1 H0.out))); clear hl0 hl1; (obtain ⟨ps, c0, pg, c1, pc, c2, pd, c3, hlv⟩ := LineS.form HFI.out HLS.out); subst hlv) | ((with_reducible apply wl_store' lwLine); (· (first | exact wanted_none rfl | exact wanted_some rfl rfl rfl)); (· rfl); (· rfl); (· infer_instance); (· rfl); (· rfl); (· (simp [Value.oneCell'])); try simp only [setRow_alloc, setRow_new, setRow_new1, setRow_new2, setRow_new11, setRow_new111]) | ((with_reducible apply wl_load' lwLine); (· (first | exact wanted_none rfl | exact wanted_some rfl rfl rfl)); (· rfl); (· infer_instance); (· rfl)) | (go_at_call 21; refine (rcuts_any _ HFI.out _ P _ _ (LineS.ext HLS.out (by repeat' (first | (with_reducible exact Ext.refl _) | (with_reducible exact ExtOf.ext _) | (with_reducible refine Ext.trans ?_ (ExtOf.ext _)) | (with_reducible refine Ext.alloc ?_ _) | (with_reducible refine Ext.drew ?_) | (with_reducible refine Ext.setCell ?_ ?_ _) | (with_reducible refine Ext.setRow ?_ ?_ _) | (with_reducible exact HX.out) | (with_reducible refine Ext.trans ?_ HX.out) | (with_reducible refine Ext.below ?_ (Nat.le_refl _) _) | omega | (simp; done) | (simp; omega)))) (SliceOf.ext HQ.out (by repeat' (first | (with_reducible exact Ext.refl _) | (with_reducible exact ExtOf.ext _) | (with_reducible refine Ext.trans ?_ (ExtOf.ext _)) | (with_reducible refine Ext.alloc ?_ _) | (with_reducible refine Ext.drew ?_) | (with_reducible refine Ext.setCell ?_ ?_ _) | (with_reducible refine Ext.setRow ?_ ?_ _) | (with_reducible exact HX.out) | (with_reducible refine Ext.trans ?_ HX.out) | (with_reducible refine Ext.below ?_ (Nat.le_refl _) _) | omega | (simp; done) | (simp; omega)))) hPl).mono ?_; rintro e w' ⟨vd, vc, rfl, -, -, -, nc, rfl⟩))
  exact bodyPost_ret (v := .tuple #[.slice none 0 0, .slice none 0 0, .slice none 0 0, .int .i64 (boardsE x.b ds p step kerf P)]) (by rw [HE.out]; simp [results, Tryz.results7, go_sem]) rfl ⟨_, _, _, rfl, by rw [HY.out]; exact BdsR.nil _ _, by rw [HD1.out]; exact SliceOf.nil _, by rw [HC1.out]; exact SliceOf.nil _, by exact ExtOf.of (by repeat' (first | (with_reducible exact Ext.refl _) | (with_reducible exact ExtOf.ext _) | (with_reducible refine Ext.trans ?_ (ExtOf.ext _)) | (with_reducible refine Ext.alloc ?_ _) | (with_reducible refine Ext.drew ?_) | (with_reducible refine Ext.setCell ?_ ?_ _) | (with_reducible refine Ext.setRow ?_ ?_ _) | (with_reducible exact HX.out) | (with_reducible refine Ext.trans ?_ HX.out) | (with_reducible refine Ext.below ?_ (Nat.le_refl _) _) | omega | (simp; done) | (simp; omega)))⟩
end Go.Proofs.YtdalbfanfbeckaaGreatDoor
