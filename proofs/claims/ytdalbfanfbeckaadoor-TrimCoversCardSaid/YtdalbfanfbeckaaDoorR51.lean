/-
  Chapter 26: the law of covers: boards, dust and chips are the board.
-/
import Derived.Test.YtdalbfanfbeckaaDoorR46
import Derived.Test.YtdalbfanfbeckaaDoorK50
set_option linter.unusedVariables false
set_option linter.unusedSimpArgs false
namespace Go.Proofs.YtdalbfanfbeckaaDoor
open Go.RowKit TrimM

attribute [local go_sem] ExtOf.cell ExtOf.frozen ExtS.cell ExtS.frozen Block.cell Block.frozen ExtB.cell ExtB.frozen alloc_cell alloc_frozen
theorem nil_of_form {α : Type} {enc : α → List Value} {k : Nat} {w : World} {v : Value} (h : SliceOf enc k w v ([] : List α)) : ∃ q cap, v = .slice q 0 cap := by
  obtain ⟨q, cap, e, _, _, _⟩ := SliceOf.form h
  exact ⟨q, cap, e⟩
set_option maxHeartbeats 3200000 in
set_option maxRecDepth 20000 in
theorem covers_walk (x : Bd) (dv : Value) (ds : List Df) (p : Pdt) (lv pv : Value) (step kerf fine : Int) (P : List Sp) (vp : Value) (w : World) (hd : DfS w dv ds) (hl : IntS w lv p.ls) (hp : IntS w pv p.ps) (hpp : SpS w vp P) (htab : Tab w) :
    Calls Tryd.prog 5 #[.agg (gvC x dv p lv pv step kerf fine), vp] w fun e w' => e = .returned (.bool true) ∧ ∃ n : ExtOf w, w' = n.val := by
  obtain ⟨lq, lcap, rfl, hl1, hl2, hl3⟩ := SliceOf.form hl
  obtain ⟨pq, pcap, rfl, hp1, hp2, hp3⟩ := SliceOf.form hp
  obtain ⟨q, cap, rfl, hd1, hd2, hd3⟩ := SliceOf.form hd
  have HL := Lib.hid hl
  have HP := Lib.hid hp
  have HD := Lib.hid hd
  have HTB := Lib.hid htab
  clear hl hp hd htab
  unfold maxLen at hl2 hp2 hd2
  unfold gvC
  obtain ⟨qq, qcap, rfl, hq1, hq2, hq3⟩ := SliceOf.form hpp
  have HQ := Lib.hid hpp
  clear hpp
  unfold maxLen at hq2
  go_enter Tryd.func5, Tryd.ntmps5
  go_wp2_with (first | ((with_reducible apply wl_load' lwGiven); (· (first | exact wanted_none rfl | exact wanted_some rfl rfl rfl)); (· rfl); (· infer_instance); (· rfl)) | ((with_reducible apply wl_loadB midBd); (· (first | exact wanted_none rfl | exact wanted_some rfl rfl rfl)); (· rfl); (· infer_instance); (· rfl); (· rfl)) | ((with_reducible apply wl_loadB midPd); (· (first | exact wanted_none rfl | exact wanted_some rfl rfl rfl)); (· rfl); (· infer_instance); (· rfl); (· rfl)) | ((with_reducible apply wl_store' lwLine); (· (first | exact wanted_none rfl | exact wanted_some rfl rfl rfl)); (· rfl); (· rfl); (· infer_instance); (· rfl); (· rfl); (· (simp [Value.oneCell'])); try simp only [setRow_alloc, setRow_new, setRow_new1, setRow_new2, setRow_new11, setRow_new111]) | ((with_reducible apply wl_load' lwLine); (· (first | exact wanted_none rfl | exact wanted_some rfl rfl rfl)); (· rfl); (· infer_instance); (· rfl)) | ((with_reducible apply wl_store' lwGiven); (· (first | exact wanted_none rfl | exact wanted_some rfl rfl rfl)); (· rfl); (· rfl); (· infer_instance); (· rfl); (· rfl); (· (simp [Value.oneCell'])); try simp only [setRow_alloc, setRow_new, setRow_new1, setRow_new2, setRow_new11, setRow_new111]) | (go_at_call 9; refine (awake_any _ (Tab.ext HTB.out (by repeat' (first | (with_reducible exact Ext.refl _) | (with_reducible exact ExtOf.ext _) | (with_reducible refine Ext.trans ?_ (ExtOf.ext _)) | (with_reducible refine Ext.alloc ?_ _) | (with_reducible refine Ext.drew ?_) | (with_reducible refine Ext.setCell ?_ ?_ _) | (with_reducible refine Ext.setRow ?_ ?_ _) | (with_reducible exact HX.out) | (with_reducible refine Ext.trans ?_ HX.out) | (with_reducible refine Ext.below ?_ (Nat.le_refl _) _) | omega | (simp; done) | (simp; omega))))).mono ?_; rintro e w' ⟨rfl, na, rfl⟩))
  refine (small_any x _ ds p _ _ step kerf fine _ (SliceOf.ext HD.out (by repeat' (first | (with_reducible exact Ext.refl _) | (with_reducible exact ExtOf.ext _) | (with_reducible refine Ext.trans ?_ (ExtOf.ext _)) | (with_reducible refine Ext.alloc ?_ _) | (with_reducible refine Ext.drew ?_) | (with_reducible refine Ext.setCell ?_ ?_ _) | (with_reducible refine Ext.setRow ?_ ?_ _) | (with_reducible exact HX.out) | (with_reducible refine Ext.trans ?_ HX.out) | (with_reducible refine Ext.below ?_ (Nat.le_refl _) _) | omega | (simp; done) | (simp; omega)))) (SliceOf.ext HL.out (by repeat' (first | (with_reducible exact Ext.refl _) | (with_reducible exact ExtOf.ext _) | (with_reducible refine Ext.trans ?_ (ExtOf.ext _)) | (with_reducible refine Ext.alloc ?_ _) | (with_reducible refine Ext.drew ?_) | (with_reducible refine Ext.setCell ?_ ?_ _) | (with_reducible refine Ext.setRow ?_ ?_ _) | (with_reducible exact HX.out) | (with_reducible refine Ext.trans ?_ HX.out) | (with_reducible refine Ext.below ?_ (Nat.le_refl _) _) | omega | (simp; done) | (simp; omega)))) (SliceOf.ext HP.out (by repeat' (first | (with_reducible exact Ext.refl _) | (with_reducible exact ExtOf.ext _) | (with_reducible refine Ext.trans ?_ (ExtOf.ext _)) | (with_reducible refine Ext.alloc ?_ _) | (with_reducible refine Ext.drew ?_) | (with_reducible refine Ext.setCell ?_ ?_ _) | (with_reducible refine Ext.setRow ?_ ?_ _) | (with_reducible exact HX.out) | (with_reducible refine Ext.trans ?_ HX.out) | (with_reducible refine Ext.below ?_ (Nat.le_refl _) _) | omega | (simp; done) | (simp; omega))))).mono ?_
  rintro e w' ⟨c, rfl, ns, rfl⟩
  cases c
  · go_wp2_with (first | ((with_reducible apply wl_load' lwGiven); (· (first | exact wanted_none rfl | exact wanted_some rfl rfl rfl)); (· rfl); (· infer_instance); (· rfl)) | ((with_reducible apply wl_loadB midBd); (· (first | exact wanted_none rfl | exact wanted_some rfl rfl rfl)); (· rfl); (· infer_instance); (· rfl); (· rfl)) | ((with_reducible apply wl_loadB midPd); (· (first | exact wanted_none rfl | exact wanted_some rfl rfl rfl)); (· rfl); (· infer_instance); (· rfl); (· rfl)) | ((with_reducible apply wl_store' lwLine); (· (first | exact wanted_none rfl | exact wanted_some rfl rfl rfl)); (· rfl); (· rfl); (· infer_instance); (· rfl); (· rfl); (· (simp [Value.oneCell'])); try simp only [setRow_alloc, setRow_new, setRow_new1, setRow_new2, setRow_new11, setRow_new111]) | ((with_reducible apply wl_load' lwLine); (· (first | exact wanted_none rfl | exact wanted_some rfl rfl rfl)); (· rfl); (· infer_instance); (· rfl)) | ((with_reducible apply wl_store' lwGiven); (· (first | exact wanted_none rfl | exact wanted_some rfl rfl rfl)); (· rfl); (· rfl); (· infer_instance); (· rfl); (· rfl); (· (simp [Value.oneCell'])); try simp only [setRow_alloc, setRow_new, setRow_new1, setRow_new2, setRow_new11, setRow_new111]) | (go_at_call 9; refine (awake_any _ (Tab.ext HTB.out (by repeat' (first | (with_reducible exact Ext.refl _) | (with_reducible exact ExtOf.ext _) | (with_reducible refine Ext.trans ?_ (ExtOf.ext _)) | (with_reducible refine Ext.alloc ?_ _) | (with_reducible refine Ext.drew ?_) | (with_reducible refine Ext.setCell ?_ ?_ _) | (with_reducible refine Ext.setRow ?_ ?_ _) | (with_reducible exact HX.out) | (with_reducible refine Ext.trans ?_ HX.out) | (with_reducible refine Ext.below ?_ (Nat.le_refl _) _) | omega | (simp; done) | (simp; omega))))).mono ?_; rintro e w' ⟨rfl, na, rfl⟩))
    go_ret
    exact ⟨rfl, by exact ExtOf.of (by repeat' (first | (with_reducible exact Ext.refl _) | (with_reducible exact ExtOf.ext _) | (with_reducible refine Ext.trans ?_ (ExtOf.ext _)) | (with_reducible refine Ext.alloc ?_ _) | (with_reducible refine Ext.drew ?_) | (with_reducible refine Ext.setCell ?_ ?_ _) | (with_reducible refine Ext.setRow ?_ ?_ _) | (with_reducible exact HX.out) | (with_reducible refine Ext.trans ?_ HX.out) | (with_reducible refine Ext.below ?_ (Nat.le_refl _) _) | omega | (simp; done) | (simp; omega)))⟩
  by_cases hPl : 100 < P.length
  · go_wp2_with (first | ((with_reducible apply wl_load' lwGiven); (· (first | exact wanted_none rfl | exact wanted_some rfl rfl rfl)); (· rfl); (· infer_instance); (· rfl)) | ((with_reducible apply wl_loadB midBd); (· (first | exact wanted_none rfl | exact wanted_some rfl rfl rfl)); (· rfl); (· infer_instance); (· rfl); (· rfl)) | ((with_reducible apply wl_loadB midPd); (· (first | exact wanted_none rfl | exact wanted_some rfl rfl rfl)); (· rfl); (· infer_instance); (· rfl); (· rfl)) | ((with_reducible apply wl_store' lwLine); (· (first | exact wanted_none rfl | exact wanted_some rfl rfl rfl)); (· rfl); (· rfl); (· infer_instance); (· rfl); (· rfl); (· (simp [Value.oneCell'])); try simp only [setRow_alloc, setRow_new, setRow_new1, setRow_new2, setRow_new11, setRow_new111]) | ((with_reducible apply wl_load' lwLine); (· (first | exact wanted_none rfl | exact wanted_some rfl rfl rfl)); (· rfl); (· infer_instance); (· rfl)) | ((with_reducible apply wl_store' lwGiven); (· (first | exact wanted_none rfl | exact wanted_some rfl rfl rfl)); (· rfl); (· rfl); (· infer_instance); (· rfl); (· rfl); (· (simp [Value.oneCell'])); try simp only [setRow_alloc, setRow_new, setRow_new1, setRow_new2, setRow_new11, setRow_new111]) | (go_at_call 9; refine (awake_any _ (Tab.ext HTB.out (by repeat' (first | (with_reducible exact Ext.refl _) | (with_reducible exact ExtOf.ext _) | (with_reducible refine Ext.trans ?_ (ExtOf.ext _)) | (with_reducible refine Ext.alloc ?_ _) | (with_reducible refine Ext.drew ?_) | (with_reducible refine Ext.setCell ?_ ?_ _) | (with_reducible refine Ext.setRow ?_ ?_ _) | (with_reducible exact HX.out) | (with_reducible refine Ext.trans ?_ HX.out) | (with_reducible refine Ext.below ?_ (Nat.le_refl _) _) | omega | (simp; done) | (simp; omega))))).mono ?_; rintro e w' ⟨rfl, na, rfl⟩))
    go_ret
    exact ⟨rfl, by exact ExtOf.of (by repeat' (first | (with_reducible exact Ext.refl _) | (with_reducible exact ExtOf.ext _) | (with_reducible refine Ext.trans ?_ (ExtOf.ext _)) | (with_reducible refine Ext.alloc ?_ _) | (with_reducible refine Ext.drew ?_) | (with_reducible refine Ext.setCell ?_ ?_ _) | (with_reducible refine Ext.setRow ?_ ?_ _) | (with_reducible exact HX.out) | (with_reducible refine Ext.trans ?_ HX.out) | (with_reducible refine Ext.below ?_ (Nat.le_refl _) _) | omega | (simp; done) | (simp; omega)))⟩
  go_wp2_with (first | ((with_reducible apply wl_load' lwGiven); (· (first | exact wanted_none rfl | exact wanted_some rfl rfl rfl)); (· rfl); (· infer_instance); (· rfl)) | ((with_reducible apply wl_loadB midBd); (· (first | exact wanted_none rfl | exact wanted_some rfl rfl rfl)); (· rfl); (· infer_instance); (· rfl); (· rfl)) | ((with_reducible apply wl_loadB midPd); (· (first | exact wanted_none rfl | exact wanted_some rfl rfl rfl)); (· rfl); (· infer_instance); (· rfl); (· rfl)) | ((with_reducible apply wl_store' lwLine); (· (first | exact wanted_none rfl | exact wanted_some rfl rfl rfl)); (· rfl); (· rfl); (· infer_instance); (· rfl); (· rfl); (· (simp [Value.oneCell'])); try simp only [setRow_alloc, setRow_new, setRow_new1, setRow_new2, setRow_new11, setRow_new111]) | ((with_reducible apply wl_load' lwLine); (· (first | exact wanted_none rfl | exact wanted_some rfl rfl rfl)); (· rfl); (· infer_instance); (· rfl)) | ((with_reducible apply wl_store' lwGiven); (· (first | exact wanted_none rfl | exact wanted_some rfl rfl rfl)); (· rfl); (· rfl); (· infer_instance); (· rfl); (· rfl); (· (simp [Value.oneCell'])); try simp only [setRow_alloc, setRow_new, setRow_new1, setRow_new2, setRow_new11, setRow_new111]) | (go_at_call 9; refine (awake_any _ (Tab.ext HTB.out (by repeat' (first | (with_reducible exact Ext.refl _) | (with_reducible exact ExtOf.ext _) | (with_reducible refine Ext.trans ?_ (ExtOf.ext _)) | (with_reducible refine Ext.alloc ?_ _) | (with_reducible refine Ext.drew ?_) | (with_reducible refine Ext.setCell ?_ ?_ _) | (with_reducible refine Ext.setRow ?_ ?_ _) | (with_reducible exact HX.out) | (with_reducible refine Ext.trans ?_ HX.out) | (with_reducible refine Ext.below ?_ (Nat.le_refl _) _) | omega | (simp; done) | (simp; omega))))).mono ?_; rintro e w' ⟨rfl, na, rfl⟩))
  refine (boards_any x _ ds p _ _ step kerf P _ _ (SliceOf.ext HD.out (by repeat' (first | (with_reducible exact Ext.refl _) | (with_reducible exact ExtOf.ext _) | (with_reducible refine Ext.trans ?_ (ExtOf.ext _)) | (with_reducible refine Ext.alloc ?_ _) | (with_reducible refine Ext.drew ?_) | (with_reducible refine Ext.setCell ?_ ?_ _) | (with_reducible refine Ext.setRow ?_ ?_ _) | (with_reducible exact HX.out) | (with_reducible refine Ext.trans ?_ HX.out) | (with_reducible refine Ext.below ?_ (Nat.le_refl _) _) | omega | (simp; done) | (simp; omega)))) (SliceOf.ext HL.out (by repeat' (first | (with_reducible exact Ext.refl _) | (with_reducible exact ExtOf.ext _) | (with_reducible refine Ext.trans ?_ (ExtOf.ext _)) | (with_reducible refine Ext.alloc ?_ _) | (with_reducible refine Ext.drew ?_) | (with_reducible refine Ext.setCell ?_ ?_ _) | (with_reducible refine Ext.setRow ?_ ?_ _) | (with_reducible exact HX.out) | (with_reducible refine Ext.trans ?_ HX.out) | (with_reducible refine Ext.below ?_ (Nat.le_refl _) _) | omega | (simp; done) | (simp; omega)))) (SliceOf.ext HP.out (by repeat' (first | (with_reducible exact Ext.refl _) | (with_reducible exact ExtOf.ext _) | (with_reducible refine Ext.trans ?_ (ExtOf.ext _)) | (with_reducible refine Ext.alloc ?_ _) | (with_reducible refine Ext.drew ?_) | (with_reducible refine Ext.setCell ?_ ?_ _) | (with_reducible refine Ext.setRow ?_ ?_ _) | (with_reducible exact HX.out) | (with_reducible refine Ext.trans ?_ HX.out) | (with_reducible refine Ext.below ?_ (Nat.le_refl _) _) | omega | (simp; done) | (simp; omega)))) (SliceOf.ext HQ.out (by repeat' (first | (with_reducible exact Ext.refl _) | (with_reducible exact ExtOf.ext _) | (with_reducible refine Ext.trans ?_ (ExtOf.ext _)) | (with_reducible refine Ext.alloc ?_ _) | (with_reducible refine Ext.drew ?_) | (with_reducible refine Ext.setCell ?_ ?_ _) | (with_reducible refine Ext.setRow ?_ ?_ _) | (with_reducible exact HX.out) | (with_reducible refine Ext.trans ?_ HX.out) | (with_reducible refine Ext.below ?_ (Nat.le_refl _) _) | omega | (simp; done) | (simp; omega)))) (by omega)).mono ?_
  rintro e w' ⟨vb, vd, vc, rfl, hbb, hdd, hcc, nb, rfl⟩
  by_cases hE : ¬ boardsE x.b ds p step kerf P = 0
  · have hE1 : (boardsE x.b ds p step kerf P != 0) = true := bne_iff_ne.2 hE
    obtain ⟨rows, hr, hlen, hrd⟩ := hbb
    rw [show boardsY x.b ds p step kerf P = [] from if_neg hE] at hlen
    obtain rfl := List.length_eq_zero_iff.1 hlen
    rw [show dustY x.b ds p step kerf P = [] from if_neg hE] at hdd
    rw [show chipY x.b ds p step kerf P = [] from if_neg hE] at hcc
    obtain ⟨p1, c1, rfl⟩ := nil_of_form hr
    obtain ⟨p2, c2, rfl⟩ := nil_of_form hdd
    obtain ⟨p3, c3, rfl⟩ := nil_of_form hcc
    clear hr hlen hrd hdd hcc hE
    go_wp2_with (first | ((with_reducible apply wl_load' lwGiven); (· (first | exact wanted_none rfl | exact wanted_some rfl rfl rfl)); (· rfl); (· infer_instance); (· rfl)) | ((with_reducible apply wl_loadB midBd); (· (first | exact wanted_none rfl | exact wanted_some rfl rfl rfl)); (· rfl); (· infer_instance); (· rfl); (· rfl)) | ((with_reducible apply wl_loadB midPd); (· (first | exact wanted_none rfl | exact wanted_some rfl rfl rfl)); (· rfl); (· infer_instance); (· rfl); (· rfl)) | ((with_reducible apply wl_store' lwLine); (· (first | exact wanted_none rfl | exact wanted_some rfl rfl rfl)); (· rfl); (· rfl); (· infer_instance); (· rfl); (· rfl); (· (simp [Value.oneCell'])); try simp only [setRow_alloc, setRow_new, setRow_new1, setRow_new2, setRow_new11, setRow_new111]) | ((with_reducible apply wl_load' lwLine); (· (first | exact wanted_none rfl | exact wanted_some rfl rfl rfl)); (· rfl); (· infer_instance); (· rfl)) | ((with_reducible apply wl_store' lwGiven); (· (first | exact wanted_none rfl | exact wanted_some rfl rfl rfl)); (· rfl); (· rfl); (· infer_instance); (· rfl); (· rfl); (· (simp [Value.oneCell'])); try simp only [setRow_alloc, setRow_new, setRow_new1, setRow_new2, setRow_new11, setRow_new111]) | (go_at_call 9; refine (awake_any _ (Tab.ext HTB.out (by repeat' (first | (with_reducible exact Ext.refl _) | (with_reducible exact ExtOf.ext _) | (with_reducible refine Ext.trans ?_ (ExtOf.ext _)) | (with_reducible refine Ext.alloc ?_ _) | (with_reducible refine Ext.drew ?_) | (with_reducible refine Ext.setCell ?_ ?_ _) | (with_reducible refine Ext.setRow ?_ ?_ _) | (with_reducible exact HX.out) | (with_reducible refine Ext.trans ?_ HX.out) | (with_reducible refine Ext.below ?_ (Nat.le_refl _) _) | omega | (simp; done) | (simp; omega))))).mono ?_; rintro e w' ⟨rfl, na, rfl⟩))
    go_ret
    exact ⟨rfl, by exact ExtOf.of (by repeat' (first | (with_reducible exact Ext.refl _) | (with_reducible exact ExtOf.ext _) | (with_reducible refine Ext.trans ?_ (ExtOf.ext _)) | (with_reducible refine Ext.alloc ?_ _) | (with_reducible refine Ext.drew ?_) | (with_reducible refine Ext.setCell ?_ ?_ _) | (with_reducible refine Ext.setRow ?_ ?_ _) | (with_reducible exact HX.out) | (with_reducible refine Ext.trans ?_ HX.out) | (with_reducible refine Ext.below ?_ (Nat.le_refl _) _) | omega | (simp; done) | (simp; omega)))⟩
  replace hE := Classical.not_not.1 hE
  have hE1 : (boardsE x.b ds p step kerf P != 0) = false := bne_eq_false_iff_eq.2 hE
  obtain ⟨o1, o2, o3, o4, o5, o6, o7⟩ := all_ok hE
  obtain ⟨rows, hr, hlen, hrd⟩ := hbb
  obtain ⟨AL, hAL⟩ : ∃ l, l = allY x.b ds p step kerf P := ⟨_, rfl⟩
  obtain ⟨BB, hBB⟩ : ∃ l, l = rows.map (·.2) := ⟨_, rfl⟩
  obtain ⟨DB, hDB⟩ : ∃ l, l = dustY x.b ds p step kerf P := ⟨_, rfl⟩
  obtain ⟨CB, hCB⟩ : ∃ l, l = chipY x.b ds p step kerf P := ⟨_, rfl⟩
  have hBY : BB = (boardsY x.b ds p step kerf P).map (·.1) := by
    rw [hBB]
    refine List.ext_getElem? fun i => ?_
    rw [List.getElem?_map, List.getElem?_map]
    rcases Nat.lt_or_ge i rows.length with hi | hi
    · have hi2 : i < (boardsY x.b ds p step kerf P).length := by omega
      rw [List.getElem?_eq_getElem hi, List.getElem?_eq_getElem hi2]
      simp only [Option.map_some]
      exact congrArg some (hrd i _ _ (List.getElem?_eq_getElem hi) (List.getElem?_eq_getElem hi2)).1
    · rw [List.getElem?_eq_none hi, List.getElem?_eq_none (by omega)]; rfl
  have hAE : AL = BB ++ DB ++ CB := by rw [hAL, hBY, hDB, hCB]; rfl
  rw [← hAL] at o1 o2 o3
  rw [← hDB] at hdd o5
  rw [← hCB] at hcc o6
  have hBl : BB.length = P.length := by rw [hBB, List.length_map, hlen, o4]
  have hRl : rows.length = P.length := by rw [hlen, o4]
  obtain ⟨pr, cr, rfl, _, _, _⟩ := SliceOf.form hr
  obtain ⟨pd, cd, rfl, _, _, _⟩ := SliceOf.form hdd
  obtain ⟨pc, cc, rfl, _, _, _⟩ := SliceOf.form hcc
  rw [hRl] at hr ⊢
  have HE := Lib.hid hE
  have O1 := Lib.hid o1
  have O2 := Lib.hid o2
  have O3 := Lib.hid o3
  have HR := Lib.hid hr
  have HDD := Lib.hid hdd
  have HCC := Lib.hid hcc
  have HBB := Lib.hid hBB
  have HAE := Lib.hid hAE
  clear hE o1 o2 o3 hr hdd hcc hrd hBB hAE hAL hDB hCB hBY hlen
  go_wp2_with (first | ((with_reducible apply wl_load' lwGiven); (· (first | exact wanted_none rfl | exact wanted_some rfl rfl rfl)); (· rfl); (· infer_instance); (· rfl)) | ((with_reducible apply wl_loadB midBd); (· (first | exact wanted_none rfl | exact wanted_some rfl rfl rfl)); (· rfl); (· infer_instance); (· rfl); (· rfl)) | ((with_reducible apply wl_loadB midPd); (· (first | exact wanted_none rfl | exact wanted_some rfl rfl rfl)); (· rfl); (· infer_instance); (· rfl); (· rfl)) | ((with_reducible apply wl_store' lwLine); (· (first | exact wanted_none rfl | exact wanted_some rfl rfl rfl)); (· rfl); (· rfl); (· infer_instance); (· rfl); (· rfl); (· (simp [Value.oneCell'])); try simp only [setRow_alloc, setRow_new, setRow_new1, setRow_new2, setRow_new11, setRow_new111]) | ((with_reducible apply wl_load' lwLine); (· (first | exact wanted_none rfl | exact wanted_some rfl rfl rfl)); (· rfl); (· infer_instance); (· rfl)) | ((with_reducible apply wl_store' lwGiven); (· (first | exact wanted_none rfl | exact wanted_some rfl rfl rfl)); (· rfl); (· rfl); (· infer_instance); (· rfl); (· rfl); (· (simp [Value.oneCell'])); try simp only [setRow_alloc, setRow_new, setRow_new1, setRow_new2, setRow_new11, setRow_new111]) | (go_at_call 9; refine (awake_any _ (Tab.ext HTB.out (by repeat' (first | (with_reducible exact Ext.refl _) | (with_reducible exact ExtOf.ext _) | (with_reducible refine Ext.trans ?_ (ExtOf.ext _)) | (with_reducible refine Ext.alloc ?_ _) | (with_reducible refine Ext.drew ?_) | (with_reducible refine Ext.setCell ?_ ?_ _) | (with_reducible refine Ext.setRow ?_ ?_ _) | (with_reducible exact HX.out) | (with_reducible refine Ext.trans ?_ HX.out) | (with_reducible refine Ext.below ?_ (Nat.le_refl _) _) | omega | (simp; done) | (simp; omega))))).mono ?_; rintro e w' ⟨rfl, na, rfl⟩))
  refine nameW (R := fun W => Code.wp _ _ _ _ W) (fun W => Hid (Ext w W) ∧ Block W w.heap.size #[.string x.id, .string x.lg, .string x.sp, .int .i64 x.pr, .int .i64 x.b.xa, .int .i64 x.b.xb, .int .i64 x.b.ya, .int .i64 x.b.yb, .int .i64 x.b.za, .int .i64 x.b.zb, .int .i64 x.vol, .slice q ds.length cap, .int .i64 x.wa, .int .i64 x.su, .int .i64 x.co, .int .i64 x.st, .bool x.dr, .int .i64 x.gr, .string p.nm, .int .i64 p.th, .int .i64 p.wi, .int .i64 p.al, .int .i64 p.wa, .slice lq p.ls.length lcap, .slice pq p.ps.length pcap, .int .i64 step, .int .i64 kerf, .int .i64 fine] ∧ Hid (SliceOf (encRB x) 18 W (.slice pr P.length cr) rows) ∧ Hid (SliceOf encBx 6 W (.slice pd DB.length cd) DB) ∧ Hid (SliceOf encBx 6 W (.slice pc CB.length cc) CB)) ⟨Lib.hid (by repeat' (first | (with_reducible exact Ext.refl _) | (with_reducible exact ExtOf.ext _) | (with_reducible refine Ext.trans ?_ (ExtOf.ext _)) | (with_reducible refine Ext.alloc ?_ _) | (with_reducible refine Ext.drew ?_) | (with_reducible refine Ext.setCell ?_ ?_ _) | (with_reducible refine Ext.setRow ?_ ?_ _) | (with_reducible exact HX.out) | (with_reducible refine Ext.trans ?_ HX.out) | (with_reducible refine Ext.below ?_ (Nat.le_refl _) _) | omega | (simp; done) | (simp; omega))), inferInstance, HR, HDD, HCC⟩ ?_
  clear HR HDD HCC
  rintro W0 ⟨HX0, hg0, HR, HDD, HCC⟩
  clear nb ns
  have og0 := hg0.old
  obtain ⟨iB, hiB, hi0, hi1, hi2⟩ := info_parts infoBox
  have hDl : DB.length ≤ 200 := by omega
  have hCl : CB.length ≤ 301 := by omega
  go_loopw [9, 10] (fun vA v wr => ∃ k : Nat, k ≤ P.length ∧ v = .int .i64 (k : Int) ∧ Own encBx 6 25 W0.heap.size wr vA (BB.take k) ∧ Ext W0 wr) (fun _ v _ => P.length - (intOf v).toNat)
  case atStart => exact ⟨0, by omega, rfl, Own.nil _, Ext.refl _⟩
  case round =>
    obtain ⟨k, hk, rfl, ho, hx⟩ := hrel
    have HX := Lib.hid hx
    have HO := Lib.hid ho
    have hszr := hx.size
    have hgr := hg0.ext hx
    clear hx ho
    obtain ⟨RB, hRB⟩ : ∃ l, l = BB.take k := ⟨_, rfl⟩
    have hRl : RB.length = k := by rw [hRB, List.length_take]; omega
    rw [← hRB] at HO
    have hRk : RB.length ≤ 100 := by omega
    clear hRl
    obtain ⟨q9, c9, rfl⟩ := Own.form2 HO.out
    by_cases hlt : k < P.length
    · obtain ⟨b0, f0, rfl, r0⟩ := SliceOf.elemK (SliceOf.ext HR.out HX.out) (by omega : k < rows.length)
      obtain ⟨⟨rv, bx⟩, hrk⟩ : ∃ z, rows[k]'(by omega) = z := ⟨_, rfl⟩
      rw [hrk] at r0
      obtain ⟨A1, A2, A3, A4, A5, A6⟩ := bx
      have rb : wr.rangeAt b0 (f0 + k * 18 + 4) [.int .i64 A1, .int .i64 A2, .int .i64 A3, .int .i64 A4, .int .i64 A5, .int .i64 A6] := range_at 4 6 r0 rfl
      have HTK : Hid (BB.take (k + 1) = RB ++ [⟨A1, A2, A3, A4, A5, A6⟩]) := Lib.hid (by
        rw [hRB, List.take_succ_eq_append_getElem (by omega : k < BB.length)]
        congr 2
        simp only [HBB.out, List.getElem_map, hrk])
      have o0 : Old b0 wr := Old.of_cell (rb 0 _ rfl)
      clear r0 hrk hRB
      go_wp2_with (first | ((with_reducible apply wl_loadM midBox rb); (· rfl); (· (first | exact wanted_none rfl | exact wanted_some rfl rfl rfl)); (· rfl)) | (at_builtin; refine wl_append1g (enc := encBx) (k := 6) (E := 25) (base := W0.heap.size) (l := RB) (y := ⟨A1, A2, A3, A4, A5, A6⟩) Tryd.underlying52 hiB hi0 hi1 hi2 rfl (by decide) encBx_len encBx_one rfl rfl (Own.ext HO.out (Ext.alloc (Ext.refl _) _)) (Block.new _ _ _) rfl (by unfold maxLen; omega) (by omega) (by simp; omega) ?_; intro v7 n7 ho7 hk7))
      have hX9 : Ext W0 n7.val := Ext.below (HX.out.trans (Ext.alloc (Ext.refl _) _)) (Nat.le_refl _) n7
      go_roundw
      case rel => exact ⟨k + 1, by omega, by first | rfl | go_num, by rw [HTK.out]; exact ho7, hX9⟩
      case measure => simp [intOf]; omega
    · have hkl : k = P.length := by omega
      have hRB2 : RB = BB := by rw [hRB, hkl, ← hBl, List.take_length]
      clear hRB hRk
      subst hRB2
      have hgo := hgr.old
      have un : Under w.heap.size W0.heap.size := ⟨hg0.lt⟩
      have hAl : AL.length ≤ 601 := by rw [HAE.out, List.length_append, List.length_append]; omega
      have hall : 0 ≤ x.b.za ∧ x.b.zb ≤ 20000 := ⟨o7.1, o7.2.2⟩
      go_wp2_with (first | ((with_reducible apply wl_loadB midBox); (· (first | exact wanted_none rfl | exact wanted_some rfl rfl rfl)); (· rfl); (· infer_instance); (· rfl); (· rfl)) | (at_builtin; refine wl_appendS (enc := encBx) (k := 6) (E := 25) (base := W0.heap.size) (l := RB) (m := DB) Tryd.underlying52 hiB hi0 hi1 hi2 rfl (by decide) encBx_len encBx_one rfl rfl HO.out (SliceOf.ext HDD.out HX.out) (by unfold maxLen; omega) (by omega) hszr ?_; intro vS1 m1 hS1; have hX1 : Ext W0 m1.val := Ext.below HX.out (Nat.le_refl _) m1) | (at_builtin; refine wl_appendS (enc := encBx) (k := 6) (E := 25) (base := W0.heap.size) (l := RB ++ DB) (m := CB) Tryd.underlying52 hiB hi0 hi1 hi2 rfl (by decide) encBx_len encBx_one rfl rfl hS1 (SliceOf.ext HCC.out hX1) (by rw [List.length_append]; unfold maxLen; omega) (by rw [List.length_append]; omega) hX1.size ?_; intro vS2 m2 hS2; (rw [← HAE.out] at hS2); (obtain ⟨qA, cA, rfl⟩ := Own.form2 hS2); have HSA := Lib.hid (Own.slice encBx_len hS2); have hX2 : Ext W0 m2.val := Ext.below hX1 (Nat.le_refl _) m2) | (go_at_call 17; refine (total_any x.b AL _ _ HSA.out hall (by omega) O2.out).mono ?_; rintro e w' ⟨rfl, nt, rfl⟩; rw [O1.out]))
      refine nameW (R := fun W => Code.wp _ _ _ _ W) (fun W => Hid (Ext w W) ∧ Hid (SliceOf encBx 6 W (.slice qA AL.length cA) AL)) ⟨Lib.hid (HX0.out.trans (hX2.trans (by repeat' (first | (with_reducible exact Ext.refl _) | (with_reducible exact ExtOf.ext _) | (with_reducible refine Ext.trans ?_ (ExtOf.ext _)) | (with_reducible refine Ext.alloc ?_ _) | (with_reducible refine Ext.drew ?_) | (with_reducible refine Ext.setCell ?_ ?_ _) | (with_reducible refine Ext.setRow ?_ ?_ _) | (with_reducible exact HX.out) | (with_reducible refine Ext.trans ?_ HX.out) | (with_reducible refine Ext.below ?_ (Nat.le_refl _) _) | omega | (simp; done) | (simp; omega))))), Lib.hid (SliceOf.ext HSA.out (by repeat' (first | (with_reducible exact Ext.refl _) | (with_reducible exact ExtOf.ext _) | (with_reducible refine Ext.trans ?_ (ExtOf.ext _)) | (with_reducible refine Ext.alloc ?_ _) | (with_reducible refine Ext.drew ?_) | (with_reducible refine Ext.setCell ?_ ?_ _) | (with_reducible refine Ext.setRow ?_ ?_ _) | (with_reducible exact HX.out) | (with_reducible refine Ext.trans ?_ HX.out) | (with_reducible refine Ext.below ?_ (Nat.le_refl _) _) | omega | (simp; done) | (simp; omega))))⟩ ?_
      clear HSA hX2 hX1 hS1 hS2 hgr hgo un nt m2 m1 HO HX
      rintro W3 ⟨HX, HSA⟩
      go_loopw [13] (fun v wr => ∃ i : Nat, i ≤ AL.length ∧ v = .int .i64 (i : Int) ∧ Ext W3 wr) (fun v _ => AL.length - (intOf v).toNat)
      case atStart => exact ⟨0, by omega, rfl, Ext.refl _⟩
      case round =>
        obtain ⟨i, hi, rfl, hx⟩ := hrel
        have HXi := Lib.hid hx
        clear hx
        by_cases hil : i < AL.length
        · go_wp2_with fail
          go_loopw [14] (fun v wr2 => ∃ k : Nat, k ≤ i ∧ v = .int .i64 (k : Int) ∧ Ext wr wr2) (fun v _ => i - (intOf v).toNat)
          case atStart => exact ⟨0, by omega, rfl, Ext.refl _⟩
          case round =>
            obtain ⟨k, hk, rfl, hx⟩ := hrel
            rename World => wq
            have HXk := Lib.hid hx
            clear hx
            by_cases hkl : k < i
            · have Eik : Ext W3 wq := HXi.out.trans HXk.out
              obtain ⟨b0, f0, rfl, r0⟩ := SliceOf.elemK (SliceOf.ext HSA.out Eik) hil
              obtain ⟨b1, f1, e1, r1⟩ := SliceOf.elemK (SliceOf.ext HSA.out Eik) (by omega : k < AL.length)
              cases e1
              obtain ⟨y, hy⟩ : ∃ z, AL[i] = z := ⟨_, rfl⟩
              obtain ⟨z, hz⟩ : ∃ z, AL[k]'(by omega) = z := ⟨_, rfl⟩
              rw [hy] at r0
              rw [hz] at r1
              have c1 : wq.cell? ⟨b0, f0 + i * 6 + 4, none⟩ = some (.int .i64 y.za) := r0 4 _ rfl
              have c2 : wq.cell? ⟨b0, f0 + i * 6 + 4 + 1, none⟩ = some (.int .i64 y.zb) := r0 5 _ rfl
              have c3 : wq.cell? ⟨b0, f0 + k * 6 + 4, none⟩ = some (.int .i64 z.za) := r1 4 _ rfl
              have c4 : wq.cell? ⟨b0, f0 + k * 6 + 4 + 1, none⟩ = some (.int .i64 z.zb) := r1 5 _ rfl
              have o0 : Old b0 wq := Old.of_cell c1
              have hap := O3.out i k y z hkl (by rw [List.getElem?_eq_getElem hil, hy]) (by rw [List.getElem?_eq_getElem (by omega), hz])
              clear r0 r1 hy hz
              by_cases t1 : y.za < z.zb
              · have t2 : ¬ z.za < y.zb := fun h => hap ⟨t1, h⟩
                have u1 : decide (y.za < z.zb) = true := decide_eq_true t1
                have u2 : decide (z.za < y.zb) = false := decide_eq_false t2
                go_wp2_with fail
                refine wp_region_ext (by kernel_rfl) (by kernel_rfl) ?_
                repeat (first | go_big_quiet_skip | go_big_quiet_step (fail))
                refine wpQuiet_nil ?_
                intro _ hw'
                obtain ⟨nq, hw''⟩ := hw'
                subst hw''
                go_wp2_with fail
                go_roundw
                case rel => exact ⟨k + 1, by omega, by first | rfl | go_num, HXk.out.trans (ExtOf.ext _)⟩
                case measure => simp [intOf]; omega
              · have u1 : decide (y.za < z.zb) = false := decide_eq_false t1
                go_wp2_with fail
                refine wp_region_ext (by kernel_rfl) (by kernel_rfl) ?_
                repeat (first | go_big_quiet_skip | go_big_quiet_step (fail))
                refine wpQuiet_nil ?_
                intro _ hw'
                obtain ⟨nq, hw''⟩ := hw'
                subst hw''
                go_wp2_with fail
                go_roundw
                case rel => exact ⟨k + 1, by omega, by first | rfl | go_num, HXk.out.trans (ExtOf.ext _)⟩
                case measure => simp [intOf]; omega
            · go_wp2_with fail
              go_roundw
              case rel => exact ⟨i + 1, by omega, by first | rfl | go_num, HXi.out.trans HXk.out⟩
              case measure => simp [intOf]; omega
        · have HX9 := Lib.hid (HX.out.trans HXi.out)
          clear HX
          have HX := HX9
          go_wp2_with ((go_at_call 9; refine (awake_any _ (Tab.ext HTB.out (by repeat' (first | (with_reducible exact Ext.refl _) | (with_reducible exact ExtOf.ext _) | (with_reducible refine Ext.trans ?_ (ExtOf.ext _)) | (with_reducible refine Ext.alloc ?_ _) | (with_reducible refine Ext.drew ?_) | (with_reducible refine Ext.setCell ?_ ?_ _) | (with_reducible refine Ext.setRow ?_ ?_ _) | (with_reducible exact HX.out) | (with_reducible refine Ext.trans ?_ HX.out) | (with_reducible refine Ext.below ?_ (Nat.le_refl _) _) | omega | (simp; done) | (simp; omega))))).mono ?_; rintro e w' ⟨rfl, na, rfl⟩))
          go_ret
          exact ⟨rfl, by exact ExtOf.of (by repeat' (first | (with_reducible exact Ext.refl _) | (with_reducible exact ExtOf.ext _) | (with_reducible refine Ext.trans ?_ (ExtOf.ext _)) | (with_reducible refine Ext.alloc ?_ _) | (with_reducible refine Ext.drew ?_) | (with_reducible refine Ext.setCell ?_ ?_ _) | (with_reducible refine Ext.setRow ?_ ?_ _) | (with_reducible exact HX.out) | (with_reducible refine Ext.trans ?_ HX.out) | (with_reducible refine Ext.below ?_ (Nat.le_refl _) _) | omega | (simp; done) | (simp; omega)))⟩
end Go.Proofs.YtdalbfanfbeckaaDoor
