/-
  Chapter 26: the law of defects: the defects of boards are those of the log.
-/
import Derived.Test.YtdalbfanfbeckaaDoorR46
import Derived.Test.YtdalbfanfbeckaaDoorMC
import Derived.Test.YtdalbfanfbeckaaDoorR54
import Derived.Deep.DeepCutAuto
import Derived.Test.YtdalbfanfbeckaaDoorK50
set_option linter.unusedVariables false
set_option linter.unusedSimpArgs false
namespace Go.Proofs.YtdalbfanfbeckaaDoor
open Go.RowKit TrimM

attribute [local go_sem] ExtOf.cell ExtOf.frozen ExtS.cell ExtS.frozen Block.cell Block.frozen ExtB.cell ExtB.frozen alloc_cell alloc_frozen equal_df equalX_df eqGuard_df equal_cell equalX_cell eqGuard_cell
theorem nil_of_form {α : Type} {enc : α → List Value} {k : Nat} {w : World} {v : Value} (h : SliceOf enc k w v ([] : List α)) : ∃ q cap, v = .slice q 0 cap := by
  obtain ⟨q, cap, e, _, _, _⟩ := SliceOf.form h
  exact ⟨q, cap, e⟩
/-- what is known of each board -/
structure BdFact (b : Bx) (p : Pdt) (D : List Df) (y : Bx × List Df) : Prop where
  clip : y.2 = TrimM.clip D y.1
  rot : ∀ e ∈ y.2, e.k ≠ 3
  len : (y.1.zb - y.1.za) ∈ p.ls
  rx : -600 ≤ y.1.xa ∧ y.1.xb ≤ 600 ∧ y.1.xa < y.1.xb
  ry : -600 ≤ y.1.ya ∧ y.1.yb ≤ 600 ∧ y.1.ya < y.1.yb
  rz : 0 ≤ y.1.za ∧ y.1.zb ≤ 20000 ∧ y.1.za < y.1.zb
theorem near_of {b : Bx} (hx : -600 ≤ b.xa ∧ b.xb ≤ 600 ∧ b.xa < b.xb) (hy : -600 ≤ b.ya ∧ b.yb ≤ 600 ∧ b.ya < b.yb) (hz : 0 ≤ b.za ∧ b.zb ≤ 20000 ∧ b.za < b.zb) : near b = true := by
  unfold near
  rw [(insd_iff _ _ _ _).2 (by omega), (insd_iff _ _ _ _).2 (by omega), (insd_iff _ _ _ _).2 (by omega)]
  rfl
theorem bd_facts {b : Bx} {p : Pdt} {D : List Df} {step kerf : Int} {P : List Sp} (hD : defsE D = 0) (hE : boardsE b (clipA D b) p step kerf P = 0) : ∀ y ∈ boardsY b (clipA D b) p step kerf P, BdFact b p D y := by
  obtain ⟨h0, hc⟩ := boardsE_zero hE
  have hC := chkE_zero h0
  have hch := cuts_chain P 0 [] [] hc
  have hx := hC.x
  have hy := hC.y
  have hz := hC.z
  have hcl : clipA D b = TrimM.clip D b := if_pos ⟨hD, near_of (by omega) (by omega) (by omega)⟩
  intro y hyy
  unfold boardsY at hyy
  rw [if_pos hE] at hyy
  obtain ⟨s, hs, rfl⟩ := List.mem_map.1 hyy
  obtain ⟨d1, d2, d3, d4, d5, d6⟩ := defects_M h0 hcl hch s hs
  refine ⟨d1, d2, ?_, ?_, ?_, ?_⟩
  · show b.za + s.2 - (b.za + s.1) ∈ p.ls
    rw [show b.za + s.2 - (b.za + s.1) = s.2 - s.1 by omega]
    exact d3
  · exact ⟨hx.2.1, hx.2.2, hx.1⟩
  · exact ⟨hy.2.1, hy.2.2, hy.1⟩
  · show 0 ≤ b.za + s.1 ∧ b.za + s.2 ≤ 20000 ∧ b.za + s.1 < b.za + s.2
    omega
set_option maxHeartbeats 6400000 in
set_option maxRecDepth 20000 in
theorem defects_walk (x : Bd) (dv : Value) (ds : List Df) (p : Pdt) (lv pv : Value) (step kerf fine : Int) (P : List Sp) (vp : Value) (D : List Df) (vD : Value) (w : World) (hd : DfS w dv ds) (hl : IntS w lv p.ls) (hp : IntS w pv p.ps) (hpp : SpS w vp P) (hdd : DfS w vD D) (htab : Tab w) :
    Calls Tryd.prog 7 #[.agg (gvC x dv p lv pv step kerf fine), vp, vD] w fun e w' => e = .returned (.bool true) ∧ ∃ n : ExtOf w, w' = n.val := by
  obtain ⟨lq, lcap, rfl, hl1, hl2, hl3⟩ := SliceOf.form hl
  obtain ⟨pq, pcap, rfl, hp1, hp2, hp3⟩ := SliceOf.form hp
  obtain ⟨q, cap, rfl, hd1, hd2, hd3⟩ := SliceOf.form hd
  have HL := Lib.hid hl
  have HP := Lib.hid hp
  have HD := Lib.hid hd
  have HTB := Lib.hid htab
  clear hl hp hd htab
  unfold maxLen at hl2 hp2 hd2
  unfold gvC
  obtain ⟨qq, qcap, rfl, hq1, hq2, hq3⟩ := SliceOf.form hpp
  have HQ := Lib.hid hpp
  clear hpp
  unfold maxLen at hq2
  obtain ⟨qd', cd', rfl, hdd1, hdd2, hdd3⟩ := SliceOf.form hdd
  have HDD := Lib.hid hdd
  clear hdd
  unfold maxLen at hdd2
  go_enter Tryd.func7, Tryd.ntmps7
  go_wp2_with (first | ((with_reducible apply wl_load' lwGiven); (· (first | exact wanted_none rfl | exact wanted_some rfl rfl rfl)); (· rfl); (· infer_instance); (· rfl)) | ((with_reducible apply wl_loadB midBd); (· (first | exact wanted_none rfl | exact wanted_some rfl rfl rfl)); (· rfl); (· infer_instance); (· rfl); (· rfl)) | ((with_reducible apply wl_loadB midPd); (· (first | exact wanted_none rfl | exact wanted_some rfl rfl rfl)); (· rfl); (· infer_instance); (· rfl); (· rfl)) | ((with_reducible apply wl_store' lwLine); (· (first | exact wanted_none rfl | exact wanted_some rfl rfl rfl)); (· rfl); (· rfl); (· infer_instance); (· rfl); (· rfl); (· (simp [Value.oneCell'])); try simp only [setRow_alloc, setRow_new, setRow_new1, setRow_new2, setRow_new11, setRow_new111]) | ((with_reducible apply wl_load' lwLine); (· (first | exact wanted_none rfl | exact wanted_some rfl rfl rfl)); (· rfl); (· infer_instance); (· rfl)) | ((with_reducible apply wl_store' lwGiven); (· (first | exact wanted_none rfl | exact wanted_some rfl rfl rfl)); (· rfl); (· rfl); (· infer_instance); (· rfl); (· rfl); (· (simp [Value.oneCell'])); try simp only [setRow_alloc, setRow_new, setRow_new1, setRow_new2, setRow_new11, setRow_new111]) | (go_at_call 9; refine (awake_any _ (Tab.ext HTB.out (by repeat' (first | (with_reducible exact Ext.refl _) | (with_reducible exact ExtOf.ext _) | (with_reducible refine Ext.trans ?_ (ExtOf.ext _)) | (with_reducible refine Ext.alloc ?_ _) | (with_reducible refine Ext.drew ?_) | (with_reducible refine Ext.setCell ?_ ?_ _) | (with_reducible refine Ext.setRow ?_ ?_ _) | (with_reducible exact HX.out) | (with_reducible refine Ext.trans ?_ HX.out) | (with_reducible refine Ext.below ?_ (Nat.le_refl _) _) | omega | (simp; done) | (simp; omega))))).mono ?_; rintro e w' ⟨rfl, na, rfl⟩))
  refine (small_any x _ ds p _ _ step kerf fine _ (SliceOf.ext HD.out (by repeat' (first | (with_reducible exact Ext.refl _) | (with_reducible exact ExtOf.ext _) | (with_reducible refine Ext.trans ?_ (ExtOf.ext _)) | (with_reducible refine Ext.alloc ?_ _) | (with_reducible refine Ext.drew ?_) | (with_reducible refine Ext.setCell ?_ ?_ _) | (with_reducible refine Ext.setRow ?_ ?_ _) | (with_reducible exact HX.out) | (with_reducible refine Ext.trans ?_ HX.out) | (with_reducible refine Ext.below ?_ (Nat.le_refl _) _) | omega | (simp; done) | (simp; omega)))) (SliceOf.ext HL.out (by repeat' (first | (with_reducible exact Ext.refl _) | (with_reducible exact ExtOf.ext _) | (with_reducible refine Ext.trans ?_ (ExtOf.ext _)) | (with_reducible refine Ext.alloc ?_ _) | (with_reducible refine Ext.drew ?_) | (with_reducible refine Ext.setCell ?_ ?_ _) | (with_reducible refine Ext.setRow ?_ ?_ _) | (with_reducible exact HX.out) | (with_reducible refine Ext.trans ?_ HX.out) | (with_reducible refine Ext.below ?_ (Nat.le_refl _) _) | omega | (simp; done) | (simp; omega)))) (SliceOf.ext HP.out (by repeat' (first | (with_reducible exact Ext.refl _) | (with_reducible exact ExtOf.ext _) | (with_reducible refine Ext.trans ?_ (ExtOf.ext _)) | (with_reducible refine Ext.alloc ?_ _) | (with_reducible refine Ext.drew ?_) | (with_reducible refine Ext.setCell ?_ ?_ _) | (with_reducible refine Ext.setRow ?_ ?_ _) | (with_reducible exact HX.out) | (with_reducible refine Ext.trans ?_ HX.out) | (with_reducible refine Ext.below ?_ (Nat.le_refl _) _) | omega | (simp; done) | (simp; omega))))).mono ?_
  rintro e w' ⟨c, rfl, ns, rfl⟩
  cases c
  · go_wp2_with (first | first | ((with_reducible apply wl_load' lwGiven); (· (first | exact wanted_none rfl | exact wanted_some rfl rfl rfl)); (· rfl); (· infer_instance); (· rfl)) | ((with_reducible apply wl_loadB midBd); (· (first | exact wanted_none rfl | exact wanted_some rfl rfl rfl)); (· rfl); (· infer_instance); (· rfl); (· rfl)) | ((with_reducible apply wl_loadB midPd); (· (first | exact wanted_none rfl | exact wanted_some rfl rfl rfl)); (· rfl); (· infer_instance); (· rfl); (· rfl)) | ((with_reducible apply wl_store' lwLine); (· (first | exact wanted_none rfl | exact wanted_some rfl rfl rfl)); (· rfl); (· rfl); (· infer_instance); (· rfl); (· rfl); (· (simp [Value.oneCell'])); try simp only [setRow_alloc, setRow_new, setRow_new1, setRow_new2, setRow_new11, setRow_new111]) | ((with_reducible apply wl_load' lwLine); (· (first | exact wanted_none rfl | exact wanted_some rfl rfl rfl)); (· rfl); (· infer_instance); (· rfl)) | ((with_reducible apply wl_store' lwGiven); (· (first | exact wanted_none rfl | exact wanted_some rfl rfl rfl)); (· rfl); (· rfl); (· infer_instance); (· rfl); (· rfl); (· (simp [Value.oneCell'])); try simp only [setRow_alloc, setRow_new, setRow_new1, setRow_new2, setRow_new11, setRow_new111]) | (go_at_call 9; refine (awake_any _ (Tab.ext HTB.out (by repeat' (first | (with_reducible exact Ext.refl _) | (with_reducible exact ExtOf.ext _) | (with_reducible refine Ext.trans ?_ (ExtOf.ext _)) | (with_reducible refine Ext.alloc ?_ _) | (with_reducible refine Ext.drew ?_) | (with_reducible refine Ext.setCell ?_ ?_ _) | (with_reducible refine Ext.setRow ?_ ?_ _) | (with_reducible exact HX.out) | (with_reducible refine Ext.trans ?_ HX.out) | (with_reducible refine Ext.below ?_ (Nat.le_refl _) _) | omega | (simp; done) | (simp; omega))))).mono ?_; rintro e w' ⟨rfl, na, rfl⟩) | ((with_reducible apply wl_loadB midBox); (· (first | exact wanted_none rfl | exact wanted_some rfl rfl rfl)); (· rfl); (· infer_instance); (· rfl); (· rfl)) | ((with_reducible apply wl_store' lwBox); (· (first | exact wanted_none rfl | exact wanted_some rfl rfl rfl)); (· rfl); (· rfl); (· infer_instance); (· rfl); (· rfl); (· (simp [Value.oneCell'])); try simp only [setRow_alloc, setRow_new, setRow_new1, setRow_new2, setRow_new11, setRow_new111]) | ((with_reducible apply wl_load' lwBox); (· (first | exact wanted_none rfl | exact wanted_some rfl rfl rfl)); (· rfl); (· infer_instance); (· rfl)) | (go_at_call 18; refine (dCheck_any D _ _ (SliceOf.ext HDD.out (by repeat' (first | (with_reducible exact Ext.refl _) | (with_reducible exact ExtOf.ext _) | (with_reducible refine Ext.trans ?_ (ExtOf.ext _)) | (with_reducible refine Ext.alloc ?_ _) | (with_reducible refine Ext.drew ?_) | (with_reducible refine Ext.setCell ?_ ?_ _) | (with_reducible refine Ext.setRow ?_ ?_ _) | (with_reducible exact HX.out) | (with_reducible refine Ext.trans ?_ HX.out) | (with_reducible refine Ext.below ?_ (Nat.le_refl _) _) | omega | (simp; done) | (simp; omega))))).mono ?_; rintro e w' ⟨rfl, nd, rfl⟩))
    go_ret
    exact ⟨rfl, by exact ExtOf.of (by repeat' (first | (with_reducible exact Ext.refl _) | (with_reducible exact ExtOf.ext _) | (with_reducible refine Ext.trans ?_ (ExtOf.ext _)) | (with_reducible refine Ext.alloc ?_ _) | (with_reducible refine Ext.drew ?_) | (with_reducible refine Ext.setCell ?_ ?_ _) | (with_reducible refine Ext.setRow ?_ ?_ _) | (with_reducible exact HX.out) | (with_reducible refine Ext.trans ?_ HX.out) | (with_reducible refine Ext.below ?_ (Nat.le_refl _) _) | omega | (simp; done) | (simp; omega)))⟩
  by_cases hPl : 100 < P.length
  · go_wp2_with (first | first | ((with_reducible apply wl_load' lwGiven); (· (first | exact wanted_none rfl | exact wanted_some rfl rfl rfl)); (· rfl); (· infer_instance); (· rfl)) | ((with_reducible apply wl_loadB midBd); (· (first | exact wanted_none rfl | exact wanted_some rfl rfl rfl)); (· rfl); (· infer_instance); (· rfl); (· rfl)) | ((with_reducible apply wl_loadB midPd); (· (first | exact wanted_none rfl | exact wanted_some rfl rfl rfl)); (· rfl); (· infer_instance); (· rfl); (· rfl)) | ((with_reducible apply wl_store' lwLine); (· (first | exact wanted_none rfl | exact wanted_some rfl rfl rfl)); (· rfl); (· rfl); (· infer_instance); (· rfl); (· rfl); (· (simp [Value.oneCell'])); try simp only [setRow_alloc, setRow_new, setRow_new1, setRow_new2, setRow_new11, setRow_new111]) | ((with_reducible apply wl_load' lwLine); (· (first | exact wanted_none rfl | exact wanted_some rfl rfl rfl)); (· rfl); (· infer_instance); (· rfl)) | ((with_reducible apply wl_store' lwGiven); (· (first | exact wanted_none rfl | exact wanted_some rfl rfl rfl)); (· rfl); (· rfl); (· infer_instance); (· rfl); (· rfl); (· (simp [Value.oneCell'])); try simp only [setRow_alloc, setRow_new, setRow_new1, setRow_new2, setRow_new11, setRow_new111]) | (go_at_call 9; refine (awake_any _ (Tab.ext HTB.out (by repeat' (first | (with_reducible exact Ext.refl _) | (with_reducible exact ExtOf.ext _) | (with_reducible refine Ext.trans ?_ (ExtOf.ext _)) | (with_reducible refine Ext.alloc ?_ _) | (with_reducible refine Ext.drew ?_) | (with_reducible refine Ext.setCell ?_ ?_ _) | (with_reducible refine Ext.setRow ?_ ?_ _) | (with_reducible exact HX.out) | (with_reducible refine Ext.trans ?_ HX.out) | (with_reducible refine Ext.below ?_ (Nat.le_refl _) _) | omega | (simp; done) | (simp; omega))))).mono ?_; rintro e w' ⟨rfl, na, rfl⟩) | ((with_reducible apply wl_loadB midBox); (· (first | exact wanted_none rfl | exact wanted_some rfl rfl rfl)); (· rfl); (· infer_instance); (· rfl); (· rfl)) | ((with_reducible apply wl_store' lwBox); (· (first | exact wanted_none rfl | exact wanted_some rfl rfl rfl)); (· rfl); (· rfl); (· infer_instance); (· rfl); (· rfl); (· (simp [Value.oneCell'])); try simp only [setRow_alloc, setRow_new, setRow_new1, setRow_new2, setRow_new11, setRow_new111]) | ((with_reducible apply wl_load' lwBox); (· (first | exact wanted_none rfl | exact wanted_some rfl rfl rfl)); (· rfl); (· infer_instance); (· rfl)) | (go_at_call 18; refine (dCheck_any D _ _ (SliceOf.ext HDD.out (by repeat' (first | (with_reducible exact Ext.refl _) | (with_reducible exact ExtOf.ext _) | (with_reducible refine Ext.trans ?_ (ExtOf.ext _)) | (with_reducible refine Ext.alloc ?_ _) | (with_reducible refine Ext.drew ?_) | (with_reducible refine Ext.setCell ?_ ?_ _) | (with_reducible refine Ext.setRow ?_ ?_ _) | (with_reducible exact HX.out) | (with_reducible refine Ext.trans ?_ HX.out) | (with_reducible refine Ext.below ?_ (Nat.le_refl _) _) | omega | (simp; done) | (simp; omega))))).mono ?_; rintro e w' ⟨rfl, nd, rfl⟩))
    go_ret
    exact ⟨rfl, by exact ExtOf.of (by repeat' (first | (with_reducible exact Ext.refl _) | (with_reducible exact ExtOf.ext _) | (with_reducible refine Ext.trans ?_ (ExtOf.ext _)) | (with_reducible refine Ext.alloc ?_ _) | (with_reducible refine Ext.drew ?_) | (with_reducible refine Ext.setCell ?_ ?_ _) | (with_reducible refine Ext.setRow ?_ ?_ _) | (with_reducible exact HX.out) | (with_reducible refine Ext.trans ?_ HX.out) | (with_reducible refine Ext.below ?_ (Nat.le_refl _) _) | omega | (simp; done) | (simp; omega)))⟩
  by_cases hDl : 70 < D.length
  · go_wp2_with (first | first | ((with_reducible apply wl_load' lwGiven); (· (first | exact wanted_none rfl | exact wanted_some rfl rfl rfl)); (· rfl); (· infer_instance); (· rfl)) | ((with_reducible apply wl_loadB midBd); (· (first | exact wanted_none rfl | exact wanted_some rfl rfl rfl)); (· rfl); (· infer_instance); (· rfl); (· rfl)) | ((with_reducible apply wl_loadB midPd); (· (first | exact wanted_none rfl | exact wanted_some rfl rfl rfl)); (· rfl); (· infer_instance); (· rfl); (· rfl)) | ((with_reducible apply wl_store' lwLine); (· (first | exact wanted_none rfl | exact wanted_some rfl rfl rfl)); (· rfl); (· rfl); (· infer_instance); (· rfl); (· rfl); (· (simp [Value.oneCell'])); try simp only [setRow_alloc, setRow_new, setRow_new1, setRow_new2, setRow_new11, setRow_new111]) | ((with_reducible apply wl_load' lwLine); (· (first | exact wanted_none rfl | exact wanted_some rfl rfl rfl)); (· rfl); (· infer_instance); (· rfl)) | ((with_reducible apply wl_store' lwGiven); (· (first | exact wanted_none rfl | exact wanted_some rfl rfl rfl)); (· rfl); (· rfl); (· infer_instance); (· rfl); (· rfl); (· (simp [Value.oneCell'])); try simp only [setRow_alloc, setRow_new, setRow_new1, setRow_new2, setRow_new11, setRow_new111]) | (go_at_call 9; refine (awake_any _ (Tab.ext HTB.out (by repeat' (first | (with_reducible exact Ext.refl _) | (with_reducible exact ExtOf.ext _) | (with_reducible refine Ext.trans ?_ (ExtOf.ext _)) | (with_reducible refine Ext.alloc ?_ _) | (with_reducible refine Ext.drew ?_) | (with_reducible refine Ext.setCell ?_ ?_ _) | (with_reducible refine Ext.setRow ?_ ?_ _) | (with_reducible exact HX.out) | (with_reducible refine Ext.trans ?_ HX.out) | (with_reducible refine Ext.below ?_ (Nat.le_refl _) _) | omega | (simp; done) | (simp; omega))))).mono ?_; rintro e w' ⟨rfl, na, rfl⟩) | ((with_reducible apply wl_loadB midBox); (· (first | exact wanted_none rfl | exact wanted_some rfl rfl rfl)); (· rfl); (· infer_instance); (· rfl); (· rfl)) | ((with_reducible apply wl_store' lwBox); (· (first | exact wanted_none rfl | exact wanted_some rfl rfl rfl)); (· rfl); (· rfl); (· infer_instance); (· rfl); (· rfl); (· (simp [Value.oneCell'])); try simp only [setRow_alloc, setRow_new, setRow_new1, setRow_new2, setRow_new11, setRow_new111]) | ((with_reducible apply wl_load' lwBox); (· (first | exact wanted_none rfl | exact wanted_some rfl rfl rfl)); (· rfl); (· infer_instance); (· rfl)) | (go_at_call 18; refine (dCheck_any D _ _ (SliceOf.ext HDD.out (by repeat' (first | (with_reducible exact Ext.refl _) | (with_reducible exact ExtOf.ext _) | (with_reducible refine Ext.trans ?_ (ExtOf.ext _)) | (with_reducible refine Ext.alloc ?_ _) | (with_reducible refine Ext.drew ?_) | (with_reducible refine Ext.setCell ?_ ?_ _) | (with_reducible refine Ext.setRow ?_ ?_ _) | (with_reducible exact HX.out) | (with_reducible refine Ext.trans ?_ HX.out) | (with_reducible refine Ext.below ?_ (Nat.le_refl _) _) | omega | (simp; done) | (simp; omega))))).mono ?_; rintro e w' ⟨rfl, nd, rfl⟩))
    go_ret
    exact ⟨rfl, by exact ExtOf.of (by repeat' (first | (with_reducible exact Ext.refl _) | (with_reducible exact ExtOf.ext _) | (with_reducible refine Ext.trans ?_ (ExtOf.ext _)) | (with_reducible refine Ext.alloc ?_ _) | (with_reducible refine Ext.drew ?_) | (with_reducible refine Ext.setCell ?_ ?_ _) | (with_reducible refine Ext.setRow ?_ ?_ _) | (with_reducible exact HX.out) | (with_reducible refine Ext.trans ?_ HX.out) | (with_reducible refine Ext.below ?_ (Nat.le_refl _) _) | omega | (simp; done) | (simp; omega)))⟩
  by_cases hD0 : ¬ defsE D = 0
  · have e1 : (defsE D != 0) = true := bne_iff_ne.2 hD0
    go_wp2_with (first | first | ((with_reducible apply wl_load' lwGiven); (· (first | exact wanted_none rfl | exact wanted_some rfl rfl rfl)); (· rfl); (· infer_instance); (· rfl)) | ((with_reducible apply wl_loadB midBd); (· (first | exact wanted_none rfl | exact wanted_some rfl rfl rfl)); (· rfl); (· infer_instance); (· rfl); (· rfl)) | ((with_reducible apply wl_loadB midPd); (· (first | exact wanted_none rfl | exact wanted_some rfl rfl rfl)); (· rfl); (· infer_instance); (· rfl); (· rfl)) | ((with_reducible apply wl_store' lwLine); (· (first | exact wanted_none rfl | exact wanted_some rfl rfl rfl)); (· rfl); (· rfl); (· infer_instance); (· rfl); (· rfl); (· (simp [Value.oneCell'])); try simp only [setRow_alloc, setRow_new, setRow_new1, setRow_new2, setRow_new11, setRow_new111]) | ((with_reducible apply wl_load' lwLine); (· (first | exact wanted_none rfl | exact wanted_some rfl rfl rfl)); (· rfl); (· infer_instance); (· rfl)) | ((with_reducible apply wl_store' lwGiven); (· (first | exact wanted_none rfl | exact wanted_some rfl rfl rfl)); (· rfl); (· rfl); (· infer_instance); (· rfl); (· rfl); (· (simp [Value.oneCell'])); try simp only [setRow_alloc, setRow_new, setRow_new1, setRow_new2, setRow_new11, setRow_new111]) | (go_at_call 9; refine (awake_any _ (Tab.ext HTB.out (by repeat' (first | (with_reducible exact Ext.refl _) | (with_reducible exact ExtOf.ext _) | (with_reducible refine Ext.trans ?_ (ExtOf.ext _)) | (with_reducible refine Ext.alloc ?_ _) | (with_reducible refine Ext.drew ?_) | (with_reducible refine Ext.setCell ?_ ?_ _) | (with_reducible refine Ext.setRow ?_ ?_ _) | (with_reducible exact HX.out) | (with_reducible refine Ext.trans ?_ HX.out) | (with_reducible refine Ext.below ?_ (Nat.le_refl _) _) | omega | (simp; done) | (simp; omega))))).mono ?_; rintro e w' ⟨rfl, na, rfl⟩) | ((with_reducible apply wl_loadB midBox); (· (first | exact wanted_none rfl | exact wanted_some rfl rfl rfl)); (· rfl); (· infer_instance); (· rfl); (· rfl)) | ((with_reducible apply wl_store' lwBox); (· (first | exact wanted_none rfl | exact wanted_some rfl rfl rfl)); (· rfl); (· rfl); (· infer_instance); (· rfl); (· rfl); (· (simp [Value.oneCell'])); try simp only [setRow_alloc, setRow_new, setRow_new1, setRow_new2, setRow_new11, setRow_new111]) | ((with_reducible apply wl_load' lwBox); (· (first | exact wanted_none rfl | exact wanted_some rfl rfl rfl)); (· rfl); (· infer_instance); (· rfl)) | (go_at_call 18; refine (dCheck_any D _ _ (SliceOf.ext HDD.out (by repeat' (first | (with_reducible exact Ext.refl _) | (with_reducible exact ExtOf.ext _) | (with_reducible refine Ext.trans ?_ (ExtOf.ext _)) | (with_reducible refine Ext.alloc ?_ _) | (with_reducible refine Ext.drew ?_) | (with_reducible refine Ext.setCell ?_ ?_ _) | (with_reducible refine Ext.setRow ?_ ?_ _) | (with_reducible exact HX.out) | (with_reducible refine Ext.trans ?_ HX.out) | (with_reducible refine Ext.below ?_ (Nat.le_refl _) _) | omega | (simp; done) | (simp; omega))))).mono ?_; rintro e w' ⟨rfl, nd, rfl⟩))
    go_ret
    exact ⟨rfl, by exact ExtOf.of (by repeat' (first | (with_reducible exact Ext.refl _) | (with_reducible exact ExtOf.ext _) | (with_reducible refine Ext.trans ?_ (ExtOf.ext _)) | (with_reducible refine Ext.alloc ?_ _) | (with_reducible refine Ext.drew ?_) | (with_reducible refine Ext.setCell ?_ ?_ _) | (with_reducible refine Ext.setRow ?_ ?_ _) | (with_reducible exact HX.out) | (with_reducible refine Ext.trans ?_ HX.out) | (with_reducible refine Ext.below ?_ (Nat.le_refl _) _) | omega | (simp; done) | (simp; omega)))⟩
  replace hD0 := Classical.not_not.1 hD0
  have e1 : (defsE D != 0) = false := bne_eq_false_iff_eq.2 hD0
  have HD0 := Lib.hid hD0
  clear hD0
  go_upto_region 4 with (first | first | ((with_reducible apply wl_load' lwGiven); (· (first | exact wanted_none rfl | exact wanted_some rfl rfl rfl)); (· rfl); (· infer_instance); (· rfl)) | ((with_reducible apply wl_loadB midBd); (· (first | exact wanted_none rfl | exact wanted_some rfl rfl rfl)); (· rfl); (· infer_instance); (· rfl); (· rfl)) | ((with_reducible apply wl_loadB midPd); (· (first | exact wanted_none rfl | exact wanted_some rfl rfl rfl)); (· rfl); (· infer_instance); (· rfl); (· rfl)) | ((with_reducible apply wl_store' lwLine); (· (first | exact wanted_none rfl | exact wanted_some rfl rfl rfl)); (· rfl); (· rfl); (· infer_instance); (· rfl); (· rfl); (· (simp [Value.oneCell'])); try simp only [setRow_alloc, setRow_new, setRow_new1, setRow_new2, setRow_new11, setRow_new111]) | ((with_reducible apply wl_load' lwLine); (· (first | exact wanted_none rfl | exact wanted_some rfl rfl rfl)); (· rfl); (· infer_instance); (· rfl)) | ((with_reducible apply wl_store' lwGiven); (· (first | exact wanted_none rfl | exact wanted_some rfl rfl rfl)); (· rfl); (· rfl); (· infer_instance); (· rfl); (· rfl); (· (simp [Value.oneCell'])); try simp only [setRow_alloc, setRow_new, setRow_new1, setRow_new2, setRow_new11, setRow_new111]) | (go_at_call 9; refine (awake_any _ (Tab.ext HTB.out (by repeat' (first | (with_reducible exact Ext.refl _) | (with_reducible exact ExtOf.ext _) | (with_reducible refine Ext.trans ?_ (ExtOf.ext _)) | (with_reducible refine Ext.alloc ?_ _) | (with_reducible refine Ext.drew ?_) | (with_reducible refine Ext.setCell ?_ ?_ _) | (with_reducible refine Ext.setRow ?_ ?_ _) | (with_reducible exact HX.out) | (with_reducible refine Ext.trans ?_ HX.out) | (with_reducible refine Ext.below ?_ (Nat.le_refl _) _) | omega | (simp; done) | (simp; omega))))).mono ?_; rintro e w' ⟨rfl, na, rfl⟩) | ((with_reducible apply wl_loadB midBox); (· (first | exact wanted_none rfl | exact wanted_some rfl rfl rfl)); (· rfl); (· infer_instance); (· rfl); (· rfl)) | ((with_reducible apply wl_store' lwBox); (· (first | exact wanted_none rfl | exact wanted_some rfl rfl rfl)); (· rfl); (· rfl); (· infer_instance); (· rfl); (· rfl); (· (simp [Value.oneCell'])); try simp only [setRow_alloc, setRow_new, setRow_new1, setRow_new2, setRow_new11, setRow_new111]) | ((with_reducible apply wl_load' lwBox); (· (first | exact wanted_none rfl | exact wanted_some rfl rfl rfl)); (· rfl); (· infer_instance); (· rfl)) | (go_at_call 18; refine (dCheck_any D _ _ (SliceOf.ext HDD.out (by repeat' (first | (with_reducible exact Ext.refl _) | (with_reducible exact ExtOf.ext _) | (with_reducible refine Ext.trans ?_ (ExtOf.ext _)) | (with_reducible refine Ext.alloc ?_ _) | (with_reducible refine Ext.drew ?_) | (with_reducible refine Ext.setCell ?_ ?_ _) | (with_reducible refine Ext.setRow ?_ ?_ _) | (with_reducible exact HX.out) | (with_reducible refine Ext.trans ?_ HX.out) | (with_reducible refine Ext.below ?_ (Nat.le_refl _) _) | omega | (simp; done) | (simp; omega))))).mono ?_; rintro e w' ⟨rfl, nd, rfl⟩))
  obtain ⟨gb, hgb⟩ : ∃ g, g = nd.val.heap.size := ⟨_, rfl⟩
  refine nameW (R := fun W => Code.wp _ _ _ _ W) (fun W => Hid (Ext w W) ∧ Block W w.heap.size #[.string x.id, .string x.lg, .string x.sp, .int .i64 x.pr, .int .i64 x.b.xa, .int .i64 x.b.xb, .int .i64 x.b.ya, .int .i64 x.b.yb, .int .i64 x.b.za, .int .i64 x.b.zb, .int .i64 x.vol, .slice q ds.length cap, .int .i64 x.wa, .int .i64 x.su, .int .i64 x.co, .int .i64 x.st, .bool x.dr, .int .i64 x.gr, .string p.nm, .int .i64 p.th, .int .i64 p.wi, .int .i64 p.al, .int .i64 p.wa, .slice lq p.ls.length lcap, .slice pq p.ps.length pcap, .int .i64 step, .int .i64 kerf, .int .i64 fine] ∧ Block W nd.val.heap.size #[.int .i64 x.b.xa, .int .i64 x.b.xb, .int .i64 x.b.ya, .int .i64 x.b.yb, .int .i64 x.b.za, .int .i64 x.b.zb]) ⟨Lib.hid (by repeat' (first | (with_reducible exact Ext.refl _) | (with_reducible exact ExtOf.ext _) | (with_reducible refine Ext.trans ?_ (ExtOf.ext _)) | (with_reducible refine Ext.alloc ?_ _) | (with_reducible refine Ext.drew ?_) | (with_reducible refine Ext.setCell ?_ ?_ _) | (with_reducible refine Ext.setRow ?_ ?_ _) | (with_reducible exact HX.out) | (with_reducible refine Ext.trans ?_ HX.out) | (with_reducible refine Ext.below ?_ (Nat.le_refl _) _) | omega | (simp; done) | (simp; omega))), inferInstance, inferInstance⟩ ?_
  rw [← hgb]
  clear hgb
  rintro W1 ⟨HX, hg1, hb1⟩
  have og1 := hg1.old
  have ob1 := hb1.old
  obtain ⟨RB, hRB⟩ : ∃ b : Bool, b = decide (x.b.xa < -600 ∨ 600 < x.b.xb ∨ x.b.ya < -600 ∨ 600 < x.b.yb ∨ x.b.za < 0 ∨ 20000 < x.b.zb) := ⟨_, rfl⟩
  have HRB := Lib.hid hRB
  clear hRB
  simp only [Act.put]
  go_cut [73] (fun s wx => s = .bool RB ∧ wx = W1)
  case first =>
    by_cases r1 : x.b.xa < -600
    · obtain rfl : RB = true := by rw [HRB.out]; exact decide_eq_true (by omega)
      go_wp2_with fail
      go_meet
      exact ⟨rfl, rfl⟩
    by_cases r2 : 600 < x.b.xb
    · obtain rfl : RB = true := by rw [HRB.out]; exact decide_eq_true (by omega)
      go_wp2_with fail
      go_meet
      exact ⟨rfl, rfl⟩
    by_cases r3 : x.b.ya < -600
    · obtain rfl : RB = true := by rw [HRB.out]; exact decide_eq_true (by omega)
      go_wp2_with fail
      go_meet
      exact ⟨rfl, rfl⟩
    by_cases r4 : 600 < x.b.yb
    · obtain rfl : RB = true := by rw [HRB.out]; exact decide_eq_true (by omega)
      go_wp2_with fail
      go_meet
      exact ⟨rfl, rfl⟩
    by_cases r5 : x.b.za < 0
    · obtain rfl : RB = true := by rw [HRB.out]; exact decide_eq_true (by omega)
      go_wp2_with fail
      go_meet
      exact ⟨rfl, rfl⟩
    by_cases r6 : 20000 < x.b.zb
    · obtain rfl : RB = true := by rw [HRB.out]; exact decide_eq_true (by omega)
      go_wp2_with fail
      go_meet
      exact ⟨rfl, rfl⟩
    obtain rfl : RB = false := by rw [HRB.out]; exact decide_eq_false (by omega)
    go_wp2_with fail
    go_meet
    exact ⟨rfl, rfl⟩
  case rest =>
  obtain ⟨rfl, e2⟩ := hcut
  obtain rfl := e2.symm
  cases RB
  case true =>
    go_wp2_with (first | first | ((with_reducible apply wl_load' lwGiven); (· (first | exact wanted_none rfl | exact wanted_some rfl rfl rfl)); (· rfl); (· infer_instance); (· rfl)) | ((with_reducible apply wl_loadB midBd); (· (first | exact wanted_none rfl | exact wanted_some rfl rfl rfl)); (· rfl); (· infer_instance); (· rfl); (· rfl)) | ((with_reducible apply wl_loadB midPd); (· (first | exact wanted_none rfl | exact wanted_some rfl rfl rfl)); (· rfl); (· infer_instance); (· rfl); (· rfl)) | ((with_reducible apply wl_store' lwLine); (· (first | exact wanted_none rfl | exact wanted_some rfl rfl rfl)); (· rfl); (· rfl); (· infer_instance); (· rfl); (· rfl); (· (simp [Value.oneCell'])); try simp only [setRow_alloc, setRow_new, setRow_new1, setRow_new2, setRow_new11, setRow_new111]) | ((with_reducible apply wl_load' lwLine); (· (first | exact wanted_none rfl | exact wanted_some rfl rfl rfl)); (· rfl); (· infer_instance); (· rfl)) | ((with_reducible apply wl_store' lwGiven); (· (first | exact wanted_none rfl | exact wanted_some rfl rfl rfl)); (· rfl); (· rfl); (· infer_instance); (· rfl); (· rfl); (· (simp [Value.oneCell'])); try simp only [setRow_alloc, setRow_new, setRow_new1, setRow_new2, setRow_new11, setRow_new111]) | (go_at_call 9; refine (awake_any _ (Tab.ext HTB.out (by repeat' (first | (with_reducible exact Ext.refl _) | (with_reducible exact ExtOf.ext _) | (with_reducible refine Ext.trans ?_ (ExtOf.ext _)) | (with_reducible refine Ext.alloc ?_ _) | (with_reducible refine Ext.drew ?_) | (with_reducible refine Ext.setCell ?_ ?_ _) | (with_reducible refine Ext.setRow ?_ ?_ _) | (with_reducible exact HX.out) | (with_reducible refine Ext.trans ?_ HX.out) | (with_reducible refine Ext.below ?_ (Nat.le_refl _) _) | omega | (simp; done) | (simp; omega))))).mono ?_; rintro e w' ⟨rfl, na, rfl⟩) | ((with_reducible apply wl_loadB midBox); (· (first | exact wanted_none rfl | exact wanted_some rfl rfl rfl)); (· rfl); (· infer_instance); (· rfl); (· rfl)) | ((with_reducible apply wl_store' lwBox); (· (first | exact wanted_none rfl | exact wanted_some rfl rfl rfl)); (· rfl); (· rfl); (· infer_instance); (· rfl); (· rfl); (· (simp [Value.oneCell'])); try simp only [setRow_alloc, setRow_new, setRow_new1, setRow_new2, setRow_new11, setRow_new111]) | ((with_reducible apply wl_load' lwBox); (· (first | exact wanted_none rfl | exact wanted_some rfl rfl rfl)); (· rfl); (· infer_instance); (· rfl)) | (go_at_call 18; refine (dCheck_any D _ _ (SliceOf.ext HDD.out (by repeat' (first | (with_reducible exact Ext.refl _) | (with_reducible exact ExtOf.ext _) | (with_reducible refine Ext.trans ?_ (ExtOf.ext _)) | (with_reducible refine Ext.alloc ?_ _) | (with_reducible refine Ext.drew ?_) | (with_reducible refine Ext.setCell ?_ ?_ _) | (with_reducible refine Ext.setRow ?_ ?_ _) | (with_reducible exact HX.out) | (with_reducible refine Ext.trans ?_ HX.out) | (with_reducible refine Ext.below ?_ (Nat.le_refl _) _) | omega | (simp; done) | (simp; omega))))).mono ?_; rintro e w' ⟨rfl, nd, rfl⟩))
    go_ret
    exact ⟨rfl, by exact ExtOf.of (by repeat' (first | (with_reducible exact Ext.refl _) | (with_reducible exact ExtOf.ext _) | (with_reducible refine Ext.trans ?_ (ExtOf.ext _)) | (with_reducible refine Ext.alloc ?_ _) | (with_reducible refine Ext.drew ?_) | (with_reducible refine Ext.setCell ?_ ?_ _) | (with_reducible refine Ext.setRow ?_ ?_ _) | (with_reducible exact HX.out) | (with_reducible refine Ext.trans ?_ HX.out) | (with_reducible refine Ext.below ?_ (Nat.le_refl _) _) | omega | (simp; done) | (simp; omega)))⟩
  have hrng := of_decide_eq_false HRB.out.symm
  go_wp2_with (first | first | ((with_reducible apply wl_load' lwGiven); (· (first | exact wanted_none rfl | exact wanted_some rfl rfl rfl)); (· rfl); (· infer_instance); (· rfl)) | ((with_reducible apply wl_loadB midBd); (· (first | exact wanted_none rfl | exact wanted_some rfl rfl rfl)); (· rfl); (· infer_instance); (· rfl); (· rfl)) | ((with_reducible apply wl_loadB midPd); (· (first | exact wanted_none rfl | exact wanted_some rfl rfl rfl)); (· rfl); (· infer_instance); (· rfl); (· rfl)) | ((with_reducible apply wl_store' lwLine); (· (first | exact wanted_none rfl | exact wanted_some rfl rfl rfl)); (· rfl); (· rfl); (· infer_instance); (· rfl); (· rfl); (· (simp [Value.oneCell'])); try simp only [setRow_alloc, setRow_new, setRow_new1, setRow_new2, setRow_new11, setRow_new111]) | ((with_reducible apply wl_load' lwLine); (· (first | exact wanted_none rfl | exact wanted_some rfl rfl rfl)); (· rfl); (· infer_instance); (· rfl)) | ((with_reducible apply wl_store' lwGiven); (· (first | exact wanted_none rfl | exact wanted_some rfl rfl rfl)); (· rfl); (· rfl); (· infer_instance); (· rfl); (· rfl); (· (simp [Value.oneCell'])); try simp only [setRow_alloc, setRow_new, setRow_new1, setRow_new2, setRow_new11, setRow_new111]) | (go_at_call 9; refine (awake_any _ (Tab.ext HTB.out (by repeat' (first | (with_reducible exact Ext.refl _) | (with_reducible exact ExtOf.ext _) | (with_reducible refine Ext.trans ?_ (ExtOf.ext _)) | (with_reducible refine Ext.alloc ?_ _) | (with_reducible refine Ext.drew ?_) | (with_reducible refine Ext.setCell ?_ ?_ _) | (with_reducible refine Ext.setRow ?_ ?_ _) | (with_reducible exact HX.out) | (with_reducible refine Ext.trans ?_ HX.out) | (with_reducible refine Ext.below ?_ (Nat.le_refl _) _) | omega | (simp; done) | (simp; omega))))).mono ?_; rintro e w' ⟨rfl, na, rfl⟩) | ((with_reducible apply wl_loadB midBox); (· (first | exact wanted_none rfl | exact wanted_some rfl rfl rfl)); (· rfl); (· infer_instance); (· rfl); (· rfl)) | ((with_reducible apply wl_store' lwBox); (· (first | exact wanted_none rfl | exact wanted_some rfl rfl rfl)); (· rfl); (· rfl); (· infer_instance); (· rfl); (· rfl); (· (simp [Value.oneCell'])); try simp only [setRow_alloc, setRow_new, setRow_new1, setRow_new2, setRow_new11, setRow_new111]) | ((with_reducible apply wl_load' lwBox); (· (first | exact wanted_none rfl | exact wanted_some rfl rfl rfl)); (· rfl); (· infer_instance); (· rfl)) | (go_at_call 18; refine (dCheck_any D _ _ (SliceOf.ext HDD.out (by repeat' (first | (with_reducible exact Ext.refl _) | (with_reducible exact ExtOf.ext _) | (with_reducible refine Ext.trans ?_ (ExtOf.ext _)) | (with_reducible refine Ext.alloc ?_ _) | (with_reducible refine Ext.drew ?_) | (with_reducible refine Ext.setCell ?_ ?_ _) | (with_reducible refine Ext.setRow ?_ ?_ _) | (with_reducible exact HX.out) | (with_reducible refine Ext.trans ?_ HX.out) | (with_reducible refine Ext.below ?_ (Nat.le_refl _) _) | omega | (simp; done) | (simp; omega))))).mono ?_; rintro e w' ⟨rfl, nd, rfl⟩))
  refine (dClip_any D _ x.b _ (SliceOf.ext HDD.out (by repeat' (first | (with_reducible exact Ext.refl _) | (with_reducible exact ExtOf.ext _) | (with_reducible refine Ext.trans ?_ (ExtOf.ext _)) | (with_reducible refine Ext.alloc ?_ _) | (with_reducible refine Ext.drew ?_) | (with_reducible refine Ext.setCell ?_ ?_ _) | (with_reducible refine Ext.setRow ?_ ?_ _) | (with_reducible exact HX.out) | (with_reducible refine Ext.trans ?_ HX.out) | (with_reducible refine Ext.below ?_ (Nat.le_refl _) _) | omega | (simp; done) | (simp; omega))))).mono ?_
  rintro e w' ⟨vC, rfl, hoC, nC, rfl⟩
  obtain ⟨CL, hCL⟩ : ∃ l, l = clipA D x.b := ⟨_, rfl⟩
  rw [← hCL] at hoC
  obtain ⟨qC, cC, rfl⟩ := Own.form2 hoC
  have HCL := Lib.hid hCL
  have HOC := Lib.hid hoC
  have hw1 : w.heap.size < W1.heap.size := hg1.lt
  clear hoC hCL
  go_upto_region 7 with (first | first | ((with_reducible apply wl_load' lwGiven); (· (first | exact wanted_none rfl | exact wanted_some rfl rfl rfl)); (· rfl); (· infer_instance); (· rfl)) | ((with_reducible apply wl_loadB midBd); (· (first | exact wanted_none rfl | exact wanted_some rfl rfl rfl)); (· rfl); (· infer_instance); (· rfl); (· rfl)) | ((with_reducible apply wl_loadB midPd); (· (first | exact wanted_none rfl | exact wanted_some rfl rfl rfl)); (· rfl); (· infer_instance); (· rfl); (· rfl)) | ((with_reducible apply wl_store' lwLine); (· (first | exact wanted_none rfl | exact wanted_some rfl rfl rfl)); (· rfl); (· rfl); (· infer_instance); (· rfl); (· rfl); (· (simp [Value.oneCell'])); try simp only [setRow_alloc, setRow_new, setRow_new1, setRow_new2, setRow_new11, setRow_new111]) | ((with_reducible apply wl_load' lwLine); (· (first | exact wanted_none rfl | exact wanted_some rfl rfl rfl)); (· rfl); (· infer_instance); (· rfl)) | ((with_reducible apply wl_store' lwGiven); (· (first | exact wanted_none rfl | exact wanted_some rfl rfl rfl)); (· rfl); (· rfl); (· infer_instance); (· rfl); (· rfl); (· (simp [Value.oneCell'])); try simp only [setRow_alloc, setRow_new, setRow_new1, setRow_new2, setRow_new11, setRow_new111]) | (go_at_call 9; refine (awake_any _ (Tab.ext HTB.out (by repeat' (first | (with_reducible exact Ext.refl _) | (with_reducible exact ExtOf.ext _) | (with_reducible refine Ext.trans ?_ (ExtOf.ext _)) | (with_reducible refine Ext.alloc ?_ _) | (with_reducible refine Ext.drew ?_) | (with_reducible refine Ext.setCell ?_ ?_ _) | (with_reducible refine Ext.setRow ?_ ?_ _) | (with_reducible exact HX.out) | (with_reducible refine Ext.trans ?_ HX.out) | (with_reducible refine Ext.below ?_ (Nat.le_refl _) _) | omega | (simp; done) | (simp; omega))))).mono ?_; rintro e w' ⟨rfl, na, rfl⟩) | ((with_reducible apply wl_loadB midBox); (· (first | exact wanted_none rfl | exact wanted_some rfl rfl rfl)); (· rfl); (· infer_instance); (· rfl); (· rfl)) | ((with_reducible apply wl_store' lwBox); (· (first | exact wanted_none rfl | exact wanted_some rfl rfl rfl)); (· rfl); (· rfl); (· infer_instance); (· rfl); (· rfl); (· (simp [Value.oneCell'])); try simp only [setRow_alloc, setRow_new, setRow_new1, setRow_new2, setRow_new11, setRow_new111]) | ((with_reducible apply wl_load' lwBox); (· (first | exact wanted_none rfl | exact wanted_some rfl rfl rfl)); (· rfl); (· infer_instance); (· rfl)) | (go_at_call 18; refine (dCheck_any D _ _ (SliceOf.ext HDD.out (by repeat' (first | (with_reducible exact Ext.refl _) | (with_reducible exact ExtOf.ext _) | (with_reducible refine Ext.trans ?_ (ExtOf.ext _)) | (with_reducible refine Ext.alloc ?_ _) | (with_reducible refine Ext.drew ?_) | (with_reducible refine Ext.setCell ?_ ?_ _) | (with_reducible refine Ext.setRow ?_ ?_ _) | (with_reducible exact HX.out) | (with_reducible refine Ext.trans ?_ HX.out) | (with_reducible refine Ext.below ?_ (Nat.le_refl _) _) | omega | (simp; done) | (simp; omega))))).mono ?_; rintro e w' ⟨rfl, nd, rfl⟩))
  refine nameW (R := fun W => Code.wp _ _ _ _ W) (fun W => Hid (Ext w W) ∧ Block W w.heap.size #[.string x.id, .string x.lg, .string x.sp, .int .i64 x.pr, .int .i64 x.b.xa, .int .i64 x.b.xb, .int .i64 x.b.ya, .int .i64 x.b.yb, .int .i64 x.b.za, .int .i64 x.b.zb, .int .i64 x.vol, .slice qC CL.length cC, .int .i64 x.wa, .int .i64 x.su, .int .i64 x.co, .int .i64 x.st, .bool x.dr, .int .i64 x.gr, .string p.nm, .int .i64 p.th, .int .i64 p.wi, .int .i64 p.al, .int .i64 p.wa, .slice lq p.ls.length lcap, .slice pq p.ps.length pcap, .int .i64 step, .int .i64 kerf, .int .i64 fine] ∧ Hid (DfS W (.slice qC CL.length cC) CL)) ⟨Lib.hid (by repeat' (first | (with_reducible exact Ext.refl _) | (with_reducible exact ExtOf.ext _) | (with_reducible refine Ext.trans ?_ (ExtOf.ext _)) | (with_reducible refine Ext.alloc ?_ _) | (with_reducible refine Ext.drew ?_) | (with_reducible refine Ext.setCell ?_ ?_ _) | (with_reducible refine Ext.setRow ?_ ?_ _) | (with_reducible exact HX.out) | (with_reducible refine Ext.trans ?_ HX.out) | (with_reducible refine Ext.below ?_ (Nat.le_refl _) _) | omega | (simp; done) | (simp; omega))), inferInstance, Lib.hid (Own.slice encDf_len (Own.set_low HOC.out hw1 _))⟩ ?_
  clear HX hg1 hb1 og1 ob1 HOC hw1
  rintro W2 ⟨HX, hg2, HDC⟩
  have og2 := hg2.old
  go_wp2_with (first | first | ((with_reducible apply wl_load' lwGiven); (· (first | exact wanted_none rfl | exact wanted_some rfl rfl rfl)); (· rfl); (· infer_instance); (· rfl)) | ((with_reducible apply wl_loadB midBd); (· (first | exact wanted_none rfl | exact wanted_some rfl rfl rfl)); (· rfl); (· infer_instance); (· rfl); (· rfl)) | ((with_reducible apply wl_loadB midPd); (· (first | exact wanted_none rfl | exact wanted_some rfl rfl rfl)); (· rfl); (· infer_instance); (· rfl); (· rfl)) | ((with_reducible apply wl_store' lwLine); (· (first | exact wanted_none rfl | exact wanted_some rfl rfl rfl)); (· rfl); (· rfl); (· infer_instance); (· rfl); (· rfl); (· (simp [Value.oneCell'])); try simp only [setRow_alloc, setRow_new, setRow_new1, setRow_new2, setRow_new11, setRow_new111]) | ((with_reducible apply wl_load' lwLine); (· (first | exact wanted_none rfl | exact wanted_some rfl rfl rfl)); (· rfl); (· infer_instance); (· rfl)) | ((with_reducible apply wl_store' lwGiven); (· (first | exact wanted_none rfl | exact wanted_some rfl rfl rfl)); (· rfl); (· rfl); (· infer_instance); (· rfl); (· rfl); (· (simp [Value.oneCell'])); try simp only [setRow_alloc, setRow_new, setRow_new1, setRow_new2, setRow_new11, setRow_new111]) | (go_at_call 9; refine (awake_any _ (Tab.ext HTB.out (by repeat' (first | (with_reducible exact Ext.refl _) | (with_reducible exact ExtOf.ext _) | (with_reducible refine Ext.trans ?_ (ExtOf.ext _)) | (with_reducible refine Ext.alloc ?_ _) | (with_reducible refine Ext.drew ?_) | (with_reducible refine Ext.setCell ?_ ?_ _) | (with_reducible refine Ext.setRow ?_ ?_ _) | (with_reducible exact HX.out) | (with_reducible refine Ext.trans ?_ HX.out) | (with_reducible refine Ext.below ?_ (Nat.le_refl _) _) | omega | (simp; done) | (simp; omega))))).mono ?_; rintro e w' ⟨rfl, na, rfl⟩) | ((with_reducible apply wl_loadB midBox); (· (first | exact wanted_none rfl | exact wanted_some rfl rfl rfl)); (· rfl); (· infer_instance); (· rfl); (· rfl)) | ((with_reducible apply wl_store' lwBox); (· (first | exact wanted_none rfl | exact wanted_some rfl rfl rfl)); (· rfl); (· rfl); (· infer_instance); (· rfl); (· rfl); (· (simp [Value.oneCell'])); try simp only [setRow_alloc, setRow_new, setRow_new1, setRow_new2, setRow_new11, setRow_new111]) | ((with_reducible apply wl_load' lwBox); (· (first | exact wanted_none rfl | exact wanted_some rfl rfl rfl)); (· rfl); (· infer_instance); (· rfl)) | (go_at_call 18; refine (dCheck_any D _ _ (SliceOf.ext HDD.out (by repeat' (first | (with_reducible exact Ext.refl _) | (with_reducible exact ExtOf.ext _) | (with_reducible refine Ext.trans ?_ (ExtOf.ext _)) | (with_reducible refine Ext.alloc ?_ _) | (with_reducible refine Ext.drew ?_) | (with_reducible refine Ext.setCell ?_ ?_ _) | (with_reducible refine Ext.setRow ?_ ?_ _) | (with_reducible exact HX.out) | (with_reducible refine Ext.trans ?_ HX.out) | (with_reducible refine Ext.below ?_ (Nat.le_refl _) _) | omega | (simp; done) | (simp; omega))))).mono ?_; rintro e w' ⟨rfl, nd, rfl⟩))
  refine (boards_any x (.slice qC CL.length cC) CL p _ _ step kerf P _ _ (SliceOf.ext HDC.out (by repeat' (first | (with_reducible exact Ext.refl _) | (with_reducible exact ExtOf.ext _) | (with_reducible refine Ext.trans ?_ (ExtOf.ext _)) | (with_reducible refine Ext.alloc ?_ _) | (with_reducible refine Ext.drew ?_) | omega | (simp; omega)))) (SliceOf.ext HL.out (by repeat' (first | (with_reducible exact Ext.refl _) | (with_reducible exact ExtOf.ext _) | (with_reducible refine Ext.trans ?_ (ExtOf.ext _)) | (with_reducible refine Ext.alloc ?_ _) | (with_reducible refine Ext.drew ?_) | (with_reducible refine Ext.setCell ?_ ?_ _) | (with_reducible refine Ext.setRow ?_ ?_ _) | (with_reducible exact HX.out) | (with_reducible refine Ext.trans ?_ HX.out) | (with_reducible refine Ext.below ?_ (Nat.le_refl _) _) | omega | (simp; done) | (simp; omega)))) (SliceOf.ext HP.out (by repeat' (first | (with_reducible exact Ext.refl _) | (with_reducible exact ExtOf.ext _) | (with_reducible refine Ext.trans ?_ (ExtOf.ext _)) | (with_reducible refine Ext.alloc ?_ _) | (with_reducible refine Ext.drew ?_) | (with_reducible refine Ext.setCell ?_ ?_ _) | (with_reducible refine Ext.setRow ?_ ?_ _) | (with_reducible exact HX.out) | (with_reducible refine Ext.trans ?_ HX.out) | (with_reducible refine Ext.below ?_ (Nat.le_refl _) _) | omega | (simp; done) | (simp; omega)))) (SliceOf.ext HQ.out (by repeat' (first | (with_reducible exact Ext.refl _) | (with_reducible exact ExtOf.ext _) | (with_reducible refine Ext.trans ?_ (ExtOf.ext _)) | (with_reducible refine Ext.alloc ?_ _) | (with_reducible refine Ext.drew ?_) | (with_reducible refine Ext.setCell ?_ ?_ _) | (with_reducible refine Ext.setRow ?_ ?_ _) | (with_reducible exact HX.out) | (with_reducible refine Ext.trans ?_ HX.out) | (with_reducible refine Ext.below ?_ (Nat.le_refl _) _) | omega | (simp; done) | (simp; omega)))) (by omega)).mono ?_
  rintro e w' ⟨vb, vd, vc, rfl, hbb, -, -, nb, rfl⟩
  by_cases hE : ¬ boardsE x.b CL p step kerf P = 0
  · have hE1 : (boardsE x.b CL p step kerf P != 0) = true := bne_iff_ne.2 hE
    clear hE
    go_wp2_with (first | first | ((with_reducible apply wl_load' lwGiven); (· (first | exact wanted_none rfl | exact wanted_some rfl rfl rfl)); (· rfl); (· infer_instance); (· rfl)) | ((with_reducible apply wl_loadB midBd); (· (first | exact wanted_none rfl | exact wanted_some rfl rfl rfl)); (· rfl); (· infer_instance); (· rfl); (· rfl)) | ((with_reducible apply wl_loadB midPd); (· (first | exact wanted_none rfl | exact wanted_some rfl rfl rfl)); (· rfl); (· infer_instance); (· rfl); (· rfl)) | ((with_reducible apply wl_store' lwLine); (· (first | exact wanted_none rfl | exact wanted_some rfl rfl rfl)); (· rfl); (· rfl); (· infer_instance); (· rfl); (· rfl); (· (simp [Value.oneCell'])); try simp only [setRow_alloc, setRow_new, setRow_new1, setRow_new2, setRow_new11, setRow_new111]) | ((with_reducible apply wl_load' lwLine); (· (first | exact wanted_none rfl | exact wanted_some rfl rfl rfl)); (· rfl); (· infer_instance); (· rfl)) | ((with_reducible apply wl_store' lwGiven); (· (first | exact wanted_none rfl | exact wanted_some rfl rfl rfl)); (· rfl); (· rfl); (· infer_instance); (· rfl); (· rfl); (· (simp [Value.oneCell'])); try simp only [setRow_alloc, setRow_new, setRow_new1, setRow_new2, setRow_new11, setRow_new111]) | (go_at_call 9; refine (awake_any _ (Tab.ext HTB.out (by repeat' (first | (with_reducible exact Ext.refl _) | (with_reducible exact ExtOf.ext _) | (with_reducible refine Ext.trans ?_ (ExtOf.ext _)) | (with_reducible refine Ext.alloc ?_ _) | (with_reducible refine Ext.drew ?_) | (with_reducible refine Ext.setCell ?_ ?_ _) | (with_reducible refine Ext.setRow ?_ ?_ _) | (with_reducible exact HX.out) | (with_reducible refine Ext.trans ?_ HX.out) | (with_reducible refine Ext.below ?_ (Nat.le_refl _) _) | omega | (simp; done) | (simp; omega))))).mono ?_; rintro e w' ⟨rfl, na, rfl⟩) | ((with_reducible apply wl_loadB midBox); (· (first | exact wanted_none rfl | exact wanted_some rfl rfl rfl)); (· rfl); (· infer_instance); (· rfl); (· rfl)) | ((with_reducible apply wl_store' lwBox); (· (first | exact wanted_none rfl | exact wanted_some rfl rfl rfl)); (· rfl); (· rfl); (· infer_instance); (· rfl); (· rfl); (· (simp [Value.oneCell'])); try simp only [setRow_alloc, setRow_new, setRow_new1, setRow_new2, setRow_new11, setRow_new111]) | ((with_reducible apply wl_load' lwBox); (· (first | exact wanted_none rfl | exact wanted_some rfl rfl rfl)); (· rfl); (· infer_instance); (· rfl)) | (go_at_call 18; refine (dCheck_any D _ _ (SliceOf.ext HDD.out (by repeat' (first | (with_reducible exact Ext.refl _) | (with_reducible exact ExtOf.ext _) | (with_reducible refine Ext.trans ?_ (ExtOf.ext _)) | (with_reducible refine Ext.alloc ?_ _) | (with_reducible refine Ext.drew ?_) | (with_reducible refine Ext.setCell ?_ ?_ _) | (with_reducible refine Ext.setRow ?_ ?_ _) | (with_reducible exact HX.out) | (with_reducible refine Ext.trans ?_ HX.out) | (with_reducible refine Ext.below ?_ (Nat.le_refl _) _) | omega | (simp; done) | (simp; omega))))).mono ?_; rintro e w' ⟨rfl, nd, rfl⟩))
    go_ret
    exact ⟨rfl, by exact ExtOf.of (by repeat' (first | (with_reducible exact Ext.refl _) | (with_reducible exact ExtOf.ext _) | (with_reducible refine Ext.trans ?_ (ExtOf.ext _)) | (with_reducible refine Ext.alloc ?_ _) | (with_reducible refine Ext.drew ?_) | (with_reducible refine Ext.setCell ?_ ?_ _) | (with_reducible refine Ext.setRow ?_ ?_ _) | (with_reducible exact HX.out) | (with_reducible refine Ext.trans ?_ HX.out) | (with_reducible refine Ext.below ?_ (Nat.le_refl _) _) | omega | (simp; done) | (simp; omega)))⟩
  replace hE := Classical.not_not.1 hE
  rw [hE]
  have hF := bd_facts HD0.out (by rw [← HCL.out]; exact hE)
  rw [← HCL.out] at hF
  obtain ⟨rows, hr, hlen, hrd⟩ := hbb
  have hbl : (boardsY x.b CL p step kerf P).length ≤ 100 := by rw [(all_ok hE).boards]; omega
  obtain ⟨pr, cr, rfl, _, _, _⟩ := SliceOf.form hr
  have hrl : rows.length ≤ 100 := by omega
  have HROW : Hid (∀ (i : Nat) (hi : i < rows.length), DfS nb.val (rowV rows[i].1) (TrimM.clip D rows[i].2) ∧ (∀ e ∈ TrimM.clip D rows[i].2, e.k ≠ 3) ∧ (rows[i].2.zb - rows[i].2.za) ∈ p.ls ∧ (0 ≤ rows[i].2.za ∧ rows[i].2.zb ≤ 20000 ∧ rows[i].2.za < rows[i].2.zb) ∧ near rows[i].2 = true) := Lib.hid (fun i hi => by
    have hi2 : i < (boardsY x.b CL p step kerf P).length := by omega
    obtain ⟨h1, h2⟩ := hrd i _ _ (List.getElem?_eq_getElem hi) (List.getElem?_eq_getElem hi2)
    obtain ⟨f1, f2, f3, f4, f5, f6⟩ := hF _ (List.getElem_mem hi2)
    rw [← h1] at f1 f3 f4 f5 f6
    rw [f1] at h2 f2
    exact ⟨h2, f2, f3, f6, near_of f4 f5 f6⟩)
  have HR := Lib.hid hr
  clear hE hF hlen hrd hbl hr
  go_wp2_with (first | first | ((with_reducible apply wl_load' lwGiven); (· (first | exact wanted_none rfl | exact wanted_some rfl rfl rfl)); (· rfl); (· infer_instance); (· rfl)) | ((with_reducible apply wl_loadB midBd); (· (first | exact wanted_none rfl | exact wanted_some rfl rfl rfl)); (· rfl); (· infer_instance); (· rfl); (· rfl)) | ((with_reducible apply wl_loadB midPd); (· (first | exact wanted_none rfl | exact wanted_some rfl rfl rfl)); (· rfl); (· infer_instance); (· rfl); (· rfl)) | ((with_reducible apply wl_store' lwLine); (· (first | exact wanted_none rfl | exact wanted_some rfl rfl rfl)); (· rfl); (· rfl); (· infer_instance); (· rfl); (· rfl); (· (simp [Value.oneCell'])); try simp only [setRow_alloc, setRow_new, setRow_new1, setRow_new2, setRow_new11, setRow_new111]) | ((with_reducible apply wl_load' lwLine); (· (first | exact wanted_none rfl | exact wanted_some rfl rfl rfl)); (· rfl); (· infer_instance); (· rfl)) | ((with_reducible apply wl_store' lwGiven); (· (first | exact wanted_none rfl | exact wanted_some rfl rfl rfl)); (· rfl); (· rfl); (· infer_instance); (· rfl); (· rfl); (· (simp [Value.oneCell'])); try simp only [setRow_alloc, setRow_new, setRow_new1, setRow_new2, setRow_new11, setRow_new111]) | (go_at_call 9; refine (awake_any _ (Tab.ext HTB.out (by repeat' (first | (with_reducible exact Ext.refl _) | (with_reducible exact ExtOf.ext _) | (with_reducible refine Ext.trans ?_ (ExtOf.ext _)) | (with_reducible refine Ext.alloc ?_ _) | (with_reducible refine Ext.drew ?_) | (with_reducible refine Ext.setCell ?_ ?_ _) | (with_reducible refine Ext.setRow ?_ ?_ _) | (with_reducible exact HX.out) | (with_reducible refine Ext.trans ?_ HX.out) | (with_reducible refine Ext.below ?_ (Nat.le_refl _) _) | omega | (simp; done) | (simp; omega))))).mono ?_; rintro e w' ⟨rfl, na, rfl⟩) | ((with_reducible apply wl_loadB midBox); (· (first | exact wanted_none rfl | exact wanted_some rfl rfl rfl)); (· rfl); (· infer_instance); (· rfl); (· rfl)) | ((with_reducible apply wl_store' lwBox); (· (first | exact wanted_none rfl | exact wanted_some rfl rfl rfl)); (· rfl); (· rfl); (· infer_instance); (· rfl); (· rfl); (· (simp [Value.oneCell'])); try simp only [setRow_alloc, setRow_new, setRow_new1, setRow_new2, setRow_new11, setRow_new111]) | ((with_reducible apply wl_load' lwBox); (· (first | exact wanted_none rfl | exact wanted_some rfl rfl rfl)); (· rfl); (· infer_instance); (· rfl)) | (go_at_call 18; refine (dCheck_any D _ _ (SliceOf.ext HDD.out (by repeat' (first | (with_reducible exact Ext.refl _) | (with_reducible exact ExtOf.ext _) | (with_reducible refine Ext.trans ?_ (ExtOf.ext _)) | (with_reducible refine Ext.alloc ?_ _) | (with_reducible refine Ext.drew ?_) | (with_reducible refine Ext.setCell ?_ ?_ _) | (with_reducible refine Ext.setRow ?_ ?_ _) | (with_reducible exact HX.out) | (with_reducible refine Ext.trans ?_ HX.out) | (with_reducible refine Ext.below ?_ (Nat.le_refl _) _) | omega | (simp; done) | (simp; omega))))).mono ?_; rintro e w' ⟨rfl, nd, rfl⟩))
  refine nameW (R := fun W => Code.wp _ _ _ _ W) (fun W => Hid (Ext w W) ∧ Block W w.heap.size #[.string x.id, .string x.lg, .string x.sp, .int .i64 x.pr, .int .i64 x.b.xa, .int .i64 x.b.xb, .int .i64 x.b.ya, .int .i64 x.b.yb, .int .i64 x.b.za, .int .i64 x.b.zb, .int .i64 x.vol, .slice qC CL.length cC, .int .i64 x.wa, .int .i64 x.su, .int .i64 x.co, .int .i64 x.st, .bool x.dr, .int .i64 x.gr, .string p.nm, .int .i64 p.th, .int .i64 p.wi, .int .i64 p.al, .int .i64 p.wa, .slice lq p.ls.length lcap, .slice pq p.ps.length pcap, .int .i64 step, .int .i64 kerf, .int .i64 fine] ∧ Hid (SliceOf (encRB x) 18 W (.slice pr rows.length cr) rows) ∧ Hid (∀ (i : Nat) (hi : i < rows.length), DfS W (rowV rows[i].1) (TrimM.clip D rows[i].2) ∧ (∀ e ∈ TrimM.clip D rows[i].2, e.k ≠ 3) ∧ (rows[i].2.zb - rows[i].2.za) ∈ p.ls ∧ (0 ≤ rows[i].2.za ∧ rows[i].2.zb ≤ 20000 ∧ rows[i].2.za < rows[i].2.zb) ∧ near rows[i].2 = true)) ⟨Lib.hid (by repeat' (first | (with_reducible exact Ext.refl _) | (with_reducible exact ExtOf.ext _) | (with_reducible refine Ext.trans ?_ (ExtOf.ext _)) | (with_reducible refine Ext.alloc ?_ _) | (with_reducible refine Ext.drew ?_) | (with_reducible refine Ext.setCell ?_ ?_ _) | (with_reducible refine Ext.setRow ?_ ?_ _) | (with_reducible exact HX.out) | (with_reducible refine Ext.trans ?_ HX.out) | (with_reducible refine Ext.below ?_ (Nat.le_refl _) _) | omega | (simp; done) | (simp; omega))), inferInstance, HR, HROW⟩ ?_
  clear HR HROW HX hg2 og2
  rintro W3 ⟨HX, hg3, HR, HROW⟩
  go_loopw [12] (fun v wr => ∃ k : Nat, k ≤ rows.length ∧ v = .int .i64 (k : Int) ∧ Ext W3 wr) (fun v _ => rows.length - (intOf v).toNat)
  case atStart => exact ⟨0, by omega, rfl, Ext.refl _⟩
  case round =>
    obtain ⟨k, hk, rfl, hx⟩ := hrel
    have HXr := Lib.hid hx
    have gr := hg3.ext hx
    have ogr := gr.old
    clear hx
    by_cases hlt : k < rows.length
    · obtain ⟨b0, f0, rfl, r0⟩ := SliceOf.elemK (SliceOf.ext HR.out HXr.out) hlt
      obtain ⟨e1, e2, e3, e4, e5⟩ := HROW.out k hlt
      obtain ⟨⟨⟨pu, nu, cu⟩, ⟨A1, A2, A3, A4, A5, A6⟩⟩, hrk⟩ : ∃ z, rows[k] = z := ⟨_, rfl⟩
      rw [hrk] at r0 e1 e2 e3 e4 e5
      simp only at e1 e2 e3 e4 e5
      obtain ⟨DL, hDL⟩ : ∃ l, l = TrimM.clip D ⟨A1, A2, A3, A4, A5, A6⟩ := ⟨_, rfl⟩
      rw [← hDL] at e1 e2
      have hcl : clipA D ⟨A1, A2, A3, A4, A5, A6⟩ = DL := by rw [hDL]; exact if_pos ⟨HD0.out, e5⟩
      obtain ⟨NL, hNL⟩ : ∃ n, n = DL.length := ⟨_, rfl⟩
      obtain ⟨qu', cu', eu, _, _, _⟩ := SliceOf.form e1
      obtain rfl : nu = NL := by
        have e9 : Value.slice pu nu cu = .slice qu' DL.length cu' := eu
        injection e9 with _ e10 _
        rw [e10, hNL]
      have hdl : nu ≤ 70 := by rw [hNL, hDL]; exact Nat.le_trans (clip_len _ _) (by omega)
      have HE1 : Hid (DfS W3 (.slice pu nu cu) DL) := Lib.hid e1
      have HE2 := Lib.hid e2
      have HE3 := Lib.hid e3
      have HCLP := Lib.hid hcl
      have HNL := Lib.hid hNL
      have rA : wr.rangeAt b0 (f0 + k * 18) [.string .empty, .string x.lg, .string x.sp, .int .i64 x.pr, .int .i64 A1, .int .i64 A2, .int .i64 A3, .int .i64 A4, .int .i64 A5, .int .i64 A6, .int .i64 0, .slice pu nu cu, .int .i64 x.wa, .int .i64 x.su, .int .i64 x.co, .int .i64 x.st, .bool x.dr, .int .i64 0] := r0
      clear eu e1 e2 e3 e5 r0 hrk hDL hcl hNL
      go_upto_region 14 with (first | ((with_reducible apply wl_store' lwBd); (· (first | exact wanted_none rfl | exact wanted_some rfl rfl rfl)); (· rfl); (· rfl); (· infer_instance); (· rfl); (· rfl); (· (simp [Value.oneCell'])); try simp only [setRow_alloc, setRow_new, setRow_new1, setRow_new2, setRow_new11, setRow_new111]) | ((with_reducible apply wl_loadM midBd rA); (· rfl); (· (first | exact wanted_none rfl | exact wanted_some rfl rfl rfl)); (· rfl)))
      obtain ⟨gx, hgx⟩ : ∃ g, g = wr.heap.size := ⟨_, rfl⟩
      refine nameW (R := fun W => Code.wp _ _ _ _ W) (fun W => Hid (Ext W3 W) ∧ Block W w.heap.size #[.string x.id, .string x.lg, .string x.sp, .int .i64 x.pr, .int .i64 x.b.xa, .int .i64 x.b.xb, .int .i64 x.b.ya, .int .i64 x.b.yb, .int .i64 x.b.za, .int .i64 x.b.zb, .int .i64 x.vol, .slice qC CL.length cC, .int .i64 x.wa, .int .i64 x.su, .int .i64 x.co, .int .i64 x.st, .bool x.dr, .int .i64 x.gr, .string p.nm, .int .i64 p.th, .int .i64 p.wi, .int .i64 p.al, .int .i64 p.wa, .slice lq p.ls.length lcap, .slice pq p.ps.length pcap, .int .i64 step, .int .i64 kerf, .int .i64 fine] ∧ Block W wr.heap.size ([.string .empty, .string x.lg, .string x.sp, .int .i64 x.pr, .int .i64 A1, .int .i64 A2, .int .i64 A3, .int .i64 A4, .int .i64 A5, .int .i64 A6, .int .i64 0, .slice pu nu cu, .int .i64 x.wa, .int .i64 x.su, .int .i64 x.co, .int .i64 x.st, .bool x.dr, .int .i64 0]).toArray) ⟨Lib.hid (HXr.out.trans (by repeat' (first | (with_reducible exact Ext.refl _) | (with_reducible exact ExtOf.ext _) | (with_reducible refine Ext.trans ?_ (ExtOf.ext _)) | (with_reducible refine Ext.alloc ?_ _) | (with_reducible refine Ext.drew ?_) | omega | (simp; omega)))), inferInstance, inferInstance⟩ ?_
      rw [← hgx]
      clear hgx gr ogr rA
      rintro W4 ⟨HX4, g4, x4⟩
      have og4 := g4.old
      have ox4 := x4.old
      go_wp2_with (first | first | ((with_reducible apply wl_load' lwGiven); (· (first | exact wanted_none rfl | exact wanted_some rfl rfl rfl)); (· rfl); (· infer_instance); (· rfl)) | ((with_reducible apply wl_loadB midBd); (· (first | exact wanted_none rfl | exact wanted_some rfl rfl rfl)); (· rfl); (· infer_instance); (· rfl); (· rfl)) | ((with_reducible apply wl_loadB midPd); (· (first | exact wanted_none rfl | exact wanted_some rfl rfl rfl)); (· rfl); (· infer_instance); (· rfl); (· rfl)) | ((with_reducible apply wl_store' lwLine); (· (first | exact wanted_none rfl | exact wanted_some rfl rfl rfl)); (· rfl); (· rfl); (· infer_instance); (· rfl); (· rfl); (· (simp [Value.oneCell'])); try simp only [setRow_alloc, setRow_new, setRow_new1, setRow_new2, setRow_new11, setRow_new111]) | ((with_reducible apply wl_load' lwLine); (· (first | exact wanted_none rfl | exact wanted_some rfl rfl rfl)); (· rfl); (· infer_instance); (· rfl)) | ((with_reducible apply wl_store' lwGiven); (· (first | exact wanted_none rfl | exact wanted_some rfl rfl rfl)); (· rfl); (· rfl); (· infer_instance); (· rfl); (· rfl); (· (simp [Value.oneCell'])); try simp only [setRow_alloc, setRow_new, setRow_new1, setRow_new2, setRow_new11, setRow_new111]) | (go_at_call 9; refine (awake_any _ (Tab.ext HTB.out (by repeat' (first | (with_reducible exact Ext.refl _) | (with_reducible exact ExtOf.ext _) | (with_reducible refine Ext.trans ?_ (ExtOf.ext _)) | (with_reducible refine Ext.alloc ?_ _) | (with_reducible refine Ext.drew ?_) | (with_reducible refine Ext.setCell ?_ ?_ _) | (with_reducible refine Ext.setRow ?_ ?_ _) | (with_reducible exact HX.out) | (with_reducible refine Ext.trans ?_ HX.out) | (with_reducible refine Ext.below ?_ (Nat.le_refl _) _) | omega | (simp; done) | (simp; omega))))).mono ?_; rintro e w' ⟨rfl, na, rfl⟩) | ((with_reducible apply wl_loadB midBox); (· (first | exact wanted_none rfl | exact wanted_some rfl rfl rfl)); (· rfl); (· infer_instance); (· rfl); (· rfl)) | ((with_reducible apply wl_store' lwBox); (· (first | exact wanted_none rfl | exact wanted_some rfl rfl rfl)); (· rfl); (· rfl); (· infer_instance); (· rfl); (· rfl); (· (simp [Value.oneCell'])); try simp only [setRow_alloc, setRow_new, setRow_new1, setRow_new2, setRow_new11, setRow_new111]) | ((with_reducible apply wl_load' lwBox); (· (first | exact wanted_none rfl | exact wanted_some rfl rfl rfl)); (· rfl); (· infer_instance); (· rfl)) | (go_at_call 18; refine (dCheck_any D _ _ (SliceOf.ext HDD.out (by repeat' (first | (with_reducible exact Ext.refl _) | (with_reducible exact ExtOf.ext _) | (with_reducible refine Ext.trans ?_ (ExtOf.ext _)) | (with_reducible refine Ext.alloc ?_ _) | (with_reducible refine Ext.drew ?_) | (with_reducible refine Ext.setCell ?_ ?_ _) | (with_reducible refine Ext.setRow ?_ ?_ _) | (with_reducible exact HX.out) | (with_reducible refine Ext.trans ?_ HX.out) | (with_reducible refine Ext.below ?_ (Nat.le_refl _) _) | omega | (simp; done) | (simp; omega))))).mono ?_; rintro e w' ⟨rfl, nd, rfl⟩))
      refine (dClip_any D _ ⟨A1, A2, A3, A4, A5, A6⟩ _ (SliceOf.ext HDD.out (HX.out.trans HX4.out))).mono ?_
      rintro e w' ⟨vW, rfl, hoW, nW, rfl⟩
      rw [HCLP.out] at hoW
      obtain ⟨qw, cw, rfl⟩ := Own.form2 hoW
      have hsw := Own.slice encDf_len hoW
      rw [← HNL.out] at hsw ⊢
      have HSW := Lib.hid hsw
      clear hsw hoW
      go_wp2_with fail
      refine nameW (R := fun W => Code.wp _ _ _ _ W) (fun W => Hid (Ext W3 W) ∧ Block W w.heap.size #[.string x.id, .string x.lg, .string x.sp, .int .i64 x.pr, .int .i64 x.b.xa, .int .i64 x.b.xb, .int .i64 x.b.ya, .int .i64 x.b.yb, .int .i64 x.b.za, .int .i64 x.b.zb, .int .i64 x.vol, .slice qC CL.length cC, .int .i64 x.wa, .int .i64 x.su, .int .i64 x.co, .int .i64 x.st, .bool x.dr, .int .i64 x.gr, .string p.nm, .int .i64 p.th, .int .i64 p.wi, .int .i64 p.al, .int .i64 p.wa, .slice lq p.ls.length lcap, .slice pq p.ps.length pcap, .int .i64 step, .int .i64 kerf, .int .i64 fine] ∧ Block W gx ([.string .empty, .string x.lg, .string x.sp, .int .i64 x.pr, .int .i64 A1, .int .i64 A2, .int .i64 A3, .int .i64 A4, .int .i64 A5, .int .i64 A6, .int .i64 0, .slice pu nu cu, .int .i64 x.wa, .int .i64 x.su, .int .i64 x.co, .int .i64 x.st, .bool x.dr, .int .i64 0]).toArray ∧ Hid (DfS W (.slice qw nu cw) DL)) ⟨Lib.hid (HX4.out.trans (by repeat' (first | (with_reducible exact Ext.refl _) | (with_reducible exact ExtOf.ext _) | (with_reducible refine Ext.trans ?_ (ExtOf.ext _)) | (with_reducible refine Ext.alloc ?_ _) | (with_reducible refine Ext.drew ?_) | omega | (simp; omega)))), inferInstance, inferInstance, Lib.hid (SliceOf.ext HSW.out (by repeat' (first | (with_reducible exact Ext.refl _) | (with_reducible exact ExtOf.ext _) | (with_reducible refine Ext.trans ?_ (ExtOf.ext _)) | (with_reducible refine Ext.alloc ?_ _) | (with_reducible refine Ext.drew ?_) | omega | (simp; omega))))⟩ ?_
      clear HSW HX4 g4 x4 og4 ox4
      rintro W5 ⟨HX5, g5, x5, HSW⟩
      go_loopw [15, 16] (fun vt v wq => ∃ (j : Nat) (t : Bool), j ≤ p.ls.length ∧ v = .int .i64 (j : Int) ∧ vt = .bool t ∧ (t = false → ∀ m ∈ p.ls.take j, m ≠ A6 - A5) ∧ Ext W5 wq) (fun _ v _ => p.ls.length - (intOf v).toNat)
      case atStart => exact ⟨0, false, by omega, rfl, rfl, fun _ m hm => by simp at hm, Ext.refl _⟩
      case round =>
        obtain ⟨j, t, hj, rfl, rfl, ht, hx⟩ := hrel
        rename World => wq
        have HXq := Lib.hid hx
        have gq := g5.ext hx
        have xq := x5.ext hx
        have ogq := gq.old
        have oxq := xq.old
        have HT := Lib.hid ht
        clear hx ht
        by_cases hjl : j < p.ls.length
        · obtain ⟨n, hn⟩ : ∃ n, p.ls[j] = n := ⟨_, rfl⟩
          obtain ⟨bl, ol, hbl, obl, cl⟩ := int_elem (SliceOf.ext HL.out (HX.out.trans (HX5.out.trans HXq.out))) hjl hn
          subst hbl
          have HTK : Hid (p.ls.take (j + 1) = p.ls.take j ++ [n]) := Lib.hid (by rw [List.take_succ_eq_append_getElem hjl, hn])
          clear hn
          cases t
          · by_cases hnn : n = A6 - A5
            · have u1 : (n == A6 - A5) = true := beq_iff_eq.2 hnn
              clear hnn
              go_wp2_with fail
              refine wp_region_ext (by kernel_rfl) (by kernel_rfl) ?_
              repeat (first | go_big_quiet_skip | go_big_quiet_step (fail))
              refine wpQuiet_nil ?_
              intro _ hw'
              obtain ⟨nq, hw''⟩ := hw'
              subst hw''
              go_wp2_with fail
              go_roundw
              case rel => exact ⟨j + 1, true, by omega, by first | rfl | go_num, rfl, (fun h => by cases h), HXq.out.trans (by repeat' (first | (with_reducible exact Ext.refl _) | (with_reducible exact ExtOf.ext _) | (with_reducible refine Ext.trans ?_ (ExtOf.ext _)) | (with_reducible refine Ext.alloc ?_ _) | (with_reducible refine Ext.drew ?_) | omega | (simp; omega)))⟩
              case measure => simp [intOf]; omega
            · have u1 : (n == A6 - A5) = false := beq_eq_false_iff_ne.2 hnn
              have HN9 : Hid (∀ m ∈ p.ls.take (j + 1), m ≠ A6 - A5) := Lib.hid (fun m hm => by
                rw [HTK.out] at hm
                rcases List.mem_append.1 hm with hm | hm
                · exact HT.out rfl m hm
                · rw [List.mem_singleton.1 hm]; exact hnn)
              clear hnn
              go_wp2_with fail
              refine wp_region_ext (by kernel_rfl) (by kernel_rfl) ?_
              repeat (first | go_big_quiet_skip | go_big_quiet_step (fail))
              refine wpQuiet_nil ?_
              intro _ hw'
              obtain ⟨nq, hw''⟩ := hw'
              subst hw''
              go_wp2_with fail
              go_roundw
              case rel => exact ⟨j + 1, false, by omega, by first | rfl | go_num, rfl, fun _ => HN9.out, HXq.out.trans (by repeat' (first | (with_reducible exact Ext.refl _) | (with_reducible exact ExtOf.ext _) | (with_reducible refine Ext.trans ?_ (ExtOf.ext _)) | (with_reducible refine Ext.alloc ?_ _) | (with_reducible refine Ext.drew ?_) | omega | (simp; omega)))⟩
              case measure => simp [intOf]; omega
          · go_wp2_with fail
            refine wp_region_ext (by kernel_rfl) (by kernel_rfl) ?_
            repeat (first | go_big_quiet_skip | go_big_quiet_step (fail))
            refine wpQuiet_nil ?_
            intro _ hw'
            obtain ⟨nq, hw''⟩ := hw'
            subst hw''
            go_wp2_with fail
            go_roundw
            case rel => exact ⟨j + 1, true, by omega, by first | rfl | go_num, rfl, (fun h => by cases h), HXq.out.trans (by repeat' (first | (with_reducible exact Ext.refl _) | (with_reducible exact ExtOf.ext _) | (with_reducible refine Ext.trans ?_ (ExtOf.ext _)) | (with_reducible refine Ext.alloc ?_ _) | (with_reducible refine Ext.drew ?_) | omega | (simp; omega)))⟩
            case measure => simp [intOf]; omega
        · have ht1 : t = true := by
            cases t
            · exfalso
              have h9 := HT.out rfl
              rw [List.take_of_length_le (by omega)] at h9
              exact h9 _ HE3.out rfl
            · rfl
          subst ht1
          go_wp2_with fail
          go_loopw [17] (fun v wz => ∃ m : Nat, m ≤ nu ∧ v = .int .i64 (m : Int) ∧ Ext wq wz) (fun v _ => nu - (intOf v).toNat)
          case atStart => exact ⟨0, by omega, rfl, by repeat' (first | (with_reducible exact Ext.refl _) | (with_reducible exact ExtOf.ext _) | (with_reducible refine Ext.trans ?_ (ExtOf.ext _)) | (with_reducible refine Ext.alloc ?_ _) | (with_reducible refine Ext.drew ?_) | omega | (simp; omega))⟩
          case round =>
            obtain ⟨m, hm, rfl, hx⟩ := hrel
            rename World => wz
            have HXz := Lib.hid hx
            have xz := xq.ext hx
            have oxz := xz.old
            clear hx
            by_cases hml : m < nu
            · have hmD : m < DL.length := by rw [← HNL.out]; exact hml
              obtain ⟨ba, fa, e8, ra⟩ := SliceOf.elemK (SliceOf.ext HE1.out (HX5.out.trans (HXq.out.trans HXz.out))) hmD
              obtain ⟨bb, fb, e9, rb⟩ := SliceOf.elemK (SliceOf.ext HSW.out (HXq.out.trans HXz.out)) hmD
              subst e8
              subst e9
              have hkd := HE2.out _ (List.getElem_mem hmD)
              obtain ⟨⟨K, ⟨B1, B2, B3, B4, B5, B6⟩⟩, hdm⟩ : ∃ z, DL[m] = z := ⟨_, rfl⟩
              rw [hdm] at ra rb hkd
              simp only at hkd
              have rA : wz.rangeAt ba (fa + m * 7) [.int .i64 K, .int .i64 B1, .int .i64 B2, .int .i64 B3, .int .i64 B4, .int .i64 B5, .int .i64 B6] := ra
              have rB : wz.rangeAt bb (fb + m * 7) [.int .i64 K, .int .i64 B1, .int .i64 B2, .int .i64 B3, .int .i64 B4, .int .i64 B5, .int .i64 B6] := rb
              have cB : wz.cell? ⟨bb, fb + m * 7, none⟩ = some (.int .i64 K) := rb 0 _ rfl
              have oB : Old bb wz := Old.of_cell cB
              have u2 : (K == 3) = false := beq_eq_false_iff_ne.2 hkd
              clear ra rb hkd hdm hmD
              go_wp2_with fail
              refine wp_region_ext (by kernel_rfl) (by kernel_rfl) ?_
              repeat (first | go_big_quiet_skip | ((with_reducible apply q_loadM midDf rA); (· rfl); (· (first | exact wanted_none rfl | exact wanted_some rfl rfl rfl)); (· rfl); simp only [Act.put, List.setIfInBounds_toArray, List.set_cons_succ, List.set_cons_zero]) | ((with_reducible apply q_loadM midDf rB); (· rfl); (· (first | exact wanted_none rfl | exact wanted_some rfl rfl rfl)); (· rfl); simp only [Act.put, List.setIfInBounds_toArray, List.set_cons_succ, List.set_cons_zero]) | go_big_quiet_step (fail))
              refine wpQuiet_nil ?_
              intro _ hw'
              obtain ⟨nq, hw''⟩ := hw'
              subst hw''
              go_wp2_with fail
              go_roundw
              case rel => exact ⟨m + 1, by omega, by first | rfl | go_num, HXz.out.trans (by repeat' (first | (with_reducible exact Ext.refl _) | (with_reducible exact ExtOf.ext _) | (with_reducible refine Ext.trans ?_ (ExtOf.ext _)) | (with_reducible refine Ext.alloc ?_ _) | (with_reducible refine Ext.drew ?_) | omega | (simp; omega)))⟩
              case measure => simp [intOf]; omega
            · go_wp2_with fail
              go_roundw
              case rel => exact ⟨k + 1, by omega, by first | rfl | go_num, HX5.out.trans (HXq.out.trans (HXz.out.trans (by repeat' (first | (with_reducible exact Ext.refl _) | (with_reducible exact ExtOf.ext _) | (with_reducible refine Ext.trans ?_ (ExtOf.ext _)) | (with_reducible refine Ext.alloc ?_ _) | (with_reducible refine Ext.drew ?_) | omega | (simp; omega)))))⟩
              case measure => simp [intOf]; omega
    · have HX9 := Lib.hid (HX.out.trans HXr.out)
      clear HX
      have HX := HX9
      go_wp2_with (first | first | ((with_reducible apply wl_load' lwGiven); (· (first | exact wanted_none rfl | exact wanted_some rfl rfl rfl)); (· rfl); (· infer_instance); (· rfl)) | ((with_reducible apply wl_loadB midBd); (· (first | exact wanted_none rfl | exact wanted_some rfl rfl rfl)); (· rfl); (· infer_instance); (· rfl); (· rfl)) | ((with_reducible apply wl_loadB midPd); (· (first | exact wanted_none rfl | exact wanted_some rfl rfl rfl)); (· rfl); (· infer_instance); (· rfl); (· rfl)) | ((with_reducible apply wl_store' lwLine); (· (first | exact wanted_none rfl | exact wanted_some rfl rfl rfl)); (· rfl); (· rfl); (· infer_instance); (· rfl); (· rfl); (· (simp [Value.oneCell'])); try simp only [setRow_alloc, setRow_new, setRow_new1, setRow_new2, setRow_new11, setRow_new111]) | ((with_reducible apply wl_load' lwLine); (· (first | exact wanted_none rfl | exact wanted_some rfl rfl rfl)); (· rfl); (· infer_instance); (· rfl)) | ((with_reducible apply wl_store' lwGiven); (· (first | exact wanted_none rfl | exact wanted_some rfl rfl rfl)); (· rfl); (· rfl); (· infer_instance); (· rfl); (· rfl); (· (simp [Value.oneCell'])); try simp only [setRow_alloc, setRow_new, setRow_new1, setRow_new2, setRow_new11, setRow_new111]) | (go_at_call 9; refine (awake_any _ (Tab.ext HTB.out (by repeat' (first | (with_reducible exact Ext.refl _) | (with_reducible exact ExtOf.ext _) | (with_reducible refine Ext.trans ?_ (ExtOf.ext _)) | (with_reducible refine Ext.alloc ?_ _) | (with_reducible refine Ext.drew ?_) | (with_reducible refine Ext.setCell ?_ ?_ _) | (with_reducible refine Ext.setRow ?_ ?_ _) | (with_reducible exact HX.out) | (with_reducible refine Ext.trans ?_ HX.out) | (with_reducible refine Ext.below ?_ (Nat.le_refl _) _) | omega | (simp; done) | (simp; omega))))).mono ?_; rintro e w' ⟨rfl, na, rfl⟩) | ((with_reducible apply wl_loadB midBox); (· (first | exact wanted_none rfl | exact wanted_some rfl rfl rfl)); (· rfl); (· infer_instance); (· rfl); (· rfl)) | ((with_reducible apply wl_store' lwBox); (· (first | exact wanted_none rfl | exact wanted_some rfl rfl rfl)); (· rfl); (· rfl); (· infer_instance); (· rfl); (· rfl); (· (simp [Value.oneCell'])); try simp only [setRow_alloc, setRow_new, setRow_new1, setRow_new2, setRow_new11, setRow_new111]) | ((with_reducible apply wl_load' lwBox); (· (first | exact wanted_none rfl | exact wanted_some rfl rfl rfl)); (· rfl); (· infer_instance); (· rfl)) | (go_at_call 18; refine (dCheck_any D _ _ (SliceOf.ext HDD.out (by repeat' (first | (with_reducible exact Ext.refl _) | (with_reducible exact ExtOf.ext _) | (with_reducible refine Ext.trans ?_ (ExtOf.ext _)) | (with_reducible refine Ext.alloc ?_ _) | (with_reducible refine Ext.drew ?_) | (with_reducible refine Ext.setCell ?_ ?_ _) | (with_reducible refine Ext.setRow ?_ ?_ _) | (with_reducible exact HX.out) | (with_reducible refine Ext.trans ?_ HX.out) | (with_reducible refine Ext.below ?_ (Nat.le_refl _) _) | omega | (simp; done) | (simp; omega))))).mono ?_; rintro e w' ⟨rfl, nd, rfl⟩))
      go_ret
      exact ⟨rfl, by exact ExtOf.of (by repeat' (first | (with_reducible exact Ext.refl _) | (with_reducible exact ExtOf.ext _) | (with_reducible refine Ext.trans ?_ (ExtOf.ext _)) | (with_reducible refine Ext.alloc ?_ _) | (with_reducible refine Ext.drew ?_) | (with_reducible refine Ext.setCell ?_ ?_ _) | (with_reducible refine Ext.setRow ?_ ?_ _) | (with_reducible exact HX.out) | (with_reducible refine Ext.trans ?_ HX.out) | (with_reducible refine Ext.below ?_ (Nat.le_refl _) _) | omega | (simp; done) | (simp; omega)))⟩
end Go.Proofs.YtdalbfanfbeckaaDoor
