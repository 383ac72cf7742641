/-
  Chapter 59: several texts in one (S11, S12, S13).
-/
import Derived.Test.YteokijolhbohaaaGreatDoorK7
import Derived.Test.YteokijolhbohaaaGreatDoorK5
import Derived.Deep.DeepCutAuto
/-
  Chapter 59: schedules.
-/
section
set_option linter.unusedVariables false
set_option linter.unusedSimpArgs false
namespace Go.Proofs.YteokijolhbohaaaGreatDoor
open Go.RowKit StM

attribute [local go_sem] ExtOf.cell ExtOf.frozen Block.cell Block.frozen ExtB.cell ExtB.frozen alloc_cell alloc_frozen
def stgC (x : Stg) : Array Value := #[.int .i64 x.be, .int .i64 x.ti, .int .i64 x.te, .int .i64 x.de]
set_option maxHeartbeats 3200000 in
theorem sound_any (x : Stg) (w : World) : Calls Tryz.prog 45 #[.agg (stgC x)] w fun e w' => e = .returned (.bool x.ok) ∧ ∃ n : ExtOf w, w' = n.val := by
  obtain ⟨be, ti, te, de⟩ := x
  unfold stgC
  by_cases a1 : 0 ≤ be
  case neg =>
    have q1 : decide (0 ≤ be) = false := decide_eq_false a1
    have HA : Hid (¬ 0 ≤ be) := Lib.hid a1
    clear a1
    have HB : Hid (Stg.ok ⟨be, ti, te, de⟩ = false) := Lib.hid (by have := HA.out; simp [Stg.ok, betw]; omega)
    clear HA
    go_enter Tryz.func45, Tryz.ntmps45
    go_wp2_with fail
    go_ret
    exact ⟨ret_bool HB.out.symm, by exact ExtOf.of (by with_reducible repeat' (first | exact Ext.refl _ | exact ExtOf.ext _ | refine Ext.trans ?_ (ExtOf.ext _) | refine Ext.alloc ?_ _ | refine Ext.drew ?_ | refine Ext.setCell ?_ ?_ _ | refine Ext.setRow ?_ ?_ _ | exact HX.out | refine Ext.trans ?_ HX.out | omega | (simp; done) | (simp; omega)))⟩
  have q1 : decide (0 ≤ be) = true := decide_eq_true a1
  by_cases a2 : be ≤ 20000
  case neg =>
    have q2 : decide (be ≤ 20000) = false := decide_eq_false a2
    have HA : Hid (¬ be ≤ 20000) := Lib.hid a2
    clear a2
    have HB : Hid (Stg.ok ⟨be, ti, te, de⟩ = false) := Lib.hid (by have := HA.out; simp [Stg.ok, betw]; omega)
    clear HA
    go_enter Tryz.func45, Tryz.ntmps45
    go_wp2_with fail
    go_ret
    exact ⟨ret_bool HB.out.symm, by exact ExtOf.of (by with_reducible repeat' (first | exact Ext.refl _ | exact ExtOf.ext _ | refine Ext.trans ?_ (ExtOf.ext _) | refine Ext.alloc ?_ _ | refine Ext.drew ?_ | refine Ext.setCell ?_ ?_ _ | refine Ext.setRow ?_ ?_ _ | exact HX.out | refine Ext.trans ?_ HX.out | omega | (simp; done) | (simp; omega)))⟩
  have q2 : decide (be ≤ 20000) = true := decide_eq_true a2
  by_cases a3 : 0 ≤ ti
  case neg =>
    have q3 : decide (0 ≤ ti) = false := decide_eq_false a3
    have HA : Hid (¬ 0 ≤ ti) := Lib.hid a3
    clear a3
    have HB : Hid (Stg.ok ⟨be, ti, te, de⟩ = false) := Lib.hid (by have := HA.out; simp [Stg.ok, betw]; omega)
    clear HA
    go_enter Tryz.func45, Tryz.ntmps45
    go_wp2_with fail
    go_ret
    exact ⟨ret_bool HB.out.symm, by exact ExtOf.of (by with_reducible repeat' (first | exact Ext.refl _ | exact ExtOf.ext _ | refine Ext.trans ?_ (ExtOf.ext _) | refine Ext.alloc ?_ _ | refine Ext.drew ?_ | refine Ext.setCell ?_ ?_ _ | refine Ext.setRow ?_ ?_ _ | exact HX.out | refine Ext.trans ?_ HX.out | omega | (simp; done) | (simp; omega)))⟩
  have q3 : decide (0 ≤ ti) = true := decide_eq_true a3
  by_cases a4 : ti ≤ 10000
  case neg =>
    have q4 : decide (ti ≤ 10000) = false := decide_eq_false a4
    have HA : Hid (¬ ti ≤ 10000) := Lib.hid a4
    clear a4
    have HB : Hid (Stg.ok ⟨be, ti, te, de⟩ = false) := Lib.hid (by have := HA.out; simp [Stg.ok, betw]; omega)
    clear HA
    go_enter Tryz.func45, Tryz.ntmps45
    go_wp2_with fail
    go_ret
    exact ⟨ret_bool HB.out.symm, by exact ExtOf.of (by with_reducible repeat' (first | exact Ext.refl _ | exact ExtOf.ext _ | refine Ext.trans ?_ (ExtOf.ext _) | refine Ext.alloc ?_ _ | refine Ext.drew ?_ | refine Ext.setCell ?_ ?_ _ | refine Ext.setRow ?_ ?_ _ | exact HX.out | refine Ext.trans ?_ HX.out | omega | (simp; done) | (simp; omega)))⟩
  have q4 : decide (ti ≤ 10000) = true := decide_eq_true a4
  rcases q9 : (be != 0) with _ | _
  · have h9 : be = 0 := bne_eq_false_iff_eq.1 q9
    have H9 := Lib.hid h9
    clear h9
    rcases q10 : (ti != 0) with _ | _
    · have HA : Hid (be = 0 ∧ ti = 0) := Lib.hid ⟨H9.out, bne_eq_false_iff_eq.1 q10⟩
      have HB : Hid (Stg.ok ⟨be, ti, te, de⟩ = false) := Lib.hid (by have := HA.out; simp [Stg.ok, betw]; omega)
      clear HA
      go_enter Tryz.func45, Tryz.ntmps45
      go_wp2_with fail
      go_ret
      exact ⟨ret_bool HB.out.symm, by exact ExtOf.of (by with_reducible repeat' (first | exact Ext.refl _ | exact ExtOf.ext _ | refine Ext.trans ?_ (ExtOf.ext _) | refine Ext.alloc ?_ _ | refine Ext.drew ?_ | refine Ext.setCell ?_ ?_ _ | refine Ext.setRow ?_ ?_ _ | exact HX.out | refine Ext.trans ?_ HX.out | omega | (simp; done) | (simp; omega)))⟩
    have H10 : Hid (¬ ti = 0) := Lib.hid (bne_iff_ne.1 q10)
    by_cases a5 : 200 ≤ te
    case neg =>
      have q5 : decide (200 ≤ te) = false := decide_eq_false a5
      have HA : Hid (¬ 200 ≤ te) := Lib.hid a5
      clear a5
      have HB : Hid (Stg.ok ⟨be, ti, te, de⟩ = false) := Lib.hid (by have := HA.out; simp [Stg.ok, betw]; omega)
      clear HA
      go_enter Tryz.func45, Tryz.ntmps45
      go_wp2_with fail
      go_ret
      exact ⟨ret_bool HB.out.symm, by exact ExtOf.of (by with_reducible repeat' (first | exact Ext.refl _ | exact ExtOf.ext _ | refine Ext.trans ?_ (ExtOf.ext _) | refine Ext.alloc ?_ _ | refine Ext.drew ?_ | refine Ext.setCell ?_ ?_ _ | refine Ext.setRow ?_ ?_ _ | exact HX.out | refine Ext.trans ?_ HX.out | omega | (simp; done) | (simp; omega)))⟩
    have q5 : decide (200 ≤ te) = true := decide_eq_true a5
    by_cases a6 : te ≤ 1200
    case neg =>
      have q6 : decide (te ≤ 1200) = false := decide_eq_false a6
      have HA : Hid (¬ te ≤ 1200) := Lib.hid a6
      clear a6
      have HB : Hid (Stg.ok ⟨be, ti, te, de⟩ = false) := Lib.hid (by have := HA.out; simp [Stg.ok, betw]; omega)
      clear HA
      go_enter Tryz.func45, Tryz.ntmps45
      go_wp2_with fail
      go_ret
      exact ⟨ret_bool HB.out.symm, by exact ExtOf.of (by with_reducible repeat' (first | exact Ext.refl _ | exact ExtOf.ext _ | refine Ext.trans ?_ (ExtOf.ext _) | refine Ext.alloc ?_ _ | refine Ext.drew ?_ | refine Ext.setCell ?_ ?_ _ | refine Ext.setRow ?_ ?_ _ | exact HX.out | refine Ext.trans ?_ HX.out | omega | (simp; done) | (simp; omega)))⟩
    have q6 : decide (te ≤ 1200) = true := decide_eq_true a6
    by_cases a7 : 0 ≤ de
    case neg =>
      have q7 : decide (0 ≤ de) = false := decide_eq_false a7
      have HA : Hid (¬ 0 ≤ de) := Lib.hid a7
      clear a7
      have HB : Hid (Stg.ok ⟨be, ti, te, de⟩ = false) := Lib.hid (by have := HA.out; simp [Stg.ok, betw]; omega)
      clear HA
      go_enter Tryz.func45, Tryz.ntmps45
      go_wp2_with fail
      go_ret
      exact ⟨ret_bool HB.out.symm, by exact ExtOf.of (by with_reducible repeat' (first | exact Ext.refl _ | exact ExtOf.ext _ | refine Ext.trans ?_ (ExtOf.ext _) | refine Ext.alloc ?_ _ | refine Ext.drew ?_ | refine Ext.setCell ?_ ?_ _ | refine Ext.setRow ?_ ?_ _ | exact HX.out | refine Ext.trans ?_ HX.out | omega | (simp; done) | (simp; omega)))⟩
    have q7 : decide (0 ≤ de) = true := decide_eq_true a7
    by_cases a8 : de ≤ 400
    case neg =>
      have q8 : decide (de ≤ 400) = false := decide_eq_false a8
      have HA : Hid (¬ de ≤ 400) := Lib.hid a8
      clear a8
      have HB : Hid (Stg.ok ⟨be, ti, te, de⟩ = false) := Lib.hid (by have := HA.out; simp [Stg.ok, betw]; omega)
      clear HA
      go_enter Tryz.func45, Tryz.ntmps45
      go_wp2_with fail
      go_ret
      exact ⟨ret_bool HB.out.symm, by exact ExtOf.of (by with_reducible repeat' (first | exact Ext.refl _ | exact ExtOf.ext _ | refine Ext.trans ?_ (ExtOf.ext _) | refine Ext.alloc ?_ _ | refine Ext.drew ?_ | refine Ext.setCell ?_ ?_ _ | refine Ext.setRow ?_ ?_ _ | exact HX.out | refine Ext.trans ?_ HX.out | omega | (simp; done) | (simp; omega)))⟩
    have q8 : decide (de ≤ 400) = true := decide_eq_true a8
    have HA : Hid True := Lib.hid trivial
    have HB : Hid (Stg.ok ⟨be, ti, te, de⟩ = true) := Lib.hid (by have := H9.out; have := H10.out; simp [Stg.ok, betw]; omega)
    clear HA
    go_enter Tryz.func45, Tryz.ntmps45
    go_wp2_with fail
    go_ret
    exact ⟨ret_bool HB.out.symm, by exact ExtOf.of (by with_reducible repeat' (first | exact Ext.refl _ | exact ExtOf.ext _ | refine Ext.trans ?_ (ExtOf.ext _) | refine Ext.alloc ?_ _ | refine Ext.drew ?_ | refine Ext.setCell ?_ ?_ _ | refine Ext.setRow ?_ ?_ _ | exact HX.out | refine Ext.trans ?_ HX.out | omega | (simp; done) | (simp; omega)))⟩
  · have H9 : Hid (¬ be = 0) := Lib.hid (bne_iff_ne.1 q9)
    by_cases a9 : 200 ≤ te
    case neg =>
      have q9 : decide (200 ≤ te) = false := decide_eq_false a9
      have HA : Hid (¬ 200 ≤ te) := Lib.hid a9
      clear a9
      have HB : Hid (Stg.ok ⟨be, ti, te, de⟩ = false) := Lib.hid (by have := HA.out; simp [Stg.ok, betw]; omega)
      clear HA
      go_enter Tryz.func45, Tryz.ntmps45
      go_wp2_with fail
      go_ret
      exact ⟨ret_bool HB.out.symm, by exact ExtOf.of (by with_reducible repeat' (first | exact Ext.refl _ | exact ExtOf.ext _ | refine Ext.trans ?_ (ExtOf.ext _) | refine Ext.alloc ?_ _ | refine Ext.drew ?_ | refine Ext.setCell ?_ ?_ _ | refine Ext.setRow ?_ ?_ _ | exact HX.out | refine Ext.trans ?_ HX.out | omega | (simp; done) | (simp; omega)))⟩
    have q9 : decide (200 ≤ te) = true := decide_eq_true a9
    by_cases a10 : te ≤ 1200
    case neg =>
      have q10 : decide (te ≤ 1200) = false := decide_eq_false a10
      have HA : Hid (¬ te ≤ 1200) := Lib.hid a10
      clear a10
      have HB : Hid (Stg.ok ⟨be, ti, te, de⟩ = false) := Lib.hid (by have := HA.out; simp [Stg.ok, betw]; omega)
      clear HA
      go_enter Tryz.func45, Tryz.ntmps45
      go_wp2_with fail
      go_ret
      exact ⟨ret_bool HB.out.symm, by exact ExtOf.of (by with_reducible repeat' (first | exact Ext.refl _ | exact ExtOf.ext _ | refine Ext.trans ?_ (ExtOf.ext _) | refine Ext.alloc ?_ _ | refine Ext.drew ?_ | refine Ext.setCell ?_ ?_ _ | refine Ext.setRow ?_ ?_ _ | exact HX.out | refine Ext.trans ?_ HX.out | omega | (simp; done) | (simp; omega)))⟩
    have q10 : decide (te ≤ 1200) = true := decide_eq_true a10
    by_cases a11 : 0 ≤ de
    case neg =>
      have q11 : decide (0 ≤ de) = false := decide_eq_false a11
      have HA : Hid (¬ 0 ≤ de) := Lib.hid a11
      clear a11
      have HB : Hid (Stg.ok ⟨be, ti, te, de⟩ = false) := Lib.hid (by have := HA.out; simp [Stg.ok, betw]; omega)
      clear HA
      go_enter Tryz.func45, Tryz.ntmps45
      go_wp2_with fail
      go_ret
      exact ⟨ret_bool HB.out.symm, by exact ExtOf.of (by with_reducible repeat' (first | exact Ext.refl _ | exact ExtOf.ext _ | refine Ext.trans ?_ (ExtOf.ext _) | refine Ext.alloc ?_ _ | refine Ext.drew ?_ | refine Ext.setCell ?_ ?_ _ | refine Ext.setRow ?_ ?_ _ | exact HX.out | refine Ext.trans ?_ HX.out | omega | (simp; done) | (simp; omega)))⟩
    have q11 : decide (0 ≤ de) = true := decide_eq_true a11
    by_cases a12 : de ≤ 400
    case neg =>
      have q12 : decide (de ≤ 400) = false := decide_eq_false a12
      have HA : Hid (¬ de ≤ 400) := Lib.hid a12
      clear a12
      have HB : Hid (Stg.ok ⟨be, ti, te, de⟩ = false) := Lib.hid (by have := HA.out; simp [Stg.ok, betw]; omega)
      clear HA
      go_enter Tryz.func45, Tryz.ntmps45
      go_wp2_with fail
      go_ret
      exact ⟨ret_bool HB.out.symm, by exact ExtOf.of (by with_reducible repeat' (first | exact Ext.refl _ | exact ExtOf.ext _ | refine Ext.trans ?_ (ExtOf.ext _) | refine Ext.alloc ?_ _ | refine Ext.drew ?_ | refine Ext.setCell ?_ ?_ _ | refine Ext.setRow ?_ ?_ _ | exact HX.out | refine Ext.trans ?_ HX.out | omega | (simp; done) | (simp; omega)))⟩
    have q12 : decide (de ≤ 400) = true := decide_eq_true a12
    have HA : Hid True := Lib.hid trivial
    have HB : Hid (Stg.ok ⟨be, ti, te, de⟩ = true) := Lib.hid (by have := H9.out; simp [Stg.ok, betw]; omega)
    clear HA
    go_enter Tryz.func45, Tryz.ntmps45
    go_wp2_with fail
    go_ret
    exact ⟨ret_bool HB.out.symm, by exact ExtOf.of (by with_reducible repeat' (first | exact Ext.refl _ | exact ExtOf.ext _ | refine Ext.trans ?_ (ExtOf.ext _) | refine Ext.alloc ?_ _ | refine Ext.drew ?_ | refine Ext.setCell ?_ ?_ _ | refine Ext.setRow ?_ ?_ _ | exact HX.out | refine Ext.trans ?_ HX.out | omega | (simp; done) | (simp; omega)))⟩
end Go.Proofs.YteokijolhbohaaaGreatDoor
end
/-
  Chapter 59: the check of a schedule.
-/
section
set_option linter.unusedVariables false
set_option linter.unusedSimpArgs false
namespace Go.Proofs.YteokijolhbohaaaGreatDoor
open Go.RowKit StM

attribute [local go_sem] ExtOf.cell ExtOf.frozen Block.cell Block.frozen ExtB.cell ExtB.frozen alloc_cell alloc_frozen
theorem err_name {s : Sch} (h : nameL s.nm.data.toList = false) : s.err = 6 := by unfold Sch.err; rw [if_pos h]
theorem err_ramp {s : Sch} (h : nameL s.nm.data.toList = true) (h2 : betw s.ramp 1 1200 = false) : s.err = 9 := by unfold Sch.err; rw [if_neg (by rw [h]; simp), if_pos h2]
theorem err_none {s : Sch} (h : nameL s.nm.data.toList = true) (h2 : betw s.ramp 1 1200 = true) (h3 : s.st.length = 0) : s.err = 3 := by unfold Sch.err; rw [if_neg (by rw [h]; simp), if_neg (by rw [h2]; simp), if_pos h3]
theorem err_long {s : Sch} (h : nameL s.nm.data.toList = true) (h2 : betw s.ramp 1 1200 = true) (h3 : ¬ s.st.length = 0) (h4 : 12 < s.st.length) : s.err = 4 := by unfold Sch.err; rw [if_neg (by rw [h]; simp), if_neg (by rw [h2]; simp), if_neg h3, if_pos h4]
theorem err_scan {s : Sch} (h : nameL s.nm.data.toList = true) (h2 : betw s.ramp 1 1200 = true) (h3 : ¬ s.st.length = 0) (h4 : ¬ 12 < s.st.length) : s.err = scanAt stgE s.st 0 := by unfold Sch.err; rw [if_neg (by rw [h]; simp), if_neg (by rw [h2]; simp), if_neg h3, if_neg h4]
theorem stgE_ok {a : List Stg} {x : Stg} (h : x.ok = true) : stgE a x = 0 := by unfold stgE; rw [if_pos h]
theorem stgE_bad {a : List Stg} {x : Stg} (h : x.ok = false) : stgE a x = 9 := by unfold stgE; rw [if_neg (by rw [h]; simp)]
set_option maxHeartbeats 1600000 in
set_option maxRecDepth 20000 in
theorem scCheck_any (s : Sch) (v : Value) (w : World) (h : StgS w v s.st) : Calls Tryz.prog 19 #[.agg #[.string s.nm, .int .i64 s.ramp, v]] w fun e w' => e = .returned (.int .i64 s.err) ∧ ∃ n : ExtOf w, w' = n.val := by
  obtain ⟨nm, ramp, st⟩ := s
  obtain ⟨q, cap, rfl, hc1, hc2, hc3⟩ := SliceOf.form h
  unfold maxLen at hc2
  have H := Lib.hid h
  clear h
  simp only at hc1 hc2 hc3
  rcases hn : nameL nm.data.toList with _ | _
  · have HE := Lib.hid (err_name (s := ⟨nm, ramp, st⟩) hn)
    go_enter Tryz.func19, Tryz.ntmps19
    go_wp2_with (first | ((with_reducible refine wl_loadM midStg (Ext.range ?_ (Hid.out HR)) ?_ ?_ ?_ ?_); (· with_reducible repeat' (first | exact Ext.refl _ | exact ExtOf.ext _ | refine Ext.trans ?_ (ExtOf.ext _) | refine Ext.alloc ?_ _ | refine Ext.drew ?_ | refine Ext.setCell ?_ ?_ _ | refine Ext.setRow ?_ ?_ _ | exact HX.out | refine Ext.trans ?_ HX.out | omega | (simp; done) | (simp; omega))); (· rfl); (· (first | exact wanted_none rfl | exact wanted_some rfl rfl rfl)); (· rfl)) | ((with_reducible apply wl_store' lwStg); (· (first | exact wanted_none rfl | exact wanted_some rfl rfl rfl)); (· rfl); (· rfl); (· infer_instance); (· rfl); (· rfl); (· (simp [Value.oneCell', SlT.v])); try simp only [setRow_alloc, setRow_new, setRow_new1, setRow_new2, setRow_new11, setRow_new111]) | ((with_reducible apply wl_load' lwStg); (· (first | exact wanted_none rfl | exact wanted_some rfl rfl rfl)); (· rfl); (· infer_instance); (· rfl)) | (go_at_call 39; refine (isName_any _ _).mono ?_; rintro e w' ⟨rfl, rfl⟩) | (go_at_call 49; refine (risName_any _ _).mono ?_; rintro e w' ⟨rfl, rfl⟩) | (go_at_call 54; refine (from37_any _ _ _ _).mono ?_; rintro e w' ⟨rfl, rfl⟩) | (go_at_call 45; refine (sound_any ⟨be, ti, te, de⟩ _).mono ?_; rintro e w' ⟨rfl, nn, rfl⟩))
    go_ret
    exact ⟨ret_int HE.out.symm, by exact ExtOf.of (by with_reducible repeat' (first | exact Ext.refl _ | exact ExtOf.ext _ | refine Ext.trans ?_ (ExtOf.ext _) | refine Ext.alloc ?_ _ | refine Ext.drew ?_ | refine Ext.setCell ?_ ?_ _ | refine Ext.setRow ?_ ?_ _ | exact HX.out | refine Ext.trans ?_ HX.out | omega | (simp; done) | (simp; omega)))⟩
  rcases hb : betw ramp 1 1200 with _ | _
  · rcases betw_f hb with q1 | ⟨q1, q2⟩
    · have HE := Lib.hid (err_ramp (s := ⟨nm, ramp, st⟩) hn hb)
      go_enter Tryz.func19, Tryz.ntmps19
      go_wp2_with (first | ((with_reducible refine wl_loadM midStg (Ext.range ?_ (Hid.out HR)) ?_ ?_ ?_ ?_); (· with_reducible repeat' (first | exact Ext.refl _ | exact ExtOf.ext _ | refine Ext.trans ?_ (ExtOf.ext _) | refine Ext.alloc ?_ _ | refine Ext.drew ?_ | refine Ext.setCell ?_ ?_ _ | refine Ext.setRow ?_ ?_ _ | exact HX.out | refine Ext.trans ?_ HX.out | omega | (simp; done) | (simp; omega))); (· rfl); (· (first | exact wanted_none rfl | exact wanted_some rfl rfl rfl)); (· rfl)) | ((with_reducible apply wl_store' lwStg); (· (first | exact wanted_none rfl | exact wanted_some rfl rfl rfl)); (· rfl); (· rfl); (· infer_instance); (· rfl); (· rfl); (· (simp [Value.oneCell', SlT.v])); try simp only [setRow_alloc, setRow_new, setRow_new1, setRow_new2, setRow_new11, setRow_new111]) | ((with_reducible apply wl_load' lwStg); (· (first | exact wanted_none rfl | exact wanted_some rfl rfl rfl)); (· rfl); (· infer_instance); (· rfl)) | (go_at_call 39; refine (isName_any _ _).mono ?_; rintro e w' ⟨rfl, rfl⟩) | (go_at_call 49; refine (risName_any _ _).mono ?_; rintro e w' ⟨rfl, rfl⟩) | (go_at_call 54; refine (from37_any _ _ _ _).mono ?_; rintro e w' ⟨rfl, rfl⟩) | (go_at_call 45; refine (sound_any ⟨be, ti, te, de⟩ _).mono ?_; rintro e w' ⟨rfl, nn, rfl⟩))
      go_ret
      exact ⟨ret_int HE.out.symm, by exact ExtOf.of (by with_reducible repeat' (first | exact Ext.refl _ | exact ExtOf.ext _ | refine Ext.trans ?_ (ExtOf.ext _) | refine Ext.alloc ?_ _ | refine Ext.drew ?_ | refine Ext.setCell ?_ ?_ _ | refine Ext.setRow ?_ ?_ _ | exact HX.out | refine Ext.trans ?_ HX.out | omega | (simp; done) | (simp; omega)))⟩
    · have HE := Lib.hid (err_ramp (s := ⟨nm, ramp, st⟩) hn hb)
      go_enter Tryz.func19, Tryz.ntmps19
      go_wp2_with (first | ((with_reducible refine wl_loadM midStg (Ext.range ?_ (Hid.out HR)) ?_ ?_ ?_ ?_); (· with_reducible repeat' (first | exact Ext.refl _ | exact ExtOf.ext _ | refine Ext.trans ?_ (ExtOf.ext _) | refine Ext.alloc ?_ _ | refine Ext.drew ?_ | refine Ext.setCell ?_ ?_ _ | refine Ext.setRow ?_ ?_ _ | exact HX.out | refine Ext.trans ?_ HX.out | omega | (simp; done) | (simp; omega))); (· rfl); (· (first | exact wanted_none rfl | exact wanted_some rfl rfl rfl)); (· rfl)) | ((with_reducible apply wl_store' lwStg); (· (first | exact wanted_none rfl | exact wanted_some rfl rfl rfl)); (· rfl); (· rfl); (· infer_instance); (· rfl); (· rfl); (· (simp [Value.oneCell', SlT.v])); try simp only [setRow_alloc, setRow_new, setRow_new1, setRow_new2, setRow_new11, setRow_new111]) | ((with_reducible apply wl_load' lwStg); (· (first | exact wanted_none rfl | exact wanted_some rfl rfl rfl)); (· rfl); (· infer_instance); (· rfl)) | (go_at_call 39; refine (isName_any _ _).mono ?_; rintro e w' ⟨rfl, rfl⟩) | (go_at_call 49; refine (risName_any _ _).mono ?_; rintro e w' ⟨rfl, rfl⟩) | (go_at_call 54; refine (from37_any _ _ _ _).mono ?_; rintro e w' ⟨rfl, rfl⟩) | (go_at_call 45; refine (sound_any ⟨be, ti, te, de⟩ _).mono ?_; rintro e w' ⟨rfl, nn, rfl⟩))
      go_ret
      exact ⟨ret_int HE.out.symm, by exact ExtOf.of (by with_reducible repeat' (first | exact Ext.refl _ | exact ExtOf.ext _ | refine Ext.trans ?_ (ExtOf.ext _) | refine Ext.alloc ?_ _ | refine Ext.drew ?_ | refine Ext.setCell ?_ ?_ _ | refine Ext.setRow ?_ ?_ _ | exact HX.out | refine Ext.trans ?_ HX.out | omega | (simp; done) | (simp; omega)))⟩
  obtain ⟨q1, q2⟩ := betw_t hb
  by_cases h0 : st.length = 0
  · have q3 : ((st.length : Int) == 0) = true := beq_iff_eq.2 (by omega)
    have HE := Lib.hid (err_none (s := ⟨nm, ramp, st⟩) hn hb h0)
    clear h0
    go_enter Tryz.func19, Tryz.ntmps19
    go_wp2_with (first | ((with_reducible refine wl_loadM midStg (Ext.range ?_ (Hid.out HR)) ?_ ?_ ?_ ?_); (· with_reducible repeat' (first | exact Ext.refl _ | exact ExtOf.ext _ | refine Ext.trans ?_ (ExtOf.ext _) | refine Ext.alloc ?_ _ | refine Ext.drew ?_ | refine Ext.setCell ?_ ?_ _ | refine Ext.setRow ?_ ?_ _ | exact HX.out | refine Ext.trans ?_ HX.out | omega | (simp; done) | (simp; omega))); (· rfl); (· (first | exact wanted_none rfl | exact wanted_some rfl rfl rfl)); (· rfl)) | ((with_reducible apply wl_store' lwStg); (· (first | exact wanted_none rfl | exact wanted_some rfl rfl rfl)); (· rfl); (· rfl); (· infer_instance); (· rfl); (· rfl); (· (simp [Value.oneCell', SlT.v])); try simp only [setRow_alloc, setRow_new, setRow_new1, setRow_new2, setRow_new11, setRow_new111]) | ((with_reducible apply wl_load' lwStg); (· (first | exact wanted_none rfl | exact wanted_some rfl rfl rfl)); (· rfl); (· infer_instance); (· rfl)) | (go_at_call 39; refine (isName_any _ _).mono ?_; rintro e w' ⟨rfl, rfl⟩) | (go_at_call 49; refine (risName_any _ _).mono ?_; rintro e w' ⟨rfl, rfl⟩) | (go_at_call 54; refine (from37_any _ _ _ _).mono ?_; rintro e w' ⟨rfl, rfl⟩) | (go_at_call 45; refine (sound_any ⟨be, ti, te, de⟩ _).mono ?_; rintro e w' ⟨rfl, nn, rfl⟩))
    go_ret
    exact ⟨ret_int HE.out.symm, by exact ExtOf.of (by with_reducible repeat' (first | exact Ext.refl _ | exact ExtOf.ext _ | refine Ext.trans ?_ (ExtOf.ext _) | refine Ext.alloc ?_ _ | refine Ext.drew ?_ | refine Ext.setCell ?_ ?_ _ | refine Ext.setRow ?_ ?_ _ | exact HX.out | refine Ext.trans ?_ HX.out | omega | (simp; done) | (simp; omega)))⟩
  have q3 : ((st.length : Int) == 0) = false := beq_eq_false_iff_ne.2 (by omega)
  by_cases h12 : 12 < st.length
  · have q4 : decide (12 < (st.length : Int)) = true := decide_eq_true (by omega)
    have HE := Lib.hid (err_long (s := ⟨nm, ramp, st⟩) hn hb h0 h12)
    go_enter Tryz.func19, Tryz.ntmps19
    go_wp2_with (first | ((with_reducible refine wl_loadM midStg (Ext.range ?_ (Hid.out HR)) ?_ ?_ ?_ ?_); (· with_reducible repeat' (first | exact Ext.refl _ | exact ExtOf.ext _ | refine Ext.trans ?_ (ExtOf.ext _) | refine Ext.alloc ?_ _ | refine Ext.drew ?_ | refine Ext.setCell ?_ ?_ _ | refine Ext.setRow ?_ ?_ _ | exact HX.out | refine Ext.trans ?_ HX.out | omega | (simp; done) | (simp; omega))); (· rfl); (· (first | exact wanted_none rfl | exact wanted_some rfl rfl rfl)); (· rfl)) | ((with_reducible apply wl_store' lwStg); (· (first | exact wanted_none rfl | exact wanted_some rfl rfl rfl)); (· rfl); (· rfl); (· infer_instance); (· rfl); (· rfl); (· (simp [Value.oneCell', SlT.v])); try simp only [setRow_alloc, setRow_new, setRow_new1, setRow_new2, setRow_new11, setRow_new111]) | ((with_reducible apply wl_load' lwStg); (· (first | exact wanted_none rfl | exact wanted_some rfl rfl rfl)); (· rfl); (· infer_instance); (· rfl)) | (go_at_call 39; refine (isName_any _ _).mono ?_; rintro e w' ⟨rfl, rfl⟩) | (go_at_call 49; refine (risName_any _ _).mono ?_; rintro e w' ⟨rfl, rfl⟩) | (go_at_call 54; refine (from37_any _ _ _ _).mono ?_; rintro e w' ⟨rfl, rfl⟩) | (go_at_call 45; refine (sound_any ⟨be, ti, te, de⟩ _).mono ?_; rintro e w' ⟨rfl, nn, rfl⟩))
    go_ret
    exact ⟨ret_int HE.out.symm, by exact ExtOf.of (by with_reducible repeat' (first | exact Ext.refl _ | exact ExtOf.ext _ | refine Ext.trans ?_ (ExtOf.ext _) | refine Ext.alloc ?_ _ | refine Ext.drew ?_ | refine Ext.setCell ?_ ?_ _ | refine Ext.setRow ?_ ?_ _ | exact HX.out | refine Ext.trans ?_ HX.out | omega | (simp; done) | (simp; omega)))⟩
  have q4 : decide (12 < (st.length : Int)) = false := decide_eq_false (by omega)
  have HE := Lib.hid (err_scan (s := ⟨nm, ramp, st⟩) hn hb h0 h12)
  go_enter Tryz.func19, Tryz.ntmps19
  go_wp2_with (first | ((with_reducible refine wl_loadM midStg (Ext.range ?_ (Hid.out HR)) ?_ ?_ ?_ ?_); (· with_reducible repeat' (first | exact Ext.refl _ | exact ExtOf.ext _ | refine Ext.trans ?_ (ExtOf.ext _) | refine Ext.alloc ?_ _ | refine Ext.drew ?_ | refine Ext.setCell ?_ ?_ _ | refine Ext.setRow ?_ ?_ _ | exact HX.out | refine Ext.trans ?_ HX.out | omega | (simp; done) | (simp; omega))); (· rfl); (· (first | exact wanted_none rfl | exact wanted_some rfl rfl rfl)); (· rfl)) | ((with_reducible apply wl_store' lwStg); (· (first | exact wanted_none rfl | exact wanted_some rfl rfl rfl)); (· rfl); (· rfl); (· infer_instance); (· rfl); (· rfl); (· (simp [Value.oneCell', SlT.v])); try simp only [setRow_alloc, setRow_new, setRow_new1, setRow_new2, setRow_new11, setRow_new111]) | ((with_reducible apply wl_load' lwStg); (· (first | exact wanted_none rfl | exact wanted_some rfl rfl rfl)); (· rfl); (· infer_instance); (· rfl)) | (go_at_call 39; refine (isName_any _ _).mono ?_; rintro e w' ⟨rfl, rfl⟩) | (go_at_call 49; refine (risName_any _ _).mono ?_; rintro e w' ⟨rfl, rfl⟩) | (go_at_call 54; refine (from37_any _ _ _ _).mono ?_; rintro e w' ⟨rfl, rfl⟩) | (go_at_call 45; refine (sound_any ⟨be, ti, te, de⟩ _).mono ?_; rintro e w' ⟨rfl, nn, rfl⟩))
  go_loopw [28] (fun vi wr => ∃ k : Nat, k ≤ st.length ∧ vi = .int .i64 k ∧ scanAt stgE st 0 = scanAt stgE st k ∧ Ext w wr) (fun i _ => st.length - (intOf i).toNat)
  case atStart => exact ⟨0, by omega, rfl, rfl, by with_reducible repeat' (first | exact Ext.refl _ | exact ExtOf.ext _ | refine Ext.trans ?_ (ExtOf.ext _) | refine Ext.alloc ?_ _ | refine Ext.drew ?_ | refine Ext.setCell ?_ ?_ _ | refine Ext.setRow ?_ ?_ _ | exact HX.out | refine Ext.trans ?_ HX.out | omega | (simp; done) | (simp; omega))⟩
  case round =>
    obtain ⟨k, hk, rfl, hd, hx⟩ := hrel
    have HX := Lib.hid hx
    have HD := Lib.hid hd
    clear hx hd
    by_cases hlt : k < st.length
    · obtain ⟨b, off, rfl, ob, hr⟩ := SliceOf.elemO (SliceOf.ext H.out HX.out) hlt (by decide) (encStg_len _)
      have HF := Lib.hid (fun e => scanAt_bad stgE st hlt (e := e))
      have HG := Lib.hid (scanAt_ok stgE st hlt)
      obtain ⟨⟨be, ti, te, de⟩, he⟩ : ∃ z, z = st[k] := ⟨_, rfl⟩
      rw [← he] at hr HF HG
      clear he
      have HR : Hid (wr.rangeAt b (off + k * 4) [.int .i64 be, .int .i64 ti, .int .i64 te, .int .i64 de]) := Lib.hid hr
      clear hr
      rcases hok : Stg.ok ⟨be, ti, te, de⟩ with _ | _
      · have HB := Lib.hid (HF.out 9 (stgE_bad hok) (by decide))
        go_wp2_with (first | ((with_reducible refine wl_loadM midStg (Ext.range ?_ (Hid.out HR)) ?_ ?_ ?_ ?_); (· with_reducible repeat' (first | exact Ext.refl _ | exact ExtOf.ext _ | refine Ext.trans ?_ (ExtOf.ext _) | refine Ext.alloc ?_ _ | refine Ext.drew ?_ | refine Ext.setCell ?_ ?_ _ | refine Ext.setRow ?_ ?_ _ | exact HX.out | refine Ext.trans ?_ HX.out | omega | (simp; done) | (simp; omega))); (· rfl); (· (first | exact wanted_none rfl | exact wanted_some rfl rfl rfl)); (· rfl)) | ((with_reducible apply wl_store' lwStg); (· (first | exact wanted_none rfl | exact wanted_some rfl rfl rfl)); (· rfl); (· rfl); (· infer_instance); (· rfl); (· rfl); (· (simp [Value.oneCell', SlT.v])); try simp only [setRow_alloc, setRow_new, setRow_new1, setRow_new2, setRow_new11, setRow_new111]) | ((with_reducible apply wl_load' lwStg); (· (first | exact wanted_none rfl | exact wanted_some rfl rfl rfl)); (· rfl); (· infer_instance); (· rfl)) | (go_at_call 39; refine (isName_any _ _).mono ?_; rintro e w' ⟨rfl, rfl⟩) | (go_at_call 49; refine (risName_any _ _).mono ?_; rintro e w' ⟨rfl, rfl⟩) | (go_at_call 54; refine (from37_any _ _ _ _).mono ?_; rintro e w' ⟨rfl, rfl⟩) | (go_at_call 45; refine (sound_any ⟨be, ti, te, de⟩ _).mono ?_; rintro e w' ⟨rfl, nn, rfl⟩))
        go_ret
        exact ⟨ret_int (by rw [HE.out, HD.out, HB.out]), ExtOf.of (HX.out.trans (by with_reducible repeat' (first | exact Ext.refl _ | exact ExtOf.ext _ | refine Ext.trans ?_ (ExtOf.ext _) | refine Ext.alloc ?_ _ | refine Ext.drew ?_ | refine Ext.setCell ?_ ?_ _ | refine Ext.setRow ?_ ?_ _ | exact HX.out | refine Ext.trans ?_ HX.out | omega | (simp; done) | (simp; omega))))⟩
      · have HN := Lib.hid (HG.out (stgE_ok hok))
        go_wp2_with (first | ((with_reducible refine wl_loadM midStg (Ext.range ?_ (Hid.out HR)) ?_ ?_ ?_ ?_); (· with_reducible repeat' (first | exact Ext.refl _ | exact ExtOf.ext _ | refine Ext.trans ?_ (ExtOf.ext _) | refine Ext.alloc ?_ _ | refine Ext.drew ?_ | refine Ext.setCell ?_ ?_ _ | refine Ext.setRow ?_ ?_ _ | exact HX.out | refine Ext.trans ?_ HX.out | omega | (simp; done) | (simp; omega))); (· rfl); (· (first | exact wanted_none rfl | exact wanted_some rfl rfl rfl)); (· rfl)) | ((with_reducible apply wl_store' lwStg); (· (first | exact wanted_none rfl | exact wanted_some rfl rfl rfl)); (· rfl); (· rfl); (· infer_instance); (· rfl); (· rfl); (· (simp [Value.oneCell', SlT.v])); try simp only [setRow_alloc, setRow_new, setRow_new1, setRow_new2, setRow_new11, setRow_new111]) | ((with_reducible apply wl_load' lwStg); (· (first | exact wanted_none rfl | exact wanted_some rfl rfl rfl)); (· rfl); (· infer_instance); (· rfl)) | (go_at_call 39; refine (isName_any _ _).mono ?_; rintro e w' ⟨rfl, rfl⟩) | (go_at_call 49; refine (risName_any _ _).mono ?_; rintro e w' ⟨rfl, rfl⟩) | (go_at_call 54; refine (from37_any _ _ _ _).mono ?_; rintro e w' ⟨rfl, rfl⟩) | (go_at_call 45; refine (sound_any ⟨be, ti, te, de⟩ _).mono ?_; rintro e w' ⟨rfl, nn, rfl⟩))
        go_roundw
        case rel => exact ⟨k + 1, by omega, by first | rfl | go_num, HD.out.trans HN.out, HX.out.trans (by with_reducible repeat' (first | exact Ext.refl _ | exact ExtOf.ext _ | refine Ext.trans ?_ (ExtOf.ext _) | refine Ext.alloc ?_ _ | refine Ext.drew ?_ | refine Ext.setCell ?_ ?_ _ | refine Ext.setRow ?_ ?_ _ | exact HX.out | refine Ext.trans ?_ HX.out | omega | (simp; done) | (simp; omega)))⟩
        case measure => simp [intOf]; omega
    · obtain rfl : k = st.length := by omega
      have HT : Hid (scanAt stgE st st.length = 0) := Lib.hid (scanAt_end _ _ (Nat.le_refl _))
      go_wp2_with fail
      go_ret
      exact ⟨ret_int (by rw [HE.out, HD.out, HT.out]), ExtOf.of HX.out⟩
end Go.Proofs.YteokijolhbohaaaGreatDoor
end
/-
  Chapter 59: the check of a schedule, the reference.
-/
section
set_option linter.unusedVariables false
set_option linter.unusedSimpArgs false
namespace Go.Proofs.YteokijolhbohaaaGreatDoor
open Go.RowKit StM

attribute [local go_sem] ExtOf.cell ExtOf.frozen Block.cell Block.frozen ExtB.cell ExtB.frozen alloc_cell alloc_frozen
set_option maxHeartbeats 1600000 in
set_option maxRecDepth 20000 in
theorem rscCheck_any (s : Sch) (v : Value) (w : World) (h : StgS w v s.st) : Calls Tryz.prog 26 #[.agg #[.string s.nm, .int .i64 s.ramp, v]] w fun e w' => e = .returned (.int .i64 s.err) ∧ ∃ n : ExtOf w, w' = n.val := by
  obtain ⟨nm, ramp, st⟩ := s
  obtain ⟨q, cap, rfl, hc1, hc2, hc3⟩ := SliceOf.form h
  unfold maxLen at hc2
  have H := Lib.hid h
  clear h
  simp only at hc1 hc2 hc3
  rcases hn : nameL nm.data.toList with _ | _
  · have HE := Lib.hid (err_name (s := ⟨nm, ramp, st⟩) hn)
    go_enter Tryz.func26, Tryz.ntmps26
    go_wp2_with (first | ((with_reducible refine wl_loadM midStg (Ext.range ?_ (Hid.out HR)) ?_ ?_ ?_ ?_); (· with_reducible repeat' (first | exact Ext.refl _ | exact ExtOf.ext _ | refine Ext.trans ?_ (ExtOf.ext _) | refine Ext.alloc ?_ _ | refine Ext.drew ?_ | refine Ext.setCell ?_ ?_ _ | refine Ext.setRow ?_ ?_ _ | exact HX.out | refine Ext.trans ?_ HX.out | omega | (simp; done) | (simp; omega))); (· rfl); (· (first | exact wanted_none rfl | exact wanted_some rfl rfl rfl)); (· rfl)) | ((with_reducible apply wl_store' lwStg); (· (first | exact wanted_none rfl | exact wanted_some rfl rfl rfl)); (· rfl); (· rfl); (· infer_instance); (· rfl); (· rfl); (· (simp [Value.oneCell', SlT.v])); try simp only [setRow_alloc, setRow_new, setRow_new1, setRow_new2, setRow_new11, setRow_new111]) | ((with_reducible apply wl_load' lwStg); (· (first | exact wanted_none rfl | exact wanted_some rfl rfl rfl)); (· rfl); (· infer_instance); (· rfl)) | (go_at_call 49; refine (risName_any _ _).mono ?_; rintro e w' ⟨rfl, rfl⟩) | (go_at_call 54; refine (from37_any _ _ _ _).mono ?_; rintro e w' ⟨rfl, rfl⟩))
    go_ret
    exact ⟨ret_int HE.out.symm, by exact ExtOf.of (by with_reducible repeat' (first | exact Ext.refl _ | exact ExtOf.ext _ | refine Ext.trans ?_ (ExtOf.ext _) | refine Ext.alloc ?_ _ | refine Ext.drew ?_ | refine Ext.setCell ?_ ?_ _ | refine Ext.setRow ?_ ?_ _ | exact HX.out | refine Ext.trans ?_ HX.out | omega | (simp; done) | (simp; omega)))⟩
  rcases hb : betw ramp 1 1200 with _ | _
  · have HE := Lib.hid (err_ramp (s := ⟨nm, ramp, st⟩) hn hb)
    go_enter Tryz.func26, Tryz.ntmps26
    go_wp2_with (first | ((with_reducible refine wl_loadM midStg (Ext.range ?_ (Hid.out HR)) ?_ ?_ ?_ ?_); (· with_reducible repeat' (first | exact Ext.refl _ | exact ExtOf.ext _ | refine Ext.trans ?_ (ExtOf.ext _) | refine Ext.alloc ?_ _ | refine Ext.drew ?_ | refine Ext.setCell ?_ ?_ _ | refine Ext.setRow ?_ ?_ _ | exact HX.out | refine Ext.trans ?_ HX.out | omega | (simp; done) | (simp; omega))); (· rfl); (· (first | exact wanted_none rfl | exact wanted_some rfl rfl rfl)); (· rfl)) | ((with_reducible apply wl_store' lwStg); (· (first | exact wanted_none rfl | exact wanted_some rfl rfl rfl)); (· rfl); (· rfl); (· infer_instance); (· rfl); (· rfl); (· (simp [Value.oneCell', SlT.v])); try simp only [setRow_alloc, setRow_new, setRow_new1, setRow_new2, setRow_new11, setRow_new111]) | ((with_reducible apply wl_load' lwStg); (· (first | exact wanted_none rfl | exact wanted_some rfl rfl rfl)); (· rfl); (· infer_instance); (· rfl)) | (go_at_call 49; refine (risName_any _ _).mono ?_; rintro e w' ⟨rfl, rfl⟩) | (go_at_call 54; refine (from37_any _ _ _ _).mono ?_; rintro e w' ⟨rfl, rfl⟩))
    go_ret
    exact ⟨ret_int HE.out.symm, by exact ExtOf.of (by with_reducible repeat' (first | exact Ext.refl _ | exact ExtOf.ext _ | refine Ext.trans ?_ (ExtOf.ext _) | refine Ext.alloc ?_ _ | refine Ext.drew ?_ | refine Ext.setCell ?_ ?_ _ | refine Ext.setRow ?_ ?_ _ | exact HX.out | refine Ext.trans ?_ HX.out | omega | (simp; done) | (simp; omega)))⟩
  by_cases h0 : st.length = 0
  · have q3 : ((st.length : Int) == 0) = true := beq_iff_eq.2 (by omega)
    have HE := Lib.hid (err_none (s := ⟨nm, ramp, st⟩) hn hb h0)
    clear h0
    go_enter Tryz.func26, Tryz.ntmps26
    go_wp2_with (first | ((with_reducible refine wl_loadM midStg (Ext.range ?_ (Hid.out HR)) ?_ ?_ ?_ ?_); (· with_reducible repeat' (first | exact Ext.refl _ | exact ExtOf.ext _ | refine Ext.trans ?_ (ExtOf.ext _) | refine Ext.alloc ?_ _ | refine Ext.drew ?_ | refine Ext.setCell ?_ ?_ _ | refine Ext.setRow ?_ ?_ _ | exact HX.out | refine Ext.trans ?_ HX.out | omega | (simp; done) | (simp; omega))); (· rfl); (· (first | exact wanted_none rfl | exact wanted_some rfl rfl rfl)); (· rfl)) | ((with_reducible apply wl_store' lwStg); (· (first | exact wanted_none rfl | exact wanted_some rfl rfl rfl)); (· rfl); (· rfl); (· infer_instance); (· rfl); (· rfl); (· (simp [Value.oneCell', SlT.v])); try simp only [setRow_alloc, setRow_new, setRow_new1, setRow_new2, setRow_new11, setRow_new111]) | ((with_reducible apply wl_load' lwStg); (· (first | exact wanted_none rfl | exact wanted_some rfl rfl rfl)); (· rfl); (· infer_instance); (· rfl)) | (go_at_call 49; refine (risName_any _ _).mono ?_; rintro e w' ⟨rfl, rfl⟩) | (go_at_call 54; refine (from37_any _ _ _ _).mono ?_; rintro e w' ⟨rfl, rfl⟩))
    go_ret
    exact ⟨ret_int HE.out.symm, by exact ExtOf.of (by with_reducible repeat' (first | exact Ext.refl _ | exact ExtOf.ext _ | refine Ext.trans ?_ (ExtOf.ext _) | refine Ext.alloc ?_ _ | refine Ext.drew ?_ | refine Ext.setCell ?_ ?_ _ | refine Ext.setRow ?_ ?_ _ | exact HX.out | refine Ext.trans ?_ HX.out | omega | (simp; done) | (simp; omega)))⟩
  have q3 : ((st.length : Int) == 0) = false := beq_eq_false_iff_ne.2 (by omega)
  by_cases h12 : 12 < st.length
  · have q4 : decide (12 < (st.length : Int)) = true := decide_eq_true (by omega)
    have HE := Lib.hid (err_long (s := ⟨nm, ramp, st⟩) hn hb h0 h12)
    go_enter Tryz.func26, Tryz.ntmps26
    go_wp2_with (first | ((with_reducible refine wl_loadM midStg (Ext.range ?_ (Hid.out HR)) ?_ ?_ ?_ ?_); (· with_reducible repeat' (first | exact Ext.refl _ | exact ExtOf.ext _ | refine Ext.trans ?_ (ExtOf.ext _) | refine Ext.alloc ?_ _ | refine Ext.drew ?_ | refine Ext.setCell ?_ ?_ _ | refine Ext.setRow ?_ ?_ _ | exact HX.out | refine Ext.trans ?_ HX.out | omega | (simp; done) | (simp; omega))); (· rfl); (· (first | exact wanted_none rfl | exact wanted_some rfl rfl rfl)); (· rfl)) | ((with_reducible apply wl_store' lwStg); (· (first | exact wanted_none rfl | exact wanted_some rfl rfl rfl)); (· rfl); (· rfl); (· infer_instance); (· rfl); (· rfl); (· (simp [Value.oneCell', SlT.v])); try simp only [setRow_alloc, setRow_new, setRow_new1, setRow_new2, setRow_new11, setRow_new111]) | ((with_reducible apply wl_load' lwStg); (· (first | exact wanted_none rfl | exact wanted_some rfl rfl rfl)); (· rfl); (· infer_instance); (· rfl)) | (go_at_call 49; refine (risName_any _ _).mono ?_; rintro e w' ⟨rfl, rfl⟩) | (go_at_call 54; refine (from37_any _ _ _ _).mono ?_; rintro e w' ⟨rfl, rfl⟩))
    go_ret
    exact ⟨ret_int HE.out.symm, by exact ExtOf.of (by with_reducible repeat' (first | exact Ext.refl _ | exact ExtOf.ext _ | refine Ext.trans ?_ (ExtOf.ext _) | refine Ext.alloc ?_ _ | refine Ext.drew ?_ | refine Ext.setCell ?_ ?_ _ | refine Ext.setRow ?_ ?_ _ | exact HX.out | refine Ext.trans ?_ HX.out | omega | (simp; done) | (simp; omega)))⟩
  have q4 : decide (12 < (st.length : Int)) = false := decide_eq_false (by omega)
  have HE := Lib.hid (err_scan (s := ⟨nm, ramp, st⟩) hn hb h0 h12)
  go_enter Tryz.func26, Tryz.ntmps26
  go_wp2_with (first | ((with_reducible refine wl_loadM midStg (Ext.range ?_ (Hid.out HR)) ?_ ?_ ?_ ?_); (· with_reducible repeat' (first | exact Ext.refl _ | exact ExtOf.ext _ | refine Ext.trans ?_ (ExtOf.ext _) | refine Ext.alloc ?_ _ | refine Ext.drew ?_ | refine Ext.setCell ?_ ?_ _ | refine Ext.setRow ?_ ?_ _ | exact HX.out | refine Ext.trans ?_ HX.out | omega | (simp; done) | (simp; omega))); (· rfl); (· (first | exact wanted_none rfl | exact wanted_some rfl rfl rfl)); (· rfl)) | ((with_reducible apply wl_store' lwStg); (· (first | exact wanted_none rfl | exact wanted_some rfl rfl rfl)); (· rfl); (· rfl); (· infer_instance); (· rfl); (· rfl); (· (simp [Value.oneCell', SlT.v])); try simp only [setRow_alloc, setRow_new, setRow_new1, setRow_new2, setRow_new11, setRow_new111]) | ((with_reducible apply wl_load' lwStg); (· (first | exact wanted_none rfl | exact wanted_some rfl rfl rfl)); (· rfl); (· infer_instance); (· rfl)) | (go_at_call 49; refine (risName_any _ _).mono ?_; rintro e w' ⟨rfl, rfl⟩) | (go_at_call 54; refine (from37_any _ _ _ _).mono ?_; rintro e w' ⟨rfl, rfl⟩))
  have hb0 : Block (w.alloc (.cells #[.string nm, .int .i64 ramp, .slice q st.length cap] 45)) w.heap.size #[.string nm, .int .i64 ramp, .slice q st.length cap] := inferInstance
  obtain ⟨g, hg⟩ : ∃ g, g = w.heap.size := ⟨_, rfl⟩
  rw [← hg] at hb0 ⊢
  clear hg
  go_loopw [3] (fun vi wr => ∃ k : Nat, k ≤ st.length ∧ vi = .int .i64 k ∧ scanAt stgE st 0 = scanAt stgE st k ∧ Ext w wr ∧ Block wr g #[.string nm, .int .i64 ramp, .slice q st.length cap]) (fun i _ => st.length - (intOf i).toNat)
  case atStart => exact ⟨0, by omega, rfl, rfl, by with_reducible repeat' (first | exact Ext.refl _ | exact ExtOf.ext _ | refine Ext.trans ?_ (ExtOf.ext _) | refine Ext.alloc ?_ _ | refine Ext.drew ?_ | refine Ext.setCell ?_ ?_ _ | refine Ext.setRow ?_ ?_ _ | exact HX.out | refine Ext.trans ?_ HX.out | omega | (simp; done) | (simp; omega)), hb0⟩
  case round =>
    clear hb0
    obtain ⟨k, hk, rfl, hd, hx, hbk⟩ := hrel
    have HX := Lib.hid hx
    have HD := Lib.hid hd
    have obk := hbk.old
    clear hx hd
    by_cases hlt : k < st.length
    · obtain ⟨b, off, rfl, ob, hr⟩ := SliceOf.elemO (SliceOf.ext H.out HX.out) hlt (by decide) (encStg_len _)
      have HF := Lib.hid (fun e => scanAt_bad stgE st hlt (e := e))
      have HG := Lib.hid (scanAt_ok stgE st hlt)
      obtain ⟨⟨be, ti, te, de⟩, he⟩ : ∃ z, z = st[k] := ⟨_, rfl⟩
      rw [← he] at hr HF HG
      clear he
      have HR : Hid (wr.rangeAt b (off + k * 4) [.int .i64 be, .int .i64 ti, .int .i64 te, .int .i64 de]) := Lib.hid hr
      clear hr
      rcases b1 : betw be 0 20000 with _ | _
      · have HB := Lib.hid (HF.out 9 (stgE_bad (by unfold Stg.ok; simp [b1])) (by decide))
        go_upto_region 13 with (first | ((with_reducible refine wl_loadM midStg (Ext.range ?_ (Hid.out HR)) ?_ ?_ ?_ ?_); (· with_reducible repeat' (first | exact Ext.refl _ | exact ExtOf.ext _ | refine Ext.trans ?_ (ExtOf.ext _) | refine Ext.alloc ?_ _ | refine Ext.drew ?_ | refine Ext.setCell ?_ ?_ _ | refine Ext.setRow ?_ ?_ _ | exact HX.out | refine Ext.trans ?_ HX.out | omega | (simp; done) | (simp; omega))); (· rfl); (· (first | exact wanted_none rfl | exact wanted_some rfl rfl rfl)); (· rfl)) | ((with_reducible apply wl_store' lwStg); (· (first | exact wanted_none rfl | exact wanted_some rfl rfl rfl)); (· rfl); (· rfl); (· infer_instance); (· rfl); (· rfl); (· (simp [Value.oneCell', SlT.v])); try simp only [setRow_alloc, setRow_new, setRow_new1, setRow_new2, setRow_new11, setRow_new111]))
        go_wp2_with ((go_at_call 54; refine (from37_any _ _ _ _).mono ?_; rintro e w' ⟨rfl, rfl⟩))
        go_ret
        exact ⟨ret_int (by rw [HE.out, HD.out, HB.out]), ExtOf.of (HX.out.trans (by with_reducible repeat' (first | exact Ext.refl _ | exact ExtOf.ext _ | refine Ext.trans ?_ (ExtOf.ext _) | refine Ext.alloc ?_ _ | refine Ext.drew ?_ | refine Ext.setCell ?_ ?_ _ | refine Ext.setRow ?_ ?_ _ | exact HX.out | refine Ext.trans ?_ HX.out | omega | (simp; done) | (simp; omega))))⟩
      rcases b2 : betw ti 0 10000 with _ | _
      · have HB := Lib.hid (HF.out 9 (stgE_bad (by unfold Stg.ok; simp [b1, b2])) (by decide))
        go_upto_region 13 with (first | ((with_reducible refine wl_loadM midStg (Ext.range ?_ (Hid.out HR)) ?_ ?_ ?_ ?_); (· with_reducible repeat' (first | exact Ext.refl _ | exact ExtOf.ext _ | refine Ext.trans ?_ (ExtOf.ext _) | refine Ext.alloc ?_ _ | refine Ext.drew ?_ | refine Ext.setCell ?_ ?_ _ | refine Ext.setRow ?_ ?_ _ | exact HX.out | refine Ext.trans ?_ HX.out | omega | (simp; done) | (simp; omega))); (· rfl); (· (first | exact wanted_none rfl | exact wanted_some rfl rfl rfl)); (· rfl)) | ((with_reducible apply wl_store' lwStg); (· (first | exact wanted_none rfl | exact wanted_some rfl rfl rfl)); (· rfl); (· rfl); (· infer_instance); (· rfl); (· rfl); (· (simp [Value.oneCell', SlT.v])); try simp only [setRow_alloc, setRow_new, setRow_new1, setRow_new2, setRow_new11, setRow_new111]))
        go_wp2_with ((go_at_call 54; refine (from37_any _ _ _ _).mono ?_; rintro e w' ⟨rfl, rfl⟩))
        go_ret
        exact ⟨ret_int (by rw [HE.out, HD.out, HB.out]), ExtOf.of (HX.out.trans (by with_reducible repeat' (first | exact Ext.refl _ | exact ExtOf.ext _ | refine Ext.trans ?_ (ExtOf.ext _) | refine Ext.alloc ?_ _ | refine Ext.drew ?_ | refine Ext.setCell ?_ ?_ _ | refine Ext.setRow ?_ ?_ _ | exact HX.out | refine Ext.trans ?_ HX.out | omega | (simp; done) | (simp; omega))))⟩
      rcases q5 : (be == 0) with _ | _
      · have z5 : Hid (¬ be = 0) := Lib.hid (beq_eq_false_iff_ne.1 q5)
        rcases b3 : betw te 200 1200 with _ | _
        · have HB := Lib.hid (HF.out 9 (stgE_bad (by unfold Stg.ok; simp [b1, b2, b3])) (by decide))
          go_upto_region 13 with (first | ((with_reducible refine wl_loadM midStg (Ext.range ?_ (Hid.out HR)) ?_ ?_ ?_ ?_); (· with_reducible repeat' (first | exact Ext.refl _ | exact ExtOf.ext _ | refine Ext.trans ?_ (ExtOf.ext _) | refine Ext.alloc ?_ _ | refine Ext.drew ?_ | refine Ext.setCell ?_ ?_ _ | refine Ext.setRow ?_ ?_ _ | exact HX.out | refine Ext.trans ?_ HX.out | omega | (simp; done) | (simp; omega))); (· rfl); (· (first | exact wanted_none rfl | exact wanted_some rfl rfl rfl)); (· rfl)) | ((with_reducible apply wl_store' lwStg); (· (first | exact wanted_none rfl | exact wanted_some rfl rfl rfl)); (· rfl); (· rfl); (· infer_instance); (· rfl); (· rfl); (· (simp [Value.oneCell', SlT.v])); try simp only [setRow_alloc, setRow_new, setRow_new1, setRow_new2, setRow_new11, setRow_new111]))
          go_wp2_with ((go_at_call 54; refine (from37_any _ _ _ _).mono ?_; rintro e w' ⟨rfl, rfl⟩))
          go_ret
          exact ⟨ret_int (by rw [HE.out, HD.out, HB.out]), ExtOf.of (HX.out.trans (by with_reducible repeat' (first | exact Ext.refl _ | exact ExtOf.ext _ | refine Ext.trans ?_ (ExtOf.ext _) | refine Ext.alloc ?_ _ | refine Ext.drew ?_ | refine Ext.setCell ?_ ?_ _ | refine Ext.setRow ?_ ?_ _ | exact HX.out | refine Ext.trans ?_ HX.out | omega | (simp; done) | (simp; omega))))⟩
        rcases b4 : betw de 0 400 with _ | _
        · have HB := Lib.hid (HF.out 9 (stgE_bad (by unfold Stg.ok; simp [b1, b2, b3, b4])) (by decide))
          go_upto_region 13 with (first | ((with_reducible refine wl_loadM midStg (Ext.range ?_ (Hid.out HR)) ?_ ?_ ?_ ?_); (· with_reducible repeat' (first | exact Ext.refl _ | exact ExtOf.ext _ | refine Ext.trans ?_ (ExtOf.ext _) | refine Ext.alloc ?_ _ | refine Ext.drew ?_ | refine Ext.setCell ?_ ?_ _ | refine Ext.setRow ?_ ?_ _ | exact HX.out | refine Ext.trans ?_ HX.out | omega | (simp; done) | (simp; omega))); (· rfl); (· (first | exact wanted_none rfl | exact wanted_some rfl rfl rfl)); (· rfl)) | ((with_reducible apply wl_store' lwStg); (· (first | exact wanted_none rfl | exact wanted_some rfl rfl rfl)); (· rfl); (· rfl); (· infer_instance); (· rfl); (· rfl); (· (simp [Value.oneCell', SlT.v])); try simp only [setRow_alloc, setRow_new, setRow_new1, setRow_new2, setRow_new11, setRow_new111]))
          go_wp2_with ((go_at_call 54; refine (from37_any _ _ _ _).mono ?_; rintro e w' ⟨rfl, rfl⟩))
          go_ret
          exact ⟨ret_int (by rw [HE.out, HD.out, HB.out]), ExtOf.of (HX.out.trans (by with_reducible repeat' (first | exact Ext.refl _ | exact ExtOf.ext _ | refine Ext.trans ?_ (ExtOf.ext _) | refine Ext.alloc ?_ _ | refine Ext.drew ?_ | refine Ext.setCell ?_ ?_ _ | refine Ext.setRow ?_ ?_ _ | exact HX.out | refine Ext.trans ?_ HX.out | omega | (simp; done) | (simp; omega))))⟩
        have HN := Lib.hid (HG.out (stgE_ok (by unfold Stg.ok; simp [b1, b2, b3, b4, z5.out])))
        go_upto_region 13 with (first | ((with_reducible refine wl_loadM midStg (Ext.range ?_ (Hid.out HR)) ?_ ?_ ?_ ?_); (· with_reducible repeat' (first | exact Ext.refl _ | exact ExtOf.ext _ | refine Ext.trans ?_ (ExtOf.ext _) | refine Ext.alloc ?_ _ | refine Ext.drew ?_ | refine Ext.setCell ?_ ?_ _ | refine Ext.setRow ?_ ?_ _ | exact HX.out | refine Ext.trans ?_ HX.out | omega | (simp; done) | (simp; omega))); (· rfl); (· (first | exact wanted_none rfl | exact wanted_some rfl rfl rfl)); (· rfl)) | ((with_reducible apply wl_store' lwStg); (· (first | exact wanted_none rfl | exact wanted_some rfl rfl rfl)); (· rfl); (· rfl); (· infer_instance); (· rfl); (· rfl); (· (simp [Value.oneCell', SlT.v])); try simp only [setRow_alloc, setRow_new, setRow_new1, setRow_new2, setRow_new11, setRow_new111]))
        go_wp2_with ((go_at_call 54; refine (from37_any _ _ _ _).mono ?_; rintro e w' ⟨rfl, rfl⟩))
        go_roundw
        case rel => exact ⟨k + 1, by omega, by first | rfl | go_num, HD.out.trans HN.out, HX.out.trans (by with_reducible repeat' (first | exact Ext.refl _ | exact ExtOf.ext _ | refine Ext.trans ?_ (ExtOf.ext _) | refine Ext.alloc ?_ _ | refine Ext.drew ?_ | refine Ext.setCell ?_ ?_ _ | refine Ext.setRow ?_ ?_ _ | exact HX.out | refine Ext.trans ?_ HX.out | omega | (simp; done) | (simp; omega))), inferInstance⟩
        case measure => simp [intOf]; omega
      · have z5 : Hid (be = 0) := Lib.hid (beq_iff_eq.1 q5)
        rcases q6 : (ti == 0) with _ | _
        · have z6 : Hid (¬ ti = 0) := Lib.hid (beq_eq_false_iff_ne.1 q6)
          rcases b3 : betw te 200 1200 with _ | _
          · have HB := Lib.hid (HF.out 9 (stgE_bad (by unfold Stg.ok; simp [b1, b2, b3])) (by decide))
            go_upto_region 13 with (first | ((with_reducible refine wl_loadM midStg (Ext.range ?_ (Hid.out HR)) ?_ ?_ ?_ ?_); (· with_reducible repeat' (first | exact Ext.refl _ | exact ExtOf.ext _ | refine Ext.trans ?_ (ExtOf.ext _) | refine Ext.alloc ?_ _ | refine Ext.drew ?_ | refine Ext.setCell ?_ ?_ _ | refine Ext.setRow ?_ ?_ _ | exact HX.out | refine Ext.trans ?_ HX.out | omega | (simp; done) | (simp; omega))); (· rfl); (· (first | exact wanted_none rfl | exact wanted_some rfl rfl rfl)); (· rfl)) | ((with_reducible apply wl_store' lwStg); (· (first | exact wanted_none rfl | exact wanted_some rfl rfl rfl)); (· rfl); (· rfl); (· infer_instance); (· rfl); (· rfl); (· (simp [Value.oneCell', SlT.v])); try simp only [setRow_alloc, setRow_new, setRow_new1, setRow_new2, setRow_new11, setRow_new111]))
            go_wp2_with ((go_at_call 54; refine (from37_any _ _ _ _).mono ?_; rintro e w' ⟨rfl, rfl⟩))
            go_ret
            exact ⟨ret_int (by rw [HE.out, HD.out, HB.out]), ExtOf.of (HX.out.trans (by with_reducible repeat' (first | exact Ext.refl _ | exact ExtOf.ext _ | refine Ext.trans ?_ (ExtOf.ext _) | refine Ext.alloc ?_ _ | refine Ext.drew ?_ | refine Ext.setCell ?_ ?_ _ | refine Ext.setRow ?_ ?_ _ | exact HX.out | refine Ext.trans ?_ HX.out | omega | (simp; done) | (simp; omega))))⟩
          rcases b4 : betw de 0 400 with _ | _
          · have HB := Lib.hid (HF.out 9 (stgE_bad (by unfold Stg.ok; simp [b1, b2, b3, b4])) (by decide))
            go_upto_region 13 with (first | ((with_reducible refine wl_loadM midStg (Ext.range ?_ (Hid.out HR)) ?_ ?_ ?_ ?_); (· with_reducible repeat' (first | exact Ext.refl _ | exact ExtOf.ext _ | refine Ext.trans ?_ (ExtOf.ext _) | refine Ext.alloc ?_ _ | refine Ext.drew ?_ | refine Ext.setCell ?_ ?_ _ | refine Ext.setRow ?_ ?_ _ | exact HX.out | refine Ext.trans ?_ HX.out | omega | (simp; done) | (simp; omega))); (· rfl); (· (first | exact wanted_none rfl | exact wanted_some rfl rfl rfl)); (· rfl)) | ((with_reducible apply wl_store' lwStg); (· (first | exact wanted_none rfl | exact wanted_some rfl rfl rfl)); (· rfl); (· rfl); (· infer_instance); (· rfl); (· rfl); (· (simp [Value.oneCell', SlT.v])); try simp only [setRow_alloc, setRow_new, setRow_new1, setRow_new2, setRow_new11, setRow_new111]))
            go_wp2_with ((go_at_call 54; refine (from37_any _ _ _ _).mono ?_; rintro e w' ⟨rfl, rfl⟩))
            go_ret
            exact ⟨ret_int (by rw [HE.out, HD.out, HB.out]), ExtOf.of (HX.out.trans (by with_reducible repeat' (first | exact Ext.refl _ | exact ExtOf.ext _ | refine Ext.trans ?_ (ExtOf.ext _) | refine Ext.alloc ?_ _ | refine Ext.drew ?_ | refine Ext.setCell ?_ ?_ _ | refine Ext.setRow ?_ ?_ _ | exact HX.out | refine Ext.trans ?_ HX.out | omega | (simp; done) | (simp; omega))))⟩
          have HN := Lib.hid (HG.out (stgE_ok (by unfold Stg.ok; simp [b1, b2, b3, b4, z6.out])))
          go_upto_region 13 with (first | ((with_reducible refine wl_loadM midStg (Ext.range ?_ (Hid.out HR)) ?_ ?_ ?_ ?_); (· with_reducible repeat' (first | exact Ext.refl _ | exact ExtOf.ext _ | refine Ext.trans ?_ (ExtOf.ext _) | refine Ext.alloc ?_ _ | refine Ext.drew ?_ | refine Ext.setCell ?_ ?_ _ | refine Ext.setRow ?_ ?_ _ | exact HX.out | refine Ext.trans ?_ HX.out | omega | (simp; done) | (simp; omega))); (· rfl); (· (first | exact wanted_none rfl | exact wanted_some rfl rfl rfl)); (· rfl)) | ((with_reducible apply wl_store' lwStg); (· (first | exact wanted_none rfl | exact wanted_some rfl rfl rfl)); (· rfl); (· rfl); (· infer_instance); (· rfl); (· rfl); (· (simp [Value.oneCell', SlT.v])); try simp only [setRow_alloc, setRow_new, setRow_new1, setRow_new2, setRow_new11, setRow_new111]))
          go_wp2_with ((go_at_call 54; refine (from37_any _ _ _ _).mono ?_; rintro e w' ⟨rfl, rfl⟩))
          go_roundw
          case rel => exact ⟨k + 1, by omega, by first | rfl | go_num, HD.out.trans HN.out, HX.out.trans (by with_reducible repeat' (first | exact Ext.refl _ | exact ExtOf.ext _ | refine Ext.trans ?_ (ExtOf.ext _) | refine Ext.alloc ?_ _ | refine Ext.drew ?_ | refine Ext.setCell ?_ ?_ _ | refine Ext.setRow ?_ ?_ _ | exact HX.out | refine Ext.trans ?_ HX.out | omega | (simp; done) | (simp; omega))), inferInstance⟩
          case measure => simp [intOf]; omega
        · have z6 : Hid (ti = 0) := Lib.hid (beq_iff_eq.1 q6)
          have HB := Lib.hid (HF.out 9 (stgE_bad (by unfold Stg.ok; simp [z5.out, z6.out])) (by decide))
          go_upto_region 13 with (first | ((with_reducible refine wl_loadM midStg (Ext.range ?_ (Hid.out HR)) ?_ ?_ ?_ ?_); (· with_reducible repeat' (first | exact Ext.refl _ | exact ExtOf.ext _ | refine Ext.trans ?_ (ExtOf.ext _) | refine Ext.alloc ?_ _ | refine Ext.drew ?_ | refine Ext.setCell ?_ ?_ _ | refine Ext.setRow ?_ ?_ _ | exact HX.out | refine Ext.trans ?_ HX.out | omega | (simp; done) | (simp; omega))); (· rfl); (· (first | exact wanted_none rfl | exact wanted_some rfl rfl rfl)); (· rfl)) | ((with_reducible apply wl_store' lwStg); (· (first | exact wanted_none rfl | exact wanted_some rfl rfl rfl)); (· rfl); (· rfl); (· infer_instance); (· rfl); (· rfl); (· (simp [Value.oneCell', SlT.v])); try simp only [setRow_alloc, setRow_new, setRow_new1, setRow_new2, setRow_new11, setRow_new111]))
          go_wp2_with ((go_at_call 54; refine (from37_any _ _ _ _).mono ?_; rintro e w' ⟨rfl, rfl⟩))
          go_ret
          exact ⟨ret_int (by rw [HE.out, HD.out, HB.out]), ExtOf.of (HX.out.trans (by with_reducible repeat' (first | exact Ext.refl _ | exact ExtOf.ext _ | refine Ext.trans ?_ (ExtOf.ext _) | refine Ext.alloc ?_ _ | refine Ext.drew ?_ | refine Ext.setCell ?_ ?_ _ | refine Ext.setRow ?_ ?_ _ | exact HX.out | refine Ext.trans ?_ HX.out | omega | (simp; done) | (simp; omega))))⟩
    · obtain rfl : k = st.length := by omega
      have HT : Hid (scanAt stgE st st.length = 0) := Lib.hid (scanAt_end _ _ (Nat.le_refl _))
      go_wp2_with fail
      go_ret
      exact ⟨ret_int (by rw [HE.out, HD.out, HT.out]), ExtOf.of HX.out⟩
end Go.Proofs.YteokijolhbohaaaGreatDoor
end
