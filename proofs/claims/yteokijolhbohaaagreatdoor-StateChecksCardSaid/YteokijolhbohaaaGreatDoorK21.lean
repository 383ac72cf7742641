/-
  Chapter 59: several texts in one (S21, S22, S23).
-/
import Derived.Test.YteokijolhbohaaaGreatDoorK18
import Derived.Test.YteokijolhbohaaaGreatDoorS20
/-
  Chapter 59: grading tables.
-/
section
set_option linter.unusedVariables false
set_option linter.unusedSimpArgs false
namespace Go.Proofs.YteokijolhbohaaaGreatDoor
open Go.RowKit StM

attribute [local go_sem] ExtOf.cell ExtOf.frozen Block.cell Block.frozen ExtB.cell ExtB.frozen alloc_cell alloc_frozen
/-- the error of a condition -/
def condE (nms : List ByteArray) (x : EX) : Int := if visitE nms 8 x = 0 then (if isCond x.op = true then 0 else 27) else visitE nms 8 x
def ruE (nms : List ByteArray) (_ : List RuP) (r : RuP) : Int := if r.1 < 0 ∨ 9 < r.1 then 26 else condE nms r.2
def rulesE (nms : List ByteArray) (l : List RuP) : Int := if 32 < l.length then 4 else scanAt (ruE nms) l 0
theorem visit8 (nms : List ByteArray) (pn : Option Addr) (cn : Nat) (x : EX) (w : World) (hx : ExD 8 w x) (hn : StrS w (.slice pn nms.length cn) nms) :
    Calls Tryz.prog 82 #[.agg #[.int .i64 x.op, .int .i64 x.num, .string x.nm, x.hd.v], .slice pn nms.length cn, .int .i64 1] w fun e w' => e = .returned (.int .i64 (visitE nms 8 x)) ∧ ∃ n : ExtOf w, w' = n.val := visit_any nms pn cn 8 (Nat.le_refl _) x w hx hn
theorem rvisit8 (nms : List ByteArray) (pn : Option Addr) (cn : Nat) (x : EX) (w : World) (hx : ExD 8 w x) (hn : StrS w (.slice pn nms.length cn) nms) :
    Calls Tryz.prog 87 #[.agg #[.int .i64 x.op, .int .i64 x.num, .string x.nm, x.hd.v], .slice pn nms.length cn, .int .i64 1] w fun e w' => e = .returned (.int .i64 (visitE nms 8 x)) ∧ ∃ n : ExtOf w, w' = n.val := rvisit_any nms pn cn 8 (Nat.le_refl _) x w hx hn
set_option maxHeartbeats 1600000 in
set_option maxRecDepth 20000 in
theorem ruCheck_any (nms : List ByteArray) (pn : Option Addr) (cn : Nat) (x : EX) (w : World) (hx : ExD 8 w x) (hn : StrS w (.slice pn nms.length cn) nms) :
    Calls Tryz.prog 44 #[.agg #[.int .i64 x.op, .int .i64 x.num, .string x.nm, x.hd.v], .slice pn nms.length cn] w fun e w' => e = .returned (.int .i64 (condE nms x)) ∧ ∃ n : ExtOf w, w' = n.val := by
  obtain ⟨op, num, nm, ⟨q, n, cap⟩, args⟩ := x
  unfold SlT.v
  simp only [EX.op, EX.num, EX.nm, EX.hd]
  have HX := Lib.hid hx
  have HN := Lib.hid hn
  clear hx hn
  by_cases h0 : visitE nms 8 ⟨op, num, nm, ⟨q, n, cap⟩, args⟩ = 0
  · have h1 : (visitE nms 8 ⟨op, num, nm, ⟨q, n, cap⟩, args⟩ != 0) = false := bne_eq_false_iff_eq.2 h0
    have H0 := Lib.hid h0
    clear h0
    rcases hc : isCond op with _ | _
    · have HE : Hid (condE nms ⟨op, num, nm, ⟨q, n, cap⟩, args⟩ = 27) := Lib.hid (by unfold condE; rw [if_pos H0.out, if_neg (by simp [EX.op, hc])])
      go_enter Tryz.func44, Tryz.ntmps44
      go_wp2_with (first | ((with_reducible apply wl_load' lwEx); (· (first | exact wanted_none rfl | exact wanted_some rfl rfl rfl)); (· rfl); (· infer_instance); (· rfl)) | (go_at_call 82; refine (visit8 nms pn cn ⟨op, num, nm, ⟨q, n, cap⟩, args⟩ _ (HX.out.ext (by repeat' (first | (with_reducible exact Ext.refl _) | (with_reducible exact ExtOf.ext _) | (with_reducible refine Ext.trans ?_ (ExtOf.ext _)) | (with_reducible refine Ext.alloc ?_ _) | (with_reducible refine Ext.drew ?_)))) (SliceOf.ext HN.out (by repeat' (first | (with_reducible exact Ext.refl _) | (with_reducible exact ExtOf.ext _) | (with_reducible refine Ext.trans ?_ (ExtOf.ext _)) | (with_reducible refine Ext.alloc ?_ _) | (with_reducible refine Ext.drew ?_))))).mono ?_; rintro e w' ⟨rfl, nn, rfl⟩) | (go_at_call 83; refine (isCondition_any _ _).mono ?_; rintro e w' ⟨rfl, rfl⟩))
      go_ret
      exact ⟨ret_int HE.out.symm, ExtOf.of (by repeat' (first | (with_reducible exact Ext.refl _) | (with_reducible exact ExtOf.ext _) | (with_reducible refine Ext.trans ?_ (ExtOf.ext _)) | (with_reducible refine Ext.alloc ?_ _) | (with_reducible refine Ext.drew ?_)))⟩
    · have HE : Hid (condE nms ⟨op, num, nm, ⟨q, n, cap⟩, args⟩ = 0) := Lib.hid (by unfold condE; rw [if_pos H0.out, if_pos (by simp [EX.op, hc])])
      go_enter Tryz.func44, Tryz.ntmps44
      go_wp2_with (first | ((with_reducible apply wl_load' lwEx); (· (first | exact wanted_none rfl | exact wanted_some rfl rfl rfl)); (· rfl); (· infer_instance); (· rfl)) | (go_at_call 82; refine (visit8 nms pn cn ⟨op, num, nm, ⟨q, n, cap⟩, args⟩ _ (HX.out.ext (by repeat' (first | (with_reducible exact Ext.refl _) | (with_reducible exact ExtOf.ext _) | (with_reducible refine Ext.trans ?_ (ExtOf.ext _)) | (with_reducible refine Ext.alloc ?_ _) | (with_reducible refine Ext.drew ?_)))) (SliceOf.ext HN.out (by repeat' (first | (with_reducible exact Ext.refl _) | (with_reducible exact ExtOf.ext _) | (with_reducible refine Ext.trans ?_ (ExtOf.ext _)) | (with_reducible refine Ext.alloc ?_ _) | (with_reducible refine Ext.drew ?_))))).mono ?_; rintro e w' ⟨rfl, nn, rfl⟩) | (go_at_call 83; refine (isCondition_any _ _).mono ?_; rintro e w' ⟨rfl, rfl⟩))
      go_ret
      exact ⟨ret_int HE.out.symm, ExtOf.of (by repeat' (first | (with_reducible exact Ext.refl _) | (with_reducible exact ExtOf.ext _) | (with_reducible refine Ext.trans ?_ (ExtOf.ext _)) | (with_reducible refine Ext.alloc ?_ _) | (with_reducible refine Ext.drew ?_)))⟩
  · have h1 : (visitE nms 8 ⟨op, num, nm, ⟨q, n, cap⟩, args⟩ != 0) = true := bne_iff_ne.2 h0
    have HE : Hid (condE nms ⟨op, num, nm, ⟨q, n, cap⟩, args⟩ = visitE nms 8 ⟨op, num, nm, ⟨q, n, cap⟩, args⟩) := Lib.hid (by unfold condE; rw [if_neg h0])
    clear h0
    go_enter Tryz.func44, Tryz.ntmps44
    go_wp2_with (first | ((with_reducible apply wl_load' lwEx); (· (first | exact wanted_none rfl | exact wanted_some rfl rfl rfl)); (· rfl); (· infer_instance); (· rfl)) | (go_at_call 82; refine (visit8 nms pn cn ⟨op, num, nm, ⟨q, n, cap⟩, args⟩ _ (HX.out.ext (by repeat' (first | (with_reducible exact Ext.refl _) | (with_reducible exact ExtOf.ext _) | (with_reducible refine Ext.trans ?_ (ExtOf.ext _)) | (with_reducible refine Ext.alloc ?_ _) | (with_reducible refine Ext.drew ?_)))) (SliceOf.ext HN.out (by repeat' (first | (with_reducible exact Ext.refl _) | (with_reducible exact ExtOf.ext _) | (with_reducible refine Ext.trans ?_ (ExtOf.ext _)) | (with_reducible refine Ext.alloc ?_ _) | (with_reducible refine Ext.drew ?_))))).mono ?_; rintro e w' ⟨rfl, nn, rfl⟩))
    go_ret
    exact ⟨ret_int HE.out.symm, ExtOf.of (by repeat' (first | (with_reducible exact Ext.refl _) | (with_reducible exact ExtOf.ext _) | (with_reducible refine Ext.trans ?_ (ExtOf.ext _)) | (with_reducible refine Ext.alloc ?_ _) | (with_reducible refine Ext.drew ?_)))⟩
set_option maxHeartbeats 1600000 in
set_option maxRecDepth 20000 in
theorem rruCheck_any (nms : List ByteArray) (pn : Option Addr) (cn : Nat) (x : EX) (w : World) (hx : ExD 8 w x) (hn : StrS w (.slice pn nms.length cn) nms) :
    Calls Tryz.prog 53 #[.agg #[.int .i64 x.op, .int .i64 x.num, .string x.nm, x.hd.v], .slice pn nms.length cn] w fun e w' => e = .returned (.int .i64 (condE nms x)) ∧ ∃ n : ExtOf w, w' = n.val := by
  obtain ⟨op, num, nm, ⟨q, n, cap⟩, args⟩ := x
  unfold SlT.v
  simp only [EX.op, EX.num, EX.nm, EX.hd]
  have HX := Lib.hid hx
  have HN := Lib.hid hn
  clear hx hn
  by_cases h0 : visitE nms 8 ⟨op, num, nm, ⟨q, n, cap⟩, args⟩ = 0
  · have h1 : (visitE nms 8 ⟨op, num, nm, ⟨q, n, cap⟩, args⟩ != 0) = false := bne_eq_false_iff_eq.2 h0
    have H0 := Lib.hid h0
    clear h0
    rcases hc : isCond op with _ | _
    · have HE : Hid (condE nms ⟨op, num, nm, ⟨q, n, cap⟩, args⟩ = 27) := Lib.hid (by unfold condE; rw [if_pos H0.out, if_neg (by simp [EX.op, hc])])
      go_enter Tryz.func53, Tryz.ntmps53
      go_wp2_with (first | ((with_reducible apply wl_load' lwEx); (· (first | exact wanted_none rfl | exact wanted_some rfl rfl rfl)); (· rfl); (· infer_instance); (· rfl)) | (go_at_call 87; refine (rvisit8 nms pn cn ⟨op, num, nm, ⟨q, n, cap⟩, args⟩ _ (HX.out.ext (by repeat' (first | (with_reducible exact Ext.refl _) | (with_reducible exact ExtOf.ext _) | (with_reducible refine Ext.trans ?_ (ExtOf.ext _)) | (with_reducible refine Ext.alloc ?_ _) | (with_reducible refine Ext.drew ?_)))) (SliceOf.ext HN.out (by repeat' (first | (with_reducible exact Ext.refl _) | (with_reducible exact ExtOf.ext _) | (with_reducible refine Ext.trans ?_ (ExtOf.ext _)) | (with_reducible refine Ext.alloc ?_ _) | (with_reducible refine Ext.drew ?_))))).mono ?_; rintro e w' ⟨rfl, nn, rfl⟩) | (go_at_call 88; refine (rcondition_any _ _).mono ?_; rintro e w' ⟨rfl, rfl⟩))
      go_ret
      exact ⟨ret_int HE.out.symm, ExtOf.of (by repeat' (first | (with_reducible exact Ext.refl _) | (with_reducible exact ExtOf.ext _) | (with_reducible refine Ext.trans ?_ (ExtOf.ext _)) | (with_reducible refine Ext.alloc ?_ _) | (with_reducible refine Ext.drew ?_)))⟩
    · have HE : Hid (condE nms ⟨op, num, nm, ⟨q, n, cap⟩, args⟩ = 0) := Lib.hid (by unfold condE; rw [if_pos H0.out, if_pos (by simp [EX.op, hc])])
      go_enter Tryz.func53, Tryz.ntmps53
      go_wp2_with (first | ((with_reducible apply wl_load' lwEx); (· (first | exact wanted_none rfl | exact wanted_some rfl rfl rfl)); (· rfl); (· infer_instance); (· rfl)) | (go_at_call 87; refine (rvisit8 nms pn cn ⟨op, num, nm, ⟨q, n, cap⟩, args⟩ _ (HX.out.ext (by repeat' (first | (with_reducible exact Ext.refl _) | (with_reducible exact ExtOf.ext _) | (with_reducible refine Ext.trans ?_ (ExtOf.ext _)) | (with_reducible refine Ext.alloc ?_ _) | (with_reducible refine Ext.drew ?_)))) (SliceOf.ext HN.out (by repeat' (first | (with_reducible exact Ext.refl _) | (with_reducible exact ExtOf.ext _) | (with_reducible refine Ext.trans ?_ (ExtOf.ext _)) | (with_reducible refine Ext.alloc ?_ _) | (with_reducible refine Ext.drew ?_))))).mono ?_; rintro e w' ⟨rfl, nn, rfl⟩) | (go_at_call 88; refine (rcondition_any _ _).mono ?_; rintro e w' ⟨rfl, rfl⟩))
      go_ret
      exact ⟨ret_int HE.out.symm, ExtOf.of (by repeat' (first | (with_reducible exact Ext.refl _) | (with_reducible exact ExtOf.ext _) | (with_reducible refine Ext.trans ?_ (ExtOf.ext _)) | (with_reducible refine Ext.alloc ?_ _) | (with_reducible refine Ext.drew ?_)))⟩
  · have h1 : (visitE nms 8 ⟨op, num, nm, ⟨q, n, cap⟩, args⟩ != 0) = true := bne_iff_ne.2 h0
    have HE : Hid (condE nms ⟨op, num, nm, ⟨q, n, cap⟩, args⟩ = visitE nms 8 ⟨op, num, nm, ⟨q, n, cap⟩, args⟩) := Lib.hid (by unfold condE; rw [if_neg h0])
    clear h0
    go_enter Tryz.func53, Tryz.ntmps53
    go_wp2_with (first | ((with_reducible apply wl_load' lwEx); (· (first | exact wanted_none rfl | exact wanted_some rfl rfl rfl)); (· rfl); (· infer_instance); (· rfl)) | (go_at_call 87; refine (rvisit8 nms pn cn ⟨op, num, nm, ⟨q, n, cap⟩, args⟩ _ (HX.out.ext (by repeat' (first | (with_reducible exact Ext.refl _) | (with_reducible exact ExtOf.ext _) | (with_reducible refine Ext.trans ?_ (ExtOf.ext _)) | (with_reducible refine Ext.alloc ?_ _) | (with_reducible refine Ext.drew ?_)))) (SliceOf.ext HN.out (by repeat' (first | (with_reducible exact Ext.refl _) | (with_reducible exact ExtOf.ext _) | (with_reducible refine Ext.trans ?_ (ExtOf.ext _)) | (with_reducible refine Ext.alloc ?_ _) | (with_reducible refine Ext.drew ?_))))).mono ?_; rintro e w' ⟨rfl, nn, rfl⟩))
    go_ret
    exact ⟨ret_int HE.out.symm, ExtOf.of (by repeat' (first | (with_reducible exact Ext.refl _) | (with_reducible exact ExtOf.ext _) | (with_reducible refine Ext.trans ?_ (ExtOf.ext _)) | (with_reducible refine Ext.alloc ?_ _) | (with_reducible refine Ext.drew ?_)))⟩
end Go.Proofs.YteokijolhbohaaaGreatDoor
end
/-
  Chapter 59: grading tables are checked.
-/
section
set_option linter.unusedVariables false
set_option linter.unusedSimpArgs false
namespace Go.Proofs.YteokijolhbohaaaGreatDoor
open Go.RowKit StM

attribute [local go_sem] ExtOf.cell ExtOf.frozen Block.cell Block.frozen ExtB.cell ExtB.frozen alloc_cell alloc_frozen
theorem ru_grade {nms : List ByteArray} {a : List RuP} {r : RuP} (h : r.1 < 0 ∨ 9 < r.1) : ruE nms a r = 26 := by unfold ruE; rw [if_pos h]
theorem ru_cond {nms : List ByteArray} {a : List RuP} {r : RuP} (h : ¬ (r.1 < 0 ∨ 9 < r.1)) : ruE nms a r = condE nms r.2 := by unfold ruE; rw [if_neg h]
set_option maxHeartbeats 1600000 in
set_option maxRecDepth 20000 in
theorem checkRules_any (nms : List ByteArray) (pn : Option Addr) (cn : Nat) (l : List RuP) (v : Value) (w : World) (h : RuS w v l) (hn : StrS w (.slice pn nms.length cn) nms) :
    Calls Tryz.prog 17 #[v, .slice pn nms.length cn] w fun e w' => e = .returned (.int .i64 (rulesE nms l)) ∧ ∃ n : ExtOf w, w' = n.val := by
  obtain ⟨p, cap, rfl, hc1, hc2, hc3⟩ := SliceOf.form h.1
  unfold maxLen at hc2
  have H := Lib.hid h.1
  have HA := Lib.hid h.2
  have HN := Lib.hid hn
  clear h hn
  by_cases h16 : 32 < l.length
  · have q1 : decide (32 < (l.length : Int)) = true := decide_eq_true (by omega)
    have HE : Hid (rulesE nms l = 4) := Lib.hid (by unfold rulesE; rw [if_pos h16])
    go_enter Tryz.func17, Tryz.ntmps17
    go_wp2_with fail
    go_ret
    exact ⟨ret_int HE.out.symm, by exact ExtOf.of (by with_reducible repeat' (first | exact Ext.refl _ | exact ExtOf.ext _ | refine Ext.trans ?_ (ExtOf.ext _) | refine Ext.alloc ?_ _ | refine Ext.drew ?_ | refine Ext.setCell ?_ ?_ _ | refine Ext.setRow ?_ ?_ _ | exact HX.out | refine Ext.trans ?_ HX.out | omega | (simp; done) | (simp; omega)))⟩
  have q1 : decide (32 < (l.length : Int)) = false := decide_eq_false (by omega)
  have HE : Hid (rulesE nms l = scanAt (ruE nms) l 0) := Lib.hid (by unfold rulesE; rw [if_neg h16])
  go_enter Tryz.func17, Tryz.ntmps17
  go_wp2_with fail
  go_loopw [13] (fun vi wr => ∃ k : Nat, k ≤ l.length ∧ vi = .int .i64 k ∧ scanAt (ruE nms) l 0 = scanAt (ruE nms) l k ∧ Ext w wr) (fun i _ => l.length - (intOf i).toNat)
  case atStart => exact ⟨0, by omega, rfl, rfl, Ext.refl _⟩
  case round =>
    obtain ⟨k, hk, rfl, hd, hx⟩ := hrel
    have HX := Lib.hid hx
    have HD := Lib.hid hd
    clear hx hd
    by_cases hlt : k < l.length
    · obtain ⟨b, off, rfl, ob, hr⟩ := SliceOf.elemO (SliceOf.ext H.out HX.out) hlt (by decide) (encRu_len _)
      have hda := HA.out _ (List.getElem_mem hlt)
      have HF := Lib.hid (fun e => scanAt_bad (ruE nms) l hlt (e := e))
      have HG := Lib.hid (scanAt_ok (ruE nms) l hlt)
      obtain ⟨⟨gr, ⟨op, num, nm, hd, args⟩⟩, he⟩ : ∃ z, z = l[k] := ⟨_, rfl⟩
      rw [← he] at hr hda HF HG
      clear he
      have HDA : Hid (ExD 8 wr ⟨op, num, nm, hd, args⟩) := Lib.hid ((hda.le (by decide)).ext HX.out)
      have HR : Hid (wr.rangeAt b (off + k * 5) [.int .i64 gr, .int .i64 op, .int .i64 num, .string nm, hd.v]) := Lib.hid hr
      clear hr hda
      by_cases a1 : gr < 0
      · have HB := Lib.hid (HF.out 26 (ru_grade (.inl a1)) (by decide))
        have qa : decide (gr < 0) = true := decide_eq_true a1
        go_wp2_with (first | ((with_reducible refine wl_loadM midRu (Ext.range ?_ (Hid.out HR)) ?_ ?_ ?_ ?_); (· with_reducible repeat' (first | exact Ext.refl _ | exact ExtOf.ext _ | refine Ext.trans ?_ (ExtOf.ext _) | refine Ext.alloc ?_ _ | refine Ext.drew ?_ | refine Ext.setCell ?_ ?_ _ | refine Ext.setRow ?_ ?_ _ | exact HX.out | refine Ext.trans ?_ HX.out | omega | (simp; done) | (simp; omega))); (· rfl); (· (first | exact wanted_none rfl | exact wanted_some rfl rfl rfl)); (· rfl)) | ((with_reducible apply wl_store' lwRu); (· (first | exact wanted_none rfl | exact wanted_some rfl rfl rfl)); (· rfl); (· rfl); (· infer_instance); (· rfl); (· rfl); (· (simp [Value.oneCell', SlT.v])); try simp only [setRow_alloc, setRow_new, setRow_new1, setRow_new2, setRow_new11, setRow_new111]))
        go_ret
        exact ⟨ret_int (by rw [HE.out, HD.out, HB.out]), ExtOf.of (HX.out.trans (by with_reducible repeat' (first | exact Ext.refl _ | exact ExtOf.ext _ | refine Ext.trans ?_ (ExtOf.ext _) | refine Ext.alloc ?_ _ | refine Ext.drew ?_ | refine Ext.setCell ?_ ?_ _ | refine Ext.setRow ?_ ?_ _ | exact HX.out | refine Ext.trans ?_ HX.out | omega | (simp; done) | (simp; omega))))⟩
      have qa : decide (gr < 0) = false := decide_eq_false a1
      by_cases a2 : 9 < gr
      · have HB := Lib.hid (HF.out 26 (ru_grade (.inr a2)) (by decide))
        have qb : decide (9 < gr) = true := decide_eq_true a2
        go_wp2_with (first | ((with_reducible refine wl_loadM midRu (Ext.range ?_ (Hid.out HR)) ?_ ?_ ?_ ?_); (· with_reducible repeat' (first | exact Ext.refl _ | exact ExtOf.ext _ | refine Ext.trans ?_ (ExtOf.ext _) | refine Ext.alloc ?_ _ | refine Ext.drew ?_ | refine Ext.setCell ?_ ?_ _ | refine Ext.setRow ?_ ?_ _ | exact HX.out | refine Ext.trans ?_ HX.out | omega | (simp; done) | (simp; omega))); (· rfl); (· (first | exact wanted_none rfl | exact wanted_some rfl rfl rfl)); (· rfl)) | ((with_reducible apply wl_store' lwRu); (· (first | exact wanted_none rfl | exact wanted_some rfl rfl rfl)); (· rfl); (· rfl); (· infer_instance); (· rfl); (· rfl); (· (simp [Value.oneCell', SlT.v])); try simp only [setRow_alloc, setRow_new, setRow_new1, setRow_new2, setRow_new11, setRow_new111]))
        go_ret
        exact ⟨ret_int (by rw [HE.out, HD.out, HB.out]), ExtOf.of (HX.out.trans (by with_reducible repeat' (first | exact Ext.refl _ | exact ExtOf.ext _ | refine Ext.trans ?_ (ExtOf.ext _) | refine Ext.alloc ?_ _ | refine Ext.drew ?_ | refine Ext.setCell ?_ ?_ _ | refine Ext.setRow ?_ ?_ _ | exact HX.out | refine Ext.trans ?_ HX.out | omega | (simp; done) | (simp; omega))))⟩
      have qb : decide (9 < gr) = false := decide_eq_false a2
      have HC : Hid (ruE nms (l.take k) (gr, ⟨op, num, nm, hd, args⟩) = condE nms ⟨op, num, nm, hd, args⟩) := Lib.hid (ru_cond (by simp only; omega))
      clear a1 a2
      by_cases h0 : condE nms ⟨op, num, nm, hd, args⟩ = 0
      · have h1 : (condE nms ⟨op, num, nm, hd, args⟩ != 0) = false := bne_eq_false_iff_eq.2 h0
        have HNX := Lib.hid (HG.out (HC.out.trans h0))
        clear h0
        go_wp2_with (first | (first | ((with_reducible refine wl_loadM midRu (Ext.range ?_ (Hid.out HR)) ?_ ?_ ?_ ?_); (· with_reducible repeat' (first | exact Ext.refl _ | exact ExtOf.ext _ | refine Ext.trans ?_ (ExtOf.ext _) | refine Ext.alloc ?_ _ | refine Ext.drew ?_ | refine Ext.setCell ?_ ?_ _ | refine Ext.setRow ?_ ?_ _ | exact HX.out | refine Ext.trans ?_ HX.out | omega | (simp; done) | (simp; omega))); (· rfl); (· (first | exact wanted_none rfl | exact wanted_some rfl rfl rfl)); (· rfl)) | ((with_reducible apply wl_store' lwRu); (· (first | exact wanted_none rfl | exact wanted_some rfl rfl rfl)); (· rfl); (· rfl); (· infer_instance); (· rfl); (· rfl); (· (simp [Value.oneCell', SlT.v])); try simp only [setRow_alloc, setRow_new, setRow_new1, setRow_new2, setRow_new11, setRow_new111])) | (first | ((with_reducible apply wl_loadB midEx); (· (first | exact wanted_none rfl | exact wanted_some rfl rfl rfl)); (· rfl); (· infer_instance); (· rfl); (· rfl)) | (go_at_call 44; refine (ruCheck_any nms pn cn ⟨op, num, nm, hd, args⟩ _ (HDA.out.ext (by with_reducible repeat' (first | exact Ext.refl _ | exact ExtOf.ext _ | refine Ext.trans ?_ (ExtOf.ext _) | refine Ext.alloc ?_ _ | refine Ext.drew ?_ | refine Ext.setCell ?_ ?_ _ | refine Ext.setRow ?_ ?_ _ | exact HX.out | refine Ext.trans ?_ HX.out | omega | (simp; done) | (simp; omega)))) (SliceOf.ext HN.out (HX.out.trans (by with_reducible repeat' (first | exact Ext.refl _ | exact ExtOf.ext _ | refine Ext.trans ?_ (ExtOf.ext _) | refine Ext.alloc ?_ _ | refine Ext.drew ?_ | refine Ext.setCell ?_ ?_ _ | refine Ext.setRow ?_ ?_ _ | exact HX.out | refine Ext.trans ?_ HX.out | omega | (simp; done) | (simp; omega)))))).mono ?_; rintro e w' ⟨rfl, nn, rfl⟩)))
        go_roundw
        case rel => exact ⟨k + 1, by omega, by first | rfl | go_num, HD.out.trans HNX.out, HX.out.trans (by with_reducible repeat' (first | exact Ext.refl _ | exact ExtOf.ext _ | refine Ext.trans ?_ (ExtOf.ext _) | refine Ext.alloc ?_ _ | refine Ext.drew ?_ | refine Ext.setCell ?_ ?_ _ | refine Ext.setRow ?_ ?_ _ | exact HX.out | refine Ext.trans ?_ HX.out | omega | (simp; done) | (simp; omega)))⟩
        case measure => simp [intOf]; omega
      · have h1 : (condE nms ⟨op, num, nm, hd, args⟩ != 0) = true := bne_iff_ne.2 h0
        have HB := Lib.hid (HF.out _ HC.out h0)
        clear h0
        go_wp2_with (first | (first | ((with_reducible refine wl_loadM midRu (Ext.range ?_ (Hid.out HR)) ?_ ?_ ?_ ?_); (· with_reducible repeat' (first | exact Ext.refl _ | exact ExtOf.ext _ | refine Ext.trans ?_ (ExtOf.ext _) | refine Ext.alloc ?_ _ | refine Ext.drew ?_ | refine Ext.setCell ?_ ?_ _ | refine Ext.setRow ?_ ?_ _ | exact HX.out | refine Ext.trans ?_ HX.out | omega | (simp; done) | (simp; omega))); (· rfl); (· (first | exact wanted_none rfl | exact wanted_some rfl rfl rfl)); (· rfl)) | ((with_reducible apply wl_store' lwRu); (· (first | exact wanted_none rfl | exact wanted_some rfl rfl rfl)); (· rfl); (· rfl); (· infer_instance); (· rfl); (· rfl); (· (simp [Value.oneCell', SlT.v])); try simp only [setRow_alloc, setRow_new, setRow_new1, setRow_new2, setRow_new11, setRow_new111])) | (first | ((with_reducible apply wl_loadB midEx); (· (first | exact wanted_none rfl | exact wanted_some rfl rfl rfl)); (· rfl); (· infer_instance); (· rfl); (· rfl)) | (go_at_call 44; refine (ruCheck_any nms pn cn ⟨op, num, nm, hd, args⟩ _ (HDA.out.ext (by with_reducible repeat' (first | exact Ext.refl _ | exact ExtOf.ext _ | refine Ext.trans ?_ (ExtOf.ext _) | refine Ext.alloc ?_ _ | refine Ext.drew ?_ | refine Ext.setCell ?_ ?_ _ | refine Ext.setRow ?_ ?_ _ | exact HX.out | refine Ext.trans ?_ HX.out | omega | (simp; done) | (simp; omega)))) (SliceOf.ext HN.out (HX.out.trans (by with_reducible repeat' (first | exact Ext.refl _ | exact ExtOf.ext _ | refine Ext.trans ?_ (ExtOf.ext _) | refine Ext.alloc ?_ _ | refine Ext.drew ?_ | refine Ext.setCell ?_ ?_ _ | refine Ext.setRow ?_ ?_ _ | exact HX.out | refine Ext.trans ?_ HX.out | omega | (simp; done) | (simp; omega)))))).mono ?_; rintro e w' ⟨rfl, nn, rfl⟩)))
        go_ret
        exact ⟨ret_int (by rw [HE.out, HD.out, HB.out]), ExtOf.of (HX.out.trans (by with_reducible repeat' (first | exact Ext.refl _ | exact ExtOf.ext _ | refine Ext.trans ?_ (ExtOf.ext _) | refine Ext.alloc ?_ _ | refine Ext.drew ?_ | refine Ext.setCell ?_ ?_ _ | refine Ext.setRow ?_ ?_ _ | exact HX.out | refine Ext.trans ?_ HX.out | omega | (simp; done) | (simp; omega))))⟩
    · obtain rfl : k = l.length := by omega
      have HT : Hid (scanAt (ruE nms) l l.length = 0) := Lib.hid (scanAt_end _ _ (Nat.le_refl _))
      go_wp2_with fail
      go_ret
      exact ⟨ret_int (by rw [HE.out, HD.out, HT.out]), ExtOf.of HX.out⟩
set_option maxHeartbeats 1600000 in
set_option maxRecDepth 20000 in
theorem rcheckRules_any (nms : List ByteArray) (pn : Option Addr) (cn : Nat) (l : List RuP) (v : Value) (w : World) (h : RuS w v l) (hn : StrS w (.slice pn nms.length cn) nms) :
    Calls Tryz.prog 24 #[v, .slice pn nms.length cn] w fun e w' => e = .returned (.int .i64 (rulesE nms l)) ∧ ∃ n : ExtOf w, w' = n.val := by
  obtain ⟨p, cap, rfl, hc1, hc2, hc3⟩ := SliceOf.form h.1
  unfold maxLen at hc2
  have H := Lib.hid h.1
  have HA := Lib.hid h.2
  have HN := Lib.hid hn
  clear h hn
  by_cases h16 : 32 < l.length
  · have q1 : decide (32 < (l.length : Int)) = true := decide_eq_true (by omega)
    have HE : Hid (rulesE nms l = 4) := Lib.hid (by unfold rulesE; rw [if_pos h16])
    go_enter Tryz.func24, Tryz.ntmps24
    go_wp2_with fail
    go_ret
    exact ⟨ret_int HE.out.symm, by exact ExtOf.of (by with_reducible repeat' (first | exact Ext.refl _ | exact ExtOf.ext _ | refine Ext.trans ?_ (ExtOf.ext _) | refine Ext.alloc ?_ _ | refine Ext.drew ?_ | refine Ext.setCell ?_ ?_ _ | refine Ext.setRow ?_ ?_ _ | exact HX.out | refine Ext.trans ?_ HX.out | omega | (simp; done) | (simp; omega)))⟩
  have q1 : decide (32 < (l.length : Int)) = false := decide_eq_false (by omega)
  have HE : Hid (rulesE nms l = scanAt (ruE nms) l 0) := Lib.hid (by unfold rulesE; rw [if_neg h16])
  go_enter Tryz.func24, Tryz.ntmps24
  go_wp2_with fail
  go_loopw [5] (fun vi wr => ∃ k : Nat, k ≤ l.length ∧ vi = .int .i64 k ∧ scanAt (ruE nms) l 0 = scanAt (ruE nms) l k ∧ Ext w wr) (fun i _ => l.length - (intOf i).toNat)
  case atStart => exact ⟨0, by omega, rfl, rfl, Ext.refl _⟩
  case round =>
    obtain ⟨k, hk, rfl, hd, hx⟩ := hrel
    have HX := Lib.hid hx
    have HD := Lib.hid hd
    clear hx hd
    by_cases hlt : k < l.length
    · obtain ⟨b, off, rfl, ob, hr⟩ := SliceOf.elemO (SliceOf.ext H.out HX.out) hlt (by decide) (encRu_len _)
      have hda := HA.out _ (List.getElem_mem hlt)
      have HF := Lib.hid (fun e => scanAt_bad (ruE nms) l hlt (e := e))
      have HG := Lib.hid (scanAt_ok (ruE nms) l hlt)
      obtain ⟨⟨gr, ⟨op, num, nm, hd, args⟩⟩, he⟩ : ∃ z, z = l[k] := ⟨_, rfl⟩
      rw [← he] at hr hda HF HG
      clear he
      have HDA : Hid (ExD 8 wr ⟨op, num, nm, hd, args⟩) := Lib.hid ((hda.le (by decide)).ext HX.out)
      have HR : Hid (wr.rangeAt b (off + k * 5) [.int .i64 gr, .int .i64 op, .int .i64 num, .string nm, hd.v]) := Lib.hid hr
      have hcn : wr.cell? ⟨b, off + k * 5, none⟩ = some (.int .i64 gr) := by simpa using hr 0 (.int .i64 gr) rfl
      have HR2 : Hid (wr.rangeAt b (off + k * 5 + 1) [.int .i64 op, .int .i64 num, .string nm, hd.v]) := Lib.hid fun j u hj => by
        have := hr (j + 1) u hj
        rw [show off + k * 5 + 1 + j = off + k * 5 + (j + 1) by omega]
        exact this
      clear hr hda
      by_cases a1 : gr < 0
      · have HB := Lib.hid (HF.out 26 (ru_grade (.inl a1)) (by decide))
        have qa : decide (gr < 0) = true := decide_eq_true a1
        go_wp2_with fail
        go_ret
        exact ⟨ret_int (by rw [HE.out, HD.out, HB.out]), ExtOf.of (HX.out.trans (by with_reducible repeat' (first | exact Ext.refl _ | exact ExtOf.ext _ | refine Ext.trans ?_ (ExtOf.ext _) | refine Ext.alloc ?_ _ | refine Ext.drew ?_ | refine Ext.setCell ?_ ?_ _ | refine Ext.setRow ?_ ?_ _ | exact HX.out | refine Ext.trans ?_ HX.out | omega | (simp; done) | (simp; omega))))⟩
      have qa : decide (gr < 0) = false := decide_eq_false a1
      by_cases a2 : 9 < gr
      · have HB := Lib.hid (HF.out 26 (ru_grade (.inr a2)) (by decide))
        have qb : decide (9 < gr) = true := decide_eq_true a2
        go_wp2_with fail
        go_ret
        exact ⟨ret_int (by rw [HE.out, HD.out, HB.out]), ExtOf.of (HX.out.trans (by with_reducible repeat' (first | exact Ext.refl _ | exact ExtOf.ext _ | refine Ext.trans ?_ (ExtOf.ext _) | refine Ext.alloc ?_ _ | refine Ext.drew ?_ | refine Ext.setCell ?_ ?_ _ | refine Ext.setRow ?_ ?_ _ | exact HX.out | refine Ext.trans ?_ HX.out | omega | (simp; done) | (simp; omega))))⟩
      have qb : decide (9 < gr) = false := decide_eq_false a2
      have HC : Hid (ruE nms (l.take k) (gr, ⟨op, num, nm, hd, args⟩) = condE nms ⟨op, num, nm, hd, args⟩) := Lib.hid (ru_cond (by simp only; omega))
      clear a1 a2
      by_cases h0 : condE nms ⟨op, num, nm, hd, args⟩ = 0
      · have h1 : (condE nms ⟨op, num, nm, hd, args⟩ != 0) = false := bne_eq_false_iff_eq.2 h0
        have HNX := Lib.hid (HG.out (HC.out.trans h0))
        clear h0
        go_wp2_with (first | ((with_reducible refine wl_loadM midEx (Ext.range ?_ (Hid.out HR2)) ?_ ?_ ?_ ?_); (· with_reducible repeat' (first | exact Ext.refl _ | exact ExtOf.ext _ | refine Ext.trans ?_ (ExtOf.ext _) | refine Ext.alloc ?_ _ | refine Ext.drew ?_ | refine Ext.setCell ?_ ?_ _ | refine Ext.setRow ?_ ?_ _ | exact HX.out | refine Ext.trans ?_ HX.out | omega | (simp; done) | (simp; omega))); (· rfl); (· (first | exact wanted_none rfl | exact wanted_some rfl rfl rfl)); (· rfl)) | (go_at_call 53; refine (rruCheck_any nms pn cn ⟨op, num, nm, hd, args⟩ _ (HDA.out.ext (by with_reducible repeat' (first | exact Ext.refl _ | exact ExtOf.ext _ | refine Ext.trans ?_ (ExtOf.ext _) | refine Ext.alloc ?_ _ | refine Ext.drew ?_ | refine Ext.setCell ?_ ?_ _ | refine Ext.setRow ?_ ?_ _ | exact HX.out | refine Ext.trans ?_ HX.out | omega | (simp; done) | (simp; omega)))) (SliceOf.ext HN.out (HX.out.trans (by with_reducible repeat' (first | exact Ext.refl _ | exact ExtOf.ext _ | refine Ext.trans ?_ (ExtOf.ext _) | refine Ext.alloc ?_ _ | refine Ext.drew ?_ | refine Ext.setCell ?_ ?_ _ | refine Ext.setRow ?_ ?_ _ | exact HX.out | refine Ext.trans ?_ HX.out | omega | (simp; done) | (simp; omega)))))).mono ?_; rintro e w' ⟨rfl, nn, rfl⟩))
        go_roundw
        case rel => exact ⟨k + 1, by omega, by first | rfl | go_num, HD.out.trans HNX.out, HX.out.trans (by with_reducible repeat' (first | exact Ext.refl _ | exact ExtOf.ext _ | refine Ext.trans ?_ (ExtOf.ext _) | refine Ext.alloc ?_ _ | refine Ext.drew ?_ | refine Ext.setCell ?_ ?_ _ | refine Ext.setRow ?_ ?_ _ | exact HX.out | refine Ext.trans ?_ HX.out | omega | (simp; done) | (simp; omega)))⟩
        case measure => simp [intOf]; omega
      · have h1 : (condE nms ⟨op, num, nm, hd, args⟩ != 0) = true := bne_iff_ne.2 h0
        have HB := Lib.hid (HF.out _ HC.out h0)
        clear h0
        go_wp2_with (first | ((with_reducible refine wl_loadM midEx (Ext.range ?_ (Hid.out HR2)) ?_ ?_ ?_ ?_); (· with_reducible repeat' (first | exact Ext.refl _ | exact ExtOf.ext _ | refine Ext.trans ?_ (ExtOf.ext _) | refine Ext.alloc ?_ _ | refine Ext.drew ?_ | refine Ext.setCell ?_ ?_ _ | refine Ext.setRow ?_ ?_ _ | exact HX.out | refine Ext.trans ?_ HX.out | omega | (simp; done) | (simp; omega))); (· rfl); (· (first | exact wanted_none rfl | exact wanted_some rfl rfl rfl)); (· rfl)) | (go_at_call 53; refine (rruCheck_any nms pn cn ⟨op, num, nm, hd, args⟩ _ (HDA.out.ext (by with_reducible repeat' (first | exact Ext.refl _ | exact ExtOf.ext _ | refine Ext.trans ?_ (ExtOf.ext _) | refine Ext.alloc ?_ _ | refine Ext.drew ?_ | refine Ext.setCell ?_ ?_ _ | refine Ext.setRow ?_ ?_ _ | exact HX.out | refine Ext.trans ?_ HX.out | omega | (simp; done) | (simp; omega)))) (SliceOf.ext HN.out (HX.out.trans (by with_reducible repeat' (first | exact Ext.refl _ | exact ExtOf.ext _ | refine Ext.trans ?_ (ExtOf.ext _) | refine Ext.alloc ?_ _ | refine Ext.drew ?_ | refine Ext.setCell ?_ ?_ _ | refine Ext.setRow ?_ ?_ _ | exact HX.out | refine Ext.trans ?_ HX.out | omega | (simp; done) | (simp; omega)))))).mono ?_; rintro e w' ⟨rfl, nn, rfl⟩))
        go_ret
        exact ⟨ret_int (by rw [HE.out, HD.out, HB.out]), ExtOf.of (HX.out.trans (by with_reducible repeat' (first | exact Ext.refl _ | exact ExtOf.ext _ | refine Ext.trans ?_ (ExtOf.ext _) | refine Ext.alloc ?_ _ | refine Ext.drew ?_ | refine Ext.setCell ?_ ?_ _ | refine Ext.setRow ?_ ?_ _ | exact HX.out | refine Ext.trans ?_ HX.out | omega | (simp; done) | (simp; omega))))⟩
    · obtain rfl : k = l.length := by omega
      have HT : Hid (scanAt (ruE nms) l l.length = 0) := Lib.hid (scanAt_end _ _ (Nat.le_refl _))
      go_wp2_with fail
      go_ret
      exact ⟨ret_int (by rw [HE.out, HD.out, HT.out]), ExtOf.of HX.out⟩
end Go.Proofs.YteokijolhbohaaaGreatDoor
end
/-
  Chapter 59: the names of features; the number of parts of an expression.
-/
section
set_option linter.unusedVariables false
set_option linter.unusedSimpArgs false
namespace Go.Proofs.YteokijolhbohaaaGreatDoor
open Go.RowKit StM

attribute [local go_sem] ExtOf.cell ExtOf.frozen Block.cell Block.frozen ExtB.cell ExtB.frozen alloc_cell alloc_frozen
def namesB : List ByteArray := [⟨#[116, 104, 105, 99, 107]⟩, ⟨#[119, 105, 100, 116, 104]⟩, ⟨#[108, 101, 110, 103, 116, 104]⟩, ⟨#[107, 110, 111, 116, 115]⟩, ⟨#[100, 101, 97, 100]⟩, ⟨#[114, 111, 116]⟩, ⟨#[99, 114, 97, 99, 107, 115]⟩, ⟨#[114, 101, 115, 105, 110]⟩, ⟨#[105, 110, 115, 101, 99, 116, 115]⟩, ⟨#[109, 97, 120, 107, 110, 111, 116]⟩, ⟨#[109, 97, 120, 100, 101, 97, 100]⟩, ⟨#[119, 111, 114, 115, 116]⟩, ⟨#[119, 97, 110, 101]⟩, ⟨#[99, 104, 101, 99, 107, 115]⟩, ⟨#[109, 111, 105, 115, 116]⟩, ⟨#[103, 114, 97, 100, 105, 101, 110, 116]⟩, ⟨#[117, 110, 100, 101, 114]⟩, ⟨#[115, 116, 105, 102, 102]⟩]
theorem slice_lit {α : Type} {enc : α → List Value} {k g : Nat} {W : World} {cs : Array Value} {l : List α} (hk : ∀ x, (enc x).length = k) (hB : Block W g cs) (hcs : cs.toList = l.flatMap enc) (hl : l.length ≤ 1000) : SliceOf enc k W (.slice (some ⟨g, 0, none⟩) l.length l.length) l := by
  refine ⟨_, l.length, rfl, Nat.le_refl _, by unfold maxLen; omega, fun h => (by cases h), fun i x hi => ⟨g, 0, rfl, fun j u hj => ?_⟩⟩
  rw [Block.cell (h := hB), Nat.zero_add]
  have := flatMap_get hk hi hj
  rw [← hcs] at this
  simpa using this
/-- what is handed back: the names -/
def NamesRet (w : World) (e : Ending) (w' : World) : Prop := ∃ (p : Option Addr) (c : Nat), e = .returned (.slice p namesB.length c) ∧ StrS w' (.slice p namesB.length c) namesB ∧ ∃ n : ExtOf w, w' = n.val
set_option maxHeartbeats 1600000 in
set_option maxRecDepth 20000 in
theorem names_any (w : World) : Calls Tryz.prog 18 #[] w (NamesRet w) := by
  go_enter Tryz.func18, Tryz.ntmps18
  go_wp2_with fail
  go_ret
  refine ⟨some ⟨w.heap.size, 0, none⟩, 18, rfl, slice_lit (l := namesB) encB_len (Block.new _ _ _) rfl (by decide), by exact ExtOf.of (by with_reducible repeat' (first | exact Ext.refl _ | exact ExtOf.ext _ | refine Ext.trans ?_ (ExtOf.ext _) | refine Ext.alloc ?_ _ | refine Ext.drew ?_ | refine Ext.setCell ?_ ?_ _ | refine Ext.setRow ?_ ?_ _ | exact HX.out | refine Ext.trans ?_ HX.out | omega | (simp; done) | (simp; omega)))⟩
set_option maxHeartbeats 1600000 in
set_option maxRecDepth 20000 in
theorem rnames_any (w : World) : Calls Tryz.prog 25 #[] w (NamesRet w) := by
  go_enter Tryz.func25, Tryz.ntmps25
  go_wp2_with fail
  go_ret
  refine ⟨some ⟨w.heap.size, 0, none⟩, 18, rfl, slice_lit (l := namesB) encB_len (Block.new _ _ _) rfl (by decide), by exact ExtOf.of (by with_reducible repeat' (first | exact Ext.refl _ | exact ExtOf.ext _ | refine Ext.trans ?_ (ExtOf.ext _) | refine Ext.alloc ?_ _ | refine Ext.drew ?_ | refine Ext.setCell ?_ ?_ _ | refine Ext.setRow ?_ ?_ _ | exact HX.out | refine Ext.trans ?_ HX.out | omega | (simp; done) | (simp; omega)))⟩
/-- what is handed back: a number from 1 to a limit -/
def SizeRet (most : Int) (w : World) (e : Ending) (w' : World) : Prop := ∃ r : Int, e = .returned (.int .i64 r) ∧ 1 ≤ r ∧ r ≤ most ∧ ∃ n : ExtOf w, w' = n.val
set_option maxHeartbeats 1600000 in
set_option maxRecDepth 20000 in
theorem size_any : ∀ (d : Nat), d ≤ 1000 → ∀ (m : Nat), 1 ≤ m → m ≤ d → ∀ (x : EX) (w : World), ExD d w x →
    Calls Tryz.prog 8 #[.agg #[.int .i64 x.op, .int .i64 x.num, .string x.nm, x.hd.v], .int .i64 (m : Int)] w (SizeRet m w) := by
  intro d
  induction d with
  | zero => intro _ m h1 h2; omega
  | succ d ih =>
    intro hd m hm1 hm x w hx
    obtain ⟨op, num, nm, ⟨q, n, cap⟩, args⟩ := x
    obtain ⟨hs, ha⟩ := hx
    simp only [EX.hd, EX.args, SlT.v] at hs ha
    unfold SlT.v
    simp only [EX.op, EX.num, EX.nm, EX.hd]
    obtain ⟨q', cap', hq, hc1, hc2, hc3⟩ := SliceOf.form hs
    simp only [Value.slice.injEq] at hq
    obtain ⟨rfl, rfl, rfl⟩ := hq
    unfold maxLen at hc2
    have H := Lib.hid hs
    have HA := Lib.hid ha
    have IH := Lib.hid (ih (by omega))
    clear hs ha ih
    go_enter Tryz.func8, Tryz.ntmps8
    go_wp2_with fail
    have hb0 : Block (w.alloc (.cells #[.int .i64 op, .int .i64 num, .string nm, .slice q args.length cap] 49)) w.heap.size #[.int .i64 op, .int .i64 num, .string nm, .slice q args.length cap] := inferInstance
    obtain ⟨g, hg⟩ : ∃ g, g = w.heap.size := ⟨_, rfl⟩
    rw [← hg] at hb0 ⊢
    clear hg
    go_loopw [5, 6] (fun vr vi wr => ∃ k r : Nat, k ≤ args.length ∧ vi = .int .i64 k ∧ vr = .int .i64 r ∧ 1 ≤ r ∧ r ≤ m ∧ Ext w wr ∧ Block wr g #[.int .i64 op, .int .i64 num, .string nm, .slice q args.length cap]) (fun _ i _ => args.length - (intOf i).toNat)
    case atStart => exact ⟨0, 1, by omega, rfl, rfl, by omega, by omega, by with_reducible repeat' (first | exact Ext.refl _ | exact ExtOf.ext _ | refine Ext.trans ?_ (ExtOf.ext _) | refine Ext.alloc ?_ _ | refine Ext.drew ?_ | refine Ext.setCell ?_ ?_ _ | refine Ext.setRow ?_ ?_ _ | exact HX.out | refine Ext.trans ?_ HX.out | omega | (simp; done) | (simp; omega)), hb0⟩
    case round =>
      clear hb0
      obtain ⟨k, r, hk, rfl, rfl, hr1, hr2, hx, hbk⟩ := hrel
      have HX := Lib.hid hx
      have obk := hbk.old
      clear hx
      by_cases hlt : k < args.length
      · have q1 : decide ((k : Int) < (args.length : Int)) = true := decide_eq_true (by omega)
        by_cases hrm : r < m
        · have q2 : decide ((r : Int) < (m : Int)) = true := decide_eq_true (by omega)
          obtain ⟨b, off, rfl, ob, hr⟩ := SliceOf.elemO (SliceOf.ext H.out HX.out) hlt (by decide) (encEX_len _)
          have hda := HA.out _ (List.getElem_mem hlt)
          obtain ⟨⟨aop, anum, anm, ahd, aargs⟩, he⟩ : ∃ z, z = args[k] := ⟨_, rfl⟩
          rw [← he] at hr hda
          clear he
          have HDA : Hid (ExD d wr ⟨aop, anum, anm, ahd, aargs⟩) := Lib.hid (hda.ext HX.out)
          have HR : Hid (wr.rangeAt b (off + k * 4) [.int .i64 aop, .int .i64 anum, .string anm, ahd.v]) := Lib.hid hr
          clear hr hda
          have hms : (m : Int) - (r : Int) = ((m - r : Nat) : Int) := by omega
          have HC : Hid (∀ W, Ext wr W → Calls Tryz.prog 8 #[.agg #[.int .i64 aop, .int .i64 anum, .string anm, ahd.v], .int .i64 ((m : Int) - (r : Int))] W (SizeRet ((m - r : Nat) : Int) W)) := Lib.hid fun W hW => by
            rw [hms]
            exact IH.out (m - r) (by omega) (by omega) ⟨aop, anum, anm, ahd, aargs⟩ W (HDA.out.ext hW)
          clear hms
          go_wp2_with (first | ((with_reducible refine wl_loadM midEx (Ext.range ?_ (Hid.out HR)) ?_ ?_ ?_ ?_); (· with_reducible repeat' (first | exact Ext.refl _ | exact ExtOf.ext _ | refine Ext.trans ?_ (ExtOf.ext _) | refine Ext.alloc ?_ _ | refine Ext.drew ?_ | refine Ext.setCell ?_ ?_ _ | refine Ext.setRow ?_ ?_ _ | exact HX.out | refine Ext.trans ?_ HX.out | omega | (simp; done) | (simp; omega))); (· rfl); (· (first | exact wanted_none rfl | exact wanted_some rfl rfl rfl)); (· rfl)) | (go_at_call 8; refine (HC.out _ (by with_reducible repeat' (first | exact Ext.refl _ | exact ExtOf.ext _ | refine Ext.trans ?_ (ExtOf.ext _) | refine Ext.alloc ?_ _ | refine Ext.drew ?_ | refine Ext.setCell ?_ ?_ _ | refine Ext.setRow ?_ ?_ _ | exact HX.out | refine Ext.trans ?_ HX.out | omega | (simp; done) | (simp; omega)))).mono ?_; rintro e w' ⟨u, rfl, hu1, hu2, nn, rfl⟩; obtain ⟨t, rfl⟩ : ∃ t : Nat, u = (t : Int) := ⟨u.toNat, by omega⟩))
          go_roundw
          case rel => exact ⟨k + 1, r + t, by omega, by first | rfl | go_num, by first | rfl | go_num, by omega, by omega, HX.out.trans (by with_reducible repeat' (first | exact Ext.refl _ | exact ExtOf.ext _ | refine Ext.trans ?_ (ExtOf.ext _) | refine Ext.alloc ?_ _ | refine Ext.drew ?_ | refine Ext.setCell ?_ ?_ _ | refine Ext.setRow ?_ ?_ _ | exact HX.out | refine Ext.trans ?_ HX.out | omega | (simp; done) | (simp; omega))), inferInstance⟩
          case measure => simp [intOf]; omega
        · have q2 : decide ((r : Int) < (m : Int)) = false := decide_eq_false (by omega)
          go_wp2_with fail
          go_ret
          exact ⟨r, rfl, by omega, by omega, ExtOf.of HX.out⟩
      · have q1 : decide ((k : Int) < (args.length : Int)) = false := decide_eq_false (by omega)
        go_wp2_with fail
        go_ret
        exact ⟨r, rfl, by omega, by omega, ExtOf.of HX.out⟩
end Go.Proofs.YteokijolhbohaaaGreatDoor
end
