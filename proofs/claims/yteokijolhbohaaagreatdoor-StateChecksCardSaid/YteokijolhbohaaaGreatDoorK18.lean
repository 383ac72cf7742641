/-
  Chapter 59: several texts in one (S18, S19).
-/
import Derived.Test.YteokijolhbohaaaGreatDoorK14
import Derived.Deep.DeepCutAuto
/-
  Chapter 59: an expression is visited: what is said of it.
-/
section
set_option linter.unusedVariables false
set_option linter.unusedSimpArgs false
namespace Go.Proofs.YteokijolhbohaaaGreatDoor
open Go.RowKit StM

attribute [local go_sem] ExtOf.cell ExtOf.frozen Block.cell Block.frozen ExtB.cell ExtB.frozen alloc_cell alloc_frozen
/-- the syntax of a node is wrong -/
def synB (x : EX) : Bool := (x.num != 0 && x.op != 1) || (!x.nm.toList.isEmpty && x.op != 2) || ((x.args.length : Int) != StM.takes x.op)
/-- an argument is of the wrong type -/
def typE (op : Int) (_ : List EX) (a : EX) : Int := if (isCond a.op != wants op) = true then 27 else 0
/-- the error of a node behind those of its arguments -/
def selfE (nms : List ByteArray) (x : EX) : Int :=
  if x.op < 1 ∨ 11 < x.op then 10 else if synB x = true then 5 else if (x.op == 2 && !inN x.nm nms) = true then 8 else if (x.op == 1 && !bnd x.num) = true then 9 else scanAt (typE x.op) x.args 0
/-- the error of an expression, so many levels being left -/
def visitE (nms : List ByteArray) : Nat → EX → Int
  | 0, _ => 28
  | d + 1, x => if scanAt (fun _ a => visitE nms d a) x.args 0 = 0 then selfE nms x else scanAt (fun _ a => visitE nms d a) x.args 0
def visF (nms : List ByteArray) (d : Nat) (_ : List EX) (a : EX) : Int := visitE nms d a
theorem visitE_sub {nms : List ByteArray} {d : Nat} {x : EX} {e : Int} (h : scanAt (visF nms d) x.args 0 = e) (h0 : e ≠ 0) : visitE nms (d + 1) x = e := by
  unfold visitE; rw [if_neg (by rw [show scanAt (fun _ a => visitE nms d a) x.args 0 = e from h]; exact h0)]; exact h
theorem visitE_self {nms : List ByteArray} {d : Nat} {x : EX} (h : scanAt (visF nms d) x.args 0 = 0) : visitE nms (d + 1) x = selfE nms x := by
  unfold visitE; exact if_pos h
theorem self_kind {nms : List ByteArray} {x : EX} (h : x.op < 1 ∨ 11 < x.op) : selfE nms x = 10 := by unfold selfE; rw [if_pos h]
theorem self_syn {nms : List ByteArray} {x : EX} (h : ¬ (x.op < 1 ∨ 11 < x.op)) (h2 : synB x = true) : selfE nms x = 5 := by unfold selfE; rw [if_neg h, if_pos h2]
theorem self_none {nms : List ByteArray} {x : EX} (h : ¬ (x.op < 1 ∨ 11 < x.op)) (h2 : synB x = false) (h3 : x.op = 2) (h4 : inN x.nm nms = false) : selfE nms x = 8 := by unfold selfE; rw [if_neg h, if_neg (by rw [h2]; simp), if_pos (by rw [h3, h4]; rfl)]
theorem self_big {nms : List ByteArray} {x : EX} (h : ¬ (x.op < 1 ∨ 11 < x.op)) (h2 : synB x = false) (h3 : x.op = 1) (h4 : bnd x.num = false) : selfE nms x = 9 := by unfold selfE; rw [if_neg h, if_neg (by rw [h2]; simp), if_neg (by rw [h3]; simp), if_pos (by rw [h3, h4]; rfl)]
theorem self_typ {nms : List ByteArray} {x : EX} (h : ¬ (x.op < 1 ∨ 11 < x.op)) (h2 : synB x = false) (h3 : x.op = 2 → inN x.nm nms = true) (h4 : x.op = 1 → bnd x.num = true) : selfE nms x = scanAt (typE x.op) x.args 0 := by
  unfold selfE
  rw [if_neg h, if_neg (by rw [h2]; simp), if_neg ?_, if_neg ?_]
  · intro hc
    simp only [Bool.and_eq_true, beq_iff_eq, Bool.not_eq_true'] at hc
    rw [h4 hc.1] at hc; cases hc.2
  · intro hc
    simp only [Bool.and_eq_true, beq_iff_eq, Bool.not_eq_true'] at hc
    rw [h3 hc.1] at hc; cases hc.2
theorem typ_bad {op : Int} {a : List EX} {x : EX} (h : (isCond x.op != wants op) = true) : typE op a x = 27 := by unfold typE; rw [if_pos h]
theorem typ_ok {op : Int} {a : List EX} {x : EX} (h : (isCond x.op != wants op) = false) : typE op a x = 0 := by unfold typE; rw [if_neg (by rw [h]; simp)]
end Go.Proofs.YteokijolhbohaaaGreatDoor
end
/-
  Chapter 59: an expression is visited.
-/
section
set_option linter.unusedVariables false
set_option linter.unusedSimpArgs false
namespace Go.Proofs.YteokijolhbohaaaGreatDoor
open Go.RowKit StM

attribute [local go_sem] ExtOf.cell ExtOf.frozen Block.cell Block.frozen ExtB.cell ExtB.frozen alloc_cell alloc_frozen
theorem takes_w (op : Int) (w : World) : Calls Tryz.prog 132 #[.int .i64 op] w fun e w' => e = .returned (.int .i64 (StM.takes op)) ∧ ∃ n : ExtOf w, w' = n.val := (takes_any op w).mono fun e w' h => ⟨h.1, ExtOf.of (by rw [h.2]; exact Ext.refl _)⟩
theorem isCondition_w (op : Int) (w : World) : Calls Tryz.prog 83 #[.int .i64 op] w fun e w' => e = .returned (.bool (isCond op)) ∧ ∃ n : ExtOf w, w' = n.val := (isCondition_any op w).mono fun e w' h => ⟨h.1, ExtOf.of (by rw [h.2]; exact Ext.refl _)⟩
theorem takesConditions_w (op : Int) (w : World) : Calls Tryz.prog 135 #[.int .i64 op] w fun e w' => e = .returned (.bool (wants op)) ∧ ∃ n : ExtOf w, w' = n.val := (takesConditions_any op w).mono fun e w' h => ⟨h.1, ExtOf.of (by rw [h.2]; exact Ext.refl _)⟩
set_option maxHeartbeats 3200000 in
set_option maxRecDepth 20000 in
theorem visit_any (nms : List ByteArray) (pn : Option Addr) (cn : Nat) : ∀ (d : Nat), d ≤ 8 → ∀ (x : EX) (w : World), ExD d w x → StrS w (.slice pn nms.length cn) nms →
    Calls Tryz.prog 82 #[.agg #[.int .i64 x.op, .int .i64 x.num, .string x.nm, x.hd.v], .slice pn nms.length cn, .int .i64 (9 - (d : Int))] w fun e w' => e = .returned (.int .i64 (visitE nms d x)) ∧ ∃ n : ExtOf w, w' = n.val := by
  intro d
  induction d with
  | zero =>
    intro _ x w _ hn
    obtain ⟨op, num, nm, ⟨q, n, cap⟩, args⟩ := x
    unfold SlT.v
    simp only [EX.op, EX.num, EX.nm, EX.hd]
    go_enter Tryz.func82, Tryz.ntmps82
    go_wp2_with fail
    go_ret
    exact ⟨rfl, by exact ExtOf.of (by with_reducible repeat' (first | exact Ext.refl _ | exact ExtOf.ext _ | refine Ext.trans ?_ (ExtOf.ext _) | refine Ext.alloc ?_ _ | refine Ext.drew ?_ | refine Ext.setCell ?_ ?_ _ | refine Ext.setRow ?_ ?_ _ | exact HX.out | refine Ext.trans ?_ HX.out | omega | (simp; done) | (simp; omega)))⟩
  | succ d ih =>
    intro hd8 x w hx hn
    obtain ⟨op, num, nm, ⟨q, n, cap⟩, args⟩ := x
    obtain ⟨hs, ha⟩ := hx
    simp only [EX.hd, EX.args, SlT.v] at hs ha
    unfold SlT.v
    simp only [EX.op, EX.num, EX.nm, EX.hd]
    obtain ⟨q', cap', hq, hc1, hc2, hc3⟩ := SliceOf.form hs
    simp only [Value.slice.injEq] at hq
    obtain ⟨rfl, rfl, rfl⟩ := hq
    unfold maxLen at hc2
    have H := Lib.hid hs
    have HA := Lib.hid ha
    have HN := Lib.hid hn
    have HS := Lib.hid (fun e => visitE_sub (nms := nms) (d := d) (x := ⟨op, num, nm, ⟨q, args.length, cap⟩, args⟩) (e := e))
    have HV := Lib.hid (visitE_self (nms := nms) (d := d) (x := ⟨op, num, nm, ⟨q, args.length, cap⟩, args⟩))
    clear hs ha hn
    have hlv : ((9 - ((d + 1 : Nat) : Int))) + 1 = 9 - (d : Int) := by omega
    obtain ⟨lev, hl⟩ : ∃ lev : Int, lev = 9 - ((d + 1 : Nat) : Int) := ⟨_, rfl⟩
    rw [← hl] at hlv ⊢
    have hlb : lev ≤ 8 := by omega
    have hlb2 : 0 < lev := by omega
    have q8 : decide (8 < lev) = false := decide_eq_false (by omega)
    have IH : Hid (∀ (x : EX) (w : World), ExD d w x → StrS w (.slice pn nms.length cn) nms → Calls Tryz.prog 82 #[.agg #[.int .i64 x.op, .int .i64 x.num, .string x.nm, x.hd.v], .slice pn nms.length cn, .int .i64 (lev + 1)] w fun e w' => e = .returned (.int .i64 (visitE nms d x)) ∧ ∃ n : ExtOf w, w' = n.val) := Lib.hid (by rw [hlv]; exact ih (by omega))
    clear ih hl hlv
    go_enter Tryz.func82, Tryz.ntmps82
    go_wp2_with fail
    have hb0 : Block (w.alloc (.cells #[.int .i64 op, .int .i64 num, .string nm, .slice q args.length cap] 49)) w.heap.size #[.int .i64 op, .int .i64 num, .string nm, .slice q args.length cap] := inferInstance
    obtain ⟨g, hg⟩ : ∃ g, g = w.heap.size := ⟨_, rfl⟩
    rw [← hg] at hb0 ⊢
    clear hg
    go_loopw [17] (fun vi wr => ∃ k : Nat, k ≤ args.length ∧ vi = .int .i64 k ∧ scanAt (visF nms d) args 0 = scanAt (visF nms d) args k ∧ Ext w wr ∧ Block wr g #[.int .i64 op, .int .i64 num, .string nm, .slice q args.length cap]) (fun i _ => args.length - (intOf i).toNat)
    case atStart => exact ⟨0, by omega, rfl, rfl, by with_reducible repeat' (first | exact Ext.refl _ | exact ExtOf.ext _ | refine Ext.trans ?_ (ExtOf.ext _) | refine Ext.alloc ?_ _ | refine Ext.drew ?_ | refine Ext.setCell ?_ ?_ _ | refine Ext.setRow ?_ ?_ _ | exact HX.out | refine Ext.trans ?_ HX.out | omega | (simp; done) | (simp; omega)), hb0⟩
    case round =>
      clear hb0
      obtain ⟨k, hk, rfl, hd, hx, hbk⟩ := hrel
      have HX := Lib.hid hx
      have HD := Lib.hid hd
      have obk := hbk.old
      clear hx hd
      by_cases hlt : k < args.length
      · obtain ⟨b, off, rfl, ob, hr⟩ := SliceOf.elemO (SliceOf.ext H.out HX.out) hlt (by decide) (encEX_len _)
        have hda := HA.out _ (List.getElem_mem hlt)
        have HF := Lib.hid (fun e => scanAt_bad (visF nms d) args hlt (e := e))
        have HG := Lib.hid (scanAt_ok (visF nms d) args hlt)
        obtain ⟨⟨aop, anum, anm, ahd, aargs⟩, he⟩ : ∃ z, z = args[k] := ⟨_, rfl⟩
        rw [← he] at hr hda HF HG
        clear he
        have HDA : Hid (ExD d wr ⟨aop, anum, anm, ahd, aargs⟩) := Lib.hid (hda.ext HX.out)
        have HR : Hid (wr.rangeAt b (off + k * 4) [.int .i64 aop, .int .i64 anum, .string anm, ahd.v]) := Lib.hid hr
        clear hr hda
        by_cases h0 : visitE nms d ⟨aop, anum, anm, ahd, aargs⟩ = 0
        · have h1 : (visitE nms d ⟨aop, anum, anm, ahd, aargs⟩ != 0) = false := bne_eq_false_iff_eq.2 h0
          have HNX := Lib.hid (HG.out h0)
          clear h0
          go_wp2_with (first | ((with_reducible refine wl_loadM midEx (Ext.range ?_ (Hid.out HR)) ?_ ?_ ?_ ?_); (· with_reducible repeat' (first | exact Ext.refl _ | exact ExtOf.ext _ | refine Ext.trans ?_ (ExtOf.ext _) | refine Ext.alloc ?_ _ | refine Ext.drew ?_ | refine Ext.setCell ?_ ?_ _ | refine Ext.setRow ?_ ?_ _ | exact HX.out | refine Ext.trans ?_ HX.out | omega | (simp; done) | (simp; omega))); (· rfl); (· (first | exact wanted_none rfl | exact wanted_some rfl rfl rfl)); (· rfl)) | ((with_reducible apply wl_store' lwEx); (· (first | exact wanted_none rfl | exact wanted_some rfl rfl rfl)); (· rfl); (· rfl); (· infer_instance); (· rfl); (· rfl); (· (simp [Value.oneCell', SlT.v])); try simp only [setRow_alloc, setRow_new, setRow_new1, setRow_new2, setRow_new11, setRow_new111]) | ((with_reducible apply wl_load' lwEx); (· (first | exact wanted_none rfl | exact wanted_some rfl rfl rfl)); (· rfl); (· infer_instance); (· rfl)) | (go_at_call 82; refine (IH.out ⟨aop, anum, anm, ahd, aargs⟩ _ (HDA.out.ext (by with_reducible repeat' (first | exact Ext.refl _ | exact ExtOf.ext _ | refine Ext.trans ?_ (ExtOf.ext _) | refine Ext.alloc ?_ _ | refine Ext.drew ?_ | refine Ext.setCell ?_ ?_ _ | refine Ext.setRow ?_ ?_ _ | exact HX.out | refine Ext.trans ?_ HX.out | omega | (simp; done) | (simp; omega)))) (SliceOf.ext HN.out (HX.out.trans (by with_reducible repeat' (first | exact Ext.refl _ | exact ExtOf.ext _ | refine Ext.trans ?_ (ExtOf.ext _) | refine Ext.alloc ?_ _ | refine Ext.drew ?_ | refine Ext.setCell ?_ ?_ _ | refine Ext.setRow ?_ ?_ _ | exact HX.out | refine Ext.trans ?_ HX.out | omega | (simp; done) | (simp; omega)))))).mono ?_; rintro e w' ⟨rfl, nn, rfl⟩))
          go_roundw
          case rel => exact ⟨k + 1, by omega, by first | rfl | go_num, HD.out.trans HNX.out, HX.out.trans (by with_reducible repeat' (first | exact Ext.refl _ | exact ExtOf.ext _ | refine Ext.trans ?_ (ExtOf.ext _) | refine Ext.alloc ?_ _ | refine Ext.drew ?_ | refine Ext.setCell ?_ ?_ _ | refine Ext.setRow ?_ ?_ _ | exact HX.out | refine Ext.trans ?_ HX.out | omega | (simp; done) | (simp; omega))), inferInstance⟩
          case measure => simp [intOf]; omega
        · have h1 : (visitE nms d ⟨aop, anum, anm, ahd, aargs⟩ != 0) = true := bne_iff_ne.2 h0
          have HB := Lib.hid (HS.out _ (HD.out.trans (HF.out _ rfl h0)) h0)
          clear h0
          go_wp2_with (first | ((with_reducible refine wl_loadM midEx (Ext.range ?_ (Hid.out HR)) ?_ ?_ ?_ ?_); (· with_reducible repeat' (first | exact Ext.refl _ | exact ExtOf.ext _ | refine Ext.trans ?_ (ExtOf.ext _) | refine Ext.alloc ?_ _ | refine Ext.drew ?_ | refine Ext.setCell ?_ ?_ _ | refine Ext.setRow ?_ ?_ _ | exact HX.out | refine Ext.trans ?_ HX.out | omega | (simp; done) | (simp; omega))); (· rfl); (· (first | exact wanted_none rfl | exact wanted_some rfl rfl rfl)); (· rfl)) | ((with_reducible apply wl_store' lwEx); (· (first | exact wanted_none rfl | exact wanted_some rfl rfl rfl)); (· rfl); (· rfl); (· infer_instance); (· rfl); (· rfl); (· (simp [Value.oneCell', SlT.v])); try simp only [setRow_alloc, setRow_new, setRow_new1, setRow_new2, setRow_new11, setRow_new111]) | ((with_reducible apply wl_load' lwEx); (· (first | exact wanted_none rfl | exact wanted_some rfl rfl rfl)); (· rfl); (· infer_instance); (· rfl)) | (go_at_call 82; refine (IH.out ⟨aop, anum, anm, ahd, aargs⟩ _ (HDA.out.ext (by with_reducible repeat' (first | exact Ext.refl _ | exact ExtOf.ext _ | refine Ext.trans ?_ (ExtOf.ext _) | refine Ext.alloc ?_ _ | refine Ext.drew ?_ | refine Ext.setCell ?_ ?_ _ | refine Ext.setRow ?_ ?_ _ | exact HX.out | refine Ext.trans ?_ HX.out | omega | (simp; done) | (simp; omega)))) (SliceOf.ext HN.out (HX.out.trans (by with_reducible repeat' (first | exact Ext.refl _ | exact ExtOf.ext _ | refine Ext.trans ?_ (ExtOf.ext _) | refine Ext.alloc ?_ _ | refine Ext.drew ?_ | refine Ext.setCell ?_ ?_ _ | refine Ext.setRow ?_ ?_ _ | exact HX.out | refine Ext.trans ?_ HX.out | omega | (simp; done) | (simp; omega)))))).mono ?_; rintro e w' ⟨rfl, nn, rfl⟩))
          go_ret
          exact ⟨ret_int HB.out.symm, ExtOf.of (HX.out.trans (by with_reducible repeat' (first | exact Ext.refl _ | exact ExtOf.ext _ | refine Ext.trans ?_ (ExtOf.ext _) | refine Ext.alloc ?_ _ | refine Ext.drew ?_ | refine Ext.setCell ?_ ?_ _ | refine Ext.setRow ?_ ?_ _ | exact HX.out | refine Ext.trans ?_ HX.out | omega | (simp; done) | (simp; omega))))⟩
      · obtain rfl : k = args.length := by omega
        have HE : Hid (visitE nms (d + 1) ⟨op, num, nm, ⟨q, args.length, cap⟩, args⟩ = selfE nms ⟨op, num, nm, ⟨q, args.length, cap⟩, args⟩) := Lib.hid (HV.out (HD.out.trans (scanAt_end _ _ (Nat.le_refl _))))
        clear HS HV HD IH
        by_cases a1 : op < 1
        · have HB : Hid (visitE nms (d + 1) ⟨op, num, nm, ⟨q, args.length, cap⟩, args⟩ = 10) := Lib.hid (HE.out.trans (self_kind (.inl a1)))
          have qa : decide (op < 1) = true := decide_eq_true a1
          go_wp2_with (first | (go_at_call 133; refine (contains_any nms _ nm _ (SliceOf.ext HN.out (HX.out.trans (by with_reducible repeat' (first | exact Ext.refl _ | exact ExtOf.ext _ | refine Ext.trans ?_ (ExtOf.ext _) | refine Ext.alloc ?_ _ | refine Ext.drew ?_ | refine Ext.setCell ?_ ?_ _ | refine Ext.setRow ?_ ?_ _ | exact HX.out | refine Ext.trans ?_ HX.out | omega | (simp; done) | (simp; omega)))))).mono ?_; rintro e w' ⟨rfl, nc, rfl⟩) | (go_at_call 134; refine (bounded_any num _).mono ?_; rintro e w' ⟨rfl, rfl⟩))
          go_ret
          exact ⟨ret_int HB.out.symm, ExtOf.of (HX.out.trans (by with_reducible repeat' (first | exact Ext.refl _ | exact ExtOf.ext _ | refine Ext.trans ?_ (ExtOf.ext _) | refine Ext.alloc ?_ _ | refine Ext.drew ?_ | refine Ext.setCell ?_ ?_ _ | refine Ext.setRow ?_ ?_ _ | exact HX.out | refine Ext.trans ?_ HX.out | omega | (simp; done) | (simp; omega))))⟩
        have qa : decide (op < 1) = false := decide_eq_false a1
        by_cases a2 : 11 < op
        · have HB : Hid (visitE nms (d + 1) ⟨op, num, nm, ⟨q, args.length, cap⟩, args⟩ = 10) := Lib.hid (HE.out.trans (self_kind (.inr a2)))
          have qb : decide (11 < op) = true := decide_eq_true a2
          go_wp2_with (first | (go_at_call 133; refine (contains_any nms _ nm _ (SliceOf.ext HN.out (HX.out.trans (by with_reducible repeat' (first | exact Ext.refl _ | exact ExtOf.ext _ | refine Ext.trans ?_ (ExtOf.ext _) | refine Ext.alloc ?_ _ | refine Ext.drew ?_ | refine Ext.setCell ?_ ?_ _ | refine Ext.setRow ?_ ?_ _ | exact HX.out | refine Ext.trans ?_ HX.out | omega | (simp; done) | (simp; omega)))))).mono ?_; rintro e w' ⟨rfl, nc, rfl⟩) | (go_at_call 134; refine (bounded_any num _).mono ?_; rintro e w' ⟨rfl, rfl⟩))
          go_ret
          exact ⟨ret_int HB.out.symm, ExtOf.of (HX.out.trans (by with_reducible repeat' (first | exact Ext.refl _ | exact ExtOf.ext _ | refine Ext.trans ?_ (ExtOf.ext _) | refine Ext.alloc ?_ _ | refine Ext.drew ?_ | refine Ext.setCell ?_ ?_ _ | refine Ext.setRow ?_ ?_ _ | exact HX.out | refine Ext.trans ?_ HX.out | omega | (simp; done) | (simp; omega))))⟩
        have qb : decide (11 < op) = false := decide_eq_false a2
        have hop : ¬ (op < 1 ∨ 11 < op) := by omega
        clear a1 a2
        by_cases o1 : op = 1
        · subst o1
          rcases n0 : (num != 0) with _ | _
          · rcases he : nm.toList.isEmpty with _ | _
            · have HB : Hid (visitE nms (d + 1) ⟨1, num, nm, ⟨q, args.length, cap⟩, args⟩ = 5) := Lib.hid (HE.out.trans (self_syn hop (by unfold synB; simp only [EX.op, EX.num, EX.nm, EX.args, he]; first | rfl | simp)))
              go_wp2_with fail
              refine wp_region_ext (by kernel_rfl) (by kernel_rfl) ?_
              repeat (first | go_big_quiet_skip | go_big_quiet_step ((go_at_call 132; exact ext_call (takes_w _ _))))
              refine wpQuiet_nil ?_
              intro _ hw'
              obtain ⟨nq, hw''⟩ := hw'
              subst hw''
              go_wp2_with (first | (go_at_call 133; refine (contains_any nms _ nm _ (SliceOf.ext HN.out (HX.out.trans (by with_reducible repeat' (first | exact Ext.refl _ | exact ExtOf.ext _ | refine Ext.trans ?_ (ExtOf.ext _) | refine Ext.alloc ?_ _ | refine Ext.drew ?_ | refine Ext.setCell ?_ ?_ _ | refine Ext.setRow ?_ ?_ _ | exact HX.out | refine Ext.trans ?_ HX.out | omega | (simp; done) | (simp; omega)))))).mono ?_; rintro e w' ⟨rfl, nc, rfl⟩) | (go_at_call 134; refine (bounded_any num _).mono ?_; rintro e w' ⟨rfl, rfl⟩))
              go_ret
              exact ⟨ret_int HB.out.symm, ExtOf.of (HX.out.trans (by with_reducible repeat' (first | exact Ext.refl _ | exact ExtOf.ext _ | refine Ext.trans ?_ (ExtOf.ext _) | refine Ext.alloc ?_ _ | refine Ext.drew ?_ | refine Ext.setCell ?_ ?_ _ | refine Ext.setRow ?_ ?_ _ | exact HX.out | refine Ext.trans ?_ HX.out | omega | (simp; done) | (simp; omega))))⟩
            rcases tk : ((args.length : Int) != StM.takes 1) with _ | _
            · have hsyn : Hid (synB ⟨1, num, nm, ⟨q, args.length, cap⟩, args⟩ = false) := Lib.hid (by unfold synB; simp only [EX.op, EX.num, EX.nm, EX.args, he, tk, n0]; simp)
              rcases hbn : bnd num with _ | _
              · have HB : Hid (visitE nms (d + 1) ⟨1, num, nm, ⟨q, args.length, cap⟩, args⟩ = 9) := Lib.hid (HE.out.trans (self_big hop hsyn.out rfl hbn))
                go_wp2_with fail
                refine wp_region_ext (by kernel_rfl) (by kernel_rfl) ?_
                repeat (first | go_big_quiet_skip | go_big_quiet_step ((go_at_call 132; exact ext_call (takes_w _ _))))
                refine wpQuiet_nil ?_
                intro _ hw'
                obtain ⟨nq, hw''⟩ := hw'
                subst hw''
                go_wp2_with (first | (go_at_call 133; refine (contains_any nms _ nm _ (SliceOf.ext HN.out (HX.out.trans (by with_reducible repeat' (first | exact Ext.refl _ | exact ExtOf.ext _ | refine Ext.trans ?_ (ExtOf.ext _) | refine Ext.alloc ?_ _ | refine Ext.drew ?_ | refine Ext.setCell ?_ ?_ _ | refine Ext.setRow ?_ ?_ _ | exact HX.out | refine Ext.trans ?_ HX.out | omega | (simp; done) | (simp; omega)))))).mono ?_; rintro e w' ⟨rfl, nc, rfl⟩) | (go_at_call 134; refine (bounded_any num _).mono ?_; rintro e w' ⟨rfl, rfl⟩))
                go_ret
                exact ⟨ret_int HB.out.symm, ExtOf.of (HX.out.trans (by with_reducible repeat' (first | exact Ext.refl _ | exact ExtOf.ext _ | refine Ext.trans ?_ (ExtOf.ext _) | refine Ext.alloc ?_ _ | refine Ext.drew ?_ | refine Ext.setCell ?_ ?_ _ | refine Ext.setRow ?_ ?_ _ | exact HX.out | refine Ext.trans ?_ HX.out | omega | (simp; done) | (simp; omega))))⟩
              have HT : Hid (visitE nms (d + 1) ⟨1, num, nm, ⟨q, args.length, cap⟩, args⟩ = scanAt (typE 1) args 0) := Lib.hid (HE.out.trans (self_typ hop hsyn.out (fun h => absurd h (by simp [EX.op])) (fun _ => hbn)))
              go_wp2_with fail
              refine wp_region_ext (by kernel_rfl) (by kernel_rfl) ?_
              repeat (first | go_big_quiet_skip | go_big_quiet_step ((go_at_call 132; exact ext_call (takes_w _ _))))
              refine wpQuiet_nil ?_
              intro _ hw'
              obtain ⟨nq, hw''⟩ := hw'
              subst hw''
              go_wp2_with (first | (go_at_call 133; refine (contains_any nms _ nm _ (SliceOf.ext HN.out (HX.out.trans (by with_reducible repeat' (first | exact Ext.refl _ | exact ExtOf.ext _ | refine Ext.trans ?_ (ExtOf.ext _) | refine Ext.alloc ?_ _ | refine Ext.drew ?_ | refine Ext.setCell ?_ ?_ _ | refine Ext.setRow ?_ ?_ _ | exact HX.out | refine Ext.trans ?_ HX.out | omega | (simp; done) | (simp; omega)))))).mono ?_; rintro e w' ⟨rfl, nc, rfl⟩) | (go_at_call 134; refine (bounded_any num _).mono ?_; rintro e w' ⟨rfl, rfl⟩))
              go_loopw [87] (fun vi wz => ∃ k : Nat, k ≤ args.length ∧ vi = .int .i64 k ∧ scanAt (typE 1) args 0 = scanAt (typE 1) args k ∧ Ext w wz ∧ Block wz g #[.int .i64 1, .int .i64 num, .string nm, .slice q args.length cap]) (fun i _ => args.length - (intOf i).toNat)
              case atStart => exact ⟨0, by omega, rfl, rfl, HX.out.trans (by with_reducible repeat' (first | exact Ext.refl _ | exact ExtOf.ext _ | refine Ext.trans ?_ (ExtOf.ext _) | refine Ext.alloc ?_ _ | refine Ext.drew ?_ | refine Ext.setCell ?_ ?_ _ | refine Ext.setRow ?_ ?_ _ | exact HX.out | refine Ext.trans ?_ HX.out | omega | (simp; done) | (simp; omega))), inferInstance⟩
              case round =>
                obtain ⟨k, hk, rfl, hd, hx, hbk⟩ := hrel
                have HX := Lib.hid hx
                have HD := Lib.hid hd
                have obk := hbk.old
                clear hx hd
                by_cases hlt : k < args.length
                · obtain ⟨b, off, rfl, ob, hr⟩ := SliceOf.elemO (SliceOf.ext H.out HX.out) hlt (by decide) (encEX_len _)
                  have hda := HA.out _ (List.getElem_mem hlt)
                  have HF := Lib.hid (fun e => scanAt_bad (typE 1) args hlt (e := e))
                  have HG := Lib.hid (scanAt_ok (typE 1) args hlt)
                  obtain ⟨⟨aop, anum, anm, ahd, aargs⟩, he⟩ : ∃ z, z = args[k] := ⟨_, rfl⟩
                  rw [← he] at hr hda HF HG
                  clear he
                  have HDA : Hid (ExD d wr ⟨aop, anum, anm, ahd, aargs⟩) := Lib.hid (hda.ext HX.out)
                  have HR : Hid (wr.rangeAt b (off + k * 4) [.int .i64 aop, .int .i64 anum, .string anm, ahd.v]) := Lib.hid hr
                  clear hr hda
                  rcases ht : (isCond aop == wants 1) with _ | _
                  rotate_left
                  · have HNX := Lib.hid (HG.out (typ_ok (by show (!(isCond aop == wants 1)) = false; rw [ht]; rfl)))
                    go_wp2_with (first | ((with_reducible refine wl_loadM midEx (Ext.range ?_ (Hid.out HR)) ?_ ?_ ?_ ?_); (· with_reducible repeat' (first | exact Ext.refl _ | exact ExtOf.ext _ | refine Ext.trans ?_ (ExtOf.ext _) | refine Ext.alloc ?_ _ | refine Ext.drew ?_ | refine Ext.setCell ?_ ?_ _ | refine Ext.setRow ?_ ?_ _ | exact HX.out | refine Ext.trans ?_ HX.out | omega | (simp; done) | (simp; omega))); (· rfl); (· (first | exact wanted_none rfl | exact wanted_some rfl rfl rfl)); (· rfl)) | ((with_reducible apply wl_store' lwEx); (· (first | exact wanted_none rfl | exact wanted_some rfl rfl rfl)); (· rfl); (· rfl); (· infer_instance); (· rfl); (· rfl); (· (simp [Value.oneCell', SlT.v])); try simp only [setRow_alloc, setRow_new, setRow_new1, setRow_new2, setRow_new11, setRow_new111]))
                    try simp only [Act.put, List.setIfInBounds_toArray, List.set_cons_succ, List.set_cons_zero]
                    refine wp_region_ext (by kernel_rfl) (by kernel_rfl) ?_
                    repeat (first | go_big_quiet_skip | go_big_quiet_step ((first | (go_at_call 83; exact ext_call (isCondition_w _ _)) | (go_at_call 135; exact ext_call (takesConditions_w _ _)))))
                    refine wpQuiet_nil ?_
                    intro _ hw'
                    obtain ⟨nq, hw''⟩ := hw'
                    subst hw''
                    go_wp2_with fail
                    go_roundw
                    case rel => exact ⟨k + 1, by omega, by first | rfl | go_num, HD.out.trans HNX.out, HX.out.trans (by with_reducible repeat' (first | exact Ext.refl _ | exact ExtOf.ext _ | refine Ext.trans ?_ (ExtOf.ext _) | refine Ext.alloc ?_ _ | refine Ext.drew ?_ | refine Ext.setCell ?_ ?_ _ | refine Ext.setRow ?_ ?_ _ | exact HX.out | refine Ext.trans ?_ HX.out | omega | (simp; done) | (simp; omega))), inferInstance⟩
                    case measure => simp [intOf]; omega
                  · have HB := Lib.hid (HT.out.trans (HD.out.trans (HF.out 27 (typ_bad (by show (!(isCond aop == wants 1)) = true; rw [ht]; rfl)) (by decide))))
                    go_wp2_with (first | ((with_reducible refine wl_loadM midEx (Ext.range ?_ (Hid.out HR)) ?_ ?_ ?_ ?_); (· with_reducible repeat' (first | exact Ext.refl _ | exact ExtOf.ext _ | refine Ext.trans ?_ (ExtOf.ext _) | refine Ext.alloc ?_ _ | refine Ext.drew ?_ | refine Ext.setCell ?_ ?_ _ | refine Ext.setRow ?_ ?_ _ | exact HX.out | refine Ext.trans ?_ HX.out | omega | (simp; done) | (simp; omega))); (· rfl); (· (first | exact wanted_none rfl | exact wanted_some rfl rfl rfl)); (· rfl)) | ((with_reducible apply wl_store' lwEx); (· (first | exact wanted_none rfl | exact wanted_some rfl rfl rfl)); (· rfl); (· rfl); (· infer_instance); (· rfl); (· rfl); (· (simp [Value.oneCell', SlT.v])); try simp only [setRow_alloc, setRow_new, setRow_new1, setRow_new2, setRow_new11, setRow_new111]))
                    try simp only [Act.put, List.setIfInBounds_toArray, List.set_cons_succ, List.set_cons_zero]
                    refine wp_region_ext (by kernel_rfl) (by kernel_rfl) ?_
                    repeat (first | go_big_quiet_skip | go_big_quiet_step ((first | (go_at_call 83; exact ext_call (isCondition_w _ _)) | (go_at_call 135; exact ext_call (takesConditions_w _ _)))))
                    refine wpQuiet_nil ?_
                    intro _ hw'
                    obtain ⟨nq, hw''⟩ := hw'
                    subst hw''
                    go_wp2_with fail
                    go_ret
                    exact ⟨ret_int HB.out.symm, ExtOf.of (HX.out.trans (by with_reducible repeat' (first | exact Ext.refl _ | exact ExtOf.ext _ | refine Ext.trans ?_ (ExtOf.ext _) | refine Ext.alloc ?_ _ | refine Ext.drew ?_ | refine Ext.setCell ?_ ?_ _ | refine Ext.setRow ?_ ?_ _ | exact HX.out | refine Ext.trans ?_ HX.out | omega | (simp; done) | (simp; omega))))⟩
                · obtain rfl : k = args.length := by omega
                  have HB := Lib.hid (HT.out.trans (HD.out.trans (scanAt_end _ _ (Nat.le_refl _))))
                  go_wp2_with fail
                  go_ret
                  exact ⟨ret_int HB.out.symm, ExtOf.of HX.out⟩
            · have HB : Hid (visitE nms (d + 1) ⟨1, num, nm, ⟨q, args.length, cap⟩, args⟩ = 5) := Lib.hid (HE.out.trans (self_syn hop (by unfold synB; simp only [EX.op, EX.num, EX.nm, EX.args, he, tk]; first | rfl | simp)))
              go_wp2_with fail
              refine wp_region_ext (by kernel_rfl) (by kernel_rfl) ?_
              repeat (first | go_big_quiet_skip | go_big_quiet_step ((go_at_call 132; exact ext_call (takes_w _ _))))
              refine wpQuiet_nil ?_
              intro _ hw'
              obtain ⟨nq, hw''⟩ := hw'
              subst hw''
              go_wp2_with (first | (go_at_call 133; refine (contains_any nms _ nm _ (SliceOf.ext HN.out (HX.out.trans (by with_reducible repeat' (first | exact Ext.refl _ | exact ExtOf.ext _ | refine Ext.trans ?_ (ExtOf.ext _) | refine Ext.alloc ?_ _ | refine Ext.drew ?_ | refine Ext.setCell ?_ ?_ _ | refine Ext.setRow ?_ ?_ _ | exact HX.out | refine Ext.trans ?_ HX.out | omega | (simp; done) | (simp; omega)))))).mono ?_; rintro e w' ⟨rfl, nc, rfl⟩) | (go_at_call 134; refine (bounded_any num _).mono ?_; rintro e w' ⟨rfl, rfl⟩))
              go_ret
              exact ⟨ret_int HB.out.symm, ExtOf.of (HX.out.trans (by with_reducible repeat' (first | exact Ext.refl _ | exact ExtOf.ext _ | refine Ext.trans ?_ (ExtOf.ext _) | refine Ext.alloc ?_ _ | refine Ext.drew ?_ | refine Ext.setCell ?_ ?_ _ | refine Ext.setRow ?_ ?_ _ | exact HX.out | refine Ext.trans ?_ HX.out | omega | (simp; done) | (simp; omega))))⟩
          · rcases he : nm.toList.isEmpty with _ | _
            · have HB : Hid (visitE nms (d + 1) ⟨1, num, nm, ⟨q, args.length, cap⟩, args⟩ = 5) := Lib.hid (HE.out.trans (self_syn hop (by unfold synB; simp only [EX.op, EX.num, EX.nm, EX.args, he]; first | rfl | simp)))
              go_wp2_with fail
              refine wp_region_ext (by kernel_rfl) (by kernel_rfl) ?_
              repeat (first | go_big_quiet_skip | go_big_quiet_step ((go_at_call 132; exact ext_call (takes_w _ _))))
              refine wpQuiet_nil ?_
              intro _ hw'
              obtain ⟨nq, hw''⟩ := hw'
              subst hw''
              go_wp2_with (first | (go_at_call 133; refine (contains_any nms _ nm _ (SliceOf.ext HN.out (HX.out.trans (by with_reducible repeat' (first | exact Ext.refl _ | exact ExtOf.ext _ | refine Ext.trans ?_ (ExtOf.ext _) | refine Ext.alloc ?_ _ | refine Ext.drew ?_ | refine Ext.setCell ?_ ?_ _ | refine Ext.setRow ?_ ?_ _ | exact HX.out | refine Ext.trans ?_ HX.out | omega | (simp; done) | (simp; omega)))))).mono ?_; rintro e w' ⟨rfl, nc, rfl⟩) | (go_at_call 134; refine (bounded_any num _).mono ?_; rintro e w' ⟨rfl, rfl⟩))
              go_ret
              exact ⟨ret_int HB.out.symm, ExtOf.of (HX.out.trans (by with_reducible repeat' (first | exact Ext.refl _ | exact ExtOf.ext _ | refine Ext.trans ?_ (ExtOf.ext _) | refine Ext.alloc ?_ _ | refine Ext.drew ?_ | refine Ext.setCell ?_ ?_ _ | refine Ext.setRow ?_ ?_ _ | exact HX.out | refine Ext.trans ?_ HX.out | omega | (simp; done) | (simp; omega))))⟩
            rcases tk : ((args.length : Int) != StM.takes 1) with _ | _
            · have hsyn : Hid (synB ⟨1, num, nm, ⟨q, args.length, cap⟩, args⟩ = false) := Lib.hid (by unfold synB; simp only [EX.op, EX.num, EX.nm, EX.args, he, tk, n0]; simp)
              rcases hbn : bnd num with _ | _
              · have HB : Hid (visitE nms (d + 1) ⟨1, num, nm, ⟨q, args.length, cap⟩, args⟩ = 9) := Lib.hid (HE.out.trans (self_big hop hsyn.out rfl hbn))
                go_wp2_with fail
                refine wp_region_ext (by kernel_rfl) (by kernel_rfl) ?_
                repeat (first | go_big_quiet_skip | go_big_quiet_step ((go_at_call 132; exact ext_call (takes_w _ _))))
                refine wpQuiet_nil ?_
                intro _ hw'
                obtain ⟨nq, hw''⟩ := hw'
                subst hw''
                go_wp2_with (first | (go_at_call 133; refine (contains_any nms _ nm _ (SliceOf.ext HN.out (HX.out.trans (by with_reducible repeat' (first | exact Ext.refl _ | exact ExtOf.ext _ | refine Ext.trans ?_ (ExtOf.ext _) | refine Ext.alloc ?_ _ | refine Ext.drew ?_ | refine Ext.setCell ?_ ?_ _ | refine Ext.setRow ?_ ?_ _ | exact HX.out | refine Ext.trans ?_ HX.out | omega | (simp; done) | (simp; omega)))))).mono ?_; rintro e w' ⟨rfl, nc, rfl⟩) | (go_at_call 134; refine (bounded_any num _).mono ?_; rintro e w' ⟨rfl, rfl⟩))
                go_ret
                exact ⟨ret_int HB.out.symm, ExtOf.of (HX.out.trans (by with_reducible repeat' (first | exact Ext.refl _ | exact ExtOf.ext _ | refine Ext.trans ?_ (ExtOf.ext _) | refine Ext.alloc ?_ _ | refine Ext.drew ?_ | refine Ext.setCell ?_ ?_ _ | refine Ext.setRow ?_ ?_ _ | exact HX.out | refine Ext.trans ?_ HX.out | omega | (simp; done) | (simp; omega))))⟩
              have HT : Hid (visitE nms (d + 1) ⟨1, num, nm, ⟨q, args.length, cap⟩, args⟩ = scanAt (typE 1) args 0) := Lib.hid (HE.out.trans (self_typ hop hsyn.out (fun h => absurd h (by simp [EX.op])) (fun _ => hbn)))
              go_wp2_with fail
              refine wp_region_ext (by kernel_rfl) (by kernel_rfl) ?_
              repeat (first | go_big_quiet_skip | go_big_quiet_step ((go_at_call 132; exact ext_call (takes_w _ _))))
              refine wpQuiet_nil ?_
              intro _ hw'
              obtain ⟨nq, hw''⟩ := hw'
              subst hw''
              go_wp2_with (first | (go_at_call 133; refine (contains_any nms _ nm _ (SliceOf.ext HN.out (HX.out.trans (by with_reducible repeat' (first | exact Ext.refl _ | exact ExtOf.ext _ | refine Ext.trans ?_ (ExtOf.ext _) | refine Ext.alloc ?_ _ | refine Ext.drew ?_ | refine Ext.setCell ?_ ?_ _ | refine Ext.setRow ?_ ?_ _ | exact HX.out | refine Ext.trans ?_ HX.out | omega | (simp; done) | (simp; omega)))))).mono ?_; rintro e w' ⟨rfl, nc, rfl⟩) | (go_at_call 134; refine (bounded_any num _).mono ?_; rintro e w' ⟨rfl, rfl⟩))
              go_loopw [87] (fun vi wz => ∃ k : Nat, k ≤ args.length ∧ vi = .int .i64 k ∧ scanAt (typE 1) args 0 = scanAt (typE 1) args k ∧ Ext w wz ∧ Block wz g #[.int .i64 1, .int .i64 num, .string nm, .slice q args.length cap]) (fun i _ => args.length - (intOf i).toNat)
              case atStart => exact ⟨0, by omega, rfl, rfl, HX.out.trans (by with_reducible repeat' (first | exact Ext.refl _ | exact ExtOf.ext _ | refine Ext.trans ?_ (ExtOf.ext _) | refine Ext.alloc ?_ _ | refine Ext.drew ?_ | refine Ext.setCell ?_ ?_ _ | refine Ext.setRow ?_ ?_ _ | exact HX.out | refine Ext.trans ?_ HX.out | omega | (simp; done) | (simp; omega))), inferInstance⟩
              case round =>
                obtain ⟨k, hk, rfl, hd, hx, hbk⟩ := hrel
                have HX := Lib.hid hx
                have HD := Lib.hid hd
                have obk := hbk.old
                clear hx hd
                by_cases hlt : k < args.length
                · obtain ⟨b, off, rfl, ob, hr⟩ := SliceOf.elemO (SliceOf.ext H.out HX.out) hlt (by decide) (encEX_len _)
                  have hda := HA.out _ (List.getElem_mem hlt)
                  have HF := Lib.hid (fun e => scanAt_bad (typE 1) args hlt (e := e))
                  have HG := Lib.hid (scanAt_ok (typE 1) args hlt)
                  obtain ⟨⟨aop, anum, anm, ahd, aargs⟩, he⟩ : ∃ z, z = args[k] := ⟨_, rfl⟩
                  rw [← he] at hr hda HF HG
                  clear he
                  have HDA : Hid (ExD d wr ⟨aop, anum, anm, ahd, aargs⟩) := Lib.hid (hda.ext HX.out)
                  have HR : Hid (wr.rangeAt b (off + k * 4) [.int .i64 aop, .int .i64 anum, .string anm, ahd.v]) := Lib.hid hr
                  clear hr hda
                  rcases ht : (isCond aop == wants 1) with _ | _
                  rotate_left
                  · have HNX := Lib.hid (HG.out (typ_ok (by show (!(isCond aop == wants 1)) = false; rw [ht]; rfl)))
                    go_wp2_with (first | ((with_reducible refine wl_loadM midEx (Ext.range ?_ (Hid.out HR)) ?_ ?_ ?_ ?_); (· with_reducible repeat' (first | exact Ext.refl _ | exact ExtOf.ext _ | refine Ext.trans ?_ (ExtOf.ext _) | refine Ext.alloc ?_ _ | refine Ext.drew ?_ | refine Ext.setCell ?_ ?_ _ | refine Ext.setRow ?_ ?_ _ | exact HX.out | refine Ext.trans ?_ HX.out | omega | (simp; done) | (simp; omega))); (· rfl); (· (first | exact wanted_none rfl | exact wanted_some rfl rfl rfl)); (· rfl)) | ((with_reducible apply wl_store' lwEx); (· (first | exact wanted_none rfl | exact wanted_some rfl rfl rfl)); (· rfl); (· rfl); (· infer_instance); (· rfl); (· rfl); (· (simp [Value.oneCell', SlT.v])); try simp only [setRow_alloc, setRow_new, setRow_new1, setRow_new2, setRow_new11, setRow_new111]))
                    try simp only [Act.put, List.setIfInBounds_toArray, List.set_cons_succ, List.set_cons_zero]
                    refine wp_region_ext (by kernel_rfl) (by kernel_rfl) ?_
                    repeat (first | go_big_quiet_skip | go_big_quiet_step ((first | (go_at_call 83; exact ext_call (isCondition_w _ _)) | (go_at_call 135; exact ext_call (takesConditions_w _ _)))))
                    refine wpQuiet_nil ?_
                    intro _ hw'
                    obtain ⟨nq, hw''⟩ := hw'
                    subst hw''
                    go_wp2_with fail
                    go_roundw
                    case rel => exact ⟨k + 1, by omega, by first | rfl | go_num, HD.out.trans HNX.out, HX.out.trans (by with_reducible repeat' (first | exact Ext.refl _ | exact ExtOf.ext _ | refine Ext.trans ?_ (ExtOf.ext _) | refine Ext.alloc ?_ _ | refine Ext.drew ?_ | refine Ext.setCell ?_ ?_ _ | refine Ext.setRow ?_ ?_ _ | exact HX.out | refine Ext.trans ?_ HX.out | omega | (simp; done) | (simp; omega))), inferInstance⟩
                    case measure => simp [intOf]; omega
                  · have HB := Lib.hid (HT.out.trans (HD.out.trans (HF.out 27 (typ_bad (by show (!(isCond aop == wants 1)) = true; rw [ht]; rfl)) (by decide))))
                    go_wp2_with (first | ((with_reducible refine wl_loadM midEx (Ext.range ?_ (Hid.out HR)) ?_ ?_ ?_ ?_); (· with_reducible repeat' (first | exact Ext.refl _ | exact ExtOf.ext _ | refine Ext.trans ?_ (ExtOf.ext _) | refine Ext.alloc ?_ _ | refine Ext.drew ?_ | refine Ext.setCell ?_ ?_ _ | refine Ext.setRow ?_ ?_ _ | exact HX.out | refine Ext.trans ?_ HX.out | omega | (simp; done) | (simp; omega))); (· rfl); (· (first | exact wanted_none rfl | exact wanted_some rfl rfl rfl)); (· rfl)) | ((with_reducible apply wl_store' lwEx); (· (first | exact wanted_none rfl | exact wanted_some rfl rfl rfl)); (· rfl); (· rfl); (· infer_instance); (· rfl); (· rfl); (· (simp [Value.oneCell', SlT.v])); try simp only [setRow_alloc, setRow_new, setRow_new1, setRow_new2, setRow_new11, setRow_new111]))
                    try simp only [Act.put, List.setIfInBounds_toArray, List.set_cons_succ, List.set_cons_zero]
                    refine wp_region_ext (by kernel_rfl) (by kernel_rfl) ?_
                    repeat (first | go_big_quiet_skip | go_big_quiet_step ((first | (go_at_call 83; exact ext_call (isCondition_w _ _)) | (go_at_call 135; exact ext_call (takesConditions_w _ _)))))
                    refine wpQuiet_nil ?_
                    intro _ hw'
                    obtain ⟨nq, hw''⟩ := hw'
                    subst hw''
                    go_wp2_with fail
                    go_ret
                    exact ⟨ret_int HB.out.symm, ExtOf.of (HX.out.trans (by with_reducible repeat' (first | exact Ext.refl _ | exact ExtOf.ext _ | refine Ext.trans ?_ (ExtOf.ext _) | refine Ext.alloc ?_ _ | refine Ext.drew ?_ | refine Ext.setCell ?_ ?_ _ | refine Ext.setRow ?_ ?_ _ | exact HX.out | refine Ext.trans ?_ HX.out | omega | (simp; done) | (simp; omega))))⟩
                · obtain rfl : k = args.length := by omega
                  have HB := Lib.hid (HT.out.trans (HD.out.trans (scanAt_end _ _ (Nat.le_refl _))))
                  go_wp2_with fail
                  go_ret
                  exact ⟨ret_int HB.out.symm, ExtOf.of HX.out⟩
            · have HB : Hid (visitE nms (d + 1) ⟨1, num, nm, ⟨q, args.length, cap⟩, args⟩ = 5) := Lib.hid (HE.out.trans (self_syn hop (by unfold synB; simp only [EX.op, EX.num, EX.nm, EX.args, he, tk]; first | rfl | simp)))
              go_wp2_with fail
              refine wp_region_ext (by kernel_rfl) (by kernel_rfl) ?_
              repeat (first | go_big_quiet_skip | go_big_quiet_step ((go_at_call 132; exact ext_call (takes_w _ _))))
              refine wpQuiet_nil ?_
              intro _ hw'
              obtain ⟨nq, hw''⟩ := hw'
              subst hw''
              go_wp2_with (first | (go_at_call 133; refine (contains_any nms _ nm _ (SliceOf.ext HN.out (HX.out.trans (by with_reducible repeat' (first | exact Ext.refl _ | exact ExtOf.ext _ | refine Ext.trans ?_ (ExtOf.ext _) | refine Ext.alloc ?_ _ | refine Ext.drew ?_ | refine Ext.setCell ?_ ?_ _ | refine Ext.setRow ?_ ?_ _ | exact HX.out | refine Ext.trans ?_ HX.out | omega | (simp; done) | (simp; omega)))))).mono ?_; rintro e w' ⟨rfl, nc, rfl⟩) | (go_at_call 134; refine (bounded_any num _).mono ?_; rintro e w' ⟨rfl, rfl⟩))
              go_ret
              exact ⟨ret_int HB.out.symm, ExtOf.of (HX.out.trans (by with_reducible repeat' (first | exact Ext.refl _ | exact ExtOf.ext _ | refine Ext.trans ?_ (ExtOf.ext _) | refine Ext.alloc ?_ _ | refine Ext.drew ?_ | refine Ext.setCell ?_ ?_ _ | refine Ext.setRow ?_ ?_ _ | exact HX.out | refine Ext.trans ?_ HX.out | omega | (simp; done) | (simp; omega))))⟩
        by_cases o2 : op = 2
        · subst o2
          rcases n0 : (num != 0) with _ | _
          case true =>
            have HB : Hid (visitE nms (d + 1) ⟨2, num, nm, ⟨q, args.length, cap⟩, args⟩ = 5) := Lib.hid (HE.out.trans (self_syn hop (by unfold synB; simp only [EX.op, EX.num, EX.nm, EX.args, n0]; first | rfl | simp)))
            go_wp2_with fail
            refine wp_region_ext (by kernel_rfl) (by kernel_rfl) ?_
            repeat (first | go_big_quiet_skip | go_big_quiet_step ((go_at_call 132; exact ext_call (takes_w _ _))))
            refine wpQuiet_nil ?_
            intro _ hw'
            obtain ⟨nq, hw''⟩ := hw'
            subst hw''
            go_wp2_with (first | (go_at_call 133; refine (contains_any nms _ nm _ (SliceOf.ext HN.out (HX.out.trans (by with_reducible repeat' (first | exact Ext.refl _ | exact ExtOf.ext _ | refine Ext.trans ?_ (ExtOf.ext _) | refine Ext.alloc ?_ _ | refine Ext.drew ?_ | refine Ext.setCell ?_ ?_ _ | refine Ext.setRow ?_ ?_ _ | exact HX.out | refine Ext.trans ?_ HX.out | omega | (simp; done) | (simp; omega)))))).mono ?_; rintro e w' ⟨rfl, nc, rfl⟩) | (go_at_call 134; refine (bounded_any num _).mono ?_; rintro e w' ⟨rfl, rfl⟩))
            go_ret
            exact ⟨ret_int HB.out.symm, ExtOf.of (HX.out.trans (by with_reducible repeat' (first | exact Ext.refl _ | exact ExtOf.ext _ | refine Ext.trans ?_ (ExtOf.ext _) | refine Ext.alloc ?_ _ | refine Ext.drew ?_ | refine Ext.setCell ?_ ?_ _ | refine Ext.setRow ?_ ?_ _ | exact HX.out | refine Ext.trans ?_ HX.out | omega | (simp; done) | (simp; omega))))⟩
          rcases he : nm.toList.isEmpty with _ | _
          · rcases tk : ((args.length : Int) != StM.takes 2) with _ | _
            · have hsyn : Hid (synB ⟨2, num, nm, ⟨q, args.length, cap⟩, args⟩ = false) := Lib.hid (by unfold synB; simp only [EX.op, EX.num, EX.nm, EX.args, he, tk, n0]; simp)
              rcases hin : inN nm nms with _ | _
              · have HB : Hid (visitE nms (d + 1) ⟨2, num, nm, ⟨q, args.length, cap⟩, args⟩ = 8) := Lib.hid (HE.out.trans (self_none hop hsyn.out rfl hin))
                go_wp2_with fail
                refine wp_region_ext (by kernel_rfl) (by kernel_rfl) ?_
                repeat (first | go_big_quiet_skip | go_big_quiet_step ((go_at_call 132; exact ext_call (takes_w _ _))))
                refine wpQuiet_nil ?_
                intro _ hw'
                obtain ⟨nq, hw''⟩ := hw'
                subst hw''
                go_wp2_with (first | (go_at_call 133; refine (contains_any nms _ nm _ (SliceOf.ext HN.out (HX.out.trans (by with_reducible repeat' (first | exact Ext.refl _ | exact ExtOf.ext _ | refine Ext.trans ?_ (ExtOf.ext _) | refine Ext.alloc ?_ _ | refine Ext.drew ?_ | refine Ext.setCell ?_ ?_ _ | refine Ext.setRow ?_ ?_ _ | exact HX.out | refine Ext.trans ?_ HX.out | omega | (simp; done) | (simp; omega)))))).mono ?_; rintro e w' ⟨rfl, nc, rfl⟩) | (go_at_call 134; refine (bounded_any num _).mono ?_; rintro e w' ⟨rfl, rfl⟩))
                go_ret
                exact ⟨ret_int HB.out.symm, ExtOf.of (HX.out.trans (by with_reducible repeat' (first | exact Ext.refl _ | exact ExtOf.ext _ | refine Ext.trans ?_ (ExtOf.ext _) | refine Ext.alloc ?_ _ | refine Ext.drew ?_ | refine Ext.setCell ?_ ?_ _ | refine Ext.setRow ?_ ?_ _ | exact HX.out | refine Ext.trans ?_ HX.out | omega | (simp; done) | (simp; omega))))⟩
              have HT : Hid (visitE nms (d + 1) ⟨2, num, nm, ⟨q, args.length, cap⟩, args⟩ = scanAt (typE 2) args 0) := Lib.hid (HE.out.trans (self_typ hop hsyn.out (fun _ => hin) (fun h => absurd h (by simp [EX.op]))))
              go_wp2_with fail
              refine wp_region_ext (by kernel_rfl) (by kernel_rfl) ?_
              repeat (first | go_big_quiet_skip | go_big_quiet_step ((go_at_call 132; exact ext_call (takes_w _ _))))
              refine wpQuiet_nil ?_
              intro _ hw'
              obtain ⟨nq, hw''⟩ := hw'
              subst hw''
              go_wp2_with (first | (go_at_call 133; refine (contains_any nms _ nm _ (SliceOf.ext HN.out (HX.out.trans (by with_reducible repeat' (first | exact Ext.refl _ | exact ExtOf.ext _ | refine Ext.trans ?_ (ExtOf.ext _) | refine Ext.alloc ?_ _ | refine Ext.drew ?_ | refine Ext.setCell ?_ ?_ _ | refine Ext.setRow ?_ ?_ _ | exact HX.out | refine Ext.trans ?_ HX.out | omega | (simp; done) | (simp; omega)))))).mono ?_; rintro e w' ⟨rfl, nc, rfl⟩) | (go_at_call 134; refine (bounded_any num _).mono ?_; rintro e w' ⟨rfl, rfl⟩))
              go_loopw [87] (fun vi wz => ∃ k : Nat, k ≤ args.length ∧ vi = .int .i64 k ∧ scanAt (typE 2) args 0 = scanAt (typE 2) args k ∧ Ext w wz ∧ Block wz g #[.int .i64 2, .int .i64 num, .string nm, .slice q args.length cap]) (fun i _ => args.length - (intOf i).toNat)
              case atStart => exact ⟨0, by omega, rfl, rfl, HX.out.trans (by with_reducible repeat' (first | exact Ext.refl _ | exact ExtOf.ext _ | refine Ext.trans ?_ (ExtOf.ext _) | refine Ext.alloc ?_ _ | refine Ext.drew ?_ | refine Ext.setCell ?_ ?_ _ | refine Ext.setRow ?_ ?_ _ | exact HX.out | refine Ext.trans ?_ HX.out | omega | (simp; done) | (simp; omega))), inferInstance⟩
              case round =>
                obtain ⟨k, hk, rfl, hd, hx, hbk⟩ := hrel
                have HX := Lib.hid hx
                have HD := Lib.hid hd
                have obk := hbk.old
                clear hx hd
                by_cases hlt : k < args.length
                · obtain ⟨b, off, rfl, ob, hr⟩ := SliceOf.elemO (SliceOf.ext H.out HX.out) hlt (by decide) (encEX_len _)
                  have hda := HA.out _ (List.getElem_mem hlt)
                  have HF := Lib.hid (fun e => scanAt_bad (typE 2) args hlt (e := e))
                  have HG := Lib.hid (scanAt_ok (typE 2) args hlt)
                  obtain ⟨⟨aop, anum, anm, ahd, aargs⟩, he⟩ : ∃ z, z = args[k] := ⟨_, rfl⟩
                  rw [← he] at hr hda HF HG
                  clear he
                  have HDA : Hid (ExD d wr ⟨aop, anum, anm, ahd, aargs⟩) := Lib.hid (hda.ext HX.out)
                  have HR : Hid (wr.rangeAt b (off + k * 4) [.int .i64 aop, .int .i64 anum, .string anm, ahd.v]) := Lib.hid hr
                  clear hr hda
                  rcases ht : (isCond aop == wants 2) with _ | _
                  rotate_left
                  · have HNX := Lib.hid (HG.out (typ_ok (by show (!(isCond aop == wants 2)) = false; rw [ht]; rfl)))
                    go_wp2_with (first | ((with_reducible refine wl_loadM midEx (Ext.range ?_ (Hid.out HR)) ?_ ?_ ?_ ?_); (· with_reducible repeat' (first | exact Ext.refl _ | exact ExtOf.ext _ | refine Ext.trans ?_ (ExtOf.ext _) | refine Ext.alloc ?_ _ | refine Ext.drew ?_ | refine Ext.setCell ?_ ?_ _ | refine Ext.setRow ?_ ?_ _ | exact HX.out | refine Ext.trans ?_ HX.out | omega | (simp; done) | (simp; omega))); (· rfl); (· (first | exact wanted_none rfl | exact wanted_some rfl rfl rfl)); (· rfl)) | ((with_reducible apply wl_store' lwEx); (· (first | exact wanted_none rfl | exact wanted_some rfl rfl rfl)); (· rfl); (· rfl); (· infer_instance); (· rfl); (· rfl); (· (simp [Value.oneCell', SlT.v])); try simp only [setRow_alloc, setRow_new, setRow_new1, setRow_new2, setRow_new11, setRow_new111]))
                    try simp only [Act.put, List.setIfInBounds_toArray, List.set_cons_succ, List.set_cons_zero]
                    refine wp_region_ext (by kernel_rfl) (by kernel_rfl) ?_
                    repeat (first | go_big_quiet_skip | go_big_quiet_step ((first | (go_at_call 83; exact ext_call (isCondition_w _ _)) | (go_at_call 135; exact ext_call (takesConditions_w _ _)))))
                    refine wpQuiet_nil ?_
                    intro _ hw'
                    obtain ⟨nq, hw''⟩ := hw'
                    subst hw''
                    go_wp2_with fail
                    go_roundw
                    case rel => exact ⟨k + 1, by omega, by first | rfl | go_num, HD.out.trans HNX.out, HX.out.trans (by with_reducible repeat' (first | exact Ext.refl _ | exact ExtOf.ext _ | refine Ext.trans ?_ (ExtOf.ext _) | refine Ext.alloc ?_ _ | refine Ext.drew ?_ | refine Ext.setCell ?_ ?_ _ | refine Ext.setRow ?_ ?_ _ | exact HX.out | refine Ext.trans ?_ HX.out | omega | (simp; done) | (simp; omega))), inferInstance⟩
                    case measure => simp [intOf]; omega
                  · have HB := Lib.hid (HT.out.trans (HD.out.trans (HF.out 27 (typ_bad (by show (!(isCond aop == wants 2)) = true; rw [ht]; rfl)) (by decide))))
                    go_wp2_with (first | ((with_reducible refine wl_loadM midEx (Ext.range ?_ (Hid.out HR)) ?_ ?_ ?_ ?_); (· with_reducible repeat' (first | exact Ext.refl _ | exact ExtOf.ext _ | refine Ext.trans ?_ (ExtOf.ext _) | refine Ext.alloc ?_ _ | refine Ext.drew ?_ | refine Ext.setCell ?_ ?_ _ | refine Ext.setRow ?_ ?_ _ | exact HX.out | refine Ext.trans ?_ HX.out | omega | (simp; done) | (simp; omega))); (· rfl); (· (first | exact wanted_none rfl | exact wanted_some rfl rfl rfl)); (· rfl)) | ((with_reducible apply wl_store' lwEx); (· (first | exact wanted_none rfl | exact wanted_some rfl rfl rfl)); (· rfl); (· rfl); (· infer_instance); (· rfl); (· rfl); (· (simp [Value.oneCell', SlT.v])); try simp only [setRow_alloc, setRow_new, setRow_new1, setRow_new2, setRow_new11, setRow_new111]))
                    try simp only [Act.put, List.setIfInBounds_toArray, List.set_cons_succ, List.set_cons_zero]
                    refine wp_region_ext (by kernel_rfl) (by kernel_rfl) ?_
                    repeat (first | go_big_quiet_skip | go_big_quiet_step ((first | (go_at_call 83; exact ext_call (isCondition_w _ _)) | (go_at_call 135; exact ext_call (takesConditions_w _ _)))))
                    refine wpQuiet_nil ?_
                    intro _ hw'
                    obtain ⟨nq, hw''⟩ := hw'
                    subst hw''
                    go_wp2_with fail
                    go_ret
                    exact ⟨ret_int HB.out.symm, ExtOf.of (HX.out.trans (by with_reducible repeat' (first | exact Ext.refl _ | exact ExtOf.ext _ | refine Ext.trans ?_ (ExtOf.ext _) | refine Ext.alloc ?_ _ | refine Ext.drew ?_ | refine Ext.setCell ?_ ?_ _ | refine Ext.setRow ?_ ?_ _ | exact HX.out | refine Ext.trans ?_ HX.out | omega | (simp; done) | (simp; omega))))⟩
                · obtain rfl : k = args.length := by omega
                  have HB := Lib.hid (HT.out.trans (HD.out.trans (scanAt_end _ _ (Nat.le_refl _))))
                  go_wp2_with fail
                  go_ret
                  exact ⟨ret_int HB.out.symm, ExtOf.of HX.out⟩
            · have HB : Hid (visitE nms (d + 1) ⟨2, num, nm, ⟨q, args.length, cap⟩, args⟩ = 5) := Lib.hid (HE.out.trans (self_syn hop (by unfold synB; simp only [EX.op, EX.num, EX.nm, EX.args, tk]; first | rfl | simp)))
              go_wp2_with fail
              refine wp_region_ext (by kernel_rfl) (by kernel_rfl) ?_
              repeat (first | go_big_quiet_skip | go_big_quiet_step ((go_at_call 132; exact ext_call (takes_w _ _))))
              refine wpQuiet_nil ?_
              intro _ hw'
              obtain ⟨nq, hw''⟩ := hw'
              subst hw''
              go_wp2_with (first | (go_at_call 133; refine (contains_any nms _ nm _ (SliceOf.ext HN.out (HX.out.trans (by with_reducible repeat' (first | exact Ext.refl _ | exact ExtOf.ext _ | refine Ext.trans ?_ (ExtOf.ext _) | refine Ext.alloc ?_ _ | refine Ext.drew ?_ | refine Ext.setCell ?_ ?_ _ | refine Ext.setRow ?_ ?_ _ | exact HX.out | refine Ext.trans ?_ HX.out | omega | (simp; done) | (simp; omega)))))).mono ?_; rintro e w' ⟨rfl, nc, rfl⟩) | (go_at_call 134; refine (bounded_any num _).mono ?_; rintro e w' ⟨rfl, rfl⟩))
              go_ret
              exact ⟨ret_int HB.out.symm, ExtOf.of (HX.out.trans (by with_reducible repeat' (first | exact Ext.refl _ | exact ExtOf.ext _ | refine Ext.trans ?_ (ExtOf.ext _) | refine Ext.alloc ?_ _ | refine Ext.drew ?_ | refine Ext.setCell ?_ ?_ _ | refine Ext.setRow ?_ ?_ _ | exact HX.out | refine Ext.trans ?_ HX.out | omega | (simp; done) | (simp; omega))))⟩
          · rcases tk : ((args.length : Int) != StM.takes 2) with _ | _
            · have hsyn : Hid (synB ⟨2, num, nm, ⟨q, args.length, cap⟩, args⟩ = false) := Lib.hid (by unfold synB; simp only [EX.op, EX.num, EX.nm, EX.args, he, tk, n0]; simp)
              rcases hin : inN nm nms with _ | _
              · have HB : Hid (visitE nms (d + 1) ⟨2, num, nm, ⟨q, args.length, cap⟩, args⟩ = 8) := Lib.hid (HE.out.trans (self_none hop hsyn.out rfl hin))
                go_wp2_with fail
                refine wp_region_ext (by kernel_rfl) (by kernel_rfl) ?_
                repeat (first | go_big_quiet_skip | go_big_quiet_step ((go_at_call 132; exact ext_call (takes_w _ _))))
                refine wpQuiet_nil ?_
                intro _ hw'
                obtain ⟨nq, hw''⟩ := hw'
                subst hw''
                go_wp2_with (first | (go_at_call 133; refine (contains_any nms _ nm _ (SliceOf.ext HN.out (HX.out.trans (by with_reducible repeat' (first | exact Ext.refl _ | exact ExtOf.ext _ | refine Ext.trans ?_ (ExtOf.ext _) | refine Ext.alloc ?_ _ | refine Ext.drew ?_ | refine Ext.setCell ?_ ?_ _ | refine Ext.setRow ?_ ?_ _ | exact HX.out | refine Ext.trans ?_ HX.out | omega | (simp; done) | (simp; omega)))))).mono ?_; rintro e w' ⟨rfl, nc, rfl⟩) | (go_at_call 134; refine (bounded_any num _).mono ?_; rintro e w' ⟨rfl, rfl⟩))
                go_ret
                exact ⟨ret_int HB.out.symm, ExtOf.of (HX.out.trans (by with_reducible repeat' (first | exact Ext.refl _ | exact ExtOf.ext _ | refine Ext.trans ?_ (ExtOf.ext _) | refine Ext.alloc ?_ _ | refine Ext.drew ?_ | refine Ext.setCell ?_ ?_ _ | refine Ext.setRow ?_ ?_ _ | exact HX.out | refine Ext.trans ?_ HX.out | omega | (simp; done) | (simp; omega))))⟩
              have HT : Hid (visitE nms (d + 1) ⟨2, num, nm, ⟨q, args.length, cap⟩, args⟩ = scanAt (typE 2) args 0) := Lib.hid (HE.out.trans (self_typ hop hsyn.out (fun _ => hin) (fun h => absurd h (by simp [EX.op]))))
              go_wp2_with fail
              refine wp_region_ext (by kernel_rfl) (by kernel_rfl) ?_
              repeat (first | go_big_quiet_skip | go_big_quiet_step ((go_at_call 132; exact ext_call (takes_w _ _))))
              refine wpQuiet_nil ?_
              intro _ hw'
              obtain ⟨nq, hw''⟩ := hw'
              subst hw''
              go_wp2_with (first | (go_at_call 133; refine (contains_any nms _ nm _ (SliceOf.ext HN.out (HX.out.trans (by with_reducible repeat' (first | exact Ext.refl _ | exact ExtOf.ext _ | refine Ext.trans ?_ (ExtOf.ext _) | refine Ext.alloc ?_ _ | refine Ext.drew ?_ | refine Ext.setCell ?_ ?_ _ | refine Ext.setRow ?_ ?_ _ | exact HX.out | refine Ext.trans ?_ HX.out | omega | (simp; done) | (simp; omega)))))).mono ?_; rintro e w' ⟨rfl, nc, rfl⟩) | (go_at_call 134; refine (bounded_any num _).mono ?_; rintro e w' ⟨rfl, rfl⟩))
              go_loopw [87] (fun vi wz => ∃ k : Nat, k ≤ args.length ∧ vi = .int .i64 k ∧ scanAt (typE 2) args 0 = scanAt (typE 2) args k ∧ Ext w wz ∧ Block wz g #[.int .i64 2, .int .i64 num, .string nm, .slice q args.length cap]) (fun i _ => args.length - (intOf i).toNat)
              case atStart => exact ⟨0, by omega, rfl, rfl, HX.out.trans (by with_reducible repeat' (first | exact Ext.refl _ | exact ExtOf.ext _ | refine Ext.trans ?_ (ExtOf.ext _) | refine Ext.alloc ?_ _ | refine Ext.drew ?_ | refine Ext.setCell ?_ ?_ _ | refine Ext.setRow ?_ ?_ _ | exact HX.out | refine Ext.trans ?_ HX.out | omega | (simp; done) | (simp; omega))), inferInstance⟩
              case round =>
                obtain ⟨k, hk, rfl, hd, hx, hbk⟩ := hrel
                have HX := Lib.hid hx
                have HD := Lib.hid hd
                have obk := hbk.old
                clear hx hd
                by_cases hlt : k < args.length
                · obtain ⟨b, off, rfl, ob, hr⟩ := SliceOf.elemO (SliceOf.ext H.out HX.out) hlt (by decide) (encEX_len _)
                  have hda := HA.out _ (List.getElem_mem hlt)
                  have HF := Lib.hid (fun e => scanAt_bad (typE 2) args hlt (e := e))
                  have HG := Lib.hid (scanAt_ok (typE 2) args hlt)
                  obtain ⟨⟨aop, anum, anm, ahd, aargs⟩, he⟩ : ∃ z, z = args[k] := ⟨_, rfl⟩
                  rw [← he] at hr hda HF HG
                  clear he
                  have HDA : Hid (ExD d wr ⟨aop, anum, anm, ahd, aargs⟩) := Lib.hid (hda.ext HX.out)
                  have HR : Hid (wr.rangeAt b (off + k * 4) [.int .i64 aop, .int .i64 anum, .string anm, ahd.v]) := Lib.hid hr
                  clear hr hda
                  rcases ht : (isCond aop == wants 2) with _ | _
                  rotate_left
                  · have HNX := Lib.hid (HG.out (typ_ok (by show (!(isCond aop == wants 2)) = false; rw [ht]; rfl)))
                    go_wp2_with (first | ((with_reducible refine wl_loadM midEx (Ext.range ?_ (Hid.out HR)) ?_ ?_ ?_ ?_); (· with_reducible repeat' (first | exact Ext.refl _ | exact ExtOf.ext _ | refine Ext.trans ?_ (ExtOf.ext _) | refine Ext.alloc ?_ _ | refine Ext.drew ?_ | refine Ext.setCell ?_ ?_ _ | refine Ext.setRow ?_ ?_ _ | exact HX.out | refine Ext.trans ?_ HX.out | omega | (simp; done) | (simp; omega))); (· rfl); (· (first | exact wanted_none rfl | exact wanted_some rfl rfl rfl)); (· rfl)) | ((with_reducible apply wl_store' lwEx); (· (first | exact wanted_none rfl | exact wanted_some rfl rfl rfl)); (· rfl); (· rfl); (· infer_instance); (· rfl); (· rfl); (· (simp [Value.oneCell', SlT.v])); try simp only [setRow_alloc, setRow_new, setRow_new1, setRow_new2, setRow_new11, setRow_new111]))
                    try simp only [Act.put, List.setIfInBounds_toArray, List.set_cons_succ, List.set_cons_zero]
                    refine wp_region_ext (by kernel_rfl) (by kernel_rfl) ?_
                    repeat (first | go_big_quiet_skip | go_big_quiet_step ((first | (go_at_call 83; exact ext_call (isCondition_w _ _)) | (go_at_call 135; exact ext_call (takesConditions_w _ _)))))
                    refine wpQuiet_nil ?_
                    intro _ hw'
                    obtain ⟨nq, hw''⟩ := hw'
                    subst hw''
                    go_wp2_with fail
                    go_roundw
                    case rel => exact ⟨k + 1, by omega, by first | rfl | go_num, HD.out.trans HNX.out, HX.out.trans (by with_reducible repeat' (first | exact Ext.refl _ | exact ExtOf.ext _ | refine Ext.trans ?_ (ExtOf.ext _) | refine Ext.alloc ?_ _ | refine Ext.drew ?_ | refine Ext.setCell ?_ ?_ _ | refine Ext.setRow ?_ ?_ _ | exact HX.out | refine Ext.trans ?_ HX.out | omega | (simp; done) | (simp; omega))), inferInstance⟩
                    case measure => simp [intOf]; omega
                  · have HB := Lib.hid (HT.out.trans (HD.out.trans (HF.out 27 (typ_bad (by show (!(isCond aop == wants 2)) = true; rw [ht]; rfl)) (by decide))))
                    go_wp2_with (first | ((with_reducible refine wl_loadM midEx (Ext.range ?_ (Hid.out HR)) ?_ ?_ ?_ ?_); (· with_reducible repeat' (first | exact Ext.refl _ | exact ExtOf.ext _ | refine Ext.trans ?_ (ExtOf.ext _) | refine Ext.alloc ?_ _ | refine Ext.drew ?_ | refine Ext.setCell ?_ ?_ _ | refine Ext.setRow ?_ ?_ _ | exact HX.out | refine Ext.trans ?_ HX.out | omega | (simp; done) | (simp; omega))); (· rfl); (· (first | exact wanted_none rfl | exact wanted_some rfl rfl rfl)); (· rfl)) | ((with_reducible apply wl_store' lwEx); (· (first | exact wanted_none rfl | exact wanted_some rfl rfl rfl)); (· rfl); (· rfl); (· infer_instance); (· rfl); (· rfl); (· (simp [Value.oneCell', SlT.v])); try simp only [setRow_alloc, setRow_new, setRow_new1, setRow_new2, setRow_new11, setRow_new111]))
                    try simp only [Act.put, List.setIfInBounds_toArray, List.set_cons_succ, List.set_cons_zero]
                    refine wp_region_ext (by kernel_rfl) (by kernel_rfl) ?_
                    repeat (first | go_big_quiet_skip | go_big_quiet_step ((first | (go_at_call 83; exact ext_call (isCondition_w _ _)) | (go_at_call 135; exact ext_call (takesConditions_w _ _)))))
                    refine wpQuiet_nil ?_
                    intro _ hw'
                    obtain ⟨nq, hw''⟩ := hw'
                    subst hw''
                    go_wp2_with fail
                    go_ret
                    exact ⟨ret_int HB.out.symm, ExtOf.of (HX.out.trans (by with_reducible repeat' (first | exact Ext.refl _ | exact ExtOf.ext _ | refine Ext.trans ?_ (ExtOf.ext _) | refine Ext.alloc ?_ _ | refine Ext.drew ?_ | refine Ext.setCell ?_ ?_ _ | refine Ext.setRow ?_ ?_ _ | exact HX.out | refine Ext.trans ?_ HX.out | omega | (simp; done) | (simp; omega))))⟩
                · obtain rfl : k = args.length := by omega
                  have HB := Lib.hid (HT.out.trans (HD.out.trans (scanAt_end _ _ (Nat.le_refl _))))
                  go_wp2_with fail
                  go_ret
                  exact ⟨ret_int HB.out.symm, ExtOf.of HX.out⟩
            · have HB : Hid (visitE nms (d + 1) ⟨2, num, nm, ⟨q, args.length, cap⟩, args⟩ = 5) := Lib.hid (HE.out.trans (self_syn hop (by unfold synB; simp only [EX.op, EX.num, EX.nm, EX.args, tk]; first | rfl | simp)))
              go_wp2_with fail
              refine wp_region_ext (by kernel_rfl) (by kernel_rfl) ?_
              repeat (first | go_big_quiet_skip | go_big_quiet_step ((go_at_call 132; exact ext_call (takes_w _ _))))
              refine wpQuiet_nil ?_
              intro _ hw'
              obtain ⟨nq, hw''⟩ := hw'
              subst hw''
              go_wp2_with (first | (go_at_call 133; refine (contains_any nms _ nm _ (SliceOf.ext HN.out (HX.out.trans (by with_reducible repeat' (first | exact Ext.refl _ | exact ExtOf.ext _ | refine Ext.trans ?_ (ExtOf.ext _) | refine Ext.alloc ?_ _ | refine Ext.drew ?_ | refine Ext.setCell ?_ ?_ _ | refine Ext.setRow ?_ ?_ _ | exact HX.out | refine Ext.trans ?_ HX.out | omega | (simp; done) | (simp; omega)))))).mono ?_; rintro e w' ⟨rfl, nc, rfl⟩) | (go_at_call 134; refine (bounded_any num _).mono ?_; rintro e w' ⟨rfl, rfl⟩))
              go_ret
              exact ⟨ret_int HB.out.symm, ExtOf.of (HX.out.trans (by with_reducible repeat' (first | exact Ext.refl _ | exact ExtOf.ext _ | refine Ext.trans ?_ (ExtOf.ext _) | refine Ext.alloc ?_ _ | refine Ext.drew ?_ | refine Ext.setCell ?_ ?_ _ | refine Ext.setRow ?_ ?_ _ | exact HX.out | refine Ext.trans ?_ HX.out | omega | (simp; done) | (simp; omega))))⟩
        have p1 : (op != 1) = true := bne_iff_ne.2 o1
        have p2 : (op != 2) = true := bne_iff_ne.2 o2
        have e1 : (op == 1) = false := beq_eq_false_iff_ne.2 o1
        have e2 : (op == 2) = false := beq_eq_false_iff_ne.2 o2
        have O1 := Lib.hid o1
        have O2 := Lib.hid o2
        clear o1 o2
        rcases n0 : (num != 0) with _ | _
        case true =>
          have HB : Hid (visitE nms (d + 1) ⟨op, num, nm, ⟨q, args.length, cap⟩, args⟩ = 5) := Lib.hid (HE.out.trans (self_syn hop (by unfold synB; simp only [EX.op, EX.num, EX.nm, EX.args, n0, p1]; first | rfl | simp)))
          go_wp2_with fail
          refine wp_region_ext (by kernel_rfl) (by kernel_rfl) ?_
          repeat (first | go_big_quiet_skip | go_big_quiet_step ((go_at_call 132; exact ext_call (takes_w _ _))))
          refine wpQuiet_nil ?_
          intro _ hw'
          obtain ⟨nq, hw''⟩ := hw'
          subst hw''
          go_wp2_with (first | (go_at_call 133; refine (contains_any nms _ nm _ (SliceOf.ext HN.out (HX.out.trans (by with_reducible repeat' (first | exact Ext.refl _ | exact ExtOf.ext _ | refine Ext.trans ?_ (ExtOf.ext _) | refine Ext.alloc ?_ _ | refine Ext.drew ?_ | refine Ext.setCell ?_ ?_ _ | refine Ext.setRow ?_ ?_ _ | exact HX.out | refine Ext.trans ?_ HX.out | omega | (simp; done) | (simp; omega)))))).mono ?_; rintro e w' ⟨rfl, nc, rfl⟩) | (go_at_call 134; refine (bounded_any num _).mono ?_; rintro e w' ⟨rfl, rfl⟩))
          go_ret
          exact ⟨ret_int HB.out.symm, ExtOf.of (HX.out.trans (by with_reducible repeat' (first | exact Ext.refl _ | exact ExtOf.ext _ | refine Ext.trans ?_ (ExtOf.ext _) | refine Ext.alloc ?_ _ | refine Ext.drew ?_ | refine Ext.setCell ?_ ?_ _ | refine Ext.setRow ?_ ?_ _ | exact HX.out | refine Ext.trans ?_ HX.out | omega | (simp; done) | (simp; omega))))⟩
        rcases he : nm.toList.isEmpty with _ | _
        · have HB : Hid (visitE nms (d + 1) ⟨op, num, nm, ⟨q, args.length, cap⟩, args⟩ = 5) := Lib.hid (HE.out.trans (self_syn hop (by unfold synB; simp only [EX.op, EX.num, EX.nm, EX.args, he, p2]; first | rfl | simp)))
          go_wp2_with fail
          refine wp_region_ext (by kernel_rfl) (by kernel_rfl) ?_
          repeat (first | go_big_quiet_skip | go_big_quiet_step ((go_at_call 132; exact ext_call (takes_w _ _))))
          refine wpQuiet_nil ?_
          intro _ hw'
          obtain ⟨nq, hw''⟩ := hw'
          subst hw''
          go_wp2_with (first | (go_at_call 133; refine (contains_any nms _ nm _ (SliceOf.ext HN.out (HX.out.trans (by with_reducible repeat' (first | exact Ext.refl _ | exact ExtOf.ext _ | refine Ext.trans ?_ (ExtOf.ext _) | refine Ext.alloc ?_ _ | refine Ext.drew ?_ | refine Ext.setCell ?_ ?_ _ | refine Ext.setRow ?_ ?_ _ | exact HX.out | refine Ext.trans ?_ HX.out | omega | (simp; done) | (simp; omega)))))).mono ?_; rintro e w' ⟨rfl, nc, rfl⟩) | (go_at_call 134; refine (bounded_any num _).mono ?_; rintro e w' ⟨rfl, rfl⟩))
          go_ret
          exact ⟨ret_int HB.out.symm, ExtOf.of (HX.out.trans (by with_reducible repeat' (first | exact Ext.refl _ | exact ExtOf.ext _ | refine Ext.trans ?_ (ExtOf.ext _) | refine Ext.alloc ?_ _ | refine Ext.drew ?_ | refine Ext.setCell ?_ ?_ _ | refine Ext.setRow ?_ ?_ _ | exact HX.out | refine Ext.trans ?_ HX.out | omega | (simp; done) | (simp; omega))))⟩
        rcases tk : ((args.length : Int) != StM.takes op) with _ | _
        case true =>
          have HB : Hid (visitE nms (d + 1) ⟨op, num, nm, ⟨q, args.length, cap⟩, args⟩ = 5) := Lib.hid (HE.out.trans (self_syn hop (by unfold synB; simp only [EX.op, EX.num, EX.nm, EX.args, tk]; first | rfl | simp)))
          go_wp2_with fail
          refine wp_region_ext (by kernel_rfl) (by kernel_rfl) ?_
          repeat (first | go_big_quiet_skip | go_big_quiet_step ((go_at_call 132; exact ext_call (takes_w _ _))))
          refine wpQuiet_nil ?_
          intro _ hw'
          obtain ⟨nq, hw''⟩ := hw'
          subst hw''
          go_wp2_with (first | (go_at_call 133; refine (contains_any nms _ nm _ (SliceOf.ext HN.out (HX.out.trans (by with_reducible repeat' (first | exact Ext.refl _ | exact ExtOf.ext _ | refine Ext.trans ?_ (ExtOf.ext _) | refine Ext.alloc ?_ _ | refine Ext.drew ?_ | refine Ext.setCell ?_ ?_ _ | refine Ext.setRow ?_ ?_ _ | exact HX.out | refine Ext.trans ?_ HX.out | omega | (simp; done) | (simp; omega)))))).mono ?_; rintro e w' ⟨rfl, nc, rfl⟩) | (go_at_call 134; refine (bounded_any num _).mono ?_; rintro e w' ⟨rfl, rfl⟩))
          go_ret
          exact ⟨ret_int HB.out.symm, ExtOf.of (HX.out.trans (by with_reducible repeat' (first | exact Ext.refl _ | exact ExtOf.ext _ | refine Ext.trans ?_ (ExtOf.ext _) | refine Ext.alloc ?_ _ | refine Ext.drew ?_ | refine Ext.setCell ?_ ?_ _ | refine Ext.setRow ?_ ?_ _ | exact HX.out | refine Ext.trans ?_ HX.out | omega | (simp; done) | (simp; omega))))⟩
        have hsyn : Hid (synB ⟨op, num, nm, ⟨q, args.length, cap⟩, args⟩ = false) := Lib.hid (by unfold synB; simp only [EX.op, EX.num, EX.nm, EX.args, he, tk, n0]; simp)
        have HT : Hid (visitE nms (d + 1) ⟨op, num, nm, ⟨q, args.length, cap⟩, args⟩ = scanAt (typE op) args 0) := Lib.hid (HE.out.trans (self_typ hop hsyn.out (fun h => absurd h O2.out) (fun h => absurd h O1.out)))
        go_wp2_with fail
        refine wp_region_ext (by kernel_rfl) (by kernel_rfl) ?_
        repeat (first | go_big_quiet_skip | go_big_quiet_step ((go_at_call 132; exact ext_call (takes_w _ _))))
        refine wpQuiet_nil ?_
        intro _ hw'
        obtain ⟨nq, hw''⟩ := hw'
        subst hw''
        go_wp2_with (first | (go_at_call 133; refine (contains_any nms _ nm _ (SliceOf.ext HN.out (HX.out.trans (by with_reducible repeat' (first | exact Ext.refl _ | exact ExtOf.ext _ | refine Ext.trans ?_ (ExtOf.ext _) | refine Ext.alloc ?_ _ | refine Ext.drew ?_ | refine Ext.setCell ?_ ?_ _ | refine Ext.setRow ?_ ?_ _ | exact HX.out | refine Ext.trans ?_ HX.out | omega | (simp; done) | (simp; omega)))))).mono ?_; rintro e w' ⟨rfl, nc, rfl⟩) | (go_at_call 134; refine (bounded_any num _).mono ?_; rintro e w' ⟨rfl, rfl⟩))
        go_loopw [87] (fun vi wz => ∃ k : Nat, k ≤ args.length ∧ vi = .int .i64 k ∧ scanAt (typE op) args 0 = scanAt (typE op) args k ∧ Ext w wz ∧ Block wz g #[.int .i64 op, .int .i64 num, .string nm, .slice q args.length cap]) (fun i _ => args.length - (intOf i).toNat)
        case atStart => exact ⟨0, by omega, rfl, rfl, HX.out.trans (by with_reducible repeat' (first | exact Ext.refl _ | exact ExtOf.ext _ | refine Ext.trans ?_ (ExtOf.ext _) | refine Ext.alloc ?_ _ | refine Ext.drew ?_ | refine Ext.setCell ?_ ?_ _ | refine Ext.setRow ?_ ?_ _ | exact HX.out | refine Ext.trans ?_ HX.out | omega | (simp; done) | (simp; omega))), inferInstance⟩
        case round =>
          obtain ⟨k, hk, rfl, hd, hx, hbk⟩ := hrel
          have HX := Lib.hid hx
          have HD := Lib.hid hd
          have obk := hbk.old
          clear hx hd
          by_cases hlt : k < args.length
          · obtain ⟨b, off, rfl, ob, hr⟩ := SliceOf.elemO (SliceOf.ext H.out HX.out) hlt (by decide) (encEX_len _)
            have hda := HA.out _ (List.getElem_mem hlt)
            have HF := Lib.hid (fun e => scanAt_bad (typE op) args hlt (e := e))
            have HG := Lib.hid (scanAt_ok (typE op) args hlt)
            obtain ⟨⟨aop, anum, anm, ahd, aargs⟩, he⟩ : ∃ z, z = args[k] := ⟨_, rfl⟩
            rw [← he] at hr hda HF HG
            clear he
            have HDA : Hid (ExD d wr ⟨aop, anum, anm, ahd, aargs⟩) := Lib.hid (hda.ext HX.out)
            have HR : Hid (wr.rangeAt b (off + k * 4) [.int .i64 aop, .int .i64 anum, .string anm, ahd.v]) := Lib.hid hr
            clear hr hda
            rcases ht : (isCond aop == wants op) with _ | _
            rotate_left
            · have HNX := Lib.hid (HG.out (typ_ok (by show (!(isCond aop == wants op)) = false; rw [ht]; rfl)))
              go_wp2_with (first | ((with_reducible refine wl_loadM midEx (Ext.range ?_ (Hid.out HR)) ?_ ?_ ?_ ?_); (· with_reducible repeat' (first | exact Ext.refl _ | exact ExtOf.ext _ | refine Ext.trans ?_ (ExtOf.ext _) | refine Ext.alloc ?_ _ | refine Ext.drew ?_ | refine Ext.setCell ?_ ?_ _ | refine Ext.setRow ?_ ?_ _ | exact HX.out | refine Ext.trans ?_ HX.out | omega | (simp; done) | (simp; omega))); (· rfl); (· (first | exact wanted_none rfl | exact wanted_some rfl rfl rfl)); (· rfl)) | ((with_reducible apply wl_store' lwEx); (· (first | exact wanted_none rfl | exact wanted_some rfl rfl rfl)); (· rfl); (· rfl); (· infer_instance); (· rfl); (· rfl); (· (simp [Value.oneCell', SlT.v])); try simp only [setRow_alloc, setRow_new, setRow_new1, setRow_new2, setRow_new11, setRow_new111]))
              try simp only [Act.put, List.setIfInBounds_toArray, List.set_cons_succ, List.set_cons_zero]
              refine wp_region_ext (by kernel_rfl) (by kernel_rfl) ?_
              repeat (first | go_big_quiet_skip | go_big_quiet_step ((first | (go_at_call 83; exact ext_call (isCondition_w _ _)) | (go_at_call 135; exact ext_call (takesConditions_w _ _)))))
              refine wpQuiet_nil ?_
              intro _ hw'
              obtain ⟨nq, hw''⟩ := hw'
              subst hw''
              go_wp2_with fail
              go_roundw
              case rel => exact ⟨k + 1, by omega, by first | rfl | go_num, HD.out.trans HNX.out, HX.out.trans (by with_reducible repeat' (first | exact Ext.refl _ | exact ExtOf.ext _ | refine Ext.trans ?_ (ExtOf.ext _) | refine Ext.alloc ?_ _ | refine Ext.drew ?_ | refine Ext.setCell ?_ ?_ _ | refine Ext.setRow ?_ ?_ _ | exact HX.out | refine Ext.trans ?_ HX.out | omega | (simp; done) | (simp; omega))), inferInstance⟩
              case measure => simp [intOf]; omega
            · have HB := Lib.hid (HT.out.trans (HD.out.trans (HF.out 27 (typ_bad (by show (!(isCond aop == wants op)) = true; rw [ht]; rfl)) (by decide))))
              go_wp2_with (first | ((with_reducible refine wl_loadM midEx (Ext.range ?_ (Hid.out HR)) ?_ ?_ ?_ ?_); (· with_reducible repeat' (first | exact Ext.refl _ | exact ExtOf.ext _ | refine Ext.trans ?_ (ExtOf.ext _) | refine Ext.alloc ?_ _ | refine Ext.drew ?_ | refine Ext.setCell ?_ ?_ _ | refine Ext.setRow ?_ ?_ _ | exact HX.out | refine Ext.trans ?_ HX.out | omega | (simp; done) | (simp; omega))); (· rfl); (· (first | exact wanted_none rfl | exact wanted_some rfl rfl rfl)); (· rfl)) | ((with_reducible apply wl_store' lwEx); (· (first | exact wanted_none rfl | exact wanted_some rfl rfl rfl)); (· rfl); (· rfl); (· infer_instance); (· rfl); (· rfl); (· (simp [Value.oneCell', SlT.v])); try simp only [setRow_alloc, setRow_new, setRow_new1, setRow_new2, setRow_new11, setRow_new111]))
              try simp only [Act.put, List.setIfInBounds_toArray, List.set_cons_succ, List.set_cons_zero]
              refine wp_region_ext (by kernel_rfl) (by kernel_rfl) ?_
              repeat (first | go_big_quiet_skip | go_big_quiet_step ((first | (go_at_call 83; exact ext_call (isCondition_w _ _)) | (go_at_call 135; exact ext_call (takesConditions_w _ _)))))
              refine wpQuiet_nil ?_
              intro _ hw'
              obtain ⟨nq, hw''⟩ := hw'
              subst hw''
              go_wp2_with fail
              go_ret
              exact ⟨ret_int HB.out.symm, ExtOf.of (HX.out.trans (by with_reducible repeat' (first | exact Ext.refl _ | exact ExtOf.ext _ | refine Ext.trans ?_ (ExtOf.ext _) | refine Ext.alloc ?_ _ | refine Ext.drew ?_ | refine Ext.setCell ?_ ?_ _ | refine Ext.setRow ?_ ?_ _ | exact HX.out | refine Ext.trans ?_ HX.out | omega | (simp; done) | (simp; omega))))⟩
          · obtain rfl : k = args.length := by omega
            have HB := Lib.hid (HT.out.trans (HD.out.trans (scanAt_end _ _ (Nat.le_refl _))))
            go_wp2_with fail
            go_ret
            exact ⟨ret_int HB.out.symm, ExtOf.of HX.out⟩
end Go.Proofs.YteokijolhbohaaaGreatDoor
end
