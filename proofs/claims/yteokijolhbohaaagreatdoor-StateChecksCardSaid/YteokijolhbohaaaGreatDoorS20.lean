/-
  Chapter 59: an expression is visited, the reference.
-/
import Derived.Test.YteokijolhbohaaaGreatDoorK18
import Derived.Deep.DeepCutAuto
import Derived.Deep.DeepCutAuto
set_option linter.unusedVariables false
set_option linter.unusedSimpArgs false
namespace Go.Proofs.YteokijolhbohaaaGreatDoor
open Go.RowKit StM

attribute [local go_sem] ExtOf.cell ExtOf.frozen Block.cell Block.frozen ExtB.cell ExtB.frozen alloc_cell alloc_frozen
theorem rtakes_w (op : Int) (w : World) : Calls Tryz.prog 136 #[.int .i64 op] w fun e w' => e = .returned (.int .i64 (tkR op)) ∧ ∃ n : ExtOf w, w' = n.val := (rtakes_any op w).mono fun e w' h => ⟨h.1, ExtOf.of (by rw [h.2]; exact Ext.refl _)⟩
theorem rcondition_w (op : Int) (w : World) : Calls Tryz.prog 88 #[.int .i64 op] w fun e w' => e = .returned (.bool (isCond op)) ∧ ∃ n : ExtOf w, w' = n.val := (rcondition_any op w).mono fun e w' h => ⟨h.1, ExtOf.of (by rw [h.2]; exact Ext.refl _)⟩
theorem rwants_w (op : Int) (w : World) : Calls Tryz.prog 139 #[.int .i64 op] w fun e w' => e = .returned (.bool (wants op)) ∧ ∃ n : ExtOf w, w' = n.val := (rwants_any op w).mono fun e w' h => ⟨h.1, ExtOf.of (by rw [h.2]; exact Ext.refl _)⟩
theorem tkR_ok {op : Int} (h : ¬ (op < 1 ∨ 11 < op)) : tkR op = StM.takes op := by unfold tkR; rw [if_neg h]
theorem tk_nn (op : Int) : 0 ≤ StM.takes op := by unfold StM.takes; split; decide; split <;> decide
set_option maxHeartbeats 3200000 in
set_option maxRecDepth 20000 in
theorem rvisit_any (nms : List ByteArray) (pn : Option Addr) (cn : Nat) : ∀ (d : Nat), d ≤ 8 → ∀ (x : EX) (w : World), ExD d w x → StrS w (.slice pn nms.length cn) nms →
    Calls Tryz.prog 87 #[.agg #[.int .i64 x.op, .int .i64 x.num, .string x.nm, x.hd.v], .slice pn nms.length cn, .int .i64 (9 - (d : Int))] w fun e w' => e = .returned (.int .i64 (visitE nms d x)) ∧ ∃ n : ExtOf w, w' = n.val := by
  intro d
  induction d with
  | zero =>
    intro _ x w _ hn
    obtain ⟨op, num, nm, ⟨q, n, cap⟩, args⟩ := x
    unfold SlT.v
    simp only [EX.op, EX.num, EX.nm, EX.hd]
    go_enter Tryz.func87, Tryz.ntmps87
    go_wp2_with fail
    go_ret
    exact ⟨rfl, by exact ExtOf.of (by with_reducible repeat' (first | exact Ext.refl _ | exact ExtOf.ext _ | refine Ext.trans ?_ (ExtOf.ext _) | refine Ext.alloc ?_ _ | refine Ext.drew ?_ | refine Ext.setCell ?_ ?_ _ | refine Ext.setRow ?_ ?_ _ | exact HX.out | refine Ext.trans ?_ HX.out | omega | (simp; done) | (simp; omega)))⟩
  | succ d ih =>
    intro hd8 x w hx hn
    obtain ⟨op, num, nm, ⟨q, n, cap⟩, args⟩ := x
    obtain ⟨hs, ha⟩ := hx
    simp only [EX.hd, EX.args, SlT.v] at hs ha
    unfold SlT.v
    simp only [EX.op, EX.num, EX.nm, EX.hd]
    obtain ⟨q', cap', hq, hc1, hc2, hc3⟩ := SliceOf.form hs
    simp only [Value.slice.injEq] at hq
    obtain ⟨rfl, rfl, rfl⟩ := hq
    unfold maxLen at hc2
    have H := Lib.hid hs
    have HA := Lib.hid ha
    have HN := Lib.hid hn
    have HS := Lib.hid (fun e => visitE_sub (nms := nms) (d := d) (x := ⟨op, num, nm, ⟨q, args.length, cap⟩, args⟩) (e := e))
    have HV := Lib.hid (visitE_self (nms := nms) (d := d) (x := ⟨op, num, nm, ⟨q, args.length, cap⟩, args⟩))
    clear hs ha hn
    have hlv : ((9 - ((d + 1 : Nat) : Int))) + 1 = 9 - (d : Int) := by omega
    obtain ⟨lev, hl⟩ : ∃ lev : Int, lev = 9 - ((d + 1 : Nat) : Int) := ⟨_, rfl⟩
    rw [← hl] at hlv ⊢
    have hlb : lev ≤ 8 := by omega
    have hlb2 : 0 < lev := by omega
    have q8 : decide (8 < lev) = false := decide_eq_false (by omega)
    have IH : Hid (∀ (x : EX) (w : World), ExD d w x → StrS w (.slice pn nms.length cn) nms → Calls Tryz.prog 87 #[.agg #[.int .i64 x.op, .int .i64 x.num, .string x.nm, x.hd.v], .slice pn nms.length cn, .int .i64 (lev + 1)] w fun e w' => e = .returned (.int .i64 (visitE nms d x)) ∧ ∃ n : ExtOf w, w' = n.val) := Lib.hid (by rw [hlv]; exact ih (by omega))
    clear ih hl hlv
    go_enter Tryz.func87, Tryz.ntmps87
    go_wp2_with fail
    have hb0 : Block (w.alloc (.cells #[.int .i64 op, .int .i64 num, .string nm, .slice q args.length cap] 49)) w.heap.size #[.int .i64 op, .int .i64 num, .string nm, .slice q args.length cap] := inferInstance
    obtain ⟨g, hg⟩ : ∃ g, g = w.heap.size := ⟨_, rfl⟩
    rw [← hg] at hb0 ⊢
    clear hg
    go_loopw [7] (fun vi wr => ∃ k : Nat, k ≤ args.length ∧ vi = .int .i64 k ∧ scanAt (visF nms d) args 0 = scanAt (visF nms d) args k ∧ Ext w wr ∧ Block wr g #[.int .i64 op, .int .i64 num, .string nm, .slice q args.length cap]) (fun i _ => args.length - (intOf i).toNat)
    case atStart => exact ⟨0, by omega, rfl, rfl, by with_reducible repeat' (first | exact Ext.refl _ | exact ExtOf.ext _ | refine Ext.trans ?_ (ExtOf.ext _) | refine Ext.alloc ?_ _ | refine Ext.drew ?_ | refine Ext.setCell ?_ ?_ _ | refine Ext.setRow ?_ ?_ _ | exact HX.out | refine Ext.trans ?_ HX.out | omega | (simp; done) | (simp; omega)), hb0⟩
    case round =>
      clear hb0
      obtain ⟨k, hk, rfl, hd, hx, hbk⟩ := hrel
      have HX := Lib.hid hx
      have HD := Lib.hid hd
      have obk := hbk.old
      clear hx hd
      by_cases hlt : k < args.length
      · obtain ⟨b, off, rfl, ob, hr⟩ := SliceOf.elemO (SliceOf.ext H.out HX.out) hlt (by decide) (encEX_len _)
        have hda := HA.out _ (List.getElem_mem hlt)
        have HF := Lib.hid (fun e => scanAt_bad (visF nms d) args hlt (e := e))
        have HG := Lib.hid (scanAt_ok (visF nms d) args hlt)
        obtain ⟨⟨aop, anum, anm, ahd, aargs⟩, he⟩ : ∃ z, z = args[k] := ⟨_, rfl⟩
        rw [← he] at hr hda HF HG
        clear he
        have HDA : Hid (ExD d wr ⟨aop, anum, anm, ahd, aargs⟩) := Lib.hid (hda.ext HX.out)
        have HR : Hid (wr.rangeAt b (off + k * 4) [.int .i64 aop, .int .i64 anum, .string anm, ahd.v]) := Lib.hid hr
        clear hr hda
        by_cases h0 : visitE nms d ⟨aop, anum, anm, ahd, aargs⟩ = 0
        · have h1 : (visitE nms d ⟨aop, anum, anm, ahd, aargs⟩ != 0) = false := bne_eq_false_iff_eq.2 h0
          have HNX := Lib.hid (HG.out h0)
          clear h0
          go_wp2_with (first | ((with_reducible refine wl_loadM midEx (Ext.range ?_ (Hid.out HR)) ?_ ?_ ?_ ?_); (· with_reducible repeat' (first | exact Ext.refl _ | exact ExtOf.ext _ | refine Ext.trans ?_ (ExtOf.ext _) | refine Ext.alloc ?_ _ | refine Ext.drew ?_ | refine Ext.setCell ?_ ?_ _ | refine Ext.setRow ?_ ?_ _ | exact HX.out | refine Ext.trans ?_ HX.out | omega | (simp; done) | (simp; omega))); (· rfl); (· (first | exact wanted_none rfl | exact wanted_some rfl rfl rfl)); (· rfl)) | ((with_reducible apply wl_store' lwEx); (· (first | exact wanted_none rfl | exact wanted_some rfl rfl rfl)); (· rfl); (· rfl); (· infer_instance); (· rfl); (· rfl); (· (simp [Value.oneCell', SlT.v])); try simp only [setRow_alloc, setRow_new, setRow_new1, setRow_new2, setRow_new11, setRow_new111]) | ((with_reducible apply wl_load' lwEx); (· (first | exact wanted_none rfl | exact wanted_some rfl rfl rfl)); (· rfl); (· infer_instance); (· rfl)) | (go_at_call 87; refine (IH.out ⟨aop, anum, anm, ahd, aargs⟩ _ (HDA.out.ext (by with_reducible repeat' (first | exact Ext.refl _ | exact ExtOf.ext _ | refine Ext.trans ?_ (ExtOf.ext _) | refine Ext.alloc ?_ _ | refine Ext.drew ?_ | refine Ext.setCell ?_ ?_ _ | refine Ext.setRow ?_ ?_ _ | exact HX.out | refine Ext.trans ?_ HX.out | omega | (simp; done) | (simp; omega)))) (SliceOf.ext HN.out (HX.out.trans (by with_reducible repeat' (first | exact Ext.refl _ | exact ExtOf.ext _ | refine Ext.trans ?_ (ExtOf.ext _) | refine Ext.alloc ?_ _ | refine Ext.drew ?_ | refine Ext.setCell ?_ ?_ _ | refine Ext.setRow ?_ ?_ _ | exact HX.out | refine Ext.trans ?_ HX.out | omega | (simp; done) | (simp; omega)))))).mono ?_; rintro e w' ⟨rfl, nn, rfl⟩))
          go_roundw
          case rel => exact ⟨k + 1, by omega, by first | rfl | go_num, HD.out.trans HNX.out, HX.out.trans (by with_reducible repeat' (first | exact Ext.refl _ | exact ExtOf.ext _ | refine Ext.trans ?_ (ExtOf.ext _) | refine Ext.alloc ?_ _ | refine Ext.drew ?_ | refine Ext.setCell ?_ ?_ _ | refine Ext.setRow ?_ ?_ _ | exact HX.out | refine Ext.trans ?_ HX.out | omega | (simp; done) | (simp; omega))), inferInstance⟩
          case measure => simp [intOf]; omega
        · have h1 : (visitE nms d ⟨aop, anum, anm, ahd, aargs⟩ != 0) = true := bne_iff_ne.2 h0
          have HB := Lib.hid (HS.out _ (HD.out.trans (HF.out _ rfl h0)) h0)
          clear h0
          go_wp2_with (first | ((with_reducible refine wl_loadM midEx (Ext.range ?_ (Hid.out HR)) ?_ ?_ ?_ ?_); (· with_reducible repeat' (first | exact Ext.refl _ | exact ExtOf.ext _ | refine Ext.trans ?_ (ExtOf.ext _) | refine Ext.alloc ?_ _ | refine Ext.drew ?_ | refine Ext.setCell ?_ ?_ _ | refine Ext.setRow ?_ ?_ _ | exact HX.out | refine Ext.trans ?_ HX.out | omega | (simp; done) | (simp; omega))); (· rfl); (· (first | exact wanted_none rfl | exact wanted_some rfl rfl rfl)); (· rfl)) | ((with_reducible apply wl_store' lwEx); (· (first | exact wanted_none rfl | exact wanted_some rfl rfl rfl)); (· rfl); (· rfl); (· infer_instance); (· rfl); (· rfl); (· (simp [Value.oneCell', SlT.v])); try simp only [setRow_alloc, setRow_new, setRow_new1, setRow_new2, setRow_new11, setRow_new111]) | ((with_reducible apply wl_load' lwEx); (· (first | exact wanted_none rfl | exact wanted_some rfl rfl rfl)); (· rfl); (· infer_instance); (· rfl)) | (go_at_call 87; refine (IH.out ⟨aop, anum, anm, ahd, aargs⟩ _ (HDA.out.ext (by with_reducible repeat' (first | exact Ext.refl _ | exact ExtOf.ext _ | refine Ext.trans ?_ (ExtOf.ext _) | refine Ext.alloc ?_ _ | refine Ext.drew ?_ | refine Ext.setCell ?_ ?_ _ | refine Ext.setRow ?_ ?_ _ | exact HX.out | refine Ext.trans ?_ HX.out | omega | (simp; done) | (simp; omega)))) (SliceOf.ext HN.out (HX.out.trans (by with_reducible repeat' (first | exact Ext.refl _ | exact ExtOf.ext _ | refine Ext.trans ?_ (ExtOf.ext _) | refine Ext.alloc ?_ _ | refine Ext.drew ?_ | refine Ext.setCell ?_ ?_ _ | refine Ext.setRow ?_ ?_ _ | exact HX.out | refine Ext.trans ?_ HX.out | omega | (simp; done) | (simp; omega)))))).mono ?_; rintro e w' ⟨rfl, nn, rfl⟩))
          go_ret
          exact ⟨ret_int HB.out.symm, ExtOf.of (HX.out.trans (by with_reducible repeat' (first | exact Ext.refl _ | exact ExtOf.ext _ | refine Ext.trans ?_ (ExtOf.ext _) | refine Ext.alloc ?_ _ | refine Ext.drew ?_ | refine Ext.setCell ?_ ?_ _ | refine Ext.setRow ?_ ?_ _ | exact HX.out | refine Ext.trans ?_ HX.out | omega | (simp; done) | (simp; omega))))⟩
      · obtain rfl : k = args.length := by omega
        have HE : Hid (visitE nms (d + 1) ⟨op, num, nm, ⟨q, args.length, cap⟩, args⟩ = selfE nms ⟨op, num, nm, ⟨q, args.length, cap⟩, args⟩) := Lib.hid (HV.out (HD.out.trans (scanAt_end _ _ (Nat.le_refl _))))
        clear HS HV HD IH
        by_cases a1 : op < 1 ∨ 11 < op
        · have HB : Hid (visitE nms (d + 1) ⟨op, num, nm, ⟨q, args.length, cap⟩, args⟩ = 10) := Lib.hid (HE.out.trans (self_kind a1))
          have HK : Hid (tkR op = -1) := Lib.hid (by unfold tkR; rw [if_pos a1])
          clear a1
          go_wp2_with (first | (go_at_call 137; refine (rin_any nms _ nm _ (SliceOf.ext HN.out (HX.out.trans (by with_reducible repeat' (first | exact Ext.refl _ | exact ExtOf.ext _ | refine Ext.trans ?_ (ExtOf.ext _) | refine Ext.alloc ?_ _ | refine Ext.drew ?_ | refine Ext.setCell ?_ ?_ _ | refine Ext.setRow ?_ ?_ _ | exact HX.out | refine Ext.trans ?_ HX.out | omega | (simp; done) | (simp; omega)))))).mono ?_; rintro e w' ⟨rfl, nc, rfl⟩) | (go_at_call 138; refine (rbig_any num _).mono ?_; rintro e w' ⟨rfl, rfl⟩) | (go_at_call 136; refine (rtakes_any _ _).mono ?_; rintro e w' ⟨rfl, rfl⟩; rw [HK.out]))
          go_ret
          exact ⟨ret_int HB.out.symm, ExtOf.of (HX.out.trans (by with_reducible repeat' (first | exact Ext.refl _ | exact ExtOf.ext _ | refine Ext.trans ?_ (ExtOf.ext _) | refine Ext.alloc ?_ _ | refine Ext.drew ?_ | refine Ext.setCell ?_ ?_ _ | refine Ext.setRow ?_ ?_ _ | exact HX.out | refine Ext.trans ?_ HX.out | omega | (simp; done) | (simp; omega))))⟩
        have hop := Lib.hid a1
        have HK : Hid (tkR op = StM.takes op) := Lib.hid (tkR_ok a1)
        have qt : decide (StM.takes op < 0) = false := decide_eq_false (by have := tk_nn op; omega)
        clear a1
        rcases tk : ((args.length : Int) != StM.takes op) with _ | _
        case true =>
          have HB : Hid (visitE nms (d + 1) ⟨op, num, nm, ⟨q, args.length, cap⟩, args⟩ = 5) := Lib.hid (HE.out.trans (self_syn hop.out (by unfold synB; simp only [EX.op, EX.num, EX.nm, EX.args, tk]; first | rfl | simp)))
          go_wp2_with (first | (go_at_call 137; refine (rin_any nms _ nm _ (SliceOf.ext HN.out (HX.out.trans (by with_reducible repeat' (first | exact Ext.refl _ | exact ExtOf.ext _ | refine Ext.trans ?_ (ExtOf.ext _) | refine Ext.alloc ?_ _ | refine Ext.drew ?_ | refine Ext.setCell ?_ ?_ _ | refine Ext.setRow ?_ ?_ _ | exact HX.out | refine Ext.trans ?_ HX.out | omega | (simp; done) | (simp; omega)))))).mono ?_; rintro e w' ⟨rfl, nc, rfl⟩) | (go_at_call 138; refine (rbig_any num _).mono ?_; rintro e w' ⟨rfl, rfl⟩) | (go_at_call 136; refine (rtakes_any _ _).mono ?_; rintro e w' ⟨rfl, rfl⟩; rw [HK.out]))
          go_wp2_with (first | (go_at_call 137; refine (rin_any nms _ nm _ (SliceOf.ext HN.out (HX.out.trans (by with_reducible repeat' (first | exact Ext.refl _ | exact ExtOf.ext _ | refine Ext.trans ?_ (ExtOf.ext _) | refine Ext.alloc ?_ _ | refine Ext.drew ?_ | refine Ext.setCell ?_ ?_ _ | refine Ext.setRow ?_ ?_ _ | exact HX.out | refine Ext.trans ?_ HX.out | omega | (simp; done) | (simp; omega)))))).mono ?_; rintro e w' ⟨rfl, nc, rfl⟩) | (go_at_call 138; refine (rbig_any num _).mono ?_; rintro e w' ⟨rfl, rfl⟩) | (go_at_call 136; refine (rtakes_any _ _).mono ?_; rintro e w' ⟨rfl, rfl⟩; rw [HK.out]))
          go_ret
          exact ⟨ret_int HB.out.symm, ExtOf.of (HX.out.trans (by with_reducible repeat' (first | exact Ext.refl _ | exact ExtOf.ext _ | refine Ext.trans ?_ (ExtOf.ext _) | refine Ext.alloc ?_ _ | refine Ext.drew ?_ | refine Ext.setCell ?_ ?_ _ | refine Ext.setRow ?_ ?_ _ | exact HX.out | refine Ext.trans ?_ HX.out | omega | (simp; done) | (simp; omega))))⟩
        by_cases o1 : op = 1
        · subst o1
          rcases n0 : (num != 0) with _ | _
          · rcases he : nm.toList.isEmpty with _ | _
            · have HB : Hid (visitE nms (d + 1) ⟨1, num, nm, ⟨q, args.length, cap⟩, args⟩ = 5) := Lib.hid (HE.out.trans (self_syn hop.out (by unfold synB; simp only [EX.op, EX.num, EX.nm, EX.args, he]; first | rfl | simp)))
              go_wp2_with (first | (go_at_call 137; refine (rin_any nms _ nm _ (SliceOf.ext HN.out (HX.out.trans (by with_reducible repeat' (first | exact Ext.refl _ | exact ExtOf.ext _ | refine Ext.trans ?_ (ExtOf.ext _) | refine Ext.alloc ?_ _ | refine Ext.drew ?_ | refine Ext.setCell ?_ ?_ _ | refine Ext.setRow ?_ ?_ _ | exact HX.out | refine Ext.trans ?_ HX.out | omega | (simp; done) | (simp; omega)))))).mono ?_; rintro e w' ⟨rfl, nc, rfl⟩) | (go_at_call 138; refine (rbig_any num _).mono ?_; rintro e w' ⟨rfl, rfl⟩) | (go_at_call 136; refine (rtakes_any _ _).mono ?_; rintro e w' ⟨rfl, rfl⟩; rw [HK.out]))
              go_wp2_with (first | (go_at_call 137; refine (rin_any nms _ nm _ (SliceOf.ext HN.out (HX.out.trans (by with_reducible repeat' (first | exact Ext.refl _ | exact ExtOf.ext _ | refine Ext.trans ?_ (ExtOf.ext _) | refine Ext.alloc ?_ _ | refine Ext.drew ?_ | refine Ext.setCell ?_ ?_ _ | refine Ext.setRow ?_ ?_ _ | exact HX.out | refine Ext.trans ?_ HX.out | omega | (simp; done) | (simp; omega)))))).mono ?_; rintro e w' ⟨rfl, nc, rfl⟩) | (go_at_call 138; refine (rbig_any num _).mono ?_; rintro e w' ⟨rfl, rfl⟩) | (go_at_call 136; refine (rtakes_any _ _).mono ?_; rintro e w' ⟨rfl, rfl⟩; rw [HK.out]))
              go_ret
              exact ⟨ret_int HB.out.symm, ExtOf.of (HX.out.trans (by with_reducible repeat' (first | exact Ext.refl _ | exact ExtOf.ext _ | refine Ext.trans ?_ (ExtOf.ext _) | refine Ext.alloc ?_ _ | refine Ext.drew ?_ | refine Ext.setCell ?_ ?_ _ | refine Ext.setRow ?_ ?_ _ | exact HX.out | refine Ext.trans ?_ HX.out | omega | (simp; done) | (simp; omega))))⟩
            have hsyn : Hid (synB ⟨1, num, nm, ⟨q, args.length, cap⟩, args⟩ = false) := Lib.hid (by unfold synB; simp only [EX.op, EX.num, EX.nm, EX.args, he, tk, n0]; simp)
            rcases hbn : bnd num with _ | _
            · have HB : Hid (visitE nms (d + 1) ⟨1, num, nm, ⟨q, args.length, cap⟩, args⟩ = 9) := Lib.hid (HE.out.trans (self_big hop.out hsyn.out rfl hbn))
              go_wp2_with (first | (go_at_call 137; refine (rin_any nms _ nm _ (SliceOf.ext HN.out (HX.out.trans (by with_reducible repeat' (first | exact Ext.refl _ | exact ExtOf.ext _ | refine Ext.trans ?_ (ExtOf.ext _) | refine Ext.alloc ?_ _ | refine Ext.drew ?_ | refine Ext.setCell ?_ ?_ _ | refine Ext.setRow ?_ ?_ _ | exact HX.out | refine Ext.trans ?_ HX.out | omega | (simp; done) | (simp; omega)))))).mono ?_; rintro e w' ⟨rfl, nc, rfl⟩) | (go_at_call 138; refine (rbig_any num _).mono ?_; rintro e w' ⟨rfl, rfl⟩) | (go_at_call 136; refine (rtakes_any _ _).mono ?_; rintro e w' ⟨rfl, rfl⟩; rw [HK.out]))
              go_wp2_with (first | (go_at_call 137; refine (rin_any nms _ nm _ (SliceOf.ext HN.out (HX.out.trans (by with_reducible repeat' (first | exact Ext.refl _ | exact ExtOf.ext _ | refine Ext.trans ?_ (ExtOf.ext _) | refine Ext.alloc ?_ _ | refine Ext.drew ?_ | refine Ext.setCell ?_ ?_ _ | refine Ext.setRow ?_ ?_ _ | exact HX.out | refine Ext.trans ?_ HX.out | omega | (simp; done) | (simp; omega)))))).mono ?_; rintro e w' ⟨rfl, nc, rfl⟩) | (go_at_call 138; refine (rbig_any num _).mono ?_; rintro e w' ⟨rfl, rfl⟩) | (go_at_call 136; refine (rtakes_any _ _).mono ?_; rintro e w' ⟨rfl, rfl⟩; rw [HK.out]))
              go_ret
              exact ⟨ret_int HB.out.symm, ExtOf.of (HX.out.trans (by with_reducible repeat' (first | exact Ext.refl _ | exact ExtOf.ext _ | refine Ext.trans ?_ (ExtOf.ext _) | refine Ext.alloc ?_ _ | refine Ext.drew ?_ | refine Ext.setCell ?_ ?_ _ | refine Ext.setRow ?_ ?_ _ | exact HX.out | refine Ext.trans ?_ HX.out | omega | (simp; done) | (simp; omega))))⟩
            have HT : Hid (visitE nms (d + 1) ⟨1, num, nm, ⟨q, args.length, cap⟩, args⟩ = scanAt (typE 1) args 0) := Lib.hid (HE.out.trans (self_typ hop.out hsyn.out (fun h => absurd h (by simp [EX.op])) (fun _ => hbn)))
            go_wp2_with (first | (go_at_call 137; refine (rin_any nms _ nm _ (SliceOf.ext HN.out (HX.out.trans (by with_reducible repeat' (first | exact Ext.refl _ | exact ExtOf.ext _ | refine Ext.trans ?_ (ExtOf.ext _) | refine Ext.alloc ?_ _ | refine Ext.drew ?_ | refine Ext.setCell ?_ ?_ _ | refine Ext.setRow ?_ ?_ _ | exact HX.out | refine Ext.trans ?_ HX.out | omega | (simp; done) | (simp; omega)))))).mono ?_; rintro e w' ⟨rfl, nc, rfl⟩) | (go_at_call 138; refine (rbig_any num _).mono ?_; rintro e w' ⟨rfl, rfl⟩) | (go_at_call 136; refine (rtakes_any _ _).mono ?_; rintro e w' ⟨rfl, rfl⟩; rw [HK.out]))
            go_loopw [10] (fun vi wz => ∃ k : Nat, k ≤ args.length ∧ vi = .int .i64 k ∧ scanAt (typE 1) args 0 = scanAt (typE 1) args k ∧ Ext w wz ∧ Block wz g #[.int .i64 1, .int .i64 num, .string nm, .slice q args.length cap]) (fun i _ => args.length - (intOf i).toNat)
            case atStart => exact ⟨0, by omega, rfl, rfl, HX.out.trans (by with_reducible repeat' (first | exact Ext.refl _ | exact ExtOf.ext _ | refine Ext.trans ?_ (ExtOf.ext _) | refine Ext.alloc ?_ _ | refine Ext.drew ?_ | refine Ext.setCell ?_ ?_ _ | refine Ext.setRow ?_ ?_ _ | exact HX.out | refine Ext.trans ?_ HX.out | omega | (simp; done) | (simp; omega))), inferInstance⟩
            case round =>
              obtain ⟨k, hk, rfl, hd, hx, hbk⟩ := hrel
              have HX := Lib.hid hx
              have HD := Lib.hid hd
              have obk := hbk.old
              clear hx hd
              by_cases hlt : k < args.length
              · obtain ⟨b, off, rfl, ob, hr⟩ := SliceOf.elemO (SliceOf.ext H.out HX.out) hlt (by decide) (encEX_len _)
                have HF := Lib.hid (fun e => scanAt_bad (typE 1) args hlt (e := e))
                have HG := Lib.hid (scanAt_ok (typE 1) args hlt)
                obtain ⟨⟨aop, anum, anm, ahd, aargs⟩, he⟩ : ∃ z, z = args[k] := ⟨_, rfl⟩
                rw [← he] at hr HF HG
                clear he
                have hcn : wr.cell? ⟨b, off + k * 4, none⟩ = some (.int .i64 aop) := by simpa using hr 0 (.int .i64 aop) rfl
                clear hr
                rcases ht : (isCond aop == wants 1) with _ | _
                rotate_left
                · have HNX := Lib.hid (HG.out (typ_ok (by show (!(isCond aop == wants 1)) = false; rw [ht]; rfl)))
                  go_wp2_with fail
                  refine wp_region_ext (by kernel_rfl) (by kernel_rfl) ?_
                  repeat (first | go_big_quiet_skip | go_big_quiet_step ((first | (go_at_call 88; exact ext_call (rcondition_w _ _)) | (go_at_call 139; exact ext_call (rwants_w _ _)))))
                  refine wpQuiet_nil ?_
                  intro _ hw'
                  obtain ⟨nq, hw''⟩ := hw'
                  subst hw''
                  go_wp2_with fail
                  go_roundw
                  case rel => exact ⟨k + 1, by omega, by first | rfl | go_num, HD.out.trans HNX.out, HX.out.trans (by with_reducible repeat' (first | exact Ext.refl _ | exact ExtOf.ext _ | refine Ext.trans ?_ (ExtOf.ext _) | refine Ext.alloc ?_ _ | refine Ext.drew ?_ | refine Ext.setCell ?_ ?_ _ | refine Ext.setRow ?_ ?_ _ | exact HX.out | refine Ext.trans ?_ HX.out | omega | (simp; done) | (simp; omega))), inferInstance⟩
                  case measure => simp [intOf]; omega
                · have HB := Lib.hid (HT.out.trans (HD.out.trans (HF.out 27 (typ_bad (by show (!(isCond aop == wants 1)) = true; rw [ht]; rfl)) (by decide))))
                  go_wp2_with fail
                  refine wp_region_ext (by kernel_rfl) (by kernel_rfl) ?_
                  repeat (first | go_big_quiet_skip | go_big_quiet_step ((first | (go_at_call 88; exact ext_call (rcondition_w _ _)) | (go_at_call 139; exact ext_call (rwants_w _ _)))))
                  refine wpQuiet_nil ?_
                  intro _ hw'
                  obtain ⟨nq, hw''⟩ := hw'
                  subst hw''
                  go_wp2_with fail
                  go_ret
                  exact ⟨ret_int HB.out.symm, ExtOf.of (HX.out.trans (by with_reducible repeat' (first | exact Ext.refl _ | exact ExtOf.ext _ | refine Ext.trans ?_ (ExtOf.ext _) | refine Ext.alloc ?_ _ | refine Ext.drew ?_ | refine Ext.setCell ?_ ?_ _ | refine Ext.setRow ?_ ?_ _ | exact HX.out | refine Ext.trans ?_ HX.out | omega | (simp; done) | (simp; omega))))⟩
              · obtain rfl : k = args.length := by omega
                have HB := Lib.hid (HT.out.trans (HD.out.trans (scanAt_end _ _ (Nat.le_refl _))))
                go_wp2_with fail
                go_ret
                exact ⟨ret_int HB.out.symm, ExtOf.of HX.out⟩
          · rcases he : nm.toList.isEmpty with _ | _
            · have HB : Hid (visitE nms (d + 1) ⟨1, num, nm, ⟨q, args.length, cap⟩, args⟩ = 5) := Lib.hid (HE.out.trans (self_syn hop.out (by unfold synB; simp only [EX.op, EX.num, EX.nm, EX.args, he]; first | rfl | simp)))
              go_wp2_with (first | (go_at_call 137; refine (rin_any nms _ nm _ (SliceOf.ext HN.out (HX.out.trans (by with_reducible repeat' (first | exact Ext.refl _ | exact ExtOf.ext _ | refine Ext.trans ?_ (ExtOf.ext _) | refine Ext.alloc ?_ _ | refine Ext.drew ?_ | refine Ext.setCell ?_ ?_ _ | refine Ext.setRow ?_ ?_ _ | exact HX.out | refine Ext.trans ?_ HX.out | omega | (simp; done) | (simp; omega)))))).mono ?_; rintro e w' ⟨rfl, nc, rfl⟩) | (go_at_call 138; refine (rbig_any num _).mono ?_; rintro e w' ⟨rfl, rfl⟩) | (go_at_call 136; refine (rtakes_any _ _).mono ?_; rintro e w' ⟨rfl, rfl⟩; rw [HK.out]))
              go_wp2_with (first | (go_at_call 137; refine (rin_any nms _ nm _ (SliceOf.ext HN.out (HX.out.trans (by with_reducible repeat' (first | exact Ext.refl _ | exact ExtOf.ext _ | refine Ext.trans ?_ (ExtOf.ext _) | refine Ext.alloc ?_ _ | refine Ext.drew ?_ | refine Ext.setCell ?_ ?_ _ | refine Ext.setRow ?_ ?_ _ | exact HX.out | refine Ext.trans ?_ HX.out | omega | (simp; done) | (simp; omega)))))).mono ?_; rintro e w' ⟨rfl, nc, rfl⟩) | (go_at_call 138; refine (rbig_any num _).mono ?_; rintro e w' ⟨rfl, rfl⟩) | (go_at_call 136; refine (rtakes_any _ _).mono ?_; rintro e w' ⟨rfl, rfl⟩; rw [HK.out]))
              go_ret
              exact ⟨ret_int HB.out.symm, ExtOf.of (HX.out.trans (by with_reducible repeat' (first | exact Ext.refl _ | exact ExtOf.ext _ | refine Ext.trans ?_ (ExtOf.ext _) | refine Ext.alloc ?_ _ | refine Ext.drew ?_ | refine Ext.setCell ?_ ?_ _ | refine Ext.setRow ?_ ?_ _ | exact HX.out | refine Ext.trans ?_ HX.out | omega | (simp; done) | (simp; omega))))⟩
            have hsyn : Hid (synB ⟨1, num, nm, ⟨q, args.length, cap⟩, args⟩ = false) := Lib.hid (by unfold synB; simp only [EX.op, EX.num, EX.nm, EX.args, he, tk, n0]; simp)
            rcases hbn : bnd num with _ | _
            · have HB : Hid (visitE nms (d + 1) ⟨1, num, nm, ⟨q, args.length, cap⟩, args⟩ = 9) := Lib.hid (HE.out.trans (self_big hop.out hsyn.out rfl hbn))
              go_wp2_with (first | (go_at_call 137; refine (rin_any nms _ nm _ (SliceOf.ext HN.out (HX.out.trans (by with_reducible repeat' (first | exact Ext.refl _ | exact ExtOf.ext _ | refine Ext.trans ?_ (ExtOf.ext _) | refine Ext.alloc ?_ _ | refine Ext.drew ?_ | refine Ext.setCell ?_ ?_ _ | refine Ext.setRow ?_ ?_ _ | exact HX.out | refine Ext.trans ?_ HX.out | omega | (simp; done) | (simp; omega)))))).mono ?_; rintro e w' ⟨rfl, nc, rfl⟩) | (go_at_call 138; refine (rbig_any num _).mono ?_; rintro e w' ⟨rfl, rfl⟩) | (go_at_call 136; refine (rtakes_any _ _).mono ?_; rintro e w' ⟨rfl, rfl⟩; rw [HK.out]))
              go_wp2_with (first | (go_at_call 137; refine (rin_any nms _ nm _ (SliceOf.ext HN.out (HX.out.trans (by with_reducible repeat' (first | exact Ext.refl _ | exact ExtOf.ext _ | refine Ext.trans ?_ (ExtOf.ext _) | refine Ext.alloc ?_ _ | refine Ext.drew ?_ | refine Ext.setCell ?_ ?_ _ | refine Ext.setRow ?_ ?_ _ | exact HX.out | refine Ext.trans ?_ HX.out | omega | (simp; done) | (simp; omega)))))).mono ?_; rintro e w' ⟨rfl, nc, rfl⟩) | (go_at_call 138; refine (rbig_any num _).mono ?_; rintro e w' ⟨rfl, rfl⟩) | (go_at_call 136; refine (rtakes_any _ _).mono ?_; rintro e w' ⟨rfl, rfl⟩; rw [HK.out]))
              go_ret
              exact ⟨ret_int HB.out.symm, ExtOf.of (HX.out.trans (by with_reducible repeat' (first | exact Ext.refl _ | exact ExtOf.ext _ | refine Ext.trans ?_ (ExtOf.ext _) | refine Ext.alloc ?_ _ | refine Ext.drew ?_ | refine Ext.setCell ?_ ?_ _ | refine Ext.setRow ?_ ?_ _ | exact HX.out | refine Ext.trans ?_ HX.out | omega | (simp; done) | (simp; omega))))⟩
            have HT : Hid (visitE nms (d + 1) ⟨1, num, nm, ⟨q, args.length, cap⟩, args⟩ = scanAt (typE 1) args 0) := Lib.hid (HE.out.trans (self_typ hop.out hsyn.out (fun h => absurd h (by simp [EX.op])) (fun _ => hbn)))
            go_wp2_with (first | (go_at_call 137; refine (rin_any nms _ nm _ (SliceOf.ext HN.out (HX.out.trans (by with_reducible repeat' (first | exact Ext.refl _ | exact ExtOf.ext _ | refine Ext.trans ?_ (ExtOf.ext _) | refine Ext.alloc ?_ _ | refine Ext.drew ?_ | refine Ext.setCell ?_ ?_ _ | refine Ext.setRow ?_ ?_ _ | exact HX.out | refine Ext.trans ?_ HX.out | omega | (simp; done) | (simp; omega)))))).mono ?_; rintro e w' ⟨rfl, nc, rfl⟩) | (go_at_call 138; refine (rbig_any num _).mono ?_; rintro e w' ⟨rfl, rfl⟩) | (go_at_call 136; refine (rtakes_any _ _).mono ?_; rintro e w' ⟨rfl, rfl⟩; rw [HK.out]))
            go_loopw [10] (fun vi wz => ∃ k : Nat, k ≤ args.length ∧ vi = .int .i64 k ∧ scanAt (typE 1) args 0 = scanAt (typE 1) args k ∧ Ext w wz ∧ Block wz g #[.int .i64 1, .int .i64 num, .string nm, .slice q args.length cap]) (fun i _ => args.length - (intOf i).toNat)
            case atStart => exact ⟨0, by omega, rfl, rfl, HX.out.trans (by with_reducible repeat' (first | exact Ext.refl _ | exact ExtOf.ext _ | refine Ext.trans ?_ (ExtOf.ext _) | refine Ext.alloc ?_ _ | refine Ext.drew ?_ | refine Ext.setCell ?_ ?_ _ | refine Ext.setRow ?_ ?_ _ | exact HX.out | refine Ext.trans ?_ HX.out | omega | (simp; done) | (simp; omega))), inferInstance⟩
            case round =>
              obtain ⟨k, hk, rfl, hd, hx, hbk⟩ := hrel
              have HX := Lib.hid hx
              have HD := Lib.hid hd
              have obk := hbk.old
              clear hx hd
              by_cases hlt : k < args.length
              · obtain ⟨b, off, rfl, ob, hr⟩ := SliceOf.elemO (SliceOf.ext H.out HX.out) hlt (by decide) (encEX_len _)
                have HF := Lib.hid (fun e => scanAt_bad (typE 1) args hlt (e := e))
                have HG := Lib.hid (scanAt_ok (typE 1) args hlt)
                obtain ⟨⟨aop, anum, anm, ahd, aargs⟩, he⟩ : ∃ z, z = args[k] := ⟨_, rfl⟩
                rw [← he] at hr HF HG
                clear he
                have hcn : wr.cell? ⟨b, off + k * 4, none⟩ = some (.int .i64 aop) := by simpa using hr 0 (.int .i64 aop) rfl
                clear hr
                rcases ht : (isCond aop == wants 1) with _ | _
                rotate_left
                · have HNX := Lib.hid (HG.out (typ_ok (by show (!(isCond aop == wants 1)) = false; rw [ht]; rfl)))
                  go_wp2_with fail
                  refine wp_region_ext (by kernel_rfl) (by kernel_rfl) ?_
                  repeat (first | go_big_quiet_skip | go_big_quiet_step ((first | (go_at_call 88; exact ext_call (rcondition_w _ _)) | (go_at_call 139; exact ext_call (rwants_w _ _)))))
                  refine wpQuiet_nil ?_
                  intro _ hw'
                  obtain ⟨nq, hw''⟩ := hw'
                  subst hw''
                  go_wp2_with fail
                  go_roundw
                  case rel => exact ⟨k + 1, by omega, by first | rfl | go_num, HD.out.trans HNX.out, HX.out.trans (by with_reducible repeat' (first | exact Ext.refl _ | exact ExtOf.ext _ | refine Ext.trans ?_ (ExtOf.ext _) | refine Ext.alloc ?_ _ | refine Ext.drew ?_ | refine Ext.setCell ?_ ?_ _ | refine Ext.setRow ?_ ?_ _ | exact HX.out | refine Ext.trans ?_ HX.out | omega | (simp; done) | (simp; omega))), inferInstance⟩
                  case measure => simp [intOf]; omega
                · have HB := Lib.hid (HT.out.trans (HD.out.trans (HF.out 27 (typ_bad (by show (!(isCond aop == wants 1)) = true; rw [ht]; rfl)) (by decide))))
                  go_wp2_with fail
                  refine wp_region_ext (by kernel_rfl) (by kernel_rfl) ?_
                  repeat (first | go_big_quiet_skip | go_big_quiet_step ((first | (go_at_call 88; exact ext_call (rcondition_w _ _)) | (go_at_call 139; exact ext_call (rwants_w _ _)))))
                  refine wpQuiet_nil ?_
                  intro _ hw'
                  obtain ⟨nq, hw''⟩ := hw'
                  subst hw''
                  go_wp2_with fail
                  go_ret
                  exact ⟨ret_int HB.out.symm, ExtOf.of (HX.out.trans (by with_reducible repeat' (first | exact Ext.refl _ | exact ExtOf.ext _ | refine Ext.trans ?_ (ExtOf.ext _) | refine Ext.alloc ?_ _ | refine Ext.drew ?_ | refine Ext.setCell ?_ ?_ _ | refine Ext.setRow ?_ ?_ _ | exact HX.out | refine Ext.trans ?_ HX.out | omega | (simp; done) | (simp; omega))))⟩
              · obtain rfl : k = args.length := by omega
                have HB := Lib.hid (HT.out.trans (HD.out.trans (scanAt_end _ _ (Nat.le_refl _))))
                go_wp2_with fail
                go_ret
                exact ⟨ret_int HB.out.symm, ExtOf.of HX.out⟩
        by_cases o2 : op = 2
        · subst o2
          rcases n0 : (num != 0) with _ | _
          case true =>
            have HB : Hid (visitE nms (d + 1) ⟨2, num, nm, ⟨q, args.length, cap⟩, args⟩ = 5) := Lib.hid (HE.out.trans (self_syn hop.out (by unfold synB; simp only [EX.op, EX.num, EX.nm, EX.args, n0]; first | rfl | simp)))
            go_wp2_with (first | (go_at_call 137; refine (rin_any nms _ nm _ (SliceOf.ext HN.out (HX.out.trans (by with_reducible repeat' (first | exact Ext.refl _ | exact ExtOf.ext _ | refine Ext.trans ?_ (ExtOf.ext _) | refine Ext.alloc ?_ _ | refine Ext.drew ?_ | refine Ext.setCell ?_ ?_ _ | refine Ext.setRow ?_ ?_ _ | exact HX.out | refine Ext.trans ?_ HX.out | omega | (simp; done) | (simp; omega)))))).mono ?_; rintro e w' ⟨rfl, nc, rfl⟩) | (go_at_call 138; refine (rbig_any num _).mono ?_; rintro e w' ⟨rfl, rfl⟩) | (go_at_call 136; refine (rtakes_any _ _).mono ?_; rintro e w' ⟨rfl, rfl⟩; rw [HK.out]))
            go_wp2_with (first | (go_at_call 137; refine (rin_any nms _ nm _ (SliceOf.ext HN.out (HX.out.trans (by with_reducible repeat' (first | exact Ext.refl _ | exact ExtOf.ext _ | refine Ext.trans ?_ (ExtOf.ext _) | refine Ext.alloc ?_ _ | refine Ext.drew ?_ | refine Ext.setCell ?_ ?_ _ | refine Ext.setRow ?_ ?_ _ | exact HX.out | refine Ext.trans ?_ HX.out | omega | (simp; done) | (simp; omega)))))).mono ?_; rintro e w' ⟨rfl, nc, rfl⟩) | (go_at_call 138; refine (rbig_any num _).mono ?_; rintro e w' ⟨rfl, rfl⟩) | (go_at_call 136; refine (rtakes_any _ _).mono ?_; rintro e w' ⟨rfl, rfl⟩; rw [HK.out]))
            go_ret
            exact ⟨ret_int HB.out.symm, ExtOf.of (HX.out.trans (by with_reducible repeat' (first | exact Ext.refl _ | exact ExtOf.ext _ | refine Ext.trans ?_ (ExtOf.ext _) | refine Ext.alloc ?_ _ | refine Ext.drew ?_ | refine Ext.setCell ?_ ?_ _ | refine Ext.setRow ?_ ?_ _ | exact HX.out | refine Ext.trans ?_ HX.out | omega | (simp; done) | (simp; omega))))⟩
          rcases he : nm.toList.isEmpty with _ | _
          · have hsyn : Hid (synB ⟨2, num, nm, ⟨q, args.length, cap⟩, args⟩ = false) := Lib.hid (by unfold synB; simp only [EX.op, EX.num, EX.nm, EX.args, he, tk, n0]; simp)
            rcases hin : inN nm nms with _ | _
            · have HB : Hid (visitE nms (d + 1) ⟨2, num, nm, ⟨q, args.length, cap⟩, args⟩ = 8) := Lib.hid (HE.out.trans (self_none hop.out hsyn.out rfl hin))
              go_wp2_with (first | (go_at_call 137; refine (rin_any nms _ nm _ (SliceOf.ext HN.out (HX.out.trans (by with_reducible repeat' (first | exact Ext.refl _ | exact ExtOf.ext _ | refine Ext.trans ?_ (ExtOf.ext _) | refine Ext.alloc ?_ _ | refine Ext.drew ?_ | refine Ext.setCell ?_ ?_ _ | refine Ext.setRow ?_ ?_ _ | exact HX.out | refine Ext.trans ?_ HX.out | omega | (simp; done) | (simp; omega)))))).mono ?_; rintro e w' ⟨rfl, nc, rfl⟩) | (go_at_call 138; refine (rbig_any num _).mono ?_; rintro e w' ⟨rfl, rfl⟩) | (go_at_call 136; refine (rtakes_any _ _).mono ?_; rintro e w' ⟨rfl, rfl⟩; rw [HK.out]))
              go_wp2_with (first | (go_at_call 137; refine (rin_any nms _ nm _ (SliceOf.ext HN.out (HX.out.trans (by with_reducible repeat' (first | exact Ext.refl _ | exact ExtOf.ext _ | refine Ext.trans ?_ (ExtOf.ext _) | refine Ext.alloc ?_ _ | refine Ext.drew ?_ | refine Ext.setCell ?_ ?_ _ | refine Ext.setRow ?_ ?_ _ | exact HX.out | refine Ext.trans ?_ HX.out | omega | (simp; done) | (simp; omega)))))).mono ?_; rintro e w' ⟨rfl, nc, rfl⟩) | (go_at_call 138; refine (rbig_any num _).mono ?_; rintro e w' ⟨rfl, rfl⟩) | (go_at_call 136; refine (rtakes_any _ _).mono ?_; rintro e w' ⟨rfl, rfl⟩; rw [HK.out]))
              go_ret
              exact ⟨ret_int HB.out.symm, ExtOf.of (HX.out.trans (by with_reducible repeat' (first | exact Ext.refl _ | exact ExtOf.ext _ | refine Ext.trans ?_ (ExtOf.ext _) | refine Ext.alloc ?_ _ | refine Ext.drew ?_ | refine Ext.setCell ?_ ?_ _ | refine Ext.setRow ?_ ?_ _ | exact HX.out | refine Ext.trans ?_ HX.out | omega | (simp; done) | (simp; omega))))⟩
            have HT : Hid (visitE nms (d + 1) ⟨2, num, nm, ⟨q, args.length, cap⟩, args⟩ = scanAt (typE 2) args 0) := Lib.hid (HE.out.trans (self_typ hop.out hsyn.out (fun _ => hin) (fun h => absurd h (by simp [EX.op]))))
            go_wp2_with (first | (go_at_call 137; refine (rin_any nms _ nm _ (SliceOf.ext HN.out (HX.out.trans (by with_reducible repeat' (first | exact Ext.refl _ | exact ExtOf.ext _ | refine Ext.trans ?_ (ExtOf.ext _) | refine Ext.alloc ?_ _ | refine Ext.drew ?_ | refine Ext.setCell ?_ ?_ _ | refine Ext.setRow ?_ ?_ _ | exact HX.out | refine Ext.trans ?_ HX.out | omega | (simp; done) | (simp; omega)))))).mono ?_; rintro e w' ⟨rfl, nc, rfl⟩) | (go_at_call 138; refine (rbig_any num _).mono ?_; rintro e w' ⟨rfl, rfl⟩) | (go_at_call 136; refine (rtakes_any _ _).mono ?_; rintro e w' ⟨rfl, rfl⟩; rw [HK.out]))
            go_loopw [10] (fun vi wz => ∃ k : Nat, k ≤ args.length ∧ vi = .int .i64 k ∧ scanAt (typE 2) args 0 = scanAt (typE 2) args k ∧ Ext w wz ∧ Block wz g #[.int .i64 2, .int .i64 num, .string nm, .slice q args.length cap]) (fun i _ => args.length - (intOf i).toNat)
            case atStart => exact ⟨0, by omega, rfl, rfl, HX.out.trans (by with_reducible repeat' (first | exact Ext.refl _ | exact ExtOf.ext _ | refine Ext.trans ?_ (ExtOf.ext _) | refine Ext.alloc ?_ _ | refine Ext.drew ?_ | refine Ext.setCell ?_ ?_ _ | refine Ext.setRow ?_ ?_ _ | exact HX.out | refine Ext.trans ?_ HX.out | omega | (simp; done) | (simp; omega))), inferInstance⟩
            case round =>
              obtain ⟨k, hk, rfl, hd, hx, hbk⟩ := hrel
              have HX := Lib.hid hx
              have HD := Lib.hid hd
              have obk := hbk.old
              clear hx hd
              by_cases hlt : k < args.length
              · obtain ⟨b, off, rfl, ob, hr⟩ := SliceOf.elemO (SliceOf.ext H.out HX.out) hlt (by decide) (encEX_len _)
                have HF := Lib.hid (fun e => scanAt_bad (typE 2) args hlt (e := e))
                have HG := Lib.hid (scanAt_ok (typE 2) args hlt)
                obtain ⟨⟨aop, anum, anm, ahd, aargs⟩, he⟩ : ∃ z, z = args[k] := ⟨_, rfl⟩
                rw [← he] at hr HF HG
                clear he
                have hcn : wr.cell? ⟨b, off + k * 4, none⟩ = some (.int .i64 aop) := by simpa using hr 0 (.int .i64 aop) rfl
                clear hr
                rcases ht : (isCond aop == wants 2) with _ | _
                rotate_left
                · have HNX := Lib.hid (HG.out (typ_ok (by show (!(isCond aop == wants 2)) = false; rw [ht]; rfl)))
                  go_wp2_with fail
                  refine wp_region_ext (by kernel_rfl) (by kernel_rfl) ?_
                  repeat (first | go_big_quiet_skip | go_big_quiet_step ((first | (go_at_call 88; exact ext_call (rcondition_w _ _)) | (go_at_call 139; exact ext_call (rwants_w _ _)))))
                  refine wpQuiet_nil ?_
                  intro _ hw'
                  obtain ⟨nq, hw''⟩ := hw'
                  subst hw''
                  go_wp2_with fail
                  go_roundw
                  case rel => exact ⟨k + 1, by omega, by first | rfl | go_num, HD.out.trans HNX.out, HX.out.trans (by with_reducible repeat' (first | exact Ext.refl _ | exact ExtOf.ext _ | refine Ext.trans ?_ (ExtOf.ext _) | refine Ext.alloc ?_ _ | refine Ext.drew ?_ | refine Ext.setCell ?_ ?_ _ | refine Ext.setRow ?_ ?_ _ | exact HX.out | refine Ext.trans ?_ HX.out | omega | (simp; done) | (simp; omega))), inferInstance⟩
                  case measure => simp [intOf]; omega
                · have HB := Lib.hid (HT.out.trans (HD.out.trans (HF.out 27 (typ_bad (by show (!(isCond aop == wants 2)) = true; rw [ht]; rfl)) (by decide))))
                  go_wp2_with fail
                  refine wp_region_ext (by kernel_rfl) (by kernel_rfl) ?_
                  repeat (first | go_big_quiet_skip | go_big_quiet_step ((first | (go_at_call 88; exact ext_call (rcondition_w _ _)) | (go_at_call 139; exact ext_call (rwants_w _ _)))))
                  refine wpQuiet_nil ?_
                  intro _ hw'
                  obtain ⟨nq, hw''⟩ := hw'
                  subst hw''
                  go_wp2_with fail
                  go_ret
                  exact ⟨ret_int HB.out.symm, ExtOf.of (HX.out.trans (by with_reducible repeat' (first | exact Ext.refl _ | exact ExtOf.ext _ | refine Ext.trans ?_ (ExtOf.ext _) | refine Ext.alloc ?_ _ | refine Ext.drew ?_ | refine Ext.setCell ?_ ?_ _ | refine Ext.setRow ?_ ?_ _ | exact HX.out | refine Ext.trans ?_ HX.out | omega | (simp; done) | (simp; omega))))⟩
              · obtain rfl : k = args.length := by omega
                have HB := Lib.hid (HT.out.trans (HD.out.trans (scanAt_end _ _ (Nat.le_refl _))))
                go_wp2_with fail
                go_ret
                exact ⟨ret_int HB.out.symm, ExtOf.of HX.out⟩
          · have hsyn : Hid (synB ⟨2, num, nm, ⟨q, args.length, cap⟩, args⟩ = false) := Lib.hid (by unfold synB; simp only [EX.op, EX.num, EX.nm, EX.args, he, tk, n0]; simp)
            rcases hin : inN nm nms with _ | _
            · have HB : Hid (visitE nms (d + 1) ⟨2, num, nm, ⟨q, args.length, cap⟩, args⟩ = 8) := Lib.hid (HE.out.trans (self_none hop.out hsyn.out rfl hin))
              go_wp2_with (first | (go_at_call 137; refine (rin_any nms _ nm _ (SliceOf.ext HN.out (HX.out.trans (by with_reducible repeat' (first | exact Ext.refl _ | exact ExtOf.ext _ | refine Ext.trans ?_ (ExtOf.ext _) | refine Ext.alloc ?_ _ | refine Ext.drew ?_ | refine Ext.setCell ?_ ?_ _ | refine Ext.setRow ?_ ?_ _ | exact HX.out | refine Ext.trans ?_ HX.out | omega | (simp; done) | (simp; omega)))))).mono ?_; rintro e w' ⟨rfl, nc, rfl⟩) | (go_at_call 138; refine (rbig_any num _).mono ?_; rintro e w' ⟨rfl, rfl⟩) | (go_at_call 136; refine (rtakes_any _ _).mono ?_; rintro e w' ⟨rfl, rfl⟩; rw [HK.out]))
              go_wp2_with (first | (go_at_call 137; refine (rin_any nms _ nm _ (SliceOf.ext HN.out (HX.out.trans (by with_reducible repeat' (first | exact Ext.refl _ | exact ExtOf.ext _ | refine Ext.trans ?_ (ExtOf.ext _) | refine Ext.alloc ?_ _ | refine Ext.drew ?_ | refine Ext.setCell ?_ ?_ _ | refine Ext.setRow ?_ ?_ _ | exact HX.out | refine Ext.trans ?_ HX.out | omega | (simp; done) | (simp; omega)))))).mono ?_; rintro e w' ⟨rfl, nc, rfl⟩) | (go_at_call 138; refine (rbig_any num _).mono ?_; rintro e w' ⟨rfl, rfl⟩) | (go_at_call 136; refine (rtakes_any _ _).mono ?_; rintro e w' ⟨rfl, rfl⟩; rw [HK.out]))
              go_ret
              exact ⟨ret_int HB.out.symm, ExtOf.of (HX.out.trans (by with_reducible repeat' (first | exact Ext.refl _ | exact ExtOf.ext _ | refine Ext.trans ?_ (ExtOf.ext _) | refine Ext.alloc ?_ _ | refine Ext.drew ?_ | refine Ext.setCell ?_ ?_ _ | refine Ext.setRow ?_ ?_ _ | exact HX.out | refine Ext.trans ?_ HX.out | omega | (simp; done) | (simp; omega))))⟩
            have HT : Hid (visitE nms (d + 1) ⟨2, num, nm, ⟨q, args.length, cap⟩, args⟩ = scanAt (typE 2) args 0) := Lib.hid (HE.out.trans (self_typ hop.out hsyn.out (fun _ => hin) (fun h => absurd h (by simp [EX.op]))))
            go_wp2_with (first | (go_at_call 137; refine (rin_any nms _ nm _ (SliceOf.ext HN.out (HX.out.trans (by with_reducible repeat' (first | exact Ext.refl _ | exact ExtOf.ext _ | refine Ext.trans ?_ (ExtOf.ext _) | refine Ext.alloc ?_ _ | refine Ext.drew ?_ | refine Ext.setCell ?_ ?_ _ | refine Ext.setRow ?_ ?_ _ | exact HX.out | refine Ext.trans ?_ HX.out | omega | (simp; done) | (simp; omega)))))).mono ?_; rintro e w' ⟨rfl, nc, rfl⟩) | (go_at_call 138; refine (rbig_any num _).mono ?_; rintro e w' ⟨rfl, rfl⟩) | (go_at_call 136; refine (rtakes_any _ _).mono ?_; rintro e w' ⟨rfl, rfl⟩; rw [HK.out]))
            go_loopw [10] (fun vi wz => ∃ k : Nat, k ≤ args.length ∧ vi = .int .i64 k ∧ scanAt (typE 2) args 0 = scanAt (typE 2) args k ∧ Ext w wz ∧ Block wz g #[.int .i64 2, .int .i64 num, .string nm, .slice q args.length cap]) (fun i _ => args.length - (intOf i).toNat)
            case atStart => exact ⟨0, by omega, rfl, rfl, HX.out.trans (by with_reducible repeat' (first | exact Ext.refl _ | exact ExtOf.ext _ | refine Ext.trans ?_ (ExtOf.ext _) | refine Ext.alloc ?_ _ | refine Ext.drew ?_ | refine Ext.setCell ?_ ?_ _ | refine Ext.setRow ?_ ?_ _ | exact HX.out | refine Ext.trans ?_ HX.out | omega | (simp; done) | (simp; omega))), inferInstance⟩
            case round =>
              obtain ⟨k, hk, rfl, hd, hx, hbk⟩ := hrel
              have HX := Lib.hid hx
              have HD := Lib.hid hd
              have obk := hbk.old
              clear hx hd
              by_cases hlt : k < args.length
              · obtain ⟨b, off, rfl, ob, hr⟩ := SliceOf.elemO (SliceOf.ext H.out HX.out) hlt (by decide) (encEX_len _)
                have HF := Lib.hid (fun e => scanAt_bad (typE 2) args hlt (e := e))
                have HG := Lib.hid (scanAt_ok (typE 2) args hlt)
                obtain ⟨⟨aop, anum, anm, ahd, aargs⟩, he⟩ : ∃ z, z = args[k] := ⟨_, rfl⟩
                rw [← he] at hr HF HG
                clear he
                have hcn : wr.cell? ⟨b, off + k * 4, none⟩ = some (.int .i64 aop) := by simpa using hr 0 (.int .i64 aop) rfl
                clear hr
                rcases ht : (isCond aop == wants 2) with _ | _
                rotate_left
                · have HNX := Lib.hid (HG.out (typ_ok (by show (!(isCond aop == wants 2)) = false; rw [ht]; rfl)))
                  go_wp2_with fail
                  refine wp_region_ext (by kernel_rfl) (by kernel_rfl) ?_
                  repeat (first | go_big_quiet_skip | go_big_quiet_step ((first | (go_at_call 88; exact ext_call (rcondition_w _ _)) | (go_at_call 139; exact ext_call (rwants_w _ _)))))
                  refine wpQuiet_nil ?_
                  intro _ hw'
                  obtain ⟨nq, hw''⟩ := hw'
                  subst hw''
                  go_wp2_with fail
                  go_roundw
                  case rel => exact ⟨k + 1, by omega, by first | rfl | go_num, HD.out.trans HNX.out, HX.out.trans (by with_reducible repeat' (first | exact Ext.refl _ | exact ExtOf.ext _ | refine Ext.trans ?_ (ExtOf.ext _) | refine Ext.alloc ?_ _ | refine Ext.drew ?_ | refine Ext.setCell ?_ ?_ _ | refine Ext.setRow ?_ ?_ _ | exact HX.out | refine Ext.trans ?_ HX.out | omega | (simp; done) | (simp; omega))), inferInstance⟩
                  case measure => simp [intOf]; omega
                · have HB := Lib.hid (HT.out.trans (HD.out.trans (HF.out 27 (typ_bad (by show (!(isCond aop == wants 2)) = true; rw [ht]; rfl)) (by decide))))
                  go_wp2_with fail
                  refine wp_region_ext (by kernel_rfl) (by kernel_rfl) ?_
                  repeat (first | go_big_quiet_skip | go_big_quiet_step ((first | (go_at_call 88; exact ext_call (rcondition_w _ _)) | (go_at_call 139; exact ext_call (rwants_w _ _)))))
                  refine wpQuiet_nil ?_
                  intro _ hw'
                  obtain ⟨nq, hw''⟩ := hw'
                  subst hw''
                  go_wp2_with fail
                  go_ret
                  exact ⟨ret_int HB.out.symm, ExtOf.of (HX.out.trans (by with_reducible repeat' (first | exact Ext.refl _ | exact ExtOf.ext _ | refine Ext.trans ?_ (ExtOf.ext _) | refine Ext.alloc ?_ _ | refine Ext.drew ?_ | refine Ext.setCell ?_ ?_ _ | refine Ext.setRow ?_ ?_ _ | exact HX.out | refine Ext.trans ?_ HX.out | omega | (simp; done) | (simp; omega))))⟩
              · obtain rfl : k = args.length := by omega
                have HB := Lib.hid (HT.out.trans (HD.out.trans (scanAt_end _ _ (Nat.le_refl _))))
                go_wp2_with fail
                go_ret
                exact ⟨ret_int HB.out.symm, ExtOf.of HX.out⟩
        have p1 : (op != 1) = true := bne_iff_ne.2 o1
        have p2 : (op != 2) = true := bne_iff_ne.2 o2
        have e1 : (op == 1) = false := beq_eq_false_iff_ne.2 o1
        have e2 : (op == 2) = false := beq_eq_false_iff_ne.2 o2
        have O1 := Lib.hid o1
        have O2 := Lib.hid o2
        clear o1 o2
        rcases n0 : (num != 0) with _ | _
        case true =>
          have HB : Hid (visitE nms (d + 1) ⟨op, num, nm, ⟨q, args.length, cap⟩, args⟩ = 5) := Lib.hid (HE.out.trans (self_syn hop.out (by unfold synB; simp only [EX.op, EX.num, EX.nm, EX.args, n0, p1]; first | rfl | simp)))
          go_wp2_with (first | (go_at_call 137; refine (rin_any nms _ nm _ (SliceOf.ext HN.out (HX.out.trans (by with_reducible repeat' (first | exact Ext.refl _ | exact ExtOf.ext _ | refine Ext.trans ?_ (ExtOf.ext _) | refine Ext.alloc ?_ _ | refine Ext.drew ?_ | refine Ext.setCell ?_ ?_ _ | refine Ext.setRow ?_ ?_ _ | exact HX.out | refine Ext.trans ?_ HX.out | omega | (simp; done) | (simp; omega)))))).mono ?_; rintro e w' ⟨rfl, nc, rfl⟩) | (go_at_call 138; refine (rbig_any num _).mono ?_; rintro e w' ⟨rfl, rfl⟩) | (go_at_call 136; refine (rtakes_any _ _).mono ?_; rintro e w' ⟨rfl, rfl⟩; rw [HK.out]))
          go_wp2_with (first | (go_at_call 137; refine (rin_any nms _ nm _ (SliceOf.ext HN.out (HX.out.trans (by with_reducible repeat' (first | exact Ext.refl _ | exact ExtOf.ext _ | refine Ext.trans ?_ (ExtOf.ext _) | refine Ext.alloc ?_ _ | refine Ext.drew ?_ | refine Ext.setCell ?_ ?_ _ | refine Ext.setRow ?_ ?_ _ | exact HX.out | refine Ext.trans ?_ HX.out | omega | (simp; done) | (simp; omega)))))).mono ?_; rintro e w' ⟨rfl, nc, rfl⟩) | (go_at_call 138; refine (rbig_any num _).mono ?_; rintro e w' ⟨rfl, rfl⟩) | (go_at_call 136; refine (rtakes_any _ _).mono ?_; rintro e w' ⟨rfl, rfl⟩; rw [HK.out]))
          go_ret
          exact ⟨ret_int HB.out.symm, ExtOf.of (HX.out.trans (by with_reducible repeat' (first | exact Ext.refl _ | exact ExtOf.ext _ | refine Ext.trans ?_ (ExtOf.ext _) | refine Ext.alloc ?_ _ | refine Ext.drew ?_ | refine Ext.setCell ?_ ?_ _ | refine Ext.setRow ?_ ?_ _ | exact HX.out | refine Ext.trans ?_ HX.out | omega | (simp; done) | (simp; omega))))⟩
        rcases he : nm.toList.isEmpty with _ | _
        · have HB : Hid (visitE nms (d + 1) ⟨op, num, nm, ⟨q, args.length, cap⟩, args⟩ = 5) := Lib.hid (HE.out.trans (self_syn hop.out (by unfold synB; simp only [EX.op, EX.num, EX.nm, EX.args, he, p2]; first | rfl | simp)))
          go_wp2_with (first | (go_at_call 137; refine (rin_any nms _ nm _ (SliceOf.ext HN.out (HX.out.trans (by with_reducible repeat' (first | exact Ext.refl _ | exact ExtOf.ext _ | refine Ext.trans ?_ (ExtOf.ext _) | refine Ext.alloc ?_ _ | refine Ext.drew ?_ | refine Ext.setCell ?_ ?_ _ | refine Ext.setRow ?_ ?_ _ | exact HX.out | refine Ext.trans ?_ HX.out | omega | (simp; done) | (simp; omega)))))).mono ?_; rintro e w' ⟨rfl, nc, rfl⟩) | (go_at_call 138; refine (rbig_any num _).mono ?_; rintro e w' ⟨rfl, rfl⟩) | (go_at_call 136; refine (rtakes_any _ _).mono ?_; rintro e w' ⟨rfl, rfl⟩; rw [HK.out]))
          go_wp2_with (first | (go_at_call 137; refine (rin_any nms _ nm _ (SliceOf.ext HN.out (HX.out.trans (by with_reducible repeat' (first | exact Ext.refl _ | exact ExtOf.ext _ | refine Ext.trans ?_ (ExtOf.ext _) | refine Ext.alloc ?_ _ | refine Ext.drew ?_ | refine Ext.setCell ?_ ?_ _ | refine Ext.setRow ?_ ?_ _ | exact HX.out | refine Ext.trans ?_ HX.out | omega | (simp; done) | (simp; omega)))))).mono ?_; rintro e w' ⟨rfl, nc, rfl⟩) | (go_at_call 138; refine (rbig_any num _).mono ?_; rintro e w' ⟨rfl, rfl⟩) | (go_at_call 136; refine (rtakes_any _ _).mono ?_; rintro e w' ⟨rfl, rfl⟩; rw [HK.out]))
          go_ret
          exact ⟨ret_int HB.out.symm, ExtOf.of (HX.out.trans (by with_reducible repeat' (first | exact Ext.refl _ | exact ExtOf.ext _ | refine Ext.trans ?_ (ExtOf.ext _) | refine Ext.alloc ?_ _ | refine Ext.drew ?_ | refine Ext.setCell ?_ ?_ _ | refine Ext.setRow ?_ ?_ _ | exact HX.out | refine Ext.trans ?_ HX.out | omega | (simp; done) | (simp; omega))))⟩
        have hsyn : Hid (synB ⟨op, num, nm, ⟨q, args.length, cap⟩, args⟩ = false) := Lib.hid (by unfold synB; simp only [EX.op, EX.num, EX.nm, EX.args, he, tk, n0]; simp)
        have HT : Hid (visitE nms (d + 1) ⟨op, num, nm, ⟨q, args.length, cap⟩, args⟩ = scanAt (typE op) args 0) := Lib.hid (HE.out.trans (self_typ hop.out hsyn.out (fun h => absurd h O2.out) (fun h => absurd h O1.out)))
        go_wp2_with (first | (go_at_call 137; refine (rin_any nms _ nm _ (SliceOf.ext HN.out (HX.out.trans (by with_reducible repeat' (first | exact Ext.refl _ | exact ExtOf.ext _ | refine Ext.trans ?_ (ExtOf.ext _) | refine Ext.alloc ?_ _ | refine Ext.drew ?_ | refine Ext.setCell ?_ ?_ _ | refine Ext.setRow ?_ ?_ _ | exact HX.out | refine Ext.trans ?_ HX.out | omega | (simp; done) | (simp; omega)))))).mono ?_; rintro e w' ⟨rfl, nc, rfl⟩) | (go_at_call 138; refine (rbig_any num _).mono ?_; rintro e w' ⟨rfl, rfl⟩) | (go_at_call 136; refine (rtakes_any _ _).mono ?_; rintro e w' ⟨rfl, rfl⟩; rw [HK.out]))
        go_loopw [10] (fun vi wz => ∃ k : Nat, k ≤ args.length ∧ vi = .int .i64 k ∧ scanAt (typE op) args 0 = scanAt (typE op) args k ∧ Ext w wz ∧ Block wz g #[.int .i64 op, .int .i64 num, .string nm, .slice q args.length cap]) (fun i _ => args.length - (intOf i).toNat)
        case atStart => exact ⟨0, by omega, rfl, rfl, HX.out.trans (by with_reducible repeat' (first | exact Ext.refl _ | exact ExtOf.ext _ | refine Ext.trans ?_ (ExtOf.ext _) | refine Ext.alloc ?_ _ | refine Ext.drew ?_ | refine Ext.setCell ?_ ?_ _ | refine Ext.setRow ?_ ?_ _ | exact HX.out | refine Ext.trans ?_ HX.out | omega | (simp; done) | (simp; omega))), inferInstance⟩
        case round =>
          obtain ⟨k, hk, rfl, hd, hx, hbk⟩ := hrel
          have HX := Lib.hid hx
          have HD := Lib.hid hd
          have obk := hbk.old
          clear hx hd
          by_cases hlt : k < args.length
          · obtain ⟨b, off, rfl, ob, hr⟩ := SliceOf.elemO (SliceOf.ext H.out HX.out) hlt (by decide) (encEX_len _)
            have HF := Lib.hid (fun e => scanAt_bad (typE op) args hlt (e := e))
            have HG := Lib.hid (scanAt_ok (typE op) args hlt)
            obtain ⟨⟨aop, anum, anm, ahd, aargs⟩, he⟩ : ∃ z, z = args[k] := ⟨_, rfl⟩
            rw [← he] at hr HF HG
            clear he
            have hcn : wr.cell? ⟨b, off + k * 4, none⟩ = some (.int .i64 aop) := by simpa using hr 0 (.int .i64 aop) rfl
            clear hr
            rcases ht : (isCond aop == wants op) with _ | _
            rotate_left
            · have HNX := Lib.hid (HG.out (typ_ok (by show (!(isCond aop == wants op)) = false; rw [ht]; rfl)))
              go_wp2_with fail
              refine wp_region_ext (by kernel_rfl) (by kernel_rfl) ?_
              repeat (first | go_big_quiet_skip | go_big_quiet_step ((first | (go_at_call 88; exact ext_call (rcondition_w _ _)) | (go_at_call 139; exact ext_call (rwants_w _ _)))))
              refine wpQuiet_nil ?_
              intro _ hw'
              obtain ⟨nq, hw''⟩ := hw'
              subst hw''
              go_wp2_with fail
              go_roundw
              case rel => exact ⟨k + 1, by omega, by first | rfl | go_num, HD.out.trans HNX.out, HX.out.trans (by with_reducible repeat' (first | exact Ext.refl _ | exact ExtOf.ext _ | refine Ext.trans ?_ (ExtOf.ext _) | refine Ext.alloc ?_ _ | refine Ext.drew ?_ | refine Ext.setCell ?_ ?_ _ | refine Ext.setRow ?_ ?_ _ | exact HX.out | refine Ext.trans ?_ HX.out | omega | (simp; done) | (simp; omega))), inferInstance⟩
              case measure => simp [intOf]; omega
            · have HB := Lib.hid (HT.out.trans (HD.out.trans (HF.out 27 (typ_bad (by show (!(isCond aop == wants op)) = true; rw [ht]; rfl)) (by decide))))
              go_wp2_with fail
              refine wp_region_ext (by kernel_rfl) (by kernel_rfl) ?_
              repeat (first | go_big_quiet_skip | go_big_quiet_step ((first | (go_at_call 88; exact ext_call (rcondition_w _ _)) | (go_at_call 139; exact ext_call (rwants_w _ _)))))
              refine wpQuiet_nil ?_
              intro _ hw'
              obtain ⟨nq, hw''⟩ := hw'
              subst hw''
              go_wp2_with fail
              go_ret
              exact ⟨ret_int HB.out.symm, ExtOf.of (HX.out.trans (by with_reducible repeat' (first | exact Ext.refl _ | exact ExtOf.ext _ | refine Ext.trans ?_ (ExtOf.ext _) | refine Ext.alloc ?_ _ | refine Ext.drew ?_ | refine Ext.setCell ?_ ?_ _ | refine Ext.setRow ?_ ?_ _ | exact HX.out | refine Ext.trans ?_ HX.out | omega | (simp; done) | (simp; omega))))⟩
          · obtain rfl : k = args.length := by omega
            have HB := Lib.hid (HT.out.trans (HD.out.trans (scanAt_end _ _ (Nat.le_refl _))))
            go_wp2_with fail
            go_ret
            exact ⟨ret_int HB.out.symm, ExtOf.of HX.out⟩
end Go.Proofs.YteokijolhbohaaaGreatDoor
