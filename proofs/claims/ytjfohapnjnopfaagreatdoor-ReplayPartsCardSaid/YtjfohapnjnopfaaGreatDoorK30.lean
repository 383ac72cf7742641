/-
  Chapter 61: several texts in one (R30, R32, R33).
-/
import Derived.Test.YtjfohapnjnopfaaGreatDoorR19
import Derived.Test.YtjfohapnjnopfaaGreatDoorMA
import Derived.Test.YtjfohapnjnopfaaGreatDoorR28
import Derived.Test.YtjfohapnjnopfaaGreatDoorR31
import Derived.Deep.CutBlock
import Derived.Deep.DeepCutAuto
/-
  Chapter 61: the reference's permit.
-/
section
set_option linter.unusedVariables false
set_option linter.unusedSimpArgs false
namespace Go.Proofs.YtjfohapnjnopfaaGreatDoor
open Go.RowKit RepM

attribute [local go_sem] ExtOf.cell ExtOf.frozen Block.cell Block.frozen ExtB.cell ExtB.frozen alloc_cell alloc_frozen
/-- a permit and an error -/
def permV (q : ByteArray × Int) : Value := .tuple #[.string q.1, .int .i64 q.2]
set_option maxHeartbeats 1600000 in
theorem rpermit_any (l : List EvP) (v : Value) (s : ByteArray) (w : World) (h : EvsS w v l) (hl : l.length ≤ 1000) : Calls Tryz.prog 14 #[v, .string s] w fun e w' => e = .returned (permV (permOf (evs l) s)) ∧ ∃ n : ExtOf w, w' = n.val := by
  have H := Lib.hid h
  have HC := Lib.hid (rchk_any l v s w h hl)
  clear h
  by_cases he : errOf (evs l) s = 0
  · obtain ⟨g, hg⟩ := err_ok he
    have hpe : permOf (evs l) s = match under (counted (evs l)) g with | some p => (p, 0) | none => (⟨#[]⟩, 8) := by unfold permOf; rw [if_pos he, hg]; rfl
    rw [← evs_counted] at hg hpe
    have q0 : (errOf (evs l) s != 0) = false := bne_eq_false_iff_eq.2 he
    have HE := Lib.hid he
    have HG := Lib.hid hg
    have HPE := Lib.hid hpe
    clear he hg hpe
    go_enter Tryz.func14, Tryz.ntmps14
    go_wp2_with (refine HC.out.mono ?_; rintro en w' ⟨cv, n, rfl, hok, n1, rfl⟩; (obtain ⟨hn, hp⟩ := hok HE.out); subst hn; (have HP0 := Lib.hid hp); clear hok hp)
    have hp := HP0.out
    clear HP0
    generalize l.filter okP = cl at *
    obtain ⟨cp, cc, rfl, hc1, hc2, hc3⟩ := EvsS.form hp.ev
    unfold maxLen at hc2
    have hlen := hp.len
    have HP := Lib.hid hp
    clear hp
    refine (rorigin_any cl _ _ _ HP.out (num_wide s)).mono ?_
    rintro en w' ⟨⟨k, rfl, hko⟩, n2, rfl⟩
    rcases hko with ⟨rfl, hnone⟩ | ⟨i, hi, rfl, h4, hsome⟩
    · rw [HG.out] at hnone; cases hnone
    · rw [HG.out] at hsome
      have hlt : i < cl.length := by simpa using hi
      have hit : (evs cl)[i].item = (cl[i]).1.item := by rw [evs_get]
      rw [hit] at hsome
      obtain ⟨b, off, rfl, hr, _⟩ := EvsS.elem (EvsS.ext HP.out.ev n2.ext) hlt
      have hc2 : n2.val.cell? ⟨b, off + i * 6 + 2, none⟩ = some (.string (cl[i]).1.item) := hr 2 _ rfl
      have ob := Old.of_cell hc2
      rw [← Option.some.inj hsome] at hc2
      clear hr hsome hit h4
      rcases hu : under (evs cl) g with _ | u
      · have HU := Lib.hid hu
        clear hu
        go_wp2_with (go_at_call 24; refine (runder_any cl _ g _ (HP.out.ext n2.ext)).mono ?_; rintro en w' ⟨rfl, n3, rfl⟩; rw [HU.out]; simp only [undV, Option.getD_none, Option.isSome_none])
        go_ret2
        exact ⟨by rw [HPE.out, HU.out]; rfl, by exact ExtOf.of (by repeat' (first | (with_reducible exact Ext.refl _) | (with_reducible exact ExtOf.ext _) | (with_reducible refine Ext.trans ?_ (ExtOf.ext _)) | (with_reducible refine Ext.alloc ?_ _) | (with_reducible refine Ext.drew ?_) | (with_reducible refine Ext.setCell ?_ ?_ _) | (with_reducible refine Ext.setRow ?_ ?_ _) | (with_reducible exact HX.out) | (with_reducible refine Ext.trans ?_ HX.out) | (with_reducible refine Ext.below ?_ (Nat.le_refl _) _) | omega | (simp; done) | (simp; omega)))⟩
      · have HU := Lib.hid hu
        clear hu
        go_wp2_with (go_at_call 24; refine (runder_any cl _ g _ (HP.out.ext n2.ext)).mono ?_; rintro en w' ⟨rfl, n3, rfl⟩; rw [HU.out]; simp only [undV, Option.getD_some, Option.isSome_some])
        go_ret2
        exact ⟨by rw [HPE.out, HU.out]; rfl, by exact ExtOf.of (by repeat' (first | (with_reducible exact Ext.refl _) | (with_reducible exact ExtOf.ext _) | (with_reducible refine Ext.trans ?_ (ExtOf.ext _)) | (with_reducible refine Ext.alloc ?_ _) | (with_reducible refine Ext.drew ?_) | (with_reducible refine Ext.setCell ?_ ?_ _) | (with_reducible refine Ext.setRow ?_ ?_ _) | (with_reducible exact HX.out) | (with_reducible refine Ext.trans ?_ HX.out) | (with_reducible refine Ext.below ?_ (Nat.le_refl _) _) | omega | (simp; done) | (simp; omega)))⟩
  · have q0 : (errOf (evs l) s != 0) = true := bne_iff_ne.2 he
    have HPE : Hid (permOf (evs l) s = (⟨#[]⟩, errOf (evs l) s)) := Lib.hid (by unfold permOf; rw [if_neg he])
    clear he
    go_enter Tryz.func14, Tryz.ntmps14
    go_wp2_with (refine HC.out.mono ?_; rintro en w' ⟨cv, n, rfl, hok, n1, rfl⟩; clear hok)
    go_ret2
    exact ⟨by rw [HPE.out]; rfl, by exact ExtOf.of (by repeat' (first | (with_reducible exact Ext.refl _) | (with_reducible exact ExtOf.ext _) | (with_reducible refine Ext.trans ?_ (ExtOf.ext _)) | (with_reducible refine Ext.alloc ?_ _) | (with_reducible refine Ext.drew ?_) | (with_reducible refine Ext.setCell ?_ ?_ _) | (with_reducible refine Ext.setRow ?_ ?_ _) | (with_reducible exact HX.out) | (with_reducible refine Ext.trans ?_ HX.out) | (with_reducible refine Ext.below ?_ (Nat.le_refl _) _) | omega | (simp; done) | (simp; omega)))⟩
end Go.Proofs.YtjfohapnjnopfaaGreatDoor
end
/-
  Chapter 61: does a list of numbers hold one of the family?
-/
section
set_option linter.unusedVariables false
set_option linter.unusedSimpArgs false
namespace Go.Proofs.YtjfohapnjnopfaaGreatDoor
open Go.RowKit RepM

attribute [local go_sem] ExtOf.cell ExtOf.frozen Block.cell Block.frozen ExtB.cell ExtB.frozen alloc_cell alloc_frozen
theorem partC_any (n : Int) (fb N : Nat) (S : Int → Bool) (B : Nat) (w : World) (hb : Block w B #[.map (some fb)]) (hm : FamS w fb N S) (hn : -1099511627776 ≤ n ∧ n ≤ 1099511627776) : Calls Tryz.prog 78 #[.int .i64 n, .pointer (some ⟨B, 0, none⟩)] w fun e w' => e = .returned (.bool (S n)) ∧ ∃ n : ExtOf w, w' = n.val := by
  have hl := fam_look hm hn
  go_enter Tryz.func78, Tryz.ntmps78
  go_wp2_with fail
  go_ret
  exact ⟨rfl, ExtOf.of (Ext.refl _)⟩
/-- the first index of a member: not negative exactly if there is one -/
def IdxR (w : World) (c : Bool) (en : Ending) (w' : World) : Prop := ∃ k : Int, en = .returned (.int .i64 k) ∧ decide (0 ≤ k) = c ∧ ∃ m : ExtOf w, w' = m.val
theorem any_step {S : Int → Bool} {l : List Int} {k : Nat} (h : k < l.length) : (l.drop k).any S = (S l[k] || (l.drop (k + 1)).any S) := by
  rw [List.drop_eq_getElem_cons h, List.any_cons]
set_option maxHeartbeats 1600000 in
theorem index_any (ns : List Int) (v : Value) (fb N : Nat) (S : Int → Bool) (B : Nat) (w : World) (hb : Block w B #[.map (some fb)]) (hm : FamS w fb N S) (hv : IntS w v ns) (hn : ∀ n ∈ ns, -1099511627776 ≤ n ∧ n ≤ 1099511627776) : Calls Tryz.prog 103 #[v, .func (.func 78) #[] #[.pointer (some ⟨B, 0, none⟩)]] w (IdxR w (ns.any S)) := by
  obtain ⟨p, cap, rfl, hc1, hc2, hc3⟩ := IntS.form hv
  unfold maxLen at hc2
  have HB := Lib.hid hb
  have HM := Lib.hid hm
  have HV := Lib.hid hv
  have HN := Lib.hid hn
  clear hb hm hv hn
  go_enter Tryz.func103, Tryz.ntmps103
  go_wp2_with fail
  go_loopw [8] (fun vi wr => ∃ i : Nat, i ≤ ns.length ∧ vi = .int .i64 i ∧ ns.any S = (ns.drop i).any S ∧ Ext w wr) (fun vi _ => ns.length - (intOf vi).toNat)
  case atStart => exact ⟨0, by omega, rfl, by rw [List.drop_zero], Ext.refl _⟩
  case round =>
    obtain ⟨i, hi, rfl, ha, hx⟩ := hrel
    have HA := Lib.hid ha
    have HX := Lib.hid hx
    clear ha hx
    by_cases hlt : i < ns.length
    · have HST := Lib.hid (any_step (S := S) hlt)
      obtain ⟨b, o, rfl, hc⟩ := IntS.elem (IntS.ext HV.out HX.out) hlt
      have ob := Old.of_cell hc
      have HK := Lib.hid (partC_any ns[i] fb N S B wr (HB.out.ext HX.out) (HM.out.ext HX.out) (HN.out _ (List.getElem_mem hlt)))
      generalize ns[i] = n at *
      rcases hs : S n with _ | _
      · rw [hs] at HST HK
        clear hs
        go_wp2_with (go_at_call 78; refine HK.out.mono ?_; rintro en w' ⟨rfl, n1, rfl⟩)
        go_roundw
        case rel => exact ⟨i + 1, by omega, by first | rfl | go_num, by rw [HA.out, HST.out]; rfl, HX.out.trans n1.ext⟩
        case measure => simp [intOf]; omega
      · rw [hs] at HST HK
        clear hs
        go_wp2_with (go_at_call 78; refine HK.out.mono ?_; rintro en w' ⟨rfl, n1, rfl⟩)
        go_ret
        exact ⟨_, rfl, by rw [HA.out, HST.out]; simp, ExtOf.of (HX.out.trans n1.ext)⟩
    · obtain rfl : i = ns.length := by omega
      go_wp2_with fail
      go_ret
      exact ⟨_, rfl, by rw [HA.out, List.drop_length]; rfl, ExtOf.of HX.out⟩
set_option maxHeartbeats 1600000 in
theorem contains_any (ns : List Int) (v : Value) (fb N : Nat) (S : Int → Bool) (B : Nat) (w : World) (hb : Block w B #[.map (some fb)]) (hm : FamS w fb N S) (hv : IntS w v ns) (hn : ∀ n ∈ ns, -1099511627776 ≤ n ∧ n ≤ 1099511627776) : Calls Tryz.prog 80 #[v, .func (.func 78) #[] #[.pointer (some ⟨B, 0, none⟩)]] w fun e w' => e = .returned (.bool (ns.any S)) ∧ ∃ n : ExtOf w, w' = n.val := by
  have HI := Lib.hid (index_any ns v fb N S B w hb hm hv hn)
  obtain ⟨p, cap, rfl, hc1, hc2, hc3⟩ := IntS.form hv
  clear hb hm hv hn
  go_enter Tryz.func80, Tryz.ntmps80
  go_wp2_with (go_at_call 103; refine HI.out.mono ?_; rintro en w' ⟨k, rfl, hk, n1, rfl⟩)
  go_ret
  exact ⟨by rw [← hk]; rfl, n1, rfl⟩
end Go.Proofs.YtjfohapnjnopfaaGreatDoor
end
/-
  Chapter 61: the events on which a family depends.
-/
section
set_option linter.unusedVariables false
set_option linter.unusedSimpArgs false
namespace Go.Proofs.YtjfohapnjnopfaaGreatDoor
open Go.RowKit RepM

attribute [local go_sem] ExtOf.cell ExtOf.frozen Block.cell Block.frozen ExtB.cell ExtB.frozen alloc_cell alloc_frozen
theorem clone_any (ns : List Int) (v : Value) (w : World) (hv : IntS w v ns) (hl : ns.length ≤ 600) : Calls Tryz.prog 79 #[v] w (IntsRet w ns) := by
  obtain ⟨p, cap, rfl, hc1, hc2, hc3⟩ := IntS.form hv
  rcases p with _ | a
  · have h0 : ns = [] := by
      rcases ns with _ | ⟨n, ns⟩
      · rfl
      · obtain ⟨b, off, e, _⟩ := IntS.elem hv (i := 0) (by simp)
        cases e
    subst h0
    refine (Tryz.slices_Clone_int_nil 0 cap w).mono ?_
    rintro e w' ⟨rfl, rfl⟩
    exact ⟨_, rfl, Own.nil _, ExtOf.of (Ext.refl _)⟩
  · by_cases h0 : ns = []
    · subst h0
      refine (Tryz.slices_Clone_int_zero a cap w).mono ?_
      rintro e w' ⟨v', rfl, ho, _, hb⟩
      exact ⟨v', rfl, ho, ExtOf.of hb⟩
    · obtain ⟨b, off, e, _⟩ := IntS.elem hv (List.length_pos_iff.2 h0)
      cases e
      refine (Tryz.slices_Clone_int b off ns.length cap ns w (Nat.le_refl _) (by omega) (fun j hj => ?_)).mono ?_
      · obtain ⟨b', off', e, hc⟩ := IntS.elem hv hj
        cases e
        rw [List.getD_eq_getElem?_getD, List.getElem?_eq_getElem hj]
        exact hc
      · rintro e w' ⟨v', rfl, ho, _, hb⟩
        rw [List.take_length, ← flat_encI] at ho
        exact ⟨v', rfl, ho, ExtOf.of hb⟩
/-- does an event, which assigns nothing, belong to the history? by the links' lists -/
def partL (C : List Ev) (F : List Int) (LL PL : List ByteArray) (OL : List Int) (i : Nat) (e : Ev) : Bool :=
  if e.kind = 1 then memB e.item PL else if e.kind = 2 ∨ e.kind = 3 ∨ e.kind = 4 then memB e.item LL
  else if e.kind = 5 ∨ e.kind = 6 ∨ e.kind = 10 then (group num C i).any fun n => decide (n ∈ F)
  else if e.kind = 7 ∨ e.kind = 13 ∨ e.kind = 14 then decide (num e.item ∈ F) else decide (e.kind = 8) && decide (num e.item ∈ OL)
theorem partL_keep {C : List Ev} {F : List Int} {LL PL : List ByteArray} {OL : List Int} (h1 : ∀ s, s ∈ LL ↔ Logs num C (· ∈ F) s) (h2 : ∀ p, p ∈ PL ↔ Permits num C (· ∈ F) p) (h3 : ∀ o, o ∈ OL ↔ Orders C (· ∈ F) o) (i : Nat) (e : Ev) : partL C F LL PL OL i e = true ↔ Keep num C (· ∈ F) i e := by
  have h := part_keep (l := C) (S := F) (F := (· ∈ F)) (L := LL) (P := PL) (mem := fun L s => memB s L) (fun a b => memB_iff) (fun n => Iff.rfl) h1 h2 i e
  rw [← h]
  unfold partL partB
  have ho : decide (num e.item ∈ OL) = orderedB C F (num e.item) := by
    rw [Bool.eq_iff_iff, decide_eq_true_iff, h3, orders_eq (fun n => Iff.rfl)]
  rw [ho]
/-- what is handed back of a part -/
def PartR (w : World) (C : List Ev) (F : List Int) (en : Ending) (w' : World) : Prop :=
  ∃ v hs, en = .returned v ∧ EvsS w' v hs ∧ evs hs = histF num C (· ∈ F) 0 false C ∧ ∃ m : ExtOf w, w' = m.val
/-- what stands while a part is gathered -/
structure PtS (l : List EvP) (F : List Int) (fb N B BL b1 b2 b3 n1 n2 n3 g : Nat) (LL PL : List ByteArray) (OL : List Int) (gs : List SlT) (W : World) : Prop where
  box : Block W B #[.map (some fb)]
  lnk : Block W BL #[.map (some b1), .map (some b2), .map (some b3)]
  fam : FamS W fb N (fun x => decide (x ∈ F))
  logs : StrM W b1 n1 (fun x => memB x LL)
  perm : StrM W b2 n2 (fun x => memB x PL)
  ords : FamS W b3 n3 (fun x => decide (x ∈ OL))
  grp : GrpsS W g gs (group num (evs l)) l.length
theorem PtS.ext {l : List EvP} {F : List Int} {fb N B BL b1 b2 b3 n1 n2 n3 g : Nat} {LL PL : List ByteArray} {OL : List Int} {gs : List SlT} {W W' : World} (h : PtS l F fb N B BL b1 b2 b3 n1 n2 n3 g LL PL OL gs W) (hx : Ext W W') : PtS l F fb N B BL b1 b2 b3 n1 n2 n3 g LL PL OL gs W' :=
  ⟨h.box.ext hx, h.lnk.ext hx, h.fam.ext hx, h.logs.ext hx, h.perm.ext hx, h.ords.ext hx, h.grp.ext hx⟩
/-- what stands behind the choice whether an event is kept -/
def PtCut (C : List Ev) (F : List Int) (part : Nat → Ev → Bool) (k : Nat) (bg : Bool) (x : Ev) (gb : Nat) (wr : World) (s8 s12 : Value) (wx : World) : Prop :=
  ∃ (ns : List Int) (q : Option Addr) (c : Nat) (bg' keep : Bool), s8 = .bool bg' ∧ s12 = .bool keep ∧ Block wx gb #[.int .i64 x.kind, .int .i64 x.at_, .string x.item, .string x.of, .slice q ns.length c, .string x.text] ∧ Ext wr wx ∧ IntS wx (.slice q ns.length c) ns ∧
    (∀ a, q = some a → wr.heap.size < a.block) ∧ histB C F part k bg (C.drop k) = (if keep then [⟨x.kind, x.at_, x.item, x.of, ns, x.text⟩] else []) ++ histB C F part (k + 1) bg' (C.drop (k + 1))
theorem PtCut.same {C : List Ev} {F : List Int} {part : Nat → Ev → Bool} {k : Nat} {bg keep : Bool} {kind at_ : Int} {item of text : ByteArray} {ns : List Int} {q : Option Addr} {c gb : Nat} {wr W5 wx : World} (h9 : kind ≠ 9)
    (hst : histB C F part k bg (C.drop k) = if kind = 9 then (if (bg || !(pairsB F ns).isEmpty) = true then [⟨kind, at_, item, of, pairsB F ns, text⟩] else []) ++ histB C F part (k + 1) (bg || !(pairsB F ns).isEmpty) (C.drop (k + 1)) else (if part k ⟨kind, at_, item, of, ns, text⟩ = true then [⟨kind, at_, item, of, ns, text⟩] else []) ++ histB C F part (k + 1) bg (C.drop (k + 1)))
    (hb : Block W5 gb #[.int .i64 kind, .int .i64 at_, .string item, .string of, .slice q ns.length c, .string text]) (hx5 : Ext wr W5) (hi : IntS W5 (.slice q ns.length c) ns) (hbl : ∀ a, q = some a → wr.heap.size < a.block) (hx : Ext W5 wx) (hk : part k ⟨kind, at_, item, of, ns, text⟩ = keep) :
    PtCut C F part k bg ⟨kind, at_, item, of, ns, text⟩ gb wr (.bool bg) (.bool keep) wx := by
  rw [if_neg h9] at hst
  exact ⟨ns, q, c, bg, keep, rfl, rfl, hb.ext hx, hx5.trans hx, IntS.ext hi hx, hbl, by rw [hst, hk]⟩
/-- the values of the regions that look up a number -/
def ptV (fb gb BL b3 : Nat) (item : ByteArray) (c : Bool) : Nat → Value
  | 62 => .map (some fb)
  | 63 => .pointer (some ⟨gb, 2, none⟩)
  | 64 => .string item
  | 65 => .int .i64 (num item)
  | 66 => .bool c
  | 12 => .bool c
  | 69 => .pointer (some ⟨BL, 2, none⟩)
  | 70 => .map (some b3)
  | 71 => .pointer (some ⟨gb, 2, none⟩)
  | 72 => .string item
  | 73 => .int .i64 (num item)
  | 74 => .bool c
  | _ => undef
def ptA (fb gb BL b3 : Nat) (item : ByteArray) (c : Bool) (d : Nat) (v : Value) : Prop := v = ptV fb gb BL b3 item c d
set_option maxHeartbeats 3200000 in
set_option maxRecDepth 20000 in
theorem ppart_any (l : List EvP) (v : Value) (fb N : Nat) (F : List Int) (w : World) (h : PastS w v l) (ht : Tab w) (hF : FamS w fb N (fun x => decide (x ∈ F))) (hN : N ≤ 1000000) (hw : ∀ n ∈ F, -1099511627776 ≤ n ∧ n ≤ 1099511627776) : Calls Tryz.prog 44 #[v, .map (some fb)] w (PartR w (evs l) F) := by
  obtain ⟨iE, hiE, hE0, hE1, hE2⟩ := info_parts infoEv
  obtain ⟨p, cap, rfl, hc1, hc2, hc3⟩ := EvsS.form h.ev
  unfold maxLen at hc2
  have hlen := h.len
  have H := Lib.hid h
  have HT := Lib.hid ht
  have HF := Lib.hid hF
  have HW := Lib.hid hw
  clear h ht hF hw
  have hmf : ∀ (fn : Fn) (first cap : Array Value) (w : World), (Instr.makeFunc fn first cap).run Tryz.prog w = .ok (.func fn first cap) w := fun _ _ _ _ => rfl
  go_enter Tryz.func44, Tryz.ntmps44
  go_wp2_with (first | ((with_reducible apply wl_store' lwLk); (· (first | exact wanted_none rfl | exact wanted_some rfl rfl rfl)); (· rfl); (· rfl); (· infer_instance); (· rfl); (· rfl); (· (simp [Value.oneCell', SlT.v])); try simp only [setRow_alloc, setRow_new, setRow_new1, setRow_new2, setRow_new11, setRow_new111]) | (go_at_call 76; refine (plinks_any l _ fb N F _ (H.out.ext (by repeat' (first | (with_reducible exact Ext.refl _) | (with_reducible exact ExtOf.ext _) | (with_reducible refine Ext.trans ?_ (ExtOf.ext _)) | (with_reducible refine Ext.alloc ?_ _) | (with_reducible refine Ext.drew ?_) | (with_reducible refine Ext.setCell ?_ ?_ _) | (with_reducible refine Ext.setRow ?_ ?_ _) | (with_reducible exact HX.out) | (with_reducible refine Ext.trans ?_ HX.out) | (with_reducible refine Ext.below ?_ (Nat.le_refl _) _) | omega | (simp; done) | (simp; omega)))) (SMap.ext HF.out (by repeat' (first | (with_reducible exact Ext.refl _) | (with_reducible exact ExtOf.ext _) | (with_reducible refine Ext.trans ?_ (ExtOf.ext _)) | (with_reducible refine Ext.alloc ?_ _) | (with_reducible refine Ext.drew ?_) | (with_reducible refine Ext.setCell ?_ ?_ _) | (with_reducible refine Ext.setRow ?_ ?_ _) | (with_reducible exact HX.out) | (with_reducible refine Ext.trans ?_ HX.out) | (with_reducible refine Ext.below ?_ (Nat.le_refl _) _) | omega | (simp; done) | (simp; omega)))) hN HW.out).mono ?_; rintro en w' ⟨b1, b2, b3, k1, k2, k3, LL, PL, OL, rfl, s1, s2, s3, i1, i2, i3, m1, rfl⟩; (have HS1 := Lib.hid s1); (have HS2 := Lib.hid s2); (have HS3 := Lib.hid s3); (have HI1 := Lib.hid i1); (have HI2 := Lib.hid i2); (have HI3 := Lib.hid i3); clear s1 s2 s3 i1 i2 i3) | (go_at_call 77; refine (pgroups_any l _ _ (H.out.ext (by repeat' (first | (with_reducible exact Ext.refl _) | (with_reducible exact ExtOf.ext _) | (with_reducible refine Ext.trans ?_ (ExtOf.ext _)) | (with_reducible refine Ext.alloc ?_ _) | (with_reducible refine Ext.drew ?_) | (with_reducible refine Ext.setCell ?_ ?_ _) | (with_reducible refine Ext.setRow ?_ ?_ _) | (with_reducible exact HX.out) | (with_reducible refine Ext.trans ?_ HX.out) | (with_reducible refine Ext.below ?_ (Nat.le_refl _) _) | omega | (simp; done) | (simp; omega)))) (HT.out.ext (by repeat' (first | (with_reducible exact Ext.refl _) | (with_reducible exact ExtOf.ext _) | (with_reducible refine Ext.trans ?_ (ExtOf.ext _)) | (with_reducible refine Ext.alloc ?_ _) | (with_reducible refine Ext.drew ?_) | (with_reducible refine Ext.setCell ?_ ?_ _) | (with_reducible refine Ext.setRow ?_ ?_ _) | (with_reducible exact HX.out) | (with_reducible refine Ext.trans ?_ HX.out) | (with_reducible refine Ext.below ?_ (Nat.le_refl _) _) | omega | (simp; done) | (simp; omega))))).mono ?_; rintro en w' ⟨rfl, ⟨gs, hgs⟩, ng, rfl⟩; (have HGS := Lib.hid hgs); clear hgs))
  have HS0 : Hid (PtS l F fb N w.heap.size m1.val.heap.size b1 b2 b3 k1 k2 k3 (m1.val.heap.size + 1) LL PL OL gs ng.val) := Lib.hid (by
    refine ⟨inferInstance, inferInstance, SMap.ext HF.out (by repeat' (first | (with_reducible exact Ext.refl _) | (with_reducible exact ExtOf.ext _) | (with_reducible refine Ext.trans ?_ (ExtOf.ext _)) | (with_reducible refine Ext.alloc ?_ _) | (with_reducible refine Ext.drew ?_) | (with_reducible refine Ext.setCell ?_ ?_ _) | (with_reducible refine Ext.setRow ?_ ?_ _) | (with_reducible exact HX.out) | (with_reducible refine Ext.trans ?_ HX.out) | (with_reducible refine Ext.below ?_ (Nat.le_refl _) _) | omega | (simp; done) | (simp; omega))), SMap.ext HS1.out (by repeat' (first | (with_reducible exact Ext.refl _) | (with_reducible exact ExtOf.ext _) | (with_reducible refine Ext.trans ?_ (ExtOf.ext _)) | (with_reducible refine Ext.alloc ?_ _) | (with_reducible refine Ext.drew ?_) | (with_reducible refine Ext.setCell ?_ ?_ _) | (with_reducible refine Ext.setRow ?_ ?_ _) | (with_reducible exact HX.out) | (with_reducible refine Ext.trans ?_ HX.out) | (with_reducible refine Ext.below ?_ (Nat.le_refl _) _) | omega | (simp; done) | (simp; omega))), SMap.ext HS2.out (by repeat' (first | (with_reducible exact Ext.refl _) | (with_reducible exact ExtOf.ext _) | (with_reducible refine Ext.trans ?_ (ExtOf.ext _)) | (with_reducible refine Ext.alloc ?_ _) | (with_reducible refine Ext.drew ?_) | (with_reducible refine Ext.setCell ?_ ?_ _) | (with_reducible refine Ext.setRow ?_ ?_ _) | (with_reducible exact HX.out) | (with_reducible refine Ext.trans ?_ HX.out) | (with_reducible refine Ext.below ?_ (Nat.le_refl _) _) | omega | (simp; done) | (simp; omega))), SMap.ext HS3.out (by repeat' (first | (with_reducible exact Ext.refl _) | (with_reducible exact ExtOf.ext _) | (with_reducible refine Ext.trans ?_ (ExtOf.ext _)) | (with_reducible refine Ext.alloc ?_ _) | (with_reducible refine Ext.drew ?_) | (with_reducible refine Ext.setCell ?_ ?_ _) | (with_reducible refine Ext.setRow ?_ ?_ _) | (with_reducible exact HX.out) | (with_reducible refine Ext.trans ?_ HX.out) | (with_reducible refine Ext.below ?_ (Nat.le_refl _) _) | omega | (simp; done) | (simp; omega))), ?_⟩
    have := HGS.out
    simpa using this)
  have HX0 : Hid (Ext w ng.val) := Lib.hid (by repeat' (first | (with_reducible exact Ext.refl _) | (with_reducible exact ExtOf.ext _) | (with_reducible refine Ext.trans ?_ (ExtOf.ext _)) | (with_reducible refine Ext.alloc ?_ _) | (with_reducible refine Ext.drew ?_) | (with_reducible refine Ext.setCell ?_ ?_ _) | (with_reducible refine Ext.setRow ?_ ?_ _) | (with_reducible exact HX.out) | (with_reducible refine Ext.trans ?_ HX.out) | (with_reducible refine Ext.below ?_ (Nat.le_refl _) _) | omega | (simp; done) | (simp; omega)))
  obtain ⟨B, hB⟩ : ∃ B, B = w.heap.size := ⟨_, rfl⟩
  obtain ⟨BL, hBL⟩ : ∃ BL, BL = m1.val.heap.size := ⟨_, rfl⟩
  rw [← hB, ← hBL] at HS0 ⊢
  obtain ⟨g, hg⟩ : ∃ g, g = BL + 1 := ⟨_, rfl⟩
  rw [← hg] at HS0 ⊢
  generalize ng.val = Ws at *
  obtain ⟨C, hC⟩ : ∃ C, C = evs l := ⟨_, rfl⟩
  have hCl : C.length = l.length := by rw [hC]; simp
  have HCC := Lib.hid hC
  obtain ⟨part, hpart⟩ : ∃ part : Nat → Ev → Bool, part = partL C F LL PL OL := ⟨_, rfl⟩
  have HPT := Lib.hid hpart
  clear hB hBL hg hC hpart HS1 HS2 HS3 HGS
  go_loopw [9, 8, 21] (fun vo vb vi wr => ∃ (acc : List EvP) (k : Nat) (bg : Bool), k ≤ l.length ∧ vi = .int .i64 k ∧ vb = .bool bg ∧ acc.length ≤ k ∧ OutS Ws.heap.size wr vo acc ∧ evs acc ++ histB C F part k bg (C.drop k) = histB C F part 0 false C ∧ Ext Ws wr) (fun _ _ i _ => l.length - (intOf i).toNat)
  case atStart => exact ⟨[], 0, false, by omega, rfl, rfl, by simp, OutS.nil, by rw [List.drop_zero]; rfl, Ext.refl _⟩
  case round =>
    obtain ⟨acc, k, bg, hk, rfl, rfl, hak, ho, hac, hx⟩ := hrel
    have HX := Lib.hid (HX0.out.trans hx)
    have HXS := Lib.hid hx
    have HO := Lib.hid ho
    have HAC := Lib.hid hac
    obtain ⟨qa, ca, rfl⟩ := Own.form2 ho.own
    clear ho hac hx
    by_cases hlt : k < l.length
    · have HST := Lib.hid (histB_drop (l := C) (S := F) (part := part) (bg := bg) (m := C) (i := k) (by omega))
      obtain ⟨b, off, rfl, hr, hin⟩ := EvsS.elem (EvsS.ext H.out.ev HX.out) hlt
      have hok := H.out.ok _ (List.getElem_mem hlt)
      have hgi : (evs l)[k]'(by simpa using hlt) = (l[k]).1 := evs_get (by simpa using hlt)
      obtain ⟨⟨x, sl⟩, he⟩ : ∃ z, z = l[k] := ⟨_, rfl⟩
      have he' := he.symm
      rw [← he] at hr hin hok hgi
      simp only at hok hin hgi
      clear he
      have HIN := Lib.hid hin
      have HOK := Lib.hid hok
      clear hin hok
      have hgi2 : C[k]'(by omega) = x := by have := HCC.out; subst this; exact hgi
      rw [hgi2] at HST
      have HIW := Lib.hid (show IntS w sl.v x.n from by have := H.out.ev.2 _ (List.getElem_mem hlt); rw [he'] at this; exact this)
      have HR : Hid (wr.rangeAt b (off + k * 6) [.int .i64 x.kind, .int .i64 x.at_, .string x.item, .string x.of, sl.v, .string x.text]) := Lib.hid hr
      obtain ⟨kind, at_, item, of, ns, text⟩ := x
      simp only at *
      obtain ⟨q, nn, mc⟩ := sl
      simp only [SlT.v] at *
      obtain ⟨q0, mc0, hv, hn1, hn2, hn3⟩ := IntS.form HIW.out
      obtain ⟨rfl, rfl, rfl⟩ : q = q0 ∧ nn = ns.length ∧ mc = mc0 := by simpa using hv
      have hl6 : ns.length ≤ 600 := ok_len HOK.out
      clear hr hgi he' hgi2 hv
      go_upto_block 2 with (first | ((with_reducible refine wl_loadM midEv (Ext.range ?_ (Hid.out HR)) ?_ ?_ ?_ ?_); (· repeat' (first | (with_reducible exact Ext.refl _) | (with_reducible exact ExtOf.ext _) | (with_reducible refine Ext.trans ?_ (ExtOf.ext _)) | (with_reducible refine Ext.alloc ?_ _) | (with_reducible refine Ext.drew ?_) | (with_reducible refine Ext.setCell ?_ ?_ _) | (with_reducible refine Ext.setRow ?_ ?_ _) | (with_reducible exact HX.out) | (with_reducible refine Ext.trans ?_ HX.out) | (with_reducible refine Ext.below ?_ (Nat.le_refl _) _) | omega | (simp; done) | (simp; omega))); (· rfl); (· (first | exact wanted_none rfl | exact wanted_some rfl rfl rfl)); (· rfl)) | ((with_reducible apply wl_store' lwEv); (· (first | exact wanted_none rfl | exact wanted_some rfl rfl rfl)); (· rfl); (· rfl); (· infer_instance); (· rfl); (· rfl); (· (simp [Value.oneCell', SlT.v])); try simp only [setRow_alloc, setRow_new, setRow_new1, setRow_new2, setRow_new11, setRow_new111]) | ((with_reducible apply wl_load' lwEv); (· (first | exact wanted_none rfl | exact wanted_some rfl rfl rfl)); (· rfl); (· infer_instance); (· rfl)) | (go_at_call 79; refine (clone_any ns _ _ (IntS.ext HIW.out (HX.out.trans (by repeat' (first | (with_reducible exact Ext.refl _) | (with_reducible exact ExtOf.ext _) | (with_reducible refine Ext.trans ?_ (ExtOf.ext _)) | (with_reducible refine Ext.alloc ?_ _) | (with_reducible refine Ext.drew ?_) | (with_reducible refine Ext.setCell ?_ ?_ _) | (with_reducible refine Ext.setRow ?_ ?_ _) | (with_reducible exact HX.out) | (with_reducible refine Ext.trans ?_ HX.out) | (with_reducible refine Ext.below ?_ (Nat.le_refl _) _) | omega | (simp; done) | (simp; omega))))) hl6).mono ?_; rintro en w' ⟨cv, rfl, hcv, nc, rfl⟩; (obtain ⟨cq, ccp, rfl⟩ := Own.form2 hcv); (have HCV := Lib.hid hcv); clear hcv))
      obtain ⟨gb, hgb⟩ : ∃ gb, gb = wr.heap.size := ⟨_, rfl⟩
      have hset := Own.ints_set (g := wr.heap.size) (i := 4) (u := .slice cq ns.length ccp) HCV.out (by simp)
      have hpb := Own.base_le HCV.out
      have hb5' : Block (nc.val.setCell ⟨wr.heap.size, 4, none⟩ (.slice cq ns.length ccp)) wr.heap.size #[.int .i64 kind, .int .i64 at_, .string item, .string of, .slice cq ns.length ccp, .string text] := inferInstance
      have HX5 : Hid (Ext wr (nc.val.setCell ⟨wr.heap.size, 4, none⟩ (.slice cq ns.length ccp))) := Lib.hid (by repeat' (first | (with_reducible exact Ext.refl _) | (with_reducible exact ExtOf.ext _) | (with_reducible refine Ext.trans ?_ (ExtOf.ext _)) | (with_reducible refine Ext.alloc ?_ _) | (with_reducible refine Ext.drew ?_) | (with_reducible refine Ext.setCell ?_ ?_ _) | (with_reducible refine Ext.setRow ?_ ?_ _) | (with_reducible exact HX.out) | (with_reducible refine Ext.trans ?_ HX.out) | (with_reducible refine Ext.below ?_ (Nat.le_refl _) _) | omega | (simp; done) | (simp; omega)))
      have HBL : Hid (∀ a, cq = some a → wr.heap.size < a.block) := Lib.hid (fun a ha => by have := hpb a ha; simp at this; omega)
      obtain ⟨W5, hW5⟩ : ∃ W5, W5 = nc.val.setCell ⟨wr.heap.size, 4, none⟩ (.slice cq ns.length ccp) := ⟨_, rfl⟩
      rw [← hW5] at hset hb5' HX5 ⊢
      have hb5 : Block W5 gb #[.int .i64 kind, .int .i64 at_, .string item, .string of, .slice cq ns.length ccp, .string text] := by rw [hgb]; exact hb5'
      rw [← hgb] at ⊢
      have hi5 : IntS W5 (.slice cq ns.length ccp) ns := hset
      have HGB := Lib.hid hgb
      have HS := Lib.hid (HS0.out.ext (HXS.out.trans HX5.out))
      have hkd := (ok_parts HOK.out).1
      obtain ⟨hit, hof⟩ := ok_item HOK.out
      simp only at hkd hit hof
      have hnum := num_range item
      clear hW5 hset hb5' hpb HCV
      go_cut [8, 12] (fun s8 s12 wx => PtCut C F part k bg ⟨kind, at_, item, of, ns, text⟩ gb wr s8 s12 wx)
      case first =>
        have hlnk := HS.out.lnk
        have hbox := HS.out.box
        have : kind = 1 ∨ kind = 2 ∨ kind = 3 ∨ kind = 4 ∨ kind = 5 ∨ kind = 6 ∨ kind = 7 ∨ kind = 8 ∨ kind = 9 ∨ kind = 10 ∨ kind = 11 ∨ kind = 12 ∨ kind = 13 ∨ kind = 14 := by omega
        clear hkd hgb
        rcases this with rfl | rfl | rfl | rfl | rfl | rfl | rfl | rfl | rfl | rfl | rfl | rfl | rfl | rfl
        · have hl1 := str_look HS.out.perm hit
          go_wp2_with fail
          go_meet
          exact PtCut.same (by decide) HST.out hb5 HX5.out hi5 HBL.out (Ext.refl _) (by rw [HPT.out]; rfl)
        · have hl1 := str_look HS.out.logs hit
          go_wp2_with fail
          go_meet
          exact PtCut.same (by decide) HST.out hb5 HX5.out hi5 HBL.out (Ext.refl _) (by rw [HPT.out]; rfl)
        · have hl1 := str_look HS.out.logs hit
          go_wp2_with fail
          go_meet
          exact PtCut.same (by decide) HST.out hb5 HX5.out hi5 HBL.out (Ext.refl _) (by rw [HPT.out]; rfl)
        · have hl1 := str_look HS.out.logs hit
          go_wp2_with fail
          go_meet
          exact PtCut.same (by decide) HST.out hb5 HX5.out hi5 HBL.out (Ext.refl _) (by rw [HPT.out]; rfl)
        · have hgl := HS.out.grp.len
          have hgrb := HS.out.grp.blk
          have hgi := HS.out.grp.ints k (by omega)
          obtain ⟨⟨p3, m3, c3⟩, h3⟩ : ∃ z, z = gs[k] := ⟨_, rfl⟩
          rw [← h3] at hgi
          have ck : W5.cell? ⟨g, k, none⟩ = some (.slice p3 m3 c3) := by
            rw [Block.cell k]
            simp only [List.getElem?_toArray, List.getElem?_map]
            rw [List.getElem?_eq_getElem (by omega), ← h3]; rfl
          have og := Old.of_cell ck
          have HCT := Lib.hid (contains_any (group num (evs l) k) (.slice p3 m3 c3) fb N (fun x => decide (x ∈ F)) B W5 hbox HS.out.fam hgi (fun n hn => by
            obtain ⟨e, he, hen⟩ := group_mem hn
            obtain ⟨x, hx, rfl⟩ := List.mem_map.1 he
            obtain ⟨i, hi, rfl⟩ := List.getElem_of_mem hen
            exact ok_num (H.out.ok x hx) hi))
          rw [← HCC.out] at HCT
          clear hgi h3
          go_wp2_with (go_at_call 80; refine HCT.out.mono ?_; rintro en w' ⟨rfl, n1, rfl⟩)
          go_meet
          exact PtCut.same (by decide) HST.out hb5 HX5.out hi5 HBL.out (n1.ext) (by rw [HPT.out]; rfl)
        · have hgl := HS.out.grp.len
          have hgrb := HS.out.grp.blk
          have hgi := HS.out.grp.ints k (by omega)
          obtain ⟨⟨p3, m3, c3⟩, h3⟩ : ∃ z, z = gs[k] := ⟨_, rfl⟩
          rw [← h3] at hgi
          have ck : W5.cell? ⟨g, k, none⟩ = some (.slice p3 m3 c3) := by
            rw [Block.cell k]
            simp only [List.getElem?_toArray, List.getElem?_map]
            rw [List.getElem?_eq_getElem (by omega), ← h3]; rfl
          have og := Old.of_cell ck
          have HCT := Lib.hid (contains_any (group num (evs l) k) (.slice p3 m3 c3) fb N (fun x => decide (x ∈ F)) B W5 hbox HS.out.fam hgi (fun n hn => by
            obtain ⟨e, he, hen⟩ := group_mem hn
            obtain ⟨x, hx, rfl⟩ := List.mem_map.1 he
            obtain ⟨i, hi, rfl⟩ := List.getElem_of_mem hen
            exact ok_num (H.out.ok x hx) hi))
          rw [← HCC.out] at HCT
          clear hgi h3
          go_wp2_with (go_at_call 80; refine HCT.out.mono ?_; rintro en w' ⟨rfl, n1, rfl⟩)
          go_meet
          exact PtCut.same (by decide) HST.out hb5 HX5.out hi5 HBL.out (n1.ext) (by rw [HPT.out]; rfl)
        · have HL := Lib.hid (fun W (hx : Ext W5 W) => fam_look (SMap.ext HS.out.fam hx) (x := num item) (by omega))
          go_wp2_with fail
          refine wp_region_soft (ptA fb gb BL b3 item (decide (num item ∈ F))) (fun _ _ _ => True) (by kernel_rfl) (by kernel_rfl) (by kernel_rfl) (by kernel_rfl) (fun d => ⟨_, rfl⟩) (fun _ _ _ _ _ _ => trivial) ?_
          refine soft_det (d := 62) (V := .map (some fb)) rfl (by kernel_rfl) (fun v h => h) rfl (fun _ => trivial) (fun W' hx _ => by have hc9 := (hbox.ext (Ext.trans ((Ext.refl _).drew) hx)).cell (i := 0); simp at hc9; simp [execOp, go_sem, hc9]) ?_
          refine soft_det (d := 63) (V := .pointer (some ⟨gb, 2, none⟩)) rfl (by kernel_rfl) (fun v h => h) rfl (fun _ => trivial) (fun W _ _ => by kernel_rfl) ?_
          refine soft_det (d := 64) (V := .string item) rfl (by kernel_rfl) (fun v h => h) rfl (fun _ => trivial) (fun W' hx _ => by have hc9 := (hb5.ext (Ext.trans ((Ext.refl _).drew) hx)).cell (i := 2); simp at hc9; simp [execOp, go_sem, hc9]) ?_
          refine soft_call (d := 65) (V := .int .i64 (num item)) (f := 42) (vals := #[.string item]) rfl (by kernel_rfl) (fun v h => h) rfl (fun _ => trivial) (fun W => by kernel_rfl) (fun W hx _ => pnum_any item W) ?_
          refine soft_det (d := 66) (V := .bool (decide (num item ∈ F))) rfl (by kernel_rfl) (fun v h => h) rfl (fun _ => trivial) (fun W' hx _ => by have hc9 := HL.out W' (Ext.trans ((Ext.refl _).drew) hx); simp [execOp, go_sem, hc9]) ?_
          refine soft_det (d := 12) (V := .bool (decide (num item ∈ F))) rfl (by kernel_rfl) (fun v h => h) rfl (fun _ => trivial) (fun W _ _ => by kernel_rfl) ?_
          intro W6 hx6
          simp only [Act.put, List.setIfInBounds_toArray, List.set_cons_succ, List.set_cons_zero]
          have HX6 := Lib.hid (Ext.trans ((Ext.refl W5).drew) hx6)
          clear hx6
          go_wp2_with fail
          go_meet
          exact PtCut.same (by decide) HST.out hb5 HX5.out hi5 HBL.out (HX6.out) (by rw [HPT.out]; rfl)
        · have HL := Lib.hid (fun W (hx : Ext W5 W) => fam_look (SMap.ext HS.out.ords hx) (x := num item) (by omega))
          go_wp2_with fail
          refine wp_region_soft (ptA fb gb BL b3 item (decide (num item ∈ OL))) (fun _ _ _ => True) (by kernel_rfl) (by kernel_rfl) (by kernel_rfl) (by kernel_rfl) (fun d => ⟨_, rfl⟩) (fun _ _ _ _ _ _ => trivial) ?_
          refine soft_det (d := 69) (V := .pointer (some ⟨BL, 2, none⟩)) rfl (by kernel_rfl) (fun v h => h) rfl (fun _ => trivial) (fun W _ _ => by kernel_rfl) ?_
          refine soft_det (d := 70) (V := .map (some b3)) rfl (by kernel_rfl) (fun v h => h) rfl (fun _ => trivial) (fun W' hx _ => by have hc9 := (hlnk.ext (Ext.trans ((Ext.refl _).drew) hx)).cell (i := 2); simp at hc9; simp [execOp, go_sem, hc9]) ?_
          refine soft_det (d := 71) (V := .pointer (some ⟨gb, 2, none⟩)) rfl (by kernel_rfl) (fun v h => h) rfl (fun _ => trivial) (fun W _ _ => by kernel_rfl) ?_
          refine soft_det (d := 72) (V := .string item) rfl (by kernel_rfl) (fun v h => h) rfl (fun _ => trivial) (fun W' hx _ => by have hc9 := (hb5.ext (Ext.trans ((Ext.refl _).drew) hx)).cell (i := 2); simp at hc9; simp [execOp, go_sem, hc9]) ?_
          refine soft_call (d := 73) (V := .int .i64 (num item)) (f := 42) (vals := #[.string item]) rfl (by kernel_rfl) (fun v h => h) rfl (fun _ => trivial) (fun W => by kernel_rfl) (fun W hx _ => pnum_any item W) ?_
          refine soft_det (d := 74) (V := .bool (decide (num item ∈ OL))) rfl (by kernel_rfl) (fun v h => h) rfl (fun _ => trivial) (fun W' hx _ => by have hc9 := HL.out W' (Ext.trans ((Ext.refl _).drew) hx); simp [execOp, go_sem, hc9]) ?_
          refine soft_det (d := 12) (V := .bool (decide (num item ∈ OL))) rfl (by kernel_rfl) (fun v h => h) rfl (fun _ => trivial) (fun W _ _ => by kernel_rfl) ?_
          intro W6 hx6
          simp only [Act.put, List.setIfInBounds_toArray, List.set_cons_succ, List.set_cons_zero]
          have HX6 := Lib.hid (Ext.trans ((Ext.refl W5).drew) hx6)
          clear hx6
          go_wp2_with fail
          go_meet
          exact PtCut.same (by decide) HST.out hb5 HX5.out hi5 HBL.out (HX6.out) (by rw [HPT.out]; rfl)
        · have hev : ns.length % 2 = 0 := ok_assign HOK.out rfl
          have HPO := Lib.hid (ppairsOf_any ns (.slice cq ns.length ccp) fb N (fun x => decide (x ∈ F)) W5 hi5 hl6 hev (fun i h => ok_num HOK.out h) HS.out.fam)
          rw [pairsS_eq (s := F) (fun _ => rfl)] at HPO
          have HST9 : Hid (histB C F part k bg (C.drop k) = (if (bg || !(pairsB F ns).isEmpty) = true then [⟨9, at_, item, of, pairsB F ns, text⟩] else []) ++ histB C F part (k + 1) (bg || !(pairsB F ns).isEmpty) (C.drop (k + 1))) := Lib.hid (by rw [HST.out, if_pos rfl])
          obtain ⟨ps, hps⟩ : ∃ ps, ps = pairsB F ns := ⟨_, rfl⟩
          rw [← hps] at HPO HST9
          have hplen : ps.length ≤ 600 := by rw [hps]; exact Nat.le_trans (pairsB_len F ns) hl6
          clear hps
          go_upto_region 30 with (go_at_call 81; refine HPO.out.mono ?_; rintro en w' ⟨pv, rfl, hpv, np, rfl⟩; (obtain ⟨pq2, pc2, rfl⟩ := Own.form2 hpv); (have HPV := Lib.hid hpv); clear hpv)
          have hbp : Block (np.val.setCell ⟨gb, 4, none⟩ (.slice pq2 ps.length pc2)) gb #[.int .i64 9, .int .i64 at_, .string item, .string of, .slice pq2 ps.length pc2, .string text] := inferInstance
          have hgbs := hb5.lt
          have hsetp := Own.ints_set (g := gb) (i := 4) (u := .slice pq2 ps.length pc2) HPV.out hgbs
          have hpbp := Own.base_le HPV.out
          have HXP : Hid (Ext wr (np.val.setCell ⟨gb, 4, none⟩ (.slice pq2 ps.length pc2))) := Lib.hid (Ext.setCell (HX5.out.trans np.ext) (by rw [HGB.out]; exact Nat.le_refl _) _)
          have HBLP : Hid (∀ a, pq2 = some a → wr.heap.size < a.block) := Lib.hid (fun a ha => by have := hpbp a ha; have := HX5.out.size; have := HGB.out; omega)
          have HSP := Lib.hid hsetp
          obtain ⟨W6, hW6⟩ : ∃ W6, W6 = np.val.setCell ⟨gb, 4, none⟩ (.slice pq2 ps.length pc2) := ⟨_, rfl⟩
          rw [← hW6] at hbp HXP HSP ⊢
          clear hW6 hsetp hpbp hgbs
          cases bg
          · by_cases hpe : ps = []
            · subst hpe
              go_wp2_with fail
              go_meet
              exact ⟨[], pq2, pc2, false, false, rfl, rfl, hbp, HXP.out, HSP.out, HBLP.out, by rw [HST9.out]; rfl⟩
            · have hpos : 0 < ps.length := List.length_pos_iff.2 hpe
              have HNE : Hid (ps.isEmpty = false) := Lib.hid (by cases ps with | nil => exact absurd rfl hpe | cons _ _ => rfl)
              clear hpe
              go_wp2_with fail
              go_meet
              exact ⟨ps, pq2, pc2, true, true, rfl, rfl, hbp, HXP.out, HSP.out, HBLP.out, by rw [HST9.out, HNE.out]; rfl⟩
          · go_wp2_with fail
            go_meet
            exact ⟨ps, pq2, pc2, true, true, rfl, rfl, hbp, HXP.out, HSP.out, HBLP.out, by rw [HST9.out]; rfl⟩
        · have hgl := HS.out.grp.len
          have hgrb := HS.out.grp.blk
          have hgi := HS.out.grp.ints k (by omega)
          obtain ⟨⟨p3, m3, c3⟩, h3⟩ : ∃ z, z = gs[k] := ⟨_, rfl⟩
          rw [← h3] at hgi
          have ck : W5.cell? ⟨g, k, none⟩ = some (.slice p3 m3 c3) := by
            rw [Block.cell k]
            simp only [List.getElem?_toArray, List.getElem?_map]
            rw [List.getElem?_eq_getElem (by omega), ← h3]; rfl
          have og := Old.of_cell ck
          have HCT := Lib.hid (contains_any (group num (evs l) k) (.slice p3 m3 c3) fb N (fun x => decide (x ∈ F)) B W5 hbox HS.out.fam hgi (fun n hn => by
            obtain ⟨e, he, hen⟩ := group_mem hn
            obtain ⟨x, hx, rfl⟩ := List.mem_map.1 he
            obtain ⟨i, hi, rfl⟩ := List.getElem_of_mem hen
            exact ok_num (H.out.ok x hx) hi))
          rw [← HCC.out] at HCT
          clear hgi h3
          go_wp2_with (go_at_call 80; refine HCT.out.mono ?_; rintro en w' ⟨rfl, n1, rfl⟩)
          go_meet
          exact PtCut.same (by decide) HST.out hb5 HX5.out hi5 HBL.out (n1.ext) (by rw [HPT.out]; rfl)
        · go_wp2_with fail
          go_meet
          exact PtCut.same (by decide) HST.out hb5 HX5.out hi5 HBL.out (Ext.refl _) (by rw [HPT.out]; rfl)
        · go_wp2_with fail
          go_meet
          exact PtCut.same (by decide) HST.out hb5 HX5.out hi5 HBL.out (Ext.refl _) (by rw [HPT.out]; rfl)
        · have HL := Lib.hid (fun W (hx : Ext W5 W) => fam_look (SMap.ext HS.out.fam hx) (x := num item) (by omega))
          go_wp2_with fail
          refine wp_region_soft (ptA fb gb BL b3 item (decide (num item ∈ F))) (fun _ _ _ => True) (by kernel_rfl) (by kernel_rfl) (by kernel_rfl) (by kernel_rfl) (fun d => ⟨_, rfl⟩) (fun _ _ _ _ _ _ => trivial) ?_
          refine soft_det (d := 62) (V := .map (some fb)) rfl (by kernel_rfl) (fun v h => h) rfl (fun _ => trivial) (fun W' hx _ => by have hc9 := (hbox.ext (Ext.trans ((Ext.refl _).drew) hx)).cell (i := 0); simp at hc9; simp [execOp, go_sem, hc9]) ?_
          refine soft_det (d := 63) (V := .pointer (some ⟨gb, 2, none⟩)) rfl (by kernel_rfl) (fun v h => h) rfl (fun _ => trivial) (fun W _ _ => by kernel_rfl) ?_
          refine soft_det (d := 64) (V := .string item) rfl (by kernel_rfl) (fun v h => h) rfl (fun _ => trivial) (fun W' hx _ => by have hc9 := (hb5.ext (Ext.trans ((Ext.refl _).drew) hx)).cell (i := 2); simp at hc9; simp [execOp, go_sem, hc9]) ?_
          refine soft_call (d := 65) (V := .int .i64 (num item)) (f := 42) (vals := #[.string item]) rfl (by kernel_rfl) (fun v h => h) rfl (fun _ => trivial) (fun W => by kernel_rfl) (fun W hx _ => pnum_any item W) ?_
          refine soft_det (d := 66) (V := .bool (decide (num item ∈ F))) rfl (by kernel_rfl) (fun v h => h) rfl (fun _ => trivial) (fun W' hx _ => by have hc9 := HL.out W' (Ext.trans ((Ext.refl _).drew) hx); simp [execOp, go_sem, hc9]) ?_
          refine soft_det (d := 12) (V := .bool (decide (num item ∈ F))) rfl (by kernel_rfl) (fun v h => h) rfl (fun _ => trivial) (fun W _ _ => by kernel_rfl) ?_
          intro W6 hx6
          simp only [Act.put, List.setIfInBounds_toArray, List.set_cons_succ, List.set_cons_zero]
          have HX6 := Lib.hid (Ext.trans ((Ext.refl W5).drew) hx6)
          clear hx6
          go_wp2_with fail
          go_meet
          exact PtCut.same (by decide) HST.out hb5 HX5.out hi5 HBL.out (HX6.out) (by rw [HPT.out]; rfl)
        · have HL := Lib.hid (fun W (hx : Ext W5 W) => fam_look (SMap.ext HS.out.fam hx) (x := num item) (by omega))
          go_wp2_with fail
          refine wp_region_soft (ptA fb gb BL b3 item (decide (num item ∈ F))) (fun _ _ _ => True) (by kernel_rfl) (by kernel_rfl) (by kernel_rfl) (by kernel_rfl) (fun d => ⟨_, rfl⟩) (fun _ _ _ _ _ _ => trivial) ?_
          refine soft_det (d := 62) (V := .map (some fb)) rfl (by kernel_rfl) (fun v h => h) rfl (fun _ => trivial) (fun W' hx _ => by have hc9 := (hbox.ext (Ext.trans ((Ext.refl _).drew) hx)).cell (i := 0); simp at hc9; simp [execOp, go_sem, hc9]) ?_
          refine soft_det (d := 63) (V := .pointer (some ⟨gb, 2, none⟩)) rfl (by kernel_rfl) (fun v h => h) rfl (fun _ => trivial) (fun W _ _ => by kernel_rfl) ?_
          refine soft_det (d := 64) (V := .string item) rfl (by kernel_rfl) (fun v h => h) rfl (fun _ => trivial) (fun W' hx _ => by have hc9 := (hb5.ext (Ext.trans ((Ext.refl _).drew) hx)).cell (i := 2); simp at hc9; simp [execOp, go_sem, hc9]) ?_
          refine soft_call (d := 65) (V := .int .i64 (num item)) (f := 42) (vals := #[.string item]) rfl (by kernel_rfl) (fun v h => h) rfl (fun _ => trivial) (fun W => by kernel_rfl) (fun W hx _ => pnum_any item W) ?_
          refine soft_det (d := 66) (V := .bool (decide (num item ∈ F))) rfl (by kernel_rfl) (fun v h => h) rfl (fun _ => trivial) (fun W' hx _ => by have hc9 := HL.out W' (Ext.trans ((Ext.refl _).drew) hx); simp [execOp, go_sem, hc9]) ?_
          refine soft_det (d := 12) (V := .bool (decide (num item ∈ F))) rfl (by kernel_rfl) (fun v h => h) rfl (fun _ => trivial) (fun W _ _ => by kernel_rfl) ?_
          intro W6 hx6
          simp only [Act.put, List.setIfInBounds_toArray, List.set_cons_succ, List.set_cons_zero]
          have HX6 := Lib.hid (Ext.trans ((Ext.refl W5).drew) hx6)
          clear hx6
          go_wp2_with fail
          go_meet
          exact PtCut.same (by decide) HST.out hb5 HX5.out hi5 HBL.out (HX6.out) (by rw [HPT.out]; rfl)
      case rest =>
        obtain ⟨ns2, q2, c2, bg2, keep, rfl, rfl, hb6, hx6, hi6, hbl6, hst⟩ := hcut
        have HX6 := Lib.hid hx6
        have HI6 := Lib.hid hi6
        have HB6 := Lib.hid hbl6
        have HS6 := Lib.hid hst
        clear hx6 hi6 hbl6 hst hb5 hi5 hkd
        cases keep
        · go_wp2_with fail
          go_roundw
          case rel => exact ⟨acc, k + 1, bg2, by omega, by first | rfl | go_num, rfl, by omega, HO.out.ext HX6.out, by rw [← HAC.out, HS6.out]; rfl, HXS.out.trans HX6.out⟩
          case measure => simp [intOf]; omega
        · go_wp2_with (first | ((with_reducible apply wl_load' lwEv); (· (first | exact wanted_none rfl | exact wanted_some rfl rfl rfl)); (· rfl); (· infer_instance); (· rfl)) | (at_builtin; refine wl_append1g (enc := encEv) (k := 6) (E := 34) (base := Ws.heap.size) (l := acc) (y := ((⟨kind, at_, item, of, ns2, text⟩ : Ev), (⟨q2, ns2.length, c2⟩ : SlT))) Tryz.underlying22 hiE hE0 hE1 hE2 rfl (by decide) encEv_len encEv_one rfl rfl (Own.alloc (HO.out.own.ext HX6.out) _) (Block.new _ _ _) rfl (by unfold maxLen; omega) (by omega) (by have h1 := HXS.out.size; have h2 := HX6.out.size; simp; omega) ?_; intro v7 n7 ho7 hk7))
          have hp7 := OutS.push (x := ((⟨kind, at_, item, of, ns2, text⟩ : Ev), (⟨q2, ns2.length, c2⟩ : SlT))) ((HO.out.ext HX6.out).ext ((Ext.refl _).alloc _)) hk7 ho7 (IntS.ext HI6.out ((Ext.refl _).alloc _)) (fun _ q hq => Own.block_lt HO.out.own (by have := HB6.out q hq; omega))
          have hb7 : Ext Ws n7.val := Below.trans ((HXS.out.trans HX6.out).trans ((Ext.refl _).alloc _)) n7.below
          go_roundw
          case rel => exact ⟨_, k + 1, bg2, by omega, by first | rfl | go_num, rfl, by simp; omega, hp7, hist_next HAC.out (by rw [HS6.out]; rfl), hb7⟩
          case measure => simp [intOf]; omega
    · obtain rfl : k = l.length := by omega
      have hfin : evs acc = histB C F part 0 false C := by
        have := HAC.out
        rw [List.drop_of_length_le (by omega)] at this
        rw [← this]
        show _ = _ ++ []
        rw [List.append_nil]
      have HFIN := Lib.hid hfin
      clear hfin
      go_wp2_with fail
      go_ret
      refine ⟨_, acc, rfl, HO.out.evs, ?_, ExtOf.of HX.out⟩
      rw [HFIN.out, HPT.out, HCC.out]
      exact histB_eq (F := fun n => n ∈ F) (fun n => Iff.rfl) (fun i e => partL_keep HI1.out HI2.out HI3.out i e) _ _ _
end Go.Proofs.YtjfohapnjnopfaaGreatDoor
end
