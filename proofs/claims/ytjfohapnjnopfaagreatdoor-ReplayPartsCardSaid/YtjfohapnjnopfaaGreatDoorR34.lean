/-
  Chapter 61: the program's history of a board, its log, its permit.
-/
import Derived.Test.YtjfohapnjnopfaaGreatDoorK30
set_option linter.unusedVariables false
set_option linter.unusedSimpArgs false
namespace Go.Proofs.YtjfohapnjnopfaaGreatDoor
open Go.RowKit RepM

attribute [local go_sem] ExtOf.cell ExtOf.frozen Block.cell Block.frozen ExtB.cell ExtB.frozen alloc_cell alloc_frozen
/-- what is handed back of a history: the events, the log, the error -/
def HisT (w : World) (l : List EvP) (s : ByteArray) (en : Ending) (w' : World) : Prop :=
  ∃ v hs g, en = .returned (.tuple #[v, .string g, .int .i64 (errOf (evs l) s)]) ∧ EvsS w' v hs ∧ evs hs = histOf (evs l) s ∧ (errOf (evs l) s = 0 → log num (counted (evs l)) (num s) = some g) ∧ ∃ m : ExtOf w, w' = m.val
theorem nil_evs {w : World} : EvsS w (.slice none 0 0) [] := ⟨SliceOf.nil _, fun x h => (by simp at h)⟩
set_option maxHeartbeats 3200000 in
theorem phist_any (l : List EvP) (v : Value) (s : ByteArray) (w : World) (h : EvsS w v l) (hl : l.length ≤ 1000) (ht : Tab w) : Calls Tryz.prog 20 #[v, .string s] w (HisT w l s) := by
  obtain ⟨p, cap, rfl, hc1, hc2, hc3⟩ := EvsS.form h
  unfold maxLen at hc2
  have H := Lib.hid h
  have HT := Lib.hid ht
  clear h ht
  rcases hk : isK s 66 with _ | _
  · have HE : Hid (errOf (evs l) s = 6) := Lib.hid (by unfold errOf; rw [hk]; rfl)
    go_enter Tryz.func20, Tryz.ntmps20
    go_wp2_with (go_at_call 41; refine (iis_any s 66 _).mono ?_; rintro en w' ⟨rfl, n1, rfl⟩; simp only [hk])
    go_ret3
    exact ⟨_, [], _, by rw [HE.out]; rfl, nil_evs, by unfold histOf; rw [if_neg (by rw [HE.out]; decide)]; rfl, fun h0 => (by rw [HE.out] at h0; cases h0), ExtOf.of n1.ext⟩
  · have HK := Lib.hid hk
    clear hk
    go_enter Tryz.func20, Tryz.ntmps20
    go_wp2_with (go_at_call 41; refine (iis_any s 66 _).mono ?_; rintro en w' ⟨rfl, n1, rfl⟩; simp only [HK.out])
    refine (pastOf_any l _ _ (H.out.ext n1.ext) hl).mono ?_
    rintro en w' ⟨cv, rfl, hcv, n2, rfl⟩
    have hp := past_filter hcv hl
    obtain ⟨cq, cc, rfl, hq1, hq2, hq3⟩ := EvsS.form hcv
    have HP := Lib.hid hp
    have HT2 := Lib.hid (HT.out.ext (n1.ext.trans n2.ext))
    clear hcv hp
    have HO := Lib.hid (fun W (hx : Ext n2.val W) => plog_any (l.filter okP) _ (num s) W (PastS.ext HP.out hx) (num_wide s))
    rw [evs_counted] at HO
    obtain ⟨o, ho⟩ : ∃ o, o = log num (counted (evs l)) (num s) := ⟨_, rfl⟩
    rw [← ho] at HO
    have HLO := Lib.hid ho
    clear ho
    simp only [undV] at HO
    rcases o with _ | g
    · have HE : Hid (errOf (evs l) s = 8) := Lib.hid (by unfold errOf; rw [HK.out, ← HLO.out]; rfl)
      go_wp2_with (first | (go_at_call 42; refine (pnum_any s _).mono ?_; rintro en w' ⟨rfl, n3, rfl⟩) | (go_at_call 43; refine (HO.out _ (by repeat' (first | (with_reducible exact Ext.refl _) | (with_reducible exact ExtOf.ext _) | (with_reducible refine Ext.trans ?_ (ExtOf.ext _)) | (with_reducible refine Ext.alloc ?_ _) | (with_reducible refine Ext.drew ?_) | (with_reducible refine Ext.setCell ?_ ?_ _) | (with_reducible refine Ext.setRow ?_ ?_ _) | (with_reducible exact HX.out) | (with_reducible refine Ext.trans ?_ HX.out) | (with_reducible refine Ext.below ?_ (Nat.le_refl _) _) | omega | (simp; done) | (simp; omega)))).mono ?_; rintro en w' ⟨rfl, n4, rfl⟩))
      go_ret3
      exact ⟨_, [], _, by rw [HE.out]; rfl, nil_evs, by unfold histOf; rw [if_neg (by rw [HE.out]; decide)]; rfl, fun h0 => (by rw [HE.out] at h0; cases h0), ExtOf.of (by repeat' (first | (with_reducible exact Ext.refl _) | (with_reducible exact ExtOf.ext _) | (with_reducible refine Ext.trans ?_ (ExtOf.ext _)) | (with_reducible refine Ext.alloc ?_ _) | (with_reducible refine Ext.drew ?_) | (with_reducible refine Ext.setCell ?_ ?_ _) | (with_reducible refine Ext.setRow ?_ ?_ _) | (with_reducible exact HX.out) | (with_reducible refine Ext.trans ?_ HX.out) | (with_reducible refine Ext.below ?_ (Nat.le_refl _) _) | omega | (simp; done) | (simp; omega)))⟩
    · have HE : Hid (errOf (evs l) s = 0) := Lib.hid (by unfold errOf; rw [HK.out, ← HLO.out]; rfl)
      have HF0 := Lib.hid (fun W (hx : Ext n2.val W) => pfamily_any (l.filter okP) _ (num s) W (PastS.ext HP.out hx) (HT2.out.ext hx) (num_wide s))
      go_wp2_with (first | (go_at_call 42; refine (pnum_any s _).mono ?_; rintro en w' ⟨rfl, n3, rfl⟩) | (go_at_call 43; refine (HO.out _ (by repeat' (first | (with_reducible exact Ext.refl _) | (with_reducible exact ExtOf.ext _) | (with_reducible refine Ext.trans ?_ (ExtOf.ext _)) | (with_reducible refine Ext.alloc ?_ _) | (with_reducible refine Ext.drew ?_) | (with_reducible refine Ext.setCell ?_ ?_ _) | (with_reducible refine Ext.setRow ?_ ?_ _) | (with_reducible exact HX.out) | (with_reducible refine Ext.trans ?_ HX.out) | (with_reducible refine Ext.below ?_ (Nat.le_refl _) _) | omega | (simp; done) | (simp; omega)))).mono ?_; rintro en w' ⟨rfl, n4, rfl⟩) | (go_at_call 45; refine (HF0.out _ (by repeat' (first | (with_reducible exact Ext.refl _) | (with_reducible exact ExtOf.ext _) | (with_reducible refine Ext.trans ?_ (ExtOf.ext _)) | (with_reducible refine Ext.alloc ?_ _) | (with_reducible refine Ext.drew ?_) | (with_reducible refine Ext.setCell ?_ ?_ _) | (with_reducible refine Ext.setRow ?_ ?_ _) | (with_reducible exact HX.out) | (with_reducible refine Ext.trans ?_ HX.out) | (with_reducible refine Ext.below ?_ (Nat.le_refl _) _) | omega | (simp; done) | (simp; omega)))).mono ?_; rintro en w' ⟨fb, F, rfl, _, hfs, hfp, hfm, n5, rfl⟩; (have HWD := Lib.hid (fam_wd HP.out (num_wide s) hfp)); (have HFS := Lib.hid hfs); (have HFM := Lib.hid hfm); clear hfs hfp hfm) | (go_at_call 44; refine (ppart_any (l.filter okP) _ fb F.length F _ (PastS.ext HP.out (by repeat' (first | (with_reducible exact Ext.refl _) | (with_reducible exact ExtOf.ext _) | (with_reducible refine Ext.trans ?_ (ExtOf.ext _)) | (with_reducible refine Ext.alloc ?_ _) | (with_reducible refine Ext.drew ?_) | (with_reducible refine Ext.setCell ?_ ?_ _) | (with_reducible refine Ext.setRow ?_ ?_ _) | (with_reducible exact HX.out) | (with_reducible refine Ext.trans ?_ HX.out) | (with_reducible refine Ext.below ?_ (Nat.le_refl _) _) | omega | (simp; done) | (simp; omega)))) (HT2.out.ext (by repeat' (first | (with_reducible exact Ext.refl _) | (with_reducible exact ExtOf.ext _) | (with_reducible refine Ext.trans ?_ (ExtOf.ext _)) | (with_reducible refine Ext.alloc ?_ _) | (with_reducible refine Ext.drew ?_) | (with_reducible refine Ext.setCell ?_ ?_ _) | (with_reducible refine Ext.setRow ?_ ?_ _) | (with_reducible exact HX.out) | (with_reducible refine Ext.trans ?_ HX.out) | (with_reducible refine Ext.below ?_ (Nat.le_refl _) _) | omega | (simp; done) | (simp; omega)))) HFS.out (Nat.le_trans HWD.out.2 (by omega)) HWD.out.1).mono ?_; rintro en w' ⟨pv, hs, rfl, hes, heq, n6, rfl⟩))
      go_ret3
      refine ⟨_, hs, g, by rw [HE.out]; rfl, hes, ?_, fun _ => HLO.out.symm, ExtOf.of (by repeat' (first | (with_reducible exact Ext.refl _) | (with_reducible exact ExtOf.ext _) | (with_reducible refine Ext.trans ?_ (ExtOf.ext _)) | (with_reducible refine Ext.alloc ?_ _) | (with_reducible refine Ext.drew ?_) | (with_reducible refine Ext.setCell ?_ ?_ _) | (with_reducible refine Ext.setRow ?_ ?_ _) | (with_reducible exact HX.out) | (with_reducible refine Ext.trans ?_ HX.out) | (with_reducible refine Ext.below ?_ (Nat.le_refl _) _) | omega | (simp; done) | (simp; omega)))⟩
      rw [heq, evs_counted]
      unfold histOf
      rw [if_pos HE.out]
      unfold hist
      have hfe : (fun n => n ∈ F) = Fam num (counted (evs l)) (num s) := funext (fun n => propext (by rw [HFM.out n, evs_counted]))
      rw [hfe]
set_option maxHeartbeats 1600000 in
theorem phistory_any (l : List EvP) (v : Value) (s : ByteArray) (w : World) (h : EvsS w v l) (hl : l.length ≤ 1000) (ht : Tab w) : Calls Tryz.prog 8 #[v, .string s] w (HisR w l s) := by
  have HC := Lib.hid (phist_any l v s w h hl ht)
  clear h ht
  go_enter Tryz.func8, Tryz.ntmps8
  go_wp2_with (go_at_call 20; refine HC.out.mono ?_; rintro en w' ⟨hv, hs, g, rfl, hes, heq, _, n1, rfl⟩; (have HES := Lib.hid hes); (have HEQ := Lib.hid heq); clear hes heq)
  go_ret2
  exact ⟨_, hs, rfl, HES.out, HEQ.out, n1, rfl⟩
set_option maxHeartbeats 3200000 in
theorem ppermit_any (l : List EvP) (v : Value) (s : ByteArray) (w : World) (h : EvsS w v l) (hl : l.length ≤ 1000) (ht : Tab w) : Calls Tryz.prog 13 #[v, .string s] w fun e w' => e = .returned (permV (permOf (evs l) s)) ∧ ∃ n : ExtOf w, w' = n.val := by
  have HC := Lib.hid (phist_any l v s w h hl ht)
  obtain ⟨p, cap, rfl, hc1, hc2, hc3⟩ := EvsS.form h
  unfold maxLen at hc2
  have H := Lib.hid h
  clear h ht
  by_cases he : errOf (evs l) s = 0
  case neg =>
    have q0 : (errOf (evs l) s != 0) = true := bne_iff_ne.2 he
    have HPE : Hid (permOf (evs l) s = (⟨#[]⟩, errOf (evs l) s)) := Lib.hid (by unfold permOf; rw [if_neg he])
    clear he
    go_enter Tryz.func13, Tryz.ntmps13
    go_wp2_with (go_at_call 20; refine HC.out.mono ?_; rintro en w' ⟨hv, hs, g, rfl, _, _, _, n1, rfl⟩)
    go_ret2
    exact ⟨by rw [HPE.out]; rfl, by exact ExtOf.of (by repeat' (first | (with_reducible exact Ext.refl _) | (with_reducible exact ExtOf.ext _) | (with_reducible refine Ext.trans ?_ (ExtOf.ext _)) | (with_reducible refine Ext.alloc ?_ _) | (with_reducible refine Ext.drew ?_) | (with_reducible refine Ext.setCell ?_ ?_ _) | (with_reducible refine Ext.setRow ?_ ?_ _) | (with_reducible exact HX.out) | (with_reducible refine Ext.trans ?_ HX.out) | (with_reducible refine Ext.below ?_ (Nat.le_refl _) _) | omega | (simp; done) | (simp; omega)))⟩
  have q0 : (errOf (evs l) s != 0) = false := bne_eq_false_iff_eq.2 he
  have HPE : Hid (∀ g, log num (counted (evs l)) (num s) = some g → permOf (evs l) s = match under (counted (evs l)) g with | some p => (p, 0) | none => (⟨#[]⟩, 8)) := Lib.hid (fun g hg => by unfold permOf; rw [if_pos he, hg]; rfl)
  have HE := Lib.hid he
  clear he
  go_enter Tryz.func13, Tryz.ntmps13
  go_wp2_with (go_at_call 20; refine HC.out.mono ?_; rintro en w' ⟨hv, hs, g, rfl, _, _, hg, n1, rfl⟩; (have HG := Lib.hid (HPE.out g (hg HE.out))); clear hg)
  refine (pastOf_any l _ _ (H.out.ext n1.ext) hl).mono ?_
  rintro en w' ⟨cv, rfl, hcv, n2, rfl⟩
  have hp := past_filter hcv hl
  obtain ⟨cq, cc, rfl, hq1, hq2, hq3⟩ := EvsS.form hcv
  unfold maxLen at hq2
  rw [← evs_counted] at HG
  have hfl : (l.filter okP).length ≤ 1000 := hp.len
  generalize l.filter okP = cl at *
  have HP := Lib.hid hp
  clear hcv hp
  go_wp2_with fail
  go_loopw [24] (fun vi wr => ∃ k : Nat, k ≤ cl.length ∧ vi = .int .i64 k ∧ under (evs cl) g = under ((evs cl).drop k) g ∧ Ext n2.val wr) (fun i _ => cl.length - (intOf i).toNat)
  case atStart => exact ⟨0, by omega, rfl, by rw [List.drop_zero], Ext.refl _⟩
  case round =>
    obtain ⟨i, hk, rfl, hd, hx⟩ := hrel
    have HD := Lib.hid hd
    have HX := Lib.hid hx
    clear hd hx
    by_cases hlt : i < cl.length
    · have HS := Lib.hid (under_step (l := evs cl) (s := g) (k := i) (by simpa using hlt))
      obtain ⟨b, off, rfl, hr, hin⟩ := EvsS.elem (EvsS.ext HP.out.ev HX.out) hlt
      have hok := HP.out.ok _ (List.getElem_mem hlt)
      have hgi : (evs cl)[i]'(by simpa using hlt) = (cl[i]).1 := evs_get (by simpa using hlt)
      obtain ⟨⟨x, sl⟩, he⟩ : ∃ z, z = cl[i] := ⟨_, rfl⟩
      rw [← he] at hr hin hok hgi
      simp only at hok hin hgi
      clear he
      have HR : Hid (wr.rangeAt b (off + i * 6) [.int .i64 x.kind, .int .i64 x.at_, .string x.item, .string x.of, sl.v, .string x.text]) := Lib.hid hr
      clear hin hok hr
      rw [hgi] at HS
      clear hgi
      by_cases h2 : x.kind = 2
      · have q2 : (x.kind == 2) = true := beq_iff_eq.2 h2
        by_cases hs : x.item = g
        · have qs : (x.item.toList == g.toList) = true := str_eq hs
          have HU : Hid (under (evs cl) g = some x.of) := Lib.hid (by rw [HD.out, HS.out, if_pos ⟨h2, hs⟩])
          clear h2 hs
          go_wp2_with (first | ((with_reducible refine wl_loadM midEv (Ext.range ?_ (Hid.out HR)) ?_ ?_ ?_ ?_); (· repeat' (first | (with_reducible exact Ext.refl _) | (with_reducible exact ExtOf.ext _) | (with_reducible refine Ext.trans ?_ (ExtOf.ext _)) | (with_reducible refine Ext.alloc ?_ _) | (with_reducible refine Ext.drew ?_) | (with_reducible refine Ext.setCell ?_ ?_ _) | (with_reducible refine Ext.setRow ?_ ?_ _) | (with_reducible exact HX.out) | (with_reducible refine Ext.trans ?_ HX.out) | (with_reducible refine Ext.below ?_ (Nat.le_refl _) _) | omega | (simp; done) | (simp; omega))); (· rfl); (· (first | exact wanted_none rfl | exact wanted_some rfl rfl rfl)); (· rfl)) | ((with_reducible apply wl_store' lwEv); (· (first | exact wanted_none rfl | exact wanted_some rfl rfl rfl)); (· rfl); (· rfl); (· infer_instance); (· rfl); (· rfl); (· (simp [Value.oneCell', SlT.v])); try simp only [setRow_alloc, setRow_new, setRow_new1, setRow_new2, setRow_new11, setRow_new111]) | ((with_reducible apply wl_load' lwEv); (· (first | exact wanted_none rfl | exact wanted_some rfl rfl rfl)); (· rfl); (· infer_instance); (· rfl)))
          go_ret2
          exact ⟨by rw [HG.out, HU.out]; rfl, ExtOf.of (n1.ext.trans (n2.ext.trans (HX.out.trans (by repeat' (first | (with_reducible exact Ext.refl _) | (with_reducible exact ExtOf.ext _) | (with_reducible refine Ext.trans ?_ (ExtOf.ext _)) | (with_reducible refine Ext.alloc ?_ _) | (with_reducible refine Ext.drew ?_) | (with_reducible refine Ext.setCell ?_ ?_ _) | (with_reducible refine Ext.setRow ?_ ?_ _) | (with_reducible exact HX.out) | (with_reducible refine Ext.trans ?_ HX.out) | (with_reducible refine Ext.below ?_ (Nat.le_refl _) _) | omega | (simp; done) | (simp; omega))))))⟩
        · have qs : (x.item.toList == g.toList) = false := str_ne hs
          have HH : Hid (under (evs cl) g = under ((evs cl).drop (i + 1)) g) := Lib.hid (by rw [HD.out, HS.out, if_neg (fun h => hs h.2)])
          clear hs h2
          go_wp2_with (first | ((with_reducible refine wl_loadM midEv (Ext.range ?_ (Hid.out HR)) ?_ ?_ ?_ ?_); (· repeat' (first | (with_reducible exact Ext.refl _) | (with_reducible exact ExtOf.ext _) | (with_reducible refine Ext.trans ?_ (ExtOf.ext _)) | (with_reducible refine Ext.alloc ?_ _) | (with_reducible refine Ext.drew ?_) | (with_reducible refine Ext.setCell ?_ ?_ _) | (with_reducible refine Ext.setRow ?_ ?_ _) | (with_reducible exact HX.out) | (with_reducible refine Ext.trans ?_ HX.out) | (with_reducible refine Ext.below ?_ (Nat.le_refl _) _) | omega | (simp; done) | (simp; omega))); (· rfl); (· (first | exact wanted_none rfl | exact wanted_some rfl rfl rfl)); (· rfl)) | ((with_reducible apply wl_store' lwEv); (· (first | exact wanted_none rfl | exact wanted_some rfl rfl rfl)); (· rfl); (· rfl); (· infer_instance); (· rfl); (· rfl); (· (simp [Value.oneCell', SlT.v])); try simp only [setRow_alloc, setRow_new, setRow_new1, setRow_new2, setRow_new11, setRow_new111]) | ((with_reducible apply wl_load' lwEv); (· (first | exact wanted_none rfl | exact wanted_some rfl rfl rfl)); (· rfl); (· infer_instance); (· rfl)))
          go_roundw
          case rel => exact ⟨i + 1, by omega, by first | rfl | go_num, HH.out, HX.out.trans (by repeat' (first | (with_reducible exact Ext.refl _) | (with_reducible exact ExtOf.ext _) | (with_reducible refine Ext.trans ?_ (ExtOf.ext _)) | (with_reducible refine Ext.alloc ?_ _) | (with_reducible refine Ext.drew ?_) | (with_reducible refine Ext.setCell ?_ ?_ _) | (with_reducible refine Ext.setRow ?_ ?_ _) | (with_reducible exact HX.out) | (with_reducible refine Ext.trans ?_ HX.out) | (with_reducible refine Ext.below ?_ (Nat.le_refl _) _) | omega | (simp; done) | (simp; omega)))⟩
          case measure => simp [intOf]; omega
      · have q2 : (x.kind == 2) = false := beq_eq_false_iff_ne.2 h2
        have HH : Hid (under (evs cl) g = under ((evs cl).drop (i + 1)) g) := Lib.hid (by rw [HD.out, HS.out, if_neg (fun h => h2 h.1)])
        clear h2
        go_wp2_with (first | ((with_reducible refine wl_loadM midEv (Ext.range ?_ (Hid.out HR)) ?_ ?_ ?_ ?_); (· repeat' (first | (with_reducible exact Ext.refl _) | (with_reducible exact ExtOf.ext _) | (with_reducible refine Ext.trans ?_ (ExtOf.ext _)) | (with_reducible refine Ext.alloc ?_ _) | (with_reducible refine Ext.drew ?_) | (with_reducible refine Ext.setCell ?_ ?_ _) | (with_reducible refine Ext.setRow ?_ ?_ _) | (with_reducible exact HX.out) | (with_reducible refine Ext.trans ?_ HX.out) | (with_reducible refine Ext.below ?_ (Nat.le_refl _) _) | omega | (simp; done) | (simp; omega))); (· rfl); (· (first | exact wanted_none rfl | exact wanted_some rfl rfl rfl)); (· rfl)) | ((with_reducible apply wl_store' lwEv); (· (first | exact wanted_none rfl | exact wanted_some rfl rfl rfl)); (· rfl); (· rfl); (· infer_instance); (· rfl); (· rfl); (· (simp [Value.oneCell', SlT.v])); try simp only [setRow_alloc, setRow_new, setRow_new1, setRow_new2, setRow_new11, setRow_new111]) | ((with_reducible apply wl_load' lwEv); (· (first | exact wanted_none rfl | exact wanted_some rfl rfl rfl)); (· rfl); (· infer_instance); (· rfl)))
        go_roundw
        case rel => exact ⟨i + 1, by omega, by first | rfl | go_num, HH.out, HX.out.trans (by repeat' (first | (with_reducible exact Ext.refl _) | (with_reducible exact ExtOf.ext _) | (with_reducible refine Ext.trans ?_ (ExtOf.ext _)) | (with_reducible refine Ext.alloc ?_ _) | (with_reducible refine Ext.drew ?_) | (with_reducible refine Ext.setCell ?_ ?_ _) | (with_reducible refine Ext.setRow ?_ ?_ _) | (with_reducible exact HX.out) | (with_reducible refine Ext.trans ?_ HX.out) | (with_reducible refine Ext.below ?_ (Nat.le_refl _) _) | omega | (simp; done) | (simp; omega)))⟩
        case measure => simp [intOf]; omega
    · have HU : Hid (under (evs cl) g = none) := Lib.hid (by rw [HD.out, List.drop_of_length_le (by simp; omega)]; rfl)
      go_wp2_with fail
      go_ret2
      exact ⟨by rw [HG.out, HU.out]; rfl, ExtOf.of (n1.ext.trans (n2.ext.trans HX.out))⟩
end Go.Proofs.YtjfohapnjnopfaaGreatDoor
