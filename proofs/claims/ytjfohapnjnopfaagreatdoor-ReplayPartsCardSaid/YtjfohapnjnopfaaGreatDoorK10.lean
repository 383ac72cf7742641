/-
  Chapter 61: several texts in one (R10, R11, R12, R13).
-/
import Derived.Test.YtjfohapnjnopfaaGreatDoorK7
import Derived.Test.YtjfohapnjnopfaaGreatDoorMA
/-
  Chapter 61: the reference's makers and origins.
-/
section
set_option linter.unusedVariables false
set_option linter.unusedSimpArgs false
namespace Go.Proofs.YtjfohapnjnopfaaGreatDoor
open Go.RowKit RepM

attribute [local go_sem] ExtOf.cell ExtOf.frozen Block.cell Block.frozen ExtB.cell ExtB.frozen alloc_cell alloc_frozen
/-- events that count -/
structure PastS (w : World) (v : Value) (l : List EvP) : Prop where
  ev : EvsS w v l
  ok : ∀ x ∈ l, okEv x.1 = true
  len : l.length ≤ 1000
theorem PastS.ext {w w' : World} {v : Value} {l : List EvP} (h : PastS w v l) (hx : Ext w w') : PastS w' v l := ⟨h.ev.ext hx, h.ok, h.len⟩
abbrev evs (l : List EvP) : List Ev := l.map (·.1)
set_option maxHeartbeats 1600000 in
theorem rmakes_any (x : Ev) (sl : SlT) (w : World) (hok : okEv x = true) (hn : IntS w sl.v x.n) : Calls Tryz.prog 53 #[.agg #[.int .i64 x.kind, .int .i64 x.at_, .string x.item, .string x.of, sl.v, .string x.text]] w fun e w' => e = .returned (.tuple #[.int .i64 (mkT x).1, .int .i64 (mkT x).2.1, .bool (mkT x).2.2]) ∧ ∃ n : ExtOf w, w' = n.val := by
  have hl := ok_len hok
  obtain ⟨p, cap, hv, hc1, hc2, hc3⟩ := IntS.form hn
  rw [hv] at hn ⊢
  unfold maxLen at hc2
  by_cases h4 : x.kind = 4
  · have h2 := ok_saw hok h4
    obtain ⟨b, off, rfl, hc⟩ := IntS.elem hn (i := 1) (by omega)
    have HM : Hid (mkT x = (x.n[1], -1, true)) := Lib.hid (by unfold mkT; rw [if_pos h4, List.getD_eq_getElem?_getD, List.getElem?_eq_getElem (by omega)]; rfl)
    generalize x.n[1] = m at *
    generalize x.n.length = nl at *
    have ob := Old.of_cell hc
    clear hn hok hl hv
    rw [h4]
    go_enter Tryz.func53, Tryz.ntmps53
    go_wp2_with fail
    go_ret3
    exact ⟨by rw [HM.out]; rfl, by exact ExtOf.of (by repeat' (first | (with_reducible exact Ext.refl _) | (with_reducible exact ExtOf.ext _) | (with_reducible refine Ext.trans ?_ (ExtOf.ext _)) | (with_reducible refine Ext.alloc ?_ _) | (with_reducible refine Ext.drew ?_) | (with_reducible refine Ext.setCell ?_ ?_ _) | (with_reducible refine Ext.setRow ?_ ?_ _) | (with_reducible exact HX.out) | (with_reducible refine Ext.trans ?_ HX.out) | (with_reducible refine Ext.below ?_ (Nat.le_refl _) _) | omega | (simp; done) | (simp; omega)))⟩
  · have q4 : (x.kind == 4) = false := beq_eq_false_iff_ne.2 h4
    by_cases h13 : x.kind = 13
    · have h2 := ok_trim hok h13
      obtain ⟨b, off, rfl, hc⟩ := IntS.elem hn (i := 0) (by omega)
      rw [Nat.add_zero] at hc
      have HM : Hid (mkT x = (x.n[0], ((x.n.length : Int) - 1) / 2, true)) := Lib.hid (by unfold mkT; rw [if_neg h4, if_pos h13, List.getD_eq_getElem?_getD, List.getElem?_eq_getElem (by omega)]; rfl)
      generalize x.n[0] = m at *
      generalize x.n.length = nl at *
      have ob := Old.of_cell hc
      clear hn hok hv
      rw [h13] at q4 ⊢
      go_enter Tryz.func53, Tryz.ntmps53
      go_wp2_with fail
      refine wp_region_ext (by kernel_rfl) (by kernel_rfl) ?_
      repeat (first | go_big_quiet_skip | go_big_quiet_step (fail))
      refine wpQuiet_nil ?_
      intro _ hw'
      obtain ⟨nq, hw''⟩ := hw'
      subst hw''
      go_wp2_with fail
      go_ret3
      exact ⟨by rw [HM.out]; rfl, by exact ExtOf.of (by repeat' (first | (with_reducible exact Ext.refl _) | (with_reducible exact ExtOf.ext _) | (with_reducible refine Ext.trans ?_ (ExtOf.ext _)) | (with_reducible refine Ext.alloc ?_ _) | (with_reducible refine Ext.drew ?_) | (with_reducible refine Ext.setCell ?_ ?_ _) | (with_reducible refine Ext.setRow ?_ ?_ _) | (with_reducible exact HX.out) | (with_reducible refine Ext.trans ?_ HX.out) | (with_reducible refine Ext.below ?_ (Nat.le_refl _) _) | omega | (simp; done) | (simp; omega)))⟩
    · have q13 : (x.kind == 13) = false := beq_eq_false_iff_ne.2 h13
      by_cases h14 : x.kind = 14
      · have h2 := ok_resaw hok h14
        obtain ⟨b, off, rfl, hc⟩ := IntS.elem hn (i := 0) (by omega)
        rw [Nat.add_zero] at hc
        have HM : Hid (mkT x = (x.n[0], (x.n.length : Int) - 1, true)) := Lib.hid (by unfold mkT; rw [if_neg h4, if_neg h13, if_pos h14, List.getD_eq_getElem?_getD, List.getElem?_eq_getElem (by omega)]; rfl)
        generalize x.n[0] = m at *
        generalize x.n.length = nl at *
        have ob := Old.of_cell hc
        clear hn hok hv
        rw [h14] at q4 q13 ⊢
        go_enter Tryz.func53, Tryz.ntmps53
        go_wp2_with fail
        refine wp_region_ext (by kernel_rfl) (by kernel_rfl) ?_
        repeat (first | go_big_quiet_skip | go_big_quiet_step (fail))
        refine wpQuiet_nil ?_
        intro _ hw'
        obtain ⟨nq, hw''⟩ := hw'
        subst hw''
        go_wp2_with fail
        go_ret3
        exact ⟨by rw [HM.out]; rfl, by exact ExtOf.of (by repeat' (first | (with_reducible exact Ext.refl _) | (with_reducible exact ExtOf.ext _) | (with_reducible refine Ext.trans ?_ (ExtOf.ext _)) | (with_reducible refine Ext.alloc ?_ _) | (with_reducible refine Ext.drew ?_) | (with_reducible refine Ext.setCell ?_ ?_ _) | (with_reducible refine Ext.setRow ?_ ?_ _) | (with_reducible exact HX.out) | (with_reducible refine Ext.trans ?_ HX.out) | (with_reducible refine Ext.below ?_ (Nat.le_refl _) _) | omega | (simp; done) | (simp; omega)))⟩
      · have q14 : (x.kind == 14) = false := beq_eq_false_iff_ne.2 h14
        have HM : Hid (mkT x = (0, 0, false)) := Lib.hid (by unfold mkT; rw [if_neg h4, if_neg h13, if_neg h14])
        go_enter Tryz.func53, Tryz.ntmps53
        go_wp2_with fail
        go_ret3
        exact ⟨by rw [HM.out]; rfl, by exact ExtOf.of (by repeat' (first | (with_reducible exact Ext.refl _) | (with_reducible exact ExtOf.ext _) | (with_reducible refine Ext.trans ?_ (ExtOf.ext _)) | (with_reducible refine Ext.alloc ?_ _) | (with_reducible refine Ext.drew ?_) | (with_reducible refine Ext.setCell ?_ ?_ _) | (with_reducible refine Ext.setRow ?_ ?_ _) | (with_reducible exact HX.out) | (with_reducible refine Ext.trans ?_ HX.out) | (with_reducible refine Ext.below ?_ (Nat.le_refl _) _) | omega | (simp; done) | (simp; omega)))⟩
theorem evs_get {l : List EvP} {k : Nat} (h : k < (evs l).length) : (evs l)[k] = (l[k]'(by simpa using h)).1 := by simp
set_option maxHeartbeats 1600000 in
set_option maxRecDepth 20000 in
theorem rmaker_any (l : List EvP) (v : Value) (n : Int) (w : World) (h : PastS w v l) : Calls Tryz.prog 49 #[v, .int .i64 n] w fun en w' => (∃ k : Int, en = .returned (.int .i64 k) ∧ MakR (evs l) n k) ∧ ∃ m : ExtOf w, w' = m.val := by
  obtain ⟨p, cap, rfl, hc1, hc2, hc3⟩ := EvsS.form h.ev
  unfold maxLen at hc2
  have hlen := h.len
  have H := Lib.hid h
  clear h
  go_enter Tryz.func49, Tryz.ntmps49
  go_wp2_with fail
  go_loopw [5, 6] (fun vk vi wr => ∃ (i : Nat) (k : Int), i ≤ l.length ∧ vi = .int .i64 i ∧ vk = .int .i64 k ∧ ((k = -1 ∧ maker ((evs l).take i) n = none) ∨ ∃ (j : Nat) (h : j < (evs l).length), k = j ∧ maker ((evs l).take i) n = some (evs l)[j]) ∧ Ext w wr) (fun _ i _ => l.length - (intOf i).toNat)
  case atStart => exact ⟨0, -1, by omega, rfl, rfl, .inl ⟨rfl, by rw [List.take_zero]; rfl⟩, Ext.refl _⟩
  case round =>
    obtain ⟨i, k, hi, rfl, rfl, hm, hx⟩ := hrel
    have HX := Lib.hid hx
    have HM := Lib.hid hm
    clear hx hm
    by_cases hlt : i < l.length
    · have HT := Lib.hid (maker_take (l := evs l) (n := n) (k := i) (by simpa using hlt))
      have HG := Lib.hid (evs_get (l := l) (k := i) (by simpa using hlt))
      obtain ⟨b, off, rfl, hr, hin⟩ := EvsS.elem (EvsS.ext H.out.ev HX.out) hlt
      have hok := H.out.ok _ (List.getElem_mem hlt)
      obtain ⟨⟨x, sl⟩, he⟩ : ∃ z, z = l[i] := ⟨_, rfl⟩
      rw [← he] at hr hin hok HG
      have HT2 : Hid (maker ((evs l).take (i + 1)) n = if ((mkT x).2.2 && decide ((mkT x).1 ≤ n)) then some x else maker ((evs l).take i) n) := Lib.hid (by rw [HT.out, HG.out, mkT_makes])
      clear he HT
      have HR : Hid (wr.rangeAt b (off + i * 6) [.int .i64 x.kind, .int .i64 x.at_, .string x.item, .string x.of, sl.v, .string x.text]) := Lib.hid hr
      have HI := Lib.hid hin
      have HK := Lib.hid hok
      clear hr hin hok
      obtain ⟨f, m, c, hmk⟩ : ∃ f m c, mkT x = (f, m, c) := ⟨_, _, _, rfl⟩
      rw [hmk] at HT2
      have HMK := Lib.hid hmk
      clear hmk
      simp only at HT2
      cases c
      · go_wp2_with (first | ((with_reducible refine wl_loadM midEv (Ext.range ?_ (Hid.out HR)) ?_ ?_ ?_ ?_); (· repeat' (first | (with_reducible exact Ext.refl _) | (with_reducible exact ExtOf.ext _) | (with_reducible refine Ext.trans ?_ (ExtOf.ext _)) | (with_reducible refine Ext.alloc ?_ _) | (with_reducible refine Ext.drew ?_) | (with_reducible refine Ext.setCell ?_ ?_ _) | (with_reducible refine Ext.setRow ?_ ?_ _) | (with_reducible exact HX.out) | (with_reducible refine Ext.trans ?_ HX.out) | (with_reducible refine Ext.below ?_ (Nat.le_refl _) _) | omega | (simp; done) | (simp; omega))); (· rfl); (· (first | exact wanted_none rfl | exact wanted_some rfl rfl rfl)); (· rfl)) | (go_at_call 53; refine (rmakes_any x sl _ HK.out (IntS.ext HI.out (by repeat' (first | (with_reducible exact Ext.refl _) | (with_reducible exact ExtOf.ext _) | (with_reducible refine Ext.trans ?_ (ExtOf.ext _)) | (with_reducible refine Ext.alloc ?_ _) | (with_reducible refine Ext.drew ?_) | (with_reducible refine Ext.setCell ?_ ?_ _) | (with_reducible refine Ext.setRow ?_ ?_ _) | (with_reducible exact HX.out) | (with_reducible refine Ext.trans ?_ HX.out) | (with_reducible refine Ext.below ?_ (Nat.le_refl _) _) | omega | (simp; done) | (simp; omega))))).mono ?_; rintro en w' ⟨rfl, nm, rfl⟩; rw [HMK.out]))
        go_roundw
        case rel => exact ⟨i + 1, k, by omega, by first | rfl | go_num, rfl, by rw [HT2.out]; exact HM.out, HX.out.trans (by repeat' (first | (with_reducible exact Ext.refl _) | (with_reducible exact ExtOf.ext _) | (with_reducible refine Ext.trans ?_ (ExtOf.ext _)) | (with_reducible refine Ext.alloc ?_ _) | (with_reducible refine Ext.drew ?_) | (with_reducible refine Ext.setCell ?_ ?_ _) | (with_reducible refine Ext.setRow ?_ ?_ _) | (with_reducible exact HX.out) | (with_reducible refine Ext.trans ?_ HX.out) | (with_reducible refine Ext.below ?_ (Nat.le_refl _) _) | omega | (simp; done) | (simp; omega)))⟩
        case measure => simp [intOf]; omega
      · by_cases hf : f ≤ n
        · have qf : decide (f ≤ n) = true := decide_eq_true hf
          go_wp2_with (first | ((with_reducible refine wl_loadM midEv (Ext.range ?_ (Hid.out HR)) ?_ ?_ ?_ ?_); (· repeat' (first | (with_reducible exact Ext.refl _) | (with_reducible exact ExtOf.ext _) | (with_reducible refine Ext.trans ?_ (ExtOf.ext _)) | (with_reducible refine Ext.alloc ?_ _) | (with_reducible refine Ext.drew ?_) | (with_reducible refine Ext.setCell ?_ ?_ _) | (with_reducible refine Ext.setRow ?_ ?_ _) | (with_reducible exact HX.out) | (with_reducible refine Ext.trans ?_ HX.out) | (with_reducible refine Ext.below ?_ (Nat.le_refl _) _) | omega | (simp; done) | (simp; omega))); (· rfl); (· (first | exact wanted_none rfl | exact wanted_some rfl rfl rfl)); (· rfl)) | (go_at_call 53; refine (rmakes_any x sl _ HK.out (IntS.ext HI.out (by repeat' (first | (with_reducible exact Ext.refl _) | (with_reducible exact ExtOf.ext _) | (with_reducible refine Ext.trans ?_ (ExtOf.ext _)) | (with_reducible refine Ext.alloc ?_ _) | (with_reducible refine Ext.drew ?_) | (with_reducible refine Ext.setCell ?_ ?_ _) | (with_reducible refine Ext.setRow ?_ ?_ _) | (with_reducible exact HX.out) | (with_reducible refine Ext.trans ?_ HX.out) | (with_reducible refine Ext.below ?_ (Nat.le_refl _) _) | omega | (simp; done) | (simp; omega))))).mono ?_; rintro en w' ⟨rfl, nm, rfl⟩; rw [HMK.out]))
          go_roundw
          case rel => exact ⟨i + 1, i, by omega, by first | rfl | go_num, rfl, .inr ⟨i, by simpa using hlt, rfl, by rw [HT2.out, qf, HG.out]; rfl⟩, HX.out.trans (by repeat' (first | (with_reducible exact Ext.refl _) | (with_reducible exact ExtOf.ext _) | (with_reducible refine Ext.trans ?_ (ExtOf.ext _)) | (with_reducible refine Ext.alloc ?_ _) | (with_reducible refine Ext.drew ?_) | (with_reducible refine Ext.setCell ?_ ?_ _) | (with_reducible refine Ext.setRow ?_ ?_ _) | (with_reducible exact HX.out) | (with_reducible refine Ext.trans ?_ HX.out) | (with_reducible refine Ext.below ?_ (Nat.le_refl _) _) | omega | (simp; done) | (simp; omega)))⟩
          case measure => simp [intOf]; omega
        · have qf : decide (f ≤ n) = false := decide_eq_false hf
          go_wp2_with (first | ((with_reducible refine wl_loadM midEv (Ext.range ?_ (Hid.out HR)) ?_ ?_ ?_ ?_); (· repeat' (first | (with_reducible exact Ext.refl _) | (with_reducible exact ExtOf.ext _) | (with_reducible refine Ext.trans ?_ (ExtOf.ext _)) | (with_reducible refine Ext.alloc ?_ _) | (with_reducible refine Ext.drew ?_) | (with_reducible refine Ext.setCell ?_ ?_ _) | (with_reducible refine Ext.setRow ?_ ?_ _) | (with_reducible exact HX.out) | (with_reducible refine Ext.trans ?_ HX.out) | (with_reducible refine Ext.below ?_ (Nat.le_refl _) _) | omega | (simp; done) | (simp; omega))); (· rfl); (· (first | exact wanted_none rfl | exact wanted_some rfl rfl rfl)); (· rfl)) | (go_at_call 53; refine (rmakes_any x sl _ HK.out (IntS.ext HI.out (by repeat' (first | (with_reducible exact Ext.refl _) | (with_reducible exact ExtOf.ext _) | (with_reducible refine Ext.trans ?_ (ExtOf.ext _)) | (with_reducible refine Ext.alloc ?_ _) | (with_reducible refine Ext.drew ?_) | (with_reducible refine Ext.setCell ?_ ?_ _) | (with_reducible refine Ext.setRow ?_ ?_ _) | (with_reducible exact HX.out) | (with_reducible refine Ext.trans ?_ HX.out) | (with_reducible refine Ext.below ?_ (Nat.le_refl _) _) | omega | (simp; done) | (simp; omega))))).mono ?_; rintro en w' ⟨rfl, nm, rfl⟩; rw [HMK.out]))
          go_roundw
          case rel => exact ⟨i + 1, k, by omega, by first | rfl | go_num, rfl, by rw [HT2.out, qf]; exact HM.out, HX.out.trans (by repeat' (first | (with_reducible exact Ext.refl _) | (with_reducible exact ExtOf.ext _) | (with_reducible refine Ext.trans ?_ (ExtOf.ext _)) | (with_reducible refine Ext.alloc ?_ _) | (with_reducible refine Ext.drew ?_) | (with_reducible refine Ext.setCell ?_ ?_ _) | (with_reducible refine Ext.setRow ?_ ?_ _) | (with_reducible exact HX.out) | (with_reducible refine Ext.trans ?_ HX.out) | (with_reducible refine Ext.below ?_ (Nat.le_refl _) _) | omega | (simp; done) | (simp; omega)))⟩
          case measure => simp [intOf]; omega
    · obtain rfl : i = l.length := by omega
      go_wp2_with fail
      go_ret
      refine ⟨⟨k, rfl, ?_⟩, ExtOf.of HX.out⟩
      have := HM.out
      rw [List.take_of_length_le (by simp)] at this
      exact this
end Go.Proofs.YtjfohapnjnopfaaGreatDoor
end
/-
  Chapter 61: the reference's origins.
-/
section
set_option linter.unusedVariables false
set_option linter.unusedSimpArgs false
namespace Go.Proofs.YtjfohapnjnopfaaGreatDoor
open Go.RowKit RepM

attribute [local go_sem] ExtOf.cell ExtOf.frozen Block.cell Block.frozen ExtB.cell ExtB.frozen alloc_cell alloc_frozen
/-- the numbers at which an event is looked for -/
def wideN (n : Int) : Prop := -1099511627776 ≤ n ∧ n ≤ 1099511627776
theorem num_wide (s : ByteArray) : wideN (num s) := by have := num_range s; unfold wideN; omega
set_option maxHeartbeats 1600000 in
set_option maxRecDepth 20000 in
theorem rorigin_any (l : List EvP) (v : Value) (n : Int) (w : World) (h : PastS w v l) (hn : wideN n) : Calls Tryz.prog 23 #[v, .int .i64 n] w fun en w' => (∃ k : Int, en = .returned (.int .i64 k) ∧ OrgR (evs l) n k) ∧ ∃ m : ExtOf w, w' = m.val := by
  obtain ⟨p, cap, rfl, hc1, hc2, hc3⟩ := EvsS.form h.ev
  unfold maxLen at hc2
  have hlen := h.len
  have H := Lib.hid h
  clear h
  go_enter Tryz.func23, Tryz.ntmps23
  go_wp2_with fail
  go_loopw [1] (fun vn wr => ∃ m : Int, vn = .int .i64 m ∧ wideN m ∧ log num (evs l) n = log num (evs l) m ∧ Ext w wr) (fun m _ => (intOf m).toNat)
  case atStart => exact ⟨n, rfl, hn, rfl, Ext.refl _⟩
  case round =>
    obtain ⟨m, rfl, hm, hlg, hx⟩ := hrel
    have HX := Lib.hid hx
    have HLG := Lib.hid hlg
    clear hx hlg
    go_wp2_with fail
    refine (rmaker_any l _ m wr (H.out.ext HX.out)).mono ?_
    rintro en w' ⟨⟨k, rfl, hk⟩, n1, rfl⟩
    rcases hk with ⟨rfl, hnone⟩ | ⟨i, hi, rfl, hsome⟩
    · go_wp2_with fail
      go_ret
      exact ⟨⟨-1, rfl, .inl ⟨rfl, by rw [HLG.out]; exact log_none hnone⟩⟩, ExtOf.of (HX.out.trans n1.ext)⟩
    · have hlt : i < l.length := by simpa using hi
      have HS : Hid (maker (evs l) m = some (l[i]).1) := Lib.hid (by rw [hsome, evs_get hi])
      have hgi : (evs l)[i] = (l[i]).1 := evs_get hi
      clear hsome
      obtain ⟨b, off, rfl, hr, hin⟩ := EvsS.elem (EvsS.ext H.out.ev HX.out) hlt
      have hok := H.out.ok _ (List.getElem_mem hlt)
      obtain ⟨⟨x, sl⟩, he⟩ : ∃ z, z = l[i] := ⟨_, rfl⟩
      rw [← he] at hr hin hok HS hgi
      simp only at hok hin HS hgi
      clear he
      have HR : Hid (wr.rangeAt b (off + i * 6) [.int .i64 x.kind, .int .i64 x.at_, .string x.item, .string x.of, sl.v, .string x.text]) := Lib.hid hr
      have HI := Lib.hid hin
      have HK := Lib.hid hok
      have HGI := Lib.hid hgi
      have HIL := Lib.hid hi
      have hc0 : wr.cell? ⟨b, off + i * 6, none⟩ = some (.int .i64 x.kind) := by have := HR.out 0 _ rfl; simpa using this
      have hc2 : wr.cell? ⟨b, off + i * 6 + 2, none⟩ = some (.string x.item) := HR.out 2 _ rfl
      have ob := Old.of_cell hc0
      have qn : decide ((i : Int) < 0) = false := decide_eq_false (by omega)
      clear hr hin hok hgi
      by_cases h4 : x.kind = 4
      · have q4 : (x.kind == 4) = true := beq_iff_eq.2 h4
        go_wp2_with fail
        go_ret
        exact ⟨⟨i, rfl, .inr ⟨i, HIL.out, rfl, by rw [HGI.out]; exact h4, by rw [HLG.out, log_saw HS.out h4, HGI.out]⟩⟩, ExtOf.of (HX.out.trans n1.ext)⟩
      · have q4 : (x.kind == 4) = false := beq_eq_false_iff_ne.2 h4
        obtain ⟨f, mm, c, hmk⟩ : ∃ f m c, mkT x = (f, m, c) := ⟨_, _, _, rfl⟩
        have hrg := mkT_range HK.out
        have hmm := maker_mk HS.out
        have HMK := Lib.hid hmk
        rw [hmk] at hrg hmm
        simp only at hrg hmm
        clear hmk
        have hnr := num_range x.item
        have HSTOP : Hid (mm ≤ m - f ∨ f ≤ num x.item → log num (evs l) m = none) := Lib.hid (fun hs => log_stop HS.out h4 (by rw [HMK.out]; exact hs))
        have HNEXT : Hid (¬ mm ≤ m - f → ¬ f ≤ num x.item → log num (evs l) m = log num (evs l) (num x.item)) := Lib.hid (fun h1 h2 => log_next HS.out h4 (by rw [HMK.out]; exact h1) (by rw [HMK.out]; exact h2))
        obtain ⟨hm1, hm2⟩ := hm
        by_cases t1 : mm ≤ m - f
        · have q1 : decide (mm ≤ m - f) = true := decide_eq_true t1
          go_wp2_with (first | ((with_reducible refine wl_loadM midEv (Ext.range ?_ (Hid.out HR)) ?_ ?_ ?_ ?_); (· repeat' (first | (with_reducible exact Ext.refl _) | (with_reducible exact ExtOf.ext _) | (with_reducible refine Ext.trans ?_ (ExtOf.ext _)) | (with_reducible refine Ext.alloc ?_ _) | (with_reducible refine Ext.drew ?_) | (with_reducible refine Ext.setCell ?_ ?_ _) | (with_reducible refine Ext.setRow ?_ ?_ _) | (with_reducible exact HX.out) | (with_reducible refine Ext.trans ?_ HX.out) | (with_reducible refine Ext.below ?_ (Nat.le_refl _) _) | omega | (simp; done) | (simp; omega))); (· rfl); (· (first | exact wanted_none rfl | exact wanted_some rfl rfl rfl)); (· rfl)) | (go_at_call 53; refine (rmakes_any x sl _ HK.out (IntS.ext HI.out (by repeat' (first | (with_reducible exact Ext.refl _) | (with_reducible exact ExtOf.ext _) | (with_reducible refine Ext.trans ?_ (ExtOf.ext _)) | (with_reducible refine Ext.alloc ?_ _) | (with_reducible refine Ext.drew ?_) | (with_reducible refine Ext.setCell ?_ ?_ _) | (with_reducible refine Ext.setRow ?_ ?_ _) | (with_reducible exact HX.out) | (with_reducible refine Ext.trans ?_ HX.out) | (with_reducible refine Ext.below ?_ (Nat.le_refl _) _) | omega | (simp; done) | (simp; omega))))).mono ?_; rintro en w' ⟨rfl, nm, rfl⟩; rw [HMK.out]) | (go_at_call 48; refine (rnum_any x.item _).mono ?_; rintro en w' ⟨rfl, nn, rfl⟩))
          go_ret
          exact ⟨⟨-1, rfl, .inl ⟨rfl, by rw [HLG.out]; exact HSTOP.out (.inl t1)⟩⟩, ExtOf.of (HX.out.trans (by repeat' (first | (with_reducible exact Ext.refl _) | (with_reducible exact ExtOf.ext _) | (with_reducible refine Ext.trans ?_ (ExtOf.ext _)) | (with_reducible refine Ext.alloc ?_ _) | (with_reducible refine Ext.drew ?_) | (with_reducible refine Ext.setCell ?_ ?_ _) | (with_reducible refine Ext.setRow ?_ ?_ _) | (with_reducible exact HX.out) | (with_reducible refine Ext.trans ?_ HX.out) | (with_reducible refine Ext.below ?_ (Nat.le_refl _) _) | omega | (simp; done) | (simp; omega))))⟩
        · have q1 : decide (mm ≤ m - f) = false := decide_eq_false t1
          by_cases t2 : f ≤ num x.item
          · have q2 : decide (f ≤ num x.item) = true := decide_eq_true t2
            go_wp2_with (first | ((with_reducible refine wl_loadM midEv (Ext.range ?_ (Hid.out HR)) ?_ ?_ ?_ ?_); (· repeat' (first | (with_reducible exact Ext.refl _) | (with_reducible exact ExtOf.ext _) | (with_reducible refine Ext.trans ?_ (ExtOf.ext _)) | (with_reducible refine Ext.alloc ?_ _) | (with_reducible refine Ext.drew ?_) | (with_reducible refine Ext.setCell ?_ ?_ _) | (with_reducible refine Ext.setRow ?_ ?_ _) | (with_reducible exact HX.out) | (with_reducible refine Ext.trans ?_ HX.out) | (with_reducible refine Ext.below ?_ (Nat.le_refl _) _) | omega | (simp; done) | (simp; omega))); (· rfl); (· (first | exact wanted_none rfl | exact wanted_some rfl rfl rfl)); (· rfl)) | (go_at_call 53; refine (rmakes_any x sl _ HK.out (IntS.ext HI.out (by repeat' (first | (with_reducible exact Ext.refl _) | (with_reducible exact ExtOf.ext _) | (with_reducible refine Ext.trans ?_ (ExtOf.ext _)) | (with_reducible refine Ext.alloc ?_ _) | (with_reducible refine Ext.drew ?_) | (with_reducible refine Ext.setCell ?_ ?_ _) | (with_reducible refine Ext.setRow ?_ ?_ _) | (with_reducible exact HX.out) | (with_reducible refine Ext.trans ?_ HX.out) | (with_reducible refine Ext.below ?_ (Nat.le_refl _) _) | omega | (simp; done) | (simp; omega))))).mono ?_; rintro en w' ⟨rfl, nm, rfl⟩; rw [HMK.out]) | (go_at_call 48; refine (rnum_any x.item _).mono ?_; rintro en w' ⟨rfl, nn, rfl⟩))
            go_ret
            exact ⟨⟨-1, rfl, .inl ⟨rfl, by rw [HLG.out]; exact HSTOP.out (.inr t2)⟩⟩, ExtOf.of (HX.out.trans (by repeat' (first | (with_reducible exact Ext.refl _) | (with_reducible exact ExtOf.ext _) | (with_reducible refine Ext.trans ?_ (ExtOf.ext _)) | (with_reducible refine Ext.alloc ?_ _) | (with_reducible refine Ext.drew ?_) | (with_reducible refine Ext.setCell ?_ ?_ _) | (with_reducible refine Ext.setRow ?_ ?_ _) | (with_reducible exact HX.out) | (with_reducible refine Ext.trans ?_ HX.out) | (with_reducible refine Ext.below ?_ (Nat.le_refl _) _) | omega | (simp; done) | (simp; omega))))⟩
          · have q2 : decide (f ≤ num x.item) = false := decide_eq_false t2
            go_wp2_with (first | ((with_reducible refine wl_loadM midEv (Ext.range ?_ (Hid.out HR)) ?_ ?_ ?_ ?_); (· repeat' (first | (with_reducible exact Ext.refl _) | (with_reducible exact ExtOf.ext _) | (with_reducible refine Ext.trans ?_ (ExtOf.ext _)) | (with_reducible refine Ext.alloc ?_ _) | (with_reducible refine Ext.drew ?_) | (with_reducible refine Ext.setCell ?_ ?_ _) | (with_reducible refine Ext.setRow ?_ ?_ _) | (with_reducible exact HX.out) | (with_reducible refine Ext.trans ?_ HX.out) | (with_reducible refine Ext.below ?_ (Nat.le_refl _) _) | omega | (simp; done) | (simp; omega))); (· rfl); (· (first | exact wanted_none rfl | exact wanted_some rfl rfl rfl)); (· rfl)) | (go_at_call 53; refine (rmakes_any x sl _ HK.out (IntS.ext HI.out (by repeat' (first | (with_reducible exact Ext.refl _) | (with_reducible exact ExtOf.ext _) | (with_reducible refine Ext.trans ?_ (ExtOf.ext _)) | (with_reducible refine Ext.alloc ?_ _) | (with_reducible refine Ext.drew ?_) | (with_reducible refine Ext.setCell ?_ ?_ _) | (with_reducible refine Ext.setRow ?_ ?_ _) | (with_reducible exact HX.out) | (with_reducible refine Ext.trans ?_ HX.out) | (with_reducible refine Ext.below ?_ (Nat.le_refl _) _) | omega | (simp; done) | (simp; omega))))).mono ?_; rintro en w' ⟨rfl, nm, rfl⟩; rw [HMK.out]) | (go_at_call 48; refine (rnum_any x.item _).mono ?_; rintro en w' ⟨rfl, nn, rfl⟩))
            go_roundw
            case rel => exact ⟨num x.item, rfl, num_wide _, by rw [HLG.out]; exact HNEXT.out t1 t2, HX.out.trans (by repeat' (first | (with_reducible exact Ext.refl _) | (with_reducible exact ExtOf.ext _) | (with_reducible refine Ext.trans ?_ (ExtOf.ext _)) | (with_reducible refine Ext.alloc ?_ _) | (with_reducible refine Ext.drew ?_) | (with_reducible refine Ext.setCell ?_ ?_ _) | (with_reducible refine Ext.setRow ?_ ?_ _) | (with_reducible exact HX.out) | (with_reducible refine Ext.trans ?_ HX.out) | (with_reducible refine Ext.below ?_ (Nat.le_refl _) _) | omega | (simp; done) | (simp; omega)))⟩
            case measure => simp [intOf]; omega
end Go.Proofs.YtjfohapnjnopfaaGreatDoor
end
/-
  Chapter 61: the reference's lists of numbers and of names.
-/
section
set_option linter.unusedVariables false
set_option linter.unusedSimpArgs false
namespace Go.Proofs.YtjfohapnjnopfaaGreatDoor
open Go.RowKit Go.WideShapes RepM

attribute [local go_sem] ExtOf.cell ExtOf.frozen Block.cell Block.frozen ExtB.cell ExtB.frozen alloc_cell alloc_frozen
theorem mem_drop_step {l : List Int} {n : Int} {k : Nat} (h : k < l.length) : decide (n ∈ l.drop k) = (decide (l[k] = n) || decide (n ∈ l.drop (k + 1))) := by
  rw [List.drop_eq_getElem_cons h]
  generalize l.drop (k + 1) = r
  generalize l[k] = m
  by_cases e : m = n
  · simp [e]
  · have : ¬ n = m := fun h => e h.symm
    simp [e, this]
set_option maxHeartbeats 800000 in
theorem rhas_any (l : List Int) (v : Value) (n : Int) (w : World) (h : IntS w v l) : Calls Tryz.prog 54 #[v, .int .i64 n] w fun e w' => e = .returned (.bool (decide (n ∈ l))) ∧ ∃ n : ExtOf w, w' = n.val := by
  obtain ⟨p, cap, rfl, hc1, hc2, hc3⟩ := IntS.form h
  have H := Lib.hid h
  clear h
  unfold maxLen at hc2
  go_enter Tryz.func54, Tryz.ntmps54
  go_wp2_with fail
  go_loop [5] (fun vi => ∃ k : Nat, k ≤ l.length ∧ vi = .int .i64 k ∧ decide (n ∈ l) = decide (n ∈ l.drop k)) (fun i => l.length - (intOf i).toNat)
  case atStart => exact ⟨0, by omega, rfl, by rw [List.drop_zero]⟩
  case round =>
    obtain ⟨k, hk, rfl, hd⟩ := hrel
    have HD := Lib.hid hd
    clear hd
    by_cases hlt : k < l.length
    · have HS := Lib.hid (mem_drop_step (n := n) hlt)
      obtain ⟨b, off, rfl, hc⟩ := IntS.elem H.out hlt
      generalize l[k] = m at *
      by_cases hm : m = n
      · have qm : (m == n) = true := beq_iff_eq.2 hm
        go_wp2_with fail
        go_ret
        exact ⟨ret_bool (by rw [HD.out, HS.out, decide_eq_true hm]; rfl), by exact ExtOf.of (by repeat' (first | (with_reducible exact Ext.refl _) | (with_reducible exact ExtOf.ext _) | (with_reducible refine Ext.trans ?_ (ExtOf.ext _)) | (with_reducible refine Ext.alloc ?_ _) | (with_reducible refine Ext.drew ?_) | (with_reducible refine Ext.setCell ?_ ?_ _) | (with_reducible refine Ext.setRow ?_ ?_ _) | (with_reducible exact HX.out) | (with_reducible refine Ext.trans ?_ HX.out) | (with_reducible refine Ext.below ?_ (Nat.le_refl _) _) | omega | (simp; done) | (simp; omega)))⟩
      · have qm : (m == n) = false := beq_eq_false_iff_ne.2 hm
        have HM := Lib.hid hm
        clear hm
        go_wp2_with fail
        go_round
        case rel => exact ⟨k + 1, by omega, by first | rfl | go_num, by rw [HD.out, HS.out, decide_eq_false HM.out]; rfl⟩
        case measure => simp [intOf]; omega
    · have HE : Hid (decide (n ∈ l.drop k) = false) := Lib.hid (by rw [List.drop_of_length_le (by omega)]; simp)
      go_wp2_with fail
      go_ret
      exact ⟨ret_bool (by rw [HD.out, HE.out]), by exact ExtOf.of (by repeat' (first | (with_reducible exact Ext.refl _) | (with_reducible exact ExtOf.ext _) | (with_reducible refine Ext.trans ?_ (ExtOf.ext _)) | (with_reducible refine Ext.alloc ?_ _) | (with_reducible refine Ext.drew ?_) | (with_reducible refine Ext.setCell ?_ ?_ _) | (with_reducible refine Ext.setRow ?_ ?_ _) | (with_reducible exact HX.out) | (with_reducible refine Ext.trans ?_ HX.out) | (with_reducible refine Ext.below ?_ (Nat.le_refl _) _) | omega | (simp; done) | (simp; omega)))⟩
/-- have two lists a number in common? -/
def meetB (a b : List Int) : Bool := b.any fun n => decide (n ∈ a)
theorem meet_step {a b : List Int} {k : Nat} (h : k < b.length) : meetB a (b.drop k) = (decide (b[k] ∈ a) || meetB a (b.drop (k + 1))) := by
  unfold meetB
  rw [List.drop_eq_getElem_cons h, List.any_cons]
set_option maxHeartbeats 800000 in
theorem rmeets_any (la lb : List Int) (va vb : Value) (w : World) (ha : IntS w va la) (hb : IntS w vb lb) : Calls Tryz.prog 52 #[va, vb] w fun e w' => e = .returned (.bool (meetB la lb)) ∧ ∃ n : ExtOf w, w' = n.val := by
  obtain ⟨pa, ca, rfl, ha1, ha2, ha3⟩ := IntS.form ha
  obtain ⟨pb, cb, rfl, hb1, hb2, hb3⟩ := IntS.form hb
  unfold maxLen at ha2 hb2
  have HA := Lib.hid ha
  have HB := Lib.hid hb
  clear ha hb
  go_enter Tryz.func52, Tryz.ntmps52
  go_wp2_with fail
  go_loopw [5] (fun vi wr => ∃ k : Nat, k ≤ lb.length ∧ vi = .int .i64 k ∧ meetB la lb = meetB la (lb.drop k) ∧ Ext w wr) (fun i _ => lb.length - (intOf i).toNat)
  case atStart => exact ⟨0, by omega, rfl, by rw [List.drop_zero], Ext.refl _⟩
  case round =>
    obtain ⟨k, hk, rfl, hd, hx⟩ := hrel
    have HD := Lib.hid hd
    have HX := Lib.hid hx
    clear hd hx
    by_cases hlt : k < lb.length
    · have HS := Lib.hid (meet_step (a := la) hlt)
      obtain ⟨b, off, rfl, hc⟩ := IntS.elem (IntS.ext HB.out HX.out) hlt
      generalize lb[k] = m at *
      rcases hm : decide (m ∈ la) with _ | _
      · have HM := Lib.hid hm
        clear hm
        go_wp2_with (go_at_call 54; refine (rhas_any la _ m _ (IntS.ext HA.out HX.out)).mono ?_; rintro en w' ⟨rfl, nh, rfl⟩; simp only [HM.out])
        go_roundw
        case rel => exact ⟨k + 1, by omega, by first | rfl | go_num, by rw [HD.out, HS.out, HM.out]; rfl, HX.out.trans (by repeat' (first | (with_reducible exact Ext.refl _) | (with_reducible exact ExtOf.ext _) | (with_reducible refine Ext.trans ?_ (ExtOf.ext _)) | (with_reducible refine Ext.alloc ?_ _) | (with_reducible refine Ext.drew ?_) | (with_reducible refine Ext.setCell ?_ ?_ _) | (with_reducible refine Ext.setRow ?_ ?_ _) | (with_reducible exact HX.out) | (with_reducible refine Ext.trans ?_ HX.out) | (with_reducible refine Ext.below ?_ (Nat.le_refl _) _) | omega | (simp; done) | (simp; omega)))⟩
        case measure => simp [intOf]; omega
      · have HM := Lib.hid hm
        clear hm
        go_wp2_with (go_at_call 54; refine (rhas_any la _ m _ (IntS.ext HA.out HX.out)).mono ?_; rintro en w' ⟨rfl, nh, rfl⟩; simp only [HM.out])
        go_ret
        exact ⟨ret_bool (by rw [HD.out, HS.out, HM.out]; rfl), ExtOf.of (HX.out.trans nh.ext)⟩
    · have HE : Hid (meetB la (lb.drop k) = false) := Lib.hid (by rw [List.drop_of_length_le (by omega)]; rfl)
      go_wp2_with fail
      go_ret
      exact ⟨ret_bool (by rw [HD.out, HE.out]), ExtOf.of HX.out⟩
/-- a slice reads as a list of strings -/
def StrS (w : World) (v : Value) (l : List ByteArray) : Prop := SliceOf encB 1 w v l
theorem StrS.ext {w w' : World} {v : Value} {l : List ByteArray} (h : StrS w v l) (hx : Ext w w') : StrS w' v l := SliceOf.ext h hx
theorem StrS.elem {w : World} {p : Option Addr} {n cap : Nat} {l : List ByteArray} (h : StrS w (.slice p n cap) l) {i : Nat} (hi : i < l.length) : ∃ b off, p = some ⟨b, off, none⟩ ∧ w.cell? ⟨b, off + i, none⟩ = some (.string l[i]) := by
  obtain ⟨b, off, rfl, hr⟩ := SliceOf.elemK h hi
  exact ⟨b, off, rfl, by have := hr 0 _ rfl; simpa using this⟩
theorem encB_len (x : ByteArray) : (encB x).length = 1 := rfl
theorem encB_one : ∀ x : ByteArray, ∀ u ∈ encB x, u.oneCell' = true := by
  intro x u hu
  simp only [encB, List.mem_cons, List.not_mem_nil, or_false] at hu
  rw [hu]; rfl
theorem str_eq {m n : ByteArray} (h : m = n) : (m.toList == n.toList) = true := by rw [h]; exact beq_iff_eq.2 rfl
theorem str_ne {m n : ByteArray} (h : ¬ m = n) : (m.toList == n.toList) = false := beq_eq_false_iff_ne.2 (fun e => h (bytes_inj (by rw [ByteArray.toList_eq, ByteArray.toList_eq] at e; exact e)))
/-- is a string in a list? -/
def memB (n : ByteArray) (l : List ByteArray) : Bool := l.any fun m => decide (m = n)
theorem memB_iff {n : ByteArray} {l : List ByteArray} : memB n l = true ↔ n ∈ l := by
  unfold memB
  rw [List.any_eq_true]
  exact ⟨fun ⟨x, h1, h2⟩ => by rw [← of_decide_eq_true h2]; exact h1, fun h => ⟨n, h, decide_eq_true rfl⟩⟩
theorem memB_step {l : List ByteArray} {n : ByteArray} {k : Nat} (h : k < l.length) : memB n (l.drop k) = (decide (l[k] = n) || memB n (l.drop (k + 1))) := by
  unfold memB
  rw [List.drop_eq_getElem_cons h, List.any_cons]
set_option maxHeartbeats 800000 in
theorem rname_any (l : List ByteArray) (v : Value) (n : ByteArray) (w : World) (h : StrS w v l) : Calls Tryz.prog 55 #[v, .string n] w fun e w' => e = .returned (.bool (memB n l)) ∧ ∃ n : ExtOf w, w' = n.val := by
  obtain ⟨p, cap, rfl, hc1, hc2, hc3⟩ := SliceOf.form h
  have H := Lib.hid h
  clear h
  unfold maxLen at hc2
  go_enter Tryz.func55, Tryz.ntmps55
  go_wp2_with fail
  go_loop [5] (fun vi => ∃ k : Nat, k ≤ l.length ∧ vi = .int .i64 k ∧ memB n l = memB n (l.drop k)) (fun i => l.length - (intOf i).toNat)
  case atStart => exact ⟨0, by omega, rfl, by rw [List.drop_zero]⟩
  case round =>
    obtain ⟨k, hk, rfl, hd⟩ := hrel
    have HD := Lib.hid hd
    clear hd
    by_cases hlt : k < l.length
    · have HS := Lib.hid (memB_step (n := n) hlt)
      obtain ⟨b, off, rfl, hc⟩ := StrS.elem H.out hlt
      generalize l[k] = m at *
      by_cases hm : m = n
      · have qm : (m.toList == n.toList) = true := str_eq hm
        go_wp2_with fail
        go_ret
        exact ⟨ret_bool (by rw [HD.out, HS.out, decide_eq_true hm]; rfl), by exact ExtOf.of (by repeat' (first | (with_reducible exact Ext.refl _) | (with_reducible exact ExtOf.ext _) | (with_reducible refine Ext.trans ?_ (ExtOf.ext _)) | (with_reducible refine Ext.alloc ?_ _) | (with_reducible refine Ext.drew ?_) | (with_reducible refine Ext.setCell ?_ ?_ _) | (with_reducible refine Ext.setRow ?_ ?_ _) | (with_reducible exact HX.out) | (with_reducible refine Ext.trans ?_ HX.out) | (with_reducible refine Ext.below ?_ (Nat.le_refl _) _) | omega | (simp; done) | (simp; omega)))⟩
      · have qm : (m.toList == n.toList) = false := str_ne hm
        have HM := Lib.hid hm
        clear hm
        go_wp2_with fail
        go_round
        case rel => exact ⟨k + 1, by omega, by first | rfl | go_num, by rw [HD.out, HS.out, decide_eq_false HM.out]; rfl⟩
        case measure => simp [intOf]; omega
    · have HE : Hid (memB n (l.drop k) = false) := Lib.hid (by rw [List.drop_of_length_le (by omega)]; rfl)
      go_wp2_with fail
      go_ret
      exact ⟨ret_bool (by rw [HD.out, HE.out]), by exact ExtOf.of (by repeat' (first | (with_reducible exact Ext.refl _) | (with_reducible exact ExtOf.ext _) | (with_reducible refine Ext.trans ?_ (ExtOf.ext _)) | (with_reducible refine Ext.alloc ?_ _) | (with_reducible refine Ext.drew ?_) | (with_reducible refine Ext.setCell ?_ ?_ _) | (with_reducible refine Ext.setRow ?_ ?_ _) | (with_reducible exact HX.out) | (with_reducible refine Ext.trans ?_ HX.out) | (with_reducible refine Ext.below ?_ (Nat.le_refl _) _) | omega | (simp; done) | (simp; omega)))⟩
end Go.Proofs.YtjfohapnjnopfaaGreatDoor
end
/-
  Chapter 61: the reference's permits and packages; lists with new numbers.
-/
section
set_option linter.unusedVariables false
set_option linter.unusedSimpArgs false
namespace Go.Proofs.YtjfohapnjnopfaaGreatDoor
open Go.RowKit Go.WideShapes RepM

attribute [local go_sem] ExtOf.cell ExtOf.frozen Block.cell Block.frozen ExtB.cell ExtB.frozen alloc_cell alloc_frozen
theorem under_step {l : List Ev} {s : ByteArray} {k : Nat} (h : k < l.length) : under (l.drop k) s = if l[k].kind = 2 ∧ l[k].item = s then some l[k].of else under (l.drop (k + 1)) s := by
  unfold under
  rw [List.drop_eq_getElem_cons h, List.find?_cons]
  by_cases h1 : l[k].kind = 2
  · by_cases h2 : l[k].item = s
    · rw [if_pos ⟨h1, h2⟩]; simp [h1, h2]
    · rw [if_neg (fun h => h2 h.2)]; simp [h2]
  · rw [if_neg (fun h => h1 h.1)]; simp [h1]
/-- a permit and whether there is one -/
def undV (o : Option ByteArray) : Value := .tuple #[.string (o.getD ⟨#[]⟩), .bool o.isSome]
set_option maxHeartbeats 1600000 in
theorem runder_any (l : List EvP) (v : Value) (s : ByteArray) (w : World) (h : PastS w v l) : Calls Tryz.prog 24 #[v, .string s] w fun e w' => e = .returned (undV (under (evs l) s)) ∧ ∃ n : ExtOf w, w' = n.val := by
  obtain ⟨p, cap, rfl, hc1, hc2, hc3⟩ := EvsS.form h.ev
  unfold maxLen at hc2
  have hlen := h.len
  have H := Lib.hid h
  clear h
  go_enter Tryz.func24, Tryz.ntmps24
  go_wp2_with fail
  go_loop [6] (fun vi => ∃ k : Nat, k ≤ l.length ∧ vi = .int .i64 k ∧ under (evs l) s = under ((evs l).drop k) s) (fun i => l.length - (intOf i).toNat)
  case atStart => exact ⟨0, by omega, rfl, by rw [List.drop_zero]⟩
  case round =>
    obtain ⟨i, hk, rfl, hd⟩ := hrel
    have HD := Lib.hid hd
    clear hd
    by_cases hlt : i < l.length
    · have HS := Lib.hid (under_step (l := evs l) (s := s) (k := i) (by simpa using hlt))
      obtain ⟨b, off, rfl, hr, hin⟩ := EvsS.elem (EvsS.ext H.out.ev (Ext.refl _)) hlt
      have hok := H.out.ok _ (List.getElem_mem hlt)
      have hgi : (evs l)[i]'(by simpa using hlt) = (l[i]).1 := evs_get (by simpa using hlt)
      have hiw := H.out.ev.2 _ (List.getElem_mem hlt)
      obtain ⟨⟨x, sl⟩, he⟩ : ∃ z, z = l[i] := ⟨_, rfl⟩
      rw [← he] at hr hin hok hgi hiw
      simp only at hok hin hgi hiw
      clear he
      have HIW := Lib.hid hiw
      clear hiw
      have HIN := Lib.hid hin
      have HOK := Lib.hid hok
      clear hin hok
      rw [hgi] at HS
      have hc0 : w.cell? ⟨b, off + i * 6, none⟩ = some (.int .i64 x.kind) := by have := hr 0 _ rfl; simpa using this
      have hc2 : w.cell? ⟨b, off + i * 6 + 2, none⟩ = some (.string x.item) := hr 2 _ rfl
      have hc3 : w.cell? ⟨b, off + i * 6 + 3, none⟩ = some (.string x.of) := hr 3 _ rfl
      clear hr hgi
      by_cases h2 : x.kind = 2
      · have q2 : (x.kind == 2) = true := beq_iff_eq.2 h2
        by_cases hs : x.item = s
        · have qs : (x.item.toList == s.toList) = true := str_eq hs
          go_wp2_with fail
          go_ret2
          exact ⟨by rw [HD.out, HS.out, if_pos ⟨h2, hs⟩]; rfl, by exact ExtOf.of (by repeat' (first | (with_reducible exact Ext.refl _) | (with_reducible exact ExtOf.ext _) | (with_reducible refine Ext.trans ?_ (ExtOf.ext _)) | (with_reducible refine Ext.alloc ?_ _) | (with_reducible refine Ext.drew ?_) | (with_reducible refine Ext.setCell ?_ ?_ _) | (with_reducible refine Ext.setRow ?_ ?_ _) | (with_reducible exact HX.out) | (with_reducible refine Ext.trans ?_ HX.out) | (with_reducible refine Ext.below ?_ (Nat.le_refl _) _) | omega | (simp; done) | (simp; omega)))⟩
        · have qs : (x.item.toList == s.toList) = false := str_ne hs
          have HH := Lib.hid hs
          clear hs
          go_wp2_with fail
          go_round
          case rel => exact ⟨i + 1, by omega, by first | rfl | go_num, by rw [HD.out, HS.out, if_neg (fun h => HH.out h.2)]⟩
          case measure => simp [intOf]; omega
      · have q2 : (x.kind == 2) = false := beq_eq_false_iff_ne.2 h2
        have HH := Lib.hid h2
        clear h2
        go_wp2_with fail
        go_round
        case rel => exact ⟨i + 1, by omega, by first | rfl | go_num, by rw [HD.out, HS.out, if_neg (fun h => HH.out h.1)]⟩
        case measure => simp [intOf]; omega
    · have HE : Hid (under ((evs l).drop i) s = none) := Lib.hid (by rw [List.drop_of_length_le (by simp; omega)]; rfl)
      go_wp2_with fail
      go_ret2
      exact ⟨by rw [HD.out, HE.out]; rfl, by exact ExtOf.of (by repeat' (first | (with_reducible exact Ext.refl _) | (with_reducible exact ExtOf.ext _) | (with_reducible refine Ext.trans ?_ (ExtOf.ext _)) | (with_reducible refine Ext.alloc ?_ _) | (with_reducible refine Ext.drew ?_) | (with_reducible refine Ext.setCell ?_ ?_ _) | (with_reducible refine Ext.setRow ?_ ?_ _) | (with_reducible exact HX.out) | (with_reducible refine Ext.trans ?_ HX.out) | (with_reducible refine Ext.below ?_ (Nat.le_refl _) _) | omega | (simp; done) | (simp; omega)))⟩
theorem packed_step {l : List Ev} {n : Int} {k : Nat} (h : k < l.length) : packed num (l.drop k) n = if l[k].kind = 5 ∧ num l[k].item = n then l[k].n else packed num (l.drop (k + 1)) n := by
  unfold packed
  rw [List.drop_eq_getElem_cons h, List.find?_cons]
  by_cases h1 : l[k].kind = 5
  · by_cases h2 : num l[k].item = n
    · rw [if_pos ⟨h1, h2⟩]; simp [h1, h2]
    · rw [if_neg (fun h => h2 h.2)]; simp [h2]
  · rw [if_neg (fun h => h1 h.1)]; simp [h1]
/-- what is handed back: numbers that lie in new memory -/
def IntsRet (w : World) (l : List Int) (e : Ending) (w' : World) : Prop := ∃ v, e = .returned v ∧ Own encI 1 3 w.heap.size w' v l ∧ ∃ n : ExtOf w, w' = n.val
set_option maxHeartbeats 1600000 in
theorem rpack_any (l : List EvP) (v : Value) (n : Int) (w : World) (h : PastS w v l) : Calls Tryz.prog 105 #[v, .int .i64 n] w fun en w' => ∃ v', en = .returned v' ∧ IntS w v' (packed num (evs l) n) ∧ ∃ m : ExtOf w, w' = m.val := by
  obtain ⟨p, cap, rfl, hc1, hc2, hc3⟩ := EvsS.form h.ev
  unfold maxLen at hc2
  have hlen := h.len
  have H := Lib.hid h
  clear h
  go_enter Tryz.func105, Tryz.ntmps105
  go_wp2_with fail
  go_loopw [5] (fun vi wr => ∃ k : Nat, k ≤ l.length ∧ vi = .int .i64 k ∧ packed num (evs l) n = packed num ((evs l).drop k) n ∧ Ext w wr) (fun i _ => l.length - (intOf i).toNat)
  case atStart => exact ⟨0, by omega, rfl, by rw [List.drop_zero], Ext.refl _⟩
  case round =>
    obtain ⟨i, hk, rfl, hd, hx⟩ := hrel
    have HD := Lib.hid hd
    have HX := Lib.hid hx
    clear hd hx
    by_cases hlt : i < l.length
    · have HS := Lib.hid (packed_step (l := evs l) (n := n) (k := i) (by simpa using hlt))
      obtain ⟨b, off, rfl, hr, hin⟩ := EvsS.elem (EvsS.ext H.out.ev HX.out) hlt
      have hok := H.out.ok _ (List.getElem_mem hlt)
      have hgi : (evs l)[i]'(by simpa using hlt) = (l[i]).1 := evs_get (by simpa using hlt)
      have hiw := H.out.ev.2 _ (List.getElem_mem hlt)
      obtain ⟨⟨x, sl⟩, he⟩ : ∃ z, z = l[i] := ⟨_, rfl⟩
      rw [← he] at hr hin hok hgi hiw
      simp only at hok hin hgi hiw
      clear he
      have HIW := Lib.hid hiw
      clear hiw
      have HIN := Lib.hid hin
      have HOK := Lib.hid hok
      clear hin hok
      rw [hgi] at HS
      have hc0 : wr.cell? ⟨b, off + i * 6, none⟩ = some (.int .i64 x.kind) := by have := hr 0 _ rfl; simpa using this
      have hc2 : wr.cell? ⟨b, off + i * 6 + 2, none⟩ = some (.string x.item) := hr 2 _ rfl
      have hc4 : wr.cell? ⟨b, off + i * 6 + 4, none⟩ = some sl.v := hr 4 _ rfl
      have ob := Old.of_cell hc0
      clear hr hgi
      by_cases h5 : x.kind = 5
      · have q5 : (x.kind == 5) = true := beq_iff_eq.2 h5
        by_cases hs : num x.item = n
        · have qs : (num x.item == n) = true := beq_iff_eq.2 hs
          go_wp2_with (go_at_call 48; refine (rnum_any x.item _).mono ?_; rintro en w' ⟨rfl, nn, rfl⟩)
          go_ret
          exact ⟨sl.v, rfl, by rw [HD.out, HS.out, if_pos ⟨h5, hs⟩]; exact HIW.out, ExtOf.of (HX.out.trans nn.ext)⟩
        · have qs : (num x.item == n) = false := beq_eq_false_iff_ne.2 hs
          have HH := Lib.hid hs
          clear hs
          go_wp2_with (go_at_call 48; refine (rnum_any x.item _).mono ?_; rintro en w' ⟨rfl, nn, rfl⟩)
          go_roundw
          case rel => exact ⟨i + 1, by omega, by first | rfl | go_num, by rw [HD.out, HS.out, if_neg (fun h => HH.out h.2)], HX.out.trans (by repeat' (first | (with_reducible exact Ext.refl _) | (with_reducible exact ExtOf.ext _) | (with_reducible refine Ext.trans ?_ (ExtOf.ext _)) | (with_reducible refine Ext.alloc ?_ _) | (with_reducible refine Ext.drew ?_) | (with_reducible refine Ext.setCell ?_ ?_ _) | (with_reducible refine Ext.setRow ?_ ?_ _) | (with_reducible exact HX.out) | (with_reducible refine Ext.trans ?_ HX.out) | (with_reducible refine Ext.below ?_ (Nat.le_refl _) _) | omega | (simp; done) | (simp; omega)))⟩
          case measure => simp [intOf]; omega
      · have q5 : (x.kind == 5) = false := beq_eq_false_iff_ne.2 h5
        have HH := Lib.hid h5
        clear h5
        go_wp2_with fail
        go_roundw
        case rel => exact ⟨i + 1, by omega, by first | rfl | go_num, by rw [HD.out, HS.out, if_neg (fun h => HH.out h.1)], HX.out.trans (by repeat' (first | (with_reducible exact Ext.refl _) | (with_reducible exact ExtOf.ext _) | (with_reducible refine Ext.trans ?_ (ExtOf.ext _)) | (with_reducible refine Ext.alloc ?_ _) | (with_reducible refine Ext.drew ?_) | (with_reducible refine Ext.setCell ?_ ?_ _) | (with_reducible refine Ext.setRow ?_ ?_ _) | (with_reducible exact HX.out) | (with_reducible refine Ext.trans ?_ HX.out) | (with_reducible refine Ext.below ?_ (Nat.le_refl _) _) | omega | (simp; done) | (simp; omega)))⟩
        case measure => simp [intOf]; omega
    · have HE : Hid (packed num ((evs l).drop i) n = []) := Lib.hid (by rw [List.drop_of_length_le (by simp; omega)]; rfl)
      go_wp2_with fail
      go_ret
      exact ⟨_, rfl, by rw [HD.out, HE.out]; exact SliceOf.nil w, ExtOf.of HX.out⟩
/-- what appending to a slice of the call's own leaves -/
structure Grow (w : World) (v : Value) (w' : World) (v' : Value) : Prop where
  heap : ∀ q, q < w.heap.size → v.ownBlock ≠ some q → w'.heap[q]? = w.heap[q]?
  own : v'.ownBlock = v.ownBlock ∨ ∃ g, v'.ownBlock = some g ∧ w.heap.size ≤ g
  size : w.heap.size ≤ w'.heap.size
theorem Grow.refl (w : World) (v : Value) : Grow w v w v := ⟨fun _ _ _ => rfl, .inl rfl, Nat.le_refl _⟩
theorem Kept.grow {w w' : World} {v v' : Value} (h : Kept w v w' v') : Grow w v w' v' := ⟨h.heap, by rcases h.own with h | h; exact .inl h; exact .inr ⟨_, h, Nat.le_refl _⟩, h.size⟩
theorem Grow.ne {w w' : World} {v v' : Value} (h : Grow w v w' v') {b : Nat} (hb : b < w.heap.size) (hne : v.ownBlock ≠ some b) : v'.ownBlock ≠ some b := by
  rcases h.own with h2 | ⟨g, h2, h3⟩ <;> rw [h2]
  · exact hne
  · simp; omega
theorem Grow.trans {w w' w'' : World} {u v v' : Value} (h : Grow w u w' v) (k : Grow w' v w'' v') : Grow w u w'' v' := by
  refine ⟨fun q hq hne => ?_, ?_, Nat.le_trans h.size k.size⟩
  · rw [k.heap q (by have := h.size; omega) (h.ne hq hne)]; exact h.heap q hq hne
  · rcases k.own with e | ⟨g, e, hg⟩
    · rw [e]; exact h.own
    · exact .inr ⟨g, e, by have := h.size; omega⟩
/-- later memory and then an append -/
theorem Grow.pre {w w1 w' : World} {v v' : Value} (hx : Ext w w1) (k : Grow w1 v w' v') : Grow w v w' v' := by
  refine ⟨fun q hq hne => ?_, ?_, Nat.le_trans hx.size k.size⟩
  · rw [k.heap q (by have := hx.size; omega) hne]; exact hx.block q hq
  · rcases k.own with e | ⟨g, e, hg⟩
    · exact .inl e
    · exact .inr ⟨g, e, by have := hx.size; omega⟩
theorem Grow.ext {w w1 w' : World} {v v' : Value} (k : Grow w v w1 v') (hx : Ext w1 w') : Grow w v w' v' :=
  ⟨fun q hq hne => by rw [hx.block q (by have := k.size; omega)]; exact k.heap q hq hne, k.own, Nat.le_trans k.size hx.size⟩
theorem Grow.slice {α : Type} {enc : α → List Value} {k : Nat} {w w' : World} {v v' : Value} {p : Option Addr} {n cap : Nat} {l : List α} (h : Grow w v w' v') (hs : SliceOf enc k w (.slice p n cap) l) (hne : ∀ a, p = some a → v.ownBlock ≠ some a.block) : SliceOf enc k w' (.slice p n cap) l := by
  obtain ⟨p', cap', e, h1, h2, h3, h4⟩ := hs
  refine ⟨p', cap', e, h1, h2, h3, fun i x hi => ?_⟩
  obtain ⟨b, off, hp, hc⟩ := h4 i x hi
  refine ⟨b, off, hp, fun j u hj => ?_⟩
  have h5 := hc j u hj
  have hlt := World.block_lt_of_cell? w ⟨b, off + (i * k + j), none⟩ h5
  simp only [Value.slice.injEq] at e
  obtain ⟨rfl, _, _⟩ := e
  have h6 := h.heap b hlt (hne _ hp)
  rw [← h5]
  simp only [World.cell?]
  rw [h6]
/-- the shape of a slice of the call's own -/
theorem Own.form2 {α : Type} {enc : α → List Value} {k E base : Nat} {w : World} {v : Value} {r : List α} (h : Own enc k E base w v r) : ∃ q cap, v = .slice q r.length cap := by
  obtain ⟨hl, h | ⟨g, cap, cur, rfl, hb, hg, hn, hc, hs, ht⟩⟩ := h
  · obtain ⟨rfl, hn⟩ := h
    exact ⟨none, 0, by rw [hn]⟩
  · exact ⟨_, _, rfl⟩
set_option maxHeartbeats 1600000 in
set_option maxRecDepth 20000 in
theorem rwith_any (base : Nat) (la lb : List Int) (va : Value) (pb : Option Addr) (cb : Nat) (w : World) (ha : Own encI 1 3 base w va la) (hb : IntS w (.slice pb lb.length cb) lb) (hne : lb ≠ [] → ∀ q, pb = some q → va.ownBlock ≠ some q.block) (hbase : base ≤ w.heap.size) (hl : la.length + lb.length ≤ 100000000) :
    Calls Tryz.prog 50 #[va, .slice pb lb.length cb] w fun en w' => ∃ v', en = .returned v' ∧ Own encI 1 3 base w' v' (withL la lb) ∧ Grow w va w' v' ∧ Below base w w' := by
  obtain ⟨iE, hiE, hE0, hE1, hE2⟩ := info_parts infoInt
  have HA := Lib.hid ha
  have HB := Lib.hid hb
  have HNE := Lib.hid hne
  obtain ⟨_, _, e0, hb1, hb2, _⟩ := IntS.form hb
  simp only [Value.slice.injEq, true_and] at e0
  obtain ⟨rfl, rfl⟩ := e0
  unfold maxLen at hb2
  clear ha hb hne
  go_enter Tryz.func50, Tryz.ntmps50
  go_wp2_with fail
  go_loopw [0, 5] (fun va' vi wr => ∃ (k : Nat) (a : List Int), k ≤ lb.length ∧ vi = .int .i64 k ∧ Own encI 1 3 base wr va' a ∧ a.length ≤ la.length + k ∧ withL la lb = withL a (lb.drop k) ∧ Grow w va wr va' ∧ Below base w wr) (fun _ i _ => lb.length - (intOf i).toNat)
  case atStart => exact ⟨0, la, by omega, rfl, HA.out, by omega, by rw [List.drop_zero], Grow.refl _ _, Below.refl _ _⟩
  case round =>
    obtain ⟨k, a, hk, rfl, ho, hal, hwl, hg, hbl⟩ := hrel
    have HO := Lib.hid ho
    have HWL := Lib.hid hwl
    have HG := Lib.hid hg
    have HBL := Lib.hid hbl
    obtain ⟨qa, ca, rfl⟩ := Own.form2 ho
    clear ho hwl hg hbl
    by_cases hlt : k < lb.length
    · have HS := Lib.hid (withL_step (a := a) hlt)
      obtain ⟨b, off, rfl, hc⟩ := IntS.elem (HG.out.slice HB.out (HNE.out (by rintro rfl; simp at hlt))) hlt
      have ob := Old.of_cell hc
      generalize lb[k] = m at *
      rcases hm : decide (m ∈ a) with _ | _
      · have HM := Lib.hid (of_decide_eq_false hm)
        have HMB := Lib.hid hm
        clear hm
        go_wp2_with (first | (go_at_call 54; refine (rhas_any a _ m _ (Own.slice encI_len HO.out)).mono ?_; rintro en w' ⟨rfl, nh, rfl⟩; simp only [HMB.out]) | (at_builtin; refine wl_append1g (enc := encI) (k := 1) (E := 3) (base := base) (l := a) (y := m) Tryz.underlying32 hiE hE0 hE1 hE2 rfl (by decide) encI_len encI_one rfl rfl (Own.alloc (Own.ext HO.out (by repeat' (first | (with_reducible exact Ext.refl _) | (with_reducible exact ExtOf.ext _) | (with_reducible refine Ext.trans ?_ (ExtOf.ext _)) | (with_reducible refine Ext.alloc ?_ _) | (with_reducible refine Ext.drew ?_) | (with_reducible refine Ext.setCell ?_ ?_ _) | (with_reducible refine Ext.setRow ?_ ?_ _) | (with_reducible exact HX.out) | (with_reducible refine Ext.trans ?_ HX.out) | (with_reducible refine Ext.below ?_ (Nat.le_refl _) _) | omega | (simp; done) | (simp; omega)))) _) inferInstance rfl (by unfold maxLen; omega) (by omega) (by have := HBL.out.size; have := nh.size; simp; omega) ?_; intro v7 n7 ho7 hk7))
        have hg7 := HG.out.trans (Grow.pre (nh.ext.trans ((Ext.refl _).alloc _)) hk7.grow)
        have hb7 : Below base w n7.val := Below.trans HBL.out (Below.trans (Below.mono (nh.ext.trans ((Ext.refl _).alloc _)) (by have := HBL.out.size; omega)) n7.below)
        go_roundw
        case rel => exact ⟨k + 1, a ++ [m], by omega, by first | rfl | go_num, ho7, by simp; omega, by rw [HWL.out, HS.out, if_neg HM.out], hg7, hb7⟩
        case measure => simp [intOf]; omega
      · have HM := Lib.hid (of_decide_eq_true hm)
        have HMB := Lib.hid hm
        clear hm
        go_wp2_with (first | (go_at_call 54; refine (rhas_any a _ m _ (Own.slice encI_len HO.out)).mono ?_; rintro en w' ⟨rfl, nh, rfl⟩; simp only [HMB.out]))
        go_roundw
        case rel => exact ⟨k + 1, a, by omega, by first | rfl | go_num, Own.of_ext HO.out nh, by omega, by rw [HWL.out, HS.out, if_pos HM.out], HG.out.ext nh.ext, Below.trans HBL.out (Below.mono nh.ext (by have := HBL.out.size; omega))⟩
        case measure => simp [intOf]; omega
    · obtain rfl : k = lb.length := by omega
      go_wp2_with fail
      go_ret
      refine ⟨_, rfl, ?_, HG.out, HBL.out⟩
      have := HWL.out
      rw [List.drop_length] at this
      rw [this]
      exact HO.out
end Go.Proofs.YtjfohapnjnopfaaGreatDoor
end
