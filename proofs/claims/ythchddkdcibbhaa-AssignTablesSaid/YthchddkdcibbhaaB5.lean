/-
  The contracts of improve and earliest.
-/
import Derived.Test.YthchddkdcibbhaaB4
namespace Go.Proofs.Ythchddkdcibbhaa
open Go.RowKit AssignM

attribute [local go_sem] ExtOf.cell ExtOf.frozen Block.cell Block.frozen ExtB.cell ExtB.frozen alloc_cell alloc_frozen

theorem okFor_unfit {F : List (List Bool)} {R C k i : Nat} {left : Nat → Nat} (h : fit F i k = false) : okFor F R C k left i = false := by simp [okFor, h]
theorem lt_step {p : Nat → Bool} {i : Nat} (h : ∀ j, j < i → p j = false) (h2 : p i = false) : ∀ j, j < i + 1 → p j = false := fun j hj => by
  rcases Nat.lt_or_ge j i with h' | h'
  · exact h j h'
  · obtain rfl : j = i := by omega
    exact h2
set_option maxRecDepth 20000 in
set_option maxHeartbeats 1600000 in
theorem improve_any (F : List (List Bool)) (C : Nat) (a : Mat) (v0 : Value) (gm bm b : Nat) (w : World) (hR : F.length ≤ 1048576) (hC : C ≤ 1048576) (hF : Rect F F.length C) (hOk : Ok F F.length C a) (hb : b < C)
    (hM : Block w gm #[v0, .map (some bm), .int .i64 (b + 1 : Nat)]) (h1 : MapI C w bm a) (hG : GridS w v0 F) :
    Calls Try.prog 43 #[.pointer (some ⟨gm, 0, none⟩), .int .i64 b] w fun e w' => e = .returned (.tuple #[]) ∧ ∃ t, Improved F F.length C b a t ∧ MapI C w' bm t ∧ Turn w w' bm := by
  obtain ⟨p0, cap0, rfl, hg1, hg2, hg3⟩ := hG.form
  have HF := Lib.hid hF
  have HOK := Lib.hid hOk
  have H1 := Lib.hid h1
  have HG := Lib.hid hG
  have ogm := hM.old
  have hgm : gm ≠ bm := fun e => by
    subst e
    obtain ⟨t, ht⟩ := hM.get
    obtain ⟨D, ⟨es, cl, hh, _⟩, _⟩ := h1
    rw [hh] at ht; cases ht
  clear hF hOk h1 hG
  rcases t0 : a b with _ | now
  · go_enter Try.func43, Try.ntmps43
    go_wp2_with (at_lookup; refine wl_look_ok H1.out Try.underlying3 Try.underlying3 Try.underlying68 zeroI hb (by omega) rfl _ _ rfl rfl rfl ?_)
    go_loopw [21] (fun v wr => ∃ i : Nat, i ≤ F.length ∧ v = .int .i64 i ∧ (∀ j, j < i → okFor F F.length C b (cnt C a b) j = false) ∧ True ∧ MapI C wr bm a ∧ Block wr gm #[.slice p0 F.length cap0, .map (some bm), .int .i64 (b + 1 : Nat)] ∧ GridS wr (.slice p0 F.length cap0) F ∧ Turn w wr bm) (fun v _ => F.length - (intOf v).toNat)
    case atStart => exact ⟨0, by omega, rfl, (fun j h => by omega), trivial, H1.out, hM, HG.out, Turn.of_ext (Ext.refl _)⟩
    case round =>
      clear H1 HG ogm hM
      obtain ⟨i, hi, rfl, hno, _, hm, hM, hg, hT⟩ := hrel
      have HNO := Lib.hid hno
      have HM := Lib.hid hm
      have HG := Lib.hid hg
      have HT := Lib.hid hT
      have ogm := hM.old
      clear hno hm hg hT
      by_cases hlt : i < F.length
      · obtain ⟨b0, off0, rp, rc, rfl, ho0, c0, hrow⟩ := HG.out.row hlt
        obtain ⟨hk', hfit⟩ := HF.out.get hlt hb
        obtain ⟨b2, off2, rfl, ho2, c1⟩ := SliceOf.elem1 hrow hk' rfl
        have hrl := HF.out.wide _ (List.getElem_mem hlt)
        rw [← hfit] at c1
        rw [hrl] at c0
        clear hrow hrl hfit hk'
        rcases t1 : fit F i b with _ | _
        · rw [t1] at c1
          go_wp2
          go_roundw
          case rel => exact ⟨i + 1, by omega, by go_num, lt_step HNO.out (okFor_unfit t1), trivial, HM.out, hM, HG.out, HT.out⟩
          case measure => simp [intOf]; omega
        · rw [t1] at c1
          go_wp2_with fail
          refine (move_any F C a _ gm bm b i _ hR hC HF.out HOK.out hb hlt t1 (by rw [t0]; simp) hM HM.out HG.out).mono ?_
          rintro e w' ⟨bb, rfl, hcase, hT2⟩
          have hM7 := hT2.blk hM hgm
          have og7 := hM7.old
          have HG7 := Lib.hid (HG.out.turn HM.out hT2)
          have HT7 := Lib.hid (HT.out.trans hT2)
          clear hT2
          rcases hcase with ⟨rfl, t, hmv, hmt⟩ | ⟨rfl, hnf, hmt⟩
          · have HI := Lib.hid (hmv.improved HNO.out)
            have HMT := Lib.hid hmt
            clear hmv hmt
            go_wp2
            refine bodyPost_ret (v := .tuple #[]) (by simp [results, Try.results43, go_sem]) rfl ?_
            exact ⟨rfl, t, HI.out, HMT.out, HT7.out⟩
          · have HMT := Lib.hid hmt
            have HNF := Lib.hid hnf
            clear hmt hnf
            go_wp2
            go_roundw
            case rel => exact ⟨i + 1, by omega, by go_num, lt_step HNO.out HNF.out, trivial, HMT.out, hM7, HG7.out, HT7.out⟩
            case measure => simp [intOf]; omega
      · obtain rfl : i = F.length := by omega
        go_wp2
        refine bodyPost_end (v := .tuple #[]) (by simp [results, Try.results43, go_sem]) rfl ?_
        exact ⟨rfl, a, Improved.free HOK.out hb t0 HNO.out, HM.out, HT.out⟩
  · have hnR := (HOK.out.at_ b now t0).2.1
    go_enter Try.func43, Try.ntmps43
    go_wp2_with (at_lookup; refine wl_look_ok H1.out Try.underlying3 Try.underlying3 Try.underlying68 zeroI hb (by omega) rfl _ _ rfl rfl rfl ?_)
    go_loopw [21] (fun v wr => ∃ i : Nat, i ≤ F.length ∧ v = .int .i64 i ∧ (∀ j, j < i → okFor F F.length C b (cnt C a b) j = false) ∧ i ≤ now ∧ MapI C wr bm a ∧ Block wr gm #[.slice p0 F.length cap0, .map (some bm), .int .i64 (b + 1 : Nat)] ∧ GridS wr (.slice p0 F.length cap0) F ∧ Turn w wr bm) (fun v _ => F.length - (intOf v).toNat)
    case atStart => exact ⟨0, by omega, rfl, (fun j h => by omega), by omega, H1.out, hM, HG.out, Turn.of_ext (Ext.refl _)⟩
    case round =>
      clear H1 HG ogm hM
      obtain ⟨i, hi, rfl, hno, hin, hm, hM, hg, hT⟩ := hrel
      have HNO := Lib.hid hno
      have HM := Lib.hid hm
      have HG := Lib.hid hg
      have HT := Lib.hid hT
      have ogm := hM.old
      clear hno hm hg hT
      have hlt : i < F.length := by omega
      by_cases hc : i = now
      · subst hc
        go_wp2
        refine bodyPost_ret (v := .tuple #[]) (by simp [results, Try.results43, go_sem]) rfl ?_
        exact ⟨rfl, a, Improved.keep HOK.out hb t0 HNO.out, HM.out, HT.out⟩
      · have hne : ((i : Int) == (now : Int)) = false := by rw [beq_eq_false_iff_ne]; omega
        obtain ⟨b0, off0, rp, rc, rfl, ho0, c0, hrow⟩ := HG.out.row hlt
        obtain ⟨hk', hfit⟩ := HF.out.get hlt hb
        obtain ⟨b2, off2, rfl, ho2, c1⟩ := SliceOf.elem1 hrow hk' rfl
        have hrl := HF.out.wide _ (List.getElem_mem hlt)
        rw [← hfit] at c1
        rw [hrl] at c0
        clear hrow hrl hfit hk'
        rcases t1 : fit F i b with _ | _
        · rw [t1] at c1
          go_wp2
          go_roundw
          case rel => exact ⟨i + 1, by omega, by go_num, lt_step HNO.out (okFor_unfit t1), (by omega), HM.out, hM, HG.out, HT.out⟩
          case measure => simp [intOf]; omega
        · rw [t1] at c1
          go_wp2_with fail
          refine (move_any F C a _ gm bm b i _ hR hC HF.out HOK.out hb hlt t1 (by rw [t0]; simp; exact fun h => hc h.symm) hM HM.out HG.out).mono ?_
          rintro e w' ⟨bb, rfl, hcase, hT2⟩
          have hM7 := hT2.blk hM hgm
          have og7 := hM7.old
          have HG7 := Lib.hid (HG.out.turn HM.out hT2)
          have HT7 := Lib.hid (HT.out.trans hT2)
          clear hT2
          rcases hcase with ⟨rfl, t, hmv, hmt⟩ | ⟨rfl, hnf, hmt⟩
          · have HI := Lib.hid (hmv.improved HNO.out)
            have HMT := Lib.hid hmt
            clear hmv hmt
            go_wp2
            refine bodyPost_ret (v := .tuple #[]) (by simp [results, Try.results43, go_sem]) rfl ?_
            exact ⟨rfl, t, HI.out, HMT.out, HT7.out⟩
          · have HMT := Lib.hid hmt
            have HNF := Lib.hid hnf
            clear hmt hnf
            go_wp2
            go_roundw
            case rel => exact ⟨i + 1, by omega, by go_num, lt_step HNO.out HNF.out, (by omega), HMT.out, hM7, HG7.out, HT7.out⟩
            case measure => simp [intOf]; omega

theorem first_step {F : List (List Bool)} {R C b : Nat} {full : List (Option Nat)} {t t2 : Mat} (h : full.drop b = firstF F R C (C - b) b (cnt C t b)) (hb : b < C) (hi : Improved F R C b t t2) :
    full[b]? = some (t2 b) ∧ full.drop (b + 1) = firstF F R C (C - (b + 1)) (b + 1) (cnt C t2 (b + 1)) := by
  rw [show C - b = (C - (b + 1)) + 1 by omega, firstF, ← hi.at_] at h
  have h1 : (full.drop b)[0]? = some (t2 b) := by rw [h]; rfl
  have h2 : (full.drop b).drop 1 = firstF F R C (C - (b + 1)) (b + 1) (after (cnt C t b) (t2 b)) := by rw [h]; rfl
  refine ⟨by simpa using h1, ?_⟩
  rw [List.drop_drop] at h2
  rw [h2]
  exact firstF_congr fun i hi' => (hi.cn i hi').symm
def optInt : Option Nat → Int
  | some i => (i : Int)
  | none => -1
/-- the first b of the numbers of a list are there -/
def progCells (l : List (Option Nat)) (b C : Nat) : Array Value := ((List.range C).map fun k => Value.int .i64 (if k < b then optInt (l[k]?.getD none) else 0)).toArray
theorem progCells_get {l : List (Option Nat)} {b C k : Nat} (h : k < C) : (progCells l b C)[k]? = some (.int .i64 (if k < b then optInt (l[k]?.getD none) else 0)) := by simp [progCells, h]
theorem progCells_made (l : List (Option Nat)) (C : Nat) : madeCells #[Value.int .i64 0] C = progCells l 0 C := by
  apply Array.ext_getElem?
  intro j
  by_cases h : j < C
  · simp [madeCells, progCells, h, Nat.mod_one]
  · simp [madeCells, progCells, h]
theorem progCells_set {l : List (Option Nat)} {b C : Nat} {x : Option Nat} (h : b < C) (hx : l[b]? = some x) : (progCells l b C).setIfInBounds b (.int .i64 (optInt x)) = progCells l (b + 1) C := by
  apply Array.ext_getElem?
  intro j
  by_cases e : b = j
  · subst e
    rw [Array.getElem?_setIfInBounds_self_of_lt (by simpa [progCells] using h), progCells_get h, if_pos (by omega), hx]
    rfl
  · rw [Array.getElem?_setIfInBounds_ne e]
    by_cases hj : j < C
    · rw [progCells_get hj, progCells_get hj]
      have : (j < b) = (j < b + 1) := by simp; omega
      simp only [this]
    · simp [progCells, hj]
def optCells (l : List (Option Nat)) : Array Value := (l.map fun x => Value.int .i64 (optInt x)).toArray
theorem progCells_end {l : List (Option Nat)} {C : Nat} (h : l.length = C) : progCells l C C = optCells l := by
  apply Array.ext_getElem?
  intro j
  by_cases hj : j < C
  · rw [progCells_get hj, if_pos hj]
    simp [optCells, show j < l.length by omega]
  · have : ¬ j < l.length := by omega
    simp [progCells, optCells, hj, this]
set_option maxRecDepth 20000 in
set_option maxHeartbeats 1600000 in
theorem earliest_any (F : List (List Bool)) (C : Nat) (a : Mat) (v0 : Value) (gm bm : Nat) (fst : Int) (w0 w : World) (hR : F.length ≤ 1048576) (hC : C ≤ 1048576) (hF : Rect F F.length C) (hOk : Ok F F.length C a)
    (hM : Block w gm #[v0, .map (some bm), .int .i64 fst]) (h1 : MapI C w bm a) (hG : GridS w0 v0 F) (hx0 : Ext w0 w) (hg0 : w0.heap.size ≤ gm) (hb0 : w0.heap.size ≤ bm) :
    Calls Try.prog 32 #[.pointer (some ⟨gm, 0, none⟩)] w fun e w' => ∃ gl, e = .returned (.slice (some ⟨gl, 0, none⟩) C C) ∧ Block w' gl (optCells (firstF F F.length C C 0 (cnt C a 0))) ∧ w0.heap.size ≤ gl ∧ Ext w0 w' := by
  have hcols := hF.first
  have HF := Lib.hid hF
  have HOK := Lib.hid hOk
  have H1 := Lib.hid h1
  have HG := Lib.hid hG
  have HX0 := Lib.hid hx0
  have ogm := hM.old
  have hmk := run_make_row' (P := Try.prog) 29 3 (.int .i64 0) 8 Try.underlying29 infoI rfl .i64 .i64 C (by omega) (by omega)
  obtain ⟨full, hfull⟩ : ∃ full, full = firstF F F.length C C 0 (cnt C a 0) := ⟨_, rfl⟩
  have hflen : full.length = C := by rw [hfull, firstF_len]
  rw [progCells_made full] at hmk
  rw [← hfull]
  have HFU := Lib.hid hfull
  have hgm : gm ≠ bm := fun e => by
    subst e
    obtain ⟨t, ht⟩ := hM.get
    obtain ⟨D, ⟨es, cl, hh, _⟩, _⟩ := h1
    rw [hh] at ht; cases ht
  have hbmlt := h1.lt
  clear hF hOk h1 hG hx0 hfull
  go_enter Try.func32, Try.ntmps32
  go_wp2_with fail
  refine (columns_any _ F _ (HG.out.ext HX0.out) (by omega)).mono ?_
  rintro e w' ⟨rfl, n, rfl⟩
  rw [hcols]
  have HX1 := Lib.hid (HX0.out.trans n.ext)
  have HM1 := Lib.hid (H1.out.ext n.ext)
  have hMn := hM.ext n.ext
  have hbl : bm < n.val.heap.size := Nat.lt_of_lt_of_le hbmlt n.ext.size
  clear HX0 H1 hM ogm hbmlt
  generalize n.val = W1 at *
  clear n
  go_wp2
  have hB0 : Block (W1.alloc (.cells (progCells full 0 C) 3)) W1.heap.size (progCells full 0 C) := inferInstance
  have hM0 := hMn.ext ((Ext.refl W1).alloc (.cells (progCells full 0 C) 3))
  have HM0 := Lib.hid (HM1.out.alloc (.cells (progCells full 0 C) 3))
  have HX2 := Lib.hid (HX1.out.alloc (.cells (progCells full 0 C) 3))
  have hgl : w0.heap.size ≤ W1.heap.size := HX1.out.size
  have hne1 : W1.heap.size ≠ gm := by have := hMn.lt; omega
  have hne2 : W1.heap.size ≠ bm := by omega
  clear hMn HM1 HX1 hmk hbl
  generalize W1.alloc (.cells (progCells full 0 C) 3) = W2 at *
  generalize W1.heap.size = gl at *
  clear W1
  go_loopw [15] (fun v wr => ∃ (b : Nat) (t : Mat) (f : Int), b ≤ C ∧ v = .int .i64 b ∧ Ok F F.length C t ∧ full.drop b = firstF F F.length C (C - b) b (cnt C t b) ∧ MapI C wr bm t ∧ Block wr gm #[v0, .map (some bm), .int .i64 f] ∧ Block wr gl (progCells full b C) ∧ Ext w0 wr) (fun v _ => C - (intOf v).toNat)
  case atStart => exact ⟨0, a, fst, by omega, rfl, HOK.out, by rw [Nat.sub_zero, ← HFU.out]; rfl, HM0.out, hM0, hB0, HX2.out⟩
  case round =>
    clear hB0 hM0 HM0 HX2
    obtain ⟨b, t, f, hbC, rfl, hok, hfd, hm, hM, hB, hx⟩ := hrel
    have HO := Lib.hid hok
    have HFD := Lib.hid hfd
    have HM := Lib.hid hm
    have HX := Lib.hid hx
    have ogm := hM.old
    have ogl := hB.old
    clear hok hfd hm hx
    by_cases hlt : b < C
    · go_wp2_with fail
      have hap : Apart gm gl := ⟨Ne.symm hne1⟩
      have e1 : ((b + 1 : Nat) : Int) = (b : Int) + 1 := by omega
      have hM2 : Block (wr.setCell ⟨gm, 2, none⟩ (.int .i64 ((b : Int) + 1))) gm #[v0, .map (some bm), .int .i64 (b + 1 : Nat)] := by
        rw [e1]
        exact (inferInstance : Block (wr.setCell ⟨gm, 2, none⟩ (.int .i64 ((b : Int) + 1))) gm (#[v0, .map (some bm), .int .i64 f].setIfInBounds 2 (.int .i64 ((b : Int) + 1))))
      have hB2 : Block (wr.setCell ⟨gm, 2, none⟩ (.int .i64 ((b : Int) + 1))) gl (progCells full b C) := inferInstance
      have HM2 := Lib.hid (HM.out.setCell (i := 2) (Ne.symm hgm) (.int .i64 ((b : Int) + 1)))
      have HX2 : Hid (Ext w0 (wr.setCell ⟨gm, 2, none⟩ (.int .i64 ((b : Int) + 1)))) := Lib.hid (Ext.setCell HX.out hg0 _)
      refine (improve_any F C t v0 gm bm b _ hR hC HF.out HO.out hlt hM2 HM2.out (HG.out.ext HX2.out)).mono ?_
      rintro e w' ⟨rfl, t2, himp, hmt, hT⟩
      have hM4 := hT.blk hM2 hgm
      have hB4 := hT.blk hB2 hne2
      have og4 := hM4.old
      have ol4 := hB4.old
      obtain ⟨hf1, hf2⟩ := first_step HFD.out hlt himp
      have HX4 := Lib.hid (hT.ext HX2.out hb0)
      have HI := Lib.hid himp
      have HMT := Lib.hid hmt
      have HF1 := Lib.hid hf1
      have HF2 := Lib.hid hf2
      have hcell := progCells_get (l := full) (b := b) hlt
      rw [if_neg (by omega)] at hcell
      clear hT himp hmt hf1 hf2 hM2 hB2 HM2 HX2 e1
      rcases t3 : t2 b with _ | j
      · have HS : Hid ((progCells full b C).setIfInBounds b (.int .i64 (-1)) = progCells full (b + 1) C) := Lib.hid (progCells_set hlt (by rw [HF1.out, t3] : full[b]? = some none))
        go_wp2_with (at_lookup; refine wl_look_ok HMT.out Try.underlying3 Try.underlying3 Try.underlying68 zeroI hlt (by omega) rfl _ _ rfl rfl rfl ?_)
        go_roundw
        case rel =>
          have hB5 : Block (w'.setCell ⟨gl, b, none⟩ (.int .i64 (-1))) gl ((progCells full b C).setIfInBounds b (.int .i64 (-1))) := inferInstance
          rw [HS.out] at hB5
          have hap2 : Apart gl gm := ⟨hne1⟩
          exact ⟨b + 1, t2, _, by omega, by go_num, HI.out.ok, HF2.out, HMT.out.setCell (Ne.symm hne2) _, (inferInstance : Block _ _ #[v0, .map (some bm), .int .i64 (b + 1 : Nat)]), hB5, Ext.setCell HX4.out hgl _⟩
        case measure => simp [intOf]; omega
      · have HS : Hid ((progCells full b C).setIfInBounds b (.int .i64 (j : Int)) = progCells full (b + 1) C) := Lib.hid (progCells_set hlt (by rw [HF1.out, t3] : full[b]? = some (some j)))
        go_wp2_with (at_lookup; refine wl_look_ok HMT.out Try.underlying3 Try.underlying3 Try.underlying68 zeroI hlt (by omega) rfl _ _ rfl rfl rfl ?_)
        go_roundw
        case rel =>
          have hB5 : Block (w'.setCell ⟨gl, b, none⟩ (.int .i64 (j : Int))) gl ((progCells full b C).setIfInBounds b (.int .i64 (j : Int))) := inferInstance
          rw [HS.out] at hB5
          have hap2 : Apart gl gm := ⟨hne1⟩
          exact ⟨b + 1, t2, _, by omega, by go_num, HI.out.ok, HF2.out, HMT.out.setCell (Ne.symm hne2) _, (inferInstance : Block _ _ #[v0, .map (some bm), .int .i64 (b + 1 : Nat)]), hB5, Ext.setCell HX4.out hgl _⟩
        case measure => simp [intOf]; omega
    · obtain rfl : b = C := by omega
      go_wp2
      go_ret
      exact ⟨gl, rfl, by rw [← progCells_end hflen]; exact hB, hgl, HX.out⟩

end Go.Proofs.Ythchddkdcibbhaa
