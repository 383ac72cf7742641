/-
  The contracts of the reference's boards, none and augment.
-/
import Derived.Test.YthchddkdcibbhaaC0
import Derived.Test.YthchddkdcibbhaaA6
namespace Go.Proofs.Ythchddkdcibbhaa
open Go.RowKit AssignM

attribute [local go_sem] ExtOf.cell ExtOf.frozen Block.cell Block.frozen ExtB.cell ExtB.frozen alloc_cell alloc_frozen

set_option maxHeartbeats 400000 in
theorem boards_any (v : Value) (F : List (List Bool)) (w : World) (h : GridS w v F) (hF : F.length ≤ 1099511627776) :
    Calls Try.prog 35 #[v] w fun e w' => e = .returned (.int .i64 (cols F)) ∧ ∃ n : ExtOf w, w' = n.val := by
  obtain ⟨p, cap, rfl, h1, h2, h3⟩ := h.form
  rcases hl : F with _ | ⟨r, F'⟩
  · subst hl
    simp only [List.length_nil] at *
    go_enter Try.func35, Try.ntmps35
    go_wp2
    go_ret
    refine ⟨rfl, ?_⟩
    exact ExtOf.of (by repeat' (first | (with_reducible exact Ext.refl _) | (with_reducible exact ExtOf.ext _) | (with_reducible refine Ext.trans ?_ (ExtOf.ext _)) | (with_reducible refine Ext.alloc ?_ _) | (with_reducible refine Ext.drew ?_) | (with_reducible refine Ext.setCell ?_ ?_ _) | (with_reducible refine Ext.setRow ?_ ?_ _) | (with_reducible exact HX.out) | (with_reducible refine Ext.trans ?_ HX.out) | (with_reducible refine Ext.below ?_ (Nat.le_refl _) _) | (simp; done) | (simp; omega)))
  · obtain ⟨b, off, rp, rc, rfl, ho, c0, hb⟩ := h.row (i := 0) (by rw [hl]; simp)
    have e0 : F[0]'(by rw [hl]; simp) = r := by simp [hl]
    rw [e0] at c0
    have hz : ((F.length : Int) == 0) = false := by rw [hl]; simp; omega
    rw [← hl]
    have hc : cols F = r.length := by rw [hl]; rfl
    rw [hc]
    have hpos : 0 < F.length := by rw [hl]; simp
    rw [Nat.add_zero] at c0
    clear hb hl e0 hc
    go_enter Try.func35, Try.ntmps35
    go_wp2
    go_ret
    refine ⟨rfl, ?_⟩
    exact ExtOf.of (by repeat' (first | (with_reducible exact Ext.refl _) | (with_reducible exact ExtOf.ext _) | (with_reducible refine Ext.trans ?_ (ExtOf.ext _)) | (with_reducible refine Ext.alloc ?_ _) | (with_reducible refine Ext.drew ?_) | (with_reducible refine Ext.setCell ?_ ?_ _) | (with_reducible refine Ext.setRow ?_ ?_ _) | (with_reducible exact HX.out) | (with_reducible refine Ext.trans ?_ HX.out) | (with_reducible refine Ext.below ?_ (Nat.le_refl _) _) | (simp; done) | (simp; omega)))

set_option maxHeartbeats 800000 in
theorem none_any (C : Nat) (w : World) (hC : C ≤ 1048576) : Calls Try.prog 41 #[.int .i64 C] w fun e w' => ∃ g, e = .returned (.slice (some ⟨g, 0, none⟩) C C) ∧ w.heap.size ≤ g ∧ Block w' g (givCells (fun _ => none) C) ∧ ∃ n : ExtOf w, w' = n.val := by
  have hmk := run_make_row' (P := Try.prog) 29 3 (.int .i64 0) 8 Try.underlying29 infoI rfl .i64 .i64 C (by omega) (by omega)
  rw [initCells_made] at hmk
  go_enter Try.func41, Try.ntmps41
  go_wp2
  go_loopw [4] (fun v wr => ∃ k : Nat, k ≤ C ∧ v = .int .i64 k ∧ Block wr w.heap.size (initCells k C) ∧ Ext w wr) (fun v _ => C - (intOf v).toNat)
  case atStart => exact ⟨0, by omega, rfl, inferInstance, by repeat' (first | (with_reducible exact Ext.refl _) | (with_reducible exact ExtOf.ext _) | (with_reducible refine Ext.trans ?_ (ExtOf.ext _)) | (with_reducible refine Ext.alloc ?_ _) | (with_reducible refine Ext.drew ?_) | (with_reducible refine Ext.setCell ?_ ?_ _) | (with_reducible refine Ext.setRow ?_ ?_ _) | (with_reducible exact HX.out) | (with_reducible refine Ext.trans ?_ HX.out) | (with_reducible refine Ext.below ?_ (Nat.le_refl _) _) | (simp; done) | (simp; omega))⟩
  case round =>
    obtain ⟨k, hk, rfl, hB, hx⟩ := hrel
    have HX := Lib.hid hx
    have og := hB.old
    clear hx
    by_cases hlt : k < C
    · have hc : (initCells k C)[k]? = some (.int .i64 0) := by simp [initCells, hlt]
      go_wp2
      go_roundw
      case rel =>
        have hB' : Block (wr.setCell ⟨w.heap.size, k, none⟩ (.int .i64 (-1))) w.heap.size ((initCells k C).setIfInBounds k (.int .i64 (-1))) := inferInstance
        rw [initCells_set hlt] at hB'
        exact ⟨k + 1, by omega, by go_num, hB', by repeat' (first | (with_reducible exact Ext.refl _) | (with_reducible exact ExtOf.ext _) | (with_reducible refine Ext.trans ?_ (ExtOf.ext _)) | (with_reducible refine Ext.alloc ?_ _) | (with_reducible refine Ext.drew ?_) | (with_reducible refine Ext.setCell ?_ ?_ _) | (with_reducible refine Ext.setRow ?_ ?_ _) | (with_reducible exact HX.out) | (with_reducible refine Ext.trans ?_ HX.out) | (with_reducible refine Ext.below ?_ (Nat.le_refl _) _) | (simp; done) | (simp; omega))⟩
      case measure => simp [intOf]; omega
    · obtain rfl : k = C := by omega
      rw [initCells_end] at hB
      go_wp2
      go_ret
      exact ⟨_, rfl, Nat.le_refl _, hB, ExtOf.of HX.out⟩

def boolCells (s : Nat → Bool) (C : Nat) : Array Value := ((List.range C).map fun k => Value.bool (s k)).toArray
theorem boolCells_get {s : Nat → Bool} {C k : Nat} (h : k < C) : (boolCells s C)[k]? = some (.bool (s k)) := by simp [boolCells, h]
theorem boolCells_set {s : Nat → Bool} {C k : Nat} (h : k < C) : (boolCells s C).setIfInBounds k (.bool true) = boolCells (setB s k) C := by
  apply Array.ext_getElem?
  intro j
  by_cases e : k = j
  · subst e
    rw [Array.getElem?_setIfInBounds_self_of_lt (by simpa [boolCells] using h), boolCells_get h]
    simp [setB]
  · rw [Array.getElem?_setIfInBounds_ne e]
    by_cases hj : j < C
    · rw [boolCells_get hj, boolCells_get hj]
      simp [setB, Ne.symm e]
    · simp [boolCells, hj]
theorem boolCells_made (C : Nat) : madeCells #[Value.bool false] C = boolCells (fun _ => false) C := by
  apply Array.ext_getElem?
  intro j
  by_cases h : j < C
  · simp [madeCells, boolCells, h, Nat.mod_one]
  · simp [madeCells, boolCells, h]
/-- w' is w but for the blocks g and h, and new blocks -/
structure Keep2 (w w' : World) (g h : Nat) : Prop where
  os : w'.os = w.os
  tape : w'.tape = w.tape
  output : w'.output = w.output
  size : w.heap.size ≤ w'.heap.size
  block : ∀ q, q < w.heap.size → q ≠ g → q ≠ h → w'.heap[q]? = w.heap[q]?
theorem Keep2.of_ext {w w' : World} {g h : Nat} (hx : Ext w w') : Keep2 w w' g h := ⟨hx.os, hx.tape, hx.output, hx.size, fun q hq _ _ => hx.block q hq⟩
theorem Keep2.trans {w w' w'' : World} {g h : Nat} (a : Keep2 w w' g h) (b : Keep2 w' w'' g h) : Keep2 w w'' g h :=
  ⟨b.os.trans a.os, b.tape.trans a.tape, b.output.trans a.output, Nat.le_trans a.size b.size, fun q hq h1 h2 => (b.block q (Nat.lt_of_lt_of_le hq a.size) h1 h2).trans (a.block q hq h1 h2)⟩
theorem Keep2.ext {w0 w w' : World} {g h : Nat} (a : Keep2 w w' g h) (hx : Ext w0 w) (hg : w0.heap.size ≤ g) (hh : w0.heap.size ≤ h) : Ext w0 w' :=
  Below.trans hx ⟨a.os, a.tape, a.output, a.size, fun q hq => a.block q (Nat.lt_of_lt_of_le hq hx.size) (by omega) (by omega)⟩
theorem Keep2.blk {w w' : World} {g h b : Nat} {cs : Array Value} (a : Keep2 w w' g h) (hB : Block w b cs) (h1 : b ≠ g) (h2 : b ≠ h) : Block w' b cs := by
  obtain ⟨t, e⟩ := hB.get
  exact ⟨⟨t, by rw [a.block b hB.lt h1 h2]; exact e⟩⟩
theorem Keep2.set1 {w w' : World} {g h i : Nat} (a : Keep2 w w' g h) (v : Value) : Keep2 w (w'.setCell ⟨g, i, none⟩ v) g h :=
  ⟨a.os, a.tape, a.output, by rw [setCell_size]; exact a.size, fun q hq h1 h2 => by rw [Below.heap_setCell _ _ _ _ h1]; exact a.block q hq h1 h2⟩
theorem Keep2.set2 {w w' : World} {g h i : Nat} (a : Keep2 w w' g h) (v : Value) : Keep2 w (w'.setCell ⟨h, i, none⟩ v) g h :=
  ⟨a.os, a.tape, a.output, by rw [setCell_size]; exact a.size, fun q hq h1 h2 => by rw [Below.heap_setCell _ _ _ _ h2]; exact a.block q hq h1 h2⟩

set_option maxRecDepth 20000 in
set_option maxHeartbeats 3200000 in
theorem augment_any (F : List (List Bool)) (C lo : Nat) (v0 : Value) (gt gs : Nat) (w0 : World) (hR : F.length ≤ 1048576) (hC : C ≤ 1048576) (hlo : lo ≤ C) (hF : Rect F F.length C) (hG : GridS w0 v0 F) (hgt : w0.heap.size ≤ gt) (hgs : w0.heap.size ≤ gs) (hne : gt ≠ gs) (n : Nat) :
    ∀ (o : Nat) (a : Mat) (s : Nat → Bool) (w : World), unseen s C ≤ n → o < F.length → Ok F F.length C a → Ext w0 w → Block w gt (givCells a C) → Block w gs (boolCells s C) →
      Calls Try.prog 42 #[v0, .int .i64 o, .slice (some ⟨gt, 0, none⟩) C C, .slice (some ⟨gs, 0, none⟩) C C, .int .i64 lo] w fun e w' => ∃ (bb : Bool) (s2 : Nat → Bool), e = .returned (.bool bb) ∧ Keep2 w w' gt gs ∧ Block w' gs (boolCells s2 C) ∧ ((bb = false ∧ Block w' gt (givCells a C) ∧ Dead F F.length C lo a s s2 ∧ ∀ k, lo ≤ k → k < C → fit F o k = true → s2 k = true) ∨ (bb = true ∧ ∃ t, Block w' gt (givCells t C) ∧ OneS F F.length C lo o a s t)) := by
  obtain ⟨p0, cap0, rfl, hg1, hg2, hg3⟩ := hG.form
  have HF := Lib.hid hF
  have HG := Lib.hid hG
  clear hF hG
  induction n using Nat.strongRecOn with
  | ind n ih =>
    intro o a s w hun ho hok hx hBt hBs
    have HOK := Lib.hid hok
    have HX := Lib.hid hx
    have HIH := Lib.hid ih
    have HUN := Lib.hid hun
    have ot := hBt.old
    have os := hBs.old
    clear hok hx ih hun
    go_enter Try.func42, Try.ntmps42
    go_wp2_with fail
    go_loopw [11] (fun v wr => ∃ (k : Nat) (s1 : Nat → Bool), v = .int .i64 k ∧ lo ≤ k ∧ k ≤ C ∧ Block wr gt (givCells a C) ∧ Block wr gs (boolCells s1 C) ∧ Dead F F.length C lo a s s1 ∧ (∀ k', lo ≤ k' → k' < k → fit F o k' = true → s1 k' = true) ∧ Keep2 w wr gt gs) (fun v _ => C - (intOf v).toNat)
    case atStart => exact ⟨lo, s, rfl, Nat.le_refl _, hlo, hBt, hBs, Dead.refl, (fun k' h1 h2 => by omega), Keep2.of_ext (Ext.refl _)⟩
    case round =>
      clear hBt hBs ot os
      obtain ⟨k, s1, rfl, hk1, hk2, hBt, hBs, hdead, hsc, hkp⟩ := hrel
      have HD := Lib.hid hdead
      have HSC := Lib.hid hsc
      have HKP := Lib.hid hkp
      have HXR := Lib.hid (hkp.ext HX.out hgt hgs)
      have ot := hBt.old
      have os := hBs.old
      clear hdead hsc hkp
      by_cases hlt : k < C
      · obtain ⟨b0, off0, rp, rc, rfl, ho0, c0, hrow⟩ := (HG.out.ext HXR.out).row ho
        obtain ⟨hk', hfit⟩ := HF.out.get ho hlt
        obtain ⟨b2, off2, rfl, ho2, c1⟩ := SliceOf.elem1 hrow hk' rfl
        have hrl := HF.out.wide _ (List.getElem_mem ho)
        rw [← hfit] at c1
        rw [hrl] at c0
        clear hrow hrl hfit hk'
        have hsk := boolCells_get (s := s1) hlt
        have htk := givCells_get (giv := a) hlt
        rcases t1 : fit F o k with _ | _
        · rw [t1] at c1
          go_wp2_with fail
          go_roundw
          case rel => exact ⟨k + 1, s1, by go_num, by omega, by omega, hBt, hBs, HD.out, (fun k' h1 h2 h3 => by rcases Nat.lt_or_ge k' k with h | h; exact HSC.out k' h1 h h3; obtain rfl : k' = k := (by omega); rw [t1] at h3; cases h3), HKP.out⟩
          case measure => simp [intOf]; omega
        · rw [t1] at c1
          rcases t2 : s1 k with _ | _
          · rw [t2] at hsk
            have hap1 : Apart gs gt := ⟨Ne.symm hne⟩
            have hap2 : Apart gt gs := ⟨hne⟩
            have HSK : Hid (s k = false) := Lib.hid (by cases h : s k; rfl; have := HD.out.more k h; rw [t2] at this; cases this)
            have HBS2 : Hid (Block (wr.setCell ⟨gs, k, none⟩ (.bool true)) gs (boolCells (setB s1 k) C)) := Lib.hid (by
              have : Block (wr.setCell ⟨gs, k, none⟩ (.bool true)) gs ((boolCells s1 C).setIfInBounds k (.bool true)) := inferInstance
              rwa [boolCells_set hlt] at this)
            have HBT2 : Hid (Block (wr.setCell ⟨gs, k, none⟩ (.bool true)) gt (givCells a C)) := Lib.hid inferInstance
            have HK2 := Lib.hid (HKP.out.set2 (i := k) (.bool true))
            have HSS : Hid (∀ m, s1 m = true → setB s1 k m = true) := Lib.hid (fun m hm => by simp [setB, hm])
            rcases t3 : a k with _ | j
            · rw [t3] at htk
              simp only at htk
              have HON := Lib.hid (OneS.free HOK.out hk1 hlt ho t1 t3 HSK.out)
              go_wp2_with fail
              go_ret
              have b1 : Block ((wr.setCell ⟨gs, k, none⟩ (.bool true)).setCell ⟨gt, k, none⟩ (.int .i64 (o : Int))) gt ((givCells a C).setIfInBounds k (.int .i64 (o : Int))) := inferInstance
              rw [givCells_set hlt] at b1
              have b0 := HBS2.out
              have b2 : Block ((wr.setCell ⟨gs, k, none⟩ (.bool true)).setCell ⟨gt, k, none⟩ (.int .i64 (o : Int))) gs (boolCells (setB s1 k) C) := inferInstance
              exact ⟨true, setB s1 k, rfl, HK2.out.set1 _, b2, .inr ⟨rfl, _, b1, HON.out⟩⟩
            · rw [t3] at htk
              simp only at htk
              have hjR := (HOK.out.at_ k j t3).2.1
              have hneg : decide ((j : Int) < 0) = false := by simp
              have hu1 := unseen_le (C := C) HD.out.more
              have hu2 := unseen_set hlt t2
              have hu3 := HUN.out
              go_wp2_with fail
              refine (HIH.out (unseen (setB s1 k) C) (by omega) j a (setB s1 k) _ (Nat.le_refl _) hjR HOK.out (Ext.setCell HXR.out hgs _) HBT2.out HBS2.out).mono ?_
              rintro e w' ⟨bb, s2, rfl, hkp2, hBs2, hcase⟩
              have HKP2 := Lib.hid (HK2.out.trans hkp2)
              have os2 := hBs2.old
              clear hkp2 hu1 hu2 hu3
              rcases hcase with ⟨rfl, hBt2, hd2, hsc2⟩ | ⟨rfl, t, hBt2, hone⟩
              · have HD2 := Lib.hid (Dead.step HD.out hk1 hlt t3 hd2 hsc2)
                have HSC2 : Hid (∀ k', lo ≤ k' → k' < k + 1 → fit F o k' = true → s2 k' = true) := Lib.hid (fun k' h1 h2 h3 => by
                  rcases Nat.lt_or_ge k' k with h | h
                  · exact hd2.more k' (HSS.out k' (HSC.out k' h1 h h3))
                  · obtain rfl : k' = k := by omega
                    exact hd2.more k' (by simp [setB]))
                clear hd2 hsc2
                go_wp2_with fail
                go_roundw
                case rel => exact ⟨k + 1, s2, by go_num, by omega, by omega, hBt2, hBs2, HD2.out, HSC2.out, HKP2.out⟩
                case measure => simp [intOf]; omega
              · have HON := Lib.hid (OneS.step hk1 hlt ho t1 t3 HSK.out HD.out.more hone)
                have ot2 := hBt2.old
                have htk2 := givCells_get (giv := t) hlt
                clear hone
                go_wp2_with fail
                go_ret
                have b1 : Block (w'.setCell ⟨gt, k, none⟩ (.int .i64 (o : Int))) gt ((givCells t C).setIfInBounds k (.int .i64 (o : Int))) := inferInstance
                rw [givCells_set hlt] at b1
                exact ⟨true, s2, rfl, HKP2.out.set1 _, inferInstance, .inr ⟨rfl, _, b1, HON.out⟩⟩
          · rw [t2] at hsk
            go_wp2_with fail
            go_roundw
            case rel => exact ⟨k + 1, s1, by go_num, by omega, by omega, hBt, hBs, HD.out, (fun k' h1 h2 h3 => by rcases Nat.lt_or_ge k' k with h | h; exact HSC.out k' h1 h h3; obtain rfl : k' = k := (by omega); exact t2), HKP.out⟩
            case measure => simp [intOf]; omega
      · obtain rfl : k = C := by omega
        go_wp2_with fail
        go_ret
        exact ⟨false, s1, rfl, HKP.out, hBs, .inl ⟨rfl, hBt, HD.out, HSC.out⟩⟩

end Go.Proofs.Ythchddkdcibbhaa
