/-
  The contract of the reference's Counts.
-/
import Derived.Test.YthchddkdcibbhaaC2
namespace Go.Proofs.Ythchddkdcibbhaa
open Go.RowKit AssignM

attribute [local go_sem] ExtOf.cell ExtOf.frozen Block.cell Block.frozen ExtB.cell ExtB.frozen alloc_cell alloc_frozen

set_option maxHeartbeats 1600000 in
theorem rCounts_any (F : List (List Bool)) (m : List Int) (v0 v1 : Value) (w : World) (hR : F.length ≤ 1048576) (hG : GridS w v0 F) (h1 : IntS w v1 m) (hml : m.length ≤ 1048576) :
    Calls Try.prog 15 #[v0, v1] w (RetI w (countsS F m) (mostErr F m)) := by
  obtain ⟨p0, cap0, rfl, hg1, hg2, hg3⟩ := hG.form
  obtain ⟨p1, cap1, rfl, hg4, hg5, hg6⟩ := SliceOf.form h1
  have HG := Lib.hid hG
  have H1 := Lib.hid h1
  clear hG h1
  by_cases t0 : tabErr F = 0
  · by_cases t1 : m.length = F.length
    · have HE : Hid (mostErr F m = if badMost m then 9 else 0) := Lib.hid (by simp [mostErr, t0, t1])
      have T1 := Lib.hid t1
      have hneq : ((m.length : Int) != (F.length : Int)) = false := by simp; omega
      clear t1
      go_enter Try.func15, Try.ntmps15
      go_wp2_with fail
      refine (rows_any F _ _ hR HG.out).mono ?_
      rintro e w' ⟨rfl, n, rfl⟩
      rw [t0]
      have HX1 := Lib.hid n.ext
      generalize n.val = W1 at *
      clear n
      go_wp2_with fail
      go_loopw [7] (fun v wr => ∃ k : Nat, k ≤ m.length ∧ v = .int .i64 k ∧ badMost m = badMost (m.drop k) ∧ Ext w wr) (fun v _ => m.length - (intOf v).toNat)
      case atStart => exact ⟨0, by omega, rfl, rfl, HX1.out⟩
      case round =>
        clear HX1
        obtain ⟨k, hk, rfl, hb, hx⟩ := hrel
        have HX := Lib.hid hx
        clear hx
        by_cases hlt : k < m.length
        · have HB := Lib.hid (bad_step hb hlt)
          clear hb
          obtain ⟨b1, off1, rfl, o1, c1⟩ := SliceOf.elem1 (SliceOf.ext H1.out HX.out) hlt rfl
          obtain ⟨x, hx0⟩ : ∃ x : Int, x = m[k] := ⟨_, rfl⟩
          rw [← hx0] at c1 HB
          clear hx0
          rcases t2 : decide (x < 0) with _ | _
          · rcases t3 : decide (200 < x) with _ | _
            · have HN := Lib.hid (HB.out.2 (by simp at t2 t3; omega))
              clear HB
              go_wp2_with fail
              go_roundw
              case rel => exact ⟨k + 1, by omega, by go_num, HN.out, by repeat' (first | (with_reducible exact Ext.refl _) | (with_reducible exact ExtOf.ext _) | (with_reducible refine Ext.trans ?_ (ExtOf.ext _)) | (with_reducible refine Ext.alloc ?_ _) | (with_reducible refine Ext.drew ?_) | (with_reducible refine Ext.setCell ?_ ?_ _) | (with_reducible refine Ext.setRow ?_ ?_ _) | (with_reducible exact HX.out) | (with_reducible refine Ext.trans ?_ HX.out) | (with_reducible refine Ext.below ?_ (Nat.le_refl _) _) | (simp; done) | (simp; omega))⟩
              case measure => simp [intOf]; omega
            · have HT : Hid (mostErr F m = 9) := Lib.hid (by rw [HE.out, HB.out.1 (.inr (by simpa using t3))]; rfl)
              have HNO : Hid (countsS F m = []) := Lib.hid (by simp [countsS, HT.out])
              clear HB
              go_wp2_with fail
              refine bodyPost_ret (v := .tuple #[.slice none 0 0, .int .i64 9]) (by simp [results, Try.results15, go_sem]) rfl ?_
              rw [HNO.out]
              exact ⟨_, by rw [HT.out], SliceOf.nil _, ExtOf.of (by repeat' (first | (with_reducible exact Ext.refl _) | (with_reducible exact ExtOf.ext _) | (with_reducible refine Ext.trans ?_ (ExtOf.ext _)) | (with_reducible refine Ext.alloc ?_ _) | (with_reducible refine Ext.drew ?_) | (with_reducible refine Ext.setCell ?_ ?_ _) | (with_reducible refine Ext.setRow ?_ ?_ _) | (with_reducible exact HX.out) | (with_reducible refine Ext.trans ?_ HX.out) | (with_reducible refine Ext.below ?_ (Nat.le_refl _) _) | (simp; done) | (simp; omega)))⟩
          · have HT : Hid (mostErr F m = 9) := Lib.hid (by rw [HE.out, HB.out.1 (.inl (by simpa using t2))]; rfl)
            have HNO : Hid (countsS F m = []) := Lib.hid (by simp [countsS, HT.out])
            clear HB
            go_wp2_with fail
            refine bodyPost_ret (v := .tuple #[.slice none 0 0, .int .i64 9]) (by simp [results, Try.results15, go_sem]) rfl ?_
            rw [HNO.out]
            exact ⟨_, by rw [HT.out], SliceOf.nil _, ExtOf.of (by repeat' (first | (with_reducible exact Ext.refl _) | (with_reducible exact ExtOf.ext _) | (with_reducible refine Ext.trans ?_ (ExtOf.ext _)) | (with_reducible refine Ext.alloc ?_ _) | (with_reducible refine Ext.drew ?_) | (with_reducible refine Ext.setCell ?_ ?_ _) | (with_reducible refine Ext.setRow ?_ ?_ _) | (with_reducible exact HX.out) | (with_reducible refine Ext.trans ?_ HX.out) | (with_reducible refine Ext.below ?_ (Nat.le_refl _) _) | (simp; done) | (simp; omega)))⟩
        · have hb0 : badMost m = false := by rw [hb, List.drop_of_length_le (by omega)]; rfl
          have hT : mostErr F m = 0 := by rw [HE.out, hb0]; rfl
          obtain ⟨e1, e2, e3⟩ := mostErr_ok hT
          obtain ⟨hrect, _, hc512⟩ := Rect.of e1
          have HRC := Lib.hid hrect
          have HT := Lib.hid hT
          have HS : Hid (countsS F m = (List.range F.length).map fun i => (fillAll F F.length (cols F) (nth (toNats m)) i : Int)) := Lib.hid (by simp [countsS, hT])
          have HN := Lib.hid (IntS.nats (SliceOf.ext H1.out HX.out) (fun x hx => (e3 x hx).1))
          have HML : Hid ((toNats m).length = F.length) := Lib.hid (by simp [toNats, e2])
          have HMB : Hid (∀ x ∈ toNats m, x ≤ 1099511627776) := Lib.hid (fun x hx => by obtain ⟨y, hy, rfl⟩ := List.mem_map.1 hx; have := e3 y hy; omega)
          clear hrect e2 e3 e1 hT hb hb0
          go_wp2_with fail
          refine (rcounts_any F (cols F) (toNats m) _ _ _ hR (by omega) HRC.out (HG.out.ext HX.out) HN.out HML.out HMB.out).mono ?_
          rintro e w' ⟨gc, rfl, hB, hgc, hx⟩
          have HB := Lib.hid hB
          have HX2 := Lib.hid (HX.out.trans hx)
          clear hB hx
          go_wp2_with fail
          refine bodyPost_ret (v := .tuple #[.slice (some ⟨gc, 0, none⟩) F.length F.length, .int .i64 0]) (by simp [results, Try.results15, go_sem]) rfl ?_
          rw [HS.out, HT.out]
          have := HB.out
          rw [natCells_list] at this
          exact ⟨_, rfl, IntS.ofBlock this (by simp) (by unfold maxLen; omega), ExtOf.of HX2.out⟩
    · have HT : Hid (mostErr F m = 19) := Lib.hid (by simp [mostErr, t0, t1])
      have HNO : Hid (countsS F m = []) := Lib.hid (by simp [countsS, HT.out])
      have hne : ((m.length : Int) != (F.length : Int)) = true := by simp; omega
      go_enter Try.func15, Try.ntmps15
      go_wp2_with fail
      refine (rows_any F _ _ hR HG.out).mono ?_
      rintro e w' ⟨rfl, n, rfl⟩
      rw [t0]
      go_wp2_with fail
      refine bodyPost_ret (v := .tuple #[.slice none 0 0, .int .i64 19]) (by simp [results, Try.results15, go_sem]) rfl ?_
      rw [HNO.out]
      exact ⟨_, by rw [HT.out], SliceOf.nil _, ExtOf.of (by repeat' (first | (with_reducible exact Ext.refl _) | (with_reducible exact ExtOf.ext _) | (with_reducible refine Ext.trans ?_ (ExtOf.ext _)) | (with_reducible refine Ext.alloc ?_ _) | (with_reducible refine Ext.drew ?_) | (with_reducible refine Ext.setCell ?_ ?_ _) | (with_reducible refine Ext.setRow ?_ ?_ _) | (with_reducible exact HX.out) | (with_reducible refine Ext.trans ?_ HX.out) | (with_reducible refine Ext.below ?_ (Nat.le_refl _) _) | (simp; done) | (simp; omega)))⟩
  · have HT : Hid (mostErr F m = tabErr F) := Lib.hid (by simp [mostErr, t0])
    have HNO : Hid (countsS F m = []) := Lib.hid (by simp [countsS, HT.out, t0])
    have hne : (tabErr F != 0) = true := by simpa using t0
    go_enter Try.func15, Try.ntmps15
    go_wp2_with fail
    refine (rows_any F _ _ hR HG.out).mono ?_
    rintro e w' ⟨rfl, n, rfl⟩
    generalize tabErr F = te at *
    go_wp2_with fail
    refine bodyPost_ret (v := .tuple #[.slice none 0 0, .int .i64 te]) (by simp [results, Try.results15, go_sem]) rfl ?_
    rw [HNO.out]
    exact ⟨_, by rw [HT.out], SliceOf.nil _, ExtOf.of (by repeat' (first | (with_reducible exact Ext.refl _) | (with_reducible exact ExtOf.ext _) | (with_reducible refine Ext.trans ?_ (ExtOf.ext _)) | (with_reducible refine Ext.alloc ?_ _) | (with_reducible refine Ext.drew ?_) | (with_reducible refine Ext.setCell ?_ ?_ _) | (with_reducible refine Ext.setRow ?_ ?_ _) | (with_reducible exact HX.out) | (with_reducible refine Ext.trans ?_ HX.out) | (with_reducible refine Ext.below ?_ (Nat.le_refl _) _) | (simp; done) | (simp; omega)))⟩

end Go.Proofs.Ythchddkdcibbhaa
