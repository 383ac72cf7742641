/-
  The contracts of checkTable, check and Counts.
-/
import Derived.Test.YthchddkdcibbhaaB5
namespace Go.Proofs.Ythchddkdcibbhaa
open Go.RowKit AssignM

attribute [local go_sem] ExtOf.cell ExtOf.frozen Block.cell Block.frozen ExtB.cell ExtB.frozen alloc_cell alloc_frozen

def big (F : List (List Bool)) : Bool := F.any fun r => decide (512 < r.length)
def odd (n : Nat) (F : List (List Bool)) : Bool := F.any fun r => decide (r.length ≠ n)
/-- the error of a table -/
def tabErr (F : List (List Bool)) : Int := if 32 < F.length then 4 else if big F then 4 else if odd (cols F) F then 19 else 0
def badMost (m : List Int) : Bool := m.any fun n => decide (n < 0 ∨ 200 < n)
/-- the error of Counts -/
def mostErr (F : List (List Bool)) (m : List Int) : Int := if tabErr F ≠ 0 then tabErr F else if m.length ≠ F.length then 19 else if badMost m then 9 else 0
theorem big_step {F : List (List Bool)} {k : Nat} (h : big F = big (F.drop k)) (hk : k < F.length) : (512 < F[k].length → big F = true) ∧ (¬ 512 < F[k].length → big F = big (F.drop (k + 1))) := by
  rw [List.drop_eq_getElem_cons hk] at h
  unfold big at *
  rw [List.any_cons] at h
  exact ⟨fun c => by rw [h]; simp [c], fun c => by rw [h]; simp [c]⟩
theorem odd_step {F : List (List Bool)} {n k : Nat} (h : odd n F = odd n (F.drop k)) (hk : k < F.length) : (F[k].length ≠ n → odd n F = true) ∧ (F[k].length = n → odd n F = odd n (F.drop (k + 1))) := by
  rw [List.drop_eq_getElem_cons hk] at h
  unfold odd at *
  rw [List.any_cons] at h
  exact ⟨fun c => by rw [h]; simp [c], fun c => by rw [h]; simp [c]⟩
theorem bad_step {m : List Int} {k : Nat} (h : badMost m = badMost (m.drop k)) (hk : k < m.length) : ((m[k] < 0 ∨ 200 < m[k]) → badMost m = true) ∧ (¬ (m[k] < 0 ∨ 200 < m[k]) → badMost m = badMost (m.drop (k + 1))) := by
  rw [List.drop_eq_getElem_cons hk] at h
  unfold badMost at *
  rw [List.any_cons] at h
  exact ⟨fun c => by rw [h]; simp [c], fun c => by rw [h]; simp [c]⟩
theorem cols_get {F : List (List Bool)} (h : 0 < F.length) : cols F = F[0].length := by simp [cols, h]

set_option maxHeartbeats 1600000 in
theorem checkTable_any (F : List (List Bool)) (v0 : Value) (w : World) (hR : F.length ≤ 1048576) (hG : GridS w v0 F) :
    Calls Try.prog 29 #[v0] w fun e w' => e = .returned (.int .i64 (tabErr F)) ∧ ∃ n : ExtOf w, w' = n.val := by
  obtain ⟨p0, cap0, rfl, hg1, hg2, hg3⟩ := hG.form
  have HG := Lib.hid hG
  clear hG
  by_cases t0 : 32 < F.length
  · have e : tabErr F = 4 := by simp [tabErr, t0]
    rw [e]
    go_enter Try.func29, Try.ntmps29
    go_wp2
    go_ret
    refine ⟨rfl, ?_⟩
    exact ExtOf.of (by repeat' (first | (with_reducible exact Ext.refl _) | (with_reducible exact ExtOf.ext _) | (with_reducible refine Ext.trans ?_ (ExtOf.ext _)) | (with_reducible refine Ext.alloc ?_ _) | (with_reducible refine Ext.drew ?_) | (with_reducible refine Ext.setCell ?_ ?_ _) | (with_reducible refine Ext.setRow ?_ ?_ _) | (with_reducible exact HX.out) | (with_reducible refine Ext.trans ?_ HX.out) | (with_reducible refine Ext.below ?_ (Nat.le_refl _) _) | (simp; done) | (simp; omega)))
  · have HE : Hid (tabErr F = if big F then 4 else if odd (cols F) F then 19 else 0) := Lib.hid (by simp [tabErr, t0])
    go_enter Try.func29, Try.ntmps29
    go_wp2
    go_loopw [12] (fun v wr => ∃ k : Nat, k ≤ F.length ∧ v = .int .i64 k ∧ big F = big (F.drop k) ∧ Ext w wr) (fun v _ => F.length - (intOf v).toNat)
    case atStart => exact ⟨0, by omega, rfl, rfl, Ext.refl _⟩
    case round =>
      obtain ⟨k, hk, rfl, hb, hx⟩ := hrel
      have HX := Lib.hid hx
      clear hx
      by_cases hlt : k < F.length
      · have HB := Lib.hid (big_step hb hlt)
        clear hb
        obtain ⟨b0, off0, rp, rc, rfl, ho0, c0, hrow⟩ := (HG.out.ext HX.out).row hlt
        obtain ⟨l0, hl0⟩ : ∃ n : Nat, n = F[k].length := ⟨_, rfl⟩
        rw [← hl0] at c0 HB
        clear hrow hl0
        by_cases t1 : 512 < l0
        · have HT : Hid (tabErr F = 4) := Lib.hid (by rw [HE.out, HB.out.1 t1]; rfl)
          go_wp2
          go_ret
          refine ⟨ret_int HT.out.symm, ?_⟩
          exact ExtOf.of (by repeat' (first | (with_reducible exact Ext.refl _) | (with_reducible exact ExtOf.ext _) | (with_reducible refine Ext.trans ?_ (ExtOf.ext _)) | (with_reducible refine Ext.alloc ?_ _) | (with_reducible refine Ext.drew ?_) | (with_reducible refine Ext.setCell ?_ ?_ _) | (with_reducible refine Ext.setRow ?_ ?_ _) | (with_reducible exact HX.out) | (with_reducible refine Ext.trans ?_ HX.out) | (with_reducible refine Ext.below ?_ (Nat.le_refl _) _) | (simp; done) | (simp; omega)))
        · go_wp2
          go_roundw
          case rel => exact ⟨k + 1, by omega, by go_num, HB.out.2 t1, by repeat' (first | (with_reducible exact Ext.refl _) | (with_reducible exact ExtOf.ext _) | (with_reducible refine Ext.trans ?_ (ExtOf.ext _)) | (with_reducible refine Ext.alloc ?_ _) | (with_reducible refine Ext.drew ?_) | (with_reducible refine Ext.setCell ?_ ?_ _) | (with_reducible refine Ext.setRow ?_ ?_ _) | (with_reducible exact HX.out) | (with_reducible refine Ext.trans ?_ HX.out) | (with_reducible refine Ext.below ?_ (Nat.le_refl _) _) | (simp; done) | (simp; omega))⟩
          case measure => simp [intOf]; omega
      · have hb0 : big F = false := by rw [hb, List.drop_of_length_le (by omega)]; rfl
        have HE2 : Hid (tabErr F = if odd (cols F) F then 19 else 0) := Lib.hid (by rw [HE.out, hb0]; rfl)
        clear hb hb0 HE
        go_wp2
        go_loopw [22] (fun v wr => ∃ k : Nat, k ≤ F.length ∧ v = .int .i64 k ∧ odd (cols F) F = odd (cols F) (F.drop k) ∧ Ext w wr) (fun v _ => F.length - (intOf v).toNat)
        case atStart => exact ⟨0, by omega, rfl, rfl, HX.out⟩
        case round =>
          clear HX
          obtain ⟨k2, hk2, rfl, hb, hx⟩ := hrel
          have HX := Lib.hid hx
          clear hx
          by_cases hlt2 : k2 < F.length
          · have HB := Lib.hid (odd_step hb hlt2)
            clear hb
            have h0 : 0 < F.length := by omega
            have hc0 := cols_get h0
            obtain ⟨b0, off0, rp, rc, rfl, ho0, c0, hrow⟩ := (HG.out.ext HX.out).row hlt2
            obtain ⟨b1, off1, rp1, rc1, hp1, ho1, c1, hrow1⟩ := (HG.out.ext HX.out).row h0
            obtain ⟨rfl, rfl⟩ : b0 = b1 ∧ off0 = off1 := by simpa using hp1
            obtain ⟨l0, hl0⟩ : ∃ n : Nat, n = F[k2].length := ⟨_, rfl⟩
            rw [← hl0] at c0 HB
            rw [← hc0, Nat.add_zero] at c1
            clear hrow hl0 hrow1 hc0 hp1
            generalize cols F = n0 at *
            by_cases t1 : l0 = n0
            · subst t1
              go_wp2
              go_roundw
              case rel => exact ⟨k2 + 1, by omega, by go_num, HB.out.2 rfl, by repeat' (first | (with_reducible exact Ext.refl _) | (with_reducible exact ExtOf.ext _) | (with_reducible refine Ext.trans ?_ (ExtOf.ext _)) | (with_reducible refine Ext.alloc ?_ _) | (with_reducible refine Ext.drew ?_) | (with_reducible refine Ext.setCell ?_ ?_ _) | (with_reducible refine Ext.setRow ?_ ?_ _) | (with_reducible exact HX.out) | (with_reducible refine Ext.trans ?_ HX.out) | (with_reducible refine Ext.below ?_ (Nat.le_refl _) _) | (simp; done) | (simp; omega))⟩
              case measure => simp [intOf]; omega
            · have HT : Hid (tabErr F = 19) := Lib.hid (by rw [HE2.out, HB.out.1 t1]; rfl)
              have hne : ((l0 : Int) != (n0 : Int)) = true := by simp; omega
              go_wp2
              go_ret
              refine ⟨ret_int HT.out.symm, ?_⟩
              exact ExtOf.of (by repeat' (first | (with_reducible exact Ext.refl _) | (with_reducible exact ExtOf.ext _) | (with_reducible refine Ext.trans ?_ (ExtOf.ext _)) | (with_reducible refine Ext.alloc ?_ _) | (with_reducible refine Ext.drew ?_) | (with_reducible refine Ext.setCell ?_ ?_ _) | (with_reducible refine Ext.setRow ?_ ?_ _) | (with_reducible exact HX.out) | (with_reducible refine Ext.trans ?_ HX.out) | (with_reducible refine Ext.below ?_ (Nat.le_refl _) _) | (simp; done) | (simp; omega)))
          · have hb0 : odd (cols F) F = false := by rw [hb, List.drop_of_length_le (by omega)]; rfl
            have HT : Hid (tabErr F = 0) := Lib.hid (by rw [HE2.out, hb0]; rfl)
            clear hb hb0
            go_wp2
            go_ret
            refine ⟨ret_int HT.out.symm, ?_⟩
            exact ExtOf.of (by repeat' (first | (with_reducible exact Ext.refl _) | (with_reducible exact ExtOf.ext _) | (with_reducible refine Ext.trans ?_ (ExtOf.ext _)) | (with_reducible refine Ext.alloc ?_ _) | (with_reducible refine Ext.drew ?_) | (with_reducible refine Ext.setCell ?_ ?_ _) | (with_reducible refine Ext.setRow ?_ ?_ _) | (with_reducible exact HX.out) | (with_reducible refine Ext.trans ?_ HX.out) | (with_reducible refine Ext.below ?_ (Nat.le_refl _) _) | (simp; done) | (simp; omega)))

set_option maxHeartbeats 1600000 in
theorem rows_any (F : List (List Bool)) (v0 : Value) (w : World) (hR : F.length ≤ 1048576) (hG : GridS w v0 F) :
    Calls Try.prog 27 #[v0] w fun e w' => e = .returned (.int .i64 (tabErr F)) ∧ ∃ n : ExtOf w, w' = n.val := by
  obtain ⟨p0, cap0, rfl, hg1, hg2, hg3⟩ := hG.form
  have HG := Lib.hid hG
  clear hG
  by_cases t0 : 32 < F.length
  · have e : tabErr F = 4 := by simp [tabErr, t0]
    rw [e]
    go_enter Try.func27, Try.ntmps27
    go_wp2
    go_ret
    refine ⟨rfl, ?_⟩
    exact ExtOf.of (by repeat' (first | (with_reducible exact Ext.refl _) | (with_reducible exact ExtOf.ext _) | (with_reducible refine Ext.trans ?_ (ExtOf.ext _)) | (with_reducible refine Ext.alloc ?_ _) | (with_reducible refine Ext.drew ?_) | (with_reducible refine Ext.setCell ?_ ?_ _) | (with_reducible refine Ext.setRow ?_ ?_ _) | (with_reducible exact HX.out) | (with_reducible refine Ext.trans ?_ HX.out) | (with_reducible refine Ext.below ?_ (Nat.le_refl _) _) | (simp; done) | (simp; omega)))
  · have HE : Hid (tabErr F = if big F then 4 else if odd (cols F) F then 19 else 0) := Lib.hid (by simp [tabErr, t0])
    go_enter Try.func27, Try.ntmps27
    go_wp2
    go_loopw [3] (fun v wr => ∃ k : Nat, k ≤ F.length ∧ v = .int .i64 k ∧ big F = big (F.drop k) ∧ Ext w wr) (fun v _ => F.length - (intOf v).toNat)
    case atStart => exact ⟨0, by omega, rfl, rfl, Ext.refl _⟩
    case round =>
      obtain ⟨k, hk, rfl, hb, hx⟩ := hrel
      have HX := Lib.hid hx
      clear hx
      by_cases hlt : k < F.length
      · have HB := Lib.hid (big_step hb hlt)
        clear hb
        obtain ⟨b0, off0, rp, rc, rfl, ho0, c0, hrow⟩ := (HG.out.ext HX.out).row hlt
        obtain ⟨l0, hl0⟩ : ∃ n : Nat, n = F[k].length := ⟨_, rfl⟩
        rw [← hl0] at c0 HB
        clear hrow hl0
        by_cases t1 : 512 < l0
        · have HT : Hid (tabErr F = 4) := Lib.hid (by rw [HE.out, HB.out.1 t1]; rfl)
          go_wp2
          go_ret
          refine ⟨ret_int HT.out.symm, ?_⟩
          exact ExtOf.of (by repeat' (first | (with_reducible exact Ext.refl _) | (with_reducible exact ExtOf.ext _) | (with_reducible refine Ext.trans ?_ (ExtOf.ext _)) | (with_reducible refine Ext.alloc ?_ _) | (with_reducible refine Ext.drew ?_) | (with_reducible refine Ext.setCell ?_ ?_ _) | (with_reducible refine Ext.setRow ?_ ?_ _) | (with_reducible exact HX.out) | (with_reducible refine Ext.trans ?_ HX.out) | (with_reducible refine Ext.below ?_ (Nat.le_refl _) _) | (simp; done) | (simp; omega)))
        · go_wp2
          go_roundw
          case rel => exact ⟨k + 1, by omega, by go_num, HB.out.2 t1, by repeat' (first | (with_reducible exact Ext.refl _) | (with_reducible exact ExtOf.ext _) | (with_reducible refine Ext.trans ?_ (ExtOf.ext _)) | (with_reducible refine Ext.alloc ?_ _) | (with_reducible refine Ext.drew ?_) | (with_reducible refine Ext.setCell ?_ ?_ _) | (with_reducible refine Ext.setRow ?_ ?_ _) | (with_reducible exact HX.out) | (with_reducible refine Ext.trans ?_ HX.out) | (with_reducible refine Ext.below ?_ (Nat.le_refl _) _) | (simp; done) | (simp; omega))⟩
          case measure => simp [intOf]; omega
      · have hb0 : big F = false := by rw [hb, List.drop_of_length_le (by omega)]; rfl
        have HE2 : Hid (tabErr F = if odd (cols F) F then 19 else 0) := Lib.hid (by rw [HE.out, hb0]; rfl)
        clear hb hb0 HE
        go_wp2
        go_loopw [4] (fun v wr => ∃ k : Nat, k ≤ F.length ∧ v = .int .i64 k ∧ odd (cols F) F = odd (cols F) (F.drop k) ∧ Ext w wr) (fun v _ => F.length - (intOf v).toNat)
        case atStart => exact ⟨0, by omega, rfl, rfl, HX.out⟩
        case round =>
          clear HX
          obtain ⟨k2, hk2, rfl, hb, hx⟩ := hrel
          have HX := Lib.hid hx
          clear hx
          by_cases hlt2 : k2 < F.length
          · have HB := Lib.hid (odd_step hb hlt2)
            clear hb
            have h0 : 0 < F.length := by omega
            have hc0 := cols_get h0
            obtain ⟨b0, off0, rp, rc, rfl, ho0, c0, hrow⟩ := (HG.out.ext HX.out).row hlt2
            obtain ⟨b1, off1, rp1, rc1, hp1, ho1, c1, hrow1⟩ := (HG.out.ext HX.out).row h0
            obtain ⟨rfl, rfl⟩ : b0 = b1 ∧ off0 = off1 := by simpa using hp1
            obtain ⟨l0, hl0⟩ : ∃ n : Nat, n = F[k2].length := ⟨_, rfl⟩
            rw [← hl0] at c0 HB
            rw [← hc0, Nat.add_zero] at c1
            clear hrow hl0 hrow1 hc0 hp1
            generalize cols F = n0 at *
            by_cases t1 : l0 = n0
            · subst t1
              go_wp2
              refine wp_region_ext (by kernel_rfl) (by kernel_rfl) ?_
              repeat (first | go_big_quiet_skip | go_big_quiet_step (fail))
              refine wpQuiet_nil ?_
              intro _ hw'
              obtain ⟨nq, hw''⟩ := hw'
              subst hw''
              go_wp2
              go_roundw
              case rel => exact ⟨k2 + 1, by omega, by go_num, (by first | exact HB.out.2 rfl | exact HB.out.2 trivial), by repeat' (first | (with_reducible exact Ext.refl _) | (with_reducible exact ExtOf.ext _) | (with_reducible refine Ext.trans ?_ (ExtOf.ext _)) | (with_reducible refine Ext.alloc ?_ _) | (with_reducible refine Ext.drew ?_) | (with_reducible refine Ext.setCell ?_ ?_ _) | (with_reducible refine Ext.setRow ?_ ?_ _) | (with_reducible exact HX.out) | (with_reducible refine Ext.trans ?_ HX.out) | (with_reducible refine Ext.below ?_ (Nat.le_refl _) _) | (simp; done) | (simp; omega))⟩
              case measure => simp [intOf]; omega
            · have HT : Hid (tabErr F = 19) := Lib.hid (by rw [HE2.out, HB.out.1 t1]; rfl)
              have hne : ((l0 : Int) != (n0 : Int)) = true := by simp; omega
              go_wp2
              refine wp_region_ext (by kernel_rfl) (by kernel_rfl) ?_
              repeat (first | go_big_quiet_skip | go_big_quiet_step (fail))
              refine wpQuiet_nil ?_
              intro _ hw'
              obtain ⟨nq, hw''⟩ := hw'
              subst hw''
              go_wp2
              go_ret
              refine ⟨ret_int HT.out.symm, ?_⟩
              exact ExtOf.of (by repeat' (first | (with_reducible exact Ext.refl _) | (with_reducible exact ExtOf.ext _) | (with_reducible refine Ext.trans ?_ (ExtOf.ext _)) | (with_reducible refine Ext.alloc ?_ _) | (with_reducible refine Ext.drew ?_) | (with_reducible refine Ext.setCell ?_ ?_ _) | (with_reducible refine Ext.setRow ?_ ?_ _) | (with_reducible exact HX.out) | (with_reducible refine Ext.trans ?_ HX.out) | (with_reducible refine Ext.below ?_ (Nat.le_refl _) _) | (simp; done) | (simp; omega)))
          · have hb0 : odd (cols F) F = false := by rw [hb, List.drop_of_length_le (by omega)]; rfl
            have HT : Hid (tabErr F = 0) := Lib.hid (by rw [HE2.out, hb0]; rfl)
            clear hb hb0
            go_wp2
            go_ret
            refine ⟨ret_int HT.out.symm, ?_⟩
            exact ExtOf.of (by repeat' (first | (with_reducible exact Ext.refl _) | (with_reducible exact ExtOf.ext _) | (with_reducible refine Ext.trans ?_ (ExtOf.ext _)) | (with_reducible refine Ext.alloc ?_ _) | (with_reducible refine Ext.drew ?_) | (with_reducible refine Ext.setCell ?_ ?_ _) | (with_reducible refine Ext.setRow ?_ ?_ _) | (with_reducible exact HX.out) | (with_reducible refine Ext.trans ?_ HX.out) | (with_reducible refine Ext.below ?_ (Nat.le_refl _) _) | (simp; done) | (simp; omega)))

set_option maxHeartbeats 1600000 in
theorem check_any (F : List (List Bool)) (m : List Int) (v0 v1 : Value) (w : World) (hR : F.length ≤ 1048576) (hG : GridS w v0 F) (h1 : IntS w v1 m) (hml : m.length ≤ 1048576) :
    Calls Try.prog 25 #[v0, v1] w fun e w' => e = .returned (.int .i64 (mostErr F m)) ∧ ∃ n : ExtOf w, w' = n.val := by
  obtain ⟨p0, cap0, rfl, hg1, hg2, hg3⟩ := hG.form
  obtain ⟨p1, cap1, rfl, hg4, hg5, hg6⟩ := SliceOf.form h1
  have HG := Lib.hid hG
  have H1 := Lib.hid h1
  clear hG h1
  by_cases t0 : tabErr F = 0
  · by_cases t1 : m.length = F.length
    · have HE : Hid (mostErr F m = if badMost m then 9 else 0) := Lib.hid (by simp [mostErr, t0, t1])
      go_enter Try.func25, Try.ntmps25
      go_wp2_with fail
      refine (checkTable_any F _ _ hR HG.out).mono ?_
      rintro e w' ⟨rfl, n, rfl⟩
      rw [t0]
      have hx1 : Ext w n.val := n.ext
      generalize n.val = W1 at *
      clear n
      have HX1 := Lib.hid hx1
      clear hx1
      go_wp2
      go_loopw [20] (fun v wr => ∃ k : Nat, k ≤ m.length ∧ v = .int .i64 k ∧ badMost m = badMost (m.drop k) ∧ Ext w wr) (fun v _ => m.length - (intOf v).toNat)
      case atStart => exact ⟨0, by omega, rfl, rfl, HX1.out⟩
      case round =>
        clear HX1
        obtain ⟨k, hk, rfl, hb, hx⟩ := hrel
        have HX := Lib.hid hx
        clear hx
        by_cases hlt : k < m.length
        · have HB := Lib.hid (bad_step hb hlt)
          clear hb
          obtain ⟨b1, off1, rfl, o1, c1⟩ := SliceOf.elem1 (SliceOf.ext H1.out HX.out) hlt rfl
          obtain ⟨x, hx0⟩ : ∃ x : Int, x = m[k] := ⟨_, rfl⟩
          rw [← hx0] at c1 HB
          clear hx0
          rcases t2 : decide (x < 0) with _ | _
          · rcases t3 : decide (200 < x) with _ | _
            · go_wp2
              go_roundw
              case rel => exact ⟨k + 1, by omega, by go_num, HB.out.2 (by simp at t2 t3; omega), by repeat' (first | (with_reducible exact Ext.refl _) | (with_reducible exact ExtOf.ext _) | (with_reducible refine Ext.trans ?_ (ExtOf.ext _)) | (with_reducible refine Ext.alloc ?_ _) | (with_reducible refine Ext.drew ?_) | (with_reducible refine Ext.setCell ?_ ?_ _) | (with_reducible refine Ext.setRow ?_ ?_ _) | (with_reducible exact HX.out) | (with_reducible refine Ext.trans ?_ HX.out) | (with_reducible refine Ext.below ?_ (Nat.le_refl _) _) | (simp; done) | (simp; omega))⟩
              case measure => simp [intOf]; omega
            · have HT : Hid (mostErr F m = 9) := Lib.hid (by rw [HE.out, HB.out.1 (.inr (by simpa using t3))]; rfl)
              go_wp2
              go_ret
              refine ⟨ret_int HT.out.symm, ?_⟩
              exact ExtOf.of (by repeat' (first | (with_reducible exact Ext.refl _) | (with_reducible exact ExtOf.ext _) | (with_reducible refine Ext.trans ?_ (ExtOf.ext _)) | (with_reducible refine Ext.alloc ?_ _) | (with_reducible refine Ext.drew ?_) | (with_reducible refine Ext.setCell ?_ ?_ _) | (with_reducible refine Ext.setRow ?_ ?_ _) | (with_reducible exact HX.out) | (with_reducible refine Ext.trans ?_ HX.out) | (with_reducible refine Ext.below ?_ (Nat.le_refl _) _) | (simp; done) | (simp; omega)))
          · have HT : Hid (mostErr F m = 9) := Lib.hid (by rw [HE.out, HB.out.1 (.inl (by simpa using t2))]; rfl)
            go_wp2
            go_ret
            refine ⟨ret_int HT.out.symm, ?_⟩
            exact ExtOf.of (by repeat' (first | (with_reducible exact Ext.refl _) | (with_reducible exact ExtOf.ext _) | (with_reducible refine Ext.trans ?_ (ExtOf.ext _)) | (with_reducible refine Ext.alloc ?_ _) | (with_reducible refine Ext.drew ?_) | (with_reducible refine Ext.setCell ?_ ?_ _) | (with_reducible refine Ext.setRow ?_ ?_ _) | (with_reducible exact HX.out) | (with_reducible refine Ext.trans ?_ HX.out) | (with_reducible refine Ext.below ?_ (Nat.le_refl _) _) | (simp; done) | (simp; omega)))
        · have hb0 : badMost m = false := by rw [hb, List.drop_of_length_le (by omega)]; rfl
          have HT : Hid (mostErr F m = 0) := Lib.hid (by rw [HE.out, hb0]; rfl)
          clear hb hb0
          go_wp2
          go_ret
          refine ⟨ret_int HT.out.symm, ?_⟩
          exact ExtOf.of (by repeat' (first | (with_reducible exact Ext.refl _) | (with_reducible exact ExtOf.ext _) | (with_reducible refine Ext.trans ?_ (ExtOf.ext _)) | (with_reducible refine Ext.alloc ?_ _) | (with_reducible refine Ext.drew ?_) | (with_reducible refine Ext.setCell ?_ ?_ _) | (with_reducible refine Ext.setRow ?_ ?_ _) | (with_reducible exact HX.out) | (with_reducible refine Ext.trans ?_ HX.out) | (with_reducible refine Ext.below ?_ (Nat.le_refl _) _) | (simp; done) | (simp; omega)))
    · have HT : Hid (mostErr F m = 19) := Lib.hid (by simp [mostErr, t0, t1])
      have hne : ((m.length : Int) != (F.length : Int)) = true := by simp; omega
      go_enter Try.func25, Try.ntmps25
      go_wp2_with fail
      refine (checkTable_any F _ _ hR HG.out).mono ?_
      rintro e w' ⟨rfl, n, rfl⟩
      rw [t0]
      go_wp2
      go_ret
      refine ⟨ret_int HT.out.symm, ?_⟩
      exact ExtOf.of (by repeat' (first | (with_reducible exact Ext.refl _) | (with_reducible exact ExtOf.ext _) | (with_reducible refine Ext.trans ?_ (ExtOf.ext _)) | (with_reducible refine Ext.alloc ?_ _) | (with_reducible refine Ext.drew ?_) | (with_reducible refine Ext.setCell ?_ ?_ _) | (with_reducible refine Ext.setRow ?_ ?_ _) | (with_reducible exact HX.out) | (with_reducible refine Ext.trans ?_ HX.out) | (with_reducible refine Ext.below ?_ (Nat.le_refl _) _) | (simp; done) | (simp; omega)))
  · have HT : Hid (mostErr F m = tabErr F) := Lib.hid (by simp [mostErr, t0])
    have hne : (tabErr F != 0) = true := by simpa using t0
    go_enter Try.func25, Try.ntmps25
    go_wp2_with fail
    refine (checkTable_any F _ _ hR HG.out).mono ?_
    rintro e w' ⟨rfl, n, rfl⟩
    generalize tabErr F = te at *
    go_wp2
    go_ret
    refine ⟨ret_int HT.out.symm, ?_⟩
    exact ExtOf.of (by repeat' (first | (with_reducible exact Ext.refl _) | (with_reducible exact ExtOf.ext _) | (with_reducible refine Ext.trans ?_ (ExtOf.ext _)) | (with_reducible refine Ext.alloc ?_ _) | (with_reducible refine Ext.drew ?_) | (with_reducible refine Ext.setCell ?_ ?_ _) | (with_reducible refine Ext.setRow ?_ ?_ _) | (with_reducible exact HX.out) | (with_reducible refine Ext.trans ?_ HX.out) | (with_reducible refine Ext.below ?_ (Nat.le_refl _) _) | (simp; done) | (simp; omega)))

theorem Rect.of {F : List (List Bool)} (h : tabErr F = 0) : Rect F F.length (cols F) ∧ F.length ≤ 32 ∧ cols F ≤ 512 := by
  unfold tabErr at h
  split at h
  · cases h
  · split at h
    · cases h
    · rename_i h1 h2
      split at h
      · cases h
      · rename_i h3
        have hw : ∀ l ∈ F, l.length = cols F := fun l hl => by
          have := fun hh => h3 (List.any_eq_true.2 ⟨l, hl, hh⟩)
          simpa using this
        refine ⟨⟨rfl, hw, rfl⟩, by omega, ?_⟩
        rcases hF : F with _ | ⟨r, F'⟩
        · simp [cols]
        · have := fun hh => h2 (List.any_eq_true.2 ⟨r, by rw [hF]; simp, hh⟩)
          have h5 : cols (r :: F') = r.length := rfl
          rw [h5]
          simp at this
          omega
theorem mostErr_ok {F : List (List Bool)} {m : List Int} (h : mostErr F m = 0) : tabErr F = 0 ∧ m.length = F.length ∧ ∀ x ∈ m, 0 ≤ x ∧ x ≤ 200 := by
  unfold mostErr at h
  split at h
  · rename_i h1; exact absurd h h1
  · split at h
    · cases h
    · split at h
      · cases h
      · rename_i h1 h2 h3
        refine ⟨by simpa using h1, by simpa using h2, fun x hx => ?_⟩
        have := fun hh => h3 (List.any_eq_true.2 ⟨x, hx, hh⟩)
        simp at this
        omega
def toNats (m : List Int) : List Nat := m.map Int.toNat
theorem IntS.nats {w : World} {v : Value} {m : List Int} (h : IntS w v m) (hm : ∀ x ∈ m, 0 ≤ x) : NatS w v (toNats m) := by
  obtain ⟨p, cap, e, h1, h2, h3, h4⟩ := h
  refine ⟨p, cap, by simp [toNats, e], by simpa [toNats] using h1, h2, h3, fun i x hi => ?_⟩
  unfold toNats at hi
  rw [List.getElem?_map] at hi
  obtain ⟨y, hy, rfl⟩ := Option.map_eq_some_iff.1 hi
  obtain ⟨b, off, hp, hc⟩ := h4 i y hy
  refine ⟨b, off, hp, fun j u hj => hc j u ?_⟩
  have := hm y (List.mem_of_getElem? hy)
  have e2 : ((y.toNat : Nat) : Int) = y := by omega
  unfold encN at hj
  rw [e2] at hj
  exact hj
/-- an array of numbers, as a slice -/
theorem IntS.ofBlock {w : World} {g n : Nat} {l : List Int} (h : Block w g ((l.map (Value.int .i64)).toArray)) (hn : l.length = n) (hm : n ≤ maxLen) : IntS w (.slice (some ⟨g, 0, none⟩) n n) l := by
  refine ⟨some ⟨g, 0, none⟩, n, by rw [hn], by omega, hm, (fun h => by cases h), fun i x hi => ⟨g, 0, rfl, fun j u hj => ?_⟩⟩
  have hj0 : j = 0 := by have := (List.getElem?_eq_some_iff.1 hj).1; simp [encI] at this; omega
  subst hj0
  have hu : Value.int .i64 x = u := by simpa [encI] using hj
  subst hu
  rw [Block.cell (h := h)]
  simp [hi]
theorem natCells_list (c : Nat → Nat) (R : Nat) : natCells c R = (((List.range R).map fun i => (c i : Int)).map (Value.int .i64)).toArray := by simp [natCells]
theorem optCells_list (l : List (Option Nat)) : optCells l = ((l.map optInt).map (Value.int .i64)).toArray := by simp [optCells]
/-- what Counts returns -/
def countsS (F : List (List Bool)) (m : List Int) : List Int := if mostErr F m = 0 then (List.range F.length).map fun i => (fillAll F F.length (cols F) (nth (toNats m)) i : Int) else []
/-- a list and an error are returned -/
def RetI (w : World) (l : List Int) (err : Int) (e : Ending) (w' : World) : Prop := ∃ v, e = .returned (.tuple #[v, .int .i64 err]) ∧ IntS w' v l ∧ ∃ n : ExtOf w, w' = n.val
set_option maxHeartbeats 1600000 in
theorem counts_any (F : List (List Bool)) (m : List Int) (v0 v1 : Value) (w : World) (hR : F.length ≤ 1048576) (hG : GridS w v0 F) (h1 : IntS w v1 m) (hml : m.length ≤ 1048576) :
    Calls Try.prog 14 #[v0, v1] w (RetI w (countsS F m) (mostErr F m)) := by
  have HG := Lib.hid hG
  have H1 := Lib.hid h1
  clear hG h1
  by_cases t0 : mostErr F m = 0
  · obtain ⟨e1, e2, e3⟩ := mostErr_ok t0
    obtain ⟨hrect, _, hc512⟩ := Rect.of e1
    have HRC := Lib.hid hrect
    have HS : Hid (countsS F m = (List.range F.length).map fun i => (fillAll F F.length (cols F) (nth (toNats m)) i : Int)) := Lib.hid (by simp [countsS, t0])
    have HN := Lib.hid (IntS.nats H1.out (fun x hx => (e3 x hx).1))
    have HML : Hid ((toNats m).length = F.length) := Lib.hid (by simp [toNats, e2])
    have HMB : Hid (∀ x ∈ toNats m, x ≤ 1099511627776) := Lib.hid (fun x hx => by obtain ⟨y, hy, rfl⟩ := List.mem_map.1 hx; have := e3 y hy; omega)
    clear hrect e2 e3 e1
    go_enter Try.func14, Try.ntmps14
    go_wp2_with fail
    refine (check_any F m _ _ _ hR HG.out H1.out hml).mono ?_
    rintro e w' ⟨rfl, n, rfl⟩
    rw [t0]
    go_wp2_with fail
    refine (serve_any F (cols F) (toNats m) v0 v1 _ hR (by omega) HRC.out (HG.out.ext n.ext) (SliceOf.ext HN.out n.ext) HML.out HMB.out).mono ?_
    rintro e w' ⟨gc, gm, bm, a, rfl, hB, hMt, hd1, hd2, hd3, hx⟩
    have HB := Lib.hid hB
    have HX := Lib.hid (n.ext.trans hx)
    clear hB hMt hd1 hd2 hd3 hx
    go_wp2
    refine bodyPost_ret (v := .tuple #[.slice (some ⟨gc, 0, none⟩) F.length F.length, .int .i64 0]) (by simp [results, Try.results14, go_sem]) rfl ?_
    rw [HS.out, t0]
    have := HB.out
    rw [natCells_list] at this
    exact ⟨_, rfl, IntS.ofBlock this (by simp) (by unfold maxLen; omega), ExtOf.of HX.out⟩
  · have HS : Hid (countsS F m = []) := Lib.hid (by simp [countsS, t0])
    have hne : (mostErr F m != 0) = true := by simpa using t0
    go_enter Try.func14, Try.ntmps14
    go_wp2_with fail
    refine (check_any F m _ _ _ hR HG.out H1.out hml).mono ?_
    rintro e w' ⟨rfl, n, rfl⟩
    generalize mostErr F m = te at *
    go_wp2
    refine bodyPost_ret (v := .tuple #[.slice none 0 0, .int .i64 te]) (by simp [results, Try.results14, go_sem]) rfl ?_
    rw [HS.out]
    exact ⟨_, rfl, SliceOf.nil _, n, rfl⟩

end Go.Proofs.Ythchddkdcibbhaa
