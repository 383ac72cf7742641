/-
  The stable sort of the library: exchanges of ranges and rotations.
-/
import Derived.Test.YtaflcbdbacogeaaDoorU1
import Derived.BigRegion
set_option linter.unusedVariables false
set_option linter.unusedSimpArgs false
namespace Go.Proofs.YtaflcbdbacogeaaDoor
open Go.RowKit ReportM Go.Shelf Go.Lib Go.Sort

def eZ {α : Type} (z : α → Int) (x : α) : Value := .int .i64 (z x)
theorem eZ_one {α : Type} (z : α → Int) : OneCell (eZ z) := fun x => by simp [eZ, Value.oneCell']
section
variable {α : Type} [Inhabited α] (z : α → Int)
set_option maxRecDepth 20000 in
set_option maxHeartbeats 1600000 in
theorem swapr_w (fv : Value) (blk cap a b n : Nat) (d0 d : Array α) (w0 w : World) (R : Row1 (eZ z) w0 blk 0 d0) (hs : d0.size = d.size) (S : SW (eZ z) w0 blk 0 d w) (hab : a + n ≤ b) (hb : b + n ≤ d.size) (hsz : d.size ≤ 1000000) :
    Calls Tryd.prog 79 #[.slice (some ⟨blk, 0, none⟩) d.size cap, .int .i64 (a : Int), .int .i64 (b : Int), .int .i64 (n : Int), fv] w fun e w' => e = .returned (.tuple #[]) ∧ ∃ d', SwR a b n d d' ∧ PermIn a (b + n) d d' ∧ SW (eZ z) w0 blk 0 d' w' := by
  have S0 := Lib.hid S
  have HR := Lib.hid R
  clear S R
  go_enter Tryd.func79, Tryd.ntmps79
  go_wp2
  go_loopw [10] (fun i wr => ∃ (k : Nat) (dk : Array α), i = .int .i64 (k : Int) ∧ k ≤ n ∧ Hid (SwR a b k d dk) ∧ Hid (PermIn a (b + n) d dk) ∧ Hid (SW (eZ z) w0 blk 0 dk wr)) (fun i _ => n - (intOf i).toNat)
  case atStart => exact ⟨0, d, rfl, by omega, Lib.hid (SwR.zero a b d), Lib.hid (permIn_refl d a (b + n)), S0⟩
  case round =>
    clear S0
    obtain ⟨k, dk, rfl, hk, HK, HP, S1⟩ := hrel
    have hds : dk.size = d.size := HK.out.1
    by_cases hlt : k < n
    · obtain ⟨p, hp⟩ : ∃ p, p = a + k := ⟨_, rfl⟩
      obtain ⟨q, hq⟩ : ∃ q, q = b + k := ⟨_, rfl⟩
      have hpz : (a : Int) + (k : Int) = (p : Int) := by omega
      have hqz : (b : Int) + (k : Int) = (q : Int) := by omega
      have c1 : wr.cell? ⟨blk, p, none⟩ = some (.int .i64 (z dk[p]!)) := by have := S1.out.c1 HR.out (by omega) p (by omega); rw [Nat.zero_add] at this; exact this
      have c2 : wr.cell? ⟨blk, q, none⟩ = some (.int .i64 (z dk[q]!)) := by have := S1.out.c1 HR.out (by omega) q (by omega); rw [Nat.zero_add] at this; exact this
      have f1 : wr.frozen? ⟨blk, p, none⟩ = false := by have := S1.out.f1 HR.out (by omega) p (by omega); rw [Nat.zero_add] at this; exact this
      have f2 : wr.frozen? ⟨blk, q, none⟩ = false := by have := S1.out.f1 HR.out (by omega) q (by omega); rw [Nat.zero_add] at this; exact this
      have S2 : Hid (SW (eZ z) w0 blk 0 (swp dk p q) ((wr.setCell ⟨blk, p, none⟩ (.int .i64 (z dk[q]!))).setCell ⟨blk, q, none⟩ (.int .i64 (z dk[p]!))).drew) := Lib.hid (by
        have := S1.out.swapped HR.out p q (by omega) (by omega)
        rw [Nat.zero_add, Nat.zero_add] at this
        exact this)
      have hne : p ≠ q := by omega
      have HK2 : Hid (SwR a b (k + 1) d (swp dk p q)) := Lib.hid (by rw [hp, hq]; exact HK.out.step hab hlt hb)
      have HP2 : Hid (PermIn a (b + n) d (swp dk p q)) := Lib.hid (permIn_trans _ _ _ _ _ HP.out (swp_permIn dk a (b + n) p q (by omega) (by omega) (by omega) (by omega) (by omega)))
      have bp : (p : Int) < (d.size : Int) := by omega
      have bq : (q : Int) < (d.size : Int) := by omega
      clear S1 HK hp hq
      go_wp2_with fail
      go_region
      go_wp2_with fail
      go_roundw
      case rel => exact ⟨k + 1, _, by first | rfl | go_num, by omega, HK2, HP2, S2⟩
      case measure => simp [intOf]; omega
    · obtain rfl : k = n := by omega
      go_wp2_with fail
      go_end0
      exact ⟨rfl, dk, HK.out, HP.out, S1.out⟩
set_option maxRecDepth 20000 in
set_option maxHeartbeats 1600000 in
theorem rotate_w (fv : Value) (blk cap a m b : Nat) (d0 d : Array α) (w0 w : World) (R : Row1 (eZ z) w0 blk 0 d0) (hs : d0.size = d.size) (S : SW (eZ z) w0 blk 0 d w) (ham : a < m) (hmb : m < b) (hb : b ≤ d.size) (hsz : d.size ≤ 1000000) :
    Calls Tryd.prog 73 #[.slice (some ⟨blk, 0, none⟩) d.size cap, .int .i64 (a : Int), .int .i64 (m : Int), .int .i64 (b : Int), fv] w fun e w' => e = .returned (.tuple #[]) ∧ ∃ d', PermIn a b d d' ∧ (∀ x, d'[x]! = rotG a m b d x) ∧ SW (eZ z) w0 blk 0 d' w' := by
  have S0 := Lib.hid S
  have HR := Lib.hid R
  have HI0 := Lib.hid (RotI.start (a := a) (m := m) (b := b) d (by omega) (by omega))
  clear S R
  go_enter Tryd.func73, Tryd.ntmps73
  go_wp2
  go_loopw [10, 11] (fun u v wr => ∃ (i j : Nat) (dk : Array α), u = .int .i64 (i : Int) ∧ v = .int .i64 (j : Int) ∧ 0 < i ∧ 0 < j ∧ i ≤ m - a ∧ j ≤ b - m ∧ dk.size = d.size ∧ Hid (RotI m i j (rotG a m b d) dk) ∧ Hid (PermIn a b d dk) ∧ Hid (SW (eZ z) w0 blk 0 dk wr)) (fun u v _ => (intOf u).toNat + (intOf v).toNat)
  case atStart => exact ⟨m - a, b - m, d, by first | rfl | go_num, by first | rfl | go_num, by omega, by omega, Nat.le_refl _, Nat.le_refl _, rfl, HI0, Lib.hid (permIn_refl d a b), S0⟩
  case round =>
    clear S0 HI0
    obtain ⟨i, j, dk, rfl, rfl, hi0, hj0, hi, hj, hds, HI, HPA, S1⟩ := hrel
    have e1 : (m : Int) - (i : Int) = ((m - i : Nat) : Int) := by omega
    rcases Nat.lt_trichotomy i j with h | h | h
    · have t1 : ((i : Int) != (j : Int)) = true := by simp; omega
      have e2 : (m : Int) + (j : Int) - (i : Int) = ((m + j - i : Nat) : Int) := by omega
      go_wp2_with (go_at_call 79; have hcall := swapr_w z fv blk cap (m - i) (m + j - i) i d0 dk w0 wr HR.out (by omega) S1.out (by omega) (by omega) (by omega); rw [hds] at hcall; refine hcall.mono ?_; clear hcall; rintro e w' ⟨rfl, d2, hsw, hpm, hS2⟩; have HSW := Lib.hid hsw; have HPM := Lib.hid hpm; have S2 := Lib.hid hS2; clear hsw hpm hS2)
      have HI2 := Lib.hid (HI.out.right (by omega) h HSW.out)
      have hd2 : d2.size = d.size := by rw [HSW.out.1]; exact hds
      have HPB : Hid (PermIn a b d d2) := Lib.hid (permIn_trans _ _ _ _ _ HPA.out (permIn_mono _ _ _ _ _ _ (by omega) (by omega) (by omega) HPM.out))
      go_roundw
      case rel => exact ⟨i, j - i, d2, rfl, by first | rfl | go_num, hi0, by omega, hi, by omega, hd2, HI2, HPB, S2⟩
      case measure => simp [intOf]; omega
    · subst h
      go_wp2_with (go_at_call 79; have hcall := swapr_w z fv blk cap (m - i) m i d0 dk w0 wr HR.out (by omega) S1.out (by omega) (by omega) (by omega); rw [hds] at hcall; refine hcall.mono ?_; clear hcall; rintro e w' ⟨rfl, d2, hsw, hpm, hS2⟩; have HSW := Lib.hid hsw; have HPM := Lib.hid hpm; have S2 := Lib.hid hS2; clear hsw hpm hS2)
      go_end0
      exact ⟨rfl, d2, permIn_trans _ _ _ _ _ HPA.out (permIn_mono _ _ _ _ _ _ (by omega) (by omega) (by omega) HPM.out), fun x => HI.out.done (by omega) HSW.out x, S2.out⟩
    · have t1 : ((i : Int) != (j : Int)) = true := by simp; omega
      go_wp2_with (go_at_call 79; have hcall := swapr_w z fv blk cap (m - i) m j d0 dk w0 wr HR.out (by omega) S1.out (by omega) (by omega) (by omega); rw [hds] at hcall; refine hcall.mono ?_; clear hcall; rintro e w' ⟨rfl, d2, hsw, hpm, hS2⟩; have HSW := Lib.hid hsw; have HPM := Lib.hid hpm; have S2 := Lib.hid hS2; clear hsw hpm hS2)
      have HI2 := Lib.hid (HI.out.left (by omega) h HSW.out)
      have hd2 : d2.size = d.size := by rw [HSW.out.1]; exact hds
      have HPB : Hid (PermIn a b d d2) := Lib.hid (permIn_trans _ _ _ _ _ HPA.out (permIn_mono _ _ _ _ _ _ (by omega) (by omega) (by omega) HPM.out))
      go_roundw
      case rel => exact ⟨i - j, j, d2, by first | rfl | go_num, rfl, by omega, hj0, by omega, hj, hd2, HI2, HPB, S2⟩
      case measure => simp [intOf]; omega
end
end Go.Proofs.YtaflcbdbacogeaaDoor
