/-
  Chapter 61: several texts in one (R57, R58, R59).
-/
import Derived.Test.YtjfohapnjnopfaaGreatDoorK55
import Derived.Test.YtjfohapnjnopfaaGreatDoorMA
import Derived.Test.YtjfohapnjnopfaaGreatDoorR38
import Derived.Test.YtjfohapnjnopfaaGreatDoorK41
/-
  Chapter 61: is a list short, for the law? Codes of the law.
-/
section
set_option linter.unusedVariables false
set_option linter.unusedSimpArgs false
namespace Go.Proofs.YtjfohapnjnopfaaGreatDoor
open Go.RowKit Go.WideShapes RepM

attribute [local go_sem] ExtOf.cell ExtOf.frozen ExtS.cell ExtS.frozen Block.cell Block.frozen ExtB.cell ExtB.frozen alloc_cell alloc_frozen
set_option maxHeartbeats 1600000 in
set_option maxRecDepth 20000 in
theorem lshort_any (l : List EvP) (v : Value) (s : ByteArray) (w : World) (h : EvsS w v l) : Calls Tryz.prog 6 #[v, .string s] w (ShoR w l) := by
  obtain ⟨p, cap, rfl, hc1, hc2, hc3⟩ := EvsS.form h
  unfold maxLen at hc2
  have H := Lib.hid h
  have HS := Lib.hid (l59short_any l _ w h)
  clear h
  go_enter Tryz.func6, Tryz.ntmps6
  go_wp2_with (go_at_call 17; refine HS.out.mono ?_; rintro en w' ⟨c, rfl, hc, n1, rfl⟩; (have HC := Lib.hid hc); cases c)
  all_goals try (go_ret; exact ⟨false, rfl, fun h => (by cases h), ExtOf.of n1.ext⟩)
  obtain ⟨h40, h200⟩ := HC.out (by first | rfl | trivial)
  have H200 := Lib.hid h200
  clear hc h200
  have HX1 := Lib.hid n1.ext
  generalize n1.val = W1 at *
  go_loopw [5, 6] (fun vn vi wr => ∃ (n k : Nat), k ≤ l.length ∧ n ≤ 200 * k ∧ vn = .int .i64 (n : Int) ∧ vi = .int .i64 k ∧ Ext W1 wr) (fun _ i _ => l.length - (intOf i).toNat)
  case atStart => exact ⟨0, 0, by omega, by omega, rfl, rfl, Ext.refl _⟩
  case round =>
    obtain ⟨n, k, hk, hn, rfl, rfl, hx⟩ := hrel
    have HX := Lib.hid (HX1.out.trans hx)
    have HXS := Lib.hid hx
    clear hx
    by_cases hlt : k < l.length
    · obtain ⟨b, off, rfl, hr, hin⟩ := EvsS.elem (EvsS.ext H.out HX.out) hlt
      have hl2 := H200.out _ (List.getElem_mem hlt)
      obtain ⟨⟨x, sl⟩, he⟩ : ∃ z, z = l[k] := ⟨_, rfl⟩
      rw [← he] at hr hin hl2
      simp only at hin hl2
      obtain ⟨q, nn, mc⟩ := sl
      simp only [SlT.v] at hin
      obtain ⟨q0, mc0, hv, hn1, hn2, hn3⟩ := IntS.form hin
      obtain ⟨rfl, rfl, rfl⟩ : q = q0 ∧ nn = x.n.length ∧ mc = mc0 := by simpa using hv
      have c4 : wr.cell? ⟨b, off + k * 6 + 4, none⟩ = some (.slice q x.n.length mc) := hr 4 _ rfl
      have ob := Old.of_cell c4
      clear hr he hv hin
      generalize x.n.length = m at *
      go_wp2_with fail
      go_roundw
      case rel => exact ⟨n + m, k + 1, by omega, by omega, by first | rfl | go_num, by first | rfl | go_num, HXS.out⟩
      case measure => simp [intOf]; omega
    · obtain rfl : k = l.length := by omega
      go_wp2_with fail
      go_ret
      exact ⟨_, rfl, fun _ => ⟨h40, H200.out⟩, ExtOf.of HX.out⟩
/-- the first letters of a code, as the reference makes them -/
def preL (k : UInt8) (n j : Nat) : List UInt8 := k :: ([100000, 10000, 1000, 100, 10, 1].take j).map fun u => UInt8.ofNat (48 + n / u % 10)
theorem byte_d (m : Nat) : IntKind.u8.wrap (48 + (m : Int) % 10) = ((UInt8.ofNat (48 + m % 10)).toNat : Int) := by rw [UInt8.toNat_ofNat']; simp [IntKind.wrap, IntKind.signed, IntKind.bits] <;> omega
def unitV (j : Nat) : Int := if j = 0 then 100000 else if j = 1 then 10000 else if j = 2 then 1000 else if j = 3 then 100 else if j = 4 then 10 else if j = 5 then 1 else 0
theorem conv_oneL {k : UInt8} {W : World} : (convert 51 9 (.slice (some ⟨W.heap.size, 0, none⟩) 1 1)).run Tryz.prog (W.alloc (.cells #[.int .u8 (k.toNat : Int)] 5)) = .ok (.string ⟨#[k]⟩) (W.alloc (.cells #[.int .u8 (k.toNat : Int)] 5)) := conv_one (Block.new _ _ _)
theorem preL_len (k : UInt8) (n j : Nat) : (preL k n j).length ≤ 7 := by
  unfold preL
  simp only [List.length_cons, List.length_map, List.length_take, List.length_nil]
  omega
set_option maxHeartbeats 3200000 in
set_option maxRecDepth 20000 in
theorem r02code_any (k : UInt8) (n : Nat) (w : World) (hk : capital k = true) (hn : n < 1000000) : Calls Tryz.prog 40 #[.int .u8 (k.toNat : Int), .int .i64 (n : Int)] w fun e w' => e = .returned (.tuple #[.string (cB (preL k n 6 ++ [UInt8.ofNat (letter (preL k n 6))])), .int .i64 0]) ∧ ∃ n : ExtOf w, w' = n.val := by
  have q1 : decide ((n : Int) < 0) = false := decide_eq_false (by omega)
  have q2 : decide (999999 < (n : Int)) = false := decide_eq_false (by omega)
  have hcv := conv_oneL (k := k) (W := w)
  go_enter Tryz.func40, Tryz.ntmps40
  go_wp2_with (go_at_call 70; refine (rcap_any k _).mono ?_; rintro e w' ⟨rfl, he⟩; (obtain rfl := he.symm); rw [hk])
  go_loopw [6, 7] (fun vs vu wr => ∃ (j : Nat) (S : ByteArray), j ≤ 6 ∧ vu = .int .i64 (unitV j) ∧ S = cB (preL k n j) ∧ vs = .string S ∧ Ext w wr) (fun _ u _ => (intOf u).toNat)
  case atStart => exact ⟨0, _, by omega, rfl, rfl, rfl, by repeat' (first | (with_reducible exact Ext.refl _) | (with_reducible exact ExtOf.ext _) | (with_reducible refine Ext.trans ?_ (ExtOf.ext _)) | (with_reducible refine Ext.alloc ?_ _) | (with_reducible refine Ext.drew ?_) | (with_reducible refine Ext.setCell ?_ ?_ _) | (with_reducible refine Ext.setRow ?_ ?_ _) | (with_reducible exact HX.out) | (with_reducible refine Ext.trans ?_ HX.out) | (with_reducible refine Ext.below ?_ (Nat.le_refl _) _) | omega | (simp; done) | (simp; omega))⟩
  case round =>
    obtain ⟨j, S, hj, rfl, hS, rfl, hx⟩ := hrel
    have HX := Lib.hid hx
    have HS := Lib.hid hS
    have hsz : S.size ≤ 7 := by rw [hS, cB_size]; exact preL_len k n j
    clear hx hS hcv
    have : j = 0 ∨ j = 1 ∨ j = 2 ∨ j = 3 ∨ j = 4 ∨ j = 5 ∨ j = 6 := by omega
    rcases this with rfl | rfl | rfl | rfl | rfl | rfl | rfl
    · rw [show unitV 0 = 100000 from rfl]
      obtain ⟨c8, hc8⟩ : ∃ c8, c8 = UInt8.ofNat (48 + n / 100000 % 10) := ⟨_, rfl⟩
      have hw : IntKind.u8.wrap (48 + (n : Int) / 100000 % 10) = (c8.toNat : Int) := by
        rw [hc8, UInt8.toNat_ofNat']; simp [IntKind.wrap, IntKind.signed, IntKind.bits] <;> omega
      have HP : Hid (S ++ (⟨#[c8]⟩ : ByteArray) = cB (preL k n (0 + 1))) := Lib.hid (by rw [HS.out, hc8]; exact Go.WideShapes.bytes_inj (by rw [ba_append]; rfl))
      have hcv := conv_oneL (k := c8) (W := wr)
      clear hc8
      go_wp2_with fail
      go_roundw
      case rel => exact ⟨0 + 1, _, by omega, rfl, HP.out, rfl, HX.out.trans (by repeat' (first | (with_reducible exact Ext.refl _) | (with_reducible exact ExtOf.ext _) | (with_reducible refine Ext.trans ?_ (ExtOf.ext _)) | (with_reducible refine Ext.alloc ?_ _) | (with_reducible refine Ext.drew ?_) | (with_reducible refine Ext.setCell ?_ ?_ _) | (with_reducible refine Ext.setRow ?_ ?_ _) | (with_reducible exact HX.out) | (with_reducible refine Ext.trans ?_ HX.out) | (with_reducible refine Ext.below ?_ (Nat.le_refl _) _) | omega | (simp; done) | (simp; omega)))⟩
      case measure => first | decide | (simp [intOf]; done) | (simp [intOf]; omega)
    · rw [show unitV 1 = 10000 from rfl]
      obtain ⟨c8, hc8⟩ : ∃ c8, c8 = UInt8.ofNat (48 + n / 10000 % 10) := ⟨_, rfl⟩
      have hw : IntKind.u8.wrap (48 + (n : Int) / 10000 % 10) = (c8.toNat : Int) := by
        rw [hc8, UInt8.toNat_ofNat']; simp [IntKind.wrap, IntKind.signed, IntKind.bits] <;> omega
      have HP : Hid (S ++ (⟨#[c8]⟩ : ByteArray) = cB (preL k n (1 + 1))) := Lib.hid (by rw [HS.out, hc8]; exact Go.WideShapes.bytes_inj (by rw [ba_append]; rfl))
      have hcv := conv_oneL (k := c8) (W := wr)
      clear hc8
      go_wp2_with fail
      go_roundw
      case rel => exact ⟨1 + 1, _, by omega, rfl, HP.out, rfl, HX.out.trans (by repeat' (first | (with_reducible exact Ext.refl _) | (with_reducible exact ExtOf.ext _) | (with_reducible refine Ext.trans ?_ (ExtOf.ext _)) | (with_reducible refine Ext.alloc ?_ _) | (with_reducible refine Ext.drew ?_) | (with_reducible refine Ext.setCell ?_ ?_ _) | (with_reducible refine Ext.setRow ?_ ?_ _) | (with_reducible exact HX.out) | (with_reducible refine Ext.trans ?_ HX.out) | (with_reducible refine Ext.below ?_ (Nat.le_refl _) _) | omega | (simp; done) | (simp; omega)))⟩
      case measure => first | decide | (simp [intOf]; done) | (simp [intOf]; omega)
    · rw [show unitV 2 = 1000 from rfl]
      obtain ⟨c8, hc8⟩ : ∃ c8, c8 = UInt8.ofNat (48 + n / 1000 % 10) := ⟨_, rfl⟩
      have hw : IntKind.u8.wrap (48 + (n : Int) / 1000 % 10) = (c8.toNat : Int) := by
        rw [hc8, UInt8.toNat_ofNat']; simp [IntKind.wrap, IntKind.signed, IntKind.bits] <;> omega
      have HP : Hid (S ++ (⟨#[c8]⟩ : ByteArray) = cB (preL k n (2 + 1))) := Lib.hid (by rw [HS.out, hc8]; exact Go.WideShapes.bytes_inj (by rw [ba_append]; rfl))
      have hcv := conv_oneL (k := c8) (W := wr)
      clear hc8
      go_wp2_with fail
      go_roundw
      case rel => exact ⟨2 + 1, _, by omega, rfl, HP.out, rfl, HX.out.trans (by repeat' (first | (with_reducible exact Ext.refl _) | (with_reducible exact ExtOf.ext _) | (with_reducible refine Ext.trans ?_ (ExtOf.ext _)) | (with_reducible refine Ext.alloc ?_ _) | (with_reducible refine Ext.drew ?_) | (with_reducible refine Ext.setCell ?_ ?_ _) | (with_reducible refine Ext.setRow ?_ ?_ _) | (with_reducible exact HX.out) | (with_reducible refine Ext.trans ?_ HX.out) | (with_reducible refine Ext.below ?_ (Nat.le_refl _) _) | omega | (simp; done) | (simp; omega)))⟩
      case measure => first | decide | (simp [intOf]; done) | (simp [intOf]; omega)
    · rw [show unitV 3 = 100 from rfl]
      obtain ⟨c8, hc8⟩ : ∃ c8, c8 = UInt8.ofNat (48 + n / 100 % 10) := ⟨_, rfl⟩
      have hw : IntKind.u8.wrap (48 + (n : Int) / 100 % 10) = (c8.toNat : Int) := by
        rw [hc8, UInt8.toNat_ofNat']; simp [IntKind.wrap, IntKind.signed, IntKind.bits] <;> omega
      have HP : Hid (S ++ (⟨#[c8]⟩ : ByteArray) = cB (preL k n (3 + 1))) := Lib.hid (by rw [HS.out, hc8]; exact Go.WideShapes.bytes_inj (by rw [ba_append]; rfl))
      have hcv := conv_oneL (k := c8) (W := wr)
      clear hc8
      go_wp2_with fail
      go_roundw
      case rel => exact ⟨3 + 1, _, by omega, rfl, HP.out, rfl, HX.out.trans (by repeat' (first | (with_reducible exact Ext.refl _) | (with_reducible exact ExtOf.ext _) | (with_reducible refine Ext.trans ?_ (ExtOf.ext _)) | (with_reducible refine Ext.alloc ?_ _) | (with_reducible refine Ext.drew ?_) | (with_reducible refine Ext.setCell ?_ ?_ _) | (with_reducible refine Ext.setRow ?_ ?_ _) | (with_reducible exact HX.out) | (with_reducible refine Ext.trans ?_ HX.out) | (with_reducible refine Ext.below ?_ (Nat.le_refl _) _) | omega | (simp; done) | (simp; omega)))⟩
      case measure => first | decide | (simp [intOf]; done) | (simp [intOf]; omega)
    · rw [show unitV 4 = 10 from rfl]
      obtain ⟨c8, hc8⟩ : ∃ c8, c8 = UInt8.ofNat (48 + n / 10 % 10) := ⟨_, rfl⟩
      have hw : IntKind.u8.wrap (48 + (n : Int) / 10 % 10) = (c8.toNat : Int) := by
        rw [hc8, UInt8.toNat_ofNat']; simp [IntKind.wrap, IntKind.signed, IntKind.bits] <;> omega
      have HP : Hid (S ++ (⟨#[c8]⟩ : ByteArray) = cB (preL k n (4 + 1))) := Lib.hid (by rw [HS.out, hc8]; exact Go.WideShapes.bytes_inj (by rw [ba_append]; rfl))
      have hcv := conv_oneL (k := c8) (W := wr)
      clear hc8
      go_wp2_with fail
      go_roundw
      case rel => exact ⟨4 + 1, _, by omega, rfl, HP.out, rfl, HX.out.trans (by repeat' (first | (with_reducible exact Ext.refl _) | (with_reducible exact ExtOf.ext _) | (with_reducible refine Ext.trans ?_ (ExtOf.ext _)) | (with_reducible refine Ext.alloc ?_ _) | (with_reducible refine Ext.drew ?_) | (with_reducible refine Ext.setCell ?_ ?_ _) | (with_reducible refine Ext.setRow ?_ ?_ _) | (with_reducible exact HX.out) | (with_reducible refine Ext.trans ?_ HX.out) | (with_reducible refine Ext.below ?_ (Nat.le_refl _) _) | omega | (simp; done) | (simp; omega)))⟩
      case measure => first | decide | (simp [intOf]; done) | (simp [intOf]; omega)
    · rw [show unitV 5 = 1 from rfl]
      obtain ⟨c8, hc8⟩ : ∃ c8, c8 = UInt8.ofNat (48 + n / 1 % 10) := ⟨_, rfl⟩
      have hw : IntKind.u8.wrap (48 + (n : Int) % 10) = (c8.toNat : Int) := by
        rw [hc8, UInt8.toNat_ofNat']; simp [IntKind.wrap, IntKind.signed, IntKind.bits] <;> omega
      have HP : Hid (S ++ (⟨#[c8]⟩ : ByteArray) = cB (preL k n (5 + 1))) := Lib.hid (by rw [HS.out, hc8]; exact Go.WideShapes.bytes_inj (by rw [ba_append]; rfl))
      have hcv := conv_oneL (k := c8) (W := wr)
      clear hc8
      go_wp2_with fail
      go_roundw
      case rel => exact ⟨5 + 1, _, by omega, rfl, HP.out, rfl, HX.out.trans (by repeat' (first | (with_reducible exact Ext.refl _) | (with_reducible exact ExtOf.ext _) | (with_reducible refine Ext.trans ?_ (ExtOf.ext _)) | (with_reducible refine Ext.alloc ?_ _) | (with_reducible refine Ext.drew ?_) | (with_reducible refine Ext.setCell ?_ ?_ _) | (with_reducible refine Ext.setRow ?_ ?_ _) | (with_reducible exact HX.out) | (with_reducible refine Ext.trans ?_ HX.out) | (with_reducible refine Ext.below ?_ (Nat.le_refl _) _) | omega | (simp; done) | (simp; omega)))⟩
      case measure => first | decide | (simp [intOf]; done) | (simp [intOf]; omega)
    · rw [show unitV 6 = 0 from rfl]
      obtain ⟨c8, hc8⟩ : ∃ c8, c8 = UInt8.ofNat (letter (preL k n 6)) := ⟨_, rfl⟩
      have hlc : (letter S.data.toList : Int) = (c8.toNat : Int) := by
        have := letter_range (preL k n 6)
        rw [HS.out, cB_data, hc8, UInt8.toNat_ofNat']; omega
      have HP : Hid (S ++ (⟨#[c8]⟩ : ByteArray) = cB (preL k n 6 ++ [UInt8.ofNat (letter (preL k n 6))])) := Lib.hid (by rw [HS.out, hc8]; exact cB_append _ _)
      have hcv := conv_oneL (k := c8) (W := wr)
      clear hc8
      go_wp2_with (go_at_call 71; refine (rletter_any S _ (by omega)).mono ?_; rintro e w' ⟨rfl, he⟩; (obtain rfl := he.symm); rw [hlc])
      go_ret2
      exact ⟨by rw [HP.out]; rfl, ExtOf.of (HX.out.trans (by repeat' (first | (with_reducible exact Ext.refl _) | (with_reducible exact ExtOf.ext _) | (with_reducible refine Ext.trans ?_ (ExtOf.ext _)) | (with_reducible refine Ext.alloc ?_ _) | (with_reducible refine Ext.drew ?_) | (with_reducible refine Ext.setCell ?_ ?_ _) | (with_reducible refine Ext.setRow ?_ ?_ _) | (with_reducible exact HX.out) | (with_reducible refine Ext.trans ?_ HX.out) | (with_reducible refine Ext.below ?_ (Nat.le_refl _) _) | omega | (simp; done) | (simp; omega))))⟩
theorem lcode_any (k : UInt8) (n : Nat) (w : World) (hk : capital k = true) (hn : n < 1000000) : Calls Tryz.prog 19 #[.int .u8 (k.toNat : Int), .int .i64 (n : Int)] w fun e w' => e = .returned (.string (cB (preL k n 6 ++ [UInt8.ofNat (letter (preL k n 6))]))) ∧ ∃ n : ExtOf w, w' = n.val := by
  go_enter Tryz.func19, Tryz.ntmps19
  go_wp2_with (go_at_call 40; refine (r02code_any k n _ hk hn).mono ?_; rintro en w' ⟨rfl, n1, rfl⟩)
  go_ret
  exact ⟨rfl, by exact ExtOf.of (by repeat' (first | (with_reducible exact Ext.refl _) | (with_reducible exact ExtOf.ext _) | (with_reducible refine Ext.trans ?_ (ExtOf.ext _)) | (with_reducible refine Ext.alloc ?_ _) | (with_reducible refine Ext.drew ?_) | (with_reducible refine Ext.setCell ?_ ?_ _) | (with_reducible refine Ext.setRow ?_ ?_ _) | (with_reducible exact HX.out) | (with_reducible refine Ext.trans ?_ HX.out) | (with_reducible refine Ext.below ?_ (Nat.le_refl _) _) | omega | (simp; done) | (simp; omega)))⟩
theorem lcode_P1 (w : World) : Calls Tryz.prog 19 #[.int .u8 80, .int .i64 1] w fun e w' => e = .returned (.string cP1) ∧ ∃ n : ExtOf w, w' = n.val := by
  have := lcode_any 80 1 w (by decide) (by decide)
  rw [show cB (preL 80 1 6 ++ [UInt8.ofNat (letter (preL 80 1 6))]) = cP1 from by decide +kernel] at this
  exact this
theorem lcode_L1 (w : World) : Calls Tryz.prog 19 #[.int .u8 76, .int .i64 1] w fun e w' => e = .returned (.string cL1) ∧ ∃ n : ExtOf w, w' = n.val := by
  have := lcode_any 76 1 w (by decide) (by decide)
  rw [show cB (preL 76 1 6 ++ [UInt8.ofNat (letter (preL 76 1 6))]) = cL1 from by decide +kernel] at this
  exact this
theorem lcode_L2 (w : World) : Calls Tryz.prog 19 #[.int .u8 76, .int .i64 2] w fun e w' => e = .returned (.string cL2) ∧ ∃ n : ExtOf w, w' = n.val := by
  have := lcode_any 76 2 w (by decide) (by decide)
  rw [show cB (preL 76 2 6 ++ [UInt8.ofNat (letter (preL 76 2 6))]) = cL2 from by decide +kernel] at this
  exact this
theorem lcode_K1 (w : World) : Calls Tryz.prog 19 #[.int .u8 75, .int .i64 1] w fun e w' => e = .returned (.string cK1) ∧ ∃ n : ExtOf w, w' = n.val := by
  have := lcode_any 75 1 w (by decide) (by decide)
  rw [show cB (preL 75 1 6 ++ [UInt8.ofNat (letter (preL 75 1 6))]) = cK1 from by decide +kernel] at this
  exact this
theorem lcode_B0 (w : World) : Calls Tryz.prog 19 #[.int .u8 66, .int .i64 0] w fun e w' => e = .returned (.string cB0) ∧ ∃ n : ExtOf w, w' = n.val := by
  have := lcode_any 66 0 w (by decide) (by decide)
  rw [show cB (preL 66 0 6 ++ [UInt8.ofNat (letter (preL 66 0 6))]) = cB0 from by decide +kernel] at this
  exact this
theorem lcode_B1 (w : World) : Calls Tryz.prog 19 #[.int .u8 66, .int .i64 1] w fun e w' => e = .returned (.string cB1) ∧ ∃ n : ExtOf w, w' = n.val := by
  have := lcode_any 66 1 w (by decide) (by decide)
  rw [show cB (preL 66 1 6 ++ [UInt8.ofNat (letter (preL 66 1 6))]) = cB1 from by decide +kernel] at this
  exact this
theorem lcode_B2 (w : World) : Calls Tryz.prog 19 #[.int .u8 66, .int .i64 2] w fun e w' => e = .returned (.string cB2) ∧ ∃ n : ExtOf w, w' = n.val := by
  have := lcode_any 66 2 w (by decide) (by decide)
  rw [show cB (preL 66 2 6 ++ [UInt8.ofNat (letter (preL 66 2 6))]) = cB2 from by decide +kernel] at this
  exact this
theorem lcode_B6 (w : World) : Calls Tryz.prog 19 #[.int .u8 66, .int .i64 6] w fun e w' => e = .returned (.string cB6) ∧ ∃ n : ExtOf w, w' = n.val := by
  have := lcode_any 66 6 w (by decide) (by decide)
  rw [show cB (preL 66 6 6 ++ [UInt8.ofNat (letter (preL 66 6 6))]) = cB6 from by decide +kernel] at this
  exact this
end Go.Proofs.YtjfohapnjnopfaaGreatDoor
end
/-
  Chapter 61: the law's sample.
-/
section
set_option linter.unusedVariables false
set_option linter.unusedSimpArgs false
namespace Go.Proofs.YtjfohapnjnopfaaGreatDoor
open Go.RowKit Go.WideShapes RepM

attribute [local go_sem] ExtOf.cell ExtOf.frozen ExtS.cell ExtS.frozen Block.cell Block.frozen ExtB.cell ExtB.frozen alloc_cell alloc_frozen
/-- what is handed back of the sample -/
def SmpR (w : World) (en : Ending) (w' : World) : Prop := ∃ v ls, en = .returned v ∧ EvsS w' v ls ∧ evs ls = smp ∧ ∃ m : ExtOf w, w' = m.val
set_option maxHeartbeats 3200000 in
set_option maxRecDepth 20000 in
theorem sample_any (w : World) : Calls Tryz.prog 18 #[] w (SmpR w) := by
  go_enter Tryz.func18, Tryz.ntmps18
  go_wp2_with (go_at_call 19; (first | ((with_reducible refine Calls.mono (lcode_P1 _) ?_); rintro en w' ⟨rfl, m1, rfl⟩) | ((with_reducible refine Calls.mono (lcode_L1 _) ?_); rintro en w' ⟨rfl, m2, rfl⟩) | ((with_reducible refine Calls.mono (lcode_L2 _) ?_); rintro en w' ⟨rfl, m3, rfl⟩) | ((with_reducible refine Calls.mono (lcode_K1 _) ?_); rintro en w' ⟨rfl, m4, rfl⟩) | ((with_reducible refine Calls.mono (lcode_B1 _) ?_); rintro en w' ⟨rfl, m5, rfl⟩)))
  go_ret
  refine ⟨_, [((⟨1, 0, cP1, ⟨#[]⟩, [0, 1000, 5], ⟨#[112, 105, 110, 101]⟩⟩ : Ev), (⟨some ⟨m3.val.heap.size, 0, none⟩, 3, 3⟩ : SlT)), ((⟨2, 1, cL1, cP1, [], ⟨#[]⟩⟩ : Ev), (⟨none, 0, 0⟩ : SlT)), ((⟨2, 1, cL2, cP1, [], ⟨#[]⟩⟩ : Ev), (⟨none, 0, 0⟩ : SlT)), ((⟨3, 2, cL1, ⟨#[]⟩, [], ⟨#[]⟩⟩ : Ev), (⟨none, 0, 0⟩ : SlT)), ((⟨3, 2, cL2, ⟨#[]⟩, [], ⟨#[]⟩⟩ : Ev), (⟨none, 0, 0⟩ : SlT)), ((⟨4, 3, cL1, ⟨#[]⟩, [0, 1], ⟨#[]⟩⟩ : Ev), (⟨some ⟨m3.val.heap.size + 1, 0, none⟩, 2, 2⟩ : SlT)), ((⟨4, 3, cL2, ⟨#[]⟩, [0, 5], ⟨#[]⟩⟩ : Ev), (⟨some ⟨m3.val.heap.size + 1 + 1, 0, none⟩, 2, 2⟩ : SlT)), ((⟨5, 4, cK1, ⟨#[]⟩, [2, 6], ⟨#[]⟩⟩ : Ev), (⟨some ⟨m4.val.heap.size, 0, none⟩, 2, 2⟩ : SlT)), ((⟨7, 5, cB1, ⟨#[]⟩, [3], ⟨#[]⟩⟩ : Ev), (⟨some ⟨m5.val.heap.size, 0, none⟩, 1, 1⟩ : SlT)), ((⟨11, 6, ⟨#[]⟩, ⟨#[]⟩, [0, 0], ⟨#[]⟩⟩ : Ev), (⟨some ⟨m5.val.heap.size + 1, 0, none⟩, 2, 2⟩ : SlT))], rfl, ⟨?_, fun x hx => ?_⟩, rfl, by exact ExtOf.of (by repeat' (first | (with_reducible exact Ext.refl _) | (with_reducible exact ExtOf.ext _) | (with_reducible refine Ext.trans ?_ (ExtOf.ext _)) | (with_reducible refine Ext.alloc ?_ _) | (with_reducible refine Ext.drew ?_) | (with_reducible refine Ext.setCell ?_ ?_ _) | (with_reducible refine Ext.setRow ?_ ?_ _) | (with_reducible exact HX.out) | (with_reducible refine Ext.trans ?_ HX.out) | (with_reducible refine Ext.below ?_ (Nat.le_refl _) _) | omega | (simp; done) | (simp; omega)))⟩
  · have h2 := Own.slice encEv_len (Own.fresh (enc := encEv) (E := 34) (base := 0) (w := (m5.val.alloc (.cells #[.int .i64 3] 3)).alloc (.cells #[.int .i64 0, .int .i64 0] 3)) (cs := ([((⟨1, 0, cP1, ⟨#[]⟩, [0, 1000, 5], ⟨#[112, 105, 110, 101]⟩⟩ : Ev), (⟨some ⟨m3.val.heap.size, 0, none⟩, 3, 3⟩ : SlT)), ((⟨2, 1, cL1, cP1, [], ⟨#[]⟩⟩ : Ev), (⟨none, 0, 0⟩ : SlT)), ((⟨2, 1, cL2, cP1, [], ⟨#[]⟩⟩ : Ev), (⟨none, 0, 0⟩ : SlT)), ((⟨3, 2, cL1, ⟨#[]⟩, [], ⟨#[]⟩⟩ : Ev), (⟨none, 0, 0⟩ : SlT)), ((⟨3, 2, cL2, ⟨#[]⟩, [], ⟨#[]⟩⟩ : Ev), (⟨none, 0, 0⟩ : SlT)), ((⟨4, 3, cL1, ⟨#[]⟩, [0, 1], ⟨#[]⟩⟩ : Ev), (⟨some ⟨m3.val.heap.size + 1, 0, none⟩, 2, 2⟩ : SlT)), ((⟨4, 3, cL2, ⟨#[]⟩, [0, 5], ⟨#[]⟩⟩ : Ev), (⟨some ⟨m3.val.heap.size + 1 + 1, 0, none⟩, 2, 2⟩ : SlT)), ((⟨5, 4, cK1, ⟨#[]⟩, [2, 6], ⟨#[]⟩⟩ : Ev), (⟨some ⟨m4.val.heap.size, 0, none⟩, 2, 2⟩ : SlT)), ((⟨7, 5, cB1, ⟨#[]⟩, [3], ⟨#[]⟩⟩ : Ev), (⟨some ⟨m5.val.heap.size, 0, none⟩, 1, 1⟩ : SlT)), ((⟨11, 6, ⟨#[]⟩, ⟨#[]⟩, [0, 0], ⟨#[]⟩⟩ : Ev), (⟨some ⟨m5.val.heap.size + 1, 0, none⟩, 2, 2⟩ : SlT))].flatMap encEv).toArray) (l := [((⟨1, 0, cP1, ⟨#[]⟩, [0, 1000, 5], ⟨#[112, 105, 110, 101]⟩⟩ : Ev), (⟨some ⟨m3.val.heap.size, 0, none⟩, 3, 3⟩ : SlT)), ((⟨2, 1, cL1, cP1, [], ⟨#[]⟩⟩ : Ev), (⟨none, 0, 0⟩ : SlT)), ((⟨2, 1, cL2, cP1, [], ⟨#[]⟩⟩ : Ev), (⟨none, 0, 0⟩ : SlT)), ((⟨3, 2, cL1, ⟨#[]⟩, [], ⟨#[]⟩⟩ : Ev), (⟨none, 0, 0⟩ : SlT)), ((⟨3, 2, cL2, ⟨#[]⟩, [], ⟨#[]⟩⟩ : Ev), (⟨none, 0, 0⟩ : SlT)), ((⟨4, 3, cL1, ⟨#[]⟩, [0, 1], ⟨#[]⟩⟩ : Ev), (⟨some ⟨m3.val.heap.size + 1, 0, none⟩, 2, 2⟩ : SlT)), ((⟨4, 3, cL2, ⟨#[]⟩, [0, 5], ⟨#[]⟩⟩ : Ev), (⟨some ⟨m3.val.heap.size + 1 + 1, 0, none⟩, 2, 2⟩ : SlT)), ((⟨5, 4, cK1, ⟨#[]⟩, [2, 6], ⟨#[]⟩⟩ : Ev), (⟨some ⟨m4.val.heap.size, 0, none⟩, 2, 2⟩ : SlT)), ((⟨7, 5, cB1, ⟨#[]⟩, [3], ⟨#[]⟩⟩ : Ev), (⟨some ⟨m5.val.heap.size, 0, none⟩, 1, 1⟩ : SlT)), ((⟨11, 6, ⟨#[]⟩, ⟨#[]⟩, [0, 0], ⟨#[]⟩⟩ : Ev), (⟨some ⟨m5.val.heap.size + 1, 0, none⟩, 2, 2⟩ : SlT))]) encEv_len (by simp) rfl (Nat.zero_le _) (by unfold maxLen; simp))
    rw [show ((m5.val.alloc (.cells #[.int .i64 3] 3)).alloc (.cells #[.int .i64 0, .int .i64 0] 3)).heap.size = m5.val.heap.size + 1 + 1 from by simp] at h2
    exact h2
  · simp only [List.mem_cons, List.not_mem_nil, or_false] at hx
    rcases hx with rfl | rfl | rfl | rfl | rfl | rfl | rfl | rfl | rfl | rfl
    · exact Block.ints (l := ([0, 1000, 5] : List Int)) (show Block _ m3.val.heap.size #[.int .i64 0, .int .i64 1000, .int .i64 5] from inferInstance) rfl (by simp [maxLen])
    · exact SliceOf.nil _
    · exact SliceOf.nil _
    · exact SliceOf.nil _
    · exact SliceOf.nil _
    · exact Block.ints (l := ([0, 1] : List Int)) (show Block _ (m3.val.heap.size + 1) #[.int .i64 0, .int .i64 1] from inferInstance) rfl (by simp [maxLen])
    · exact Block.ints (l := ([0, 5] : List Int)) (show Block _ (m3.val.heap.size + 1 + 1) #[.int .i64 0, .int .i64 5] from inferInstance) rfl (by simp [maxLen])
    · exact Block.ints (l := ([2, 6] : List Int)) (show Block _ m4.val.heap.size #[.int .i64 2, .int .i64 6] from inferInstance) rfl (by simp [maxLen])
    · exact Block.ints (l := ([3] : List Int)) (show Block _ m5.val.heap.size #[.int .i64 3] from inferInstance) rfl (by simp [maxLen])
    · exact Block.ints (l := ([0, 0] : List Int)) (show Block _ (m5.val.heap.size + 1) #[.int .i64 0, .int .i64 0] from inferInstance) rfl (by simp [maxLen])
end Go.Proofs.YtjfohapnjnopfaaGreatDoor
end
/-
  Chapter 61: the law's examples hold.
-/
section
set_option linter.unusedVariables false
set_option linter.unusedSimpArgs false
namespace Go.Proofs.YtjfohapnjnopfaaGreatDoor
open Go.RowKit Go.WideShapes RepM

attribute [local go_sem] ExtOf.cell ExtOf.frozen ExtS.cell ExtS.frozen Block.cell Block.frozen ExtB.cell ExtB.frozen alloc_cell alloc_frozen
theorem hist_kinds {hs : List EvP} {K : List Int} {l : List Ev} (h : evs hs = l) (hk : l.map (·.kind) = K) : hs.length = K.length ∧ ∀ i (hi : i < hs.length) (hj : i < K.length), (hs[i]).1.kind = K[i] := by
  subst h
  subst hk
  refine ⟨by simp, fun i hi hj => ?_⟩
  simp
def st6 : List UInt8 := storyL (histC (smp.take 6) [1])
theorem st6_take : st6.take 6 = [100, 48, 32, 48, 48, 58] := by decide +kernel
theorem st6_len : 10 < st6.length := by decide +kernel
/-- the values of the region that asks for the story -/
def awV (p : Option Addr) (c : Nat) (S : ByteArray) : Nat → Value
  | 38 => .slice p 10 c
  | 39 => .slice p 6 c
  | 40 => .string cB1
  | 41 => .tuple #[.string S, .int .i64 0]
  | 37 => .tuple #[.string S, .int .i64 0]
  | 42 => .string S
  | 43 => .int .i64 0
  | 10 => .string S
  | 11 => .int .i64 0
  | _ => undef
def awA (p : Option Addr) (c : Nat) (S : ByteArray) (d : Nat) (v : Value) : Prop := v = awV p c S d
set_option maxHeartbeats 3200000 in
set_option maxRecDepth 20000 in
theorem awake_any (w : World) (ht : Tab w) : Calls Tryz.prog 7 #[] w fun e w' => e = .returned (.bool true) ∧ ∃ n : ExtOf w, w' = n.val := by
  have HT := Lib.hid ht
  clear ht
  go_enter Tryz.func7, Tryz.ntmps7
  go_upto_region 2 with (go_at_call 18; refine (sample_any _).mono ?_; rintro en w' ⟨v, ls, rfl, hev, hsm, n1, rfl⟩)
  obtain ⟨p, c, rfl, hc1, hc2, hc3⟩ := EvsS.form hev
  have hl10 : ls.length = 10 := by
    have : (evs ls).length = ls.length := by simp
    rw [hsm] at this
    exact this.symm
  have HEV := Lib.hid hev
  have HSM := Lib.hid hsm
  have HX1 := Lib.hid n1.ext
  have HH1 := Lib.hid (fun W (hx : Ext n1.val W) => phistory_any ls (.slice p ls.length c) cB1 W (hev.ext hx) (by omega) (HT.out.ext (n1.ext.trans hx)))
  have HH2 := Lib.hid (fun W (hx : Ext n1.val W) => phistory_any ls (.slice p ls.length c) cB2 W (hev.ext hx) (by omega) (HT.out.ext (n1.ext.trans hx)))
  have HH0 := Lib.hid (fun W (hx : Ext n1.val W) => phistory_any ls (.slice p ls.length c) cB0 W (hev.ext hx) (by omega) (HT.out.ext (n1.ext.trans hx)))
  have HP := Lib.hid (fun W (hx : Ext n1.val W) => ppermit_any ls (.slice p ls.length c) cB6 W (hev.ext hx) (by omega) (HT.out.ext (n1.ext.trans hx)))
  unfold HisR at HH1 HH2 HH0
  rw [hsm, smp_err1, smp_hist1] at HH1
  rw [hsm, smp_err2, smp_hist2] at HH2
  rw [hsm, smp_err0] at HH0
  rw [hsm, smp_perm6] at HP
  unfold permV at HP
  rw [hl10] at HH1 HH2 HH0 HP hc1 ⊢
  clear hev hsm
  go_upto_region 6 with (first | (go_at_call 19; (first | (with_reducible refine Calls.mono (lcode_B1 _) ?_) | (with_reducible refine Calls.mono (lcode_B2 _) ?_) | (with_reducible refine Calls.mono (lcode_B0 _) ?_) | (with_reducible refine Calls.mono (lcode_B6 _) ?_)); rintro en w' ⟨rfl, n2, rfl⟩) | (go_at_call 8; (first | ((with_reducible refine Calls.mono (HH1.out _ (by repeat' (first | (with_reducible exact Ext.refl _) | (with_reducible exact ExtOf.ext _) | (with_reducible refine Ext.trans ?_ (ExtOf.ext _)) | (with_reducible refine Ext.alloc ?_ _) | (with_reducible refine Ext.drew ?_) | (with_reducible refine Ext.setCell ?_ ?_ _) | (with_reducible refine Ext.setRow ?_ ?_ _) | (with_reducible exact HX.out) | (with_reducible refine Ext.trans ?_ HX.out) | (with_reducible refine Ext.below ?_ (Nat.le_refl _) _) | omega | (simp; done) | (simp; omega)))) ?_); rintro en w' ⟨v1, hs1, rfl, he1, hq1, n3, rfl⟩) | ((with_reducible refine Calls.mono (HH2.out _ (by repeat' (first | (with_reducible exact Ext.refl _) | (with_reducible exact ExtOf.ext _) | (with_reducible refine Ext.trans ?_ (ExtOf.ext _)) | (with_reducible refine Ext.alloc ?_ _) | (with_reducible refine Ext.drew ?_) | (with_reducible refine Ext.setCell ?_ ?_ _) | (with_reducible refine Ext.setRow ?_ ?_ _) | (with_reducible exact HX.out) | (with_reducible refine Ext.trans ?_ HX.out) | (with_reducible refine Ext.below ?_ (Nat.le_refl _) _) | omega | (simp; done) | (simp; omega)))) ?_); rintro en w' ⟨v2, hs2, rfl, he2, hq2, n4, rfl⟩) | ((with_reducible refine Calls.mono (HH0.out _ (by repeat' (first | (with_reducible exact Ext.refl _) | (with_reducible exact ExtOf.ext _) | (with_reducible refine Ext.trans ?_ (ExtOf.ext _)) | (with_reducible refine Ext.alloc ?_ _) | (with_reducible refine Ext.drew ?_) | (with_reducible refine Ext.setCell ?_ ?_ _) | (with_reducible refine Ext.setRow ?_ ?_ _) | (with_reducible exact HX.out) | (with_reducible refine Ext.trans ?_ HX.out) | (with_reducible refine Ext.below ?_ (Nat.le_refl _) _) | omega | (simp; done) | (simp; omega)))) ?_); rintro en w' ⟨v0, hs0, rfl, _, _, n5, rfl⟩))) | (go_at_call 13; (with_reducible refine Calls.mono (HP.out _ (by repeat' (first | (with_reducible exact Ext.refl _) | (with_reducible exact ExtOf.ext _) | (with_reducible refine Ext.trans ?_ (ExtOf.ext _)) | (with_reducible refine Ext.alloc ?_ _) | (with_reducible refine Ext.drew ?_) | (with_reducible refine Ext.setCell ?_ ?_ _) | (with_reducible refine Ext.setRow ?_ ?_ _) | (with_reducible exact HX.out) | (with_reducible refine Ext.trans ?_ HX.out) | (with_reducible refine Ext.below ?_ (Nat.le_refl _) _) | omega | (simp; done) | (simp; omega)))) ?_); rintro en w' ⟨rfl, n6, rfl⟩))
  obtain ⟨b, off, rfl, _, _⟩ := EvsS.elem HEV.out (i := 0) (by omega)
  obtain ⟨S, hS⟩ : ∃ S, S = cB st6 := ⟨_, rfl⟩
  have HST : Hid (∀ W, Ext n1.val W → Calls Tryz.prog 11 #[.slice (some ⟨b, off, none⟩) 6 c, .string cB1] W fun e w' => e = .returned (.tuple #[.string S, .int .i64 0]) ∧ ∃ n : ExtOf W, w' = n.val) := Lib.hid (fun W hx => by
    have h6 : EvsS W (.slice (some ⟨b, off, none⟩) 6 c) (ls.take 6) := by
      have h0 := HEV.out.ext hx
      exact ⟨SliceOf.take h0.1 (by omega), fun x hm => h0.2 x (List.mem_of_mem_take hm)⟩
    have h7 := pstory_any (ls.take 6) _ cB1 W h6 (by rw [List.length_take]; omega) (HT.out.ext (HX1.out.trans hx))
    have h8 : evs (ls.take 6) = smp.take 6 := by rw [← HSM.out]; simp [evs]
    unfold storyV at h7
    rw [h8, smp6_err1, smp6_hist1] at h7
    rw [hS]
    exact h7)
  have hsz : S.size = st6.length := by rw [hS, cB_size]
  have hs10 : 10 < S.size := by rw [hsz]; exact st6_len
  have HEX : Hid (S.extract 0 6 = ⟨#[100, 48, 32, 48, 48, 58]⟩) := Lib.hid (Go.WideShapes.bytes_inj (by rw [hS, show (⟨#[100, 48, 32, 48, 48, 58]⟩ : ByteArray).data.toList = [100, 48, 32, 48, 48, 58] from rfl, ← st6_take]; simp [cB]))
  obtain ⟨hk1, hk1b⟩ := hist_kinds hq1 smp_kinds1
  obtain ⟨hk2, hk2b⟩ := hist_kinds hq2 smp_kinds2
  have hX : Ext n1.val n6.val := by repeat' (first | (with_reducible exact Ext.refl _) | (with_reducible exact ExtOf.ext _) | (with_reducible refine Ext.trans ?_ (ExtOf.ext _)) | (with_reducible refine Ext.alloc ?_ _) | (with_reducible refine Ext.drew ?_) | (with_reducible refine Ext.setCell ?_ ?_ _) | (with_reducible refine Ext.setRow ?_ ?_ _) | (with_reducible exact HX.out) | (with_reducible refine Ext.trans ?_ HX.out) | (with_reducible refine Ext.below ?_ (Nat.le_refl _) _) | omega | (simp; done) | (simp; omega))
  have HX6 := Lib.hid hX
  clear hS hX hsz hq1 hq2
  refine wp_region_soft (awA (some ⟨b, off, none⟩) c S) (fun _ _ _ => True) (by kernel_rfl) (by kernel_rfl) (by kernel_rfl) (by kernel_rfl) (fun d => ⟨_, rfl⟩) (fun _ _ _ _ _ _ => trivial) ?_
  refine soft_det (d := 38) (V := .slice (some ⟨b, off, none⟩) 10 c) rfl (by kernel_rfl) (fun v h => h) rfl (fun _ => trivial) (fun W _ _ => by kernel_rfl) ?_
  refine soft_det (d := 39) (V := .slice (some ⟨b, off, none⟩) 6 c) rfl (by kernel_rfl) (fun v h => h) rfl (fun _ => trivial) (fun W _ _ => by simp [execOp, go_sem]; omega) ?_
  refine soft_call (d := 40) (V := .string cB1) (f := 19) (vals := #[.int .u8 66, .int .i64 1]) rfl (by kernel_rfl) (fun v h => h) rfl (fun _ => trivial) (fun W => by kernel_rfl) (fun W hx _ => lcode_B1 W) ?_
  refine soft_call (d := 41) (V := .tuple #[.string S, .int .i64 0]) (f := 11) (vals := #[.slice (some ⟨b, off, none⟩) 6 c, .string cB1]) rfl (by kernel_rfl) (fun v h => h) rfl (fun _ => trivial) (fun W => by kernel_rfl) (fun W hx _ => HST.out W (HX6.out.trans (Ext.trans ((Ext.refl _).drew) hx))) ?_
  refine soft_det (d := 37) (V := .tuple #[.string S, .int .i64 0]) rfl (by kernel_rfl) (fun v h => h) rfl (fun _ => trivial) (fun W _ _ => by kernel_rfl) ?_
  refine soft_det (d := 42) (V := .string S) rfl (by kernel_rfl) (fun v h => h) rfl (fun _ => trivial) (fun W _ _ => by kernel_rfl) ?_
  refine soft_det (d := 43) (V := .int .i64 0) rfl (by kernel_rfl) (fun v h => h) rfl (fun _ => trivial) (fun W _ _ => by kernel_rfl) ?_
  refine soft_det (d := 10) (V := .string S) rfl (by kernel_rfl) (fun v h => h) rfl (fun _ => trivial) (fun W _ _ => by kernel_rfl) ?_
  refine soft_det (d := 11) (V := .int .i64 0) rfl (by kernel_rfl) (fun v h => h) rfl (fun _ => trivial) (fun W _ _ => by kernel_rfl) ?_
  intro W7 hx7
  simp only [Act.put, List.setIfInBounds_toArray, List.set_cons_succ, List.set_cons_zero]
  have hx67 : Ext n6.val W7 := Ext.trans ((Ext.refl _).drew) hx7
  have hx3 : Ext n3.val W7 := Ext.trans (by repeat' (first | (with_reducible exact Ext.refl _) | (with_reducible exact ExtOf.ext _) | (with_reducible refine Ext.trans ?_ (ExtOf.ext _)) | (with_reducible refine Ext.alloc ?_ _) | (with_reducible refine Ext.drew ?_) | (with_reducible refine Ext.setCell ?_ ?_ _) | (with_reducible refine Ext.setRow ?_ ?_ _) | (with_reducible exact HX.out) | (with_reducible refine Ext.trans ?_ HX.out) | (with_reducible refine Ext.below ?_ (Nat.le_refl _) _) | omega | (simp; done) | (simp; omega))) hx67
  have hx4 : Ext n4.val W7 := Ext.trans (by repeat' (first | (with_reducible exact Ext.refl _) | (with_reducible exact ExtOf.ext _) | (with_reducible refine Ext.trans ?_ (ExtOf.ext _)) | (with_reducible refine Ext.alloc ?_ _) | (with_reducible refine Ext.drew ?_) | (with_reducible refine Ext.setCell ?_ ?_ _) | (with_reducible refine Ext.setRow ?_ ?_ _) | (with_reducible exact HX.out) | (with_reducible refine Ext.trans ?_ HX.out) | (with_reducible refine Ext.below ?_ (Nat.le_refl _) _) | omega | (simp; done) | (simp; omega))) hx67
  have HX7 := Lib.hid (HX1.out.trans (HX6.out.trans hx67))
  have e1 := EvsS.ext he1 hx3
  have e2 := EvsS.ext he2 hx4
  obtain ⟨p1, c1, rfl, hd1, hd2, hd3⟩ := EvsS.form e1
  obtain ⟨p2, c2, rfl, hd4, hd5, hd6⟩ := EvsS.form e2
  rw [hk1, hk2]
  simp only [List.length_cons, List.length_nil] at hk1 hk2 ⊢
  obtain ⟨b1, o1, rfl, r4, _⟩ := EvsS.elem e1 (i := 4) (by omega)
  obtain ⟨b', o', hq, r3, _⟩ := EvsS.elem e1 (i := 3) (by omega)
  cases hq
  obtain ⟨b2, o2, rfl, r7, _⟩ := EvsS.elem e2 (i := 7) (by omega)
  have k4 : W7.cell? ⟨b1, o1 + 24, none⟩ = some (.int .i64 7) := by
    have := r4 0 _ rfl
    rw [hk1b 4 (by omega) (by simp)] at this
    exact this
  have k3 : W7.cell? ⟨b1, o1 + 18, none⟩ = some (.int .i64 4) := by
    have := r3 0 _ rfl
    rw [hk1b 3 (by omega) (by simp)] at this
    exact this
  have k7 : W7.cell? ⟨b2, o2 + 42, none⟩ = some (.int .i64 5) := by
    have := r7 0 _ rfl
    rw [hk2b 7 (by omega) (by simp)] at this
    exact this
  have ob1 := Old.of_cell k4
  have ob2 := Old.of_cell k7
  have q0 : decide (10 < (S.size : Int)) = true := decide_eq_true (by omega)
  have HEQ := str_eq (m := S.extract 0 6) (n := ⟨#[100, 48, 32, 48, 48, 58]⟩) HEX.out
  have HEP := str_eq (m := cP1) (n := cP1) rfl
  clear e1 e2 he1 he2 hk1b hk2b r3 r4 r7 hx67 hx3 hx4 hx7
  go_wp2_with (go_at_call 19; (with_reducible refine Calls.mono (lcode_P1 _) ?_); rintro en w' ⟨rfl, n8, rfl⟩)
  go_ret
  exact ⟨ret_bool (by rw [HEX.out, ByteArray.toList_eq]; rfl), ExtOf.of (HX7.out.trans n8.ext)⟩
end Go.Proofs.YtjfohapnjnopfaaGreatDoor
end
