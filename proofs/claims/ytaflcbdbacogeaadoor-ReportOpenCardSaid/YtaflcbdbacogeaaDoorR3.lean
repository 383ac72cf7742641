/-
  Lengths of spans, sums of yields.
-/
import Derived.Test.YtaflcbdbacogeaaDoorR2
set_option linter.unusedVariables false
set_option linter.unusedSimpArgs false
namespace Go.Proofs.YtaflcbdbacogeaaDoor
open Go.RowKit

attribute [local go_sem] ExtOf.cell ExtOf.frozen ExtS.cell ExtS.frozen Block.cell Block.frozen ExtB.cell ExtB.frozen alloc_cell alloc_frozen
set_option maxHeartbeats 400000 in
theorem ssize_any (a b : Int) (w : World) (h0 : 0 ≤ a) (h1 : a ≤ b) (h2 : b ≤ 4294967296) :
    Calls Tryd.prog 38 #[.agg #[.int .i64 a, .int .i64 b]] w fun e w' => e = .returned (.int .u64 (b - a)) ∧ ∃ n : ExtOf w, w' = n.val := by
  by_cases c : a < b
  · go_enter Tryd.func38, Tryd.ntmps38
    go_wp2
    go_ret
    refine ⟨ret_int ?_, ?_⟩
    · simp [IntKind.wrap, IntKind.signed, IntKind.bits] <;> omega
    · exact ExtOf.of (by repeat' (first | (with_reducible exact Ext.refl _) | (with_reducible exact ExtOf.ext _) | (with_reducible refine Ext.trans ?_ (ExtOf.ext _)) | (with_reducible refine Ext.alloc ?_ _) | (with_reducible refine Ext.drew ?_) | (with_reducible refine Ext.setCell ?_ ?_ _) | (with_reducible refine Ext.setRow ?_ ?_ _) | (with_reducible exact HX.out) | (with_reducible refine Ext.trans ?_ HX.out) | (with_reducible refine Ext.below ?_ (Nat.le_refl _) _) | omega | (simp; done) | (simp; omega)))
  · obtain rfl : a = b := by omega
    go_enter Tryd.func38, Tryd.ntmps38
    go_wp2
    go_ret
    refine ⟨ret_int ?_, ?_⟩
    · omega
    · exact ExtOf.of (by repeat' (first | (with_reducible exact Ext.refl _) | (with_reducible exact ExtOf.ext _) | (with_reducible refine Ext.trans ?_ (ExtOf.ext _)) | (with_reducible refine Ext.alloc ?_ _) | (with_reducible refine Ext.drew ?_) | (with_reducible refine Ext.setCell ?_ ?_ _) | (with_reducible refine Ext.setRow ?_ ?_ _) | (with_reducible exact HX.out) | (with_reducible refine Ext.trans ?_ HX.out) | (with_reducible refine Ext.below ?_ (Nat.le_refl _) _) | omega | (simp; done) | (simp; omega)))
set_option maxHeartbeats 400000 in
theorem limited_any (n : Int) (w : World) (h0 : 0 ≤ n) (h1 : n ≤ 4294967296) :
    Calls Tryd.prog 37 #[.int .u64 n] w fun e w' => e = .returned (.int .i64 n) ∧ ∃ n : ExtOf w, w' = n.val := by
  go_enter Tryd.func37, Tryd.ntmps37
  go_wp2
  all_goals
    go_ret
    refine ⟨ret_int ?_, ?_⟩
    · omega
    · exact ExtOf.of (by repeat' (first | (with_reducible exact Ext.refl _) | (with_reducible exact ExtOf.ext _) | (with_reducible refine Ext.trans ?_ (ExtOf.ext _)) | (with_reducible refine Ext.alloc ?_ _) | (with_reducible refine Ext.drew ?_) | (with_reducible refine Ext.setCell ?_ ?_ _) | (with_reducible refine Ext.setRow ?_ ?_ _) | (with_reducible exact HX.out) | (with_reducible refine Ext.trans ?_ HX.out) | (with_reducible refine Ext.below ?_ (Nat.le_refl _) _) | omega | (simp; done) | (simp; omega)))
set_option maxHeartbeats 400000 in
theorem slen_any (a b : Int) (w : World) (h0 : 0 ≤ a) (h1 : a ≤ b) (h2 : b ≤ 4294967296) :
    Calls Tryd.prog 24 #[.agg #[.int .i64 a, .int .i64 b]] w fun e w' => e = .returned (.int .i64 (b - a)) ∧ ∃ n : ExtOf w, w' = n.val := by
  go_enter Tryd.func24, Tryd.ntmps24
  go_wp2_with (first | (go_at_call 38; refine (ssize_any a b _ h0 h1 h2).mono ?_; rintro e w' ⟨rfl, n, rfl⟩) | (go_at_call 37; refine (limited_any _ _ (by omega) (by omega)).mono ?_; rintro e w' ⟨rfl, n, rfl⟩))
  go_ret
  refine ⟨rfl, ?_⟩
  exact ExtOf.of (by repeat' (first | (with_reducible exact Ext.refl _) | (with_reducible exact ExtOf.ext _) | (with_reducible refine Ext.trans ?_ (ExtOf.ext _)) | (with_reducible refine Ext.alloc ?_ _) | (with_reducible refine Ext.drew ?_) | (with_reducible refine Ext.setCell ?_ ?_ _) | (with_reducible refine Ext.setRow ?_ ?_ _) | (with_reducible exact HX.out) | (with_reducible refine Ext.trans ?_ HX.out) | (with_reducible refine Ext.below ?_ (Nat.le_refl _) _) | omega | (simp; done) | (simp; omega)))
set_option maxHeartbeats 400000 in
theorem rlen_any (a b : Int) (w : World) (h0 : 0 ≤ a) (h1 : a ≤ b) (h2 : b ≤ 4294967296) :
    Calls Tryd.prog 42 #[.agg #[.int .i64 a, .int .i64 b]] w fun e w' => e = .returned (.int .i64 (b - a)) ∧ ∃ n : ExtOf w, w' = n.val := by
  have c3 : decide (a < 0) = false := by simp; omega
  go_enter Tryd.func42, Tryd.ntmps42
  go_wp2
  all_goals
    go_ret
    refine ⟨ret_int ?_, ?_⟩
    · omega
    · exact ExtOf.of (by repeat' (first | (with_reducible exact Ext.refl _) | (with_reducible exact ExtOf.ext _) | (with_reducible refine Ext.trans ?_ (ExtOf.ext _)) | (with_reducible refine Ext.alloc ?_ _) | (with_reducible refine Ext.drew ?_) | (with_reducible refine Ext.setCell ?_ ?_ _) | (with_reducible refine Ext.setRow ?_ ?_ _) | (with_reducible exact HX.out) | (with_reducible refine Ext.trans ?_ HX.out) | (with_reducible refine Ext.below ?_ (Nat.le_refl _) _) | omega | (simp; done) | (simp; omega)))
def okN (n : Int) : Bool := decide (0 ≤ n) && decide (n ≤ 2305843009213693952)
def okV (n : Int) : Bool := decide (-2305843009213693952 ≤ n) && decide (n ≤ 2305843009213693952)
def okY (y : Y5) : Bool := okN y.lg && okN y.bo && okN y.ch && okN y.du && okV y.va
def sumY (a b : Y5) : Y5 := ⟨a.lg + b.lg, a.bo + b.bo, a.ch + b.ch, a.du + b.du, a.va + b.va⟩
def zeroY : Y5 := ⟨0, 0, 0, 0, 0⟩
def addY (a b : Y5) : Y5 := if okY a && okY b then sumY a b else zeroY
def addE (a b : Y5) : Int := if okY a && okY b then 0 else 9
theorem okN_iff {n : Int} : okN n = true ↔ 0 ≤ n ∧ n ≤ 2305843009213693952 := by simp [okN]
theorem okV_iff {n : Int} : okV n = true ↔ -2305843009213693952 ≤ n ∧ n ≤ 2305843009213693952 := by simp [okV]
theorem okY_iff {y : Y5} : okY y = true ↔ okN y.lg = true ∧ okN y.bo = true ∧ okN y.ch = true ∧ okN y.du = true ∧ okV y.va = true := by simp [okY, Bool.and_eq_true, and_assoc]
set_option maxHeartbeats 400000 in
theorem rfits_any (n : Int) (w : World) : Calls Tryd.prog 61 #[.int .i64 n] w fun e w' => e = .returned (.bool (okN n)) ∧ ∃ n : ExtOf w, w' = n.val := by
  go_enter Tryd.func61, Tryd.ntmps61
  go_wp2
  all_goals
    go_ret
    refine ⟨ret_bool ?_, ?_⟩
    · simp [okN, *]; try omega
    · exact ExtOf.of (by repeat' (first | (with_reducible exact Ext.refl _) | (with_reducible exact ExtOf.ext _) | (with_reducible refine Ext.trans ?_ (ExtOf.ext _)) | (with_reducible refine Ext.alloc ?_ _) | (with_reducible refine Ext.drew ?_) | (with_reducible refine Ext.setCell ?_ ?_ _) | (with_reducible refine Ext.setRow ?_ ?_ _) | (with_reducible exact HX.out) | (with_reducible refine Ext.trans ?_ HX.out) | (with_reducible refine Ext.below ?_ (Nat.le_refl _) _) | omega | (simp; done) | (simp; omega)))
set_option maxHeartbeats 1600000 in
theorem rvalid_any (y : Y5) (w : World) : Calls Tryd.prog 46 #[.agg #[.int .i64 y.lg, .int .i64 y.bo, .int .i64 y.ch, .int .i64 y.du, .int .i64 y.va]] w fun e w' => e = .returned (.bool (okY y)) ∧ ∃ n : ExtOf w, w' = n.val := by
  obtain ⟨lg, bo, ch, du, va⟩ := y
  simp only
  rcases h1 : okN lg with _ | _
  · go_enter Tryd.func46, Tryd.ntmps46
    go_wp2_with (first | (go_at_call 61; refine (rfits_any _ _).mono ?_; rintro e w' ⟨rfl, n, rfl⟩))
    all_goals
      go_ret
      refine ⟨ret_bool ?_, ?_⟩
      · simp [okY, okV, *]
      · exact ExtOf.of (by repeat' (first | (with_reducible exact Ext.refl _) | (with_reducible exact ExtOf.ext _) | (with_reducible refine Ext.trans ?_ (ExtOf.ext _)) | (with_reducible refine Ext.alloc ?_ _) | (with_reducible refine Ext.drew ?_) | (with_reducible refine Ext.setCell ?_ ?_ _) | (with_reducible refine Ext.setRow ?_ ?_ _) | (with_reducible exact HX.out) | (with_reducible refine Ext.trans ?_ HX.out) | (with_reducible refine Ext.below ?_ (Nat.le_refl _) _) | omega | (simp; done) | (simp; omega)))
  · rcases h2 : okN bo with _ | _
    · go_enter Tryd.func46, Tryd.ntmps46
      go_wp2_with (first | (go_at_call 61; refine (rfits_any _ _).mono ?_; rintro e w' ⟨rfl, n, rfl⟩))
      all_goals
        go_ret
        refine ⟨ret_bool ?_, ?_⟩
        · simp [okY, okV, *]
        · exact ExtOf.of (by repeat' (first | (with_reducible exact Ext.refl _) | (with_reducible exact ExtOf.ext _) | (with_reducible refine Ext.trans ?_ (ExtOf.ext _)) | (with_reducible refine Ext.alloc ?_ _) | (with_reducible refine Ext.drew ?_) | (with_reducible refine Ext.setCell ?_ ?_ _) | (with_reducible refine Ext.setRow ?_ ?_ _) | (with_reducible exact HX.out) | (with_reducible refine Ext.trans ?_ HX.out) | (with_reducible refine Ext.below ?_ (Nat.le_refl _) _) | omega | (simp; done) | (simp; omega)))
    · rcases h3 : okN ch with _ | _
      · go_enter Tryd.func46, Tryd.ntmps46
        go_wp2_with (first | (go_at_call 61; refine (rfits_any _ _).mono ?_; rintro e w' ⟨rfl, n, rfl⟩))
        all_goals
          go_ret
          refine ⟨ret_bool ?_, ?_⟩
          · simp [okY, okV, *]
          · exact ExtOf.of (by repeat' (first | (with_reducible exact Ext.refl _) | (with_reducible exact ExtOf.ext _) | (with_reducible refine Ext.trans ?_ (ExtOf.ext _)) | (with_reducible refine Ext.alloc ?_ _) | (with_reducible refine Ext.drew ?_) | (with_reducible refine Ext.setCell ?_ ?_ _) | (with_reducible refine Ext.setRow ?_ ?_ _) | (with_reducible exact HX.out) | (with_reducible refine Ext.trans ?_ HX.out) | (with_reducible refine Ext.below ?_ (Nat.le_refl _) _) | omega | (simp; done) | (simp; omega)))
      · rcases h4 : okN du with _ | _
        · go_enter Tryd.func46, Tryd.ntmps46
          go_wp2_with (first | (go_at_call 61; refine (rfits_any _ _).mono ?_; rintro e w' ⟨rfl, n, rfl⟩))
          all_goals
            go_ret
            refine ⟨ret_bool ?_, ?_⟩
            · simp [okY, okV, *]
            · exact ExtOf.of (by repeat' (first | (with_reducible exact Ext.refl _) | (with_reducible exact ExtOf.ext _) | (with_reducible refine Ext.trans ?_ (ExtOf.ext _)) | (with_reducible refine Ext.alloc ?_ _) | (with_reducible refine Ext.drew ?_) | (with_reducible refine Ext.setCell ?_ ?_ _) | (with_reducible refine Ext.setRow ?_ ?_ _) | (with_reducible exact HX.out) | (with_reducible refine Ext.trans ?_ HX.out) | (with_reducible refine Ext.below ?_ (Nat.le_refl _) _) | omega | (simp; done) | (simp; omega)))
        · rcases h5 : decide (-2305843009213693952 ≤ va) with _ | _
          · go_enter Tryd.func46, Tryd.ntmps46
            go_wp2_with (first | (go_at_call 61; refine (rfits_any _ _).mono ?_; rintro e w' ⟨rfl, n, rfl⟩))
            all_goals
              go_ret
              refine ⟨ret_bool ?_, ?_⟩
              · simp [okY, okV, *]
              · exact ExtOf.of (by repeat' (first | (with_reducible exact Ext.refl _) | (with_reducible exact ExtOf.ext _) | (with_reducible refine Ext.trans ?_ (ExtOf.ext _)) | (with_reducible refine Ext.alloc ?_ _) | (with_reducible refine Ext.drew ?_) | (with_reducible refine Ext.setCell ?_ ?_ _) | (with_reducible refine Ext.setRow ?_ ?_ _) | (with_reducible exact HX.out) | (with_reducible refine Ext.trans ?_ HX.out) | (with_reducible refine Ext.below ?_ (Nat.le_refl _) _) | omega | (simp; done) | (simp; omega)))
          · go_enter Tryd.func46, Tryd.ntmps46
            go_wp2_with (first | (go_at_call 61; refine (rfits_any _ _).mono ?_; rintro e w' ⟨rfl, n, rfl⟩))
            all_goals
              go_ret
              refine ⟨ret_bool ?_, ?_⟩
              · simp [okY, okV, *]
              · exact ExtOf.of (by repeat' (first | (with_reducible exact Ext.refl _) | (with_reducible exact ExtOf.ext _) | (with_reducible refine Ext.trans ?_ (ExtOf.ext _)) | (with_reducible refine Ext.alloc ?_ _) | (with_reducible refine Ext.drew ?_) | (with_reducible refine Ext.setCell ?_ ?_ _) | (with_reducible refine Ext.setRow ?_ ?_ _) | (with_reducible exact HX.out) | (with_reducible refine Ext.trans ?_ HX.out) | (with_reducible refine Ext.below ?_ (Nat.le_refl _) _) | omega | (simp; done) | (simp; omega)))
set_option maxRecDepth 20000 in
set_option maxHeartbeats 1600000 in
theorem radd_any (a b : Y5) (w : World) : Calls Tryd.prog 33 #[.agg #[.int .i64 a.lg, .int .i64 a.bo, .int .i64 a.ch, .int .i64 a.du, .int .i64 a.va], .agg #[.int .i64 b.lg, .int .i64 b.bo, .int .i64 b.ch, .int .i64 b.du, .int .i64 b.va]] w fun e w' => e = .returned (.tuple #[.agg #[.int .i64 (addY a b).lg, .int .i64 (addY a b).bo, .int .i64 (addY a b).ch, .int .i64 (addY a b).du, .int .i64 (addY a b).va], .int .i64 (addE a b)]) ∧ ∃ n : ExtOf w, w' = n.val := by
  obtain ⟨a1, a2, a3, a4, a5⟩ := a
  obtain ⟨b1, b2, b3, b4, b5⟩ := b
  simp only
  rcases h1 : okY ⟨a1, a2, a3, a4, a5⟩ with _ | _
  · go_enter Tryd.func33, Tryd.ntmps33
    go_wp2_with (first | ((with_reducible apply wl_load' lwY); (· (first | exact wanted_none rfl | exact wanted_some rfl rfl rfl)); (· rfl); (· infer_instance); (· rfl)) | ((with_reducible apply wl_store' lwY); (· (first | exact wanted_none rfl | exact wanted_some rfl rfl rfl)); (· rfl); (· rfl); (· infer_instance); (· rfl); (· rfl); (· (simp [Value.oneCell'])); try simp only [setRow_alloc, setRow_new, setRow_new1, setRow_new2, setRow_new11, setRow_new111]) | (go_at_call 46; refine (rvalid_any ⟨_, _, _, _, _⟩ _).mono ?_; rintro e w' ⟨rfl, n, rfl⟩))
    refine bodyPost_ret (results_cs (b0 := w.heap.size + 1 + 1) rfl lwY rfl rfl inferInstance rfl) rfl ⟨?_, ?_⟩
    · simp [addY, addE, sumY, zeroY, *]
    · exact ExtOf.of (by repeat' (first | (with_reducible exact Ext.refl _) | (with_reducible exact ExtOf.ext _) | (with_reducible refine Ext.trans ?_ (ExtOf.ext _)) | (with_reducible refine Ext.alloc ?_ _) | (with_reducible refine Ext.drew ?_) | (with_reducible refine Ext.setCell ?_ ?_ _) | (with_reducible refine Ext.setRow ?_ ?_ _) | (with_reducible exact HX.out) | (with_reducible refine Ext.trans ?_ HX.out) | (with_reducible refine Ext.below ?_ (Nat.le_refl _) _) | omega | (simp; done) | (simp; omega)))
  · rcases h2 : okY ⟨b1, b2, b3, b4, b5⟩ with _ | _
    · go_enter Tryd.func33, Tryd.ntmps33
      go_wp2_with (first | ((with_reducible apply wl_load' lwY); (· (first | exact wanted_none rfl | exact wanted_some rfl rfl rfl)); (· rfl); (· infer_instance); (· rfl)) | ((with_reducible apply wl_store' lwY); (· (first | exact wanted_none rfl | exact wanted_some rfl rfl rfl)); (· rfl); (· rfl); (· infer_instance); (· rfl); (· rfl); (· (simp [Value.oneCell'])); try simp only [setRow_alloc, setRow_new, setRow_new1, setRow_new2, setRow_new11, setRow_new111]) | (go_at_call 46; refine (rvalid_any ⟨_, _, _, _, _⟩ _).mono ?_; rintro e w' ⟨rfl, n, rfl⟩))
      refine bodyPost_ret (results_cs (b0 := w.heap.size + 1 + 1) rfl lwY rfl rfl inferInstance rfl) rfl ⟨?_, ?_⟩
      · simp [addY, addE, sumY, zeroY, *]
      · exact ExtOf.of (by repeat' (first | (with_reducible exact Ext.refl _) | (with_reducible exact ExtOf.ext _) | (with_reducible refine Ext.trans ?_ (ExtOf.ext _)) | (with_reducible refine Ext.alloc ?_ _) | (with_reducible refine Ext.drew ?_) | (with_reducible refine Ext.setCell ?_ ?_ _) | (with_reducible refine Ext.setRow ?_ ?_ _) | (with_reducible exact HX.out) | (with_reducible refine Ext.trans ?_ HX.out) | (with_reducible refine Ext.below ?_ (Nat.le_refl _) _) | omega | (simp; done) | (simp; omega)))
    · obtain ⟨g1, g2, g3, g4, g5⟩ := okY_iff.1 h1
      obtain ⟨k1, k2, k3, k4, k5⟩ := okY_iff.1 h2
      simp only [okN_iff, okV_iff] at g1 g2 g3 g4 g5 k1 k2 k3 k4 k5
      obtain ⟨g1, g1'⟩ := g1
      obtain ⟨g2, g2'⟩ := g2
      obtain ⟨g3, g3'⟩ := g3
      obtain ⟨g4, g4'⟩ := g4
      obtain ⟨g5, g5'⟩ := g5
      obtain ⟨k1, k1'⟩ := k1
      obtain ⟨k2, k2'⟩ := k2
      obtain ⟨k3, k3'⟩ := k3
      obtain ⟨k4, k4'⟩ := k4
      obtain ⟨k5, k5'⟩ := k5
      go_enter Tryd.func33, Tryd.ntmps33
      go_wp2_with (first | ((with_reducible apply wl_load' lwY); (· (first | exact wanted_none rfl | exact wanted_some rfl rfl rfl)); (· rfl); (· infer_instance); (· rfl)) | ((with_reducible apply wl_store' lwY); (· (first | exact wanted_none rfl | exact wanted_some rfl rfl rfl)); (· rfl); (· rfl); (· infer_instance); (· rfl); (· rfl); (· (simp [Value.oneCell'])); try simp only [setRow_alloc, setRow_new, setRow_new1, setRow_new2, setRow_new11, setRow_new111]) | (go_at_call 46; refine (rvalid_any ⟨_, _, _, _, _⟩ _).mono ?_; rintro e w' ⟨rfl, n, rfl⟩))
      refine bodyPost_ret (results_cs (b0 := w.heap.size + 1 + 1) rfl lwY rfl rfl inferInstance rfl) rfl ⟨?_, ?_⟩
      · simp [addY, addE, sumY, zeroY, *]
      · exact ExtOf.of (by repeat' (first | (with_reducible exact Ext.refl _) | (with_reducible exact ExtOf.ext _) | (with_reducible refine Ext.trans ?_ (ExtOf.ext _)) | (with_reducible refine Ext.alloc ?_ _) | (with_reducible refine Ext.drew ?_) | (with_reducible refine Ext.setCell ?_ ?_ _) | (with_reducible refine Ext.setRow ?_ ?_ _) | (with_reducible exact HX.out) | (with_reducible refine Ext.trans ?_ HX.out) | (with_reducible refine Ext.below ?_ (Nat.le_refl _) _) | omega | (simp; done) | (simp; omega)))
end Go.Proofs.YtaflcbdbacogeaaDoor
