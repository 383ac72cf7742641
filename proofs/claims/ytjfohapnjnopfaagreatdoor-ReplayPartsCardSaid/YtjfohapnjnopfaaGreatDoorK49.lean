/-
  Chapter 61: several texts in one (R49, R50, R51).
-/
import Derived.Test.YtjfohapnjnopfaaGreatDoorK46
/-
  Chapter 61: the reference's checks of rings: they return.
-/
section
set_option linter.unusedVariables false
set_option linter.unusedSimpArgs false
namespace Go.Proofs.YtjfohapnjnopfaaGreatDoor
open Go.RowKit Go.WideShapes RepM

attribute [local go_sem] ExtOf.cell ExtOf.frozen ExtS.cell ExtS.frozen Block.cell Block.frozen ExtB.cell ExtB.frozen alloc_cell alloc_frozen
theorem equalIn_int (d : Nat) (W : World) (A C : Int) : (Op.equalIn (d + 1) 3 (.int .i64 A) (.int .i64 C)).run Tryz.prog W = .ok (A == C) W := by
  simp [Op.equalIn, run_underlying Tryz.underlying3]
theorem ptPart0 (W : World) (A B : Int) : (Go.part 3 #[.int .i64 A, .int .i64 B] 0).run Tryz.prog W = .ok (.int .i64 A) W := by kernel_rfl
theorem ptPart1 (W : World) (A B : Int) : (Go.part 3 #[.int .i64 A, .int .i64 B] 1).run Tryz.prog W = .ok (.int .i64 B) W := by kernel_rfl
theorem ptStood : Tryz.prog.stoodInHeld 100 = false := by kernel_rfl
theorem ptGuardless : Tryz.prog.eqGuardType Tryz.prog.depth 100 = false := by kernel_rfl
theorem equalIn_pt (d : Nat) (W : World) (A B C D : Int) : (Op.equalIn (d + 2) 100 (.agg #[.int .i64 A, .int .i64 B]) (.agg #[.int .i64 C, .int .i64 D])).run Tryz.prog W = .ok (A == C && B == D) W := by
  unfold Op.equalIn
  simp [run_underlying Tryz.underlying100, equalIn_int, ptPart0, ptPart1, ptStood]
  by_cases h1 : A = C <;> by_cases h2 : B = D <;> simp [h1, h2]
theorem equal_pt (W : World) (A B C D : Int) : (Op.equal 100 (.agg #[.int .i64 A, .int .i64 B]) (.agg #[.int .i64 C, .int .i64 D])).run Tryz.prog W = .ok (A == C && B == D) W := equalIn_pt 9998 W A B C D
theorem equalX_pt (W : World) (A B C D : Int) : (Op.equalIn 10000 100 (.agg #[.int .i64 A, .int .i64 B]) (.agg #[.int .i64 C, .int .i64 D])).run Tryz.prog W = .ok (A == C && B == D) W := equalIn_pt 9998 W A B C D
theorem eqGuard_pt (op : BinOp) (x y : Operand) (a b : Array Value) (W : World) : (eqGuard op 100 x y (.agg a) (.agg b)).run Tryz.prog W = .ok () W := by
  unfold eqGuard
  cases op <;> simp [program, Sem.run, ptGuardless, Sem.run_bind]
attribute [local go_sem] equal_pt equalX_pt eqGuard_pt
theorem lwRead : Whole Tryz.prog 102 3 := whole_of Tryz.underlying102 rfl (by kernel_rfl)
theorem midRead : Mid Tryz.prog 102 3 := mid_of Tryz.underlying102 rfl (by kernel_rfl)
theorem midPoint : Mid Tryz.prog 100 2 := mid_of Tryz.underlying100 rfl (by kernel_rfl)
theorem lwRing : Whole Tryz.prog 98 2 := whole_of Tryz.underlying98 rfl (by kernel_rfl)
theorem midRing : Mid Tryz.prog 98 2 := mid_of Tryz.underlying98 rfl (by kernel_rfl)
theorem lwScan : Whole Tryz.prog 93 2 := whole_of Tryz.underlying93 rfl (by kernel_rfl)
/-- some integer is handed back -/
def SomeR (w : World) (en : Ending) (w' : World) : Prop := (∃ n : Int, en = .returned (.int .i64 n)) ∧ ∃ m : ExtOf w, w' = m.val
/-- some truth value is handed back -/
def SomeB (w : World) (en : Ending) (w' : World) : Prop := (∃ c : Bool, en = .returned (.bool c)) ∧ ∃ m : ExtOf w, w' = m.val
set_option maxHeartbeats 1600000 in
theorem ranged_any (g : Nat) (x y : Int) (w : World) (h : Block w g #[.int .i64 x, .int .i64 y]) : Calls Tryz.prog 133 #[.slice (some ⟨g, 0, none⟩) 1 1] w (SomeB w) := by
  have H := Lib.hid h
  clear h
  go_enter Tryz.func133, Tryz.ntmps133
  go_wp2_with fail
  go_loopw [3] (fun vi wr => ∃ k : Nat, k ≤ 1 ∧ vi = .int .i64 k ∧ Ext w wr) (fun i _ => 1 - (intOf i).toNat)
  case atStart => exact ⟨0, by omega, rfl, Ext.refl _⟩
  case round =>
    obtain ⟨k, hk, rfl, hx⟩ := hrel
    have HX := Lib.hid hx
    have hb := H.out.ext hx
    clear hx
    by_cases hlt : k = 0
    · subst hlt
      go_wp2_with fail
      all_goals first
        | (go_ret; exact ⟨⟨_, rfl⟩, ExtOf.of HX.out⟩)
        | (go_roundw
           case rel => exact ⟨1, by omega, by first | rfl | go_num, HX.out⟩
           case measure => first | decide | (simp [intOf]; done) | (simp [intOf]; omega))
    · obtain rfl : k = 1 := by omega
      go_wp2_with fail
      go_ret
      exact ⟨⟨_, rfl⟩, ExtOf.of HX.out⟩
end Go.Proofs.YtjfohapnjnopfaaGreatDoor
end
/-
  Chapter 61: the reference's check of a ring: it returns.
-/
section
set_option linter.unusedVariables false
set_option linter.unusedSimpArgs false
namespace Go.Proofs.YtjfohapnjnopfaaGreatDoor
open Go.RowKit Go.WideShapes RepM

attribute [local go_sem] ExtOf.cell ExtOf.frozen ExtS.cell ExtS.frozen Block.cell Block.frozen ExtB.cell ExtB.frozen alloc_cell alloc_frozen
attribute [local go_sem] equal_pt equalX_pt eqGuard_pt
set_option maxHeartbeats 3200000 in
set_option maxRecDepth 20000 in
theorem check12_any (z : Int) (v : Value) (rs : List (Int × Int × Bool)) (w : World) (h : SliceOf encR 3 w v rs) : Calls Tryz.prog 117 #[.agg #[.int .i64 z, v]] w (SomeR w) := by
  obtain ⟨p, cap, rfl, hc1, hc2, hc3⟩ := SliceOf.form h
  unfold maxLen at hc2
  have H := Lib.hid h
  clear h
  by_cases h8 : rs.length < 8
  · have d1 : decide ((rs.length : Int) < 8) = true := decide_eq_true (by omega)
    go_enter Tryz.func117, Tryz.ntmps117
    go_wp2_with (first | ((with_reducible apply wl_store' lwRing); (· (first | exact wanted_none rfl | exact wanted_some rfl rfl rfl)); (· rfl); (· rfl); (· infer_instance); (· rfl); (· rfl); (· (simp [Value.oneCell', SlT.v])); try simp only [setRow_alloc, setRow_new, setRow_new1, setRow_new2, setRow_new11, setRow_new111]) | ((with_reducible apply wl_load' lwRing); (· (first | exact wanted_none rfl | exact wanted_some rfl rfl rfl)); (· rfl); (· infer_instance); (· rfl)))
    (go_ret; exact ⟨⟨_, rfl⟩, by exact ExtOf.of (by repeat' (first | (with_reducible exact Ext.refl _) | (with_reducible exact ExtOf.ext _) | (with_reducible refine Ext.trans ?_ (ExtOf.ext _)) | (with_reducible refine Ext.alloc ?_ _) | (with_reducible refine Ext.drew ?_) | (with_reducible refine Ext.setCell ?_ ?_ _) | (with_reducible refine Ext.setRow ?_ ?_ _) | (with_reducible exact HX.out) | (with_reducible refine Ext.trans ?_ HX.out) | (with_reducible refine Ext.below ?_ (Nat.le_refl _) _) | omega | (simp; done) | (simp; omega)))⟩)
  have d1 : decide ((rs.length : Int) < 8) = false := decide_eq_false (by omega)
  by_cases h32 : 32 < rs.length
  · have d2 : decide (32 < (rs.length : Int)) = true := decide_eq_true (by omega)
    go_enter Tryz.func117, Tryz.ntmps117
    go_wp2_with (first | ((with_reducible apply wl_store' lwRing); (· (first | exact wanted_none rfl | exact wanted_some rfl rfl rfl)); (· rfl); (· rfl); (· infer_instance); (· rfl); (· rfl); (· (simp [Value.oneCell', SlT.v])); try simp only [setRow_alloc, setRow_new, setRow_new1, setRow_new2, setRow_new11, setRow_new111]) | ((with_reducible apply wl_load' lwRing); (· (first | exact wanted_none rfl | exact wanted_some rfl rfl rfl)); (· rfl); (· infer_instance); (· rfl)))
    (go_ret; exact ⟨⟨_, rfl⟩, by exact ExtOf.of (by repeat' (first | (with_reducible exact Ext.refl _) | (with_reducible exact ExtOf.ext _) | (with_reducible refine Ext.trans ?_ (ExtOf.ext _)) | (with_reducible refine Ext.alloc ?_ _) | (with_reducible refine Ext.drew ?_) | (with_reducible refine Ext.setCell ?_ ?_ _) | (with_reducible refine Ext.setRow ?_ ?_ _) | (with_reducible exact HX.out) | (with_reducible refine Ext.trans ?_ HX.out) | (with_reducible refine Ext.below ?_ (Nat.le_refl _) _) | omega | (simp; done) | (simp; omega)))⟩)
  have d2 : decide (32 < (rs.length : Int)) = false := decide_eq_false (by omega)
  by_cases hz : z < 0
  · have d3 : decide (z < 0) = true := decide_eq_true hz
    go_enter Tryz.func117, Tryz.ntmps117
    go_wp2_with (first | ((with_reducible apply wl_store' lwRing); (· (first | exact wanted_none rfl | exact wanted_some rfl rfl rfl)); (· rfl); (· rfl); (· infer_instance); (· rfl); (· rfl); (· (simp [Value.oneCell', SlT.v])); try simp only [setRow_alloc, setRow_new, setRow_new1, setRow_new2, setRow_new11, setRow_new111]) | ((with_reducible apply wl_load' lwRing); (· (first | exact wanted_none rfl | exact wanted_some rfl rfl rfl)); (· rfl); (· infer_instance); (· rfl)))
    (go_ret; exact ⟨⟨_, rfl⟩, by exact ExtOf.of (by repeat' (first | (with_reducible exact Ext.refl _) | (with_reducible exact ExtOf.ext _) | (with_reducible refine Ext.trans ?_ (ExtOf.ext _)) | (with_reducible refine Ext.alloc ?_ _) | (with_reducible refine Ext.drew ?_) | (with_reducible refine Ext.setCell ?_ ?_ _) | (with_reducible refine Ext.setRow ?_ ?_ _) | (with_reducible exact HX.out) | (with_reducible refine Ext.trans ?_ HX.out) | (with_reducible refine Ext.below ?_ (Nat.le_refl _) _) | omega | (simp; done) | (simp; omega)))⟩)
  have d3 : decide (z < 0) = false := decide_eq_false hz
  by_cases hz2 : 20000 < z
  · have d4 : decide (20000 < z) = true := decide_eq_true hz2
    go_enter Tryz.func117, Tryz.ntmps117
    go_wp2_with (first | ((with_reducible apply wl_store' lwRing); (· (first | exact wanted_none rfl | exact wanted_some rfl rfl rfl)); (· rfl); (· rfl); (· infer_instance); (· rfl); (· rfl); (· (simp [Value.oneCell', SlT.v])); try simp only [setRow_alloc, setRow_new, setRow_new1, setRow_new2, setRow_new11, setRow_new111]) | ((with_reducible apply wl_load' lwRing); (· (first | exact wanted_none rfl | exact wanted_some rfl rfl rfl)); (· rfl); (· infer_instance); (· rfl)))
    (go_ret; exact ⟨⟨_, rfl⟩, by exact ExtOf.of (by repeat' (first | (with_reducible exact Ext.refl _) | (with_reducible exact ExtOf.ext _) | (with_reducible refine Ext.trans ?_ (ExtOf.ext _)) | (with_reducible refine Ext.alloc ?_ _) | (with_reducible refine Ext.drew ?_) | (with_reducible refine Ext.setCell ?_ ?_ _) | (with_reducible refine Ext.setRow ?_ ?_ _) | (with_reducible exact HX.out) | (with_reducible refine Ext.trans ?_ HX.out) | (with_reducible refine Ext.below ?_ (Nat.le_refl _) _) | omega | (simp; done) | (simp; omega)))⟩)
  have d4 : decide (20000 < z) = false := decide_eq_false hz2
  clear hz hz2 h8
  go_enter Tryz.func117, Tryz.ntmps117
  go_wp2_with (first | ((with_reducible apply wl_store' lwRing); (· (first | exact wanted_none rfl | exact wanted_some rfl rfl rfl)); (· rfl); (· rfl); (· infer_instance); (· rfl); (· rfl); (· (simp [Value.oneCell', SlT.v])); try simp only [setRow_alloc, setRow_new, setRow_new1, setRow_new2, setRow_new11, setRow_new111]) | ((with_reducible apply wl_load' lwRing); (· (first | exact wanted_none rfl | exact wanted_some rfl rfl rfl)); (· rfl); (· infer_instance); (· rfl)))
  go_loopw [3] (fun vi wr => ∃ k : Nat, k ≤ rs.length ∧ vi = .int .i64 k ∧ Block wr w.heap.size #[.int .i64 z, .slice p rs.length cap] ∧ Ext w wr) (fun i _ => rs.length - (intOf i).toNat)
  case atStart => exact ⟨0, by omega, rfl, inferInstance, by repeat' (first | (with_reducible exact Ext.refl _) | (with_reducible exact ExtOf.ext _) | (with_reducible refine Ext.trans ?_ (ExtOf.ext _)) | (with_reducible refine Ext.alloc ?_ _) | (with_reducible refine Ext.drew ?_) | (with_reducible refine Ext.setCell ?_ ?_ _) | (with_reducible refine Ext.setRow ?_ ?_ _) | (with_reducible exact HX.out) | (with_reducible refine Ext.trans ?_ HX.out) | (with_reducible refine Ext.below ?_ (Nat.le_refl _) _) | omega | (simp; done) | (simp; omega))⟩
  case round =>
    obtain ⟨k, hk, rfl, hb, hx⟩ := hrel
    have HX := Lib.hid hx
    clear hx
    by_cases hlt : k < rs.length
    · obtain ⟨b, off, rfl, hr⟩ := SliceOf.elemK (SliceOf.ext H.out HX.out) hlt
      obtain ⟨⟨x, y, ok⟩, he⟩ : ∃ r, r = rs[k] := ⟨_, rfl⟩
      rw [← he] at hr
      have HR : Hid (wr.rangeAt b (off + k * 3) [.int .i64 x, .int .i64 y, .bool ok]) := Lib.hid hr
      clear hr he
      have hb2 : Block (wr.alloc (.cells #[.int .i64 x, .int .i64 y, .bool ok] 102)) w.heap.size #[.int .i64 z, .slice (some ⟨b, off, none⟩) rs.length cap] := inferInstance
      cases ok
      · go_wp2_with (first | ((with_reducible refine wl_loadM midRead (Ext.range ?_ (Hid.out HR)) ?_ ?_ ?_ ?_); (· repeat' (first | (with_reducible exact Ext.refl _) | (with_reducible exact ExtOf.ext _) | (with_reducible refine Ext.trans ?_ (ExtOf.ext _)) | (with_reducible refine Ext.alloc ?_ _) | (with_reducible refine Ext.drew ?_) | (with_reducible refine Ext.setCell ?_ ?_ _) | (with_reducible refine Ext.setRow ?_ ?_ _) | (with_reducible exact HX.out) | (with_reducible refine Ext.trans ?_ HX.out) | (with_reducible refine Ext.below ?_ (Nat.le_refl _) _) | omega | (simp; done) | (simp; omega))); (· rfl); (· (first | exact wanted_none rfl | exact wanted_some rfl rfl rfl)); (· rfl)) | ((with_reducible apply wl_store' lwRead); (· (first | exact wanted_none rfl | exact wanted_some rfl rfl rfl)); (· rfl); (· rfl); (· infer_instance); (· rfl); (· rfl); (· (simp [Value.oneCell', SlT.v])); try simp only [setRow_alloc, setRow_new, setRow_new1, setRow_new2, setRow_new11, setRow_new111]) | ((with_reducible apply wl_load' lwRead); (· (first | exact wanted_none rfl | exact wanted_some rfl rfl rfl)); (· rfl); (· infer_instance); (· rfl)) | ((with_reducible apply wl_loadB midPoint); (· (first | exact wanted_none rfl | exact wanted_some rfl rfl rfl)); (· rfl); (· infer_instance); (· rfl); (· rfl)))
        all_goals first
          | (go_ret; exact ⟨⟨_, rfl⟩, by exact ExtOf.of (by repeat' (first | (with_reducible exact Ext.refl _) | (with_reducible exact ExtOf.ext _) | (with_reducible refine Ext.trans ?_ (ExtOf.ext _)) | (with_reducible refine Ext.alloc ?_ _) | (with_reducible refine Ext.drew ?_) | (with_reducible refine Ext.setCell ?_ ?_ _) | (with_reducible refine Ext.setRow ?_ ?_ _) | (with_reducible exact HX.out) | (with_reducible refine Ext.trans ?_ HX.out) | (with_reducible refine Ext.below ?_ (Nat.le_refl _) _) | omega | (simp; done) | (simp; omega)))⟩)
          | (go_roundw
             case rel => exact ⟨k + 1, by omega, by first | rfl | go_num, inferInstance, HX.out.trans (by repeat' (first | (with_reducible exact Ext.refl _) | (with_reducible exact ExtOf.ext _) | (with_reducible refine Ext.trans ?_ (ExtOf.ext _)) | (with_reducible refine Ext.alloc ?_ _) | (with_reducible refine Ext.drew ?_) | (with_reducible refine Ext.setCell ?_ ?_ _) | (with_reducible refine Ext.setRow ?_ ?_ _) | (with_reducible exact HX.out) | (with_reducible refine Ext.trans ?_ HX.out) | (with_reducible refine Ext.below ?_ (Nat.le_refl _) _) | omega | (simp; done) | (simp; omega)))⟩
             case measure => simp [intOf]; omega)
      · go_wp2_with (first | ((with_reducible refine wl_loadM midRead (Ext.range ?_ (Hid.out HR)) ?_ ?_ ?_ ?_); (· repeat' (first | (with_reducible exact Ext.refl _) | (with_reducible exact ExtOf.ext _) | (with_reducible refine Ext.trans ?_ (ExtOf.ext _)) | (with_reducible refine Ext.alloc ?_ _) | (with_reducible refine Ext.drew ?_) | (with_reducible refine Ext.setCell ?_ ?_ _) | (with_reducible refine Ext.setRow ?_ ?_ _) | (with_reducible exact HX.out) | (with_reducible refine Ext.trans ?_ HX.out) | (with_reducible refine Ext.below ?_ (Nat.le_refl _) _) | omega | (simp; done) | (simp; omega))); (· rfl); (· (first | exact wanted_none rfl | exact wanted_some rfl rfl rfl)); (· rfl)) | ((with_reducible apply wl_store' lwRead); (· (first | exact wanted_none rfl | exact wanted_some rfl rfl rfl)); (· rfl); (· rfl); (· infer_instance); (· rfl); (· rfl); (· (simp [Value.oneCell', SlT.v])); try simp only [setRow_alloc, setRow_new, setRow_new1, setRow_new2, setRow_new11, setRow_new111]) | ((with_reducible apply wl_load' lwRead); (· (first | exact wanted_none rfl | exact wanted_some rfl rfl rfl)); (· rfl); (· infer_instance); (· rfl)) | ((with_reducible apply wl_loadB midPoint); (· (first | exact wanted_none rfl | exact wanted_some rfl rfl rfl)); (· rfl); (· infer_instance); (· rfl); (· rfl)) | (go_at_call 133; refine (ranged_any _ x y _ inferInstance).mono ?_; rintro en w' ⟨⟨cc, rfl⟩, n1, rfl⟩))
        all_goals first
          | (go_ret; exact ⟨⟨_, rfl⟩, by exact ExtOf.of (by repeat' (first | (with_reducible exact Ext.refl _) | (with_reducible exact ExtOf.ext _) | (with_reducible refine Ext.trans ?_ (ExtOf.ext _)) | (with_reducible refine Ext.alloc ?_ _) | (with_reducible refine Ext.drew ?_) | (with_reducible refine Ext.setCell ?_ ?_ _) | (with_reducible refine Ext.setRow ?_ ?_ _) | (with_reducible exact HX.out) | (with_reducible refine Ext.trans ?_ HX.out) | (with_reducible refine Ext.below ?_ (Nat.le_refl _) _) | omega | (simp; done) | (simp; omega)))⟩)
          | (go_roundw
             case rel => exact ⟨k + 1, by omega, by first | rfl | go_num, inferInstance, HX.out.trans (by repeat' (first | (with_reducible exact Ext.refl _) | (with_reducible exact ExtOf.ext _) | (with_reducible refine Ext.trans ?_ (ExtOf.ext _)) | (with_reducible refine Ext.alloc ?_ _) | (with_reducible refine Ext.drew ?_) | (with_reducible refine Ext.setCell ?_ ?_ _) | (with_reducible refine Ext.setRow ?_ ?_ _) | (with_reducible exact HX.out) | (with_reducible refine Ext.trans ?_ HX.out) | (with_reducible refine Ext.below ?_ (Nat.le_refl _) _) | omega | (simp; done) | (simp; omega)))⟩
             case measure => simp [intOf]; omega)
    · obtain rfl : k = rs.length := by omega
      go_wp2_with fail
      (go_ret; exact ⟨⟨_, rfl⟩, by exact ExtOf.of (by repeat' (first | (with_reducible exact Ext.refl _) | (with_reducible exact ExtOf.ext _) | (with_reducible refine Ext.trans ?_ (ExtOf.ext _)) | (with_reducible refine Ext.alloc ?_ _) | (with_reducible refine Ext.drew ?_) | (with_reducible refine Ext.setCell ?_ ?_ _) | (with_reducible refine Ext.setRow ?_ ?_ _) | (with_reducible exact HX.out) | (with_reducible refine Ext.trans ?_ HX.out) | (with_reducible refine Ext.below ?_ (Nat.le_refl _) _) | omega | (simp; done) | (simp; omega)))⟩)
end Go.Proofs.YtjfohapnjnopfaaGreatDoor
end
/-
  Chapter 61: the reference's check of defects: it returns.
-/
section
set_option linter.unusedVariables false
set_option linter.unusedSimpArgs false
namespace Go.Proofs.YtjfohapnjnopfaaGreatDoor
open Go.RowKit Go.WideShapes RepM

attribute [local go_sem] ExtOf.cell ExtOf.frozen ExtS.cell ExtS.frozen Block.cell Block.frozen ExtB.cell ExtB.frozen alloc_cell alloc_frozen
theorem lwBox : Whole Tryz.prog 171 6 := whole_of Tryz.underlying171 rfl (by kernel_rfl)
theorem midBox : Mid Tryz.prog 171 6 := mid_of Tryz.underlying171 rfl (by kernel_rfl)
theorem lwSpan : Whole Tryz.prog 169 2 := whole_of Tryz.underlying169 rfl (by kernel_rfl)
theorem midSpan : Mid Tryz.prog 169 2 := mid_of Tryz.underlying169 rfl (by kernel_rfl)
theorem midDef : Mid Tryz.prog 173 7 := mid_of Tryz.underlying173 rfl (by kernel_rfl)
/-- defects -/
abbrev DfT := Int × Int × Int × Int × Int × Int × Int
def encDf (d : DfT) : List Value := [.int .i64 d.1, .int .i64 d.2.1, .int .i64 d.2.2.1, .int .i64 d.2.2.2.1, .int .i64 d.2.2.2.2.1, .int .i64 d.2.2.2.2.2.1, .int .i64 d.2.2.2.2.2.2]
theorem encDf_len (d : DfT) : (encDf d).length = 7 := rfl
theorem encDf_one : ∀ x : DfT, ∀ u ∈ encDf x, u.oneCell' = true := by
  intro x u hu
  simp [encDf] at hu
  rcases hu with rfl | rfl | rfl | rfl | rfl | rfl | rfl <;> rfl
theorem in_any (a b lo hi : Int) (w : World) : Calls Tryz.prog 139 #[.agg #[.int .i64 a, .int .i64 b], .int .i64 lo, .int .i64 hi] w (SomeB w) := by
  go_enter Tryz.func139, Tryz.ntmps139
  go_wp2_with (first | ((with_reducible apply wl_store' lwSpan); (· (first | exact wanted_none rfl | exact wanted_some rfl rfl rfl)); (· rfl); (· rfl); (· infer_instance); (· rfl); (· rfl); (· (simp [Value.oneCell', SlT.v])); try simp only [setRow_alloc, setRow_new, setRow_new1, setRow_new2, setRow_new11, setRow_new111]) | ((with_reducible apply wl_load' lwSpan); (· (first | exact wanted_none rfl | exact wanted_some rfl rfl rfl)); (· rfl); (· infer_instance); (· rfl)))
  all_goals (go_ret; exact ⟨⟨_, rfl⟩, by exact ExtOf.of (by repeat' (first | (with_reducible exact Ext.refl _) | (with_reducible exact ExtOf.ext _) | (with_reducible refine Ext.trans ?_ (ExtOf.ext _)) | (with_reducible refine Ext.alloc ?_ _) | (with_reducible refine Ext.drew ?_) | (with_reducible refine Ext.setCell ?_ ?_ _) | (with_reducible refine Ext.setRow ?_ ?_ _) | (with_reducible exact HX.out) | (with_reducible refine Ext.trans ?_ HX.out) | (with_reducible refine Ext.below ?_ (Nat.le_refl _) _) | omega | (simp; done) | (simp; omega)))⟩)
set_option maxHeartbeats 1600000 in
theorem empty_any (x1 x2 x3 x4 x5 x6 : Int) (w : World) : Calls Tryz.prog 134 #[.agg #[.int .i64 x1, .int .i64 x2, .int .i64 x3, .int .i64 x4, .int .i64 x5, .int .i64 x6]] w (SomeB w) := by
  go_enter Tryz.func134, Tryz.ntmps134
  go_wp2_with (first | ((with_reducible apply wl_store' lwBox); (· (first | exact wanted_none rfl | exact wanted_some rfl rfl rfl)); (· rfl); (· rfl); (· infer_instance); (· rfl); (· rfl); (· (simp [Value.oneCell', SlT.v])); try simp only [setRow_alloc, setRow_new, setRow_new1, setRow_new2, setRow_new11, setRow_new111]) | ((with_reducible apply wl_load' lwBox); (· (first | exact wanted_none rfl | exact wanted_some rfl rfl rfl)); (· rfl); (· infer_instance); (· rfl)))
  all_goals (go_ret; exact ⟨⟨_, rfl⟩, by exact ExtOf.of (by repeat' (first | (with_reducible exact Ext.refl _) | (with_reducible exact ExtOf.ext _) | (with_reducible refine Ext.trans ?_ (ExtOf.ext _)) | (with_reducible refine Ext.alloc ?_ _) | (with_reducible refine Ext.drew ?_) | (with_reducible refine Ext.setCell ?_ ?_ _) | (with_reducible refine Ext.setRow ?_ ?_ _) | (with_reducible exact HX.out) | (with_reducible refine Ext.trans ?_ HX.out) | (with_reducible refine Ext.below ?_ (Nat.le_refl _) _) | omega | (simp; done) | (simp; omega)))⟩)
set_option maxHeartbeats 1600000 in
theorem ranged13_any (x1 x2 x3 x4 x5 x6 : Int) (w : World) : Calls Tryz.prog 135 #[.agg #[.int .i64 x1, .int .i64 x2, .int .i64 x3, .int .i64 x4, .int .i64 x5, .int .i64 x6]] w (SomeB w) := by
  go_enter Tryz.func135, Tryz.ntmps135
  go_wp2_with (first | ((with_reducible apply wl_store' lwBox); (· (first | exact wanted_none rfl | exact wanted_some rfl rfl rfl)); (· rfl); (· rfl); (· infer_instance); (· rfl); (· rfl); (· (simp [Value.oneCell', SlT.v])); try simp only [setRow_alloc, setRow_new, setRow_new1, setRow_new2, setRow_new11, setRow_new111]) | ((with_reducible apply wl_loadB midSpan); (· (first | exact wanted_none rfl | exact wanted_some rfl rfl rfl)); (· rfl); (· infer_instance); (· rfl); (· rfl)) | (go_at_call 139; refine (in_any _ _ _ _ _).mono ?_; rintro en w' ⟨⟨cc, rfl⟩, n1, rfl⟩; cases cc))
  all_goals (go_ret; exact ⟨⟨_, rfl⟩, by exact ExtOf.of (by repeat' (first | (with_reducible exact Ext.refl _) | (with_reducible exact ExtOf.ext _) | (with_reducible refine Ext.trans ?_ (ExtOf.ext _)) | (with_reducible refine Ext.alloc ?_ _) | (with_reducible refine Ext.drew ?_) | (with_reducible refine Ext.setCell ?_ ?_ _) | (with_reducible refine Ext.setRow ?_ ?_ _) | (with_reducible exact HX.out) | (with_reducible refine Ext.trans ?_ HX.out) | (with_reducible refine Ext.below ?_ (Nat.le_refl _) _) | omega | (simp; done) | (simp; omega)))⟩)
set_option maxHeartbeats 3200000 in
set_option maxRecDepth 20000 in
theorem check13_any (v : Value) (ds : List DfT) (w : World) (h : SliceOf encDf 7 w v ds) : Calls Tryz.prog 118 #[v] w (SomeR w) := by
  obtain ⟨p, cap, rfl, hc1, hc2, hc3⟩ := SliceOf.form h
  unfold maxLen at hc2
  have H := Lib.hid h
  clear h
  by_cases h64 : 64 < ds.length
  · have d1 : decide (64 < (ds.length : Int)) = true := decide_eq_true (by omega)
    go_enter Tryz.func118, Tryz.ntmps118
    go_wp2_with fail
    (go_ret; exact ⟨⟨_, rfl⟩, by exact ExtOf.of (by repeat' (first | (with_reducible exact Ext.refl _) | (with_reducible exact ExtOf.ext _) | (with_reducible refine Ext.trans ?_ (ExtOf.ext _)) | (with_reducible refine Ext.alloc ?_ _) | (with_reducible refine Ext.drew ?_) | (with_reducible refine Ext.setCell ?_ ?_ _) | (with_reducible refine Ext.setRow ?_ ?_ _) | (with_reducible exact HX.out) | (with_reducible refine Ext.trans ?_ HX.out) | (with_reducible refine Ext.below ?_ (Nat.le_refl _) _) | omega | (simp; done) | (simp; omega)))⟩)
  have d1 : decide (64 < (ds.length : Int)) = false := decide_eq_false (by omega)
  go_enter Tryz.func118, Tryz.ntmps118
  go_wp2_with fail
  go_loopw [3] (fun vi wr => ∃ k : Nat, k ≤ ds.length ∧ vi = .int .i64 k ∧ Ext w wr) (fun i _ => ds.length - (intOf i).toNat)
  case atStart => exact ⟨0, by omega, rfl, by repeat' (first | (with_reducible exact Ext.refl _) | (with_reducible exact ExtOf.ext _) | (with_reducible refine Ext.trans ?_ (ExtOf.ext _)) | (with_reducible refine Ext.alloc ?_ _) | (with_reducible refine Ext.drew ?_) | (with_reducible refine Ext.setCell ?_ ?_ _) | (with_reducible refine Ext.setRow ?_ ?_ _) | (with_reducible exact HX.out) | (with_reducible refine Ext.trans ?_ HX.out) | (with_reducible refine Ext.below ?_ (Nat.le_refl _) _) | omega | (simp; done) | (simp; omega))⟩
  case round =>
    obtain ⟨k, hk, rfl, hx⟩ := hrel
    have HX := Lib.hid hx
    clear hx
    by_cases hlt : k < ds.length
    · obtain ⟨b, off, rfl, hr⟩ := SliceOf.elemK (SliceOf.ext H.out HX.out) hlt
      obtain ⟨⟨kd, x1, x2, x3, x4, x5, x6⟩, he⟩ : ∃ r, r = ds[k] := ⟨_, rfl⟩
      rw [← he] at hr
      have hc : wr.cell? ⟨b, off + k * 7, none⟩ = some (.int .i64 kd) := hr 0 _ rfl
      have ob := Old.of_cell hc
      have HR : Hid (wr.rangeAt b (off + k * 7 + 1) [.int .i64 x1, .int .i64 x2, .int .i64 x3, .int .i64 x4, .int .i64 x5, .int .i64 x6]) := Lib.hid (fun j u hj => by
        have := hr (j + 1) u (by simpa [encDf] using hj)
        rwa [show off + k * 7 + 1 + j = off + k * 7 + (j + 1) by omega])
      clear hr he
      go_wp2_with (first | ((with_reducible refine wl_loadM midBox (Ext.range ?_ (Hid.out HR)) ?_ ?_ ?_ ?_); (· repeat' (first | (with_reducible exact Ext.refl _) | (with_reducible exact ExtOf.ext _) | (with_reducible refine Ext.trans ?_ (ExtOf.ext _)) | (with_reducible refine Ext.alloc ?_ _) | (with_reducible refine Ext.drew ?_) | (with_reducible refine Ext.setCell ?_ ?_ _) | (with_reducible refine Ext.setRow ?_ ?_ _) | (with_reducible exact HX.out) | (with_reducible refine Ext.trans ?_ HX.out) | (with_reducible refine Ext.below ?_ (Nat.le_refl _) _) | omega | (simp; done) | (simp; omega))); (· rfl); (· (first | exact wanted_none rfl | exact wanted_some rfl rfl rfl)); (· rfl)) | (go_at_call 134; refine (empty_any _ _ _ _ _ _ _).mono ?_; rintro en w' ⟨⟨cc, rfl⟩, n1, rfl⟩; cases cc) | (go_at_call 135; refine (ranged13_any _ _ _ _ _ _ _).mono ?_; rintro en w' ⟨⟨cc, rfl⟩, n2, rfl⟩; cases cc))
      all_goals first
        | (go_ret; exact ⟨⟨_, rfl⟩, ExtOf.of (HX.out.trans (by repeat' (first | (with_reducible exact Ext.refl _) | (with_reducible exact ExtOf.ext _) | (with_reducible refine Ext.trans ?_ (ExtOf.ext _)) | (with_reducible refine Ext.alloc ?_ _) | (with_reducible refine Ext.drew ?_) | (with_reducible refine Ext.setCell ?_ ?_ _) | (with_reducible refine Ext.setRow ?_ ?_ _) | (with_reducible exact HX.out) | (with_reducible refine Ext.trans ?_ HX.out) | (with_reducible refine Ext.below ?_ (Nat.le_refl _) _) | omega | (simp; done) | (simp; omega))))⟩)
        | (go_roundw
           case rel => exact ⟨k + 1, by omega, by first | rfl | go_num, HX.out.trans (by repeat' (first | (with_reducible exact Ext.refl _) | (with_reducible exact ExtOf.ext _) | (with_reducible refine Ext.trans ?_ (ExtOf.ext _)) | (with_reducible refine Ext.alloc ?_ _) | (with_reducible refine Ext.drew ?_) | (with_reducible refine Ext.setCell ?_ ?_ _) | (with_reducible refine Ext.setRow ?_ ?_ _) | (with_reducible exact HX.out) | (with_reducible refine Ext.trans ?_ HX.out) | (with_reducible refine Ext.below ?_ (Nat.le_refl _) _) | omega | (simp; done) | (simp; omega)))⟩
           case measure => simp [intOf]; omega)
    · obtain rfl : k = ds.length := by omega
      go_wp2_with fail
      (go_ret; exact ⟨⟨_, rfl⟩, by exact ExtOf.of (by repeat' (first | (with_reducible exact Ext.refl _) | (with_reducible exact ExtOf.ext _) | (with_reducible refine Ext.trans ?_ (ExtOf.ext _)) | (with_reducible refine Ext.alloc ?_ _) | (with_reducible refine Ext.drew ?_) | (with_reducible refine Ext.setCell ?_ ?_ _) | (with_reducible refine Ext.setRow ?_ ?_ _) | (with_reducible exact HX.out) | (with_reducible refine Ext.trans ?_ HX.out) | (with_reducible refine Ext.below ?_ (Nat.le_refl _) _) | omega | (simp; done) | (simp; omega)))⟩)
end Go.Proofs.YtjfohapnjnopfaaGreatDoor
end
