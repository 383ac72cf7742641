/-
  The contracts of the functions on spans (3): Same, small.
-/
import Derived.Test.YtfbcaafkekcmbaaW1
namespace Go.Proofs.Ytfbcaafkekcmbaa
open Go.RowKit SpanM

attribute [local go_sem] ExtOf.cell ExtOf.frozen Block.cell Block.frozen ExtB.cell ExtB.frozen alloc_cell alloc_frozen

theorem drop_cons_inj {a b : List Sp} {x y : Sp} {k : Nat} (ha : a.drop k = x :: a.drop (k + 1)) (hb : b.drop k = y :: b.drop (k + 1)) : SpanM.same (a.drop k) (b.drop k) = (decide (x = y) && SpanM.same (a.drop (k + 1)) (b.drop (k + 1))) := by
  unfold SpanM.same
  rw [ha, hb]
  simp

theorem equalIn_int (d : Nat) (W : World) (A C : Int) : (Op.equalIn (d + 1) 3 (.int .i64 A) (.int .i64 C)).run Try.prog W = .ok (A == C) W := by
  simp [Op.equalIn, run_underlying Try.underlying3]
theorem part0 (W : World) (A B : Int) : (part 3 #[.int .i64 A, .int .i64 B] 0).run Try.prog W = .ok (.int .i64 A) W := by kernel_rfl
theorem part1 (W : World) (A B : Int) : (part 3 #[.int .i64 A, .int .i64 B] 1).run Try.prog W = .ok (.int .i64 B) W := by kernel_rfl
theorem stood : Try.prog.stoodInHeld 23 = false := by kernel_rfl
theorem guardless : Try.prog.eqGuardType Try.prog.depth 23 = false := by kernel_rfl
theorem equalIn_span (d : Nat) (W : World) (A B C D : Int) : (Op.equalIn (d + 2) 23 (.agg #[.int .i64 A, .int .i64 B]) (.agg #[.int .i64 C, .int .i64 D])).run Try.prog W = .ok (A == C && B == D) W := by
  unfold Op.equalIn
  simp [run_underlying Try.underlying23, equalIn_int, part0, part1, stood]
  by_cases h1 : A = C <;> by_cases h2 : B = D <;> simp [h1, h2]
theorem equal_span (W : World) (A B C D : Int) : (Op.equal 23 (.agg #[.int .i64 A, .int .i64 B]) (.agg #[.int .i64 C, .int .i64 D])).run Try.prog W = .ok (A == C && B == D) W := equalIn_span 9998 W A B C D
theorem eqGuard_span (op : BinOp) (x y : Operand) (a b : Array Value) (W : World) : (eqGuard op 23 x y (.agg a) (.agg b)).run Try.prog W = .ok () W := by
  unfold eqGuard
  cases op <;> simp [program, Sem.run, guardless, Sem.run_bind]
attribute [local go_sem] equal_span eqGuard_span

set_option maxHeartbeats 800000 in
theorem same_any (p q : Option Addr) (cap cap' : Nat) (a b : List Sp) (w : World) (ha : SpS w (.slice p a.length cap) a) (hb : SpS w (.slice q b.length cap') b) (hla : a.length ≤ 1099511627776) (hlb : b.length ≤ 1099511627776) :
    Calls Try.prog 17 #[.slice p a.length cap, .slice q b.length cap'] w fun e w' => e = .returned (.bool (SpanM.same a b)) ∧ ∃ n : ExtOf w, w' = n.val := by
  have HA := Lib.hid ha
  have HB := Lib.hid hb
  clear ha hb
  rcases hne : ((a.length : Int) != b.length) with _ | _
  · have HE : Hid (a.length = b.length) := Lib.hid (by simp at hne; omega)
    have hne' : (a.length != b.length) = false := by simp [HE.out]
    go_enter Try.func17, Try.ntmps17
    go_wp2
    go_loopw [5] (fun v wr => ∃ (k : Nat), k ≤ a.length ∧ v = .int .i64 k ∧ SpanM.same a b = SpanM.same (a.drop k) (b.drop k) ∧ Ext w wr) (fun v _ => a.length - (intOf v).toNat)
    case atStart => exact ⟨0, by omega, rfl, rfl, Ext.refl _⟩
    case round =>
      obtain ⟨k, hk, rfl, hno, hx⟩ := hrel
      have HX := Lib.hid hx
      have HN := Lib.hid hno
      clear hx hno
      by_cases hlt : k < a.length
      · have hlt2 : k < b.length := by rw [← HE.out]; exact hlt
        obtain ⟨A, B, b1, off1, hd1, _, rfl, ho1, c0, c1⟩ := SpS.elem (SliceOf.ext HA.out HX.out) hlt
        obtain ⟨C, D, b2, off2, hd2, _, rfl, ho2, c2, c3⟩ := SpS.elem (SliceOf.ext HB.out HX.out) hlt2
        have HD := Lib.hid (drop_cons_inj hd1 hd2)
        clear hd1 hd2
        have i1 : (0 : Int) ≤ ↑k := by omega
        rcases t1 : (A == C) with _ | _
        · have T1 : Hid (A ≠ C) := Lib.hid (by simpa using t1)
          go_wp2
          refine wp_region_ext (by kernel_rfl) (by kernel_rfl) ?_
          repeat (first | go_big_quiet_skip | go_big_quiet_step (fail))
          refine wpQuiet_nil ?_
          intro _ hw'
          obtain ⟨nq, hw''⟩ := hw'
          subst hw''
          go_wp2
          go_ret
          refine ⟨ret_bool ?_, ?_⟩
          · rw [HN.out, HD.out, decide_eq_false (fun h => T1.out (congrArg Prod.fst h))]; rfl
          · exact ExtOf.of (by repeat' (first | (with_reducible exact Ext.refl _) | (with_reducible exact ExtOf.ext _) | (with_reducible refine Ext.trans ?_ (ExtOf.ext _)) | (with_reducible refine Ext.alloc ?_ _) | (with_reducible refine Ext.drew ?_) | (with_reducible refine Ext.setCell ?_ ?_ _) | (with_reducible refine Ext.setRow ?_ ?_ _) | (with_reducible exact HX.out) | (with_reducible refine Ext.trans ?_ HX.out) | (with_reducible refine Ext.below ?_ (Nat.le_refl _) _) | (simp; done) | (simp; omega)))
        · have T1 : Hid (A = C) := Lib.hid (by simpa using t1)
          rcases t2 : (B == D) with _ | _
          · have T2 : Hid (B ≠ D) := Lib.hid (by simpa using t2)
            go_wp2
            refine wp_region_ext (by kernel_rfl) (by kernel_rfl) ?_
            repeat (first | go_big_quiet_skip | go_big_quiet_step (fail))
            refine wpQuiet_nil ?_
            intro _ hw'
            obtain ⟨nq, hw''⟩ := hw'
            subst hw''
            go_wp2
            go_ret
            refine ⟨ret_bool ?_, ?_⟩
            · rw [HN.out, HD.out, decide_eq_false (fun h => T2.out (congrArg Prod.snd h))]; rfl
            · exact ExtOf.of (by repeat' (first | (with_reducible exact Ext.refl _) | (with_reducible exact ExtOf.ext _) | (with_reducible refine Ext.trans ?_ (ExtOf.ext _)) | (with_reducible refine Ext.alloc ?_ _) | (with_reducible refine Ext.drew ?_) | (with_reducible refine Ext.setCell ?_ ?_ _) | (with_reducible refine Ext.setRow ?_ ?_ _) | (with_reducible exact HX.out) | (with_reducible refine Ext.trans ?_ HX.out) | (with_reducible refine Ext.below ?_ (Nat.le_refl _) _) | (simp; done) | (simp; omega)))
          · have T2 : Hid (B = D) := Lib.hid (by simpa using t2)
            go_wp2
            refine wp_region_ext (by kernel_rfl) (by kernel_rfl) ?_
            repeat (first | go_big_quiet_skip | go_big_quiet_step (fail))
            refine wpQuiet_nil ?_
            intro _ hw'
            obtain ⟨nq, hw''⟩ := hw'
            subst hw''
            go_wp2
            go_roundw
            case rel => exact ⟨k + 1, by omega, by go_num, by rw [HN.out, HD.out, T1.out, T2.out, decide_eq_true rfl]; rfl, by repeat' (first | (with_reducible exact Ext.refl _) | (with_reducible exact ExtOf.ext _) | (with_reducible refine Ext.trans ?_ (ExtOf.ext _)) | (with_reducible refine Ext.alloc ?_ _) | (with_reducible refine Ext.drew ?_) | (with_reducible refine Ext.setCell ?_ ?_ _) | (with_reducible refine Ext.setRow ?_ ?_ _) | (with_reducible exact HX.out) | (with_reducible refine Ext.trans ?_ HX.out) | (with_reducible refine Ext.below ?_ (Nat.le_refl _) _) | (simp; done) | (simp; omega))⟩
            case measure => simp [intOf]; omega
      · go_wp2
        go_ret
        refine ⟨ret_bool ?_, ?_⟩
        · rw [HN.out, List.drop_of_length_le (by omega), List.drop_of_length_le (by rw [← HE.out]; omega)]; rfl
        · exact ExtOf.of (by repeat' (first | (with_reducible exact Ext.refl _) | (with_reducible exact ExtOf.ext _) | (with_reducible refine Ext.trans ?_ (ExtOf.ext _)) | (with_reducible refine Ext.alloc ?_ _) | (with_reducible refine Ext.drew ?_) | (with_reducible refine Ext.setCell ?_ ?_ _) | (with_reducible refine Ext.setRow ?_ ?_ _) | (with_reducible exact HX.out) | (with_reducible refine Ext.trans ?_ HX.out) | (with_reducible refine Ext.below ?_ (Nat.le_refl _) _) | (simp; done) | (simp; omega)))
  · have HE : Hid (a.length ≠ b.length) := Lib.hid (by simp at hne; omega)
    have hne' : (a.length != b.length) = true := by simp [HE.out]
    go_enter Try.func17, Try.ntmps17
    go_wp2
    go_ret
    refine ⟨ret_bool ?_, ?_⟩
    · unfold SpanM.same; rw [decide_eq_false (fun h => HE.out (by rw [h]))]
    · exact ExtOf.of (by repeat' (first | (with_reducible exact Ext.refl _) | (with_reducible exact ExtOf.ext _) | (with_reducible refine Ext.trans ?_ (ExtOf.ext _)) | (with_reducible refine Ext.alloc ?_ _) | (with_reducible refine Ext.drew ?_) | (with_reducible refine Ext.setCell ?_ ?_ _) | (with_reducible refine Ext.setRow ?_ ?_ _) | (with_reducible exact HX.out) | (with_reducible refine Ext.trans ?_ HX.out) | (with_reducible refine Ext.below ?_ (Nat.le_refl _) _) | (simp; done) | (simp; omega)))

end Go.Proofs.Ytfbcaafkekcmbaa
