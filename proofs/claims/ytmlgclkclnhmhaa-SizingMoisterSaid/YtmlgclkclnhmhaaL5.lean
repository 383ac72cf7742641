/-
  The walk of the statement SizingMoister: it returns true.
-/
import Derived.Test.YtmlgclkclnhmhaaM3
import Derived.Test.YtmlgclkclnhmhaaL4
import Derived.Test.YtmlgclkclnhmhaaBase3
namespace Go.Proofs.Ytmlgclkclnhmhaa
open Go.RowKit

attribute [local go_sem] ExtOf.cell ExtOf.frozen Block.cell Block.frozen
theorem oneS (sn : ByteArray) (s1 s2 s3 s4 s5 s6 s7 s8 s9 s10 s11 sh : Int) : (#[.string sn, .int .i64 s1, .int .i64 s2, .int .i64 s3, .int .i64 s4, .int .i64 s5, .int .i64 s6, .int .i64 s7, .int .i64 s8, .int .i64 s9, .int .i64 s10, .int .i64 s11, .int .i64 sh] : Array Value).all (·.oneCell') = true := by simp [Value.oneCell']
theorem zeroB (w : World) : (Instr.alloc 30 true (.tuple #[])).run Try.prog w = .ok (.pointer (some ⟨w.heap.size, 0, none⟩)) (w.alloc (.cells #[.string ⟨#[]⟩, .string ⟨#[]⟩, .string ⟨#[]⟩, .int .i64 0, .int .i64 0, .int .i64 0, .int .i64 0, .int .i64 0, .int .i64 0, .int .i64 0, .int .i64 0, .slice none 0 0, .int .i64 0, .int .i64 0, .int .i64 0, .int .i64 0, .bool false, .int .i64 0] 30)) := by kernel_rfl
theorem zeroS (w : World) : (Instr.alloc 35 true (.tuple #[])).run Try.prog w = .ok (.pointer (some ⟨w.heap.size, 0, none⟩)) (w.alloc (.cells #[.string ⟨#[]⟩, .int .i64 0, .int .i64 0, .int .i64 0, .int .i64 0, .int .i64 0, .int .i64 0, .int .i64 0, .int .i64 0, .int .i64 0, .int .i64 0, .int .i64 0, .int .i64 0] 35)) := by kernel_rfl
theorem fresh3 {R : World → Prop} {w w0 : World} (b0 b1 b2 : Nat) {c0 c1 c2 : Array Value} (h0 : Block w b0 c0) (h1 : Block w b1 c1) (h2 : Block w b2 c2) (hx : Ext w0 w)
    (h : ∀ W, Block W b0 c0 → Block W b1 c1 → Block W b2 c2 → Hid (Ext w0 W) → R W) : R w := h w h0 h1 h2 hx
theorem q_fresh5 {Q : Exit → Act → World → Prop} {a : Act} {w w0 : World} (b0 b1 b2 b3 b4 : Nat) {c0 c1 c2 c3 c4 : Array Value} (h0 : Block w b0 c0) (h1 : Block w b1 c1) (h2 : Block w b2 c2) (h3 : Block w b3 c3) (h4 : Block w b4 c4) (hx : Ext w0 w)
    (h : ∀ W, Block W b0 c0 → Block W b1 c1 → Block W b2 c2 → Block W b3 c3 → Block W b4 c4 → Hid (Ext w0 W) → Q .normal a W) : Q .normal a w := h w h0 h1 h2 h3 h4 hx

set_option maxRecDepth 20000 in
set_option maxHeartbeats 6400000 in
theorem moister_a (id lg sp pr vo df wa dr gr : Value) (xa xb ya yb za zb su co st : Int) (sn : ByteArray) (s1 s2 s3 s4 s5 s6 s7 s8 s9 s10 s11 sh : Int) (m0 m1 : Int) (w : World) (o1 : id.oneCell' = true) (o2 : lg.oneCell' = true) (o3 : sp.oneCell' = true) (o4 : pr.oneCell' = true) (o5 : vo.oneCell' = true) (o6 : df.oneCell' = true) (o7 : wa.oneCell' = true) (o8 : dr.oneCell' = true) (o9 : gr.oneCell' = true) (d1 : decide (m0 < 0) = true) : Calls Try.prog 5 #[.agg #[id, lg, sp, pr, .int .i64 xa, .int .i64 xb, .int .i64 ya, .int .i64 yb, .int .i64 za, .int .i64 zb, vo, df, wa, .int .i64 su, .int .i64 co, .int .i64 st, dr, gr], .agg #[.string sn, .int .i64 s1, .int .i64 s2, .int .i64 s3, .int .i64 s4, .int .i64 s5, .int .i64 s6, .int .i64 s7, .int .i64 s8, .int .i64 s9, .int .i64 s10, .int .i64 s11, .int .i64 sh], .agg #[.int .i64 m0, .int .i64 m1]] w fun e w' => e = .returned (.bool true) ∧ ∃ n : ExtOf w, w' = n.val := by
  go_enter Try.func5, Try.ntmps5
  go_wp2_with fail
  refine region_held (S := fun w' => Block w' w.heap.size #[id, lg, sp, pr, .int .i64 xa, .int .i64 xb, .int .i64 ya, .int .i64 yb, .int .i64 za, .int .i64 zb, vo, df, wa, .int .i64 su, .int .i64 co, .int .i64 st, dr, gr] ∧ Block w' (w.heap.size + 1) #[.string sn, .int .i64 s1, .int .i64 s2, .int .i64 s3, .int .i64 s4, .int .i64 s5, .int .i64 s6, .int .i64 s7, .int .i64 s8, .int .i64 s9, .int .i64 s10, .int .i64 s11, .int .i64 sh]) (by kernel_rfl) ?_
  refine fresh3 (R := fun W => wpAnyH _ _ _ _ _ _ _ _ W) (w0 := w) w.heap.size (w.heap.size + 1) (w.heap.size + 1 + 1) inferInstance inferInstance inferInstance (by repeat (first | exact Ext.refl _ | refine Ext.alloc ?_ _ | refine Ext.drew ?_)) ?_
  intro W h0 h1 h2 HX
  have O0 := h0.old
  have O1 := h1.old
  have O2 := h2.old
  refine wpAnyH_take (i := 0) (v := .agg #[id, lg, sp, pr, .int .i64 xa, .int .i64 xb, .int .i64 ya, .int .i64 yb, .int .i64 za, .int .i64 zb, vo, df, wa, .int .i64 su, .int .i64 co, .int .i64 st, dr, gr]) rfl (by kernel_rfl) (by kernel_rfl) (by kernel_rfl) (fun _ _ _ h => h) (.inl ⟨rfl, fun w' hb => run_load_op lwB rfl rfl hb.1 rfl⟩) ⟨inferInstance, inferInstance⟩ ?_
  refine wpAnyH_take (i := 1) (v := .agg #[.string sn, .int .i64 s1, .int .i64 s2, .int .i64 s3, .int .i64 s4, .int .i64 s5, .int .i64 s6, .int .i64 s7, .int .i64 s8, .int .i64 s9, .int .i64 s10, .int .i64 s11, .int .i64 sh]) rfl (by kernel_rfl) (by kernel_rfl) (by kernel_rfl) (fun _ _ _ h => h) (.inl ⟨rfl, fun w' hb => run_load_op lwS rfl rfl hb.2 rfl⟩) ⟨inferInstance, inferInstance⟩ ?_
  refine wpAnyH_all (rs := [2, 3]) (by kernel_rfl) (by simp) ?_
  intro j hj
  rcases (by simpa using hj : j = 2 ∨ j = 3) with rfl | rfl
  case' inl =>
    refine wpOp_alloc rfl rfl (zeroB _) ⟨⟨inferInstance, inferInstance⟩, ?_⟩
    refine wpAnyH_all (rs := [3]) (by kernel_rfl) (by simp) ?_
    intro j hj
    obtain rfl : j = 3 := by simpa using hj
    refine wpOp_alloc (b := W.heap.size + 1) rfl (by simp) (zeroS _) ⟨⟨inferInstance, inferInstance⟩, ?_⟩
    refine ah_store (i := 4) (b := W.heap.size) (cs := #[id, lg, sp, pr, .int .i64 xa, .int .i64 xb, .int .i64 ya, .int .i64 yb, .int .i64 za, .int .i64 zb, vo, df, wa, .int .i64 su, .int .i64 co, .int .i64 st, dr, gr]) lwB rfl (by kernel_rfl) rfl rfl inferInstance rfl rfl (oneB o1 o2 o3 o4 o5 o6 o7 o8 o9) ⟨inferInstance, inferInstance⟩ ?_
    refine ah_store (i := 5) (b := W.heap.size + 1) (cs := #[.string sn, .int .i64 s1, .int .i64 s2, .int .i64 s3, .int .i64 s4, .int .i64 s5, .int .i64 s6, .int .i64 s7, .int .i64 s8, .int .i64 s9, .int .i64 s10, .int .i64 s11, .int .i64 sh]) lwS rfl (by kernel_rfl) rfl rfl inferInstance rfl rfl (oneS ..) ⟨inferInstance, inferInstance⟩ ?_
    refine wpAnyH_done (by kernel_rfl) ?_ _
    refine q_fresh5 (w0 := w) w.heap.size (w.heap.size + 1) (w.heap.size + 1 + 1) W.heap.size (W.heap.size + 1) inferInstance inferInstance inferInstance inferInstance inferInstance (Ext.setRow (Ext.setRow (Ext.alloc (Ext.alloc HX.out _) _) HX.out.size _) (Nat.le_succ_of_le HX.out.size) _) ?_
    intro W' h0' h1' h2' h7' h8' HX'
    have A1 : Apart W.heap.size (W.heap.size + 1) := inferInstance
    have A2 : Apart (W.heap.size + 1) W.heap.size := inferInstance
    have A3 : Apart W.heap.size w.heap.size := inferInstance
    have A4 : Apart W.heap.size (w.heap.size + 1) := inferInstance
    have A5 : Apart W.heap.size (w.heap.size + 1 + 1) := inferInstance
    have A6 : Apart (W.heap.size + 1) w.heap.size := inferInstance
    have A7 : Apart (W.heap.size + 1) (w.heap.size + 1) := inferInstance
    have A8 : Apart (W.heap.size + 1) (w.heap.size + 1 + 1) := inferInstance
    have L1 := Lib.hid HX.out.size
    clear h0 h1 h2 HX O0 O1 O2
  case' inr =>
    refine wpOp_alloc rfl rfl (zeroS _) ⟨⟨inferInstance, inferInstance⟩, ?_⟩
    refine wpAnyH_all (rs := [2]) (by kernel_rfl) (by simp) ?_
    intro j hj
    obtain rfl : j = 2 := by simpa using hj
    refine wpOp_alloc (b := W.heap.size + 1) rfl (by simp) (zeroB _) ⟨⟨inferInstance, inferInstance⟩, ?_⟩
    refine ah_store (i := 4) (b := W.heap.size + 1) (cs := #[id, lg, sp, pr, .int .i64 xa, .int .i64 xb, .int .i64 ya, .int .i64 yb, .int .i64 za, .int .i64 zb, vo, df, wa, .int .i64 su, .int .i64 co, .int .i64 st, dr, gr]) lwB rfl (by kernel_rfl) rfl rfl inferInstance rfl rfl (oneB o1 o2 o3 o4 o5 o6 o7 o8 o9) ⟨inferInstance, inferInstance⟩ ?_
    refine ah_store (i := 5) (b := W.heap.size) (cs := #[.string sn, .int .i64 s1, .int .i64 s2, .int .i64 s3, .int .i64 s4, .int .i64 s5, .int .i64 s6, .int .i64 s7, .int .i64 s8, .int .i64 s9, .int .i64 s10, .int .i64 s11, .int .i64 sh]) lwS rfl (by kernel_rfl) rfl rfl inferInstance rfl rfl (oneS ..) ⟨inferInstance, inferInstance⟩ ?_
    refine wpAnyH_done (by kernel_rfl) ?_ _
    refine q_fresh5 (w0 := w) w.heap.size (w.heap.size + 1) (w.heap.size + 1 + 1) W.heap.size (W.heap.size + 1) inferInstance inferInstance inferInstance inferInstance inferInstance (Ext.setRow (Ext.setRow (Ext.alloc (Ext.alloc HX.out _) _) (Nat.le_succ_of_le HX.out.size) _) HX.out.size _) ?_
    intro W' h0' h1' h2' h7' h8' HX'
    have A1 : Apart W.heap.size (W.heap.size + 1) := inferInstance
    have A2 : Apart (W.heap.size + 1) W.heap.size := inferInstance
    have A3 : Apart W.heap.size w.heap.size := inferInstance
    have A4 : Apart W.heap.size (w.heap.size + 1) := inferInstance
    have A5 : Apart W.heap.size (w.heap.size + 1 + 1) := inferInstance
    have A6 : Apart (W.heap.size + 1) w.heap.size := inferInstance
    have A7 : Apart (W.heap.size + 1) (w.heap.size + 1) := inferInstance
    have A8 : Apart (W.heap.size + 1) (w.heap.size + 1 + 1) := inferInstance
    have L1 := Lib.hid HX.out.size
    clear h0 h1 h2 HX O0 O1 O2
  all_goals
    simp only [Act.put, List.setIfInBounds_toArray, List.set_cons_succ, List.set_cons_zero]
    go_wp2_with (first | (((with_reducible apply wl_load' lwB); (· (first | exact wanted_none rfl | exact wanted_some rfl rfl rfl)); (· rfl); (· infer_instance); (· rfl)); (try simp only [List.setIfInBounds_toArray, List.set_cons_succ, List.set_cons_zero])) | (((with_reducible apply wl_load' lwS); (· (first | exact wanted_none rfl | exact wanted_some rfl rfl rfl)); (· rfl); (· infer_instance); (· rfl)); (try simp only [List.setIfInBounds_toArray, List.set_cons_succ, List.set_cons_zero])) | (go_at_call 9; refine (dried_any _ _ _ _ _ _ _ _ _ _ _ _ _ _ _ _ _ _ _ _ _ _ _ _ _ _ _ _ _ _ _ _).mono ?_; rintro e w' ⟨rfl, n, rfl⟩) | (go_at_call 18; refine (wood_any _ _ _ _ _ _ _ _ _ _ _ _ _ _).mono ?_; rintro e w' ⟨rfl, n, rfl⟩) | (go_at_call 19; refine (mcheck_any _ _ _ _).mono ?_; rintro e w' ⟨rfl, n, rfl⟩) | (go_at_call 15; refine (awake_any _).mono ?_; rintro e w' ⟨rfl, n, rfl⟩))
    go_ret
    refine ⟨rfl, ?_⟩
    exact ExtOf.of (by repeat' (first | (with_reducible exact Ext.refl _) | (with_reducible exact HX'.out) | (with_reducible exact ExtOf.ext _) | (with_reducible refine Ext.trans ?_ (ExtOf.ext _)) | (with_reducible refine Ext.alloc ?_ _) | (with_reducible refine Ext.drew ?_) | (with_reducible refine Ext.setCell ?_ ?_ _) | (with_reducible exact L1.out) | (with_reducible exact Nat.le_succ_of_le L1.out)))

set_option maxRecDepth 20000 in
set_option maxHeartbeats 6400000 in
theorem moister_b (id lg sp pr vo df wa dr gr : Value) (xa xb ya yb za zb su co st : Int) (sn : ByteArray) (s1 s2 s3 s4 s5 s6 s7 s8 s9 s10 s11 sh : Int) (m0 m1 : Int) (w : World) (o1 : id.oneCell' = true) (o2 : lg.oneCell' = true) (o3 : sp.oneCell' = true) (o4 : pr.oneCell' = true) (o5 : vo.oneCell' = true) (o6 : df.oneCell' = true) (o7 : wa.oneCell' = true) (o8 : dr.oneCell' = true) (o9 : gr.oneCell' = true) (d1 : decide (m0 < 0) = false) (d2 : decide (20000 < m0) = true) : Calls Try.prog 5 #[.agg #[id, lg, sp, pr, .int .i64 xa, .int .i64 xb, .int .i64 ya, .int .i64 yb, .int .i64 za, .int .i64 zb, vo, df, wa, .int .i64 su, .int .i64 co, .int .i64 st, dr, gr], .agg #[.string sn, .int .i64 s1, .int .i64 s2, .int .i64 s3, .int .i64 s4, .int .i64 s5, .int .i64 s6, .int .i64 s7, .int .i64 s8, .int .i64 s9, .int .i64 s10, .int .i64 s11, .int .i64 sh], .agg #[.int .i64 m0, .int .i64 m1]] w fun e w' => e = .returned (.bool true) ∧ ∃ n : ExtOf w, w' = n.val := by
  go_enter Try.func5, Try.ntmps5
  go_wp2_with fail
  refine region_held (S := fun w' => Block w' w.heap.size #[id, lg, sp, pr, .int .i64 xa, .int .i64 xb, .int .i64 ya, .int .i64 yb, .int .i64 za, .int .i64 zb, vo, df, wa, .int .i64 su, .int .i64 co, .int .i64 st, dr, gr] ∧ Block w' (w.heap.size + 1) #[.string sn, .int .i64 s1, .int .i64 s2, .int .i64 s3, .int .i64 s4, .int .i64 s5, .int .i64 s6, .int .i64 s7, .int .i64 s8, .int .i64 s9, .int .i64 s10, .int .i64 s11, .int .i64 sh]) (by kernel_rfl) ?_
  refine fresh3 (R := fun W => wpAnyH _ _ _ _ _ _ _ _ W) (w0 := w) w.heap.size (w.heap.size + 1) (w.heap.size + 1 + 1) inferInstance inferInstance inferInstance (by repeat (first | exact Ext.refl _ | refine Ext.alloc ?_ _ | refine Ext.drew ?_)) ?_
  intro W h0 h1 h2 HX
  have O0 := h0.old
  have O1 := h1.old
  have O2 := h2.old
  refine wpAnyH_take (i := 0) (v := .agg #[id, lg, sp, pr, .int .i64 xa, .int .i64 xb, .int .i64 ya, .int .i64 yb, .int .i64 za, .int .i64 zb, vo, df, wa, .int .i64 su, .int .i64 co, .int .i64 st, dr, gr]) rfl (by kernel_rfl) (by kernel_rfl) (by kernel_rfl) (fun _ _ _ h => h) (.inl ⟨rfl, fun w' hb => run_load_op lwB rfl rfl hb.1 rfl⟩) ⟨inferInstance, inferInstance⟩ ?_
  refine wpAnyH_take (i := 1) (v := .agg #[.string sn, .int .i64 s1, .int .i64 s2, .int .i64 s3, .int .i64 s4, .int .i64 s5, .int .i64 s6, .int .i64 s7, .int .i64 s8, .int .i64 s9, .int .i64 s10, .int .i64 s11, .int .i64 sh]) rfl (by kernel_rfl) (by kernel_rfl) (by kernel_rfl) (fun _ _ _ h => h) (.inl ⟨rfl, fun w' hb => run_load_op lwS rfl rfl hb.2 rfl⟩) ⟨inferInstance, inferInstance⟩ ?_
  refine wpAnyH_all (rs := [2, 3]) (by kernel_rfl) (by simp) ?_
  intro j hj
  rcases (by simpa using hj : j = 2 ∨ j = 3) with rfl | rfl
  case' inl =>
    refine wpOp_alloc rfl rfl (zeroB _) ⟨⟨inferInstance, inferInstance⟩, ?_⟩
    refine wpAnyH_all (rs := [3]) (by kernel_rfl) (by simp) ?_
    intro j hj
    obtain rfl : j = 3 := by simpa using hj
    refine wpOp_alloc (b := W.heap.size + 1) rfl (by simp) (zeroS _) ⟨⟨inferInstance, inferInstance⟩, ?_⟩
    refine ah_store (i := 4) (b := W.heap.size) (cs := #[id, lg, sp, pr, .int .i64 xa, .int .i64 xb, .int .i64 ya, .int .i64 yb, .int .i64 za, .int .i64 zb, vo, df, wa, .int .i64 su, .int .i64 co, .int .i64 st, dr, gr]) lwB rfl (by kernel_rfl) rfl rfl inferInstance rfl rfl (oneB o1 o2 o3 o4 o5 o6 o7 o8 o9) ⟨inferInstance, inferInstance⟩ ?_
    refine ah_store (i := 5) (b := W.heap.size + 1) (cs := #[.string sn, .int .i64 s1, .int .i64 s2, .int .i64 s3, .int .i64 s4, .int .i64 s5, .int .i64 s6, .int .i64 s7, .int .i64 s8, .int .i64 s9, .int .i64 s10, .int .i64 s11, .int .i64 sh]) lwS rfl (by kernel_rfl) rfl rfl inferInstance rfl rfl (oneS ..) ⟨inferInstance, inferInstance⟩ ?_
    refine wpAnyH_done (by kernel_rfl) ?_ _
    refine q_fresh5 (w0 := w) w.heap.size (w.heap.size + 1) (w.heap.size + 1 + 1) W.heap.size (W.heap.size + 1) inferInstance inferInstance inferInstance inferInstance inferInstance (Ext.setRow (Ext.setRow (Ext.alloc (Ext.alloc HX.out _) _) HX.out.size _) (Nat.le_succ_of_le HX.out.size) _) ?_
    intro W' h0' h1' h2' h7' h8' HX'
    have A1 : Apart W.heap.size (W.heap.size + 1) := inferInstance
    have A2 : Apart (W.heap.size + 1) W.heap.size := inferInstance
    have A3 : Apart W.heap.size w.heap.size := inferInstance
    have A4 : Apart W.heap.size (w.heap.size + 1) := inferInstance
    have A5 : Apart W.heap.size (w.heap.size + 1 + 1) := inferInstance
    have A6 : Apart (W.heap.size + 1) w.heap.size := inferInstance
    have A7 : Apart (W.heap.size + 1) (w.heap.size + 1) := inferInstance
    have A8 : Apart (W.heap.size + 1) (w.heap.size + 1 + 1) := inferInstance
    have L1 := Lib.hid HX.out.size
    clear h0 h1 h2 HX O0 O1 O2
  case' inr =>
    refine wpOp_alloc rfl rfl (zeroS _) ⟨⟨inferInstance, inferInstance⟩, ?_⟩
    refine wpAnyH_all (rs := [2]) (by kernel_rfl) (by simp) ?_
    intro j hj
    obtain rfl : j = 2 := by simpa using hj
    refine wpOp_alloc (b := W.heap.size + 1) rfl (by simp) (zeroB _) ⟨⟨inferInstance, inferInstance⟩, ?_⟩
    refine ah_store (i := 4) (b := W.heap.size + 1) (cs := #[id, lg, sp, pr, .int .i64 xa, .int .i64 xb, .int .i64 ya, .int .i64 yb, .int .i64 za, .int .i64 zb, vo, df, wa, .int .i64 su, .int .i64 co, .int .i64 st, dr, gr]) lwB rfl (by kernel_rfl) rfl rfl inferInstance rfl rfl (oneB o1 o2 o3 o4 o5 o6 o7 o8 o9) ⟨inferInstance, inferInstance⟩ ?_
    refine ah_store (i := 5) (b := W.heap.size) (cs := #[.string sn, .int .i64 s1, .int .i64 s2, .int .i64 s3, .int .i64 s4, .int .i64 s5, .int .i64 s6, .int .i64 s7, .int .i64 s8, .int .i64 s9, .int .i64 s10, .int .i64 s11, .int .i64 sh]) lwS rfl (by kernel_rfl) rfl rfl inferInstance rfl rfl (oneS ..) ⟨inferInstance, inferInstance⟩ ?_
    refine wpAnyH_done (by kernel_rfl) ?_ _
    refine q_fresh5 (w0 := w) w.heap.size (w.heap.size + 1) (w.heap.size + 1 + 1) W.heap.size (W.heap.size + 1) inferInstance inferInstance inferInstance inferInstance inferInstance (Ext.setRow (Ext.setRow (Ext.alloc (Ext.alloc HX.out _) _) (Nat.le_succ_of_le HX.out.size) _) HX.out.size _) ?_
    intro W' h0' h1' h2' h7' h8' HX'
    have A1 : Apart W.heap.size (W.heap.size + 1) := inferInstance
    have A2 : Apart (W.heap.size + 1) W.heap.size := inferInstance
    have A3 : Apart W.heap.size w.heap.size := inferInstance
    have A4 : Apart W.heap.size (w.heap.size + 1) := inferInstance
    have A5 : Apart W.heap.size (w.heap.size + 1 + 1) := inferInstance
    have A6 : Apart (W.heap.size + 1) w.heap.size := inferInstance
    have A7 : Apart (W.heap.size + 1) (w.heap.size + 1) := inferInstance
    have A8 : Apart (W.heap.size + 1) (w.heap.size + 1 + 1) := inferInstance
    have L1 := Lib.hid HX.out.size
    clear h0 h1 h2 HX O0 O1 O2
  all_goals
    simp only [Act.put, List.setIfInBounds_toArray, List.set_cons_succ, List.set_cons_zero]
    go_wp2_with (first | (((with_reducible apply wl_load' lwB); (· (first | exact wanted_none rfl | exact wanted_some rfl rfl rfl)); (· rfl); (· infer_instance); (· rfl)); (try simp only [List.setIfInBounds_toArray, List.set_cons_succ, List.set_cons_zero])) | (((with_reducible apply wl_load' lwS); (· (first | exact wanted_none rfl | exact wanted_some rfl rfl rfl)); (· rfl); (· infer_instance); (· rfl)); (try simp only [List.setIfInBounds_toArray, List.set_cons_succ, List.set_cons_zero])) | (go_at_call 9; refine (dried_any _ _ _ _ _ _ _ _ _ _ _ _ _ _ _ _ _ _ _ _ _ _ _ _ _ _ _ _ _ _ _ _).mono ?_; rintro e w' ⟨rfl, n, rfl⟩) | (go_at_call 18; refine (wood_any _ _ _ _ _ _ _ _ _ _ _ _ _ _).mono ?_; rintro e w' ⟨rfl, n, rfl⟩) | (go_at_call 19; refine (mcheck_any _ _ _ _).mono ?_; rintro e w' ⟨rfl, n, rfl⟩) | (go_at_call 15; refine (awake_any _).mono ?_; rintro e w' ⟨rfl, n, rfl⟩))
    go_ret
    refine ⟨rfl, ?_⟩
    exact ExtOf.of (by repeat' (first | (with_reducible exact Ext.refl _) | (with_reducible exact HX'.out) | (with_reducible exact ExtOf.ext _) | (with_reducible refine Ext.trans ?_ (ExtOf.ext _)) | (with_reducible refine Ext.alloc ?_ _) | (with_reducible refine Ext.drew ?_) | (with_reducible refine Ext.setCell ?_ ?_ _) | (with_reducible exact L1.out) | (with_reducible exact Nat.le_succ_of_le L1.out)))

set_option maxRecDepth 20000 in
set_option maxHeartbeats 6400000 in
theorem moister_c (id lg sp pr vo df wa dr gr : Value) (xa xb ya yb za zb su co st : Int) (sn : ByteArray) (s1 s2 s3 s4 s5 s6 s7 s8 s9 s10 s11 sh : Int) (m0 m1 : Int) (w : World) (o1 : id.oneCell' = true) (o2 : lg.oneCell' = true) (o3 : sp.oneCell' = true) (o4 : pr.oneCell' = true) (o5 : vo.oneCell' = true) (o6 : df.oneCell' = true) (o7 : wa.oneCell' = true) (o8 : dr.oneCell' = true) (o9 : gr.oneCell' = true) (d1 : decide (m0 < 0) = false) (d2 : decide (20000 < m0) = false) (d3 : decide (m1 < 0) = true) : Calls Try.prog 5 #[.agg #[id, lg, sp, pr, .int .i64 xa, .int .i64 xb, .int .i64 ya, .int .i64 yb, .int .i64 za, .int .i64 zb, vo, df, wa, .int .i64 su, .int .i64 co, .int .i64 st, dr, gr], .agg #[.string sn, .int .i64 s1, .int .i64 s2, .int .i64 s3, .int .i64 s4, .int .i64 s5, .int .i64 s6, .int .i64 s7, .int .i64 s8, .int .i64 s9, .int .i64 s10, .int .i64 s11, .int .i64 sh], .agg #[.int .i64 m0, .int .i64 m1]] w fun e w' => e = .returned (.bool true) ∧ ∃ n : ExtOf w, w' = n.val := by
  go_enter Try.func5, Try.ntmps5
  go_wp2_with fail
  refine region_held (S := fun w' => Block w' w.heap.size #[id, lg, sp, pr, .int .i64 xa, .int .i64 xb, .int .i64 ya, .int .i64 yb, .int .i64 za, .int .i64 zb, vo, df, wa, .int .i64 su, .int .i64 co, .int .i64 st, dr, gr] ∧ Block w' (w.heap.size + 1) #[.string sn, .int .i64 s1, .int .i64 s2, .int .i64 s3, .int .i64 s4, .int .i64 s5, .int .i64 s6, .int .i64 s7, .int .i64 s8, .int .i64 s9, .int .i64 s10, .int .i64 s11, .int .i64 sh]) (by kernel_rfl) ?_
  refine fresh3 (R := fun W => wpAnyH _ _ _ _ _ _ _ _ W) (w0 := w) w.heap.size (w.heap.size + 1) (w.heap.size + 1 + 1) inferInstance inferInstance inferInstance (by repeat (first | exact Ext.refl _ | refine Ext.alloc ?_ _ | refine Ext.drew ?_)) ?_
  intro W h0 h1 h2 HX
  have O0 := h0.old
  have O1 := h1.old
  have O2 := h2.old
  refine wpAnyH_take (i := 0) (v := .agg #[id, lg, sp, pr, .int .i64 xa, .int .i64 xb, .int .i64 ya, .int .i64 yb, .int .i64 za, .int .i64 zb, vo, df, wa, .int .i64 su, .int .i64 co, .int .i64 st, dr, gr]) rfl (by kernel_rfl) (by kernel_rfl) (by kernel_rfl) (fun _ _ _ h => h) (.inl ⟨rfl, fun w' hb => run_load_op lwB rfl rfl hb.1 rfl⟩) ⟨inferInstance, inferInstance⟩ ?_
  refine wpAnyH_take (i := 1) (v := .agg #[.string sn, .int .i64 s1, .int .i64 s2, .int .i64 s3, .int .i64 s4, .int .i64 s5, .int .i64 s6, .int .i64 s7, .int .i64 s8, .int .i64 s9, .int .i64 s10, .int .i64 s11, .int .i64 sh]) rfl (by kernel_rfl) (by kernel_rfl) (by kernel_rfl) (fun _ _ _ h => h) (.inl ⟨rfl, fun w' hb => run_load_op lwS rfl rfl hb.2 rfl⟩) ⟨inferInstance, inferInstance⟩ ?_
  refine wpAnyH_all (rs := [2, 3]) (by kernel_rfl) (by simp) ?_
  intro j hj
  rcases (by simpa using hj : j = 2 ∨ j = 3) with rfl | rfl
  case' inl =>
    refine wpOp_alloc rfl rfl (zeroB _) ⟨⟨inferInstance, inferInstance⟩, ?_⟩
    refine wpAnyH_all (rs := [3]) (by kernel_rfl) (by simp) ?_
    intro j hj
    obtain rfl : j = 3 := by simpa using hj
    refine wpOp_alloc (b := W.heap.size + 1) rfl (by simp) (zeroS _) ⟨⟨inferInstance, inferInstance⟩, ?_⟩
    refine ah_store (i := 4) (b := W.heap.size) (cs := #[id, lg, sp, pr, .int .i64 xa, .int .i64 xb, .int .i64 ya, .int .i64 yb, .int .i64 za, .int .i64 zb, vo, df, wa, .int .i64 su, .int .i64 co, .int .i64 st, dr, gr]) lwB rfl (by kernel_rfl) rfl rfl inferInstance rfl rfl (oneB o1 o2 o3 o4 o5 o6 o7 o8 o9) ⟨inferInstance, inferInstance⟩ ?_
    refine ah_store (i := 5) (b := W.heap.size + 1) (cs := #[.string sn, .int .i64 s1, .int .i64 s2, .int .i64 s3, .int .i64 s4, .int .i64 s5, .int .i64 s6, .int .i64 s7, .int .i64 s8, .int .i64 s9, .int .i64 s10, .int .i64 s11, .int .i64 sh]) lwS rfl (by kernel_rfl) rfl rfl inferInstance rfl rfl (oneS ..) ⟨inferInstance, inferInstance⟩ ?_
    refine wpAnyH_done (by kernel_rfl) ?_ _
    refine q_fresh5 (w0 := w) w.heap.size (w.heap.size + 1) (w.heap.size + 1 + 1) W.heap.size (W.heap.size + 1) inferInstance inferInstance inferInstance inferInstance inferInstance (Ext.setRow (Ext.setRow (Ext.alloc (Ext.alloc HX.out _) _) HX.out.size _) (Nat.le_succ_of_le HX.out.size) _) ?_
    intro W' h0' h1' h2' h7' h8' HX'
    have A1 : Apart W.heap.size (W.heap.size + 1) := inferInstance
    have A2 : Apart (W.heap.size + 1) W.heap.size := inferInstance
    have A3 : Apart W.heap.size w.heap.size := inferInstance
    have A4 : Apart W.heap.size (w.heap.size + 1) := inferInstance
    have A5 : Apart W.heap.size (w.heap.size + 1 + 1) := inferInstance
    have A6 : Apart (W.heap.size + 1) w.heap.size := inferInstance
    have A7 : Apart (W.heap.size + 1) (w.heap.size + 1) := inferInstance
    have A8 : Apart (W.heap.size + 1) (w.heap.size + 1 + 1) := inferInstance
    have L1 := Lib.hid HX.out.size
    clear h0 h1 h2 HX O0 O1 O2
  case' inr =>
    refine wpOp_alloc rfl rfl (zeroS _) ⟨⟨inferInstance, inferInstance⟩, ?_⟩
    refine wpAnyH_all (rs := [2]) (by kernel_rfl) (by simp) ?_
    intro j hj
    obtain rfl : j = 2 := by simpa using hj
    refine wpOp_alloc (b := W.heap.size + 1) rfl (by simp) (zeroB _) ⟨⟨inferInstance, inferInstance⟩, ?_⟩
    refine ah_store (i := 4) (b := W.heap.size + 1) (cs := #[id, lg, sp, pr, .int .i64 xa, .int .i64 xb, .int .i64 ya, .int .i64 yb, .int .i64 za, .int .i64 zb, vo, df, wa, .int .i64 su, .int .i64 co, .int .i64 st, dr, gr]) lwB rfl (by kernel_rfl) rfl rfl inferInstance rfl rfl (oneB o1 o2 o3 o4 o5 o6 o7 o8 o9) ⟨inferInstance, inferInstance⟩ ?_
    refine ah_store (i := 5) (b := W.heap.size) (cs := #[.string sn, .int .i64 s1, .int .i64 s2, .int .i64 s3, .int .i64 s4, .int .i64 s5, .int .i64 s6, .int .i64 s7, .int .i64 s8, .int .i64 s9, .int .i64 s10, .int .i64 s11, .int .i64 sh]) lwS rfl (by kernel_rfl) rfl rfl inferInstance rfl rfl (oneS ..) ⟨inferInstance, inferInstance⟩ ?_
    refine wpAnyH_done (by kernel_rfl) ?_ _
    refine q_fresh5 (w0 := w) w.heap.size (w.heap.size + 1) (w.heap.size + 1 + 1) W.heap.size (W.heap.size + 1) inferInstance inferInstance inferInstance inferInstance inferInstance (Ext.setRow (Ext.setRow (Ext.alloc (Ext.alloc HX.out _) _) (Nat.le_succ_of_le HX.out.size) _) HX.out.size _) ?_
    intro W' h0' h1' h2' h7' h8' HX'
    have A1 : Apart W.heap.size (W.heap.size + 1) := inferInstance
    have A2 : Apart (W.heap.size + 1) W.heap.size := inferInstance
    have A3 : Apart W.heap.size w.heap.size := inferInstance
    have A4 : Apart W.heap.size (w.heap.size + 1) := inferInstance
    have A5 : Apart W.heap.size (w.heap.size + 1 + 1) := inferInstance
    have A6 : Apart (W.heap.size + 1) w.heap.size := inferInstance
    have A7 : Apart (W.heap.size + 1) (w.heap.size + 1) := inferInstance
    have A8 : Apart (W.heap.size + 1) (w.heap.size + 1 + 1) := inferInstance
    have L1 := Lib.hid HX.out.size
    clear h0 h1 h2 HX O0 O1 O2
  all_goals
    simp only [Act.put, List.setIfInBounds_toArray, List.set_cons_succ, List.set_cons_zero]
    go_wp2_with (first | (((with_reducible apply wl_load' lwB); (· (first | exact wanted_none rfl | exact wanted_some rfl rfl rfl)); (· rfl); (· infer_instance); (· rfl)); (try simp only [List.setIfInBounds_toArray, List.set_cons_succ, List.set_cons_zero])) | (((with_reducible apply wl_load' lwS); (· (first | exact wanted_none rfl | exact wanted_some rfl rfl rfl)); (· rfl); (· infer_instance); (· rfl)); (try simp only [List.setIfInBounds_toArray, List.set_cons_succ, List.set_cons_zero])) | (go_at_call 9; refine (dried_any _ _ _ _ _ _ _ _ _ _ _ _ _ _ _ _ _ _ _ _ _ _ _ _ _ _ _ _ _ _ _ _).mono ?_; rintro e w' ⟨rfl, n, rfl⟩) | (go_at_call 18; refine (wood_any _ _ _ _ _ _ _ _ _ _ _ _ _ _).mono ?_; rintro e w' ⟨rfl, n, rfl⟩) | (go_at_call 19; refine (mcheck_any _ _ _ _).mono ?_; rintro e w' ⟨rfl, n, rfl⟩) | (go_at_call 15; refine (awake_any _).mono ?_; rintro e w' ⟨rfl, n, rfl⟩))
    go_ret
    refine ⟨rfl, ?_⟩
    exact ExtOf.of (by repeat' (first | (with_reducible exact Ext.refl _) | (with_reducible exact HX'.out) | (with_reducible exact ExtOf.ext _) | (with_reducible refine Ext.trans ?_ (ExtOf.ext _)) | (with_reducible refine Ext.alloc ?_ _) | (with_reducible refine Ext.drew ?_) | (with_reducible refine Ext.setCell ?_ ?_ _) | (with_reducible exact L1.out) | (with_reducible exact Nat.le_succ_of_le L1.out)))

set_option maxRecDepth 20000 in
set_option maxHeartbeats 6400000 in
theorem moister_d (id lg sp pr vo df wa dr gr : Value) (xa xb ya yb za zb su co st : Int) (sn : ByteArray) (s1 s2 s3 s4 s5 s6 s7 s8 s9 s10 s11 sh : Int) (m0 m1 : Int) (w : World) (o1 : id.oneCell' = true) (o2 : lg.oneCell' = true) (o3 : sp.oneCell' = true) (o4 : pr.oneCell' = true) (o5 : vo.oneCell' = true) (o6 : df.oneCell' = true) (o7 : wa.oneCell' = true) (o8 : dr.oneCell' = true) (o9 : gr.oneCell' = true) (d1 : decide (m0 < 0) = false) (d2 : decide (20000 < m0) = false) (d3 : decide (m1 < 0) = false) (d4 : decide (200 < m1) = true) : Calls Try.prog 5 #[.agg #[id, lg, sp, pr, .int .i64 xa, .int .i64 xb, .int .i64 ya, .int .i64 yb, .int .i64 za, .int .i64 zb, vo, df, wa, .int .i64 su, .int .i64 co, .int .i64 st, dr, gr], .agg #[.string sn, .int .i64 s1, .int .i64 s2, .int .i64 s3, .int .i64 s4, .int .i64 s5, .int .i64 s6, .int .i64 s7, .int .i64 s8, .int .i64 s9, .int .i64 s10, .int .i64 s11, .int .i64 sh], .agg #[.int .i64 m0, .int .i64 m1]] w fun e w' => e = .returned (.bool true) ∧ ∃ n : ExtOf w, w' = n.val := by
  go_enter Try.func5, Try.ntmps5
  go_wp2_with fail
  refine region_held (S := fun w' => Block w' w.heap.size #[id, lg, sp, pr, .int .i64 xa, .int .i64 xb, .int .i64 ya, .int .i64 yb, .int .i64 za, .int .i64 zb, vo, df, wa, .int .i64 su, .int .i64 co, .int .i64 st, dr, gr] ∧ Block w' (w.heap.size + 1) #[.string sn, .int .i64 s1, .int .i64 s2, .int .i64 s3, .int .i64 s4, .int .i64 s5, .int .i64 s6, .int .i64 s7, .int .i64 s8, .int .i64 s9, .int .i64 s10, .int .i64 s11, .int .i64 sh]) (by kernel_rfl) ?_
  refine fresh3 (R := fun W => wpAnyH _ _ _ _ _ _ _ _ W) (w0 := w) w.heap.size (w.heap.size + 1) (w.heap.size + 1 + 1) inferInstance inferInstance inferInstance (by repeat (first | exact Ext.refl _ | refine Ext.alloc ?_ _ | refine Ext.drew ?_)) ?_
  intro W h0 h1 h2 HX
  have O0 := h0.old
  have O1 := h1.old
  have O2 := h2.old
  refine wpAnyH_take (i := 0) (v := .agg #[id, lg, sp, pr, .int .i64 xa, .int .i64 xb, .int .i64 ya, .int .i64 yb, .int .i64 za, .int .i64 zb, vo, df, wa, .int .i64 su, .int .i64 co, .int .i64 st, dr, gr]) rfl (by kernel_rfl) (by kernel_rfl) (by kernel_rfl) (fun _ _ _ h => h) (.inl ⟨rfl, fun w' hb => run_load_op lwB rfl rfl hb.1 rfl⟩) ⟨inferInstance, inferInstance⟩ ?_
  refine wpAnyH_take (i := 1) (v := .agg #[.string sn, .int .i64 s1, .int .i64 s2, .int .i64 s3, .int .i64 s4, .int .i64 s5, .int .i64 s6, .int .i64 s7, .int .i64 s8, .int .i64 s9, .int .i64 s10, .int .i64 s11, .int .i64 sh]) rfl (by kernel_rfl) (by kernel_rfl) (by kernel_rfl) (fun _ _ _ h => h) (.inl ⟨rfl, fun w' hb => run_load_op lwS rfl rfl hb.2 rfl⟩) ⟨inferInstance, inferInstance⟩ ?_
  refine wpAnyH_all (rs := [2, 3]) (by kernel_rfl) (by simp) ?_
  intro j hj
  rcases (by simpa using hj : j = 2 ∨ j = 3) with rfl | rfl
  case' inl =>
    refine wpOp_alloc rfl rfl (zeroB _) ⟨⟨inferInstance, inferInstance⟩, ?_⟩
    refine wpAnyH_all (rs := [3]) (by kernel_rfl) (by simp) ?_
    intro j hj
    obtain rfl : j = 3 := by simpa using hj
    refine wpOp_alloc (b := W.heap.size + 1) rfl (by simp) (zeroS _) ⟨⟨inferInstance, inferInstance⟩, ?_⟩
    refine ah_store (i := 4) (b := W.heap.size) (cs := #[id, lg, sp, pr, .int .i64 xa, .int .i64 xb, .int .i64 ya, .int .i64 yb, .int .i64 za, .int .i64 zb, vo, df, wa, .int .i64 su, .int .i64 co, .int .i64 st, dr, gr]) lwB rfl (by kernel_rfl) rfl rfl inferInstance rfl rfl (oneB o1 o2 o3 o4 o5 o6 o7 o8 o9) ⟨inferInstance, inferInstance⟩ ?_
    refine ah_store (i := 5) (b := W.heap.size + 1) (cs := #[.string sn, .int .i64 s1, .int .i64 s2, .int .i64 s3, .int .i64 s4, .int .i64 s5, .int .i64 s6, .int .i64 s7, .int .i64 s8, .int .i64 s9, .int .i64 s10, .int .i64 s11, .int .i64 sh]) lwS rfl (by kernel_rfl) rfl rfl inferInstance rfl rfl (oneS ..) ⟨inferInstance, inferInstance⟩ ?_
    refine wpAnyH_done (by kernel_rfl) ?_ _
    refine q_fresh5 (w0 := w) w.heap.size (w.heap.size + 1) (w.heap.size + 1 + 1) W.heap.size (W.heap.size + 1) inferInstance inferInstance inferInstance inferInstance inferInstance (Ext.setRow (Ext.setRow (Ext.alloc (Ext.alloc HX.out _) _) HX.out.size _) (Nat.le_succ_of_le HX.out.size) _) ?_
    intro W' h0' h1' h2' h7' h8' HX'
    have A1 : Apart W.heap.size (W.heap.size + 1) := inferInstance
    have A2 : Apart (W.heap.size + 1) W.heap.size := inferInstance
    have A3 : Apart W.heap.size w.heap.size := inferInstance
    have A4 : Apart W.heap.size (w.heap.size + 1) := inferInstance
    have A5 : Apart W.heap.size (w.heap.size + 1 + 1) := inferInstance
    have A6 : Apart (W.heap.size + 1) w.heap.size := inferInstance
    have A7 : Apart (W.heap.size + 1) (w.heap.size + 1) := inferInstance
    have A8 : Apart (W.heap.size + 1) (w.heap.size + 1 + 1) := inferInstance
    have L1 := Lib.hid HX.out.size
    clear h0 h1 h2 HX O0 O1 O2
  case' inr =>
    refine wpOp_alloc rfl rfl (zeroS _) ⟨⟨inferInstance, inferInstance⟩, ?_⟩
    refine wpAnyH_all (rs := [2]) (by kernel_rfl) (by simp) ?_
    intro j hj
    obtain rfl : j = 2 := by simpa using hj
    refine wpOp_alloc (b := W.heap.size + 1) rfl (by simp) (zeroB _) ⟨⟨inferInstance, inferInstance⟩, ?_⟩
    refine ah_store (i := 4) (b := W.heap.size + 1) (cs := #[id, lg, sp, pr, .int .i64 xa, .int .i64 xb, .int .i64 ya, .int .i64 yb, .int .i64 za, .int .i64 zb, vo, df, wa, .int .i64 su, .int .i64 co, .int .i64 st, dr, gr]) lwB rfl (by kernel_rfl) rfl rfl inferInstance rfl rfl (oneB o1 o2 o3 o4 o5 o6 o7 o8 o9) ⟨inferInstance, inferInstance⟩ ?_
    refine ah_store (i := 5) (b := W.heap.size) (cs := #[.string sn, .int .i64 s1, .int .i64 s2, .int .i64 s3, .int .i64 s4, .int .i64 s5, .int .i64 s6, .int .i64 s7, .int .i64 s8, .int .i64 s9, .int .i64 s10, .int .i64 s11, .int .i64 sh]) lwS rfl (by kernel_rfl) rfl rfl inferInstance rfl rfl (oneS ..) ⟨inferInstance, inferInstance⟩ ?_
    refine wpAnyH_done (by kernel_rfl) ?_ _
    refine q_fresh5 (w0 := w) w.heap.size (w.heap.size + 1) (w.heap.size + 1 + 1) W.heap.size (W.heap.size + 1) inferInstance inferInstance inferInstance inferInstance inferInstance (Ext.setRow (Ext.setRow (Ext.alloc (Ext.alloc HX.out _) _) (Nat.le_succ_of_le HX.out.size) _) HX.out.size _) ?_
    intro W' h0' h1' h2' h7' h8' HX'
    have A1 : Apart W.heap.size (W.heap.size + 1) := inferInstance
    have A2 : Apart (W.heap.size + 1) W.heap.size := inferInstance
    have A3 : Apart W.heap.size w.heap.size := inferInstance
    have A4 : Apart W.heap.size (w.heap.size + 1) := inferInstance
    have A5 : Apart W.heap.size (w.heap.size + 1 + 1) := inferInstance
    have A6 : Apart (W.heap.size + 1) w.heap.size := inferInstance
    have A7 : Apart (W.heap.size + 1) (w.heap.size + 1) := inferInstance
    have A8 : Apart (W.heap.size + 1) (w.heap.size + 1 + 1) := inferInstance
    have L1 := Lib.hid HX.out.size
    clear h0 h1 h2 HX O0 O1 O2
  all_goals
    simp only [Act.put, List.setIfInBounds_toArray, List.set_cons_succ, List.set_cons_zero]
    go_wp2_with (first | (((with_reducible apply wl_load' lwB); (· (first | exact wanted_none rfl | exact wanted_some rfl rfl rfl)); (· rfl); (· infer_instance); (· rfl)); (try simp only [List.setIfInBounds_toArray, List.set_cons_succ, List.set_cons_zero])) | (((with_reducible apply wl_load' lwS); (· (first | exact wanted_none rfl | exact wanted_some rfl rfl rfl)); (· rfl); (· infer_instance); (· rfl)); (try simp only [List.setIfInBounds_toArray, List.set_cons_succ, List.set_cons_zero])) | (go_at_call 9; refine (dried_any _ _ _ _ _ _ _ _ _ _ _ _ _ _ _ _ _ _ _ _ _ _ _ _ _ _ _ _ _ _ _ _).mono ?_; rintro e w' ⟨rfl, n, rfl⟩) | (go_at_call 18; refine (wood_any _ _ _ _ _ _ _ _ _ _ _ _ _ _).mono ?_; rintro e w' ⟨rfl, n, rfl⟩) | (go_at_call 19; refine (mcheck_any _ _ _ _).mono ?_; rintro e w' ⟨rfl, n, rfl⟩) | (go_at_call 15; refine (awake_any _).mono ?_; rintro e w' ⟨rfl, n, rfl⟩))
    go_ret
    refine ⟨rfl, ?_⟩
    exact ExtOf.of (by repeat' (first | (with_reducible exact Ext.refl _) | (with_reducible exact HX'.out) | (with_reducible exact ExtOf.ext _) | (with_reducible refine Ext.trans ?_ (ExtOf.ext _)) | (with_reducible refine Ext.alloc ?_ _) | (with_reducible refine Ext.drew ?_) | (with_reducible refine Ext.setCell ?_ ?_ _) | (with_reducible exact L1.out) | (with_reducible exact Nat.le_succ_of_le L1.out)))

set_option maxRecDepth 20000 in
set_option maxHeartbeats 6400000 in
theorem moister_e (id lg sp pr vo df wa dr gr : Value) (xa xb ya yb za zb su co st : Int) (sn : ByteArray) (s1 s2 s3 s4 s5 s6 s7 s8 s9 s10 s11 sh : Int) (m0 m1 : Int) (w : World) (o1 : id.oneCell' = true) (o2 : lg.oneCell' = true) (o3 : sp.oneCell' = true) (o4 : pr.oneCell' = true) (o5 : vo.oneCell' = true) (o6 : df.oneCell' = true) (o7 : wa.oneCell' = true) (o8 : dr.oneCell' = true) (o9 : gr.oneCell' = true) (d1 : decide (m0 < 0) = false) (d2 : decide (20000 < m0) = false) (d3 : decide (m1 < 0) = false) (d4 : decide (200 < m1) = false) (d5 : wd sh = false) : Calls Try.prog 5 #[.agg #[id, lg, sp, pr, .int .i64 xa, .int .i64 xb, .int .i64 ya, .int .i64 yb, .int .i64 za, .int .i64 zb, vo, df, wa, .int .i64 su, .int .i64 co, .int .i64 st, dr, gr], .agg #[.string sn, .int .i64 s1, .int .i64 s2, .int .i64 s3, .int .i64 s4, .int .i64 s5, .int .i64 s6, .int .i64 s7, .int .i64 s8, .int .i64 s9, .int .i64 s10, .int .i64 s11, .int .i64 sh], .agg #[.int .i64 m0, .int .i64 m1]] w fun e w' => e = .returned (.bool true) ∧ ∃ n : ExtOf w, w' = n.val := by
  go_enter Try.func5, Try.ntmps5
  go_wp2_with fail
  refine region_held (S := fun w' => Block w' w.heap.size #[id, lg, sp, pr, .int .i64 xa, .int .i64 xb, .int .i64 ya, .int .i64 yb, .int .i64 za, .int .i64 zb, vo, df, wa, .int .i64 su, .int .i64 co, .int .i64 st, dr, gr] ∧ Block w' (w.heap.size + 1) #[.string sn, .int .i64 s1, .int .i64 s2, .int .i64 s3, .int .i64 s4, .int .i64 s5, .int .i64 s6, .int .i64 s7, .int .i64 s8, .int .i64 s9, .int .i64 s10, .int .i64 s11, .int .i64 sh]) (by kernel_rfl) ?_
  refine fresh3 (R := fun W => wpAnyH _ _ _ _ _ _ _ _ W) (w0 := w) w.heap.size (w.heap.size + 1) (w.heap.size + 1 + 1) inferInstance inferInstance inferInstance (by repeat (first | exact Ext.refl _ | refine Ext.alloc ?_ _ | refine Ext.drew ?_)) ?_
  intro W h0 h1 h2 HX
  have O0 := h0.old
  have O1 := h1.old
  have O2 := h2.old
  refine wpAnyH_take (i := 0) (v := .agg #[id, lg, sp, pr, .int .i64 xa, .int .i64 xb, .int .i64 ya, .int .i64 yb, .int .i64 za, .int .i64 zb, vo, df, wa, .int .i64 su, .int .i64 co, .int .i64 st, dr, gr]) rfl (by kernel_rfl) (by kernel_rfl) (by kernel_rfl) (fun _ _ _ h => h) (.inl ⟨rfl, fun w' hb => run_load_op lwB rfl rfl hb.1 rfl⟩) ⟨inferInstance, inferInstance⟩ ?_
  refine wpAnyH_take (i := 1) (v := .agg #[.string sn, .int .i64 s1, .int .i64 s2, .int .i64 s3, .int .i64 s4, .int .i64 s5, .int .i64 s6, .int .i64 s7, .int .i64 s8, .int .i64 s9, .int .i64 s10, .int .i64 s11, .int .i64 sh]) rfl (by kernel_rfl) (by kernel_rfl) (by kernel_rfl) (fun _ _ _ h => h) (.inl ⟨rfl, fun w' hb => run_load_op lwS rfl rfl hb.2 rfl⟩) ⟨inferInstance, inferInstance⟩ ?_
  refine wpAnyH_all (rs := [2, 3]) (by kernel_rfl) (by simp) ?_
  intro j hj
  rcases (by simpa using hj : j = 2 ∨ j = 3) with rfl | rfl
  case' inl =>
    refine wpOp_alloc rfl rfl (zeroB _) ⟨⟨inferInstance, inferInstance⟩, ?_⟩
    refine wpAnyH_all (rs := [3]) (by kernel_rfl) (by simp) ?_
    intro j hj
    obtain rfl : j = 3 := by simpa using hj
    refine wpOp_alloc (b := W.heap.size + 1) rfl (by simp) (zeroS _) ⟨⟨inferInstance, inferInstance⟩, ?_⟩
    refine ah_store (i := 4) (b := W.heap.size) (cs := #[id, lg, sp, pr, .int .i64 xa, .int .i64 xb, .int .i64 ya, .int .i64 yb, .int .i64 za, .int .i64 zb, vo, df, wa, .int .i64 su, .int .i64 co, .int .i64 st, dr, gr]) lwB rfl (by kernel_rfl) rfl rfl inferInstance rfl rfl (oneB o1 o2 o3 o4 o5 o6 o7 o8 o9) ⟨inferInstance, inferInstance⟩ ?_
    refine ah_store (i := 5) (b := W.heap.size + 1) (cs := #[.string sn, .int .i64 s1, .int .i64 s2, .int .i64 s3, .int .i64 s4, .int .i64 s5, .int .i64 s6, .int .i64 s7, .int .i64 s8, .int .i64 s9, .int .i64 s10, .int .i64 s11, .int .i64 sh]) lwS rfl (by kernel_rfl) rfl rfl inferInstance rfl rfl (oneS ..) ⟨inferInstance, inferInstance⟩ ?_
    refine wpAnyH_done (by kernel_rfl) ?_ _
    refine q_fresh5 (w0 := w) w.heap.size (w.heap.size + 1) (w.heap.size + 1 + 1) W.heap.size (W.heap.size + 1) inferInstance inferInstance inferInstance inferInstance inferInstance (Ext.setRow (Ext.setRow (Ext.alloc (Ext.alloc HX.out _) _) HX.out.size _) (Nat.le_succ_of_le HX.out.size) _) ?_
    intro W' h0' h1' h2' h7' h8' HX'
    have A1 : Apart W.heap.size (W.heap.size + 1) := inferInstance
    have A2 : Apart (W.heap.size + 1) W.heap.size := inferInstance
    have A3 : Apart W.heap.size w.heap.size := inferInstance
    have A4 : Apart W.heap.size (w.heap.size + 1) := inferInstance
    have A5 : Apart W.heap.size (w.heap.size + 1 + 1) := inferInstance
    have A6 : Apart (W.heap.size + 1) w.heap.size := inferInstance
    have A7 : Apart (W.heap.size + 1) (w.heap.size + 1) := inferInstance
    have A8 : Apart (W.heap.size + 1) (w.heap.size + 1 + 1) := inferInstance
    have L1 := Lib.hid HX.out.size
    clear h0 h1 h2 HX O0 O1 O2
  case' inr =>
    refine wpOp_alloc rfl rfl (zeroS _) ⟨⟨inferInstance, inferInstance⟩, ?_⟩
    refine wpAnyH_all (rs := [2]) (by kernel_rfl) (by simp) ?_
    intro j hj
    obtain rfl : j = 2 := by simpa using hj
    refine wpOp_alloc (b := W.heap.size + 1) rfl (by simp) (zeroB _) ⟨⟨inferInstance, inferInstance⟩, ?_⟩
    refine ah_store (i := 4) (b := W.heap.size + 1) (cs := #[id, lg, sp, pr, .int .i64 xa, .int .i64 xb, .int .i64 ya, .int .i64 yb, .int .i64 za, .int .i64 zb, vo, df, wa, .int .i64 su, .int .i64 co, .int .i64 st, dr, gr]) lwB rfl (by kernel_rfl) rfl rfl inferInstance rfl rfl (oneB o1 o2 o3 o4 o5 o6 o7 o8 o9) ⟨inferInstance, inferInstance⟩ ?_
    refine ah_store (i := 5) (b := W.heap.size) (cs := #[.string sn, .int .i64 s1, .int .i64 s2, .int .i64 s3, .int .i64 s4, .int .i64 s5, .int .i64 s6, .int .i64 s7, .int .i64 s8, .int .i64 s9, .int .i64 s10, .int .i64 s11, .int .i64 sh]) lwS rfl (by kernel_rfl) rfl rfl inferInstance rfl rfl (oneS ..) ⟨inferInstance, inferInstance⟩ ?_
    refine wpAnyH_done (by kernel_rfl) ?_ _
    refine q_fresh5 (w0 := w) w.heap.size (w.heap.size + 1) (w.heap.size + 1 + 1) W.heap.size (W.heap.size + 1) inferInstance inferInstance inferInstance inferInstance inferInstance (Ext.setRow (Ext.setRow (Ext.alloc (Ext.alloc HX.out _) _) (Nat.le_succ_of_le HX.out.size) _) HX.out.size _) ?_
    intro W' h0' h1' h2' h7' h8' HX'
    have A1 : Apart W.heap.size (W.heap.size + 1) := inferInstance
    have A2 : Apart (W.heap.size + 1) W.heap.size := inferInstance
    have A3 : Apart W.heap.size w.heap.size := inferInstance
    have A4 : Apart W.heap.size (w.heap.size + 1) := inferInstance
    have A5 : Apart W.heap.size (w.heap.size + 1 + 1) := inferInstance
    have A6 : Apart (W.heap.size + 1) w.heap.size := inferInstance
    have A7 : Apart (W.heap.size + 1) (w.heap.size + 1) := inferInstance
    have A8 : Apart (W.heap.size + 1) (w.heap.size + 1 + 1) := inferInstance
    have L1 := Lib.hid HX.out.size
    clear h0 h1 h2 HX O0 O1 O2
  all_goals
    simp only [Act.put, List.setIfInBounds_toArray, List.set_cons_succ, List.set_cons_zero]
    go_wp2_with (first | (((with_reducible apply wl_load' lwB); (· (first | exact wanted_none rfl | exact wanted_some rfl rfl rfl)); (· rfl); (· infer_instance); (· rfl)); (try simp only [List.setIfInBounds_toArray, List.set_cons_succ, List.set_cons_zero])) | (((with_reducible apply wl_load' lwS); (· (first | exact wanted_none rfl | exact wanted_some rfl rfl rfl)); (· rfl); (· infer_instance); (· rfl)); (try simp only [List.setIfInBounds_toArray, List.set_cons_succ, List.set_cons_zero])) | (go_at_call 9; refine (dried_any _ _ _ _ _ _ _ _ _ _ _ _ _ _ _ _ _ _ _ _ _ _ _ _ _ _ _ _ _ _ _ _).mono ?_; rintro e w' ⟨rfl, n, rfl⟩) | (go_at_call 18; refine (wood_any _ _ _ _ _ _ _ _ _ _ _ _ _ _).mono ?_; rintro e w' ⟨rfl, n, rfl⟩) | (go_at_call 19; refine (mcheck_any _ _ _ _).mono ?_; rintro e w' ⟨rfl, n, rfl⟩) | (go_at_call 15; refine (awake_any _).mono ?_; rintro e w' ⟨rfl, n, rfl⟩))
    go_ret
    refine ⟨rfl, ?_⟩
    exact ExtOf.of (by repeat' (first | (with_reducible exact Ext.refl _) | (with_reducible exact HX'.out) | (with_reducible exact ExtOf.ext _) | (with_reducible refine Ext.trans ?_ (ExtOf.ext _)) | (with_reducible refine Ext.alloc ?_ _) | (with_reducible refine Ext.drew ?_) | (with_reducible refine Ext.setCell ?_ ?_ _) | (with_reducible exact L1.out) | (with_reducible exact Nat.le_succ_of_le L1.out)))

set_option maxRecDepth 20000 in
set_option maxHeartbeats 6400000 in
theorem moister_f (id lg sp pr vo df wa dr gr : Value) (xa xb ya yb za zb su co st : Int) (sn : ByteArray) (s1 s2 s3 s4 s5 s6 s7 s8 s9 s10 s11 sh : Int) (m0 m1 : Int) (w : World) (o1 : id.oneCell' = true) (o2 : lg.oneCell' = true) (o3 : sp.oneCell' = true) (o4 : pr.oneCell' = true) (o5 : vo.oneCell' = true) (o6 : df.oneCell' = true) (o7 : wa.oneCell' = true) (o8 : dr.oneCell' = true) (o9 : gr.oneCell' = true) (d1 : decide (m0 < 0) = false) (d2 : decide (20000 < m0) = false) (d3 : decide (m1 < 0) = false) (d4 : decide (200 < m1) = false) (d5 : wd sh = true) (d6 : (mck su co st != 0) = true) : Calls Try.prog 5 #[.agg #[id, lg, sp, pr, .int .i64 xa, .int .i64 xb, .int .i64 ya, .int .i64 yb, .int .i64 za, .int .i64 zb, vo, df, wa, .int .i64 su, .int .i64 co, .int .i64 st, dr, gr], .agg #[.string sn, .int .i64 s1, .int .i64 s2, .int .i64 s3, .int .i64 s4, .int .i64 s5, .int .i64 s6, .int .i64 s7, .int .i64 s8, .int .i64 s9, .int .i64 s10, .int .i64 s11, .int .i64 sh], .agg #[.int .i64 m0, .int .i64 m1]] w fun e w' => e = .returned (.bool true) ∧ ∃ n : ExtOf w, w' = n.val := by
  go_enter Try.func5, Try.ntmps5
  go_wp2_with fail
  refine region_held (S := fun w' => Block w' w.heap.size #[id, lg, sp, pr, .int .i64 xa, .int .i64 xb, .int .i64 ya, .int .i64 yb, .int .i64 za, .int .i64 zb, vo, df, wa, .int .i64 su, .int .i64 co, .int .i64 st, dr, gr] ∧ Block w' (w.heap.size + 1) #[.string sn, .int .i64 s1, .int .i64 s2, .int .i64 s3, .int .i64 s4, .int .i64 s5, .int .i64 s6, .int .i64 s7, .int .i64 s8, .int .i64 s9, .int .i64 s10, .int .i64 s11, .int .i64 sh]) (by kernel_rfl) ?_
  refine fresh3 (R := fun W => wpAnyH _ _ _ _ _ _ _ _ W) (w0 := w) w.heap.size (w.heap.size + 1) (w.heap.size + 1 + 1) inferInstance inferInstance inferInstance (by repeat (first | exact Ext.refl _ | refine Ext.alloc ?_ _ | refine Ext.drew ?_)) ?_
  intro W h0 h1 h2 HX
  have O0 := h0.old
  have O1 := h1.old
  have O2 := h2.old
  refine wpAnyH_take (i := 0) (v := .agg #[id, lg, sp, pr, .int .i64 xa, .int .i64 xb, .int .i64 ya, .int .i64 yb, .int .i64 za, .int .i64 zb, vo, df, wa, .int .i64 su, .int .i64 co, .int .i64 st, dr, gr]) rfl (by kernel_rfl) (by kernel_rfl) (by kernel_rfl) (fun _ _ _ h => h) (.inl ⟨rfl, fun w' hb => run_load_op lwB rfl rfl hb.1 rfl⟩) ⟨inferInstance, inferInstance⟩ ?_
  refine wpAnyH_take (i := 1) (v := .agg #[.string sn, .int .i64 s1, .int .i64 s2, .int .i64 s3, .int .i64 s4, .int .i64 s5, .int .i64 s6, .int .i64 s7, .int .i64 s8, .int .i64 s9, .int .i64 s10, .int .i64 s11, .int .i64 sh]) rfl (by kernel_rfl) (by kernel_rfl) (by kernel_rfl) (fun _ _ _ h => h) (.inl ⟨rfl, fun w' hb => run_load_op lwS rfl rfl hb.2 rfl⟩) ⟨inferInstance, inferInstance⟩ ?_
  refine wpAnyH_all (rs := [2, 3]) (by kernel_rfl) (by simp) ?_
  intro j hj
  rcases (by simpa using hj : j = 2 ∨ j = 3) with rfl | rfl
  case' inl =>
    refine wpOp_alloc rfl rfl (zeroB _) ⟨⟨inferInstance, inferInstance⟩, ?_⟩
    refine wpAnyH_all (rs := [3]) (by kernel_rfl) (by simp) ?_
    intro j hj
    obtain rfl : j = 3 := by simpa using hj
    refine wpOp_alloc (b := W.heap.size + 1) rfl (by simp) (zeroS _) ⟨⟨inferInstance, inferInstance⟩, ?_⟩
    refine ah_store (i := 4) (b := W.heap.size) (cs := #[id, lg, sp, pr, .int .i64 xa, .int .i64 xb, .int .i64 ya, .int .i64 yb, .int .i64 za, .int .i64 zb, vo, df, wa, .int .i64 su, .int .i64 co, .int .i64 st, dr, gr]) lwB rfl (by kernel_rfl) rfl rfl inferInstance rfl rfl (oneB o1 o2 o3 o4 o5 o6 o7 o8 o9) ⟨inferInstance, inferInstance⟩ ?_
    refine ah_store (i := 5) (b := W.heap.size + 1) (cs := #[.string sn, .int .i64 s1, .int .i64 s2, .int .i64 s3, .int .i64 s4, .int .i64 s5, .int .i64 s6, .int .i64 s7, .int .i64 s8, .int .i64 s9, .int .i64 s10, .int .i64 s11, .int .i64 sh]) lwS rfl (by kernel_rfl) rfl rfl inferInstance rfl rfl (oneS ..) ⟨inferInstance, inferInstance⟩ ?_
    refine wpAnyH_done (by kernel_rfl) ?_ _
    refine q_fresh5 (w0 := w) w.heap.size (w.heap.size + 1) (w.heap.size + 1 + 1) W.heap.size (W.heap.size + 1) inferInstance inferInstance inferInstance inferInstance inferInstance (Ext.setRow (Ext.setRow (Ext.alloc (Ext.alloc HX.out _) _) HX.out.size _) (Nat.le_succ_of_le HX.out.size) _) ?_
    intro W' h0' h1' h2' h7' h8' HX'
    have A1 : Apart W.heap.size (W.heap.size + 1) := inferInstance
    have A2 : Apart (W.heap.size + 1) W.heap.size := inferInstance
    have A3 : Apart W.heap.size w.heap.size := inferInstance
    have A4 : Apart W.heap.size (w.heap.size + 1) := inferInstance
    have A5 : Apart W.heap.size (w.heap.size + 1 + 1) := inferInstance
    have A6 : Apart (W.heap.size + 1) w.heap.size := inferInstance
    have A7 : Apart (W.heap.size + 1) (w.heap.size + 1) := inferInstance
    have A8 : Apart (W.heap.size + 1) (w.heap.size + 1 + 1) := inferInstance
    have L1 := Lib.hid HX.out.size
    clear h0 h1 h2 HX O0 O1 O2
  case' inr =>
    refine wpOp_alloc rfl rfl (zeroS _) ⟨⟨inferInstance, inferInstance⟩, ?_⟩
    refine wpAnyH_all (rs := [2]) (by kernel_rfl) (by simp) ?_
    intro j hj
    obtain rfl : j = 2 := by simpa using hj
    refine wpOp_alloc (b := W.heap.size + 1) rfl (by simp) (zeroB _) ⟨⟨inferInstance, inferInstance⟩, ?_⟩
    refine ah_store (i := 4) (b := W.heap.size + 1) (cs := #[id, lg, sp, pr, .int .i64 xa, .int .i64 xb, .int .i64 ya, .int .i64 yb, .int .i64 za, .int .i64 zb, vo, df, wa, .int .i64 su, .int .i64 co, .int .i64 st, dr, gr]) lwB rfl (by kernel_rfl) rfl rfl inferInstance rfl rfl (oneB o1 o2 o3 o4 o5 o6 o7 o8 o9) ⟨inferInstance, inferInstance⟩ ?_
    refine ah_store (i := 5) (b := W.heap.size) (cs := #[.string sn, .int .i64 s1, .int .i64 s2, .int .i64 s3, .int .i64 s4, .int .i64 s5, .int .i64 s6, .int .i64 s7, .int .i64 s8, .int .i64 s9, .int .i64 s10, .int .i64 s11, .int .i64 sh]) lwS rfl (by kernel_rfl) rfl rfl inferInstance rfl rfl (oneS ..) ⟨inferInstance, inferInstance⟩ ?_
    refine wpAnyH_done (by kernel_rfl) ?_ _
    refine q_fresh5 (w0 := w) w.heap.size (w.heap.size + 1) (w.heap.size + 1 + 1) W.heap.size (W.heap.size + 1) inferInstance inferInstance inferInstance inferInstance inferInstance (Ext.setRow (Ext.setRow (Ext.alloc (Ext.alloc HX.out _) _) (Nat.le_succ_of_le HX.out.size) _) HX.out.size _) ?_
    intro W' h0' h1' h2' h7' h8' HX'
    have A1 : Apart W.heap.size (W.heap.size + 1) := inferInstance
    have A2 : Apart (W.heap.size + 1) W.heap.size := inferInstance
    have A3 : Apart W.heap.size w.heap.size := inferInstance
    have A4 : Apart W.heap.size (w.heap.size + 1) := inferInstance
    have A5 : Apart W.heap.size (w.heap.size + 1 + 1) := inferInstance
    have A6 : Apart (W.heap.size + 1) w.heap.size := inferInstance
    have A7 : Apart (W.heap.size + 1) (w.heap.size + 1) := inferInstance
    have A8 : Apart (W.heap.size + 1) (w.heap.size + 1 + 1) := inferInstance
    have L1 := Lib.hid HX.out.size
    clear h0 h1 h2 HX O0 O1 O2
  all_goals
    simp only [Act.put, List.setIfInBounds_toArray, List.set_cons_succ, List.set_cons_zero]
    go_wp2_with (first | (((with_reducible apply wl_load' lwB); (· (first | exact wanted_none rfl | exact wanted_some rfl rfl rfl)); (· rfl); (· infer_instance); (· rfl)); (try simp only [List.setIfInBounds_toArray, List.set_cons_succ, List.set_cons_zero])) | (((with_reducible apply wl_load' lwS); (· (first | exact wanted_none rfl | exact wanted_some rfl rfl rfl)); (· rfl); (· infer_instance); (· rfl)); (try simp only [List.setIfInBounds_toArray, List.set_cons_succ, List.set_cons_zero])) | (go_at_call 9; refine (dried_any _ _ _ _ _ _ _ _ _ _ _ _ _ _ _ _ _ _ _ _ _ _ _ _ _ _ _ _ _ _ _ _).mono ?_; rintro e w' ⟨rfl, n, rfl⟩) | (go_at_call 18; refine (wood_any _ _ _ _ _ _ _ _ _ _ _ _ _ _).mono ?_; rintro e w' ⟨rfl, n, rfl⟩) | (go_at_call 19; refine (mcheck_any _ _ _ _).mono ?_; rintro e w' ⟨rfl, n, rfl⟩) | (go_at_call 15; refine (awake_any _).mono ?_; rintro e w' ⟨rfl, n, rfl⟩))
    go_ret
    refine ⟨rfl, ?_⟩
    exact ExtOf.of (by repeat' (first | (with_reducible exact Ext.refl _) | (with_reducible exact HX'.out) | (with_reducible exact ExtOf.ext _) | (with_reducible refine Ext.trans ?_ (ExtOf.ext _)) | (with_reducible refine Ext.alloc ?_ _) | (with_reducible refine Ext.drew ?_) | (with_reducible refine Ext.setCell ?_ ?_ _) | (with_reducible exact L1.out) | (with_reducible exact Nat.le_succ_of_le L1.out)))

set_option maxRecDepth 20000 in
set_option maxHeartbeats 6400000 in
theorem moister_g (id lg sp pr vo df wa dr gr : Value) (xa xb ya yb za zb su co st : Int) (sn : ByteArray) (s1 s2 s3 s4 s5 s6 s7 s8 s9 s10 s11 sh : Int) (m0 m1 : Int) (w : World) (o1 : id.oneCell' = true) (o2 : lg.oneCell' = true) (o3 : sp.oneCell' = true) (o4 : pr.oneCell' = true) (o5 : vo.oneCell' = true) (o6 : df.oneCell' = true) (o7 : wa.oneCell' = true) (o8 : dr.oneCell' = true) (o9 : gr.oneCell' = true) (d1 : decide (m0 < 0) = false) (d2 : decide (20000 < m0) = false) (d3 : decide (m1 < 0) = false) (d4 : decide (200 < m1) = false) (d5 : wd sh = true) (d6 : (mck su co st != 0) = false) (c0 : 0 ≤ co) (c1 : co ≤ 20000) (s0' : 0 ≤ sh) (s1' : sh ≤ 200) (e1 : 0 ≤ m0) (e2 : m0 ≤ 20000) (e3 : 0 ≤ m1) (e4 : m1 ≤ 200) (k1 : (mck su (co + m0) st == 0) = true) (k2 : decide (dT xa xb ya yb su (co + m0) st sh < dT xa xb ya yb su co st sh) = false) (k3 : decide (dW xa xb ya yb su (co + m0) st sh < dW xa xb ya yb su co st sh) = false) (k4 : wd (sh + m1) = true) (k5 : decide (dT xa xb ya yb su co st (sh + m1) ≤ dT xa xb ya yb su co st sh) = true) (k6 : decide (dW xa xb ya yb su co st (sh + m1) ≤ dW xa xb ya yb su co st sh) = true) : Calls Try.prog 5 #[.agg #[id, lg, sp, pr, .int .i64 xa, .int .i64 xb, .int .i64 ya, .int .i64 yb, .int .i64 za, .int .i64 zb, vo, df, wa, .int .i64 su, .int .i64 co, .int .i64 st, dr, gr], .agg #[.string sn, .int .i64 s1, .int .i64 s2, .int .i64 s3, .int .i64 s4, .int .i64 s5, .int .i64 s6, .int .i64 s7, .int .i64 s8, .int .i64 s9, .int .i64 s10, .int .i64 s11, .int .i64 sh], .agg #[.int .i64 m0, .int .i64 m1]] w fun e w' => e = .returned (.bool true) ∧ ∃ n : ExtOf w, w' = n.val := by
  go_enter Try.func5, Try.ntmps5
  go_wp2_with fail
  refine region_held (S := fun w' => Block w' w.heap.size #[id, lg, sp, pr, .int .i64 xa, .int .i64 xb, .int .i64 ya, .int .i64 yb, .int .i64 za, .int .i64 zb, vo, df, wa, .int .i64 su, .int .i64 co, .int .i64 st, dr, gr] ∧ Block w' (w.heap.size + 1) #[.string sn, .int .i64 s1, .int .i64 s2, .int .i64 s3, .int .i64 s4, .int .i64 s5, .int .i64 s6, .int .i64 s7, .int .i64 s8, .int .i64 s9, .int .i64 s10, .int .i64 s11, .int .i64 sh]) (by kernel_rfl) ?_
  refine fresh3 (R := fun W => wpAnyH _ _ _ _ _ _ _ _ W) (w0 := w) w.heap.size (w.heap.size + 1) (w.heap.size + 1 + 1) inferInstance inferInstance inferInstance (by repeat (first | exact Ext.refl _ | refine Ext.alloc ?_ _ | refine Ext.drew ?_)) ?_
  intro W h0 h1 h2 HX
  have O0 := h0.old
  have O1 := h1.old
  have O2 := h2.old
  refine wpAnyH_take (i := 0) (v := .agg #[id, lg, sp, pr, .int .i64 xa, .int .i64 xb, .int .i64 ya, .int .i64 yb, .int .i64 za, .int .i64 zb, vo, df, wa, .int .i64 su, .int .i64 co, .int .i64 st, dr, gr]) rfl (by kernel_rfl) (by kernel_rfl) (by kernel_rfl) (fun _ _ _ h => h) (.inl ⟨rfl, fun w' hb => run_load_op lwB rfl rfl hb.1 rfl⟩) ⟨inferInstance, inferInstance⟩ ?_
  refine wpAnyH_take (i := 1) (v := .agg #[.string sn, .int .i64 s1, .int .i64 s2, .int .i64 s3, .int .i64 s4, .int .i64 s5, .int .i64 s6, .int .i64 s7, .int .i64 s8, .int .i64 s9, .int .i64 s10, .int .i64 s11, .int .i64 sh]) rfl (by kernel_rfl) (by kernel_rfl) (by kernel_rfl) (fun _ _ _ h => h) (.inl ⟨rfl, fun w' hb => run_load_op lwS rfl rfl hb.2 rfl⟩) ⟨inferInstance, inferInstance⟩ ?_
  refine wpAnyH_all (rs := [2, 3]) (by kernel_rfl) (by simp) ?_
  intro j hj
  rcases (by simpa using hj : j = 2 ∨ j = 3) with rfl | rfl
  case' inl =>
    refine wpOp_alloc rfl rfl (zeroB _) ⟨⟨inferInstance, inferInstance⟩, ?_⟩
    refine wpAnyH_all (rs := [3]) (by kernel_rfl) (by simp) ?_
    intro j hj
    obtain rfl : j = 3 := by simpa using hj
    refine wpOp_alloc (b := W.heap.size + 1) rfl (by simp) (zeroS _) ⟨⟨inferInstance, inferInstance⟩, ?_⟩
    refine ah_store (i := 4) (b := W.heap.size) (cs := #[id, lg, sp, pr, .int .i64 xa, .int .i64 xb, .int .i64 ya, .int .i64 yb, .int .i64 za, .int .i64 zb, vo, df, wa, .int .i64 su, .int .i64 co, .int .i64 st, dr, gr]) lwB rfl (by kernel_rfl) rfl rfl inferInstance rfl rfl (oneB o1 o2 o3 o4 o5 o6 o7 o8 o9) ⟨inferInstance, inferInstance⟩ ?_
    refine ah_store (i := 5) (b := W.heap.size + 1) (cs := #[.string sn, .int .i64 s1, .int .i64 s2, .int .i64 s3, .int .i64 s4, .int .i64 s5, .int .i64 s6, .int .i64 s7, .int .i64 s8, .int .i64 s9, .int .i64 s10, .int .i64 s11, .int .i64 sh]) lwS rfl (by kernel_rfl) rfl rfl inferInstance rfl rfl (oneS ..) ⟨inferInstance, inferInstance⟩ ?_
    refine wpAnyH_done (by kernel_rfl) ?_ _
    refine q_fresh5 (w0 := w) w.heap.size (w.heap.size + 1) (w.heap.size + 1 + 1) W.heap.size (W.heap.size + 1) inferInstance inferInstance inferInstance inferInstance inferInstance (Ext.setRow (Ext.setRow (Ext.alloc (Ext.alloc HX.out _) _) HX.out.size _) (Nat.le_succ_of_le HX.out.size) _) ?_
    intro W' h0' h1' h2' h7' h8' HX'
    have A1 : Apart W.heap.size (W.heap.size + 1) := inferInstance
    have A2 : Apart (W.heap.size + 1) W.heap.size := inferInstance
    have A3 : Apart W.heap.size w.heap.size := inferInstance
    have A4 : Apart W.heap.size (w.heap.size + 1) := inferInstance
    have A5 : Apart W.heap.size (w.heap.size + 1 + 1) := inferInstance
    have A6 : Apart (W.heap.size + 1) w.heap.size := inferInstance
    have A7 : Apart (W.heap.size + 1) (w.heap.size + 1) := inferInstance
    have A8 : Apart (W.heap.size + 1) (w.heap.size + 1 + 1) := inferInstance
    have L1 := Lib.hid HX.out.size
    clear h0 h1 h2 HX O0 O1 O2
  case' inr =>
    refine wpOp_alloc rfl rfl (zeroS _) ⟨⟨inferInstance, inferInstance⟩, ?_⟩
    refine wpAnyH_all (rs := [2]) (by kernel_rfl) (by simp) ?_
    intro j hj
    obtain rfl : j = 2 := by simpa using hj
    refine wpOp_alloc (b := W.heap.size + 1) rfl (by simp) (zeroB _) ⟨⟨inferInstance, inferInstance⟩, ?_⟩
    refine ah_store (i := 4) (b := W.heap.size + 1) (cs := #[id, lg, sp, pr, .int .i64 xa, .int .i64 xb, .int .i64 ya, .int .i64 yb, .int .i64 za, .int .i64 zb, vo, df, wa, .int .i64 su, .int .i64 co, .int .i64 st, dr, gr]) lwB rfl (by kernel_rfl) rfl rfl inferInstance rfl rfl (oneB o1 o2 o3 o4 o5 o6 o7 o8 o9) ⟨inferInstance, inferInstance⟩ ?_
    refine ah_store (i := 5) (b := W.heap.size) (cs := #[.string sn, .int .i64 s1, .int .i64 s2, .int .i64 s3, .int .i64 s4, .int .i64 s5, .int .i64 s6, .int .i64 s7, .int .i64 s8, .int .i64 s9, .int .i64 s10, .int .i64 s11, .int .i64 sh]) lwS rfl (by kernel_rfl) rfl rfl inferInstance rfl rfl (oneS ..) ⟨inferInstance, inferInstance⟩ ?_
    refine wpAnyH_done (by kernel_rfl) ?_ _
    refine q_fresh5 (w0 := w) w.heap.size (w.heap.size + 1) (w.heap.size + 1 + 1) W.heap.size (W.heap.size + 1) inferInstance inferInstance inferInstance inferInstance inferInstance (Ext.setRow (Ext.setRow (Ext.alloc (Ext.alloc HX.out _) _) (Nat.le_succ_of_le HX.out.size) _) HX.out.size _) ?_
    intro W' h0' h1' h2' h7' h8' HX'
    have A1 : Apart W.heap.size (W.heap.size + 1) := inferInstance
    have A2 : Apart (W.heap.size + 1) W.heap.size := inferInstance
    have A3 : Apart W.heap.size w.heap.size := inferInstance
    have A4 : Apart W.heap.size (w.heap.size + 1) := inferInstance
    have A5 : Apart W.heap.size (w.heap.size + 1 + 1) := inferInstance
    have A6 : Apart (W.heap.size + 1) w.heap.size := inferInstance
    have A7 : Apart (W.heap.size + 1) (w.heap.size + 1) := inferInstance
    have A8 : Apart (W.heap.size + 1) (w.heap.size + 1 + 1) := inferInstance
    have L1 := Lib.hid HX.out.size
    clear h0 h1 h2 HX O0 O1 O2
  all_goals
    simp only [Act.put, List.setIfInBounds_toArray, List.set_cons_succ, List.set_cons_zero]
    go_wp2_with (first | (((with_reducible apply wl_load' lwB); (· (first | exact wanted_none rfl | exact wanted_some rfl rfl rfl)); (· rfl); (· infer_instance); (· rfl)); (try simp only [List.setIfInBounds_toArray, List.set_cons_succ, List.set_cons_zero])) | (((with_reducible apply wl_load' lwS); (· (first | exact wanted_none rfl | exact wanted_some rfl rfl rfl)); (· rfl); (· infer_instance); (· rfl)); (try simp only [List.setIfInBounds_toArray, List.set_cons_succ, List.set_cons_zero])) | (go_at_call 9; refine (dried_any _ _ _ _ _ _ _ _ _ _ _ _ _ _ _ _ _ _ _ _ _ _ _ _ _ _ _ _ _ _ _ _).mono ?_; rintro e w' ⟨rfl, n, rfl⟩) | (go_at_call 18; refine (wood_any _ _ _ _ _ _ _ _ _ _ _ _ _ _).mono ?_; rintro e w' ⟨rfl, n, rfl⟩) | (go_at_call 19; refine (mcheck_any _ _ _ _).mono ?_; rintro e w' ⟨rfl, n, rfl⟩) | (go_at_call 15; refine (awake_any _).mono ?_; rintro e w' ⟨rfl, n, rfl⟩))
    go_ret
    refine ⟨rfl, ?_⟩
    exact ExtOf.of (by repeat' (first | (with_reducible exact Ext.refl _) | (with_reducible exact HX'.out) | (with_reducible exact ExtOf.ext _) | (with_reducible refine Ext.trans ?_ (ExtOf.ext _)) | (with_reducible refine Ext.alloc ?_ _) | (with_reducible refine Ext.drew ?_) | (with_reducible refine Ext.setCell ?_ ?_ _) | (with_reducible exact L1.out) | (with_reducible exact Nat.le_succ_of_le L1.out)))

set_option maxRecDepth 20000 in
set_option maxHeartbeats 6400000 in
theorem moister_h (id lg sp pr vo df wa dr gr : Value) (xa xb ya yb za zb su co st : Int) (sn : ByteArray) (s1 s2 s3 s4 s5 s6 s7 s8 s9 s10 s11 sh : Int) (m0 m1 : Int) (w : World) (o1 : id.oneCell' = true) (o2 : lg.oneCell' = true) (o3 : sp.oneCell' = true) (o4 : pr.oneCell' = true) (o5 : vo.oneCell' = true) (o6 : df.oneCell' = true) (o7 : wa.oneCell' = true) (o8 : dr.oneCell' = true) (o9 : gr.oneCell' = true) (d1 : decide (m0 < 0) = false) (d2 : decide (20000 < m0) = false) (d3 : decide (m1 < 0) = false) (d4 : decide (200 < m1) = false) (d5 : wd sh = true) (d6 : (mck su co st != 0) = false) (c0 : 0 ≤ co) (c1 : co ≤ 20000) (s0' : 0 ≤ sh) (s1' : sh ≤ 200) (e1 : 0 ≤ m0) (e2 : m0 ≤ 20000) (e3 : 0 ≤ m1) (e4 : m1 ≤ 200) (k1 : (mck su (co + m0) st == 0) = true) (k2 : decide (dT xa xb ya yb su (co + m0) st sh < dT xa xb ya yb su co st sh) = false) (k3 : decide (dW xa xb ya yb su (co + m0) st sh < dW xa xb ya yb su co st sh) = false) (k4 : wd (sh + m1) = false) : Calls Try.prog 5 #[.agg #[id, lg, sp, pr, .int .i64 xa, .int .i64 xb, .int .i64 ya, .int .i64 yb, .int .i64 za, .int .i64 zb, vo, df, wa, .int .i64 su, .int .i64 co, .int .i64 st, dr, gr], .agg #[.string sn, .int .i64 s1, .int .i64 s2, .int .i64 s3, .int .i64 s4, .int .i64 s5, .int .i64 s6, .int .i64 s7, .int .i64 s8, .int .i64 s9, .int .i64 s10, .int .i64 s11, .int .i64 sh], .agg #[.int .i64 m0, .int .i64 m1]] w fun e w' => e = .returned (.bool true) ∧ ∃ n : ExtOf w, w' = n.val := by
  go_enter Try.func5, Try.ntmps5
  go_wp2_with fail
  refine region_held (S := fun w' => Block w' w.heap.size #[id, lg, sp, pr, .int .i64 xa, .int .i64 xb, .int .i64 ya, .int .i64 yb, .int .i64 za, .int .i64 zb, vo, df, wa, .int .i64 su, .int .i64 co, .int .i64 st, dr, gr] ∧ Block w' (w.heap.size + 1) #[.string sn, .int .i64 s1, .int .i64 s2, .int .i64 s3, .int .i64 s4, .int .i64 s5, .int .i64 s6, .int .i64 s7, .int .i64 s8, .int .i64 s9, .int .i64 s10, .int .i64 s11, .int .i64 sh]) (by kernel_rfl) ?_
  refine fresh3 (R := fun W => wpAnyH _ _ _ _ _ _ _ _ W) (w0 := w) w.heap.size (w.heap.size + 1) (w.heap.size + 1 + 1) inferInstance inferInstance inferInstance (by repeat (first | exact Ext.refl _ | refine Ext.alloc ?_ _ | refine Ext.drew ?_)) ?_
  intro W h0 h1 h2 HX
  have O0 := h0.old
  have O1 := h1.old
  have O2 := h2.old
  refine wpAnyH_take (i := 0) (v := .agg #[id, lg, sp, pr, .int .i64 xa, .int .i64 xb, .int .i64 ya, .int .i64 yb, .int .i64 za, .int .i64 zb, vo, df, wa, .int .i64 su, .int .i64 co, .int .i64 st, dr, gr]) rfl (by kernel_rfl) (by kernel_rfl) (by kernel_rfl) (fun _ _ _ h => h) (.inl ⟨rfl, fun w' hb => run_load_op lwB rfl rfl hb.1 rfl⟩) ⟨inferInstance, inferInstance⟩ ?_
  refine wpAnyH_take (i := 1) (v := .agg #[.string sn, .int .i64 s1, .int .i64 s2, .int .i64 s3, .int .i64 s4, .int .i64 s5, .int .i64 s6, .int .i64 s7, .int .i64 s8, .int .i64 s9, .int .i64 s10, .int .i64 s11, .int .i64 sh]) rfl (by kernel_rfl) (by kernel_rfl) (by kernel_rfl) (fun _ _ _ h => h) (.inl ⟨rfl, fun w' hb => run_load_op lwS rfl rfl hb.2 rfl⟩) ⟨inferInstance, inferInstance⟩ ?_
  refine wpAnyH_all (rs := [2, 3]) (by kernel_rfl) (by simp) ?_
  intro j hj
  rcases (by simpa using hj : j = 2 ∨ j = 3) with rfl | rfl
  case' inl =>
    refine wpOp_alloc rfl rfl (zeroB _) ⟨⟨inferInstance, inferInstance⟩, ?_⟩
    refine wpAnyH_all (rs := [3]) (by kernel_rfl) (by simp) ?_
    intro j hj
    obtain rfl : j = 3 := by simpa using hj
    refine wpOp_alloc (b := W.heap.size + 1) rfl (by simp) (zeroS _) ⟨⟨inferInstance, inferInstance⟩, ?_⟩
    refine ah_store (i := 4) (b := W.heap.size) (cs := #[id, lg, sp, pr, .int .i64 xa, .int .i64 xb, .int .i64 ya, .int .i64 yb, .int .i64 za, .int .i64 zb, vo, df, wa, .int .i64 su, .int .i64 co, .int .i64 st, dr, gr]) lwB rfl (by kernel_rfl) rfl rfl inferInstance rfl rfl (oneB o1 o2 o3 o4 o5 o6 o7 o8 o9) ⟨inferInstance, inferInstance⟩ ?_
    refine ah_store (i := 5) (b := W.heap.size + 1) (cs := #[.string sn, .int .i64 s1, .int .i64 s2, .int .i64 s3, .int .i64 s4, .int .i64 s5, .int .i64 s6, .int .i64 s7, .int .i64 s8, .int .i64 s9, .int .i64 s10, .int .i64 s11, .int .i64 sh]) lwS rfl (by kernel_rfl) rfl rfl inferInstance rfl rfl (oneS ..) ⟨inferInstance, inferInstance⟩ ?_
    refine wpAnyH_done (by kernel_rfl) ?_ _
    refine q_fresh5 (w0 := w) w.heap.size (w.heap.size + 1) (w.heap.size + 1 + 1) W.heap.size (W.heap.size + 1) inferInstance inferInstance inferInstance inferInstance inferInstance (Ext.setRow (Ext.setRow (Ext.alloc (Ext.alloc HX.out _) _) HX.out.size _) (Nat.le_succ_of_le HX.out.size) _) ?_
    intro W' h0' h1' h2' h7' h8' HX'
    have A1 : Apart W.heap.size (W.heap.size + 1) := inferInstance
    have A2 : Apart (W.heap.size + 1) W.heap.size := inferInstance
    have A3 : Apart W.heap.size w.heap.size := inferInstance
    have A4 : Apart W.heap.size (w.heap.size + 1) := inferInstance
    have A5 : Apart W.heap.size (w.heap.size + 1 + 1) := inferInstance
    have A6 : Apart (W.heap.size + 1) w.heap.size := inferInstance
    have A7 : Apart (W.heap.size + 1) (w.heap.size + 1) := inferInstance
    have A8 : Apart (W.heap.size + 1) (w.heap.size + 1 + 1) := inferInstance
    have L1 := Lib.hid HX.out.size
    clear h0 h1 h2 HX O0 O1 O2
  case' inr =>
    refine wpOp_alloc rfl rfl (zeroS _) ⟨⟨inferInstance, inferInstance⟩, ?_⟩
    refine wpAnyH_all (rs := [2]) (by kernel_rfl) (by simp) ?_
    intro j hj
    obtain rfl : j = 2 := by simpa using hj
    refine wpOp_alloc (b := W.heap.size + 1) rfl (by simp) (zeroB _) ⟨⟨inferInstance, inferInstance⟩, ?_⟩
    refine ah_store (i := 4) (b := W.heap.size + 1) (cs := #[id, lg, sp, pr, .int .i64 xa, .int .i64 xb, .int .i64 ya, .int .i64 yb, .int .i64 za, .int .i64 zb, vo, df, wa, .int .i64 su, .int .i64 co, .int .i64 st, dr, gr]) lwB rfl (by kernel_rfl) rfl rfl inferInstance rfl rfl (oneB o1 o2 o3 o4 o5 o6 o7 o8 o9) ⟨inferInstance, inferInstance⟩ ?_
    refine ah_store (i := 5) (b := W.heap.size) (cs := #[.string sn, .int .i64 s1, .int .i64 s2, .int .i64 s3, .int .i64 s4, .int .i64 s5, .int .i64 s6, .int .i64 s7, .int .i64 s8, .int .i64 s9, .int .i64 s10, .int .i64 s11, .int .i64 sh]) lwS rfl (by kernel_rfl) rfl rfl inferInstance rfl rfl (oneS ..) ⟨inferInstance, inferInstance⟩ ?_
    refine wpAnyH_done (by kernel_rfl) ?_ _
    refine q_fresh5 (w0 := w) w.heap.size (w.heap.size + 1) (w.heap.size + 1 + 1) W.heap.size (W.heap.size + 1) inferInstance inferInstance inferInstance inferInstance inferInstance (Ext.setRow (Ext.setRow (Ext.alloc (Ext.alloc HX.out _) _) (Nat.le_succ_of_le HX.out.size) _) HX.out.size _) ?_
    intro W' h0' h1' h2' h7' h8' HX'
    have A1 : Apart W.heap.size (W.heap.size + 1) := inferInstance
    have A2 : Apart (W.heap.size + 1) W.heap.size := inferInstance
    have A3 : Apart W.heap.size w.heap.size := inferInstance
    have A4 : Apart W.heap.size (w.heap.size + 1) := inferInstance
    have A5 : Apart W.heap.size (w.heap.size + 1 + 1) := inferInstance
    have A6 : Apart (W.heap.size + 1) w.heap.size := inferInstance
    have A7 : Apart (W.heap.size + 1) (w.heap.size + 1) := inferInstance
    have A8 : Apart (W.heap.size + 1) (w.heap.size + 1 + 1) := inferInstance
    have L1 := Lib.hid HX.out.size
    clear h0 h1 h2 HX O0 O1 O2
  all_goals
    simp only [Act.put, List.setIfInBounds_toArray, List.set_cons_succ, List.set_cons_zero]
    go_wp2_with (first | (((with_reducible apply wl_load' lwB); (· (first | exact wanted_none rfl | exact wanted_some rfl rfl rfl)); (· rfl); (· infer_instance); (· rfl)); (try simp only [List.setIfInBounds_toArray, List.set_cons_succ, List.set_cons_zero])) | (((with_reducible apply wl_load' lwS); (· (first | exact wanted_none rfl | exact wanted_some rfl rfl rfl)); (· rfl); (· infer_instance); (· rfl)); (try simp only [List.setIfInBounds_toArray, List.set_cons_succ, List.set_cons_zero])) | (go_at_call 9; refine (dried_any _ _ _ _ _ _ _ _ _ _ _ _ _ _ _ _ _ _ _ _ _ _ _ _ _ _ _ _ _ _ _ _).mono ?_; rintro e w' ⟨rfl, n, rfl⟩) | (go_at_call 18; refine (wood_any _ _ _ _ _ _ _ _ _ _ _ _ _ _).mono ?_; rintro e w' ⟨rfl, n, rfl⟩) | (go_at_call 19; refine (mcheck_any _ _ _ _).mono ?_; rintro e w' ⟨rfl, n, rfl⟩) | (go_at_call 15; refine (awake_any _).mono ?_; rintro e w' ⟨rfl, n, rfl⟩))
    go_ret
    refine ⟨rfl, ?_⟩
    exact ExtOf.of (by repeat' (first | (with_reducible exact Ext.refl _) | (with_reducible exact HX'.out) | (with_reducible exact ExtOf.ext _) | (with_reducible refine Ext.trans ?_ (ExtOf.ext _)) | (with_reducible refine Ext.alloc ?_ _) | (with_reducible refine Ext.drew ?_) | (with_reducible refine Ext.setCell ?_ ?_ _) | (with_reducible exact L1.out) | (with_reducible exact Nat.le_succ_of_le L1.out)))

set_option maxRecDepth 20000 in
set_option maxHeartbeats 6400000 in
theorem moister_i (id lg sp pr vo df wa dr gr : Value) (xa xb ya yb za zb su co st : Int) (sn : ByteArray) (s1 s2 s3 s4 s5 s6 s7 s8 s9 s10 s11 sh : Int) (m0 m1 : Int) (w : World) (o1 : id.oneCell' = true) (o2 : lg.oneCell' = true) (o3 : sp.oneCell' = true) (o4 : pr.oneCell' = true) (o5 : vo.oneCell' = true) (o6 : df.oneCell' = true) (o7 : wa.oneCell' = true) (o8 : dr.oneCell' = true) (o9 : gr.oneCell' = true) (d1 : decide (m0 < 0) = false) (d2 : decide (20000 < m0) = false) (d3 : decide (m1 < 0) = false) (d4 : decide (200 < m1) = false) (d5 : wd sh = true) (d6 : (mck su co st != 0) = false) (c0 : 0 ≤ co) (c1 : co ≤ 20000) (s0' : 0 ≤ sh) (s1' : sh ≤ 200) (e1 : 0 ≤ m0) (e2 : m0 ≤ 20000) (e3 : 0 ≤ m1) (e4 : m1 ≤ 200) (k1 : (mck su (co + m0) st == 0) = false) (k4 : wd (sh + m1) = true) (k5 : decide (dT xa xb ya yb su co st (sh + m1) ≤ dT xa xb ya yb su co st sh) = true) (k6 : decide (dW xa xb ya yb su co st (sh + m1) ≤ dW xa xb ya yb su co st sh) = true) : Calls Try.prog 5 #[.agg #[id, lg, sp, pr, .int .i64 xa, .int .i64 xb, .int .i64 ya, .int .i64 yb, .int .i64 za, .int .i64 zb, vo, df, wa, .int .i64 su, .int .i64 co, .int .i64 st, dr, gr], .agg #[.string sn, .int .i64 s1, .int .i64 s2, .int .i64 s3, .int .i64 s4, .int .i64 s5, .int .i64 s6, .int .i64 s7, .int .i64 s8, .int .i64 s9, .int .i64 s10, .int .i64 s11, .int .i64 sh], .agg #[.int .i64 m0, .int .i64 m1]] w fun e w' => e = .returned (.bool true) ∧ ∃ n : ExtOf w, w' = n.val := by
  go_enter Try.func5, Try.ntmps5
  go_wp2_with fail
  refine region_held (S := fun w' => Block w' w.heap.size #[id, lg, sp, pr, .int .i64 xa, .int .i64 xb, .int .i64 ya, .int .i64 yb, .int .i64 za, .int .i64 zb, vo, df, wa, .int .i64 su, .int .i64 co, .int .i64 st, dr, gr] ∧ Block w' (w.heap.size + 1) #[.string sn, .int .i64 s1, .int .i64 s2, .int .i64 s3, .int .i64 s4, .int .i64 s5, .int .i64 s6, .int .i64 s7, .int .i64 s8, .int .i64 s9, .int .i64 s10, .int .i64 s11, .int .i64 sh]) (by kernel_rfl) ?_
  refine fresh3 (R := fun W => wpAnyH _ _ _ _ _ _ _ _ W) (w0 := w) w.heap.size (w.heap.size + 1) (w.heap.size + 1 + 1) inferInstance inferInstance inferInstance (by repeat (first | exact Ext.refl _ | refine Ext.alloc ?_ _ | refine Ext.drew ?_)) ?_
  intro W h0 h1 h2 HX
  have O0 := h0.old
  have O1 := h1.old
  have O2 := h2.old
  refine wpAnyH_take (i := 0) (v := .agg #[id, lg, sp, pr, .int .i64 xa, .int .i64 xb, .int .i64 ya, .int .i64 yb, .int .i64 za, .int .i64 zb, vo, df, wa, .int .i64 su, .int .i64 co, .int .i64 st, dr, gr]) rfl (by kernel_rfl) (by kernel_rfl) (by kernel_rfl) (fun _ _ _ h => h) (.inl ⟨rfl, fun w' hb => run_load_op lwB rfl rfl hb.1 rfl⟩) ⟨inferInstance, inferInstance⟩ ?_
  refine wpAnyH_take (i := 1) (v := .agg #[.string sn, .int .i64 s1, .int .i64 s2, .int .i64 s3, .int .i64 s4, .int .i64 s5, .int .i64 s6, .int .i64 s7, .int .i64 s8, .int .i64 s9, .int .i64 s10, .int .i64 s11, .int .i64 sh]) rfl (by kernel_rfl) (by kernel_rfl) (by kernel_rfl) (fun _ _ _ h => h) (.inl ⟨rfl, fun w' hb => run_load_op lwS rfl rfl hb.2 rfl⟩) ⟨inferInstance, inferInstance⟩ ?_
  refine wpAnyH_all (rs := [2, 3]) (by kernel_rfl) (by simp) ?_
  intro j hj
  rcases (by simpa using hj : j = 2 ∨ j = 3) with rfl | rfl
  case' inl =>
    refine wpOp_alloc rfl rfl (zeroB _) ⟨⟨inferInstance, inferInstance⟩, ?_⟩
    refine wpAnyH_all (rs := [3]) (by kernel_rfl) (by simp) ?_
    intro j hj
    obtain rfl : j = 3 := by simpa using hj
    refine wpOp_alloc (b := W.heap.size + 1) rfl (by simp) (zeroS _) ⟨⟨inferInstance, inferInstance⟩, ?_⟩
    refine ah_store (i := 4) (b := W.heap.size) (cs := #[id, lg, sp, pr, .int .i64 xa, .int .i64 xb, .int .i64 ya, .int .i64 yb, .int .i64 za, .int .i64 zb, vo, df, wa, .int .i64 su, .int .i64 co, .int .i64 st, dr, gr]) lwB rfl (by kernel_rfl) rfl rfl inferInstance rfl rfl (oneB o1 o2 o3 o4 o5 o6 o7 o8 o9) ⟨inferInstance, inferInstance⟩ ?_
    refine ah_store (i := 5) (b := W.heap.size + 1) (cs := #[.string sn, .int .i64 s1, .int .i64 s2, .int .i64 s3, .int .i64 s4, .int .i64 s5, .int .i64 s6, .int .i64 s7, .int .i64 s8, .int .i64 s9, .int .i64 s10, .int .i64 s11, .int .i64 sh]) lwS rfl (by kernel_rfl) rfl rfl inferInstance rfl rfl (oneS ..) ⟨inferInstance, inferInstance⟩ ?_
    refine wpAnyH_done (by kernel_rfl) ?_ _
    refine q_fresh5 (w0 := w) w.heap.size (w.heap.size + 1) (w.heap.size + 1 + 1) W.heap.size (W.heap.size + 1) inferInstance inferInstance inferInstance inferInstance inferInstance (Ext.setRow (Ext.setRow (Ext.alloc (Ext.alloc HX.out _) _) HX.out.size _) (Nat.le_succ_of_le HX.out.size) _) ?_
    intro W' h0' h1' h2' h7' h8' HX'
    have A1 : Apart W.heap.size (W.heap.size + 1) := inferInstance
    have A2 : Apart (W.heap.size + 1) W.heap.size := inferInstance
    have A3 : Apart W.heap.size w.heap.size := inferInstance
    have A4 : Apart W.heap.size (w.heap.size + 1) := inferInstance
    have A5 : Apart W.heap.size (w.heap.size + 1 + 1) := inferInstance
    have A6 : Apart (W.heap.size + 1) w.heap.size := inferInstance
    have A7 : Apart (W.heap.size + 1) (w.heap.size + 1) := inferInstance
    have A8 : Apart (W.heap.size + 1) (w.heap.size + 1 + 1) := inferInstance
    have L1 := Lib.hid HX.out.size
    clear h0 h1 h2 HX O0 O1 O2
  case' inr =>
    refine wpOp_alloc rfl rfl (zeroS _) ⟨⟨inferInstance, inferInstance⟩, ?_⟩
    refine wpAnyH_all (rs := [2]) (by kernel_rfl) (by simp) ?_
    intro j hj
    obtain rfl : j = 2 := by simpa using hj
    refine wpOp_alloc (b := W.heap.size + 1) rfl (by simp) (zeroB _) ⟨⟨inferInstance, inferInstance⟩, ?_⟩
    refine ah_store (i := 4) (b := W.heap.size + 1) (cs := #[id, lg, sp, pr, .int .i64 xa, .int .i64 xb, .int .i64 ya, .int .i64 yb, .int .i64 za, .int .i64 zb, vo, df, wa, .int .i64 su, .int .i64 co, .int .i64 st, dr, gr]) lwB rfl (by kernel_rfl) rfl rfl inferInstance rfl rfl (oneB o1 o2 o3 o4 o5 o6 o7 o8 o9) ⟨inferInstance, inferInstance⟩ ?_
    refine ah_store (i := 5) (b := W.heap.size) (cs := #[.string sn, .int .i64 s1, .int .i64 s2, .int .i64 s3, .int .i64 s4, .int .i64 s5, .int .i64 s6, .int .i64 s7, .int .i64 s8, .int .i64 s9, .int .i64 s10, .int .i64 s11, .int .i64 sh]) lwS rfl (by kernel_rfl) rfl rfl inferInstance rfl rfl (oneS ..) ⟨inferInstance, inferInstance⟩ ?_
    refine wpAnyH_done (by kernel_rfl) ?_ _
    refine q_fresh5 (w0 := w) w.heap.size (w.heap.size + 1) (w.heap.size + 1 + 1) W.heap.size (W.heap.size + 1) inferInstance inferInstance inferInstance inferInstance inferInstance (Ext.setRow (Ext.setRow (Ext.alloc (Ext.alloc HX.out _) _) (Nat.le_succ_of_le HX.out.size) _) HX.out.size _) ?_
    intro W' h0' h1' h2' h7' h8' HX'
    have A1 : Apart W.heap.size (W.heap.size + 1) := inferInstance
    have A2 : Apart (W.heap.size + 1) W.heap.size := inferInstance
    have A3 : Apart W.heap.size w.heap.size := inferInstance
    have A4 : Apart W.heap.size (w.heap.size + 1) := inferInstance
    have A5 : Apart W.heap.size (w.heap.size + 1 + 1) := inferInstance
    have A6 : Apart (W.heap.size + 1) w.heap.size := inferInstance
    have A7 : Apart (W.heap.size + 1) (w.heap.size + 1) := inferInstance
    have A8 : Apart (W.heap.size + 1) (w.heap.size + 1 + 1) := inferInstance
    have L1 := Lib.hid HX.out.size
    clear h0 h1 h2 HX O0 O1 O2
  all_goals
    simp only [Act.put, List.setIfInBounds_toArray, List.set_cons_succ, List.set_cons_zero]
    go_wp2_with (first | (((with_reducible apply wl_load' lwB); (· (first | exact wanted_none rfl | exact wanted_some rfl rfl rfl)); (· rfl); (· infer_instance); (· rfl)); (try simp only [List.setIfInBounds_toArray, List.set_cons_succ, List.set_cons_zero])) | (((with_reducible apply wl_load' lwS); (· (first | exact wanted_none rfl | exact wanted_some rfl rfl rfl)); (· rfl); (· infer_instance); (· rfl)); (try simp only [List.setIfInBounds_toArray, List.set_cons_succ, List.set_cons_zero])) | (go_at_call 9; refine (dried_any _ _ _ _ _ _ _ _ _ _ _ _ _ _ _ _ _ _ _ _ _ _ _ _ _ _ _ _ _ _ _ _).mono ?_; rintro e w' ⟨rfl, n, rfl⟩) | (go_at_call 18; refine (wood_any _ _ _ _ _ _ _ _ _ _ _ _ _ _).mono ?_; rintro e w' ⟨rfl, n, rfl⟩) | (go_at_call 19; refine (mcheck_any _ _ _ _).mono ?_; rintro e w' ⟨rfl, n, rfl⟩) | (go_at_call 15; refine (awake_any _).mono ?_; rintro e w' ⟨rfl, n, rfl⟩))
    go_ret
    refine ⟨rfl, ?_⟩
    exact ExtOf.of (by repeat' (first | (with_reducible exact Ext.refl _) | (with_reducible exact HX'.out) | (with_reducible exact ExtOf.ext _) | (with_reducible refine Ext.trans ?_ (ExtOf.ext _)) | (with_reducible refine Ext.alloc ?_ _) | (with_reducible refine Ext.drew ?_) | (with_reducible refine Ext.setCell ?_ ?_ _) | (with_reducible exact L1.out) | (with_reducible exact Nat.le_succ_of_le L1.out)))

set_option maxRecDepth 20000 in
set_option maxHeartbeats 6400000 in
theorem moister_j (id lg sp pr vo df wa dr gr : Value) (xa xb ya yb za zb su co st : Int) (sn : ByteArray) (s1 s2 s3 s4 s5 s6 s7 s8 s9 s10 s11 sh : Int) (m0 m1 : Int) (w : World) (o1 : id.oneCell' = true) (o2 : lg.oneCell' = true) (o3 : sp.oneCell' = true) (o4 : pr.oneCell' = true) (o5 : vo.oneCell' = true) (o6 : df.oneCell' = true) (o7 : wa.oneCell' = true) (o8 : dr.oneCell' = true) (o9 : gr.oneCell' = true) (d1 : decide (m0 < 0) = false) (d2 : decide (20000 < m0) = false) (d3 : decide (m1 < 0) = false) (d4 : decide (200 < m1) = false) (d5 : wd sh = true) (d6 : (mck su co st != 0) = false) (c0 : 0 ≤ co) (c1 : co ≤ 20000) (s0' : 0 ≤ sh) (s1' : sh ≤ 200) (e1 : 0 ≤ m0) (e2 : m0 ≤ 20000) (e3 : 0 ≤ m1) (e4 : m1 ≤ 200) (k1 : (mck su (co + m0) st == 0) = false) (k4 : wd (sh + m1) = false) : Calls Try.prog 5 #[.agg #[id, lg, sp, pr, .int .i64 xa, .int .i64 xb, .int .i64 ya, .int .i64 yb, .int .i64 za, .int .i64 zb, vo, df, wa, .int .i64 su, .int .i64 co, .int .i64 st, dr, gr], .agg #[.string sn, .int .i64 s1, .int .i64 s2, .int .i64 s3, .int .i64 s4, .int .i64 s5, .int .i64 s6, .int .i64 s7, .int .i64 s8, .int .i64 s9, .int .i64 s10, .int .i64 s11, .int .i64 sh], .agg #[.int .i64 m0, .int .i64 m1]] w fun e w' => e = .returned (.bool true) ∧ ∃ n : ExtOf w, w' = n.val := by
  go_enter Try.func5, Try.ntmps5
  go_wp2_with fail
  refine region_held (S := fun w' => Block w' w.heap.size #[id, lg, sp, pr, .int .i64 xa, .int .i64 xb, .int .i64 ya, .int .i64 yb, .int .i64 za, .int .i64 zb, vo, df, wa, .int .i64 su, .int .i64 co, .int .i64 st, dr, gr] ∧ Block w' (w.heap.size + 1) #[.string sn, .int .i64 s1, .int .i64 s2, .int .i64 s3, .int .i64 s4, .int .i64 s5, .int .i64 s6, .int .i64 s7, .int .i64 s8, .int .i64 s9, .int .i64 s10, .int .i64 s11, .int .i64 sh]) (by kernel_rfl) ?_
  refine fresh3 (R := fun W => wpAnyH _ _ _ _ _ _ _ _ W) (w0 := w) w.heap.size (w.heap.size + 1) (w.heap.size + 1 + 1) inferInstance inferInstance inferInstance (by repeat (first | exact Ext.refl _ | refine Ext.alloc ?_ _ | refine Ext.drew ?_)) ?_
  intro W h0 h1 h2 HX
  have O0 := h0.old
  have O1 := h1.old
  have O2 := h2.old
  refine wpAnyH_take (i := 0) (v := .agg #[id, lg, sp, pr, .int .i64 xa, .int .i64 xb, .int .i64 ya, .int .i64 yb, .int .i64 za, .int .i64 zb, vo, df, wa, .int .i64 su, .int .i64 co, .int .i64 st, dr, gr]) rfl (by kernel_rfl) (by kernel_rfl) (by kernel_rfl) (fun _ _ _ h => h) (.inl ⟨rfl, fun w' hb => run_load_op lwB rfl rfl hb.1 rfl⟩) ⟨inferInstance, inferInstance⟩ ?_
  refine wpAnyH_take (i := 1) (v := .agg #[.string sn, .int .i64 s1, .int .i64 s2, .int .i64 s3, .int .i64 s4, .int .i64 s5, .int .i64 s6, .int .i64 s7, .int .i64 s8, .int .i64 s9, .int .i64 s10, .int .i64 s11, .int .i64 sh]) rfl (by kernel_rfl) (by kernel_rfl) (by kernel_rfl) (fun _ _ _ h => h) (.inl ⟨rfl, fun w' hb => run_load_op lwS rfl rfl hb.2 rfl⟩) ⟨inferInstance, inferInstance⟩ ?_
  refine wpAnyH_all (rs := [2, 3]) (by kernel_rfl) (by simp) ?_
  intro j hj
  rcases (by simpa using hj : j = 2 ∨ j = 3) with rfl | rfl
  case' inl =>
    refine wpOp_alloc rfl rfl (zeroB _) ⟨⟨inferInstance, inferInstance⟩, ?_⟩
    refine wpAnyH_all (rs := [3]) (by kernel_rfl) (by simp) ?_
    intro j hj
    obtain rfl : j = 3 := by simpa using hj
    refine wpOp_alloc (b := W.heap.size + 1) rfl (by simp) (zeroS _) ⟨⟨inferInstance, inferInstance⟩, ?_⟩
    refine ah_store (i := 4) (b := W.heap.size) (cs := #[id, lg, sp, pr, .int .i64 xa, .int .i64 xb, .int .i64 ya, .int .i64 yb, .int .i64 za, .int .i64 zb, vo, df, wa, .int .i64 su, .int .i64 co, .int .i64 st, dr, gr]) lwB rfl (by kernel_rfl) rfl rfl inferInstance rfl rfl (oneB o1 o2 o3 o4 o5 o6 o7 o8 o9) ⟨inferInstance, inferInstance⟩ ?_
    refine ah_store (i := 5) (b := W.heap.size + 1) (cs := #[.string sn, .int .i64 s1, .int .i64 s2, .int .i64 s3, .int .i64 s4, .int .i64 s5, .int .i64 s6, .int .i64 s7, .int .i64 s8, .int .i64 s9, .int .i64 s10, .int .i64 s11, .int .i64 sh]) lwS rfl (by kernel_rfl) rfl rfl inferInstance rfl rfl (oneS ..) ⟨inferInstance, inferInstance⟩ ?_
    refine wpAnyH_done (by kernel_rfl) ?_ _
    refine q_fresh5 (w0 := w) w.heap.size (w.heap.size + 1) (w.heap.size + 1 + 1) W.heap.size (W.heap.size + 1) inferInstance inferInstance inferInstance inferInstance inferInstance (Ext.setRow (Ext.setRow (Ext.alloc (Ext.alloc HX.out _) _) HX.out.size _) (Nat.le_succ_of_le HX.out.size) _) ?_
    intro W' h0' h1' h2' h7' h8' HX'
    have A1 : Apart W.heap.size (W.heap.size + 1) := inferInstance
    have A2 : Apart (W.heap.size + 1) W.heap.size := inferInstance
    have A3 : Apart W.heap.size w.heap.size := inferInstance
    have A4 : Apart W.heap.size (w.heap.size + 1) := inferInstance
    have A5 : Apart W.heap.size (w.heap.size + 1 + 1) := inferInstance
    have A6 : Apart (W.heap.size + 1) w.heap.size := inferInstance
    have A7 : Apart (W.heap.size + 1) (w.heap.size + 1) := inferInstance
    have A8 : Apart (W.heap.size + 1) (w.heap.size + 1 + 1) := inferInstance
    have L1 := Lib.hid HX.out.size
    clear h0 h1 h2 HX O0 O1 O2
  case' inr =>
    refine wpOp_alloc rfl rfl (zeroS _) ⟨⟨inferInstance, inferInstance⟩, ?_⟩
    refine wpAnyH_all (rs := [2]) (by kernel_rfl) (by simp) ?_
    intro j hj
    obtain rfl : j = 2 := by simpa using hj
    refine wpOp_alloc (b := W.heap.size + 1) rfl (by simp) (zeroB _) ⟨⟨inferInstance, inferInstance⟩, ?_⟩
    refine ah_store (i := 4) (b := W.heap.size + 1) (cs := #[id, lg, sp, pr, .int .i64 xa, .int .i64 xb, .int .i64 ya, .int .i64 yb, .int .i64 za, .int .i64 zb, vo, df, wa, .int .i64 su, .int .i64 co, .int .i64 st, dr, gr]) lwB rfl (by kernel_rfl) rfl rfl inferInstance rfl rfl (oneB o1 o2 o3 o4 o5 o6 o7 o8 o9) ⟨inferInstance, inferInstance⟩ ?_
    refine ah_store (i := 5) (b := W.heap.size) (cs := #[.string sn, .int .i64 s1, .int .i64 s2, .int .i64 s3, .int .i64 s4, .int .i64 s5, .int .i64 s6, .int .i64 s7, .int .i64 s8, .int .i64 s9, .int .i64 s10, .int .i64 s11, .int .i64 sh]) lwS rfl (by kernel_rfl) rfl rfl inferInstance rfl rfl (oneS ..) ⟨inferInstance, inferInstance⟩ ?_
    refine wpAnyH_done (by kernel_rfl) ?_ _
    refine q_fresh5 (w0 := w) w.heap.size (w.heap.size + 1) (w.heap.size + 1 + 1) W.heap.size (W.heap.size + 1) inferInstance inferInstance inferInstance inferInstance inferInstance (Ext.setRow (Ext.setRow (Ext.alloc (Ext.alloc HX.out _) _) (Nat.le_succ_of_le HX.out.size) _) HX.out.size _) ?_
    intro W' h0' h1' h2' h7' h8' HX'
    have A1 : Apart W.heap.size (W.heap.size + 1) := inferInstance
    have A2 : Apart (W.heap.size + 1) W.heap.size := inferInstance
    have A3 : Apart W.heap.size w.heap.size := inferInstance
    have A4 : Apart W.heap.size (w.heap.size + 1) := inferInstance
    have A5 : Apart W.heap.size (w.heap.size + 1 + 1) := inferInstance
    have A6 : Apart (W.heap.size + 1) w.heap.size := inferInstance
    have A7 : Apart (W.heap.size + 1) (w.heap.size + 1) := inferInstance
    have A8 : Apart (W.heap.size + 1) (w.heap.size + 1 + 1) := inferInstance
    have L1 := Lib.hid HX.out.size
    clear h0 h1 h2 HX O0 O1 O2
  all_goals
    simp only [Act.put, List.setIfInBounds_toArray, List.set_cons_succ, List.set_cons_zero]
    go_wp2_with (first | (((with_reducible apply wl_load' lwB); (· (first | exact wanted_none rfl | exact wanted_some rfl rfl rfl)); (· rfl); (· infer_instance); (· rfl)); (try simp only [List.setIfInBounds_toArray, List.set_cons_succ, List.set_cons_zero])) | (((with_reducible apply wl_load' lwS); (· (first | exact wanted_none rfl | exact wanted_some rfl rfl rfl)); (· rfl); (· infer_instance); (· rfl)); (try simp only [List.setIfInBounds_toArray, List.set_cons_succ, List.set_cons_zero])) | (go_at_call 9; refine (dried_any _ _ _ _ _ _ _ _ _ _ _ _ _ _ _ _ _ _ _ _ _ _ _ _ _ _ _ _ _ _ _ _).mono ?_; rintro e w' ⟨rfl, n, rfl⟩) | (go_at_call 18; refine (wood_any _ _ _ _ _ _ _ _ _ _ _ _ _ _).mono ?_; rintro e w' ⟨rfl, n, rfl⟩) | (go_at_call 19; refine (mcheck_any _ _ _ _).mono ?_; rintro e w' ⟨rfl, n, rfl⟩) | (go_at_call 15; refine (awake_any _).mono ?_; rintro e w' ⟨rfl, n, rfl⟩))
    go_ret
    refine ⟨rfl, ?_⟩
    exact ExtOf.of (by repeat' (first | (with_reducible exact Ext.refl _) | (with_reducible exact HX'.out) | (with_reducible exact ExtOf.ext _) | (with_reducible refine Ext.trans ?_ (ExtOf.ext _)) | (with_reducible refine Ext.alloc ?_ _) | (with_reducible refine Ext.drew ?_) | (with_reducible refine Ext.setCell ?_ ?_ _) | (with_reducible exact L1.out) | (with_reducible exact Nat.le_succ_of_le L1.out)))

end Go.Proofs.Ytmlgclkclnhmhaa
