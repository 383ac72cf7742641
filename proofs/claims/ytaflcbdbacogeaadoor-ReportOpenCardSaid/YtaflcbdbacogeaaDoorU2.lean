/-
  The stable sort of fewer than 20 indices.
-/
import Derived.Test.YtaflcbdbacogeaaDoorU1
set_option linter.unusedVariables false
set_option linter.unusedSimpArgs false
namespace Go.Proofs.YtaflcbdbacogeaaDoor
open Go.RowKit ReportM Go.Shelf Go.Lib Go.Sort

theorem egO : ∀ args w, (callFunc 35 args).run Tryd.prog w = .ok (.enter 35 args) w := enters_of Tryd.func35 (by kernel_rfl) rfl
set_option maxRecDepth 20000 in
set_option maxHeartbeats 1600000 in
theorem stable_small (d : List Du) (op : List Nat) [Inhabited (Fin op.length)] (g cap : Nat) (w : World) (cb : Array Value) (hn : op.length < 20)
    (hc : CmpLays1 Tryd.prog 35 cb (encI op) (cmpI d op) g 0 op.length w) (hH : Holds (encI op) w g 0 (dI op)) (hg : g < w.heap.size) :
    Calls Tryd.prog 47 #[.slice (some ⟨g, 0, none⟩) op.length cap, .int .i64 (op.length : Int), .func (.func 35) #[] cb] w fun e w' => e = .returned (.tuple #[]) ∧ ∃ d' : Array (Fin op.length), PermIn 0 op.length (dI op) d' ∧ SortedIn (TI d op) 0 op.length d' ∧ SW (encI op) w g 0 d' w' := by
  have hins := Tryd.insertionSortCmpFunc_s (encI op) (cmpI d op) 35 cb g 0 cap 0 op.length (dI op) (dI op) w w egO (by rw [dI_size]; exact hc) ⟨encI_one op, hH, hg⟩ rfl (SW.start hH) (Nat.zero_le _) (by rw [dI_size]; exact Nat.le_refl _) (by rw [dI_size]; omega)
  rw [dI_size] at hins
  have hpl := insertionSort_agree (lt := ltOf (cmpI d op)) (swoT d op) (a := 0) (b := op.length) (d := dI op) (Nat.zero_le _) (by rw [dI_size]; exact Nat.le_refl _) (fun p q _ h1 h2 => by
    rw [dI_get op q h2, dI_get op p (by omega)]
    exact agreeI d op h1)
  have HI := Lib.hid hins
  have HP := Lib.hid hpl
  clear hins hpl hc hH
  go_enter Tryd.func47, Tryd.ntmps47
  go_wp2
  refine wp_loop_rounds 1 ?_
  rw [rounds_succ]
  go_wp2_with (go_at_call 62; refine HI.out.mono ?_; rintro e w1 ⟨rfl, hsw⟩; have HSW := Lib.hid hsw; clear hsw)
  refine wp_loop_rounds 1 ?_
  rw [rounds_succ]
  go_wp2
  all_goals first | (exfalso; omega) | (go_end0; exact ⟨rfl, _, HP.out.1, HP.out.2, HSW.out⟩)
theorem sortst_of {m : Nat} (hst : ∀ (d : List Du) (op : List Nat) [Inhabited (Fin op.length)] (g cap : Nat) (w : World) (cb : Array Value), op.length ≤ m →
    CmpLays1 Tryd.prog 35 cb (encI op) (cmpI d op) g 0 op.length w → Holds (encI op) w g 0 (dI op) → g < w.heap.size →
    Calls Tryd.prog 47 #[.slice (some ⟨g, 0, none⟩) op.length cap, .int .i64 (op.length : Int), .func (.func 35) #[] cb] w fun e w' => e = .returned (.tuple #[]) ∧ ∃ d' : Array (Fin op.length), PermIn 0 op.length (dI op) d' ∧ SortedIn (TI d op) 0 op.length d' ∧ SW (encI op) w g 0 d' w') : SortOk m := by
  intro d op ih g cap b1 w cb hm hc hH hg
  have H := Lib.hid (hst d op g cap w cb hm hc hH hg)
  clear hc hH
  go_enter Tryd.func34, Tryd.ntmps34
  go_wp2_with (go_at_call 47; refine H.out.mono ?_; rintro e w1 ⟨rfl, hsw⟩; have HSW := Lib.hid hsw; clear hsw)
  go_end0
  exact ⟨rfl, HSW.out⟩
theorem sort_small : SortOk 19 := sortst_of fun d op _ g cap w cb hm hc hH hg => stable_small d op g cap w cb (by omega) hc hH hg
end Go.Proofs.YtaflcbdbacogeaaDoor
