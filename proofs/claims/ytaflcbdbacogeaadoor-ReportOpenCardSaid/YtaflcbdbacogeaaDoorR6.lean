/-
  Keys and tallies of a stock: the key's type, how two tallies compare.
-/
import Derived.Test.YtaflcbdbacogeaaDoorR5
import Derived.Test.YtaflcbdbacogeaaDoorPMap
import Derived.Test.YtaflcbdbacogeaaDoorQ1
import Derived.Test.YtaflcbdbacogeaaDoorShelf
import Derived.DeepKeys4
set_option linter.unusedVariables false
set_option linter.unusedSimpArgs false
namespace Go.Proofs.YtaflcbdbacogeaaDoor
open Go.RowKit ReportM Go.Maps

attribute [local go_sem] ExtOf.cell ExtOf.frozen ExtS.cell ExtS.frozen Block.cell Block.frozen ExtB.cell ExtB.frozen alloc_cell alloc_frozen
def InR (n : Int) : Prop := -9223372036854775808 ≤ n ∧ n ≤ 9223372036854775807
def kv (k : Ky) : Value := .agg #[.int .i64 k.1, .int .i64 k.2.1, .int .i64 k.2.2]
theorem kv_inj (x y : Ky) (h : kv x = kv y) : x = y := by
  obtain ⟨a, b, c⟩ := x
  obtain ⟨d, e, f⟩ := y
  simp [kv] at h
  simp [h]
theorem laidOut64 : laidOutB Tryd.prog = true := by kernel_rfl
theorem wideKey : (match Tryd.prog.underlying 123 with | some (.array _ _) | some (.struct _) => true | _ => false) = true := by rw [Tryd.underlying123]
theorem rowKey : (123 : TypeId) < Tryd.prog.types.size := of_decide_eq_true (by kernel_rfl)
theorem keyAt2 : Tryd.prog.keyTypeAt 2 123 = true := by kernel_rfl
theorem keyLaw : Keyed Tryd.prog 123 := Keyed.of_law (deep_law_laid laidOut64 (m := 2) (by decide) rowKey keyAt2 (by rw [Tryd.underlying123]))
theorem wf_in {n : Int} (h : InR n) : (Lit.int .i64 n).wf = true := by
  have := h.1; have := h.2
  exact WalkArith.wf_i64 (by omega)
theorem kv_lits (k : Ky) (h : InR k.1 ∧ InR k.2.1 ∧ InR k.2.2) : Tryd.prog.keyLits (Tryd.prog.types.size + 1) 123 [.int .i64 k.1, .int .i64 k.2.1, .int .i64 k.2.2] = some [.int .i64 k.1, .int .i64 k.2.1, .int .i64 k.2.2] := by
  have one : ∀ (d : Nat) (n : Int), InR n → Tryd.prog.keyLits (d + 1) 3 [.int .i64 n] = some [.int .i64 n] := fun d n hn => by
    unfold Program.keyLits
    simp only [Tryd.underlying3, wf_in hn, and_self, if_true]
  have e : Tryd.prog.types.size = (Tryd.prog.types.size - 1) + 1 := by
    have : 0 < Tryd.prog.types.size := of_decide_eq_true (by kernel_rfl)
    omega
  generalize Tryd.prog.types.size - 1 = q at e
  rw [e]
  have hc : Tryd.prog.cellsOf 123 = 3 := by kernel_rfl
  have hi : Tryd.prog.cellsOf 3 = 1 := by kernel_rfl
  unfold Program.keyLits
  simp only [Tryd.underlying123, hc]
  simp [hi, one _ _ h.1, one _ _ h.2.1, one _ _ h.2.2]
theorem kv_key (k : Ky) (h : InR k.1 ∧ InR k.2.1 ∧ InR k.2.2) : ∃ l, keyOf Tryd.prog 123 (kv k) = some l := by
  have hc : Tryd.prog.cellsOf 123 = 3 := by kernel_rfl
  have hk : Tryd.prog.keyType 123 = true := by kernel_rfl
  have hf : (kv k).formed Tryd.prog 123 = true := by simp [kv, Value.formed, Tryd.underlying123, hc]
  have hl := kv_lits k h
  unfold keyOf
  rw [Tryd.underlying123]
  simp only [hk, hf, Bool.and_self, if_true]
  have e : (kv k).cells.toList = [.int .i64 k.1, .int .i64 k.2.1, .int .i64 k.2.2] := rfl
  rw [e, hl]
  exact ⟨_, rfl⟩
theorem zeroPT (W : World) : (zeroValue 124).run Tryd.prog W = .ok (.pointer none) W := by kernel_rfl
/-- how two keys compare -/
def cmpK (a b : Ky) : Int := if Lib.compareInt a.1 b.1 ≠ 0 then Lib.compareInt a.1 b.1 else if Lib.compareInt a.2.1 b.2.1 ≠ 0 then Lib.compareInt a.2.1 b.2.1 else Lib.compareInt a.2.2 b.2.2
theorem cmpK_lt (a b : Ky) : decide (cmpK a b < 0) = decide (ltK a b) := by
  rw [decide_eq_decide]
  unfold cmpK ltK Lib.compareInt
  repeat' split <;> omega
def orF (a b c : Int) : Int := if a ≠ 0 then a else if b ≠ 0 then b else c
set_option maxHeartbeats 800000 in
theorem or_any (x y z : Int) (g : Nat) (w : World) (c0 : w.cell? ⟨g, 0, none⟩ = some (.int .i64 x)) (c1 : w.cell? ⟨g, 1, none⟩ = some (.int .i64 y)) (c2 : w.cell? ⟨g, 2, none⟩ = some (.int .i64 z)) :
    Calls Tryd.prog 41 #[.slice (some ⟨g, 0, none⟩) 3 3] w fun e w' => e = .returned (.int .i64 (orF x y z)) ∧ w' = w := by
  go_enter Tryd.func41, Tryd.ntmps41
  go_wp2
  go_loop [8] (fun i => ∃ k : Nat, k ≤ 3 ∧ i = .int .i64 k ∧ (0 < k → x = 0) ∧ (1 < k → y = 0) ∧ (2 < k → z = 0)) (fun i => 3 - (intOf i).toNat)
  case atStart => exact ⟨0, by omega, rfl, by omega, by omega, by omega⟩
  case round =>
    obtain ⟨k, hk, rfl, h0, h1, h2⟩ := hrel
    rcases (show k = 0 ∨ k = 1 ∨ k = 2 ∨ k = 3 by omega) with rfl | rfl | rfl | rfl
    · rcases hx : (x != 0) with _ | _
      · go_wp2
        go_round
        case rel => exact ⟨1, by omega, by first | rfl | go_num, fun _ => by simpa using hx, by omega, by omega⟩
        case measure => first | decide | simp [intOf]
      · go_wp2
        go_ret
        exact ⟨ret_int (by unfold orF; rw [if_pos (by simpa using hx)]), rfl⟩
    · have e0 := h0 (by omega)
      rcases hy : (y != 0) with _ | _
      · have E0 := Lib.hid e0
        clear e0 h0 h1 h2
        go_wp2
        go_round
        case rel => exact ⟨2, by omega, by first | rfl | go_num, fun _ => E0.out, fun _ => by simpa using hy, by omega⟩
        case measure => first | decide | simp [intOf]
      · have E0 := Lib.hid e0
        clear e0 h0 h1 h2
        go_wp2
        go_ret
        exact ⟨ret_int (by unfold orF; rw [if_neg (by rw [E0.out]; simp), if_pos (by simpa using hy)]), rfl⟩
    · have e0 := h0 (by omega)
      have e1 := h1 (by omega)
      have E0 := Lib.hid e0
      have E1 := Lib.hid e1
      clear e0 e1 h0 h1 h2
      rcases hz : (z != 0) with _ | _
      · go_wp2
        go_round
        case rel => exact ⟨3, by omega, by first | rfl | go_num, fun _ => E0.out, fun _ => E1.out, fun _ => by simpa using hz⟩
        case measure => first | decide | simp [intOf]
      · go_wp2
        go_ret
        exact ⟨ret_int (by unfold orF; rw [if_neg (by rw [E0.out]; simp), if_neg (by rw [E1.out]; simp)]), rfl⟩
    · have E0 := Lib.hid (h0 (by omega))
      have E1 := Lib.hid (h1 (by omega))
      have E2 := Lib.hid (h2 (by omega))
      clear h0 h1 h2
      go_wp2
      go_ret
      exact ⟨ret_int (by unfold orF; rw [if_neg (by rw [E0.out]; simp), if_neg (by rw [E1.out]; simp), E2.out]), rfl⟩
theorem or_new (x y z : Int) (w : World) (T : TypeId) : Calls Tryd.prog 41 #[.slice (some ⟨w.heap.size, 0, none⟩) 3 3] (w.alloc (.cells #[.int .i64 x, .int .i64 y, .int .i64 z] T)) fun e w' => e = .returned (.int .i64 (orF x y z)) ∧ w' = w.alloc (.cells #[.int .i64 x, .int .i64 y, .int .i64 z] T) :=
  or_any x y z w.heap.size _ (by simp) (by simp) (by simp)
def talC (t : Tal) : Array Value := #[.int .i64 t.k.1, .int .i64 t.k.2.1, .int .i64 t.k.2.2, .int .i64 t.c, .int .i64 t.v]
set_option maxHeartbeats 1600000 in
set_option maxRecDepth 20000 in
theorem compare_any (g h : Nat) (s t : Tal) (w : World) (hg : Block w g (talC s)) (hh : Block w h (talC t)) :
    Calls Tryd.prog 26 #[.pointer (some ⟨g, 0, none⟩), .pointer (some ⟨h, 0, none⟩)] w fun e w' => e = .returned (.int .i64 (cmpK s.k t.k)) ∧ ∃ q o, w' = (w.drewN q).alloc o := by
  have g0 : w.cell? ⟨g, 0, none⟩ = some (.int .i64 s.k.1) := Block.cell (h := hg) 0
  have g1 : w.cell? ⟨g, 1, none⟩ = some (.int .i64 s.k.2.1) := Block.cell (h := hg) 1
  have g2 : w.cell? ⟨g, 2, none⟩ = some (.int .i64 s.k.2.2) := Block.cell (h := hg) 2
  have h0 : w.cell? ⟨h, 0, none⟩ = some (.int .i64 t.k.1) := Block.cell (h := hh) 0
  have h1 : w.cell? ⟨h, 1, none⟩ = some (.int .i64 t.k.2.1) := Block.cell (h := hh) 1
  have h2 : w.cell? ⟨h, 2, none⟩ = some (.int .i64 t.k.2.2) := Block.cell (h := hh) 2
  clear hg hh
  go_enter Tryd.func26, Tryd.ntmps26
  go_wp2
  refine wp_region_class_tail (C := fun w' => ∃ n, w' = w.drewN n) 33 (by kernel_rfl) (by kernel_rfl) ⟨1, rfl⟩ ?_
  simp only [List.take_succ_cons, List.take_zero, List.drop_succ_cons, List.drop_zero]
  repeat (first | go_big_quiet_skip | go_big_quiet_step ((go_at_call 36; exact Calls.quiet_of_same (Tryd.cmp_Compare_int _ _ _))))
  refine wpQuiet_nil ?_
  intro w' hw'
  obtain ⟨nq, rfl⟩ := hw'
  go_wp2_with (first | (go_at_call 41; refine (or_new _ _ _ (w.drewN nq) _).mono ?_; rintro e w' ⟨rfl, rfl⟩))
  go_ret
  exact ⟨rfl, nq, _, rfl⟩
end Go.Proofs.YtaflcbdbacogeaaDoor
