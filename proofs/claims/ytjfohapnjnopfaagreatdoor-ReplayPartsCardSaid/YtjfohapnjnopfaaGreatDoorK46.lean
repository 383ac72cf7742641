/-
  Chapter 61: several texts in one (R46, R47, R48).
-/
import Derived.Test.YtjfohapnjnopfaaGreatDoorK39
import Derived.Test.YtjfohapnjnopfaaGreatDoorK14
import Derived.Test.YtjfohapnjnopfaaGreatDoorLC
/-
  Chapter 61: the reference's reader of numbers: it ends, and stays within the string.
-/
section
set_option linter.unusedVariables false
set_option linter.unusedSimpArgs false
namespace Go.Proofs.YtjfohapnjnopfaaGreatDoor
open Go.RowKit RepM

attribute [local go_sem] ExtOf.cell ExtOf.frozen Block.cell Block.frozen ExtB.cell ExtB.frozen alloc_cell alloc_frozen
/-- what is handed back of a number that is read -/
def NumR (w : World) (s : ByteArray) (k : IntKind) (en : Ending) (w' : World) : Prop := ∃ (n : Int) (nx : Nat) (e : Int), en = .returned (.tuple #[.int k n, .int .i64 (nx : Int), .int .i64 e]) ∧ nx ≤ s.size ∧ ∃ m : ExtOf w, w' = m.val
set_option maxHeartbeats 1600000 in
set_option maxRecDepth 20000 in
theorem number_any (s : ByteArray) (at_ : Nat) (w : World) (ha : at_ ≤ s.size) (hs : s.size ≤ 100000) : Calls Tryz.prog 129 #[.string s, .int .i64 (at_ : Int)] w (NumR w s .u64) := by
  go_enter Tryz.func129, Tryz.ntmps129
  go_wp2_with fail
  go_loopw [7, 8, 9] (fun vn vu vi wr => ∃ (n u : Int) (i : Nat), i ≤ 10 ∧ vn = .int .u64 n ∧ vu = .int .u64 u ∧ vi = .int .i64 i ∧ Ext w wr) (fun _ _ i _ => 10 - (intOf i).toNat)
  case atStart => exact ⟨0, 1, 0, by omega, rfl, rfl, rfl, Ext.refl _⟩
  case round =>
    obtain ⟨n, u, i, hi, rfl, rfl, rfl, hx⟩ := hrel
    have HX := Lib.hid hx
    clear hx
    by_cases h10 : i < 10
    · by_cases hsz : at_ + i < s.size
      · have d1 : decide ((s.size : Int) ≤ at_ + i) = false := decide_eq_false (by omega)
        by_cases h9 : i = 9
        · subst h9
          go_wp2_with fail
          all_goals first
            | (go_ret3; exact ⟨_, _, _, rfl, ha, ExtOf.of HX.out⟩)
            | (go_ret3; exact ⟨_, at_ + 9 + 1, _, rfl, by omega, ExtOf.of HX.out⟩)
            | (go_roundw
               case rel => exact ⟨_, _, 10, by omega, by first | rfl | go_num, by first | rfl | go_num, by first | rfl | go_num, HX.out⟩
               case measure => first | (simp [intOf]; done) | (simp [intOf]; omega))
        · have d9 : ((i : Int) == 9) = false := beq_eq_false_iff_ne.2 (by omega)
          have d9' : ¬ i = 9 := h9
          go_wp2_with fail
          all_goals first
            | (go_ret3; exact ⟨_, _, _, rfl, ha, ExtOf.of HX.out⟩)
            | (go_ret3; exact ⟨_, at_ + i + 1, _, rfl, by omega, ExtOf.of HX.out⟩)
            | (go_roundw
               case rel => exact ⟨_, _, i + 1, by omega, by first | rfl | go_num, by first | rfl | go_num, by first | rfl | go_num, HX.out⟩
               case measure => first | (simp [intOf]; done) | (simp [intOf]; omega))
      · have d1 : decide ((s.size : Int) ≤ at_ + i) = true := decide_eq_true (by omega)
        go_wp2_with fail
        go_ret3
        exact ⟨_, _, _, rfl, ha, ExtOf.of HX.out⟩
    · go_wp2_with fail
      go_ret3
      exact ⟨_, _, _, rfl, ha, ExtOf.of HX.out⟩
end Go.Proofs.YtjfohapnjnopfaaGreatDoor
end
/-
  Chapter 61: the reference's reader of lists of numbers.
-/
section
set_option linter.unusedVariables false
set_option linter.unusedSimpArgs false
namespace Go.Proofs.YtjfohapnjnopfaaGreatDoor
open Go.RowKit RepM

attribute [local go_sem] ExtOf.cell ExtOf.frozen Block.cell Block.frozen ExtB.cell ExtB.frozen alloc_cell alloc_frozen
theorem lwRd : Whole Tryz.prog 161 3 := whole_of Tryz.underlying161 rfl (by kernel_rfl)
set_option maxHeartbeats 1600000 in
set_option maxRecDepth 20000 in
theorem signed_any (s : ByteArray) (at_ : Nat) (low high : Int) (w : World) (ha : at_ ≤ s.size) (hs : s.size ≤ 100000) : Calls Tryz.prog 131 #[.string s, .int .i64 (at_ : Int), .int .i64 low, .int .i64 high] w (NumR w s .i64) := by
  go_enter Tryz.func131, Tryz.ntmps131
  go_wp2_with (go_at_call 129; refine (number_any s at_ _ ha hs).mono ?_; rintro en w' ⟨n, nx, er, rfl, hnx, n1, rfl⟩)
  all_goals (go_ret3; first | exact ⟨_, at_, _, rfl, ha, by exact ExtOf.of (by repeat' (first | (with_reducible exact Ext.refl _) | (with_reducible exact ExtOf.ext _) | (with_reducible refine Ext.trans ?_ (ExtOf.ext _)) | (with_reducible refine Ext.alloc ?_ _) | (with_reducible refine Ext.drew ?_) | (with_reducible refine Ext.setCell ?_ ?_ _) | (with_reducible refine Ext.setRow ?_ ?_ _) | (with_reducible exact HX.out) | (with_reducible refine Ext.trans ?_ HX.out) | (with_reducible refine Ext.below ?_ (Nat.le_refl _) _) | omega | (simp; done) | (simp; omega)))⟩ | exact ⟨_, nx, _, rfl, hnx, by exact ExtOf.of (by repeat' (first | (with_reducible exact Ext.refl _) | (with_reducible exact ExtOf.ext _) | (with_reducible refine Ext.trans ?_ (ExtOf.ext _)) | (with_reducible refine Ext.alloc ?_ _) | (with_reducible refine Ext.drew ?_) | (with_reducible refine Ext.setCell ?_ ?_ _) | (with_reducible refine Ext.setRow ?_ ?_ _) | (with_reducible exact HX.out) | (with_reducible refine Ext.trans ?_ HX.out) | (with_reducible refine Ext.below ?_ (Nat.le_refl _) _) | omega | (simp; done) | (simp; omega)))⟩)
theorem fail_any (s : ByteArray) (a e0 er : Int) (w : World) : Calls Tryz.prog 130 #[.agg #[.string s, .int .i64 a, .int .i64 e0], .int .i64 er] w fun e w' => e = .returned (.agg #[.string s, .int .i64 a, .int .i64 er]) ∧ ∃ n : ExtOf w, w' = n.val := by
  go_enter Tryz.func130, Tryz.ntmps130
  go_wp2_with (first | ((with_reducible apply wl_store' lwRd); (· (first | exact wanted_none rfl | exact wanted_some rfl rfl rfl)); (· rfl); (· rfl); (· infer_instance); (· rfl); (· rfl); (· (simp [Value.oneCell', SlT.v])); try simp only [setRow_alloc, setRow_new, setRow_new1, setRow_new2, setRow_new11, setRow_new111]) | ((with_reducible apply wl_load' lwRd); (· (first | exact wanted_none rfl | exact wanted_some rfl rfl rfl)); (· rfl); (· infer_instance); (· rfl)))
  refine bodyPost_ret (results_c1 (b0 := w.heap.size + 1) rfl lwRd rfl inferInstance rfl) rfl ⟨rfl, by exact ExtOf.of (by repeat' (first | (with_reducible exact Ext.refl _) | (with_reducible exact ExtOf.ext _) | (with_reducible refine Ext.trans ?_ (ExtOf.ext _)) | (with_reducible refine Ext.alloc ?_ _) | (with_reducible refine Ext.drew ?_) | (with_reducible refine Ext.setCell ?_ ?_ _) | (with_reducible refine Ext.setRow ?_ ?_ _) | (with_reducible exact HX.out) | (with_reducible refine Ext.trans ?_ HX.out) | (with_reducible refine Ext.below ?_ (Nat.le_refl _) _) | omega | (simp; done) | (simp; omega)))⟩
theorem newReader_any (s : ByteArray) (w : World) : Calls Tryz.prog 114 #[.string s] w fun e w' => e = .returned (.agg #[.string s, .int .i64 0, .int .i64 0]) ∧ ∃ n : ExtOf w, w' = n.val := by
  go_enter Tryz.func114, Tryz.ntmps114
  go_wp2_with (first | ((with_reducible apply wl_store' lwRd); (· (first | exact wanted_none rfl | exact wanted_some rfl rfl rfl)); (· rfl); (· rfl); (· infer_instance); (· rfl); (· rfl); (· (simp [Value.oneCell', SlT.v])); try simp only [setRow_alloc, setRow_new, setRow_new1, setRow_new2, setRow_new11, setRow_new111]) | ((with_reducible apply wl_load' lwRd); (· (first | exact wanted_none rfl | exact wanted_some rfl rfl rfl)); (· rfl); (· infer_instance); (· rfl)))
  refine bodyPost_ret (results_c1 (b0 := w.heap.size) rfl lwRd rfl inferInstance rfl) rfl ⟨rfl, by exact ExtOf.of (by repeat' (first | (with_reducible exact Ext.refl _) | (with_reducible exact ExtOf.ext _) | (with_reducible refine Ext.trans ?_ (ExtOf.ext _)) | (with_reducible refine Ext.alloc ?_ _) | (with_reducible refine Ext.drew ?_) | (with_reducible refine Ext.setCell ?_ ?_ _) | (with_reducible refine Ext.setRow ?_ ?_ _) | (with_reducible exact HX.out) | (with_reducible refine Ext.trans ?_ HX.out) | (with_reducible refine Ext.below ?_ (Nat.le_refl _) _) | omega | (simp; done) | (simp; omega)))⟩
theorem left_any (s : ByteArray) (at_ : Nat) (e0 : Int) (w : World) (ha : at_ ≤ s.size) (hs : s.size ≤ 100000) : Calls Tryz.prog 132 #[.agg #[.string s, .int .i64 (at_ : Int), .int .i64 e0]] w fun en w' => (∃ n : Int, en = .returned (.int .i64 n)) ∧ ∃ m : ExtOf w, w' = m.val := by
  go_enter Tryz.func132, Tryz.ntmps132
  go_wp2_with (first | ((with_reducible apply wl_store' lwRd); (· (first | exact wanted_none rfl | exact wanted_some rfl rfl rfl)); (· rfl); (· rfl); (· infer_instance); (· rfl); (· rfl); (· (simp [Value.oneCell', SlT.v])); try simp only [setRow_alloc, setRow_new, setRow_new1, setRow_new2, setRow_new11, setRow_new111]) | ((with_reducible apply wl_load' lwRd); (· (first | exact wanted_none rfl | exact wanted_some rfl rfl rfl)); (· rfl); (· infer_instance); (· rfl)))
  go_ret
  exact ⟨⟨_, rfl⟩, by exact ExtOf.of (by repeat' (first | (with_reducible exact Ext.refl _) | (with_reducible exact ExtOf.ext _) | (with_reducible refine Ext.trans ?_ (ExtOf.ext _)) | (with_reducible refine Ext.alloc ?_ _) | (with_reducible refine Ext.drew ?_) | (with_reducible refine Ext.setCell ?_ ?_ _) | (with_reducible refine Ext.setRow ?_ ?_ _) | (with_reducible exact HX.out) | (with_reducible refine Ext.trans ?_ HX.out) | (with_reducible refine Ext.below ?_ (Nat.le_refl _) _) | omega | (simp; done) | (simp; omega)))⟩
set_option maxHeartbeats 1600000 in
theorem end_any (s : ByteArray) (at_ : Nat) (e0 : Int) (w : World) (ha : at_ ≤ s.size) (hs : s.size ≤ 100000) : Calls Tryz.prog 116 #[.agg #[.string s, .int .i64 (at_ : Int), .int .i64 e0]] w fun en w' => (∃ n : Int, en = .returned (.int .i64 n)) ∧ ∃ m : ExtOf w, w' = m.val := by
  by_cases he : e0 = 0
  · subst he
    go_enter Tryz.func116, Tryz.ntmps116
    go_wp2_with (first | ((with_reducible apply wl_store' lwRd); (· (first | exact wanted_none rfl | exact wanted_some rfl rfl rfl)); (· rfl); (· rfl); (· infer_instance); (· rfl); (· rfl); (· (simp [Value.oneCell', SlT.v])); try simp only [setRow_alloc, setRow_new, setRow_new1, setRow_new2, setRow_new11, setRow_new111]) | ((with_reducible apply wl_load' lwRd); (· (first | exact wanted_none rfl | exact wanted_some rfl rfl rfl)); (· rfl); (· infer_instance); (· rfl)) | (go_at_call 132; refine (left_any s at_ _ _ ha hs).mono ?_; rintro en w' ⟨⟨n, rfl⟩, n1, rfl⟩))
    all_goals (go_ret; exact ⟨⟨_, rfl⟩, by exact ExtOf.of (by repeat' (first | (with_reducible exact Ext.refl _) | (with_reducible exact ExtOf.ext _) | (with_reducible refine Ext.trans ?_ (ExtOf.ext _)) | (with_reducible refine Ext.alloc ?_ _) | (with_reducible refine Ext.drew ?_) | (with_reducible refine Ext.setCell ?_ ?_ _) | (with_reducible refine Ext.setRow ?_ ?_ _) | (with_reducible exact HX.out) | (with_reducible refine Ext.trans ?_ HX.out) | (with_reducible refine Ext.below ?_ (Nat.le_refl _) _) | omega | (simp; done) | (simp; omega)))⟩)
  · have q0 : (e0 == 0) = false := beq_eq_false_iff_ne.2 he
    go_enter Tryz.func116, Tryz.ntmps116
    go_wp2_with (first | ((with_reducible apply wl_store' lwRd); (· (first | exact wanted_none rfl | exact wanted_some rfl rfl rfl)); (· rfl); (· rfl); (· infer_instance); (· rfl); (· rfl); (· (simp [Value.oneCell', SlT.v])); try simp only [setRow_alloc, setRow_new, setRow_new1, setRow_new2, setRow_new11, setRow_new111]) | ((with_reducible apply wl_load' lwRd); (· (first | exact wanted_none rfl | exact wanted_some rfl rfl rfl)); (· rfl); (· infer_instance); (· rfl)))
    go_ret
    exact ⟨⟨_, rfl⟩, by exact ExtOf.of (by repeat' (first | (with_reducible exact Ext.refl _) | (with_reducible exact ExtOf.ext _) | (with_reducible refine Ext.trans ?_ (ExtOf.ext _)) | (with_reducible refine Ext.alloc ?_ _) | (with_reducible refine Ext.drew ?_) | (with_reducible refine Ext.setCell ?_ ?_ _) | (with_reducible refine Ext.setRow ?_ ?_ _) | (with_reducible exact HX.out) | (with_reducible refine Ext.trans ?_ HX.out) | (with_reducible refine Ext.below ?_ (Nat.le_refl _) _) | omega | (simp; done) | (simp; omega)))⟩
/-- what is handed back of a list that is read -/
def RdR (w : World) (s : ByteArray) (most : Nat) (en : Ending) (w' : World) : Prop := ∃ (a' : Nat) (e' : Int) (v : Value) (l : List Int), en = .returned (.tuple #[.agg #[.string s, .int .i64 (a' : Int), .int .i64 e'], v]) ∧ a' ≤ s.size ∧ Own encI 1 3 w.heap.size w' v l ∧ l.length ≤ most ∧ ∃ m : ExtOf w, w' = m.val
def lenR : Value → Nat
  | .slice _ n _ => n
  | _ => 0
theorem Own.heapB {α : Type} {enc : α → List Value} {k E base : Nat} {w w' : World} {v : Value} {l : List α} (h : Own enc k E base w v l) (hh : ∀ q, base ≤ q → w'.heap[q]? = w.heap[q]?) : Own enc k E base w' v l := by
  refine ⟨h.1, ?_⟩
  rcases h.2 with hn | ⟨g, cap, cur, rfl, hb, hgg, rest⟩
  · exact .inl hn
  · exact .inr ⟨g, cap, cur, rfl, hb, (hh g hb).trans hgg, rest⟩
theorem heap_setRow_ne (w : World) (g : Nat) (cs : Array Value) {q : Nat} (h : q ≠ g) : (w.setRow g cs).heap[q]? = w.heap[q]? := by
  simp only [World.setRow, Array.getElem?_modify]
  rw [if_neg (fun e => h e.symm)]
set_option maxHeartbeats 3200000 in
set_option maxRecDepth 20000 in
theorem readInts_any (s : ByteArray) (at_ most : Nat) (e0 low high : Int) (w : World) (ha : at_ ≤ s.size) (hs : s.size ≤ 100000) (hm : most ≤ 1000) : Calls Tryz.prog 113 #[.agg #[.string s, .int .i64 (at_ : Int), .int .i64 e0], .int .i64 (most : Int), .int .i64 low, .int .i64 high] w (RdR w s most) := by
  obtain ⟨iE, hiE, hE0, hE1, hE2⟩ := info_parts infoInt
  have dm : decide ((most : Int) < 0) = false := decide_eq_false (by omega)
  have wm : IntKind.u64.wrap (most : Int) = most := by simp [IntKind.wrap, IntKind.signed, IntKind.bits]; omega
  by_cases he : e0 = 0
  case neg =>
    have q0 : (e0 != 0) = true := bne_iff_ne.2 he
    clear he
    go_enter Tryz.func113, Tryz.ntmps113
    go_wp2_with (first | ((with_reducible apply wl_store' lwRd); (· (first | exact wanted_none rfl | exact wanted_some rfl rfl rfl)); (· rfl); (· rfl); (· infer_instance); (· rfl); (· rfl); (· (simp [Value.oneCell', SlT.v])); try simp only [setRow_alloc, setRow_new, setRow_new1, setRow_new2, setRow_new11, setRow_new111]) | ((with_reducible apply wl_load' lwRd); (· (first | exact wanted_none rfl | exact wanted_some rfl rfl rfl)); (· rfl); (· infer_instance); (· rfl)))
    refine bodyPost_ret (results_cs (b0 := w.heap.size + 1) rfl lwRd rfl rfl inferInstance rfl) rfl ⟨at_, _, _, [], rfl, ha, Own.nil _, by simp, by exact ExtOf.of (by repeat' (first | (with_reducible exact Ext.refl _) | (with_reducible exact ExtOf.ext _) | (with_reducible refine Ext.trans ?_ (ExtOf.ext _)) | (with_reducible refine Ext.alloc ?_ _) | (with_reducible refine Ext.drew ?_) | (with_reducible refine Ext.setCell ?_ ?_ _) | (with_reducible refine Ext.setRow ?_ ?_ _) | (with_reducible exact HX.out) | (with_reducible refine Ext.trans ?_ HX.out) | (with_reducible refine Ext.below ?_ (Nat.le_refl _) _) | omega | (simp; done) | (simp; omega)))⟩
  subst he
  go_enter Tryz.func113, Tryz.ntmps113
  go_upto_region 4 with (first | ((with_reducible apply wl_store' lwRd); (· (first | exact wanted_none rfl | exact wanted_some rfl rfl rfl)); (· rfl); (· rfl); (· infer_instance); (· rfl); (· rfl); (· (simp [Value.oneCell', SlT.v])); try simp only [setRow_alloc, setRow_new, setRow_new1, setRow_new2, setRow_new11, setRow_new111]) | ((with_reducible apply wl_load' lwRd); (· (first | exact wanted_none rfl | exact wanted_some rfl rfl rfl)); (· rfl); (· infer_instance); (· rfl)) | (go_at_call 129; refine (number_any s at_ _ ha hs).mono ?_; rintro en w' ⟨n, nx, er, rfl, hnx, n1, rfl⟩))
  by_cases he : er = 0
  case neg =>
    have q0 : (er != 0) = true := bne_iff_ne.2 he
    clear he
    go_wp2_with (first | ((with_reducible apply wl_store' lwRd); (· (first | exact wanted_none rfl | exact wanted_some rfl rfl rfl)); (· rfl); (· rfl); (· infer_instance); (· rfl); (· rfl); (· (simp [Value.oneCell', SlT.v])); try simp only [setRow_alloc, setRow_new, setRow_new1, setRow_new2, setRow_new11, setRow_new111]) | ((with_reducible apply wl_load' lwRd); (· (first | exact wanted_none rfl | exact wanted_some rfl rfl rfl)); (· rfl); (· infer_instance); (· rfl)) | (go_at_call 130; refine (fail_any s _ _ _ _).mono ?_; rintro en w' ⟨rfl, n2, rfl⟩))
    refine bodyPost_ret (results_cs (b0 := w.heap.size + 1) rfl lwRd rfl rfl inferInstance rfl) rfl ⟨at_, _, _, [], rfl, ha, Own.nil _, by simp, by exact ExtOf.of (by repeat' (first | (with_reducible exact Ext.refl _) | (with_reducible exact ExtOf.ext _) | (with_reducible refine Ext.trans ?_ (ExtOf.ext _)) | (with_reducible refine Ext.alloc ?_ _) | (with_reducible refine Ext.drew ?_) | (with_reducible refine Ext.setCell ?_ ?_ _) | (with_reducible refine Ext.setRow ?_ ?_ _) | (with_reducible exact HX.out) | (with_reducible refine Ext.trans ?_ HX.out) | (with_reducible refine Ext.below ?_ (Nat.le_refl _) _) | omega | (simp; done) | (simp; omega)))⟩
  subst he
  by_cases hb : (most : Int) < n
  · have d1 : decide ((most : Int) < n) = true := decide_eq_true hb
    clear hb
    go_wp2_with (first | ((with_reducible apply wl_store' lwRd); (· (first | exact wanted_none rfl | exact wanted_some rfl rfl rfl)); (· rfl); (· rfl); (· infer_instance); (· rfl); (· rfl); (· (simp [Value.oneCell', SlT.v])); try simp only [setRow_alloc, setRow_new, setRow_new1, setRow_new2, setRow_new11, setRow_new111]) | ((with_reducible apply wl_load' lwRd); (· (first | exact wanted_none rfl | exact wanted_some rfl rfl rfl)); (· rfl); (· infer_instance); (· rfl)) | (go_at_call 130; refine (fail_any s _ _ _ _).mono ?_; rintro en w' ⟨rfl, n2, rfl⟩))
    refine bodyPost_ret (results_cs (b0 := w.heap.size + 1) rfl lwRd rfl rfl inferInstance rfl) rfl ⟨at_, _, _, [], rfl, ha, Own.nil _, by simp, by exact ExtOf.of (by repeat' (first | (with_reducible exact Ext.refl _) | (with_reducible exact ExtOf.ext _) | (with_reducible refine Ext.trans ?_ (ExtOf.ext _)) | (with_reducible refine Ext.alloc ?_ _) | (with_reducible refine Ext.drew ?_) | (with_reducible refine Ext.setCell ?_ ?_ _) | (with_reducible refine Ext.setRow ?_ ?_ _) | (with_reducible exact HX.out) | (with_reducible refine Ext.trans ?_ HX.out) | (with_reducible refine Ext.below ?_ (Nat.le_refl _) _) | omega | (simp; done) | (simp; omega)))⟩
  have d1 : decide ((most : Int) < n) = false := decide_eq_false hb
  have HNB := Lib.hid hb
  clear hb
  go_wp2_with (first | ((with_reducible apply wl_store' lwRd); (· (first | exact wanted_none rfl | exact wanted_some rfl rfl rfl)); (· rfl); (· rfl); (· infer_instance); (· rfl); (· rfl); (· (simp [Value.oneCell', SlT.v])); try simp only [setRow_alloc, setRow_new, setRow_new1, setRow_new2, setRow_new11, setRow_new111]) | ((with_reducible apply wl_load' lwRd); (· (first | exact wanted_none rfl | exact wanted_some rfl rfl rfl)); (· rfl); (· infer_instance); (· rfl)))
  have hb0 : Block (n1.val.alloc (.cells #[] 3)) w.heap.size #[.string s, .int .i64 (at_ : Int), .int .i64 0] := inferInstance
  have hb1 : Block (n1.val.alloc (.cells #[] 3)) (w.heap.size + 1) #[.string ⟨#[]⟩, .int .i64 0, .int .i64 0] := inferInstance
  have hx0 : Ext w (n1.val.alloc (.cells #[] 3)) := by repeat' (first | (with_reducible exact Ext.refl _) | (with_reducible exact ExtOf.ext _) | (with_reducible refine Ext.trans ?_ (ExtOf.ext _)) | (with_reducible refine Ext.alloc ?_ _) | (with_reducible refine Ext.drew ?_) | (with_reducible refine Ext.setCell ?_ ?_ _) | (with_reducible refine Ext.setRow ?_ ?_ _) | (with_reducible exact HX.out) | (with_reducible refine Ext.trans ?_ HX.out) | (with_reducible refine Ext.below ?_ (Nat.le_refl _) _) | omega | (simp; done) | (simp; omega))
  have ho0 : Own encI 1 3 (w.heap.size + 2) (n1.val.alloc (.cells #[] 3)) (.slice (some ⟨n1.val.heap.size, 0, none⟩) 0 0) ([] : List Int) := Own.empty (by have := n1.ext.size; simp at this; omega)
  obtain ⟨W0, hW0⟩ : ∃ W0, W0 = n1.val.alloc (.cells #[] 3) := ⟨_, rfl⟩
  obtain ⟨g0, hg0⟩ : ∃ g0, g0 = n1.val.heap.size := ⟨_, rfl⟩
  rw [← hW0] at hb0 hb1 hx0 ho0 ⊢
  rw [← hg0] at ho0 ⊢
  obtain ⟨B, hB⟩ : ∃ B, B = w.heap.size := ⟨_, rfl⟩
  rw [← hB] at hb0 hb1 ho0 ⊢
  have HBw := Lib.hid hB
  have HX0 := Lib.hid hx0
  have HB0 := Lib.hid hb0
  have HB1 := Lib.hid hb1
  have HO0 := Lib.hid ho0
  clear hW0 hg0 hB hb0 hb1 hx0 ho0
  go_loopw [11, 13] (fun vx vl wr => ∃ (nx : Nat) (l : List Int), vx = .int .i64 (nx : Int) ∧ nx ≤ s.size ∧ l.length ≤ most ∧ Own encI 1 3 (B + 2) wr vl l ∧ Ext w wr ∧ Below (B + 2) W0 wr) (fun _ v _ => most - lenR v)
  case atStart => exact ⟨nx, [], rfl, hnx, by simp, HO0.out, HX0.out, Below.refl _ _⟩
  case round =>
    obtain ⟨nx, l, rfl, hnx2, hll, ho, hx, hbw⟩ := hrel
    have HO := Lib.hid ho
    have HX := Lib.hid hx
    have HBW := Lib.hid hbw
    have hb0 := HB0.out.below hbw (by omega)
    have hb1 := HB1.out.below hbw (by omega)
    have wl : IntKind.u64.wrap (l.length : Int) = l.length := by simp [IntKind.wrap, IntKind.signed, IntKind.bits]; omega
    obtain ⟨q, c, rfl⟩ := Own.form2 ho
    have hsz : B + 2 ≤ wr.heap.size := by have := hb1.lt; omega
    clear ho hx hbw
    by_cases hlt : (l.length : Int) < n
    · have d2 : decide ((l.length : Int) < n) = true := decide_eq_true hlt
      have hlm : l.length < most := by have := HNB.out; omega
      go_upto_region 11 with (first | ((with_reducible apply wl_store' lwRd); (· (first | exact wanted_none rfl | exact wanted_some rfl rfl rfl)); (· rfl); (· rfl); (· infer_instance); (· rfl); (· rfl); (· (simp [Value.oneCell', SlT.v])); try simp only [setRow_alloc, setRow_new, setRow_new1, setRow_new2, setRow_new11, setRow_new111]) | ((with_reducible apply wl_load' lwRd); (· (first | exact wanted_none rfl | exact wanted_some rfl rfl rfl)); (· rfl); (· infer_instance); (· rfl)) | (go_at_call 131; refine (signed_any s nx low high _ hnx2 hs).mono ?_; rintro en w' ⟨m, ny, er, rfl, hny, n2, rfl⟩))
      by_cases he : er = 0
      case neg =>
        have q0 : (er != 0) = true := bne_iff_ne.2 he
        clear he
        go_wp2_with (first | ((with_reducible apply wl_store' lwRd); (· (first | exact wanted_none rfl | exact wanted_some rfl rfl rfl)); (· rfl); (· rfl); (· infer_instance); (· rfl); (· rfl); (· (simp [Value.oneCell', SlT.v])); try simp only [setRow_alloc, setRow_new, setRow_new1, setRow_new2, setRow_new11, setRow_new111]) | ((with_reducible apply wl_load' lwRd); (· (first | exact wanted_none rfl | exact wanted_some rfl rfl rfl)); (· rfl); (· infer_instance); (· rfl)) | (go_at_call 130; refine (fail_any s _ _ _ _).mono ?_; rintro en w' ⟨rfl, n3, rfl⟩))
        refine bodyPost_ret (results_cs (b0 := B + 1) rfl lwRd rfl rfl inferInstance rfl) rfl ⟨at_, _, _, [], rfl, ha, Own.nil _, by simp, by have hBw := HBw.out; exact ExtOf.of (by repeat' (first | (with_reducible exact Ext.refl _) | (with_reducible exact ExtOf.ext _) | (with_reducible refine Ext.trans ?_ (ExtOf.ext _)) | (with_reducible refine Ext.alloc ?_ _) | (with_reducible refine Ext.drew ?_) | (with_reducible refine Ext.setCell ?_ ?_ _) | (with_reducible refine Ext.setRow ?_ ?_ _) | (with_reducible exact HX.out) | (with_reducible refine Ext.trans ?_ HX.out) | (with_reducible refine Ext.below ?_ (Nat.le_refl _) _) | omega | (simp; done) | (simp; omega)))⟩
      subst he
      go_wp2_with (at_builtin; refine wl_append1g (enc := encI) (k := 1) (E := 3) (base := B + 2) (l := l) (y := m) Tryz.underlying32 hiE hE0 hE1 hE2 rfl (by decide) encI_len encI_one rfl rfl (Own.alloc (Own.ext HO.out n2.ext) _) inferInstance rfl (by unfold maxLen; omega) (by omega) (by have := n2.ext.size; simp; omega) ?_; intro v7 n7 ho7 hk7; (obtain ⟨q7, c7, rfl⟩ := Own.form2 ho7))
      go_roundw
      case rel => exact ⟨ny, l ++ [m], rfl, hny, by simp; omega, by simpa using ho7, Below.trans (HX.out.trans (n2.ext.trans ((Ext.refl _).alloc _))) (Below.mono n7.below (by have := HBw.out; omega)), Below.trans HBW.out (Below.trans (Below.mono (n2.ext.trans ((Ext.refl _).alloc _)) hsz) n7.below)⟩
      case measure => simp [lenR]; omega
    · have d2 : decide ((l.length : Int) < n) = false := decide_eq_false hlt
      go_wp2_with (first | ((with_reducible apply wl_store' lwRd); (· (first | exact wanted_none rfl | exact wanted_some rfl rfl rfl)); (· rfl); (· rfl); (· infer_instance); (· rfl); (· rfl); (· (simp [Value.oneCell', SlT.v])); try simp only [setRow_alloc, setRow_new, setRow_new1, setRow_new2, setRow_new11, setRow_new111]) | ((with_reducible apply wl_load' lwRd); (· (first | exact wanted_none rfl | exact wanted_some rfl rfl rfl)); (· rfl); (· infer_instance); (· rfl)))
      refine bodyPost_ret (results_cs (b0 := B + 1) rfl lwRd rfl rfl inferInstance rfl) rfl ⟨nx, _, _, l, rfl, hnx2, ?_, hll, by have hBw := HBw.out; exact ExtOf.of (by repeat' (first | (with_reducible exact Ext.refl _) | (with_reducible exact ExtOf.ext _) | (with_reducible refine Ext.trans ?_ (ExtOf.ext _)) | (with_reducible refine Ext.alloc ?_ _) | (with_reducible refine Ext.drew ?_) | (with_reducible refine Ext.setCell ?_ ?_ _) | (with_reducible refine Ext.setRow ?_ ?_ _) | (with_reducible exact HX.out) | (with_reducible refine Ext.trans ?_ HX.out) | (with_reducible refine Ext.below ?_ (Nat.le_refl _) _) | omega | (simp; done) | (simp; omega)))⟩
      rw [← HBw.out]
      refine Own.lower (Own.heapB HO.out (fun q' hq' => ?_)) (show B ≤ B + 2 by omega)
      rw [heap_setRow_ne _ _ _ (by omega), Below.heap_setCell _ _ _ _ (by show q' ≠ B; omega)]
end Go.Proofs.YtjfohapnjnopfaaGreatDoor
end
/-
  Chapter 61: the reference's readings of a ring.
-/
section
set_option linter.unusedVariables false
set_option linter.unusedSimpArgs false
namespace Go.Proofs.YtjfohapnjnopfaaGreatDoor
open Go.RowKit Go.WideShapes RepM

attribute [local go_sem] ExtOf.cell ExtOf.frozen ExtS.cell ExtS.frozen Block.cell Block.frozen ExtB.cell ExtB.frozen alloc_cell alloc_frozen
/-- readings -/
def encR (r : Int × Int × Bool) : List Value := [.int .i64 r.1, .int .i64 r.2.1, .bool r.2.2]
theorem encR_len (r : Int × Int × Bool) : (encR r).length = 3 := rfl
theorem encR_one : ∀ x : Int × Int × Bool, ∀ u ∈ encR x, u.oneCell' = true := by
  intro x u hu
  simp [encR] at hu
  rcases hu with rfl | rfl | rfl <;> rfl
theorem infoRead : (Tryz.prog.info? 102).map (fun i => (i.zero, i.size, i.bytes)) = some (some (.agg #[.int .i64 0, .int .i64 0, .bool false]), 3, 24) := by kernel_rfl
/-- what is handed back of readings -/
def RgR (w : World) (n : Nat) (en : Ending) (w' : World) : Prop := ∃ (v : Value) (c : Bool) (rs : List (Int × Int × Bool)), en = .returned (.tuple #[v, .bool c]) ∧ Own encR 3 102 w.heap.size w' v rs ∧ rs.length ≤ n ∧ ∃ m : ExtOf w, w' = m.val
set_option maxHeartbeats 3200000 in
set_option maxRecDepth 20000 in
theorem readings_any (l : List Int) (v : Value) (w : World) (h : IntS w v l) (hl : l.length ≤ 1000) : Calls Tryz.prog 115 #[v] w (RgR w l.length) := by
  obtain ⟨iR, hiR, hR0, hR1, hR2⟩ := info_parts infoRead
  obtain ⟨p, cap, rfl, hc1, hc2, hc3⟩ := IntS.form h
  have H := Lib.hid h
  clear h
  go_enter Tryz.func115, Tryz.ntmps115
  go_wp2_with fail
  go_loopw [4, 5] (fun vo vi wr => ∃ (rs : List (Int × Int × Bool)) (k : Nat), k ≤ l.length ∧ vi = .int .i64 k ∧ rs.length ≤ k ∧ Own encR 3 102 w.heap.size wr vo rs ∧ Ext w wr) (fun _ i _ => l.length - (intOf i).toNat)
  case atStart => exact ⟨[], 0, by omega, rfl, by simp, Own.nil _, Ext.refl _⟩
  case round =>
    obtain ⟨rs, k, hk, rfl, hrk, ho, hx⟩ := hrel
    have HO := Lib.hid ho
    have HX := Lib.hid hx
    obtain ⟨q, c, rfl⟩ := Own.form2 ho
    clear ho hx
    by_cases hlt : k < l.length
    · obtain ⟨b, off, rfl, e0⟩ := IntS.elem (IntS.ext H.out HX.out) hlt
      have ob := Old.of_cell e0
      by_cases h0 : l[k] = 0
      · rw [h0] at e0
        clear h0
        go_wp2_with (at_builtin; refine wl_append1g (enc := encR) (k := 3) (E := 102) (base := w.heap.size) (l := rs) (y := (0, 0, false)) Tryz.underlying96 hiR hR0 hR1 hR2 rfl (by decide) encR_len encR_one rfl rfl (Own.alloc HO.out _) inferInstance rfl (by unfold maxLen; omega) (by omega) (by have := HX.out.size; simp; omega) ?_; intro v7 n7 ho7 hk7)
        go_roundw
        case rel => exact ⟨rs ++ [(0, 0, false)], k + 1, by omega, by first | rfl | go_num, by simp; omega, ho7, Below.trans (HX.out.trans ((Ext.refl _).alloc _)) n7.below⟩
        case measure => simp [intOf]; omega
      · have q0 : (l[k] == 0) = false := beq_eq_false_iff_ne.2 h0
        by_cases h1 : l[k] = 1 ∧ k + 2 < l.length
        · obtain ⟨h1, h2⟩ := h1
          obtain ⟨b', off', e', e1⟩ := IntS.elem (IntS.ext H.out HX.out) (i := k + 1) (by omega)
          cases e'
          obtain ⟨b', off', e', e2⟩ := IntS.elem (IntS.ext H.out HX.out) h2
          cases e'
          generalize l[k + 1]'(by omega) = m0 at *
          generalize l[k + 2] = m1 at *
          rw [h1] at e0
          have d2 : decide ((l.length : Int) ≤ k + 2) = false := decide_eq_false (by omega)
          clear h0 h1 q0
          go_wp2_with fail
          apply wp_region_maker [true, true, true, true, true, true, true, true, true, true, true, true, true] 13 [false, false, false, false, false, false, false, false, false, false, false, false, false, false, true, true] _ 46 (MadeK 1 wr #[.int .i64 m0, .int .i64 m1, .bool true]) 14 [15] (by kernel_rfl) rfl rfl (by kernel_rfl) (by kernel_rfl) (by kernel_rfl) (by kernel_rfl) MadeK.keep
          · intro S hS hN R hR
            simp only [part]
            repeat (first | go_big_quiet_skip | go_big_quiet_step (fail))
            with_reducible refine wpQuiet_nil ?_
            exact hR
          · refine ⟨wanted_none rfl, fun W' hx' => ⟨.slice (some ⟨W'.heap.size, 0, none⟩) 1 1, W'.alloc (.cells #[.int .i64 m0, .int .i64 m1, .bool true] 102), ?_, (Ext.refl _).alloc _, MadeK.new hx'⟩⟩
            simp [go_sem]
          intro v' W' hx' hmade
          obtain ⟨gn, rfl, hgn, hbn⟩ := hmade
          simp only [part, Act.put, List.setIfInBounds_toArray, List.set_cons_succ, List.set_cons_zero]
          have oW : Own encR 3 102 w.heap.size W' (.slice q rs.length c) rs := Own.ext HO.out hx'
          have hxW : Ext w W' := HX.out.trans hx'
          go_wp2_with (at_builtin; refine wl_append1g (enc := encR) (k := 3) (E := 102) (base := w.heap.size) (l := rs) (y := (m0, m1, true)) Tryz.underlying96 hiR hR0 hR1 hR2 rfl (by decide) encR_len encR_one rfl rfl oW hbn rfl (by unfold maxLen; omega) (by omega) hxW.size ?_; intro v7 n7 ho7 hk7)
          go_roundw
          case rel => exact ⟨rs ++ [(m0, m1, true)], k + 3, by omega, by first | rfl | go_num, by simp; omega, ho7, Below.trans hxW n7.below⟩
          case measure => simp [intOf]; omega
        · by_cases h2 : l[k] = 1
          · have d2 : decide ((l.length : Int) ≤ k + 2) = true := decide_eq_true (by omega)
            rw [h2] at e0
            clear h0 h1 q0 h2
            go_wp2_with fail
            go_ret2
            exact ⟨_, _, [], rfl, Own.nil _, by simp, ExtOf.of HX.out⟩
          · have q2 : (l[k] != 1) = true := bne_iff_ne.2 h2
            generalize l[k] = m at *
            clear h0 h1 h2
            go_wp2_with fail
            go_ret2
            exact ⟨_, _, [], rfl, Own.nil _, by simp, ExtOf.of HX.out⟩
    · obtain rfl : k = l.length := by omega
      go_wp2_with fail
      go_ret2
      exact ⟨_, _, rs, rfl, HO.out, hrk, ExtOf.of HX.out⟩
end Go.Proofs.YtjfohapnjnopfaaGreatDoor
end
