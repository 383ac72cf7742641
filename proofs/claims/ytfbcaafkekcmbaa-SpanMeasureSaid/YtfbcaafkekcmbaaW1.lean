/-
  The contracts of the functions on spans (1): lengths, the common part of two spans, members.
-/
import Derived.Test.YtfbcaafkekcmbaaRows
import Derived.Test.YtfbcaafkekcmbaaBase4
import Derived.Test.YtfbcaafkekcmbaaM1
namespace Go.Proofs.Ytfbcaafkekcmbaa
open Go.RowKit SpanM

attribute [local go_sem] ExtOf.cell ExtOf.frozen Block.cell Block.frozen ExtB.cell ExtB.frozen alloc_cell alloc_frozen

theorem ret_int {k : IntKind} {a b : Int} (h : a = b) : Ending.returned (.int k a) = .returned (.int k b) := by rw [h]
theorem ret_bool {a b : Bool} (h : a = b) : Ending.returned (.bool a) = .returned (.bool b) := by rw [h]
def encS (s : Sp) : List Value := [.int .i64 s.1, .int .i64 s.2]
theorem encS_len (s : Sp) : (encS s).length = 2 := rfl
theorem encS_one (s : Sp) : ∀ u ∈ encS s, u.oneCell' = true := by intro u hu; simp [encS] at hu; rcases hu with rfl | rfl <;> rfl
abbrev SpS (w : World) (v : Value) (l : List Sp) : Prop := SliceOf encS 2 w v l
/-- the cells of element i, and what is left from it on -/
theorem SpS.elem {w : World} {p : Option Addr} {n cap : Nat} {l : List Sp} (h : SpS w (.slice p n cap) l) {i : Nat} (hi : i < l.length) :
    ∃ A B b off, l.drop i = (A, B) :: l.drop (i + 1) ∧ l[i]? = some (A, B) ∧ p = some ⟨b, off, none⟩ ∧ Old b w ∧ w.cell? ⟨b, off + i * 2, none⟩ = some (.int .i64 A) ∧ w.cell? ⟨b, off + i * 2 + 1, none⟩ = some (.int .i64 B) := by
  obtain ⟨p', cap', e, h1, h2, h3, h4⟩ := h
  simp only [Value.slice.injEq] at e
  obtain ⟨rfl, _, _⟩ := e
  obtain ⟨b, off, hp, hc⟩ := h4 i l[i] (List.getElem?_eq_getElem hi)
  have c0 := hc 0 _ rfl
  have c1 := hc 1 _ rfl
  exact ⟨l[i].1, l[i].2, b, off, List.drop_eq_getElem_cons hi, List.getElem?_eq_getElem hi, hp, Old.of_cell c0, by simpa using c0, by simpa [Nat.add_assoc] using c1⟩
theorem SpS.len {w : World} {p : Option Addr} {n cap : Nat} {l : List Sp} (h : SpS w (.slice p n cap) l) : n = l.length ∧ n ≤ cap ∧ cap ≤ maxLen := by
  obtain ⟨p', cap', e, h1, h2, h3, h4⟩ := h
  simp only [Value.slice.injEq] at e
  obtain ⟨_, rfl, rfl⟩ := e
  exact ⟨rfl, h1, h2⟩

set_option maxHeartbeats 400000 in
theorem size_any (s : Sp) (w : World) (h : In s) :
    Calls Try.prog 36 #[.agg #[.int .i64 s.1, .int .i64 s.2]] w fun e w' => e = .returned (.int .u64 (size s)) ∧ ∃ n : ExtOf w, w' = n.val := by
  obtain ⟨a, b⟩ := s
  obtain ⟨h1, h2, h3, h4⟩ := h
  simp only at h1 h2 h3 h4
  by_cases c : a < b
  · have e : SpanM.size (a, b) = b - a := by simp [SpanM.size, c]
    rw [e]; clear e
    go_enter Try.func36, Try.ntmps36
    go_wp2
    go_ret
    refine ⟨ret_int ?_, ?_⟩
    · simp [IntKind.wrap, IntKind.signed, IntKind.bits]; omega
    · exact ExtOf.of (by repeat' (first | (with_reducible exact Ext.refl _) | (with_reducible exact ExtOf.ext _) | (with_reducible refine Ext.trans ?_ (ExtOf.ext _)) | (with_reducible refine Ext.alloc ?_ _) | (with_reducible refine Ext.drew ?_) | (with_reducible refine Ext.setCell ?_ ?_ _) | (with_reducible refine Ext.setRow ?_ ?_ _) | (with_reducible exact HX.out) | (with_reducible refine Ext.trans ?_ HX.out) | (with_reducible refine Ext.below ?_ (Nat.le_refl _) _) | (simp; done) | (simp; omega)))
  · have e : SpanM.size (a, b) = 0 := by simp [SpanM.size, c]
    rw [e]; clear e
    go_enter Try.func36, Try.ntmps36
    go_wp2
    go_ret
    refine ⟨rfl, ?_⟩
    exact ExtOf.of (by repeat' (first | (with_reducible exact Ext.refl _) | (with_reducible exact ExtOf.ext _) | (with_reducible refine Ext.trans ?_ (ExtOf.ext _)) | (with_reducible refine Ext.alloc ?_ _) | (with_reducible refine Ext.drew ?_) | (with_reducible refine Ext.setCell ?_ ?_ _) | (with_reducible refine Ext.setRow ?_ ?_ _) | (with_reducible exact HX.out) | (with_reducible refine Ext.trans ?_ HX.out) | (with_reducible refine Ext.below ?_ (Nat.le_refl _) _) | (simp; done) | (simp; omega)))

set_option maxHeartbeats 400000 in
theorem limited_any (n : Int) (w : World) (h0 : 0 ≤ n) (h1 : n ≤ 18446744073709551615) :
    Calls Try.prog 35 #[.int .u64 n] w fun e w' => e = .returned (.int .i64 (min n top)) ∧ ∃ n : ExtOf w, w' = n.val := by
  go_enter Try.func35, Try.ntmps35
  go_wp2
  all_goals
    go_ret
    refine ⟨ret_int ?_, ?_⟩
    · unfold top; omega
    · exact ExtOf.of (by repeat' (first | (with_reducible exact Ext.refl _) | (with_reducible exact ExtOf.ext _) | (with_reducible refine Ext.trans ?_ (ExtOf.ext _)) | (with_reducible refine Ext.alloc ?_ _) | (with_reducible refine Ext.drew ?_) | (with_reducible refine Ext.setCell ?_ ?_ _) | (with_reducible refine Ext.setRow ?_ ?_ _) | (with_reducible exact HX.out) | (with_reducible refine Ext.trans ?_ HX.out) | (with_reducible refine Ext.below ?_ (Nat.le_refl _) _) | (simp; done) | (simp; omega)))

set_option maxHeartbeats 400000 in
theorem len_any (s : Sp) (w : World) (h : In s) :
    Calls Try.prog 11 #[.agg #[.int .i64 s.1, .int .i64 s.2]] w fun e w' => e = .returned (.int .i64 (len s)) ∧ ∃ n : ExtOf w, w' = n.val := by
  have hs : 0 ≤ SpanM.size s ∧ SpanM.size s ≤ 18446744073709551615 := by
    refine ⟨size_nn s, ?_⟩
    obtain ⟨h1, h2, h3, h4⟩ := h
    unfold SpanM.size; split <;> omega
  obtain ⟨s0, s1⟩ := hs
  unfold SpanM.len
  have H := Lib.hid h
  clear h
  go_enter Try.func11, Try.ntmps11
  go_wp2_with (first | (go_at_call 36; refine (size_any s _ H.out).mono ?_; rintro e w' ⟨rfl, n, rfl⟩) | (go_at_call 35; refine (limited_any _ _ (by omega) (by omega)).mono ?_; rintro e w' ⟨rfl, n, rfl⟩))
  go_ret
  refine ⟨rfl, ?_⟩
  exact ExtOf.of (by repeat' (first | (with_reducible exact Ext.refl _) | (with_reducible exact ExtOf.ext _) | (with_reducible refine Ext.trans ?_ (ExtOf.ext _)) | (with_reducible refine Ext.alloc ?_ _) | (with_reducible refine Ext.drew ?_) | (with_reducible refine Ext.setCell ?_ ?_ _) | (with_reducible refine Ext.setRow ?_ ?_ _) | (with_reducible exact HX.out) | (with_reducible refine Ext.trans ?_ HX.out) | (with_reducible refine Ext.below ?_ (Nat.le_refl _) _) | (simp; done) | (simp; omega)))

set_option maxHeartbeats 400000 in
theorem meet_any (s t : Sp) (w : World) :
    Calls Try.prog 13 #[.agg #[.int .i64 s.1, .int .i64 s.2], .agg #[.int .i64 t.1, .int .i64 t.2]] w fun e w' => e = .returned (.agg #[.int .i64 (meet s t).1, .int .i64 (meet s t).2]) ∧ ∃ n : ExtOf w, w' = n.val := by
  obtain ⟨a, b⟩ := s
  obtain ⟨c, d⟩ := t
  have mn : (if d < b then d else b) = min b d := by split <;> omega
  have mx : (if a < c then c else a) = max a c := by split <;> omega
  by_cases h : max a c < min b d
  · have e : meet (a, b) (c, d) = (max a c, min b d) := by simp [meet, h]
    rw [e]; clear e
    have h' : decide (min b d ≤ max a c) = false := by simp; omega
    clear h
    go_enter Try.func13, Try.ntmps13
    go_wp2
    refine bodyPost_ret (v := .agg #[.int .i64 (max a c), .int .i64 (min b d)]) (by simp [results, Try.results13, go_sem]) rfl ⟨rfl, ?_⟩
    exact ExtOf.of (by repeat' (first | (with_reducible exact Ext.refl _) | (with_reducible exact ExtOf.ext _) | (with_reducible refine Ext.trans ?_ (ExtOf.ext _)) | (with_reducible refine Ext.alloc ?_ _) | (with_reducible refine Ext.drew ?_) | (with_reducible refine Ext.setCell ?_ ?_ _) | (with_reducible refine Ext.setRow ?_ ?_ _) | (with_reducible exact HX.out) | (with_reducible refine Ext.trans ?_ HX.out) | (with_reducible refine Ext.below ?_ (Nat.le_refl _) _) | (simp; done) | (simp; omega)))
  · have e : meet (a, b) (c, d) = (0, 0) := by simp [meet, h]
    rw [e]; clear e
    have h' : decide (min b d ≤ max a c) = true := by simp; omega
    clear h
    go_enter Try.func13, Try.ntmps13
    go_wp2
    refine bodyPost_ret (v := .agg #[.int .i64 0, .int .i64 0]) (by simp [results, Try.results13, go_sem]) rfl ⟨rfl, ?_⟩
    exact ExtOf.of (by repeat' (first | (with_reducible exact Ext.refl _) | (with_reducible exact ExtOf.ext _) | (with_reducible refine Ext.trans ?_ (ExtOf.ext _)) | (with_reducible refine Ext.alloc ?_ _) | (with_reducible refine Ext.drew ?_) | (with_reducible refine Ext.setCell ?_ ?_ _) | (with_reducible refine Ext.setRow ?_ ?_ _) | (with_reducible exact HX.out) | (with_reducible refine Ext.trans ?_ HX.out) | (with_reducible refine Ext.below ?_ (Nat.le_refl _) _) | (simp; done) | (simp; omega)))

set_option maxHeartbeats 400000 in
theorem rmeet_any (s t : Sp) (w : World) :
    Calls Try.prog 14 #[.agg #[.int .i64 s.1, .int .i64 s.2], .agg #[.int .i64 t.1, .int .i64 t.2]] w fun e w' => e = .returned (.agg #[.int .i64 (meet s t).1, .int .i64 (meet s t).2]) ∧ ∃ n : ExtOf w, w' = n.val := by
  obtain ⟨a, b⟩ := s
  obtain ⟨c, d⟩ := t
  have mn : (if d < b then d else b) = min b d := by split <;> omega
  have mx : (if a < c then c else a) = max a c := by split <;> omega
  by_cases h : max a c < min b d
  · have e : meet (a, b) (c, d) = (max a c, min b d) := by simp [meet, h]
    rw [e]; clear e
    have h' : decide (min b d ≤ max a c) = false := by simp; omega
    clear h
    go_enter Try.func14, Try.ntmps14
    go_wp2
    refine bodyPost_ret (v := .agg #[.int .i64 (max a c), .int .i64 (min b d)]) (by simp [results, Try.results14, go_sem]) rfl ⟨rfl, ?_⟩
    exact ExtOf.of (by repeat' (first | (with_reducible exact Ext.refl _) | (with_reducible exact ExtOf.ext _) | (with_reducible refine Ext.trans ?_ (ExtOf.ext _)) | (with_reducible refine Ext.alloc ?_ _) | (with_reducible refine Ext.drew ?_) | (with_reducible refine Ext.setCell ?_ ?_ _) | (with_reducible refine Ext.setRow ?_ ?_ _) | (with_reducible exact HX.out) | (with_reducible refine Ext.trans ?_ HX.out) | (with_reducible refine Ext.below ?_ (Nat.le_refl _) _) | (simp; done) | (simp; omega)))
  · have e : meet (a, b) (c, d) = (0, 0) := by simp [meet, h]
    rw [e]; clear e
    have h' : decide (min b d ≤ max a c) = true := by simp; omega
    clear h
    go_enter Try.func14, Try.ntmps14
    go_wp2
    refine bodyPost_ret (v := .agg #[.int .i64 0, .int .i64 0]) (by simp [results, Try.results14, go_sem]) rfl ⟨rfl, ?_⟩
    exact ExtOf.of (by repeat' (first | (with_reducible exact Ext.refl _) | (with_reducible exact ExtOf.ext _) | (with_reducible refine Ext.trans ?_ (ExtOf.ext _)) | (with_reducible refine Ext.alloc ?_ _) | (with_reducible refine Ext.drew ?_) | (with_reducible refine Ext.setCell ?_ ?_ _) | (with_reducible refine Ext.setRow ?_ ?_ _) | (with_reducible exact HX.out) | (with_reducible refine Ext.trans ?_ HX.out) | (with_reducible refine Ext.below ?_ (Nat.le_refl _) _) | (simp; done) | (simp; omega)))

set_option maxHeartbeats 400000 in
theorem rlen_any (s : Sp) (w : World) (h : In s) :
    Calls Try.prog 12 #[.agg #[.int .i64 s.1, .int .i64 s.2]] w fun e w' => e = .returned (.int .i64 (len s)) ∧ ∃ n : ExtOf w, w' = n.val := by
  obtain ⟨a, b⟩ := s
  obtain ⟨h1, h2, h3, h4⟩ := h
  simp only at h1 h2 h3 h4
  by_cases c : a < b
  · have e : SpanM.len (a, b) = min (b - a) 9223372036854775807 := by simp [SpanM.len, SpanM.size, top, c]
    rw [e]; clear e
    by_cases c2 : a < 0
    · go_enter Try.func12, Try.ntmps12
      go_wp2
      all_goals
        go_ret
        refine ⟨ret_int ?_, ?_⟩
        · omega
        · exact ExtOf.of (by repeat' (first | (with_reducible exact Ext.refl _) | (with_reducible exact ExtOf.ext _) | (with_reducible refine Ext.trans ?_ (ExtOf.ext _)) | (with_reducible refine Ext.alloc ?_ _) | (with_reducible refine Ext.drew ?_) | (with_reducible refine Ext.setCell ?_ ?_ _) | (with_reducible refine Ext.setRow ?_ ?_ _) | (with_reducible exact HX.out) | (with_reducible refine Ext.trans ?_ HX.out) | (with_reducible refine Ext.below ?_ (Nat.le_refl _) _) | (simp; done) | (simp; omega)))
    · have c3 : decide (a < 0) = false := by simpa using c2
      go_enter Try.func12, Try.ntmps12
      go_wp2
      all_goals
        go_ret
        refine ⟨ret_int ?_, ?_⟩
        · omega
        · exact ExtOf.of (by repeat' (first | (with_reducible exact Ext.refl _) | (with_reducible exact ExtOf.ext _) | (with_reducible refine Ext.trans ?_ (ExtOf.ext _)) | (with_reducible refine Ext.alloc ?_ _) | (with_reducible refine Ext.drew ?_) | (with_reducible refine Ext.setCell ?_ ?_ _) | (with_reducible refine Ext.setRow ?_ ?_ _) | (with_reducible exact HX.out) | (with_reducible refine Ext.trans ?_ HX.out) | (with_reducible refine Ext.below ?_ (Nat.le_refl _) _) | (simp; done) | (simp; omega)))
  · have e : SpanM.len (a, b) = 0 := by simp [SpanM.len, SpanM.size, top, c]; omega
    rw [e]; clear e
    go_enter Try.func12, Try.ntmps12
    go_wp2
    go_ret
    refine ⟨rfl, ?_⟩
    exact ExtOf.of (by repeat' (first | (with_reducible exact Ext.refl _) | (with_reducible exact ExtOf.ext _) | (with_reducible refine Ext.trans ?_ (ExtOf.ext _)) | (with_reducible refine Ext.alloc ?_ _) | (with_reducible refine Ext.drew ?_) | (with_reducible refine Ext.setCell ?_ ?_ _) | (with_reducible refine Ext.setRow ?_ ?_ _) | (with_reducible exact HX.out) | (with_reducible refine Ext.trans ?_ HX.out) | (with_reducible refine Ext.below ?_ (Nat.le_refl _) _) | (simp; done) | (simp; omega)))

set_option maxHeartbeats 400000 in
theorem has_any (p : Option Addr) (cap : Nat) (l : List Sp) (n : Int) (w : World) (hl : SpS w (.slice p l.length cap) l) (hlen : l.length ≤ 1099511627776) :
    Calls Try.prog 32 #[.slice p l.length cap, .int .i64 n] w fun e w' => e = .returned (.bool (has l n)) ∧ ∃ n : ExtOf w, w' = n.val := by
  have HL := Lib.hid hl
  clear hl
  go_enter Try.func32, Try.ntmps32
  go_wp2
  go_loopw [9] (fun v wr => ∃ k : Nat, k ≤ l.length ∧ v = .int .i64 k ∧ has l n = has (l.drop k) n ∧ Ext w wr) (fun v _ => l.length - (intOf v).toNat)
  case atStart => exact ⟨0, by omega, rfl, rfl, Ext.refl _⟩
  case round =>
    obtain ⟨k, hk, rfl, hno, hx⟩ := hrel
    have HX := Lib.hid hx
    have HN := Lib.hid hno
    clear hx hno
    by_cases hlt : k < l.length
    · obtain ⟨A, B, b, off, hd, hm, rfl, ho, c0, c1⟩ := SpS.elem (SliceOf.ext HL.out HX.out) hlt
      have HD := Lib.hid hd
      clear hd hm
      by_cases t1 : A ≤ n
      · by_cases t2 : n < B
        · go_wp2
          go_ret
          refine ⟨ret_bool ?_, ?_⟩
          · rw [HN.out, HD.out]; simp [has, t1, t2]
          · exact ExtOf.of (by repeat' (first | (with_reducible exact Ext.refl _) | (with_reducible exact ExtOf.ext _) | (with_reducible refine Ext.trans ?_ (ExtOf.ext _)) | (with_reducible refine Ext.alloc ?_ _) | (with_reducible refine Ext.drew ?_) | (with_reducible refine Ext.setCell ?_ ?_ _) | (with_reducible refine Ext.setRow ?_ ?_ _) | (with_reducible exact HX.out) | (with_reducible refine Ext.trans ?_ HX.out) | (with_reducible refine Ext.below ?_ (Nat.le_refl _) _) | (simp; done) | (simp; omega)))
        · go_wp2
          go_roundw
          case rel => exact ⟨k + 1, by omega, by go_num, by rw [HN.out, HD.out]; simp [has, t1, t2], by repeat' (first | (with_reducible exact Ext.refl _) | (with_reducible exact ExtOf.ext _) | (with_reducible refine Ext.trans ?_ (ExtOf.ext _)) | (with_reducible refine Ext.alloc ?_ _) | (with_reducible refine Ext.drew ?_) | (with_reducible refine Ext.setCell ?_ ?_ _) | (with_reducible refine Ext.setRow ?_ ?_ _) | (with_reducible exact HX.out) | (with_reducible refine Ext.trans ?_ HX.out) | (with_reducible refine Ext.below ?_ (Nat.le_refl _) _) | (simp; done) | (simp; omega))⟩
          case measure => simp [intOf]; omega
      · go_wp2
        go_roundw
        case rel => exact ⟨k + 1, by omega, by go_num, by rw [HN.out, HD.out]; simp [has, t1], by repeat' (first | (with_reducible exact Ext.refl _) | (with_reducible exact ExtOf.ext _) | (with_reducible refine Ext.trans ?_ (ExtOf.ext _)) | (with_reducible refine Ext.alloc ?_ _) | (with_reducible refine Ext.drew ?_) | (with_reducible refine Ext.setCell ?_ ?_ _) | (with_reducible refine Ext.setRow ?_ ?_ _) | (with_reducible exact HX.out) | (with_reducible refine Ext.trans ?_ HX.out) | (with_reducible refine Ext.below ?_ (Nat.le_refl _) _) | (simp; done) | (simp; omega))⟩
        case measure => simp [intOf]; omega
    · go_wp2
      go_ret
      refine ⟨ret_bool ?_, ?_⟩
      · rw [HN.out, List.drop_of_length_le (by omega)]; rfl
      · exact ExtOf.of (by repeat' (first | (with_reducible exact Ext.refl _) | (with_reducible exact ExtOf.ext _) | (with_reducible refine Ext.trans ?_ (ExtOf.ext _)) | (with_reducible refine Ext.alloc ?_ _) | (with_reducible refine Ext.drew ?_) | (with_reducible refine Ext.setCell ?_ ?_ _) | (with_reducible refine Ext.setRow ?_ ?_ _) | (with_reducible exact HX.out) | (with_reducible refine Ext.trans ?_ HX.out) | (with_reducible refine Ext.below ?_ (Nat.le_refl _) _) | (simp; done) | (simp; omega)))

set_option maxHeartbeats 400000 in
theorem rhas_any (p : Option Addr) (cap : Nat) (l : List Sp) (n : Int) (w : World) (hl : SpS w (.slice p l.length cap) l) (hlen : l.length ≤ 1099511627776) :
    Calls Try.prog 33 #[.slice p l.length cap, .int .i64 n] w fun e w' => e = .returned (.bool (has l n)) ∧ ∃ n : ExtOf w, w' = n.val := by
  have HL := Lib.hid hl
  clear hl
  go_enter Try.func33, Try.ntmps33
  go_wp2
  go_loopw [5] (fun v wr => ∃ k : Nat, k ≤ l.length ∧ v = .int .i64 k ∧ has l n = has (l.drop k) n ∧ Ext w wr) (fun v _ => l.length - (intOf v).toNat)
  case atStart => exact ⟨0, by omega, rfl, rfl, Ext.refl _⟩
  case round =>
    obtain ⟨k, hk, rfl, hno, hx⟩ := hrel
    have HX := Lib.hid hx
    have HN := Lib.hid hno
    clear hx hno
    by_cases hlt : k < l.length
    · obtain ⟨A, B, b, off, hd, hm, rfl, ho, c0, c1⟩ := SpS.elem (SliceOf.ext HL.out HX.out) hlt
      have HD := Lib.hid hd
      clear hd hm
      by_cases t1 : A ≤ n
      · by_cases t2 : n < B
        · go_wp2
          go_ret
          refine ⟨ret_bool ?_, ?_⟩
          · rw [HN.out, HD.out]; simp [has, t1, t2]
          · exact ExtOf.of (by repeat' (first | (with_reducible exact Ext.refl _) | (with_reducible exact ExtOf.ext _) | (with_reducible refine Ext.trans ?_ (ExtOf.ext _)) | (with_reducible refine Ext.alloc ?_ _) | (with_reducible refine Ext.drew ?_) | (with_reducible refine Ext.setCell ?_ ?_ _) | (with_reducible refine Ext.setRow ?_ ?_ _) | (with_reducible exact HX.out) | (with_reducible refine Ext.trans ?_ HX.out) | (with_reducible refine Ext.below ?_ (Nat.le_refl _) _) | (simp; done) | (simp; omega)))
        · go_wp2
          go_roundw
          case rel => exact ⟨k + 1, by omega, by go_num, by rw [HN.out, HD.out]; simp [has, t1, t2], by repeat' (first | (with_reducible exact Ext.refl _) | (with_reducible exact ExtOf.ext _) | (with_reducible refine Ext.trans ?_ (ExtOf.ext _)) | (with_reducible refine Ext.alloc ?_ _) | (with_reducible refine Ext.drew ?_) | (with_reducible refine Ext.setCell ?_ ?_ _) | (with_reducible refine Ext.setRow ?_ ?_ _) | (with_reducible exact HX.out) | (with_reducible refine Ext.trans ?_ HX.out) | (with_reducible refine Ext.below ?_ (Nat.le_refl _) _) | (simp; done) | (simp; omega))⟩
          case measure => simp [intOf]; omega
      · go_wp2
        go_roundw
        case rel => exact ⟨k + 1, by omega, by go_num, by rw [HN.out, HD.out]; simp [has, t1], by repeat' (first | (with_reducible exact Ext.refl _) | (with_reducible exact ExtOf.ext _) | (with_reducible refine Ext.trans ?_ (ExtOf.ext _)) | (with_reducible refine Ext.alloc ?_ _) | (with_reducible refine Ext.drew ?_) | (with_reducible refine Ext.setCell ?_ ?_ _) | (with_reducible refine Ext.setRow ?_ ?_ _) | (with_reducible exact HX.out) | (with_reducible refine Ext.trans ?_ HX.out) | (with_reducible refine Ext.below ?_ (Nat.le_refl _) _) | (simp; done) | (simp; omega))⟩
        case measure => simp [intOf]; omega
    · go_wp2
      go_ret
      refine ⟨ret_bool ?_, ?_⟩
      · rw [HN.out, List.drop_of_length_le (by omega)]; rfl
      · exact ExtOf.of (by repeat' (first | (with_reducible exact Ext.refl _) | (with_reducible exact ExtOf.ext _) | (with_reducible refine Ext.trans ?_ (ExtOf.ext _)) | (with_reducible refine Ext.alloc ?_ _) | (with_reducible refine Ext.drew ?_) | (with_reducible refine Ext.setCell ?_ ?_ _) | (with_reducible refine Ext.setRow ?_ ?_ _) | (with_reducible exact HX.out) | (with_reducible refine Ext.trans ?_ HX.out) | (with_reducible refine Ext.below ?_ (Nat.le_refl _) _) | (simp; done) | (simp; omega)))

set_option maxHeartbeats 400000 in
theorem few_any (p : Option Addr) (n cap : Nat) (w : World) :
    Calls Try.prog 16 #[.slice p n cap] w fun e w' => e = .returned (.bool (decide (n ≤ 40))) ∧ ∃ n : ExtOf w, w' = n.val := by
  go_enter Try.func16, Try.ntmps16
  go_wp2
  go_ret
  refine ⟨ret_bool ?_, ?_⟩
  · simp; omega
  · exact ExtOf.of (by repeat' (first | (with_reducible exact Ext.refl _) | (with_reducible exact ExtOf.ext _) | (with_reducible refine Ext.trans ?_ (ExtOf.ext _)) | (with_reducible refine Ext.alloc ?_ _) | (with_reducible refine Ext.drew ?_) | (with_reducible refine Ext.setCell ?_ ?_ _) | (with_reducible refine Ext.setRow ?_ ?_ _) | (with_reducible exact HX.out) | (with_reducible refine Ext.trans ?_ HX.out) | (with_reducible refine Ext.below ?_ (Nat.le_refl _) _) | (simp; done) | (simp; omega)))

end Go.Proofs.Ytfbcaafkekcmbaa
