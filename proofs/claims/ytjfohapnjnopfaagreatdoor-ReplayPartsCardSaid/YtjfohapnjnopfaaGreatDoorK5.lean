/-
  Chapter 61: several texts in one (R5, R6).
-/
import Derived.Test.YtjfohapnjnopfaaGreatDoorK1
/-
  Chapter 61: events, how they lie in memory; the form of a kind.
-/
section
set_option linter.unusedVariables false
set_option linter.unusedSimpArgs false
namespace Go.Proofs.YtjfohapnjnopfaaGreatDoor
open Go.RowKit RepM

/-- a slice's value -/
structure SlT where
  p : Option Addr
  n : Nat
  cap : Nat
def SlT.v (s : SlT) : Value := .slice s.p s.n s.cap
/-- an event and the value of its slice of numbers -/
abbrev EvP := Ev × SlT
def evC (e : Ev) (nv : Value) : Array Value := #[.int .i64 e.kind, .int .i64 e.at_, .string e.item, .string e.of, nv, .string e.text]
def encEv (x : EvP) : List Value := [.int .i64 x.1.kind, .int .i64 x.1.at_, .string x.1.item, .string x.1.of, x.2.v, .string x.1.text]
def encI (n : Int) : List Value := [.int .i64 n]
def encB (s : ByteArray) : List Value := [.string s]
/-- a slice reads as a list of numbers -/
def IntS (w : World) (v : Value) (l : List Int) : Prop := SliceOf encI 1 w v l
theorem IntS.ext {w w' : World} {v : Value} {l : List Int} (h : IntS w v l) (hx : Ext w w') : IntS w' v l := SliceOf.ext h hx
/-- a slice reads as a list of events -/
def EvsS (w : World) (v : Value) (l : List EvP) : Prop := SliceOf encEv 6 w v l ∧ ∀ x ∈ l, IntS w x.2.v x.1.n
theorem EvsS.ext {w w' : World} {v : Value} {l : List EvP} (h : EvsS w v l) (hx : Ext w w') : EvsS w' v l := ⟨h.1.ext hx, fun x hm => (h.2 x hm).ext hx⟩
theorem encEv_len (x : EvP) : (encEv x).length = 6 := rfl
theorem encI_len (x : Int) : (encI x).length = 1 := rfl
theorem encEv_one : ∀ x : EvP, ∀ u ∈ encEv x, u.oneCell' = true := by
  intro x u hu
  simp only [encEv, SlT.v, List.mem_cons, List.not_mem_nil, or_false] at hu
  rcases hu with rfl | rfl | rfl | rfl | rfl | rfl <;> rfl
theorem encI_one : ∀ x : Int, ∀ u ∈ encI x, u.oneCell' = true := by
  intro x u hu
  simp only [encI, List.mem_cons, List.not_mem_nil, or_false] at hu
  rw [hu]; rfl
theorem infoEv : (Tryz.prog.info? 34).map (fun i => (i.zero, i.size, i.bytes)) = some (some (.agg #[.int .i64 0, .int .i64 0, .string ⟨#[]⟩, .string ⟨#[]⟩, .slice none 0 0, .string ⟨#[]⟩]), 6, 88) := by kernel_rfl
theorem infoInt : (Tryz.prog.info? 3).map (fun i => (i.zero, i.size, i.bytes)) = some (some (.int .i64 0), 1, 8) := by kernel_rfl
theorem infoStr : (Tryz.prog.info? 9).map (fun i => (i.zero, i.size, i.bytes)) = some (some (.string ⟨#[]⟩), 1, 16) := by kernel_rfl
theorem EvsS.form {w : World} {v : Value} {l : List EvP} (h : EvsS w v l) : ∃ p cap, v = .slice p l.length cap ∧ l.length ≤ cap ∧ cap ≤ maxLen ∧ (p = none → cap = 0) := SliceOf.form h.1
theorem EvsS.elem {w : World} {p : Option Addr} {n cap : Nat} {l : List EvP} (h : EvsS w (.slice p n cap) l) {i : Nat} (hi : i < l.length) : ∃ b off, p = some ⟨b, off, none⟩ ∧ w.rangeAt b (off + i * 6) (encEv l[i]) ∧ IntS w l[i].2.v l[i].1.n := by
  obtain ⟨b, off, rfl, hr⟩ := SliceOf.elemK h.1 hi
  exact ⟨b, off, rfl, hr, h.2 _ (List.getElem_mem hi)⟩
theorem lwEv : Whole Tryz.prog 34 6 := whole_of Tryz.underlying34 rfl (by kernel_rfl)
theorem midEv : Mid Tryz.prog 34 6 := mid_of Tryz.underlying34 rfl (by kernel_rfl)
theorem lwForm : Whole Tryz.prog 84 4 := whole_of Tryz.underlying84 rfl (by kernel_rfl)
def shpV : Shp → Value
  | .ex k => .iface 131 (.int .i64 k)
  | .atl k => .iface 132 (.int .i64 k)
  | .odd b => .iface 135 (.bool b)
  | .dry => .iface 134 (.agg #[])
def formV (k : Int) : Value := .agg #[.string (nameOf k), .int .u8 ((lettersOf k).1 : Nat), .int .u8 ((lettersOf k).2 : Nat), shpV (shpOf k)]
theorem form_1 (w : World) : Calls Tryz.prog 63 #[.int .i64 1] w fun e w' => e = .returned (.tuple #[formV 1, .bool true]) ∧ ∃ n : ExtOf w, w' = n.val := by
  go_enter Tryz.func63, Tryz.ntmps63
  go_wp2_with fail
  refine bodyPost_ret (results_cs (b0 := w.heap.size) rfl lwForm rfl rfl inferInstance rfl) rfl ⟨rfl, by exact ExtOf.of (by repeat' (first | (with_reducible exact Ext.refl _) | (with_reducible exact ExtOf.ext _) | (with_reducible refine Ext.trans ?_ (ExtOf.ext _)) | (with_reducible refine Ext.alloc ?_ _) | (with_reducible refine Ext.drew ?_) | (with_reducible refine Ext.setCell ?_ ?_ _) | (with_reducible refine Ext.setRow ?_ ?_ _) | (with_reducible exact HX.out) | (with_reducible refine Ext.trans ?_ HX.out) | (with_reducible refine Ext.below ?_ (Nat.le_refl _) _) | omega | (simp; done) | (simp; omega)))⟩
theorem form_2 (w : World) : Calls Tryz.prog 63 #[.int .i64 2] w fun e w' => e = .returned (.tuple #[formV 2, .bool true]) ∧ ∃ n : ExtOf w, w' = n.val := by
  go_enter Tryz.func63, Tryz.ntmps63
  go_wp2_with fail
  refine bodyPost_ret (results_cs (b0 := w.heap.size) rfl lwForm rfl rfl inferInstance rfl) rfl ⟨rfl, by exact ExtOf.of (by repeat' (first | (with_reducible exact Ext.refl _) | (with_reducible exact ExtOf.ext _) | (with_reducible refine Ext.trans ?_ (ExtOf.ext _)) | (with_reducible refine Ext.alloc ?_ _) | (with_reducible refine Ext.drew ?_) | (with_reducible refine Ext.setCell ?_ ?_ _) | (with_reducible refine Ext.setRow ?_ ?_ _) | (with_reducible exact HX.out) | (with_reducible refine Ext.trans ?_ HX.out) | (with_reducible refine Ext.below ?_ (Nat.le_refl _) _) | omega | (simp; done) | (simp; omega)))⟩
theorem form_3 (w : World) : Calls Tryz.prog 63 #[.int .i64 3] w fun e w' => e = .returned (.tuple #[formV 3, .bool true]) ∧ ∃ n : ExtOf w, w' = n.val := by
  go_enter Tryz.func63, Tryz.ntmps63
  go_wp2_with fail
  refine bodyPost_ret (results_cs (b0 := w.heap.size) rfl lwForm rfl rfl inferInstance rfl) rfl ⟨rfl, by exact ExtOf.of (by repeat' (first | (with_reducible exact Ext.refl _) | (with_reducible exact ExtOf.ext _) | (with_reducible refine Ext.trans ?_ (ExtOf.ext _)) | (with_reducible refine Ext.alloc ?_ _) | (with_reducible refine Ext.drew ?_) | (with_reducible refine Ext.setCell ?_ ?_ _) | (with_reducible refine Ext.setRow ?_ ?_ _) | (with_reducible exact HX.out) | (with_reducible refine Ext.trans ?_ HX.out) | (with_reducible refine Ext.below ?_ (Nat.le_refl _) _) | omega | (simp; done) | (simp; omega)))⟩
theorem form_4 (w : World) : Calls Tryz.prog 63 #[.int .i64 4] w fun e w' => e = .returned (.tuple #[formV 4, .bool true]) ∧ ∃ n : ExtOf w, w' = n.val := by
  go_enter Tryz.func63, Tryz.ntmps63
  go_wp2_with fail
  refine bodyPost_ret (results_cs (b0 := w.heap.size) rfl lwForm rfl rfl inferInstance rfl) rfl ⟨rfl, by exact ExtOf.of (by repeat' (first | (with_reducible exact Ext.refl _) | (with_reducible exact ExtOf.ext _) | (with_reducible refine Ext.trans ?_ (ExtOf.ext _)) | (with_reducible refine Ext.alloc ?_ _) | (with_reducible refine Ext.drew ?_) | (with_reducible refine Ext.setCell ?_ ?_ _) | (with_reducible refine Ext.setRow ?_ ?_ _) | (with_reducible exact HX.out) | (with_reducible refine Ext.trans ?_ HX.out) | (with_reducible refine Ext.below ?_ (Nat.le_refl _) _) | omega | (simp; done) | (simp; omega)))⟩
theorem form_5 (w : World) : Calls Tryz.prog 63 #[.int .i64 5] w fun e w' => e = .returned (.tuple #[formV 5, .bool true]) ∧ ∃ n : ExtOf w, w' = n.val := by
  go_enter Tryz.func63, Tryz.ntmps63
  go_wp2_with fail
  refine bodyPost_ret (results_cs (b0 := w.heap.size) rfl lwForm rfl rfl inferInstance rfl) rfl ⟨rfl, by exact ExtOf.of (by repeat' (first | (with_reducible exact Ext.refl _) | (with_reducible exact ExtOf.ext _) | (with_reducible refine Ext.trans ?_ (ExtOf.ext _)) | (with_reducible refine Ext.alloc ?_ _) | (with_reducible refine Ext.drew ?_) | (with_reducible refine Ext.setCell ?_ ?_ _) | (with_reducible refine Ext.setRow ?_ ?_ _) | (with_reducible exact HX.out) | (with_reducible refine Ext.trans ?_ HX.out) | (with_reducible refine Ext.below ?_ (Nat.le_refl _) _) | omega | (simp; done) | (simp; omega)))⟩
theorem form_6 (w : World) : Calls Tryz.prog 63 #[.int .i64 6] w fun e w' => e = .returned (.tuple #[formV 6, .bool true]) ∧ ∃ n : ExtOf w, w' = n.val := by
  go_enter Tryz.func63, Tryz.ntmps63
  go_wp2_with fail
  refine bodyPost_ret (results_cs (b0 := w.heap.size) rfl lwForm rfl rfl inferInstance rfl) rfl ⟨rfl, by exact ExtOf.of (by repeat' (first | (with_reducible exact Ext.refl _) | (with_reducible exact ExtOf.ext _) | (with_reducible refine Ext.trans ?_ (ExtOf.ext _)) | (with_reducible refine Ext.alloc ?_ _) | (with_reducible refine Ext.drew ?_) | (with_reducible refine Ext.setCell ?_ ?_ _) | (with_reducible refine Ext.setRow ?_ ?_ _) | (with_reducible exact HX.out) | (with_reducible refine Ext.trans ?_ HX.out) | (with_reducible refine Ext.below ?_ (Nat.le_refl _) _) | omega | (simp; done) | (simp; omega)))⟩
theorem form_7 (w : World) : Calls Tryz.prog 63 #[.int .i64 7] w fun e w' => e = .returned (.tuple #[formV 7, .bool true]) ∧ ∃ n : ExtOf w, w' = n.val := by
  go_enter Tryz.func63, Tryz.ntmps63
  go_wp2_with fail
  refine bodyPost_ret (results_cs (b0 := w.heap.size) rfl lwForm rfl rfl inferInstance rfl) rfl ⟨rfl, by exact ExtOf.of (by repeat' (first | (with_reducible exact Ext.refl _) | (with_reducible exact ExtOf.ext _) | (with_reducible refine Ext.trans ?_ (ExtOf.ext _)) | (with_reducible refine Ext.alloc ?_ _) | (with_reducible refine Ext.drew ?_) | (with_reducible refine Ext.setCell ?_ ?_ _) | (with_reducible refine Ext.setRow ?_ ?_ _) | (with_reducible exact HX.out) | (with_reducible refine Ext.trans ?_ HX.out) | (with_reducible refine Ext.below ?_ (Nat.le_refl _) _) | omega | (simp; done) | (simp; omega)))⟩
theorem form_8 (w : World) : Calls Tryz.prog 63 #[.int .i64 8] w fun e w' => e = .returned (.tuple #[formV 8, .bool true]) ∧ ∃ n : ExtOf w, w' = n.val := by
  go_enter Tryz.func63, Tryz.ntmps63
  go_wp2_with fail
  refine bodyPost_ret (results_cs (b0 := w.heap.size) rfl lwForm rfl rfl inferInstance rfl) rfl ⟨rfl, by exact ExtOf.of (by repeat' (first | (with_reducible exact Ext.refl _) | (with_reducible exact ExtOf.ext _) | (with_reducible refine Ext.trans ?_ (ExtOf.ext _)) | (with_reducible refine Ext.alloc ?_ _) | (with_reducible refine Ext.drew ?_) | (with_reducible refine Ext.setCell ?_ ?_ _) | (with_reducible refine Ext.setRow ?_ ?_ _) | (with_reducible exact HX.out) | (with_reducible refine Ext.trans ?_ HX.out) | (with_reducible refine Ext.below ?_ (Nat.le_refl _) _) | omega | (simp; done) | (simp; omega)))⟩
theorem form_9 (w : World) : Calls Tryz.prog 63 #[.int .i64 9] w fun e w' => e = .returned (.tuple #[formV 9, .bool true]) ∧ ∃ n : ExtOf w, w' = n.val := by
  go_enter Tryz.func63, Tryz.ntmps63
  go_wp2_with fail
  refine bodyPost_ret (results_cs (b0 := w.heap.size) rfl lwForm rfl rfl inferInstance rfl) rfl ⟨rfl, by exact ExtOf.of (by repeat' (first | (with_reducible exact Ext.refl _) | (with_reducible exact ExtOf.ext _) | (with_reducible refine Ext.trans ?_ (ExtOf.ext _)) | (with_reducible refine Ext.alloc ?_ _) | (with_reducible refine Ext.drew ?_) | (with_reducible refine Ext.setCell ?_ ?_ _) | (with_reducible refine Ext.setRow ?_ ?_ _) | (with_reducible exact HX.out) | (with_reducible refine Ext.trans ?_ HX.out) | (with_reducible refine Ext.below ?_ (Nat.le_refl _) _) | omega | (simp; done) | (simp; omega)))⟩
theorem form_10 (w : World) : Calls Tryz.prog 63 #[.int .i64 10] w fun e w' => e = .returned (.tuple #[formV 10, .bool true]) ∧ ∃ n : ExtOf w, w' = n.val := by
  go_enter Tryz.func63, Tryz.ntmps63
  go_wp2_with fail
  refine bodyPost_ret (results_cs (b0 := w.heap.size) rfl lwForm rfl rfl inferInstance rfl) rfl ⟨rfl, by exact ExtOf.of (by repeat' (first | (with_reducible exact Ext.refl _) | (with_reducible exact ExtOf.ext _) | (with_reducible refine Ext.trans ?_ (ExtOf.ext _)) | (with_reducible refine Ext.alloc ?_ _) | (with_reducible refine Ext.drew ?_) | (with_reducible refine Ext.setCell ?_ ?_ _) | (with_reducible refine Ext.setRow ?_ ?_ _) | (with_reducible exact HX.out) | (with_reducible refine Ext.trans ?_ HX.out) | (with_reducible refine Ext.below ?_ (Nat.le_refl _) _) | omega | (simp; done) | (simp; omega)))⟩
theorem form_11 (w : World) : Calls Tryz.prog 63 #[.int .i64 11] w fun e w' => e = .returned (.tuple #[formV 11, .bool true]) ∧ ∃ n : ExtOf w, w' = n.val := by
  go_enter Tryz.func63, Tryz.ntmps63
  go_wp2_with fail
  refine bodyPost_ret (results_cs (b0 := w.heap.size) rfl lwForm rfl rfl inferInstance rfl) rfl ⟨rfl, by exact ExtOf.of (by repeat' (first | (with_reducible exact Ext.refl _) | (with_reducible exact ExtOf.ext _) | (with_reducible refine Ext.trans ?_ (ExtOf.ext _)) | (with_reducible refine Ext.alloc ?_ _) | (with_reducible refine Ext.drew ?_) | (with_reducible refine Ext.setCell ?_ ?_ _) | (with_reducible refine Ext.setRow ?_ ?_ _) | (with_reducible exact HX.out) | (with_reducible refine Ext.trans ?_ HX.out) | (with_reducible refine Ext.below ?_ (Nat.le_refl _) _) | omega | (simp; done) | (simp; omega)))⟩
theorem form_12 (w : World) : Calls Tryz.prog 63 #[.int .i64 12] w fun e w' => e = .returned (.tuple #[formV 12, .bool true]) ∧ ∃ n : ExtOf w, w' = n.val := by
  go_enter Tryz.func63, Tryz.ntmps63
  go_wp2_with fail
  refine bodyPost_ret (results_cs (b0 := w.heap.size) rfl lwForm rfl rfl inferInstance rfl) rfl ⟨rfl, by exact ExtOf.of (by repeat' (first | (with_reducible exact Ext.refl _) | (with_reducible exact ExtOf.ext _) | (with_reducible refine Ext.trans ?_ (ExtOf.ext _)) | (with_reducible refine Ext.alloc ?_ _) | (with_reducible refine Ext.drew ?_) | (with_reducible refine Ext.setCell ?_ ?_ _) | (with_reducible refine Ext.setRow ?_ ?_ _) | (with_reducible exact HX.out) | (with_reducible refine Ext.trans ?_ HX.out) | (with_reducible refine Ext.below ?_ (Nat.le_refl _) _) | omega | (simp; done) | (simp; omega)))⟩
theorem form_13 (w : World) : Calls Tryz.prog 63 #[.int .i64 13] w fun e w' => e = .returned (.tuple #[formV 13, .bool true]) ∧ ∃ n : ExtOf w, w' = n.val := by
  go_enter Tryz.func63, Tryz.ntmps63
  go_wp2_with fail
  refine bodyPost_ret (results_cs (b0 := w.heap.size) rfl lwForm rfl rfl inferInstance rfl) rfl ⟨rfl, by exact ExtOf.of (by repeat' (first | (with_reducible exact Ext.refl _) | (with_reducible exact ExtOf.ext _) | (with_reducible refine Ext.trans ?_ (ExtOf.ext _)) | (with_reducible refine Ext.alloc ?_ _) | (with_reducible refine Ext.drew ?_) | (with_reducible refine Ext.setCell ?_ ?_ _) | (with_reducible refine Ext.setRow ?_ ?_ _) | (with_reducible exact HX.out) | (with_reducible refine Ext.trans ?_ HX.out) | (with_reducible refine Ext.below ?_ (Nat.le_refl _) _) | omega | (simp; done) | (simp; omega)))⟩
theorem form_14 (w : World) : Calls Tryz.prog 63 #[.int .i64 14] w fun e w' => e = .returned (.tuple #[formV 14, .bool true]) ∧ ∃ n : ExtOf w, w' = n.val := by
  go_enter Tryz.func63, Tryz.ntmps63
  go_wp2_with fail
  refine bodyPost_ret (results_cs (b0 := w.heap.size) rfl lwForm rfl rfl inferInstance rfl) rfl ⟨rfl, by exact ExtOf.of (by repeat' (first | (with_reducible exact Ext.refl _) | (with_reducible exact ExtOf.ext _) | (with_reducible refine Ext.trans ?_ (ExtOf.ext _)) | (with_reducible refine Ext.alloc ?_ _) | (with_reducible refine Ext.drew ?_) | (with_reducible refine Ext.setCell ?_ ?_ _) | (with_reducible refine Ext.setRow ?_ ?_ _) | (with_reducible exact HX.out) | (with_reducible refine Ext.trans ?_ HX.out) | (with_reducible refine Ext.below ?_ (Nat.le_refl _) _) | omega | (simp; done) | (simp; omega)))⟩
theorem form_ok (k : Int) (h1 : 1 ≤ k) (h2 : k ≤ 14) (w : World) : Calls Tryz.prog 63 #[.int .i64 k] w fun e w' => e = .returned (.tuple #[formV k, .bool true]) ∧ ∃ n : ExtOf w, w' = n.val := by
  have : k = 1 ∨ k = 2 ∨ k = 3 ∨ k = 4 ∨ k = 5 ∨ k = 6 ∨ k = 7 ∨ k = 8 ∨ k = 9 ∨ k = 10 ∨ k = 11 ∨ k = 12 ∨ k = 13 ∨ k = 14 := by omega
  rcases this with rfl | rfl | rfl | rfl | rfl | rfl | rfl | rfl | rfl | rfl | rfl | rfl | rfl | rfl
  · exact form_1 w
  · exact form_2 w
  · exact form_3 w
  · exact form_4 w
  · exact form_5 w
  · exact form_6 w
  · exact form_7 w
  · exact form_8 w
  · exact form_9 w
  · exact form_10 w
  · exact form_11 w
  · exact form_12 w
  · exact form_13 w
  · exact form_14 w
theorem form_bad (k : Int) (h : k < 1 ∨ 14 < k) (w : World) : Calls Tryz.prog 63 #[.int .i64 k] w fun e w' => e = .returned (.tuple #[.agg #[.string ⟨#[]⟩, .int .u8 0, .int .u8 0, .nilIface], .bool false]) ∧ ∃ n : ExtOf w, w' = n.val := by
  have ne : ∀ j : Int, 1 ≤ j → j ≤ 14 → (k == j) = false := fun j h1 h2 => beq_eq_false_iff_ne.2 (by omega)
  have q1 := ne 1 (by omega) (by omega)
  have q2 := ne 2 (by omega) (by omega)
  have q3 := ne 3 (by omega) (by omega)
  have q4 := ne 4 (by omega) (by omega)
  have q5 := ne 5 (by omega) (by omega)
  have q6 := ne 6 (by omega) (by omega)
  have q7 := ne 7 (by omega) (by omega)
  have q8 := ne 8 (by omega) (by omega)
  have q9 := ne 9 (by omega) (by omega)
  have q10 := ne 10 (by omega) (by omega)
  have q11 := ne 11 (by omega) (by omega)
  have q12 := ne 12 (by omega) (by omega)
  have q13 := ne 13 (by omega) (by omega)
  have q14 := ne 14 (by omega) (by omega)
  clear h ne
  go_enter Tryz.func63, Tryz.ntmps63
  go_wp2_with fail
  refine bodyPost_ret (results_cs (b0 := w.heap.size) rfl lwForm rfl rfl inferInstance rfl) rfl ⟨rfl, by exact ExtOf.of (by repeat' (first | (with_reducible exact Ext.refl _) | (with_reducible exact ExtOf.ext _) | (with_reducible refine Ext.trans ?_ (ExtOf.ext _)) | (with_reducible refine Ext.alloc ?_ _) | (with_reducible refine Ext.drew ?_) | (with_reducible refine Ext.setCell ?_ ?_ _) | (with_reducible refine Ext.setRow ?_ ?_ _) | (with_reducible exact HX.out) | (with_reducible refine Ext.trans ?_ HX.out) | (with_reducible refine Ext.below ?_ (Nat.le_refl _) _) | omega | (simp; done) | (simp; omega)))⟩
end Go.Proofs.YtjfohapnjnopfaaGreatDoor
end
/-
  Chapter 61: the program's check of an event.
-/
section
set_option linter.unusedVariables false
set_option linter.unusedSimpArgs false
namespace Go.Proofs.YtjfohapnjnopfaaGreatDoor
open Go.RowKit RepM

attribute [local go_sem] ExtOf.cell ExtOf.frozen Block.cell Block.frozen ExtB.cell ExtB.frozen alloc_cell alloc_frozen
theorem beq_dec (a b : Int) : (a == b) = decide (a = b) := by
  by_cases h : a = b
  · rw [decide_eq_true h]; exact beq_iff_eq.2 h
  · rw [decide_eq_false h]; exact beq_eq_false_iff_ne.2 h
theorem size_beq (s : ByteArray) : s.toList.isEmpty = decide (s.size = 0) := by
  rw [ByteArray.toList_eq]
  have hl : s.data.toList.length = s.size := rfl
  cases hs : s.data.toList with
  | nil => rw [hs] at hl; simp at hl; rw [decide_eq_true hl.symm]; rfl
  | cons a l => rw [hs] at hl; simp at hl; rw [decide_eq_false (by omega)]; rfl
theorem IntS.elem {w : World} {p : Option Addr} {n cap : Nat} {l : List Int} (h : IntS w (.slice p n cap) l) {i : Nat} (hi : i < l.length) : ∃ b off, p = some ⟨b, off, none⟩ ∧ w.cell? ⟨b, off + i, none⟩ = some (.int .i64 l[i]) := by
  obtain ⟨b, off, rfl, hr⟩ := SliceOf.elemK h hi
  exact ⟨b, off, rfl, by have := hr 0 _ rfl; simpa using this⟩
theorem IntS.form {w : World} {v : Value} {l : List Int} (h : IntS w v l) : ∃ p cap, v = .slice p l.length cap ∧ l.length ≤ cap ∧ cap ≤ maxLen ∧ (p = none → cap = 0) := SliceOf.form h
theorem isCode_any (s : ByteArray) (k : Nat) (w : World) : Calls Tryz.prog 64 #[.string s, .int .u8 (k : Int)] w fun e w' => e = .returned (.bool (named s k)) ∧ ∃ n : ExtOf w, w' = n.val := by
  by_cases h : k = 0
  · subst h
    go_enter Tryz.func64, Tryz.ntmps64
    go_wp2_with fail
    go_ret
    exact ⟨ret_bool (size_beq s), by exact ExtOf.of (by repeat' (first | (with_reducible exact Ext.refl _) | (with_reducible exact ExtOf.ext _) | (with_reducible refine Ext.trans ?_ (ExtOf.ext _)) | (with_reducible refine Ext.alloc ?_ _) | (with_reducible refine Ext.drew ?_) | (with_reducible refine Ext.setCell ?_ ?_ _) | (with_reducible refine Ext.setRow ?_ ?_ _) | (with_reducible exact HX.out) | (with_reducible refine Ext.trans ?_ HX.out) | (with_reducible refine Ext.below ?_ (Nat.le_refl _) _) | omega | (simp; done) | (simp; omega)))⟩
  · have q : ((k : Int) == 0) = false := beq_eq_false_iff_ne.2 (by omega)
    have q0 : ¬ ((k : Int) = 0) := by omega
    go_enter Tryz.func64, Tryz.ntmps64
    go_wp2_with (go_at_call 41; refine (iis_any s k w).mono ?_; rintro e w' ⟨rfl, n, rfl⟩)
    go_ret
    exact ⟨ret_bool (by unfold named; rw [if_neg h]), ExtOf.of n.ext⟩
theorem fit_ex (k : Int) (n : List Int) (p : Option Addr) (cap : Nat) (w : World) : Calls Tryz.prog 163 #[.int .i64 k, .slice p n.length cap] w fun e w' => e = .returned (.bool ((Shp.ex k).ok n)) ∧ ∃ n : ExtOf w, w' = n.val := by
  go_enter Tryz.func163, Tryz.ntmps163
  go_wp2_with fail
  go_ret
  exact ⟨ret_bool (beq_dec _ _), by exact ExtOf.of (by repeat' (first | (with_reducible exact Ext.refl _) | (with_reducible exact ExtOf.ext _) | (with_reducible refine Ext.trans ?_ (ExtOf.ext _)) | (with_reducible refine Ext.alloc ?_ _) | (with_reducible refine Ext.drew ?_) | (with_reducible refine Ext.setCell ?_ ?_ _) | (with_reducible refine Ext.setRow ?_ ?_ _) | (with_reducible exact HX.out) | (with_reducible refine Ext.trans ?_ HX.out) | (with_reducible refine Ext.below ?_ (Nat.le_refl _) _) | omega | (simp; done) | (simp; omega)))⟩
theorem fit_atl (k : Int) (n : List Int) (p : Option Addr) (cap : Nat) (w : World) : Calls Tryz.prog 164 #[.int .i64 k, .slice p n.length cap] w fun e w' => e = .returned (.bool ((Shp.atl k).ok n)) ∧ ∃ n : ExtOf w, w' = n.val := by
  go_enter Tryz.func164, Tryz.ntmps164
  go_wp2_with fail
  go_ret
  exact ⟨ret_bool (by simp [Shp.ok]), by exact ExtOf.of (by repeat' (first | (with_reducible exact Ext.refl _) | (with_reducible exact ExtOf.ext _) | (with_reducible refine Ext.trans ?_ (ExtOf.ext _)) | (with_reducible refine Ext.alloc ?_ _) | (with_reducible refine Ext.drew ?_) | (with_reducible refine Ext.setCell ?_ ?_ _) | (with_reducible refine Ext.setRow ?_ ?_ _) | (with_reducible exact HX.out) | (with_reducible refine Ext.trans ?_ HX.out) | (with_reducible refine Ext.below ?_ (Nat.le_refl _) _) | omega | (simp; done) | (simp; omega)))⟩
theorem fit_odd (b : Bool) (n : List Int) (p : Option Addr) (cap : Nat) (w : World) : Calls Tryz.prog 166 #[.bool b, .slice p n.length cap] w fun e w' => e = .returned (.bool ((Shp.odd b).ok n)) ∧ ∃ n : ExtOf w, w' = n.val := by
  go_enter Tryz.func166, Tryz.ntmps166
  go_wp2_with fail
  go_ret
  refine ⟨ret_bool ?_, by exact ExtOf.of (by repeat' (first | (with_reducible exact Ext.refl _) | (with_reducible exact ExtOf.ext _) | (with_reducible refine Ext.trans ?_ (ExtOf.ext _)) | (with_reducible refine Ext.alloc ?_ _) | (with_reducible refine Ext.drew ?_) | (with_reducible refine Ext.setCell ?_ ?_ _) | (with_reducible refine Ext.setRow ?_ ?_ _) | (with_reducible exact HX.out) | (with_reducible refine Ext.trans ?_ HX.out) | (with_reducible refine Ext.below ?_ (Nat.le_refl _) _) | omega | (simp; done) | (simp; omega)))⟩
  simp only [Shp.ok]
  have : ((n.length : Int) % 2 == 1) = decide (n.length % 2 = 1) := by
    by_cases h : n.length % 2 = 1
    · rw [decide_eq_true h]; exact beq_iff_eq.2 (by omega)
    · rw [decide_eq_false h]; exact beq_eq_false_iff_ne.2 (by omega)
  rw [this]
  cases b <;> by_cases h : n.length % 2 = 1 <;> simp [h]
theorem inNum_of {n : Int} (h : inNum n = true) : -1099511627776 ≤ n ∧ n ≤ 1099511627776 := by simpa [inNum] using h
set_option maxHeartbeats 800000 in
theorem fit_dry (n : List Int) (p : Option Addr) (cap : Nat) (w : World) (hn : IntS w (.slice p n.length cap) n) (hl : n.length ≤ 600) (hi : n.all inNum = true) : Calls Tryz.prog 165 #[.agg #[], .slice p n.length cap] w fun e w' => e = .returned (.bool (Shp.dry.ok n)) ∧ ∃ n : ExtOf w, w' = n.val := by
  by_cases h2 : n.length < 2
  · have q : decide ((n.length : Int) < 2) = true := decide_eq_true (by omega)
    go_enter Tryz.func165, Tryz.ntmps165
    go_wp2_with fail
    go_ret
    exact ⟨ret_bool (by simp only [Shp.ok]; rw [decide_eq_false (by omega)]; rfl), by exact ExtOf.of (by repeat' (first | (with_reducible exact Ext.refl _) | (with_reducible exact ExtOf.ext _) | (with_reducible refine Ext.trans ?_ (ExtOf.ext _)) | (with_reducible refine Ext.alloc ?_ _) | (with_reducible refine Ext.drew ?_) | (with_reducible refine Ext.setCell ?_ ?_ _) | (with_reducible refine Ext.setRow ?_ ?_ _) | (with_reducible exact HX.out) | (with_reducible refine Ext.trans ?_ HX.out) | (with_reducible refine Ext.below ?_ (Nat.le_refl _) _) | omega | (simp; done) | (simp; omega)))⟩
  · have q : decide ((n.length : Int) < 2) = false := decide_eq_false (by omega)
    obtain ⟨b, off, rfl, hc⟩ := IntS.elem hn (i := 1) (by omega)
    have hr := inNum_of (List.all_eq_true.1 hi n[1] (List.getElem_mem (by omega)))
    have HG : Hid (n.getD 1 0 = n[1]) := Lib.hid (by rw [List.getD_eq_getElem?_getD, List.getElem?_eq_getElem (by omega)]; rfl)
    generalize n[1] = m at *
    have ob := Old.of_cell hc
    have HE : Hid (Shp.dry.ok n = (decide (0 ≤ m) && (decide (m ≤ (n.length : Int) - 2) && decide (((n.length : Int) - 2 - m) % 3 = 0)))) := Lib.hid (by simp only [Shp.ok]; rw [HG.out, decide_eq_true (by omega : 2 ≤ n.length)]; rfl)
    clear hn HG
    rcases q1 : decide (0 ≤ m) with _ | _
    · have q1' : decide (m < 0) = true := decide_eq_true (by have := of_decide_eq_false q1; omega)
      go_enter Tryz.func165, Tryz.ntmps165
      go_wp2_with fail
      go_ret
      exact ⟨ret_bool (by rw [HE.out, q1]; rfl), by exact ExtOf.of (by repeat' (first | (with_reducible exact Ext.refl _) | (with_reducible exact ExtOf.ext _) | (with_reducible refine Ext.trans ?_ (ExtOf.ext _)) | (with_reducible refine Ext.alloc ?_ _) | (with_reducible refine Ext.drew ?_) | (with_reducible refine Ext.setCell ?_ ?_ _) | (with_reducible refine Ext.setRow ?_ ?_ _) | (with_reducible exact HX.out) | (with_reducible refine Ext.trans ?_ HX.out) | (with_reducible refine Ext.below ?_ (Nat.le_refl _) _) | omega | (simp; done) | (simp; omega)))⟩
    · have q1' : decide (m < 0) = false := decide_eq_false (by have := of_decide_eq_true q1; omega)
      rcases q2 : decide (m ≤ (n.length : Int) - 2) with _ | _
      · go_enter Tryz.func165, Tryz.ntmps165
        go_wp2_with fail
        go_ret
        exact ⟨ret_bool (by rw [HE.out, q1, q2]; rfl), by exact ExtOf.of (by repeat' (first | (with_reducible exact Ext.refl _) | (with_reducible exact ExtOf.ext _) | (with_reducible refine Ext.trans ?_ (ExtOf.ext _)) | (with_reducible refine Ext.alloc ?_ _) | (with_reducible refine Ext.drew ?_) | (with_reducible refine Ext.setCell ?_ ?_ _) | (with_reducible refine Ext.setRow ?_ ?_ _) | (with_reducible exact HX.out) | (with_reducible refine Ext.trans ?_ HX.out) | (with_reducible refine Ext.below ?_ (Nat.le_refl _) _) | omega | (simp; done) | (simp; omega)))⟩
      · have b1 := of_decide_eq_true q1
        have b2 := of_decide_eq_true q2
        go_enter Tryz.func165, Tryz.ntmps165
        go_wp2_with fail
        go_ret
        refine ⟨ret_bool ?_, by exact ExtOf.of (by repeat' (first | (with_reducible exact Ext.refl _) | (with_reducible exact ExtOf.ext _) | (with_reducible refine Ext.trans ?_ (ExtOf.ext _)) | (with_reducible refine Ext.alloc ?_ _) | (with_reducible refine Ext.drew ?_) | (with_reducible refine Ext.setCell ?_ ?_ _) | (with_reducible refine Ext.setRow ?_ ?_ _) | (with_reducible exact HX.out) | (with_reducible refine Ext.trans ?_ HX.out) | (with_reducible refine Ext.below ?_ (Nat.le_refl _) _) | omega | (simp; done) | (simp; omega)))⟩
        rw [HE.out, q1, q2]
        simp only [Bool.true_and]
        exact beq_dec _ _
/-- what a check answers -/
def ChkR (e : Ev) (en : Ending) : Prop := ∃ er : Int, en = .returned (.int .i64 er) ∧ (er = 0 ↔ okEv e = true)
theorem chk_bad {e : Ev} {er : Int} (h : okEv e = false) (h0 : er ≠ 0) : ChkR e (.returned (.int .i64 er)) := ⟨er, rfl, by rw [h]; simp [h0]⟩
theorem chk_ok {e : Ev} (h : okEv e = true) : ChkR e (.returned (.int .i64 0)) := ⟨0, rfl, by rw [h]; simp⟩
theorem all_drop {l : List Int} {k : Nat} (h : k < l.length) : (l.drop k).all inNum = (inNum l[k] && (l.drop (k + 1)).all inNum) := by
  rw [List.drop_eq_getElem_cons h, List.all_cons]
set_option maxHeartbeats 1600000 in
set_option maxRecDepth 20000 in
theorem pcheck_any (e : Ev) (nv : Value) (w : World) (hn : IntS w nv e.n) : Calls Tryz.prog 34 #[.agg (evC e nv)] w fun en w' => ChkR e en ∧ ∃ n : ExtOf w, w' = n.val := by
  obtain ⟨p, cap, rfl, hc1, hc2, hc3⟩ := IntS.form hn
  obtain ⟨kind, at_, item, of, ns, text⟩ := e
  have HN := Lib.hid hn
  clear hn
  simp only at *
  unfold maxLen at hc2
  by_cases hk : 1 ≤ kind ∧ kind ≤ 14
  · obtain ⟨hk1, hk2⟩ := hk
    have HO : Hid (okEv ⟨kind, at_, item, of, ns, text⟩ = ((decide (0 ≤ at_) && decide (at_ ≤ 10000000)) && ((named item (lettersOf kind).1 && named of (lettersOf kind).2) && ((decide (ns.length ≤ 600) && decide (text.size ≤ 16384)) && (ns.all inNum && (shpOf kind).ok ns))))) := Lib.hid (by
      unfold okEv; rw [decide_eq_true hk1, decide_eq_true hk2, shp_ok]; rfl)
    have HF := Lib.hid (form_ok kind hk1 hk2)
    clear hk1 hk2
    generalize hL : lettersOf kind = L at *
    obtain ⟨L1, L2⟩ := L
    obtain ⟨T, v, hT⟩ : ∃ T v, shpV (shpOf kind) = .iface T v := by cases shpOf kind <;> exact ⟨_, _, rfl⟩
    have HFV : Hid (formV kind = .agg #[.string (nameOf kind), .int .u8 (L1 : Nat), .int .u8 (L2 : Nat), .iface T v]) := Lib.hid (by unfold formV; rw [hL, hT])
    have HT := Lib.hid hT
    clear hL hT
    generalize nameOf kind = nm at *
    unfold evC
    by_cases ha : 0 ≤ at_ ∧ at_ ≤ 10000000
    · obtain ⟨ha1, ha2⟩ := ha
      have qa1 : decide (at_ < 0) = false := decide_eq_false (by omega)
      have qa2 : decide (10000000 < at_) = false := decide_eq_false (by omega)
      have HO2 : Hid (okEv ⟨kind, at_, item, of, ns, text⟩ = ((named item L1 && named of L2) && ((decide (ns.length ≤ 600) && decide (text.size ≤ 16384)) && (ns.all inNum && (shpOf kind).ok ns)))) := Lib.hid (by rw [HO.out, decide_eq_true ha1, decide_eq_true ha2]; rfl)
      clear HO
      rcases h1 : named item L1 with _ | _
      · go_enter Tryz.func34, Tryz.ntmps34
        go_wp2_with (first | (go_at_call 63; refine (HF.out _).mono ?_; rintro e w' ⟨rfl, nf, rfl⟩; rw [HFV.out]) | (go_at_call 64; with_reducible refine Calls.mono (isCode_any item L1 _) ?_; rintro e w' ⟨rfl, n1, rfl⟩; simp only [h1]) | (go_at_call 64; with_reducible refine Calls.mono (isCode_any of L2 _) ?_; rintro e w' ⟨rfl, n2, rfl⟩; simp only [h2]) | ((with_reducible apply wl_load' lwForm); (· (first | exact wanted_none rfl | exact wanted_some rfl rfl rfl)); (· rfl); (· infer_instance); (· rfl)) | ((with_reducible apply wl_store' lwForm); (· (first | exact wanted_none rfl | exact wanted_some rfl rfl rfl)); (· rfl); (· rfl); (· infer_instance); (· rfl); (· rfl); (· (simp [Value.oneCell'])); try simp only [setRow_alloc, setRow_new, setRow_new1, setRow_new2, setRow_new11, setRow_new111]))
        go_ret
        exact ⟨chk_bad (by (rw [HO2.out, h1]; rfl)) (by decide), by exact ExtOf.of (by repeat' (first | (with_reducible exact Ext.refl _) | (with_reducible exact ExtOf.ext _) | (with_reducible refine Ext.trans ?_ (ExtOf.ext _)) | (with_reducible refine Ext.alloc ?_ _) | (with_reducible refine Ext.drew ?_) | (with_reducible refine Ext.setCell ?_ ?_ _) | (with_reducible refine Ext.setRow ?_ ?_ _) | (with_reducible exact HX.out) | (with_reducible refine Ext.trans ?_ HX.out) | (with_reducible refine Ext.below ?_ (Nat.le_refl _) _) | omega | (simp; done) | (simp; omega)))⟩
      rcases h2 : named of L2 with _ | _
      · go_enter Tryz.func34, Tryz.ntmps34
        go_wp2_with (first | (go_at_call 63; refine (HF.out _).mono ?_; rintro e w' ⟨rfl, nf, rfl⟩; rw [HFV.out]) | (go_at_call 64; with_reducible refine Calls.mono (isCode_any item L1 _) ?_; rintro e w' ⟨rfl, n1, rfl⟩; simp only [h1]) | (go_at_call 64; with_reducible refine Calls.mono (isCode_any of L2 _) ?_; rintro e w' ⟨rfl, n2, rfl⟩; simp only [h2]) | ((with_reducible apply wl_load' lwForm); (· (first | exact wanted_none rfl | exact wanted_some rfl rfl rfl)); (· rfl); (· infer_instance); (· rfl)) | ((with_reducible apply wl_store' lwForm); (· (first | exact wanted_none rfl | exact wanted_some rfl rfl rfl)); (· rfl); (· rfl); (· infer_instance); (· rfl); (· rfl); (· (simp [Value.oneCell'])); try simp only [setRow_alloc, setRow_new, setRow_new1, setRow_new2, setRow_new11, setRow_new111]))
        go_ret
        exact ⟨chk_bad (by (rw [HO2.out, h2]; simp)) (by decide), by exact ExtOf.of (by repeat' (first | (with_reducible exact Ext.refl _) | (with_reducible exact ExtOf.ext _) | (with_reducible refine Ext.trans ?_ (ExtOf.ext _)) | (with_reducible refine Ext.alloc ?_ _) | (with_reducible refine Ext.drew ?_) | (with_reducible refine Ext.setCell ?_ ?_ _) | (with_reducible refine Ext.setRow ?_ ?_ _) | (with_reducible exact HX.out) | (with_reducible refine Ext.trans ?_ HX.out) | (with_reducible refine Ext.below ?_ (Nat.le_refl _) _) | omega | (simp; done) | (simp; omega)))⟩
      have HO3 : Hid (okEv ⟨kind, at_, item, of, ns, text⟩ = ((decide (ns.length ≤ 600) && decide (text.size ≤ 16384)) && (ns.all inNum && (shpOf kind).ok ns))) := Lib.hid (by rw [HO2.out, h1, h2]; rfl)
      clear HO2
      by_cases hl : ns.length ≤ 600
      case neg =>
        have ql : decide (600 < (ns.length : Int)) = true := decide_eq_true (by omega)
        go_enter Tryz.func34, Tryz.ntmps34
        go_wp2_with (first | (go_at_call 63; refine (HF.out _).mono ?_; rintro e w' ⟨rfl, nf, rfl⟩; rw [HFV.out]) | (go_at_call 64; with_reducible refine Calls.mono (isCode_any item L1 _) ?_; rintro e w' ⟨rfl, n1, rfl⟩; simp only [h1]) | (go_at_call 64; with_reducible refine Calls.mono (isCode_any of L2 _) ?_; rintro e w' ⟨rfl, n2, rfl⟩; simp only [h2]) | ((with_reducible apply wl_load' lwForm); (· (first | exact wanted_none rfl | exact wanted_some rfl rfl rfl)); (· rfl); (· infer_instance); (· rfl)) | ((with_reducible apply wl_store' lwForm); (· (first | exact wanted_none rfl | exact wanted_some rfl rfl rfl)); (· rfl); (· rfl); (· infer_instance); (· rfl); (· rfl); (· (simp [Value.oneCell'])); try simp only [setRow_alloc, setRow_new, setRow_new1, setRow_new2, setRow_new11, setRow_new111]))
        go_ret
        exact ⟨chk_bad (by (rw [HO3.out, decide_eq_false hl]; rfl)) (by decide), by exact ExtOf.of (by repeat' (first | (with_reducible exact Ext.refl _) | (with_reducible exact ExtOf.ext _) | (with_reducible refine Ext.trans ?_ (ExtOf.ext _)) | (with_reducible refine Ext.alloc ?_ _) | (with_reducible refine Ext.drew ?_) | (with_reducible refine Ext.setCell ?_ ?_ _) | (with_reducible refine Ext.setRow ?_ ?_ _) | (with_reducible exact HX.out) | (with_reducible refine Ext.trans ?_ HX.out) | (with_reducible refine Ext.below ?_ (Nat.le_refl _) _) | omega | (simp; done) | (simp; omega)))⟩
      have ql : decide (600 < (ns.length : Int)) = false := decide_eq_false (by omega)
      by_cases ht : text.size ≤ 16384
      case neg =>
        have qt : decide (16384 < (text.size : Int)) = true := decide_eq_true (by omega)
        go_enter Tryz.func34, Tryz.ntmps34
        go_wp2_with (first | (go_at_call 63; refine (HF.out _).mono ?_; rintro e w' ⟨rfl, nf, rfl⟩; rw [HFV.out]) | (go_at_call 64; with_reducible refine Calls.mono (isCode_any item L1 _) ?_; rintro e w' ⟨rfl, n1, rfl⟩; simp only [h1]) | (go_at_call 64; with_reducible refine Calls.mono (isCode_any of L2 _) ?_; rintro e w' ⟨rfl, n2, rfl⟩; simp only [h2]) | ((with_reducible apply wl_load' lwForm); (· (first | exact wanted_none rfl | exact wanted_some rfl rfl rfl)); (· rfl); (· infer_instance); (· rfl)) | ((with_reducible apply wl_store' lwForm); (· (first | exact wanted_none rfl | exact wanted_some rfl rfl rfl)); (· rfl); (· rfl); (· infer_instance); (· rfl); (· rfl); (· (simp [Value.oneCell'])); try simp only [setRow_alloc, setRow_new, setRow_new1, setRow_new2, setRow_new11, setRow_new111]))
        go_ret
        exact ⟨chk_bad (by (rw [HO3.out, decide_eq_false ht]; simp)) (by decide), by exact ExtOf.of (by repeat' (first | (with_reducible exact Ext.refl _) | (with_reducible exact ExtOf.ext _) | (with_reducible refine Ext.trans ?_ (ExtOf.ext _)) | (with_reducible refine Ext.alloc ?_ _) | (with_reducible refine Ext.drew ?_) | (with_reducible refine Ext.setCell ?_ ?_ _) | (with_reducible refine Ext.setRow ?_ ?_ _) | (with_reducible exact HX.out) | (with_reducible refine Ext.trans ?_ HX.out) | (with_reducible refine Ext.below ?_ (Nat.le_refl _) _) | omega | (simp; done) | (simp; omega)))⟩
      have qt : decide (16384 < (text.size : Int)) = false := decide_eq_false (by omega)
      have HO4 : Hid (okEv ⟨kind, at_, item, of, ns, text⟩ = (ns.all inNum && (shpOf kind).ok ns)) := Lib.hid (by rw [HO3.out, decide_eq_true hl, decide_eq_true ht]; rfl)
      clear HO3
      go_enter Tryz.func34, Tryz.ntmps34
      go_wp2_with (first | (go_at_call 63; refine (HF.out _).mono ?_; rintro e w' ⟨rfl, nf, rfl⟩; rw [HFV.out]) | (go_at_call 64; with_reducible refine Calls.mono (isCode_any item L1 _) ?_; rintro e w' ⟨rfl, n1, rfl⟩; simp only [h1]) | (go_at_call 64; with_reducible refine Calls.mono (isCode_any of L2 _) ?_; rintro e w' ⟨rfl, n2, rfl⟩; simp only [h2]) | ((with_reducible apply wl_load' lwForm); (· (first | exact wanted_none rfl | exact wanted_some rfl rfl rfl)); (· rfl); (· infer_instance); (· rfl)) | ((with_reducible apply wl_store' lwForm); (· (first | exact wanted_none rfl | exact wanted_some rfl rfl rfl)); (· rfl); (· rfl); (· infer_instance); (· rfl); (· rfl); (· (simp [Value.oneCell'])); try simp only [setRow_alloc, setRow_new, setRow_new1, setRow_new2, setRow_new11, setRow_new111]))
      have hll := hl
      clear h1 h2 hl ht ql qt qa1 qa2 ha1 ha2
      refine nameW (R := fun W => Code.wp _ _ _ _ W) (fun W => Hid (Ext w W) ∧ Block W w.heap.size #[.int .i64 kind, .int .i64 at_, .string item, .string of, .slice p ns.length cap, .string text] ∧ Block W nf.val.heap.size #[.string nm, .int .u8 (L1 : Nat), .int .u8 (L2 : Nat), .iface T v]) ⟨Lib.hid (by repeat' (first | (with_reducible exact Ext.refl _) | (with_reducible exact ExtOf.ext _) | (with_reducible refine Ext.trans ?_ (ExtOf.ext _)) | (with_reducible refine Ext.alloc ?_ _) | (with_reducible refine Ext.drew ?_) | (with_reducible refine Ext.setCell ?_ ?_ _) | (with_reducible refine Ext.setRow ?_ ?_ _) | (with_reducible exact HX.out) | (with_reducible refine Ext.trans ?_ HX.out) | (with_reducible refine Ext.below ?_ (Nat.le_refl _) _) | omega | (simp; done) | (simp; omega))), inferInstance, inferInstance⟩ ?_
      intro W ⟨HX, hB1, hB2⟩
      have o1 := hB1.old
      have o2 := hB2.old
      generalize nf.val.heap.size = gf at *
      generalize w.heap.size = ge at *
      go_loop [50] (fun vi => ∃ k : Nat, k ≤ ns.length ∧ vi = .int .i64 k ∧ ns.all inNum = (ns.drop k).all inNum) (fun i => ns.length - (intOf i).toNat)
      case atStart => exact ⟨0, by omega, rfl, by simp⟩
      case round =>
        obtain ⟨k, hk, rfl, hd⟩ := hrel
        have HD := Lib.hid hd
        clear hd
        by_cases hlt : k < ns.length
        · have HAD := Lib.hid (all_drop hlt)
          obtain ⟨b, off, rfl, hc⟩ := IntS.elem (IntS.ext HN.out HX.out) hlt
          have oc := Old.of_cell hc
          generalize ns[k] = m at *
          by_cases m1 : m < -1099511627776
          · have qm : decide (m < -1099511627776) = true := decide_eq_true m1
            go_wp2_with (first | ((with_reducible apply wl_load' lwForm); (· (first | exact wanted_none rfl | exact wanted_some rfl rfl rfl)); (· rfl); (· infer_instance); (· rfl)) | ((with_reducible apply wl_store' lwForm); (· (first | exact wanted_none rfl | exact wanted_some rfl rfl rfl)); (· rfl); (· rfl); (· infer_instance); (· rfl); (· rfl); (· (simp [Value.oneCell'])); try simp only [setRow_alloc, setRow_new, setRow_new1, setRow_new2, setRow_new11, setRow_new111]))
            go_ret
            exact ⟨chk_bad (by rw [HO4.out, HD.out, HAD.out]; unfold inNum; rw [decide_eq_false (by omega : ¬ -1099511627776 ≤ m)]; rfl) (by decide), ExtOf.of HX.out⟩
          · have qm : decide (m < -1099511627776) = false := decide_eq_false m1
            by_cases m2 : 1099511627776 < m
            · have qm2 : decide (1099511627776 < m) = true := decide_eq_true m2
              go_wp2_with fail
              go_ret
              exact ⟨chk_bad (by rw [HO4.out, HD.out, HAD.out]; unfold inNum; rw [decide_eq_false (by omega : ¬ m ≤ 1099511627776)]; simp) (by decide), ExtOf.of HX.out⟩
            · have qm2 : decide (1099511627776 < m) = false := decide_eq_false m2
              have HIN : Hid (inNum m = true) := Lib.hid (by unfold inNum; rw [decide_eq_true (by omega : -1099511627776 ≤ m), decide_eq_true (by omega : m ≤ 1099511627776)]; rfl)
              go_wp2_with fail
              go_round
              case rel => exact ⟨k + 1, by omega, by first | rfl | go_num, by rw [HD.out, HAD.out, HIN.out]; rfl⟩
              case measure => simp [intOf]; omega
        · obtain rfl : k = ns.length := by omega
          have HA : Hid (ns.all inNum = true) := Lib.hid (by rw [HD.out]; simp)
          have HI := Lib.hid (IntS.ext HN.out HX.out)
          have HLL := Lib.hid hll
          clear hll
          rcases hs : shpOf kind with k0 | k0 | b0 | _
          · obtain ⟨rfl, rfl⟩ : 131 = T ∧ Value.int .i64 k0 = v := by have := HT.out; rw [hs] at this; simpa [shpV] using this
            have HSO : Hid ((shpOf kind).ok ns = (Shp.ok (.ex k0) ns)) := Lib.hid (by rw [hs])
            clear hs
            rcases hv : Shp.ok (.ex k0) ns with _ | _
            · go_wp2_with (go_at_call 163; refine (fit_ex k0 ns p cap _).mono ?_; rintro e w' ⟨rfl, nz, rfl⟩; simp only [hv])
              go_ret
              exact ⟨chk_bad (by rw [HO4.out, HA.out, HSO.out, hv]; rfl) (by decide), ExtOf.of (HX.out.trans nz.ext)⟩
            · go_wp2_with (go_at_call 163; refine (fit_ex k0 ns p cap _).mono ?_; rintro e w' ⟨rfl, nz, rfl⟩; simp only [hv])
              go_ret
              exact ⟨chk_ok (by rw [HO4.out, HA.out, HSO.out, hv]; rfl), ExtOf.of (HX.out.trans nz.ext)⟩
          · obtain ⟨rfl, rfl⟩ : 132 = T ∧ Value.int .i64 k0 = v := by have := HT.out; rw [hs] at this; simpa [shpV] using this
            have HSO : Hid ((shpOf kind).ok ns = (Shp.ok (.atl k0) ns)) := Lib.hid (by rw [hs])
            clear hs
            rcases hv : Shp.ok (.atl k0) ns with _ | _
            · go_wp2_with (go_at_call 164; refine (fit_atl k0 ns p cap _).mono ?_; rintro e w' ⟨rfl, nz, rfl⟩; simp only [hv])
              go_ret
              exact ⟨chk_bad (by rw [HO4.out, HA.out, HSO.out, hv]; rfl) (by decide), ExtOf.of (HX.out.trans nz.ext)⟩
            · go_wp2_with (go_at_call 164; refine (fit_atl k0 ns p cap _).mono ?_; rintro e w' ⟨rfl, nz, rfl⟩; simp only [hv])
              go_ret
              exact ⟨chk_ok (by rw [HO4.out, HA.out, HSO.out, hv]; rfl), ExtOf.of (HX.out.trans nz.ext)⟩
          · obtain ⟨rfl, rfl⟩ : 135 = T ∧ Value.bool b0 = v := by have := HT.out; rw [hs] at this; simpa [shpV] using this
            have HSO : Hid ((shpOf kind).ok ns = (Shp.ok (.odd b0) ns)) := Lib.hid (by rw [hs])
            clear hs
            rcases hv : Shp.ok (.odd b0) ns with _ | _
            · go_wp2_with (go_at_call 166; refine (fit_odd b0 ns p cap _).mono ?_; rintro e w' ⟨rfl, nz, rfl⟩; simp only [hv])
              go_ret
              exact ⟨chk_bad (by rw [HO4.out, HA.out, HSO.out, hv]; rfl) (by decide), ExtOf.of (HX.out.trans nz.ext)⟩
            · go_wp2_with (go_at_call 166; refine (fit_odd b0 ns p cap _).mono ?_; rintro e w' ⟨rfl, nz, rfl⟩; simp only [hv])
              go_ret
              exact ⟨chk_ok (by rw [HO4.out, HA.out, HSO.out, hv]; rfl), ExtOf.of (HX.out.trans nz.ext)⟩
          · obtain ⟨rfl, rfl⟩ : 134 = T ∧ Value.agg #[] = v := by have := HT.out; rw [hs] at this; simpa [shpV] using this
            have HSO : Hid ((shpOf kind).ok ns = (Shp.ok (.dry) ns)) := Lib.hid (by rw [hs])
            clear hs
            rcases hv : Shp.ok (.dry) ns with _ | _
            · go_wp2_with (go_at_call 165; refine (fit_dry ns p cap _ HI.out HLL.out HA.out).mono ?_; rintro e w' ⟨rfl, nz, rfl⟩; simp only [hv])
              go_ret
              exact ⟨chk_bad (by rw [HO4.out, HA.out, HSO.out, hv]; rfl) (by decide), ExtOf.of (HX.out.trans nz.ext)⟩
            · go_wp2_with (go_at_call 165; refine (fit_dry ns p cap _ HI.out HLL.out HA.out).mono ?_; rintro e w' ⟨rfl, nz, rfl⟩; simp only [hv])
              go_ret
              exact ⟨chk_ok (by rw [HO4.out, HA.out, HSO.out, hv]; rfl), ExtOf.of (HX.out.trans nz.ext)⟩
    · have HO2 : Hid (okEv ⟨kind, at_, item, of, ns, text⟩ = false) := Lib.hid (by
        rw [HO.out]
        by_cases h1 : 0 ≤ at_
        · rw [decide_eq_true h1, decide_eq_false (by omega : ¬ at_ ≤ 10000000)]; rfl
        · rw [decide_eq_false h1]; rfl)
      clear HO
      by_cases h1 : at_ < 0
      · go_enter Tryz.func34, Tryz.ntmps34
        go_wp2_with (first | (go_at_call 63; refine (HF.out _).mono ?_; rintro e w' ⟨rfl, nf, rfl⟩; rw [HFV.out]) | (go_at_call 64; with_reducible refine Calls.mono (isCode_any item L1 _) ?_; rintro e w' ⟨rfl, n1, rfl⟩; simp only [h1]) | (go_at_call 64; with_reducible refine Calls.mono (isCode_any of L2 _) ?_; rintro e w' ⟨rfl, n2, rfl⟩; simp only [h2]) | ((with_reducible apply wl_load' lwForm); (· (first | exact wanted_none rfl | exact wanted_some rfl rfl rfl)); (· rfl); (· infer_instance); (· rfl)) | ((with_reducible apply wl_store' lwForm); (· (first | exact wanted_none rfl | exact wanted_some rfl rfl rfl)); (· rfl); (· rfl); (· infer_instance); (· rfl); (· rfl); (· (simp [Value.oneCell'])); try simp only [setRow_alloc, setRow_new, setRow_new1, setRow_new2, setRow_new11, setRow_new111]))
        go_ret
        exact ⟨chk_bad (by exact HO2.out) (by decide), by exact ExtOf.of (by repeat' (first | (with_reducible exact Ext.refl _) | (with_reducible exact ExtOf.ext _) | (with_reducible refine Ext.trans ?_ (ExtOf.ext _)) | (with_reducible refine Ext.alloc ?_ _) | (with_reducible refine Ext.drew ?_) | (with_reducible refine Ext.setCell ?_ ?_ _) | (with_reducible refine Ext.setRow ?_ ?_ _) | (with_reducible exact HX.out) | (with_reducible refine Ext.trans ?_ HX.out) | (with_reducible refine Ext.below ?_ (Nat.le_refl _) _) | omega | (simp; done) | (simp; omega)))⟩
      · have qa : decide (10000000 < at_) = true := decide_eq_true (by omega)
        go_enter Tryz.func34, Tryz.ntmps34
        go_wp2_with (first | (go_at_call 63; refine (HF.out _).mono ?_; rintro e w' ⟨rfl, nf, rfl⟩; rw [HFV.out]) | (go_at_call 64; with_reducible refine Calls.mono (isCode_any item L1 _) ?_; rintro e w' ⟨rfl, n1, rfl⟩; simp only [h1]) | (go_at_call 64; with_reducible refine Calls.mono (isCode_any of L2 _) ?_; rintro e w' ⟨rfl, n2, rfl⟩; simp only [h2]) | ((with_reducible apply wl_load' lwForm); (· (first | exact wanted_none rfl | exact wanted_some rfl rfl rfl)); (· rfl); (· infer_instance); (· rfl)) | ((with_reducible apply wl_store' lwForm); (· (first | exact wanted_none rfl | exact wanted_some rfl rfl rfl)); (· rfl); (· rfl); (· infer_instance); (· rfl); (· rfl); (· (simp [Value.oneCell'])); try simp only [setRow_alloc, setRow_new, setRow_new1, setRow_new2, setRow_new11, setRow_new111]))
        go_ret
        exact ⟨chk_bad (by exact HO2.out) (by decide), by exact ExtOf.of (by repeat' (first | (with_reducible exact Ext.refl _) | (with_reducible exact ExtOf.ext _) | (with_reducible refine Ext.trans ?_ (ExtOf.ext _)) | (with_reducible refine Ext.alloc ?_ _) | (with_reducible refine Ext.drew ?_) | (with_reducible refine Ext.setCell ?_ ?_ _) | (with_reducible refine Ext.setRow ?_ ?_ _) | (with_reducible exact HX.out) | (with_reducible refine Ext.trans ?_ HX.out) | (with_reducible refine Ext.below ?_ (Nat.le_refl _) _) | omega | (simp; done) | (simp; omega)))⟩
  · have HO : Hid (okEv ⟨kind, at_, item, of, ns, text⟩ = false) := Lib.hid (by
      unfold okEv
      by_cases h1 : 1 ≤ kind
      · rw [decide_eq_true h1, decide_eq_false (by simp only; omega)]; rfl
      · rw [decide_eq_false h1]; rfl)
    have HF := Lib.hid (form_bad kind (by omega))
    clear hk
    unfold evC
    simp only
    go_enter Tryz.func34, Tryz.ntmps34
    go_wp2_with (first | (go_at_call 63; refine (HF.out _).mono ?_; rintro e w' ⟨rfl, nf, rfl⟩) | ((with_reducible apply wl_load' lwForm); (· (first | exact wanted_none rfl | exact wanted_some rfl rfl rfl)); (· rfl); (· infer_instance); (· rfl)) | ((with_reducible apply wl_store' lwForm); (· (first | exact wanted_none rfl | exact wanted_some rfl rfl rfl)); (· rfl); (· rfl); (· infer_instance); (· rfl); (· rfl); (· (simp [Value.oneCell'])); try simp only [setRow_alloc, setRow_new, setRow_new1, setRow_new2, setRow_new11, setRow_new111]))
    go_ret
    exact ⟨chk_bad (by exact HO.out) (by decide), by exact ExtOf.of (by repeat' (first | (with_reducible exact Ext.refl _) | (with_reducible exact ExtOf.ext _) | (with_reducible refine Ext.trans ?_ (ExtOf.ext _)) | (with_reducible refine Ext.alloc ?_ _) | (with_reducible refine Ext.drew ?_) | (with_reducible refine Ext.setCell ?_ ?_ _) | (with_reducible refine Ext.setRow ?_ ?_ _) | (with_reducible exact HX.out) | (with_reducible refine Ext.trans ?_ HX.out) | (with_reducible refine Ext.below ?_ (Nat.le_refl _) _) | omega | (simp; done) | (simp; omega)))⟩
end Go.Proofs.YtjfohapnjnopfaaGreatDoor
end
