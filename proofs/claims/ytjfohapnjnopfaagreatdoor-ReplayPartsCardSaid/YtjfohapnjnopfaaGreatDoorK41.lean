/-
  Chapter 61: several texts in one (R41, R42).
-/
import Derived.Test.YtjfohapnjnopfaaGreatDoorK39
import Derived.Test.YtjfohapnjnopfaaGreatDoorK7
import Derived.Deep.DeepCutAuto
import Derived.Test.YtjfohapnjnopfaaGreatDoorR19
import Derived.Test.YtjfohapnjnopfaaGreatDoorR38
/-
  Chapter 61: the reference's names and lines of events.
-/
section
set_option linter.unusedVariables false
set_option linter.unusedSimpArgs false
namespace Go.Proofs.YtjfohapnjnopfaaGreatDoor
open Go.RowKit RepM

attribute [local go_sem] ExtOf.cell ExtOf.frozen Block.cell Block.frozen ExtB.cell ExtB.frozen alloc_cell alloc_frozen
theorem rname58_1 (w : World) : Calls Tryz.prog 61 #[.int .i64 1] w fun e w' => e = .returned (.string (nameB 1)) ∧ ∃ n : ExtOf w, w' = n.val := by
  go_enter Tryz.func61, Tryz.ntmps61
  go_wp2_with fail
  go_ret
  exact ⟨rfl, by exact ExtOf.of (by repeat' (first | (with_reducible exact Ext.refl _) | (with_reducible exact ExtOf.ext _) | (with_reducible refine Ext.trans ?_ (ExtOf.ext _)) | (with_reducible refine Ext.alloc ?_ _) | (with_reducible refine Ext.drew ?_) | (with_reducible refine Ext.setCell ?_ ?_ _) | (with_reducible refine Ext.setRow ?_ ?_ _) | (with_reducible exact HX.out) | (with_reducible refine Ext.trans ?_ HX.out) | (with_reducible refine Ext.below ?_ (Nat.le_refl _) _) | omega | (simp; done) | (simp; omega)))⟩
theorem rname58_2 (w : World) : Calls Tryz.prog 61 #[.int .i64 2] w fun e w' => e = .returned (.string (nameB 2)) ∧ ∃ n : ExtOf w, w' = n.val := by
  go_enter Tryz.func61, Tryz.ntmps61
  go_wp2_with fail
  go_ret
  exact ⟨rfl, by exact ExtOf.of (by repeat' (first | (with_reducible exact Ext.refl _) | (with_reducible exact ExtOf.ext _) | (with_reducible refine Ext.trans ?_ (ExtOf.ext _)) | (with_reducible refine Ext.alloc ?_ _) | (with_reducible refine Ext.drew ?_) | (with_reducible refine Ext.setCell ?_ ?_ _) | (with_reducible refine Ext.setRow ?_ ?_ _) | (with_reducible exact HX.out) | (with_reducible refine Ext.trans ?_ HX.out) | (with_reducible refine Ext.below ?_ (Nat.le_refl _) _) | omega | (simp; done) | (simp; omega)))⟩
theorem rname58_3 (w : World) : Calls Tryz.prog 61 #[.int .i64 3] w fun e w' => e = .returned (.string (nameB 3)) ∧ ∃ n : ExtOf w, w' = n.val := by
  go_enter Tryz.func61, Tryz.ntmps61
  go_wp2_with fail
  go_ret
  exact ⟨rfl, by exact ExtOf.of (by repeat' (first | (with_reducible exact Ext.refl _) | (with_reducible exact ExtOf.ext _) | (with_reducible refine Ext.trans ?_ (ExtOf.ext _)) | (with_reducible refine Ext.alloc ?_ _) | (with_reducible refine Ext.drew ?_) | (with_reducible refine Ext.setCell ?_ ?_ _) | (with_reducible refine Ext.setRow ?_ ?_ _) | (with_reducible exact HX.out) | (with_reducible refine Ext.trans ?_ HX.out) | (with_reducible refine Ext.below ?_ (Nat.le_refl _) _) | omega | (simp; done) | (simp; omega)))⟩
theorem rname58_4 (w : World) : Calls Tryz.prog 61 #[.int .i64 4] w fun e w' => e = .returned (.string (nameB 4)) ∧ ∃ n : ExtOf w, w' = n.val := by
  go_enter Tryz.func61, Tryz.ntmps61
  go_wp2_with fail
  go_ret
  exact ⟨rfl, by exact ExtOf.of (by repeat' (first | (with_reducible exact Ext.refl _) | (with_reducible exact ExtOf.ext _) | (with_reducible refine Ext.trans ?_ (ExtOf.ext _)) | (with_reducible refine Ext.alloc ?_ _) | (with_reducible refine Ext.drew ?_) | (with_reducible refine Ext.setCell ?_ ?_ _) | (with_reducible refine Ext.setRow ?_ ?_ _) | (with_reducible exact HX.out) | (with_reducible refine Ext.trans ?_ HX.out) | (with_reducible refine Ext.below ?_ (Nat.le_refl _) _) | omega | (simp; done) | (simp; omega)))⟩
theorem rname58_5 (w : World) : Calls Tryz.prog 61 #[.int .i64 5] w fun e w' => e = .returned (.string (nameB 5)) ∧ ∃ n : ExtOf w, w' = n.val := by
  go_enter Tryz.func61, Tryz.ntmps61
  go_wp2_with fail
  go_ret
  exact ⟨rfl, by exact ExtOf.of (by repeat' (first | (with_reducible exact Ext.refl _) | (with_reducible exact ExtOf.ext _) | (with_reducible refine Ext.trans ?_ (ExtOf.ext _)) | (with_reducible refine Ext.alloc ?_ _) | (with_reducible refine Ext.drew ?_) | (with_reducible refine Ext.setCell ?_ ?_ _) | (with_reducible refine Ext.setRow ?_ ?_ _) | (with_reducible exact HX.out) | (with_reducible refine Ext.trans ?_ HX.out) | (with_reducible refine Ext.below ?_ (Nat.le_refl _) _) | omega | (simp; done) | (simp; omega)))⟩
theorem rname58_6 (w : World) : Calls Tryz.prog 61 #[.int .i64 6] w fun e w' => e = .returned (.string (nameB 6)) ∧ ∃ n : ExtOf w, w' = n.val := by
  go_enter Tryz.func61, Tryz.ntmps61
  go_wp2_with fail
  go_ret
  exact ⟨rfl, by exact ExtOf.of (by repeat' (first | (with_reducible exact Ext.refl _) | (with_reducible exact ExtOf.ext _) | (with_reducible refine Ext.trans ?_ (ExtOf.ext _)) | (with_reducible refine Ext.alloc ?_ _) | (with_reducible refine Ext.drew ?_) | (with_reducible refine Ext.setCell ?_ ?_ _) | (with_reducible refine Ext.setRow ?_ ?_ _) | (with_reducible exact HX.out) | (with_reducible refine Ext.trans ?_ HX.out) | (with_reducible refine Ext.below ?_ (Nat.le_refl _) _) | omega | (simp; done) | (simp; omega)))⟩
theorem rname58_7 (w : World) : Calls Tryz.prog 61 #[.int .i64 7] w fun e w' => e = .returned (.string (nameB 7)) ∧ ∃ n : ExtOf w, w' = n.val := by
  go_enter Tryz.func61, Tryz.ntmps61
  go_wp2_with fail
  go_ret
  exact ⟨rfl, by exact ExtOf.of (by repeat' (first | (with_reducible exact Ext.refl _) | (with_reducible exact ExtOf.ext _) | (with_reducible refine Ext.trans ?_ (ExtOf.ext _)) | (with_reducible refine Ext.alloc ?_ _) | (with_reducible refine Ext.drew ?_) | (with_reducible refine Ext.setCell ?_ ?_ _) | (with_reducible refine Ext.setRow ?_ ?_ _) | (with_reducible exact HX.out) | (with_reducible refine Ext.trans ?_ HX.out) | (with_reducible refine Ext.below ?_ (Nat.le_refl _) _) | omega | (simp; done) | (simp; omega)))⟩
theorem rname58_8 (w : World) : Calls Tryz.prog 61 #[.int .i64 8] w fun e w' => e = .returned (.string (nameB 8)) ∧ ∃ n : ExtOf w, w' = n.val := by
  go_enter Tryz.func61, Tryz.ntmps61
  go_wp2_with fail
  go_ret
  exact ⟨rfl, by exact ExtOf.of (by repeat' (first | (with_reducible exact Ext.refl _) | (with_reducible exact ExtOf.ext _) | (with_reducible refine Ext.trans ?_ (ExtOf.ext _)) | (with_reducible refine Ext.alloc ?_ _) | (with_reducible refine Ext.drew ?_) | (with_reducible refine Ext.setCell ?_ ?_ _) | (with_reducible refine Ext.setRow ?_ ?_ _) | (with_reducible exact HX.out) | (with_reducible refine Ext.trans ?_ HX.out) | (with_reducible refine Ext.below ?_ (Nat.le_refl _) _) | omega | (simp; done) | (simp; omega)))⟩
theorem rname58_9 (w : World) : Calls Tryz.prog 61 #[.int .i64 9] w fun e w' => e = .returned (.string (nameB 9)) ∧ ∃ n : ExtOf w, w' = n.val := by
  go_enter Tryz.func61, Tryz.ntmps61
  go_wp2_with fail
  go_ret
  exact ⟨rfl, by exact ExtOf.of (by repeat' (first | (with_reducible exact Ext.refl _) | (with_reducible exact ExtOf.ext _) | (with_reducible refine Ext.trans ?_ (ExtOf.ext _)) | (with_reducible refine Ext.alloc ?_ _) | (with_reducible refine Ext.drew ?_) | (with_reducible refine Ext.setCell ?_ ?_ _) | (with_reducible refine Ext.setRow ?_ ?_ _) | (with_reducible exact HX.out) | (with_reducible refine Ext.trans ?_ HX.out) | (with_reducible refine Ext.below ?_ (Nat.le_refl _) _) | omega | (simp; done) | (simp; omega)))⟩
theorem rname58_10 (w : World) : Calls Tryz.prog 61 #[.int .i64 10] w fun e w' => e = .returned (.string (nameB 10)) ∧ ∃ n : ExtOf w, w' = n.val := by
  go_enter Tryz.func61, Tryz.ntmps61
  go_wp2_with fail
  go_ret
  exact ⟨rfl, by exact ExtOf.of (by repeat' (first | (with_reducible exact Ext.refl _) | (with_reducible exact ExtOf.ext _) | (with_reducible refine Ext.trans ?_ (ExtOf.ext _)) | (with_reducible refine Ext.alloc ?_ _) | (with_reducible refine Ext.drew ?_) | (with_reducible refine Ext.setCell ?_ ?_ _) | (with_reducible refine Ext.setRow ?_ ?_ _) | (with_reducible exact HX.out) | (with_reducible refine Ext.trans ?_ HX.out) | (with_reducible refine Ext.below ?_ (Nat.le_refl _) _) | omega | (simp; done) | (simp; omega)))⟩
theorem rname58_11 (w : World) : Calls Tryz.prog 61 #[.int .i64 11] w fun e w' => e = .returned (.string (nameB 11)) ∧ ∃ n : ExtOf w, w' = n.val := by
  go_enter Tryz.func61, Tryz.ntmps61
  go_wp2_with fail
  go_ret
  exact ⟨rfl, by exact ExtOf.of (by repeat' (first | (with_reducible exact Ext.refl _) | (with_reducible exact ExtOf.ext _) | (with_reducible refine Ext.trans ?_ (ExtOf.ext _)) | (with_reducible refine Ext.alloc ?_ _) | (with_reducible refine Ext.drew ?_) | (with_reducible refine Ext.setCell ?_ ?_ _) | (with_reducible refine Ext.setRow ?_ ?_ _) | (with_reducible exact HX.out) | (with_reducible refine Ext.trans ?_ HX.out) | (with_reducible refine Ext.below ?_ (Nat.le_refl _) _) | omega | (simp; done) | (simp; omega)))⟩
theorem rname58_12 (w : World) : Calls Tryz.prog 61 #[.int .i64 12] w fun e w' => e = .returned (.string (nameB 12)) ∧ ∃ n : ExtOf w, w' = n.val := by
  go_enter Tryz.func61, Tryz.ntmps61
  go_wp2_with fail
  go_ret
  exact ⟨rfl, by exact ExtOf.of (by repeat' (first | (with_reducible exact Ext.refl _) | (with_reducible exact ExtOf.ext _) | (with_reducible refine Ext.trans ?_ (ExtOf.ext _)) | (with_reducible refine Ext.alloc ?_ _) | (with_reducible refine Ext.drew ?_) | (with_reducible refine Ext.setCell ?_ ?_ _) | (with_reducible refine Ext.setRow ?_ ?_ _) | (with_reducible exact HX.out) | (with_reducible refine Ext.trans ?_ HX.out) | (with_reducible refine Ext.below ?_ (Nat.le_refl _) _) | omega | (simp; done) | (simp; omega)))⟩
theorem rname58_13 (w : World) : Calls Tryz.prog 61 #[.int .i64 13] w fun e w' => e = .returned (.string (nameB 13)) ∧ ∃ n : ExtOf w, w' = n.val := by
  go_enter Tryz.func61, Tryz.ntmps61
  go_wp2_with fail
  go_ret
  exact ⟨rfl, by exact ExtOf.of (by repeat' (first | (with_reducible exact Ext.refl _) | (with_reducible exact ExtOf.ext _) | (with_reducible refine Ext.trans ?_ (ExtOf.ext _)) | (with_reducible refine Ext.alloc ?_ _) | (with_reducible refine Ext.drew ?_) | (with_reducible refine Ext.setCell ?_ ?_ _) | (with_reducible refine Ext.setRow ?_ ?_ _) | (with_reducible exact HX.out) | (with_reducible refine Ext.trans ?_ HX.out) | (with_reducible refine Ext.below ?_ (Nat.le_refl _) _) | omega | (simp; done) | (simp; omega)))⟩
theorem rname58_14 (w : World) : Calls Tryz.prog 61 #[.int .i64 14] w fun e w' => e = .returned (.string (nameB 14)) ∧ ∃ n : ExtOf w, w' = n.val := by
  go_enter Tryz.func61, Tryz.ntmps61
  go_wp2_with fail
  go_ret
  exact ⟨rfl, by exact ExtOf.of (by repeat' (first | (with_reducible exact Ext.refl _) | (with_reducible exact ExtOf.ext _) | (with_reducible refine Ext.trans ?_ (ExtOf.ext _)) | (with_reducible refine Ext.alloc ?_ _) | (with_reducible refine Ext.drew ?_) | (with_reducible refine Ext.setCell ?_ ?_ _) | (with_reducible refine Ext.setRow ?_ ?_ _) | (with_reducible exact HX.out) | (with_reducible refine Ext.trans ?_ HX.out) | (with_reducible refine Ext.below ?_ (Nat.le_refl _) _) | omega | (simp; done) | (simp; omega)))⟩
theorem rname58_any (k : Int) (h1 : 1 ≤ k) (h2 : k ≤ 14) (w : World) : Calls Tryz.prog 61 #[.int .i64 k] w fun e w' => e = .returned (.string (nameB k)) ∧ ∃ n : ExtOf w, w' = n.val := by
  have : k = 1 ∨ k = 2 ∨ k = 3 ∨ k = 4 ∨ k = 5 ∨ k = 6 ∨ k = 7 ∨ k = 8 ∨ k = 9 ∨ k = 10 ∨ k = 11 ∨ k = 12 ∨ k = 13 ∨ k = 14 := by omega
  rcases this with rfl | rfl | rfl | rfl | rfl | rfl | rfl | rfl | rfl | rfl | rfl | rfl | rfl | rfl
  · exact rname58_1 w
  · exact rname58_2 w
  · exact rname58_3 w
  · exact rname58_4 w
  · exact rname58_5 w
  · exact rname58_6 w
  · exact rname58_7 w
  · exact rname58_8 w
  · exact rname58_9 w
  · exact rname58_10 w
  · exact rname58_11 w
  · exact rname58_12 w
  · exact rname58_13 w
  · exact rname58_14 w
end Go.Proofs.YtjfohapnjnopfaaGreatDoor
end
/-
  Chapter 61: the reference's lines of events, its story.
-/
section
set_option linter.unusedVariables false
set_option linter.unusedSimpArgs false
namespace Go.Proofs.YtjfohapnjnopfaaGreatDoor
open Go.RowKit RepM

attribute [local go_sem] ExtOf.cell ExtOf.frozen Block.cell Block.frozen ExtB.cell ExtB.frozen alloc_cell alloc_frozen
/-- the values of the region that begins a line -/
def rlV (g : Nat) (x : Ev) : Nat → Value
  | 8 => .pointer (some ⟨g, 1, none⟩)
  | 9 => .int .i64 x.at_
  | 10 => .string (cB (timeL x.at_))
  | 11 => .string (cB (timeL x.at_) ++ (⟨#[32]⟩ : ByteArray))
  | 12 => .pointer (some ⟨g, 0, none⟩)
  | 13 => .int .i64 x.kind
  | 14 => .string (nameB x.kind)
  | 15 => .string (cB (timeL x.at_) ++ (⟨#[32]⟩ : ByteArray) ++ nameB x.kind)
  | 3 => .string (cB (timeL x.at_) ++ (⟨#[32]⟩ : ByteArray) ++ nameB x.kind)
  | _ => undef
def rlA (g : Nat) (x : Ev) (d : Nat) (v : Value) : Prop := v = rlV g x d
theorem ba_size (a : ByteArray) : a.data.toList.length = a.size := by simp
theorem word_app (S s : ByteArray) (L : List UInt8) (h : S.data.toList = L) (h0 : ¬ s.size = 0) : (S ++ (⟨#[32]⟩ : ByteArray) ++ s).data.toList = L ++ wordL s := by
  unfold wordL
  rw [if_neg h0, ba_append, ba_append, h]
  simp
set_option maxHeartbeats 1600000 in
set_option maxRecDepth 20000 in
theorem rline_any (x : Ev) (nv : Value) (w : World) (hn : IntS w nv x.n) : Calls Tryz.prog 31 #[.agg (evC x nv)] w fun e w' => e = .returned (.string (cB (lineL x))) ∧ ∃ n : ExtOf w, w' = n.val := by
  obtain ⟨q, c, rfl, hq1, hq2, hq3⟩ := IntS.form hn
  unfold maxLen at hq2
  have HN := Lib.hid hn
  have HCK := Lib.hid (fun W (hx : Ext w W) => rcheck_any x (.slice q x.n.length c) W (hn.ext hx))
  clear hn
  unfold evC at *
  by_cases hok : okEv x = true
  case neg =>
    have HL : Hid (lineL x = []) := Lib.hid (by unfold lineL; rw [if_neg hok])
    have HNK := Lib.hid hok
    clear hok
    go_enter Tryz.func31, Tryz.ntmps31
    go_wp2_with (first | ((with_reducible apply wl_store' lwEv); (· (first | exact wanted_none rfl | exact wanted_some rfl rfl rfl)); (· rfl); (· rfl); (· infer_instance); (· rfl); (· rfl); (· (simp [Value.oneCell', SlT.v])); try simp only [setRow_alloc, setRow_new, setRow_new1, setRow_new2, setRow_new11, setRow_new111]) | ((with_reducible apply wl_load' lwEv); (· (first | exact wanted_none rfl | exact wanted_some rfl rfl rfl)); (· rfl); (· infer_instance); (· rfl)) | (go_at_call 59; refine (HCK.out _ (by repeat' (first | (with_reducible exact Ext.refl _) | (with_reducible exact ExtOf.ext _) | (with_reducible refine Ext.trans ?_ (ExtOf.ext _)) | (with_reducible refine Ext.alloc ?_ _) | (with_reducible refine Ext.drew ?_) | (with_reducible refine Ext.setCell ?_ ?_ _) | (with_reducible refine Ext.setRow ?_ ?_ _) | (with_reducible exact HX.out) | (with_reducible refine Ext.trans ?_ HX.out) | (with_reducible refine Ext.below ?_ (Nat.le_refl _) _) | omega | (simp; done) | (simp; omega)))).mono ?_; rintro en w' ⟨⟨er, rfl, her⟩, n1, rfl⟩; (have q0 : (er != 0) = true := bne_iff_ne.2 (fun h => HNK.out (her.1 h))); clear her))
    go_ret
    exact ⟨by rw [HL.out]; rfl, by exact ExtOf.of (by repeat' (first | (with_reducible exact Ext.refl _) | (with_reducible exact ExtOf.ext _) | (with_reducible refine Ext.trans ?_ (ExtOf.ext _)) | (with_reducible refine Ext.alloc ?_ _) | (with_reducible refine Ext.drew ?_) | (with_reducible refine Ext.setCell ?_ ?_ _) | (with_reducible refine Ext.setRow ?_ ?_ _) | (with_reducible exact HX.out) | (with_reducible refine Ext.trans ?_ HX.out) | (with_reducible refine Ext.below ?_ (Nat.le_refl _) _) | omega | (simp; done) | (simp; omega)))⟩
  have HOK := Lib.hid hok
  clear hok
  have hln := ok_len HOK.out
  have HKD := Lib.hid (ok_parts HOK.out).1
  have HAT := Lib.hid (ok_parts HOK.out).2.1
  have s1 : (cB (timeL x.at_)).size ≤ 21 := by rw [cB_size]; exact time_len HAT.out
  have s2 := name_len x.kind
  have s3 := (ok_item HOK.out).1
  have s4 := (ok_item HOK.out).2
  go_enter Tryz.func31, Tryz.ntmps31
  go_wp2_with (first | ((with_reducible apply wl_store' lwEv); (· (first | exact wanted_none rfl | exact wanted_some rfl rfl rfl)); (· rfl); (· rfl); (· infer_instance); (· rfl); (· rfl); (· (simp [Value.oneCell', SlT.v])); try simp only [setRow_alloc, setRow_new, setRow_new1, setRow_new2, setRow_new11, setRow_new111]) | ((with_reducible apply wl_load' lwEv); (· (first | exact wanted_none rfl | exact wanted_some rfl rfl rfl)); (· rfl); (· infer_instance); (· rfl)) | (go_at_call 59; refine (HCK.out _ (by repeat' (first | (with_reducible exact Ext.refl _) | (with_reducible exact ExtOf.ext _) | (with_reducible refine Ext.trans ?_ (ExtOf.ext _)) | (with_reducible refine Ext.alloc ?_ _) | (with_reducible refine Ext.drew ?_) | (with_reducible refine Ext.setCell ?_ ?_ _) | (with_reducible refine Ext.setRow ?_ ?_ _) | (with_reducible exact HX.out) | (with_reducible refine Ext.trans ?_ HX.out) | (with_reducible refine Ext.below ?_ (Nat.le_refl _) _) | omega | (simp; done) | (simp; omega)))).mono ?_; rintro en w' ⟨⟨er, rfl, her⟩, n1, rfl⟩; (obtain rfl := her.2 HOK.out); clear her))
  obtain ⟨g, hg⟩ : ∃ g, g = w.heap.size := ⟨_, rfl⟩
  have hb1 : Block n1.val g #[.int .i64 x.kind, .int .i64 x.at_, .string x.item, .string x.of, .slice q x.n.length c, .string x.text] := by rw [hg]; infer_instance
  rw [← hg]
  have HX1 : Hid (Ext w n1.val) := Lib.hid (by repeat' (first | (with_reducible exact Ext.refl _) | (with_reducible exact ExtOf.ext _) | (with_reducible refine Ext.trans ?_ (ExtOf.ext _)) | (with_reducible refine Ext.alloc ?_ _) | (with_reducible refine Ext.drew ?_) | (with_reducible refine Ext.setCell ?_ ?_ _) | (with_reducible refine Ext.setRow ?_ ?_ _) | (with_reducible exact HX.out) | (with_reducible refine Ext.trans ?_ HX.out) | (with_reducible refine Ext.below ?_ (Nat.le_refl _) _) | omega | (simp; done) | (simp; omega)))
  have HG := Lib.hid hg
  clear hg
  refine wp_region_soft (rlA g x) (fun _ _ _ => True) (by kernel_rfl) (by kernel_rfl) (by kernel_rfl) (by kernel_rfl) (fun d => ⟨_, rfl⟩) (fun _ _ _ _ _ _ => trivial) ?_
  refine soft_det (d := 8) (V := .pointer (some ⟨g, 1, none⟩)) rfl (by kernel_rfl) (fun v h => h) rfl (fun _ => trivial) (fun W _ _ => by kernel_rfl) ?_
  refine soft_det (d := 9) (V := .int .i64 x.at_) rfl (by kernel_rfl) (fun v h => h) rfl (fun _ => trivial) (fun W hx _ => by have := (hb1.ext (Ext.trans ((Ext.refl _).drew) hx)).cell (i := 1); simp at this; simp [execOp, go_sem, this]) ?_
  refine soft_call (d := 10) (V := .string (cB (timeL x.at_))) (f := 60) (vals := #[.int .i64 x.at_]) rfl (by kernel_rfl) (fun v h => h) rfl (fun _ => trivial) (fun W => by kernel_rfl) (fun W hx _ => rformat_any x.at_ W HAT.out.1 HAT.out.2) ?_
  refine soft_det (d := 11) (V := .string (cB (timeL x.at_) ++ (⟨#[32]⟩ : ByteArray))) rfl (by kernel_rfl) (fun v h => h) rfl (fun _ => trivial) (fun W _ _ => by simp [execOp, go_sem]; omega) ?_
  refine soft_det (d := 12) (V := .pointer (some ⟨g, 0, none⟩)) rfl (by kernel_rfl) (fun v h => h) rfl (fun _ => trivial) (fun W _ _ => by kernel_rfl) ?_
  refine soft_det (d := 13) (V := .int .i64 x.kind) rfl (by kernel_rfl) (fun v h => h) rfl (fun _ => trivial) (fun W hx _ => by have := (hb1.ext (Ext.trans ((Ext.refl _).drew) hx)).cell (i := 0); simp at this; simp [execOp, go_sem, this]) ?_
  refine soft_call (d := 14) (V := .string (nameB x.kind)) (f := 61) (vals := #[.int .i64 x.kind]) rfl (by kernel_rfl) (fun v h => h) rfl (fun _ => trivial) (fun W => by kernel_rfl) (fun W hx _ => rname58_any x.kind HKD.out.1 HKD.out.2 W) ?_
  refine soft_det (d := 15) (V := .string (cB (timeL x.at_) ++ (⟨#[32]⟩ : ByteArray) ++ nameB x.kind)) rfl (by kernel_rfl) (fun v h => h) rfl (fun _ => trivial) (fun W _ _ => by simp [execOp, go_sem]; omega) ?_
  refine soft_det (d := 3) (V := .string (cB (timeL x.at_) ++ (⟨#[32]⟩ : ByteArray) ++ nameB x.kind)) rfl (by kernel_rfl) (fun v h => h) rfl (fun _ => trivial) (fun W _ _ => by kernel_rfl) ?_
  intro W2 hx2
  have hb2 : Block W2 g #[.int .i64 x.kind, .int .i64 x.at_, .string x.item, .string x.of, .slice q x.n.length c, .string x.text] := hb1.ext (Ext.trans ((Ext.refl _).drew) hx2)
  have HX2 : Hid (Ext w W2) := Lib.hid (HX1.out.trans (Ext.trans ((Ext.refl _).drew) hx2))
  simp only [Act.put, List.setIfInBounds_toArray, List.set_cons_succ, List.set_cons_zero]
  obtain ⟨S0, hS0⟩ : ∃ S0 : ByteArray, S0 = cB (timeL x.at_) ++ (⟨#[32]⟩ : ByteArray) ++ nameB x.kind := ⟨_, rfl⟩
  obtain ⟨L0, hL0⟩ : ∃ L0, L0 = timeL x.at_ ++ 32 :: (nameB x.kind).data.toList := ⟨_, rfl⟩
  have HS0 : Hid (S0.data.toList = L0) := Lib.hid (by rw [hS0, hL0, ba_append, ba_append, cB_data]; simp)
  have HL0 := Lib.hid hL0
  have z0 : S0.size ≤ 28 := by
    rw [← ba_size, HS0.out, hL0]
    have := time_len HAT.out
    have := ba_size (nameB x.kind)
    simp only [List.length_append, List.length_cons]
    omega
  rw [← hS0]
  clear hx2 hb1 hS0 hL0 s1 s2
  go_upto_if 18 with fail
  go_cut [3] (fun s3 wx => ∃ S : ByteArray, s3 = .string S ∧ S.data.toList = L0 ++ wordL x.item ∧ wx = W2)
  case first =>
    by_cases h0 : x.item.size = 0
    · rw [show (!x.item.toList.isEmpty) = false from by rw [size_beq, decide_eq_true h0]; rfl]
      have H0 : Hid (wordL x.item = []) := Lib.hid (by unfold wordL; rw [if_pos h0])
      clear h0
      go_wp2_with fail
      go_meet
      exact ⟨S0, rfl, by rw [H0.out, List.append_nil]; exact HS0.out, rfl⟩
    · rw [show (!x.item.toList.isEmpty) = true from by rw [size_beq, decide_eq_false h0]; rfl]
      have H0 := Lib.hid (word_app S0 x.item _ HS0.out h0)
      clear h0
      go_wp2_with fail
      go_meet
      exact ⟨_, rfl, H0.out, rfl⟩
  obtain ⟨S1, rfl, hS1, rfl⟩ := hcut
  rename World => W2
  obtain ⟨L1, hL1⟩ : ∃ L1, L1 = L0 ++ wordL x.item := ⟨_, rfl⟩
  rw [← hL1] at hS1
  have z1 : S1.size ≤ 37 := by
    have h1 := ba_size S0
    have h2 := ba_size S1
    rw [HS0.out] at h1
    rw [hS1, hL1, List.length_append] at h2
    have := word_len x.item
    omega
  have HS1 := Lib.hid hS1
  have HL1 := Lib.hid hL1
  clear hS1 hL1 z0 s3
  go_upto_if 26 with fail
  go_cut [3] (fun s3 wx => ∃ S : ByteArray, s3 = .string S ∧ S.data.toList = L1 ++ wordL x.of ∧ wx = W2)
  case first =>
    by_cases h0 : x.of.size = 0
    · rw [show (!x.of.toList.isEmpty) = false from by rw [size_beq, decide_eq_true h0]; rfl]
      have H0 : Hid (wordL x.of = []) := Lib.hid (by unfold wordL; rw [if_pos h0])
      clear h0
      go_wp2_with fail
      go_meet
      exact ⟨S1, rfl, by rw [H0.out, List.append_nil]; exact HS1.out, rfl⟩
    · rw [show (!x.of.toList.isEmpty) = true from by rw [size_beq, decide_eq_false h0]; rfl]
      have H0 := Lib.hid (word_app S1 x.of _ HS1.out h0)
      clear h0
      go_wp2_with fail
      go_meet
      exact ⟨_, rfl, H0.out, rfl⟩
  obtain ⟨S2, rfl, hS2, rfl⟩ := hcut
  rename World => W2
  obtain ⟨L2, hL2⟩ : ∃ L2, L2 = L1 ++ wordL x.of := ⟨_, rfl⟩
  rw [← hL2] at hS2
  have z2 : L2.length ≤ 46 := by
    have h1 := ba_size S1
    rw [HS1.out] at h1
    rw [hL2, List.length_append]
    have := word_len x.of
    omega
  have HS2 := Lib.hid hS2
  have HLL : Hid (L2 ++ numsL x.n ++ [10] = lineL x) := Lib.hid (by
    unfold lineL
    rw [if_pos HOK.out, hL2, HL1.out, HL0.out])
  have HNM : Hid (∀ k, (numsL (x.n.take k)).length ≤ 9000) := Lib.hid (fun k => by
    have h1 := numsL_len (l := x.n.take k) (fun n hn => by obtain ⟨i, hi, rfl⟩ := List.getElem_of_mem (List.mem_of_mem_take hn); exact ok_num HOK.out hi)
    have h2 : (x.n.take k).length ≤ 600 := by rw [List.length_take]; omega
    omega)
  clear hS2 hL2 z1 s4
  go_wp2_with fail
  go_loopw [3, 4] (fun v3 vi wr => ∃ (S : ByteArray) (k : Nat), k ≤ x.n.length ∧ vi = .int .i64 k ∧ v3 = .string S ∧ S.data.toList = L2 ++ numsL (x.n.take k) ∧ Ext W2 wr) (fun _ i _ => x.n.length - (intOf i).toNat)
  case atStart => exact ⟨S2, 0, by omega, rfl, rfl, by rw [HS2.out, List.take_zero]; simp [numsL], Ext.refl _⟩
  case round =>
    obtain ⟨S, k, hk, rfl, rfl, hS, hx⟩ := hrel
    have HS := Lib.hid hS
    have HX := Lib.hid hx
    have zS : S.size ≤ 9100 := by
      have h1 := ba_size S
      rw [hS, List.length_append] at h1
      have := HNM.out k
      omega
    have hb3 := hb2.ext hx
    clear hS hx
    by_cases hlt : k < x.n.length
    · obtain ⟨bb, off, rfl, hel⟩ := IntS.elem (IntS.ext HN.out (HX2.out.trans HX.out)) hlt
      have obb := Old.of_cell hel
      have hrg := ok_num HOK.out hlt
      have HT := Lib.hid (numsL_take hlt)
      generalize x.n[k] = m at *
      have HD := Lib.hid (fun W => rdigits_any m W (by omega) (by omega))
      obtain ⟨D, hD⟩ : ∃ D : ByteArray, D = ⟨(Lib.itoa m).toArray⟩ := ⟨_, rfl⟩
      have s5 : D.size ≤ 14 := by rw [hD]; exact cB_small m hrg.1 hrg.2
      have HDD : Hid (D.data.toList = Lib.itoa m) := Lib.hid (by rw [hD])
      rw [← hD] at HD
      clear hD
      clear hrg
      go_wp2_with (go_at_call 62; refine (HD.out _).mono ?_; rintro en w' ⟨rfl, rfl⟩)
      go_roundw
      case rel => exact ⟨_, k + 1, by omega, by first | rfl | go_num, rfl, by rw [ba_append, ba_append, HS.out, HT.out, HDD.out]; simp, HX.out⟩
      case measure => simp [intOf]; omega
    · obtain rfl : k = x.n.length := by omega
      have HF : Hid ((S ++ (⟨#[10]⟩ : ByteArray)) = cB (lineL x)) := Lib.hid (Go.WideShapes.bytes_inj (by
        have := HS.out
        rw [List.take_length] at this
        rw [ba_append, this, cB_data, ← HLL.out]))
      go_wp2_with fail
      go_ret
      exact ⟨congrArg (fun s => Ending.returned (.string s)) HF.out, ExtOf.of (HX2.out.trans HX.out)⟩
set_option maxHeartbeats 1600000 in
set_option maxRecDepth 20000 in
theorem rstory_any (l : List EvP) (v : Value) (s : ByteArray) (w : World) (h : EvsS w v l) (hl : l.length ≤ 1000) : Calls Tryz.prog 12 #[v, .string s] w fun e w' => e = .returned (.tuple #[.string (cB (storyL (histOf (evs l) s))), .int .i64 (errOf (evs l) s)]) ∧ ∃ n : ExtOf w, w' = n.val := by
  have HC := Lib.hid (rhistory_any l v s w h hl)
  have hlen := histOf_len (evs l) s
  have hel : (evs l).length = l.length := by simp
  clear h
  by_cases he : errOf (evs l) s = 0
  case neg =>
    have q0 : (errOf (evs l) s != 0) = true := bne_iff_ne.2 he
    have HH : Hid (histOf (evs l) s = []) := Lib.hid (by unfold histOf; rw [if_neg he])
    clear he
    go_enter Tryz.func12, Tryz.ntmps12
    go_wp2_with (go_at_call 9; refine HC.out.mono ?_; rintro en w' ⟨hv, hs, rfl, _, _, n1, rfl⟩)
    go_ret2
    exact ⟨by rw [HH.out]; rfl, by exact ExtOf.of (by repeat' (first | (with_reducible exact Ext.refl _) | (with_reducible exact ExtOf.ext _) | (with_reducible refine Ext.trans ?_ (ExtOf.ext _)) | (with_reducible refine Ext.alloc ?_ _) | (with_reducible refine Ext.drew ?_) | (with_reducible refine Ext.setCell ?_ ?_ _) | (with_reducible refine Ext.setRow ?_ ?_ _) | (with_reducible exact HX.out) | (with_reducible refine Ext.trans ?_ HX.out) | (with_reducible refine Ext.below ?_ (Nat.le_refl _) _) | omega | (simp; done) | (simp; omega)))⟩
  have q0 : (errOf (evs l) s != 0) = false := bne_eq_false_iff_eq.2 he
  have HE := Lib.hid he
  clear he
  go_enter Tryz.func12, Tryz.ntmps12
  go_wp2_with (go_at_call 9; refine HC.out.mono ?_; rintro en w' ⟨hv, hs, rfl, hes, heq, n1, rfl⟩; (have HEV := Lib.hid hes); (have HEQ := Lib.hid heq); (obtain ⟨hq, hc, rfl, hd1, hd2, hd3⟩ := EvsS.form hes); clear hes heq)
  unfold maxLen at hd2
  have HX0 : Hid (Ext w n1.val) := Lib.hid (by repeat' (first | (with_reducible exact Ext.refl _) | (with_reducible exact ExtOf.ext _) | (with_reducible refine Ext.trans ?_ (ExtOf.ext _)) | (with_reducible refine Ext.alloc ?_ _) | (with_reducible refine Ext.drew ?_) | (with_reducible refine Ext.setCell ?_ ?_ _) | (with_reducible refine Ext.setRow ?_ ?_ _) | (with_reducible exact HX.out) | (with_reducible refine Ext.trans ?_ HX.out) | (with_reducible refine Ext.below ?_ (Nat.le_refl _) _) | omega | (simp; done) | (simp; omega)))
  have hhl : hs.length ≤ 1000 := by
    have h1 : (evs hs).length = hs.length := by simp
    rw [HEQ.out] at h1; omega
  generalize n1.val = W0 at *
  clear hel hlen
  go_loopw [8, 9] (fun v8 vi wr => ∃ (S : ByteArray) (k : Nat), k ≤ hs.length ∧ vi = .int .i64 k ∧ v8 = .string S ∧ S.data.toList = storyL ((evs hs).take k) ∧ Ext W0 wr) (fun _ i _ => hs.length - (intOf i).toNat)
  case atStart => exact ⟨_, 0, by omega, rfl, rfl, by simp [storyL], Ext.refl _⟩
  case round =>
    obtain ⟨S, k, hk, rfl, rfl, hS, hx⟩ := hrel
    have HS := Lib.hid hS
    have HX := Lib.hid hx
    have zS : S.size ≤ 10000000 := by
      have h1 := ba_size S
      have h2 := story_le ((evs hs).take k)
      have htk : ((evs hs).take k).length ≤ 1000 := by rw [List.length_take]; simp; omega
      rw [hS] at h1
      omega
    clear hS hx
    by_cases hlt : k < hs.length
    · obtain ⟨b, off, rfl, hr, hin⟩ := EvsS.elem (EvsS.ext HEV.out HX.out) hlt
      have HST := Lib.hid (storyL_take (l := evs hs) (k := k) (by simpa using hlt))
      have hgi : (evs hs)[k]'(by simpa using hlt) = (hs[k]).1 := evs_get (by simpa using hlt)
      rw [hgi] at HST
      obtain ⟨⟨x, sl⟩, he⟩ : ∃ z, z = hs[k] := ⟨_, rfl⟩
      rw [← he] at hr hin HST
      simp only at hin HST
      have HPL := Lib.hid (fun W (hx : Ext wr W) => rline_any x sl.v W (IntS.ext hin hx))
      have HR : Hid (wr.rangeAt b (off + k * 6) [.int .i64 x.kind, .int .i64 x.at_, .string x.item, .string x.of, sl.v, .string x.text]) := Lib.hid hr
      unfold evC at HPL
      obtain ⟨sp, sn, sc⟩ := sl
      simp only [SlT.v] at *
      obtain ⟨LS, hLS⟩ : ∃ LS, LS = cB (lineL x) := ⟨_, rfl⟩
      have hls : LS.size ≤ 10000 := by rw [hLS, cB_size]; exact line_le x
      have HLD : Hid (LS.data.toList = lineL x) := Lib.hid (by rw [hLS, cB_data])
      rw [← hLS] at HPL
      rw [← HLD.out] at HST
      clear hr hin he hgi hLS
      go_wp2_with (first | ((with_reducible refine wl_loadM midEv (Ext.range ?_ (Hid.out HR)) ?_ ?_ ?_ ?_); (· repeat' (first | (with_reducible exact Ext.refl _) | (with_reducible exact ExtOf.ext _) | (with_reducible refine Ext.trans ?_ (ExtOf.ext _)) | (with_reducible refine Ext.alloc ?_ _) | (with_reducible refine Ext.drew ?_) | (with_reducible refine Ext.setCell ?_ ?_ _) | (with_reducible refine Ext.setRow ?_ ?_ _) | (with_reducible exact HX.out) | (with_reducible refine Ext.trans ?_ HX.out) | (with_reducible refine Ext.below ?_ (Nat.le_refl _) _) | omega | (simp; done) | (simp; omega))); (· rfl); (· (first | exact wanted_none rfl | exact wanted_some rfl rfl rfl)); (· rfl)) | (go_at_call 31; with_reducible refine Calls.mono (HPL.out _ (by repeat' (first | (with_reducible exact Ext.refl _) | (with_reducible exact ExtOf.ext _) | (with_reducible refine Ext.trans ?_ (ExtOf.ext _)) | (with_reducible refine Ext.alloc ?_ _) | (with_reducible refine Ext.drew ?_) | (with_reducible refine Ext.setCell ?_ ?_ _) | (with_reducible refine Ext.setRow ?_ ?_ _) | (with_reducible exact HX.out) | (with_reducible refine Ext.trans ?_ HX.out) | (with_reducible refine Ext.below ?_ (Nat.le_refl _) _) | omega | (simp; done) | (simp; omega)))) ?_; rintro en w' ⟨rfl, n2, rfl⟩))
      go_roundw
      case rel => exact ⟨_, k + 1, by omega, by first | rfl | go_num, rfl, by rw [ba_append, HS.out, HST.out], HX.out.trans (by repeat' (first | (with_reducible exact Ext.refl _) | (with_reducible exact ExtOf.ext _) | (with_reducible refine Ext.trans ?_ (ExtOf.ext _)) | (with_reducible refine Ext.alloc ?_ _) | (with_reducible refine Ext.drew ?_) | (with_reducible refine Ext.setCell ?_ ?_ _) | (with_reducible refine Ext.setRow ?_ ?_ _) | (with_reducible exact HX.out) | (with_reducible refine Ext.trans ?_ HX.out) | (with_reducible refine Ext.below ?_ (Nat.le_refl _) _) | omega | (simp; done) | (simp; omega)))⟩
      case measure => simp [intOf]; omega
    · obtain rfl : k = hs.length := by omega
      have HF : Hid (S = cB (storyL (histOf (evs l) s))) := Lib.hid (Go.WideShapes.bytes_inj (by
        have := HS.out
        rw [List.take_of_length_le (by simp)] at this
        rw [this, cB_data, HEQ.out]))
      go_wp2_with fail
      go_ret2
      exact ⟨by rw [HF.out, HE.out]; rfl, ExtOf.of (HX0.out.trans HX.out)⟩
end Go.Proofs.YtjfohapnjnopfaaGreatDoor
end
