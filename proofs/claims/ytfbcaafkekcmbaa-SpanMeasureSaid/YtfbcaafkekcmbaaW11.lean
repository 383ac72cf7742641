/-
  The examples of the chapter: awake returns true.
-/
import Derived.Test.YtfbcaafkekcmbaaW2
import Derived.Test.YtfbcaafkekcmbaaW3
import Derived.Test.YtfbcaafkekcmbaaW8
import Derived.Test.YtfbcaafkekcmbaaW10
import Derived.Test.YtfbcaafkekcmbaaSoft
import Derived.Test.YtfbcaafkekcmbaaM2
namespace Go.Proofs.Ytfbcaafkekcmbaa
open Go.RowKit SpanM

attribute [local go_sem] ExtOf.cell ExtOf.frozen Block.cell Block.frozen ExtB.cell ExtB.frozen alloc_cell alloc_frozen

/-- a slice of a block that is known whole -/
theorem SpS.of_block {w : World} {b off n cap : Nat} {cs : Array Value} {l : List Sp} (hb : Block w b cs) (h : (cs.toList.drop off).take (l.length * 2) = l.flatMap encS) (hn : n = l.length ∧ n ≤ cap) (hc : cap ≤ maxLen) : SpS w (.slice (some ⟨b, off, none⟩) n cap) l := by
  obtain ⟨rfl, hn⟩ := hn
  refine ⟨_, cap, rfl, hn, hc, (fun h => by cases h), fun i x hi => ⟨b, off, rfl, fun j u hj => ?_⟩⟩
  have h1 := flatMap_get encS_len hi hj
  rw [← h, List.getElem?_take] at h1
  split at h1
  · rw [List.getElem?_drop] at h1
    rw [Block.cell (h := hb)]
    simpa using h1
  · cases h1
def awT (b : Nat) : Nat → Option Value
  | 0 => some (.bool true)
  | 26 => some (.agg #[.int .i64 (-2), .int .i64 3])
  | 27 => some (.int .i64 5)
  | 28 => some (.bool true)
  | 29 => some (.bool true)
  | 30 => some (.agg #[.int .i64 1, .int .i64 5])
  | 31 => some (.agg #[.int .i64 3, .int .i64 9])
  | 32 => some (.agg #[.int .i64 3, .int .i64 5])
  | 33 => some (.agg #[.int .i64 3, .int .i64 5])
  | 34 => some (.bool true)
  | 35 => some (.bool true)
  | 36 => some (.bool true)
  | 37 => some (.slice (some ⟨b, 0, none⟩) 5 5)
  | 39 => some (.agg #[.int .i64 1, .int .i64 4])
  | 40 => some (.agg #[.int .i64 5, .int .i64 9])
  | 42 => some (.bool true)
  | 43 => some (.bool true)
  | 44 => some (.bool true)
  | 45 => some (.slice (some ⟨b, 0, none⟩) 5 5)
  | 46 => some (.bool false)
  | 47 => some (.bool true)
  | 48 => some (.bool true)
  | 49 => some (.bool true)
  | 50 => some (.bool true)
  | 51 => some (.bool true)
  | 52 => some (.bool true)
  | 53 => some (.agg #[.int .i64 0, .int .i64 10])
  | 55 => some (.agg #[.int .i64 3, .int .i64 5])
  | 58 => some (.agg #[.int .i64 0, .int .i64 3])
  | 59 => some (.agg #[.int .i64 5, .int .i64 10])
  | 61 => some (.bool true)
  | 62 => some (.bool true)
  | 63 => some (.bool true)
  | 64 => some (.agg #[.int .i64 0, .int .i64 4])
  | 65 => some (.agg #[.int .i64 6, .int .i64 9])
  | 67 => some (.agg #[.int .i64 2, .int .i64 7])
  | 70 => some (.agg #[.int .i64 2, .int .i64 4])
  | 71 => some (.agg #[.int .i64 6, .int .i64 7])
  | 73 => some (.bool true)
  | 74 => some (.bool true)
  | 75 => some (.bool true)
  | 76 => some (.agg #[.int .i64 0, .int .i64 4])
  | 77 => some (.agg #[.int .i64 2, .int .i64 6])
  | 79 => some (.int .i64 6)
  | 80 => some (.bool true)
  | 81 => some (.bool true)
  | 82 => some (.bool true)
  | 83 => some (.slice (some ⟨b, 0, none⟩) 5 5)
  | 84 => some (.slice (some ⟨b, 0, none⟩) 1 5)
  | 85 => some (.slice (some ⟨b, 0, none⟩) 5 5)
  | 86 => some (.slice (some ⟨b, 2, none⟩) 1 4)
  | 88 => some (.int .i64 2)
  | 89 => some (.bool true)
  | 90 => some (.bool true)
  | 91 => some (.bool true)
  | 92 => some (.slice (some ⟨b, 0, none⟩) 5 5)
  | 93 => some (.bool true)
  | 94 => some (.bool true)
  | 95 => some (.bool true)
  | 96 => some (.slice (some ⟨b, 0, none⟩) 5 5)
  | 97 => some (.bool false)
  | 98 => some (.bool true)
  | 99 => some (.bool true)
  | 100 => some (.bool true)
  | 101 => some (.agg #[.int .i64 5, .int .i64 8])
  | 102 => some (.agg #[.int .i64 5, .int .i64 8])
  | 103 => some (.bool true)
  | 104 => some (.bool true)
  | 105 => some (.bool true)
  | 106 => some (.bool true)
  | 107 => some (.bool true)
  | 108 => some (.bool true)
  | 109 => some (.bool false)
  | 110 => some (.bool true)
  | 111 => some (.bool true)
  | _ => none
def awS : Nat → Option (List Sp)
  | 38 => some [(1, 4), (5, 9)]
  | 41 => some [(1, 4), (5, 9)]
  | 54 => some [(0, 10)]
  | 56 => some [(3, 5)]
  | 57 => some [(0, 3), (5, 10)]
  | 60 => some [(0, 3), (5, 10)]
  | 66 => some [(0, 4), (6, 9)]
  | 68 => some [(2, 7)]
  | 69 => some [(2, 4), (6, 7)]
  | 72 => some [(2, 4), (6, 7)]
  | 78 => some [(0, 4), (2, 6)]
  | 87 => some [(1, 3), (5, 8)]
  | _ => none
abbrev L5 : List Sp := [(5, 8), (1, 3), (7, 7), (3, 4), (6, 9)]
def awA (b : Nat) (d : Nat) (v : Value) : Prop := match awT b d with | some V => v = V | none => True
def awF (b : Nat) (d : Nat) (v : Value) (w : World) : Prop := match awS d with | some l => SpS w v l | none => awA b d v
theorem awA_some (b d : Nat) : ∃ v, awA b d v := by
  unfold awA
  cases awT b d with
  | none => exact ⟨undef, trivial⟩
  | some V => exact ⟨V, rfl⟩
theorem awF_keep (b d : Nat) (v : Value) (w w' : World) (h : awF b d v w) (hx : Ext w w') : awF b d v w' := by
  unfold awF at *
  cases hs : awS d with
  | none => rw [hs] at h; exact h
  | some l => rw [hs] at h; exact SliceOf.ext h hx

theorem fresh2 {R : World → Prop} {w w0 : World} (b0 b1 : Nat) {c0 c1 : Array Value} (h0 : Block w b0 c0) (h1 : Block w b1 c1) (hx : Ext w0 w) (h : ∀ W, Block W b0 c0 → Block W b1 c1 → Hid (Ext w0 W) → R W) : R w := h w h0 h1 hx

set_option maxRecDepth 100000 in
set_option maxHeartbeats 6400000 in
theorem awake_any (w : World) : Calls Try.prog 15 #[] w fun e w' => e = .returned (.bool true) ∧ ∃ n : ExtOf w, w' = n.val := by
  go_enter Try.func15, Try.ntmps15
  go_wp2_with fail
  refine (longest_any (some ⟨w.heap.size + 1, 0, none⟩) 3 [(0, 2), (5, 8), (10, 13)] _ (SpS.of_block (off := 0) inferInstance rfl (by simp) (by unfold maxLen; omega)) (by simp) (by intro s hs; simp at hs; rcases hs with rfl | rfl | rfl <;> (unfold In; simp))).mono ?_
  rintro e w' ⟨rfl, n1, rfl⟩
  have x1 := x_long
  have x1' : decide (0 < SpanM.len (5, 8)) = true := by decide
  rw [x1, x1']
  clear x1 x1'
  go_wp2_with fail
  refine (longest_any (some ⟨w.heap.size, 4, none⟩) 3 [(7, 7)] _ (SpS.of_block (off := 4) inferInstance rfl (by simp) (by unfold maxLen; omega)) (by simp) (by intro s hs; simp at hs; subst hs; (unfold In; simp))).mono ?_
  rintro e w' ⟨rfl, n2, rfl⟩
  have x1 := x_long2
  have x1' : decide (0 < SpanM.len (0, 0)) = false := by decide
  rw [x1, x1']
  clear x1 x1'
  go_wp2_with fail
  refine fresh2 (R := fun W => Code.wp _ _ _ _ W) (w0 := w) w.heap.size n1.val.heap.size inferInstance inferInstance (by repeat' (first | (with_reducible exact Ext.refl _) | (with_reducible exact ExtOf.ext _) | (with_reducible refine Ext.trans ?_ (ExtOf.ext _)) | (with_reducible refine Ext.alloc ?_ _) | (with_reducible refine Ext.drew ?_) | (with_reducible refine Ext.setCell ?_ ?_ _) | (with_reducible refine Ext.setRow ?_ ?_ _) | (with_reducible exact HX.out) | (with_reducible refine Ext.trans ?_ HX.out) | (with_reducible refine Ext.below ?_ (Nat.le_refl _) _) | (simp; done) | (simp; omega))) ?_
  intro W0 hB1 hB2 HX
  generalize n2.val.heap.size = b3 at *
  clear n2
  generalize n1.val.heap.size = b2 at hB2 ⊢
  generalize w.heap.size = b at hB1 ⊢
  have hL : ∀ W', Ext W0.drew W' → SpS W' (.slice (some ⟨b, 0, none⟩) 5 5) L5 := fun W' hx => SpS.of_block (off := 0) (hB1.ext (Ext.trans (Ext.drew (Ext.refl _)) hx)) rfl (by simp) (by unfold maxLen; omega)
  have hL1 : ∀ W', Ext W0.drew W' → SpS W' (.slice (some ⟨b, 0, none⟩) 1 5) [(5, 8)] := fun W' hx => SpS.of_block (off := 0) (hB1.ext (Ext.trans (Ext.drew (Ext.refl _)) hx)) rfl (by simp) (by unfold maxLen; omega)
  have hL2 : ∀ W', Ext W0.drew W' → SpS W' (.slice (some ⟨b, 2, none⟩) 1 4) [(1, 3)] := fun W' hx => SpS.of_block (off := 2) (hB1.ext (Ext.trans (Ext.drew (Ext.refl _)) hx)) rfl (by simp) (by unfold maxLen; omega)
  replace hB2 : Block W0.drew b2 #[.int .i64 5, .int .i64 8] := inferInstance
  refine wp_region_soft (awA b) (awF b) (by kernel_rfl) (by kernel_rfl) (by kernel_rfl) (by kernel_rfl) (awA_some b) (awF_keep b) ?_
  refine soft_det (d := 26) (V := .agg #[.int .i64 (-2), .int .i64 3]) rfl (by kernel_rfl) (fun v h => h) rfl (fun _ => rfl) (fun W _ _ => by kernel_rfl) ?_
  refine soft_call (d := 27) (V := .int .i64 5) (f := 11) (vals := #[.agg #[.int .i64 (-2), .int .i64 3]]) rfl (by kernel_rfl) (fun v h => h) rfl (fun _ => rfl) (fun W => by kernel_rfl) (fun W hx hk => by have h := len_any (-2, 3) W (by unfold In; simp); rw [x_len] at h; exact h) ?_
  refine soft_det (d := 28) (V := .bool true) rfl (by kernel_rfl) (fun v h => h) rfl (fun _ => rfl) (fun W _ _ => by kernel_rfl) ?_
  refine soft_det (d := 29) (V := .bool true) rfl (by kernel_rfl) (fun v h => h) rfl (fun _ => rfl) (fun W _ _ => by kernel_rfl) ?_
  refine soft_det (d := 30) (V := .agg #[.int .i64 1, .int .i64 5]) rfl (by kernel_rfl) (fun v h => h) rfl (fun _ => rfl) (fun W _ _ => by kernel_rfl) ?_
  refine soft_det (d := 31) (V := .agg #[.int .i64 3, .int .i64 9]) rfl (by kernel_rfl) (fun v h => h) rfl (fun _ => rfl) (fun W _ _ => by kernel_rfl) ?_
  refine soft_call (d := 32) (V := .agg #[.int .i64 3, .int .i64 5]) (f := 13) (vals := #[.agg #[.int .i64 1, .int .i64 5], .agg #[.int .i64 3, .int .i64 9]]) rfl (by kernel_rfl) (fun v h => h) rfl (fun _ => rfl) (fun W => by kernel_rfl) (fun W hx hk => by have h := meet_any (1, 5) (3, 9) W; rw [x_meet] at h; exact h) ?_
  refine soft_det (d := 33) (V := .agg #[.int .i64 3, .int .i64 5]) rfl (by kernel_rfl) (fun v h => h) rfl (fun _ => rfl) (fun W _ _ => by kernel_rfl) ?_
  refine soft_det (d := 34) (V := .bool true) rfl (by kernel_rfl) (fun v h => h) rfl (fun _ => rfl) (fun W _ _ => by kernel_rfl) ?_
  refine soft_det (d := 35) (V := .bool true) rfl (by kernel_rfl) (fun v h => h) rfl (fun _ => rfl) (fun W _ _ => by kernel_rfl) ?_
  refine soft_det (d := 36) (V := .bool true) rfl (by kernel_rfl) (fun v h => h) rfl (fun _ => rfl) (fun W _ _ => by kernel_rfl) ?_
  refine soft_det (d := 37) (V := .slice (some ⟨b, 0, none⟩) 5 5) rfl (by kernel_rfl) (fun v h => h) rfl (fun _ => rfl) (fun W _ _ => by kernel_rfl) ?_
  refine soft_callS (d := 38) (f := 18) (vals := #[.slice (some ⟨b, 0, none⟩) 5 5]) rfl (by kernel_rfl) (fun _ => trivial) (fun W => by kernel_rfl) (fun W hx hk => by have h := canon_any (some ⟨b, 0, none⟩) 5 L5 W (hL W hx) (by simp); rw [x_canon] at h; exact h.mono fun e w' ⟨q, c, he, hs, _, n, hn⟩ => ⟨_, he, hs, n, hn⟩) ?_
  intro v38
  refine soft_det (d := 39) (V := .agg #[.int .i64 1, .int .i64 4]) rfl (by kernel_rfl) (fun v h => h) rfl (fun _ => rfl) (fun W _ _ => by kernel_rfl) ?_
  refine soft_det (d := 40) (V := .agg #[.int .i64 5, .int .i64 9]) rfl (by kernel_rfl) (fun v h => h) rfl (fun _ => rfl) (fun W _ _ => by kernel_rfl) ?_
  refine soft_new (d := 41) rfl (by kernel_rfl) (fun _ => trivial) (fun W hx => ⟨.slice (some ⟨W.heap.size, 0, none⟩) 2 2, W.alloc (.cells #[.int .i64 1, .int .i64 4, .int .i64 5, .int .i64 9] 23), by kernel_rfl, Ext.alloc (Ext.refl _) _, SpS.of_block (off := 0) (Block.new _ _ _) rfl (by simp) (by unfold maxLen; omega)⟩) ?_
  intro v41
  refine soft_call (d := 42) (V := .bool true) (f := 17) (vals := #[v38, v41]) rfl (by kernel_rfl) (fun v h => h) rfl (fun _ => rfl) (fun W => by kernel_rfl) (fun W hx hk => by have f1 : awF b 38 v38 W := known_get (n := 12) hk (by kernel_rfl) (by kernel_rfl) (by kernel_rfl); change SpS W v38 [(1, 4), (5, 9)] at f1; have f2 : awF b 41 v41 W := known_get (n := 15) hk (by kernel_rfl) (by kernel_rfl) (by kernel_rfl); change SpS W v41 [(1, 4), (5, 9)] at f2; obtain ⟨p1, c1, e1, _⟩ := SpS.one f1; obtain ⟨p2, c2, e2, _⟩ := SpS.one f2; rw [e1] at f1 ⊢; rw [e2] at f2 ⊢; exact same_any p1 p2 c1 c2 _ _ W f1 f2 (by simp) (by simp)) ?_
  refine soft_det (d := 43) (V := .bool true) rfl (by kernel_rfl) (fun v h => h) rfl (fun _ => rfl) (fun W _ _ => by kernel_rfl) ?_
  refine soft_det (d := 44) (V := .bool true) rfl (by kernel_rfl) (fun v h => h) rfl (fun _ => rfl) (fun W _ _ => by kernel_rfl) ?_
  refine soft_det (d := 45) (V := .slice (some ⟨b, 0, none⟩) 5 5) rfl (by kernel_rfl) (fun v h => h) rfl (fun _ => rfl) (fun W _ _ => by kernel_rfl) ?_
  refine soft_call (d := 46) (V := .bool false) (f := 20) (vals := #[.slice (some ⟨b, 0, none⟩) 5 5]) rfl (by kernel_rfl) (fun v h => h) rfl (fun _ => rfl) (fun W => by kernel_rfl) (fun W hx hk => by have h := is_any (some ⟨b, 0, none⟩) 5 L5 W (hL W hx) (by simp); rw [x_is] at h; exact h) ?_
  refine soft_det (d := 47) (V := .bool true) rfl (by kernel_rfl) (fun v h => h) rfl (fun _ => rfl) (fun W _ _ => by kernel_rfl) ?_
  refine soft_det (d := 48) (V := .bool true) rfl (by kernel_rfl) (fun v h => h) rfl (fun _ => rfl) (fun W _ _ => by kernel_rfl) ?_
  refine soft_det (d := 49) (V := .bool true) rfl (by kernel_rfl) (fun v h => h) rfl (fun _ => rfl) (fun W _ _ => by kernel_rfl) ?_
  refine soft_call (d := 50) (V := .bool true) (f := 20) (vals := #[.slice none 0 0]) rfl (by kernel_rfl) (fun v h => h) rfl (fun _ => rfl) (fun W => by kernel_rfl) (fun W hx hk => by have h := is_any none 0 [] W (SliceOf.nil W) (by simp); exact h) ?_
  refine soft_det (d := 51) (V := .bool true) rfl (by kernel_rfl) (fun v h => h) rfl (fun _ => rfl) (fun W _ _ => by kernel_rfl) ?_
  refine soft_det (d := 52) (V := .bool true) rfl (by kernel_rfl) (fun v h => h) rfl (fun _ => rfl) (fun W _ _ => by kernel_rfl) ?_
  refine soft_det (d := 53) (V := .agg #[.int .i64 0, .int .i64 10]) rfl (by kernel_rfl) (fun v h => h) rfl (fun _ => rfl) (fun W _ _ => by kernel_rfl) ?_
  refine soft_new (d := 54) rfl (by kernel_rfl) (fun _ => trivial) (fun W hx => ⟨.slice (some ⟨W.heap.size, 0, none⟩) 1 1, W.alloc (.cells #[.int .i64 0, .int .i64 10] 23), by kernel_rfl, Ext.alloc (Ext.refl _) _, SpS.of_block (off := 0) (Block.new _ _ _) rfl (by simp) (by unfold maxLen; omega)⟩) ?_
  intro v54
  refine soft_det (d := 55) (V := .agg #[.int .i64 3, .int .i64 5]) rfl (by kernel_rfl) (fun v h => h) rfl (fun _ => rfl) (fun W _ _ => by kernel_rfl) ?_
  refine soft_new (d := 56) rfl (by kernel_rfl) (fun _ => trivial) (fun W hx => ⟨.slice (some ⟨W.heap.size, 0, none⟩) 1 1, W.alloc (.cells #[.int .i64 3, .int .i64 5] 23), by kernel_rfl, Ext.alloc (Ext.refl _) _, SpS.of_block (off := 0) (Block.new _ _ _) rfl (by simp) (by unfold maxLen; omega)⟩) ?_
  intro v56
  refine soft_callS (d := 57) (f := 26) (vals := #[v54, v56]) rfl (by kernel_rfl) (fun _ => trivial) (fun W => by kernel_rfl) (fun W hx hk => by have f1 : awF b 54 v54 W := known_get (n := 28) hk (by kernel_rfl) (by kernel_rfl) (by kernel_rfl); change SpS W v54 [(0, 10)] at f1; have f2 : awF b 56 v56 W := known_get (n := 30) hk (by kernel_rfl) (by kernel_rfl) (by kernel_rfl); change SpS W v56 [(3, 5)] at f2; obtain ⟨p1, c1, e1, _⟩ := SpS.one f1; obtain ⟨p2, c2, e2, _⟩ := SpS.one f2; rw [e1] at f1 ⊢; rw [e2] at f2 ⊢; have h := minus_any p1 p2 c1 c2 _ _ W f1 f2 (by simp) (by simp); rw [x_minus] at h; exact h.mono fun e w' ⟨q, c, he, hs, _, n, hn⟩ => ⟨_, he, hs, n, hn⟩) ?_
  intro v57
  refine soft_det (d := 58) (V := .agg #[.int .i64 0, .int .i64 3]) rfl (by kernel_rfl) (fun v h => h) rfl (fun _ => rfl) (fun W _ _ => by kernel_rfl) ?_
  refine soft_det (d := 59) (V := .agg #[.int .i64 5, .int .i64 10]) rfl (by kernel_rfl) (fun v h => h) rfl (fun _ => rfl) (fun W _ _ => by kernel_rfl) ?_
  refine soft_new (d := 60) rfl (by kernel_rfl) (fun _ => trivial) (fun W hx => ⟨.slice (some ⟨W.heap.size, 0, none⟩) 2 2, W.alloc (.cells #[.int .i64 0, .int .i64 3, .int .i64 5, .int .i64 10] 23), by kernel_rfl, Ext.alloc (Ext.refl _) _, SpS.of_block (off := 0) (Block.new _ _ _) rfl (by simp) (by unfold maxLen; omega)⟩) ?_
  intro v60
  refine soft_call (d := 61) (V := .bool true) (f := 17) (vals := #[v57, v60]) rfl (by kernel_rfl) (fun v h => h) rfl (fun _ => rfl) (fun W => by kernel_rfl) (fun W hx hk => by have f1 : awF b 57 v57 W := known_get (n := 31) hk (by kernel_rfl) (by kernel_rfl) (by kernel_rfl); change SpS W v57 [(0, 3), (5, 10)] at f1; have f2 : awF b 60 v60 W := known_get (n := 34) hk (by kernel_rfl) (by kernel_rfl) (by kernel_rfl); change SpS W v60 [(0, 3), (5, 10)] at f2; obtain ⟨p1, c1, e1, _⟩ := SpS.one f1; obtain ⟨p2, c2, e2, _⟩ := SpS.one f2; rw [e1] at f1 ⊢; rw [e2] at f2 ⊢; exact same_any p1 p2 c1 c2 _ _ W f1 f2 (by simp) (by simp)) ?_
  refine soft_det (d := 62) (V := .bool true) rfl (by kernel_rfl) (fun v h => h) rfl (fun _ => rfl) (fun W _ _ => by kernel_rfl) ?_
  refine soft_det (d := 63) (V := .bool true) rfl (by kernel_rfl) (fun v h => h) rfl (fun _ => rfl) (fun W _ _ => by kernel_rfl) ?_
  refine soft_det (d := 64) (V := .agg #[.int .i64 0, .int .i64 4]) rfl (by kernel_rfl) (fun v h => h) rfl (fun _ => rfl) (fun W _ _ => by kernel_rfl) ?_
  refine soft_det (d := 65) (V := .agg #[.int .i64 6, .int .i64 9]) rfl (by kernel_rfl) (fun v h => h) rfl (fun _ => rfl) (fun W _ _ => by kernel_rfl) ?_
  refine soft_new (d := 66) rfl (by kernel_rfl) (fun _ => trivial) (fun W hx => ⟨.slice (some ⟨W.heap.size, 0, none⟩) 2 2, W.alloc (.cells #[.int .i64 0, .int .i64 4, .int .i64 6, .int .i64 9] 23), by kernel_rfl, Ext.alloc (Ext.refl _) _, SpS.of_block (off := 0) (Block.new _ _ _) rfl (by simp) (by unfold maxLen; omega)⟩) ?_
  intro v66
  refine soft_det (d := 67) (V := .agg #[.int .i64 2, .int .i64 7]) rfl (by kernel_rfl) (fun v h => h) rfl (fun _ => rfl) (fun W _ _ => by kernel_rfl) ?_
  refine soft_new (d := 68) rfl (by kernel_rfl) (fun _ => trivial) (fun W hx => ⟨.slice (some ⟨W.heap.size, 0, none⟩) 1 1, W.alloc (.cells #[.int .i64 2, .int .i64 7] 23), by kernel_rfl, Ext.alloc (Ext.refl _) _, SpS.of_block (off := 0) (Block.new _ _ _) rfl (by simp) (by unfold maxLen; omega)⟩) ?_
  intro v68
  refine soft_callS (d := 69) (f := 24) (vals := #[v66, v68]) rfl (by kernel_rfl) (fun _ => trivial) (fun W => by kernel_rfl) (fun W hx hk => by have f1 : awF b 66 v66 W := known_get (n := 40) hk (by kernel_rfl) (by kernel_rfl) (by kernel_rfl); change SpS W v66 [(0, 4), (6, 9)] at f1; have f2 : awF b 68 v68 W := known_get (n := 42) hk (by kernel_rfl) (by kernel_rfl) (by kernel_rfl); change SpS W v68 [(2, 7)] at f2; obtain ⟨p1, c1, e1, _⟩ := SpS.one f1; obtain ⟨p2, c2, e2, _⟩ := SpS.one f2; rw [e1] at f1 ⊢; rw [e2] at f2 ⊢; have h := common_any p1 p2 c1 c2 _ _ W f1 f2 (by simp) (by simp); rw [x_common] at h; exact h.mono fun e w' ⟨q, c, he, hs, _, n, hn⟩ => ⟨_, he, hs, n, hn⟩) ?_
  intro v69
  refine soft_det (d := 70) (V := .agg #[.int .i64 2, .int .i64 4]) rfl (by kernel_rfl) (fun v h => h) rfl (fun _ => rfl) (fun W _ _ => by kernel_rfl) ?_
  refine soft_det (d := 71) (V := .agg #[.int .i64 6, .int .i64 7]) rfl (by kernel_rfl) (fun v h => h) rfl (fun _ => rfl) (fun W _ _ => by kernel_rfl) ?_
  refine soft_new (d := 72) rfl (by kernel_rfl) (fun _ => trivial) (fun W hx => ⟨.slice (some ⟨W.heap.size, 0, none⟩) 2 2, W.alloc (.cells #[.int .i64 2, .int .i64 4, .int .i64 6, .int .i64 7] 23), by kernel_rfl, Ext.alloc (Ext.refl _) _, SpS.of_block (off := 0) (Block.new _ _ _) rfl (by simp) (by unfold maxLen; omega)⟩) ?_
  intro v72
  refine soft_call (d := 73) (V := .bool true) (f := 17) (vals := #[v69, v72]) rfl (by kernel_rfl) (fun v h => h) rfl (fun _ => rfl) (fun W => by kernel_rfl) (fun W hx hk => by have f1 : awF b 69 v69 W := known_get (n := 43) hk (by kernel_rfl) (by kernel_rfl) (by kernel_rfl); change SpS W v69 [(2, 4), (6, 7)] at f1; have f2 : awF b 72 v72 W := known_get (n := 46) hk (by kernel_rfl) (by kernel_rfl) (by kernel_rfl); change SpS W v72 [(2, 4), (6, 7)] at f2; obtain ⟨p1, c1, e1, _⟩ := SpS.one f1; obtain ⟨p2, c2, e2, _⟩ := SpS.one f2; rw [e1] at f1 ⊢; rw [e2] at f2 ⊢; exact same_any p1 p2 c1 c2 _ _ W f1 f2 (by simp) (by simp)) ?_
  refine soft_det (d := 74) (V := .bool true) rfl (by kernel_rfl) (fun v h => h) rfl (fun _ => rfl) (fun W _ _ => by kernel_rfl) ?_
  refine soft_det (d := 75) (V := .bool true) rfl (by kernel_rfl) (fun v h => h) rfl (fun _ => rfl) (fun W _ _ => by kernel_rfl) ?_
  refine soft_det (d := 76) (V := .agg #[.int .i64 0, .int .i64 4]) rfl (by kernel_rfl) (fun v h => h) rfl (fun _ => rfl) (fun W _ _ => by kernel_rfl) ?_
  refine soft_det (d := 77) (V := .agg #[.int .i64 2, .int .i64 6]) rfl (by kernel_rfl) (fun v h => h) rfl (fun _ => rfl) (fun W _ _ => by kernel_rfl) ?_
  refine soft_new (d := 78) rfl (by kernel_rfl) (fun _ => trivial) (fun W hx => ⟨.slice (some ⟨W.heap.size, 0, none⟩) 2 2, W.alloc (.cells #[.int .i64 0, .int .i64 4, .int .i64 2, .int .i64 6] 23), by kernel_rfl, Ext.alloc (Ext.refl _) _, SpS.of_block (off := 0) (Block.new _ _ _) rfl (by simp) (by unfold maxLen; omega)⟩) ?_
  intro v78
  refine soft_call (d := 79) (V := .int .i64 6) (f := 30) (vals := #[v78]) rfl (by kernel_rfl) (fun v h => h) rfl (fun _ => rfl) (fun W => by kernel_rfl) (fun W hx hk => by have f1 : awF b 78 v78 W := known_get (n := 52) hk (by kernel_rfl) (by kernel_rfl) (by kernel_rfl); change SpS W v78 [(0, 4), (2, 6)] at f1; obtain ⟨p1, c1, e1, _⟩ := SpS.one f1; rw [e1] at f1 ⊢; have h := total_any p1 c1 _ W f1 (by simp) (by intro s hs; simp at hs; rcases hs with rfl | rfl <;> (unfold In; simp)); rw [x_total] at h; exact h) ?_
  refine soft_det (d := 80) (V := .bool true) rfl (by kernel_rfl) (fun v h => h) rfl (fun _ => rfl) (fun W _ _ => by kernel_rfl) ?_
  refine soft_det (d := 81) (V := .bool true) rfl (by kernel_rfl) (fun v h => h) rfl (fun _ => rfl) (fun W _ _ => by kernel_rfl) ?_
  refine soft_det (d := 82) (V := .bool true) rfl (by kernel_rfl) (fun v h => h) rfl (fun _ => rfl) (fun W _ _ => by kernel_rfl) ?_
  refine soft_det (d := 83) (V := .slice (some ⟨b, 0, none⟩) 5 5) rfl (by kernel_rfl) (fun v h => h) rfl (fun _ => rfl) (fun W _ _ => by kernel_rfl) ?_
  refine soft_det (d := 84) (V := .slice (some ⟨b, 0, none⟩) 1 5) rfl (by kernel_rfl) (fun v h => h) rfl (fun _ => rfl) (fun W _ _ => by kernel_rfl) ?_
  refine soft_det (d := 85) (V := .slice (some ⟨b, 0, none⟩) 5 5) rfl (by kernel_rfl) (fun v h => h) rfl (fun _ => rfl) (fun W _ _ => by kernel_rfl) ?_
  refine soft_det (d := 86) (V := .slice (some ⟨b, 2, none⟩) 1 4) rfl (by kernel_rfl) (fun v h => h) rfl (fun _ => rfl) (fun W _ _ => by kernel_rfl) ?_
  refine soft_callS (d := 87) (f := 22) (vals := #[.slice (some ⟨b, 0, none⟩) 1 5, .slice (some ⟨b, 2, none⟩) 1 4]) rfl (by kernel_rfl) (fun _ => trivial) (fun W => by kernel_rfl) (fun W hx hk => by have h := union_any (some ⟨b, 0, none⟩) (some ⟨b, 2, none⟩) 5 4 [(5, 8)] [(1, 3)] W (hL1 W hx) (hL2 W hx) (by simp) (by simp) (by simp); rw [show ([(5, 8)] ++ [(1, 3)] : List Sp) = [(5, 8), (1, 3)] from rfl, x_union] at h; exact h.mono fun e w' ⟨q, c, he, hs, _, n, hn⟩ => ⟨_, he, hs, n, hn⟩) ?_
  intro v87
  refine soft_det (d := 88) (V := .int .i64 2) rfl (by kernel_rfl) (fun v h => h) rfl (fun _ => rfl) (fun W hx hk => by have f1 : awF b 87 v87 W := known_get (n := 61) hk (by kernel_rfl) (by kernel_rfl) (by kernel_rfl); change SpS W v87 [(1, 3), (5, 8)] at f1; obtain ⟨p1, c1, e1, _⟩ := SpS.one f1; subst e1; show (execOp _ _).run _ _ = _; kernel_rfl) ?_
  refine soft_det (d := 89) (V := .bool true) rfl (by kernel_rfl) (fun v h => h) rfl (fun _ => rfl) (fun W _ _ => by kernel_rfl) ?_
  refine soft_det (d := 90) (V := .bool true) rfl (by kernel_rfl) (fun v h => h) rfl (fun _ => rfl) (fun W _ _ => by kernel_rfl) ?_
  refine soft_det (d := 91) (V := .bool true) rfl (by kernel_rfl) (fun v h => h) rfl (fun _ => rfl) (fun W _ _ => by kernel_rfl) ?_
  refine soft_det (d := 92) (V := .slice (some ⟨b, 0, none⟩) 5 5) rfl (by kernel_rfl) (fun v h => h) rfl (fun _ => rfl) (fun W _ _ => by kernel_rfl) ?_
  refine soft_call (d := 93) (V := .bool true) (f := 32) (vals := #[.slice (some ⟨b, 0, none⟩) 5 5, .int .i64 8]) rfl (by kernel_rfl) (fun v h => h) rfl (fun _ => rfl) (fun W => by kernel_rfl) (fun W hx hk => by have h := has_any (some ⟨b, 0, none⟩) 5 L5 8 W (hL W hx) (by simp); rw [x_has8] at h; exact h) ?_
  refine soft_det (d := 94) (V := .bool true) rfl (by kernel_rfl) (fun v h => h) rfl (fun _ => rfl) (fun W _ _ => by kernel_rfl) ?_
  refine soft_det (d := 95) (V := .bool true) rfl (by kernel_rfl) (fun v h => h) rfl (fun _ => rfl) (fun W _ _ => by kernel_rfl) ?_
  refine soft_det (d := 96) (V := .slice (some ⟨b, 0, none⟩) 5 5) rfl (by kernel_rfl) (fun v h => h) rfl (fun _ => rfl) (fun W _ _ => by kernel_rfl) ?_
  refine soft_call (d := 97) (V := .bool false) (f := 32) (vals := #[.slice (some ⟨b, 0, none⟩) 5 5, .int .i64 4]) rfl (by kernel_rfl) (fun v h => h) rfl (fun _ => rfl) (fun W => by kernel_rfl) (fun W hx hk => by have h := has_any (some ⟨b, 0, none⟩) 5 L5 4 W (hL W hx) (by simp); rw [x_has4] at h; exact h) ?_
  refine soft_det (d := 98) (V := .bool true) rfl (by kernel_rfl) (fun v h => h) rfl (fun _ => rfl) (fun W _ _ => by kernel_rfl) ?_
  refine soft_det (d := 99) (V := .bool true) rfl (by kernel_rfl) (fun v h => h) rfl (fun _ => rfl) (fun W _ _ => by kernel_rfl) ?_
  refine soft_det (d := 100) (V := .bool true) rfl (by kernel_rfl) (fun v h => h) rfl (fun _ => rfl) (fun W _ _ => by kernel_rfl) ?_
  refine soft_det (d := 101) (V := .agg #[.int .i64 5, .int .i64 8]) rfl (by kernel_rfl) (fun v h => h) rfl (fun _ => rfl) (fun W hx _ => run_load_op (x := .tmp 2) (b := b2) (cs := #[.int .i64 5, .int .i64 8]) lwSp rfl (by kernel_rfl) (hB2.ext hx) rfl) ?_
  refine soft_det (d := 102) (V := .agg #[.int .i64 5, .int .i64 8]) rfl (by kernel_rfl) (fun v h => h) rfl (fun _ => rfl) (fun W _ _ => by kernel_rfl) ?_
  refine soft_det (d := 103) (V := .bool true) rfl (by kernel_rfl) (fun v h => h) rfl (fun _ => rfl) (fun W _ _ => by kernel_rfl) ?_
  refine soft_det (d := 104) (V := .bool true) rfl (by kernel_rfl) (fun v h => h) rfl (fun _ => rfl) (fun W _ _ => by kernel_rfl) ?_
  refine soft_det (d := 105) (V := .bool true) rfl (by kernel_rfl) (fun v h => h) rfl (fun _ => rfl) (fun W _ _ => by kernel_rfl) ?_
  refine soft_det (d := 106) (V := .bool true) rfl (by kernel_rfl) (fun v h => h) rfl (fun _ => rfl) (fun W _ _ => by kernel_rfl) ?_
  refine soft_det (d := 107) (V := .bool true) rfl (by kernel_rfl) (fun v h => h) rfl (fun _ => rfl) (fun W _ _ => by kernel_rfl) ?_
  refine soft_det (d := 108) (V := .bool true) rfl (by kernel_rfl) (fun v h => h) rfl (fun _ => rfl) (fun W _ _ => by kernel_rfl) ?_
  refine soft_det (d := 109) (V := .bool false) rfl (by kernel_rfl) (fun v h => h) rfl (fun _ => rfl) (fun W _ _ => by kernel_rfl) ?_
  refine soft_det (d := 110) (V := .bool true) rfl (by kernel_rfl) (fun v h => h) rfl (fun _ => rfl) (fun W _ _ => by kernel_rfl) ?_
  refine soft_det (d := 111) (V := .bool true) rfl (by kernel_rfl) (fun v h => h) rfl (fun _ => rfl) (fun W _ _ => by kernel_rfl) ?_
  refine soft_det (d := 0) (V := .bool true) rfl (by kernel_rfl) (fun v h => h) rfl (fun _ => rfl) (fun W _ _ => by kernel_rfl) ?_
  intro W' hx'
  have HX2 : Hid (Ext w W') := Lib.hid (Ext.trans (Ext.drew HX.out) hx')
  simp only [Act.put, List.setIfInBounds_toArray, List.set_cons_succ, List.set_cons_zero]
  go_wp2
  go_ret
  exact ⟨rfl, ExtOf.of HX2.out⟩

end Go.Proofs.Ytfbcaafkekcmbaa
