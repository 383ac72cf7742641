/-
  Chapter 62: several texts in one (S6, S7, S8).
-/
import Derived.Test.YtjflmmipjeangaaGreatDoorK4
import Derived.Lib.MinMax
/-
  Chapter 62: the commands.
-/
section
set_option linter.unusedVariables false
set_option linter.unusedSimpArgs false
namespace Go.Proofs.YtjflmmipjeangaaGreatDoor
open Go.RowKit ScM

attribute [local go_sem] ExtOf.cell ExtOf.frozen Block.cell Block.frozen ExtB.cell ExtB.frozen alloc_cell alloc_frozen
/-- a command: name, letters of its words, whether the last may be repeated, the reference's letters, its function -/
structure Cmd where
  name : List UInt8
  fixed : List UInt8
  star : Bool
  kinds : List UInt8
  fn : Nat
def cmds : List Cmd := [⟨[112, 101, 114, 109, 105, 116], [119, 119, 110, 110, 110], false, [46, 46, 110, 110, 110], 79⟩,
  ⟨[102, 101, 108, 108], [119, 119], false, [46, 46], 80⟩,
  ⟨[115, 99, 97, 110], [119, 110, 110, 110, 110], false, [46, 110, 110, 110, 110], 81⟩,
  ⟨[98, 108, 105, 110, 100], [119], false, [46], 82⟩,
  ⟨[115, 104, 105, 112], [119], false, [46], 90⟩,
  ⟨[116, 114, 105, 109], [119], false, [46], 92⟩,
  ⟨[98, 111, 97, 114, 100], [119], false, [46], 96⟩,
  ⟨[115, 116, 111, 114, 121], [119], false, [46], 97⟩,
  ⟨[114, 111, 111, 116], [119], false, [46], 98⟩,
  ⟨[115, 97, 119], [119, 110], true, [46, 110], 83⟩,
  ⟨[112, 97, 99, 107], [119, 110], false, [46, 110], 84⟩,
  ⟨[105, 110, 115, 112, 101, 99, 116], [119, 110], false, [46, 110], 87⟩,
  ⟨[102, 97, 117, 108, 116], [110, 110, 110], false, [110, 110, 110], 85⟩,
  ⟨[100, 114, 121], [119, 119, 110, 119, 119], true, [46, 46, 110, 46], 86⟩,
  ⟨[111, 114, 100, 101, 114], [119, 119, 119, 110, 110, 110, 110, 110, 110, 110, 110], false, [46, 46, 46, 110, 110, 110, 110, 110, 110, 110, 110], 88⟩,
  ⟨[97, 115, 115, 105, 103, 110], [], false, [46], 89⟩,
  ⟨[98, 111, 111, 107, 115], [], false, [46], 99⟩,
  ⟨[100, 105, 103, 101, 115, 116], [], false, [46], 100⟩,
  ⟨[115, 101, 108, 108], [110, 110], false, [110, 110], 91⟩,
  ⟨[114, 101, 115, 97, 119], [119, 119, 119], true, [46, 46], 93⟩,
  ⟨[119, 97, 105, 116], [110], false, [110], 94⟩,
  ⟨[99, 114, 97, 115, 104], [110], false, [110], 95⟩]
/-- the command of a word -/
def cmdOf (s : ByteArray) : Option Cmd := cmds.find? fun c => c.name == s.data.toList
def shapeV (o : Option Cmd) : Value := match o with
  | some c => .tuple #[.int .i64 (if c.star then c.fixed.length else c.fixed.length + 1 : Nat), .int .i64 (if c.star then 4000 else c.fixed.length + 1 : Nat), .string (bB c.kinds), .bool true]
  | none => .tuple #[.int .i64 0, .int .i64 0, .string ⟨#[]⟩, .bool false]
theorem cmdOf_none {s : ByteArray} (h : cmdOf s = none) (c : Cmd) (hc : c ∈ cmds) : (s.toList == c.name) = false := by
  have := List.find?_eq_none.1 h c hc
  rw [ByteArray.toList_eq]
  have h2 : ¬ c.name = s.data.toList := by simpa using this
  simp only [beq_eq_false_iff_ne, ne_eq]
  exact fun e => h2 e.symm
theorem cmdOf_some {s : ByteArray} {c : Cmd} (h : cmdOf s = some c) : c ∈ cmds ∧ s = bB c.name := by
  refine ⟨List.mem_of_find?_eq_some h, ?_⟩
  have := List.find?_some h
  have h2 : c.name = s.data.toList := by simpa using this
  rw [h2]
  rfl
theorem results_tmp4 {fn : Func} {t u v x : Tmp} (h : fn.results = #[.tmp t, .tmp u, .tmp v, .tmp x]) (tmps : Array Value) (P : Program) (w : World) :
    (results fn tmps).run P w = .ok (.tuple #[tmps.getD t undef, tmps.getD u undef, tmps.getD v undef, tmps.getD x undef]) w := by
  simp [results, h]
set_option maxRecDepth 20000 in
set_option maxHeartbeats 4000000 in
theorem shape_none (s : ByteArray) (w : World) (h : cmdOf s = none) : Calls Tryz.prog 14 #[.string s] w fun e w' => e = .returned (shapeV none) ∧ w' = w := by
  have n0 : (s.toList == [112, 101, 114, 109, 105, 116]) = false := cmdOf_none h cmds[0] (List.getElem_mem _)
  have n1 : (s.toList == [102, 101, 108, 108]) = false := cmdOf_none h cmds[1] (List.getElem_mem _)
  have n2 : (s.toList == [115, 99, 97, 110]) = false := cmdOf_none h cmds[2] (List.getElem_mem _)
  have n3 : (s.toList == [98, 108, 105, 110, 100]) = false := cmdOf_none h cmds[3] (List.getElem_mem _)
  have n4 : (s.toList == [115, 104, 105, 112]) = false := cmdOf_none h cmds[4] (List.getElem_mem _)
  have n5 : (s.toList == [116, 114, 105, 109]) = false := cmdOf_none h cmds[5] (List.getElem_mem _)
  have n6 : (s.toList == [98, 111, 97, 114, 100]) = false := cmdOf_none h cmds[6] (List.getElem_mem _)
  have n7 : (s.toList == [115, 116, 111, 114, 121]) = false := cmdOf_none h cmds[7] (List.getElem_mem _)
  have n8 : (s.toList == [114, 111, 111, 116]) = false := cmdOf_none h cmds[8] (List.getElem_mem _)
  have n9 : (s.toList == [115, 97, 119]) = false := cmdOf_none h cmds[9] (List.getElem_mem _)
  have n10 : (s.toList == [112, 97, 99, 107]) = false := cmdOf_none h cmds[10] (List.getElem_mem _)
  have n11 : (s.toList == [105, 110, 115, 112, 101, 99, 116]) = false := cmdOf_none h cmds[11] (List.getElem_mem _)
  have n12 : (s.toList == [102, 97, 117, 108, 116]) = false := cmdOf_none h cmds[12] (List.getElem_mem _)
  have n13 : (s.toList == [100, 114, 121]) = false := cmdOf_none h cmds[13] (List.getElem_mem _)
  have n14 : (s.toList == [111, 114, 100, 101, 114]) = false := cmdOf_none h cmds[14] (List.getElem_mem _)
  have n15 : (s.toList == [97, 115, 115, 105, 103, 110]) = false := cmdOf_none h cmds[15] (List.getElem_mem _)
  have n16 : (s.toList == [98, 111, 111, 107, 115]) = false := cmdOf_none h cmds[16] (List.getElem_mem _)
  have n17 : (s.toList == [100, 105, 103, 101, 115, 116]) = false := cmdOf_none h cmds[17] (List.getElem_mem _)
  have n18 : (s.toList == [115, 101, 108, 108]) = false := cmdOf_none h cmds[18] (List.getElem_mem _)
  have n19 : (s.toList == [114, 101, 115, 97, 119]) = false := cmdOf_none h cmds[19] (List.getElem_mem _)
  have n20 : (s.toList == [119, 97, 105, 116]) = false := cmdOf_none h cmds[20] (List.getElem_mem _)
  have n21 : (s.toList == [99, 114, 97, 115, 104]) = false := cmdOf_none h cmds[21] (List.getElem_mem _)
  clear h
  go_enter Tryz.func14, Tryz.ntmps14
  go_wp2_with fail
  (refine bodyPost_ret (results_tmp4 rfl _ _ _) rfl ?_)
  exact ⟨rfl, rfl⟩
set_option maxRecDepth 20000 in
set_option maxHeartbeats 4000000 in
theorem shape_permit (w : World) : Calls Tryz.prog 14 #[.string ⟨#[112, 101, 114, 109, 105, 116]⟩] w fun e w' => e = .returned (shapeV cmds[0]) ∧ w' = w := by
  go_enter Tryz.func14, Tryz.ntmps14
  go_wp2_with fail
  (refine bodyPost_ret (results_tmp4 rfl _ _ _) rfl ?_)
  exact ⟨rfl, rfl⟩
set_option maxRecDepth 20000 in
set_option maxHeartbeats 4000000 in
theorem shape_fell (w : World) : Calls Tryz.prog 14 #[.string ⟨#[102, 101, 108, 108]⟩] w fun e w' => e = .returned (shapeV cmds[1]) ∧ w' = w := by
  go_enter Tryz.func14, Tryz.ntmps14
  go_wp2_with fail
  (refine bodyPost_ret (results_tmp4 rfl _ _ _) rfl ?_)
  exact ⟨rfl, rfl⟩
set_option maxRecDepth 20000 in
set_option maxHeartbeats 4000000 in
theorem shape_scan (w : World) : Calls Tryz.prog 14 #[.string ⟨#[115, 99, 97, 110]⟩] w fun e w' => e = .returned (shapeV cmds[2]) ∧ w' = w := by
  go_enter Tryz.func14, Tryz.ntmps14
  go_wp2_with fail
  (refine bodyPost_ret (results_tmp4 rfl _ _ _) rfl ?_)
  exact ⟨rfl, rfl⟩
set_option maxRecDepth 20000 in
set_option maxHeartbeats 4000000 in
theorem shape_blind (w : World) : Calls Tryz.prog 14 #[.string ⟨#[98, 108, 105, 110, 100]⟩] w fun e w' => e = .returned (shapeV cmds[3]) ∧ w' = w := by
  go_enter Tryz.func14, Tryz.ntmps14
  go_wp2_with fail
  (refine bodyPost_ret (results_tmp4 rfl _ _ _) rfl ?_)
  exact ⟨rfl, rfl⟩
set_option maxRecDepth 20000 in
set_option maxHeartbeats 4000000 in
theorem shape_ship (w : World) : Calls Tryz.prog 14 #[.string ⟨#[115, 104, 105, 112]⟩] w fun e w' => e = .returned (shapeV cmds[4]) ∧ w' = w := by
  go_enter Tryz.func14, Tryz.ntmps14
  go_wp2_with fail
  (refine bodyPost_ret (results_tmp4 rfl _ _ _) rfl ?_)
  exact ⟨rfl, rfl⟩
set_option maxRecDepth 20000 in
set_option maxHeartbeats 4000000 in
theorem shape_trim (w : World) : Calls Tryz.prog 14 #[.string ⟨#[116, 114, 105, 109]⟩] w fun e w' => e = .returned (shapeV cmds[5]) ∧ w' = w := by
  go_enter Tryz.func14, Tryz.ntmps14
  go_wp2_with fail
  (refine bodyPost_ret (results_tmp4 rfl _ _ _) rfl ?_)
  exact ⟨rfl, rfl⟩
set_option maxRecDepth 20000 in
set_option maxHeartbeats 4000000 in
theorem shape_board (w : World) : Calls Tryz.prog 14 #[.string ⟨#[98, 111, 97, 114, 100]⟩] w fun e w' => e = .returned (shapeV cmds[6]) ∧ w' = w := by
  go_enter Tryz.func14, Tryz.ntmps14
  go_wp2_with fail
  (refine bodyPost_ret (results_tmp4 rfl _ _ _) rfl ?_)
  exact ⟨rfl, rfl⟩
set_option maxRecDepth 20000 in
set_option maxHeartbeats 4000000 in
theorem shape_story (w : World) : Calls Tryz.prog 14 #[.string ⟨#[115, 116, 111, 114, 121]⟩] w fun e w' => e = .returned (shapeV cmds[7]) ∧ w' = w := by
  go_enter Tryz.func14, Tryz.ntmps14
  go_wp2_with fail
  (refine bodyPost_ret (results_tmp4 rfl _ _ _) rfl ?_)
  exact ⟨rfl, rfl⟩
set_option maxRecDepth 20000 in
set_option maxHeartbeats 4000000 in
theorem shape_root (w : World) : Calls Tryz.prog 14 #[.string ⟨#[114, 111, 111, 116]⟩] w fun e w' => e = .returned (shapeV cmds[8]) ∧ w' = w := by
  go_enter Tryz.func14, Tryz.ntmps14
  go_wp2_with fail
  (refine bodyPost_ret (results_tmp4 rfl _ _ _) rfl ?_)
  exact ⟨rfl, rfl⟩
set_option maxRecDepth 20000 in
set_option maxHeartbeats 4000000 in
theorem shape_saw (w : World) : Calls Tryz.prog 14 #[.string ⟨#[115, 97, 119]⟩] w fun e w' => e = .returned (shapeV cmds[9]) ∧ w' = w := by
  go_enter Tryz.func14, Tryz.ntmps14
  go_wp2_with fail
  (refine bodyPost_ret (results_tmp4 rfl _ _ _) rfl ?_)
  exact ⟨rfl, rfl⟩
set_option maxRecDepth 20000 in
set_option maxHeartbeats 4000000 in
theorem shape_pack (w : World) : Calls Tryz.prog 14 #[.string ⟨#[112, 97, 99, 107]⟩] w fun e w' => e = .returned (shapeV cmds[10]) ∧ w' = w := by
  go_enter Tryz.func14, Tryz.ntmps14
  go_wp2_with fail
  (refine bodyPost_ret (results_tmp4 rfl _ _ _) rfl ?_)
  exact ⟨rfl, rfl⟩
set_option maxRecDepth 20000 in
set_option maxHeartbeats 4000000 in
theorem shape_inspect (w : World) : Calls Tryz.prog 14 #[.string ⟨#[105, 110, 115, 112, 101, 99, 116]⟩] w fun e w' => e = .returned (shapeV cmds[11]) ∧ w' = w := by
  go_enter Tryz.func14, Tryz.ntmps14
  go_wp2_with fail
  (refine bodyPost_ret (results_tmp4 rfl _ _ _) rfl ?_)
  exact ⟨rfl, rfl⟩
set_option maxRecDepth 20000 in
set_option maxHeartbeats 4000000 in
theorem shape_fault (w : World) : Calls Tryz.prog 14 #[.string ⟨#[102, 97, 117, 108, 116]⟩] w fun e w' => e = .returned (shapeV cmds[12]) ∧ w' = w := by
  go_enter Tryz.func14, Tryz.ntmps14
  go_wp2_with fail
  (refine bodyPost_ret (results_tmp4 rfl _ _ _) rfl ?_)
  exact ⟨rfl, rfl⟩
set_option maxRecDepth 20000 in
set_option maxHeartbeats 4000000 in
theorem shape_dry (w : World) : Calls Tryz.prog 14 #[.string ⟨#[100, 114, 121]⟩] w fun e w' => e = .returned (shapeV cmds[13]) ∧ w' = w := by
  go_enter Tryz.func14, Tryz.ntmps14
  go_wp2_with fail
  (refine bodyPost_ret (results_tmp4 rfl _ _ _) rfl ?_)
  exact ⟨rfl, rfl⟩
set_option maxRecDepth 20000 in
set_option maxHeartbeats 4000000 in
theorem shape_order (w : World) : Calls Tryz.prog 14 #[.string ⟨#[111, 114, 100, 101, 114]⟩] w fun e w' => e = .returned (shapeV cmds[14]) ∧ w' = w := by
  go_enter Tryz.func14, Tryz.ntmps14
  go_wp2_with fail
  (refine bodyPost_ret (results_tmp4 rfl _ _ _) rfl ?_)
  exact ⟨rfl, rfl⟩
set_option maxRecDepth 20000 in
set_option maxHeartbeats 4000000 in
theorem shape_assign (w : World) : Calls Tryz.prog 14 #[.string ⟨#[97, 115, 115, 105, 103, 110]⟩] w fun e w' => e = .returned (shapeV cmds[15]) ∧ w' = w := by
  go_enter Tryz.func14, Tryz.ntmps14
  go_wp2_with fail
  (refine bodyPost_ret (results_tmp4 rfl _ _ _) rfl ?_)
  exact ⟨rfl, rfl⟩
set_option maxRecDepth 20000 in
set_option maxHeartbeats 4000000 in
theorem shape_books (w : World) : Calls Tryz.prog 14 #[.string ⟨#[98, 111, 111, 107, 115]⟩] w fun e w' => e = .returned (shapeV cmds[16]) ∧ w' = w := by
  go_enter Tryz.func14, Tryz.ntmps14
  go_wp2_with fail
  (refine bodyPost_ret (results_tmp4 rfl _ _ _) rfl ?_)
  exact ⟨rfl, rfl⟩
set_option maxRecDepth 20000 in
set_option maxHeartbeats 4000000 in
theorem shape_digest (w : World) : Calls Tryz.prog 14 #[.string ⟨#[100, 105, 103, 101, 115, 116]⟩] w fun e w' => e = .returned (shapeV cmds[17]) ∧ w' = w := by
  go_enter Tryz.func14, Tryz.ntmps14
  go_wp2_with fail
  (refine bodyPost_ret (results_tmp4 rfl _ _ _) rfl ?_)
  exact ⟨rfl, rfl⟩
set_option maxRecDepth 20000 in
set_option maxHeartbeats 4000000 in
theorem shape_sell (w : World) : Calls Tryz.prog 14 #[.string ⟨#[115, 101, 108, 108]⟩] w fun e w' => e = .returned (shapeV cmds[18]) ∧ w' = w := by
  go_enter Tryz.func14, Tryz.ntmps14
  go_wp2_with fail
  (refine bodyPost_ret (results_tmp4 rfl _ _ _) rfl ?_)
  exact ⟨rfl, rfl⟩
set_option maxRecDepth 20000 in
set_option maxHeartbeats 4000000 in
theorem shape_resaw (w : World) : Calls Tryz.prog 14 #[.string ⟨#[114, 101, 115, 97, 119]⟩] w fun e w' => e = .returned (shapeV cmds[19]) ∧ w' = w := by
  go_enter Tryz.func14, Tryz.ntmps14
  go_wp2_with fail
  (refine bodyPost_ret (results_tmp4 rfl _ _ _) rfl ?_)
  exact ⟨rfl, rfl⟩
set_option maxRecDepth 20000 in
set_option maxHeartbeats 4000000 in
theorem shape_wait (w : World) : Calls Tryz.prog 14 #[.string ⟨#[119, 97, 105, 116]⟩] w fun e w' => e = .returned (shapeV cmds[20]) ∧ w' = w := by
  go_enter Tryz.func14, Tryz.ntmps14
  go_wp2_with fail
  (refine bodyPost_ret (results_tmp4 rfl _ _ _) rfl ?_)
  exact ⟨rfl, rfl⟩
set_option maxRecDepth 20000 in
set_option maxHeartbeats 4000000 in
theorem shape_crash (w : World) : Calls Tryz.prog 14 #[.string ⟨#[99, 114, 97, 115, 104]⟩] w fun e w' => e = .returned (shapeV cmds[21]) ∧ w' = w := by
  go_enter Tryz.func14, Tryz.ntmps14
  go_wp2_with fail
  (refine bodyPost_ret (results_tmp4 rfl _ _ _) rfl ?_)
  exact ⟨rfl, rfl⟩
theorem shape_any (s : ByteArray) (w : World) : Calls Tryz.prog 14 #[.string s] w fun e w' => e = .returned (shapeV (cmdOf s)) ∧ w' = w := by
  cases h : cmdOf s with
  | none => exact shape_none s w h
  | some c =>
    obtain ⟨hc, rfl⟩ := cmdOf_some h
    simp only [cmds, List.mem_cons, List.not_mem_nil, or_false] at hc
    rcases hc with rfl | rfl | rfl | rfl | rfl | rfl | rfl | rfl | rfl | rfl | rfl | rfl | rfl | rfl | rfl | rfl | rfl | rfl | rfl | rfl | rfl | rfl
    · exact shape_permit w
    · exact shape_fell w
    · exact shape_scan w
    · exact shape_blind w
    · exact shape_ship w
    · exact shape_trim w
    · exact shape_board w
    · exact shape_story w
    · exact shape_root w
    · exact shape_saw w
    · exact shape_pack w
    · exact shape_inspect w
    · exact shape_fault w
    · exact shape_dry w
    · exact shape_order w
    · exact shape_assign w
    · exact shape_books w
    · exact shape_digest w
    · exact shape_sell w
    · exact shape_resaw w
    · exact shape_wait w
    · exact shape_crash w
end Go.Proofs.YtjflmmipjeangaaGreatDoor
end
/-
  Chapter 62: the reference's Words.
-/
section
set_option linter.unusedVariables false
set_option linter.unusedSimpArgs false
namespace Go.Proofs.YtjflmmipjeangaaGreatDoor
open Go.RowKit ScM

attribute [local go_sem] ExtOf.cell ExtOf.frozen Block.cell Block.frozen ExtB.cell ExtB.frozen alloc_cell alloc_frozen
/-- a byte below a blank -/
def low (l : List UInt8) : Bool := l.any fun c => decide (c.toNat < 32)
/-- an empty word -/
def void (l : List ByteArray) : Bool := l.any fun x => decide (x.size = 0)
/-- is the word at i (1, ..) a number? -/
def isN (kinds : List UInt8) (i : Nat) : Bool := kinds.getD (min i kinds.length - 1) 0 == 110
/-- a number out of form -/
def badFrom (f : Nat → Bool) : Nat → List ByteArray → Bool
  | _, [] => false
  | i, x :: r => (f i && !numOk x.data.toList) || badFrom f (i + 1) r
/-- as many words as the command takes -/
def fits (c : Cmd) (n : Nat) : Bool := if c.star then decide (c.fixed.length ≤ n) else decide (n = c.fixed.length + 1)
/-- the error of words -/
def errW (l : List ByteArray) : Int := match cmdOf (l.headD ⟨#[]⟩) with
  | none => 5
  | some c => if fits c l.length then (if badFrom (isN c.kinds) 1 l.tail then 9 else 0) else 5
/-- the error of a line -/
def errL (s : ByteArray) : Int := if 8000 < s.size then 4 else if low s.data.toList then 5 else if void (partsB s.data.toList) then 5 else errW (partsB s.data.toList)
theorem low_step {s : ByteArray} {k : Nat} (h : k < s.size) : low (s.data.toList.drop k) = (decide ((s[k].toNat : Int) < 32) || low (s.data.toList.drop (k + 1))) := by
  have hs := sizeL s
  unfold low
  rw [List.drop_eq_getElem_cons (by omega), List.any_cons]
  congr 1
  apply decide_eq_decide.2
  show s[k].toNat < 32 ↔ _
  omega
theorem void_step {l : List ByteArray} {k : Nat} (h : k < l.length) : void (l.drop k) = (decide (l[k].size = 0) || void (l.drop (k + 1))) := by
  unfold void
  rw [List.drop_eq_getElem_cons h, List.any_cons]
theorem bad_step {f : Nat → Bool} {l : List ByteArray} {k : Nat} (h : k < l.length) : badFrom f k (l.drop k) = ((f k && !numOk l[k].data.toList) || badFrom f (k + 1) (l.drop (k + 1))) := by
  rw [List.drop_eq_getElem_cons h]
  rfl
theorem empty_bool (s : ByteArray) : (s.toList == []) = decide (s.size = 0) := by
  by_cases h : s.size = 0
  · rw [zero_of h, ByteArray.toList_eq]; rfl
  · rw [empty_eq s (by omega)]; exact (decide_eq_false h).symm
theorem cmds_kinds : ∀ c ∈ cmds, 0 < c.kinds.length ∧ c.kinds.length < 20 := by decide
theorem cmds_most : ∀ c ∈ cmds, (if c.star then 4000 else c.fixed.length + 1) < 100000 := by decide
theorem cmds_least : ∀ c ∈ cmds, (if c.star then c.fixed.length else c.fixed.length + 1) < 100000 := by decide
set_option maxRecDepth 20000 in
set_option maxHeartbeats 4000000 in
theorem words_any (s : ByteArray) (w : World) (hs : s.size ≤ 400 ∨ 8000 < s.size) : Calls Tryz.prog 6 #[.string s] w fun e w' => (∃ v, e = .returned (.tuple #[v, .int .i64 (errL s)])) ∧ ∃ n : ExtOf w, w' = n.val := by
  by_cases hbig : 8000 < s.size
  · have q1 : decide ((8000 : Int) < (s.size : Int)) = true := decide_eq_true (by omega)
    have HE : Hid (errL s = 4) := Lib.hid (by rw [errL, if_pos hbig])
    go_enter Tryz.func6, Tryz.ntmps6
    go_wp2_with fail
    go_ret2
    exact ⟨⟨_, by rw [HE.out]; rfl⟩, ExtOf.of (Ext.refl _)⟩
  have hs4 : s.size ≤ 400 := by omega
  have q1 : decide ((8000 : Int) < (s.size : Int)) = false := decide_eq_false (by omega)
  have HC := Lib.hid fun w => cut_any s w (by omega)
  have hnL : ¬ 8000 < s.size := hbig
  go_enter Tryz.func6, Tryz.ntmps6
  go_wp2_with fail
  go_loop [4] (fun vi => ∃ k : Nat, k ≤ s.size ∧ vi = .int .i64 k ∧ Hid (low s.data.toList = low (s.data.toList.drop k))) (fun vi => s.size - (intOf vi).toNat)
  case atStart => exact ⟨0, Nat.zero_le _, rfl, Lib.hid rfl⟩
  case round =>
    obtain ⟨k, hk, rfl, HR⟩ := hrel
    by_cases hlt : k < s.size
    · have HS := Lib.hid (low_step hlt)
      have q2 : decide ((k : Int) < s.size) = true := decide_eq_true (by omega)
      cases hd : decide ((s[k].toNat : Int) < 32) with
      | true =>
        have HE : Hid (errL s = 5) := Lib.hid (by rw [errL, if_neg hnL, HR.out, HS.out, hd]; rfl)
        go_wp2_with fail
        go_ret2
        exact ⟨⟨_, by rw [HE.out]; rfl⟩, ExtOf.of (Ext.refl _)⟩
      | false =>
        have HE : Hid (low s.data.toList = low (s.data.toList.drop (k + 1))) := Lib.hid (by rw [HR.out, HS.out, hd]; rfl)
        go_wp2_with fail
        go_round
        case rel => exact ⟨k + 1, by omega, by first | rfl | go_num, HE⟩
        case measure => simp [intOf]; omega
    · have q2 : decide ((k : Int) < s.size) = false := decide_eq_false (by omega)
      have HL : Hid (errL s = if void (partsB s.data.toList) then 5 else errW (partsB s.data.toList)) := Lib.hid (by
        rw [errL, if_neg hnL, HR.out, List.drop_of_length_le (by rw [sizeL]; omega)]
        rfl)
      have hp := partsB_pos s.data.toList
      have hle : (partsB s.data.toList).length ≤ 401 := by
        rw [partsB_len]
        refine Nat.le_trans (parts_len_le _) ?_
        rw [sizeL]; omega
      have HPS : Hid (∀ x ∈ partsB s.data.toList, x.size < 1000) := Lib.hid fun x hx => by
        have := partsB_size _ _ hx
        rw [sizeL] at this
        omega
      clear HR
      generalize partsB s.data.toList = l at *
      go_wp2_with (go_at_call 13; refine (HC.out _).mono ?_; rintro e w' ⟨v, rfl, hown, n1, rfl⟩)
      have HX : Hid (Ext w n1.val) := Lib.hid (by with_reducible repeat' (first | exact Ext.refl _ | exact ExtOf.ext _ | refine Ext.trans ?_ (ExtOf.ext _) | refine Ext.alloc ?_ _ | refine Ext.drew ?_ | refine Ext.setCell ?_ ?_ _ | refine Ext.setRow ?_ ?_ _ | exact HX.out | refine Ext.trans ?_ HX.out | omega | (simp; done) | (simp; omega)))
      have HSL := Lib.hid (Own.slice encS_len hown)
      obtain ⟨q, c, rfl⟩ := Own.form2 hown
      clear hown
      generalize n1.val = W0 at *
      obtain ⟨b, off, rfl, hc0⟩ := S.elem HSL.out hp
      rw [Nat.add_zero] at hc0
      go_loop [6] (fun vi => ∃ k : Nat, k ≤ l.length ∧ vi = .int .i64 k ∧ Hid (void l = void (l.drop k))) (fun vi => l.length - (intOf vi).toNat)
      case atStart => exact ⟨0, Nat.zero_le _, rfl, Lib.hid rfl⟩
      case round =>
        obtain ⟨j, hj, rfl, HR⟩ := hrel
        by_cases hlt2 : j < l.length
        · have HS := Lib.hid (void_step hlt2)
          have q3 : decide ((j : Int) < l.length) = true := decide_eq_true (by omega)
          obtain ⟨b', off', e', hc⟩ := S.elem HSL.out hlt2
          cases e'
          have hz := empty_bool l[j]
          cases hd : decide (l[j].size = 0) with
          | true =>
            rw [hd] at hz
            have HE : Hid (errL s = 5) := Lib.hid (by rw [HL.out, HR.out, HS.out, hd]; rfl)
            go_wp2_with fail
            go_ret2
            exact ⟨⟨_, by rw [HE.out]; rfl⟩, ExtOf.of HX.out⟩
          | false =>
            rw [hd] at hz
            have HE : Hid (void l = void (l.drop (j + 1))) := Lib.hid (by rw [HR.out, HS.out, hd]; rfl)
            go_wp2_with fail
            go_round
            case rel => exact ⟨j + 1, by omega, by first | rfl | go_num, HE⟩
            case measure => simp [intOf]; omega
        · have q3 : decide ((j : Int) < l.length) = false := decide_eq_false (by omega)
          have HL2 : Hid (errL s = errW l) := Lib.hid (by
            rw [HL.out, HR.out, List.drop_of_length_le (by omega)]
            rfl)
          clear HR
          have hhd : l.headD ⟨#[]⟩ = l[0] := by
            cases l with
            | nil => simp at hp
            | cons x r => rfl
          have HSH := Lib.hid fun w => shape_any l[0] w
          cases hcm : cmdOf l[0] with
          | none =>
            have HE : Hid (errL s = 5) := Lib.hid (by rw [HL2.out, errW, hhd, hcm])
            rw [hcm] at HSH
            unfold shapeV at HSH
            clear hcm
            go_wp2_with (go_at_call 14; refine (HSH.out _).mono ?_; rintro e w' ⟨rfl, h⟩; obtain rfl := h.symm)
            go_ret2
            exact ⟨⟨_, by rw [HE.out]; rfl⟩, ExtOf.of HX.out⟩
          | some cm =>
            have hcl := (cmdOf_some hcm).1
            obtain ⟨hk0, hk1⟩ := cmds_kinds cm hcl
            have HL3 : Hid (errL s = if fits cm l.length then (if badFrom (isN cm.kinds) 1 (l.drop 1) then 9 else 0) else 5) := Lib.hid (by
              rw [HL2.out, errW, hhd, hcm]
              cases l with
              | nil => simp at hp
              | cons x r => rfl)
            obtain ⟨x, ex⟩ : ∃ x : Int, x = ((if cm.star then cm.fixed.length else cm.fixed.length + 1 : Nat) : Int) := ⟨_, rfl⟩
            obtain ⟨y, ey⟩ : ∃ y : Int, y = ((if cm.star then 4000 else cm.fixed.length + 1 : Nat) : Int) := ⟨_, rfl⟩
            obtain ⟨kk, ek⟩ : ∃ kk : ByteArray, kk = bB cm.kinds := ⟨_, rfl⟩
            have HSH2 : Hid (∀ w, Calls Tryz.prog 14 #[.string l[0]] w fun e w' => e = .returned (.tuple #[.int .i64 x, .int .i64 y, .string kk, .bool true]) ∧ w' = w) := Lib.hid fun w => by
              have := HSH.out w
              rw [hcm] at this
              rw [ex, ey, ek]
              exact this
            have HFT : Hid (fits cm l.length = (decide (x ≤ (l.length : Int)) && decide ((l.length : Int) ≤ y))) := Lib.hid (by
              rw [ex, ey]
              unfold fits
              cases cm.star with
              | true =>
                show decide (cm.fixed.length ≤ l.length) = (decide ((cm.fixed.length : Int) ≤ _) && decide (_ ≤ ((4000 : Nat) : Int)))
                rw [(decide_eq_true (by omega) : decide ((l.length : Int) ≤ ((4000 : Nat) : Int)) = true), Bool.and_true]
                apply decide_eq_decide.2; omega
              | false =>
                show decide (l.length = cm.fixed.length + 1) = (decide (((cm.fixed.length + 1 : Nat) : Int) ≤ _) && decide (_ ≤ ((cm.fixed.length + 1 : Nat) : Int)))
                rw [← Bool.decide_and]
                apply decide_eq_decide.2; omega)
            have hkk : Hid (kk.size = cm.kinds.length) := Lib.hid (by rw [ek, ← sizeL]; rfl)
            have HKI := Lib.hid fun (i : Nat) (h : i < kk.size) => (show cm.kinds.getD i 0 = kk[i] by
              subst ek
              have h2 : i < cm.kinds.length := by have := hkk.out; omega
              rw [List.getD_eq_getElem?_getD, List.getElem?_eq_getElem h2]
              rfl)
            clear hcm hcl ex ey ek hhd HSH
            cases ha : decide ((l.length : Int) < x) with
            | true =>
              have ha2 := of_decide_eq_true ha
              have HE : Hid (errL s = 5) := Lib.hid (by rw [HL3.out, HFT.out, (decide_eq_false (by omega) : decide (x ≤ (l.length : Int)) = false)]; rfl)
              go_wp2_with (go_at_call 14; refine (HSH2.out _).mono ?_; rintro e w' ⟨rfl, h⟩; obtain rfl := h.symm)
              go_ret2
              exact ⟨⟨_, by rw [HE.out]; rfl⟩, ExtOf.of HX.out⟩
            | false =>
              have ha2 := of_decide_eq_false ha
              cases hm : decide (y < (l.length : Int)) with
              | true =>
                have hm2 := of_decide_eq_true hm
                have HE : Hid (errL s = 5) := Lib.hid (by rw [HL3.out, HFT.out, (decide_eq_false (by omega) : decide ((l.length : Int) ≤ y) = false), Bool.and_false]; rfl)
                go_wp2_with (go_at_call 14; refine (HSH2.out _).mono ?_; rintro e w' ⟨rfl, h⟩; obtain rfl := h.symm)
                go_ret2
                exact ⟨⟨_, by rw [HE.out]; rfl⟩, ExtOf.of HX.out⟩
              | false =>
                have hm2 := of_decide_eq_false hm
                have HL4 : Hid (errL s = if badFrom (isN cm.kinds) 1 (l.drop 1) then 9 else 0) := Lib.hid (by rw [HL3.out, HFT.out, (decide_eq_true (by omega) : decide (x ≤ (l.length : Int)) = true), (decide_eq_true (by omega) : decide ((l.length : Int) ≤ y) = true)]; rfl)
                go_wp2_with (go_at_call 14; refine (HSH2.out _).mono ?_; rintro e w' ⟨rfl, h⟩; obtain rfl := h.symm)
                go_loopw [11] (fun vi wr => ∃ k : Nat, 1 ≤ k ∧ k ≤ l.length ∧ vi = .int .i64 k ∧ Hid (badFrom (isN cm.kinds) 1 (l.drop 1) = badFrom (isN cm.kinds) k (l.drop k)) ∧ Ext W0 wr) (fun vi _ => l.length - (intOf vi).toNat)
                case atStart => exact ⟨1, Nat.le_refl _, hp, rfl, Lib.hid rfl, Ext.refl _⟩
                case round =>
                  obtain ⟨k, hk1, hkl, rfl, HR, hx⟩ := hrel
                  have HX2 := Lib.hid hx
                  clear hx
                  by_cases hlt3 : k < l.length
                  · have HS := Lib.hid (bad_step (f := isN cm.kinds) hlt3)
                    have q5 : decide ((k : Int) < l.length) = true := decide_eq_true (by omega)
                    obtain ⟨b', off', e', hc⟩ := S.elem (SliceOf.ext HSL.out HX2.out) hlt3
                    cases e'
                    have HNUM := Lib.hid fun w => rnumber_any l[k] w (HPS.out _ (List.getElem_mem hlt3))
                    obtain ⟨p, ep⟩ : ∃ p, p = min k kk.size - 1 := ⟨_, rfl⟩
                    have hk9 := hkk.out
                    have hpk : p < kk.size := by omega
                    have hmin : min (k : Int) (kk.size : Int) = (p : Int) + 1 := by omega
                    have hmin2 : IntKind.i64.wrap (p : Int) = p := by simp [IntKind.wrap, IntKind.signed, IntKind.bits]; omega
                    have HIN : Hid (isN cm.kinds k = ((kk[p].toNat : Int) == 110)) := Lib.hid (by
                      unfold isN
                      rw [← hk9, ← ep, HKI.out p hpk]
                      by_cases h : kk[p] = 110
                      · rw [h]; rfl
                      · have h2 : kk[p].toNat ≠ 110 := fun e => h (UInt8.toNat_inj.1 e)
                        rw [beq_eq_false_iff_ne.2 h]
                        symm
                        simp
                        omega)
                    clear ep hk9
                    have hmin3 : ((p : Int) + 1) - 1 = p := by omega
                    have hpk2 : (p : Int) < (kk.size : Int) := by omega
                    generalize numOk l[k].data.toList = ok at *
                    cases hn : ((kk[p].toNat : Int) == 110) with
                    | true =>
                      rw [hn] at HIN
                      cases ok with
                      | true =>
                        have HE : Hid (badFrom (isN cm.kinds) 1 (l.drop 1) = badFrom (isN cm.kinds) (k + 1) (l.drop (k + 1))) := Lib.hid (by rw [HR.out, HS.out, HIN.out]; rfl)
                        go_wp2_with (go_at_call 15; refine (HNUM.out _).mono ?_; rintro e w' ⟨⟨v, rfl⟩, n3, rfl⟩)
                        go_roundw
                        case rel => exact ⟨k + 1, by omega, by omega, by first | rfl | go_num, HE, HX2.out.trans n3.ext⟩
                        case measure => simp [intOf]; omega
                      | false =>
                        have HE : Hid (errL s = 9) := Lib.hid (by rw [HL4.out, HR.out, HS.out, HIN.out]; rfl)
                        go_wp2_with (go_at_call 15; refine (HNUM.out _).mono ?_; rintro e w' ⟨⟨v, rfl⟩, n3, rfl⟩)
                        go_ret2
                        exact ⟨⟨_, by rw [HE.out]; rfl⟩, ExtOf.of ((HX.out.trans HX2.out).trans n3.ext)⟩
                    | false =>
                      rw [hn] at HIN
                      have HE : Hid (badFrom (isN cm.kinds) 1 (l.drop 1) = badFrom (isN cm.kinds) (k + 1) (l.drop (k + 1))) := Lib.hid (by rw [HR.out, HS.out, HIN.out]; rfl)
                      go_wp2_with (go_at_call 15; refine (HNUM.out _).mono ?_; rintro e w' ⟨⟨v, rfl⟩, n3, rfl⟩)
                      go_roundw
                      case rel => exact ⟨k + 1, by omega, by omega, by first | rfl | go_num, HE, HX2.out.trans n3.ext⟩
                      case measure => simp [intOf]; omega
                  · have q5 : decide ((k : Int) < l.length) = false := decide_eq_false (by omega)
                    have HE : Hid (errL s = 0) := Lib.hid (by
                      rw [HL4.out, HR.out, List.drop_of_length_le (by omega)]
                      rfl)
                    go_wp2_with fail
                    go_ret2
                    exact ⟨⟨_, by rw [HE.out]; rfl⟩, ExtOf.of (HX.out.trans HX2.out)⟩
end Go.Proofs.YtjflmmipjeangaaGreatDoor
end
/-
  Chapter 62: commandOf.
-/
section
set_option linter.unusedVariables false
set_option linter.unusedSimpArgs false
namespace Go.Proofs.YtjflmmipjeangaaGreatDoor
open Go.RowKit ScM

attribute [local go_sem] ExtOf.cell ExtOf.frozen Block.cell Block.frozen ExtB.cell ExtB.frozen alloc_cell alloc_frozen
/-- the form of a command -/
def formC (c : Cmd) : List UInt8 := if c.star then c.fixed ++ [42] else c.fixed
def commandV (o : Option Cmd) : Value := match o with
  | some c => .tuple #[.agg #[.string (bB (formC c)), .func (.func c.fn) #[] #[]], .bool true]
  | none => .tuple #[.agg #[.string ⟨#[]⟩, Value.nilFunc], .bool false]
theorem lwCmd : Whole Tryz.prog 115 2 := whole_of Tryz.underlying115 rfl (by kernel_rfl)
set_option maxRecDepth 20000 in
set_option maxHeartbeats 4000000 in
theorem command_permit (w : World) : Calls Tryz.prog 34 #[.string ⟨#[112, 101, 114, 109, 105, 116]⟩] w fun e w' => e = .returned (commandV cmds[0]) ∧ ∃ n : ExtOf w, w' = n.val := by
  go_enter Tryz.func34, Tryz.ntmps34
  go_wp2_with ((with_reducible apply wl_store' lwCmd); (· (first | exact wanted_none rfl | exact wanted_some rfl rfl rfl)); (· rfl); (· rfl); (· infer_instance); (· rfl); (· rfl); (· (simp [Value.oneCell'])); try simp only [setRow_alloc, setRow_new, setRow_new1, setRow_new2, setRow_new11, setRow_new111])
  refine bodyPost_ret (results_cs (b0 := w.heap.size) rfl lwCmd rfl rfl inferInstance rfl) rfl ⟨rfl, by exact ExtOf.of (by with_reducible repeat' (first | exact Ext.refl _ | exact ExtOf.ext _ | refine Ext.trans ?_ (ExtOf.ext _) | refine Ext.alloc ?_ _ | refine Ext.drew ?_ | refine Ext.setCell ?_ ?_ _ | refine Ext.setRow ?_ ?_ _ | exact HX.out | refine Ext.trans ?_ HX.out | omega | (simp; done) | (simp; omega)))⟩
set_option maxRecDepth 20000 in
set_option maxHeartbeats 4000000 in
theorem command_fell (w : World) : Calls Tryz.prog 34 #[.string ⟨#[102, 101, 108, 108]⟩] w fun e w' => e = .returned (commandV cmds[1]) ∧ ∃ n : ExtOf w, w' = n.val := by
  go_enter Tryz.func34, Tryz.ntmps34
  go_wp2_with ((with_reducible apply wl_store' lwCmd); (· (first | exact wanted_none rfl | exact wanted_some rfl rfl rfl)); (· rfl); (· rfl); (· infer_instance); (· rfl); (· rfl); (· (simp [Value.oneCell'])); try simp only [setRow_alloc, setRow_new, setRow_new1, setRow_new2, setRow_new11, setRow_new111])
  refine bodyPost_ret (results_cs (b0 := w.heap.size) rfl lwCmd rfl rfl inferInstance rfl) rfl ⟨rfl, by exact ExtOf.of (by with_reducible repeat' (first | exact Ext.refl _ | exact ExtOf.ext _ | refine Ext.trans ?_ (ExtOf.ext _) | refine Ext.alloc ?_ _ | refine Ext.drew ?_ | refine Ext.setCell ?_ ?_ _ | refine Ext.setRow ?_ ?_ _ | exact HX.out | refine Ext.trans ?_ HX.out | omega | (simp; done) | (simp; omega)))⟩
set_option maxRecDepth 20000 in
set_option maxHeartbeats 4000000 in
theorem command_scan (w : World) : Calls Tryz.prog 34 #[.string ⟨#[115, 99, 97, 110]⟩] w fun e w' => e = .returned (commandV cmds[2]) ∧ ∃ n : ExtOf w, w' = n.val := by
  go_enter Tryz.func34, Tryz.ntmps34
  go_wp2_with ((with_reducible apply wl_store' lwCmd); (· (first | exact wanted_none rfl | exact wanted_some rfl rfl rfl)); (· rfl); (· rfl); (· infer_instance); (· rfl); (· rfl); (· (simp [Value.oneCell'])); try simp only [setRow_alloc, setRow_new, setRow_new1, setRow_new2, setRow_new11, setRow_new111])
  refine bodyPost_ret (results_cs (b0 := w.heap.size) rfl lwCmd rfl rfl inferInstance rfl) rfl ⟨rfl, by exact ExtOf.of (by with_reducible repeat' (first | exact Ext.refl _ | exact ExtOf.ext _ | refine Ext.trans ?_ (ExtOf.ext _) | refine Ext.alloc ?_ _ | refine Ext.drew ?_ | refine Ext.setCell ?_ ?_ _ | refine Ext.setRow ?_ ?_ _ | exact HX.out | refine Ext.trans ?_ HX.out | omega | (simp; done) | (simp; omega)))⟩
set_option maxRecDepth 20000 in
set_option maxHeartbeats 4000000 in
theorem command_blind (w : World) : Calls Tryz.prog 34 #[.string ⟨#[98, 108, 105, 110, 100]⟩] w fun e w' => e = .returned (commandV cmds[3]) ∧ ∃ n : ExtOf w, w' = n.val := by
  go_enter Tryz.func34, Tryz.ntmps34
  go_wp2_with ((with_reducible apply wl_store' lwCmd); (· (first | exact wanted_none rfl | exact wanted_some rfl rfl rfl)); (· rfl); (· rfl); (· infer_instance); (· rfl); (· rfl); (· (simp [Value.oneCell'])); try simp only [setRow_alloc, setRow_new, setRow_new1, setRow_new2, setRow_new11, setRow_new111])
  refine bodyPost_ret (results_cs (b0 := w.heap.size) rfl lwCmd rfl rfl inferInstance rfl) rfl ⟨rfl, by exact ExtOf.of (by with_reducible repeat' (first | exact Ext.refl _ | exact ExtOf.ext _ | refine Ext.trans ?_ (ExtOf.ext _) | refine Ext.alloc ?_ _ | refine Ext.drew ?_ | refine Ext.setCell ?_ ?_ _ | refine Ext.setRow ?_ ?_ _ | exact HX.out | refine Ext.trans ?_ HX.out | omega | (simp; done) | (simp; omega)))⟩
set_option maxRecDepth 20000 in
set_option maxHeartbeats 4000000 in
theorem command_ship (w : World) : Calls Tryz.prog 34 #[.string ⟨#[115, 104, 105, 112]⟩] w fun e w' => e = .returned (commandV cmds[4]) ∧ ∃ n : ExtOf w, w' = n.val := by
  go_enter Tryz.func34, Tryz.ntmps34
  go_wp2_with ((with_reducible apply wl_store' lwCmd); (· (first | exact wanted_none rfl | exact wanted_some rfl rfl rfl)); (· rfl); (· rfl); (· infer_instance); (· rfl); (· rfl); (· (simp [Value.oneCell'])); try simp only [setRow_alloc, setRow_new, setRow_new1, setRow_new2, setRow_new11, setRow_new111])
  refine bodyPost_ret (results_cs (b0 := w.heap.size) rfl lwCmd rfl rfl inferInstance rfl) rfl ⟨rfl, by exact ExtOf.of (by with_reducible repeat' (first | exact Ext.refl _ | exact ExtOf.ext _ | refine Ext.trans ?_ (ExtOf.ext _) | refine Ext.alloc ?_ _ | refine Ext.drew ?_ | refine Ext.setCell ?_ ?_ _ | refine Ext.setRow ?_ ?_ _ | exact HX.out | refine Ext.trans ?_ HX.out | omega | (simp; done) | (simp; omega)))⟩
set_option maxRecDepth 20000 in
set_option maxHeartbeats 4000000 in
theorem command_trim (w : World) : Calls Tryz.prog 34 #[.string ⟨#[116, 114, 105, 109]⟩] w fun e w' => e = .returned (commandV cmds[5]) ∧ ∃ n : ExtOf w, w' = n.val := by
  go_enter Tryz.func34, Tryz.ntmps34
  go_wp2_with ((with_reducible apply wl_store' lwCmd); (· (first | exact wanted_none rfl | exact wanted_some rfl rfl rfl)); (· rfl); (· rfl); (· infer_instance); (· rfl); (· rfl); (· (simp [Value.oneCell'])); try simp only [setRow_alloc, setRow_new, setRow_new1, setRow_new2, setRow_new11, setRow_new111])
  refine bodyPost_ret (results_cs (b0 := w.heap.size) rfl lwCmd rfl rfl inferInstance rfl) rfl ⟨rfl, by exact ExtOf.of (by with_reducible repeat' (first | exact Ext.refl _ | exact ExtOf.ext _ | refine Ext.trans ?_ (ExtOf.ext _) | refine Ext.alloc ?_ _ | refine Ext.drew ?_ | refine Ext.setCell ?_ ?_ _ | refine Ext.setRow ?_ ?_ _ | exact HX.out | refine Ext.trans ?_ HX.out | omega | (simp; done) | (simp; omega)))⟩
set_option maxRecDepth 20000 in
set_option maxHeartbeats 4000000 in
theorem command_board (w : World) : Calls Tryz.prog 34 #[.string ⟨#[98, 111, 97, 114, 100]⟩] w fun e w' => e = .returned (commandV cmds[6]) ∧ ∃ n : ExtOf w, w' = n.val := by
  go_enter Tryz.func34, Tryz.ntmps34
  go_wp2_with ((with_reducible apply wl_store' lwCmd); (· (first | exact wanted_none rfl | exact wanted_some rfl rfl rfl)); (· rfl); (· rfl); (· infer_instance); (· rfl); (· rfl); (· (simp [Value.oneCell'])); try simp only [setRow_alloc, setRow_new, setRow_new1, setRow_new2, setRow_new11, setRow_new111])
  refine bodyPost_ret (results_cs (b0 := w.heap.size) rfl lwCmd rfl rfl inferInstance rfl) rfl ⟨rfl, by exact ExtOf.of (by with_reducible repeat' (first | exact Ext.refl _ | exact ExtOf.ext _ | refine Ext.trans ?_ (ExtOf.ext _) | refine Ext.alloc ?_ _ | refine Ext.drew ?_ | refine Ext.setCell ?_ ?_ _ | refine Ext.setRow ?_ ?_ _ | exact HX.out | refine Ext.trans ?_ HX.out | omega | (simp; done) | (simp; omega)))⟩
set_option maxRecDepth 20000 in
set_option maxHeartbeats 4000000 in
theorem command_story (w : World) : Calls Tryz.prog 34 #[.string ⟨#[115, 116, 111, 114, 121]⟩] w fun e w' => e = .returned (commandV cmds[7]) ∧ ∃ n : ExtOf w, w' = n.val := by
  go_enter Tryz.func34, Tryz.ntmps34
  go_wp2_with ((with_reducible apply wl_store' lwCmd); (· (first | exact wanted_none rfl | exact wanted_some rfl rfl rfl)); (· rfl); (· rfl); (· infer_instance); (· rfl); (· rfl); (· (simp [Value.oneCell'])); try simp only [setRow_alloc, setRow_new, setRow_new1, setRow_new2, setRow_new11, setRow_new111])
  refine bodyPost_ret (results_cs (b0 := w.heap.size) rfl lwCmd rfl rfl inferInstance rfl) rfl ⟨rfl, by exact ExtOf.of (by with_reducible repeat' (first | exact Ext.refl _ | exact ExtOf.ext _ | refine Ext.trans ?_ (ExtOf.ext _) | refine Ext.alloc ?_ _ | refine Ext.drew ?_ | refine Ext.setCell ?_ ?_ _ | refine Ext.setRow ?_ ?_ _ | exact HX.out | refine Ext.trans ?_ HX.out | omega | (simp; done) | (simp; omega)))⟩
set_option maxRecDepth 20000 in
set_option maxHeartbeats 4000000 in
theorem command_root (w : World) : Calls Tryz.prog 34 #[.string ⟨#[114, 111, 111, 116]⟩] w fun e w' => e = .returned (commandV cmds[8]) ∧ ∃ n : ExtOf w, w' = n.val := by
  go_enter Tryz.func34, Tryz.ntmps34
  go_wp2_with ((with_reducible apply wl_store' lwCmd); (· (first | exact wanted_none rfl | exact wanted_some rfl rfl rfl)); (· rfl); (· rfl); (· infer_instance); (· rfl); (· rfl); (· (simp [Value.oneCell'])); try simp only [setRow_alloc, setRow_new, setRow_new1, setRow_new2, setRow_new11, setRow_new111])
  refine bodyPost_ret (results_cs (b0 := w.heap.size) rfl lwCmd rfl rfl inferInstance rfl) rfl ⟨rfl, by exact ExtOf.of (by with_reducible repeat' (first | exact Ext.refl _ | exact ExtOf.ext _ | refine Ext.trans ?_ (ExtOf.ext _) | refine Ext.alloc ?_ _ | refine Ext.drew ?_ | refine Ext.setCell ?_ ?_ _ | refine Ext.setRow ?_ ?_ _ | exact HX.out | refine Ext.trans ?_ HX.out | omega | (simp; done) | (simp; omega)))⟩
set_option maxRecDepth 20000 in
set_option maxHeartbeats 4000000 in
theorem command_saw (w : World) : Calls Tryz.prog 34 #[.string ⟨#[115, 97, 119]⟩] w fun e w' => e = .returned (commandV cmds[9]) ∧ ∃ n : ExtOf w, w' = n.val := by
  go_enter Tryz.func34, Tryz.ntmps34
  go_wp2_with ((with_reducible apply wl_store' lwCmd); (· (first | exact wanted_none rfl | exact wanted_some rfl rfl rfl)); (· rfl); (· rfl); (· infer_instance); (· rfl); (· rfl); (· (simp [Value.oneCell'])); try simp only [setRow_alloc, setRow_new, setRow_new1, setRow_new2, setRow_new11, setRow_new111])
  refine bodyPost_ret (results_cs (b0 := w.heap.size) rfl lwCmd rfl rfl inferInstance rfl) rfl ⟨rfl, by exact ExtOf.of (by with_reducible repeat' (first | exact Ext.refl _ | exact ExtOf.ext _ | refine Ext.trans ?_ (ExtOf.ext _) | refine Ext.alloc ?_ _ | refine Ext.drew ?_ | refine Ext.setCell ?_ ?_ _ | refine Ext.setRow ?_ ?_ _ | exact HX.out | refine Ext.trans ?_ HX.out | omega | (simp; done) | (simp; omega)))⟩
set_option maxRecDepth 20000 in
set_option maxHeartbeats 4000000 in
theorem command_pack (w : World) : Calls Tryz.prog 34 #[.string ⟨#[112, 97, 99, 107]⟩] w fun e w' => e = .returned (commandV cmds[10]) ∧ ∃ n : ExtOf w, w' = n.val := by
  go_enter Tryz.func34, Tryz.ntmps34
  go_wp2_with ((with_reducible apply wl_store' lwCmd); (· (first | exact wanted_none rfl | exact wanted_some rfl rfl rfl)); (· rfl); (· rfl); (· infer_instance); (· rfl); (· rfl); (· (simp [Value.oneCell'])); try simp only [setRow_alloc, setRow_new, setRow_new1, setRow_new2, setRow_new11, setRow_new111])
  refine bodyPost_ret (results_cs (b0 := w.heap.size) rfl lwCmd rfl rfl inferInstance rfl) rfl ⟨rfl, by exact ExtOf.of (by with_reducible repeat' (first | exact Ext.refl _ | exact ExtOf.ext _ | refine Ext.trans ?_ (ExtOf.ext _) | refine Ext.alloc ?_ _ | refine Ext.drew ?_ | refine Ext.setCell ?_ ?_ _ | refine Ext.setRow ?_ ?_ _ | exact HX.out | refine Ext.trans ?_ HX.out | omega | (simp; done) | (simp; omega)))⟩
set_option maxRecDepth 20000 in
set_option maxHeartbeats 4000000 in
theorem command_inspect (w : World) : Calls Tryz.prog 34 #[.string ⟨#[105, 110, 115, 112, 101, 99, 116]⟩] w fun e w' => e = .returned (commandV cmds[11]) ∧ ∃ n : ExtOf w, w' = n.val := by
  go_enter Tryz.func34, Tryz.ntmps34
  go_wp2_with ((with_reducible apply wl_store' lwCmd); (· (first | exact wanted_none rfl | exact wanted_some rfl rfl rfl)); (· rfl); (· rfl); (· infer_instance); (· rfl); (· rfl); (· (simp [Value.oneCell'])); try simp only [setRow_alloc, setRow_new, setRow_new1, setRow_new2, setRow_new11, setRow_new111])
  refine bodyPost_ret (results_cs (b0 := w.heap.size) rfl lwCmd rfl rfl inferInstance rfl) rfl ⟨rfl, by exact ExtOf.of (by with_reducible repeat' (first | exact Ext.refl _ | exact ExtOf.ext _ | refine Ext.trans ?_ (ExtOf.ext _) | refine Ext.alloc ?_ _ | refine Ext.drew ?_ | refine Ext.setCell ?_ ?_ _ | refine Ext.setRow ?_ ?_ _ | exact HX.out | refine Ext.trans ?_ HX.out | omega | (simp; done) | (simp; omega)))⟩
set_option maxRecDepth 20000 in
set_option maxHeartbeats 4000000 in
theorem command_fault (w : World) : Calls Tryz.prog 34 #[.string ⟨#[102, 97, 117, 108, 116]⟩] w fun e w' => e = .returned (commandV cmds[12]) ∧ ∃ n : ExtOf w, w' = n.val := by
  go_enter Tryz.func34, Tryz.ntmps34
  go_wp2_with ((with_reducible apply wl_store' lwCmd); (· (first | exact wanted_none rfl | exact wanted_some rfl rfl rfl)); (· rfl); (· rfl); (· infer_instance); (· rfl); (· rfl); (· (simp [Value.oneCell'])); try simp only [setRow_alloc, setRow_new, setRow_new1, setRow_new2, setRow_new11, setRow_new111])
  refine bodyPost_ret (results_cs (b0 := w.heap.size) rfl lwCmd rfl rfl inferInstance rfl) rfl ⟨rfl, by exact ExtOf.of (by with_reducible repeat' (first | exact Ext.refl _ | exact ExtOf.ext _ | refine Ext.trans ?_ (ExtOf.ext _) | refine Ext.alloc ?_ _ | refine Ext.drew ?_ | refine Ext.setCell ?_ ?_ _ | refine Ext.setRow ?_ ?_ _ | exact HX.out | refine Ext.trans ?_ HX.out | omega | (simp; done) | (simp; omega)))⟩
set_option maxRecDepth 20000 in
set_option maxHeartbeats 4000000 in
theorem command_dry (w : World) : Calls Tryz.prog 34 #[.string ⟨#[100, 114, 121]⟩] w fun e w' => e = .returned (commandV cmds[13]) ∧ ∃ n : ExtOf w, w' = n.val := by
  go_enter Tryz.func34, Tryz.ntmps34
  go_wp2_with ((with_reducible apply wl_store' lwCmd); (· (first | exact wanted_none rfl | exact wanted_some rfl rfl rfl)); (· rfl); (· rfl); (· infer_instance); (· rfl); (· rfl); (· (simp [Value.oneCell'])); try simp only [setRow_alloc, setRow_new, setRow_new1, setRow_new2, setRow_new11, setRow_new111])
  refine bodyPost_ret (results_cs (b0 := w.heap.size) rfl lwCmd rfl rfl inferInstance rfl) rfl ⟨rfl, by exact ExtOf.of (by with_reducible repeat' (first | exact Ext.refl _ | exact ExtOf.ext _ | refine Ext.trans ?_ (ExtOf.ext _) | refine Ext.alloc ?_ _ | refine Ext.drew ?_ | refine Ext.setCell ?_ ?_ _ | refine Ext.setRow ?_ ?_ _ | exact HX.out | refine Ext.trans ?_ HX.out | omega | (simp; done) | (simp; omega)))⟩
set_option maxRecDepth 20000 in
set_option maxHeartbeats 4000000 in
theorem command_order (w : World) : Calls Tryz.prog 34 #[.string ⟨#[111, 114, 100, 101, 114]⟩] w fun e w' => e = .returned (commandV cmds[14]) ∧ ∃ n : ExtOf w, w' = n.val := by
  go_enter Tryz.func34, Tryz.ntmps34
  go_wp2_with ((with_reducible apply wl_store' lwCmd); (· (first | exact wanted_none rfl | exact wanted_some rfl rfl rfl)); (· rfl); (· rfl); (· infer_instance); (· rfl); (· rfl); (· (simp [Value.oneCell'])); try simp only [setRow_alloc, setRow_new, setRow_new1, setRow_new2, setRow_new11, setRow_new111])
  refine bodyPost_ret (results_cs (b0 := w.heap.size) rfl lwCmd rfl rfl inferInstance rfl) rfl ⟨rfl, by exact ExtOf.of (by with_reducible repeat' (first | exact Ext.refl _ | exact ExtOf.ext _ | refine Ext.trans ?_ (ExtOf.ext _) | refine Ext.alloc ?_ _ | refine Ext.drew ?_ | refine Ext.setCell ?_ ?_ _ | refine Ext.setRow ?_ ?_ _ | exact HX.out | refine Ext.trans ?_ HX.out | omega | (simp; done) | (simp; omega)))⟩
set_option maxRecDepth 20000 in
set_option maxHeartbeats 4000000 in
theorem command_assign (w : World) : Calls Tryz.prog 34 #[.string ⟨#[97, 115, 115, 105, 103, 110]⟩] w fun e w' => e = .returned (commandV cmds[15]) ∧ ∃ n : ExtOf w, w' = n.val := by
  go_enter Tryz.func34, Tryz.ntmps34
  go_wp2_with ((with_reducible apply wl_store' lwCmd); (· (first | exact wanted_none rfl | exact wanted_some rfl rfl rfl)); (· rfl); (· rfl); (· infer_instance); (· rfl); (· rfl); (· (simp [Value.oneCell'])); try simp only [setRow_alloc, setRow_new, setRow_new1, setRow_new2, setRow_new11, setRow_new111])
  refine bodyPost_ret (results_cs (b0 := w.heap.size) rfl lwCmd rfl rfl inferInstance rfl) rfl ⟨rfl, by exact ExtOf.of (by with_reducible repeat' (first | exact Ext.refl _ | exact ExtOf.ext _ | refine Ext.trans ?_ (ExtOf.ext _) | refine Ext.alloc ?_ _ | refine Ext.drew ?_ | refine Ext.setCell ?_ ?_ _ | refine Ext.setRow ?_ ?_ _ | exact HX.out | refine Ext.trans ?_ HX.out | omega | (simp; done) | (simp; omega)))⟩
set_option maxRecDepth 20000 in
set_option maxHeartbeats 4000000 in
theorem command_books (w : World) : Calls Tryz.prog 34 #[.string ⟨#[98, 111, 111, 107, 115]⟩] w fun e w' => e = .returned (commandV cmds[16]) ∧ ∃ n : ExtOf w, w' = n.val := by
  go_enter Tryz.func34, Tryz.ntmps34
  go_wp2_with ((with_reducible apply wl_store' lwCmd); (· (first | exact wanted_none rfl | exact wanted_some rfl rfl rfl)); (· rfl); (· rfl); (· infer_instance); (· rfl); (· rfl); (· (simp [Value.oneCell'])); try simp only [setRow_alloc, setRow_new, setRow_new1, setRow_new2, setRow_new11, setRow_new111])
  refine bodyPost_ret (results_cs (b0 := w.heap.size) rfl lwCmd rfl rfl inferInstance rfl) rfl ⟨rfl, by exact ExtOf.of (by with_reducible repeat' (first | exact Ext.refl _ | exact ExtOf.ext _ | refine Ext.trans ?_ (ExtOf.ext _) | refine Ext.alloc ?_ _ | refine Ext.drew ?_ | refine Ext.setCell ?_ ?_ _ | refine Ext.setRow ?_ ?_ _ | exact HX.out | refine Ext.trans ?_ HX.out | omega | (simp; done) | (simp; omega)))⟩
set_option maxRecDepth 20000 in
set_option maxHeartbeats 4000000 in
theorem command_digest (w : World) : Calls Tryz.prog 34 #[.string ⟨#[100, 105, 103, 101, 115, 116]⟩] w fun e w' => e = .returned (commandV cmds[17]) ∧ ∃ n : ExtOf w, w' = n.val := by
  go_enter Tryz.func34, Tryz.ntmps34
  go_wp2_with ((with_reducible apply wl_store' lwCmd); (· (first | exact wanted_none rfl | exact wanted_some rfl rfl rfl)); (· rfl); (· rfl); (· infer_instance); (· rfl); (· rfl); (· (simp [Value.oneCell'])); try simp only [setRow_alloc, setRow_new, setRow_new1, setRow_new2, setRow_new11, setRow_new111])
  refine bodyPost_ret (results_cs (b0 := w.heap.size) rfl lwCmd rfl rfl inferInstance rfl) rfl ⟨rfl, by exact ExtOf.of (by with_reducible repeat' (first | exact Ext.refl _ | exact ExtOf.ext _ | refine Ext.trans ?_ (ExtOf.ext _) | refine Ext.alloc ?_ _ | refine Ext.drew ?_ | refine Ext.setCell ?_ ?_ _ | refine Ext.setRow ?_ ?_ _ | exact HX.out | refine Ext.trans ?_ HX.out | omega | (simp; done) | (simp; omega)))⟩
set_option maxRecDepth 20000 in
set_option maxHeartbeats 4000000 in
theorem command_sell (w : World) : Calls Tryz.prog 34 #[.string ⟨#[115, 101, 108, 108]⟩] w fun e w' => e = .returned (commandV cmds[18]) ∧ ∃ n : ExtOf w, w' = n.val := by
  go_enter Tryz.func34, Tryz.ntmps34
  go_wp2_with ((with_reducible apply wl_store' lwCmd); (· (first | exact wanted_none rfl | exact wanted_some rfl rfl rfl)); (· rfl); (· rfl); (· infer_instance); (· rfl); (· rfl); (· (simp [Value.oneCell'])); try simp only [setRow_alloc, setRow_new, setRow_new1, setRow_new2, setRow_new11, setRow_new111])
  refine bodyPost_ret (results_cs (b0 := w.heap.size) rfl lwCmd rfl rfl inferInstance rfl) rfl ⟨rfl, by exact ExtOf.of (by with_reducible repeat' (first | exact Ext.refl _ | exact ExtOf.ext _ | refine Ext.trans ?_ (ExtOf.ext _) | refine Ext.alloc ?_ _ | refine Ext.drew ?_ | refine Ext.setCell ?_ ?_ _ | refine Ext.setRow ?_ ?_ _ | exact HX.out | refine Ext.trans ?_ HX.out | omega | (simp; done) | (simp; omega)))⟩
set_option maxRecDepth 20000 in
set_option maxHeartbeats 4000000 in
theorem command_resaw (w : World) : Calls Tryz.prog 34 #[.string ⟨#[114, 101, 115, 97, 119]⟩] w fun e w' => e = .returned (commandV cmds[19]) ∧ ∃ n : ExtOf w, w' = n.val := by
  go_enter Tryz.func34, Tryz.ntmps34
  go_wp2_with ((with_reducible apply wl_store' lwCmd); (· (first | exact wanted_none rfl | exact wanted_some rfl rfl rfl)); (· rfl); (· rfl); (· infer_instance); (· rfl); (· rfl); (· (simp [Value.oneCell'])); try simp only [setRow_alloc, setRow_new, setRow_new1, setRow_new2, setRow_new11, setRow_new111])
  refine bodyPost_ret (results_cs (b0 := w.heap.size) rfl lwCmd rfl rfl inferInstance rfl) rfl ⟨rfl, by exact ExtOf.of (by with_reducible repeat' (first | exact Ext.refl _ | exact ExtOf.ext _ | refine Ext.trans ?_ (ExtOf.ext _) | refine Ext.alloc ?_ _ | refine Ext.drew ?_ | refine Ext.setCell ?_ ?_ _ | refine Ext.setRow ?_ ?_ _ | exact HX.out | refine Ext.trans ?_ HX.out | omega | (simp; done) | (simp; omega)))⟩
set_option maxRecDepth 20000 in
set_option maxHeartbeats 4000000 in
theorem command_wait (w : World) : Calls Tryz.prog 34 #[.string ⟨#[119, 97, 105, 116]⟩] w fun e w' => e = .returned (commandV cmds[20]) ∧ ∃ n : ExtOf w, w' = n.val := by
  go_enter Tryz.func34, Tryz.ntmps34
  go_wp2_with ((with_reducible apply wl_store' lwCmd); (· (first | exact wanted_none rfl | exact wanted_some rfl rfl rfl)); (· rfl); (· rfl); (· infer_instance); (· rfl); (· rfl); (· (simp [Value.oneCell'])); try simp only [setRow_alloc, setRow_new, setRow_new1, setRow_new2, setRow_new11, setRow_new111])
  refine bodyPost_ret (results_cs (b0 := w.heap.size) rfl lwCmd rfl rfl inferInstance rfl) rfl ⟨rfl, by exact ExtOf.of (by with_reducible repeat' (first | exact Ext.refl _ | exact ExtOf.ext _ | refine Ext.trans ?_ (ExtOf.ext _) | refine Ext.alloc ?_ _ | refine Ext.drew ?_ | refine Ext.setCell ?_ ?_ _ | refine Ext.setRow ?_ ?_ _ | exact HX.out | refine Ext.trans ?_ HX.out | omega | (simp; done) | (simp; omega)))⟩
set_option maxRecDepth 20000 in
set_option maxHeartbeats 4000000 in
theorem command_crash (w : World) : Calls Tryz.prog 34 #[.string ⟨#[99, 114, 97, 115, 104]⟩] w fun e w' => e = .returned (commandV cmds[21]) ∧ ∃ n : ExtOf w, w' = n.val := by
  go_enter Tryz.func34, Tryz.ntmps34
  go_wp2_with ((with_reducible apply wl_store' lwCmd); (· (first | exact wanted_none rfl | exact wanted_some rfl rfl rfl)); (· rfl); (· rfl); (· infer_instance); (· rfl); (· rfl); (· (simp [Value.oneCell'])); try simp only [setRow_alloc, setRow_new, setRow_new1, setRow_new2, setRow_new11, setRow_new111])
  refine bodyPost_ret (results_cs (b0 := w.heap.size) rfl lwCmd rfl rfl inferInstance rfl) rfl ⟨rfl, by exact ExtOf.of (by with_reducible repeat' (first | exact Ext.refl _ | exact ExtOf.ext _ | refine Ext.trans ?_ (ExtOf.ext _) | refine Ext.alloc ?_ _ | refine Ext.drew ?_ | refine Ext.setCell ?_ ?_ _ | refine Ext.setRow ?_ ?_ _ | exact HX.out | refine Ext.trans ?_ HX.out | omega | (simp; done) | (simp; omega)))⟩
set_option maxRecDepth 20000 in
set_option maxHeartbeats 4000000 in
theorem command_none (s : ByteArray) (w : World) (h : cmdOf s = none) : Calls Tryz.prog 34 #[.string s] w fun e w' => e = .returned (commandV none) ∧ ∃ n : ExtOf w, w' = n.val := by
  have n0 : (s.toList == [112, 101, 114, 109, 105, 116]) = false := cmdOf_none h cmds[0] (List.getElem_mem _)
  have n1 : (s.toList == [102, 101, 108, 108]) = false := cmdOf_none h cmds[1] (List.getElem_mem _)
  have n2 : (s.toList == [115, 99, 97, 110]) = false := cmdOf_none h cmds[2] (List.getElem_mem _)
  have n3 : (s.toList == [98, 108, 105, 110, 100]) = false := cmdOf_none h cmds[3] (List.getElem_mem _)
  have n4 : (s.toList == [115, 104, 105, 112]) = false := cmdOf_none h cmds[4] (List.getElem_mem _)
  have n5 : (s.toList == [116, 114, 105, 109]) = false := cmdOf_none h cmds[5] (List.getElem_mem _)
  have n6 : (s.toList == [98, 111, 97, 114, 100]) = false := cmdOf_none h cmds[6] (List.getElem_mem _)
  have n7 : (s.toList == [115, 116, 111, 114, 121]) = false := cmdOf_none h cmds[7] (List.getElem_mem _)
  have n8 : (s.toList == [114, 111, 111, 116]) = false := cmdOf_none h cmds[8] (List.getElem_mem _)
  have n9 : (s.toList == [115, 97, 119]) = false := cmdOf_none h cmds[9] (List.getElem_mem _)
  have n10 : (s.toList == [112, 97, 99, 107]) = false := cmdOf_none h cmds[10] (List.getElem_mem _)
  have n11 : (s.toList == [105, 110, 115, 112, 101, 99, 116]) = false := cmdOf_none h cmds[11] (List.getElem_mem _)
  have n12 : (s.toList == [102, 97, 117, 108, 116]) = false := cmdOf_none h cmds[12] (List.getElem_mem _)
  have n13 : (s.toList == [100, 114, 121]) = false := cmdOf_none h cmds[13] (List.getElem_mem _)
  have n14 : (s.toList == [111, 114, 100, 101, 114]) = false := cmdOf_none h cmds[14] (List.getElem_mem _)
  have n15 : (s.toList == [97, 115, 115, 105, 103, 110]) = false := cmdOf_none h cmds[15] (List.getElem_mem _)
  have n16 : (s.toList == [98, 111, 111, 107, 115]) = false := cmdOf_none h cmds[16] (List.getElem_mem _)
  have n17 : (s.toList == [100, 105, 103, 101, 115, 116]) = false := cmdOf_none h cmds[17] (List.getElem_mem _)
  have n18 : (s.toList == [115, 101, 108, 108]) = false := cmdOf_none h cmds[18] (List.getElem_mem _)
  have n19 : (s.toList == [114, 101, 115, 97, 119]) = false := cmdOf_none h cmds[19] (List.getElem_mem _)
  have n20 : (s.toList == [119, 97, 105, 116]) = false := cmdOf_none h cmds[20] (List.getElem_mem _)
  have n21 : (s.toList == [99, 114, 97, 115, 104]) = false := cmdOf_none h cmds[21] (List.getElem_mem _)
  clear h
  go_enter Tryz.func34, Tryz.ntmps34
  go_wp2_with ((with_reducible apply wl_store' lwCmd); (· (first | exact wanted_none rfl | exact wanted_some rfl rfl rfl)); (· rfl); (· rfl); (· infer_instance); (· rfl); (· rfl); (· (simp [Value.oneCell'])); try simp only [setRow_alloc, setRow_new, setRow_new1, setRow_new2, setRow_new11, setRow_new111])
  refine bodyPost_ret (results_cs (b0 := w.heap.size) rfl lwCmd rfl rfl inferInstance rfl) rfl ⟨rfl, by exact ExtOf.of (by with_reducible repeat' (first | exact Ext.refl _ | exact ExtOf.ext _ | refine Ext.trans ?_ (ExtOf.ext _) | refine Ext.alloc ?_ _ | refine Ext.drew ?_ | refine Ext.setCell ?_ ?_ _ | refine Ext.setRow ?_ ?_ _ | exact HX.out | refine Ext.trans ?_ HX.out | omega | (simp; done) | (simp; omega)))⟩
theorem command_any (s : ByteArray) (w : World) : Calls Tryz.prog 34 #[.string s] w fun e w' => e = .returned (commandV (cmdOf s)) ∧ ∃ n : ExtOf w, w' = n.val := by
  cases h : cmdOf s with
  | none => exact command_none s w h
  | some c =>
    obtain ⟨hc, rfl⟩ := cmdOf_some h
    simp only [cmds, List.mem_cons, List.not_mem_nil, or_false] at hc
    rcases hc with rfl | rfl | rfl | rfl | rfl | rfl | rfl | rfl | rfl | rfl | rfl | rfl | rfl | rfl | rfl | rfl | rfl | rfl | rfl | rfl | rfl | rfl
    · exact command_permit w
    · exact command_fell w
    · exact command_scan w
    · exact command_blind w
    · exact command_ship w
    · exact command_trim w
    · exact command_board w
    · exact command_story w
    · exact command_root w
    · exact command_saw w
    · exact command_pack w
    · exact command_inspect w
    · exact command_fault w
    · exact command_dry w
    · exact command_order w
    · exact command_assign w
    · exact command_books w
    · exact command_digest w
    · exact command_sell w
    · exact command_resaw w
    · exact command_wait w
    · exact command_crash w
end Go.Proofs.YtjflmmipjeangaaGreatDoor
end
