/-
  Chapter 62: several texts in one (C1, C2).
-/
import Derived.Test.YtjflmmipjeangaaGreatDoorK4
import Derived.Lib.Builder
import Derived.Lib.UnsafeStr
import Derived.Shelf.RegionOpenPlain
/-
  Chapter 62: copyCheck and String of a builder.
-/
section
set_option linter.unusedVariables false
set_option linter.unusedSimpArgs false
namespace Go.Proofs.YtjflmmipjeangaaGreatDoor
open Go.RowKit ScM

theorem infoBld : (Tryz.prog.info? 63).map (·.size) = some 2 := by kernel_rfl
theorem liesBld : liesAt Tryz.prog Tryz.prog.depth 63 (2 / Tryz.prog.cellsOf 63) 0 63 1 = true := by kernel_rfl
set_option maxRecDepth 20000 in
set_option maxHeartbeats 1000000 in
theorem ccheck_used (b : Nat) (w : World) (h0 : w.cell? ⟨b, 0, none⟩ = some (.pointer (some ⟨b, 0, none⟩))) :
    Calls Tryz.prog 41 #[.pointer (some ⟨b, 0, none⟩)] w fun e w' => e = .returned (.tuple #[]) ∧ w' = w := by
  obtain ⟨j, hj, _⟩ := Option.map_eq_some_iff.1 infoBld
  go_enter Tryz.func41, Tryz.ntmps41
  go_wp2
  try rw [Lib.run_neq_ptr_same w _ Tryz.underlying60 hj]
  try go_wp2
  go_end0
  exact ⟨rfl, rfl⟩
set_option maxRecDepth 20000 in
set_option maxHeartbeats 1000000 in
theorem ccheck_fresh (b : Nat) (w : World) (h0 : w.cell? ⟨b, 0, none⟩ = some (.pointer none)) (hsh : w.shape? b = some (63, 2)) (hfz : w.frozen? ⟨b, 0, none⟩ = false) :
    Calls Tryz.prog 41 #[.pointer (some ⟨b, 0, none⟩)] w fun e w' => e = .returned (.tuple #[]) ∧ w' = w.setCell ⟨b, 0, none⟩ (.pointer (some ⟨b, 0, none⟩)) := by
  obtain ⟨j, hj, hjs⟩ := Option.map_eq_some_iff.1 infoBld
  have e1 := Lib.run_to_unsafe (P := Tryz.prog) w ⟨b, 0, none⟩ Tryz.underlying60 Tryz.underlying204 hj (by rw [hjs]; decide) hsh (Nat.zero_lt_succ 1)
  have e2 := Lib.run_from_unsafe (P := Tryz.prog) w ⟨b, 0, none⟩ Tryz.underlying204 Tryz.underlying60 hj hsh liesBld
  go_enter Tryz.func41, Tryz.ntmps41
  go_wp2
  try rw [run_callFunc_extern Tryz.func108 (by kernel_rfl) (by kernel_rfl) (by kernel_rfl) (e := Extern.AbiNoEscape.same) (by kernel_rfl)]
  try rw [Lib.run_noEscape]
  try simp only [Result.andThen]
  try rw [Oper.upon_value]
  try go_wp2
  go_end0
  exact ⟨rfl, rfl⟩
theorem cellsU8 : Tryz.prog.cellsOf 5 = 1 := by kernel_rfl
set_option maxHeartbeats 2000000 in
set_option maxRecDepth 100000 in
theorem bs_nil (b : Nat) (w : World) (h : w.cell? ⟨b, 1, none⟩ = some (.slice none 0 0)) :
    Calls Tryz.prog 21 #[.pointer (some ⟨b, 0, none⟩)] w fun e w' => e = .returned (.string .empty) ∧ w' = w.drew := by
  have hUS := Lib.run_unsafeString_none (P := Tryz.prog) w.drew 125 3 9 none
  have c1 : w.drew.cell? ⟨b, 1, none⟩ = some (.slice none 0 0) := h
  have hSD : (Builtin.unsafeSliceData_ #[61] 125 #[.slice none 0 0]).run Tryz.prog w.drew = .ok (.pointer none) w.drew := rfl
  have mixed : Tryz.prog.follows .mixedOrders = true := by kernel_rfl
  go_enter Tryz.func21, Tryz.ntmps21
  go_wp2
  go_region_o
  all_goals (go_wp2; go_ret; exact ⟨rfl, rfl⟩)
set_option maxHeartbeats 2000000 in
set_option maxRecDepth 100000 in
theorem bs_row (b q cap cells : Nat) (l : List UInt8) (w : World) (h : w.cell? ⟨b, 1, none⟩ = some (.slice (some ⟨q, 0, none⟩) l.length cap)) (h0 : l ≠ []) (hcap : l.length ≤ cap) (h1 : l.length ≤ 1000000) (hsh : w.shape? q = some (5, cells)) (hn : l.length ≤ cells) (hc : ∀ (j : Nat) x, l[j]? = some x → w.cell? ⟨q, j, none⟩ = some (.int .u8 x.toNat)) :
    Calls Tryz.prog 21 #[.pointer (some ⟨b, 0, none⟩)] w fun e w' => e = .returned (.string ⟨l.toArray⟩) ∧ w' = w.drew.freeze ⟨q, 0, none⟩ l.length := by
  have hl0 : l.length ≠ 0 := by simpa using h0
  have c1 : w.drew.cell? ⟨b, 1, none⟩ = some (.slice (some ⟨q, 0, none⟩) l.length cap) := h
  have hSD : (Builtin.unsafeSliceData_ #[61] 125 #[.slice (some ⟨q, 0, none⟩) l.length cap]).run Tryz.prog w.drew = .ok (.pointer (some ⟨q, 0, none⟩)) w.drew :=
    Lib.run_unsafeSliceData_row _ _ _ _ _ _ (by omega)
  have hUS : (Builtin.unsafeString_ #[125, 3] 9 #[.pointer (some ⟨q, 0, none⟩), .int .i64 l.length]).run Tryz.prog w.drew = .ok (.string ⟨l.toArray⟩) (w.drew.freeze ⟨q, 0, none⟩ l.length) := by
    refine Lib.run_unsafeString_row w.drew 125 3 9 5 Tryz.underlying125 cellsU8 q cells hsh l h0 hn (by omega) ?_
    intro j x hx
    have hadd : (⟨q, 0, none⟩ : Addr).add j = ⟨q, j, none⟩ := by unfold Addr.add; split <;> simp_all
    rw [hadd]
    exact hc j x hx
  clear h0 hl0 h1 hn hsh hc hcap h
  have mixed : Tryz.prog.follows .mixedOrders = true := by kernel_rfl
  go_enter Tryz.func21, Tryz.ntmps21
  go_wp2
  go_region_o
  all_goals (go_wp2; go_ret; exact ⟨rfl, rfl⟩)
end Go.Proofs.YtjflmmipjeangaaGreatDoor
end
/-
  Chapter 62: journal.readAll of a disk whose blocks are all empty.
-/
section
set_option linter.unusedVariables false
set_option linter.unusedSimpArgs false
namespace Go.Proofs.YtjflmmipjeangaaGreatDoor
open Go.RowKit ScM

attribute [local go_sem] ExtOf.cell ExtOf.frozen Block.cell Block.frozen ExtB.cell ExtB.frozen alloc_cell alloc_frozen
/-- the disk in block d: n empty blocks in block B, no write pending (block M), not down -/
structure DkW (w : World) (d B M n : Nat) : Prop where
  blocks : w.cell? ⟨d, 0, none⟩ = some (.slice (some ⟨B, 0, none⟩) n n)
  newest : w.cell? ⟨d, 2, none⟩ = some (.map (some M))
  down : w.cell? ⟨d, 6, none⟩ = some (.bool false)
  empty : ∀ i, i < n → w.cell? ⟨B, i, none⟩ = some (.string .empty)
  none_ : ∃ clock, w.heap[M]? = some (.map #[] clock)
  lts : d < w.heap.size ∧ B < w.heap.size ∧ M < w.heap.size
theorem DkW.ext {w w' : World} {d B M n : Nat} (h : DkW w d B M n) (hx : Ext w w') : DkW w' d B M n := by
  obtain ⟨l1, l2, l3⟩ := h.lts
  have hs := hx.size
  have hcell : ∀ b i, b < w.heap.size → w'.cell? ⟨b, i, none⟩ = w.cell? ⟨b, i, none⟩ := fun b i hb => by
    simp only [World.cell?, hx.block b hb]
  exact ⟨by rw [hcell _ _ l1]; exact h.blocks, by rw [hcell _ _ l1]; exact h.newest, by rw [hcell _ _ l1]; exact h.down, fun i hi => by rw [hcell _ _ l2]; exact h.empty i hi, by rw [hx.block _ l3]; exact h.none_, by omega, by omega, by omega⟩
theorem look_empty {w : World} {M : Nat} {clock : Nat} (h : w.heap[M]? = some (.map #[] clock)) (i : Nat) (hi : i ≤ 1000000) : (Instr.lookup 79 (.map (some M)) (.int .i64 i) true).run Tryz.prog w = .ok (.tuple #[.string ⟨#[]⟩, .bool false]) w := by
  have hI : Tryz.prog.info? 9 = some ((Tryz.prog.info? 9).getD default) := by kernel_rfl
  have hZ : ((Tryz.prog.info? 9).getD default).zero = some (.string ⟨#[]⟩) := by kernel_rfl
  have hck : (Instr.checkKey true 10000 3 (.int .i64 (i : Int))).run Tryz.prog w = .ok () w := by
    show (Instr.checkKey true (9999 + 1) 3 (.int .i64 (i : Int))).run Tryz.prog w = .ok () w
    unfold Instr.checkKey
    simp [run_underlying Tryz.underlying3, Sem.run_bind, Sem.run_pure, Result.andThen_ok]
  have hfk : (Instr.findKey 3 (.int .i64 (i : Int)) []).run Tryz.prog w = .ok none w := by
    unfold Instr.findKey
    simp [run_underlying Tryz.underlying3, Instr.findNow, Sem.run_bind, Sem.run_pure, Result.andThen_ok]
  generalize ((Tryz.prog.info? 9).getD default) = inf at hI hZ
  simp [Instr.lookup, run_underlying Tryz.underlying79, getObj, h, hck, hfk, zeroValue, typeInfo, program, hI, hZ, Sem.run_bind, Sem.run, Sem.run_pure, Result.andThen_ok]
set_option maxRecDepth 20000 in
set_option maxHeartbeats 1600000 in
theorem has_any {w : World} {d B M n : Nat} (h : DkW w d B M n) (hn : n ≤ 1000000) (i : Nat) (hi : i < n) : Calls Tryz.prog 750 #[.pointer (some ⟨d, 0, none⟩), .int .i64 i] w fun e w' => e = .returned (.bool true) ∧ w' = w := by
  have c0 := h.blocks
  have q1 : decide ((0 : Int) ≤ (i : Int)) = true := decide_eq_true (by omega)
  have q2 : decide ((i : Int) < (n : Int)) = true := decide_eq_true (by omega)
  have q3 : decide (i < n) = true := decide_eq_true hi
  clear h hi
  go_enter Tryz.func750, Tryz.ntmps750
  go_wp2
  go_ret
  exact ⟨rfl, rfl⟩
set_option maxRecDepth 20000 in
set_option maxHeartbeats 1600000 in
theorem read_any {w : World} {d B M n : Nat} (h : DkW w d B M n) (hn : n ≤ 1000000) (i : Nat) (hi : i < n) : Calls Tryz.prog 746 #[.pointer (some ⟨d, 0, none⟩), .int .i64 i] w fun e w' => e = .returned (.tuple #[.string ⟨#[]⟩, .int .i64 0]) ∧ w' = w := by
  have HH := Lib.hid fun (_ : Unit) => has_any h hn i hi
  have c0 := h.blocks
  have c2 := h.newest
  have c6 := h.down
  have ce : w.cell? ⟨B, i, none⟩ = some (.string ⟨#[]⟩) := h.empty i hi
  obtain ⟨clock, hM⟩ := h.none_
  have hl := look_empty hM i (by omega)
  have q2 : (i : Int) < (n : Int) := by omega
  clear h hM
  go_enter Tryz.func746, Tryz.ntmps746
  go_wp2_with (go_at_call 750; refine (HH.out ()).mono ?_; rintro e w' ⟨rfl, h⟩; obtain rfl := h.symm)
  go_ret2
  exact ⟨rfl, rfl⟩
set_option maxRecDepth 20000 in
set_option maxHeartbeats 1600000 in
theorem blocks_any {w : World} {d B M n : Nat} (h : DkW w d B M n) : Calls Tryz.prog 744 #[.pointer (some ⟨d, 0, none⟩)] w fun e w' => e = .returned (.int .i64 n) ∧ w' = w := by
  have c0 := h.blocks
  clear h
  go_enter Tryz.func744, Tryz.ntmps744
  go_wp2
  go_ret
  exact ⟨rfl, rfl⟩
theorem infoStrR : (Tryz.prog.info? 9).map (fun i => (i.zero, i.size, i.bytes)) = some (some (.string ⟨#[]⟩), 1, 16) := by kernel_rfl
set_option maxRecDepth 20000 in
set_option maxHeartbeats 1600000 in
theorem readAll_any {w : World} {d B M n : Nat} (h : DkW w d B M n) (h0 : 0 < n) (hn : n ≤ 1000000) : Calls Tryz.prog 60 #[.iface 43 (.pointer (some ⟨d, 0, none⟩))] w fun e w' => ∃ v, e = .returned (.tuple #[v, .int .i64 0]) ∧ Own encS 1 9 w.heap.size w' v (List.replicate n ⟨#[]⟩) ∧ ∃ n : ExtOf w, w' = n.val := by
  obtain ⟨iS, hiS, hS0, hS1, hS2⟩ := info_parts infoStrR
  have HB := Lib.hid fun (_ : Unit) => blocks_any h
  have HD := Lib.hid h
  clear h
  go_enter Tryz.func60, Tryz.ntmps60
  go_wp2_with (go_at_call 744; refine (HB.out ()).mono ?_; rintro e w' ⟨rfl, h⟩; obtain rfl := h.symm)
  go_loopw [4, 10] (fun vo vi wr => ∃ k : Nat, k ≤ n ∧ vi = .int .i64 k ∧ Own encS 1 9 w.heap.size wr vo (List.replicate k ⟨#[]⟩) ∧ Ext w wr) (fun _ vi _ => n - (intOf vi).toNat)
  case atStart => exact ⟨0, Nat.zero_le _, rfl, ⟨rfl, .inl ⟨rfl, rfl⟩⟩, Ext.refl _⟩
  case round =>
    obtain ⟨k, hk, rfl, ho, hx⟩ := hrel
    obtain ⟨l, el⟩ : ∃ l : List ByteArray, l = List.replicate k ⟨#[]⟩ := ⟨_, rfl⟩
    rw [← el] at ho
    have HX := Lib.hid hx
    have HO := Lib.hid ho
    have hle : l.length ≤ 1000000 := by rw [el, List.length_replicate]; omega
    have HL := Lib.hid el
    obtain ⟨q, c, rfl⟩ := Own.form2 ho
    clear ho hx el
    by_cases hlt : k < n
    · have q1 : decide ((k : Int) < n) = true := decide_eq_true (by omega)
      have HR := Lib.hid fun (_ : Unit) => read_any (HD.out.ext HX.out) hn k hlt
      go_wp2_with (first | (go_at_call 746; refine (HR.out ()).mono ?_; rintro e w' ⟨rfl, h⟩; obtain rfl := h.symm) | (at_builtin; refine wl_append1g (enc := encS) (k := 1) (E := 9) (base := w.heap.size) (l := l) (y := ⟨#[]⟩) Tryz.underlying25 hiS hS0 hS1 hS2 rfl (by decide) encS_len encS_one rfl rfl (Own.alloc HO.out _) inferInstance rfl (by unfold maxLen; omega) (by omega) (by have := HX.out.size; simp; omega) ?_; intro v7 n7 ho7 hk7))
      go_roundw
      case rel => exact ⟨k + 1, by omega, by first | rfl | go_num, by rw [List.replicate_succ', ← HL.out]; exact ho7, Below.trans (HX.out.trans ((Ext.refl _).alloc _)) n7.below⟩
      case measure => simp [intOf]; omega
    · have q1 : decide ((k : Int) < n) = false := decide_eq_false (by omega)
      obtain rfl : k = n := by omega
      go_wp2_with fail
      go_ret2
      exact ⟨_, rfl, by rw [← HL.out]; exact HO.out, ExtOf.of HX.out⟩
end Go.Proofs.YtjflmmipjeangaaGreatDoor
end
