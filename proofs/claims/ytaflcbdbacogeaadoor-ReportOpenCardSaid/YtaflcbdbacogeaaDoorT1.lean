/-
  (*strings.Builder).WriteString, of a builder of the call's own: every block but the builder's own is as it was.
-/
import Derived.Test.YtaflcbdbacogeaaDoorS2
import Derived.Shelf.Strings.BuilderK
set_option linter.unusedVariables false
set_option linter.unusedSimpArgs false
namespace Go.Proofs.YtaflcbdbacogeaaDoor
open Go.RowKit ReportM Go.Shelf

theorem infoBld : (Tryd.prog.info? 134).map (·.size) = some 2 := by kernel_rfl
theorem liesBld : liesAt Tryd.prog Tryd.prog.depth 134 (2 / Tryd.prog.cellsOf 134) 0 134 1 = true := by kernel_rfl
theorem infoU8 : (Tryd.prog.info? 5).map (fun i => (i.zero, i.size, i.bytes)) = some (some (.int .u8 0), 1, 1) := by kernel_rfl
set_option maxRecDepth 20000 in
set_option maxHeartbeats 1000000 in
theorem ccheck_used (b : Nat) (w : World) (h0 : w.cell? ⟨b, 0, none⟩ = some (.pointer (some ⟨b, 0, none⟩))) :
    Calls Tryd.prog 43 #[.pointer (some ⟨b, 0, none⟩)] w fun e w' => e = .returned (.tuple #[]) ∧ w' = w := by
  obtain ⟨j, hj, _⟩ := Option.map_eq_some_iff.1 infoBld
  go_enter Tryd.func43, Tryd.ntmps43
  go_wp2
  try rw [Lib.run_neq_ptr_same w _ Tryd.underlying131 hj]
  try go_wp2
  go_end0
  exact ⟨rfl, rfl⟩
set_option maxHeartbeats 1000000 in
theorem ccheck_fresh (b : Nat) (w : World) (h0 : w.cell? ⟨b, 0, none⟩ = some (.pointer none)) (hsh : w.shape? b = some (134, 2)) (hfz : w.frozen? ⟨b, 0, none⟩ = false) :
    Calls Tryd.prog 43 #[.pointer (some ⟨b, 0, none⟩)] w fun e w' => e = .returned (.tuple #[]) ∧ w' = w.setCell ⟨b, 0, none⟩ (.pointer (some ⟨b, 0, none⟩)) := by
  obtain ⟨j, hj, hjs⟩ := Option.map_eq_some_iff.1 infoBld
  have e1 := Lib.run_to_unsafe (P := Tryd.prog) w ⟨b, 0, none⟩ Tryd.underlying131 Tryd.underlying166 hj (by rw [hjs]; decide) hsh (Nat.zero_lt_succ 1)
  have e2 := Lib.run_from_unsafe (P := Tryd.prog) w ⟨b, 0, none⟩ Tryd.underlying166 Tryd.underlying131 hj hsh liesBld
  go_enter Tryd.func43, Tryd.ntmps43
  go_wp2
  try rw [run_callFunc_extern Tryd.func59 (by kernel_rfl) (by kernel_rfl) (by kernel_rfl) (e := Extern.AbiNoEscape.same) (by kernel_rfl)]
  try rw [Lib.run_noEscape]
  try simp only [Result.andThen]
  try rw [Oper.upon_value]
  try go_wp2
  go_end0
  exact ⟨rfl, rfl⟩
/-- w is w0 but for the builder in block b, which holds bs, and new blocks -/
def Bld (w0 : World) (b : Nat) (w : World) (bs : List UInt8) : Prop :=
  b < w0.heap.size ∧ Keep w0 w w0.heap.size b ∧ ∃ p v, (p = .pointer none ∨ p = .pointer (some ⟨b, 0, none⟩)) ∧ w.heap[b]? = some (.cells #[p, v] 134 (0, 0)) ∧ w.ownsRowF w0.heap.size 5 1 v bs.length (Lib.byteCells bs)
theorem Bld.ext {w0 w w' : World} {b : Nat} {bs : List UInt8} (h : Bld w0 b w bs) (hx : Ext w w') : Bld w0 b w' bs := by
  obtain ⟨h1, h2, p, v, h3, h4, h5⟩ := h
  have hb : b < w.heap.size := (Array.getElem?_eq_some_iff.1 h4).1
  refine ⟨h1, ⟨fun q hq hne => ?_, Nat.le_trans h2.size hx.size, ?_⟩, p, v, h3, ?_, ?_⟩
  · rw [hx.block q (by have := h2.size; omega)]; exact h2.heap q hq hne
  · obtain ⟨e1, e2, e3⟩ := h2.rest
    exact ⟨hx.os.trans e1, hx.tape.trans e2, hx.output.trans e3⟩
  · rw [hx.block b hb]; exact h4
  · exact World.ownsRowF.kept (row := none) h5 ⟨hx.os, hx.tape, hx.output, hx.size, fun q hq _ => hx.block q hq⟩ (by cases v.ownBlock <;> simp)
theorem Bld.start {w : World} {b : Nat} (h : w.heap[b]? = some (.cells #[.pointer none, .slice none 0 0] 134 (0, 0))) : Bld w b w [] :=
  ⟨(Array.getElem?_eq_some_iff.1 h).1, ⟨fun _ _ _ => rfl, Nat.le_refl _, rfl, rfl, rfl⟩, _, _, .inl rfl, h, World.ownsRowF_nil _ _ _ _⟩
theorem bld_set {w0 w w' : World} {b i : Nat} {u : Value} {row : Option Nat} (h : Keep w0 w w0.heap.size b) (hg : w.grownBy w' row) (hr : ∀ q, row = some q → w0.heap.size ≤ q) : Keep w0 (w'.setCell ⟨b, i, none⟩ u) w0.heap.size b := by
  refine ⟨fun q hq hne => ?_, ?_, ?_⟩
  · rw [Below.heap_setCell _ _ _ _ hne, hg.block q (by have := h.size; omega) (fun e => by have := hr q e.symm; omega)]; exact h.heap q hq hne
  · have := h.size; have := hg.size; simp [World.setCell]; omega
  · obtain ⟨e1, e2, e3⟩ := h.rest
    refine ⟨?_, ?_, ?_⟩
    · simpa [World.setCell] using hg.os.trans e1
    · simpa [World.setCell] using hg.tape.trans e2
    · simpa [World.setCell] using hg.output.trans e3
theorem grownBy_self (w : World) : w.grownBy w none := ⟨rfl, rfl, rfl, Nat.le_refl _, fun _ _ _ => rfl⟩
theorem ccheck_any {w0 w : World} {b : Nat} {bs : List UInt8} (h : Bld w0 b w bs) :
    Calls Tryd.prog 43 #[.pointer (some ⟨b, 0, none⟩)] w fun e w' => e = .returned (.tuple #[]) ∧ Lib.OthersKept 5 (some b) w w' ∧ b < w0.heap.size ∧ Keep w0 w' w0.heap.size b ∧ ∃ v, w'.heap[b]? = some (.cells #[.pointer (some ⟨b, 0, none⟩), v] 134 (0, 0)) ∧ w'.ownsRowF w0.heap.size 5 1 v bs.length (Lib.byteCells bs) := by
  obtain ⟨h1, h2, p, v, rfl | rfl, h4, h5⟩ := h
  · refine (ccheck_fresh b w (by simp [World.cell?, h4]) (by simp [World.shape?, h4]) (by simp [World.frozen?, h4])).mono ?_
    rintro e w' ⟨rfl, rfl⟩
    refine ⟨rfl, (Lib.OthersKept.refl _ _ w).setCell ⟨b, 0, none⟩ rfl _, h1, bld_set h2 (grownBy_self w) (fun q e => by cases e), v, ?_, ?_⟩
    · simp [World.setCell, Array.getElem?_modify, h4]
    · exact h5.kept (row := some b) ⟨rfl, rfl, rfl, by simp [World.setCell], fun k _ hk => Below.heap_setCell _ _ _ _ (fun e => hk (by simp [e]))⟩ (Or.inr (fun e => by have := (World.ownsRowF.lt h5 b e).1; omega))
  · refine (ccheck_used b w (by simp [World.cell?, h4])).mono ?_
    rintro e w' ⟨rfl, rfl⟩
    exact ⟨rfl, Lib.OthersKept.refl _ _ _, h1, h2, v, h4, h5⟩
set_option maxHeartbeats 2000000 in
theorem wstr_any {w0 w : World} {b : Nat} {bs : List UInt8} (s : ByteArray) (h : Bld w0 b w bs) (hlen : bs.length + s.size ≤ 1099511627776) :
    Calls Tryd.prog 29 #[.pointer (some ⟨b, 0, none⟩), .string s] w fun e w' => e = .returned (.tuple #[.int .i64 s.size, .nilIface]) ∧ Bld w0 b w' (bs ++ s.data.toList) ∧ Lib.OthersKept 5 (some b) w w' := by
  obtain ⟨i0, hi, hz0, hz1, hz2⟩ := info_parts infoU8
  have H := Lib.hid h
  clear h
  go_enter Tryd.func29, Tryd.ntmps29
  go_wp2_with (go_at_call 43; refine (ccheck_any H.out).mono ?_)
  rintro e w1 ⟨rfl, hok1, hb0, hkp, v, hbk, hown⟩
  have HOK1 := Lib.hid hok1
  clear hok1
  have c0 : w1.cell? ⟨b, 0, none⟩ = some (.pointer (some ⟨b, 0, none⟩)) := by rw [Lib.cell_of_heap hbk]; rfl
  have c1 : w1.cell? ⟨b, 1, none⟩ = some v := by rw [Lib.cell_of_heap hbk]; rfl
  have hks := hkp.size
  have HOWN := Lib.hid hown
  have HKP := Lib.hid hkp
  have HBK := Lib.hid hbk
  clear hown hkp hbk
  go_wp2_with (at_builtin; refine Lib.wpList_append_own_stringF _ rfl _ _ 132 9 rfl w0.heap.size 5 i0 Tryd.underlying132 Tryd.underlying9 hi hz0 hz1 hz2 _ _ _ rfl HOWN.out s rfl ?c3 ?c4 ?c5 ?_)
  case c3 => unfold maxLen; omega
  case c4 => omega
  case c5 => omega
  intro v' w2 hown' hgrow _
  have hlt : b < w1.heap.size := (Array.getElem?_eq_some_iff.1 HBK.out).1
  have hne : v.ownBlock ≠ some b := fun e => by have := (World.ownsRowF.lt HOWN.out b e).1; omega
  have hb2 : w2.heap[b]? = some (.cells #[.pointer (some ⟨b, 0, none⟩), v] 134 (0, 0)) := by
    rw [hgrow.block b hlt (fun e => hne e.symm)]; exact HBK.out
  have d0 : w2.cell? ⟨b, 0, none⟩ = some (.pointer (some ⟨b, 0, none⟩)) := by rw [Lib.cell_of_heap hb2]; rfl
  have d1 : w2.cell? ⟨b, 1, none⟩ = some v := by rw [Lib.cell_of_heap hb2]; rfl
  have f1 : w2.frozen? ⟨b, 1, none⟩ = false := Lib.frozen_of_heap hb2 1
  obtain ⟨ao, n', cap, rfl⟩ : ∃ ao n' cap, v' = .slice ao n' cap := by
    rcases hown'.2 with ⟨hv, _⟩ | ⟨g, cap, cur, fz, hv, _⟩
    · exact ⟨_, _, _, hv⟩
    · exact ⟨_, _, _, hv⟩
  have HO2 := Lib.hid hown'
  have HG2 := Lib.hid hgrow
  have HB2 := Lib.hid hb2
  clear hown' hgrow hb2
  go_wp2
  go_ret2
  refine ⟨rfl, ⟨hb0, bld_set HKP.out HG2.out (fun q e => (World.ownsRowF.lt HOWN.out q e).1), .pointer (some ⟨b, 0, none⟩), .slice ao n' cap, .inr rfl, ?_, ?_⟩, (HOK1.out.grown HG2.out (Lib.ownsRowF_kind HOWN.out)).setCell ⟨b, 1, none⟩ rfl _⟩
  · simp [World.setCell, Array.getElem?_modify, HB2.out]
  · have h9 := HO2.out
    rw [Lib.strCells_eq] at h9
    rw [Lib.byteCells_append, List.length_append]
    refine World.ownsRowF.kept (row := some b) h9 ⟨rfl, rfl, rfl, by simp [World.setCell], fun k _ hk => Below.heap_setCell _ _ _ _ (fun e => hk (by simp [e]))⟩ (Or.inr (fun e => by have := (World.ownsRowF.lt h9 b e).1; omega))
theorem Bld.extw {w w0 W : World} {b : Nat} {bs : List UInt8} (h : Bld w0 b W bs) (hx : Ext w w0) (hb : w.heap.size ≤ b) : Ext w W := h.2.1.ext hx hb hx.size
theorem Bld.isb {w0 W : World} {b : Nat} {bs : List UInt8} (h : Bld w0 b W bs) : Lib.IsBuilderF 134 5 b b (Lib.byteCells bs) W := by
  obtain ⟨h1, h2, p, v, h3, h4, h5⟩ := h
  have hne : v.ownBlock ≠ some b := fun e => by have := (World.ownsRowF.lt h5 b e).1; omega
  have h6 : W.ownsRowF b 5 1 v (Lib.byteCells bs).length (Lib.byteCells bs) := by
    rw [Lib.byteCells_length]
    obtain ⟨e1, hn | ⟨g, cap, cur, fz, rfl, hg, r⟩⟩ := h5
    · exact ⟨e1, .inl hn⟩
    · exact ⟨e1, .inr ⟨g, cap, cur, fz, rfl, by omega, r⟩⟩
  rcases h3 with rfl | rfl
  · exact .inl ⟨Nat.le_refl _, v, h4, h6, hne⟩
  · exact .inr ⟨Nat.le_refl _, v, h4, h6, hne⟩
theorem Bld.lt {w0 W : World} {b : Nat} {bs : List UInt8} (h : Bld w0 b W bs) : b < W.heap.size := by
  obtain ⟨_, _, p, v, _, h4, _⟩ := h
  exact (Array.getElem?_eq_some_iff.1 h4).1
end Go.Proofs.YtaflcbdbacogeaaDoor
