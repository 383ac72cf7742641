/-
  Chapter 26: several texts in one (R39, R40, R50).
-/
import Derived.Test.YtdalbfanfbeckaaGreatDoorK38
import Derived.Test.YtdalbfanfbeckaaGreatDoorR35
import Derived.Test.YtdalbfanfbeckaaGreatDoorK11
import Derived.Test.YtdalbfanfbeckaaGreatDoorLB
import Derived.Test.YtdalbfanfbeckaaGreatDoorK27
import Derived.Test.YtdalbfanfbeckaaGreatDoorK49
/-
  Chapter 26: boards that are being cut: the lists of boards, of spans that are taken and of dust in memory.
-/
section
set_option linter.unusedVariables false
set_option linter.unusedSimpArgs false
namespace Go.Proofs.YtdalbfanfbeckaaGreatDoor
open Go.RowKit TrimM

/-- a board that is cut from x: its defects (a slice) and its box -/
def nbC (x : Bd) (dv : Value) (b : Bx) : Array Value := #[.string .empty, .string x.lg, .string x.sp, .int .i64 x.pr, .int .i64 b.xa, .int .i64 b.xb, .int .i64 b.ya, .int .i64 b.yb, .int .i64 b.za, .int .i64 b.zb, .int .i64 0, dv, .int .i64 x.wa, .int .i64 x.su, .int .i64 x.co, .int .i64 x.st, .bool x.dr, .int .i64 0]
def encRB (x : Bd) (r : RowV × Bx) : List Value := (nbC x (rowV r.1) r.2).toList
theorem encRB_len (x : Bd) (r : RowV × Bx) : (encRB x r).length = 18 := rfl
theorem encRB_one (x : Bd) (r : RowV × Bx) : ∀ u ∈ encRB x r, u.oneCell' = true := by simp [encRB, nbC, rowV, Value.oneCell']
/-- the defects of a board that has been cut -/
structure RowD (w : World) (B : Nat) (vb vt vd : Value) (r : RowV) (l : List Df) : Prop where
  sl : DfS w (rowV r) l
  at_ : ∀ a, r.1 = some a → B ≤ a.block ∧ a.block < w.heap.size ∧ vb.ownBlock ≠ some a.block ∧ vt.ownBlock ≠ some a.block ∧ vd.ownBlock ≠ some a.block
structure BdSt (x : Bd) (w : World) (gT : Nat) (vb vt vd : Value) (rows : List (RowV × Bx)) (Y : List (Bx × List Df)) (T : List Sp) (D : List Bx) : Prop where
  cell : Block w gT #[vt]
  ownT : Own encSp 2 23 (gT + 1) w vt T
  ownB : Own (encRB x) 18 30 (gT + 1) w vb rows
  ownD : Own encBx 6 25 (gT + 1) w vd D
  tb : Apt vt vb
  td : Apt vt vd
  bd : Apt vb vd
  len : rows.length = Y.length
  rd : ∀ (i : Nat) r y, rows[i]? = some r → Y[i]? = some y → r.2 = y.1 ∧ RowD w (gT + 1) vb vt vd r.1 y.2
variable {x : Bd} {w w' w1 : World} {gT : Nat} {vb vt vd vb' vt' vd' : Value} {rows : List (RowV × Bx)} {Y : List (Bx × List Df)} {T T' : List Sp} {D D' : List Bx}
theorem RowD.ext {B : Nat} {r : RowV} {l : List Df} (h : RowD w B vb vt vd r l) (hx : Ext w w') : RowD w' B vb vt vd r l :=
  ⟨SliceOf.ext h.sl hx, fun a ha => by obtain ⟨h1, h2, h3⟩ := h.at_ a ha; exact ⟨h1, Nat.lt_of_lt_of_le h2 hx.size, h3⟩⟩
theorem RowD.set {B g i : Nat} {r : RowV} {l : List Df} {z : Value} (h : RowD w B vb vt vd r l) (hg : g < B) : RowD (w.setCell ⟨g, i, none⟩ z) B vb vt vd r l := by
  refine ⟨?_, fun a ha => ?_⟩
  · have := h.sl
    unfold rowV at this ⊢
    exact SliceOf.set_other this (fun a ha => by have := (h.at_ a ha).1; omega)
  · obtain ⟨h1, h2, h3⟩ := h.at_ a ha
    exact ⟨h1, by rw [setCell_size]; exact h2, h3⟩
theorem BdSt.ext (h : BdSt x w gT vb vt vd rows Y T D) (hx : Ext w w') : BdSt x w' gT vb vt vd rows Y T D :=
  ⟨h.cell.ext hx, h.ownT.ext hx, h.ownB.ext hx, h.ownD.ext hx, h.tb, h.td, h.bd, h.len, fun i r y h1 h2 => ⟨(h.rd i r y h1 h2).1, (h.rd i r y h1 h2).2.ext hx⟩⟩
theorem BdSt.neT (h : BdSt x w gT vb vt vd rows Y T D) : vt.ownBlock ≠ some gT := fun e => by have := (World.ownsRow.lt h.ownT gT e).1; omega
theorem BdSt.neB (h : BdSt x w gT vb vt vd rows Y T D) : vb.ownBlock ≠ some gT := fun e => by have := (World.ownsRow.lt h.ownB gT e).1; omega
theorem BdSt.neD (h : BdSt x w gT vb vt vd rows Y T D) : vd.ownBlock ≠ some gT := fun e => by have := (World.ownsRow.lt h.ownD gT e).1; omega
/-- one more span is taken -/
theorem BdSt.pushT (h : BdSt x w gT vb vt vd rows Y T D) (hk : Kept w vt w1 vt') (ho : Own encSp 2 23 (gT + 1) w1 vt' T') : BdSt x (w1.setCell ⟨gT, 0, none⟩ vt') gT vb vt' vd rows Y T' D := by
  haveI := hk.block h.cell h.neT
  have hg : gT < gT + 1 := Nat.lt_succ_self _
  refine ⟨(inferInstance : Block (w1.setCell ⟨gT, 0, none⟩ vt') gT (Array.setIfInBounds _ 0 vt')), Own.set_low ho hg _, Own.set_low (hk.other h.ownB h.tb) hg _, Own.set_low (hk.other h.ownD h.td) hg _, hk.apt h.ownB h.tb, hk.apt h.ownD h.td, h.bd, h.len, fun i r y h1 h2 => ?_⟩
  obtain ⟨e, hr⟩ := h.rd i r y h1 h2
  refine ⟨e, RowD.set ⟨hk.slice hr.sl (fun a ha => (hr.at_ a ha).2.2.2.1), fun a ha => ?_⟩ hg⟩
  obtain ⟨q1, q2, q3, q4, q5⟩ := hr.at_ a ha
  exact ⟨q1, Nat.lt_of_lt_of_le q2 hk.size, q3, hk.ne q2 q4, q5⟩
theorem RowD.afterB {B : Nat} {r : RowV} {l : List Df} (hr : RowD w B vb vt vd r l) (hk : Kept w vb w1 vb') : RowD w1 B vb' vt vd r l := by
  refine ⟨hk.slice hr.sl (fun a ha => (hr.at_ a ha).2.2.1), fun a ha => ?_⟩
  obtain ⟨q1, q2, q3, q4, q5⟩ := hr.at_ a ha
  exact ⟨q1, Nat.lt_of_lt_of_le q2 hk.size, hk.ne q2 q3, q4, q5⟩
/-- one more board -/
theorem BdSt.pushB {r0 : RowV × Bx} {l0 : List Df} (h : BdSt x w gT vb vt vd rows Y T D) (hk : Kept w vb w1 vb') (h0 : RowD w (gT + 1) vb vt vd r0.1 l0) (ho : Own (encRB x) 18 30 (gT + 1) w1 vb' (rows ++ [r0])) : BdSt x w1 gT vb' vt vd (rows ++ [r0]) (Y ++ [(r0.2, l0)]) T D := by
  refine ⟨hk.block h.cell h.neB, hk.other h.ownT h.tb.symm, ho, hk.other h.ownD h.bd, (hk.apt h.ownT h.tb.symm).symm, h.td, hk.apt h.ownD h.bd, by simp [h.len], fun i r y h1 h2 => ?_⟩
  rcases Nat.lt_trichotomy i rows.length with hi | hi | hi
  · rw [List.getElem?_append_left hi] at h1
    rw [List.getElem?_append_left (by rw [← h.len]; exact hi)] at h2
    exact ⟨(h.rd i r y h1 h2).1, (h.rd i r y h1 h2).2.afterB hk⟩
  · subst hi
    rw [h.len] at h2
    simp at h1 h2
    subst h1
    subst h2
    exact ⟨rfl, h0.afterB hk⟩
  · rw [List.getElem?_eq_none (by simp; omega)] at h1
    cases h1
/-- one more box of dust -/
theorem BdSt.pushD (h : BdSt x w gT vb vt vd rows Y T D) (hk : Kept w vd w1 vd') (ho : Own encBx 6 25 (gT + 1) w1 vd' D') : BdSt x w1 gT vb vt vd' rows Y T D' := by
  refine ⟨hk.block h.cell h.neD, hk.other h.ownT h.td.symm, hk.other h.ownB h.bd.symm, ho, h.tb, (hk.apt h.ownT h.td.symm).symm, (hk.apt h.ownB h.bd.symm).symm, h.len, fun i r y h1 h2 => ?_⟩
  obtain ⟨e, hr⟩ := h.rd i r y h1 h2
  refine ⟨e, hk.slice hr.sl (fun a ha => (hr.at_ a ha).2.2.2.2), fun a ha => ?_⟩
  obtain ⟨q1, q2, q3, q4, q5⟩ := hr.at_ a ha
  exact ⟨q1, Nat.lt_of_lt_of_le q2 hk.size, q3, q4, hk.ne q2 q5⟩
/-- a list of boards in memory, with the lists of their defects -/
def BdsR (w : World) (v : Value) (x : Bd) (Y : List (Bx × List Df)) : Prop := ∃ rows : List (RowV × Bx), SliceOf (encRB x) 18 w v rows ∧ rows.length = Y.length ∧ ∀ (i : Nat) r y, rows[i]? = some r → Y[i]? = some y → r.2 = y.1 ∧ DfS w (rowV r.1) y.2
theorem BdsR.ext {v : Value} (h : BdsR w v x Y) (hx : Ext w w') : BdsR w' v x Y := by
  obtain ⟨rs, h1, h2, h3⟩ := h
  exact ⟨rs, SliceOf.ext h1 hx, h2, fun i r y a b => ⟨(h3 i r y a b).1, SliceOf.ext (h3 i r y a b).2 hx⟩⟩
theorem BdsR.nil (w : World) (x : Bd) : BdsR w (.slice none 0 0) x [] := ⟨[], SliceOf.nil _, rfl, fun i r y h => by simp at h⟩
/-- what is read where no block but that of the taken spans has changed from gT's on -/
theorem BdSt.read (h : BdSt x w gT vb vt vd rows Y T D) (hh : ∀ q, gT + 1 ≤ q → q < w.heap.size → vt.ownBlock ≠ some q → w'.heap[q]? = w.heap[q]?) : BdsR w' vb x Y ∧ SliceOf encBx 6 w' vd D := by
  obtain ⟨p1, n1, c1, e1, -, q1⟩ := Own.low h.ownB
  obtain ⟨p2, n2, c2, e2, -, q2⟩ := Own.low h.ownD
  have s1 := Own.slice (encRB_len x) h.ownB
  have s2 := Own.slice encBx_len h.ownD
  have ab := h.tb
  have ad := h.td
  subst e1
  subst e2
  have key : ∀ (p : Option Addr) (n c : Nat), (∀ a, p = some a → gT + 1 ≤ a.block ∧ a.block < w.heap.size ∧ vt.ownBlock ≠ some a.block) → ∀ a, p = some a → w'.heap[a.block]? = w.heap[a.block]? := fun p n c hp a ha => by
    obtain ⟨k1, k2, k3⟩ := hp a ha
    exact hh _ k1 k2 k3
  refine ⟨⟨rows, SliceOf.same s1 (key _ 0 0 fun a ha => ⟨(q1 a ha).1, (q1 a ha).2, fun e => ab _ e (by subst ha; rfl)⟩), h.len, fun i r y a b => ?_⟩, SliceOf.same s2 (key _ 0 0 fun a ha => ⟨(q2 a ha).1, (q2 a ha).2, fun e => ad _ e (by subst ha; rfl)⟩)⟩
  obtain ⟨e, hr⟩ := h.rd i r y a b
  exact ⟨e, SliceOf.same hr.sl (key _ 0 0 fun a ha => ⟨(hr.at_ a ha).1, (hr.at_ a ha).2.1, (hr.at_ a ha).2.2.2.1⟩)⟩
end Go.Proofs.YtdalbfanfbeckaaGreatDoor
end
/-
  Chapter 26: Boards: what it hands back; the calls that end in an error.
-/
section
set_option linter.unusedVariables false
set_option linter.unusedSimpArgs false
namespace Go.Proofs.YtdalbfanfbeckaaGreatDoor
open Go.RowKit TrimM

attribute [local go_sem] ExtOf.cell ExtOf.frozen ExtS.cell ExtS.frozen Block.cell Block.frozen ExtB.cell ExtB.frozen alloc_cell alloc_frozen
def boardsE (b : Bx) (ds : List Df) (p : Pdt) (step kerf : Int) (P : List Sp) : Int := if chkE b ds p step kerf 0 ≠ 0 then chkE b ds p step kerf 0 else ((TrimM.line b ds p step kerf 0).cuts 0 [] [] P).1
def boardsY (b : Bx) (ds : List Df) (p : Pdt) (step kerf : Int) (P : List Sp) : List (Bx × List Df) := if boardsE b ds p step kerf P = 0 then (boardsM (TrimM.line b ds p step kerf 0) step P).map fun s => (b.slab s.1 s.2, TrimM.clip ds (b.part s.1 s.2)) else []
def dustY (b : Bx) (ds : List Df) (p : Pdt) (step kerf : Int) (P : List Sp) : List Bx := if boardsE b ds p step kerf P = 0 then (dustsM (TrimM.line b ds p step kerf 0) step kerf 0 P).map fun s => b.slab s.1 s.2 else []
def chipY (b : Bx) (ds : List Df) (p : Pdt) (step kerf : Int) (P : List Sp) : List Bx := if boardsE b ds p step kerf P = 0 then (TrimM.gaps (b.zb - b.za) 0 (takenT b ds p step kerf 0 P)).map fun s => b.slab s.1 s.2 else []
def BoardsPost (x : Bd) (ds : List Df) (p : Pdt) (step kerf : Int) (P : List Sp) (w : World) (e : Ending) (w' : World) : Prop :=
  ∃ vb vd vc, e = .returned (.tuple #[vb, vd, vc, .int .i64 (boardsE x.b ds p step kerf P)]) ∧ BdsR w' vb x (boardsY x.b ds p step kerf P) ∧ SliceOf encBx 6 w' vd (dustY x.b ds p step kerf P) ∧ SliceOf encBx 6 w' vc (chipY x.b ds p step kerf P) ∧ ∃ n : ExtOf w, w' = n.val
theorem resultsB {tmps : Array Value} {w : World} {g : Nat} {v1 v2 v3 v4 : Value} (h1 : tmps.getD 10 undef = v1) (h2 : tmps.getD 11 undef = v2) (h3 : tmps.getD 12 undef = .pointer (some ⟨g, 0, none⟩)) (h4 : tmps.getD 13 undef = v4) (hB : Block w g #[v3]) : (results Tryz.f6 tmps).run Tryz.prog w = .ok (.tuple #[v1, v2, v3, v4]) w := by
  have g1 : tmps[10]?.getD undef = v1 := by simpa using h1
  have g2 : tmps[11]?.getD undef = v2 := by simpa using h2
  have g3 : tmps[12]?.getD undef = .pointer (some ⟨g, 0, none⟩) := by simpa using h3
  have g4 : tmps[13]?.getD undef = v4 := by simpa using h4
  simp [results, Tryz.results6, g1, g2, g3, g4, asAddr, go_sem]
set_option maxHeartbeats 1600000 in
set_option maxRecDepth 20000 in
theorem boards_bad1 (x : Bd) (dv : Value) (ds : List Df) (p : Pdt) (lv pv : Value) (step kerf : Int) (P : List Sp) (vp : Value) (w : World) (hd : DfS w dv ds) (hl : IntS w lv p.ls) (hp : IntS w pv p.ps) (h0 : ¬ chkE x.b ds p step kerf 0 = 0) :
    Calls Tryz.prog 6 #[.agg (bdC x dv), .agg (pdC p lv pv), .int .i64 step, .int .i64 kerf, vp] w (BoardsPost x ds p step kerf P w) := by
  obtain ⟨lq, lcap, rfl, hl1, hl2, hl3⟩ := SliceOf.form hl
  obtain ⟨pq, pcap, rfl, hp1, hp2, hp3⟩ := SliceOf.form hp
  obtain ⟨q, cap, rfl, hd1, hd2, hd3⟩ := SliceOf.form hd
  have HL := Lib.hid hl
  have HP := Lib.hid hp
  have HD := Lib.hid hd
  clear hl hp hd
  unfold maxLen at hl2 hp2 hd2
  unfold bdC pdC
  have hE : boardsE x.b ds p step kerf P = chkE x.b ds p step kerf 0 := if_pos h0
  have hE0 : ¬ boardsE x.b ds p step kerf P = 0 := by rw [hE]; exact h0
  have HY : Hid (boardsY x.b ds p step kerf P = []) := Lib.hid (if_neg hE0)
  have HD1 : Hid (dustY x.b ds p step kerf P = []) := Lib.hid (if_neg hE0)
  have HC1 : Hid (chipY x.b ds p step kerf P = []) := Lib.hid (if_neg hE0)
  have HE := Lib.hid hE
  have h1 : (chkE x.b ds p step kerf 0 != 0) = true := bne_iff_ne.2 h0
  have H0 := Lib.hid h0
  clear h0 hE hE0
  go_enter_defers Tryz.func6, Tryz.ntmps6
  go_wp2_with (first | ((with_reducible apply wl_load' lwBd); (· (first | exact wanted_none rfl | exact wanted_some rfl rfl rfl)); (· rfl); (· infer_instance); (· rfl)) | ((with_reducible apply wl_load' lwPd); (· (first | exact wanted_none rfl | exact wanted_some rfl rfl rfl)); (· rfl); (· infer_instance); (· rfl)) | (go_at_call 13; refine (line_any x _ ds p _ _ step kerf 0 _ (SliceOf.ext HD.out (by repeat' (first | (with_reducible exact Ext.refl _) | (with_reducible exact ExtOf.ext _) | (with_reducible refine Ext.trans ?_ (ExtOf.ext _)) | (with_reducible refine Ext.alloc ?_ _) | (with_reducible refine Ext.drew ?_) | (with_reducible refine Ext.setCell ?_ ?_ _) | (with_reducible refine Ext.setRow ?_ ?_ _) | (with_reducible exact HX.out) | (with_reducible refine Ext.trans ?_ HX.out) | (with_reducible refine Ext.below ?_ (Nat.le_refl _) _) | omega | (simp; done) | (simp; omega)))) (SliceOf.ext HL.out (by repeat' (first | (with_reducible exact Ext.refl _) | (with_reducible exact ExtOf.ext _) | (with_reducible refine Ext.trans ?_ (ExtOf.ext _)) | (with_reducible refine Ext.alloc ?_ _) | (with_reducible refine Ext.drew ?_) | (with_reducible refine Ext.setCell ?_ ?_ _) | (with_reducible refine Ext.setRow ?_ ?_ _) | (with_reducible exact HX.out) | (with_reducible refine Ext.trans ?_ HX.out) | (with_reducible refine Ext.below ?_ (Nat.le_refl _) _) | omega | (simp; done) | (simp; omega)))) (SliceOf.ext HP.out (by repeat' (first | (with_reducible exact Ext.refl _) | (with_reducible exact ExtOf.ext _) | (with_reducible refine Ext.trans ?_ (ExtOf.ext _)) | (with_reducible refine Ext.alloc ?_ _) | (with_reducible refine Ext.drew ?_) | (with_reducible refine Ext.setCell ?_ ?_ _) | (with_reducible refine Ext.setRow ?_ ?_ _) | (with_reducible exact HX.out) | (with_reducible refine Ext.trans ?_ HX.out) | (with_reducible refine Ext.below ?_ (Nat.le_refl _) _) | omega | (simp; done) | (simp; omega))))).mono ?_; rintro e w' ⟨lv, rfl, hl0, hl1, nl, rfl⟩; (obtain rfl := hl0 H0.out); unfold zLine) | ((with_reducible apply wl_store' lwLine); (· (first | exact wanted_none rfl | exact wanted_some rfl rfl rfl)); (· rfl); (· rfl); (· infer_instance); (· rfl); (· rfl); (· (simp [Value.oneCell'])); try simp only [setRow_alloc, setRow_new, setRow_new1, setRow_new2, setRow_new11, setRow_new111]))
  exact ⟨_, resultsB (g := w.heap.size + 2) rfl rfl rfl rfl inferInstance, _, _, _, by rw [HE.out]; rfl, by rw [HY.out]; exact BdsR.nil _ _, by rw [HD1.out]; exact SliceOf.nil _, by rw [HC1.out]; exact SliceOf.nil _, by exact ExtOf.of (by repeat' (first | (with_reducible exact Ext.refl _) | (with_reducible exact ExtOf.ext _) | (with_reducible refine Ext.trans ?_ (ExtOf.ext _)) | (with_reducible refine Ext.alloc ?_ _) | (with_reducible refine Ext.drew ?_) | (with_reducible refine Ext.setCell ?_ ?_ _) | (with_reducible refine Ext.setRow ?_ ?_ _) | (with_reducible exact HX.out) | (with_reducible refine Ext.trans ?_ HX.out) | (with_reducible refine Ext.below ?_ (Nat.le_refl _) _) | omega | (simp; done) | (simp; omega)))⟩
set_option maxHeartbeats 1600000 in
set_option maxRecDepth 20000 in
theorem boards_bad2 (x : Bd) (dv : Value) (ds : List Df) (p : Pdt) (lv pv : Value) (step kerf : Int) (P : List Sp) (vp : Value) (w : World) (hd : DfS w dv ds) (hl : IntS w lv p.ls) (hp : IntS w pv p.ps) (hpp : SpS w vp P) (hPl : P.length ≤ 10000) (h0 : chkE x.b ds p step kerf 0 = 0) (hc : ¬ ((TrimM.line x.b ds p step kerf 0).cuts 0 [] [] P).1 = 0) :
    Calls Tryz.prog 6 #[.agg (bdC x dv), .agg (pdC p lv pv), .int .i64 step, .int .i64 kerf, vp] w (BoardsPost x ds p step kerf P w) := by
  obtain ⟨lq, lcap, rfl, hl1, hl2, hl3⟩ := SliceOf.form hl
  obtain ⟨pq, pcap, rfl, hp1, hp2, hp3⟩ := SliceOf.form hp
  obtain ⟨q, cap, rfl, hd1, hd2, hd3⟩ := SliceOf.form hd
  obtain ⟨qq, qcap, rfl, hq1, hq2, hq3⟩ := SliceOf.form hpp
  have HL := Lib.hid hl
  have HP := Lib.hid hp
  have HD := Lib.hid hd
  have HQ := Lib.hid hpp
  clear hl hp hd hpp
  unfold maxLen at hl2 hp2 hd2 hq2
  unfold bdC pdC
  obtain ⟨E, hEE⟩ : ∃ E, E = ((TrimM.line x.b ds p step kerf 0).cuts 0 [] [] P).1 := ⟨_, rfl⟩
  have hE : boardsE x.b ds p step kerf P = E := by unfold boardsE; rw [if_neg (by rw [h0]; decide), hEE]
  have hE0 : ¬ boardsE x.b ds p step kerf P = 0 := by rw [hE, hEE]; exact hc
  have HY : Hid (boardsY x.b ds p step kerf P = []) := Lib.hid (if_neg hE0)
  have HD1 : Hid (dustY x.b ds p step kerf P = []) := Lib.hid (if_neg hE0)
  have HC1 : Hid (chipY x.b ds p step kerf P = []) := Lib.hid (if_neg hE0)
  have HE := Lib.hid hE
  have HEE := Lib.hid hEE
  have h1 : (chkE x.b ds p step kerf 0 != 0) = false := bne_eq_false_iff_eq.2 h0
  have h2 : (E != 0) = true := bne_iff_ne.2 (by rw [hEE]; exact hc)
  have HFI := Lib.hid (line_fine (chkE_zero h0))
  have H0 := Lib.hid h0
  clear h0 hE hE0 hc hEE
  go_enter_defers Tryz.func6, Tryz.ntmps6
  go_wp2_with (first | ((with_reducible apply wl_load' lwBd); (· (first | exact wanted_none rfl | exact wanted_some rfl rfl rfl)); (· rfl); (· infer_instance); (· rfl)) | ((with_reducible apply wl_load' lwPd); (· (first | exact wanted_none rfl | exact wanted_some rfl rfl rfl)); (· rfl); (· infer_instance); (· rfl)) | (go_at_call 13; refine (line_any x _ ds p _ _ step kerf 0 _ (SliceOf.ext HD.out (by repeat' (first | (with_reducible exact Ext.refl _) | (with_reducible exact ExtOf.ext _) | (with_reducible refine Ext.trans ?_ (ExtOf.ext _)) | (with_reducible refine Ext.alloc ?_ _) | (with_reducible refine Ext.drew ?_) | (with_reducible refine Ext.setCell ?_ ?_ _) | (with_reducible refine Ext.setRow ?_ ?_ _) | (with_reducible exact HX.out) | (with_reducible refine Ext.trans ?_ HX.out) | (with_reducible refine Ext.below ?_ (Nat.le_refl _) _) | omega | (simp; done) | (simp; omega)))) (SliceOf.ext HL.out (by repeat' (first | (with_reducible exact Ext.refl _) | (with_reducible exact ExtOf.ext _) | (with_reducible refine Ext.trans ?_ (ExtOf.ext _)) | (with_reducible refine Ext.alloc ?_ _) | (with_reducible refine Ext.drew ?_) | (with_reducible refine Ext.setCell ?_ ?_ _) | (with_reducible refine Ext.setRow ?_ ?_ _) | (with_reducible exact HX.out) | (with_reducible refine Ext.trans ?_ HX.out) | (with_reducible refine Ext.below ?_ (Nat.le_refl _) _) | omega | (simp; done) | (simp; omega)))) (SliceOf.ext HP.out (by repeat' (first | (with_reducible exact Ext.refl _) | (with_reducible exact ExtOf.ext _) | (with_reducible refine Ext.trans ?_ (ExtOf.ext _)) | (with_reducible refine Ext.alloc ?_ _) | (with_reducible refine Ext.drew ?_) | (with_reducible refine Ext.setCell ?_ ?_ _) | (with_reducible refine Ext.setRow ?_ ?_ _) | (with_reducible exact HX.out) | (with_reducible refine Ext.trans ?_ HX.out) | (with_reducible refine Ext.below ?_ (Nat.le_refl _) _) | omega | (simp; done) | (simp; omega))))).mono ?_; rintro e w' ⟨lv, rfl, hl0, hl1, nl, rfl⟩; (have HLS := Lib.hid (LineW.here (hl1 H0.out))); clear hl0 hl1; (obtain ⟨ps, c0, pg, c1, pc, c2, pd, c3, hlv⟩ := LineS.form HFI.out HLS.out); subst hlv) | ((with_reducible apply wl_store' lwLine); (· (first | exact wanted_none rfl | exact wanted_some rfl rfl rfl)); (· rfl); (· rfl); (· infer_instance); (· rfl); (· rfl); (· (simp [Value.oneCell'])); try simp only [setRow_alloc, setRow_new, setRow_new1, setRow_new2, setRow_new11, setRow_new111]) | ((with_reducible apply wl_load' lwLine); (· (first | exact wanted_none rfl | exact wanted_some rfl rfl rfl)); (· rfl); (· infer_instance); (· rfl)) | (go_at_call 14; refine (cuts_any _ HFI.out _ P _ _ (LineS.ext HLS.out (by repeat' (first | (with_reducible exact Ext.refl _) | (with_reducible exact ExtOf.ext _) | (with_reducible refine Ext.trans ?_ (ExtOf.ext _)) | (with_reducible refine Ext.alloc ?_ _) | (with_reducible refine Ext.drew ?_) | (with_reducible refine Ext.setCell ?_ ?_ _) | (with_reducible refine Ext.setRow ?_ ?_ _) | (with_reducible exact HX.out) | (with_reducible refine Ext.trans ?_ HX.out) | (with_reducible refine Ext.below ?_ (Nat.le_refl _) _) | omega | (simp; done) | (simp; omega)))) (SliceOf.ext HQ.out (by repeat' (first | (with_reducible exact Ext.refl _) | (with_reducible exact ExtOf.ext _) | (with_reducible refine Ext.trans ?_ (ExtOf.ext _)) | (with_reducible refine Ext.alloc ?_ _) | (with_reducible refine Ext.drew ?_) | (with_reducible refine Ext.setCell ?_ ?_ _) | (with_reducible refine Ext.setRow ?_ ?_ _) | (with_reducible exact HX.out) | (with_reducible refine Ext.trans ?_ HX.out) | (with_reducible refine Ext.below ?_ (Nat.le_refl _) _) | omega | (simp; done) | (simp; omega)))) hPl).mono ?_; rintro e w' ⟨vd, vc, rfl, hod, hoc, hap, nc, rfl⟩; rw [← HEE.out]; clear hod hoc hap))
  exact ⟨_, resultsB (g := w.heap.size + 2) rfl rfl rfl rfl inferInstance, _, _, _, by rw [HE.out]; rfl, by rw [HY.out]; exact BdsR.nil _ _, by rw [HD1.out]; exact SliceOf.nil _, by rw [HC1.out]; exact SliceOf.nil _, by exact ExtOf.of (by repeat' (first | (with_reducible exact Ext.refl _) | (with_reducible exact ExtOf.ext _) | (with_reducible refine Ext.trans ?_ (ExtOf.ext _)) | (with_reducible refine Ext.alloc ?_ _) | (with_reducible refine Ext.drew ?_) | (with_reducible refine Ext.setCell ?_ ?_ _) | (with_reducible refine Ext.setRow ?_ ?_ _) | (with_reducible exact HX.out) | (with_reducible refine Ext.trans ?_ HX.out) | (with_reducible refine Ext.below ?_ (Nat.le_refl _) _) | omega | (simp; done) | (simp; omega)))⟩
end Go.Proofs.YtdalbfanfbeckaaGreatDoor
end
/-
  Chapter 26: boards, dust and chips are the board: the lists that Boards hands back.
-/
section
set_option linter.unusedVariables false
set_option linter.unusedSimpArgs false
namespace Go.Proofs.YtdalbfanfbeckaaGreatDoor
open Go.RowKit TrimM

theorem gaps_len (n : Int) : ∀ (l : List Sp) (a : Int), (TrimM.gaps n a l).length ≤ l.length + 1
  | [], a => by unfold TrimM.gaps; split <;> simp
  | x :: l, a => by
    have := gaps_len n l (max a x.2)
    unfold TrimM.gaps
    rw [List.length_append, List.length_cons]
    split
    · rw [List.length_singleton]; omega
    · rw [List.length_nil]; omega
theorem addS_len' (l : List Sp) (a b : Int) : (addS l a b).length ≤ l.length + 1 := by unfold addS; split <;> simp
theorem dusts_len' {L : Ln} : ∀ (l : List Sp) (e : Int), (L.dusts e l).length ≤ 2 * l.length
  | [], _ => Nat.le_refl _
  | x :: l, e => by
    have h1 := dusts_len' (L := L) l (L.behind (L.stop x))
    have h2 : (L.dustA e x []).length ≤ 2 := by
      unfold Ln.dustA
      split
      · exact Nat.le_trans (addS_len' _ _ _) (Nat.succ_le_succ (addS_len' _ _ _))
      · exact Nat.le_trans (addS_len' _ _ _) (by simp)
    rw [Ln.dusts, List.length_append, List.length_cons]
    omega
/-- all boxes that Boards hands back -/
def allY (b : Bx) (ds : List Df) (p : Pdt) (step kerf : Int) (P : List Sp) : List Bx := (boardsY b ds p step kerf P).map (·.1) ++ dustY b ds p step kerf P ++ chipY b ds p step kerf P
structure AllOk (b : Bx) (ds : List Df) (p : Pdt) (step kerf : Int) (P : List Sp) : Prop where
  sum : sumB (allY b ds p step kerf P) = b.zb - b.za
  mem : ∀ y ∈ allY b ds p step kerf P, y.xa = b.xa ∧ y.xb = b.xb ∧ y.ya = b.ya ∧ y.yb = b.yb ∧ y.za < y.zb ∧ b.za ≤ y.za ∧ y.zb ≤ b.zb
  apart : ∀ (i k : Nat) (y z : Bx), k < i → (allY b ds p step kerf P)[i]? = some y → (allY b ds p step kerf P)[k]? = some z → ¬ (y.za < z.zb ∧ z.za < y.zb)
  boards : (boardsY b ds p step kerf P).length = P.length
  dust : (dustY b ds p step kerf P).length ≤ 2 * P.length
  chips : (chipY b ds p step kerf P).length ≤ 3 * P.length + 1
  z : 0 ≤ b.za ∧ b.za ≤ b.zb ∧ b.zb ≤ 20000
theorem sumB_slab (b : Bx) (l : List Sp) : sumB (l.map fun s => b.slab s.1 s.2) = sumS l := by
  unfold sumB sumS
  rw [List.map_map]
  congr 1
  refine List.map_congr_left fun s _ => ?_
  show b.za + s.2 - (b.za + s.1) = s.2 - s.1
  omega
theorem boardsE_zero {b : Bx} {ds : List Df} {p : Pdt} {step kerf : Int} {P : List Sp} (hE : boardsE b ds p step kerf P = 0) : chkE b ds p step kerf 0 = 0 ∧ ((TrimM.line b ds p step kerf 0).cuts 0 [] [] P).1 = 0 := by
  unfold boardsE at hE
  by_cases h : chkE b ds p step kerf 0 = 0
  · rw [if_neg (by rw [h]; decide)] at hE
    exact ⟨h, hE⟩
  · rw [if_pos h] at hE
    exact absurd hE h
theorem all_ok {b : Bx} {ds : List Df} {p : Pdt} {step kerf : Int} {P : List Sp} (hE : boardsE b ds p step kerf P = 0) : AllOk b ds p step kerf P := by
  obtain ⟨h0, hc⟩ := boardsE_zero hE
  have hC := chkE_zero h0
  have hch := cuts_chain P 0 [] [] hc
  obtain ⟨A, hA⟩ : ∃ A, A = boardsM (TrimM.line b ds p step kerf 0) step P ++ dustsM (TrimM.line b ds p step kerf 0) step kerf 0 P ++ TrimM.gaps (b.zb - b.za) 0 (takenT b ds p step kerf 0 P) := ⟨_, rfl⟩
  have e : allY b ds p step kerf P = A.map fun s => b.slab s.1 s.2 := by
    unfold allY boardsY dustY chipY
    rw [if_pos hE, if_pos hE, if_pos hE, hA, List.map_append, List.map_append, List.map_map]
    rfl
  obtain ⟨c1, c2, c3⟩ := covers hC hch (A := A) (by rw [hA])
  have hz := hC.z
  have hb : (boardsM (TrimM.line b ds p step kerf 0) step P).length = P.length := by unfold boardsM; rw [List.length_map]
  have hd : (dustsM (TrimM.line b ds p step kerf 0) step kerf 0 P).length ≤ 2 * P.length := by unfold dustsM; rw [List.length_map]; exact dusts_len' _ _
  refine ⟨?_, ?_, ?_, ?_, ?_, ?_, ?_⟩
  · rw [e, sumB_slab, c1]
  · intro y hy
    rw [e] at hy
    obtain ⟨s, hs, rfl⟩ := List.mem_map.1 hy
    have := c2 s hs
    refine ⟨rfl, rfl, rfl, rfl, ?_, ?_, ?_⟩
    · show b.za + s.1 < b.za + s.2; omega
    · show b.za ≤ b.za + s.1; omega
    · show b.za + s.2 ≤ b.zb; omega
  · intro i k y z hk hi hj hyz
    rw [e, List.getElem?_map] at hi hj
    obtain ⟨s, hs, rfl⟩ := Option.map_eq_some_iff.1 hi
    obtain ⟨t, ht, rfl⟩ := Option.map_eq_some_iff.1 hj
    have hi' := (List.getElem?_eq_some_iff.1 hs)
    have hk' := (List.getElem?_eq_some_iff.1 ht)
    obtain ⟨hi1, hi2⟩ := hi'
    obtain ⟨hk1, hk2⟩ := hk'
    have := List.pairwise_iff_getElem.1 c3 k i hk1 hi1 hk
    rw [hi2, hk2] at this
    refine this ⟨?_, ?_⟩
    · have h2 : b.za + t.1 < b.za + s.2 := hyz.2
      omega
    · have h1 : b.za + s.1 < b.za + t.2 := hyz.1
      omega
  · unfold boardsY; rw [if_pos hE, List.length_map, hb]
  · unfold dustY; rw [if_pos hE, List.length_map]; exact hd
  · unfold chipY
    rw [if_pos hE, List.length_map]
    refine Nat.le_trans (gaps_len _ _ _) ?_
    have := (laidM_perm (L := TrimM.line b ds p step kerf 0) step kerf P 0).length_eq
    rw [List.length_append, hb] at this
    unfold takenT
    omega
  · omega
end Go.Proofs.YtdalbfanfbeckaaGreatDoor
end
