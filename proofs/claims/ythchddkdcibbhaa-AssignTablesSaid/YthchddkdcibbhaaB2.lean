/-
  The contract of extend: one more board for an order.
-/
import Derived.Test.YthchddkdcibbhaaB1
import Derived.Test.YthchddkdcibbhaaQue
import Derived.Deep.OwnRows
import Derived.Deep.LoopGhost
namespace Go.Proofs.Ythchddkdcibbhaa
open Go.RowKit AssignM

attribute [local go_sem] ExtOf.cell ExtOf.frozen Block.cell Block.frozen ExtB.cell ExtB.frozen alloc_cell alloc_frozen

theorem infoI : (Try.prog.info? 3).map (fun i => (i.zero, i.size, i.bytes)) = some (some (.int .i64 0), 1, 8) := by kernel_rfl
def initCells (i R : Nat) : Array Value := ((List.range R).map fun j => Value.int .i64 (if j < i then -1 else 0)).toArray
theorem initCells_made (R : Nat) : madeCells #[Value.int .i64 0] R = initCells 0 R := by
  apply Array.ext_getElem?
  intro j
  by_cases h : j < R
  · simp [madeCells, initCells, h, Nat.mod_one]
  · simp [madeCells, initCells, h]
theorem initCells_set {i R : Nat} (h : i < R) : (initCells i R).setIfInBounds i (.int .i64 (-1)) = initCells (i + 1) R := by
  apply Array.ext_getElem?
  intro j
  by_cases e : i = j
  · subst e
    rw [Array.getElem?_setIfInBounds_self_of_lt (by simpa [initCells] using h)]
    simp [initCells, h]
  · rw [Array.getElem?_setIfInBounds_ne e]
    by_cases hj : j < R
    · have : (j < i) = (j < i + 1) := by simp; omega
      simp [initCells, hj, this]
    · simp [initCells, hj]
theorem initCells_end (R : Nat) : initCells R R = givCells (fun _ => none) R := by
  unfold initCells givCells
  congr 1
  apply List.map_congr_left
  intro j hj
  have := List.mem_range.1 hj
  simp [this]
theorem givCells_set {giv : Mat} {R j b : Nat} (h : j < R) : (givCells giv R).setIfInBounds j (.int .i64 (b : Int)) = givCells (upd giv j (some b)) R := by
  apply Array.ext_getElem?
  intro i
  by_cases e : j = i
  · subst e
    rw [Array.getElem?_setIfInBounds_self_of_lt (by simpa [givCells] using h), givCells_get h, upd_same]
  · rw [Array.getElem?_setIfInBounds_ne e]
    by_cases hi : i < R
    · rw [givCells_get hi, givCells_get hi, upd_other (Ne.symm e)]
    · simp [givCells, hi]
/-- a table of R rows of C boards -/
structure Rect (F : List (List Bool)) (R C : Nat) : Prop where
  rows : F.length = R
  wide : ∀ l ∈ F, l.length = C
  first : cols F = C
theorem Rect.get {F : List (List Bool)} {R C i k : Nat} (h : Rect F R C) (hi : i < F.length) (hk : k < C) : ∃ hk : k < F[i].length, fit F i k = F[i][k] := by
  have h1 := h.wide F[i] (List.getElem_mem hi)
  refine ⟨by omega, ?_⟩
  simp [fit, hi, show k < F[i].length from by omega]
/-- how many orders were not reached -/
def left (giv : Mat) (R : Nat) : Nat := cntP (fun j => (giv j).isNone) R

theorem cntP_left {giv : Mat} {R j b : Nat} (hj : j < R) (hg : giv j = none) : left (upd giv j (some b)) R + 1 = left giv R := by
  unfold left
  exact (cntP_turn (p := fun i => (upd giv j (some b) i).isNone) hj (fun k hk => by rw [upd_other hk]) (by rw [upd_same]; rfl) (by rw [hg]; rfl)).symm
/-- the state of the search -/
structure Srch (F : List (List Bool)) (R C lo o : Nat) (a : Mat) (v0 : Value) (gm bm bv gg base : Nat) (W : World) (v8 : Value) (q : List Nat) (vis giv : Mat) (rk : Nat → Nat) (wr : World) : Prop where
  bfs : Bfs F R C lo o a vis giv rk
  que : Que 3 base wr v8 q
  qin : ∀ j ∈ q, j < R ∧ (j = o ∨ giv j ≠ none)
  mvis : MapI C wr bv vis
  mto : MapI C wr bm a
  mgiv : Block wr gg (givCells giv R)
  mm : Block wr gm #[v0, .map (some bm), .int .i64 lo]
  ext : Ext W wr

theorem Srch.next {F : List (List Bool)} {R C lo o : Nat} {a : Mat} {v0 : Value} {gm bm bv gg base : Nat} {W : World} {v8 : Value} {q : List Nat} {vis giv : Mat} {rk : Nat → Nat} {wr wr' : World} (h : Srch F R C lo o a v0 gm bm bv gg base W v8 q vis giv rk wr) (hx : Ext wr wr') : Srch F R C lo o a v0 gm bm bv gg base W v8 q vis giv rk wr' :=
  ⟨h.bfs, h.que.ext hx, h.qin, h.mvis.ext hx, h.mto.ext hx, h.mgiv.ext hx, h.mm.ext hx, h.ext.trans hx⟩
theorem Que.own {E base : Nat} {w : World} {v : Value} {xs : List Nat} (h : Que E base w v xs) {g : Nat} (hg : g < base) : v.ownBlock ≠ some g := by
  obtain ⟨g', off, cap, cur, rfl, h2, _⟩ := h
  simp only [Value.ownBlock, ne_eq, Option.some.injEq]
  omega
theorem setCell_size (w : World) (p : Addr) (v : Value) : (w.setCell p v).heap.size = w.heap.size := by
  unfold World.setCell
  split <;> simp
instance (w : World) (p : Addr) (v : Value) (cs : Array Value) (t : TypeId) : Block ((w.setCell p v).alloc (.cells cs t)) w.heap.size cs := by
  have := Block.new (w.setCell p v) cs t
  rwa [setCell_size] at this
theorem upd_none {a : Mat} {k m x : Nat} (h : a m ≠ none) : upd a k (some x) m ≠ none := by
  by_cases e : m = k
  · subst e; rw [upd_same]; simp
  · rw [upd_other e]; exact h
theorem ExtB.blk {B b : Nat} {w : World} {cs : Array Value} (n : ExtB B w) (h : Block w b cs) (hb : b < B) : Block n.val b cs := by
  obtain ⟨t, e⟩ := h.get
  exact ⟨⟨t, by rw [n.below.block b hb]; exact e⟩⟩
theorem MapN.below {P : Program} {k e C B b : Nat} {w : World} {a : Mat} (h : MapN P k e C w b a) (n : ExtB B w) (hb : b < B) : MapN P k e C n.val b a := by
  obtain ⟨D, ⟨es, cl, h1, h2⟩, r⟩ := h
  exact ⟨D, ⟨es, cl, by rw [n.below.block b hb]; exact h1, h2⟩, r⟩
set_option maxRecDepth 20000 in
set_option maxHeartbeats 3200000 in
theorem extend_any (F : List (List Bool)) (R C lo o : Nat) (a : Mat) (v0 : Value) (gm bm : Nat) (w : World) (hR : R ≤ 1048576) (hC : C ≤ 1048576) (hlo : lo ≤ C) (ho : o < R) (hF : Rect F R C) (hOk : Ok F R C a)
    (hM : Block w gm #[v0, .map (some bm), .int .i64 lo]) (h1 : MapI C w bm a) (hG : GridS w v0 F) :
    Calls Try.prog 40 #[.pointer (some ⟨gm, 0, none⟩), .int .i64 o] w fun e w' => ∃ b : Bool, e = .returned (.bool b) ∧ ((b = true ∧ ∃ t, OneMore F R C lo o a t ∧ MapI C w' bm t) ∨ (b = false ∧ ¬ Feas F R C lo (bump (cnt C a lo) o) ∧ MapI C w' bm a)) ∧ Turn w w' bm := by
  obtain ⟨i0, hi, hz0, hz1, hz2⟩ := info_parts infoI
  have hmm := @run_makeMap Try.prog
  obtain ⟨p0, cap0, rfl, hg1, hg2, hg3⟩ := hG.form
  obtain rfl := hF.rows
  have hmk := run_make_row' (P := Try.prog) 29 3 (.int .i64 0) 8 Try.underlying29 infoI rfl .i64 .i64 F.length (by omega) (by omega)
  rw [initCells_made] at hmk
  have HF := Lib.hid hF
  have HOK := Lib.hid hOk
  have H1 := Lib.hid h1
  have HG := Lib.hid hG
  have ogm := hM.old
  have hbm := h1.lt
  have hgmlt := hM.lt
  have hgm : gm ≠ bm := fun e => by
    subst e
    obtain ⟨t, ht⟩ := hM.get
    obtain ⟨D, ⟨es, cl, hh, _⟩, _⟩ := h1
    rw [hh] at ht; cases ht
  clear hF hOk h1 hG
  go_enter Try.func40, Try.ntmps40
  go_wp2
  have HM0 : Hid (MapI C (w.alloc (.map #[] 0)) w.heap.size (fun _ => none)) := Lib.hid (MapN.made _ _ _ _ _)
  have HX0 : Hid (Ext w (w.alloc (.map #[] 0))) := Lib.hid ((Ext.refl w).alloc _)
  go_loopw [24] (fun v wr => ∃ k : Nat, k ≤ F.length ∧ v = .int .i64 k ∧ Block wr (w.heap.size + 1) (initCells k F.length) ∧ MapI C wr w.heap.size (fun _ => none) ∧ MapI C wr bm a ∧ Block wr gm #[.slice p0 F.length cap0, .map (some bm), .int .i64 lo] ∧ Ext w wr) (fun v _ => F.length - (intOf v).toNat)
  case atStart => exact ⟨0, by omega, rfl, inferInstance, HM0.out.alloc _, (H1.out.alloc _).alloc _, inferInstance, by repeat' (first | (with_reducible exact Ext.refl _) | (with_reducible exact ExtOf.ext _) | (with_reducible refine Ext.trans ?_ (ExtOf.ext _)) | (with_reducible refine Ext.alloc ?_ _) | (with_reducible refine Ext.drew ?_) | (with_reducible refine Ext.setCell ?_ ?_ _) | (with_reducible refine Ext.setRow ?_ ?_ _) | (with_reducible exact HX.out) | (with_reducible refine Ext.trans ?_ HX.out) | (with_reducible refine Ext.below ?_ (Nat.le_refl _) _) | (simp; done) | (simp; omega))⟩
  case round =>
    clear hM HM0 HX0 ogm
    obtain ⟨k, hk, rfl, hB, hm0, hm1, hM, hx⟩ := hrel
    have HM0 := Lib.hid hm0
    have HM1 := Lib.hid hm1
    have HX := Lib.hid hx
    have og := hB.old
    have ogm := hM.old
    have hsz : w.heap.size + 1 < wr.heap.size := hB.lt
    clear hm0 hm1 hx
    by_cases hlt : k < F.length
    · have hc : (initCells k F.length)[k]? = some (.int .i64 0) := by simp [initCells, hlt]
      go_wp2
      go_roundw
      case rel =>
        have hB' : Block (wr.setCell ⟨w.heap.size + 1, k, none⟩ (.int .i64 (-1))) (w.heap.size + 1) ((initCells k F.length).setIfInBounds k (.int .i64 (-1))) := inferInstance
        rw [initCells_set hlt] at hB'
        have hap : Apart (w.heap.size + 1) gm := ⟨by omega⟩
        exact ⟨k + 1, by omega, by go_num, hB', HM0.out.setCell (by omega) _, HM1.out.setCell (by omega) _, inferInstance, by repeat' (first | (with_reducible exact Ext.refl _) | (with_reducible exact ExtOf.ext _) | (with_reducible refine Ext.trans ?_ (ExtOf.ext _)) | (with_reducible refine Ext.alloc ?_ _) | (with_reducible refine Ext.drew ?_) | (with_reducible refine Ext.setCell ?_ ?_ _) | (with_reducible refine Ext.setRow ?_ ?_ _) | (with_reducible exact HX.out) | (with_reducible refine Ext.trans ?_ HX.out) | (with_reducible refine Ext.below ?_ (Nat.le_refl _) _) | (simp; done) | (simp; omega))⟩
      case measure => simp [intOf]; omega
    · obtain rfl : k = F.length := by omega
      rw [initCells_end] at hB
      go_wp2
      have hS0 : Srch F F.length C lo o a (.slice p0 F.length cap0) gm bm w.heap.size (w.heap.size + 1) (w.heap.size + 2) w (.slice (some ⟨wr.heap.size, 0, none⟩) 1 1) [o] (fun _ => none) (fun _ => none) (fun _ => 0) (wr.alloc (.cells #[.int .i64 (o : Int)] 3)) :=
        ⟨Bfs.start, (Que.made _ _ _).lower (by omega), fun j hj => by simp at hj; subst hj; exact ⟨ho, .inl rfl⟩, HM0.out.alloc _, HM1.out.alloc _, inferInstance, inferInstance, HX.out.alloc _⟩
      have HS0 := Lib.hid hS0
      have hcols := HF.out.first
      clear hS0 HM0 HM1 HX hB hM og ogm hsz hlt hk H1 hmk hmm
      generalize wr.alloc (.cells #[.int .i64 (o : Int)] 3) = W1 at *
      generalize Value.slice (some ⟨wr.heap.size, 0, none⟩) 1 1 = V1 at *
      go_loopg [8] (1 + F.length) (fun gk v8 wr => ∃ (q : List Nat) (vis giv : Mat) (rk : Nat → Nat), Srch F F.length C lo o a (.slice p0 F.length cap0) gm bm w.heap.size (w.heap.size + 1) (w.heap.size + 2) w v8 q vis giv rk wr ∧ Clo F C lo o vis giv (fun j => j ∈ q) ∧ q.length + left giv F.length ≤ gk ∧ gk ≤ 1 + F.length)
      case atStart => exact ⟨[o], _, _, _, HS0.out, fun j hj hp => absurd (by rcases hj with rfl | hj; simp; exact absurd rfl hj) hp, (Nat.add_le_add_left (cntP_len (fun j => ((fun _ => none : Mat) j).isNone) F.length) 1 : 1 + left (fun _ => none) F.length ≤ 1 + F.length), Nat.le_refl _⟩
      case round =>
        obtain ⟨q, vis, giv, rk, hS, hclo, hme, hgk⟩ := hrel
        clear HS0
        rcases q with _ | ⟨i, q⟩
        · have hfin := hS.bfs.fails HOK.out ho (fun j hj _ => hclo j hj (by simp))
          have HFIN := Lib.hid hfin
          have HTO := Lib.hid hS.mto
          have HX := Lib.hid hS.ext
          obtain ⟨g, off, cap, rfl, _, og, _⟩ := hS.que.form
          clear hfin hS hclo hme
          simp only [List.length_nil]
          go_wp2
          go_ret
          exact ⟨false, rfl, .inr ⟨rfl, HFIN.out, HTO.out⟩, Turn.of_ext HX.out⟩
        · obtain ⟨g, off, cap, rfl, hgb, og, hcap⟩ := hS.que.form
          have hhead := hS.que.head
          have htail := hS.que.tail
          have hiR := (hS.qin i (by simp)).1
          have hreach := (hS.qin i (by simp)).2
          have hM := hS.mm
          have hme2 : q.length + left giv F.length + 1 ≤ gk := by simp at hme; omega
          have HC : Hid (Clo F C lo o vis giv (fun j => j ∈ q ∨ j = i)) := Lib.hid (fun j hj hp => hclo j hj (fun h => hp (by rcases List.mem_cons.1 h with h | h; exact .inr h; exact .inl h)))
          have HQ : Hid (∀ j ∈ q, j < F.length ∧ (j = o ∨ giv j ≠ none)) := Lib.hid (fun j hj => hS.qin j (by simp [hj]))
          have HS := Lib.hid hS
          have HT := Lib.hid htail
          have HRE := Lib.hid hreach
          have ogm := hM.old
          clear hS htail hclo hreach hme
          simp only [List.length_cons] at *
          by_cases hc1 : cap = 1
          · subst hc1
            obtain ⟨hq0, hq1⟩ := HT.out.2 rfl
            subst hq0
            have HS1 : Hid (Srch F F.length C lo o a (.slice p0 F.length cap0) gm bm w.heap.size (w.heap.size + 1) (w.heap.size + 2) w (.slice (some ⟨g, off, none⟩) 0 0) [] vis giv rk wr) := Lib.hid ⟨HS.out.bfs, hq1, HQ.out, HS.out.mvis, HS.out.mto, HS.out.mgiv, HS.out.mm, HS.out.ext⟩
            clear hq1
            go_wp2
            clear HS HT HQ hM ogm og hhead hgb hcap
            go_loopw [8, 10] (fun v8 v wr => ∃ (b : Nat) (q : List Nat) (vis giv : Mat) (rk : Nat → Nat), v = .int .i64 b ∧ Srch F F.length C lo o a (.slice p0 F.length cap0) gm bm w.heap.size (w.heap.size + 1) (w.heap.size + 2) w v8 q vis giv rk wr ∧ lo ≤ b ∧ b ≤ C ∧ Clo F C lo o vis giv (fun j => j ∈ q ∨ j = i) ∧ (∀ k, lo ≤ k → k < b → fit F i k = true → vis k ≠ none) ∧ (i = o ∨ giv i ≠ none) ∧ q.length + left giv F.length + 1 ≤ gk) (fun _ v _ => C - (intOf v).toNat)
            case atStart => exact ⟨lo, [], vis, giv, rk, rfl, HS1.out, Nat.le_refl _, hlo, HC.out, (fun k h1 h2 => by omega), HRE.out, by simpa using hme2⟩
            case round =>
              clear HS1 HC HRE hme2
              obtain ⟨b, q, vis, giv, rk, rfl, hS, hb1, hb2, hclo, hcur, hreach, hme2⟩ := hrel
              have hM := hS.mm
              have ogm := hM.old
              go_wp2_with fail
              refine (columns_any _ F _ (HG.out.ext hS.ext) (by omega)).mono ?_
              rintro e w' ⟨rfl, n, rfl⟩
              rw [hcols]
              have hS := hS.next n.ext
              have hM := hS.mm
              generalize n.val = W2 at *
              clear n
              have ogm := hM.old
              have HS := Lib.hid hS
              have HCL := Lib.hid hclo
              have HCU := Lib.hid hcur
              have HRE := Lib.hid hreach
              have hGv := hS.mgiv
              have ogv := hGv.old
              clear hS hclo hcur hreach
              by_cases hbC : b < C
              · obtain ⟨b0, off0, rp, rc, rfl, ho0, c0, hrow⟩ := (HG.out.ext HS.out.ext).row hiR
                obtain ⟨hk', hfit⟩ := HF.out.get hiR hbC
                obtain ⟨b2, off2, rfl, ho2, c1⟩ := SliceOf.elem1 hrow hk' rfl
                have hrl := HF.out.wide _ (List.getElem_mem hiR)
                rw [← hfit] at c1
                rw [hrl] at c0
                clear hrow hrl hfit hk'
                rcases t1 : fit F i b with _ | _
                · rw [t1] at c1
                  go_wp2
                  go_roundw
                  case rel => exact ⟨b + 1, q, vis, giv, rk, by go_num, HS.out, by omega, by omega, HCL.out, (fun k h1 h2 h3 => by rcases Nat.lt_or_ge k b with h | h; exact HCU.out k h1 h h3; obtain rfl : k = b := (by omega); rw [t1] at h3; cases h3), HRE.out, hme2⟩
                  case measure => simp [intOf]; omega
                · rw [t1] at c1
                  rcases t2 : vis b with _ | vi
                  · rcases t3 : a b with _ | j
                    · have HBF := Lib.hid (HS.out.bfs.found hb1 hbC hiR t1 HRE.out t2)
                      have HHF := Lib.hid (Handing.first (vis := vis) (rk := rk) HOK.out hb1 hbC hiR t1 HRE.out t3)
                      go_wp2_with (first | (at_lookup; refine wl_look_ok HS.out.mvis Try.underlying3 Try.underlying3 Try.underlying68 zeroI hbC (by omega) rfl _ _ rfl rfl rfl ?_) | ((at_mapUpdate; refine wl_mput HS.out.mvis Try.underlying3 Try.underlying3 Try.underlying68 hbC (by omega) (by omega) rfl _ _ _ rfl rfl rfl rfl ?_); intro w1 hm1 ht1; have hM1 := ht1.blk hM (by omega); have hG1 := ht1.blk hGv (by omega); have om1 := hM1.old; have og1 := hG1.old; have HV1 := Lib.hid hm1; have HA1 := Lib.hid (HS.out.mto.turn ht1 (by omega)); have HQ1 := Lib.hid (HS.out.que.turn ht1 (HS.out.que.own (by omega))); have HX1 := Lib.hid (ht1.ext HS.out.ext (Nat.le_refl _)); have hz1' := HX1.out.size; have hzz := ht1.size; have hlt1 := hG1.lt; clear hm1 ht1) | (at_lookup; refine wl_look_ok HA1.out Try.underlying3 Try.underlying3 Try.underlying68 zeroI hbC (by omega) rfl _ _ rfl rfl rfl ?_) | (go_at_call 51; refine (hand_any F F.length C lo o a (upd vis b (some i)) giv rk _ gm bm w.heap.size (w.heap.size + 1) lo b i w1 hR hC ho hM1 HA1.out HV1.out (by omega) hG1 HBF.out HHF.out).mono ?_; rintro e w' ⟨rfl, t, hone, hmt, htt⟩))
                      go_ret
                      exact ⟨true, rfl, .inl ⟨rfl, t, hone, hmt⟩, (Turn.of_ext HX1.out).trans htt⟩
                    · have hjR := (HOK.out.at_ b j t3).2.1
                      have hgj := givCells_get (giv := giv) hjR
                      by_cases hjo : j = o
                      · subst hjo
                        have HB2 := Lib.hid (HS.out.bfs.known hb1 hbC hiR t1 HRE.out t2 t3 (.inl rfl))
                        go_wp2_with (first | (at_lookup; refine wl_look_ok HS.out.mvis Try.underlying3 Try.underlying3 Try.underlying68 zeroI hbC (by omega) rfl _ _ rfl rfl rfl ?_) | ((at_mapUpdate; refine wl_mput HS.out.mvis Try.underlying3 Try.underlying3 Try.underlying68 hbC (by omega) (by omega) rfl _ _ _ rfl rfl rfl rfl ?_); intro w1 hm1 ht1; have hM1 := ht1.blk hM (by omega); have hG1 := ht1.blk hGv (by omega); have om1 := hM1.old; have og1 := hG1.old; have HV1 := Lib.hid hm1; have HA1 := Lib.hid (HS.out.mto.turn ht1 (by omega)); have HQ1 := Lib.hid (HS.out.que.turn ht1 (HS.out.que.own (by omega))); have HX1 := Lib.hid (ht1.ext HS.out.ext (Nat.le_refl _)); have hz1' := HX1.out.size; have hzz := ht1.size; have hlt1 := hG1.lt; clear hm1 ht1) | (at_lookup; refine wl_look_ok HA1.out Try.underlying3 Try.underlying3 Try.underlying68 zeroI hbC (by omega) rfl _ _ rfl rfl rfl ?_))
                        go_roundw
                        case rel => exact ⟨b + 1, q, upd vis b (some i), giv, rk, by go_num, ⟨HB2.out, HQ1.out, HS.out.qin, HV1.out, HA1.out, hG1, hM1, HX1.out⟩, by omega, by omega, (fun j hj hp k h1 h2 h3 => upd_none (HCL.out j hj hp k h1 h2 h3)), (fun k h1 h2 h3 => by rcases Nat.lt_or_ge k b with h | h; exact upd_none (HCU.out k h1 h h3); obtain rfl : k = b := (by omega); rw [upd_same]; simp), HRE.out, hme2⟩
                        case measure => simp [intOf]; omega
                      · have hne : ((j : Int) != (o : Int)) = true := by simp; omega
                        rcases t4 : giv j with _ | kk
                        · rw [t4] at hgj
                          simp only at hgj
                          have HB2 := Lib.hid (HS.out.bfs.fresh hb1 hbC hiR t1 HRE.out t2 t3 hjR hjo t4)
                          have HLF := Lib.hid (cntP_left (b := b) hjR t4)
                          have hql : q.length ≤ gk := by omega
                          go_wp2_with (first | (at_lookup; refine wl_look_ok HS.out.mvis Try.underlying3 Try.underlying3 Try.underlying68 zeroI hbC (by omega) rfl _ _ rfl rfl rfl ?_) | ((at_mapUpdate; refine wl_mput HS.out.mvis Try.underlying3 Try.underlying3 Try.underlying68 hbC (by omega) (by omega) rfl _ _ _ rfl rfl rfl rfl ?_); intro w1 hm1 ht1; have hM1 := ht1.blk hM (by omega); have hG1 := ht1.blk hGv (by omega); have om1 := hM1.old; have og1 := hG1.old; have HV1 := Lib.hid hm1; have HA1 := Lib.hid (HS.out.mto.turn ht1 (by omega)); have HQ1 := Lib.hid (HS.out.que.turn ht1 (HS.out.que.own (by omega))); have HX1 := Lib.hid (ht1.ext HS.out.ext (Nat.le_refl _)); have hz1' := HX1.out.size; have hzz := ht1.size; have hlt1 := hG1.lt; clear hm1 ht1) | (at_lookup; refine wl_look_ok HA1.out Try.underlying3 Try.underlying3 Try.underlying68 zeroI hbC (by omega) rfl _ _ rfl rfl rfl ?_) | (at_builtin; refine wl_push (base := w.heap.size + 2) (xs := q) (y := j) Try.underlying29 hi hz0 hz1 hz2 rfl rfl ((HQ1.out.setCell (HQ1.out.own (by omega)) _).alloc _) inferInstance (by omega) (by simp [setCell_size]; omega) ?_; intro v' nb hq' _))
                          go_roundw
                          case rel =>
                            have hG2 : Block (w1.setCell ⟨w.heap.size + 1, j, none⟩ (.int .i64 (b : Int))) (w.heap.size + 1) ((givCells giv F.length).setIfInBounds j (.int .i64 (b : Int))) := inferInstance
                            rw [givCells_set hjR] at hG2
                            have hap : Apart (w.heap.size + 1) gm := ⟨by omega⟩
                            refine ⟨b + 1, q ++ [j], upd vis b (some i), upd giv j (some b), _, by go_num, ⟨HB2.out, hq', ?_, MapN.below ((HV1.out.setCell (by omega) _).alloc _) nb (by omega), MapN.below ((HA1.out.setCell (by omega) _).alloc _) nb (by omega), ExtB.blk nb inferInstance (by omega), ExtB.blk nb inferInstance (by omega), Ext.below ((HX1.out.setCell (by simp) _).alloc _) (by omega) nb⟩, by omega, by omega, ?_, ?_, ?_, ?_⟩
                            · intro x hx
                              rcases List.mem_append.1 hx with hx | hx
                              · obtain ⟨x1, x2⟩ := HS.out.qin x hx
                                exact ⟨x1, x2.imp id (fun h => upd_none h)⟩
                              · obtain rfl : x = j := by simpa using hx
                                exact ⟨hjR, .inr (by rw [upd_same]; simp)⟩
                            · intro x hx hp k h1 h2 h3
                              by_cases e : x = j
                              · subst e; exact absurd (.inl (by simp)) hp
                              · rw [upd_other e] at hx
                                exact upd_none (HCL.out x hx (fun h => hp (h.imp (fun h => by simp [h]) id)) k h1 h2 h3)
                            · intro k h1 h2 h3
                              rcases Nat.lt_or_ge k b with h | h
                              · exact upd_none (HCU.out k h1 h h3)
                              · obtain rfl : k = b := by omega
                                rw [upd_same]; simp
                            · exact HRE.out.imp id (fun h => upd_none h)
                            · have := HLF.out
                              simp only [List.length_append, List.length_singleton]
                              omega
                          case measure => simp [intOf]; omega
                        · rw [t4] at hgj
                          simp only at hgj
                          have HB2 := Lib.hid (HS.out.bfs.known hb1 hbC hiR t1 HRE.out t2 t3 (.inr (by rw [t4]; simp)))
                          have hkk : decide ((kk : Int) < 0) = false := by simp
                          go_wp2_with (first | (at_lookup; refine wl_look_ok HS.out.mvis Try.underlying3 Try.underlying3 Try.underlying68 zeroI hbC (by omega) rfl _ _ rfl rfl rfl ?_) | ((at_mapUpdate; refine wl_mput HS.out.mvis Try.underlying3 Try.underlying3 Try.underlying68 hbC (by omega) (by omega) rfl _ _ _ rfl rfl rfl rfl ?_); intro w1 hm1 ht1; have hM1 := ht1.blk hM (by omega); have hG1 := ht1.blk hGv (by omega); have om1 := hM1.old; have og1 := hG1.old; have HV1 := Lib.hid hm1; have HA1 := Lib.hid (HS.out.mto.turn ht1 (by omega)); have HQ1 := Lib.hid (HS.out.que.turn ht1 (HS.out.que.own (by omega))); have HX1 := Lib.hid (ht1.ext HS.out.ext (Nat.le_refl _)); have hz1' := HX1.out.size; have hzz := ht1.size; have hlt1 := hG1.lt; clear hm1 ht1) | (at_lookup; refine wl_look_ok HA1.out Try.underlying3 Try.underlying3 Try.underlying68 zeroI hbC (by omega) rfl _ _ rfl rfl rfl ?_))
                          go_roundw
                          case rel => exact ⟨b + 1, q, upd vis b (some i), giv, rk, by go_num, ⟨HB2.out, HQ1.out, HS.out.qin, HV1.out, HA1.out, hG1, hM1, HX1.out⟩, by omega, by omega, (fun j hj hp k h1 h2 h3 => upd_none (HCL.out j hj hp k h1 h2 h3)), (fun k h1 h2 h3 => by rcases Nat.lt_or_ge k b with h | h; exact upd_none (HCU.out k h1 h h3); obtain rfl : k = b := (by omega); rw [upd_same]; simp), HRE.out, hme2⟩
                          case measure => simp [intOf]; omega
                  · go_wp2_with (at_lookup; refine wl_look_ok HS.out.mvis Try.underlying3 Try.underlying3 Try.underlying68 zeroI hbC (by omega) rfl _ _ rfl rfl rfl ?_)
                    go_roundw
                    case rel => exact ⟨b + 1, q, vis, giv, rk, by go_num, HS.out, by omega, by omega, HCL.out, (fun k h1 h2 h3 => by rcases Nat.lt_or_ge k b with h | h; exact HCU.out k h1 h h3; obtain rfl : k = b := (by omega); rw [t2]; simp), HRE.out, hme2⟩
                    case measure => simp [intOf]; omega
              · obtain rfl : b = C := by omega
                go_wp2
                go_roundg (gk - 1)
                case rel => exact ⟨q, vis, giv, rk, HS.out, (fun j hj hp k h1 h2 h3 => by by_cases e : j = i; (subst e; exact HCU.out k h1 h2 h3); exact HCL.out j hj (fun h => h.elim hp e) k h1 h2 h3), by omega, by omega⟩
                case measure => omega
          · have HS1 : Hid (Srch F F.length C lo o a (.slice p0 F.length cap0) gm bm w.heap.size (w.heap.size + 1) (w.heap.size + 2) w (.slice (some ⟨g, off + 1, none⟩) q.length (cap - 1)) q vis giv rk wr) := Lib.hid ⟨HS.out.bfs, HT.out.1 hc1, HQ.out, HS.out.mvis, HS.out.mto, HS.out.mgiv, HS.out.mm, HS.out.ext⟩
            go_wp2
            clear HS HT HQ hM ogm og hhead hgb hcap
            go_loopw [8, 10] (fun v8 v wr => ∃ (b : Nat) (q : List Nat) (vis giv : Mat) (rk : Nat → Nat), v = .int .i64 b ∧ Srch F F.length C lo o a (.slice p0 F.length cap0) gm bm w.heap.size (w.heap.size + 1) (w.heap.size + 2) w v8 q vis giv rk wr ∧ lo ≤ b ∧ b ≤ C ∧ Clo F C lo o vis giv (fun j => j ∈ q ∨ j = i) ∧ (∀ k, lo ≤ k → k < b → fit F i k = true → vis k ≠ none) ∧ (i = o ∨ giv i ≠ none) ∧ q.length + left giv F.length + 1 ≤ gk) (fun _ v _ => C - (intOf v).toNat)
            case atStart => exact ⟨lo, q, vis, giv, rk, rfl, HS1.out, Nat.le_refl _, hlo, HC.out, (fun k h1 h2 => by omega), HRE.out, by simpa using hme2⟩
            case round =>
              clear HS1 HC HRE hme2
              obtain ⟨b, q, vis, giv, rk, rfl, hS, hb1, hb2, hclo, hcur, hreach, hme2⟩ := hrel
              have hM := hS.mm
              have ogm := hM.old
              go_wp2_with fail
              refine (columns_any _ F _ (HG.out.ext hS.ext) (by omega)).mono ?_
              rintro e w' ⟨rfl, n, rfl⟩
              rw [hcols]
              have hS := hS.next n.ext
              have hM := hS.mm
              generalize n.val = W2 at *
              clear n
              have ogm := hM.old
              have HS := Lib.hid hS
              have HCL := Lib.hid hclo
              have HCU := Lib.hid hcur
              have HRE := Lib.hid hreach
              have hGv := hS.mgiv
              have ogv := hGv.old
              clear hS hclo hcur hreach
              by_cases hbC : b < C
              · obtain ⟨b0, off0, rp, rc, rfl, ho0, c0, hrow⟩ := (HG.out.ext HS.out.ext).row hiR
                obtain ⟨hk', hfit⟩ := HF.out.get hiR hbC
                obtain ⟨b2, off2, rfl, ho2, c1⟩ := SliceOf.elem1 hrow hk' rfl
                have hrl := HF.out.wide _ (List.getElem_mem hiR)
                rw [← hfit] at c1
                rw [hrl] at c0
                clear hrow hrl hfit hk'
                rcases t1 : fit F i b with _ | _
                · rw [t1] at c1
                  go_wp2
                  go_roundw
                  case rel => exact ⟨b + 1, q, vis, giv, rk, by go_num, HS.out, by omega, by omega, HCL.out, (fun k h1 h2 h3 => by rcases Nat.lt_or_ge k b with h | h; exact HCU.out k h1 h h3; obtain rfl : k = b := (by omega); rw [t1] at h3; cases h3), HRE.out, hme2⟩
                  case measure => simp [intOf]; omega
                · rw [t1] at c1
                  rcases t2 : vis b with _ | vi
                  · rcases t3 : a b with _ | j
                    · have HBF := Lib.hid (HS.out.bfs.found hb1 hbC hiR t1 HRE.out t2)
                      have HHF := Lib.hid (Handing.first (vis := vis) (rk := rk) HOK.out hb1 hbC hiR t1 HRE.out t3)
                      go_wp2_with (first | (at_lookup; refine wl_look_ok HS.out.mvis Try.underlying3 Try.underlying3 Try.underlying68 zeroI hbC (by omega) rfl _ _ rfl rfl rfl ?_) | ((at_mapUpdate; refine wl_mput HS.out.mvis Try.underlying3 Try.underlying3 Try.underlying68 hbC (by omega) (by omega) rfl _ _ _ rfl rfl rfl rfl ?_); intro w1 hm1 ht1; have hM1 := ht1.blk hM (by omega); have hG1 := ht1.blk hGv (by omega); have om1 := hM1.old; have og1 := hG1.old; have HV1 := Lib.hid hm1; have HA1 := Lib.hid (HS.out.mto.turn ht1 (by omega)); have HQ1 := Lib.hid (HS.out.que.turn ht1 (HS.out.que.own (by omega))); have HX1 := Lib.hid (ht1.ext HS.out.ext (Nat.le_refl _)); have hz1' := HX1.out.size; have hzz := ht1.size; have hlt1 := hG1.lt; clear hm1 ht1) | (at_lookup; refine wl_look_ok HA1.out Try.underlying3 Try.underlying3 Try.underlying68 zeroI hbC (by omega) rfl _ _ rfl rfl rfl ?_) | (go_at_call 51; refine (hand_any F F.length C lo o a (upd vis b (some i)) giv rk _ gm bm w.heap.size (w.heap.size + 1) lo b i w1 hR hC ho hM1 HA1.out HV1.out (by omega) hG1 HBF.out HHF.out).mono ?_; rintro e w' ⟨rfl, t, hone, hmt, htt⟩))
                      go_ret
                      exact ⟨true, rfl, .inl ⟨rfl, t, hone, hmt⟩, (Turn.of_ext HX1.out).trans htt⟩
                    · have hjR := (HOK.out.at_ b j t3).2.1
                      have hgj := givCells_get (giv := giv) hjR
                      by_cases hjo : j = o
                      · subst hjo
                        have HB2 := Lib.hid (HS.out.bfs.known hb1 hbC hiR t1 HRE.out t2 t3 (.inl rfl))
                        go_wp2_with (first | (at_lookup; refine wl_look_ok HS.out.mvis Try.underlying3 Try.underlying3 Try.underlying68 zeroI hbC (by omega) rfl _ _ rfl rfl rfl ?_) | ((at_mapUpdate; refine wl_mput HS.out.mvis Try.underlying3 Try.underlying3 Try.underlying68 hbC (by omega) (by omega) rfl _ _ _ rfl rfl rfl rfl ?_); intro w1 hm1 ht1; have hM1 := ht1.blk hM (by omega); have hG1 := ht1.blk hGv (by omega); have om1 := hM1.old; have og1 := hG1.old; have HV1 := Lib.hid hm1; have HA1 := Lib.hid (HS.out.mto.turn ht1 (by omega)); have HQ1 := Lib.hid (HS.out.que.turn ht1 (HS.out.que.own (by omega))); have HX1 := Lib.hid (ht1.ext HS.out.ext (Nat.le_refl _)); have hz1' := HX1.out.size; have hzz := ht1.size; have hlt1 := hG1.lt; clear hm1 ht1) | (at_lookup; refine wl_look_ok HA1.out Try.underlying3 Try.underlying3 Try.underlying68 zeroI hbC (by omega) rfl _ _ rfl rfl rfl ?_))
                        go_roundw
                        case rel => exact ⟨b + 1, q, upd vis b (some i), giv, rk, by go_num, ⟨HB2.out, HQ1.out, HS.out.qin, HV1.out, HA1.out, hG1, hM1, HX1.out⟩, by omega, by omega, (fun j hj hp k h1 h2 h3 => upd_none (HCL.out j hj hp k h1 h2 h3)), (fun k h1 h2 h3 => by rcases Nat.lt_or_ge k b with h | h; exact upd_none (HCU.out k h1 h h3); obtain rfl : k = b := (by omega); rw [upd_same]; simp), HRE.out, hme2⟩
                        case measure => simp [intOf]; omega
                      · have hne : ((j : Int) != (o : Int)) = true := by simp; omega
                        rcases t4 : giv j with _ | kk
                        · rw [t4] at hgj
                          simp only at hgj
                          have HB2 := Lib.hid (HS.out.bfs.fresh hb1 hbC hiR t1 HRE.out t2 t3 hjR hjo t4)
                          have HLF := Lib.hid (cntP_left (b := b) hjR t4)
                          have hql : q.length ≤ gk := by omega
                          go_wp2_with (first | (at_lookup; refine wl_look_ok HS.out.mvis Try.underlying3 Try.underlying3 Try.underlying68 zeroI hbC (by omega) rfl _ _ rfl rfl rfl ?_) | ((at_mapUpdate; refine wl_mput HS.out.mvis Try.underlying3 Try.underlying3 Try.underlying68 hbC (by omega) (by omega) rfl _ _ _ rfl rfl rfl rfl ?_); intro w1 hm1 ht1; have hM1 := ht1.blk hM (by omega); have hG1 := ht1.blk hGv (by omega); have om1 := hM1.old; have og1 := hG1.old; have HV1 := Lib.hid hm1; have HA1 := Lib.hid (HS.out.mto.turn ht1 (by omega)); have HQ1 := Lib.hid (HS.out.que.turn ht1 (HS.out.que.own (by omega))); have HX1 := Lib.hid (ht1.ext HS.out.ext (Nat.le_refl _)); have hz1' := HX1.out.size; have hzz := ht1.size; have hlt1 := hG1.lt; clear hm1 ht1) | (at_lookup; refine wl_look_ok HA1.out Try.underlying3 Try.underlying3 Try.underlying68 zeroI hbC (by omega) rfl _ _ rfl rfl rfl ?_) | (at_builtin; refine wl_push (base := w.heap.size + 2) (xs := q) (y := j) Try.underlying29 hi hz0 hz1 hz2 rfl rfl ((HQ1.out.setCell (HQ1.out.own (by omega)) _).alloc _) inferInstance (by omega) (by simp [setCell_size]; omega) ?_; intro v' nb hq' _))
                          go_roundw
                          case rel =>
                            have hG2 : Block (w1.setCell ⟨w.heap.size + 1, j, none⟩ (.int .i64 (b : Int))) (w.heap.size + 1) ((givCells giv F.length).setIfInBounds j (.int .i64 (b : Int))) := inferInstance
                            rw [givCells_set hjR] at hG2
                            have hap : Apart (w.heap.size + 1) gm := ⟨by omega⟩
                            refine ⟨b + 1, q ++ [j], upd vis b (some i), upd giv j (some b), _, by go_num, ⟨HB2.out, hq', ?_, MapN.below ((HV1.out.setCell (by omega) _).alloc _) nb (by omega), MapN.below ((HA1.out.setCell (by omega) _).alloc _) nb (by omega), ExtB.blk nb inferInstance (by omega), ExtB.blk nb inferInstance (by omega), Ext.below ((HX1.out.setCell (by simp) _).alloc _) (by omega) nb⟩, by omega, by omega, ?_, ?_, ?_, ?_⟩
                            · intro x hx
                              rcases List.mem_append.1 hx with hx | hx
                              · obtain ⟨x1, x2⟩ := HS.out.qin x hx
                                exact ⟨x1, x2.imp id (fun h => upd_none h)⟩
                              · obtain rfl : x = j := by simpa using hx
                                exact ⟨hjR, .inr (by rw [upd_same]; simp)⟩
                            · intro x hx hp k h1 h2 h3
                              by_cases e : x = j
                              · subst e; exact absurd (.inl (by simp)) hp
                              · rw [upd_other e] at hx
                                exact upd_none (HCL.out x hx (fun h => hp (h.imp (fun h => by simp [h]) id)) k h1 h2 h3)
                            · intro k h1 h2 h3
                              rcases Nat.lt_or_ge k b with h | h
                              · exact upd_none (HCU.out k h1 h h3)
                              · obtain rfl : k = b := by omega
                                rw [upd_same]; simp
                            · exact HRE.out.imp id (fun h => upd_none h)
                            · have := HLF.out
                              simp only [List.length_append, List.length_singleton]
                              omega
                          case measure => simp [intOf]; omega
                        · rw [t4] at hgj
                          simp only at hgj
                          have HB2 := Lib.hid (HS.out.bfs.known hb1 hbC hiR t1 HRE.out t2 t3 (.inr (by rw [t4]; simp)))
                          have hkk : decide ((kk : Int) < 0) = false := by simp
                          go_wp2_with (first | (at_lookup; refine wl_look_ok HS.out.mvis Try.underlying3 Try.underlying3 Try.underlying68 zeroI hbC (by omega) rfl _ _ rfl rfl rfl ?_) | ((at_mapUpdate; refine wl_mput HS.out.mvis Try.underlying3 Try.underlying3 Try.underlying68 hbC (by omega) (by omega) rfl _ _ _ rfl rfl rfl rfl ?_); intro w1 hm1 ht1; have hM1 := ht1.blk hM (by omega); have hG1 := ht1.blk hGv (by omega); have om1 := hM1.old; have og1 := hG1.old; have HV1 := Lib.hid hm1; have HA1 := Lib.hid (HS.out.mto.turn ht1 (by omega)); have HQ1 := Lib.hid (HS.out.que.turn ht1 (HS.out.que.own (by omega))); have HX1 := Lib.hid (ht1.ext HS.out.ext (Nat.le_refl _)); have hz1' := HX1.out.size; have hzz := ht1.size; have hlt1 := hG1.lt; clear hm1 ht1) | (at_lookup; refine wl_look_ok HA1.out Try.underlying3 Try.underlying3 Try.underlying68 zeroI hbC (by omega) rfl _ _ rfl rfl rfl ?_))
                          go_roundw
                          case rel => exact ⟨b + 1, q, upd vis b (some i), giv, rk, by go_num, ⟨HB2.out, HQ1.out, HS.out.qin, HV1.out, HA1.out, hG1, hM1, HX1.out⟩, by omega, by omega, (fun j hj hp k h1 h2 h3 => upd_none (HCL.out j hj hp k h1 h2 h3)), (fun k h1 h2 h3 => by rcases Nat.lt_or_ge k b with h | h; exact upd_none (HCU.out k h1 h h3); obtain rfl : k = b := (by omega); rw [upd_same]; simp), HRE.out, hme2⟩
                          case measure => simp [intOf]; omega
                  · go_wp2_with (at_lookup; refine wl_look_ok HS.out.mvis Try.underlying3 Try.underlying3 Try.underlying68 zeroI hbC (by omega) rfl _ _ rfl rfl rfl ?_)
                    go_roundw
                    case rel => exact ⟨b + 1, q, vis, giv, rk, by go_num, HS.out, by omega, by omega, HCL.out, (fun k h1 h2 h3 => by rcases Nat.lt_or_ge k b with h | h; exact HCU.out k h1 h h3; obtain rfl : k = b := (by omega); rw [t2]; simp), HRE.out, hme2⟩
                    case measure => simp [intOf]; omega
              · obtain rfl : b = C := by omega
                go_wp2
                go_roundg (gk - 1)
                case rel => exact ⟨q, vis, giv, rk, HS.out, (fun j hj hp k h1 h2 h3 => by by_cases e : j = i; (subst e; exact HCU.out k h1 h2 h3); exact HCL.out j hj (fun h => h.elim hp e) k h1 h2 h3), by omega, by omega⟩
                case measure => omega

end Go.Proofs.Ythchddkdcibbhaa
