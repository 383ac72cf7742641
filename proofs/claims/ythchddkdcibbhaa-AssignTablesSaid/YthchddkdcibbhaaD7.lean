/-
  The walk of the statement AssignMore.
-/
import Derived.Test.YthchddkdcibbhaaD2
import Derived.Test.YthchddkdcibbhaaE3
import Derived.Test.YthchddkdcibbhaaC6
namespace Go.Proofs.Ythchddkdcibbhaa
open Go.RowKit AssignM

attribute [local go_sem] ExtOf.cell ExtOf.frozen Block.cell Block.frozen ExtB.cell ExtB.frozen alloc_cell alloc_frozen
theorem better_is {a b : List Int} {x : Bool} {v0 v1 : Value} {w : World} (h : betterS a b = x) (hla : a.length ≤ 1048576) (hlb : b.length ≤ 1048576) (h0 : IntS w v0 a) (h1 : IntS w v1 b) :
    Calls Try.prog 22 #[v0, v1] w fun e w' => e = .returned (.bool x) ∧ ∃ n : ExtOf w, w' = n.val := by
  have := better_any a b v0 v1 w h0 h1 hla hlb
  rw [h] at this
  exact this
/-- a row of a table, as a value -/
abbrev RowV := Option Addr × Nat × Nat
def rowV (r : RowV) : Value := .slice r.1 r.2.1 r.2.2
def encR (r : RowV) : List Value := [rowV r]
theorem encR_len (r : RowV) : (encR r).length = 1 := rfl
theorem encR_one (r : RowV) : ∀ u ∈ encR r, u.oneCell' = true := by intro u hu; simp [encR] at hu; subst hu; rfl
theorem encI_one (b : Int) : ∀ u ∈ encI b, u.oneCell' = true := by intro u hu; simp [encI] at hu; subst hu; rfl
theorem encB_one (b : Bool) : ∀ u ∈ encB b, u.oneCell' = true := by intro u hu; simp [encB] at hu; subst hu; rfl
theorem infoRow : (Try.prog.info? 27).map (fun i => (i.zero, i.size, i.bytes)) = some (some (.slice none 0 0), 1, 24) := by kernel_rfl
theorem Own.builtB (w : World) : Own encB 1 4 w.heap.size (w.alloc (.cells #[] 4)) (.slice (some ⟨w.heap.size, 0, none⟩) 0 0) [] :=
  ⟨rfl, .inr ⟨w.heap.size, 0, #[], rfl, Nat.le_refl _, (MapKept.heap_alloc w _).1, Nat.le_refl _, Nat.zero_le _, rfl, rfl⟩⟩
theorem Own.formB {E base : Nat} {w : World} {v : Value} {l : List Bool} {x : Bool} (h : Own encB 1 E base w v (l ++ [x])) : ∃ g cap, v = .slice (some ⟨g, 0, none⟩) (l.length + 1) cap ∧ base ≤ g ∧ g < w.heap.size := by
  obtain ⟨hl, hn | ⟨g, cap, cur, rfl, hb, hg, _⟩⟩ := h
  · obtain ⟨_, hn⟩ := hn
    simp at hn
  · exact ⟨g, cap, by simp, hb, (Array.getElem?_eq_some_iff.1 hg).1⟩
theorem Own.builtI (w : World) : Own encI 1 3 w.heap.size (w.alloc (.cells #[] 3)) (.slice (some ⟨w.heap.size, 0, none⟩) 0 0) [] :=
  ⟨rfl, .inr ⟨w.heap.size, 0, #[], rfl, Nat.le_refl _, (MapKept.heap_alloc w _).1, Nat.le_refl _, Nat.zero_le _, rfl, rfl⟩⟩
theorem Own.setI {E base : Nat} {w : World} {v : Value} {l : List Int} (h : Own encI 1 E base w v l) {i : Nat} (hi : i < l.length) :
    ∃ g cap, v = .slice (some ⟨g, 0, none⟩) l.length cap ∧ base ≤ g ∧ Old g w ∧ w.cell? ⟨g, i, none⟩ = some (.int .i64 l[i]) ∧ w.frozen? ⟨g, i, none⟩ = false ∧
      ∀ X : Int, Own encI 1 E base (w.setCell ⟨g, i, none⟩ (.int .i64 X)) v (l.set i X) := by
  have hsl := Own.slice encI_len h
  obtain ⟨hl, hn | ⟨g, cap, cur, rfl, hb, hg, hn, hc, hs, ht⟩⟩ := h
  · obtain ⟨_, hn⟩ := hn
    omega
  · obtain ⟨b, off, hp, ho, hcell⟩ := SliceOf.elem1 hsl hi rfl
    obtain ⟨rfl, rfl⟩ : g = b ∧ 0 = off := by simpa using hp
    rw [Nat.zero_add] at hcell
    refine ⟨g, cap, rfl, hb, ho, hcell, by simp [World.frozen?, hg], fun X => ⟨by rw [flatMap_len encI_len], .inr ⟨g, cap, cur.setIfInBounds i (.int .i64 X), by simp, hb, ?_, by simpa using hn, hc, by simpa using hs, ?_⟩⟩⟩
    · rw [setCell_eq_setRow w g i cur _ (0, 0) _ hg]
      exact setRow_heap w g cur _ _ _ hg
    · rw [Array.toList_setIfInBounds, List.length_set, List.take_set, ht]
      apply List.ext_getElem?
      intro j
      have hfm : ∀ (m : List Int), m.flatMap encI = m.map (fun x : Int => Value.int .i64 x) := fun m => by
        induction m with
        | nil => rfl
        | cons a m ih => simp [encI, ih]
      rw [hfm, hfm, List.map_set]
/-- the rows that are there -/
def RowsOk (G : List (List Bool)) (v9 : Value) (rs : List RowV) (w : World) : Prop := ∀ (i : Nat) (r : RowV), rs[i]? = some r → ∃ (row : List Bool) (a : Addr), G[i]? = some row ∧ BoolS w (rowV r) row ∧ r.1 = some a ∧ a.block < w.heap.size ∧ v9.ownBlock ≠ some a.block
theorem RowsOk.nil (G : List (List Bool)) (v9 : Value) (w : World) : RowsOk G v9 [] w := fun i r h => by simp at h
theorem RowsOk.keep {G : List (List Bool)} {v9 v9' : Value} {rs : List RowV} {w w1 w2 : World} (h : RowsOk G v9 rs w) (hx : Ext w w1) (hk : Kept w1 v9 w2 v9') : RowsOk G v9' rs w2 := fun i r hr => by
  obtain ⟨row, a, h1, h2, h3, h4, h5⟩ := h i r hr
  have hlt := Nat.lt_of_lt_of_le h4 hx.size
  refine ⟨row, a, h1, hk.slice (SliceOf.ext h2 hx) (fun a' ha' => ?_), h3, Nat.lt_of_lt_of_le hlt hk.size, hk.ne hlt h5⟩
  rw [h3] at ha'
  obtain rfl := Option.some.inj ha'
  exact h5
theorem RowsOk.snoc {G : List (List Bool)} {v9 : Value} {rs : List RowV} {w : World} (h : RowsOk G v9 rs w) {r : RowV} {row : List Bool} {a : Addr} (h1 : G[rs.length]? = some row) (h2 : BoolS w (rowV r) row) (h3 : r.1 = some a) (h4 : a.block < w.heap.size) (h5 : v9.ownBlock ≠ some a.block) : RowsOk G v9 (rs ++ [r]) w := fun i r' hr => by
  rcases Nat.lt_trichotomy i rs.length with hi | hi | hi
  · rw [List.getElem?_append_left hi] at hr
    exact h i r' hr
  · subst hi
    simp at hr
    subst hr
    exact ⟨row, a, h1, h2, h3, h4, h5⟩
  · rw [List.getElem?_eq_none (by simp; omega)] at hr
    cases hr
theorem RowsOk.grid {G : List (List Bool)} {v9 : Value} {rs : List RowV} {w : World} (h : RowsOk G v9 rs w) (hs : SliceOf encR 1 w v9 rs) (hl : rs.length = G.length) : GridS w v9 G := by
  obtain ⟨p, cap, e, h1, h2, h3, h4⟩ := hs
  refine ⟨rs.map rowV, ⟨p, cap, by simpa using e, by simpa using h1, h2, h3, fun i x hi => ?_⟩, by simpa using hl, fun i r l hr hG => ?_⟩
  · rw [List.getElem?_map] at hi
    rcases hr : rs[i]? with _ | r
    · rw [hr] at hi; cases hi
    · rw [hr] at hi
      obtain rfl : rowV r = x := by simpa using hi
      obtain ⟨b, off, e1, e2⟩ := h4 i r hr
      exact ⟨b, off, e1, e2⟩
  · rw [List.getElem?_map] at hr
    rcases hr' : rs[i]? with _ | r'
    · rw [hr'] at hr; cases hr
    · rw [hr'] at hr
      obtain rfl : rowV r' = r := by simpa using hr
      obtain ⟨row, a, g1, g2, _⟩ := h i r' hr'
      rw [g1] at hG
      obtain rfl : row = l := by simpa using hG
      exact g2
theorem natTmod (a b : Nat) : Int.tmod (a : Int) (b : Int) = ((a % b : Nat) : Int) := (Int.ofNat_tmod a b).symm
attribute [local go_sem] natTmod
set_option maxRecDepth 20000 in
set_option maxHeartbeats 3200000 in
theorem more_walk (F : List (List Bool)) (l m : List Int) (bd : List Bool) (q : Nat) (v0 v1 v2 v3 : Value) (w : World) (hq : q < 256) (hG : GridS w v0 F) (h1 : IntS w v1 l) (h2 : IntS w v2 m) (h3 : BoolS w v3 bd) :
    Calls Try.prog 9 #[.agg #[v0, v1, v2], v3, .int .u8 (q : Int)] w fun e w' => e = .returned (.bool true) ∧ ∃ n : ExtOf w, w' = n.val := by
  obtain ⟨iI, hiI, hI0, hI1, hI2⟩ := info_parts infoI
  obtain ⟨iB, hiB, hB0, hB1, hB2⟩ := info_parts infoB
  obtain ⟨iR, hiR, hR0, hR1, hR2⟩ := info_parts infoRow
  obtain ⟨p0, cap0, rfl, hh1, hh2, hh3⟩ := hG.form
  obtain ⟨p1, cap1, rfl, hg1, hg2, hg3⟩ := SliceOf.form h1
  obtain ⟨p2, cap2, rfl, hg4, hg5, hg6⟩ := SliceOf.form h2
  obtain ⟨p3, cap3, rfl, hg7, hg8, hg9⟩ := SliceOf.form h3
  have HG := Lib.hid hG
  have H2 := Lib.hid h2
  have H3 := Lib.hid h3
  clear hG h1 h2 h3
  go_enter Try.func9, Try.ntmps9
  go_wp2_with fail
  refine (small_any F _ _ (HG.out.ext (by repeat' (first | (with_reducible exact Ext.refl _) | (with_reducible exact ExtOf.ext _) | (with_reducible refine Ext.trans ?_ (ExtOf.ext _)) | (with_reducible refine Ext.alloc ?_ _) | (with_reducible refine Ext.drew ?_) | (with_reducible refine Ext.setCell ?_ ?_ _) | (with_reducible refine Ext.setRow ?_ ?_ _) | (with_reducible exact HX.out) | (with_reducible refine Ext.trans ?_ HX.out) | (with_reducible refine Ext.below ?_ (Nat.le_refl _) _) | (simp; done) | (simp; omega))))).mono ?_
  rintro e w' ⟨b, rfl, hb, n1, rfl⟩
  rcases b with _ | _
  · go_wp2_with fail
    refine (awake_any _).mono ?_
    rintro e w' ⟨rfl, nz, rfl⟩
    go_wp2_with fail
    go_ret
    refine ⟨rfl, ?_⟩
    exact ExtOf.of (by repeat' (first | (with_reducible exact Ext.refl _) | (with_reducible exact ExtOf.ext _) | (with_reducible refine Ext.trans ?_ (ExtOf.ext _)) | (with_reducible refine Ext.alloc ?_ _) | (with_reducible refine Ext.drew ?_) | (with_reducible refine Ext.setCell ?_ ?_ _) | (with_reducible refine Ext.setRow ?_ ?_ _) | (with_reducible exact HX.out) | (with_reducible refine Ext.trans ?_ HX.out) | (with_reducible refine Ext.below ?_ (Nat.le_refl _) _) | (simp; done) | (simp; omega)))
  · have hR := hb rfl
    clear hb
    rcases t1 : decide (50 < m.length) with _ | _
    · have t1' : decide ((50 : Int) < (m.length : Int)) = false := by simp at t1 ⊢; omega
      have hml : m.length ≤ 50 := by simp at t1; omega
      clear t1
      rcases t2 : decide (50 < bd.length) with _ | _
      · have t2' : decide ((50 : Int) < (bd.length : Int)) = false := by simp at t2 ⊢; omega
        have hbl : bd.length ≤ 50 := by simp at t2; omega
        clear t2
        by_cases t3 : F.length = 0
        · have t3' : ((F.length : Int) == 0) = true := by simpa using t3
          go_wp2_with fail
          refine (awake_any _).mono ?_
          rintro e w' ⟨rfl, nz, rfl⟩
          go_wp2_with fail
          go_ret
          refine ⟨rfl, ?_⟩
          exact ExtOf.of (by repeat' (first | (with_reducible exact Ext.refl _) | (with_reducible exact ExtOf.ext _) | (with_reducible refine Ext.trans ?_ (ExtOf.ext _)) | (with_reducible refine Ext.alloc ?_ _) | (with_reducible refine Ext.drew ?_) | (with_reducible refine Ext.setCell ?_ ?_ _) | (with_reducible refine Ext.setRow ?_ ?_ _) | (with_reducible exact HX.out) | (with_reducible refine Ext.trans ?_ HX.out) | (with_reducible refine Ext.below ?_ (Nat.le_refl _) _) | (simp; done) | (simp; omega)))
        · have t3' : ((F.length : Int) == 0) = false := by simpa using t3
          have hF0 : 0 < F.length := by omega
          have hcg := cols_get hF0
          obtain ⟨b0, off0, rp, rc, rfl, ho0, c0, hrow⟩ := HG.out.row hF0
          rw [← hcg, Nat.add_zero] at c0
          clear hcg hrow
          rcases t4 : decide (13 < cols F) with _ | _
          · have t4' : decide ((13 : Int) < (cols F : Int)) = false := by simp at t4 ⊢; omega
            have hcl : cols F ≤ 13 := by simp at t4; omega
            clear t4
            go_wp2_with fail
            refine (counts_any F m _ _ _ (by omega) (HG.out.ext (by repeat' (first | (with_reducible exact Ext.refl _) | (with_reducible exact ExtOf.ext _) | (with_reducible refine Ext.trans ?_ (ExtOf.ext _)) | (with_reducible refine Ext.alloc ?_ _) | (with_reducible refine Ext.drew ?_) | (with_reducible refine Ext.setCell ?_ ?_ _) | (with_reducible refine Ext.setRow ?_ ?_ _) | (with_reducible exact HX.out) | (with_reducible refine Ext.trans ?_ HX.out) | (with_reducible refine Ext.below ?_ (Nat.le_refl _) _) | (simp; done) | (simp; omega)))) (SliceOf.ext H2.out (by repeat' (first | (with_reducible exact Ext.refl _) | (with_reducible exact ExtOf.ext _) | (with_reducible refine Ext.trans ?_ (ExtOf.ext _)) | (with_reducible refine Ext.alloc ?_ _) | (with_reducible refine Ext.drew ?_) | (with_reducible refine Ext.setCell ?_ ?_ _) | (with_reducible refine Ext.setRow ?_ ?_ _) | (with_reducible exact HX.out) | (with_reducible refine Ext.trans ?_ HX.out) | (with_reducible refine Ext.below ?_ (Nat.le_refl _) _) | (simp; done) | (simp; omega)))) (by omega)).mono ?_
            rintro e w' ⟨vc, rfl, hvc, n2, rfl⟩
            obtain ⟨p5, cap5, rfl, hk4, hk5, hk6⟩ := SliceOf.form hvc
            have cb0 : n2.val.cell? ⟨w.heap.size, 0, none⟩ = some (.slice (some ⟨b0, off0, none⟩) F.length cap0) := by simp [go_sem]
            have cb2 : n2.val.cell? ⟨w.heap.size, 2, none⟩ = some (.slice p2 m.length cap2) := by simp [go_sem]
            have HX : Hid (Ext w n2.val) := Lib.hid (by repeat' (first | (with_reducible exact Ext.refl _) | (with_reducible exact ExtOf.ext _) | (with_reducible refine Ext.trans ?_ (ExtOf.ext _)) | (with_reducible refine Ext.alloc ?_ _) | (with_reducible refine Ext.drew ?_) | (with_reducible refine Ext.setCell ?_ ?_ _) | (with_reducible refine Ext.setRow ?_ ?_ _) | (with_reducible exact HX.out) | (with_reducible refine Ext.trans ?_ HX.out) | (with_reducible refine Ext.below ?_ (Nat.le_refl _) _) | (simp; done) | (simp; omega)))
            have HVC := Lib.hid hvc
            have ow : Old w.heap.size n2.val := Old.of_cell cb0
            clear hvc t1' t2' t3' t4' c0 ho0
            generalize n2.val = W2 at *
            clear n2 n1
            by_cases t5 : mostErr F m = 0
            · obtain ⟨e1, hmf, e3⟩ := mostErr_ok t5
              have HCL := Lib.hid (countsS_len t5)
              obtain ⟨hw1, hw2⟩ := wider_ok (bd := bd) t5 hF0 hcl
              have HWE := Lib.hid hw1
              have HWL := Lib.hid (countsS_len hw1)
              have HB1 := Lib.hid (more_boards (bd := bd) t5 hF0 hcl)
              have HB2 := Lib.hid (fun i => more_numbers (i := i) t5)
              have HME := Lib.hid (fun i => more_ok (i := i) t5)
              have HML := Lib.hid (fun i => countsS_len (more_ok (i := i) t5))
              have HN := Lib.hid (IntS.nats H2.out (fun x hx => (e3 x hx).1))
              have HE3 := Lib.hid e3
              have HMF := Lib.hid hmf
              have hmz : 0 < m.length := by omega
              have HWD := Lib.hid (fun r hr => (Rect.of e1).1.wide r hr)
              clear e1 e3 hw1 hw2
              rw [t5]
              rw [HCL.out] at hk4 ⊢
              have HVC' : Hid (IntS W2 (.slice p5 F.length cap5) (countsS F m)) := Lib.hid (by have := HVC.out; rw [HCL.out] at this; exact this)
              clear HVC t5
              rw [hmf] at cb2 hg4
              have H2' : Hid (IntS w (.slice p2 F.length cap2) m) := Lib.hid (by have := H2.out; rw [hmf] at this; exact this)
              have HN' : Hid (NatS w (.slice p2 F.length cap2) (toNats m)) := Lib.hid (by have := HN.out; rw [hmf] at this; exact this)
              clear hmf H2 HN
              generalize hcs : countsS F m = cs at *
              clear hcs
              go_wp2_with fail
              go_loopw [9, 10] (fun v9 v wr => ∃ (k : Nat) (rs : List RowV), k ≤ F.length ∧ v = .int .i64 k ∧ rs.length = k ∧ Own encR 1 27 W2.heap.size wr v9 rs ∧ RowsOk (wider F bd) v9 rs wr ∧ Ext W2 wr) (fun _ v _ => F.length - (intOf v).toNat)
              case atStart => exact ⟨0, [], by omega, rfl, rfl, Own.nil _, RowsOk.nil _ _ _, Ext.refl _⟩
              case round =>
                obtain ⟨k, rs, hk, rfl, hrl, ho, hro, hx⟩ := hrel
                have HX2 : Hid (Ext w wr) := Lib.hid (HX.out.trans hx)
                replace HX := HX2
                have cr0 := hx.cell cb0
                have cr2 := hx.cell cb2
                have owr : Old w.heap.size wr := Old.of_cell cr0
                have HXL := Lib.hid hx
                have HO := Lib.hid ho
                have HRO := Lib.hid hro
                clear hx ho hro cb0 cb2
                by_cases hlt : k < F.length
                · obtain ⟨bq, offq, rp2, rc2, hpq, hoq, cq, hrow⟩ := (HG.out.ext HX2.out).row hlt
                  obtain ⟨rfl, rfl⟩ : b0 = bq ∧ off0 = offq := by simpa using hpq
                  clear hpq
                  have HROW := Lib.hid hrow
                  have HWG := Lib.hid (wider_get (bd := bd) hlt)
                  have hfl : F[k].length ≤ 1048576 := by have := HWD.out _ (List.getElem_mem hlt); omega
                  clear hrow
                  obtain ⟨x, hxb, HXV⟩ : ∃ x : Bool, x = (bd[k]?).getD false ∧ Hid True := ⟨_, rfl, Lib.hid trivial⟩
                  rw [← hxb] at HWG
                  by_cases hkb : k < bd.length
                  · have dk : decide ((k : Int) < (bd.length : Int)) = true := by simp; omega
                    obtain ⟨b3, off3, rfl, o3, c3⟩ := SliceOf.elem1 (SliceOf.ext H3.out HX2.out) hkb rfl
                    have hxe : bd[k] = x := by rw [hxb, List.getElem?_eq_getElem hkb]; rfl
                    rw [hxe] at c3
                    clear hxe hxb
                    go_wp2_with (first | (at_builtin; refine wl_appendS (enc := encB) (k := 1) (E := 4) (base := wr.heap.size) (l := []) (m := F[k]) Try.underlying27 hiB hB0 hB1 hB2 rfl (by decide) encB_len encB_one rfl rfl (Own.builtB wr) (SliceOf.ext HROW.out (by repeat' (first | (with_reducible exact Ext.refl _) | (with_reducible exact ExtOf.ext _) | (with_reducible refine Ext.trans ?_ (ExtOf.ext _)) | (with_reducible refine Ext.alloc ?_ _) | (with_reducible refine Ext.drew ?_) | (with_reducible refine Ext.setCell ?_ ?_ _) | (with_reducible refine Ext.setRow ?_ ?_ _) | (with_reducible exact HX.out) | (with_reducible refine Ext.trans ?_ HX.out) | (with_reducible refine Ext.below ?_ (Nat.le_refl _) _) | (simp; done) | (simp; omega)))) (by simp; unfold maxLen; omega) (by simp; omega) (by simp) ?_; intro va na hownA; rw [List.nil_append] at hownA; replace hownA := Lib.hid hownA) | (at_builtin; refine wl_append1 (enc := encB) (k := 1) (E := 4) (base := wr.heap.size) (l := F[k]) (y := x) Try.underlying27 hiB hB0 hB1 hB2 rfl (by decide) encB_len encB_one rfl rfl (Own.alloc hownA.out _) inferInstance rfl (by unfold maxLen; omega) (by omega) (by have := na.below.size; simp at this ⊢; omega) ?_; intro vb nb hownB; obtain ⟨gb, capb, rfl, hgb1, hgb2⟩ := Own.formB hownB; replace hownB := Lib.hid hownB) | (at_builtin; refine wl_append1g (enc := encR) (k := 1) (E := 27) (base := W2.heap.size) (l := rs) (y := (some ⟨gb, 0, none⟩, F[k].length + 1, capb)) Try.underlying25 hiR hR0 hR1 hR2 rfl (by decide) encR_len encR_one rfl rfl (Own.ext HO.out (by repeat' (first | (with_reducible exact Ext.refl _) | (with_reducible exact ExtOf.ext _) | (with_reducible refine Ext.trans ?_ (ExtOf.ext _)) | (with_reducible refine Ext.alloc ?_ _) | (with_reducible refine Ext.drew ?_) | (with_reducible refine Ext.setCell ?_ ?_ _) | (with_reducible refine Ext.setRow ?_ ?_ _) | (with_reducible exact HX.out) | (with_reducible refine Ext.trans ?_ HX.out) | (with_reducible refine Ext.below ?_ (Nat.le_refl _) _) | (simp; done) | (simp; omega)))) inferInstance rfl (by unfold maxLen; omega) (by omega) (by have h9 : Ext W2 (nb.val.alloc (.cells #[.slice (some ⟨gb, 0, none⟩) (F[k].length + 1) capb] 27)) := HXL.out.trans (by repeat' (first | (with_reducible exact Ext.refl _) | (with_reducible exact ExtOf.ext _) | (with_reducible refine Ext.trans ?_ (ExtOf.ext _)) | (with_reducible refine Ext.alloc ?_ _) | (with_reducible refine Ext.drew ?_) | (with_reducible refine Ext.setCell ?_ ?_ _) | (with_reducible refine Ext.setRow ?_ ?_ _) | (with_reducible exact HX.out) | (with_reducible refine Ext.trans ?_ HX.out) | (with_reducible refine Ext.below ?_ (Nat.le_refl _) _) | (simp; done) | (simp; omega))); exact h9.size) ?_; intro vc nc hownC hkept))
                    go_roundw
                    case rel =>
                      have hW1 : Ext wr (nb.val.alloc (.cells #[.slice (some ⟨gb, 0, none⟩) (F[k].length + 1) capb] 27)) := by repeat' (first | (with_reducible exact Ext.refl _) | (with_reducible exact ExtOf.ext _) | (with_reducible refine Ext.trans ?_ (ExtOf.ext _)) | (with_reducible refine Ext.alloc ?_ _) | (with_reducible refine Ext.drew ?_) | (with_reducible refine Ext.setCell ?_ ?_ _) | (with_reducible refine Ext.setRow ?_ ?_ _) | (with_reducible exact HX.out) | (with_reducible refine Ext.trans ?_ HX.out) | (with_reducible refine Ext.below ?_ (Nat.le_refl _) _) | (simp; done) | (simp; omega))
                      have hlt1 : gb < (nb.val.alloc (.cells #[.slice (some ⟨gb, 0, none⟩) (F[k].length + 1) capb] 27)).heap.size := by simp; omega
                      have hne1 : u9.ownBlock ≠ some gb := Own.block_lt HO.out hgb1
                      have hsl1 : BoolS (nb.val.alloc (.cells #[.slice (some ⟨gb, 0, none⟩) (F[k].length + 1) capb] 27)) (.slice (some ⟨gb, 0, none⟩) (F[k].length + 1) capb) (F[k] ++ [x]) := SliceOf.ext (Own.slice encB_len hownB.out) ((Ext.refl _).alloc _)
                      refine ⟨k + 1, rs ++ [(some ⟨gb, 0, none⟩, F[k].length + 1, capb)], by omega, by go_num, by simp [hrl], hownC, ?_, Ext.below (HXL.out.trans hW1) (Nat.le_refl _) nc⟩
                      refine (HRO.out.keep hW1 hkept).snoc (row := F[k] ++ [x]) (a := ⟨gb, 0, none⟩) (by rw [hrl]; exact HWG.out) (hkept.slice hsl1 (fun a ha => by obtain rfl := Option.some.inj ha; exact hne1)) rfl (Nat.lt_of_lt_of_le hlt1 hkept.size) (hkept.ne hlt1 hne1)
                    case measure => simp [intOf]; omega
                  · have dk : decide ((k : Int) < (bd.length : Int)) = false := by simp; omega
                    have hxe : x = false := by rw [hxb, List.getElem?_eq_none (by omega)]; rfl
                    subst hxe
                    clear hxb
                    go_wp2_with (first | (at_builtin; refine wl_appendS (enc := encB) (k := 1) (E := 4) (base := wr.heap.size) (l := []) (m := F[k]) Try.underlying27 hiB hB0 hB1 hB2 rfl (by decide) encB_len encB_one rfl rfl (Own.builtB wr) (SliceOf.ext HROW.out (by repeat' (first | (with_reducible exact Ext.refl _) | (with_reducible exact ExtOf.ext _) | (with_reducible refine Ext.trans ?_ (ExtOf.ext _)) | (with_reducible refine Ext.alloc ?_ _) | (with_reducible refine Ext.drew ?_) | (with_reducible refine Ext.setCell ?_ ?_ _) | (with_reducible refine Ext.setRow ?_ ?_ _) | (with_reducible exact HX.out) | (with_reducible refine Ext.trans ?_ HX.out) | (with_reducible refine Ext.below ?_ (Nat.le_refl _) _) | (simp; done) | (simp; omega)))) (by simp; unfold maxLen; omega) (by simp; omega) (by simp) ?_; intro va na hownA; rw [List.nil_append] at hownA; replace hownA := Lib.hid hownA) | (at_builtin; refine wl_append1 (enc := encB) (k := 1) (E := 4) (base := wr.heap.size) (l := F[k]) (y := false) Try.underlying27 hiB hB0 hB1 hB2 rfl (by decide) encB_len encB_one rfl rfl (Own.alloc hownA.out _) inferInstance rfl (by unfold maxLen; omega) (by omega) (by have := na.below.size; simp at this ⊢; omega) ?_; intro vb nb hownB; obtain ⟨gb, capb, rfl, hgb1, hgb2⟩ := Own.formB hownB; replace hownB := Lib.hid hownB) | (at_builtin; refine wl_append1g (enc := encR) (k := 1) (E := 27) (base := W2.heap.size) (l := rs) (y := (some ⟨gb, 0, none⟩, F[k].length + 1, capb)) Try.underlying25 hiR hR0 hR1 hR2 rfl (by decide) encR_len encR_one rfl rfl (Own.ext HO.out (by repeat' (first | (with_reducible exact Ext.refl _) | (with_reducible exact ExtOf.ext _) | (with_reducible refine Ext.trans ?_ (ExtOf.ext _)) | (with_reducible refine Ext.alloc ?_ _) | (with_reducible refine Ext.drew ?_) | (with_reducible refine Ext.setCell ?_ ?_ _) | (with_reducible refine Ext.setRow ?_ ?_ _) | (with_reducible exact HX.out) | (with_reducible refine Ext.trans ?_ HX.out) | (with_reducible refine Ext.below ?_ (Nat.le_refl _) _) | (simp; done) | (simp; omega)))) inferInstance rfl (by unfold maxLen; omega) (by omega) (by have h9 : Ext W2 (nb.val.alloc (.cells #[.slice (some ⟨gb, 0, none⟩) (F[k].length + 1) capb] 27)) := HXL.out.trans (by repeat' (first | (with_reducible exact Ext.refl _) | (with_reducible exact ExtOf.ext _) | (with_reducible refine Ext.trans ?_ (ExtOf.ext _)) | (with_reducible refine Ext.alloc ?_ _) | (with_reducible refine Ext.drew ?_) | (with_reducible refine Ext.setCell ?_ ?_ _) | (with_reducible refine Ext.setRow ?_ ?_ _) | (with_reducible exact HX.out) | (with_reducible refine Ext.trans ?_ HX.out) | (with_reducible refine Ext.below ?_ (Nat.le_refl _) _) | (simp; done) | (simp; omega))); exact h9.size) ?_; intro vc nc hownC hkept))
                    go_roundw
                    case rel =>
                      have hW1 : Ext wr (nb.val.alloc (.cells #[.slice (some ⟨gb, 0, none⟩) (F[k].length + 1) capb] 27)) := by repeat' (first | (with_reducible exact Ext.refl _) | (with_reducible exact ExtOf.ext _) | (with_reducible refine Ext.trans ?_ (ExtOf.ext _)) | (with_reducible refine Ext.alloc ?_ _) | (with_reducible refine Ext.drew ?_) | (with_reducible refine Ext.setCell ?_ ?_ _) | (with_reducible refine Ext.setRow ?_ ?_ _) | (with_reducible exact HX.out) | (with_reducible refine Ext.trans ?_ HX.out) | (with_reducible refine Ext.below ?_ (Nat.le_refl _) _) | (simp; done) | (simp; omega))
                      have hlt1 : gb < (nb.val.alloc (.cells #[.slice (some ⟨gb, 0, none⟩) (F[k].length + 1) capb] 27)).heap.size := by simp; omega
                      have hne1 : u9.ownBlock ≠ some gb := Own.block_lt HO.out hgb1
                      have hsl1 : BoolS (nb.val.alloc (.cells #[.slice (some ⟨gb, 0, none⟩) (F[k].length + 1) capb] 27)) (.slice (some ⟨gb, 0, none⟩) (F[k].length + 1) capb) (F[k] ++ [false]) := SliceOf.ext (Own.slice encB_len hownB.out) ((Ext.refl _).alloc _)
                      refine ⟨k + 1, rs ++ [(some ⟨gb, 0, none⟩, F[k].length + 1, capb)], by omega, by go_num, by simp [hrl], hownC, ?_, Ext.below (HXL.out.trans hW1) (Nat.le_refl _) nc⟩
                      refine (HRO.out.keep hW1 hkept).snoc (row := F[k] ++ [false]) (a := ⟨gb, 0, none⟩) (by rw [hrl]; exact HWG.out) (hkept.slice hsl1 (fun a ha => by obtain rfl := Option.some.inj ha; exact hne1)) rfl (Nat.lt_of_lt_of_le hlt1 hkept.size) (hkept.ne hlt1 hne1)
                    case measure => simp [intOf]; omega
                · obtain rfl : k = F.length := by omega
                  have HGW := Lib.hid (HRO.out.grid (Own.slice encR_len HO.out) (by rw [hrl, wider_len]))
                  clear HRO HO
                  go_wp2_with fail
                  refine (counts_any (wider F bd) m _ _ _ (by rw [wider_len]; omega) (HGW.out.ext (by repeat' (first | (with_reducible exact Ext.refl _) | (with_reducible exact ExtOf.ext _) | (with_reducible refine Ext.trans ?_ (ExtOf.ext _)) | (with_reducible refine Ext.alloc ?_ _) | (with_reducible refine Ext.drew ?_) | (with_reducible refine Ext.setCell ?_ ?_ _) | (with_reducible refine Ext.setRow ?_ ?_ _) | (with_reducible exact HX.out) | (with_reducible refine Ext.trans ?_ HX.out) | (with_reducible refine Ext.below ?_ (Nat.le_refl _) _) | (simp; done) | (simp; omega)))) (SliceOf.ext H2'.out (by repeat' (first | (with_reducible exact Ext.refl _) | (with_reducible exact ExtOf.ext _) | (with_reducible refine Ext.trans ?_ (ExtOf.ext _)) | (with_reducible refine Ext.alloc ?_ _) | (with_reducible refine Ext.drew ?_) | (with_reducible refine Ext.setCell ?_ ?_ _) | (with_reducible refine Ext.setRow ?_ ?_ _) | (with_reducible exact HX.out) | (with_reducible refine Ext.trans ?_ HX.out) | (with_reducible refine Ext.below ?_ (Nat.le_refl _) _) | (simp; done) | (simp; omega)))) (by omega)).mono ?_
                  rintro e w' ⟨va, rfl, hva, n3, rfl⟩
                  obtain ⟨p6, cap6, rfl, hj4, hj5, hj6⟩ := SliceOf.form hva
                  rw [HWL.out, wider_len] at hj4
                  have HVA : Hid (IntS n3.val (.slice p6 F.length cap6) (countsS (wider F bd) m)) := Lib.hid (by have := hva; rw [HWL.out, wider_len] at this; exact this)
                  rw [HWL.out, wider_len, HWE.out]
                  clear hva
                  have HX3 : Hid (Ext w n3.val) := Lib.hid (by repeat' (first | (with_reducible exact Ext.refl _) | (with_reducible exact ExtOf.ext _) | (with_reducible refine Ext.trans ?_ (ExtOf.ext _)) | (with_reducible refine Ext.alloc ?_ _) | (with_reducible refine Ext.drew ?_) | (with_reducible refine Ext.setCell ?_ ?_ _) | (with_reducible refine Ext.setRow ?_ ?_ _) | (with_reducible exact HX.out) | (with_reducible refine Ext.trans ?_ HX.out) | (with_reducible refine Ext.below ?_ (Nat.le_refl _) _) | (simp; done) | (simp; omega)))
                  have HVC3 : Hid (IntS n3.val (.slice p5 F.length cap5) cs) := Lib.hid (SliceOf.ext HVC'.out (HXL.out.trans n3.ext))
                  have co0 : n3.val.cell? ⟨w.heap.size, 0, none⟩ = some (.slice (some ⟨b0, off0, none⟩) F.length cap0) := n3.ext.cell cr0
                  have co2 : n3.val.cell? ⟨w.heap.size, 2, none⟩ = some (.slice p2 F.length cap2) := n3.ext.cell cr2
                  clear HX HX2 HXL HGW HVC' cr0 cr2 owr
                  generalize n3.val = W3 at *
                  clear n3
                  have HX := HX3
                  have ow3 : Old w.heap.size W3 := Old.of_cell co0
                  have hjm : q % m.length < m.length := Nat.mod_lt _ hmz
                  obtain ⟨X0, hX0⟩ : ∃ X0 : Int, X0 = m[q % m.length] := ⟨_, rfl⟩
                  have hXb := HE3.out _ (List.getElem_mem hjm)
                  rw [← hX0] at hXb
                  have hXm : more m (q % m.length) = m.set (q % m.length) (min (X0 + 1) 200) := by unfold more; rw [List.getElem?_eq_getElem hjm, ← hX0]; rfl
                  have HXM := Lib.hid hXm
                  have HX0 := Lib.hid hX0
                  have hwlt := ow3.lt
                  clear hXm hX0
                  by_cases t7 : X0 = 200
                  · subst t7
                    clear hXb
                    go_wp2_with (at_builtin; refine wl_appendS (enc := encI) (k := 1) (E := 3) (base := W3.heap.size) (l := []) (m := m) Try.underlying29 hiI hI0 hI1 hI2 rfl (by decide) encI_len encI_one rfl rfl (Own.builtI W3) (SliceOf.ext H2'.out (by repeat' (first | (with_reducible exact Ext.refl _) | (with_reducible exact ExtOf.ext _) | (with_reducible refine Ext.trans ?_ (ExtOf.ext _)) | (with_reducible refine Ext.alloc ?_ _) | (with_reducible refine Ext.drew ?_) | (with_reducible refine Ext.setCell ?_ ?_ _) | (with_reducible refine Ext.setRow ?_ ?_ _) | (with_reducible exact HX.out) | (with_reducible refine Ext.trans ?_ HX.out) | (with_reducible refine Ext.below ?_ (Nat.le_refl _) _) | (simp; done) | (simp; omega)))) (by simp; unfold maxLen; omega) (by simp; omega) (by simp) ?_; intro vm nm hownM; rw [List.nil_append] at hownM; obtain ⟨gm, capm, rfl, hgm, ogm, cgm, fgm, hsetm⟩ := Own.setI hownM hjm; rw [← HX0.out] at cgm; replace hownM := Lib.hid hownM; replace hsetm := Lib.hid hsetm; have hco : ∀ X : Value, (nm.val.setCell ⟨gm, q % m.length, none⟩ X).cell? ⟨w.heap.size, 0, none⟩ = some (.slice (some ⟨b0, off0, none⟩) F.length cap0) := (fun X => by
                        have hne : w.heap.size ≠ gm := by omega
                        rw [World.cell?_setCell_other _ _ _ _ (by simp [hne])]; exact Ext.cell (by repeat' (first | (with_reducible exact Ext.refl _) | (with_reducible exact ExtOf.ext _) | (with_reducible refine Ext.trans ?_ (ExtOf.ext _)) | (with_reducible refine Ext.alloc ?_ _) | (with_reducible refine Ext.drew ?_) | (with_reducible refine Ext.setCell ?_ ?_ _) | (with_reducible refine Ext.setRow ?_ ?_ _) | (with_reducible exact HX.out) | (with_reducible refine Ext.trans ?_ HX.out) | (with_reducible refine Ext.below ?_ (Nat.le_refl _) _) | (simp; done) | (simp; omega))) co0))
                    have HOM : Hid (Own encI 1 3 W3.heap.size (nm.val.setCell ⟨gm, q % m.length, none⟩ (.int .i64 (200))) (.slice (some ⟨gm, 0, none⟩) m.length capm) (more m (q % m.length))) := Lib.hid (by rw [HXM.out, show min ((200 : Int) + 1) 200 = 200 by omega]; exact hsetm.out _)
                    replace HX : Hid (Ext w nm.val) := Lib.hid (Ext.below (HX3.out.alloc _) HX3.out.size nm)
                    refine (counts_any F (more m (q % m.length)) _ _ _ (by omega) (HG.out.ext (by repeat' (first | (with_reducible exact Ext.refl _) | (with_reducible exact ExtOf.ext _) | (with_reducible refine Ext.trans ?_ (ExtOf.ext _)) | (with_reducible refine Ext.alloc ?_ _) | (with_reducible refine Ext.drew ?_) | (with_reducible refine Ext.setCell ?_ ?_ _) | (with_reducible refine Ext.setRow ?_ ?_ _) | (with_reducible exact HX.out) | (with_reducible refine Ext.trans ?_ HX.out) | (with_reducible refine Ext.below ?_ (Nat.le_refl _) _) | (simp; done) | (simp; omega)))) (by have := Own.slice encI_len HOM.out; exact this) (by simp [more]; omega)).mono ?_
                    rintro e w' ⟨vd, rfl, hvd, n4, rfl⟩
                    obtain ⟨p7, cap7, rfl, hi4, hi5, hi6⟩ := SliceOf.form hvd
                    rw [HML.out] at hi4
                    have HVD : Hid (IntS n4.val (.slice p7 F.length cap7) (countsS F (more m (q % m.length)))) := Lib.hid (by have := hvd; rw [HML.out] at this; exact this)
                    rw [HML.out, HME.out]
                    clear hvd
                    have HX4 : Hid (Ext W3 n4.val) := Lib.hid ((Ext.setCell (Ext.below ((Ext.refl _).alloc _) (Nat.le_refl _) nm) hgm _).trans n4.ext)
                    go_wp2_with fail
                    refine (better_is HB1.out (by rw [HCL.out]; omega) (by rw [HWL.out, wider_len]; omega) (SliceOf.ext HVC3.out HX4.out) (SliceOf.ext HVA.out HX4.out)).mono ?_
                    rintro e w' ⟨rfl, n5, rfl⟩
                    go_wp2_with fail
                    refine (better_is (HB2.out _) (by rw [HCL.out]; omega) (by rw [HML.out]; omega) (SliceOf.ext HVC3.out (HX4.out.trans n5.ext)) (SliceOf.ext HVD.out n5.ext)).mono ?_
                    rintro e w' ⟨rfl, n6, rfl⟩
                    go_wp2_with fail
                    refine (awake_any _).mono ?_
                    rintro e w' ⟨rfl, nz, rfl⟩
                    go_wp2_with fail
                    go_ret
                    refine ⟨rfl, ?_⟩
                    exact ExtOf.of (by repeat' (first | (with_reducible exact Ext.refl _) | (with_reducible exact ExtOf.ext _) | (with_reducible refine Ext.trans ?_ (ExtOf.ext _)) | (with_reducible refine Ext.alloc ?_ _) | (with_reducible refine Ext.drew ?_) | (with_reducible refine Ext.setCell ?_ ?_ _) | (with_reducible refine Ext.setRow ?_ ?_ _) | (with_reducible exact HX.out) | (with_reducible refine Ext.trans ?_ HX.out) | (with_reducible refine Ext.below ?_ (Nat.le_refl _) _) | (simp; done) | (simp; omega)))
                  · have t8 : decide ((200 : Int) < X0 + 1) = false := by simp; omega
                    have hX1 : 0 ≤ X0 := hXb.1
                    have hX2 : X0 ≤ 200 := hXb.2
                    go_wp2_with (at_builtin; refine wl_appendS (enc := encI) (k := 1) (E := 3) (base := W3.heap.size) (l := []) (m := m) Try.underlying29 hiI hI0 hI1 hI2 rfl (by decide) encI_len encI_one rfl rfl (Own.builtI W3) (SliceOf.ext H2'.out (by repeat' (first | (with_reducible exact Ext.refl _) | (with_reducible exact ExtOf.ext _) | (with_reducible refine Ext.trans ?_ (ExtOf.ext _)) | (with_reducible refine Ext.alloc ?_ _) | (with_reducible refine Ext.drew ?_) | (with_reducible refine Ext.setCell ?_ ?_ _) | (with_reducible refine Ext.setRow ?_ ?_ _) | (with_reducible exact HX.out) | (with_reducible refine Ext.trans ?_ HX.out) | (with_reducible refine Ext.below ?_ (Nat.le_refl _) _) | (simp; done) | (simp; omega)))) (by simp; unfold maxLen; omega) (by simp; omega) (by simp) ?_; intro vm nm hownM; rw [List.nil_append] at hownM; obtain ⟨gm, capm, rfl, hgm, ogm, cgm, fgm, hsetm⟩ := Own.setI hownM hjm; rw [← HX0.out] at cgm; replace hownM := Lib.hid hownM; replace hsetm := Lib.hid hsetm; have hco : ∀ X : Value, (nm.val.setCell ⟨gm, q % m.length, none⟩ X).cell? ⟨w.heap.size, 0, none⟩ = some (.slice (some ⟨b0, off0, none⟩) F.length cap0) := (fun X => by
                        have hne : w.heap.size ≠ gm := by omega
                        rw [World.cell?_setCell_other _ _ _ _ (by simp [hne])]; exact Ext.cell (by repeat' (first | (with_reducible exact Ext.refl _) | (with_reducible exact ExtOf.ext _) | (with_reducible refine Ext.trans ?_ (ExtOf.ext _)) | (with_reducible refine Ext.alloc ?_ _) | (with_reducible refine Ext.drew ?_) | (with_reducible refine Ext.setCell ?_ ?_ _) | (with_reducible refine Ext.setRow ?_ ?_ _) | (with_reducible exact HX.out) | (with_reducible refine Ext.trans ?_ HX.out) | (with_reducible refine Ext.below ?_ (Nat.le_refl _) _) | (simp; done) | (simp; omega))) co0))
                    have HOM : Hid (Own encI 1 3 W3.heap.size (nm.val.setCell ⟨gm, q % m.length, none⟩ (.int .i64 (X0 + 1))) (.slice (some ⟨gm, 0, none⟩) m.length capm) (more m (q % m.length))) := Lib.hid (by rw [HXM.out, show min (X0 + 1) 200 = X0 + 1 by omega]; exact hsetm.out _)
                    replace HX : Hid (Ext w nm.val) := Lib.hid (Ext.below (HX3.out.alloc _) HX3.out.size nm)
                    refine (counts_any F (more m (q % m.length)) _ _ _ (by omega) (HG.out.ext (by repeat' (first | (with_reducible exact Ext.refl _) | (with_reducible exact ExtOf.ext _) | (with_reducible refine Ext.trans ?_ (ExtOf.ext _)) | (with_reducible refine Ext.alloc ?_ _) | (with_reducible refine Ext.drew ?_) | (with_reducible refine Ext.setCell ?_ ?_ _) | (with_reducible refine Ext.setRow ?_ ?_ _) | (with_reducible exact HX.out) | (with_reducible refine Ext.trans ?_ HX.out) | (with_reducible refine Ext.below ?_ (Nat.le_refl _) _) | (simp; done) | (simp; omega)))) (by have := Own.slice encI_len HOM.out; exact this) (by simp [more]; omega)).mono ?_
                    rintro e w' ⟨vd, rfl, hvd, n4, rfl⟩
                    obtain ⟨p7, cap7, rfl, hi4, hi5, hi6⟩ := SliceOf.form hvd
                    rw [HML.out] at hi4
                    have HVD : Hid (IntS n4.val (.slice p7 F.length cap7) (countsS F (more m (q % m.length)))) := Lib.hid (by have := hvd; rw [HML.out] at this; exact this)
                    rw [HML.out, HME.out]
                    clear hvd
                    have HX4 : Hid (Ext W3 n4.val) := Lib.hid ((Ext.setCell (Ext.below ((Ext.refl _).alloc _) (Nat.le_refl _) nm) hgm _).trans n4.ext)
                    go_wp2_with fail
                    refine (better_is HB1.out (by rw [HCL.out]; omega) (by rw [HWL.out, wider_len]; omega) (SliceOf.ext HVC3.out HX4.out) (SliceOf.ext HVA.out HX4.out)).mono ?_
                    rintro e w' ⟨rfl, n5, rfl⟩
                    go_wp2_with fail
                    refine (better_is (HB2.out _) (by rw [HCL.out]; omega) (by rw [HML.out]; omega) (SliceOf.ext HVC3.out (HX4.out.trans n5.ext)) (SliceOf.ext HVD.out n5.ext)).mono ?_
                    rintro e w' ⟨rfl, n6, rfl⟩
                    go_wp2_with fail
                    refine (awake_any _).mono ?_
                    rintro e w' ⟨rfl, nz, rfl⟩
                    go_wp2_with fail
                    go_ret
                    refine ⟨rfl, ?_⟩
                    exact ExtOf.of (by repeat' (first | (with_reducible exact Ext.refl _) | (with_reducible exact ExtOf.ext _) | (with_reducible refine Ext.trans ?_ (ExtOf.ext _)) | (with_reducible refine Ext.alloc ?_ _) | (with_reducible refine Ext.drew ?_) | (with_reducible refine Ext.setCell ?_ ?_ _) | (with_reducible refine Ext.setRow ?_ ?_ _) | (with_reducible exact HX.out) | (with_reducible refine Ext.trans ?_ HX.out) | (with_reducible refine Ext.below ?_ (Nat.le_refl _) _) | (simp; done) | (simp; omega)))
            · have hne : (mostErr F m != 0) = true := by simpa using t5
              have hcs : countsS F m = [] := by simp [countsS, t5]
              rw [hcs]
              generalize mostErr F m = te at *
              simp only [List.length_nil]
              go_wp2_with fail
              refine (awake_any _).mono ?_
              rintro e w' ⟨rfl, nz, rfl⟩
              go_wp2_with fail
              go_ret
              refine ⟨rfl, ?_⟩
              exact ExtOf.of (by repeat' (first | (with_reducible exact Ext.refl _) | (with_reducible exact ExtOf.ext _) | (with_reducible refine Ext.trans ?_ (ExtOf.ext _)) | (with_reducible refine Ext.alloc ?_ _) | (with_reducible refine Ext.drew ?_) | (with_reducible refine Ext.setCell ?_ ?_ _) | (with_reducible refine Ext.setRow ?_ ?_ _) | (with_reducible exact HX.out) | (with_reducible refine Ext.trans ?_ HX.out) | (with_reducible refine Ext.below ?_ (Nat.le_refl _) _) | (simp; done) | (simp; omega)))
          · have t4' : decide ((13 : Int) < (cols F : Int)) = true := by simp at t4 ⊢; omega
            go_wp2_with fail
            refine (awake_any _).mono ?_
            rintro e w' ⟨rfl, nz, rfl⟩
            go_wp2_with fail
            go_ret
            refine ⟨rfl, ?_⟩
            exact ExtOf.of (by repeat' (first | (with_reducible exact Ext.refl _) | (with_reducible exact ExtOf.ext _) | (with_reducible refine Ext.trans ?_ (ExtOf.ext _)) | (with_reducible refine Ext.alloc ?_ _) | (with_reducible refine Ext.drew ?_) | (with_reducible refine Ext.setCell ?_ ?_ _) | (with_reducible refine Ext.setRow ?_ ?_ _) | (with_reducible exact HX.out) | (with_reducible refine Ext.trans ?_ HX.out) | (with_reducible refine Ext.below ?_ (Nat.le_refl _) _) | (simp; done) | (simp; omega)))
      · have t2' : decide ((50 : Int) < (bd.length : Int)) = true := by simp at t2 ⊢; omega
        go_wp2_with fail
        refine (awake_any _).mono ?_
        rintro e w' ⟨rfl, nz, rfl⟩
        go_wp2_with fail
        go_ret
        refine ⟨rfl, ?_⟩
        exact ExtOf.of (by repeat' (first | (with_reducible exact Ext.refl _) | (with_reducible exact ExtOf.ext _) | (with_reducible refine Ext.trans ?_ (ExtOf.ext _)) | (with_reducible refine Ext.alloc ?_ _) | (with_reducible refine Ext.drew ?_) | (with_reducible refine Ext.setCell ?_ ?_ _) | (with_reducible refine Ext.setRow ?_ ?_ _) | (with_reducible exact HX.out) | (with_reducible refine Ext.trans ?_ HX.out) | (with_reducible refine Ext.below ?_ (Nat.le_refl _) _) | (simp; done) | (simp; omega)))
    · have t1' : decide ((50 : Int) < (m.length : Int)) = true := by simp at t1 ⊢; omega
      go_wp2_with fail
      refine (awake_any _).mono ?_
      rintro e w' ⟨rfl, nz, rfl⟩
      go_wp2_with fail
      go_ret
      refine ⟨rfl, ?_⟩
      exact ExtOf.of (by repeat' (first | (with_reducible exact Ext.refl _) | (with_reducible exact ExtOf.ext _) | (with_reducible refine Ext.trans ?_ (ExtOf.ext _)) | (with_reducible refine Ext.alloc ?_ _) | (with_reducible refine Ext.drew ?_) | (with_reducible refine Ext.setCell ?_ ?_ _) | (with_reducible refine Ext.setRow ?_ ?_ _) | (with_reducible exact HX.out) | (with_reducible refine Ext.trans ?_ HX.out) | (with_reducible refine Ext.below ?_ (Nat.le_refl _) _) | (simp; done) | (simp; omega)))

theorem more_said (F : List (List Bool)) (l m : List Int) (bd : List Bool) (a : Int) (v0 v1 v2 v3 : Value) (w : World) (ha : (Lit.int .u8 a).wf = true) (hG : GridS w v0 F) (h1 : IntS w v1 l) (h2 : IntS w v2 m) (h3 : BoolS w v3 bd) :
    Calls Try.prog 9 #[.agg #[v0, v1, v2], v3, .int .u8 a] w fun e w' => e = .returned (.bool true) ∧ ∃ n : ExtOf w, w' = n.val := by
  have hb : 0 ≤ a ∧ a < 256 := by
    simp only [Lit.wf, Bool.and_eq_true, decide_eq_true_eq] at ha
    have e1 : IntKind.min .u8 = 0 := by decide
    have e2 : IntKind.max .u8 = 255 := by decide
    omega
  obtain ⟨q, rfl⟩ : ∃ q : Nat, a = (q : Int) := ⟨a.toNat, by omega⟩
  exact more_walk F l m bd q v0 v1 v2 v3 w (by omega) hG h1 h2 h3
end Go.Proofs.Ythchddkdcibbhaa
