/-
  The contract of Best.
-/
import Derived.Test.YthchddkdcibbhaaB7
namespace Go.Proofs.Ythchddkdcibbhaa
open Go.RowKit AssignM

attribute [local go_sem] ExtOf.cell ExtOf.frozen Block.cell Block.frozen ExtB.cell ExtB.frozen alloc_cell alloc_frozen

def badAt (x y : Int) : Bool := decide (x < 0 ∨ 200 < x ∨ y < 0 ∨ x < y)
def badBest : List Int → List Int → Bool
  | x :: m, y :: l => badAt x y || badBest m l
  | _, _ => false
def bestErr (F : List (List Bool)) (l m : List Int) : Int := if tabErr F ≠ 0 then tabErr F else if l.length ≠ F.length then 19 else if m.length ≠ F.length then 19 else if badBest m l then 9 else 0
def bestC (F : List (List Bool)) (l m : List Int) : Nat → Nat := bestF F F.length (cols F) (nth (toNats l)) F.length (nth (toNats m))
/-- what Best returns -/
def bestS (F : List (List Bool)) (l m : List Int) : List Int := if bestErr F l m = 0 then (firstF F F.length (cols F) (cols F) 0 (bestC F l m)).map optInt else []
theorem badBest_step {m l : List Int} {k : Nat} (h : badBest m l = badBest (m.drop k) (l.drop k)) (hk : k < m.length) (hk' : k < l.length) : (badAt m[k] l[k] = true → badBest m l = true) ∧ (badAt m[k] l[k] = false → badBest m l = badBest (m.drop (k + 1)) (l.drop (k + 1))) := by
  rw [List.drop_eq_getElem_cons hk, List.drop_eq_getElem_cons hk', badBest] at h
  exact ⟨fun c => by rw [h, c]; rfl, fun c => by rw [h, c]; rfl⟩
theorem badBest_all : ∀ {m l : List Int}, m.length = l.length → badBest m l = false → ∀ (i : Nat) x y, m[i]? = some x → l[i]? = some y → badAt x y = false
  | [], _, _, _, i, x, y, h, _ => by simp at h
  | _ :: _, [], h, _, _, _, _, _, _ => by simp at h
  | x0 :: m, y0 :: l, hl, h, i, x, y, hx, hy => by
    rw [badBest, Bool.or_eq_false_iff] at h
    cases i with
    | zero => simp at hx hy; subst hx hy; exact h.1
    | succ i => exact badBest_all (by simpa using hl) h.2 i x y (by simpa using hx) (by simpa using hy)
theorem bestErr_ok {F : List (List Bool)} {l m : List Int} (h : bestErr F l m = 0) : tabErr F = 0 ∧ l.length = F.length ∧ m.length = F.length ∧ (∀ x ∈ m, 0 ≤ x ∧ x ≤ 200) ∧ ∀ y ∈ l, 0 ≤ y := by
  unfold bestErr at h
  split at h
  · rename_i h1; exact absurd h h1
  · split at h
    · cases h
    · split at h
      · cases h
      · split at h
        · cases h
        · rename_i h1 h2 h3 h4
          have hl : l.length = F.length := by simpa using h2
          have hm : m.length = F.length := by simpa using h3
          have hb : badBest m l = false := by simpa using h4
          have key := badBest_all (by omega) hb
          refine ⟨by simpa using h1, hl, hm, fun x hx => ?_, fun y hy => ?_⟩
          · obtain ⟨i, hi, rfl⟩ := List.getElem_of_mem hx
            have := key i m[i] (l[i]'(by omega)) (List.getElem?_eq_getElem hi) (List.getElem?_eq_getElem (by omega))
            simp [badAt] at this
            omega
          · obtain ⟨i, hi, rfl⟩ := List.getElem_of_mem hy
            have := key i (m[i]'(by omega)) l[i] (List.getElem?_eq_getElem (by omega)) (List.getElem?_eq_getElem hi)
            simp [badAt] at this
            omega
theorem Own.lower {E base base' : Nat} {w : World} {v : Value} {l : List Nat} (h : Own encN 1 E base w v l) (hb : base' ≤ base) : Own encN 1 E base' w v l := by
  refine ⟨h.1, ?_⟩
  rcases h.2 with hn | ⟨g, cap, cur, rfl, h1, rest⟩
  · exact .inl hn
  · exact .inr ⟨g, cap, cur, rfl, Nat.le_trans hb h1, rest⟩
theorem short_congr {c d least : Nat → Nat} {R : Nat} (h : ∀ i, i < R → c i = d i) : short c least R = short d least R :=
  find_congr fun i hi => by rw [h i (List.mem_range.1 hi)]
theorem nth_set {l : List Nat} {i : Nat} (hi : i < l.length) : nth (l.set i 0) = zero (nth l) i := by
  funext j
  unfold nth zero
  rw [List.getElem?_set]
  by_cases e : i = j
  · subst e; simp [hi]
  · simp [e, Ne.symm e]
/-- serve was called with limits lim, and unfilled asked -/
structure Served (F : List (List Bool)) (C : Nat) (least : Nat → Nat) (v0 v2 : Value) (W : World) (lim : List Nat) (gc gm bm : Nat) (a : Mat) (wr : World) : Prop where
  len : lim.length = F.length
  bnd : ∀ x ∈ lim, x ≤ 1099511627776
  own : Own encN 1 3 W.heap.size wr v2 lim
  mat : Match F F.length C v0 gm bm (fillAll F F.length C (nth lim)) a wr
  g1 : W.heap.size ≤ gm
  g2 : W.heap.size ≤ bm
  ext : Ext W wr
theorem unfilled_blk (c : Nat → Nat) (least : List Nat) (R g : Nat) (v1 : Value) (w : World) (h0 : Block w g (natCells c R)) (h1 : NatS w v1 least) (hl : least.length = R) (hR : R ≤ 1048576) :
    Calls Try.prog 31 #[.slice (some ⟨g, 0, none⟩) R R, v1] w fun e w' => e = .returned (.tuple #[.int .i64 (((short c (nth least) R).getD 0 : Nat) : Int), .bool (short c (nth least) R).isSome]) ∧ ∃ n : ExtOf w, w' = n.val := by
  have h := unfilled_any ((List.range R).map c) least _ v1 w (NatS.ofBlock h0 (by unfold maxLen; omega)) h1 (by simp [hl]) (by simpa using hR)
  have e : short (nth ((List.range R).map c)) (nth least) ((List.range R).map c).length = short c (nth least) R := by
    rw [List.length_map, List.length_range]
    exact short_congr fun i hi => nth_range hi
  rw [e] at h
  exact h
theorem Served.next {F : List (List Bool)} {C : Nat} {least : Nat → Nat} {v0 v2 : Value} {W : World} {lim : List Nat} {gc gm bm : Nat} {a : Mat} {wr wr' : World} (h : Served F C least v0 v2 W lim gc gm bm a wr) (hx : Ext wr wr') : Served F C least v0 v2 W lim gc gm bm a wr' :=
  ⟨h.len, h.bnd, Own.ext h.own hx, ⟨h.mat.mm.ext hx, h.mat.mto.ext hx, h.mat.ok, h.mat.cn⟩, h.g1, h.g2, h.ext.trans hx⟩
/-- Best, where the arguments are in order -/
def BestOk (F : List (List Bool)) (l m : List Int) : Prop := ∀ (v0 v1 v2 : Value) (w : World), GridS w v0 F → IntS w v1 l → IntS w v2 m → Calls Try.prog 17 #[v0, v1, v2] w (RetI w (bestS F l m) (bestErr F l m))
set_option maxRecDepth 20000 in
set_option maxHeartbeats 3200000 in
theorem best_any (F : List (List Bool)) (l m : List Int) (v0 v1 v2 : Value) (w : World) (hR : F.length ≤ 1048576) (hl : l.length ≤ 1048576) (hm : m.length ≤ 1048576) (hG : GridS w v0 F) (h1 : IntS w v1 l) (h2 : IntS w v2 m) :
    Calls Try.prog 17 #[v0, v1, v2] w (RetI w (bestS F l m) (bestErr F l m)) := by
  obtain ⟨p0, cap0, rfl, hg1, hg2, hg3⟩ := hG.form
  obtain ⟨p1, cap1, rfl, hg4, hg5, hg6⟩ := SliceOf.form h1
  obtain ⟨p2, cap2, rfl, hg7, hg8, hg9⟩ := SliceOf.form h2
  have HG := Lib.hid hG
  have H1 := Lib.hid h1
  have H2 := Lib.hid h2
  clear hG h1 h2
  by_cases t0 : tabErr F = 0
  · by_cases t1 : l.length = F.length
    · by_cases t2 : m.length = F.length
      · have HE : Hid (bestErr F l m = if badBest m l then 9 else 0) := Lib.hid (by simp [bestErr, t0, t1, t2])
        go_enter Try.func17, Try.ntmps17
        go_wp2_with fail
        refine (checkTable_any F _ _ hR HG.out).mono ?_
        rintro e w' ⟨rfl, n, rfl⟩
        rw [t0]
        have HX0 := Lib.hid n.ext
        generalize n.val = W0 at *
        clear n
        go_wp2
        go_loopw [33] (fun v wr => ∃ k : Nat, k ≤ F.length ∧ v = .int .i64 k ∧ badBest m l = badBest (m.drop k) (l.drop k) ∧ Ext w wr) (fun v _ => F.length - (intOf v).toNat)
        case atStart => exact ⟨0, by omega, rfl, rfl, HX0.out⟩
        case round =>
          clear HX0
          obtain ⟨k, hk, rfl, hb, hx⟩ := hrel
          have HX := Lib.hid hx
          clear hx
          by_cases hlt : k < F.length
          · have hk1 : k < m.length := by omega
            have hk2 : k < l.length := by omega
            have HB := Lib.hid (badBest_step hb hk1 hk2)
            clear hb
            obtain ⟨b1, off1, rfl, o1, c1⟩ := SliceOf.elem1 (SliceOf.ext H1.out HX.out) hk2 rfl
            obtain ⟨b2, off2, rfl, o2, c2⟩ := SliceOf.elem1 (SliceOf.ext H2.out HX.out) hk1 rfl
            obtain ⟨x, hx0⟩ : ∃ x : Int, x = m[k] := ⟨_, rfl⟩
            obtain ⟨y, hy0⟩ : ∃ y : Int, y = l[k] := ⟨_, rfl⟩
            rw [← hx0] at c2 HB
            rw [← hy0] at c1 HB
            clear hx0 hy0
            rw [t1] at hg4
            rcases t3 : badAt x y with _ | _
            · have HN : Hid (¬ (x < 0 ∨ 200 < x ∨ y < 0 ∨ x < y)) := Lib.hid (by simpa [badAt] using t3)
              have u1 : decide (x < 0) = false := by have := HN.out; simp; omega
              have u2 : decide (200 < x) = false := by have := HN.out; simp; omega
              have u3 : decide (y < 0) = false := by have := HN.out; simp; omega
              have u4 : decide (x < y) = false := by have := HN.out; simp; omega
              have HNX := Lib.hid (HB.out.2 t3)
              clear HB t3
              go_wp2
              refine wp_region_ext (by kernel_rfl) (by kernel_rfl) ?_
              repeat (first | go_big_quiet_skip | go_big_quiet_step (fail))
              refine wpQuiet_nil ?_
              intro _ hw'
              obtain ⟨nq, hw''⟩ := hw'
              subst hw''
              go_wp2
              go_roundw
              case rel => exact ⟨k + 1, by omega, by go_num, HNX.out, by repeat' (first | (with_reducible exact Ext.refl _) | (with_reducible exact ExtOf.ext _) | (with_reducible refine Ext.trans ?_ (ExtOf.ext _)) | (with_reducible refine Ext.alloc ?_ _) | (with_reducible refine Ext.drew ?_) | (with_reducible refine Ext.setCell ?_ ?_ _) | (with_reducible refine Ext.setRow ?_ ?_ _) | (with_reducible exact HX.out) | (with_reducible refine Ext.trans ?_ HX.out) | (with_reducible refine Ext.below ?_ (Nat.le_refl _) _) | (simp; done) | (simp; omega))⟩
              case measure => simp [intOf]; omega
            · have HT : Hid (bestErr F l m = 9) := Lib.hid (by rw [HE.out, HB.out.1 t3]; rfl)
              have HNO : Hid (bestS F l m = []) := Lib.hid (by simp [bestS, HT.out])
              have HN : Hid (x < 0 ∨ 200 < x ∨ y < 0 ∨ x < y) := Lib.hid (by simpa [badAt] using t3)
              clear HB t3
              rcases u1 : decide (x < 0) with _ | _
              · rcases u2 : decide (200 < x) with _ | _
                · rcases u3 : decide (y < 0) with _ | _
                  · have u4 : decide (x < y) = true := by have := HN.out; simp at u1 u2 u3 ⊢; omega
                    go_wp2
                    refine wp_region_ext (by kernel_rfl) (by kernel_rfl) ?_
                    repeat (first | go_big_quiet_skip | go_big_quiet_step (fail))
                    refine wpQuiet_nil ?_
                    intro _ hw'
                    obtain ⟨nq, hw''⟩ := hw'
                    subst hw''
                    go_wp2
                    refine bodyPost_ret (v := .tuple #[.slice none 0 0, .int .i64 9]) (by simp [results, Try.results17, go_sem]) rfl ?_
                    rw [HNO.out]
                    exact ⟨_, by rw [HT.out], SliceOf.nil _, ExtOf.of (by repeat' (first | (with_reducible exact Ext.refl _) | (with_reducible exact ExtOf.ext _) | (with_reducible refine Ext.trans ?_ (ExtOf.ext _)) | (with_reducible refine Ext.alloc ?_ _) | (with_reducible refine Ext.drew ?_) | (with_reducible refine Ext.setCell ?_ ?_ _) | (with_reducible refine Ext.setRow ?_ ?_ _) | (with_reducible exact HX.out) | (with_reducible refine Ext.trans ?_ HX.out) | (with_reducible refine Ext.below ?_ (Nat.le_refl _) _) | (simp; done) | (simp; omega)))⟩
                  · go_wp2
                    refine wp_region_ext (by kernel_rfl) (by kernel_rfl) ?_
                    repeat (first | go_big_quiet_skip | go_big_quiet_step (fail))
                    refine wpQuiet_nil ?_
                    intro _ hw'
                    obtain ⟨nq, hw''⟩ := hw'
                    subst hw''
                    go_wp2
                    refine bodyPost_ret (v := .tuple #[.slice none 0 0, .int .i64 9]) (by simp [results, Try.results17, go_sem]) rfl ?_
                    rw [HNO.out]
                    exact ⟨_, by rw [HT.out], SliceOf.nil _, ExtOf.of (by repeat' (first | (with_reducible exact Ext.refl _) | (with_reducible exact ExtOf.ext _) | (with_reducible refine Ext.trans ?_ (ExtOf.ext _)) | (with_reducible refine Ext.alloc ?_ _) | (with_reducible refine Ext.drew ?_) | (with_reducible refine Ext.setCell ?_ ?_ _) | (with_reducible refine Ext.setRow ?_ ?_ _) | (with_reducible exact HX.out) | (with_reducible refine Ext.trans ?_ HX.out) | (with_reducible refine Ext.below ?_ (Nat.le_refl _) _) | (simp; done) | (simp; omega)))⟩
                · go_wp2
                  refine wp_region_ext (by kernel_rfl) (by kernel_rfl) ?_
                  repeat (first | go_big_quiet_skip | go_big_quiet_step (fail))
                  refine wpQuiet_nil ?_
                  intro _ hw'
                  obtain ⟨nq, hw''⟩ := hw'
                  subst hw''
                  go_wp2
                  refine bodyPost_ret (v := .tuple #[.slice none 0 0, .int .i64 9]) (by simp [results, Try.results17, go_sem]) rfl ?_
                  rw [HNO.out]
                  exact ⟨_, by rw [HT.out], SliceOf.nil _, ExtOf.of (by repeat' (first | (with_reducible exact Ext.refl _) | (with_reducible exact ExtOf.ext _) | (with_reducible refine Ext.trans ?_ (ExtOf.ext _)) | (with_reducible refine Ext.alloc ?_ _) | (with_reducible refine Ext.drew ?_) | (with_reducible refine Ext.setCell ?_ ?_ _) | (with_reducible refine Ext.setRow ?_ ?_ _) | (with_reducible exact HX.out) | (with_reducible refine Ext.trans ?_ HX.out) | (with_reducible refine Ext.below ?_ (Nat.le_refl _) _) | (simp; done) | (simp; omega)))⟩
              · go_wp2
                refine wp_region_ext (by kernel_rfl) (by kernel_rfl) ?_
                repeat (first | go_big_quiet_skip | go_big_quiet_step (fail))
                refine wpQuiet_nil ?_
                intro _ hw'
                obtain ⟨nq, hw''⟩ := hw'
                subst hw''
                go_wp2
                refine bodyPost_ret (v := .tuple #[.slice none 0 0, .int .i64 9]) (by simp [results, Try.results17, go_sem]) rfl ?_
                rw [HNO.out]
                exact ⟨_, by rw [HT.out], SliceOf.nil _, ExtOf.of (by repeat' (first | (with_reducible exact Ext.refl _) | (with_reducible exact ExtOf.ext _) | (with_reducible refine Ext.trans ?_ (ExtOf.ext _)) | (with_reducible refine Ext.alloc ?_ _) | (with_reducible refine Ext.drew ?_) | (with_reducible refine Ext.setCell ?_ ?_ _) | (with_reducible refine Ext.setRow ?_ ?_ _) | (with_reducible exact HX.out) | (with_reducible refine Ext.trans ?_ HX.out) | (with_reducible refine Ext.below ?_ (Nat.le_refl _) _) | (simp; done) | (simp; omega)))⟩
          · have hb0 : badBest m l = false := by rw [hb, List.drop_of_length_le (show m.length ≤ k by omega)]; rfl
            have hT : bestErr F l m = 0 := by rw [HE.out, hb0]; rfl
            clear hb hb0
            obtain ⟨e1, e2, e3, e4, e5⟩ := bestErr_ok hT
            obtain ⟨hrect, _, hc512⟩ := Rect.of t0
            have HRC := Lib.hid hrect
            have HT := Lib.hid hT
            have HS : Hid (bestS F l m = (firstF F F.length (cols F) (cols F) 0 (bestC F l m)).map optInt) := Lib.hid (by simp [bestS, HT.out])
            have hn2 := IntS.nats (SliceOf.ext H2.out HX.out) (fun x hx => (e4 x hx).1)
            have hn1 := IntS.nats H1.out e5
            rw [t2] at hn2
            rw [t1] at hn1
            have HN2 := Lib.hid hn2
            have HN1 := Lib.hid hn1
            clear hn1 hn2
            have hml : (toNats m).length = F.length := by simp [toNats, e3]
            have hll : (toNats l).length = F.length := by simp [toNats, e2]
            have HMB : Hid (∀ x ∈ toNats m, x ≤ 1099511627776) := Lib.hid (fun x hx => by obtain ⟨y, hy, rfl⟩ := List.mem_map.1 hx; have := e4 y hy; omega)
            clear hrect e1 e2 e3 e4 e5 hT HE
            go_wp2_with fail
            refine (clone_any (toNats m) _ _ HN2.out (by omega)).mono ?_
            rintro e w' ⟨v', rfl, hown, n1, rfl⟩
            have HX1 : Hid (Ext w n1.val) := Lib.hid (HX.out.trans n1.ext)
            have HOW : Hid (Own encN 1 3 w.heap.size n1.val v' (toNats m)) := Lib.hid (Own.lower hown HX.out.size)
            clear hown HX HN2
            generalize n1.val = W1 at *
            clear n1
            go_wp2_with fail
            refine (serve_any F (cols F) (toNats m) _ _ _ hR (by omega) HRC.out (HG.out.ext HX1.out) (Own.slice encN_len HOW.out) hml HMB.out).mono ?_
            rintro e w' ⟨gc, gm, bm, a, rfl, hB, hMt, hd1, hd2, hd3, hxs⟩
            have HSV : Hid (Served F (cols F) (nth (toNats l)) (.slice p0 F.length cap0) v' w (toNats m) gc gm bm a w') := Lib.hid ⟨hml, HMB.out, Own.ext HOW.out hxs, hMt, by have := HX1.out.size; omega, by have := HX1.out.size; omega, HX1.out.trans hxs⟩
            have HBC := Lib.hid hB
            clear hB hMt hd1 hd2 hd3 hxs HOW HX1
            generalize w' = W2 at *
            clear w'
            go_wp2_with fail
            refine (unfilled_blk _ (toNats l) F.length gc _ _ HBC.out (SliceOf.ext HN1.out HSV.out.ext) hll hR).mono ?_
            rintro e w' ⟨rfl, n2, rfl⟩
            have hSV2 : Served F (cols F) (nth (toNats l)) (.slice p0 F.length cap0) v' w (toNats m) gc gm bm a n2.val := HSV.out.next n2.ext
            have HSV2 := Lib.hid hSV2
            clear hSV2 HSV HBC
            generalize n2.val = W3 at *
            clear n2
            go_wp2_with fail
            go_loopg [10, 11, 12, 13] (F.length) (fun gk v10 v11 v12 v13 wr => ∃ (lim : List Nat) (gc gm bm : Nat) (a : Mat), Served F (cols F) (nth (toNats l)) (.slice p0 F.length cap0) v' w lim gc gm bm a wr ∧ v11 = .pointer (some ⟨gm, 0, none⟩) ∧ v12 = .int .i64 (((short (fillAll F F.length (cols F) (nth lim)) (nth (toNats l)) F.length).getD 0 : Nat) : Int) ∧ v13 = .bool (short (fillAll F F.length (cols F) (nth lim)) (nth (toNats l)) F.length).isSome ∧ nz (nth lim) F.length ≤ gk ∧ bestF F F.length (cols F) (nth (toNats l)) gk (nth lim) = bestC F l m)
            case atStart => exact ⟨toNats m, gc, gm, bm, a, HSV2.out, rfl, rfl, rfl, cntP_len _ _, rfl⟩
            case round =>
              clear HSV2
              obtain ⟨lim, gc, gm, bm, a, hS, rfl, rfl, rfl, hnz, hbf⟩ := hrel
              have HSV := Lib.hid hS
              have HBF := Lib.hid hbf
              have HNZ := Lib.hid hnz
              clear hS hbf hnz
              rcases t5 : short (fillAll F F.length (cols F) (nth lim)) (nth (toNats l)) F.length with _ | i
              · have hres : ∀ x, x < F.length → cnt (cols F) a 0 x = bestC F l m x := fun x hx => by rw [HSV.out.mat.cn x hx, ← HBF.out, bestF_none t5]
                have HRES : Hid (bestS F l m = (firstF F F.length (cols F) (cols F) 0 (cnt (cols F) a 0)).map optInt) := Lib.hid (by rw [HS.out, firstF_congr hres])
                clear hres t5
                go_wp2_with fail
                refine (earliest_any F (cols F) a _ gm bm _ w _ hR (by omega) HRC.out HSV.out.mat.ok HSV.out.mat.mm HSV.out.mat.mto HG.out HSV.out.ext HSV.out.g1 HSV.out.g2).mono ?_
                rintro e w' ⟨gl, rfl, hBl, hgl, hxl⟩
                have HBL := Lib.hid hBl
                have HXL := Lib.hid hxl
                clear hBl hxl
                go_wp2
                refine bodyPost_ret (v := .tuple #[.slice (some ⟨gl, 0, none⟩) (cols F) (cols F), .int .i64 0]) (by simp [results, Try.results17, go_sem]) rfl ?_
                rw [HRES.out, HT.out]
                have := HBL.out
                rw [optCells_list] at this
                exact ⟨_, rfl, IntS.ofBlock this (by simp [firstF_len]) (by unfold maxLen; omega), ExtOf.of HXL.out⟩
              · obtain ⟨hiR, _, _⟩ := short_spec t5
                obtain ⟨k', rfl, hnz', hbf'⟩ := bestF_some t5 HNZ.out
                have hil : i < lim.length := by rw [HSV.out.len]; exact hiR
                obtain ⟨gl, capl, hvl, hgl, ogl, hcl, hfl, hset⟩ := Own.set1 HSV.out.own hil
                have hlen := HSV.out.len
                rw [hlen] at hvl
                subst hvl
                have HSET := Lib.hid (hset 0)
                have HNZ2 := Lib.hid hnz'
                have HBF2 : Hid (bestF F F.length (cols F) (nth (toNats l)) k' (zero (nth lim) i) = bestC F l m) := Lib.hid (by rw [← hbf']; exact HBF.out)
                have HXS : Hid (Ext w (wr.setCell ⟨gl, i, none⟩ (.int .i64 0))) := Lib.hid (Ext.setCell HSV.out.ext hgl _)
                have HZL : Hid (nth (lim.set i 0) = zero (nth lim) i) := Lib.hid (nth_set hil)
                have HB2 : Hid (∀ x ∈ lim.set i 0, x ≤ 1099511627776) := Lib.hid (fun x hx => by rcases List.mem_or_eq_of_mem_set hx with h | h; exact HSV.out.bnd x h; omega)
                have hl2 : (lim.set i 0).length = F.length := by simp [hlen]
                clear hset hnz' hbf' HBF HNZ t5
                go_wp2_with fail
                refine (serve_any F (cols F) (lim.set i 0) _ _ _ hR (by omega) HRC.out (HG.out.ext HXS.out) ?_ hl2 HB2.out).mono ?_
                · have := Own.slice encN_len HSET.out
                  simpa using this
                rintro e w' ⟨gc2, gm2, bm2, a2, rfl, hB, hMt, hd1, hd2, hd3, hxs⟩
                have hxw := HXS.out.size
                have HSV3 : Hid (Served F (cols F) (nth (toNats l)) (.slice p0 F.length cap0) (.slice (some ⟨gl, 0, none⟩) F.length capl) w (lim.set i 0) gc2 gm2 bm2 a2 w') := Lib.hid ⟨hl2, HB2.out, Own.ext (by simpa using HSET.out) hxs, hMt, by omega, by omega, HXS.out.trans hxs⟩
                have HBC := Lib.hid hB
                clear hB hMt hd1 hd2 hd3 hxs HSET HXS HSV hcl hfl ogl
                generalize w' = W4 at *
                clear w'
                go_wp2_with fail
                refine (unfilled_blk _ (toNats l) F.length gc2 _ _ HBC.out (SliceOf.ext HN1.out HSV3.out.ext) hll hR).mono ?_
                rintro e w' ⟨rfl, n4, rfl⟩
                have HSV4 := Lib.hid (HSV3.out.next n4.ext)
                clear HSV3 HBC
                generalize n4.val = W5 at *
                clear n4
                go_wp2_with fail
                go_roundg k'
                case rel => exact ⟨lim.set i 0, gc2, gm2, bm2, a2, HSV4.out, rfl, rfl, rfl, by rw [HZL.out]; exact HNZ2.out, by rw [HZL.out]; exact HBF2.out⟩
                case measure => omega
      · have HT : Hid (bestErr F l m = 19) := Lib.hid (by simp [bestErr, t0, t1, t2])
        have HNO : Hid (bestS F l m = []) := Lib.hid (by simp [bestS, HT.out])
        have hne : ((m.length : Int) != (F.length : Int)) = true := by simp; omega
        go_enter Try.func17, Try.ntmps17
        go_wp2_with fail
        refine (checkTable_any F _ _ hR HG.out).mono ?_
        rintro e w' ⟨rfl, n, rfl⟩
        rw [t0]
        go_wp2
        refine bodyPost_ret (v := .tuple #[.slice none 0 0, .int .i64 19]) (by simp [results, Try.results17, go_sem]) rfl ?_
        rw [HNO.out]
        exact ⟨_, by rw [HT.out], SliceOf.nil _, ExtOf.of (by repeat' (first | (with_reducible exact Ext.refl _) | (with_reducible exact ExtOf.ext _) | (with_reducible refine Ext.trans ?_ (ExtOf.ext _)) | (with_reducible refine Ext.alloc ?_ _) | (with_reducible refine Ext.drew ?_) | (with_reducible refine Ext.setCell ?_ ?_ _) | (with_reducible refine Ext.setRow ?_ ?_ _) | (with_reducible exact HX.out) | (with_reducible refine Ext.trans ?_ HX.out) | (with_reducible refine Ext.below ?_ (Nat.le_refl _) _) | (simp; done) | (simp; omega)))⟩
    · have HT : Hid (bestErr F l m = 19) := Lib.hid (by simp [bestErr, t0, t1])
      have HNO : Hid (bestS F l m = []) := Lib.hid (by simp [bestS, HT.out])
      have hne : ((l.length : Int) != (F.length : Int)) = true := by simp; omega
      go_enter Try.func17, Try.ntmps17
      go_wp2_with fail
      refine (checkTable_any F _ _ hR HG.out).mono ?_
      rintro e w' ⟨rfl, n, rfl⟩
      rw [t0]
      go_wp2
      refine bodyPost_ret (v := .tuple #[.slice none 0 0, .int .i64 19]) (by simp [results, Try.results17, go_sem]) rfl ?_
      rw [HNO.out]
      exact ⟨_, by rw [HT.out], SliceOf.nil _, ExtOf.of (by repeat' (first | (with_reducible exact Ext.refl _) | (with_reducible exact ExtOf.ext _) | (with_reducible refine Ext.trans ?_ (ExtOf.ext _)) | (with_reducible refine Ext.alloc ?_ _) | (with_reducible refine Ext.drew ?_) | (with_reducible refine Ext.setCell ?_ ?_ _) | (with_reducible refine Ext.setRow ?_ ?_ _) | (with_reducible exact HX.out) | (with_reducible refine Ext.trans ?_ HX.out) | (with_reducible refine Ext.below ?_ (Nat.le_refl _) _) | (simp; done) | (simp; omega)))⟩
  · have HT : Hid (bestErr F l m = tabErr F) := Lib.hid (by simp [bestErr, t0])
    have HNO : Hid (bestS F l m = []) := Lib.hid (by simp [bestS, HT.out, t0])
    have hne : (tabErr F != 0) = true := by simpa using t0
    go_enter Try.func17, Try.ntmps17
    go_wp2_with fail
    refine (checkTable_any F _ _ hR HG.out).mono ?_
    rintro e w' ⟨rfl, n, rfl⟩
    generalize tabErr F = te at *
    go_wp2
    refine bodyPost_ret (v := .tuple #[.slice none 0 0, .int .i64 te]) (by simp [results, Try.results17, go_sem]) rfl ?_
    rw [HNO.out]
    exact ⟨_, by rw [HT.out], SliceOf.nil _, ExtOf.of (by repeat' (first | (with_reducible exact Ext.refl _) | (with_reducible exact ExtOf.ext _) | (with_reducible refine Ext.trans ?_ (ExtOf.ext _)) | (with_reducible refine Ext.alloc ?_ _) | (with_reducible refine Ext.drew ?_) | (with_reducible refine Ext.setCell ?_ ?_ _) | (with_reducible refine Ext.setRow ?_ ?_ _) | (with_reducible exact HX.out) | (with_reducible refine Ext.trans ?_ HX.out) | (with_reducible refine Ext.below ?_ (Nat.le_refl _) _) | (simp; done) | (simp; omega)))⟩

end Go.Proofs.Ythchddkdcibbhaa
