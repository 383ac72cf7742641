/-
  The contract of the reference's Best.
-/
import Derived.Test.YthchddkdcibbhaaC6
namespace Go.Proofs.Ythchddkdcibbhaa
open Go.RowKit AssignM

attribute [local go_sem] ExtOf.cell ExtOf.frozen Block.cell Block.frozen ExtB.cell ExtB.frozen alloc_cell alloc_frozen

/-- s is the first order from j on that has boards, but too few -/
def Late (c least : Nat → Nat) (R j : Nat) : Option Nat → Prop
  | none => ∀ x, j ≤ x → x < R → decide (0 < c x ∧ c x < least x) = false
  | some i => j ≤ i ∧ i < R ∧ decide (0 < c i ∧ c i < least i) = true ∧ ∀ x, j ≤ x → x < i → decide (0 < c x ∧ c x < least x) = false
theorem Late.done {c least : Nat → Nat} {R : Nat} {s : Option Nat} (h : Late c least R 0 s) : short c least R = s := by
  cases s with
  | none => exact find_none fun x hx => h x (by omega) hx
  | some i => exact find_range h.2.1 h.2.2.1 fun x hx => h.2.2.2 x (by omega) hx
theorem Late.skip {c least : Nat → Nat} {R j : Nat} {s : Option Nat} (h : Late c least R (j + 1) s) (hp : decide (0 < c j ∧ c j < least j) = false) : Late c least R j s := by
  cases s with
  | none => exact fun x h1 h2 => by by_cases e : x = j; (subst e; exact hp); exact h x (by omega) h2
  | some i => exact ⟨by have := h.1; omega, h.2.1, h.2.2.1, fun x h1 h2 => by by_cases e : x = j; (subst e; exact hp); exact h.2.2.2 x (by omega) h2⟩
theorem Late.take {c least : Nat → Nat} {R j : Nat} {s : Option Nat} (_ : Late c least R (j + 1) s) (hp : decide (0 < c j ∧ c j < least j) = true) (hj : j < R) : Late c least R j (some j) :=
  ⟨Nat.le_refl _, hj, hp, fun x h1 h2 => by omega⟩
set_option maxRecDepth 20000 in
set_option maxHeartbeats 3200000 in
theorem rBest_any (F : List (List Bool)) (l m : List Int) (v0 v1 v2 : Value) (w : World) (hR : F.length ≤ 1048576) (hl : l.length ≤ 1048576) (hm : m.length ≤ 1048576) (hG : GridS w v0 F) (h1 : IntS w v1 l) (h2 : IntS w v2 m) :
    Calls Try.prog 18 #[v0, v1, v2] w (RetI w (bestS F l m) (bestErr F l m)) := by
  obtain ⟨i0, hi, hz0, hz1, hz2⟩ := info_parts infoI
  obtain ⟨p0, cap0, rfl, hg1, hg2, hg3⟩ := hG.form
  obtain ⟨p1, cap1, rfl, hg4, hg5, hg6⟩ := SliceOf.form h1
  obtain ⟨p2, cap2, rfl, hg7, hg8, hg9⟩ := SliceOf.form h2
  have HG := Lib.hid hG
  have H1 := Lib.hid h1
  have H2 := Lib.hid h2
  clear hG h1 h2
  by_cases t0 : tabErr F = 0
  · by_cases t1 : l.length = F.length
    · by_cases t2 : m.length = F.length
      · have HE : Hid (bestErr F l m = if badBest m l then 9 else 0) := Lib.hid (by simp [bestErr, t0, t1, t2])
        go_enter Try.func18, Try.ntmps18
        go_wp2_with fail
        refine (rows_any F _ _ hR HG.out).mono ?_
        rintro e w' ⟨rfl, n, rfl⟩
        rw [t0]
        have HX0 := Lib.hid n.ext
        generalize n.val = W0 at *
        clear n
        go_wp2
        go_loopw [9] (fun v wr => ∃ k : Nat, k ≤ F.length ∧ v = .int .i64 k ∧ badBest m l = badBest (m.drop k) (l.drop k) ∧ Ext w wr) (fun v _ => F.length - (intOf v).toNat)
        case atStart => exact ⟨0, by omega, rfl, rfl, HX0.out⟩
        case round =>
          clear HX0
          obtain ⟨k, hk, rfl, hb, hx⟩ := hrel
          have HX := Lib.hid hx
          clear hx
          by_cases hlt : k < F.length
          · have hk1 : k < m.length := by omega
            have hk2 : k < l.length := by omega
            have HB := Lib.hid (badBest_step hb hk1 hk2)
            clear hb
            obtain ⟨b1, off1, rfl, o1, c1⟩ := SliceOf.elem1 (SliceOf.ext H1.out HX.out) hk2 rfl
            obtain ⟨b2, off2, rfl, o2, c2⟩ := SliceOf.elem1 (SliceOf.ext H2.out HX.out) hk1 rfl
            obtain ⟨x, hx0⟩ : ∃ x : Int, x = m[k] := ⟨_, rfl⟩
            obtain ⟨y, hy0⟩ : ∃ y : Int, y = l[k] := ⟨_, rfl⟩
            rw [← hx0] at c2 HB
            rw [← hy0] at c1 HB
            clear hx0 hy0
            rw [t1] at hg4
            rcases t3 : badAt x y with _ | _
            · have HN : Hid (¬ (x < 0 ∨ 200 < x ∨ y < 0 ∨ x < y)) := Lib.hid (by simpa [badAt] using t3)
              have u1 : decide (x < 0) = false := by have := HN.out; simp; omega
              have u2 : decide (200 < x) = false := by have := HN.out; simp; omega
              have u3 : decide (y < 0) = false := by have := HN.out; simp; omega
              have u4 : decide (x < y) = false := by have := HN.out; simp; omega
              have HNX := Lib.hid (HB.out.2 t3)
              clear HB t3
              go_wp2
              refine wp_region_ext (by kernel_rfl) (by kernel_rfl) ?_
              repeat (first | go_big_quiet_skip | go_big_quiet_step (fail))
              refine wpQuiet_nil ?_
              intro _ hw'
              obtain ⟨nq, hw''⟩ := hw'
              subst hw''
              go_wp2
              go_roundw
              case rel => exact ⟨k + 1, by omega, by go_num, HNX.out, by repeat' (first | (with_reducible exact Ext.refl _) | (with_reducible exact ExtOf.ext _) | (with_reducible refine Ext.trans ?_ (ExtOf.ext _)) | (with_reducible refine Ext.alloc ?_ _) | (with_reducible refine Ext.drew ?_) | (with_reducible refine Ext.setCell ?_ ?_ _) | (with_reducible refine Ext.setRow ?_ ?_ _) | (with_reducible exact HX.out) | (with_reducible refine Ext.trans ?_ HX.out) | (with_reducible refine Ext.below ?_ (Nat.le_refl _) _) | (simp; done) | (simp; omega))⟩
              case measure => simp [intOf]; omega
            · have HT : Hid (bestErr F l m = 9) := Lib.hid (by rw [HE.out, HB.out.1 t3]; rfl)
              have HNO : Hid (bestS F l m = []) := Lib.hid (by simp [bestS, HT.out])
              have HN : Hid (x < 0 ∨ 200 < x ∨ y < 0 ∨ x < y) := Lib.hid (by simpa [badAt] using t3)
              clear HB t3
              rcases u1 : decide (x < 0) with _ | _
              · rcases u2 : decide (200 < x) with _ | _
                · rcases u3 : decide (y < 0) with _ | _
                  · have u4 : decide (x < y) = true := by have := HN.out; simp at u1 u2 u3 ⊢; omega
                    go_wp2
                    refine wp_region_ext (by kernel_rfl) (by kernel_rfl) ?_
                    repeat (first | go_big_quiet_skip | go_big_quiet_step (fail))
                    refine wpQuiet_nil ?_
                    intro _ hw'
                    obtain ⟨nq, hw''⟩ := hw'
                    subst hw''
                    go_wp2
                    refine bodyPost_ret (v := .tuple #[.slice none 0 0, .int .i64 9]) (by simp [results, Try.results18, go_sem]) rfl ?_
                    rw [HNO.out]
                    exact ⟨_, by rw [HT.out], SliceOf.nil _, ExtOf.of (by repeat' (first | (with_reducible exact Ext.refl _) | (with_reducible exact ExtOf.ext _) | (with_reducible refine Ext.trans ?_ (ExtOf.ext _)) | (with_reducible refine Ext.alloc ?_ _) | (with_reducible refine Ext.drew ?_) | (with_reducible refine Ext.setCell ?_ ?_ _) | (with_reducible refine Ext.setRow ?_ ?_ _) | (with_reducible exact HX.out) | (with_reducible refine Ext.trans ?_ HX.out) | (with_reducible refine Ext.below ?_ (Nat.le_refl _) _) | (simp; done) | (simp; omega)))⟩
                  · go_wp2
                    refine wp_region_ext (by kernel_rfl) (by kernel_rfl) ?_
                    repeat (first | go_big_quiet_skip | go_big_quiet_step (fail))
                    refine wpQuiet_nil ?_
                    intro _ hw'
                    obtain ⟨nq, hw''⟩ := hw'
                    subst hw''
                    go_wp2
                    refine bodyPost_ret (v := .tuple #[.slice none 0 0, .int .i64 9]) (by simp [results, Try.results18, go_sem]) rfl ?_
                    rw [HNO.out]
                    exact ⟨_, by rw [HT.out], SliceOf.nil _, ExtOf.of (by repeat' (first | (with_reducible exact Ext.refl _) | (with_reducible exact ExtOf.ext _) | (with_reducible refine Ext.trans ?_ (ExtOf.ext _)) | (with_reducible refine Ext.alloc ?_ _) | (with_reducible refine Ext.drew ?_) | (with_reducible refine Ext.setCell ?_ ?_ _) | (with_reducible refine Ext.setRow ?_ ?_ _) | (with_reducible exact HX.out) | (with_reducible refine Ext.trans ?_ HX.out) | (with_reducible refine Ext.below ?_ (Nat.le_refl _) _) | (simp; done) | (simp; omega)))⟩
                · go_wp2
                  refine wp_region_ext (by kernel_rfl) (by kernel_rfl) ?_
                  repeat (first | go_big_quiet_skip | go_big_quiet_step (fail))
                  refine wpQuiet_nil ?_
                  intro _ hw'
                  obtain ⟨nq, hw''⟩ := hw'
                  subst hw''
                  go_wp2
                  refine bodyPost_ret (v := .tuple #[.slice none 0 0, .int .i64 9]) (by simp [results, Try.results18, go_sem]) rfl ?_
                  rw [HNO.out]
                  exact ⟨_, by rw [HT.out], SliceOf.nil _, ExtOf.of (by repeat' (first | (with_reducible exact Ext.refl _) | (with_reducible exact ExtOf.ext _) | (with_reducible refine Ext.trans ?_ (ExtOf.ext _)) | (with_reducible refine Ext.alloc ?_ _) | (with_reducible refine Ext.drew ?_) | (with_reducible refine Ext.setCell ?_ ?_ _) | (with_reducible refine Ext.setRow ?_ ?_ _) | (with_reducible exact HX.out) | (with_reducible refine Ext.trans ?_ HX.out) | (with_reducible refine Ext.below ?_ (Nat.le_refl _) _) | (simp; done) | (simp; omega)))⟩
              · go_wp2
                refine wp_region_ext (by kernel_rfl) (by kernel_rfl) ?_
                repeat (first | go_big_quiet_skip | go_big_quiet_step (fail))
                refine wpQuiet_nil ?_
                intro _ hw'
                obtain ⟨nq, hw''⟩ := hw'
                subst hw''
                go_wp2
                refine bodyPost_ret (v := .tuple #[.slice none 0 0, .int .i64 9]) (by simp [results, Try.results18, go_sem]) rfl ?_
                rw [HNO.out]
                exact ⟨_, by rw [HT.out], SliceOf.nil _, ExtOf.of (by repeat' (first | (with_reducible exact Ext.refl _) | (with_reducible exact ExtOf.ext _) | (with_reducible refine Ext.trans ?_ (ExtOf.ext _)) | (with_reducible refine Ext.alloc ?_ _) | (with_reducible refine Ext.drew ?_) | (with_reducible refine Ext.setCell ?_ ?_ _) | (with_reducible refine Ext.setRow ?_ ?_ _) | (with_reducible exact HX.out) | (with_reducible refine Ext.trans ?_ HX.out) | (with_reducible refine Ext.below ?_ (Nat.le_refl _) _) | (simp; done) | (simp; omega)))⟩
          · have hb0 : badBest m l = false := by rw [hb, List.drop_of_length_le (show m.length ≤ k by omega)]; rfl
            have hT : bestErr F l m = 0 := by rw [HE.out, hb0]; rfl
            clear hb hb0
            obtain ⟨e1, e2, e3, e4, e5⟩ := bestErr_ok hT
            obtain ⟨hrect, _, hc512⟩ := Rect.of t0
            have HRC := Lib.hid hrect
            have HT := Lib.hid hT
            have HS : Hid (bestS F l m = (firstF F F.length (cols F) (cols F) 0 (bestC F l m)).map optInt) := Lib.hid (by simp [bestS, HT.out])
            have hn2 := IntS.nats (SliceOf.ext H2.out HX.out) (fun x hx => (e4 x hx).1)
            have hn1 := IntS.nats H1.out e5
            rw [t2] at hn2
            rw [t1] at hn1
            have HN2 := Lib.hid hn2
            have HN1 := Lib.hid hn1
            clear hn1 hn2
            have hml : (toNats m).length = F.length := by simp [toNats, e3]
            have hll : (toNats l).length = F.length := by simp [toNats, e2]
            have HMB : Hid (∀ x ∈ toNats m, x ≤ 1099511627776) := Lib.hid (fun x hx => by obtain ⟨y, hy, rfl⟩ := List.mem_map.1 hx; have := e4 y hy; omega)
            clear hrect e1 e2 e3 e4 e5 hT HE
            go_wp2_with (at_builtin; refine wl_appendS (enc := encN) (k := 1) (E := 3) (base := wr.heap.size) (l := []) (m := toNats m) Try.underlying29 hi hz0 hz1 hz2 rfl (by decide) encN_len encN_one rfl rfl (Own.built wr) (SliceOf.ext HN2.out (by repeat' (first | (with_reducible exact Ext.refl _) | (with_reducible exact ExtOf.ext _) | (with_reducible refine Ext.trans ?_ (ExtOf.ext _)) | (with_reducible refine Ext.alloc ?_ _) | (with_reducible refine Ext.drew ?_) | (with_reducible refine Ext.setCell ?_ ?_ _) | (with_reducible refine Ext.setRow ?_ ?_ _) | (with_reducible exact HX.out) | (with_reducible refine Ext.trans ?_ HX.out) | (with_reducible refine Ext.below ?_ (Nat.le_refl _) _) | (simp; done) | (simp; omega)))) (by simp [hml]; unfold maxLen; omega) (by simp [hml]; omega) (by simp) ?_; intro vl nb hown')
            rw [List.nil_append] at hown'
            have HXA : Hid (Ext w nb.val) := Lib.hid (HX.out.trans (by repeat' (first | (with_reducible exact Ext.refl _) | (with_reducible exact ExtOf.ext _) | (with_reducible refine Ext.trans ?_ (ExtOf.ext _)) | (with_reducible refine Ext.alloc ?_ _) | (with_reducible refine Ext.drew ?_) | (with_reducible refine Ext.setCell ?_ ?_ _) | (with_reducible refine Ext.setRow ?_ ?_ _) | (with_reducible exact HX.out) | (with_reducible refine Ext.trans ?_ HX.out) | (with_reducible refine Ext.below ?_ (Nat.le_refl _) _) | (simp; done) | (simp; omega))))
            have HOW : Hid (Own encN 1 3 w.heap.size nb.val vl (toNats m)) := Lib.hid (Own.lower hown' HX.out.size)
            clear hown' HX HN2
            generalize nb.val = W1 at *
            clear nb
            obtain ⟨ql, capl, hvl⟩ := Own.formN HOW.out
            rw [hml] at hvl
            subst hvl
            go_loopg [12] (F.length) (fun gk _ wr => ∃ (lim : List Nat), lim.length = F.length ∧ (∀ x ∈ lim, x ≤ 1099511627776) ∧ Own encN 1 3 w.heap.size wr (.slice ql F.length capl) lim ∧ nz (nth lim) F.length ≤ gk ∧ bestF F F.length (cols F) (nth (toNats l)) gk (nth lim) = bestC F l m ∧ Ext w wr)
            case atStart => exact ⟨toNats m, hml, HMB.out, HOW.out, cntP_len _ _, rfl, HXA.out⟩
            case round =>
              clear HOW HXA
              obtain ⟨lim, hlen, hbnd, ho, hnz, hbf, hx⟩ := hrel
              have HBD := Lib.hid hbnd
              have HO := Lib.hid ho
              have HNZ := Lib.hid hnz
              have HBF := Lib.hid hbf
              have HX := Lib.hid hx
              clear hbnd ho hnz hbf hx
              have hsl := Own.slice encN_len HO.out
              try rw [hlen] at hsl
              have HSL := Lib.hid hsl
              clear hsl
              go_wp2_with fail
              refine (rcounts_any F (cols F) lim _ _ _ hR (by omega) HRC.out (HG.out.ext HX.out) (by have := HSL.out; exact this) hlen HBD.out).mono ?_
              rintro e w' ⟨gc, rfl, hB, hgc, hxc⟩
              have HX2 := Lib.hid (HX.out.trans hxc)
              have HO2 := Lib.hid (Own.ext HO.out hxc)
              have HBC := Lib.hid hB
              clear hB hgc hxc HX HO HSL
              generalize w' = W2 at *
              clear w'
              obtain ⟨c, hc⟩ : ∃ c, c = fillAll F F.length (cols F) (nth lim) := ⟨_, rfl⟩
              rw [← hc] at HBC
              have HCC := Lib.hid hc
              clear hc
              have HCB : Hid (∀ x, x < F.length → c x ≤ 1099511627776) := Lib.hid (fun x hx => by
                rw [HCC.out]
                have h1 := fillAll_le (F := F) (C := cols F) (most := nth lim) hx
                have hxl : x < lim.length := by omega
                have h2 := HBD.out _ (List.getElem_mem hxl)
                rw [← nth_eq hxl] at h2
                omega)
              go_wp2_with fail
              go_loopw [12, 13] (fun v12 v wr => ∃ (j : Nat) (s : Option Nat), j ≤ F.length ∧ v = .int .i64 ((j : Int) - 1) ∧ v12 = .int .i64 (optInt s) ∧ Late c (nth (toNats l)) F.length j s ∧ Own encN 1 3 w.heap.size wr (.slice ql F.length capl) lim ∧ Block wr gc (natCells c F.length) ∧ Ext w wr) (fun _ v _ => (intOf v + 1).toNat)
              case atStart => exact ⟨F.length, none, Nat.le_refl _, rfl, rfl, fun x h1 h2 => by omega, HO2.out, HBC.out, HX2.out⟩
              case round =>
                clear HO2 HBC HX2
                obtain ⟨j, s, hj, rfl, rfl, hlate, ho, hB, hx⟩ := hrel
                have HLT := Lib.hid hlate
                have HO := Lib.hid ho
                have HX := Lib.hid hx
                have oc := hB.old
                clear hlate ho hx
                rcases j with _ | j
                · have hs := Late.done HLT.out
                  have HSH := Lib.hid hs
                  clear hs
                  rcases s with _ | i
                  · simp only [optInt]
                    have hres : bestC F l m = c := by rw [← HBF.out, HCC.out]; exact bestF_none (by rw [← HCC.out]; exact HSH.out) _
                    have HRES : Hid (bestS F l m = (firstF F F.length (cols F) (cols F) 0 c).map optInt) := Lib.hid (by rw [HS.out, hres])
                    clear hres
                    have hNB := NatS.ofBlock hB (by unfold maxLen; omega)
                    have HNB := Lib.hid hNB
                    clear hNB
                    go_wp2_with fail
                    refine (first_any F (cols F) ((List.range F.length).map c) _ _ _ hR (by omega) HRC.out (HG.out.ext HX.out) HNB.out (by simp) (fun x hx => by obtain ⟨y, hy, rfl⟩ := List.mem_map.1 hx; exact HCB.out y (List.mem_range.1 hy))).mono ?_
                    rintro e w' ⟨gt, rfl, hBt, hxt⟩
                    have HBT := Lib.hid hBt
                    have HXT := Lib.hid (HX.out.trans hxt)
                    clear hBt hxt
                    go_wp2_with fail
                    refine bodyPost_ret (v := .tuple #[.slice (some ⟨gt, 0, none⟩) (cols F) (cols F), .int .i64 0]) (by simp [results, Try.results18, go_sem]) rfl ?_
                    rw [HRES.out, HT.out]
                    have h9 := HBT.out
                    rw [firstF_congr (fun i hi => nth_range (c := c) hi), optCells_list] at h9
                    exact ⟨_, rfl, IntS.ofBlock h9 (by simp [firstF_len]) (by unfold maxLen; omega), ExtOf.of HXT.out⟩
                  · simp only [optInt]
                    obtain ⟨hiR, _, _⟩ := short_spec HSH.out
                    obtain ⟨k', rfl, hnz', hbf'⟩ := bestF_some (F := F) (C := cols F) (lim := nth lim) (by rw [← HCC.out]; exact HSH.out) HNZ.out
                    have hil : i < lim.length := by rw [hlen]; exact hiR
                    obtain ⟨gl, cap3, hv3, hgl, ogl, hcl, hfl, hset⟩ := Own.set1 HO.out hil
                    rw [hlen] at hv3
                    obtain ⟨rfl, rfl⟩ : ql = some ⟨gl, 0, none⟩ ∧ capl = cap3 := by simpa using hv3
                    have hneg : decide ((i : Int) < 0) = false := by simp
                    have HSET := Lib.hid (hset 0)
                    have HNZ2 := Lib.hid hnz'
                    have HBF2 : Hid (bestF F F.length (cols F) (nth (toNats l)) k' (zero (nth lim) i) = bestC F l m) := Lib.hid (by rw [← hbf']; exact HBF.out)
                    have HZL : Hid (nth (lim.set i 0) = zero (nth lim) i) := Lib.hid (nth_set hil)
                    have HB2 : Hid (∀ x ∈ lim.set i 0, x ≤ 1099511627776) := Lib.hid (fun x hx => by rcases List.mem_or_eq_of_mem_set hx with h | h; exact HBD.out x h; omega)
                    clear hset hnz' hbf' HBF HNZ hv3
                    go_wp2_with fail
                    go_roundg k'
                    case rel => exact ⟨lim.set i 0, by simp [hlen], HB2.out, HSET.out, by rw [HZL.out]; exact HNZ2.out, by rw [HZL.out]; exact HBF2.out, Ext.setCell HX.out hgl _⟩
                    case measure => omega
                · have hjR : j < F.length := by omega
                  have e1 : ((j + 1 : Nat) : Int) - 1 = (j : Int) := by omega
                  rw [e1]
                  have hci := natCells_get (c := c) hjR
                  have hjl : j < (toNats l).length := by omega
                  obtain ⟨b1, off1, rfl, o1, c1⟩ := SliceOf.elem1 (SliceOf.ext HN1.out HX.out) hjl rfl
                  rw [← nth_eq hjl] at c1
                  have d0 : decide ((0 : Int) ≤ (j : Int)) = true := by simp
                  rcases u1 : decide (0 < c j) with _ | _
                  · have u1' : decide ((0 : Int) < (c j : Int)) = false := by simp at u1 ⊢; omega
                    have HL2 := Lib.hid (HLT.out.skip (show decide (0 < c j ∧ c j < nth (toNats l) j) = false by simp at u1 ⊢; omega))
                    go_wp2_with fail
                    refine wp_region_ext (by kernel_rfl) (by kernel_rfl) ?_
                    repeat (first | go_big_quiet_skip | go_big_quiet_step (fail))
                    refine wpQuiet_nil ?_
                    intro _ hw'
                    obtain ⟨nq, hw''⟩ := hw'
                    subst hw''
                    go_wp2_with fail
                    go_roundw
                    case rel => exact ⟨j, s, by omega, by go_num, rfl, HL2.out, Own.ext HO.out nq.ext, hB.ext nq.ext, HX.out.trans nq.ext⟩
                    case measure => first | (simp [intOf]; done) | (simp [intOf]; omega)
                  · have u1' : decide ((0 : Int) < (c j : Int)) = true := by simp at u1 ⊢; omega
                    rcases u2 : decide (c j < nth (toNats l) j) with _ | _
                    · have u2' : decide ((c j : Int) < (nth (toNats l) j : Int)) = false := by simp at u2 ⊢; omega
                      have HL2 := Lib.hid (HLT.out.skip (show decide (0 < c j ∧ c j < nth (toNats l) j) = false by simp at u2 ⊢; omega))
                      go_wp2_with fail
                      refine wp_region_ext (by kernel_rfl) (by kernel_rfl) ?_
                      repeat (first | go_big_quiet_skip | go_big_quiet_step (fail))
                      refine wpQuiet_nil ?_
                      intro _ hw'
                      obtain ⟨nq, hw''⟩ := hw'
                      subst hw''
                      go_wp2_with fail
                      go_roundw
                      case rel => exact ⟨j, s, by omega, by go_num, rfl, HL2.out, Own.ext HO.out nq.ext, hB.ext nq.ext, HX.out.trans nq.ext⟩
                      case measure => first | (simp [intOf]; done) | (simp [intOf]; omega)
                    · have u2' : decide ((c j : Int) < (nth (toNats l) j : Int)) = true := by simp at u2 ⊢; omega
                      have HL2 := Lib.hid (HLT.out.take (show decide (0 < c j ∧ c j < nth (toNats l) j) = true by simp at u1 u2 ⊢; omega) hjR)
                      go_wp2_with fail
                      refine wp_region_ext (by kernel_rfl) (by kernel_rfl) ?_
                      repeat (first | go_big_quiet_skip | go_big_quiet_step (fail))
                      refine wpQuiet_nil ?_
                      intro _ hw'
                      obtain ⟨nq, hw''⟩ := hw'
                      subst hw''
                      go_wp2_with fail
                      go_roundw
                      case rel => exact ⟨j, some j, by omega, by go_num, rfl, HL2.out, Own.ext HO.out nq.ext, hB.ext nq.ext, HX.out.trans nq.ext⟩
                      case measure => first | (simp [intOf]; done) | (simp [intOf]; omega)
      · have HT : Hid (bestErr F l m = 19) := Lib.hid (by simp [bestErr, t0, t1, t2])
        have HNO : Hid (bestS F l m = []) := Lib.hid (by simp [bestS, HT.out])
        have hne : ((m.length : Int) != (F.length : Int)) = true := by simp; omega
        go_enter Try.func18, Try.ntmps18
        go_wp2_with fail
        refine (rows_any F _ _ hR HG.out).mono ?_
        rintro e w' ⟨rfl, n, rfl⟩
        rw [t0]
        go_wp2
        refine bodyPost_ret (v := .tuple #[.slice none 0 0, .int .i64 19]) (by simp [results, Try.results18, go_sem]) rfl ?_
        rw [HNO.out]
        exact ⟨_, by rw [HT.out], SliceOf.nil _, ExtOf.of (by repeat' (first | (with_reducible exact Ext.refl _) | (with_reducible exact ExtOf.ext _) | (with_reducible refine Ext.trans ?_ (ExtOf.ext _)) | (with_reducible refine Ext.alloc ?_ _) | (with_reducible refine Ext.drew ?_) | (with_reducible refine Ext.setCell ?_ ?_ _) | (with_reducible refine Ext.setRow ?_ ?_ _) | (with_reducible exact HX.out) | (with_reducible refine Ext.trans ?_ HX.out) | (with_reducible refine Ext.below ?_ (Nat.le_refl _) _) | (simp; done) | (simp; omega)))⟩
    · have HT : Hid (bestErr F l m = 19) := Lib.hid (by simp [bestErr, t0, t1])
      have HNO : Hid (bestS F l m = []) := Lib.hid (by simp [bestS, HT.out])
      have hne : ((l.length : Int) != (F.length : Int)) = true := by simp; omega
      go_enter Try.func18, Try.ntmps18
      go_wp2_with fail
      refine (rows_any F _ _ hR HG.out).mono ?_
      rintro e w' ⟨rfl, n, rfl⟩
      rw [t0]
      go_wp2
      refine bodyPost_ret (v := .tuple #[.slice none 0 0, .int .i64 19]) (by simp [results, Try.results18, go_sem]) rfl ?_
      rw [HNO.out]
      exact ⟨_, by rw [HT.out], SliceOf.nil _, ExtOf.of (by repeat' (first | (with_reducible exact Ext.refl _) | (with_reducible exact ExtOf.ext _) | (with_reducible refine Ext.trans ?_ (ExtOf.ext _)) | (with_reducible refine Ext.alloc ?_ _) | (with_reducible refine Ext.drew ?_) | (with_reducible refine Ext.setCell ?_ ?_ _) | (with_reducible refine Ext.setRow ?_ ?_ _) | (with_reducible exact HX.out) | (with_reducible refine Ext.trans ?_ HX.out) | (with_reducible refine Ext.below ?_ (Nat.le_refl _) _) | (simp; done) | (simp; omega)))⟩
  · have HT : Hid (bestErr F l m = tabErr F) := Lib.hid (by simp [bestErr, t0])
    have HNO : Hid (bestS F l m = []) := Lib.hid (by simp [bestS, HT.out, t0])
    have hne : (tabErr F != 0) = true := by simpa using t0
    go_enter Try.func18, Try.ntmps18
    go_wp2_with fail
    refine (rows_any F _ _ hR HG.out).mono ?_
    rintro e w' ⟨rfl, n, rfl⟩
    generalize tabErr F = te at *
    go_wp2
    refine bodyPost_ret (v := .tuple #[.slice none 0 0, .int .i64 te]) (by simp [results, Try.results18, go_sem]) rfl ?_
    rw [HNO.out]
    exact ⟨_, by rw [HT.out], SliceOf.nil _, ExtOf.of (by repeat' (first | (with_reducible exact Ext.refl _) | (with_reducible exact ExtOf.ext _) | (with_reducible refine Ext.trans ?_ (ExtOf.ext _)) | (with_reducible refine Ext.alloc ?_ _) | (with_reducible refine Ext.drew ?_) | (with_reducible refine Ext.setCell ?_ ?_ _) | (with_reducible refine Ext.setRow ?_ ?_ _) | (with_reducible exact HX.out) | (with_reducible refine Ext.trans ?_ HX.out) | (with_reducible refine Ext.below ?_ (Nat.le_refl _) _) | (simp; done) | (simp; omega)))⟩

end Go.Proofs.Ythchddkdcibbhaa
