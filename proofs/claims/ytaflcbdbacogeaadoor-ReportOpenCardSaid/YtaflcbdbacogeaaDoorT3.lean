/-
  The reference's Text.
-/
import Derived.Test.YtaflcbdbacogeaaDoorT2
set_option linter.unusedVariables false
set_option linter.unusedSimpArgs false
namespace Go.Proofs.YtaflcbdbacogeaaDoor
open Go.RowKit ReportM

attribute [local go_sem] ExtOf.cell ExtOf.frozen ExtS.cell ExtS.frozen Block.cell Block.frozen ExtB.cell ExtB.frozen alloc_cell alloc_frozen
structure Pd where
  (nm : ByteArray) (a b c d : Int) (u v : Value)
def encPd (p : Pd) : List Value := [.string p.nm, .int .i64 p.a, .int .i64 p.b, .int .i64 p.c, .int .i64 p.d, p.u, p.v]
def suCells (vc : Value) : Array Value := #[vc, .slice none 0 0, .slice none 0 0, .slice none 0 0, .int .i64 0, .int .i64 0, .int .i64 0, .int .i64 0, .int .i64 0, .int .i64 0, .int .i64 0, .int .i64 0, .int .i64 0]
def nameF (c : List Pd) (p : Int) : List UInt8 := if 0 ≤ p then (match c[p.toNat]? with | some q => q.nm.data.toList | none => [45]) else [45]
def lineF (c : List Pd) (t : Tal) : List UInt8 := nameF c t.k.1 ++ (32 :: Lib.itoa t.k.2.1) ++ (32 :: Lib.itoa t.k.2.2) ++ (32 :: Lib.itoa t.c) ++ (32 :: Lib.itoa t.v) ++ [10]
def textF (c : List Pd) (ts : List Tal) : List UInt8 := ts.flatMap (lineF c)
def TalR (t : Tal) : Prop := InR t.k.1 ∧ InR t.k.2.1 ∧ InR t.k.2.2 ∧ InR t.c ∧ InR t.v
theorem name_len {c : List Pd} (hc : ∀ q ∈ c, q.nm.size ≤ 100) (p : Int) : (nameF c p).length ≤ 100 := by
  unfold nameF
  split
  · split
    · rename_i q hq
      have := hc q (List.mem_of_getElem? hq)
      simpa using this
    · simp
  · simp
theorem line_len {c : List Pd} (hc : ∀ q ∈ c, q.nm.size ≤ 100) {t : Tal} (h : TalR t) : (lineF c t).length ≤ 200 := by
  have h1 := name_len hc t.k.1
  have h2 := itoa_len h.2.1.1 h.2.1.2
  have h3 := itoa_len h.2.2.1.1 h.2.2.1.2
  have h4 := itoa_len h.2.2.2.1.1 h.2.2.2.1.2
  have h5 := itoa_len h.2.2.2.2.1 h.2.2.2.2.2
  simp only [lineF, List.length_append, List.length_cons, List.length_nil]
  omega
theorem text_snoc {c : List Pd} {ts : List Tal} {t : Tal} : textF c (ts ++ [t]) = textF c ts ++ lineF c t := by simp [textF, List.flatMap_append]
theorem text_len {c : List Pd} (hc : ∀ q ∈ c, q.nm.size ≤ 100) : ∀ {ts : List Tal}, (∀ t ∈ ts, TalR t) → (textF c ts).length ≤ 200 * ts.length
  | [], _ => by simp [textF]
  | t :: ts, h => by
    have i := text_len hc (ts := ts) (fun u hu => h u (by simp [hu]))
    have := line_len hc (h t (by simp))
    simp only [textF, List.flatMap_cons, List.length_append, List.length_cons] at i ⊢
    omega
theorem digits_e (n : Int) (w : World) (h : InR n) : Calls Tryd.prog 32 #[.int .i64 n] w fun e w' => e = .returned (.string ⟨(Lib.itoa n).toArray⟩) ∧ ∃ n : ExtOf w, w' = n.val :=
  (digits_any n w h.1 h.2).mono fun _ _ ⟨he, hw⟩ => ⟨he, hw ▸ ExtOf.of (Ext.refl _)⟩
theorem tal_inR {its : List It} {pl : Int} {ts : List Tal} (hl : its.length ≤ 1000) (hI : ∀ x ∈ its, ItOk x) (ho : Ok (xsOf its pl) ts) : ∀ t ∈ ts, TalR t := fun t ht => by
  have hb := tal_bounds hl hI ho t ht
  have hm := (ho.mem t.k).1 (List.mem_map.2 ⟨t, ht, rfl⟩)
  obtain ⟨y, hy, e⟩ := List.mem_map.1 hm
  obtain ⟨x, hx, rfl⟩ := List.mem_map.1 hy
  have hx' := hI x (List.mem_filter.1 hx).1
  have h1 := hx'.za; have h2 := hx'.zb; have h3 := hx'.hi
  have e1 : t.k.1 = x.pr := by rw [← e]; rfl
  have e2 : t.k.2.1 = x.zb - x.za := by rw [← e]; rfl
  have e3 : t.k.2.2 = x.gr := by rw [← e]; rfl
  exact ⟨by rw [e1]; exact hx'.pr, by rw [e2]; exact ⟨by omega, by omega⟩, by rw [e3]; exact hx'.gr, ⟨by omega, by omega⟩, ⟨by omega, by omega⟩⟩
theorem ok_len {its : List It} {pl : Int} {ts : List Tal} (hl : its.length ≤ 1000) (hI : ∀ x ∈ its, ItOk x) (ho : Ok (xsOf its pl) ts) : ts.length ≤ 1000 := by
  have h2 := ho.sums.1
  have h3 := sum_bound_low (tal_bounds hl hI ho)
  have h4 := xsOf_len its pl
  rw [h2] at h3
  omega
theorem lwRSu : Whole Tryd.prog 61 13 := whole_of Tryd.underlying61 rfl (by kernel_rfl)
set_option maxRecDepth 20000 in
set_option maxHeartbeats 3200000 in
theorem rtext_walk (its : List It) (c : List Pd) (vc vl vi vo : Value) (pl : Int) (w : World) (h1 : SliceOf encIt 22 w vi its) (h2 : SliceOf encPd 7 w vc c) (hl : its.length ≤ 1000) (hI : ∀ x ∈ its, ItOk x) (hc : ∀ q ∈ c, q.nm.size ≤ 100) (hcl : c.length ≤ 1000) :
    Calls Tryd.prog 15 #[.agg (suCells vc), .agg (stCells vl vi vo), .int .i64 pl] w fun e w' => ∃ ts, e = .returned (.string ⟨(textF c ts).toArray⟩) ∧ Ok (xsOf its pl) ts ∧ Asc ts ∧ ∃ n : ExtOf w, w' = n.val := by
  obtain ⟨pc, cc, rfl, hg4, hg5, hg6⟩ := SliceOf.form h2
  have H1 := Lib.hid h1
  have H2 := Lib.hid h2
  have HI := Lib.hid hI
  have HC := Lib.hid hc
  clear h1 h2 hI hc
  unfold suCells stCells
  go_enter Tryd.func15, Tryd.ntmps15
  go_wp2_with (first | ((with_reducible apply wl_load' lwRSt); (· (first | exact wanted_none rfl | exact wanted_some rfl rfl rfl)); (· rfl); (· infer_instance); (· rfl)) | (go_at_call 13; refine (rstock_walk its vl vi vo pl _ (SliceOf.ext H1.out (((Ext.refl _).alloc _).alloc _)) hl HI.out).mono ?_; rintro e W0 ⟨v, ts, rfl, hok, has, hsl, n, rfl⟩; have HOK := Lib.hid hok; have HAS := Lib.hid has; have HSL := Lib.hid hsl; clear hok has hsl))
  obtain ⟨pv, cv, rfl, hv1, hv2, hv3⟩ := SliceOf.form HSL.out
  obtain ⟨b3, hb3⟩ : ∃ b, b = w.heap.size := ⟨_, rfl⟩
  rw [← hb3]
  have kb3 : Block n.val b3 #[.slice pc c.length cc, .slice none 0 0, .slice none 0 0, .slice none 0 0, .int .i64 0, .int .i64 0, .int .i64 0, .int .i64 0, .int .i64 0, .int .i64 0, .int .i64 0, .int .i64 0, .int .i64 0] := by rw [hb3]; infer_instance
  have KX : Hid (Ext w n.val) := Lib.hid (by repeat' (first | (with_reducible exact Ext.refl _) | (with_reducible exact ExtOf.ext _) | (with_reducible refine Ext.trans ?_ (ExtOf.ext _)) | (with_reducible refine Ext.alloc ?_ _) | (with_reducible refine Ext.drew ?_) | (with_reducible refine Ext.setCell ?_ ?_ _) | (with_reducible refine Ext.setRow ?_ ?_ _) | (with_reducible exact HX.out) | (with_reducible refine Ext.trans ?_ HX.out) | (with_reducible refine Ext.below ?_ (Nat.le_refl _) _) | omega | (simp; done) | (simp; omega)))
  have htl : ts.length ≤ 1000 := ok_len hl HI.out HOK.out
  have HTR := Lib.hid (tal_inR hl HI.out HOK.out)
  generalize n.val = W0 at *
  clear hb3
  go_loopw [7, 9] (fun o i wr => ∃ (k : Nat) (s : ByteArray), k ≤ ts.length ∧ i = .int .i64 k ∧ o = .string s ∧ s.data.toList = textF c (tk ts k) ∧ Ext W0 wr) (fun _ i _ => ts.length - (intOf i).toNat)
  case atStart => exact ⟨0, ⟨#[]⟩, by omega, rfl, rfl, rfl, Ext.refl _⟩
  case round =>
    obtain ⟨k, s, hk, rfl, rfl, hs, hx⟩ := hrel
    have HTX := Lib.hid hs
    have HX := Lib.hid hx
    have hss : s.size ≤ 200000 := by
      have h9 := text_len HC.out (ts := tk ts k) (fun t ht => HTR.out t (List.mem_of_mem_take ht))
      rw [← hs, tk_len hk] at h9
      have e : s.data.toList.length = s.size := by simp
      omega
    have h3 := kb3.ext hx
    clear hs hx
    by_cases hlt : k < ts.length
    · obtain ⟨bt, ot, rfl, rt0⟩ := SliceOf.elemK (SliceOf.ext HSL.out HX.out) hlt
      obtain ⟨t, ht⟩ : ∃ t, t = ts[k] := ⟨_, rfl⟩
      have HR := Lib.hid (HTR.out t (by rw [ht]; exact List.getElem_mem hlt))
      have HSU : Hid (tk ts (k + 1) = tk ts k ++ [t]) := Lib.hid (by rw [ht]; exact tk_succ hlt)
      rw [← ht] at rt0
      clear ht
      obtain ⟨⟨t1, t2, t3⟩, t4, t5⟩ := t
      obtain ⟨r1, r2, r3, r4, r5⟩ := HR.out
      simp only at r1 r2 r3 r4 r5
      have rt : World.rangeAt wr bt (ot + k * 5) [.int .i64 t1, .int .i64 t2, .int .i64 t3, .int .i64 t4, .int .i64 t5] := rt0
      have x0 : wr.cell? ⟨bt, ot + k * 5, none⟩ = some (.int .i64 t1) := rt 0 _ rfl
      have x1 : wr.cell? ⟨bt, ot + k * 5 + 1, none⟩ = some (.int .i64 t2) := rt 1 _ rfl
      have x2 : wr.cell? ⟨bt, ot + k * 5 + 2, none⟩ = some (.int .i64 t3) := rt 2 _ rfl
      have x3 : wr.cell? ⟨bt, ot + k * 5 + 3, none⟩ = some (.int .i64 t4) := rt 3 _ rfl
      have x4 : wr.cell? ⟨bt, ot + k * 5 + 4, none⟩ = some (.int .i64 t5) := rt 4 _ rfl
      have ob : Old bt wr := Old.of_cell x0
      have l2 := itoa_len r2.1 r2.2
      have l3 := itoa_len r3.1 r3.2
      have l4 := itoa_len r4.1 r4.2
      have l5 := itoa_len r5.1 r5.2
      clear rt rt0
      by_cases hn : t1 < 0
      · have q1 : decide (0 ≤ t1) = false := by simp; omega
        have HNM : Hid (nameF c t1 = [45]) := Lib.hid (by unfold nameF; rw [if_neg (by omega)])
        go_wp2_with fail
        refine wp_region_ext (by kernel_rfl) (by kernel_rfl) ?_
        repeat (first | go_big_quiet_skip | go_big_quiet_step (fail))
        refine wpQuiet_nil ?_
        intro _ hw'
        obtain ⟨nq, hw''⟩ := hw'
        subst hw''
        go_wp2_with fail
        refine wp_region_ext (by kernel_rfl) (by kernel_rfl) ?_
        repeat (first | go_big_quiet_skip | go_big_quiet_step ((go_at_call 32; exact ext_call (digits_e _ _ (by assumption)))))
        refine wpQuiet_nil ?_
        intro _ hw'
        obtain ⟨nz, hw''⟩ := hw'
        subst hw''
        go_wp2_with fail
        go_roundw
        case rel => exact ⟨k + 1, _, by omega, by first | rfl | go_num, rfl, by
          rw [HSU.out, text_snoc, ← HTX.out]
          simp only [ba_append]
          simp only [lineF, HNM.out]
          simp, ((HX.out.trans nq.ext).trans nz.ext)⟩
        case measure => simp [intOf]; omega
      · obtain ⟨p, rfl⟩ : ∃ p : Nat, t1 = (p : Int) := ⟨t1.toNat, by omega⟩
        have q1 : decide (0 ≤ (p : Int)) = true := by simp
        by_cases hpc : p < c.length
        · have q2 : decide (p < c.length) = true := by simpa using hpc
          obtain ⟨bc, oc, rfl, rc0⟩ := SliceOf.elemK (SliceOf.ext H2.out (KX.out.trans HX.out)) hpc
          obtain ⟨q, hq⟩ : ∃ q, q = c[p] := ⟨_, rfl⟩
          rw [← hq] at rc0
          have y0 : wr.cell? ⟨bc, oc + p * 7, none⟩ = some (.string q.nm) := rc0 0 _ rfl
          have oc0 : Old bc wr := Old.of_cell y0
          have lq : q.nm.size ≤ 100 := HC.out q (by rw [hq]; exact List.getElem_mem hpc)
          have HNM : Hid (nameF c (p : Int) = q.nm.data.toList) := Lib.hid (by unfold nameF; rw [if_pos (by omega)]; simp [hq, hpc])
          clear hq rc0
          go_wp2_with fail
          refine wp_region_ext (by kernel_rfl) (by kernel_rfl) ?_
          repeat (first | go_big_quiet_skip | go_big_quiet_step (fail))
          refine wpQuiet_nil ?_
          intro _ hw'
          obtain ⟨nq, hw''⟩ := hw'
          subst hw''
          go_wp2_with fail
          refine wp_region_ext (by kernel_rfl) (by kernel_rfl) ?_
          repeat (first | go_big_quiet_skip | go_big_quiet_step (fail))
          refine wpQuiet_nil ?_
          intro _ hw'
          obtain ⟨ny, hw''⟩ := hw'
          subst hw''
          go_wp2_with fail
          refine wp_region_ext (by kernel_rfl) (by kernel_rfl) ?_
          repeat (first | go_big_quiet_skip | go_big_quiet_step ((go_at_call 32; exact ext_call (digits_e _ _ (by assumption)))))
          refine wpQuiet_nil ?_
          intro _ hw'
          obtain ⟨nz, hw''⟩ := hw'
          subst hw''
          go_wp2_with fail
          go_roundw
          case rel => exact ⟨k + 1, _, by omega, by first | rfl | go_num, rfl, by
            rw [HSU.out, text_snoc, ← HTX.out]
            simp only [ba_append]
            simp only [lineF, HNM.out]
            simp, (((HX.out.trans nq.ext).trans ny.ext).trans nz.ext)⟩
          case measure => simp [intOf]; omega
        · have q2 : decide (p < c.length) = false := by simpa using hpc
          have HNM : Hid (nameF c (p : Int) = [45]) := Lib.hid (by unfold nameF; rw [if_pos (by omega)]; simp [hpc])
          go_wp2_with fail
          refine wp_region_ext (by kernel_rfl) (by kernel_rfl) ?_
          repeat (first | go_big_quiet_skip | go_big_quiet_step (fail))
          refine wpQuiet_nil ?_
          intro _ hw'
          obtain ⟨nq, hw''⟩ := hw'
          subst hw''
          go_wp2_with fail
          refine wp_region_ext (by kernel_rfl) (by kernel_rfl) ?_
          repeat (first | go_big_quiet_skip | go_big_quiet_step ((go_at_call 32; exact ext_call (digits_e _ _ (by assumption)))))
          refine wpQuiet_nil ?_
          intro _ hw'
          obtain ⟨nz, hw''⟩ := hw'
          subst hw''
          go_wp2_with fail
          go_roundw
          case rel => exact ⟨k + 1, _, by omega, by first | rfl | go_num, rfl, by
            rw [HSU.out, text_snoc, ← HTX.out]
            simp only [ba_append]
            simp only [lineF, HNM.out]
            simp, ((HX.out.trans nq.ext).trans nz.ext)⟩
          case measure => simp [intOf]; omega
    · have hkk : k = ts.length := by omega
      have HE : Hid (s = ⟨(textF c ts).toArray⟩) := Lib.hid (by have := HTX.out; rw [hkk, tk_all] at this; exact ba_ext this)
      clear hkk
      go_wp2_with fail
      go_ret
      exact ⟨ts, ret_str HE.out, HOK.out, HAS.out, ExtOf.of (KX.out.trans HX.out)⟩
end Go.Proofs.YtaflcbdbacogeaaDoor
