/-
  The reference's Stock.
-/
import Derived.Test.YtaflcbdbacogeaaDoorS1
import Derived.Test.YtaflcbdbacogeaaDoorSub
import Derived.BigRegion
set_option linter.unusedVariables false
set_option linter.unusedSimpArgs false
namespace Go.Proofs.YtaflcbdbacogeaaDoor
open Go.RowKit ReportM Go.Maps

attribute [local go_sem] ExtOf.cell ExtOf.frozen ExtS.cell ExtS.frozen Block.cell Block.frozen ExtB.cell ExtB.frozen alloc_cell alloc_frozen
theorem infoRRow : (Tryd.prog.info? 118).map (fun i => (i.zero, i.size, i.bytes)) = some (some (.agg #[.int .i64 0, .int .i64 0, .int .i64 0, .int .i64 0, .int .i64 0]), 5, 40) := by kernel_rfl
theorem range_take {w : World} {b o : Nat} {l : List Value} (n : Nat) (h : w.rangeAt b o l) : w.rangeAt b o (l.take n) := fun j u hj => h j u (by
  rw [List.getElem?_take] at hj
  split at hj
  · exact hj
  · cases hj)
theorem set_flat (l1 l2 : List Tal) (t : Tal) (c v : Int) : (((l1 ++ t :: l2).flatMap encT).set (l1.length * 5 + 3) (.int .i64 c)).set (l1.length * 5 + 4) (.int .i64 v) = (l1 ++ ⟨t.k, c, v⟩ :: l2).flatMap encT := by
  have h : (l1.flatMap encT).length = l1.length * 5 := flatMap_len encT_len
  rw [List.flatMap_append, List.flatMap_append, List.flatMap_cons, List.flatMap_cons]
  rw [List.set_append_right _ _ (by omega), List.set_append_right _ _ (by omega), h]
  rw [show l1.length * 5 + 3 - l1.length * 5 = 3 by omega, show l1.length * 5 + 4 - l1.length * 5 = 4 by omega]
  rfl
theorem own_bump {B E g n cap : Nat} {W : World} {l1 l2 : List Tal} {t : Tal} (c v : Int) (h : Own encT 5 E B W (.slice (some ⟨g, 0, none⟩) n cap) (l1 ++ t :: l2)) : Own encT 5 E B ((W.setCell ⟨g, l1.length * 5 + 3, none⟩ (.int .i64 c)).setCell ⟨g, l1.length * 5 + 4, none⟩ (.int .i64 v)) (.slice (some ⟨g, 0, none⟩) n cap) (l1 ++ ⟨t.k, c, v⟩ :: l2) := by
  have hn : n = (l1 ++ t :: l2).length := by
    obtain ⟨_, h1 | ⟨g', cap', cur, e, _⟩⟩ := h
    · simp at h1
    · simp only [Value.slice.injEq] at e; exact e.2.1
  unfold Own at h ⊢
  have e1 : (l1 ++ (⟨t.k, c, v⟩ : Tal) :: l2).length = (l1 ++ t :: l2).length := by simp
  rw [e1, ← set_flat]
  subst hn
  exact (World.ownsRow.stored (World.ownsRow.stored h _ _).1 _ _).1
theorem asc_insert {l1 l2 : List Tal} {t : Tal} (h : Asc (l1 ++ l2)) (h1 : ∀ s ∈ l1, ltK s.k t.k) (h2 : ∀ s ∈ l2, ltK t.k s.k) : Asc (l1 ++ t :: l2) := by
  unfold Asc at *
  rw [List.pairwise_append] at h ⊢
  obtain ⟨a1, a2, a3⟩ := h
  refine ⟨a1, List.pairwise_cons.2 ⟨fun s hs => h2 s hs, a2⟩, fun a ha b hb => ?_⟩
  rcases List.mem_cons.1 hb with rfl | hb
  · exact h1 a ha
  · exact a3 a ha b hb
theorem asc_bump {l1 l2 : List Tal} {t : Tal} {c v : Int} (h : Asc (l1 ++ t :: l2)) : Asc (l1 ++ ⟨t.k, c, v⟩ :: l2) := by
  unfold Asc at *
  rw [List.pairwise_append, List.pairwise_cons] at h ⊢
  obtain ⟨a1, ⟨a2, a3⟩, a4⟩ := h
  refine ⟨a1, ⟨a2, a3⟩, fun a ha b hb => ?_⟩
  rcases List.mem_cons.1 hb with rfl | hb
  · exact a4 a ha t (by simp)
  · exact a4 a ha b (by simp [hb])
theorem mem_drop_first {ts : List Tal} {s t : Tal} {j : Nat} (h : ts = tk ts j ++ t :: ts.drop (j + 1)) (hj : j ≤ ts.length) (hs : s ∈ ts.drop j) : s = t ∨ s ∈ ts.drop (j + 1) := by
  have e : ts.drop j = t :: ts.drop (j + 1) := by
    have h1 := List.take_append_drop j ts
    have h2 : ts.take j ++ ts.drop j = ts.take j ++ (t :: ts.drop (j + 1)) := h1.trans h
    exact List.append_cancel_left h2
  rw [e] at hs
  exact List.mem_cons.1 hs
theorem asc_rest {ts : List Tal} {s t : Tal} {j : Nat} (ha : Asc ts) (h : ts = tk ts j ++ t :: ts.drop (j + 1)) (hs : s ∈ ts.drop (j + 1)) : ltK t.k s.k := by
  unfold Asc at ha
  rw [h, List.pairwise_append, List.pairwise_cons] at ha
  exact ha.2.1.1 s hs
set_option maxRecDepth 20000 in
set_option maxHeartbeats 3200000 in
theorem rstock_walk (its : List It) (vl vi vo : Value) (pl : Int) (w : World) (h1 : SliceOf encIt 22 w vi its) (hl : its.length ≤ 1000) (hI : ∀ x ∈ its, ItOk x) :
    Calls Tryd.prog 13 #[.agg (stCells vl vi vo), .int .i64 pl] w fun e w' => ∃ v ts, e = .returned v ∧ Ok (xsOf its pl) ts ∧ Asc ts ∧ SliceOf encT 5 w' v ts ∧ ∃ n : ExtOf w, w' = n.val := by
  obtain ⟨iR, hiR, hR0, hR1, hR2⟩ := info_parts infoRRow
  obtain ⟨p1, cap1, rfl, hg4, hg5, hg6⟩ := SliceOf.form h1
  have H1 := Lib.hid h1
  have HI := Lib.hid hI
  clear h1 hI
  unfold stCells
  go_enter Tryd.func13, Tryd.ntmps13
  go_wp2_with fail
  obtain ⟨b2, hb2⟩ : ∃ x, x = w.heap.size := ⟨_, rfl⟩
  obtain ⟨W0, hW0, k2, kx⟩ : ∃ W0, W0 = (w.alloc (.cells #[.int .i64 0, .slice none 0 0, vl, .slice p1 its.length cap1, .slice none 0 0, vo, .int .i64 0, .int .i64 0, .slice none 0 0, .slice none 0 0] 42)) ∧ Block W0 b2 #[.int .i64 0, .slice none 0 0, vl, .slice p1 its.length cap1, .slice none 0 0, vo, .int .i64 0, .int .i64 0, .slice none 0 0, .slice none 0 0] ∧ Ext w W0 := ⟨_, rfl, by rw [hb2]; infer_instance, by repeat' (first | (with_reducible exact Ext.refl _) | (with_reducible exact ExtOf.ext _) | (with_reducible refine Ext.trans ?_ (ExtOf.ext _)) | (with_reducible refine Ext.alloc ?_ _) | (with_reducible refine Ext.drew ?_) | (with_reducible refine Ext.setCell ?_ ?_ _) | (with_reducible refine Ext.setRow ?_ ?_ _) | (with_reducible exact HX.out) | (with_reducible refine Ext.trans ?_ HX.out) | (with_reducible refine Ext.below ?_ (Nat.le_refl _) _) | omega | (simp; done) | (simp; omega))⟩
  rw [← hW0, ← hb2]
  have lw2 : w.heap.size ≤ b2 := by omega
  have K2 := Lib.hid k2
  have KX := Lib.hid kx
  obtain ⟨B, hB⟩ : ∃ B, B = b2 + 1 := ⟨_, rfl⟩
  have lwB : w.heap.size ≤ B := by omega
  have lb2 : b2 < B := by omega
  have hBW : B ≤ W0.heap.size := by rw [hW0, hB, hb2]; simp
  clear hW0 k2 kx hb2 hB
  go_loopw [5, 6] (fun v i wr => ∃ (k : Nat) (ts : List Tal), k ≤ its.length ∧ i = .int .i64 k ∧ Own encT 5 118 B wr v ts ∧ Ok (xsOf (tk its k) pl) ts ∧ Asc ts ∧ (ts = [] → v = .slice none 0 0) ∧ Block wr b2 #[.int .i64 0, .slice none 0 0, vl, .slice p1 its.length cap1, .slice none 0 0, vo, .int .i64 0, .int .i64 0, .slice none 0 0, .slice none 0 0] ∧ Ext w wr ∧ B ≤ wr.heap.size) (fun _ i _ => its.length - (intOf i).toNat)
  case atStart => exact ⟨0, [], by omega, rfl, Own.nil _, Ok.nil, List.Pairwise.nil, fun _ => rfl, K2.out, KX.out, hBW⟩
  case round =>
    clear K2 KX hBW
    obtain ⟨k, ts, hk, rfl, how, hok, has, hnil, h2, hx, hBW⟩ := hrel
    have HX := Lib.hid hx
    have HW := Lib.hid how
    have HO := Lib.hid hok
    have HA := Lib.hid has
    have HN := Lib.hid hnil
    clear hx how hok has hnil
    have o2 := h2.old
    by_cases hlt : k < its.length
    · obtain ⟨b1, off0, rfl, rw0⟩ := SliceOf.elemK H1.out hlt
      obtain ⟨x, hx0⟩ : ∃ x, x = its[k] := ⟨_, rfl⟩
      rw [← hx0] at rw0
      have r0 : World.rangeAt wr b1 (off0 + k * 22) [.string ⟨#[]⟩, .string ⟨#[]⟩, .string ⟨#[]⟩, .int .i64 x.pr, .int .i64 0, .int .i64 0, .int .i64 0, .int .i64 0, .int .i64 x.za, .int .i64 x.zb, .int .i64 x.vo, .slice none 0 0, .int .i64 0, .int .i64 0, .int .i64 0, .int .i64 0, .bool false, .int .i64 x.gr, .int .i64 x.pl, .string ⟨#[]⟩, .string ⟨#[]⟩, .string ⟨#[]⟩] := HX.out.range rw0
      have HS : Hid (tk its (k + 1) = tk its k ++ [x]) := Lib.hid (by rw [hx0]; exact tk_succ hlt)
      have HIX : Hid (ItOk x) := Lib.hid (HI.out x (by rw [hx0]; exact List.getElem_mem hlt))
      clear hx0 rw0
      have o1 : Old b1 wr := Old.of_cell (r0 0 _ rfl)
      have c18 : wr.cell? ⟨b1, off0 + k * 22 + 18, none⟩ = some (.int .i64 x.pl) := r0 18 _ rfl
      have rB : World.rangeAt wr b1 (off0 + k * 22) [.string ⟨#[]⟩, .string ⟨#[]⟩, .string ⟨#[]⟩, .int .i64 x.pr, .int .i64 0, .int .i64 0, .int .i64 0, .int .i64 0, .int .i64 x.za, .int .i64 x.zb, .int .i64 x.vo, .slice none 0 0, .int .i64 0, .int .i64 0, .int .i64 0, .int .i64 0, .bool false, .int .i64 x.gr] := range_take 18 r0
      by_cases hp : x.pl = pl
      · have hp2 : (x.pl != pl) = false := by simpa using hp
        have HP := Lib.hid hp
        have lz := HIX.out.za
        have lz2 := HIX.out.zb
        have lz3 := HIX.out.hi
        have vz := HIX.out.vo
        have vz2 := HIX.out.vh
        clear hp
        go_wp2_with (first | ((with_reducible apply wl_loadM midBo rB); (· rfl); (· (first | exact wanted_none rfl | exact wanted_some rfl rfl rfl)); (· rfl)) | ((with_reducible apply wl_store' lwRR); (· (first | exact wanted_none rfl | exact wanted_some rfl rfl rfl)); (· rfl); (· rfl); (· infer_instance); (· rfl); (· rfl); (· (simp [Value.oneCell'])); try simp only [setRow_alloc, setRow_new, setRow_new1, setRow_new2, setRow_new11, setRow_new111]) | (go_at_call 27; refine (rof_any x _ lz lz2 lz3).mono ?_; rintro e w' ⟨rfl, n, rfl⟩))
        obtain ⟨b7, hb7'⟩ : ∃ b, b = n.val.heap.size := ⟨_, rfl⟩
        rw [← hb7']
        have hb7 : Block (n.val.alloc (.cells #[.int .i64 x.pr, .int .i64 (x.zb - x.za), .int .i64 x.gr, .int .i64 1, .int .i64 x.vo] 118)) b7 #[.int .i64 x.pr, .int .i64 (x.zb - x.za), .int .i64 x.gr, .int .i64 1, .int .i64 x.vo] := by rw [hb7']; infer_instance
        have HV5 : Hid (∀ q, b7 ≤ q → u5.ownBlock ≠ some q) := Lib.hid (fun q hq => Own.block_lt HW.out (by rw [hb7'] at hq; have := n.size; omega))
        have hxw : Ext wr (n.val.alloc (.cells #[.int .i64 x.pr, .int .i64 (x.zb - x.za), .int .i64 x.gr, .int .i64 1, .int .i64 x.vo] 118)) := (n.ext).alloc _
        have HX1 : Hid (Ext w (n.val.alloc (.cells #[.int .i64 x.pr, .int .i64 (x.zb - x.za), .int .i64 x.gr, .int .i64 1, .int .i64 x.vo] 118))) := Lib.hid (HX.out.trans hxw)
        have HW1 : Hid (Own encT 5 118 B (n.val.alloc (.cells #[.int .i64 x.pr, .int .i64 (x.zb - x.za), .int .i64 x.gr, .int .i64 1, .int .i64 x.vo] 118)) u5 ts) := Lib.hid (HW.out.ext hxw)
        have h21 := h2.ext hxw
        have hBW1 : B ≤ (n.val.alloc (.cells #[.int .i64 x.pr, .int .i64 (x.zb - x.za), .int .i64 x.gr, .int .i64 1, .int .i64 x.vo] 118)).heap.size := by have := hxw.size; omega
        generalize n.val.alloc (.cells #[.int .i64 x.pr, .int .i64 (x.zb - x.za), .int .i64 x.gr, .int .i64 1, .int .i64 x.vo] 118) = W1 at *
        have htl : ts.length ≤ its.length := by
          have h2' := HO.out.sums.1
          have h3 := sum_bound_low (tal_bounds (l := tk its k) (by rw [tk_len (by omega)]; omega) (fun y hy => HI.out y (List.mem_of_mem_take hy)) HO.out)
          have h4 := xsOf_len (tk its k) pl
          rw [tk_len (by omega)] at h4
          rw [h2'] at h3
          omega
        clear hb7' hxw HX HW h2 r0 rB c18 o1 o2
        by_cases hts : ts = []
        · obtain rfl := HN.out hts
          subst hts
          go_loopw [8] (fun v wz => v = .int .i64 0 ∧ Ext W1 wz) (fun _ _ => 0)
          case atStart => exact ⟨rfl, Ext.refl _⟩
          case round =>
            obtain ⟨rfl, hx1⟩ := hrel
            have HX2 := Lib.hid (HX1.out.trans hx1)
            replace hb7 := hb7.ext hx1
            have h22 := h21.ext hx1
            have hBW2 : B ≤ wr.heap.size := by have := hx1.size; omega
            clear hx1
            have q1 : decide ((0 : Nat) < 0) = false := rfl
            go_wp2_with fail
            refine wp_region_ext (by kernel_rfl) (by kernel_rfl) ?_
            repeat (first | go_big_quiet_skip | ((with_reducible apply q_loadM midRR rT); (· rfl); (· (first | exact wanted_none rfl | exact wanted_some rfl rfl rfl)); (· rfl); simp only [Act.put, List.setIfInBounds_toArray, List.set_cons_succ, List.set_cons_zero]) | ((with_reducible apply q_load' lwRR); (· (first | exact wanted_none rfl | exact wanted_some rfl rfl rfl)); (· rfl); (· infer_instance); (· rfl); simp only [Act.put, List.setIfInBounds_toArray, List.set_cons_succ, List.set_cons_zero]) | go_big_quiet_step (fail))
            refine wpQuiet_nil ?_
            intro _ hw'
            obtain ⟨na, hw''⟩ := hw'
            subst hw''
            go_wp2_with fail
            refine wp_region_ext (by kernel_rfl) (by kernel_rfl) ?_
            repeat (first | go_big_quiet_skip | ((with_reducible apply q_loadM midRR rT); (· rfl); (· (first | exact wanted_none rfl | exact wanted_some rfl rfl rfl)); (· rfl); simp only [Act.put, List.setIfInBounds_toArray, List.set_cons_succ, List.set_cons_zero]) | ((with_reducible apply q_load' lwRR); (· (first | exact wanted_none rfl | exact wanted_some rfl rfl rfl)); (· rfl); (· infer_instance); (· rfl); simp only [Act.put, List.setIfInBounds_toArray, List.set_cons_succ, List.set_cons_zero]) | go_big_quiet_step (fail))
            refine wpQuiet_nil ?_
            intro _ hw'
            obtain ⟨nb, hw''⟩ := hw'
            subst hw''
            have hx3 : Ext wr nb.val := na.ext.trans nb.ext
            replace hb7 := hb7.ext hx3
            have HX3 := Lib.hid (HX2.out.trans hx3)
            replace h22 := h22.ext hx3
            have hBW3 : B ≤ nb.val.heap.size := by have := hx3.size; omega
            obtain ⟨ts, hts⟩ : ∃ ts : List Tal, ts = [] := ⟨_, rfl⟩
            have HTK : Hid (SliceOf encT 5 nb.val (.slice none 0 0) (ts.take 0)) := Lib.hid (by rw [hts]; exact SliceOf.nil _)
            have HDR : Hid (SliceOf encT 5 nb.val (.slice none 0 0) (ts.drop 0)) := Lib.hid (by rw [hts]; exact SliceOf.nil _)
            have htl2 : ts.length ≤ 1000 := by rw [hts]; simp
            have HTS := Lib.hid hts
            clear hts
            have hBn : nb.val.heap.size ≤ nb.val.heap.size := Nat.le_refl _
            go_wp2_with (first | ((with_reducible apply wl_load' lwRR); (· (first | exact wanted_none rfl | exact wanted_some rfl rfl rfl)); (· rfl); (· infer_instance); (· rfl)) | (at_builtin; refine wl_appendS (dst := some 85) (enc := encT) (k := 5) (E := 118) (base := nb.val.heap.size) (l := []) (m := ts.take 0) Tryd.underlying48 hiR hR0 hR1 hR2 rfl (by decide) encT_len encT_one rfl rfl (Own.empty (Nat.le_refl _)) (SliceOf.ext HTK.out ((Ext.refl _).alloc _)) (by simp <;> (unfold maxLen; omega)) (by simp <;> omega) (by simp) ?_; intro v1 n1 ho1; have HO1 : Hid (Own encT 5 118 nb.val.heap.size n1.val v1 (ts.take 0)) := Lib.hid (by simpa using ho1); have HE1 : Hid (Ext nb.val n1.val) := Lib.hid (Below.trans ((Ext.refl _).alloc _) n1.below); clear ho1; have hb71 := hb7.ext HE1.out) | (at_builtin; refine wl_append1g (dst := some 89) (enc := encT) (k := 5) (E := 118) (base := nb.val.heap.size) (l := ts.take 0) (y := (⟨(x.pr, x.zb - x.za, x.gr), 1, x.vo⟩ : Tal)) Tryd.underlying48 hiR hR0 hR1 hR2 rfl (by decide) encT_len encT_one rfl rfl (Own.alloc HO1.out _) inferInstance rfl (by simp <;> (unfold maxLen; omega)) (by simp <;> omega) (by have := HE1.out.size; simp <;> omega) ?_; intro v2 n2 ho2 hk2; have HO2 := Lib.hid ho2; have HE2 : Hid (Ext nb.val n2.val) := Lib.hid (Below.trans (HE1.out.alloc _) n2.below); clear ho2 hk2) | (at_builtin; refine wl_appendS (dst := some 94) (enc := encT) (k := 5) (E := 118) (base := nb.val.heap.size) (l := ts.take 0 ++ [(⟨(x.pr, x.zb - x.za, x.gr), 1, x.vo⟩ : Tal)]) (m := ts.drop 0) Tryd.underlying48 hiR hR0 hR1 hR2 rfl (by decide) encT_len encT_one rfl rfl HO2.out (SliceOf.ext HDR.out HE2.out) (by simp <;> (unfold maxLen; omega)) (by simp <;> omega) (by have := HE2.out.size; omega) ?_; intro v3 n3 ho3; have HO3 := Lib.hid ho3; have HE3 : Hid (Ext nb.val n3.val) := Lib.hid (Below.trans HE2.out n3.below); clear ho3))
            go_roundw
            case rel => exact ⟨k + 1, [] ++ [(⟨(x.pr, x.zb - x.za, x.gr), 1, x.vo⟩ : Tal)] ++ [], by omega, by first | rfl | go_num, by have := HO3.out; rw [HTS.out] at this; exact Own.lower this hBW3, by
              rw [HS.out, xsOf_snoc, if_pos HP.out]
              exact Ok.add (l1 := []) (l2 := []) HO.out (by simp), by simp [Asc], by simp, h22.ext HE3.out, HX3.out.trans HE3.out, by have := HE3.out.size; omega⟩
            case measure => simp [intOf]; omega
        · obtain ⟨g, co, hu5⟩ : ∃ g co, u5 = .slice (some ⟨g, 0, none⟩) ts.length co := by
            obtain ⟨_, ⟨_, hn⟩ | ⟨g, cap, cur, e, _⟩⟩ := HW1.out
            · exact absurd (List.eq_nil_of_length_eq_zero hn) hts
            · exact ⟨g, cap, e⟩
          subst hu5
          have HGB : Hid (B ≤ g) := Lib.hid (World.ownsRow.lt HW1.out g rfl).1
          have HG7 : Hid (g < b7) := Lib.hid (Nat.lt_of_not_le fun h => HV5.out g h rfl)
          have HTS := Lib.hid hts
          clear hts HN
          obtain ⟨hc1, hc2⟩ : ts.length ≤ co ∧ co ≤ maxLen := by
            obtain ⟨p', c', e, h1, h2, _⟩ := Own.slice encT_len HW1.out
            simp only [Value.slice.injEq] at e
            obtain ⟨_, _, rfl⟩ := e
            exact ⟨h1, h2⟩
          go_loopw [8] (fun v wz => ∃ j : Nat, j ≤ ts.length ∧ v = .int .i64 j ∧ (∀ s ∈ tk ts j, ltK s.k (x.pr, x.zb - x.za, x.gr)) ∧ Ext W1 wz) (fun v _ => ts.length - (intOf v).toNat)
          case atStart => exact ⟨0, by omega, rfl, by simp [tk], Ext.refl _⟩
          case round =>
            obtain ⟨j, hj, rfl, hlo, hx1⟩ := hrel
            have HLO := Lib.hid hlo
            have HX2 := Lib.hid (HX1.out.trans hx1)
            have HX12 := Lib.hid hx1
            have HW2 := Lib.hid (HW1.out.ext hx1)
            replace hb7 := hb7.ext hx1
            have h22 := h21.ext hx1
            have hBW2 : B ≤ wr.heap.size := by have := hx1.size; omega
            have o7 := hb7.old
            clear hx1 hlo
            have htl2 : ts.length ≤ 1000 := by omega
            by_cases hjl : j < ts.length
            · have q1 : decide (j < ts.length) = true := by simpa using hjl
              obtain ⟨b', off', e', rT0⟩ := SliceOf.elemK (Own.slice encT_len HW2.out) hjl
              simp only [Option.some.injEq, Addr.mk.injEq, and_true] at e'
              obtain ⟨rfl, rfl⟩ := e'
              obtain ⟨s, hs⟩ : ∃ s, s = ts[j] := ⟨_, rfl⟩
              have HSP : Hid (ts = tk ts j ++ s :: ts.drop (j + 1)) := Lib.hid (by rw [hs]; unfold tk; rw [← List.drop_eq_getElem_cons hjl, List.take_append_drop])
              have HSM : Hid (s ∈ ts) := Lib.hid (by rw [hs]; exact List.getElem_mem hjl)
              have HSU : Hid (tk ts (j + 1) = tk ts j ++ [s]) := Lib.hid (by rw [hs]; exact tk_succ hjl)
              rw [← hs, Nat.zero_add] at rT0
              obtain ⟨⟨s1, s2, s3⟩, sc, sv⟩ := s
              have rT : World.rangeAt wr g (j * 5) [.int .i64 s1, .int .i64 s2, .int .i64 s3, .int .i64 sc, .int .i64 sv] := rT0
              have og : Old g wr := Old.of_cell (rT 0 _ rfl)
              clear hs rT0
              rcases t1 : ltB (s1, s2, s3) (x.pr, x.zb - x.za, x.gr) with _ | _
              · have T1 : Hid (¬ ltK (s1, s2, s3) (x.pr, x.zb - x.za, x.gr)) := Lib.hid (by simpa [ltB] using t1)
                rcases t2 : ltB (x.pr, x.zb - x.za, x.gr) (s1, s2, s3) with _ | _
                · have T2 : Hid ((s1, s2, s3) = (x.pr, x.zb - x.za, x.gr)) := Lib.hid (ltK_total T1.out (by simpa [ltB] using t2))
                  go_wp2_with fail
                  refine wp_region_ext (by kernel_rfl) (by kernel_rfl) ?_
                  repeat (first | go_big_quiet_skip | ((with_reducible apply q_loadM midRR rT); (· rfl); (· (first | exact wanted_none rfl | exact wanted_some rfl rfl rfl)); (· rfl); simp only [Act.put, List.setIfInBounds_toArray, List.set_cons_succ, List.set_cons_zero]) | ((with_reducible apply q_load' lwRR); (· (first | exact wanted_none rfl | exact wanted_some rfl rfl rfl)); (· rfl); (· infer_instance); (· rfl); simp only [Act.put, List.setIfInBounds_toArray, List.set_cons_succ, List.set_cons_zero]) | go_big_quiet_step ((go_at_call 28; exact ext_call (rbefore_any' _ _ _ _ _ _ _ _ _ _ _))))
                  refine wpQuiet_nil ?_
                  intro _ hw'
                  obtain ⟨na, hw''⟩ := hw'
                  subst hw''
                  go_wp2_with fail
                  have rT' := na.ext.range rT
                  refine wp_region_ext (by kernel_rfl) (by kernel_rfl) ?_
                  repeat (first | go_big_quiet_skip | ((with_reducible apply q_loadM midRR rT'); (· rfl); (· (first | exact wanted_none rfl | exact wanted_some rfl rfl rfl)); (· rfl); simp only [Act.put, List.setIfInBounds_toArray, List.set_cons_succ, List.set_cons_zero]) | ((with_reducible apply q_load' lwRR); (· (first | exact wanted_none rfl | exact wanted_some rfl rfl rfl)); (· rfl); (· infer_instance); (· rfl); simp only [Act.put, List.setIfInBounds_toArray, List.set_cons_succ, List.set_cons_zero]) | go_big_quiet_step ((go_at_call 28; exact ext_call (rbefore_any' _ _ _ _ _ _ _ _ _ _ _))))
                  refine wpQuiet_nil ?_
                  intro _ hw'
                  obtain ⟨nb, hw''⟩ := hw'
                  subst hw''
                  go_wp2_with fail
                  have hx3 : Ext wr nb.val := na.ext.trans nb.ext
                  have rU := hx3.range rT
                  have u3 : nb.val.cell? ⟨g, j * 5 + 3, none⟩ = some (.int .i64 sc) := rU 3 _ rfl
                  have u4 : nb.val.cell? ⟨g, j * 5 + 4, none⟩ = some (.int .i64 sv) := rU 4 _ rfl
                  replace hb7 := hb7.ext hx3
                  have HX3 := Lib.hid (HX2.out.trans hx3)
                  have HW3 := Lib.hid (HW2.out.ext hx3)
                  replace h22 := h22.ext hx3
                  have hBW3 : B ≤ nb.val.heap.size := by have := hx3.size; omega
                  have HTK : Hid (SliceOf encT 5 nb.val (.slice (some ⟨g, 0, none⟩) j co) (ts.take j)) := Lib.hid (SliceOf.take (Own.slice encT_len HW3.out) hj)
                  clear hx3
                  have ogn : Old g nb.val := Old.of_cell u3
                  obtain ⟨⟨tb1, tb2⟩, tb3, tb4⟩ := tal_bounds (l := tk its k) (by rw [tk_len (by omega)]; omega) (fun y hy => HI.out y (List.mem_of_mem_take hy)) HO.out _ HSM.out
                  simp only at tb1 tb2 tb3 tb4
                  have f3 : nb.val.frozen? ⟨g, j * 5 + 3, none⟩ = false := World.ownsRow.frozenAt HW3.out _
                  have f4 : nb.val.frozen? ⟨g, j * 5 + 4, none⟩ = false := World.ownsRow.frozenAt HW3.out _
                  have y4 : nb.val.cell? ⟨b7, 4, none⟩ = some (.int .i64 x.vo) := Block.cell (h := hb7) 4
                  have hg7 : g ≠ b7 := by have := HG7.out; omega
                  have lwg : w.heap.size ≤ g := by have := HGB.out; omega
                  have ag2 : Apart g b2 := ⟨by have := HGB.out; omega⟩
                  generalize nb.val = W2 at *
                  clear rU rT rT' hb7 og o7
                  go_region
                  go_wp2_with fail
                  go_roundw
                  case rel => exact ⟨k + 1, tk ts j ++ ⟨(s1, s2, s3), sc + 1, sv + x.vo⟩ :: ts.drop (j + 1), by omega, by first | rfl | go_num, by
                    have h9 := HW3.out
                    rw [HSP.out] at h9
                    have h8 := own_bump (sc + 1) (sv + x.vo) h9
                    rw [tk_len hj] at h8
                    rw [← HSP.out] at h8
                    exact h8.drew, by
                    rw [HS.out, xsOf_snoc, if_pos HP.out]
                    have h9 := HO.out
                    rw [HSP.out] at h9
                    have := Ok.bump h9 x.vo
                    simp only at this
                    rw [T2.out] at this ⊢
                    exact this, by
                    have h9 := HA.out
                    rw [HSP.out] at h9
                    exact asc_bump h9, by simp, (inferInstance : Block _ b2 _), Ext.drew ((HX3.out.setCell lwg _).setCell lwg _), by simpa [World.setCell] using hBW3⟩
                  case measure => simp [intOf]; omega
                · have T2 : Hid (ltK (x.pr, x.zb - x.za, x.gr) (s1, s2, s3)) := Lib.hid (by simpa [ltB] using t2)
                  go_wp2_with fail
                  refine wp_region_ext (by kernel_rfl) (by kernel_rfl) ?_
                  repeat (first | go_big_quiet_skip | ((with_reducible apply q_loadM midRR rT); (· rfl); (· (first | exact wanted_none rfl | exact wanted_some rfl rfl rfl)); (· rfl); simp only [Act.put, List.setIfInBounds_toArray, List.set_cons_succ, List.set_cons_zero]) | ((with_reducible apply q_load' lwRR); (· (first | exact wanted_none rfl | exact wanted_some rfl rfl rfl)); (· rfl); (· infer_instance); (· rfl); simp only [Act.put, List.setIfInBounds_toArray, List.set_cons_succ, List.set_cons_zero]) | go_big_quiet_step ((go_at_call 28; exact ext_call (rbefore_any' _ _ _ _ _ _ _ _ _ _ _))))
                  refine wpQuiet_nil ?_
                  intro _ hw'
                  obtain ⟨na, hw''⟩ := hw'
                  subst hw''
                  go_wp2_with fail
                  have rT' := na.ext.range rT
                  refine wp_region_ext (by kernel_rfl) (by kernel_rfl) ?_
                  repeat (first | go_big_quiet_skip | ((with_reducible apply q_loadM midRR rT'); (· rfl); (· (first | exact wanted_none rfl | exact wanted_some rfl rfl rfl)); (· rfl); simp only [Act.put, List.setIfInBounds_toArray, List.set_cons_succ, List.set_cons_zero]) | ((with_reducible apply q_load' lwRR); (· (first | exact wanted_none rfl | exact wanted_some rfl rfl rfl)); (· rfl); (· infer_instance); (· rfl); simp only [Act.put, List.setIfInBounds_toArray, List.set_cons_succ, List.set_cons_zero]) | go_big_quiet_step ((go_at_call 28; exact ext_call (rbefore_any' _ _ _ _ _ _ _ _ _ _ _))))
                  refine wpQuiet_nil ?_
                  intro _ hw'
                  obtain ⟨nb, hw''⟩ := hw'
                  subst hw''
                  have hcj : ¬ co = j := by omega
                  have hx3 : Ext wr nb.val := na.ext.trans nb.ext
                  replace hb7 := hb7.ext hx3
                  have HX3 := Lib.hid (HX2.out.trans hx3)
                  have HW3 := Lib.hid (HW2.out.ext hx3)
                  replace h22 := h22.ext hx3
                  have hBW3 : B ≤ nb.val.heap.size := by have := hx3.size; omega
                  have HTK : Hid (SliceOf encT 5 nb.val (.slice (some ⟨g, 0, none⟩) j co) (ts.take j)) := Lib.hid (SliceOf.take (Own.slice encT_len HW3.out) hj)
                  clear hx3
                  have HDR : Hid (SliceOf encT 5 nb.val (.slice (some ⟨g, j * 5, none⟩) (ts.length - j) (co - j)) (ts.drop j)) := Lib.hid (by have := SliceOf.drop (j := j) (Own.slice encT_len HW3.out) hj; rw [Nat.zero_add] at this; exact this)
                  have GT : Hid (∀ s ∈ ts.drop j, ltK (x.pr, x.zb - x.za, x.gr) s.k) := Lib.hid (fun s hs => by
                    rcases mem_drop_first HSP.out hj hs with rfl | h9
                    · exact T2.out
                    · exact ltK_trans T2.out (asc_rest HA.out HSP.out h9))
                  have hBn : nb.val.heap.size ≤ nb.val.heap.size := Nat.le_refl _
                  go_wp2_with (first | ((with_reducible apply wl_load' lwRR); (· (first | exact wanted_none rfl | exact wanted_some rfl rfl rfl)); (· rfl); (· infer_instance); (· rfl)) | (at_builtin; refine wl_appendS (dst := some 85) (enc := encT) (k := 5) (E := 118) (base := nb.val.heap.size) (l := []) (m := ts.take j) Tryd.underlying48 hiR hR0 hR1 hR2 rfl (by decide) encT_len encT_one rfl rfl (Own.empty (Nat.le_refl _)) (SliceOf.ext HTK.out ((Ext.refl _).alloc _)) (by simp <;> (unfold maxLen; omega)) (by simp <;> omega) (by simp) ?_; intro v1 n1 ho1; have HO1 : Hid (Own encT 5 118 nb.val.heap.size n1.val v1 (ts.take j)) := Lib.hid (by simpa using ho1); have HE1 : Hid (Ext nb.val n1.val) := Lib.hid (Below.trans ((Ext.refl _).alloc _) n1.below); clear ho1; have hb71 := hb7.ext HE1.out) | (at_builtin; refine wl_append1g (dst := some 89) (enc := encT) (k := 5) (E := 118) (base := nb.val.heap.size) (l := ts.take j) (y := (⟨(x.pr, x.zb - x.za, x.gr), 1, x.vo⟩ : Tal)) Tryd.underlying48 hiR hR0 hR1 hR2 rfl (by decide) encT_len encT_one rfl rfl (Own.alloc HO1.out _) inferInstance rfl (by simp <;> (unfold maxLen; omega)) (by simp <;> omega) (by have := HE1.out.size; simp <;> omega) ?_; intro v2 n2 ho2 hk2; have HO2 := Lib.hid ho2; have HE2 : Hid (Ext nb.val n2.val) := Lib.hid (Below.trans (HE1.out.alloc _) n2.below); clear ho2 hk2) | (at_builtin; refine wl_appendS (dst := some 94) (enc := encT) (k := 5) (E := 118) (base := nb.val.heap.size) (l := ts.take j ++ [(⟨(x.pr, x.zb - x.za, x.gr), 1, x.vo⟩ : Tal)]) (m := ts.drop j) Tryd.underlying48 hiR hR0 hR1 hR2 rfl (by decide) encT_len encT_one rfl rfl HO2.out (SliceOf.ext HDR.out HE2.out) (by simp <;> (unfold maxLen; omega)) (by simp <;> omega) (by have := HE2.out.size; omega) ?_; intro v3 n3 ho3; have HO3 := Lib.hid ho3; have HE3 : Hid (Ext nb.val n3.val) := Lib.hid (Below.trans HE2.out n3.below); clear ho3))
                  go_roundw
                  case rel => exact ⟨k + 1, ts.take j ++ [(⟨(x.pr, x.zb - x.za, x.gr), 1, x.vo⟩ : Tal)] ++ ts.drop j, by omega, by first | rfl | go_num, Own.lower HO3.out hBW3, by
                    rw [HS.out, xsOf_snoc, if_pos HP.out, List.append_assoc]
                    exact Ok.add (l1 := ts.take j) (l2 := ts.drop j) (by rw [List.take_append_drop]; exact HO.out) (by
                      rw [List.take_append_drop]
                      intro hm
                      obtain ⟨s, hs, e⟩ := List.mem_map.1 hm
                      have hlo := HLO.out
                      have hgt := GT.out
                      rw [← List.take_append_drop j ts] at hs
                      rcases List.mem_append.1 hs with hs | hs
                      · exact ltK_irrefl _ (e ▸ hlo s hs)
                      · exact ltK_irrefl _ (e ▸ hgt s hs)), by
                    rw [List.append_assoc]
                    exact asc_insert (l1 := ts.take j) (l2 := ts.drop j) (by rw [List.take_append_drop]; exact HA.out) HLO.out GT.out, by simp, h22.ext HE3.out, HX3.out.trans HE3.out, by have := HE3.out.size; omega⟩
                  case measure => simp [intOf]; omega
              · have T1 : Hid (ltK (s1, s2, s3) (x.pr, x.zb - x.za, x.gr)) := Lib.hid (by simpa [ltB] using t1)
                go_wp2_with fail
                refine wp_region_ext (by kernel_rfl) (by kernel_rfl) ?_
                repeat (first | go_big_quiet_skip | ((with_reducible apply q_loadM midRR rT); (· rfl); (· (first | exact wanted_none rfl | exact wanted_some rfl rfl rfl)); (· rfl); simp only [Act.put, List.setIfInBounds_toArray, List.set_cons_succ, List.set_cons_zero]) | ((with_reducible apply q_load' lwRR); (· (first | exact wanted_none rfl | exact wanted_some rfl rfl rfl)); (· rfl); (· infer_instance); (· rfl); simp only [Act.put, List.setIfInBounds_toArray, List.set_cons_succ, List.set_cons_zero]) | go_big_quiet_step ((go_at_call 28; exact ext_call (rbefore_any' _ _ _ _ _ _ _ _ _ _ _))))
                refine wpQuiet_nil ?_
                intro _ hw'
                obtain ⟨na, hw''⟩ := hw'
                subst hw''
                go_wp2_with fail
                go_roundw
                case rel => exact ⟨j + 1, by omega, by first | rfl | go_num, by
                  rw [HSU.out]
                  intro s hs
                  rcases List.mem_append.1 hs with hs | hs
                  · exact HLO.out s hs
                  · rw [List.mem_singleton.1 hs]; exact T1.out, HX12.out.trans na.ext⟩
                case measure => simp [intOf]; omega
            · have q1 : decide (j < ts.length) = false := by simpa using hjl
              have hjj : j = ts.length := by omega
              have HJ := Lib.hid hjj
              clear hjj
              have rT : World.rangeAt wr b7 0 [.int .i64 x.pr, .int .i64 (x.zb - x.za), .int .i64 x.gr, .int .i64 1, .int .i64 x.vo] := fun i u hi => by rw [Nat.zero_add, Block.cell (h := hb7)]; simpa using hi
              go_wp2_with fail
              refine wp_region_ext (by kernel_rfl) (by kernel_rfl) ?_
              repeat (first | go_big_quiet_skip | ((with_reducible apply q_loadM midRR rT); (· rfl); (· (first | exact wanted_none rfl | exact wanted_some rfl rfl rfl)); (· rfl); simp only [Act.put, List.setIfInBounds_toArray, List.set_cons_succ, List.set_cons_zero]) | ((with_reducible apply q_load' lwRR); (· (first | exact wanted_none rfl | exact wanted_some rfl rfl rfl)); (· rfl); (· infer_instance); (· rfl); simp only [Act.put, List.setIfInBounds_toArray, List.set_cons_succ, List.set_cons_zero]) | go_big_quiet_step ((go_at_call 28; exact ext_call (rbefore_any' _ _ _ _ _ _ _ _ _ _ _))))
              refine wpQuiet_nil ?_
              intro _ hw'
              obtain ⟨na, hw''⟩ := hw'
              subst hw''
              go_wp2_with fail
              have rT' := na.ext.range rT
              refine wp_region_ext (by kernel_rfl) (by kernel_rfl) ?_
              repeat (first | go_big_quiet_skip | ((with_reducible apply q_loadM midRR rT'); (· rfl); (· (first | exact wanted_none rfl | exact wanted_some rfl rfl rfl)); (· rfl); simp only [Act.put, List.setIfInBounds_toArray, List.set_cons_succ, List.set_cons_zero]) | ((with_reducible apply q_load' lwRR); (· (first | exact wanted_none rfl | exact wanted_some rfl rfl rfl)); (· rfl); (· infer_instance); (· rfl); simp only [Act.put, List.setIfInBounds_toArray, List.set_cons_succ, List.set_cons_zero]) | go_big_quiet_step ((go_at_call 28; exact ext_call (rbefore_any' _ _ _ _ _ _ _ _ _ _ _))))
              refine wpQuiet_nil ?_
              intro _ hw'
              obtain ⟨nb, hw''⟩ := hw'
              subst hw''
              have hx3 : Ext wr nb.val := na.ext.trans nb.ext
              have GT : Hid (∀ s ∈ ts.drop j, ltK (x.pr, x.zb - x.za, x.gr) s.k) := Lib.hid (fun s hs => by rw [HJ.out, List.drop_length] at hs; cases hs)
              by_cases hcj : co = j
              · have hcj' := hcj.symm
                subst hcj'
                replace hb7 := hb7.ext hx3
                have HX3 := Lib.hid (HX2.out.trans hx3)
                have HW3 := Lib.hid (HW2.out.ext hx3)
                replace h22 := h22.ext hx3
                have hBW3 : B ≤ nb.val.heap.size := by have := hx3.size; omega
                have HTK : Hid (SliceOf encT 5 nb.val (.slice (some ⟨g, 0, none⟩) j j) (ts.take j)) := Lib.hid (SliceOf.take (Own.slice encT_len HW3.out) hj)
                clear hx3
                have HDR : Hid (SliceOf encT 5 nb.val (.slice (some ⟨g, 0, none⟩) 0 0) (ts.drop j)) := Lib.hid (by rw [HJ.out, List.drop_length]; exact SliceOf.none_of_nil)
                have hBn : nb.val.heap.size ≤ nb.val.heap.size := Nat.le_refl _
                go_wp2_with (first | ((with_reducible apply wl_load' lwRR); (· (first | exact wanted_none rfl | exact wanted_some rfl rfl rfl)); (· rfl); (· infer_instance); (· rfl)) | (at_builtin; refine wl_appendS (dst := some 85) (enc := encT) (k := 5) (E := 118) (base := nb.val.heap.size) (l := []) (m := ts.take j) Tryd.underlying48 hiR hR0 hR1 hR2 rfl (by decide) encT_len encT_one rfl rfl (Own.empty (Nat.le_refl _)) (SliceOf.ext HTK.out ((Ext.refl _).alloc _)) (by simp <;> (unfold maxLen; omega)) (by simp <;> omega) (by simp) ?_; intro v1 n1 ho1; have HO1 : Hid (Own encT 5 118 nb.val.heap.size n1.val v1 (ts.take j)) := Lib.hid (by simpa using ho1); have HE1 : Hid (Ext nb.val n1.val) := Lib.hid (Below.trans ((Ext.refl _).alloc _) n1.below); clear ho1; have hb71 := hb7.ext HE1.out) | (at_builtin; refine wl_append1g (dst := some 89) (enc := encT) (k := 5) (E := 118) (base := nb.val.heap.size) (l := ts.take j) (y := (⟨(x.pr, x.zb - x.za, x.gr), 1, x.vo⟩ : Tal)) Tryd.underlying48 hiR hR0 hR1 hR2 rfl (by decide) encT_len encT_one rfl rfl (Own.alloc HO1.out _) inferInstance rfl (by simp <;> (unfold maxLen; omega)) (by simp <;> omega) (by have := HE1.out.size; simp <;> omega) ?_; intro v2 n2 ho2 hk2; have HO2 := Lib.hid ho2; have HE2 : Hid (Ext nb.val n2.val) := Lib.hid (Below.trans (HE1.out.alloc _) n2.below); clear ho2 hk2) | (at_builtin; refine wl_appendS (dst := some 94) (enc := encT) (k := 5) (E := 118) (base := nb.val.heap.size) (l := ts.take j ++ [(⟨(x.pr, x.zb - x.za, x.gr), 1, x.vo⟩ : Tal)]) (m := ts.drop j) Tryd.underlying48 hiR hR0 hR1 hR2 rfl (by decide) encT_len encT_one rfl rfl HO2.out (SliceOf.ext HDR.out HE2.out) (by simp <;> (unfold maxLen; omega)) (by simp <;> omega) (by have := HE2.out.size; omega) ?_; intro v3 n3 ho3; have HO3 := Lib.hid ho3; have HE3 : Hid (Ext nb.val n3.val) := Lib.hid (Below.trans HE2.out n3.below); clear ho3))
                go_roundw
                case rel => exact ⟨k + 1, ts.take j ++ [(⟨(x.pr, x.zb - x.za, x.gr), 1, x.vo⟩ : Tal)] ++ ts.drop j, by omega, by first | rfl | go_num, Own.lower HO3.out hBW3, by
                  rw [HS.out, xsOf_snoc, if_pos HP.out, List.append_assoc]
                  exact Ok.add (l1 := ts.take j) (l2 := ts.drop j) (by rw [List.take_append_drop]; exact HO.out) (by
                    rw [List.take_append_drop]
                    intro hm
                    obtain ⟨s, hs, e⟩ := List.mem_map.1 hm
                    have hlo := HLO.out
                    have hgt := GT.out
                    rw [← List.take_append_drop j ts] at hs
                    rcases List.mem_append.1 hs with hs | hs
                    · exact ltK_irrefl _ (e ▸ hlo s hs)
                    · exact ltK_irrefl _ (e ▸ hgt s hs)), by
                  rw [List.append_assoc]
                  exact asc_insert (l1 := ts.take j) (l2 := ts.drop j) (by rw [List.take_append_drop]; exact HA.out) HLO.out GT.out, by simp, h22.ext HE3.out, HX3.out.trans HE3.out, by have := HE3.out.size; omega⟩
                case measure => simp [intOf]; omega
              · replace hb7 := hb7.ext hx3
                have HX3 := Lib.hid (HX2.out.trans hx3)
                have HW3 := Lib.hid (HW2.out.ext hx3)
                replace h22 := h22.ext hx3
                have hBW3 : B ≤ nb.val.heap.size := by have := hx3.size; omega
                have HTK : Hid (SliceOf encT 5 nb.val (.slice (some ⟨g, 0, none⟩) j co) (ts.take j)) := Lib.hid (SliceOf.take (Own.slice encT_len HW3.out) hj)
                clear hx3
                have HDR : Hid (SliceOf encT 5 nb.val (.slice (some ⟨g, j * 5, none⟩) (ts.length - j) (co - j)) (ts.drop j)) := Lib.hid (by have := SliceOf.drop (j := j) (Own.slice encT_len HW3.out) hj; rw [Nat.zero_add] at this; exact this)
                have hBn : nb.val.heap.size ≤ nb.val.heap.size := Nat.le_refl _
                go_wp2_with (first | ((with_reducible apply wl_load' lwRR); (· (first | exact wanted_none rfl | exact wanted_some rfl rfl rfl)); (· rfl); (· infer_instance); (· rfl)) | (at_builtin; refine wl_appendS (dst := some 85) (enc := encT) (k := 5) (E := 118) (base := nb.val.heap.size) (l := []) (m := ts.take j) Tryd.underlying48 hiR hR0 hR1 hR2 rfl (by decide) encT_len encT_one rfl rfl (Own.empty (Nat.le_refl _)) (SliceOf.ext HTK.out ((Ext.refl _).alloc _)) (by simp <;> (unfold maxLen; omega)) (by simp <;> omega) (by simp) ?_; intro v1 n1 ho1; have HO1 : Hid (Own encT 5 118 nb.val.heap.size n1.val v1 (ts.take j)) := Lib.hid (by simpa using ho1); have HE1 : Hid (Ext nb.val n1.val) := Lib.hid (Below.trans ((Ext.refl _).alloc _) n1.below); clear ho1; have hb71 := hb7.ext HE1.out) | (at_builtin; refine wl_append1g (dst := some 89) (enc := encT) (k := 5) (E := 118) (base := nb.val.heap.size) (l := ts.take j) (y := (⟨(x.pr, x.zb - x.za, x.gr), 1, x.vo⟩ : Tal)) Tryd.underlying48 hiR hR0 hR1 hR2 rfl (by decide) encT_len encT_one rfl rfl (Own.alloc HO1.out _) inferInstance rfl (by simp <;> (unfold maxLen; omega)) (by simp <;> omega) (by have := HE1.out.size; simp <;> omega) ?_; intro v2 n2 ho2 hk2; have HO2 := Lib.hid ho2; have HE2 : Hid (Ext nb.val n2.val) := Lib.hid (Below.trans (HE1.out.alloc _) n2.below); clear ho2 hk2) | (at_builtin; refine wl_appendS (dst := some 94) (enc := encT) (k := 5) (E := 118) (base := nb.val.heap.size) (l := ts.take j ++ [(⟨(x.pr, x.zb - x.za, x.gr), 1, x.vo⟩ : Tal)]) (m := ts.drop j) Tryd.underlying48 hiR hR0 hR1 hR2 rfl (by decide) encT_len encT_one rfl rfl HO2.out (SliceOf.ext HDR.out HE2.out) (by simp <;> (unfold maxLen; omega)) (by simp <;> omega) (by have := HE2.out.size; omega) ?_; intro v3 n3 ho3; have HO3 := Lib.hid ho3; have HE3 : Hid (Ext nb.val n3.val) := Lib.hid (Below.trans HE2.out n3.below); clear ho3))
                go_roundw
                case rel => exact ⟨k + 1, ts.take j ++ [(⟨(x.pr, x.zb - x.za, x.gr), 1, x.vo⟩ : Tal)] ++ ts.drop j, by omega, by first | rfl | go_num, Own.lower HO3.out hBW3, by
                  rw [HS.out, xsOf_snoc, if_pos HP.out, List.append_assoc]
                  exact Ok.add (l1 := ts.take j) (l2 := ts.drop j) (by rw [List.take_append_drop]; exact HO.out) (by
                    rw [List.take_append_drop]
                    intro hm
                    obtain ⟨s, hs, e⟩ := List.mem_map.1 hm
                    have hlo := HLO.out
                    have hgt := GT.out
                    rw [← List.take_append_drop j ts] at hs
                    rcases List.mem_append.1 hs with hs | hs
                    · exact ltK_irrefl _ (e ▸ hlo s hs)
                    · exact ltK_irrefl _ (e ▸ hgt s hs)), by
                  rw [List.append_assoc]
                  exact asc_insert (l1 := ts.take j) (l2 := ts.drop j) (by rw [List.take_append_drop]; exact HA.out) HLO.out GT.out, by simp, h22.ext HE3.out, HX3.out.trans HE3.out, by have := HE3.out.size; omega⟩
                case measure => simp [intOf]; omega
      · have hp2 : (x.pl != pl) = true := by simpa using hp
        have HP := Lib.hid hp
        clear hp
        go_wp2_with fail
        go_roundw
        case rel => exact ⟨k + 1, ts, by omega, by first | rfl | go_num, HW.out, by rw [HS.out, xsOf_snoc, if_neg HP.out]; exact HO.out, HA.out, HN.out, h2, HX.out, hBW⟩
        case measure => simp [intOf]; omega
    · have hkk : k = its.length := by omega
      have HOK : Hid (Ok (xsOf its pl) ts) := Lib.hid (by have := HO.out; rwa [hkk, tk_all] at this)
      clear hkk
      go_wp2_with fail
      go_ret
      exact ⟨_, _, rfl, HOK.out, HA.out, Own.slice encT_len HW.out, ExtOf.of HX.out⟩
end Go.Proofs.YtaflcbdbacogeaaDoor
