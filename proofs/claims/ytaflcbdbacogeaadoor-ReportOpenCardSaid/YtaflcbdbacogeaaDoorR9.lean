/-
  Stock, of the program: the first loop.
-/
import Derived.Test.YtaflcbdbacogeaaDoorR8
set_option linter.unusedVariables false
set_option linter.unusedSimpArgs false
namespace Go.Proofs.YtaflcbdbacogeaaDoor
open Go.RowKit ReportM Go.Maps

attribute [local go_sem] ExtOf.cell ExtOf.frozen ExtS.cell ExtS.frozen Block.cell Block.frozen ExtB.cell ExtB.frozen alloc_cell alloc_frozen
theorem midSp : Mid Tryd.prog 90 2 := mid_of Tryd.underlying90 rfl (by kernel_rfl)
theorem lwKy : Whole Tryd.prog 123 3 := whole_of Tryd.underlying123 rfl (by kernel_rfl)
theorem infoPT : (Tryd.prog.info? 124).map (fun i => (i.zero, i.size, i.bytes)) = some (some (.pointer none), 1, 8) := by kernel_rfl
theorem infoRow : (Tryd.prog.info? 77).map (fun i => (i.zero, i.size, i.bytes)) = some (some (.agg #[.int .i64 0, .int .i64 0, .int .i64 0, .int .i64 0, .int .i64 0]), 5, 40) := by kernel_rfl
def encT (t : Tal) : List Value := [.int .i64 t.k.1, .int .i64 t.k.2.1, .int .i64 t.k.2.2, .int .i64 t.c, .int .i64 t.v]
theorem encT_len (t : Tal) : (encT t).length = 5 := rfl
theorem encT_one (t : Tal) : ∀ u ∈ encT t, u.oneCell' = true := by simp [encT, Value.oneCell']
theorem sum_bound_low {ts : List Tal} (h : ∀ t ∈ ts, (1 ≤ t.c ∧ t.c ≤ 1000) ∧ (0 ≤ t.v ∧ t.v ≤ 4294967296000)) : (ts.length : Int) ≤ (ts.map (·.c)).sum := by
  induction ts with
  | nil => simp
  | cons t ts ih =>
    have := ih (fun u hu => h u (by simp [hu]))
    have := h t (by simp)
    simp only [List.length_cons, List.map_cons, List.sum_cons]
    omega
set_option maxRecDepth 20000 in
set_option maxHeartbeats 3200000 in
theorem stock_walk (its : List It) (vl vi vo : Value) (pl : Int) (w : World) (h1 : SliceOf encIt 22 w vi its) (hl : its.length ≤ 1000) (hI : ∀ x ∈ its, ItOk x) :
    Calls Tryd.prog 12 #[.agg (stCells vl vi vo), .int .i64 pl] w fun e w' => ∃ v ts, e = .returned v ∧ Ok (xsOf its pl) ts ∧ Asc ts ∧ SliceOf encT 5 w' v ts ∧ ∃ n : ExtOf w, w' = n.val := by
  obtain ⟨iP, hiP, hP0, hP1, hP2⟩ := info_parts infoPT
  obtain ⟨iR, hiR, hR0, hR1, hR2⟩ := info_parts infoRow
  obtain ⟨p1, cap1, rfl, hg4, hg5, hg6⟩ := SliceOf.form h1
  have H1 := Lib.hid h1
  have HI := Lib.hid hI
  clear h1 hI
  unfold stCells
  have hmm := @run_makeMap Tryd.prog
  go_enter Tryd.func12, Tryd.ntmps12
  go_wp2_with fail
  obtain ⟨bm, hbm⟩ : ∃ x, x = w.heap.size + 1 := ⟨_, rfl⟩
  obtain ⟨W0, hW0, kt, kx⟩ : ∃ W0, W0 = ((w.alloc (.cells #[.int .i64 0, .slice none 0 0, vl, .slice p1 its.length cap1, .slice none 0 0, vo, .int .i64 0, .int .i64 0, .slice none 0 0, .slice none 0 0] 36)).alloc (.map #[] 0)) ∧ TS w.heap.size bm W0 (.slice none 0 0) [] ∧ Ext w W0 := ⟨_, rfl, TS.start (by omega) (by
    have e : bm = (w.alloc (.cells #[.int .i64 0, .slice none 0 0, vl, .slice p1 its.length cap1, .slice none 0 0, vo, .int .i64 0, .int .i64 0, .slice none 0 0, .slice none 0 0] 36)).heap.size := by simp [hbm]
    rw [e]; exact PMap.made _), by repeat' (first | (with_reducible exact Ext.refl _) | (with_reducible exact ExtOf.ext _) | (with_reducible refine Ext.trans ?_ (ExtOf.ext _)) | (with_reducible refine Ext.alloc ?_ _) | (with_reducible refine Ext.drew ?_) | (with_reducible refine Ext.setCell ?_ ?_ _) | (with_reducible refine Ext.setRow ?_ ?_ _) | (with_reducible exact HX.out) | (with_reducible refine Ext.trans ?_ HX.out) | (with_reducible refine Ext.below ?_ (Nat.le_refl _) _) | omega | (simp; done) | (simp; omega))⟩
  rw [← hW0, ← hbm]
  have KT := Lib.hid kt
  have KX := Lib.hid kx
  clear hW0 kt kx hbm
  go_loopw [6, 17] (fun v i wr => ∃ (k : Nat) (zs : List (Nat × Tal)), k ≤ its.length ∧ i = .int .i64 k ∧ TS w.heap.size bm wr v zs ∧ Ok (xsOf (tk its k) pl) (zs.map (·.2)) ∧ Ext w wr) (fun _ i _ => its.length - (intOf i).toNat)
  case atStart => exact ⟨0, [], by omega, rfl, KT.out, Ok.nil, KX.out⟩
  case round =>
    clear KT KX
    obtain ⟨k, zs, hk, rfl, hts, hok, hx⟩ := hrel
    have HX := Lib.hid hx
    have HT := Lib.hid hts
    have HO := Lib.hid hok
    clear hx hts hok
    by_cases hlt : k < its.length
    · obtain ⟨b1, off0, rfl, rw0⟩ := SliceOf.elemK H1.out hlt
      obtain ⟨x, hx0⟩ : ∃ x, x = its[k] := ⟨_, rfl⟩
      rw [← hx0] at rw0
      have r0 : World.rangeAt wr b1 (off0 + k * 22) [.string ⟨#[]⟩, .string ⟨#[]⟩, .string ⟨#[]⟩, .int .i64 x.pr, .int .i64 0, .int .i64 0, .int .i64 0, .int .i64 0, .int .i64 x.za, .int .i64 x.zb, .int .i64 x.vo, .slice none 0 0, .int .i64 0, .int .i64 0, .int .i64 0, .int .i64 0, .bool false, .int .i64 x.gr, .int .i64 x.pl, .string ⟨#[]⟩, .string ⟨#[]⟩, .string ⟨#[]⟩] := HX.out.range rw0
      have HS : Hid (tk its (k + 1) = tk its k ++ [x]) := Lib.hid (by rw [hx0]; exact tk_succ hlt)
      have HIX : Hid (ItOk x) := Lib.hid (HI.out x (by rw [hx0]; exact List.getElem_mem hlt))
      clear hx0 rw0
      have o1 : Old b1 wr := Old.of_cell (r0 0 _ rfl)
      by_cases hp : x.pl = pl
      · have hp2 : (x.pl != pl) = false := by simpa using hp
        have HP := Lib.hid hp
        clear hp
        go_wp2_with (first | ((with_reducible apply wl_loadM midIt r0); (· rfl); (· (first | exact wanted_none rfl | exact wanted_some rfl rfl rfl)); (· rfl)) | ((with_reducible apply wl_store' lwIt); (· (first | exact wanted_none rfl | exact wanted_some rfl rfl rfl)); (· rfl); (· rfl); (· infer_instance); (· rfl); (· rfl); (· (simp [Value.oneCell'])); try simp only [setRow_alloc, setRow_new, setRow_new1, setRow_new2, setRow_new11, setRow_new111]))
        obtain ⟨b8, hb8⟩ : ∃ b, b = wr.heap.size := ⟨_, rfl⟩
        rw [← hb8]
        have hB8 : Block (wr.alloc (.cells #[.string ⟨#[]⟩, .string ⟨#[]⟩, .string ⟨#[]⟩, .int .i64 x.pr, .int .i64 0, .int .i64 0, .int .i64 0, .int .i64 0, .int .i64 x.za, .int .i64 x.zb, .int .i64 x.vo, .slice none 0 0, .int .i64 0, .int .i64 0, .int .i64 0, .int .i64 0, .bool false, .int .i64 x.gr, .int .i64 x.pl, .string ⟨#[]⟩, .string ⟨#[]⟩, .string ⟨#[]⟩] 100)) b8 #[.string ⟨#[]⟩, .string ⟨#[]⟩, .string ⟨#[]⟩, .int .i64 x.pr, .int .i64 0, .int .i64 0, .int .i64 0, .int .i64 0, .int .i64 x.za, .int .i64 x.zb, .int .i64 x.vo, .slice none 0 0, .int .i64 0, .int .i64 0, .int .i64 0, .int .i64 0, .bool false, .int .i64 x.gr, .int .i64 x.pl, .string ⟨#[]⟩, .string ⟨#[]⟩, .string ⟨#[]⟩] := by rw [hb8]; infer_instance
        have HX1 : Hid (Ext w (wr.alloc (.cells #[.string ⟨#[]⟩, .string ⟨#[]⟩, .string ⟨#[]⟩, .int .i64 x.pr, .int .i64 0, .int .i64 0, .int .i64 0, .int .i64 0, .int .i64 x.za, .int .i64 x.zb, .int .i64 x.vo, .slice none 0 0, .int .i64 0, .int .i64 0, .int .i64 0, .int .i64 0, .bool false, .int .i64 x.gr, .int .i64 x.pl, .string ⟨#[]⟩, .string ⟨#[]⟩, .string ⟨#[]⟩] 100))) := Lib.hid (HX.out.alloc _)
        have HT1 : Hid (TS w.heap.size bm (wr.alloc (.cells #[.string ⟨#[]⟩, .string ⟨#[]⟩, .string ⟨#[]⟩, .int .i64 x.pr, .int .i64 0, .int .i64 0, .int .i64 0, .int .i64 0, .int .i64 x.za, .int .i64 x.zb, .int .i64 x.vo, .slice none 0 0, .int .i64 0, .int .i64 0, .int .i64 0, .int .i64 0, .bool false, .int .i64 x.gr, .int .i64 x.pl, .string ⟨#[]⟩, .string ⟨#[]⟩, .string ⟨#[]⟩] 100)) u6 zs) := Lib.hid (HT.out.ext ((Ext.refl _).alloc _))
        have HBM0 : Hid (bm < b8) := Lib.hid (by rw [hb8]; exact HT.out.map.lt)
        have HV6 : Hid (∀ q, b8 ≤ q → u6.ownBlock ≠ some q) := Lib.hid (fun q hq => Own.block_lt HT.out.own (by rw [hb8] at hq; exact hq))
        have H8 : Hid (∀ z ∈ zs, z.1 < b8) := Lib.hid (fun z hz => by rw [hb8]; exact (HT.out.blk z hz).lt)
        generalize wr.alloc (.cells #[.string ⟨#[]⟩, .string ⟨#[]⟩, .string ⟨#[]⟩, .int .i64 x.pr, .int .i64 0, .int .i64 0, .int .i64 0, .int .i64 0, .int .i64 x.za, .int .i64 x.zb, .int .i64 x.vo, .slice none 0 0, .int .i64 0, .int .i64 0, .int .i64 0, .int .i64 0, .bool false, .int .i64 x.gr, .int .i64 x.pl, .string ⟨#[]⟩, .string ⟨#[]⟩, .string ⟨#[]⟩] 100) = W1 at *
        have o8 := hB8.old
        have lz := HIX.out.za
        have lz2 := HIX.out.zb
        have lz3 := HIX.out.hi
        have vz := HIX.out.vo
        have vz2 := HIX.out.vh
        have HKI : Hid (InR x.pr ∧ InR (x.zb - x.za) ∧ InR x.gr) := Lib.hid ⟨HIX.out.pr, ⟨by omega, by omega⟩, HIX.out.gr⟩
        have HB : Hid (∀ t ∈ zs.map (·.2), (1 ≤ t.c ∧ t.c ≤ 1000) ∧ (0 ≤ t.v ∧ t.v ≤ 4294967296000)) := Lib.hid (tal_bounds (l := tk its k) (by rw [tk_len (by omega)]; omega) (fun y hy => HI.out y (List.mem_of_mem_take hy)) HO.out)
        clear hb8 HX HT r0 o1
        apply wp_region_maker [true, true, true, true, true, true, true, true, true, true, true, true] 12 [false, false, false, false, false, false, false, false, false, false, false, false, false, true] _ 9 (MadeP W1 #[.int .i64 0, .int .i64 0, .int .i64 0]) 13 [] (by kernel_rfl) rfl rfl (by kernel_rfl) (by kernel_rfl) (by kernel_rfl) (by kernel_rfl) MadeP.keep
        · intro S hS hN R hR
          simp only [part]
          repeat (first | go_big_quiet_skip | ((with_reducible apply q_loadBS midSp); (· (first | exact wanted_none rfl | exact wanted_some rfl rfl rfl)); (· rfl); (· infer_instance); (· rfl); (· rfl); simp only [Act.put, List.setIfInBounds_toArray, List.set_cons_succ, List.set_cons_zero]) | go_big_quiet_step ((go_at_call 24; exact exts_call hS (slen_any _ _ _ lz lz2 lz3))))
          with_reducible refine wpQuiet_nil ?_
          exact hR
        · refine ⟨wanted_none rfl, fun W' hx' => ⟨.pointer (some ⟨W'.heap.size, 0, none⟩), W'.alloc (.cells #[.int .i64 0, .int .i64 0, .int .i64 0] 123), ?_, (Ext.refl _).alloc _, MadeP.new hx'⟩⟩
          simp [go_sem]
        intro v' W' hx' hmade
        obtain ⟨gn, rfl, hgn, hbn⟩ := hmade
        have hkb : Block (W'.setRow gn #[.int .i64 x.pr, .int .i64 (x.zb - x.za), .int .i64 x.gr]) gn #[.int .i64 x.pr, .int .i64 (x.zb - x.za), .int .i64 x.gr] := inferInstance
        have hB8W : Block (W'.setRow gn #[.int .i64 x.pr, .int .i64 (x.zb - x.za), .int .i64 x.gr]) b8 #[.string ⟨#[]⟩, .string ⟨#[]⟩, .string ⟨#[]⟩, .int .i64 x.pr, .int .i64 0, .int .i64 0, .int .i64 0, .int .i64 0, .int .i64 x.za, .int .i64 x.zb, .int .i64 x.vo, .slice none 0 0, .int .i64 0, .int .i64 0, .int .i64 0, .int .i64 0, .bool false, .int .i64 x.gr, .int .i64 x.pl, .string ⟨#[]⟩, .string ⟨#[]⟩, .string ⟨#[]⟩] := by
          haveI := hB8.ext hx'
          haveI : Apart gn b8 := ⟨by have := o8.lt; omega⟩
          infer_instance
        have HXW : Hid (Ext w W') := Lib.hid (HX1.out.trans hx')
        have lwgn : w.heap.size ≤ gn := by have := HX1.out.size; omega
        have hx2 : Ext W1 (W'.setRow gn #[.int .i64 x.pr, .int .i64 (x.zb - x.za), .int .i64 x.gr]) := hx'.setRow hgn _
        have HX2 : Hid (Ext w (W'.setRow gn #[.int .i64 x.pr, .int .i64 (x.zb - x.za), .int .i64 x.gr])) := Lib.hid (HX1.out.trans hx2)
        have HT2 : Hid (TS w.heap.size bm (W'.setRow gn #[.int .i64 x.pr, .int .i64 (x.zb - x.za), .int .i64 x.gr]) u6 zs) := Lib.hid (HT1.out.ext hx2)
        have ap8 : Apart b8 gn := ⟨by have := o8.lt; omega⟩
        have HBM : Hid (bm < b8) := Lib.hid (HBM0.out)
        have H9 : Hid (∀ z ∈ zs, z.1 < gn) := Lib.hid (fun z hz => by have := H8.out z hz; have := o8.lt; omega)
        have hgnw : gn < (W'.setRow gn #[.int .i64 x.pr, .int .i64 (x.zb - x.za), .int .i64 x.gr]).heap.size := hkb.lt
        by_cases hm : (x.pr, x.zb - x.za, x.gr) ∈ (zs.map (·.2)).map (·.k)
        · obtain ⟨l1, g, t, l2, rfl, htk, hlo⟩ := look_split hm
          have htm := HB.out t (by simp)
          obtain ⟨⟨tb1, tb2⟩, tb3, tb4⟩ := htm
          have hlk : (Instr.lookup 119 (.map (some bm)) (.agg #[.int .i64 x.pr, .int .i64 (x.zb - x.za), .int .i64 x.gr]) false).run Tryd.prog (W'.setRow gn #[.int .i64 x.pr, .int .i64 (x.zb - x.za), .int .i64 x.gr]) = .ok (.pointer (some ⟨g, 0, none⟩)) (W'.setRow gn #[.int .i64 x.pr, .int .i64 (x.zb - x.za), .int .i64 x.gr]) := by
            have := HT2.out.look1 (k := (x.pr, x.zb - x.za, x.gr)) HKI.out
            rw [hlo] at this
            exact this
          have ag8 : Apart g b8 := ⟨by have := H8.out (g, t) (by simp); simp at this; omega⟩
          have agn : Apart g gn := ⟨by have := H9.out (g, t) (by simp); simp at this; omega⟩
          have HLO := Lib.hid hlo
          have HTK := Lib.hid htk
          clear hm hlo htk hx' hx2 hgn hB8
          have o8b := hB8W.old
          have ogb : Old g (W'.setRow gn #[.int .i64 x.pr, .int .i64 (x.zb - x.za), .int .i64 x.gr]) := (HT2.out.blk (g, t) (by simp)).old
          have hbg : Block (W'.setRow gn #[.int .i64 x.pr, .int .i64 (x.zb - x.za), .int .i64 x.gr]) g #[.int .i64 t.k.1, .int .i64 t.k.2.1, .int .i64 t.k.2.2, .int .i64 t.c, .int .i64 t.v] := HT2.out.blk (g, t) (by simp)
          have lk4 : ∀ n : ExtOf ((W'.setRow gn #[.int .i64 x.pr, .int .i64 (x.zb - x.za), .int .i64 x.gr]).setCell ⟨g, 3, none⟩ (.int .i64 (t.c + 1))), (Instr.lookup 119 (.map (some bm)) (.agg #[.int .i64 x.pr, .int .i64 (x.zb - x.za), .int .i64 x.gr]) false).run Tryd.prog n.val = .ok (.pointer (some ⟨g, 0, none⟩)) n.val := fun n => HT2.out.look_set (k := (x.pr, x.zb - x.za, x.gr)) HKI.out HLO.out n
          simp only [part, Act.put, List.setIfInBounds_toArray, List.set_cons_succ, List.set_cons_zero]
          go_wp2_with (first | ((with_reducible apply wl_store' lwKy); (· (first | exact wanted_none rfl | exact wanted_some rfl rfl rfl)); (· rfl); (· rfl); (· infer_instance); (· rfl); (· rfl); (· (simp [Value.oneCell'])); try simp only [setRow_alloc, setRow_new, setRow_new1, setRow_new2, setRow_new11, setRow_new111]) | ((with_reducible apply wl_load' lwKy); (· (first | exact wanted_none rfl | exact wanted_some rfl rfl rfl)); (· rfl); (· infer_instance); (· rfl)))
          have hsum : IntKind.i64.wrap (t.v + x.vo) = t.v + x.vo := IntWalk.i64_in _ (by omega)
          have lwg : w.heap.size ≤ g := HT2.out.low (g, t) (by simp)
          refine wp_region_ext_tail 12 (by kernel_rfl) (by kernel_rfl) ?_
          simp only [List.take_succ_cons, List.take_zero, List.drop_succ_cons, List.drop_zero]
          repeat (first | go_big_quiet_skip | ((with_reducible apply q_load' lwKy); (· (first | exact wanted_none rfl | exact wanted_some rfl rfl rfl)); (· rfl); (· infer_instance); (· rfl); simp only [Act.put, List.setIfInBounds_toArray, List.set_cons_succ, List.set_cons_zero]) | go_big_quiet_step (fail))
          refine wpQuiet_nil ?_
          intro w' hw'
          obtain ⟨nq, rfl⟩ := hw'
          clear hsum
          go_wp2_with fail
          have HX := HXW
          go_roundw
          case rel => exact ⟨k + 1, l1 ++ (g, ⟨t.k, t.c + 1, t.v + x.vo⟩) :: l2, by omega, by first | rfl | go_num, HT2.out.bump x.vo nq, by
            rw [HS.out, xsOf_snoc, if_pos HP.out]
            have := Ok.bump (l1 := l1.map (·.2)) (t := t) (l2 := l2.map (·.2)) (by simpa using HO.out) x.vo
            rw [HTK.out] at this
            simpa [rowOf, HTK.out] using this, by repeat' (first | (with_reducible exact Ext.refl _) | (with_reducible exact ExtOf.ext _) | (with_reducible refine Ext.trans ?_ (ExtOf.ext _)) | (with_reducible refine Ext.alloc ?_ _) | (with_reducible refine Ext.drew ?_) | (with_reducible refine Ext.setCell ?_ ?_ _) | (with_reducible refine Ext.setRow ?_ ?_ _) | (with_reducible exact HX.out) | (with_reducible refine Ext.trans ?_ HX.out) | (with_reducible refine Ext.below ?_ (Nat.le_refl _) _) | omega | (simp; done) | (simp; omega))⟩
          case measure => simp [intOf]; omega
        · have hlo := look_none hm
          have hlk : (Instr.lookup 119 (.map (some bm)) (.agg #[.int .i64 x.pr, .int .i64 (x.zb - x.za), .int .i64 x.gr]) false).run Tryd.prog (W'.setRow gn #[.int .i64 x.pr, .int .i64 (x.zb - x.za), .int .i64 x.gr]) = .ok (.pointer none) (W'.setRow gn #[.int .i64 x.pr, .int .i64 (x.zb - x.za), .int .i64 x.gr]) := by
            have := HT2.out.look1 (k := (x.pr, x.zb - x.za, x.gr)) HKI.out
            rw [hlo] at this
            exact this
          have hzl : zs.length ≤ its.length := by
            have h1 := HT2.out.map
            have h2 := HO.out.sums.1
            have h3 := sum_bound_low (HB.out)
            have h4 := xsOf_len (tk its k) pl
            rw [tk_len (by omega)] at h4
            rw [h2, List.length_map] at h3
            omega
          have HLO := Lib.hid hlo
          have HM := Lib.hid hm
          have hsz : (W'.setRow gn #[.int .i64 x.pr, .int .i64 (x.zb - x.za), .int .i64 x.gr]).heap.size = W'.heap.size := by simp [World.setRow]
          obtain ⟨gT, hgT⟩ : ∃ g, g = W'.heap.size := ⟨_, rfl⟩
          have hxT : Ext (W'.setRow gn #[.int .i64 x.pr, .int .i64 (x.zb - x.za), .int .i64 x.gr]) ((W'.setRow gn #[.int .i64 x.pr, .int .i64 (x.zb - x.za), .int .i64 x.gr]).alloc (.cells #[.int .i64 x.pr, .int .i64 (x.zb - x.za), .int .i64 x.gr, .int .i64 0, .int .i64 0] 126)) := (Ext.refl _).alloc _
          obtain ⟨W3, hst, hpm, hgrow⟩ := (HT2.out.map.ext hxT).store keyLaw kv_inj Tryd.underlying119 (by unfold maxLen; omega) (x := (x.pr, x.zb - x.za, x.gr)) (kv_key _ HKI.out) gT
          have hst2 : (Instr.mapUpdate 119 (.map (some bm)) (.agg #[.int .i64 x.pr, .int .i64 (x.zb - x.za), .int .i64 x.gr]) (.pointer (some ⟨W'.heap.size, 0, none⟩))).run Tryd.prog ((W'.setRow gn #[.int .i64 x.pr, .int .i64 (x.zb - x.za), .int .i64 x.gr]).alloc (.cells #[.int .i64 x.pr, .int .i64 (x.zb - x.za), .int .i64 x.gr, .int .i64 0, .int .i64 0] 126)) = .ok () W3 := by rw [← hgT]; exact hst
          have hlk3 : (Instr.lookup 119 (.map (some bm)) (.agg #[.int .i64 x.pr, .int .i64 (x.zb - x.za), .int .i64 x.gr]) false).run Tryd.prog W3 = .ok (.pointer (some ⟨gT, 0, none⟩)) W3 := by
            have := hpm.lookup keyLaw Tryd.underlying119 zeroPT (x := (x.pr, x.zb - x.za, x.gr)) (kv_key _ HKI.out)
            simp only [if_true] at this
            exact this
          have hbmn : bm ≠ gn := by have := HBM.out; have := o8.lt; omega
          have hkeep : ∀ q cs, Block (W'.setRow gn #[.int .i64 x.pr, .int .i64 (x.zb - x.za), .int .i64 x.gr]) q cs → q ≠ bm → Block W3 q cs := fun q cs hb hq => by
            obtain ⟨ty, e⟩ := (hb.ext hxT).get
            exact ⟨⟨ty, by rw [hgrow.block q (hb.ext hxT).lt (fun e => hq (Option.some.inj e))]; exact e⟩⟩
          have hkb3 : Block W3 gn #[.int .i64 x.pr, .int .i64 (x.zb - x.za), .int .i64 x.gr] := hkeep _ _ hkb (Ne.symm hbmn)
          have hB83 : Block W3 b8 #[.string ⟨#[]⟩, .string ⟨#[]⟩, .string ⟨#[]⟩, .int .i64 x.pr, .int .i64 0, .int .i64 0, .int .i64 0, .int .i64 0, .int .i64 x.za, .int .i64 x.zb, .int .i64 x.vo, .slice none 0 0, .int .i64 0, .int .i64 0, .int .i64 0, .int .i64 0, .bool false, .int .i64 x.gr, .int .i64 x.pl, .string ⟨#[]⟩, .string ⟨#[]⟩, .string ⟨#[]⟩] := hkeep _ _ hB8W (by have := HBM.out; omega)
          have HO3 : Hid (Own encP 1 124 w.heap.size W3 u6 (zs.map (·.1))) := Lib.hid (World.ownsRow.kept (HT2.out.own.ext hxT) hgrow (.inr HT2.out.hbm.2))
          have hwl : w.heap.size ≤ W3.heap.size := by have := HX2.out.size; have := hxT.size; have := hgrow.size; omega
          have HPM := Lib.hid hpm
          have HGR := Lib.hid hgrow
          have HGT : Hid (gT = (W'.setRow gn #[.int .i64 x.pr, .int .i64 (x.zb - x.za), .int .i64 x.gr]).heap.size) := Lib.hid (by rw [hsz]; exact hgT)
          have HXT := Lib.hid hxT
          have HKP := Lib.hid hkeep
          have u6n : u6.ownBlock ≠ some gn := HV6.out gn (by have := o8.lt; omega)
          have u68 : u6.ownBlock ≠ some b8 := HV6.out b8 (Nat.le_refl _)
          have HU1 := Lib.hid u6n
          have HU2 := Lib.hid u68
          have hzl2 : zs.length ≤ 1000 := by omega
          have HGT9 : Hid (gn < gT ∧ b8 < gT) := Lib.hid (by have := hkb.lt; have := hB8W.lt; rw [hsz] at *; omega)
          have HX3 : Hid (Ext w (W3.alloc (.cells #[.pointer (some ⟨gT, 0, none⟩)] 124))) := Lib.hid (Ext.alloc (Below.trans (HX2.out.trans hxT) ⟨hgrow.os, hgrow.tape, hgrow.output, hgrow.size, fun q hq => hgrow.block q (by have := HX2.out.size; have := hxT.size; omega) (fun e => by have := HT2.out.hbm.1; injection e with e; omega)⟩) _)
          clear hst hsz hpm hgrow hgT hxT hkeep hm hlo u6n u68 hx' hx2 hgn hB8
          simp only [part, Act.put, List.setIfInBounds_toArray, List.set_cons_succ, List.set_cons_zero]
          go_wp2_with (first | ((with_reducible apply wl_store' lwKy); (· (first | exact wanted_none rfl | exact wanted_some rfl rfl rfl)); (· rfl); (· rfl); (· infer_instance); (· rfl); (· rfl); (· (simp [Value.oneCell'])); try simp only [setRow_alloc, setRow_new, setRow_new1, setRow_new2, setRow_new11, setRow_new111]) | ((with_reducible apply wl_load' lwKy); (· (first | exact wanted_none rfl | exact wanted_some rfl rfl rfl)); (· rfl); (· infer_instance); (· rfl)) | (at_builtin; refine wl_append1g (enc := encP) (k := 1) (E := 124) (base := w.heap.size) (l := zs.map (·.1)) (y := gT) Tryd.underlying120 hiP hP0 hP1 hP2 rfl (by decide) encP_len encP_one rfl rfl (Own.alloc HO3.out _) inferInstance rfl (by simp; unfold maxLen; omega) (by simp; omega) (by simp; omega) ?_; intro vc nc hownC hkept; have HOC := Lib.hid hownC; have HKC := Lib.hid hkept; clear hownC hkept; obtain ⟨t, ht⟩ : ∃ t : Tal, t = ⟨(x.pr, x.zb - x.za, x.gr), 0, 0⟩ := ⟨_, rfl⟩; have HTT := Lib.hid ht; clear ht; have HT5 : Hid (TS w.heap.size bm nc.val vc (zs ++ [(gT, t)])) := Lib.hid (by rw [HTT.out]; exact TS.new HT2.out HM.out HGT.out HXT.out (by rw [HGT.out]; exact Block.new _ _ _) HX2.out.size HPM.out HGR.out ((Ext.refl _).alloc _) HOC.out HKC.out); have hlk5 : (Instr.lookup 119 (.map (some bm)) (.agg #[.int .i64 x.pr, .int .i64 (x.zb - x.za), .int .i64 x.gr]) false).run Tryd.prog nc.val = .ok (.pointer (some ⟨gT, 0, none⟩)) nc.val := (by have := HT5.out.look1 (k := (x.pr, x.zb - x.za, x.gr)) HKI.out; rw [look_snoc HM.out (by rw [HTT.out])] at this; exact this); have hkb5 : Block nc.val gn #[.int .i64 x.pr, .int .i64 (x.zb - x.za), .int .i64 x.gr] := HKC.out.block (inferInstance : Block (W3.alloc _) gn _) HU1.out; have hB8W : Block nc.val b8 #[.string ⟨#[]⟩, .string ⟨#[]⟩, .string ⟨#[]⟩, .int .i64 x.pr, .int .i64 0, .int .i64 0, .int .i64 0, .int .i64 0, .int .i64 x.za, .int .i64 x.zb, .int .i64 x.vo, .slice none 0 0, .int .i64 0, .int .i64 0, .int .i64 0, .int .i64 0, .bool false, .int .i64 x.gr, .int .i64 x.pl, .string ⟨#[]⟩, .string ⟨#[]⟩, .string ⟨#[]⟩] := HKC.out.block (inferInstance : Block (W3.alloc _) b8 _) HU2.out; have tb1 : 0 ≤ t.c := (by rw [HTT.out]; simp); have tb2 : t.c ≤ 1000 := (by rw [HTT.out]; simp); have tb3 : 0 ≤ t.v := (by rw [HTT.out]; simp); have tb4 : t.v ≤ 4294967296000 := (by rw [HTT.out]; simp); have ag8 : Apart gT b8 := ⟨by have := HGT9.out; omega⟩; have agn : Apart gT gn := ⟨by have := HGT9.out; omega⟩; have hbg : Block nc.val gT #[.int .i64 t.k.1, .int .i64 t.k.2.1, .int .i64 t.k.2.2, .int .i64 t.c, .int .i64 t.v] := HT5.out.blk (gT, t) (by simp); have ogb := hbg.old; have o8b := hB8W.old; have lk4 : ∀ n : ExtOf (nc.val.setCell ⟨gT, 3, none⟩ (.int .i64 (t.c + 1))), (Instr.lookup 119 (.map (some bm)) (.agg #[.int .i64 x.pr, .int .i64 (x.zb - x.za), .int .i64 x.gr]) false).run Tryd.prog n.val = .ok (.pointer (some ⟨gT, 0, none⟩)) n.val := fun n => HT5.out.look_set (k := (x.pr, x.zb - x.za, x.gr)) HKI.out (look_snoc HM.out (by rw [HTT.out])) n))
          have hsum : IntKind.i64.wrap (t.v + x.vo) = t.v + x.vo := IntWalk.i64_in _ (by omega)
          have lwg : w.heap.size ≤ gT := HT5.out.low (gT, t) (by simp)
          refine wp_region_ext_tail 12 (by kernel_rfl) (by kernel_rfl) ?_
          simp only [List.take_succ_cons, List.take_zero, List.drop_succ_cons, List.drop_zero]
          repeat (first | go_big_quiet_skip | ((with_reducible apply q_load' lwKy); (· (first | exact wanted_none rfl | exact wanted_some rfl rfl rfl)); (· rfl); (· infer_instance); (· rfl); simp only [Act.put, List.setIfInBounds_toArray, List.set_cons_succ, List.set_cons_zero]) | go_big_quiet_step (fail))
          refine wpQuiet_nil ?_
          intro w' hw'
          obtain ⟨nq, rfl⟩ := hw'
          clear hsum
          go_wp2_with fail
          go_roundw
          case rel => exact ⟨k + 1, zs ++ [(gT, ⟨t.k, t.c + 1, t.v + x.vo⟩)], by omega, by first | rfl | go_num, HT5.out.bump x.vo nq, by
            rw [HS.out, xsOf_snoc, if_pos HP.out, HTT.out]
            have := Ok.add (l1 := zs.map (·.2)) (l2 := []) (k := (x.pr, x.zb - x.za, x.gr)) (v := x.vo) (by simpa using HO.out) (by simpa using HM.out)
            simpa [rowOf] using this, by
            have hxn : Ext w nc.val := Below.trans HX3.out (Below.mono nc.below (Nat.le_refl _))
            exact (((hxn.setCell lwg _).trans nq.ext).setCell lwg _)⟩
          case measure => simp [intOf]; omega
      · have hp2 : (x.pl != pl) = true := by simpa using hp
        have HP := Lib.hid hp
        clear hp
        go_wp2_with (first | ((with_reducible apply wl_loadM midIt r0); (· rfl); (· (first | exact wanted_none rfl | exact wanted_some rfl rfl rfl)); (· rfl)) | ((with_reducible apply wl_store' lwIt); (· (first | exact wanted_none rfl | exact wanted_some rfl rfl rfl)); (· rfl); (· rfl); (· infer_instance); (· rfl); (· rfl); (· (simp [Value.oneCell'])); try simp only [setRow_alloc, setRow_new, setRow_new1, setRow_new2, setRow_new11, setRow_new111]))
        go_roundw
        case rel => exact ⟨k + 1, zs, by omega, by first | rfl | go_num, HT.out.ext (by repeat' (first | (with_reducible exact Ext.refl _) | (with_reducible exact ExtOf.ext _) | (with_reducible refine Ext.trans ?_ (ExtOf.ext _)) | (with_reducible refine Ext.alloc ?_ _) | (with_reducible refine Ext.drew ?_) | (with_reducible refine Ext.setCell ?_ ?_ _) | (with_reducible refine Ext.setRow ?_ ?_ _) | (with_reducible exact HX.out) | (with_reducible refine Ext.trans ?_ HX.out) | (with_reducible refine Ext.below ?_ (Nat.le_refl _) _) | omega | (simp; done) | (simp; omega))), by rw [HS.out, xsOf_snoc, if_neg HP.out]; exact HO.out, by repeat' (first | (with_reducible exact Ext.refl _) | (with_reducible exact ExtOf.ext _) | (with_reducible refine Ext.trans ?_ (ExtOf.ext _)) | (with_reducible refine Ext.alloc ?_ _) | (with_reducible refine Ext.drew ?_) | (with_reducible refine Ext.setCell ?_ ?_ _) | (with_reducible refine Ext.setRow ?_ ?_ _) | (with_reducible exact HX.out) | (with_reducible refine Ext.trans ?_ HX.out) | (with_reducible refine Ext.below ?_ (Nat.le_refl _) _) | omega | (simp; done) | (simp; omega))⟩
        case measure => simp [intOf]; omega
    · have hkk : k = its.length := by omega
      have HOK : Hid (Ok (xsOf its pl) (zs.map (·.2))) := Lib.hid (by have := HO.out; rwa [hkk, tk_all] at this)
      have hzl : zs.length ≤ 1000 := by
        have h2 := HOK.out.sums.1
        have h3 := sum_bound_low (tal_bounds hl HI.out HOK.out)
        have h4 := xsOf_len its pl
        rw [h2, List.length_map] at h3
        omega
      clear hkk HO
      go_wp2_with (go_at_call 25; refine (sort_tallies zs u6 wr w.heap.size HT.out.own HT.out.blk (fun z hz => (HT.out.ne z hz).1) (by omega)).mono ?_; rintro e W0 ⟨rfl, zs', hperm, hpw, hsl, hkept, ho1, ho2, ho3⟩; have HSL := Lib.hid hsl; have HAS := Lib.hid (asc_of HOK.out hperm hpw); have HXS := Lib.hid (ext_kept HX.out HT.out.own hkept ho1 ho2 ho3); have HBK : Hid (zipOk W0 zs') := Lib.hid (fun z hz => hkept.block (HT.out.blk z (hperm.mem_iff.1 hz)) (HT.out.ne z (hperm.mem_iff.1 hz)).1); have hzl' : zs'.length ≤ 1000 := (by rw [hperm.length_eq]; omega); clear hsl hkept hperm hpw ho1 ho2 ho3 HT; obtain ⟨pz, cz, rfl, hz1, hz2, hz3⟩ := SliceOf.form HSL.out)
      go_loopw [10, 78] (fun v i wz => ∃ k : Nat, k ≤ zs'.length ∧ i = .int .i64 k ∧ Own encT 5 77 W0.heap.size wz v (tk (zs'.map (·.2)) k) ∧ Ext W0 wz) (fun _ i _ => zs'.length - (intOf i).toNat)
      case atStart => exact ⟨0, by omega, rfl, Own.nil _, Ext.refl _⟩
      case round =>
        obtain ⟨j, hj, rfl, hown, hx2⟩ := hrel
        have HOW := Lib.hid hown
        have HXZ := Lib.hid hx2
        clear hown hx2
        by_cases hlt2 : j < zs'.length
        · obtain ⟨bz, oz, rfl, rz⟩ := SliceOf.elemK HSL.out (i := j) (by simpa using hlt2)
          obtain ⟨z, hz0⟩ : ∃ z, z = zs'[j] := ⟨_, rfl⟩
          have rz2 : World.rangeAt W0 bz (oz + j) [.pointer (some ⟨z.1, 0, none⟩)] := by
            have e : (zs'.map (·.1))[j]'(by simpa using hlt2) = z.1 := by rw [hz0]; simp
            rw [e, Nat.mul_one] at rz
            exact rz
          have HZM : Hid (z ∈ zs') := Lib.hid (by rw [hz0]; exact List.getElem_mem hlt2)
          have HSU : Hid (tk (zs'.map (·.2)) (j + 1) = tk (zs'.map (·.2)) j ++ [z.2]) := Lib.hid (by rw [tk_succ (by simpa using hlt2), hz0]; simp)
          have HLE : Hid ((tk (zs'.map (·.2)) j).length = j) := Lib.hid (tk_len (by simp; omega))
          have cP : wr.cell? ⟨bz, oz + j, none⟩ = some (.pointer (some ⟨z.1, 0, none⟩)) := HXZ.out.cell (rz2 0 _ rfl)
          have hbz : Block wr z.1 #[.int .i64 z.2.k.1, .int .i64 z.2.k.2.1, .int .i64 z.2.k.2.2, .int .i64 z.2.c, .int .i64 z.2.v] := (HBK.out z HZM.out).ext HXZ.out
          have obz : Old bz wr := Old.of_cell cP
          have obg := hbz.old
          clear hz0 rz rz2
          go_wp2_with fail
          apply wp_region_maker [true, true, true, true, true, true, true, true, true, true, true, true, true, true, true, true, true, true, true, true, true, true, true, true, true] 25 [false, false, false, false, false, false, false, false, false, false, false, false, false, false, false, false, false, false, false, false, false, false, false, false, false, false, true, true] _ 107 (MadeS wr #[.int .i64 z.2.k.1, .int .i64 z.2.k.2.1, .int .i64 z.2.k.2.2, .int .i64 z.2.c, .int .i64 z.2.v]) 26 [27] (by kernel_rfl) rfl rfl (by kernel_rfl) (by kernel_rfl) (by kernel_rfl) (by kernel_rfl) MadeS.keep
          · intro S hS hN R hR
            simp only [part]
            repeat (first | go_big_quiet_skip | go_big_quiet_step (fail))
            with_reducible refine wpQuiet_nil ?_
            exact hR
          · refine ⟨wanted_none rfl, fun W' hx' => ⟨.slice (some ⟨W'.heap.size, 0, none⟩) 1 1, W'.alloc (.cells #[.int .i64 z.2.k.1, .int .i64 z.2.k.2.1, .int .i64 z.2.k.2.2, .int .i64 z.2.c, .int .i64 z.2.v] 77), ?_, (Ext.refl _).alloc _, MadeS.new hx'⟩⟩
            simp [go_sem]
          intro v' W' hx' hmade
          obtain ⟨gn, rfl, hgn, hbn⟩ := hmade
          simp only [part, Act.put, List.setIfInBounds_toArray, List.set_cons_succ, List.set_cons_zero]
          go_wp2_with (at_builtin; refine wl_append1g (enc := encT) (k := 5) (E := 77) (base := W0.heap.size) (l := tk (zs'.map (·.2)) j) (y := z.2) Tryd.underlying46 hiR hR0 hR1 hR2 rfl (by decide) encT_len encT_one rfl rfl (Own.ext HOW.out hx') inferInstance rfl (by rw [HLE.out]; unfold maxLen; omega) (by rw [HLE.out]; omega) (by have h9 := hx'.size; have := HXZ.out.size; omega) ?_; intro vc nc hownC hkept)
          go_roundw
          case rel => exact ⟨j + 1, by omega, by first | rfl | go_num, by rw [HSU.out]; exact hownC, Below.trans (HXZ.out.trans hx') nc.below⟩
          case measure => simp [intOf]; omega
        · have hjj : j = zs'.length := by omega
          have HOE : Hid (Own encT 5 77 W0.heap.size wr u10 (zs'.map (·.2))) := Lib.hid (by have := HOW.out; rw [hjj, show zs'.length = (zs'.map (·.2)).length by simp, tk_all] at this; exact this)
          clear hjj
          go_wp2_with fail
          go_ret
          exact ⟨_, _, rfl, HAS.out.1, HAS.out.2, Own.slice encT_len HOE.out, ExtOf.of (HXS.out.trans HXZ.out)⟩
end Go.Proofs.YtaflcbdbacogeaaDoor
