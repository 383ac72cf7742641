/-
  Chapter 61: a scan is read.
-/
import Derived.Test.YtjfohapnjnopfaaGreatDoorK52
import Derived.Test.YtjfohapnjnopfaaGreatDoorK25
set_option linter.unusedVariables false
set_option linter.unusedSimpArgs false
namespace Go.Proofs.YtjfohapnjnopfaaGreatDoor
open Go.RowKit Go.WideShapes RepM

attribute [local go_sem] ExtOf.cell ExtOf.frozen ExtS.cell ExtS.frozen Block.cell Block.frozen ExtB.cell ExtB.frozen alloc_cell alloc_frozen
theorem infoRing : (Tryz.prog.info? 98).map (fun i => (i.zero, i.size, i.bytes)) = some (some (.agg #[.int .i64 0, .slice none 0 0]), 2, 32) := by kernel_rfl
theorem infoDef : (Tryz.prog.info? 173).map (fun i => (i.zero, i.size, i.bytes)) = some (some (.agg #[.int .i64 0, .int .i64 0, .int .i64 0, .int .i64 0, .int .i64 0, .int .i64 0, .int .i64 0]), 7, 56) := by kernel_rfl
/-- what is handed back of a scan that is read -/
def FormR (w : World) (en : Ending) (w' : World) : Prop := ∃ (vr vd : Value) (c : Bool) (gs : List (Int × SlT)) (ds : List DfT), en = .returned (.tuple #[.agg #[vr, vd], .bool c]) ∧ RingsS w' vr gs ∧ SliceOf encDf 7 w' vd ds ∧ ∃ m : ExtOf w, w' = m.val
theorem rings_nil (w : World) : RingsS w (.slice none 0 0) [] := ⟨SliceOf.nil _, fun g hg => by simp at hg⟩
set_option maxHeartbeats 3200000 in
set_option maxRecDepth 20000 in
theorem form_any (s : ByteArray) (w : World) (hs : s.size ≤ 100000) : Calls Tryz.prog 95 #[.string s] w (FormR w) := by
  obtain ⟨iG, hiG, hG0, hG1, hG2⟩ := info_parts infoRing
  obtain ⟨iD, hiD, hD0, hD1, hD2⟩ := info_parts infoDef
  go_enter Tryz.func95, Tryz.ntmps95
  go_wp2_with (first | ((with_reducible apply wl_store' lwRd); (· (first | exact wanted_none rfl | exact wanted_some rfl rfl rfl)); (· rfl); (· rfl); (· infer_instance); (· rfl); (· rfl); (· (simp [Value.oneCell', SlT.v])); try simp only [setRow_alloc, setRow_new, setRow_new1, setRow_new2, setRow_new11, setRow_new111]) | ((with_reducible apply wl_load' lwRd); (· (first | exact wanted_none rfl | exact wanted_some rfl rfl rfl)); (· rfl); (· infer_instance); (· rfl)) | (go_at_call 114; refine (newReader_any s _).mono ?_; rintro en w' ⟨rfl, n1, rfl⟩) | (go_at_call 113; refine (readInts_any s 0 24 0 _ _ _ (Nat.zero_le _) hs (by decide)).mono ?_; rintro en w' ⟨a1, e1, vz, z, rfl, ha1, hz, hzl, n2, rfl⟩))
  have hn1 := n1.ext.size
  have hn2 := n2.ext.size
  simp only [World.size_alloc] at hn1
  have hb0 : Block (n2.val.alloc (.cells #[.string s, .int .i64 (a1 : Int), .int .i64 e1] 161)) w.heap.size #[.slice none 0 0, .slice none 0 0] := inferInstance
  have hb1 : Block (n2.val.alloc (.cells #[.string s, .int .i64 (a1 : Int), .int .i64 e1] 161)) (w.heap.size + 1) #[.slice none 0 0, .slice none 0 0] := inferInstance
  have hb5 : Block (n2.val.alloc (.cells #[.string s, .int .i64 (a1 : Int), .int .i64 e1] 161)) n2.val.heap.size #[.string s, .int .i64 (a1 : Int), .int .i64 e1] := Block.new _ _ _
  have hx5 : Ext w (n2.val.alloc (.cells #[.string s, .int .i64 (a1 : Int), .int .i64 e1] 161)) := by repeat' (first | (with_reducible exact Ext.refl _) | (with_reducible exact ExtOf.ext _) | (with_reducible refine Ext.trans ?_ (ExtOf.ext _)) | (with_reducible refine Ext.alloc ?_ _) | (with_reducible refine Ext.drew ?_) | (with_reducible refine Ext.setCell ?_ ?_ _) | (with_reducible refine Ext.setRow ?_ ?_ _) | (with_reducible exact HX.out) | (with_reducible refine Ext.trans ?_ HX.out) | (with_reducible refine Ext.below ?_ (Nat.le_refl _) _) | omega | (simp; done) | (simp; omega))
  have hz5 : Own encI 1 3 n1.val.heap.size (n2.val.alloc (.cells #[.string s, .int .i64 (a1 : Int), .int .i64 e1] 161)) vz z := Own.alloc hz _
  obtain ⟨qz, cz, rfl⟩ := Own.form2 hz
  have hzb := Own.base_le hz
  have hzlt : ∀ q, qz = some q → q.block < n2.val.heap.size := fun q hq => by subst hq; exact (World.ownsRow.lt hz q.block rfl).2
  obtain ⟨B, hB⟩ : ∃ B, B = w.heap.size := ⟨_, rfl⟩
  obtain ⟨R5, hR5⟩ : ∃ R5, R5 = n2.val.heap.size := ⟨_, rfl⟩
  have hsz5 : (n2.val.alloc (.cells #[.string s, .int .i64 (a1 : Int), .int .i64 e1] 161)).heap.size = R5 + 1 := by simp [hR5]
  obtain ⟨W5, hW5⟩ : ∃ W5, W5 = n2.val.alloc (.cells #[.string s, .int .i64 (a1 : Int), .int .i64 e1] 161) := ⟨_, rfl⟩
  rw [← hW5] at hb0 hb1 hb5 hx5 hz5 hsz5 ⊢
  rw [← hB] at hb0 hb1 hn1 ⊢
  rw [← hR5] at hb5 hzlt hn2 ⊢
  have HZL : Hid (∀ wr, Low W5 wr (R5 + 1) (B + 1) R5 → IntS wr (.slice qz z.length cz) z) := Lib.hid (fun wr hl => hl.slice (Own.slice encI_len hz5) (fun q hq => by
    have h1 := hzb q hq
    have h2 := hzlt q hq
    omega))
  have HX5 := Lib.hid hx5
  have HB0 := Lib.hid hb0
  have HB1 := Lib.hid hb1
  have HB5 := Lib.hid hb5
  have HBW := Lib.hid hB
  have hB5 : B + 2 ≤ R5 := by omega
  have HS5 : Hid (W5.heap.size = R5 + 1) := Lib.hid hsz5
  clear hz5 hz hzb hzlt hW5 hR5 hB hb0 hb1 hb5 hx5 hsz5 hn1 hn2
  go_loopw [7] (fun vi wr => ∃ (k : Nat) (gs : List (Int × SlT)) (vr : Value) (a : Nat) (e : Int), k ≤ z.length ∧ vi = .int .i64 k ∧ gs.length ≤ k ∧ Block wr B #[.slice none 0 0, .slice none 0 0] ∧ Block wr (B + 1) #[vr, .slice none 0 0] ∧ Block wr R5 #[.string s, .int .i64 (a : Int), .int .i64 e] ∧ a ≤ s.size ∧ GsS (R5 + 1) wr vr gs ∧ Low W5 wr (R5 + 1) (B + 1) R5 ∧ Ext w wr) (fun i _ => z.length - (intOf i).toNat)
  case atStart => exact ⟨0, [], _, a1, e1, by omega, rfl, by simp, HB0.out, HB1.out, HB5.out, ha1, GsS.nil, Low.refl (by rw [HS5.out]; exact Nat.le_refl _), HX5.out⟩
  case round =>
    obtain ⟨k, gs, vr, a, e, hk, rfl, hgk, hb0, hb1, hb5, ha, hg, hlow, hx⟩ := hrel
    have HX := Lib.hid hx
    have HG := Lib.hid hg
    have HLW := Lib.hid hlow
    obtain ⟨qv, cv, rfl⟩ := Own.form2 hg.own
    have hsz := hlow.size
    clear hx hg hlow
    by_cases hlt : k < z.length
    · obtain ⟨bz, oz, rfl, hez⟩ := IntS.elem (HZL.out wr HLW.out) hlt
      have obz := Old.of_cell hez
      generalize z[k] = zk at *
      go_upto_region 8 with (first | ((with_reducible apply wl_store' lwRd); (· (first | exact wanted_none rfl | exact wanted_some rfl rfl rfl)); (· rfl); (· rfl); (· infer_instance); (· rfl); (· rfl); (· (simp [Value.oneCell', SlT.v])); try simp only [setRow_alloc, setRow_new, setRow_new1, setRow_new2, setRow_new11, setRow_new111]) | ((with_reducible apply wl_load' lwRd); (· (first | exact wanted_none rfl | exact wanted_some rfl rfl rfl)); (· rfl); (· infer_instance); (· rfl)) | (go_at_call 113; refine (readInts_any s a 96 e _ _ _ ha hs (by decide)).mono ?_; rintro en w' ⟨a2, e2, vl, lz, rfl, ha2, hlz, hll, n3, rfl⟩) | (go_at_call 115; refine (readings_any lz vl _ (IntS.ext (Own.slice encI_len hlz) (by repeat' (first | (with_reducible exact Ext.refl _) | (with_reducible exact ExtOf.ext _) | (with_reducible refine Ext.trans ?_ (ExtOf.ext _)) | (with_reducible refine Ext.alloc ?_ _) | (with_reducible refine Ext.drew ?_) | (with_reducible refine Ext.setCell ?_ ?_ _) | (with_reducible refine Ext.setRow ?_ ?_ _) | (with_reducible exact HX.out) | (with_reducible refine Ext.trans ?_ HX.out) | (with_reducible refine Ext.below ?_ (Nat.le_refl _) _) | omega | (simp; done) | (simp; omega)))) (by omega)).mono ?_; rintro en w' ⟨vg, c, rs, rfl, hrs, hrl, n4, rfl⟩))
      have hxn : Ext wr n4.val := by repeat' (first | (with_reducible exact Ext.refl _) | (with_reducible exact ExtOf.ext _) | (with_reducible refine Ext.trans ?_ (ExtOf.ext _)) | (with_reducible refine Ext.alloc ?_ _) | (with_reducible refine Ext.drew ?_) | (with_reducible refine Ext.setCell ?_ ?_ _) | (with_reducible refine Ext.setRow ?_ ?_ _) | (with_reducible exact HX.out) | (with_reducible refine Ext.trans ?_ HX.out) | (with_reducible refine Ext.below ?_ (Nat.le_refl _) _) | omega | (simp; done) | (simp; omega))
      have hb8 : Block n4.val n3.val.heap.size #[.string s, .int .i64 (a2 : Int), .int .i64 e2] := inferInstance
      obtain ⟨qg, cg, rfl⟩ := Own.form2 hrs
      have hgb : ∀ q, qg = some q → R5 + 1 ≤ q.block ∧ q.block < n4.val.heap.size ∧ (Value.slice qv gs.length cv).ownBlock ≠ some q.block := fun q hq => by
        have h1 := Own.base_leG hrs q hq
        subst hq
        have h2 := (World.ownsRow.lt hrs q.block rfl).2
        have h3 := n3.ext.size
        simp only [World.size_alloc] at h1
        exact ⟨by omega, h2, Own.block_lt HG.out.own (by omega)⟩
      have h8 : (Value.slice qv gs.length cv).ownBlock ≠ some n3.val.heap.size := Own.block_lt HG.out.own n3.ext.size
      obtain ⟨R8, hR8⟩ : ∃ R8, R8 = n3.val.heap.size := ⟨_, rfl⟩
      rw [← hR8] at hb8 h8 ⊢
      have h58 : R5 + 1 ≤ R8 := by have := n3.ext.size; omega
      have HRS := Lib.hid (Own.slice encR_len hrs)
      have HGB := Lib.hid hgb
      have b0 := hb0.ext hxn
      have b1 := hb1.ext hxn
      have b5 := hb5.ext hxn
      have HG4 := Lib.hid (HG.out.ext hxn)
      have HL4 := Lib.hid (HLW.out.ext hxn)
      have HX4 := Lib.hid (HX.out.trans hxn)
      have hez4 := hxn.cell hez
      have obz4 := Old.of_cell hez4
      have hsz4 := hxn.size
      generalize n4.val = W4 at *
      clear hrs hgb hxn hR8 hb0 hb1 hb5 hez obz hlz
      cases c
      · go_wp2_with (first | ((with_reducible apply wl_store' lwScan); (· (first | exact wanted_none rfl | exact wanted_some rfl rfl rfl)); (· rfl); (· rfl); (· infer_instance); (· rfl); (· rfl); (· (simp [Value.oneCell', SlT.v])); try simp only [setRow_alloc, setRow_new, setRow_new1, setRow_new2, setRow_new11, setRow_new111]) | ((with_reducible apply wl_load' lwScan); (· (first | exact wanted_none rfl | exact wanted_some rfl rfl rfl)); (· rfl); (· infer_instance); (· rfl)))
        refine bodyPost_ret (results_cs (b0 := B) rfl lwScan rfl rfl inferInstance rfl) rfl ⟨_, _, false, [], [], rfl, rings_nil _, SliceOf.nil _, ?_⟩
        exact ExtOf.of (Ext.setRow HX4.out (by rw [HBW.out]; exact Nat.le_refl _) _)
      · go_wp2_with fail
        apply wp_region_maker [true, true, true, true, true, true, true, true] 8 [false, false, false, false, false, false, false, false, false, true, true, true] _ 48 (MadeK 1 W4 #[.int .i64 zk, .slice qg rs.length cg]) 9 [10, 11] (by kernel_rfl) rfl rfl (by kernel_rfl) (by kernel_rfl) (by kernel_rfl) (by kernel_rfl) MadeK.keep
        · intro S hS hN R hR
          simp only [part]
          repeat (first | go_big_quiet_skip | go_big_quiet_step (fail))
          with_reducible refine wpQuiet_nil ?_
          exact hR
        · refine ⟨wanted_none rfl, fun W' hx' => ⟨.slice (some ⟨W'.heap.size, 0, none⟩) 1 1, W'.alloc (.cells #[.int .i64 zk, .slice qg rs.length cg] 98), ?_, (Ext.refl _).alloc _, MadeK.new hx'⟩⟩
          simp [go_sem]
        intro v' W' hx' hmade
        obtain ⟨gn, rfl, hgn, hbn⟩ := hmade
        simp only [part, Act.put, List.setIfInBounds_toArray, List.set_cons_succ, List.set_cons_zero]
        have c0 := b0.ext hx'
        have c1 := b1.ext hx'
        have c5 := b5.ext hx'
        have c8 := hb8.ext hx'
        have HGW := Lib.hid (HG4.out.ext hx')
        have HLW2 := Lib.hid (HL4.out.ext hx')
        have HXW := Lib.hid (HX4.out.trans hx')
        have hxs := hx'.size
        have HRS2 := Lib.hid (SliceOf.ext HRS.out hx')
        haveI p1 : Apart (B + 1) R5 := ⟨by omega⟩
        haveI p2 : Apart R5 (B + 1) := ⟨by omega⟩
        haveI p3 : Apart R5 B := ⟨by omega⟩
        haveI p4 : Apart (B + 1) R8 := ⟨by omega⟩
        haveI p5 : Apart (B + 1) B := ⟨by omega⟩
        go_wp2_with (first | ((with_reducible apply wl_store' lwRd); (· (first | exact wanted_none rfl | exact wanted_some rfl rfl rfl)); (· rfl); (· rfl); (· infer_instance); (· rfl); (· rfl); (· (simp [Value.oneCell', SlT.v])); try simp only [setRow_alloc, setRow_new, setRow_new1, setRow_new2, setRow_new11, setRow_new111]) | ((with_reducible apply wl_load' lwRd); (· (first | exact wanted_none rfl | exact wanted_some rfl rfl rfl)); (· rfl); (· infer_instance); (· rfl)) | (at_builtin; refine wl_append1g (enc := encG) (k := 2) (E := 98) (base := R5 + 1) (l := gs) (y := ((zk, (⟨qg, rs.length, cg⟩ : SlT)))) Tryz.underlying90 hiG hG0 hG1 hG2 rfl (by decide) encG_len encG_one rfl rfl HGW.out.own hbn rfl (by unfold maxLen; omega) (by omega) (by omega) ?_; intro v7 n7 ho7 hk7; (obtain ⟨q7, c7, rfl⟩ := Own.form2 ho7); (rw [show (gs ++ [((zk, (⟨qg, rs.length, cg⟩ : SlT)))]).length = gs.length + 1 from by simp] at ho7 hk7 ⊢); (have HO7 := Lib.hid ho7); (have HK7 := Lib.hid hk7); (have d1 := c1.below n7.below (show B + 1 < R5 + 1 by omega)); (have d0 := c0.below n7.below (show B < R5 + 1 by omega)); (have d5 := c5.below n7.below (show R5 < R5 + 1 by omega)); (have d8 := hk7.block c8 h8)))
        have HG7 : Hid (GsS (R5 + 1) n7.val (.slice q7 (gs.length + 1) c7) (gs ++ [((zk, (⟨qg, rs.length, cg⟩ : SlT)))])) := Lib.hid (HGW.out.push HK7.out HO7.out HRS2.out (fun q hq => by obtain ⟨h1, h2, h3⟩ := HGB.out q hq; exact ⟨h1, by omega, h3⟩))
        go_roundw
        case rel =>
          refine ⟨k + 1, _, _, a2, e2, by omega, by first | rfl | go_num, by simp; omega, inferInstance, inferInstance, inferInstance, ha2, HG7.out.low (fun q hq => ?_) (by simp [World.setRow, World.setCell]), ((HLW2.out.below n7.below).set (.inl rfl)).setRow (.inr rfl), by have hBW := HBW.out; have h7 : Ext w n7.val := Below.trans HXW.out (Below.mono n7.below (by omega)); exact Ext.setRow (Ext.setCell h7 (by show w.heap.size ≤ B + 1; omega) _) (by omega) _⟩
          rw [heap_setRow_ne _ _ _ (by omega), Below.heap_setCell _ _ _ _ (by show q ≠ B + 1; omega)]
        case measure => simp [intOf]; omega
    · obtain rfl : k = z.length := by omega
      have hn0 : B + 2 ≤ wr.heap.size := by omega
      go_upto_region 13 with (first | ((with_reducible apply wl_store' lwRd); (· (first | exact wanted_none rfl | exact wanted_some rfl rfl rfl)); (· rfl); (· rfl); (· infer_instance); (· rfl); (· rfl); (· (simp [Value.oneCell', SlT.v])); try simp only [setRow_alloc, setRow_new, setRow_new1, setRow_new2, setRow_new11, setRow_new111]) | ((with_reducible apply wl_load' lwRd); (· (first | exact wanted_none rfl | exact wanted_some rfl rfl rfl)); (· rfl); (· infer_instance); (· rfl)) | (go_at_call 113; refine (readInts_any s a 448 e _ _ _ ha hs (by decide)).mono ?_; rintro en w' ⟨a3, e3, vd0, d, rfl, ha3, hd, hdl, n5, rfl⟩))
      have hn5 := n5.ext.size
      have c0 := hb0.ext n5.ext
      have c1 := hb1.ext n5.ext
      have HG5 := Lib.hid (HG.out.ext n5.ext)
      have HX6 := Lib.hid (HX.out.trans n5.ext)
      haveI p2 : Apart R5 (B + 1) := ⟨by omega⟩
      haveI p3 : Apart R5 B := ⟨by omega⟩
      obtain ⟨qd, cd, rfl⟩ := Own.form2 hd
      have hdb := Own.base_le hd
      have hdlt : ∀ q, qd = some q → q.block < n5.val.heap.size := fun q hq => by subst hq; exact (World.ownsRow.lt hd q.block rfl).2
      have f0 : Block (n5.val.setRow R5 #[.string s, .int .i64 (a3 : Int), .int .i64 e3]) B #[.slice none 0 0, .slice none 0 0] := inferInstance
      have f1 : Block (n5.val.setRow R5 #[.string s, .int .i64 (a3 : Int), .int .i64 e3]) (B + 1) #[.slice qv gs.length cv, .slice none 0 0] := inferInstance
      have f5 : Block (n5.val.setRow R5 #[.string s, .int .i64 (a3 : Int), .int .i64 e3]) R5 #[.string s, .int .i64 (a3 : Int), .int .i64 e3] := by
        have := hb5.ext n5.ext
        infer_instance
      have HDI : Hid (IntS (n5.val.setRow R5 #[.string s, .int .i64 (a3 : Int), .int .i64 e3]) (.slice qd d.length cd) d) := Lib.hid (Own.slice encI_len (Own.heapB hd (fun q hq => heap_setRow_ne _ _ _ (by omega))))
      have HG6 : Hid (GsS (R5 + 1) (n5.val.setRow R5 #[.string s, .int .i64 (a3 : Int), .int .i64 e3]) (.slice qv gs.length cv) gs) := Lib.hid (HG5.out.low (fun q hq => heap_setRow_ne _ _ _ (by omega)) (by simp [World.setRow]))
      have HX7 : Hid (Ext w (n5.val.setRow R5 #[.string s, .int .i64 (a3 : Int), .int .i64 e3])) := Lib.hid (Ext.setRow HX6.out (by have := HBW.out; omega) _)
      have hs7 : (n5.val.setRow R5 #[.string s, .int .i64 (a3 : Int), .int .i64 e3]).heap.size = n5.val.heap.size := by simp [World.setRow]
      obtain ⟨W6, hW6⟩ : ∃ W6, W6 = n5.val.setRow R5 #[.string s, .int .i64 (a3 : Int), .int .i64 e3] := ⟨_, rfl⟩
      rw [← hW6] at f0 f1 f5 HDI HG6 HX7 hs7 ⊢
      rw [← hs7] at hdlt hn5
      clear hW6 c0 c1 hb0 hb1 hb5 HG5 HX6 hd hs7
      by_cases h7 : d.length % 7 = 0
      case neg =>
        have q7 : ((d.length : Int) % 7 != 0) = true := bne_iff_ne.2 (by omega)
        go_wp2_with (first | ((with_reducible apply wl_store' lwRd); (· (first | exact wanted_none rfl | exact wanted_some rfl rfl rfl)); (· rfl); (· rfl); (· infer_instance); (· rfl); (· rfl); (· (simp [Value.oneCell', SlT.v])); try simp only [setRow_alloc, setRow_new, setRow_new1, setRow_new2, setRow_new11, setRow_new111]) | ((with_reducible apply wl_load' lwRd); (· (first | exact wanted_none rfl | exact wanted_some rfl rfl rfl)); (· rfl); (· infer_instance); (· rfl)) | ((with_reducible apply wl_store' lwScan); (· (first | exact wanted_none rfl | exact wanted_some rfl rfl rfl)); (· rfl); (· rfl); (· infer_instance); (· rfl); (· rfl); (· (simp [Value.oneCell', SlT.v])); try simp only [setRow_alloc, setRow_new, setRow_new1, setRow_new2, setRow_new11, setRow_new111]) | (go_at_call 116; refine (end_any s a3 e3 _ ha3 hs).mono ?_; rintro en w' ⟨⟨er, rfl⟩, n6, rfl⟩))
        all_goals refine bodyPost_ret (results_cs (b0 := B) rfl lwScan rfl rfl inferInstance rfl) rfl ⟨_, _, false, [], [], rfl, rings_nil _, SliceOf.nil _, ?_⟩
        all_goals exact ExtOf.of (Ext.setRow (HX7.out.trans n6.ext) (by rw [HBW.out]; exact Nat.le_refl _) _)
      have q7 : ((d.length : Int) % 7 != 0) = false := bne_eq_false_iff_eq.2 (by omega)
      go_wp2_with (first | ((with_reducible apply wl_store' lwRd); (· (first | exact wanted_none rfl | exact wanted_some rfl rfl rfl)); (· rfl); (· rfl); (· infer_instance); (· rfl); (· rfl); (· (simp [Value.oneCell', SlT.v])); try simp only [setRow_alloc, setRow_new, setRow_new1, setRow_new2, setRow_new11, setRow_new111]) | ((with_reducible apply wl_load' lwRd); (· (first | exact wanted_none rfl | exact wanted_some rfl rfl rfl)); (· rfl); (· infer_instance); (· rfl)) | ((with_reducible apply wl_store' lwScan); (· (first | exact wanted_none rfl | exact wanted_some rfl rfl rfl)); (· rfl); (· rfl); (· infer_instance); (· rfl); (· rfl); (· (simp [Value.oneCell', SlT.v])); try simp only [setRow_alloc, setRow_new, setRow_new1, setRow_new2, setRow_new11, setRow_new111]) | (go_at_call 116; refine (end_any s a3 e3 _ ha3 hs).mono ?_; rintro en w' ⟨⟨er, rfl⟩, n6, rfl⟩))
      rotate_left
      · refine bodyPost_ret (results_cs (b0 := B) rfl lwScan rfl rfl inferInstance rfl) rfl ⟨_, _, false, [], [], rfl, rings_nil _, SliceOf.nil _, ?_⟩
        exact ExtOf.of (Ext.setRow (HX7.out.trans n6.ext) (by rw [HBW.out]; exact Nat.le_refl _) _)
      have g0 := f0.ext n6.ext
      have g1 := f1.ext n6.ext
      have HX8 := Lib.hid (HX7.out.trans n6.ext)
      have HG8 := HG6.out.ext n6.ext
      have HD8 := IntS.ext HDI.out n6.ext
      have hs8 := n6.ext.size
      have HRG : Hid (∀ wr, Low n6.val wr n6.val.heap.size (B + 1) B → RingsS wr (.slice qv gs.length cv) gs) := Lib.hid (fun wr hl => by
        refine ⟨hl.slice (Own.slice encG_len HG8.own) (fun q hq => ?_), fun g hg => ?_⟩
        · have h1 := Own.base_leG HG8.own q hq
          have h2 : q.block < n6.val.heap.size := by subst hq; exact (World.ownsRow.lt HG8.own q.block rfl).2
          omega
        · obtain ⟨rs, hr⟩ := HG8.reads g hg
          refine ⟨rs, hl.slice hr (fun q hq => ?_)⟩
          have := HG8.apart g hg q hq
          omega)
      have HDL : Hid (∀ wr, Low n6.val wr n6.val.heap.size (B + 1) B → IntS wr (.slice qd d.length cd) d) := Lib.hid (fun wr hl => hl.slice HD8 (fun q hq => by
        have h1 := hdb q hq
        have h2 := hdlt q hq
        omega))
      obtain ⟨W7, hW7⟩ : ∃ W7, W7 = n6.val := ⟨_, rfl⟩
      rw [← hW7] at g0 g1 HX8 HRG HDL hs8 ⊢
      obtain ⟨B7, hB7⟩ : ∃ B7, B7 = W7.heap.size := ⟨_, rfl⟩
      rw [← hB7] at HRG HDL hs8
      have HB7 := Lib.hid hB7
      have hbB7 : B + 2 ≤ B7 := by omega
      have H7 := Lib.hid h7
      clear hW7 hB7 HG8 HD8 HG6 HDI hdb hdlt f0 f1 f5 HX7 HLW HG q7 h7
      go_loopw [13] (fun vi wr => ∃ (k : Nat) (ds : List DfT) (vd : Value), k ≤ d.length ∧ k % 7 = 0 ∧ vi = .int .i64 k ∧ ds.length ≤ k ∧ Block wr B #[.slice none 0 0, .slice none 0 0] ∧ Block wr (B + 1) #[.slice qv gs.length cv, vd] ∧ Own encDf 7 173 B7 wr vd ds ∧ Low W7 wr B7 (B + 1) B ∧ Ext w wr) (fun i _ => d.length - (intOf i).toNat)
      case atStart => exact ⟨0, [], _, by omega, rfl, rfl, by simp, g0, g1, Own.nil _, Low.refl (by rw [HB7.out]; exact Nat.le_refl _), HX8.out⟩
      case round =>
        obtain ⟨k, ds, vd, hk, hk7, rfl, hdk, hb0, hb1, ho, hlow, hx⟩ := hrel
        have HX := Lib.hid hx
        have HO := Lib.hid ho
        have HLW := Lib.hid hlow
        obtain ⟨qv2, cv2, rfl⟩ := Own.form2 ho
        have hsz := hlow.size
        have HK7 := Lib.hid hk7
        clear hx ho hlow hk7
        by_cases hlt : k < d.length
        · have hk6 : k + 6 < d.length := by have := HK7.out; have := H7.out; omega
          obtain ⟨bd, od, rfl, e0⟩ := IntS.elem (HDL.out wr HLW.out) (i := k) (by omega)
          obtain ⟨b', o', hq, e1⟩ := IntS.elem (HDL.out wr HLW.out) (i := k + 1) (by omega)
          cases hq
          obtain ⟨b', o', hq, e2⟩ := IntS.elem (HDL.out wr HLW.out) (i := k + 2) (by omega)
          cases hq
          obtain ⟨b', o', hq, e3⟩ := IntS.elem (HDL.out wr HLW.out) (i := k + 3) (by omega)
          cases hq
          obtain ⟨b', o', hq, e4⟩ := IntS.elem (HDL.out wr HLW.out) (i := k + 4) (by omega)
          cases hq
          obtain ⟨b', o', hq, e5⟩ := IntS.elem (HDL.out wr HLW.out) (i := k + 5) (by omega)
          cases hq
          obtain ⟨b', o', hq, e6⟩ := IntS.elem (HDL.out wr HLW.out) (i := k + 6) (by omega)
          cases hq
          have obd := Old.of_cell e0
          generalize d[k + 1]'(by omega) = x1 at *
          generalize d[k + 2]'(by omega) = x2 at *
          generalize d[k + 3]'(by omega) = x3 at *
          generalize d[k + 4]'(by omega) = x4 at *
          generalize d[k + 5]'(by omega) = x5 at *
          generalize d[k + 6]'(by omega) = x6 at *
          generalize d[k]'(by omega) = x0 at *
          go_wp2_with fail
          apply wp_region_maker [true, true, true, true, true, true, true, true, true, true, true, true, true, true, true, true, true, true, true, true, true, true, true, true, true, true, true, true, true, true, true, true, true, true] 34 [false, false, false, false, false, false, false, false, false, false, false, false, false, false, false, false, false, false, false, false, false, false, false, false, false, false, false, false, false, false, false, false, false, false, false, true] _ 14 (MadeP wr #[.int .i64 0, .int .i64 0, .int .i64 0, .int .i64 0, .int .i64 0, .int .i64 0]) 35 [] (by kernel_rfl) rfl rfl (by kernel_rfl) (by kernel_rfl) (by kernel_rfl) (by kernel_rfl) MadeP.keep
          · intro S hS hN R hR
            simp only [part]
            repeat (first | go_big_quiet_skip | go_big_quiet_step (fail))
            with_reducible refine wpQuiet_nil ?_
            exact hR
          · refine ⟨wanted_none rfl, fun W' hx' => ⟨.pointer (some ⟨W'.heap.size, 0, none⟩), W'.alloc (.cells #[.int .i64 0, .int .i64 0, .int .i64 0, .int .i64 0, .int .i64 0, .int .i64 0] 171), ?_, (Ext.refl _).alloc _, MadeP.new hx'⟩⟩
            simp [go_sem]
          intro v' W' hx' hmade
          obtain ⟨gn, rfl, hgn, hbn⟩ := hmade
          simp only [part, Act.put, List.setIfInBounds_toArray, List.set_cons_succ, List.set_cons_zero]
          go_upto_region 19 with (first | ((with_reducible apply wl_store' lwBox); (· (first | exact wanted_none rfl | exact wanted_some rfl rfl rfl)); (· rfl); (· rfl); (· infer_instance); (· rfl); (· rfl); (· (simp [Value.oneCell', SlT.v])); try simp only [setRow_alloc, setRow_new, setRow_new1, setRow_new2, setRow_new11, setRow_new111]))
          simp only [Act.put]
          have hbx : Block (W'.setRow gn #[.int .i64 x1, .int .i64 x2, .int .i64 x3, .int .i64 x4, .int .i64 x5, .int .i64 x6]) gn #[.int .i64 x1, .int .i64 x2, .int .i64 x3, .int .i64 x4, .int .i64 x5, .int .i64 x6] := inferInstance
          have hx8 : Ext wr (W'.setRow gn #[.int .i64 x1, .int .i64 x2, .int .i64 x3, .int .i64 x4, .int .i64 x5, .int .i64 x6]) := Ext.setRow hx' hgn _
          obtain ⟨W8, hW8⟩ : ∃ W8, W8 = W'.setRow gn #[.int .i64 x1, .int .i64 x2, .int .i64 x3, .int .i64 x4, .int .i64 x5, .int .i64 x6] := ⟨_, rfl⟩
          rw [← hW8] at hbx hx8 ⊢
          have b0 := hb0.ext hx8
          have b1 := hb1.ext hx8
          have e8 := hx8.cell e0
          have ob8 := Old.of_cell e8
          have HO8 := Lib.hid (Own.ext HO.out hx8)
          have HL8 := Lib.hid (HLW.out.ext hx8)
          have HX9 := Lib.hid (HX.out.trans hx8)
          have hs9 := hx8.size
          clear hW8 hx8 hbn hb0 hb1 hx' hgn e0 e1 e2 e3 e4 e5 e6 obd
          apply wp_region_maker [true, true, true, true, true, true, true, true] 8 [false, false, false, false, false, false, false, false, false, true, true, true] _ 115 (MadeK 1 W8 #[.int .i64 x0, .int .i64 x1, .int .i64 x2, .int .i64 x3, .int .i64 x4, .int .i64 x5, .int .i64 x6]) 9 [10, 11] (by kernel_rfl) rfl rfl (by kernel_rfl) (by kernel_rfl) (by kernel_rfl) (by kernel_rfl) MadeK.keep
          · intro S hS hN R hR
            simp only [part]
            repeat (first | go_big_quiet_skip | ((with_reducible apply q_loadS lwBox); (· (first | exact wanted_none rfl | exact wanted_some rfl rfl rfl)); (· rfl); (· infer_instance); (· rfl); simp only [Act.put, List.setIfInBounds_toArray, List.set_cons_succ, List.set_cons_zero]) | go_big_quiet_step (fail))
            with_reducible refine wpQuiet_nil ?_
            exact hR
          · refine ⟨wanted_none rfl, fun W' hx' => ⟨.slice (some ⟨W'.heap.size, 0, none⟩) 1 1, W'.alloc (.cells #[.int .i64 x0, .int .i64 x1, .int .i64 x2, .int .i64 x3, .int .i64 x4, .int .i64 x5, .int .i64 x6] 173), ?_, (Ext.refl _).alloc _, MadeK.new hx'⟩⟩
            simp [go_sem]
          intro v' W' hx' hmade
          obtain ⟨gn, rfl, hgn, hbn⟩ := hmade
          simp only [part, Act.put, List.setIfInBounds_toArray, List.set_cons_succ, List.set_cons_zero]
          have c0 := b0.ext hx'
          have c1 := b1.ext hx'
          have HOW := Lib.hid (Own.ext HO8.out hx')
          have HLW2 := Lib.hid (HL8.out.ext hx')
          have HXW := Lib.hid (HX9.out.trans hx')
          have hxs := hx'.size
          haveI p5 : Apart (B + 1) B := ⟨by omega⟩
          go_wp2_with (first | (at_builtin; refine wl_append1g (enc := encDf) (k := 7) (E := 173) (base := B7) (l := ds) (y := ((x0, x1, x2, x3, x4, x5, x6) : DfT)) Tryz.underlying91 hiD hD0 hD1 hD2 rfl (by decide) encDf_len encDf_one rfl rfl HOW.out hbn rfl (by unfold maxLen; omega) (by omega) (by omega) ?_; intro v7 n7 ho7 hk7; (obtain ⟨q7, c7, rfl⟩ := Own.form2 ho7); (rw [show (ds ++ [((x0, x1, x2, x3, x4, x5, x6) : DfT)]).length = ds.length + 1 from by simp] at ho7 hk7 ⊢); (have HO7 := Lib.hid ho7); (have d1 := c1.below n7.below (show B + 1 < B7 by omega)); (have d0 := c0.below n7.below (show B < B7 by omega))))
          go_roundw
          case rel =>
            refine ⟨k + 7, _, _, by omega, by have := HK7.out; omega, by first | rfl | go_num, by simp; omega, inferInstance, inferInstance, Own.heapB HO7.out (fun q hq => ?_), (HLW2.out.below n7.below).set (.inl rfl), ?_⟩
            · rw [Below.heap_setCell _ _ _ _ (by show q ≠ B + 1; omega)]
            · have hBW := HBW.out
              exact Ext.setCell (Below.trans HXW.out (Below.mono n7.below (by omega))) (by show w.heap.size ≤ B + 1; omega) _
          case measure => simp [intOf]; omega
        · obtain rfl : k = d.length := by omega
          go_wp2_with (first | ((with_reducible apply wl_store' lwScan); (· (first | exact wanted_none rfl | exact wanted_some rfl rfl rfl)); (· rfl); (· rfl); (· infer_instance); (· rfl); (· rfl); (· (simp [Value.oneCell', SlT.v])); try simp only [setRow_alloc, setRow_new, setRow_new1, setRow_new2, setRow_new11, setRow_new111]) | ((with_reducible apply wl_load' lwScan); (· (first | exact wanted_none rfl | exact wanted_some rfl rfl rfl)); (· rfl); (· infer_instance); (· rfl)))
          refine bodyPost_ret (results_cs (b0 := B) rfl lwScan rfl rfl inferInstance rfl) rfl ⟨_, _, true, gs, ds, rfl, ?_, ?_, ?_⟩
          · exact HRG.out _ (HLW.out.setRow (.inr rfl))
          · exact Own.slice encDf_len (Own.heapB HO.out (fun q hq => heap_setRow_ne _ _ _ (by omega)))
          · exact ExtOf.of (Ext.setRow HX.out (by rw [HBW.out]; exact Nat.le_refl _) _)
end Go.Proofs.YtjfohapnjnopfaaGreatDoor
