/-
  Chapter 26: awake: the examples of the chapter hold.
-/
import Derived.Test.YtdalbfanfbeckaaGreatDoorK42
import Derived.Test.YtdalbfanfbeckaaGreatDoorR44
import Derived.Test.YtdalbfanfbeckaaGreatDoorK49
set_option linter.unusedVariables false
set_option linter.unusedSimpArgs false
namespace Go.Proofs.YtdalbfanfbeckaaGreatDoor
open Go.RowKit TrimM

theorem aK0 : chkE bd0.b [] prod0 500 5 15 = 0 := chk0
theorem aK1 : chkE bd0.b [knot0] prod0 500 5 15 = 0 := chk1
theorem aP0 : bpP bd0.b [] prod0 500 5 15 = [(1, 0)] := by
  unfold bpP
  rw [if_pos aK0]
  show (bestL (TrimM.line box0 [] prod0 500 5 15) 0).map pc = _
  rw [best0.1]; rfl
theorem aV0 : bpV bd0.b [] prod0 500 5 15 = 70 := by
  unfold bpV
  rw [if_pos aK0]
  exact best0.2
theorem aP1 : bpP bd0.b [knot0] prod0 500 5 15 = [(1, 2)] := by
  unfold bpP
  rw [if_pos aK1]
  show (bestL (TrimM.line box0 [knot0] prod0 500 5 15) 0).map pc = _
  rw [best1.1]; rfl
theorem aV1 : bpV bd0.b [knot0] prod0 500 5 15 = 70 := by
  unfold bpV
  rw [if_pos aK1]
  exact best1.2
theorem aE : boardsE bd0.b [knot0] prod0 500 5 [(1, 2)] = 0 := by
  show boardsE box0 [knot0] prod0 500 5 [(1, 2)] = 0
  unfold boardsE
  rw [if_neg (by rw [chk2]; decide), cuts2]
theorem aY : boardsY bd0.b [knot0] prod0 500 5 [(1, 2)] = [(⟨0, 105, 0, 42, 2000, 4000⟩, [])] := by
  unfold boardsY
  rw [if_pos aE]
  show (boardsM (TrimM.line box0 [knot0] prod0 500 5 0) 500 [(1, 2)]).map _ = _
  rw [boards2]
  show [(_, TrimM.clip [knot0] (box0.part 1000 3000))] = _
  rw [clip2]; rfl
theorem aD : dustY bd0.b [knot0] prod0 500 5 [(1, 2)] = [⟨0, 105, 0, 42, 1500, 1505⟩] := by
  unfold dustY
  rw [if_pos aE]
  show (dustsM (TrimM.line box0 [knot0] prod0 500 5 0) 500 5 0 [(1, 2)]).map _ = _
  rw [dusts2]; rfl
theorem aC : chipY bd0.b [knot0] prod0 500 5 [(1, 2)] = [⟨0, 105, 0, 42, 1000, 1500⟩, ⟨0, 105, 0, 42, 1505, 2000⟩] := by
  unfold chipY
  rw [if_pos aE]
  show (TrimM.gaps 3000 0 (takenT box0 [knot0] prod0 500 5 0 [(1, 2)])).map _ = _
  rw [chips2]; rfl
attribute [local go_sem] ExtOf.cell ExtOf.frozen ExtS.cell ExtS.frozen Block.cell Block.frozen ExtB.cell ExtB.frozen alloc_cell alloc_frozen equal_piece equalX_piece eqGuard_piece equal_span equalX_span eqGuard_span
set_option maxHeartbeats 3200000 in
set_option maxRecDepth 20000 in
theorem awake_any (w : World) (htab : Tab w) : Calls Tryz.prog 5 #[] w fun e w' => e = .returned (.bool true) ∧ ∃ n : ExtOf w, w' = n.val := by
  have HTB := Lib.hid htab
  clear htab
  go_enter Tryz.func5, Tryz.ntmps5
  go_wp2_with fail
  refine (sample_any _).mono ?_
  rintro e w' ⟨lv, pv, rfl, hl, hp, ns, rfl⟩
  obtain ⟨lq, lcap, rfl, hl1, hl2, hl3⟩ := SliceOf.form hl
  obtain ⟨pq, pcap, rfl, hp1, hp2, hp3⟩ := SliceOf.form hp
  have HL := Lib.hid hl
  have HP := Lib.hid hp
  clear hl hp
  unfold gvC
  go_wp2_with (first | ((with_reducible apply wl_load' lwGiven); (· (first | exact wanted_none rfl | exact wanted_some rfl rfl rfl)); (· rfl); (· infer_instance); (· rfl)) | ((with_reducible apply wl_store' lwGiven); (· (first | exact wanted_none rfl | exact wanted_some rfl rfl rfl)); (· rfl); (· rfl); (· infer_instance); (· rfl); (· rfl); (· (simp [Value.oneCell'])); try simp only [setRow_alloc, setRow_new, setRow_new1, setRow_new2, setRow_new11, setRow_new111]) | ((with_reducible apply wl_loadB midBd); (· (first | exact wanted_none rfl | exact wanted_some rfl rfl rfl)); (· rfl); (· infer_instance); (· rfl); (· rfl)) | ((with_reducible apply wl_loadB midPd); (· (first | exact wanted_none rfl | exact wanted_some rfl rfl rfl)); (· rfl); (· infer_instance); (· rfl); (· rfl)))
  refine (lbest_any bd0 _ [] prod0 _ _ 500 5 15 _ (SliceOf.nil _) (SliceOf.ext HL.out (by repeat' (first | (with_reducible exact Ext.refl _) | (with_reducible exact ExtOf.ext _) | (with_reducible refine Ext.trans ?_ (ExtOf.ext _)) | (with_reducible refine Ext.alloc ?_ _) | (with_reducible refine Ext.drew ?_) | (with_reducible refine Ext.setCell ?_ ?_ _) | (with_reducible refine Ext.setRow ?_ ?_ _) | (with_reducible exact HX.out) | (with_reducible refine Ext.trans ?_ HX.out) | (with_reducible refine Ext.below ?_ (Nat.le_refl _) _) | omega | (simp; done) | (simp; omega)))) (SliceOf.ext HP.out (by repeat' (first | (with_reducible exact Ext.refl _) | (with_reducible exact ExtOf.ext _) | (with_reducible refine Ext.trans ?_ (ExtOf.ext _)) | (with_reducible refine Ext.alloc ?_ _) | (with_reducible refine Ext.drew ?_) | (with_reducible refine Ext.setCell ?_ ?_ _) | (with_reducible refine Ext.setRow ?_ ?_ _) | (with_reducible exact HX.out) | (with_reducible refine Ext.trans ?_ HX.out) | (with_reducible refine Ext.below ?_ (Nat.le_refl _) _) | omega | (simp; done) | (simp; omega)))) (Tab.ext HTB.out (by repeat' (first | (with_reducible exact Ext.refl _) | (with_reducible exact ExtOf.ext _) | (with_reducible refine Ext.trans ?_ (ExtOf.ext _)) | (with_reducible refine Ext.alloc ?_ _) | (with_reducible refine Ext.drew ?_) | (with_reducible refine Ext.setCell ?_ ?_ _) | (with_reducible refine Ext.setRow ?_ ?_ _) | (with_reducible exact HX.out) | (with_reducible refine Ext.trans ?_ HX.out) | (with_reducible refine Ext.below ?_ (Nat.le_refl _) _) | omega | (simp; done) | (simp; omega))))).mono ?_
  rintro e w' ⟨va, rfl, hoa, na, rfl⟩
  rw [aV0, aK0]
  rw [aP0] at hoa
  have hsa := Own.slice encSp_len hoa
  obtain ⟨ga, ka, rfl, hga, hgb⟩ := Own.formS (l := []) hoa
  replace hga : ns.val.heap.size < ga := by simp at hga; omega
  have HSA := Lib.hid hsa
  have oga : Old ga na.val := ⟨hgb⟩
  have ap1 : Apart ns.val.heap.size ga := ⟨by omega⟩
  have hns : ns.val.heap.size < na.val.heap.size := by have := na.size; simp at this; omega
  clear hsa hoa
  go_wp2_with (first | ((with_reducible apply wl_load' lwGiven); (· (first | exact wanted_none rfl | exact wanted_some rfl rfl rfl)); (· rfl); (· infer_instance); (· rfl)) | ((with_reducible apply wl_store' lwGiven); (· (first | exact wanted_none rfl | exact wanted_some rfl rfl rfl)); (· rfl); (· rfl); (· infer_instance); (· rfl); (· rfl); (· (simp [Value.oneCell'])); try simp only [setRow_alloc, setRow_new, setRow_new1, setRow_new2, setRow_new11, setRow_new111]) | ((with_reducible apply wl_loadB midBd); (· (first | exact wanted_none rfl | exact wanted_some rfl rfl rfl)); (· rfl); (· infer_instance); (· rfl); (· rfl)) | ((with_reducible apply wl_loadB midPd); (· (first | exact wanted_none rfl | exact wanted_some rfl rfl rfl)); (· rfl); (· infer_instance); (· rfl); (· rfl)))
  have ap2 : Apart ns.val.heap.size na.val.heap.size := ⟨by omega⟩
  refine nameW (R := fun W => Calls _ _ _ W _) (fun W => Hid (Ext ns.val W) ∧ Block W ns.val.heap.size #[.string bd0.id, .string bd0.lg, .string bd0.sp, .int .i64 bd0.pr, .int .i64 bd0.b.xa, .int .i64 bd0.b.xb, .int .i64 bd0.b.ya, .int .i64 bd0.b.yb, .int .i64 bd0.b.za, .int .i64 bd0.b.zb, .int .i64 bd0.vol, .slice (some ⟨na.val.heap.size, 0, none⟩) 1 1, .int .i64 bd0.wa, .int .i64 bd0.su, .int .i64 bd0.co, .int .i64 bd0.st, .bool bd0.dr, .int .i64 bd0.gr, .string prod0.nm, .int .i64 prod0.th, .int .i64 prod0.wi, .int .i64 prod0.al, .int .i64 prod0.wa, .slice lq prod0.ls.length lcap, .slice pq prod0.ps.length pcap, .int .i64 500, .int .i64 5, .int .i64 15] ∧ Block W na.val.heap.size #[.int .i64 1, .int .i64 0, .int .i64 9, .int .i64 0, .int .i64 9, .int .i64 100, .int .i64 150] ∧ Hid (SpS W (.slice (some ⟨ga, 0, none⟩) (0 + 1) ka) [(1, 0)]) ∧ Old ga W) ⟨Lib.hid ?_, ?_, ?_, Lib.hid ?_, ?_⟩ ?_
  · repeat' (first | (with_reducible exact Ext.refl _) | (with_reducible exact ExtOf.ext _) | (with_reducible refine Ext.trans ?_ (ExtOf.ext _)) | (with_reducible refine Ext.alloc ?_ _) | (with_reducible refine Ext.drew ?_) | (with_reducible refine Ext.setCell ?_ ?_ _) | (with_reducible refine Ext.setRow ?_ ?_ _) | (with_reducible exact HX.out) | (with_reducible refine Ext.trans ?_ HX.out) | (with_reducible refine Ext.below ?_ (Nat.le_refl _) _) | omega | (simp; done) | (simp; omega))
  · infer_instance
  · infer_instance
  · exact SliceOf.ext (SliceOf.set_other HSA.out (fun a ha => by cases ha; exact Nat.ne_of_gt hga)) (Ext.alloc (Ext.refl _) _)
  · exact ⟨by rw [World.size_alloc, setCell_size]; omega⟩
  rintro W2 ⟨HE2, k0, k1, HSA2, og2⟩
  obtain ⟨gg, hgg⟩ : ∃ g, g = ns.val.heap.size := ⟨_, rfl⟩
  obtain ⟨gd, hgd⟩ : ∃ g, g = na.val.heap.size := ⟨_, rfl⟩
  have HL2 := Lib.hid (SliceOf.ext HL.out HE2.out)
  have HP2 := Lib.hid (SliceOf.ext HP.out HE2.out)
  have HTB2 := Lib.hid (Tab.ext HTB.out ((ExtOf.ext ns).trans HE2.out))
  have HX : Hid (Ext w W2) := Lib.hid ((ExtOf.ext ns).trans HE2.out)
  rw [← hgg] at k0 ⊢
  rw [← hgd] at k0 k1 ⊢
  have ok0 := k0.old
  have ok1 := k1.old
  clear ap1 ap2 hga hgb hns HSA oga hgg hgd HL HP HTB HE2
  refine (lbest_any bd0 _ [knot0] prod0 _ _ 500 5 15 _ (slice_lit encDf_len (g := gd) k1 rfl (by decide)) HL2.out HP2.out HTB2.out).mono ?_
  rintro e w' ⟨vb, rfl, hob, nb, rfl⟩
  rw [aV1, aK1]
  rw [aP1] at hob
  have hsb := Own.slice encSp_len hob
  obtain ⟨gb, kb, rfl, hgb, hgb2⟩ := Own.formS (l := []) hob
  have HSB := Lib.hid hsb
  have ogb : Old gb nb.val := ⟨hgb2⟩
  clear hob hsb
  go_wp2_with (first | ((with_reducible apply wl_load' lwGiven); (· (first | exact wanted_none rfl | exact wanted_some rfl rfl rfl)); (· rfl); (· infer_instance); (· rfl)) | ((with_reducible apply wl_store' lwGiven); (· (first | exact wanted_none rfl | exact wanted_some rfl rfl rfl)); (· rfl); (· rfl); (· infer_instance); (· rfl); (· rfl); (· (simp [Value.oneCell'])); try simp only [setRow_alloc, setRow_new, setRow_new1, setRow_new2, setRow_new11, setRow_new111]) | ((with_reducible apply wl_loadB midBd); (· (first | exact wanted_none rfl | exact wanted_some rfl rfl rfl)); (· rfl); (· infer_instance); (· rfl); (· rfl)) | ((with_reducible apply wl_loadB midPd); (· (first | exact wanted_none rfl | exact wanted_some rfl rfl rfl)); (· rfl); (· infer_instance); (· rfl); (· rfl)))
  refine (boards_any bd0 (.slice (some ⟨gd, 0, none⟩) 1 1) [knot0] prod0 _ _ 500 5 [(1, 2)] _ _ (SliceOf.ext (slice_lit (l := [knot0]) encDf_len (g := gd) k1 rfl (by decide)) (Ext.alloc (ExtOf.ext nb) _)) (SliceOf.ext HL2.out (Ext.alloc (ExtOf.ext nb) _)) (SliceOf.ext HP2.out (Ext.alloc (ExtOf.ext nb) _)) (slice_lit (l := [((1 : Int), (2 : Int))]) encSp_len (g := nb.val.heap.size) (Block.new _ _ _) rfl (by decide)) (by decide)).mono ?_
  rintro e w' ⟨vs, vd, vc, rfl, hbs, hds, hcs, nc, rfl⟩
  rw [aE]
  rw [aY] at hbs
  rw [aD] at hds
  rw [aC] at hcs
  obtain ⟨rows, hr, hlen, hrd⟩ := hbs
  obtain ⟨⟨⟨pr, pn, pc⟩, bx⟩, rfl⟩ : ∃ r, rows = [r] := List.length_eq_one_iff.1 hlen
  obtain ⟨hr2, hdf⟩ := hrd 0 _ _ rfl rfl
  simp only at hr2 hdf
  subst hr2
  obtain ⟨qd', cd', e0, _, _, _⟩ := SliceOf.form hdf
  obtain rfl : pn = 0 := by
    have e1 : Value.slice pr pn pc = .slice qd' 0 cd' := e0
    injection e1
  obtain ⟨pv, cv, ev, _, _, _⟩ := SliceOf.form hr
  replace ev : vs = .slice pv 1 cv := ev
  subst ev
  obtain ⟨bs, os, rfl, rs⟩ := SliceOf.elemK hr (i := 0) Nat.zero_lt_one
  obtain ⟨pw, cw, ev, _, _, _⟩ := SliceOf.form hds
  replace ev : vd = .slice pw 1 cw := ev
  subst ev
  obtain ⟨bd, od, rfl, rd⟩ := SliceOf.elemK hds (i := 0) (by decide)
  obtain ⟨pu, cu, ev, _, _, _⟩ := SliceOf.form hcs
  replace ev : vc = .slice pu 2 cu := ev
  subst ev
  obtain ⟨bc, oc, rfl, rc⟩ := SliceOf.elemK hcs (i := 1) (by decide)
  have rs8 : nc.val.rangeAt bs (os + 8) [.int .i64 2000, .int .i64 4000] := range_at 8 2 rs rfl
  have cs11 : nc.val.cell? ⟨bs, os + 11, none⟩ = some (.slice pr 0 pc) := rs 11 _ rfl
  have rd4 : nc.val.rangeAt bd (od + 4) [.int .i64 1500, .int .i64 1505] := range_at 4 2 rd rfl
  have rc4 : nc.val.rangeAt bc (oc + 6 + 4) [.int .i64 1505, .int .i64 2000] := range_at 4 2 rc rfl
  have HXN : Ext W2 nc.val := ((ExtOf.ext nb).alloc _).trans (ExtOf.ext nc)
  have HXN2 : Ext nb.val nc.val := ((Ext.refl _).alloc _).trans (ExtOf.ext nc)
  obtain ⟨b1, o1, e1, ra⟩ := SliceOf.elemK (SliceOf.ext HSA2.out HXN) (i := 0) (by decide)
  cases e1
  obtain ⟨b1, o1, e1, rb⟩ := SliceOf.elemK (SliceOf.ext HSB.out HXN2) (i := 0) (by decide)
  cases e1
  have rA : nc.val.rangeAt ga 0 [.int .i64 1, .int .i64 0] := ra
  have rB : nc.val.rangeAt gb 0 [.int .i64 1, .int .i64 2] := rb
  have q1 : Old bs nc.val := Old.of_cell cs11
  have q2 : Old bd nc.val := Old.of_cell (rd4 0 _ rfl)
  have q3 : Old bc nc.val := Old.of_cell (rc4 0 _ rfl)
  have q4 : Old ga nc.val := Old.of_cell (rA 0 _ rfl)
  have q5 : Old gb nc.val := Old.of_cell (rB 0 _ rfl)
  have RS8 := Lib.hid rs8
  have RD4 := Lib.hid rd4
  have RC4 := Lib.hid rc4
  have RA := Lib.hid rA
  have RB := Lib.hid rB
  clear hr hlen hrd hdf e0 hds hcs rs rd rc rs8 rd4 rc4 ra rb rA rB HXN HXN2 HSA2 HSB
  go_wp2_with (first | first | ((with_reducible apply wl_load' lwGiven); (· (first | exact wanted_none rfl | exact wanted_some rfl rfl rfl)); (· rfl); (· infer_instance); (· rfl)) | ((with_reducible apply wl_store' lwGiven); (· (first | exact wanted_none rfl | exact wanted_some rfl rfl rfl)); (· rfl); (· rfl); (· infer_instance); (· rfl); (· rfl); (· (simp [Value.oneCell'])); try simp only [setRow_alloc, setRow_new, setRow_new1, setRow_new2, setRow_new11, setRow_new111]) | ((with_reducible apply wl_loadB midBd); (· (first | exact wanted_none rfl | exact wanted_some rfl rfl rfl)); (· rfl); (· infer_instance); (· rfl); (· rfl)) | ((with_reducible apply wl_loadB midPd); (· (first | exact wanted_none rfl | exact wanted_some rfl rfl rfl)); (· rfl); (· infer_instance); (· rfl); (· rfl)) | ((with_reducible refine wl_loadM midPiece (Ext.range ?_ (Hid.out RA)) ?_ ?_ ?_ ?_); (· repeat' (first | (with_reducible exact Ext.refl _) | (with_reducible exact ExtOf.ext _) | (with_reducible refine Ext.trans ?_ (ExtOf.ext _)) | (with_reducible refine Ext.alloc ?_ _) | (with_reducible refine Ext.drew ?_) | (with_reducible refine Ext.setCell ?_ ?_ _) | (with_reducible refine Ext.setRow ?_ ?_ _) | (with_reducible exact HX.out) | (with_reducible refine Ext.trans ?_ HX.out) | (with_reducible refine Ext.below ?_ (Nat.le_refl _) _) | omega | (simp; done) | (simp; omega))); (· rfl); (· (first | exact wanted_none rfl | exact wanted_some rfl rfl rfl)); (· rfl)) | ((with_reducible refine wl_loadM midPiece (Ext.range ?_ (Hid.out RB)) ?_ ?_ ?_ ?_); (· repeat' (first | (with_reducible exact Ext.refl _) | (with_reducible exact ExtOf.ext _) | (with_reducible refine Ext.trans ?_ (ExtOf.ext _)) | (with_reducible refine Ext.alloc ?_ _) | (with_reducible refine Ext.drew ?_) | (with_reducible refine Ext.setCell ?_ ?_ _) | (with_reducible refine Ext.setRow ?_ ?_ _) | (with_reducible exact HX.out) | (with_reducible refine Ext.trans ?_ HX.out) | (with_reducible refine Ext.below ?_ (Nat.le_refl _) _) | omega | (simp; done) | (simp; omega))); (· rfl); (· (first | exact wanted_none rfl | exact wanted_some rfl rfl rfl)); (· rfl)) | ((with_reducible refine wl_loadM midSpan (Ext.range ?_ (Hid.out RS8)) ?_ ?_ ?_ ?_); (· repeat' (first | (with_reducible exact Ext.refl _) | (with_reducible exact ExtOf.ext _) | (with_reducible refine Ext.trans ?_ (ExtOf.ext _)) | (with_reducible refine Ext.alloc ?_ _) | (with_reducible refine Ext.drew ?_) | (with_reducible refine Ext.setCell ?_ ?_ _) | (with_reducible refine Ext.setRow ?_ ?_ _) | (with_reducible exact HX.out) | (with_reducible refine Ext.trans ?_ HX.out) | (with_reducible refine Ext.below ?_ (Nat.le_refl _) _) | omega | (simp; done) | (simp; omega))); (· rfl); (· (first | exact wanted_none rfl | exact wanted_some rfl rfl rfl)); (· rfl)) | ((with_reducible refine wl_loadM midSpan (Ext.range ?_ (Hid.out RD4)) ?_ ?_ ?_ ?_); (· repeat' (first | (with_reducible exact Ext.refl _) | (with_reducible exact ExtOf.ext _) | (with_reducible refine Ext.trans ?_ (ExtOf.ext _)) | (with_reducible refine Ext.alloc ?_ _) | (with_reducible refine Ext.drew ?_) | (with_reducible refine Ext.setCell ?_ ?_ _) | (with_reducible refine Ext.setRow ?_ ?_ _) | (with_reducible exact HX.out) | (with_reducible refine Ext.trans ?_ HX.out) | (with_reducible refine Ext.below ?_ (Nat.le_refl _) _) | omega | (simp; done) | (simp; omega))); (· rfl); (· (first | exact wanted_none rfl | exact wanted_some rfl rfl rfl)); (· rfl)) | ((with_reducible refine wl_loadM midSpan (Ext.range ?_ (Hid.out RC4)) ?_ ?_ ?_ ?_); (· repeat' (first | (with_reducible exact Ext.refl _) | (with_reducible exact ExtOf.ext _) | (with_reducible refine Ext.trans ?_ (ExtOf.ext _)) | (with_reducible refine Ext.alloc ?_ _) | (with_reducible refine Ext.drew ?_) | (with_reducible refine Ext.setCell ?_ ?_ _) | (with_reducible refine Ext.setRow ?_ ?_ _) | (with_reducible exact HX.out) | (with_reducible refine Ext.trans ?_ HX.out) | (with_reducible refine Ext.below ?_ (Nat.le_refl _) _) | omega | (simp; done) | (simp; omega))); (· rfl); (· (first | exact wanted_none rfl | exact wanted_some rfl rfl rfl)); (· rfl)))
  go_ret
  exact ⟨rfl, by exact ExtOf.of (by repeat' (first | (with_reducible exact Ext.refl _) | (with_reducible exact ExtOf.ext _) | (with_reducible refine Ext.trans ?_ (ExtOf.ext _)) | (with_reducible refine Ext.alloc ?_ _) | (with_reducible refine Ext.drew ?_) | (with_reducible refine Ext.setCell ?_ ?_ _) | (with_reducible refine Ext.setRow ?_ ?_ _) | (with_reducible exact HX.out) | (with_reducible refine Ext.trans ?_ HX.out) | (with_reducible refine Ext.below ?_ (Nat.le_refl _) _) | omega | (simp; done) | (simp; omega)))⟩
end Go.Proofs.YtdalbfanfbeckaaGreatDoor
