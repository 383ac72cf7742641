/-
  Chapter 59: several texts in one (S9, S10).
-/
import Derived.Test.YteokijolhbohaaaGreatDoorK7
import Derived.Test.YteokijolhbohaaaGreatDoorK5
/-
  Chapter 59: catalogs of species.
-/
section
set_option linter.unusedVariables false
set_option linter.unusedSimpArgs false
namespace Go.Proofs.YteokijolhbohaaaGreatDoor
open Go.RowKit StM

attribute [local go_sem] ExtOf.cell ExtOf.frozen Block.cell Block.frozen ExtB.cell ExtB.frozen alloc_cell alloc_frozen
def zSpc : Spc := ⟨.empty, 0, 0, 0, 0, 0, 0, 0, 0, 0, 0, 0, 0⟩
theorem spcE_name {a : List Spc} {x : Spc} (h : nameL x.nm.data.toList = false) : spcE a x = 6 := by unfold spcE; rw [if_pos h]
theorem spcE_dup {a : List Spc} {x : Spc} (h : nameL x.nm.data.toList = true) (h2 : hasN Spc.nm x.nm a = true) : spcE a x = 7 := by unfold spcE; rw [if_neg (by rw [h]; simp), if_pos h2]
theorem spcE_num {a : List Spc} {x : Spc} (h : nameL x.nm.data.toList = true) (h2 : hasN Spc.nm x.nm a = false) : spcE a x = if x.ok = true then 0 else 9 := by unfold spcE; rw [if_neg (by rw [h]; simp), if_neg (by rw [h2]; simp)]
/-- the species that is found -/
def spcAt (s : ByteArray) (l : List Spc) : Spc := ((l.find? fun x => eqS x.nm s)).getD zSpc
theorem spcAt_at (s : ByteArray) (l : List Spc) {k : Nat} (h : k < l.length) (h0 : hasN Spc.nm s (l.take k) = false) (h1 : eqS l[k].nm s = true) : spcAt s l = l[k] := by
  unfold spcAt
  have : (l.find? fun x => eqS x.nm s) = some l[k] := by
    rw [List.find?_eq_some_iff_getElem]
    refine ⟨h1, k, h, rfl, fun j hj => ?_⟩
    unfold hasN at h0
    rw [List.any_eq_false] at h0
    have := h0 l[j] (by rw [List.mem_take_iff_getElem]; exact ⟨j, by omega, rfl⟩)
    simpa using this
  rw [this]; rfl
theorem spcAt_none (s : ByteArray) (l : List Spc) (h0 : hasN Spc.nm s l = false) : spcAt s l = zSpc := by
  unfold spcAt
  have : (l.find? fun x => eqS x.nm s) = none := by
    rw [List.find?_eq_none]
    unfold hasN at h0
    rw [List.any_eq_false] at h0
    exact h0
  rw [this]; rfl
theorem ret_cb {x y : Array Value} {b c : Bool} (hi : x = y) (h : b = c) : Ending.returned (.tuple #[.agg x, .bool b]) = .returned (.tuple #[.agg y, .bool c]) := by rw [hi, h]
set_option maxHeartbeats 1600000 in
set_option maxRecDepth 20000 in
theorem wfind_any (l : List Spc) (v : Value) (s : ByteArray) (w : World) (h : SpcS w v l) : Calls Tryz.prog 42 #[v, .string s] w fun e w' => e = .returned (.tuple #[.agg (spcC (spcAt s l)), .bool (hasN Spc.nm s l)]) ∧ ∃ n : ExtOf w, w' = n.val := by
  obtain ⟨p, cap, rfl, hc1, hc2, hc3⟩ := SliceOf.form h
  unfold maxLen at hc2
  have H := Lib.hid h
  clear h
  go_enter Tryz.func42, Tryz.ntmps42
  go_wp2_with fail
  have hb0 : Block (w.alloc (.cells (spcC zSpc) 42)) w.heap.size (spcC zSpc) := inferInstance
  obtain ⟨g, hg⟩ : ∃ g, g = w.heap.size := ⟨_, rfl⟩
  go_loopw [10] (fun vi wr => ∃ k : Nat, k ≤ l.length ∧ vi = .int .i64 k ∧ hasN Spc.nm s (l.take k) = false ∧ Ext w wr ∧ Block wr w.heap.size (spcC zSpc)) (fun i _ => l.length - (intOf i).toNat)
  case atStart => exact ⟨0, by omega, rfl, rfl, by with_reducible repeat' (first | exact Ext.refl _ | exact ExtOf.ext _ | refine Ext.trans ?_ (ExtOf.ext _) | refine Ext.alloc ?_ _ | refine Ext.drew ?_ | refine Ext.setCell ?_ ?_ _ | refine Ext.setRow ?_ ?_ _ | exact HX.out | refine Ext.trans ?_ HX.out | omega | (simp; done) | (simp; omega)), hb0⟩
  case round =>
    clear hb0
    obtain ⟨k, hk, rfl, hd, hx, hb⟩ := hrel
    have HX := Lib.hid hx
    have HD := Lib.hid hd
    have ob := hb.old
    unfold spcC zSpc at hb
    clear hx hd
    by_cases hlt : k < l.length
    · obtain ⟨b, off, rfl, ob2, hr⟩ := SliceOf.elemO (SliceOf.ext H.out HX.out) hlt (by decide) (encSpc_len _)
      have HS := Lib.hid (hasN_take Spc.nm s l hlt)
      have HO : Hid (eqS (Spc.nm l[k]) s = true → hasN Spc.nm s l = true ∧ spcAt s l = l[k]) := Lib.hid (fun e => ⟨hasN_of Spc.nm s l hlt e, spcAt_at s l hlt HD.out e⟩)
      obtain ⟨⟨nm, gr, fa, sl, sa, mg, cr, mt, md, de, st, kn, sh⟩, he⟩ : ∃ z, z = l[k] := ⟨_, rfl⟩
      rw [← he] at hr HS HO
      clear he
      have HR : Hid (wr.rangeAt b (off + k * 13) [.string nm, .int .i64 gr, .int .i64 fa, .int .i64 sl, .int .i64 sa, .int .i64 mg, .int .i64 cr, .int .i64 mt, .int .i64 md, .int .i64 de, .int .i64 st, .int .i64 kn, .int .i64 sh]) := Lib.hid hr
      clear hr
      rcases q : (nm.toList == s.toList) with _ | _
      · go_wp2_with (first | ((with_reducible refine wl_loadM midSpc (Ext.range ?_ (Hid.out HR)) ?_ ?_ ?_ ?_); (· with_reducible repeat' (first | exact Ext.refl _ | exact ExtOf.ext _ | refine Ext.trans ?_ (ExtOf.ext _) | refine Ext.alloc ?_ _ | refine Ext.drew ?_ | refine Ext.setCell ?_ ?_ _ | refine Ext.setRow ?_ ?_ _ | exact HX.out | refine Ext.trans ?_ HX.out | omega | (simp; done) | (simp; omega))); (· rfl); (· (first | exact wanted_none rfl | exact wanted_some rfl rfl rfl)); (· rfl)) | ((with_reducible apply wl_store' lwSpc); (· (first | exact wanted_none rfl | exact wanted_some rfl rfl rfl)); (· rfl); (· rfl); (· infer_instance); (· rfl); (· rfl); (· (simp [Value.oneCell', SlT.v])); try simp only [setRow_alloc, setRow_new, setRow_new1, setRow_new2, setRow_new11, setRow_new111]))
        go_roundw
        case rel => exact ⟨k + 1, by omega, by first | rfl | go_num, by rw [HS.out, HD.out]; exact q, HX.out.trans (by with_reducible repeat' (first | exact Ext.refl _ | exact ExtOf.ext _ | refine Ext.trans ?_ (ExtOf.ext _) | refine Ext.alloc ?_ _ | refine Ext.drew ?_ | refine Ext.setCell ?_ ?_ _ | refine Ext.setRow ?_ ?_ _ | exact HX.out | refine Ext.trans ?_ HX.out | omega | (simp; done) | (simp; omega))), by unfold spcC zSpc; infer_instance⟩
        case measure => simp [intOf]; omega
      · have HT := Lib.hid (HO.out q)
        go_wp2_with (first | ((with_reducible refine wl_loadM midSpc (Ext.range ?_ (Hid.out HR)) ?_ ?_ ?_ ?_); (· with_reducible repeat' (first | exact Ext.refl _ | exact ExtOf.ext _ | refine Ext.trans ?_ (ExtOf.ext _) | refine Ext.alloc ?_ _ | refine Ext.drew ?_ | refine Ext.setCell ?_ ?_ _ | refine Ext.setRow ?_ ?_ _ | exact HX.out | refine Ext.trans ?_ HX.out | omega | (simp; done) | (simp; omega))); (· rfl); (· (first | exact wanted_none rfl | exact wanted_some rfl rfl rfl)); (· rfl)) | ((with_reducible apply wl_load' lwSpc); (· (first | exact wanted_none rfl | exact wanted_some rfl rfl rfl)); (· rfl); (· infer_instance); (· rfl)) | ((with_reducible apply wl_store' lwSpc); (· (first | exact wanted_none rfl | exact wanted_some rfl rfl rfl)); (· rfl); (· rfl); (· infer_instance); (· rfl); (· rfl); (· (simp [Value.oneCell', SlT.v])); try simp only [setRow_alloc, setRow_new, setRow_new1, setRow_new2, setRow_new11, setRow_new111]))
        exact bodyPost_ret (results_cs (b0 := w.heap.size) rfl lwSpc rfl rfl inferInstance rfl) rfl ⟨ret_cb (by rw [HT.out.2]; rfl) HT.out.1.symm, by exact ExtOf.of (by with_reducible repeat' (first | exact Ext.refl _ | exact ExtOf.ext _ | refine Ext.trans ?_ (ExtOf.ext _) | refine Ext.alloc ?_ _ | refine Ext.drew ?_ | refine Ext.setCell ?_ ?_ _ | refine Ext.setRow ?_ ?_ _ | exact HX.out | refine Ext.trans ?_ HX.out | omega | (simp; done) | (simp; omega)))⟩
    · obtain rfl : k = l.length := by omega
      have HT : Hid (hasN Spc.nm s l = false) := Lib.hid (by have := HD.out; rwa [List.take_length] at this)
      go_wp2_with (((with_reducible apply wl_store' lwSpc); (· (first | exact wanted_none rfl | exact wanted_some rfl rfl rfl)); (· rfl); (· rfl); (· infer_instance); (· rfl); (· rfl); (· (simp [Value.oneCell', SlT.v])); try simp only [setRow_alloc, setRow_new, setRow_new1, setRow_new2, setRow_new11, setRow_new111]))
      exact bodyPost_ret (results_cs (b0 := w.heap.size) rfl lwSpc rfl rfl inferInstance rfl) rfl ⟨ret_cb (by rw [spcAt_none s l HT.out]; rfl) HT.out.symm, by exact ExtOf.of (by with_reducible repeat' (first | exact Ext.refl _ | exact ExtOf.ext _ | refine Ext.trans ?_ (ExtOf.ext _) | refine Ext.alloc ?_ _ | refine Ext.drew ?_ | refine Ext.setCell ?_ ?_ _ | refine Ext.setRow ?_ ?_ _ | exact HX.out | refine Ext.trans ?_ HX.out | omega | (simp; done) | (simp; omega)))⟩
theorem zeroSpcd (W : World) : (Instr.alloc 42 true (.tuple #[])).run Tryz.prog W = .ok (.pointer (some ⟨W.heap.size, 0, none⟩)) (W.alloc (.cells #[.string .empty, .int .i64 0, .int .i64 0, .int .i64 0, .int .i64 0, .int .i64 0, .int .i64 0, .int .i64 0, .int .i64 0, .int .i64 0, .int .i64 0, .int .i64 0, .int .i64 0] 42)) := by kernel_rfl
set_option maxHeartbeats 1600000 in
set_option maxRecDepth 20000 in
theorem wCheck_any (l : List Spc) (v : Value) (w : World) (h : SpcS w v l) : Calls Tryz.prog 16 #[v] w fun e w' => e = .returned (.int .i64 (speciesE l)) ∧ ∃ n : ExtOf w, w' = n.val := by
  obtain ⟨p, cap, rfl, hc1, hc2, hc3⟩ := SliceOf.form h
  unfold maxLen at hc2
  have H := Lib.hid h
  clear h
  by_cases h16 : 8 < l.length
  · have q1 : decide (8 < (l.length : Int)) = true := decide_eq_true (by omega)
    have HE : Hid (speciesE l = 4) := Lib.hid (by unfold speciesE; rw [if_pos h16])
    go_enter Tryz.func16, Tryz.ntmps16
    go_wp2_with fail
    go_ret
    exact ⟨ret_int HE.out.symm, by exact ExtOf.of (by with_reducible repeat' (first | exact Ext.refl _ | exact ExtOf.ext _ | refine Ext.trans ?_ (ExtOf.ext _) | refine Ext.alloc ?_ _ | refine Ext.drew ?_ | refine Ext.setCell ?_ ?_ _ | refine Ext.setRow ?_ ?_ _ | exact HX.out | refine Ext.trans ?_ HX.out | omega | (simp; done) | (simp; omega)))⟩
  have q1 : decide (8 < (l.length : Int)) = false := decide_eq_false (by omega)
  have HE : Hid (speciesE l = scanAt spcE l 0) := Lib.hid (by unfold speciesE; rw [if_neg h16])
  go_enter Tryz.func16, Tryz.ntmps16
  go_wp2_with fail
  go_loopw [12] (fun vi wr => ∃ k : Nat, k ≤ l.length ∧ vi = .int .i64 k ∧ scanAt spcE l 0 = scanAt spcE l k ∧ Ext w wr) (fun i _ => l.length - (intOf i).toNat)
  case atStart => exact ⟨0, by omega, rfl, rfl, Ext.refl _⟩
  case round =>
    obtain ⟨k, hk, rfl, hd, hx⟩ := hrel
    have HX := Lib.hid hx
    have HD := Lib.hid hd
    clear hx hd
    by_cases hlt : k < l.length
    · have HTK : Hid (SpcS wr (.slice p k cap) (l.take k)) := Lib.hid (SliceOf.take (SliceOf.ext H.out HX.out) (by omega))
      obtain ⟨b, off, rfl, ob, hr⟩ := SliceOf.elemO (SliceOf.ext H.out HX.out) hlt (by decide) (encSpc_len _)
      have HF := Lib.hid (fun e => scanAt_bad spcE l hlt (e := e))
      have HG := Lib.hid (scanAt_ok spcE l hlt)
      obtain ⟨⟨nm, gr, fa, sl, sa, mg, cr, mt, md, de, st, kn, sh⟩, he⟩ : ∃ z, z = l[k] := ⟨_, rfl⟩
      rw [← he] at hr HF HG
      clear he
      have HR : Hid (wr.rangeAt b (off + k * 13) [.string nm, .int .i64 gr, .int .i64 fa, .int .i64 sl, .int .i64 sa, .int .i64 mg, .int .i64 cr, .int .i64 mt, .int .i64 md, .int .i64 de, .int .i64 st, .int .i64 kn, .int .i64 sh]) := Lib.hid hr
      clear hr
      rcases hn : nameL nm.data.toList with _ | _
      · have HB := Lib.hid (HF.out 6 (spcE_name hn) (by decide))
        go_wp2_with (first | ((with_reducible refine wl_loadM midSpc (Ext.range ?_ (Hid.out HR)) ?_ ?_ ?_ ?_); (· with_reducible repeat' (first | exact Ext.refl _ | exact ExtOf.ext _ | refine Ext.trans ?_ (ExtOf.ext _) | refine Ext.alloc ?_ _ | refine Ext.drew ?_ | refine Ext.setCell ?_ ?_ _ | refine Ext.setRow ?_ ?_ _ | exact HX.out | refine Ext.trans ?_ HX.out | omega | (simp; done) | (simp; omega))); (· rfl); (· (first | exact wanted_none rfl | exact wanted_some rfl rfl rfl)); (· rfl)) | ((with_reducible apply wl_store' lwSpc); (· (first | exact wanted_none rfl | exact wanted_some rfl rfl rfl)); (· rfl); (· rfl); (· infer_instance); (· rfl); (· rfl); (· (simp [Value.oneCell', SlT.v])); try simp only [setRow_alloc, setRow_new, setRow_new1, setRow_new2, setRow_new11, setRow_new111]) | ((with_reducible apply wl_load' lwSpc); (· (first | exact wanted_none rfl | exact wanted_some rfl rfl rfl)); (· rfl); (· infer_instance); (· rfl)) | (go_at_call 39; refine (isName_any _ _).mono ?_; rintro e w' ⟨rfl, rfl⟩) | (go_at_call 49; refine (risName_any _ _).mono ?_; rintro e w' ⟨rfl, rfl⟩) | (go_at_call 43; refine (winRange_any ⟨nm, gr, fa, sl, sa, mg, cr, mt, md, de, st, kn, sh⟩ _).mono ?_; rintro e w' ⟨rfl, nn, rfl⟩) | (go_at_call 52; refine (rvalid_any ⟨nm, gr, fa, sl, sa, mg, cr, mt, md, de, st, kn, sh⟩ _).mono ?_; rintro e w' ⟨rfl, nn, rfl⟩))
        go_ret
        exact ⟨ret_int (by rw [HE.out, HD.out, HB.out]), ExtOf.of (HX.out.trans (by with_reducible repeat' (first | exact Ext.refl _ | exact ExtOf.ext _ | refine Ext.trans ?_ (ExtOf.ext _) | refine Ext.alloc ?_ _ | refine Ext.drew ?_ | refine Ext.setCell ?_ ?_ _ | refine Ext.setRow ?_ ?_ _ | exact HX.out | refine Ext.trans ?_ HX.out | omega | (simp; done) | (simp; omega))))⟩
      · go_wp2_with (first | ((with_reducible refine wl_loadM midSpc (Ext.range ?_ (Hid.out HR)) ?_ ?_ ?_ ?_); (· with_reducible repeat' (first | exact Ext.refl _ | exact ExtOf.ext _ | refine Ext.trans ?_ (ExtOf.ext _) | refine Ext.alloc ?_ _ | refine Ext.drew ?_ | refine Ext.setCell ?_ ?_ _ | refine Ext.setRow ?_ ?_ _ | exact HX.out | refine Ext.trans ?_ HX.out | omega | (simp; done) | (simp; omega))); (· rfl); (· (first | exact wanted_none rfl | exact wanted_some rfl rfl rfl)); (· rfl)) | ((with_reducible apply wl_store' lwSpc); (· (first | exact wanted_none rfl | exact wanted_some rfl rfl rfl)); (· rfl); (· rfl); (· infer_instance); (· rfl); (· rfl); (· (simp [Value.oneCell', SlT.v])); try simp only [setRow_alloc, setRow_new, setRow_new1, setRow_new2, setRow_new11, setRow_new111]) | ((with_reducible apply wl_load' lwSpc); (· (first | exact wanted_none rfl | exact wanted_some rfl rfl rfl)); (· rfl); (· infer_instance); (· rfl)) | (go_at_call 39; refine (isName_any _ _).mono ?_; rintro e w' ⟨rfl, rfl⟩) | (go_at_call 49; refine (risName_any _ _).mono ?_; rintro e w' ⟨rfl, rfl⟩) | (go_at_call 43; refine (winRange_any ⟨nm, gr, fa, sl, sa, mg, cr, mt, md, de, st, kn, sh⟩ _).mono ?_; rintro e w' ⟨rfl, nn, rfl⟩) | (go_at_call 52; refine (rvalid_any ⟨nm, gr, fa, sl, sa, mg, cr, mt, md, de, st, kn, sh⟩ _).mono ?_; rintro e w' ⟨rfl, nn, rfl⟩))
        have hb0 : Block (wr.alloc (.cells #[.string nm, .int .i64 gr, .int .i64 fa, .int .i64 sl, .int .i64 sa, .int .i64 mg, .int .i64 cr, .int .i64 mt, .int .i64 md, .int .i64 de, .int .i64 st, .int .i64 kn, .int .i64 sh] 42)) wr.heap.size #[.string nm, .int .i64 gr, .int .i64 fa, .int .i64 sl, .int .i64 sa, .int .i64 mg, .int .i64 cr, .int .i64 mt, .int .i64 md, .int .i64 de, .int .i64 st, .int .i64 kn, .int .i64 sh] := inferInstance
        have HW0 : Hid (Ext wr (wr.alloc (.cells #[.string nm, .int .i64 gr, .int .i64 fa, .int .i64 sl, .int .i64 sa, .int .i64 mg, .int .i64 cr, .int .i64 mt, .int .i64 md, .int .i64 de, .int .i64 st, .int .i64 kn, .int .i64 sh] 42))) := Lib.hid (by with_reducible repeat' (first | exact Ext.refl _ | exact ExtOf.ext _ | refine Ext.trans ?_ (ExtOf.ext _) | refine Ext.alloc ?_ _ | refine Ext.drew ?_ | refine Ext.setCell ?_ ?_ _ | refine Ext.setRow ?_ ?_ _ | exact HX.out | refine Ext.trans ?_ HX.out | omega | (simp; done) | (simp; omega)))
        obtain ⟨g, hg⟩ : ∃ g, g = wr.heap.size := ⟨_, rfl⟩
        rw [← hg] at hb0 ⊢
        obtain ⟨W1, hW1⟩ : ∃ W1, W1 = wr.alloc (.cells #[.string nm, .int .i64 gr, .int .i64 fa, .int .i64 sl, .int .i64 sa, .int .i64 mg, .int .i64 cr, .int .i64 mt, .int .i64 md, .int .i64 de, .int .i64 st, .int .i64 kn, .int .i64 sh] 42) := ⟨_, rfl⟩
        rw [← hW1] at hb0 HW0 ⊢
        clear hg hW1
        have hb1 := hb0
        have HW1 := HW0
        refine region_quiet (S := fun W => ∃ n : ExtOf W1, W = n.val) [true, true, true, true, true] 7 (by kernel_rfl) (by kernel_rfl) (by kernel_rfl) (fun _ _ _ _ _ h => h) (ExtOf.of (Ext.drew (Ext.refl _))) (by kernel_rfl) (by kernel_rfl) (by kernel_rfl) ?_
        simp only [part]
        repeat (first | go_big_quiet_skip | go_big_quiet_step (fail))
        refine wpQuiet_nil ?_
        refine ah_pair (c := 5) (mv := 6) (e0 := 7) (e1 := 8) (al := 9) (st := 10) (asg := 11) (f := 42) (vals := #[.slice (some ⟨b, off, none⟩) k cap, .string nm]) (cs := spcC (spcAt nm (l.take k))) (v1 := .bool (hasN Spc.nm nm (l.take k))) (z := #[.string .empty, .int .i64 0, .int .i64 0, .int .i64 0, .int .i64 0, .int .i64 0, .int .i64 0, .int .i64 0, .int .i64 0, .int .i64 0, .int .i64 0, .int .i64 0, .int .i64 0]) rfl rfl rfl rfl ⟨rfl, rfl, rfl⟩ rfl ⟨rfl, rfl, rfl⟩ rfl ⟨rfl, rfl, rfl⟩ rfl rfl rfl ⟨rfl, rfl, rfl⟩ lwSpc rfl (by simp [spcC, Value.oneCell']) zeroSpcd rfl (by kernel_rfl) (by kernel_rfl) (by kernel_rfl) (fun _ _ _ _ _ h => h) (fun W => by kernel_rfl) (fun W x => by kernel_rfl) (fun W hW => wfind_any _ _ _ W (SliceOf.ext HTK.out (HW1.out.trans (Ext.trans (Ext.drew (Ext.refl _)) hW)))) (fun W h => ExtOf.of (Ext.trans (Ext.drew (Ext.refl _)) h)) ?_
        intro W' gn hx'' hgn hbn
        have hx' : Ext W1 W' := Ext.trans (Ext.drew (Ext.refl _)) hx''
        clear hx''
        have kb1 := hb1.ext hx'
        have HXC : Hid (Ext wr W') := Lib.hid (HW1.out.trans hx')
        clear hx' hbn hgn
        simp only [Act.put, List.setIfInBounds_toArray, List.set_cons_succ, List.set_cons_zero]
        have ob1 := kb1.old
        rcases hm : hasN Spc.nm nm (l.take k) with _ | _
        · have HPN : Hid (spcE (l.take k) ⟨nm, gr, fa, sl, sa, mg, cr, mt, md, de, st, kn, sh⟩ = if Spc.ok ⟨nm, gr, fa, sl, sa, mg, cr, mt, md, de, st, kn, sh⟩ = true then 0 else 9) := Lib.hid (spcE_num hn hm)
          rcases hok : Spc.ok ⟨nm, gr, fa, sl, sa, mg, cr, mt, md, de, st, kn, sh⟩ with _ | _
          · have HB := Lib.hid (HF.out 9 (HPN.out.trans (by rw [hok]; rfl)) (by decide))
            go_wp2_with (first | ((with_reducible refine wl_loadM midSpc (Ext.range ?_ (Hid.out HR)) ?_ ?_ ?_ ?_); (· with_reducible repeat' (first | exact Ext.refl _ | exact ExtOf.ext _ | refine Ext.trans ?_ (ExtOf.ext _) | refine Ext.alloc ?_ _ | refine Ext.drew ?_ | refine Ext.setCell ?_ ?_ _ | refine Ext.setRow ?_ ?_ _ | exact HX.out | refine Ext.trans ?_ HX.out | omega | (simp; done) | (simp; omega))); (· rfl); (· (first | exact wanted_none rfl | exact wanted_some rfl rfl rfl)); (· rfl)) | ((with_reducible apply wl_store' lwSpc); (· (first | exact wanted_none rfl | exact wanted_some rfl rfl rfl)); (· rfl); (· rfl); (· infer_instance); (· rfl); (· rfl); (· (simp [Value.oneCell', SlT.v])); try simp only [setRow_alloc, setRow_new, setRow_new1, setRow_new2, setRow_new11, setRow_new111]) | ((with_reducible apply wl_load' lwSpc); (· (first | exact wanted_none rfl | exact wanted_some rfl rfl rfl)); (· rfl); (· infer_instance); (· rfl)) | (go_at_call 39; refine (isName_any _ _).mono ?_; rintro e w' ⟨rfl, rfl⟩) | (go_at_call 49; refine (risName_any _ _).mono ?_; rintro e w' ⟨rfl, rfl⟩) | (go_at_call 43; refine (winRange_any ⟨nm, gr, fa, sl, sa, mg, cr, mt, md, de, st, kn, sh⟩ _).mono ?_; rintro e w' ⟨rfl, nn, rfl⟩) | (go_at_call 52; refine (rvalid_any ⟨nm, gr, fa, sl, sa, mg, cr, mt, md, de, st, kn, sh⟩ _).mono ?_; rintro e w' ⟨rfl, nn, rfl⟩))
            go_ret
            exact ⟨ret_int (by rw [HE.out, HD.out, HB.out]), ExtOf.of (HX.out.trans (HXC.out.trans (by with_reducible repeat' (first | exact Ext.refl _ | exact ExtOf.ext _ | refine Ext.trans ?_ (ExtOf.ext _) | refine Ext.alloc ?_ _ | refine Ext.drew ?_ | refine Ext.setCell ?_ ?_ _ | refine Ext.setRow ?_ ?_ _ | exact HX.out | refine Ext.trans ?_ HX.out | omega | (simp; done) | (simp; omega)))))⟩
          · have HN := Lib.hid (HG.out (HPN.out.trans (by rw [hok]; rfl)))
            go_wp2_with (first | ((with_reducible refine wl_loadM midSpc (Ext.range ?_ (Hid.out HR)) ?_ ?_ ?_ ?_); (· with_reducible repeat' (first | exact Ext.refl _ | exact ExtOf.ext _ | refine Ext.trans ?_ (ExtOf.ext _) | refine Ext.alloc ?_ _ | refine Ext.drew ?_ | refine Ext.setCell ?_ ?_ _ | refine Ext.setRow ?_ ?_ _ | exact HX.out | refine Ext.trans ?_ HX.out | omega | (simp; done) | (simp; omega))); (· rfl); (· (first | exact wanted_none rfl | exact wanted_some rfl rfl rfl)); (· rfl)) | ((with_reducible apply wl_store' lwSpc); (· (first | exact wanted_none rfl | exact wanted_some rfl rfl rfl)); (· rfl); (· rfl); (· infer_instance); (· rfl); (· rfl); (· (simp [Value.oneCell', SlT.v])); try simp only [setRow_alloc, setRow_new, setRow_new1, setRow_new2, setRow_new11, setRow_new111]) | ((with_reducible apply wl_load' lwSpc); (· (first | exact wanted_none rfl | exact wanted_some rfl rfl rfl)); (· rfl); (· infer_instance); (· rfl)) | (go_at_call 39; refine (isName_any _ _).mono ?_; rintro e w' ⟨rfl, rfl⟩) | (go_at_call 49; refine (risName_any _ _).mono ?_; rintro e w' ⟨rfl, rfl⟩) | (go_at_call 43; refine (winRange_any ⟨nm, gr, fa, sl, sa, mg, cr, mt, md, de, st, kn, sh⟩ _).mono ?_; rintro e w' ⟨rfl, nn, rfl⟩) | (go_at_call 52; refine (rvalid_any ⟨nm, gr, fa, sl, sa, mg, cr, mt, md, de, st, kn, sh⟩ _).mono ?_; rintro e w' ⟨rfl, nn, rfl⟩))
            go_roundw
            case rel => exact ⟨k + 1, by omega, by first | rfl | go_num, HD.out.trans HN.out, HX.out.trans (HXC.out.trans (by with_reducible repeat' (first | exact Ext.refl _ | exact ExtOf.ext _ | refine Ext.trans ?_ (ExtOf.ext _) | refine Ext.alloc ?_ _ | refine Ext.drew ?_ | refine Ext.setCell ?_ ?_ _ | refine Ext.setRow ?_ ?_ _ | exact HX.out | refine Ext.trans ?_ HX.out | omega | (simp; done) | (simp; omega))))⟩
            case measure => simp [intOf]; omega
        · have HB := Lib.hid (HF.out 7 (spcE_dup hn hm) (by decide))
          go_wp2_with (first | ((with_reducible refine wl_loadM midSpc (Ext.range ?_ (Hid.out HR)) ?_ ?_ ?_ ?_); (· with_reducible repeat' (first | exact Ext.refl _ | exact ExtOf.ext _ | refine Ext.trans ?_ (ExtOf.ext _) | refine Ext.alloc ?_ _ | refine Ext.drew ?_ | refine Ext.setCell ?_ ?_ _ | refine Ext.setRow ?_ ?_ _ | exact HX.out | refine Ext.trans ?_ HX.out | omega | (simp; done) | (simp; omega))); (· rfl); (· (first | exact wanted_none rfl | exact wanted_some rfl rfl rfl)); (· rfl)) | ((with_reducible apply wl_store' lwSpc); (· (first | exact wanted_none rfl | exact wanted_some rfl rfl rfl)); (· rfl); (· rfl); (· infer_instance); (· rfl); (· rfl); (· (simp [Value.oneCell', SlT.v])); try simp only [setRow_alloc, setRow_new, setRow_new1, setRow_new2, setRow_new11, setRow_new111]) | ((with_reducible apply wl_load' lwSpc); (· (first | exact wanted_none rfl | exact wanted_some rfl rfl rfl)); (· rfl); (· infer_instance); (· rfl)) | (go_at_call 39; refine (isName_any _ _).mono ?_; rintro e w' ⟨rfl, rfl⟩) | (go_at_call 49; refine (risName_any _ _).mono ?_; rintro e w' ⟨rfl, rfl⟩) | (go_at_call 43; refine (winRange_any ⟨nm, gr, fa, sl, sa, mg, cr, mt, md, de, st, kn, sh⟩ _).mono ?_; rintro e w' ⟨rfl, nn, rfl⟩) | (go_at_call 52; refine (rvalid_any ⟨nm, gr, fa, sl, sa, mg, cr, mt, md, de, st, kn, sh⟩ _).mono ?_; rintro e w' ⟨rfl, nn, rfl⟩))
          go_ret
          exact ⟨ret_int (by rw [HE.out, HD.out, HB.out]), ExtOf.of (HX.out.trans (HXC.out.trans (by with_reducible repeat' (first | exact Ext.refl _ | exact ExtOf.ext _ | refine Ext.trans ?_ (ExtOf.ext _) | refine Ext.alloc ?_ _ | refine Ext.drew ?_ | refine Ext.setCell ?_ ?_ _ | refine Ext.setRow ?_ ?_ _ | exact HX.out | refine Ext.trans ?_ HX.out | omega | (simp; done) | (simp; omega)))))⟩
    · obtain rfl : k = l.length := by omega
      have HT : Hid (scanAt spcE l l.length = 0) := Lib.hid (scanAt_end _ _ (Nat.le_refl _))
      go_wp2_with fail
      go_ret
      exact ⟨ret_int (by rw [HE.out, HD.out, HT.out]), ExtOf.of HX.out⟩
end Go.Proofs.YteokijolhbohaaaGreatDoor
end
/-
  Chapter 59: catalogs of species, the reference.
-/
section
set_option linter.unusedVariables false
set_option linter.unusedSimpArgs false
namespace Go.Proofs.YteokijolhbohaaaGreatDoor
open Go.RowKit StM

attribute [local go_sem] ExtOf.cell ExtOf.frozen Block.cell Block.frozen ExtB.cell ExtB.frozen alloc_cell alloc_frozen
set_option maxHeartbeats 1600000 in
set_option maxRecDepth 20000 in
theorem rwCheck_any (l : List Spc) (v : Value) (w : World) (h : SpcS w v l) : Calls Tryz.prog 23 #[v] w fun e w' => e = .returned (.int .i64 (speciesE l)) ∧ ∃ n : ExtOf w, w' = n.val := by
  obtain ⟨p, cap, rfl, hc1, hc2, hc3⟩ := SliceOf.form h
  unfold maxLen at hc2
  have H := Lib.hid h
  clear h
  by_cases h16 : 8 < l.length
  · have q1 : decide (8 < (l.length : Int)) = true := decide_eq_true (by omega)
    have HE : Hid (speciesE l = 4) := Lib.hid (by unfold speciesE; rw [if_pos h16])
    go_enter Tryz.func23, Tryz.ntmps23
    go_wp2_with fail
    go_ret
    exact ⟨ret_int HE.out.symm, by exact ExtOf.of (by with_reducible repeat' (first | exact Ext.refl _ | exact ExtOf.ext _ | refine Ext.trans ?_ (ExtOf.ext _) | refine Ext.alloc ?_ _ | refine Ext.drew ?_ | refine Ext.setCell ?_ ?_ _ | refine Ext.setRow ?_ ?_ _ | exact HX.out | refine Ext.trans ?_ HX.out | omega | (simp; done) | (simp; omega)))⟩
  have q1 : decide (8 < (l.length : Int)) = false := decide_eq_false (by omega)
  have HE : Hid (speciesE l = scanAt spcE l 0) := Lib.hid (by unfold speciesE; rw [if_neg h16])
  go_enter Tryz.func23, Tryz.ntmps23
  go_wp2_with fail
  go_loopw [3] (fun vi wr => ∃ k : Nat, k ≤ l.length ∧ vi = .int .i64 k ∧ scanAt spcE l 0 = scanAt spcE l k ∧ Ext w wr) (fun i _ => l.length - (intOf i).toNat)
  case atStart => exact ⟨0, by omega, rfl, rfl, Ext.refl _⟩
  case round =>
    obtain ⟨k, hk, rfl, hd, hx⟩ := hrel
    have HX := Lib.hid hx
    have HD := Lib.hid hd
    clear hx hd
    by_cases hlt : k < l.length
    · obtain ⟨b, off, rfl, ob, hr⟩ := SliceOf.elemO (SliceOf.ext H.out HX.out) hlt (by decide) (encSpc_len _)
      have HF := Lib.hid (fun e => scanAt_bad spcE l hlt (e := e))
      have HG := Lib.hid (scanAt_ok spcE l hlt)
      obtain ⟨⟨nm, gr, fa, sl, sa, mg, cr, mt, md, de, st, kn, sh⟩, he⟩ : ∃ z, z = l[k] := ⟨_, rfl⟩
      rw [← he] at hr HF HG
      clear he
      have hcn : wr.cell? ⟨b, off + k * 13, none⟩ = some (.string nm) := by simpa using hr 0 (.string nm) rfl
      have HR : Hid (wr.rangeAt b (off + k * 13) [.string nm, .int .i64 gr, .int .i64 fa, .int .i64 sl, .int .i64 sa, .int .i64 mg, .int .i64 cr, .int .i64 mt, .int .i64 md, .int .i64 de, .int .i64 st, .int .i64 kn, .int .i64 sh]) := Lib.hid hr
      clear hr
      rcases hn : nameL nm.data.toList with _ | _
      · have HB := Lib.hid (HF.out 6 (spcE_name hn) (by decide))
        go_wp2_with (first | ((with_reducible refine wl_loadM midSpc (Ext.range ?_ (Hid.out HR)) ?_ ?_ ?_ ?_); (· with_reducible repeat' (first | exact Ext.refl _ | exact ExtOf.ext _ | refine Ext.trans ?_ (ExtOf.ext _) | refine Ext.alloc ?_ _ | refine Ext.drew ?_ | refine Ext.setCell ?_ ?_ _ | refine Ext.setRow ?_ ?_ _ | exact HX.out | refine Ext.trans ?_ HX.out | omega | (simp; done) | (simp; omega))); (· rfl); (· (first | exact wanted_none rfl | exact wanted_some rfl rfl rfl)); (· rfl)) | (go_at_call 49; refine (risName_any _ _).mono ?_; rintro e w' ⟨rfl, rfl⟩) | (go_at_call 52; refine (rvalid_any ⟨nm, gr, fa, sl, sa, mg, cr, mt, md, de, st, kn, sh⟩ _).mono ?_; rintro e w' ⟨rfl, nn, rfl⟩))
        go_ret
        exact ⟨ret_int (by rw [HE.out, HD.out, HB.out]), ExtOf.of (HX.out.trans (by with_reducible repeat' (first | exact Ext.refl _ | exact ExtOf.ext _ | refine Ext.trans ?_ (ExtOf.ext _) | refine Ext.alloc ?_ _ | refine Ext.drew ?_ | refine Ext.setCell ?_ ?_ _ | refine Ext.setRow ?_ ?_ _ | exact HX.out | refine Ext.trans ?_ HX.out | omega | (simp; done) | (simp; omega))))⟩
      have HNM := Lib.hid hn
      go_wp2_with (first | ((with_reducible refine wl_loadM midSpc (Ext.range ?_ (Hid.out HR)) ?_ ?_ ?_ ?_); (· with_reducible repeat' (first | exact Ext.refl _ | exact ExtOf.ext _ | refine Ext.trans ?_ (ExtOf.ext _) | refine Ext.alloc ?_ _ | refine Ext.drew ?_ | refine Ext.setCell ?_ ?_ _ | refine Ext.setRow ?_ ?_ _ | exact HX.out | refine Ext.trans ?_ HX.out | omega | (simp; done) | (simp; omega))); (· rfl); (· (first | exact wanted_none rfl | exact wanted_some rfl rfl rfl)); (· rfl)) | (go_at_call 49; refine (risName_any _ _).mono ?_; rintro e w' ⟨rfl, rfl⟩) | (go_at_call 52; refine (rvalid_any ⟨nm, gr, fa, sl, sa, mg, cr, mt, md, de, st, kn, sh⟩ _).mono ?_; rintro e w' ⟨rfl, nn, rfl⟩))
      clear hn
      rename World => W2
      go_loopw [4] (fun vi wz => ∃ j : Nat, j ≤ k ∧ vi = .int .i64 j ∧ hasN Spc.nm nm (l.take j) = false ∧ Ext W2 wz) (fun i _ => k - (intOf i).toNat)
      case atStart => exact ⟨0, by omega, rfl, rfl, by with_reducible repeat' (first | exact Ext.refl _ | exact ExtOf.ext _ | refine Ext.trans ?_ (ExtOf.ext _) | refine Ext.alloc ?_ _ | refine Ext.drew ?_ | refine Ext.setCell ?_ ?_ _ | refine Ext.setRow ?_ ?_ _ | exact HX.out | refine Ext.trans ?_ HX.out | omega | (simp; done) | (simp; omega))⟩
      case round =>
        obtain ⟨j, hj, rfl, hd2, hx2⟩ := hrel
        have HY := Lib.hid hx2
        have HD2 := Lib.hid hd2
        have hcn' := hx2.cell hcn
        have ob' := Old.of_cell hcn'
        clear hx2 hd2
        by_cases hjk : j < k
        · obtain ⟨b', off', hpe, ob2, hr'⟩ := SliceOf.elemO (SliceOf.ext H.out (HX.out.trans HY.out)) (show j < l.length by omega) (by decide) (encSpc_len _)
          simp only [Option.some.injEq, Addr.mk.injEq, and_true] at hpe
          obtain ⟨rfl, rfl⟩ := hpe
          have HS := Lib.hid (hasN_take Spc.nm nm l (show j < l.length by omega))
          have HO : Hid (eqS (Spc.nm l[j]) nm = true → hasN Spc.nm nm (l.take k) = true) := Lib.hid (fun e => hasN_of Spc.nm nm (l.take k) (k := j) (by rw [List.length_take]; omega) (by rw [List.getElem_take]; exact e))
          obtain ⟨x2, he⟩ : ∃ z, z = l[j] := ⟨_, rfl⟩
          rw [← he] at hr' HS HO
          clear he
          obtain ⟨nm2, hnm2⟩ : ∃ n, n = x2.nm := ⟨_, rfl⟩
          have hcj : wr.cell? ⟨b, off + j * 13, none⟩ = some (.string nm2) := by rw [hnm2]; simpa using hr' 0 (.string x2.nm) rfl
          rw [← hnm2] at HS HO
          clear hr' hnm2
          rcases q : (nm2.toList == nm.toList) with _ | _
          · go_wp2_with fail
            refine wp_region_ext (by kernel_rfl) (by kernel_rfl) ?_
            repeat (first | go_big_quiet_skip | go_big_quiet_step (fail))
            refine wpQuiet_nil ?_
            intro _ hw'
            obtain ⟨nq, hw''⟩ := hw'
            subst hw''
            go_wp2_with fail
            go_roundw
            case rel => exact ⟨j + 1, by omega, by first | rfl | go_num, by rw [HS.out, HD2.out]; exact q, HY.out.trans (by with_reducible repeat' (first | exact Ext.refl _ | exact ExtOf.ext _ | refine Ext.trans ?_ (ExtOf.ext _) | refine Ext.alloc ?_ _ | refine Ext.drew ?_ | refine Ext.setCell ?_ ?_ _ | refine Ext.setRow ?_ ?_ _ | exact HX.out | refine Ext.trans ?_ HX.out | omega | (simp; done) | (simp; omega)))⟩
            case measure => simp [intOf]; omega
          · have HB := Lib.hid (HF.out 7 (spcE_dup HNM.out (HO.out q)) (by decide))
            go_wp2_with fail
            refine wp_region_ext (by kernel_rfl) (by kernel_rfl) ?_
            repeat (first | go_big_quiet_skip | go_big_quiet_step (fail))
            refine wpQuiet_nil ?_
            intro _ hw'
            obtain ⟨nq, hw''⟩ := hw'
            subst hw''
            go_wp2_with fail
            go_ret
            exact ⟨ret_int (by rw [HE.out, HD.out, HB.out]), ExtOf.of (HX.out.trans (HY.out.trans (by with_reducible repeat' (first | exact Ext.refl _ | exact ExtOf.ext _ | refine Ext.trans ?_ (ExtOf.ext _) | refine Ext.alloc ?_ _ | refine Ext.drew ?_ | refine Ext.setCell ?_ ?_ _ | refine Ext.setRow ?_ ?_ _ | exact HX.out | refine Ext.trans ?_ HX.out | omega | (simp; done) | (simp; omega)))))⟩
        · obtain rfl : j = k := by omega
          have HPN : Hid (spcE (l.take j) ⟨nm, gr, fa, sl, sa, mg, cr, mt, md, de, st, kn, sh⟩ = if Spc.ok ⟨nm, gr, fa, sl, sa, mg, cr, mt, md, de, st, kn, sh⟩ = true then 0 else 9) := Lib.hid (spcE_num HNM.out HD2.out)
          have HR2 : Hid (wr.rangeAt b (off + j * 13) [.string nm, .int .i64 gr, .int .i64 fa, .int .i64 sl, .int .i64 sa, .int .i64 mg, .int .i64 cr, .int .i64 mt, .int .i64 md, .int .i64 de, .int .i64 st, .int .i64 kn, .int .i64 sh]) := Lib.hid (Ext.range HY.out HR.out)
          clear HR
          have HR := HR2
          rcases hok : Spc.ok ⟨nm, gr, fa, sl, sa, mg, cr, mt, md, de, st, kn, sh⟩ with _ | _
          · have HB := Lib.hid (HF.out 9 (HPN.out.trans (by rw [hok]; rfl)) (by decide))
            go_wp2_with (first | ((with_reducible refine wl_loadM midSpc (Ext.range ?_ (Hid.out HR)) ?_ ?_ ?_ ?_); (· with_reducible repeat' (first | exact Ext.refl _ | exact ExtOf.ext _ | refine Ext.trans ?_ (ExtOf.ext _) | refine Ext.alloc ?_ _ | refine Ext.drew ?_ | refine Ext.setCell ?_ ?_ _ | refine Ext.setRow ?_ ?_ _ | exact HX.out | refine Ext.trans ?_ HX.out | omega | (simp; done) | (simp; omega))); (· rfl); (· (first | exact wanted_none rfl | exact wanted_some rfl rfl rfl)); (· rfl)) | (go_at_call 49; refine (risName_any _ _).mono ?_; rintro e w' ⟨rfl, rfl⟩) | (go_at_call 52; refine (rvalid_any ⟨nm, gr, fa, sl, sa, mg, cr, mt, md, de, st, kn, sh⟩ _).mono ?_; rintro e w' ⟨rfl, nn, rfl⟩))
            go_ret
            exact ⟨ret_int (by rw [HE.out, HD.out, HB.out]), ExtOf.of (HX.out.trans (HY.out.trans (by with_reducible repeat' (first | exact Ext.refl _ | exact ExtOf.ext _ | refine Ext.trans ?_ (ExtOf.ext _) | refine Ext.alloc ?_ _ | refine Ext.drew ?_ | refine Ext.setCell ?_ ?_ _ | refine Ext.setRow ?_ ?_ _ | exact HX.out | refine Ext.trans ?_ HX.out | omega | (simp; done) | (simp; omega)))))⟩
          · have HN := Lib.hid (HG.out (HPN.out.trans (by rw [hok]; rfl)))
            go_wp2_with (first | ((with_reducible refine wl_loadM midSpc (Ext.range ?_ (Hid.out HR)) ?_ ?_ ?_ ?_); (· with_reducible repeat' (first | exact Ext.refl _ | exact ExtOf.ext _ | refine Ext.trans ?_ (ExtOf.ext _) | refine Ext.alloc ?_ _ | refine Ext.drew ?_ | refine Ext.setCell ?_ ?_ _ | refine Ext.setRow ?_ ?_ _ | exact HX.out | refine Ext.trans ?_ HX.out | omega | (simp; done) | (simp; omega))); (· rfl); (· (first | exact wanted_none rfl | exact wanted_some rfl rfl rfl)); (· rfl)) | (go_at_call 49; refine (risName_any _ _).mono ?_; rintro e w' ⟨rfl, rfl⟩) | (go_at_call 52; refine (rvalid_any ⟨nm, gr, fa, sl, sa, mg, cr, mt, md, de, st, kn, sh⟩ _).mono ?_; rintro e w' ⟨rfl, nn, rfl⟩))
            go_roundw
            case rel => exact ⟨j + 1, by omega, by first | rfl | go_num, HD.out.trans HN.out, HX.out.trans (HY.out.trans (by with_reducible repeat' (first | exact Ext.refl _ | exact ExtOf.ext _ | refine Ext.trans ?_ (ExtOf.ext _) | refine Ext.alloc ?_ _ | refine Ext.drew ?_ | refine Ext.setCell ?_ ?_ _ | refine Ext.setRow ?_ ?_ _ | exact HX.out | refine Ext.trans ?_ HX.out | omega | (simp; done) | (simp; omega))))⟩
            case measure => simp [intOf]; omega
    · obtain rfl : k = l.length := by omega
      have HT : Hid (scanAt spcE l l.length = 0) := Lib.hid (scanAt_end _ _ (Nat.le_refl _))
      go_wp2_with fail
      go_ret
      exact ⟨ret_int (by rw [HE.out, HD.out, HT.out]), ExtOf.of HX.out⟩
end Go.Proofs.YteokijolhbohaaaGreatDoor
end
