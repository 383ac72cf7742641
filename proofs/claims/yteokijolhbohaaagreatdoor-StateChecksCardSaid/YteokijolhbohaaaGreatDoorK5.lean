/-
  Chapter 59: several texts in one (S5, S6).
-/
import Derived.Test.YteokijolhbohaaaGreatDoorK1
/-
  Chapter 59: catalogs of products.
-/
section
set_option linter.unusedVariables false
set_option linter.unusedSimpArgs false
namespace Go.Proofs.YteokijolhbohaaaGreatDoor
open Go.RowKit StM

attribute [local go_sem] ExtOf.cell ExtOf.frozen Block.cell Block.frozen ExtB.cell ExtB.frozen alloc_cell alloc_frozen
theorem ret_tb {k : IntKind} {i j : Int} {b c : Bool} (hi : i = j) (h : b = c) : Ending.returned (.tuple #[.int k i, .bool b]) = .returned (.tuple #[.int k j, .bool c]) := by rw [hi, h]
def pnm (x : PdP) : ByteArray := x.1.nm
def prodF (a : List PdP) (x : PdP) : Int := if nameL (pnm x).data.toList = false then 6 else if hasN pnm (pnm x) a = true then 7 else numE x.1
def productsE (l : List PdP) : Int := if 16 < l.length then 4 else scanAt prodF l 0
theorem prodF_name {a : List PdP} {x : PdP} (h : nameL (pnm x).data.toList = false) : prodF a x = 6 := by unfold prodF; rw [if_pos h]
theorem prodF_dup {a : List PdP} {x : PdP} (h : nameL (pnm x).data.toList = true) (h2 : hasN pnm (pnm x) a = true) : prodF a x = 7 := by unfold prodF; rw [if_neg (by rw [h]; simp), if_pos h2]
theorem prodF_num {a : List PdP} {x : PdP} (h : nameL (pnm x).data.toList = true) (h2 : hasN pnm (pnm x) a = false) : prodF a x = numE x.1 := by unfold prodF; rw [if_neg (by rw [h]; simp), if_neg (by rw [h2]; simp)]
/-- the index of the first element with a name -/
def fidx {α : Type} (nm : α → ByteArray) (s : ByteArray) (l : List α) : Nat := (l.findIdx? fun x => eqS (nm x) s).getD 0
theorem fidx_at {α : Type} (nm : α → ByteArray) (s : ByteArray) (l : List α) {k : Nat} (h : k < l.length) (h0 : hasN nm s (l.take k) = false) (h1 : eqS (nm l[k]) s = true) : fidx nm s l = k := by
  unfold fidx
  have : (l.findIdx? fun x => eqS (nm x) s) = some k := by
    rw [List.findIdx?_eq_some_iff_getElem]
    refine ⟨h, h1, fun j hj => ?_⟩
    unfold hasN at h0
    rw [List.any_eq_false] at h0
    exact h0 l[j] (by rw [List.mem_take_iff_getElem]; exact ⟨j, by omega, rfl⟩)
  rw [this]; rfl
theorem fidx_none {α : Type} (nm : α → ByteArray) (s : ByteArray) (l : List α) (h0 : hasN nm s l = false) : fidx nm s l = 0 := by
  unfold fidx
  have : (l.findIdx? fun x => eqS (nm x) s) = none := by
    rw [List.findIdx?_eq_none_iff]
    unfold hasN at h0
    rw [List.any_eq_false] at h0
    intro x hx
    have := h0 x hx
    simpa using this
  rw [this]; rfl
set_option maxHeartbeats 800000 in
theorem pfind_any (l : List PdP) (v : Value) (s : ByteArray) (w : World) (h : PdS w v l) : Calls Tryz.prog 40 #[v, .string s] w fun e w' => e = .returned (.tuple #[.int .i64 (fidx pnm s l), .bool (hasN pnm s l)]) ∧ ∃ n : ExtOf w, w' = n.val := by
  obtain ⟨p, cap, rfl, hc1, hc2, hc3⟩ := SliceOf.form h.1
  unfold maxLen at hc2
  have H := Lib.hid h.1
  clear h
  go_enter Tryz.func40, Tryz.ntmps40
  go_wp2_with fail
  go_loopw [10] (fun vi wr => ∃ k : Nat, k ≤ l.length ∧ vi = .int .i64 k ∧ hasN pnm s (l.take k) = false ∧ Ext w wr) (fun i _ => l.length - (intOf i).toNat)
  case atStart => exact ⟨0, by omega, rfl, rfl, Ext.refl _⟩
  case round =>
    obtain ⟨k, hk, rfl, hd, hx⟩ := hrel
    have HX := Lib.hid hx
    have HD := Lib.hid hd
    clear hx hd
    by_cases hlt : k < l.length
    · obtain ⟨b, off, rfl, ob, hr⟩ := SliceOf.elemO (SliceOf.ext H.out HX.out) hlt (by decide) (encPd_len _)
      have HS := Lib.hid (hasN_take pnm s l hlt)
      have HO : Hid (eqS (pnm l[k]) s = true → hasN pnm s l = true ∧ fidx pnm s l = k) := Lib.hid (fun e => ⟨hasN_of pnm s l hlt e, fidx_at pnm s l hlt HD.out e⟩)
      obtain ⟨⟨pd, s1, s2⟩, he⟩ : ∃ z, z = l[k] := ⟨_, rfl⟩
      rw [← he] at hr HS HO
      clear he
      have HR : Hid (wr.rangeAt b (off + k * 7) [.string pd.nm, .int .i64 pd.th, .int .i64 pd.wi, .int .i64 pd.al, .int .i64 pd.wa, s1.v, s2.v]) := Lib.hid hr
      clear hr
      rcases q : (pd.nm.toList == s.toList) with _ | _
      · go_wp2_with (first | ((with_reducible refine wl_loadM midPd (Ext.range ?_ (Hid.out HR)) ?_ ?_ ?_ ?_); (· with_reducible repeat' (first | exact Ext.refl _ | exact ExtOf.ext _ | refine Ext.trans ?_ (ExtOf.ext _) | refine Ext.alloc ?_ _ | refine Ext.drew ?_ | refine Ext.setCell ?_ ?_ _ | refine Ext.setRow ?_ ?_ _ | exact HX.out | refine Ext.trans ?_ HX.out | omega | (simp; done) | (simp; omega))); (· rfl); (· (first | exact wanted_none rfl | exact wanted_some rfl rfl rfl)); (· rfl)) | ((with_reducible apply wl_store' lwPd); (· (first | exact wanted_none rfl | exact wanted_some rfl rfl rfl)); (· rfl); (· rfl); (· infer_instance); (· rfl); (· rfl); (· (simp [Value.oneCell', SlT.v])); try simp only [setRow_alloc, setRow_new, setRow_new1, setRow_new2, setRow_new11, setRow_new111]))
        go_roundw
        case rel => exact ⟨k + 1, by omega, by first | rfl | go_num, by rw [HS.out, HD.out]; exact q, HX.out.trans (by with_reducible repeat' (first | exact Ext.refl _ | exact ExtOf.ext _ | refine Ext.trans ?_ (ExtOf.ext _) | refine Ext.alloc ?_ _ | refine Ext.drew ?_ | refine Ext.setCell ?_ ?_ _ | refine Ext.setRow ?_ ?_ _ | exact HX.out | refine Ext.trans ?_ HX.out | omega | (simp; done) | (simp; omega)))⟩
        case measure => simp [intOf]; omega
      · have HT := Lib.hid (HO.out q)
        go_wp2_with (first | ((with_reducible refine wl_loadM midPd (Ext.range ?_ (Hid.out HR)) ?_ ?_ ?_ ?_); (· with_reducible repeat' (first | exact Ext.refl _ | exact ExtOf.ext _ | refine Ext.trans ?_ (ExtOf.ext _) | refine Ext.alloc ?_ _ | refine Ext.drew ?_ | refine Ext.setCell ?_ ?_ _ | refine Ext.setRow ?_ ?_ _ | exact HX.out | refine Ext.trans ?_ HX.out | omega | (simp; done) | (simp; omega))); (· rfl); (· (first | exact wanted_none rfl | exact wanted_some rfl rfl rfl)); (· rfl)) | ((with_reducible apply wl_store' lwPd); (· (first | exact wanted_none rfl | exact wanted_some rfl rfl rfl)); (· rfl); (· rfl); (· infer_instance); (· rfl); (· rfl); (· (simp [Value.oneCell', SlT.v])); try simp only [setRow_alloc, setRow_new, setRow_new1, setRow_new2, setRow_new11, setRow_new111]))
        go_ret2
        exact ⟨ret_tb (by rw [HT.out.2]) HT.out.1.symm, ExtOf.of (HX.out.trans (by with_reducible repeat' (first | exact Ext.refl _ | exact ExtOf.ext _ | refine Ext.trans ?_ (ExtOf.ext _) | refine Ext.alloc ?_ _ | refine Ext.drew ?_ | refine Ext.setCell ?_ ?_ _ | refine Ext.setRow ?_ ?_ _ | exact HX.out | refine Ext.trans ?_ HX.out | omega | (simp; done) | (simp; omega))))⟩
    · obtain rfl : k = l.length := by omega
      have HT : Hid (hasN pnm s l = false) := Lib.hid (by have := HD.out; rwa [List.take_length] at this)
      go_wp2_with fail
      go_ret2
      exact ⟨ret_tb (by rw [fidx_none pnm s l HT.out]; rfl) HT.out.symm, ExtOf.of HX.out⟩
set_option maxHeartbeats 1600000 in
theorem pCheck_any (l : List PdP) (v : Value) (w : World) (h : PdS w v l) : Calls Tryz.prog 15 #[v] w fun e w' => e = .returned (.int .i64 (productsE l)) ∧ ∃ n : ExtOf w, w' = n.val := by
  obtain ⟨p, cap, rfl, hc1, hc2, hc3⟩ := SliceOf.form h.1
  unfold maxLen at hc2
  have H := Lib.hid h.1
  have HI : Hid (∀ x ∈ l, IntS w x.2.1.v x.1.ls ∧ IntS w x.2.2.v x.1.ps) := Lib.hid h.2
  have HA := Lib.hid h
  clear h
  by_cases h16 : 16 < l.length
  · have q1 : decide (16 < (l.length : Int)) = true := decide_eq_true (by omega)
    have HE : Hid (productsE l = 4) := Lib.hid (by unfold productsE; rw [if_pos h16])
    go_enter Tryz.func15, Tryz.ntmps15
    go_wp2_with fail
    go_ret
    exact ⟨ret_int HE.out.symm, by exact ExtOf.of (by with_reducible repeat' (first | exact Ext.refl _ | exact ExtOf.ext _ | refine Ext.trans ?_ (ExtOf.ext _) | refine Ext.alloc ?_ _ | refine Ext.drew ?_ | refine Ext.setCell ?_ ?_ _ | refine Ext.setRow ?_ ?_ _ | exact HX.out | refine Ext.trans ?_ HX.out | omega | (simp; done) | (simp; omega)))⟩
  have q1 : decide (16 < (l.length : Int)) = false := decide_eq_false (by omega)
  have HE : Hid (productsE l = scanAt prodF l 0) := Lib.hid (by unfold productsE; rw [if_neg h16])
  go_enter Tryz.func15, Tryz.ntmps15
  go_wp2_with fail
  go_loopw [13] (fun vi wr => ∃ k : Nat, k ≤ l.length ∧ vi = .int .i64 k ∧ scanAt prodF l 0 = scanAt prodF l k ∧ Ext w wr) (fun i _ => l.length - (intOf i).toNat)
  case atStart => exact ⟨0, by omega, rfl, rfl, Ext.refl _⟩
  case round =>
    obtain ⟨k, hk, rfl, hd, hx⟩ := hrel
    have HX := Lib.hid hx
    have HD := Lib.hid hd
    clear hx hd
    by_cases hlt : k < l.length
    · have HTK : Hid (PdS wr (.slice p k cap) (l.take k)) := Lib.hid (PdS.take (HA.out.ext HX.out) (by omega))
      obtain ⟨b, off, rfl, ob, hr⟩ := SliceOf.elemO (SliceOf.ext H.out HX.out) hlt (by decide) (encPd_len _)
      have hi := HI.out _ (List.getElem_mem hlt)
      have HF := Lib.hid (fun e => scanAt_bad prodF l hlt (e := e))
      have HG := Lib.hid (scanAt_ok prodF l hlt)
      obtain ⟨⟨pd, s1, s2⟩, he⟩ : ∃ z, z = l[k] := ⟨_, rfl⟩
      rw [← he] at hr hi HF HG
      clear he
      have HI1 : Hid (IntS wr s1.v pd.ls) := Lib.hid (SliceOf.ext hi.1 HX.out)
      have HI2 : Hid (IntS wr s2.v pd.ps) := Lib.hid (SliceOf.ext hi.2 HX.out)
      have HR : Hid (wr.rangeAt b (off + k * 7) [.string pd.nm, .int .i64 pd.th, .int .i64 pd.wi, .int .i64 pd.al, .int .i64 pd.wa, s1.v, s2.v]) := Lib.hid hr
      clear hr hi
      rcases hn : nameL pd.nm.data.toList with _ | _
      · have HB := Lib.hid (HF.out 6 (prodF_name hn) (by decide))
        go_wp2_with (first | ((with_reducible refine wl_loadM midPd (Ext.range ?_ (Hid.out HR)) ?_ ?_ ?_ ?_); (· with_reducible repeat' (first | exact Ext.refl _ | exact ExtOf.ext _ | refine Ext.trans ?_ (ExtOf.ext _) | refine Ext.alloc ?_ _ | refine Ext.drew ?_ | refine Ext.setCell ?_ ?_ _ | refine Ext.setRow ?_ ?_ _ | exact HX.out | refine Ext.trans ?_ HX.out | omega | (simp; done) | (simp; omega))); (· rfl); (· (first | exact wanted_none rfl | exact wanted_some rfl rfl rfl)); (· rfl)) | ((with_reducible apply wl_store' lwPd); (· (first | exact wanted_none rfl | exact wanted_some rfl rfl rfl)); (· rfl); (· rfl); (· infer_instance); (· rfl); (· rfl); (· (simp [Value.oneCell', SlT.v])); try simp only [setRow_alloc, setRow_new, setRow_new1, setRow_new2, setRow_new11, setRow_new111]) | ((with_reducible apply wl_load' lwPd); (· (first | exact wanted_none rfl | exact wanted_some rfl rfl rfl)); (· rfl); (· infer_instance); (· rfl)) | (go_at_call 39; refine (isName_any _ _).mono ?_; rintro e w' ⟨rfl, rfl⟩) | (go_at_call 49; refine (risName_any _ _).mono ?_; rintro e w' ⟨rfl, rfl⟩) | (go_at_call 41; refine (checkNumbers_any pd s1.v s2.v _ (SliceOf.ext HI1.out (by with_reducible repeat' (first | exact Ext.refl _ | exact ExtOf.ext _ | refine Ext.trans ?_ (ExtOf.ext _) | refine Ext.alloc ?_ _ | refine Ext.drew ?_ | refine Ext.setCell ?_ ?_ _ | refine Ext.setRow ?_ ?_ _ | exact HX.out | refine Ext.trans ?_ HX.out | omega | (simp; done) | (simp; omega)))) (SliceOf.ext HI2.out (by with_reducible repeat' (first | exact Ext.refl _ | exact ExtOf.ext _ | refine Ext.trans ?_ (ExtOf.ext _) | refine Ext.alloc ?_ _ | refine Ext.drew ?_ | refine Ext.setCell ?_ ?_ _ | refine Ext.setRow ?_ ?_ _ | exact HX.out | refine Ext.trans ?_ HX.out | omega | (simp; done) | (simp; omega))))).mono ?_; rintro e w' ⟨rfl, nn, rfl⟩) | (go_at_call 50; refine (rgreen_any pd.nm pd.th pd.wi pd.al pd.wa s1.v s2.v _).mono ?_; rintro e w' ⟨rfl, n, rfl⟩) | (go_at_call 51; refine (rLengths_any pd s1.v s2.v _ (SliceOf.ext HI1.out (by with_reducible repeat' (first | exact Ext.refl _ | exact ExtOf.ext _ | refine Ext.trans ?_ (ExtOf.ext _) | refine Ext.alloc ?_ _ | refine Ext.drew ?_ | refine Ext.setCell ?_ ?_ _ | refine Ext.setRow ?_ ?_ _ | exact HX.out | refine Ext.trans ?_ HX.out | omega | (simp; done) | (simp; omega)))) (SliceOf.ext HI2.out (by with_reducible repeat' (first | exact Ext.refl _ | exact ExtOf.ext _ | refine Ext.trans ?_ (ExtOf.ext _) | refine Ext.alloc ?_ _ | refine Ext.drew ?_ | refine Ext.setCell ?_ ?_ _ | refine Ext.setRow ?_ ?_ _ | exact HX.out | refine Ext.trans ?_ HX.out | omega | (simp; done) | (simp; omega))))).mono ?_; rintro e w' ⟨rfl, nn, rfl⟩))
        go_ret
        exact ⟨ret_int (by rw [HE.out, HD.out, HB.out]), ExtOf.of (HX.out.trans (by with_reducible repeat' (first | exact Ext.refl _ | exact ExtOf.ext _ | refine Ext.trans ?_ (ExtOf.ext _) | refine Ext.alloc ?_ _ | refine Ext.drew ?_ | refine Ext.setCell ?_ ?_ _ | refine Ext.setRow ?_ ?_ _ | exact HX.out | refine Ext.trans ?_ HX.out | omega | (simp; done) | (simp; omega))))⟩
      · go_wp2_with (first | ((with_reducible refine wl_loadM midPd (Ext.range ?_ (Hid.out HR)) ?_ ?_ ?_ ?_); (· with_reducible repeat' (first | exact Ext.refl _ | exact ExtOf.ext _ | refine Ext.trans ?_ (ExtOf.ext _) | refine Ext.alloc ?_ _ | refine Ext.drew ?_ | refine Ext.setCell ?_ ?_ _ | refine Ext.setRow ?_ ?_ _ | exact HX.out | refine Ext.trans ?_ HX.out | omega | (simp; done) | (simp; omega))); (· rfl); (· (first | exact wanted_none rfl | exact wanted_some rfl rfl rfl)); (· rfl)) | ((with_reducible apply wl_store' lwPd); (· (first | exact wanted_none rfl | exact wanted_some rfl rfl rfl)); (· rfl); (· rfl); (· infer_instance); (· rfl); (· rfl); (· (simp [Value.oneCell', SlT.v])); try simp only [setRow_alloc, setRow_new, setRow_new1, setRow_new2, setRow_new11, setRow_new111]) | ((with_reducible apply wl_load' lwPd); (· (first | exact wanted_none rfl | exact wanted_some rfl rfl rfl)); (· rfl); (· infer_instance); (· rfl)) | (go_at_call 39; refine (isName_any _ _).mono ?_; rintro e w' ⟨rfl, rfl⟩) | (go_at_call 49; refine (risName_any _ _).mono ?_; rintro e w' ⟨rfl, rfl⟩) | (go_at_call 41; refine (checkNumbers_any pd s1.v s2.v _ (SliceOf.ext HI1.out (by with_reducible repeat' (first | exact Ext.refl _ | exact ExtOf.ext _ | refine Ext.trans ?_ (ExtOf.ext _) | refine Ext.alloc ?_ _ | refine Ext.drew ?_ | refine Ext.setCell ?_ ?_ _ | refine Ext.setRow ?_ ?_ _ | exact HX.out | refine Ext.trans ?_ HX.out | omega | (simp; done) | (simp; omega)))) (SliceOf.ext HI2.out (by with_reducible repeat' (first | exact Ext.refl _ | exact ExtOf.ext _ | refine Ext.trans ?_ (ExtOf.ext _) | refine Ext.alloc ?_ _ | refine Ext.drew ?_ | refine Ext.setCell ?_ ?_ _ | refine Ext.setRow ?_ ?_ _ | exact HX.out | refine Ext.trans ?_ HX.out | omega | (simp; done) | (simp; omega))))).mono ?_; rintro e w' ⟨rfl, nn, rfl⟩) | (go_at_call 50; refine (rgreen_any pd.nm pd.th pd.wi pd.al pd.wa s1.v s2.v _).mono ?_; rintro e w' ⟨rfl, n, rfl⟩) | (go_at_call 51; refine (rLengths_any pd s1.v s2.v _ (SliceOf.ext HI1.out (by with_reducible repeat' (first | exact Ext.refl _ | exact ExtOf.ext _ | refine Ext.trans ?_ (ExtOf.ext _) | refine Ext.alloc ?_ _ | refine Ext.drew ?_ | refine Ext.setCell ?_ ?_ _ | refine Ext.setRow ?_ ?_ _ | exact HX.out | refine Ext.trans ?_ HX.out | omega | (simp; done) | (simp; omega)))) (SliceOf.ext HI2.out (by with_reducible repeat' (first | exact Ext.refl _ | exact ExtOf.ext _ | refine Ext.trans ?_ (ExtOf.ext _) | refine Ext.alloc ?_ _ | refine Ext.drew ?_ | refine Ext.setCell ?_ ?_ _ | refine Ext.setRow ?_ ?_ _ | exact HX.out | refine Ext.trans ?_ HX.out | omega | (simp; done) | (simp; omega))))).mono ?_; rintro e w' ⟨rfl, nn, rfl⟩))
        refine wp_region_ext (by kernel_rfl) (by kernel_rfl) ?_
        repeat (first | go_big_quiet_skip | go_big_quiet_step ((go_at_call 40; exact ext_call (pfind_any _ _ _ _ (HTK.out.ext (by with_reducible repeat' (first | exact Ext.refl _ | exact ExtOf.ext _ | refine Ext.trans ?_ (ExtOf.ext _) | refine Ext.alloc ?_ _ | refine Ext.drew ?_ | refine Ext.setCell ?_ ?_ _ | refine Ext.setRow ?_ ?_ _ | exact HX.out | refine Ext.trans ?_ HX.out | omega | (simp; done) | (simp; omega))))))))
        refine wpQuiet_nil ?_
        intro _ hw'
        obtain ⟨nq, hw''⟩ := hw'
        subst hw''
        rcases hm : hasN pnm pd.nm (l.take k) with _ | _
        · have HPN : Hid (prodF (l.take k) (pd, s1, s2) = numE pd) := Lib.hid (prodF_num hn hm)
          by_cases h0 : numE pd = 0
          · have h1 : (numE pd != 0) = false := bne_eq_false_iff_eq.2 h0
            have HN := Lib.hid (HG.out (HPN.out.trans h0))
            clear h0
            go_wp2_with (first | ((with_reducible refine wl_loadM midPd (Ext.range ?_ (Hid.out HR)) ?_ ?_ ?_ ?_); (· with_reducible repeat' (first | exact Ext.refl _ | exact ExtOf.ext _ | refine Ext.trans ?_ (ExtOf.ext _) | refine Ext.alloc ?_ _ | refine Ext.drew ?_ | refine Ext.setCell ?_ ?_ _ | refine Ext.setRow ?_ ?_ _ | exact HX.out | refine Ext.trans ?_ HX.out | omega | (simp; done) | (simp; omega))); (· rfl); (· (first | exact wanted_none rfl | exact wanted_some rfl rfl rfl)); (· rfl)) | ((with_reducible apply wl_store' lwPd); (· (first | exact wanted_none rfl | exact wanted_some rfl rfl rfl)); (· rfl); (· rfl); (· infer_instance); (· rfl); (· rfl); (· (simp [Value.oneCell', SlT.v])); try simp only [setRow_alloc, setRow_new, setRow_new1, setRow_new2, setRow_new11, setRow_new111]) | ((with_reducible apply wl_load' lwPd); (· (first | exact wanted_none rfl | exact wanted_some rfl rfl rfl)); (· rfl); (· infer_instance); (· rfl)) | (go_at_call 39; refine (isName_any _ _).mono ?_; rintro e w' ⟨rfl, rfl⟩) | (go_at_call 49; refine (risName_any _ _).mono ?_; rintro e w' ⟨rfl, rfl⟩) | (go_at_call 41; refine (checkNumbers_any pd s1.v s2.v _ (SliceOf.ext HI1.out (by with_reducible repeat' (first | exact Ext.refl _ | exact ExtOf.ext _ | refine Ext.trans ?_ (ExtOf.ext _) | refine Ext.alloc ?_ _ | refine Ext.drew ?_ | refine Ext.setCell ?_ ?_ _ | refine Ext.setRow ?_ ?_ _ | exact HX.out | refine Ext.trans ?_ HX.out | omega | (simp; done) | (simp; omega)))) (SliceOf.ext HI2.out (by with_reducible repeat' (first | exact Ext.refl _ | exact ExtOf.ext _ | refine Ext.trans ?_ (ExtOf.ext _) | refine Ext.alloc ?_ _ | refine Ext.drew ?_ | refine Ext.setCell ?_ ?_ _ | refine Ext.setRow ?_ ?_ _ | exact HX.out | refine Ext.trans ?_ HX.out | omega | (simp; done) | (simp; omega))))).mono ?_; rintro e w' ⟨rfl, nn, rfl⟩) | (go_at_call 50; refine (rgreen_any pd.nm pd.th pd.wi pd.al pd.wa s1.v s2.v _).mono ?_; rintro e w' ⟨rfl, n, rfl⟩) | (go_at_call 51; refine (rLengths_any pd s1.v s2.v _ (SliceOf.ext HI1.out (by with_reducible repeat' (first | exact Ext.refl _ | exact ExtOf.ext _ | refine Ext.trans ?_ (ExtOf.ext _) | refine Ext.alloc ?_ _ | refine Ext.drew ?_ | refine Ext.setCell ?_ ?_ _ | refine Ext.setRow ?_ ?_ _ | exact HX.out | refine Ext.trans ?_ HX.out | omega | (simp; done) | (simp; omega)))) (SliceOf.ext HI2.out (by with_reducible repeat' (first | exact Ext.refl _ | exact ExtOf.ext _ | refine Ext.trans ?_ (ExtOf.ext _) | refine Ext.alloc ?_ _ | refine Ext.drew ?_ | refine Ext.setCell ?_ ?_ _ | refine Ext.setRow ?_ ?_ _ | exact HX.out | refine Ext.trans ?_ HX.out | omega | (simp; done) | (simp; omega))))).mono ?_; rintro e w' ⟨rfl, nn, rfl⟩))
            go_roundw
            case rel => exact ⟨k + 1, by omega, by first | rfl | go_num, HD.out.trans HN.out, HX.out.trans (by with_reducible repeat' (first | exact Ext.refl _ | exact ExtOf.ext _ | refine Ext.trans ?_ (ExtOf.ext _) | refine Ext.alloc ?_ _ | refine Ext.drew ?_ | refine Ext.setCell ?_ ?_ _ | refine Ext.setRow ?_ ?_ _ | exact HX.out | refine Ext.trans ?_ HX.out | omega | (simp; done) | (simp; omega)))⟩
            case measure => simp [intOf]; omega
          · have h1 : (numE pd != 0) = true := bne_iff_ne.2 h0
            have HB := Lib.hid (HF.out _ HPN.out h0)
            clear h0
            go_wp2_with (first | ((with_reducible refine wl_loadM midPd (Ext.range ?_ (Hid.out HR)) ?_ ?_ ?_ ?_); (· with_reducible repeat' (first | exact Ext.refl _ | exact ExtOf.ext _ | refine Ext.trans ?_ (ExtOf.ext _) | refine Ext.alloc ?_ _ | refine Ext.drew ?_ | refine Ext.setCell ?_ ?_ _ | refine Ext.setRow ?_ ?_ _ | exact HX.out | refine Ext.trans ?_ HX.out | omega | (simp; done) | (simp; omega))); (· rfl); (· (first | exact wanted_none rfl | exact wanted_some rfl rfl rfl)); (· rfl)) | ((with_reducible apply wl_store' lwPd); (· (first | exact wanted_none rfl | exact wanted_some rfl rfl rfl)); (· rfl); (· rfl); (· infer_instance); (· rfl); (· rfl); (· (simp [Value.oneCell', SlT.v])); try simp only [setRow_alloc, setRow_new, setRow_new1, setRow_new2, setRow_new11, setRow_new111]) | ((with_reducible apply wl_load' lwPd); (· (first | exact wanted_none rfl | exact wanted_some rfl rfl rfl)); (· rfl); (· infer_instance); (· rfl)) | (go_at_call 39; refine (isName_any _ _).mono ?_; rintro e w' ⟨rfl, rfl⟩) | (go_at_call 49; refine (risName_any _ _).mono ?_; rintro e w' ⟨rfl, rfl⟩) | (go_at_call 41; refine (checkNumbers_any pd s1.v s2.v _ (SliceOf.ext HI1.out (by with_reducible repeat' (first | exact Ext.refl _ | exact ExtOf.ext _ | refine Ext.trans ?_ (ExtOf.ext _) | refine Ext.alloc ?_ _ | refine Ext.drew ?_ | refine Ext.setCell ?_ ?_ _ | refine Ext.setRow ?_ ?_ _ | exact HX.out | refine Ext.trans ?_ HX.out | omega | (simp; done) | (simp; omega)))) (SliceOf.ext HI2.out (by with_reducible repeat' (first | exact Ext.refl _ | exact ExtOf.ext _ | refine Ext.trans ?_ (ExtOf.ext _) | refine Ext.alloc ?_ _ | refine Ext.drew ?_ | refine Ext.setCell ?_ ?_ _ | refine Ext.setRow ?_ ?_ _ | exact HX.out | refine Ext.trans ?_ HX.out | omega | (simp; done) | (simp; omega))))).mono ?_; rintro e w' ⟨rfl, nn, rfl⟩) | (go_at_call 50; refine (rgreen_any pd.nm pd.th pd.wi pd.al pd.wa s1.v s2.v _).mono ?_; rintro e w' ⟨rfl, n, rfl⟩) | (go_at_call 51; refine (rLengths_any pd s1.v s2.v _ (SliceOf.ext HI1.out (by with_reducible repeat' (first | exact Ext.refl _ | exact ExtOf.ext _ | refine Ext.trans ?_ (ExtOf.ext _) | refine Ext.alloc ?_ _ | refine Ext.drew ?_ | refine Ext.setCell ?_ ?_ _ | refine Ext.setRow ?_ ?_ _ | exact HX.out | refine Ext.trans ?_ HX.out | omega | (simp; done) | (simp; omega)))) (SliceOf.ext HI2.out (by with_reducible repeat' (first | exact Ext.refl _ | exact ExtOf.ext _ | refine Ext.trans ?_ (ExtOf.ext _) | refine Ext.alloc ?_ _ | refine Ext.drew ?_ | refine Ext.setCell ?_ ?_ _ | refine Ext.setRow ?_ ?_ _ | exact HX.out | refine Ext.trans ?_ HX.out | omega | (simp; done) | (simp; omega))))).mono ?_; rintro e w' ⟨rfl, nn, rfl⟩))
            go_ret
            exact ⟨ret_int (by rw [HE.out, HD.out, HB.out]), ExtOf.of (HX.out.trans (by with_reducible repeat' (first | exact Ext.refl _ | exact ExtOf.ext _ | refine Ext.trans ?_ (ExtOf.ext _) | refine Ext.alloc ?_ _ | refine Ext.drew ?_ | refine Ext.setCell ?_ ?_ _ | refine Ext.setRow ?_ ?_ _ | exact HX.out | refine Ext.trans ?_ HX.out | omega | (simp; done) | (simp; omega))))⟩
        · have HB := Lib.hid (HF.out 7 (prodF_dup hn hm) (by decide))
          go_wp2_with (first | ((with_reducible refine wl_loadM midPd (Ext.range ?_ (Hid.out HR)) ?_ ?_ ?_ ?_); (· with_reducible repeat' (first | exact Ext.refl _ | exact ExtOf.ext _ | refine Ext.trans ?_ (ExtOf.ext _) | refine Ext.alloc ?_ _ | refine Ext.drew ?_ | refine Ext.setCell ?_ ?_ _ | refine Ext.setRow ?_ ?_ _ | exact HX.out | refine Ext.trans ?_ HX.out | omega | (simp; done) | (simp; omega))); (· rfl); (· (first | exact wanted_none rfl | exact wanted_some rfl rfl rfl)); (· rfl)) | ((with_reducible apply wl_store' lwPd); (· (first | exact wanted_none rfl | exact wanted_some rfl rfl rfl)); (· rfl); (· rfl); (· infer_instance); (· rfl); (· rfl); (· (simp [Value.oneCell', SlT.v])); try simp only [setRow_alloc, setRow_new, setRow_new1, setRow_new2, setRow_new11, setRow_new111]) | ((with_reducible apply wl_load' lwPd); (· (first | exact wanted_none rfl | exact wanted_some rfl rfl rfl)); (· rfl); (· infer_instance); (· rfl)) | (go_at_call 39; refine (isName_any _ _).mono ?_; rintro e w' ⟨rfl, rfl⟩) | (go_at_call 49; refine (risName_any _ _).mono ?_; rintro e w' ⟨rfl, rfl⟩) | (go_at_call 41; refine (checkNumbers_any pd s1.v s2.v _ (SliceOf.ext HI1.out (by with_reducible repeat' (first | exact Ext.refl _ | exact ExtOf.ext _ | refine Ext.trans ?_ (ExtOf.ext _) | refine Ext.alloc ?_ _ | refine Ext.drew ?_ | refine Ext.setCell ?_ ?_ _ | refine Ext.setRow ?_ ?_ _ | exact HX.out | refine Ext.trans ?_ HX.out | omega | (simp; done) | (simp; omega)))) (SliceOf.ext HI2.out (by with_reducible repeat' (first | exact Ext.refl _ | exact ExtOf.ext _ | refine Ext.trans ?_ (ExtOf.ext _) | refine Ext.alloc ?_ _ | refine Ext.drew ?_ | refine Ext.setCell ?_ ?_ _ | refine Ext.setRow ?_ ?_ _ | exact HX.out | refine Ext.trans ?_ HX.out | omega | (simp; done) | (simp; omega))))).mono ?_; rintro e w' ⟨rfl, nn, rfl⟩) | (go_at_call 50; refine (rgreen_any pd.nm pd.th pd.wi pd.al pd.wa s1.v s2.v _).mono ?_; rintro e w' ⟨rfl, n, rfl⟩) | (go_at_call 51; refine (rLengths_any pd s1.v s2.v _ (SliceOf.ext HI1.out (by with_reducible repeat' (first | exact Ext.refl _ | exact ExtOf.ext _ | refine Ext.trans ?_ (ExtOf.ext _) | refine Ext.alloc ?_ _ | refine Ext.drew ?_ | refine Ext.setCell ?_ ?_ _ | refine Ext.setRow ?_ ?_ _ | exact HX.out | refine Ext.trans ?_ HX.out | omega | (simp; done) | (simp; omega)))) (SliceOf.ext HI2.out (by with_reducible repeat' (first | exact Ext.refl _ | exact ExtOf.ext _ | refine Ext.trans ?_ (ExtOf.ext _) | refine Ext.alloc ?_ _ | refine Ext.drew ?_ | refine Ext.setCell ?_ ?_ _ | refine Ext.setRow ?_ ?_ _ | exact HX.out | refine Ext.trans ?_ HX.out | omega | (simp; done) | (simp; omega))))).mono ?_; rintro e w' ⟨rfl, nn, rfl⟩))
          go_ret
          exact ⟨ret_int (by rw [HE.out, HD.out, HB.out]), ExtOf.of (HX.out.trans (by with_reducible repeat' (first | exact Ext.refl _ | exact ExtOf.ext _ | refine Ext.trans ?_ (ExtOf.ext _) | refine Ext.alloc ?_ _ | refine Ext.drew ?_ | refine Ext.setCell ?_ ?_ _ | refine Ext.setRow ?_ ?_ _ | exact HX.out | refine Ext.trans ?_ HX.out | omega | (simp; done) | (simp; omega))))⟩
    · obtain rfl : k = l.length := by omega
      have HT : Hid (scanAt prodF l l.length = 0) := Lib.hid (scanAt_end _ _ (Nat.le_refl _))
      go_wp2_with fail
      go_ret
      exact ⟨ret_int (by rw [HE.out, HD.out, HT.out]), ExtOf.of HX.out⟩
end Go.Proofs.YteokijolhbohaaaGreatDoor
end
/-
  Chapter 59: catalogs of products, the reference.
-/
section
set_option linter.unusedVariables false
set_option linter.unusedSimpArgs false
namespace Go.Proofs.YteokijolhbohaaaGreatDoor
open Go.RowKit StM

attribute [local go_sem] ExtOf.cell ExtOf.frozen Block.cell Block.frozen ExtB.cell ExtB.frozen alloc_cell alloc_frozen
set_option maxHeartbeats 1600000 in
set_option maxRecDepth 20000 in
theorem rpCheck_any (l : List PdP) (v : Value) (w : World) (h : PdS w v l) : Calls Tryz.prog 22 #[v] w fun e w' => e = .returned (.int .i64 (productsE l)) ∧ ∃ n : ExtOf w, w' = n.val := by
  obtain ⟨p, cap, rfl, hc1, hc2, hc3⟩ := SliceOf.form h.1
  unfold maxLen at hc2
  have H := Lib.hid h.1
  have HI : Hid (∀ x ∈ l, IntS w x.2.1.v x.1.ls ∧ IntS w x.2.2.v x.1.ps) := Lib.hid h.2
  clear h
  by_cases h16 : 16 < l.length
  · have q1 : decide (16 < (l.length : Int)) = true := decide_eq_true (by omega)
    have HE : Hid (productsE l = 4) := Lib.hid (by unfold productsE; rw [if_pos h16])
    go_enter Tryz.func22, Tryz.ntmps22
    go_wp2_with fail
    go_ret
    exact ⟨ret_int HE.out.symm, by exact ExtOf.of (by with_reducible repeat' (first | exact Ext.refl _ | exact ExtOf.ext _ | refine Ext.trans ?_ (ExtOf.ext _) | refine Ext.alloc ?_ _ | refine Ext.drew ?_ | refine Ext.setCell ?_ ?_ _ | refine Ext.setRow ?_ ?_ _ | exact HX.out | refine Ext.trans ?_ HX.out | omega | (simp; done) | (simp; omega)))⟩
  have q1 : decide (16 < (l.length : Int)) = false := decide_eq_false (by omega)
  have HE : Hid (productsE l = scanAt prodF l 0) := Lib.hid (by unfold productsE; rw [if_neg h16])
  go_enter Tryz.func22, Tryz.ntmps22
  go_wp2_with fail
  go_loopw [3] (fun vi wr => ∃ k : Nat, k ≤ l.length ∧ vi = .int .i64 k ∧ scanAt prodF l 0 = scanAt prodF l k ∧ Ext w wr) (fun i _ => l.length - (intOf i).toNat)
  case atStart => exact ⟨0, by omega, rfl, rfl, Ext.refl _⟩
  case round =>
    obtain ⟨k, hk, rfl, hd, hx⟩ := hrel
    have HX := Lib.hid hx
    have HD := Lib.hid hd
    clear hx hd
    by_cases hlt : k < l.length
    · obtain ⟨b, off, rfl, ob, hr⟩ := SliceOf.elemO (SliceOf.ext H.out HX.out) hlt (by decide) (encPd_len _)
      have hi := HI.out _ (List.getElem_mem hlt)
      have HF := Lib.hid (fun e => scanAt_bad prodF l hlt (e := e))
      have HG := Lib.hid (scanAt_ok prodF l hlt)
      obtain ⟨⟨⟨nm, th, wi, al, wa, ls, ps⟩, s1, s2⟩, he⟩ : ∃ z, z = l[k] := ⟨_, rfl⟩
      rw [← he] at hr hi HF HG
      clear he
      have HI1 : Hid (IntS wr s1.v ls) := Lib.hid (SliceOf.ext hi.1 HX.out)
      have HI2 : Hid (IntS wr s2.v ps) := Lib.hid (SliceOf.ext hi.2 HX.out)
      have HR : Hid (wr.rangeAt b (off + k * 7) [.string nm, .int .i64 th, .int .i64 wi, .int .i64 al, .int .i64 wa, s1.v, s2.v]) := Lib.hid hr
      clear hr hi
      have hgr := okG_eq ⟨nm, th, wi, al, wa, ls, ps⟩
      simp only at hgr
      have HG2 : Hid ((StM.green th wi al).2 = grW th wi al) := Lib.hid (by rw [← hgr])
      clear hgr
      rcases hn : nameL nm.data.toList with _ | _
      · have HB := Lib.hid (HF.out 6 (prodF_name hn) (by decide))
        go_wp2_with (first | ((with_reducible refine wl_loadM midPd (Ext.range ?_ (Hid.out HR)) ?_ ?_ ?_ ?_); (· with_reducible repeat' (first | exact Ext.refl _ | exact ExtOf.ext _ | refine Ext.trans ?_ (ExtOf.ext _) | refine Ext.alloc ?_ _ | refine Ext.drew ?_ | refine Ext.setCell ?_ ?_ _ | refine Ext.setRow ?_ ?_ _ | exact HX.out | refine Ext.trans ?_ HX.out | omega | (simp; done) | (simp; omega))); (· rfl); (· (first | exact wanted_none rfl | exact wanted_some rfl rfl rfl)); (· rfl)) | ((with_reducible apply wl_store' lwPd); (· (first | exact wanted_none rfl | exact wanted_some rfl rfl rfl)); (· rfl); (· rfl); (· infer_instance); (· rfl); (· rfl); (· (simp [Value.oneCell', SlT.v])); try simp only [setRow_alloc, setRow_new, setRow_new1, setRow_new2, setRow_new11, setRow_new111]) | ((with_reducible apply wl_load' lwPd); (· (first | exact wanted_none rfl | exact wanted_some rfl rfl rfl)); (· rfl); (· infer_instance); (· rfl)) | (go_at_call 49; refine (risName_any _ _).mono ?_; rintro e w' ⟨rfl, rfl⟩) | (go_at_call 50; refine (rgreen_any nm th wi al wa s1.v s2.v _).mono ?_; rintro e w' ⟨rfl, n, rfl⟩) | (go_at_call 51; refine (rLengths_any ⟨nm, th, wi, al, wa, ls, ps⟩ s1.v s2.v _ (SliceOf.ext HI1.out (HY.out.trans (by with_reducible repeat' (first | exact Ext.refl _ | exact ExtOf.ext _ | refine Ext.trans ?_ (ExtOf.ext _) | refine Ext.alloc ?_ _ | refine Ext.drew ?_ | refine Ext.setCell ?_ ?_ _ | refine Ext.setRow ?_ ?_ _ | exact HX.out | refine Ext.trans ?_ HX.out | omega | (simp; done) | (simp; omega))))) (SliceOf.ext HI2.out (HY.out.trans (by with_reducible repeat' (first | exact Ext.refl _ | exact ExtOf.ext _ | refine Ext.trans ?_ (ExtOf.ext _) | refine Ext.alloc ?_ _ | refine Ext.drew ?_ | refine Ext.setCell ?_ ?_ _ | refine Ext.setRow ?_ ?_ _ | exact HX.out | refine Ext.trans ?_ HX.out | omega | (simp; done) | (simp; omega)))))).mono ?_; rintro e w' ⟨rfl, nn, rfl⟩))
        go_ret
        exact ⟨ret_int (by rw [HE.out, HD.out, HB.out]), ExtOf.of (HX.out.trans (by with_reducible repeat' (first | exact Ext.refl _ | exact ExtOf.ext _ | refine Ext.trans ?_ (ExtOf.ext _) | refine Ext.alloc ?_ _ | refine Ext.drew ?_ | refine Ext.setCell ?_ ?_ _ | refine Ext.setRow ?_ ?_ _ | exact HX.out | refine Ext.trans ?_ HX.out | omega | (simp; done) | (simp; omega))))⟩
      have HNM := Lib.hid hn
      go_wp2_with (first | ((with_reducible refine wl_loadM midPd (Ext.range ?_ (Hid.out HR)) ?_ ?_ ?_ ?_); (· with_reducible repeat' (first | exact Ext.refl _ | exact ExtOf.ext _ | refine Ext.trans ?_ (ExtOf.ext _) | refine Ext.alloc ?_ _ | refine Ext.drew ?_ | refine Ext.setCell ?_ ?_ _ | refine Ext.setRow ?_ ?_ _ | exact HX.out | refine Ext.trans ?_ HX.out | omega | (simp; done) | (simp; omega))); (· rfl); (· (first | exact wanted_none rfl | exact wanted_some rfl rfl rfl)); (· rfl)) | ((with_reducible apply wl_store' lwPd); (· (first | exact wanted_none rfl | exact wanted_some rfl rfl rfl)); (· rfl); (· rfl); (· infer_instance); (· rfl); (· rfl); (· (simp [Value.oneCell', SlT.v])); try simp only [setRow_alloc, setRow_new, setRow_new1, setRow_new2, setRow_new11, setRow_new111]) | ((with_reducible apply wl_load' lwPd); (· (first | exact wanted_none rfl | exact wanted_some rfl rfl rfl)); (· rfl); (· infer_instance); (· rfl)) | (go_at_call 49; refine (risName_any _ _).mono ?_; rintro e w' ⟨rfl, rfl⟩) | (go_at_call 50; refine (rgreen_any nm th wi al wa s1.v s2.v _).mono ?_; rintro e w' ⟨rfl, n, rfl⟩) | (go_at_call 51; refine (rLengths_any ⟨nm, th, wi, al, wa, ls, ps⟩ s1.v s2.v _ (SliceOf.ext HI1.out (HY.out.trans (by with_reducible repeat' (first | exact Ext.refl _ | exact ExtOf.ext _ | refine Ext.trans ?_ (ExtOf.ext _) | refine Ext.alloc ?_ _ | refine Ext.drew ?_ | refine Ext.setCell ?_ ?_ _ | refine Ext.setRow ?_ ?_ _ | exact HX.out | refine Ext.trans ?_ HX.out | omega | (simp; done) | (simp; omega))))) (SliceOf.ext HI2.out (HY.out.trans (by with_reducible repeat' (first | exact Ext.refl _ | exact ExtOf.ext _ | refine Ext.trans ?_ (ExtOf.ext _) | refine Ext.alloc ?_ _ | refine Ext.drew ?_ | refine Ext.setCell ?_ ?_ _ | refine Ext.setRow ?_ ?_ _ | exact HX.out | refine Ext.trans ?_ HX.out | omega | (simp; done) | (simp; omega)))))).mono ?_; rintro e w' ⟨rfl, nn, rfl⟩))
      clear hn
      have hb0 : Block (wr.alloc (.cells #[.string nm, .int .i64 th, .int .i64 wi, .int .i64 al, .int .i64 wa, s1.v, s2.v] 40)) wr.heap.size #[.string nm, .int .i64 th, .int .i64 wi, .int .i64 al, .int .i64 wa, s1.v, s2.v] := inferInstance
      obtain ⟨g, hg⟩ : ∃ g, g = wr.heap.size := ⟨_, rfl⟩
      rw [← hg] at hb0 ⊢
      have ob2 := hb0.old
      clear hg
      rename World => W2
      go_loopw [5] (fun vi wz => ∃ j : Nat, j ≤ k ∧ vi = .int .i64 j ∧ hasN pnm nm (l.take j) = false ∧ Ext W2 wz ∧ Block wz g #[.string nm, .int .i64 th, .int .i64 wi, .int .i64 al, .int .i64 wa, s1.v, s2.v]) (fun i _ => k - (intOf i).toNat)
      case atStart => exact ⟨0, by omega, rfl, rfl, by with_reducible repeat' (first | exact Ext.refl _ | exact ExtOf.ext _ | refine Ext.trans ?_ (ExtOf.ext _) | refine Ext.alloc ?_ _ | refine Ext.drew ?_ | refine Ext.setCell ?_ ?_ _ | refine Ext.setRow ?_ ?_ _ | exact HX.out | refine Ext.trans ?_ HX.out | omega | (simp; done) | (simp; omega)), hb0⟩
      case round =>
        clear hb0
        obtain ⟨j, hj, rfl, hd2, hx2, hb⟩ := hrel
        have HY := Lib.hid hx2
        have HD2 := Lib.hid hd2
        clear hx2 hd2
        by_cases hjk : j < k
        · obtain ⟨b', off', hpe, ob', hr'⟩ := SliceOf.elemO (SliceOf.ext H.out (HX.out.trans HY.out)) (show j < l.length by omega) (by decide) (encPd_len _)
          simp only [Option.some.injEq, Addr.mk.injEq, and_true] at hpe
          obtain ⟨rfl, rfl⟩ := hpe
          have HS := Lib.hid (hasN_take pnm nm l (show j < l.length by omega))
          have HO : Hid (eqS (pnm l[j]) nm = true → hasN pnm nm (l.take k) = true) := Lib.hid (fun e => hasN_of pnm nm (l.take k) (k := j) (by rw [List.length_take]; omega) (by rw [List.getElem_take]; exact e))
          obtain ⟨⟨⟨nm2, th2, wi2, al2, wa2, ls2, ps2⟩, s12, s22⟩, he⟩ : ∃ z, z = l[j] := ⟨_, rfl⟩
          rw [← he] at hr' HS HO
          clear he
          have hcn : wr.cell? ⟨b, off + j * 7, none⟩ = some (.string nm2) := by simpa using hr' 0 (.string nm2) rfl
          clear hr'
          rcases q : (nm2.toList == nm.toList) with _ | _
          · go_wp2_with fail
            refine wp_region_ext (by kernel_rfl) (by kernel_rfl) ?_
            repeat (first | go_big_quiet_skip | go_big_quiet_step (fail))
            refine wpQuiet_nil ?_
            intro _ hw'
            obtain ⟨nq, hw''⟩ := hw'
            subst hw''
            go_wp2_with fail
            go_roundw
            case rel => exact ⟨j + 1, by omega, by first | rfl | go_num, by rw [HS.out, HD2.out]; exact q, HY.out.trans (by with_reducible repeat' (first | exact Ext.refl _ | exact ExtOf.ext _ | refine Ext.trans ?_ (ExtOf.ext _) | refine Ext.alloc ?_ _ | refine Ext.drew ?_ | refine Ext.setCell ?_ ?_ _ | refine Ext.setRow ?_ ?_ _ | exact HX.out | refine Ext.trans ?_ HX.out | omega | (simp; done) | (simp; omega))), inferInstance⟩
            case measure => simp [intOf]; omega
          · have HB := Lib.hid (HF.out 7 (prodF_dup HNM.out (HO.out q)) (by decide))
            go_wp2_with fail
            refine wp_region_ext (by kernel_rfl) (by kernel_rfl) ?_
            repeat (first | go_big_quiet_skip | go_big_quiet_step (fail))
            refine wpQuiet_nil ?_
            intro _ hw'
            obtain ⟨nq, hw''⟩ := hw'
            subst hw''
            go_wp2_with fail
            go_ret
            exact ⟨ret_int (by rw [HE.out, HD.out, HB.out]), ExtOf.of (HX.out.trans (HY.out.trans (by with_reducible repeat' (first | exact Ext.refl _ | exact ExtOf.ext _ | refine Ext.trans ?_ (ExtOf.ext _) | refine Ext.alloc ?_ _ | refine Ext.drew ?_ | refine Ext.setCell ?_ ?_ _ | refine Ext.setRow ?_ ?_ _ | exact HX.out | refine Ext.trans ?_ HX.out | omega | (simp; done) | (simp; omega)))))⟩
        · obtain rfl : j = k := by omega
          have HPN : Hid (prodF (l.take j) (⟨nm, th, wi, al, wa, ls, ps⟩, s1, s2) = numE ⟨nm, th, wi, al, wa, ls, ps⟩) := Lib.hid (prodF_num HNM.out HD2.out)
          by_cases a1 : th < 5
          · have HB := Lib.hid (HF.out 9 (by rw [HPN.out]; (unfold numE; rw [if_pos (by simp only; omega)])) (by decide))
            clear HG2
            go_wp2_with (first | ((with_reducible refine wl_loadM midPd (Ext.range ?_ (Hid.out HR)) ?_ ?_ ?_ ?_); (· with_reducible repeat' (first | exact Ext.refl _ | exact ExtOf.ext _ | refine Ext.trans ?_ (ExtOf.ext _) | refine Ext.alloc ?_ _ | refine Ext.drew ?_ | refine Ext.setCell ?_ ?_ _ | refine Ext.setRow ?_ ?_ _ | exact HX.out | refine Ext.trans ?_ HX.out | omega | (simp; done) | (simp; omega))); (· rfl); (· (first | exact wanted_none rfl | exact wanted_some rfl rfl rfl)); (· rfl)) | ((with_reducible apply wl_store' lwPd); (· (first | exact wanted_none rfl | exact wanted_some rfl rfl rfl)); (· rfl); (· rfl); (· infer_instance); (· rfl); (· rfl); (· (simp [Value.oneCell', SlT.v])); try simp only [setRow_alloc, setRow_new, setRow_new1, setRow_new2, setRow_new11, setRow_new111]) | ((with_reducible apply wl_load' lwPd); (· (first | exact wanted_none rfl | exact wanted_some rfl rfl rfl)); (· rfl); (· infer_instance); (· rfl)) | (go_at_call 49; refine (risName_any _ _).mono ?_; rintro e w' ⟨rfl, rfl⟩) | (go_at_call 50; refine (rgreen_any nm th wi al wa s1.v s2.v _).mono ?_; rintro e w' ⟨rfl, n, rfl⟩) | (go_at_call 51; refine (rLengths_any ⟨nm, th, wi, al, wa, ls, ps⟩ s1.v s2.v _ (SliceOf.ext HI1.out (HY.out.trans (by with_reducible repeat' (first | exact Ext.refl _ | exact ExtOf.ext _ | refine Ext.trans ?_ (ExtOf.ext _) | refine Ext.alloc ?_ _ | refine Ext.drew ?_ | refine Ext.setCell ?_ ?_ _ | refine Ext.setRow ?_ ?_ _ | exact HX.out | refine Ext.trans ?_ HX.out | omega | (simp; done) | (simp; omega))))) (SliceOf.ext HI2.out (HY.out.trans (by with_reducible repeat' (first | exact Ext.refl _ | exact ExtOf.ext _ | refine Ext.trans ?_ (ExtOf.ext _) | refine Ext.alloc ?_ _ | refine Ext.drew ?_ | refine Ext.setCell ?_ ?_ _ | refine Ext.setRow ?_ ?_ _ | exact HX.out | refine Ext.trans ?_ HX.out | omega | (simp; done) | (simp; omega)))))).mono ?_; rintro e w' ⟨rfl, nn, rfl⟩))
            go_ret
            exact ⟨ret_int (by rw [HE.out, HD.out, HB.out]), ExtOf.of (HX.out.trans (HY.out.trans (by with_reducible repeat' (first | exact Ext.refl _ | exact ExtOf.ext _ | refine Ext.trans ?_ (ExtOf.ext _) | refine Ext.alloc ?_ _ | refine Ext.drew ?_ | refine Ext.setCell ?_ ?_ _ | refine Ext.setRow ?_ ?_ _ | exact HX.out | refine Ext.trans ?_ HX.out | omega | (simp; done) | (simp; omega)))))⟩
          have q1 : decide (th < 5) = false := decide_eq_false a1
          by_cases a2 : 300 < th
          · have HB := Lib.hid (HF.out 9 (by rw [HPN.out]; (unfold numE; rw [if_pos (by simp only; omega)])) (by decide))
            clear HG2
            go_wp2_with (first | ((with_reducible refine wl_loadM midPd (Ext.range ?_ (Hid.out HR)) ?_ ?_ ?_ ?_); (· with_reducible repeat' (first | exact Ext.refl _ | exact ExtOf.ext _ | refine Ext.trans ?_ (ExtOf.ext _) | refine Ext.alloc ?_ _ | refine Ext.drew ?_ | refine Ext.setCell ?_ ?_ _ | refine Ext.setRow ?_ ?_ _ | exact HX.out | refine Ext.trans ?_ HX.out | omega | (simp; done) | (simp; omega))); (· rfl); (· (first | exact wanted_none rfl | exact wanted_some rfl rfl rfl)); (· rfl)) | ((with_reducible apply wl_store' lwPd); (· (first | exact wanted_none rfl | exact wanted_some rfl rfl rfl)); (· rfl); (· rfl); (· infer_instance); (· rfl); (· rfl); (· (simp [Value.oneCell', SlT.v])); try simp only [setRow_alloc, setRow_new, setRow_new1, setRow_new2, setRow_new11, setRow_new111]) | ((with_reducible apply wl_load' lwPd); (· (first | exact wanted_none rfl | exact wanted_some rfl rfl rfl)); (· rfl); (· infer_instance); (· rfl)) | (go_at_call 49; refine (risName_any _ _).mono ?_; rintro e w' ⟨rfl, rfl⟩) | (go_at_call 50; refine (rgreen_any nm th wi al wa s1.v s2.v _).mono ?_; rintro e w' ⟨rfl, n, rfl⟩) | (go_at_call 51; refine (rLengths_any ⟨nm, th, wi, al, wa, ls, ps⟩ s1.v s2.v _ (SliceOf.ext HI1.out (HY.out.trans (by with_reducible repeat' (first | exact Ext.refl _ | exact ExtOf.ext _ | refine Ext.trans ?_ (ExtOf.ext _) | refine Ext.alloc ?_ _ | refine Ext.drew ?_ | refine Ext.setCell ?_ ?_ _ | refine Ext.setRow ?_ ?_ _ | exact HX.out | refine Ext.trans ?_ HX.out | omega | (simp; done) | (simp; omega))))) (SliceOf.ext HI2.out (HY.out.trans (by with_reducible repeat' (first | exact Ext.refl _ | exact ExtOf.ext _ | refine Ext.trans ?_ (ExtOf.ext _) | refine Ext.alloc ?_ _ | refine Ext.drew ?_ | refine Ext.setCell ?_ ?_ _ | refine Ext.setRow ?_ ?_ _ | exact HX.out | refine Ext.trans ?_ HX.out | omega | (simp; done) | (simp; omega)))))).mono ?_; rintro e w' ⟨rfl, nn, rfl⟩))
            go_ret
            exact ⟨ret_int (by rw [HE.out, HD.out, HB.out]), ExtOf.of (HX.out.trans (HY.out.trans (by with_reducible repeat' (first | exact Ext.refl _ | exact ExtOf.ext _ | refine Ext.trans ?_ (ExtOf.ext _) | refine Ext.alloc ?_ _ | refine Ext.drew ?_ | refine Ext.setCell ?_ ?_ _ | refine Ext.setRow ?_ ?_ _ | exact HX.out | refine Ext.trans ?_ HX.out | omega | (simp; done) | (simp; omega)))))⟩
          have q2 : decide (300 < th) = false := decide_eq_false a2
          by_cases a3 : wi < th
          · have HB := Lib.hid (HF.out 9 (by rw [HPN.out]; (unfold numE; rw [if_pos (by simp only; omega)])) (by decide))
            clear HG2
            go_wp2_with (first | ((with_reducible refine wl_loadM midPd (Ext.range ?_ (Hid.out HR)) ?_ ?_ ?_ ?_); (· with_reducible repeat' (first | exact Ext.refl _ | exact ExtOf.ext _ | refine Ext.trans ?_ (ExtOf.ext _) | refine Ext.alloc ?_ _ | refine Ext.drew ?_ | refine Ext.setCell ?_ ?_ _ | refine Ext.setRow ?_ ?_ _ | exact HX.out | refine Ext.trans ?_ HX.out | omega | (simp; done) | (simp; omega))); (· rfl); (· (first | exact wanted_none rfl | exact wanted_some rfl rfl rfl)); (· rfl)) | ((with_reducible apply wl_store' lwPd); (· (first | exact wanted_none rfl | exact wanted_some rfl rfl rfl)); (· rfl); (· rfl); (· infer_instance); (· rfl); (· rfl); (· (simp [Value.oneCell', SlT.v])); try simp only [setRow_alloc, setRow_new, setRow_new1, setRow_new2, setRow_new11, setRow_new111]) | ((with_reducible apply wl_load' lwPd); (· (first | exact wanted_none rfl | exact wanted_some rfl rfl rfl)); (· rfl); (· infer_instance); (· rfl)) | (go_at_call 49; refine (risName_any _ _).mono ?_; rintro e w' ⟨rfl, rfl⟩) | (go_at_call 50; refine (rgreen_any nm th wi al wa s1.v s2.v _).mono ?_; rintro e w' ⟨rfl, n, rfl⟩) | (go_at_call 51; refine (rLengths_any ⟨nm, th, wi, al, wa, ls, ps⟩ s1.v s2.v _ (SliceOf.ext HI1.out (HY.out.trans (by with_reducible repeat' (first | exact Ext.refl _ | exact ExtOf.ext _ | refine Ext.trans ?_ (ExtOf.ext _) | refine Ext.alloc ?_ _ | refine Ext.drew ?_ | refine Ext.setCell ?_ ?_ _ | refine Ext.setRow ?_ ?_ _ | exact HX.out | refine Ext.trans ?_ HX.out | omega | (simp; done) | (simp; omega))))) (SliceOf.ext HI2.out (HY.out.trans (by with_reducible repeat' (first | exact Ext.refl _ | exact ExtOf.ext _ | refine Ext.trans ?_ (ExtOf.ext _) | refine Ext.alloc ?_ _ | refine Ext.drew ?_ | refine Ext.setCell ?_ ?_ _ | refine Ext.setRow ?_ ?_ _ | exact HX.out | refine Ext.trans ?_ HX.out | omega | (simp; done) | (simp; omega)))))).mono ?_; rintro e w' ⟨rfl, nn, rfl⟩))
            go_ret
            exact ⟨ret_int (by rw [HE.out, HD.out, HB.out]), ExtOf.of (HX.out.trans (HY.out.trans (by with_reducible repeat' (first | exact Ext.refl _ | exact ExtOf.ext _ | refine Ext.trans ?_ (ExtOf.ext _) | refine Ext.alloc ?_ _ | refine Ext.drew ?_ | refine Ext.setCell ?_ ?_ _ | refine Ext.setRow ?_ ?_ _ | exact HX.out | refine Ext.trans ?_ HX.out | omega | (simp; done) | (simp; omega)))))⟩
          have q3 : decide (wi < th) = false := decide_eq_false a3
          by_cases a4 : 600 < wi
          · have HB := Lib.hid (HF.out 9 (by rw [HPN.out]; (unfold numE; rw [if_pos (by simp only; omega)])) (by decide))
            clear HG2
            go_wp2_with (first | ((with_reducible refine wl_loadM midPd (Ext.range ?_ (Hid.out HR)) ?_ ?_ ?_ ?_); (· with_reducible repeat' (first | exact Ext.refl _ | exact ExtOf.ext _ | refine Ext.trans ?_ (ExtOf.ext _) | refine Ext.alloc ?_ _ | refine Ext.drew ?_ | refine Ext.setCell ?_ ?_ _ | refine Ext.setRow ?_ ?_ _ | exact HX.out | refine Ext.trans ?_ HX.out | omega | (simp; done) | (simp; omega))); (· rfl); (· (first | exact wanted_none rfl | exact wanted_some rfl rfl rfl)); (· rfl)) | ((with_reducible apply wl_store' lwPd); (· (first | exact wanted_none rfl | exact wanted_some rfl rfl rfl)); (· rfl); (· rfl); (· infer_instance); (· rfl); (· rfl); (· (simp [Value.oneCell', SlT.v])); try simp only [setRow_alloc, setRow_new, setRow_new1, setRow_new2, setRow_new11, setRow_new111]) | ((with_reducible apply wl_load' lwPd); (· (first | exact wanted_none rfl | exact wanted_some rfl rfl rfl)); (· rfl); (· infer_instance); (· rfl)) | (go_at_call 49; refine (risName_any _ _).mono ?_; rintro e w' ⟨rfl, rfl⟩) | (go_at_call 50; refine (rgreen_any nm th wi al wa s1.v s2.v _).mono ?_; rintro e w' ⟨rfl, n, rfl⟩) | (go_at_call 51; refine (rLengths_any ⟨nm, th, wi, al, wa, ls, ps⟩ s1.v s2.v _ (SliceOf.ext HI1.out (HY.out.trans (by with_reducible repeat' (first | exact Ext.refl _ | exact ExtOf.ext _ | refine Ext.trans ?_ (ExtOf.ext _) | refine Ext.alloc ?_ _ | refine Ext.drew ?_ | refine Ext.setCell ?_ ?_ _ | refine Ext.setRow ?_ ?_ _ | exact HX.out | refine Ext.trans ?_ HX.out | omega | (simp; done) | (simp; omega))))) (SliceOf.ext HI2.out (HY.out.trans (by with_reducible repeat' (first | exact Ext.refl _ | exact ExtOf.ext _ | refine Ext.trans ?_ (ExtOf.ext _) | refine Ext.alloc ?_ _ | refine Ext.drew ?_ | refine Ext.setCell ?_ ?_ _ | refine Ext.setRow ?_ ?_ _ | exact HX.out | refine Ext.trans ?_ HX.out | omega | (simp; done) | (simp; omega)))))).mono ?_; rintro e w' ⟨rfl, nn, rfl⟩))
            go_ret
            exact ⟨ret_int (by rw [HE.out, HD.out, HB.out]), ExtOf.of (HX.out.trans (HY.out.trans (by with_reducible repeat' (first | exact Ext.refl _ | exact ExtOf.ext _ | refine Ext.trans ?_ (ExtOf.ext _) | refine Ext.alloc ?_ _ | refine Ext.drew ?_ | refine Ext.setCell ?_ ?_ _ | refine Ext.setRow ?_ ?_ _ | exact HX.out | refine Ext.trans ?_ HX.out | omega | (simp; done) | (simp; omega)))))⟩
          have q4 : decide (600 < wi) = false := decide_eq_false a4
          by_cases a5 : al < 0
          · have HB := Lib.hid (HF.out 9 (by rw [HPN.out]; (unfold numE; rw [if_neg (by simp only; omega), if_pos (by simp only; omega)])) (by decide))
            clear HG2
            go_wp2_with (first | ((with_reducible refine wl_loadM midPd (Ext.range ?_ (Hid.out HR)) ?_ ?_ ?_ ?_); (· with_reducible repeat' (first | exact Ext.refl _ | exact ExtOf.ext _ | refine Ext.trans ?_ (ExtOf.ext _) | refine Ext.alloc ?_ _ | refine Ext.drew ?_ | refine Ext.setCell ?_ ?_ _ | refine Ext.setRow ?_ ?_ _ | exact HX.out | refine Ext.trans ?_ HX.out | omega | (simp; done) | (simp; omega))); (· rfl); (· (first | exact wanted_none rfl | exact wanted_some rfl rfl rfl)); (· rfl)) | ((with_reducible apply wl_store' lwPd); (· (first | exact wanted_none rfl | exact wanted_some rfl rfl rfl)); (· rfl); (· rfl); (· infer_instance); (· rfl); (· rfl); (· (simp [Value.oneCell', SlT.v])); try simp only [setRow_alloc, setRow_new, setRow_new1, setRow_new2, setRow_new11, setRow_new111]) | ((with_reducible apply wl_load' lwPd); (· (first | exact wanted_none rfl | exact wanted_some rfl rfl rfl)); (· rfl); (· infer_instance); (· rfl)) | (go_at_call 49; refine (risName_any _ _).mono ?_; rintro e w' ⟨rfl, rfl⟩) | (go_at_call 50; refine (rgreen_any nm th wi al wa s1.v s2.v _).mono ?_; rintro e w' ⟨rfl, n, rfl⟩) | (go_at_call 51; refine (rLengths_any ⟨nm, th, wi, al, wa, ls, ps⟩ s1.v s2.v _ (SliceOf.ext HI1.out (HY.out.trans (by with_reducible repeat' (first | exact Ext.refl _ | exact ExtOf.ext _ | refine Ext.trans ?_ (ExtOf.ext _) | refine Ext.alloc ?_ _ | refine Ext.drew ?_ | refine Ext.setCell ?_ ?_ _ | refine Ext.setRow ?_ ?_ _ | exact HX.out | refine Ext.trans ?_ HX.out | omega | (simp; done) | (simp; omega))))) (SliceOf.ext HI2.out (HY.out.trans (by with_reducible repeat' (first | exact Ext.refl _ | exact ExtOf.ext _ | refine Ext.trans ?_ (ExtOf.ext _) | refine Ext.alloc ?_ _ | refine Ext.drew ?_ | refine Ext.setCell ?_ ?_ _ | refine Ext.setRow ?_ ?_ _ | exact HX.out | refine Ext.trans ?_ HX.out | omega | (simp; done) | (simp; omega)))))).mono ?_; rintro e w' ⟨rfl, nn, rfl⟩))
            go_ret
            exact ⟨ret_int (by rw [HE.out, HD.out, HB.out]), ExtOf.of (HX.out.trans (HY.out.trans (by with_reducible repeat' (first | exact Ext.refl _ | exact ExtOf.ext _ | refine Ext.trans ?_ (ExtOf.ext _) | refine Ext.alloc ?_ _ | refine Ext.drew ?_ | refine Ext.setCell ?_ ?_ _ | refine Ext.setRow ?_ ?_ _ | exact HX.out | refine Ext.trans ?_ HX.out | omega | (simp; done) | (simp; omega)))))⟩
          have q5 : decide (al < 0) = false := decide_eq_false a5
          by_cases a6 : 200 < al
          · have HB := Lib.hid (HF.out 9 (by rw [HPN.out]; (unfold numE; rw [if_neg (by simp only; omega), if_pos (by simp only; omega)])) (by decide))
            clear HG2
            go_wp2_with (first | ((with_reducible refine wl_loadM midPd (Ext.range ?_ (Hid.out HR)) ?_ ?_ ?_ ?_); (· with_reducible repeat' (first | exact Ext.refl _ | exact ExtOf.ext _ | refine Ext.trans ?_ (ExtOf.ext _) | refine Ext.alloc ?_ _ | refine Ext.drew ?_ | refine Ext.setCell ?_ ?_ _ | refine Ext.setRow ?_ ?_ _ | exact HX.out | refine Ext.trans ?_ HX.out | omega | (simp; done) | (simp; omega))); (· rfl); (· (first | exact wanted_none rfl | exact wanted_some rfl rfl rfl)); (· rfl)) | ((with_reducible apply wl_store' lwPd); (· (first | exact wanted_none rfl | exact wanted_some rfl rfl rfl)); (· rfl); (· rfl); (· infer_instance); (· rfl); (· rfl); (· (simp [Value.oneCell', SlT.v])); try simp only [setRow_alloc, setRow_new, setRow_new1, setRow_new2, setRow_new11, setRow_new111]) | ((with_reducible apply wl_load' lwPd); (· (first | exact wanted_none rfl | exact wanted_some rfl rfl rfl)); (· rfl); (· infer_instance); (· rfl)) | (go_at_call 49; refine (risName_any _ _).mono ?_; rintro e w' ⟨rfl, rfl⟩) | (go_at_call 50; refine (rgreen_any nm th wi al wa s1.v s2.v _).mono ?_; rintro e w' ⟨rfl, n, rfl⟩) | (go_at_call 51; refine (rLengths_any ⟨nm, th, wi, al, wa, ls, ps⟩ s1.v s2.v _ (SliceOf.ext HI1.out (HY.out.trans (by with_reducible repeat' (first | exact Ext.refl _ | exact ExtOf.ext _ | refine Ext.trans ?_ (ExtOf.ext _) | refine Ext.alloc ?_ _ | refine Ext.drew ?_ | refine Ext.setCell ?_ ?_ _ | refine Ext.setRow ?_ ?_ _ | exact HX.out | refine Ext.trans ?_ HX.out | omega | (simp; done) | (simp; omega))))) (SliceOf.ext HI2.out (HY.out.trans (by with_reducible repeat' (first | exact Ext.refl _ | exact ExtOf.ext _ | refine Ext.trans ?_ (ExtOf.ext _) | refine Ext.alloc ?_ _ | refine Ext.drew ?_ | refine Ext.setCell ?_ ?_ _ | refine Ext.setRow ?_ ?_ _ | exact HX.out | refine Ext.trans ?_ HX.out | omega | (simp; done) | (simp; omega)))))).mono ?_; rintro e w' ⟨rfl, nn, rfl⟩))
            go_ret
            exact ⟨ret_int (by rw [HE.out, HD.out, HB.out]), ExtOf.of (HX.out.trans (HY.out.trans (by with_reducible repeat' (first | exact Ext.refl _ | exact ExtOf.ext _ | refine Ext.trans ?_ (ExtOf.ext _) | refine Ext.alloc ?_ _ | refine Ext.drew ?_ | refine Ext.setCell ?_ ?_ _ | refine Ext.setRow ?_ ?_ _ | exact HX.out | refine Ext.trans ?_ HX.out | omega | (simp; done) | (simp; omega)))))⟩
          have q6 : decide (200 < al) = false := decide_eq_false a6
          by_cases a7 : wa < 0
          · have HB := Lib.hid (HF.out 9 (by rw [HPN.out]; (unfold numE; rw [if_neg (by simp only; omega), if_pos (by simp only; omega)])) (by decide))
            clear HG2
            go_wp2_with (first | ((with_reducible refine wl_loadM midPd (Ext.range ?_ (Hid.out HR)) ?_ ?_ ?_ ?_); (· with_reducible repeat' (first | exact Ext.refl _ | exact ExtOf.ext _ | refine Ext.trans ?_ (ExtOf.ext _) | refine Ext.alloc ?_ _ | refine Ext.drew ?_ | refine Ext.setCell ?_ ?_ _ | refine Ext.setRow ?_ ?_ _ | exact HX.out | refine Ext.trans ?_ HX.out | omega | (simp; done) | (simp; omega))); (· rfl); (· (first | exact wanted_none rfl | exact wanted_some rfl rfl rfl)); (· rfl)) | ((with_reducible apply wl_store' lwPd); (· (first | exact wanted_none rfl | exact wanted_some rfl rfl rfl)); (· rfl); (· rfl); (· infer_instance); (· rfl); (· rfl); (· (simp [Value.oneCell', SlT.v])); try simp only [setRow_alloc, setRow_new, setRow_new1, setRow_new2, setRow_new11, setRow_new111]) | ((with_reducible apply wl_load' lwPd); (· (first | exact wanted_none rfl | exact wanted_some rfl rfl rfl)); (· rfl); (· infer_instance); (· rfl)) | (go_at_call 49; refine (risName_any _ _).mono ?_; rintro e w' ⟨rfl, rfl⟩) | (go_at_call 50; refine (rgreen_any nm th wi al wa s1.v s2.v _).mono ?_; rintro e w' ⟨rfl, n, rfl⟩) | (go_at_call 51; refine (rLengths_any ⟨nm, th, wi, al, wa, ls, ps⟩ s1.v s2.v _ (SliceOf.ext HI1.out (HY.out.trans (by with_reducible repeat' (first | exact Ext.refl _ | exact ExtOf.ext _ | refine Ext.trans ?_ (ExtOf.ext _) | refine Ext.alloc ?_ _ | refine Ext.drew ?_ | refine Ext.setCell ?_ ?_ _ | refine Ext.setRow ?_ ?_ _ | exact HX.out | refine Ext.trans ?_ HX.out | omega | (simp; done) | (simp; omega))))) (SliceOf.ext HI2.out (HY.out.trans (by with_reducible repeat' (first | exact Ext.refl _ | exact ExtOf.ext _ | refine Ext.trans ?_ (ExtOf.ext _) | refine Ext.alloc ?_ _ | refine Ext.drew ?_ | refine Ext.setCell ?_ ?_ _ | refine Ext.setRow ?_ ?_ _ | exact HX.out | refine Ext.trans ?_ HX.out | omega | (simp; done) | (simp; omega)))))).mono ?_; rintro e w' ⟨rfl, nn, rfl⟩))
            go_ret
            exact ⟨ret_int (by rw [HE.out, HD.out, HB.out]), ExtOf.of (HX.out.trans (HY.out.trans (by with_reducible repeat' (first | exact Ext.refl _ | exact ExtOf.ext _ | refine Ext.trans ?_ (ExtOf.ext _) | refine Ext.alloc ?_ _ | refine Ext.drew ?_ | refine Ext.setCell ?_ ?_ _ | refine Ext.setRow ?_ ?_ _ | exact HX.out | refine Ext.trans ?_ HX.out | omega | (simp; done) | (simp; omega)))))⟩
          have q7 : decide (wa < 0) = false := decide_eq_false a7
          by_cases a8 : 1000 < wa
          · have HB := Lib.hid (HF.out 9 (by rw [HPN.out]; (unfold numE; rw [if_neg (by simp only; omega), if_pos (by simp only; omega)])) (by decide))
            clear HG2
            go_wp2_with (first | ((with_reducible refine wl_loadM midPd (Ext.range ?_ (Hid.out HR)) ?_ ?_ ?_ ?_); (· with_reducible repeat' (first | exact Ext.refl _ | exact ExtOf.ext _ | refine Ext.trans ?_ (ExtOf.ext _) | refine Ext.alloc ?_ _ | refine Ext.drew ?_ | refine Ext.setCell ?_ ?_ _ | refine Ext.setRow ?_ ?_ _ | exact HX.out | refine Ext.trans ?_ HX.out | omega | (simp; done) | (simp; omega))); (· rfl); (· (first | exact wanted_none rfl | exact wanted_some rfl rfl rfl)); (· rfl)) | ((with_reducible apply wl_store' lwPd); (· (first | exact wanted_none rfl | exact wanted_some rfl rfl rfl)); (· rfl); (· rfl); (· infer_instance); (· rfl); (· rfl); (· (simp [Value.oneCell', SlT.v])); try simp only [setRow_alloc, setRow_new, setRow_new1, setRow_new2, setRow_new11, setRow_new111]) | ((with_reducible apply wl_load' lwPd); (· (first | exact wanted_none rfl | exact wanted_some rfl rfl rfl)); (· rfl); (· infer_instance); (· rfl)) | (go_at_call 49; refine (risName_any _ _).mono ?_; rintro e w' ⟨rfl, rfl⟩) | (go_at_call 50; refine (rgreen_any nm th wi al wa s1.v s2.v _).mono ?_; rintro e w' ⟨rfl, n, rfl⟩) | (go_at_call 51; refine (rLengths_any ⟨nm, th, wi, al, wa, ls, ps⟩ s1.v s2.v _ (SliceOf.ext HI1.out (HY.out.trans (by with_reducible repeat' (first | exact Ext.refl _ | exact ExtOf.ext _ | refine Ext.trans ?_ (ExtOf.ext _) | refine Ext.alloc ?_ _ | refine Ext.drew ?_ | refine Ext.setCell ?_ ?_ _ | refine Ext.setRow ?_ ?_ _ | exact HX.out | refine Ext.trans ?_ HX.out | omega | (simp; done) | (simp; omega))))) (SliceOf.ext HI2.out (HY.out.trans (by with_reducible repeat' (first | exact Ext.refl _ | exact ExtOf.ext _ | refine Ext.trans ?_ (ExtOf.ext _) | refine Ext.alloc ?_ _ | refine Ext.drew ?_ | refine Ext.setCell ?_ ?_ _ | refine Ext.setRow ?_ ?_ _ | exact HX.out | refine Ext.trans ?_ HX.out | omega | (simp; done) | (simp; omega)))))).mono ?_; rintro e w' ⟨rfl, nn, rfl⟩))
            go_ret
            exact ⟨ret_int (by rw [HE.out, HD.out, HB.out]), ExtOf.of (HX.out.trans (HY.out.trans (by with_reducible repeat' (first | exact Ext.refl _ | exact ExtOf.ext _ | refine Ext.trans ?_ (ExtOf.ext _) | refine Ext.alloc ?_ _ | refine Ext.drew ?_ | refine Ext.setCell ?_ ?_ _ | refine Ext.setRow ?_ ?_ _ | exact HX.out | refine Ext.trans ?_ HX.out | omega | (simp; done) | (simp; omega)))))⟩
          have q8 : decide (1000 < wa) = false := decide_eq_false a8
          have HN : Hid (numE ⟨nm, th, wi, al, wa, ls, ps⟩ = if grW th wi al > 600 then 9 else listsE ls ps) := Lib.hid (by unfold numE; rw [if_neg (by simp only; omega), if_neg (by simp only; omega)]; simp only [HG2.out])
          clear a1 a2 a3 a4 a5 a6 a7 a8
          by_cases a9 : 600 < grW th wi al
          · have HB := Lib.hid (HF.out 9 (by rw [HPN.out]; (rw [HN.out, if_pos (by omega)])) (by decide))
            clear HG2
            go_wp2_with (first | ((with_reducible refine wl_loadM midPd (Ext.range ?_ (Hid.out HR)) ?_ ?_ ?_ ?_); (· with_reducible repeat' (first | exact Ext.refl _ | exact ExtOf.ext _ | refine Ext.trans ?_ (ExtOf.ext _) | refine Ext.alloc ?_ _ | refine Ext.drew ?_ | refine Ext.setCell ?_ ?_ _ | refine Ext.setRow ?_ ?_ _ | exact HX.out | refine Ext.trans ?_ HX.out | omega | (simp; done) | (simp; omega))); (· rfl); (· (first | exact wanted_none rfl | exact wanted_some rfl rfl rfl)); (· rfl)) | ((with_reducible apply wl_store' lwPd); (· (first | exact wanted_none rfl | exact wanted_some rfl rfl rfl)); (· rfl); (· rfl); (· infer_instance); (· rfl); (· rfl); (· (simp [Value.oneCell', SlT.v])); try simp only [setRow_alloc, setRow_new, setRow_new1, setRow_new2, setRow_new11, setRow_new111]) | ((with_reducible apply wl_load' lwPd); (· (first | exact wanted_none rfl | exact wanted_some rfl rfl rfl)); (· rfl); (· infer_instance); (· rfl)) | (go_at_call 49; refine (risName_any _ _).mono ?_; rintro e w' ⟨rfl, rfl⟩) | (go_at_call 50; refine (rgreen_any nm th wi al wa s1.v s2.v _).mono ?_; rintro e w' ⟨rfl, n, rfl⟩) | (go_at_call 51; refine (rLengths_any ⟨nm, th, wi, al, wa, ls, ps⟩ s1.v s2.v _ (SliceOf.ext HI1.out (HY.out.trans (by with_reducible repeat' (first | exact Ext.refl _ | exact ExtOf.ext _ | refine Ext.trans ?_ (ExtOf.ext _) | refine Ext.alloc ?_ _ | refine Ext.drew ?_ | refine Ext.setCell ?_ ?_ _ | refine Ext.setRow ?_ ?_ _ | exact HX.out | refine Ext.trans ?_ HX.out | omega | (simp; done) | (simp; omega))))) (SliceOf.ext HI2.out (HY.out.trans (by with_reducible repeat' (first | exact Ext.refl _ | exact ExtOf.ext _ | refine Ext.trans ?_ (ExtOf.ext _) | refine Ext.alloc ?_ _ | refine Ext.drew ?_ | refine Ext.setCell ?_ ?_ _ | refine Ext.setRow ?_ ?_ _ | exact HX.out | refine Ext.trans ?_ HX.out | omega | (simp; done) | (simp; omega)))))).mono ?_; rintro e w' ⟨rfl, nn, rfl⟩))
            go_ret
            exact ⟨ret_int (by rw [HE.out, HD.out, HB.out]), ExtOf.of (HX.out.trans (HY.out.trans (by with_reducible repeat' (first | exact Ext.refl _ | exact ExtOf.ext _ | refine Ext.trans ?_ (ExtOf.ext _) | refine Ext.alloc ?_ _ | refine Ext.drew ?_ | refine Ext.setCell ?_ ?_ _ | refine Ext.setRow ?_ ?_ _ | exact HX.out | refine Ext.trans ?_ HX.out | omega | (simp; done) | (simp; omega)))))⟩
          have HE2 : Hid (prodF (l.take j) (⟨nm, th, wi, al, wa, ls, ps⟩, s1, s2) = listsE ls ps) := Lib.hid (by rw [HPN.out, HN.out, if_neg (by omega)])
          clear HN HG2 HPN
          by_cases h0 : listsE ls ps = 0
          · have h1 : (listsE ls ps != 0) = false := bne_eq_false_iff_eq.2 h0
            have HN := Lib.hid (HG.out (HE2.out.trans h0))
            clear h0
            go_wp2_with (first | ((with_reducible refine wl_loadM midPd (Ext.range ?_ (Hid.out HR)) ?_ ?_ ?_ ?_); (· with_reducible repeat' (first | exact Ext.refl _ | exact ExtOf.ext _ | refine Ext.trans ?_ (ExtOf.ext _) | refine Ext.alloc ?_ _ | refine Ext.drew ?_ | refine Ext.setCell ?_ ?_ _ | refine Ext.setRow ?_ ?_ _ | exact HX.out | refine Ext.trans ?_ HX.out | omega | (simp; done) | (simp; omega))); (· rfl); (· (first | exact wanted_none rfl | exact wanted_some rfl rfl rfl)); (· rfl)) | ((with_reducible apply wl_store' lwPd); (· (first | exact wanted_none rfl | exact wanted_some rfl rfl rfl)); (· rfl); (· rfl); (· infer_instance); (· rfl); (· rfl); (· (simp [Value.oneCell', SlT.v])); try simp only [setRow_alloc, setRow_new, setRow_new1, setRow_new2, setRow_new11, setRow_new111]) | ((with_reducible apply wl_load' lwPd); (· (first | exact wanted_none rfl | exact wanted_some rfl rfl rfl)); (· rfl); (· infer_instance); (· rfl)) | (go_at_call 49; refine (risName_any _ _).mono ?_; rintro e w' ⟨rfl, rfl⟩) | (go_at_call 50; refine (rgreen_any nm th wi al wa s1.v s2.v _).mono ?_; rintro e w' ⟨rfl, n, rfl⟩) | (go_at_call 51; refine (rLengths_any ⟨nm, th, wi, al, wa, ls, ps⟩ s1.v s2.v _ (SliceOf.ext HI1.out (HY.out.trans (by with_reducible repeat' (first | exact Ext.refl _ | exact ExtOf.ext _ | refine Ext.trans ?_ (ExtOf.ext _) | refine Ext.alloc ?_ _ | refine Ext.drew ?_ | refine Ext.setCell ?_ ?_ _ | refine Ext.setRow ?_ ?_ _ | exact HX.out | refine Ext.trans ?_ HX.out | omega | (simp; done) | (simp; omega))))) (SliceOf.ext HI2.out (HY.out.trans (by with_reducible repeat' (first | exact Ext.refl _ | exact ExtOf.ext _ | refine Ext.trans ?_ (ExtOf.ext _) | refine Ext.alloc ?_ _ | refine Ext.drew ?_ | refine Ext.setCell ?_ ?_ _ | refine Ext.setRow ?_ ?_ _ | exact HX.out | refine Ext.trans ?_ HX.out | omega | (simp; done) | (simp; omega)))))).mono ?_; rintro e w' ⟨rfl, nn, rfl⟩))
            go_roundw
            case rel => exact ⟨j + 1, by omega, by first | rfl | go_num, HD.out.trans HN.out, HX.out.trans (HY.out.trans (by with_reducible repeat' (first | exact Ext.refl _ | exact ExtOf.ext _ | refine Ext.trans ?_ (ExtOf.ext _) | refine Ext.alloc ?_ _ | refine Ext.drew ?_ | refine Ext.setCell ?_ ?_ _ | refine Ext.setRow ?_ ?_ _ | exact HX.out | refine Ext.trans ?_ HX.out | omega | (simp; done) | (simp; omega))))⟩
            case measure => simp [intOf]; omega
          · have h1 : (listsE ls ps != 0) = true := bne_iff_ne.2 h0
            have HB := Lib.hid (HF.out _ HE2.out h0)
            clear h0
            go_wp2_with (first | ((with_reducible refine wl_loadM midPd (Ext.range ?_ (Hid.out HR)) ?_ ?_ ?_ ?_); (· with_reducible repeat' (first | exact Ext.refl _ | exact ExtOf.ext _ | refine Ext.trans ?_ (ExtOf.ext _) | refine Ext.alloc ?_ _ | refine Ext.drew ?_ | refine Ext.setCell ?_ ?_ _ | refine Ext.setRow ?_ ?_ _ | exact HX.out | refine Ext.trans ?_ HX.out | omega | (simp; done) | (simp; omega))); (· rfl); (· (first | exact wanted_none rfl | exact wanted_some rfl rfl rfl)); (· rfl)) | ((with_reducible apply wl_store' lwPd); (· (first | exact wanted_none rfl | exact wanted_some rfl rfl rfl)); (· rfl); (· rfl); (· infer_instance); (· rfl); (· rfl); (· (simp [Value.oneCell', SlT.v])); try simp only [setRow_alloc, setRow_new, setRow_new1, setRow_new2, setRow_new11, setRow_new111]) | ((with_reducible apply wl_load' lwPd); (· (first | exact wanted_none rfl | exact wanted_some rfl rfl rfl)); (· rfl); (· infer_instance); (· rfl)) | (go_at_call 49; refine (risName_any _ _).mono ?_; rintro e w' ⟨rfl, rfl⟩) | (go_at_call 50; refine (rgreen_any nm th wi al wa s1.v s2.v _).mono ?_; rintro e w' ⟨rfl, n, rfl⟩) | (go_at_call 51; refine (rLengths_any ⟨nm, th, wi, al, wa, ls, ps⟩ s1.v s2.v _ (SliceOf.ext HI1.out (HY.out.trans (by with_reducible repeat' (first | exact Ext.refl _ | exact ExtOf.ext _ | refine Ext.trans ?_ (ExtOf.ext _) | refine Ext.alloc ?_ _ | refine Ext.drew ?_ | refine Ext.setCell ?_ ?_ _ | refine Ext.setRow ?_ ?_ _ | exact HX.out | refine Ext.trans ?_ HX.out | omega | (simp; done) | (simp; omega))))) (SliceOf.ext HI2.out (HY.out.trans (by with_reducible repeat' (first | exact Ext.refl _ | exact ExtOf.ext _ | refine Ext.trans ?_ (ExtOf.ext _) | refine Ext.alloc ?_ _ | refine Ext.drew ?_ | refine Ext.setCell ?_ ?_ _ | refine Ext.setRow ?_ ?_ _ | exact HX.out | refine Ext.trans ?_ HX.out | omega | (simp; done) | (simp; omega)))))).mono ?_; rintro e w' ⟨rfl, nn, rfl⟩))
            go_ret
            exact ⟨ret_int (by rw [HE.out, HD.out, HB.out]), ExtOf.of (HX.out.trans (HY.out.trans (by with_reducible repeat' (first | exact Ext.refl _ | exact ExtOf.ext _ | refine Ext.trans ?_ (ExtOf.ext _) | refine Ext.alloc ?_ _ | refine Ext.drew ?_ | refine Ext.setCell ?_ ?_ _ | refine Ext.setRow ?_ ?_ _ | exact HX.out | refine Ext.trans ?_ HX.out | omega | (simp; done) | (simp; omega)))))⟩
    · obtain rfl : k = l.length := by omega
      have HT : Hid (scanAt prodF l l.length = 0) := Lib.hid (scanAt_end _ _ (Nat.le_refl _))
      go_wp2_with fail
      go_ret
      exact ⟨ret_int (by rw [HE.out, HD.out, HT.out]), ExtOf.of HX.out⟩
end Go.Proofs.YteokijolhbohaaaGreatDoor
end
