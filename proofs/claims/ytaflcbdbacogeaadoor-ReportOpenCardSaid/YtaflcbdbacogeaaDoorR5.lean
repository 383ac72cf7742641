/-
  The sum of the yields of the logs of a species, of the program and of the reference.
-/
import Derived.Test.YtaflcbdbacogeaaDoorR4
import Derived.Test.YtaflcbdbacogeaaDoorPair
set_option linter.unusedVariables false
set_option linter.unusedSimpArgs false
namespace Go.Proofs.YtaflcbdbacogeaaDoor
open Go.RowKit

attribute [local go_sem] ExtOf.cell ExtOf.frozen ExtS.cell ExtS.frozen Block.cell Block.frozen ExtB.cell ExtB.frozen alloc_cell alloc_frozen
def takes (sp : ByteArray) (x : Sw) : Bool := x.sn && (sp.toList.isEmpty || x.sp.toList == sp.toList)
def recF (sp : ByteArray) : List Sw → Y5 → Y5 × Int
  | [], acc => (acc, 0)
  | x :: l, acc => if takes sp x then (if addE acc x.y = 0 then recF sp l (addY acc x.y) else (zeroY, 9)) else recF sp l acc
set_option maxRecDepth 20000 in
set_option maxHeartbeats 1600000 in
theorem recovery_any (g : List Sw) (vl vi vo : Value) (sp : ByteArray) (w : World) (h1 : SliceOf encLg 19 w vl g) (hg : g.length ≤ 1000) :
    Calls Tryd.prog 16 #[.agg (stCells vl vi vo), .string sp] w fun e w' => e = .returned (.tuple #[.agg #[.int .i64 (recF sp g zeroY).1.lg, .int .i64 (recF sp g zeroY).1.bo, .int .i64 (recF sp g zeroY).1.ch, .int .i64 (recF sp g zeroY).1.du, .int .i64 (recF sp g zeroY).1.va], .int .i64 (recF sp g zeroY).2]) ∧ ∃ n : ExtOf w, w' = n.val := by
  obtain ⟨p1, cap1, rfl, hg4, hg5, hg6⟩ := SliceOf.form h1
  have H1 := Lib.hid h1
  clear h1
  unfold stCells
  go_enter Tryd.func16, Tryd.ntmps16
  go_wp2_with fail
  obtain ⟨b2, hb2⟩ : ∃ x, x = w.heap.size := ⟨_, rfl⟩
  obtain ⟨b4, hb4⟩ : ∃ x, x = w.heap.size + 1 := ⟨_, rfl⟩
  obtain ⟨b6, hb6⟩ : ∃ x, x = w.heap.size + 1 + 1 := ⟨_, rfl⟩
  obtain ⟨W0, hW0, k4, k6, kx⟩ : ∃ W0, W0 = (((w.alloc (.cells #[.int .i64 0, .slice none 0 0, .slice p1 g.length cap1, vi, .slice none 0 0, vo, .int .i64 0, .int .i64 0, .slice none 0 0, .slice none 0 0] 36)).alloc (.cells #[.int .i64 0, .int .i64 0, .int .i64 0, .int .i64 0, .int .i64 0] 65)).alloc (.cells #[.int .i64 0, .int .i64 0, .int .i64 0, .int .i64 0, .int .i64 0] 65)) ∧ Block W0 b4 #[.int .i64 0, .int .i64 0, .int .i64 0, .int .i64 0, .int .i64 0] ∧ Block W0 b6 #[.int .i64 0, .int .i64 0, .int .i64 0, .int .i64 0, .int .i64 0] ∧ Ext w W0 := ⟨_, rfl, by rw [hb4]; infer_instance, by rw [hb6]; infer_instance, by repeat' (first | (with_reducible exact Ext.refl _) | (with_reducible exact ExtOf.ext _) | (with_reducible refine Ext.trans ?_ (ExtOf.ext _)) | (with_reducible refine Ext.alloc ?_ _) | (with_reducible refine Ext.drew ?_) | (with_reducible refine Ext.setCell ?_ ?_ _) | (with_reducible refine Ext.setRow ?_ ?_ _) | (with_reducible exact HX.out) | (with_reducible refine Ext.trans ?_ HX.out) | (with_reducible refine Ext.below ?_ (Nat.le_refl _) _) | omega | (simp; done) | (simp; omega))⟩
  rw [← hW0, ← hb6, ← hb4, ← hb2]
  have a46 : Apart b4 b6 := ⟨by omega⟩
  have a64 : Apart b6 b4 := ⟨by omega⟩
  have lw4 : w.heap.size ≤ b4 := by omega
  have lw6 : w.heap.size ≤ b6 := by omega
  have K4 := Lib.hid k4
  have K6 := Lib.hid k6
  have KX := Lib.hid kx
  clear hW0 k4 k6 kx hb2 hb4 hb6
  go_loopw [13] (fun v wr => ∃ (k : Nat) (acc : Y5), k ≤ g.length ∧ v = .int .i64 k ∧ recF sp g zeroY = recF sp (g.drop k) acc ∧ Block wr b4 #[.int .i64 0, .int .i64 0, .int .i64 0, .int .i64 0, .int .i64 0] ∧ Block wr b6 #[.int .i64 acc.lg, .int .i64 acc.bo, .int .i64 acc.ch, .int .i64 acc.du, .int .i64 acc.va] ∧ Ext w wr) (fun v _ => g.length - (intOf v).toNat)
  case atStart => exact ⟨0, zeroY, by omega, rfl, rfl, K4.out, K6.out, KX.out⟩
  case round =>
    clear K4 K6 KX
    obtain ⟨k, acc, hk, rfl, hrec, h4, h6, hx⟩ := hrel
    have HX := Lib.hid hx
    have HR := Lib.hid hrec
    clear hx hrec
    have o4 := h4.old
    have o6 := h6.old
    by_cases hlt : k < g.length
    · obtain ⟨b1, off0, rfl, rw0⟩ := SliceOf.elemK H1.out hlt
      obtain ⟨x, hx0⟩ : ∃ x, x = g[k] := ⟨_, rfl⟩
      rw [← hx0] at rw0
      have r0 : World.rangeAt wr b1 (off0 + k * 19) [.string ⟨#[]⟩, .string ⟨#[]⟩, .string x.sp, .int .i64 0, .bool false, .bool x.sn, .slice none 0 0, .slice none 0 0, .int .i64 0, .int .i64 0, .int .i64 0, .int .i64 0, .int .i64 0, .slice none 0 0, .int .i64 x.y.lg, .int .i64 x.y.bo, .int .i64 x.y.ch, .int .i64 x.y.du, .int .i64 x.y.va] := HX.out.range rw0
      have HD : Hid (g.drop k = x :: g.drop (k + 1)) := Lib.hid (by rw [hx0]; exact List.drop_eq_getElem_cons hlt)
      clear hx0 rw0
      have o1 : Old b1 wr := Old.of_cell (r0 0 _ rfl)
      obtain ⟨xs, sn, ⟨y1, y2, y3, y4, y5⟩⟩ := x
      obtain ⟨a1, a2, a3, a4, a5⟩ := acc
      rcases sn with _ | _
      · have HT : Hid (takes sp ⟨xs, false, ⟨y1, y2, y3, y4, y5⟩⟩ = false) := Lib.hid rfl
        go_wp2_with (first | ((with_reducible apply wl_loadM midLg r0); (· rfl); (· (first | exact wanted_none rfl | exact wanted_some rfl rfl rfl)); (· rfl)) | ((with_reducible apply wl_store' lwLg); (· (first | exact wanted_none rfl | exact wanted_some rfl rfl rfl)); (· rfl); (· rfl); (· infer_instance); (· rfl); (· rfl); (· (simp [Value.oneCell'])); try simp only [setRow_alloc, setRow_new, setRow_new1, setRow_new2, setRow_new11, setRow_new111]) | ((with_reducible apply wl_store' lwY); (· (first | exact wanted_none rfl | exact wanted_some rfl rfl rfl)); (· rfl); (· rfl); (· infer_instance); (· rfl); (· rfl); (· (simp [Value.oneCell'])); try simp only [setRow_alloc, setRow_new, setRow_new1, setRow_new2, setRow_new11, setRow_new111]) | ((with_reducible apply wl_load' lwY); (· (first | exact wanted_none rfl | exact wanted_some rfl rfl rfl)); (· rfl); (· infer_instance); (· rfl)) | ((with_reducible apply wl_loadB midY); (· (first | exact wanted_none rfl | exact wanted_some rfl rfl rfl)); (· rfl); (· infer_instance); (· rfl); (· rfl)) | (go_at_call 21; refine (add_any ⟨a1, a2, a3, a4, a5⟩ ⟨y1, y2, y3, y4, y5⟩ _).mono ?_; rintro e w' ⟨rfl, n, rfl⟩))
        go_roundw
        case rel => exact ⟨k + 1, ⟨a1, a2, a3, a4, a5⟩, by omega, by first | rfl | go_num, by rw [HR.out, HD.out]; simp [recF, HT.out], inferInstance, inferInstance, by repeat' (first | (with_reducible exact Ext.refl _) | (with_reducible exact ExtOf.ext _) | (with_reducible refine Ext.trans ?_ (ExtOf.ext _)) | (with_reducible refine Ext.alloc ?_ _) | (with_reducible refine Ext.drew ?_) | (with_reducible refine Ext.setCell ?_ ?_ _) | (with_reducible refine Ext.setRow ?_ ?_ _) | (with_reducible exact HX.out) | (with_reducible refine Ext.trans ?_ HX.out) | (with_reducible refine Ext.below ?_ (Nat.le_refl _) _) | omega | (simp; done) | (simp; omega))⟩
        case measure => simp [intOf]; omega
      · by_cases hsp : sp.toList = []
        · have HT : Hid (takes sp ⟨xs, true, ⟨y1, y2, y3, y4, y5⟩⟩ = true) := Lib.hid (by simp [takes, hsp])
          have hsp2 : (!sp.toList.isEmpty) = false := by simp [hsp]
          rcases he : (addE ⟨a1, a2, a3, a4, a5⟩ ⟨y1, y2, y3, y4, y5⟩ != 0) with _ | _
          · have HE : Hid (addE ⟨a1, a2, a3, a4, a5⟩ ⟨y1, y2, y3, y4, y5⟩ = 0) := Lib.hid (by simpa using he)
            go_wp2_with (first | ((with_reducible apply wl_loadM midLg r0); (· rfl); (· (first | exact wanted_none rfl | exact wanted_some rfl rfl rfl)); (· rfl)) | ((with_reducible apply wl_store' lwLg); (· (first | exact wanted_none rfl | exact wanted_some rfl rfl rfl)); (· rfl); (· rfl); (· infer_instance); (· rfl); (· rfl); (· (simp [Value.oneCell'])); try simp only [setRow_alloc, setRow_new, setRow_new1, setRow_new2, setRow_new11, setRow_new111]) | ((with_reducible apply wl_store' lwY); (· (first | exact wanted_none rfl | exact wanted_some rfl rfl rfl)); (· rfl); (· rfl); (· infer_instance); (· rfl); (· rfl); (· (simp [Value.oneCell'])); try simp only [setRow_alloc, setRow_new, setRow_new1, setRow_new2, setRow_new11, setRow_new111]) | ((with_reducible apply wl_load' lwY); (· (first | exact wanted_none rfl | exact wanted_some rfl rfl rfl)); (· rfl); (· infer_instance); (· rfl)) | ((with_reducible apply wl_loadB midY); (· (first | exact wanted_none rfl | exact wanted_some rfl rfl rfl)); (· rfl); (· infer_instance); (· rfl); (· rfl)) | (go_at_call 21; refine (add_any ⟨a1, a2, a3, a4, a5⟩ ⟨y1, y2, y3, y4, y5⟩ _).mono ?_; rintro e w' ⟨rfl, n, rfl⟩))
            go_roundw
            case rel => exact ⟨k + 1, addY ⟨a1, a2, a3, a4, a5⟩ ⟨y1, y2, y3, y4, y5⟩, by omega, by first | rfl | go_num, by rw [HR.out, HD.out]; simp [recF, HT.out, HE.out], inferInstance, inferInstance, by repeat' (first | (with_reducible exact Ext.refl _) | (with_reducible exact ExtOf.ext _) | (with_reducible refine Ext.trans ?_ (ExtOf.ext _)) | (with_reducible refine Ext.alloc ?_ _) | (with_reducible refine Ext.drew ?_) | (with_reducible refine Ext.setCell ?_ ?_ _) | (with_reducible refine Ext.setRow ?_ ?_ _) | (with_reducible exact HX.out) | (with_reducible refine Ext.trans ?_ HX.out) | (with_reducible refine Ext.below ?_ (Nat.le_refl _) _) | omega | (simp; done) | (simp; omega))⟩
            case measure => simp [intOf]; omega
          · have HE : Hid (¬ addE ⟨a1, a2, a3, a4, a5⟩ ⟨y1, y2, y3, y4, y5⟩ = 0) := Lib.hid (by simpa using he)
            have HE9 : Hid (addE ⟨a1, a2, a3, a4, a5⟩ ⟨y1, y2, y3, y4, y5⟩ = 9) := Lib.hid (by have := HE.out; unfold addE at this ⊢; split <;> simp_all)
            go_wp2_with (first | ((with_reducible apply wl_loadM midLg r0); (· rfl); (· (first | exact wanted_none rfl | exact wanted_some rfl rfl rfl)); (· rfl)) | ((with_reducible apply wl_store' lwLg); (· (first | exact wanted_none rfl | exact wanted_some rfl rfl rfl)); (· rfl); (· rfl); (· infer_instance); (· rfl); (· rfl); (· (simp [Value.oneCell'])); try simp only [setRow_alloc, setRow_new, setRow_new1, setRow_new2, setRow_new11, setRow_new111]) | ((with_reducible apply wl_store' lwY); (· (first | exact wanted_none rfl | exact wanted_some rfl rfl rfl)); (· rfl); (· rfl); (· infer_instance); (· rfl); (· rfl); (· (simp [Value.oneCell'])); try simp only [setRow_alloc, setRow_new, setRow_new1, setRow_new2, setRow_new11, setRow_new111]) | ((with_reducible apply wl_load' lwY); (· (first | exact wanted_none rfl | exact wanted_some rfl rfl rfl)); (· rfl); (· infer_instance); (· rfl)) | ((with_reducible apply wl_loadB midY); (· (first | exact wanted_none rfl | exact wanted_some rfl rfl rfl)); (· rfl); (· infer_instance); (· rfl); (· rfl)) | (go_at_call 21; refine (add_any ⟨a1, a2, a3, a4, a5⟩ ⟨y1, y2, y3, y4, y5⟩ _).mono ?_; rintro e w' ⟨rfl, n, rfl⟩))
            refine bodyPost_ret (results_cs (b0 := b4) rfl lwY rfl rfl inferInstance rfl) rfl ⟨?_, ?_⟩
            · rw [HR.out, HD.out, HE9.out]; simp [recF, HT.out, HE.out, zeroY]
            · exact ExtOf.of (by repeat' (first | (with_reducible exact Ext.refl _) | (with_reducible exact ExtOf.ext _) | (with_reducible refine Ext.trans ?_ (ExtOf.ext _)) | (with_reducible refine Ext.alloc ?_ _) | (with_reducible refine Ext.drew ?_) | (with_reducible refine Ext.setCell ?_ ?_ _) | (with_reducible refine Ext.setRow ?_ ?_ _) | (with_reducible exact HX.out) | (with_reducible refine Ext.trans ?_ HX.out) | (with_reducible refine Ext.below ?_ (Nat.le_refl _) _) | omega | (simp; done) | (simp; omega)))
        · have hsp2 : (!sp.toList.isEmpty) = true := by simp [hsp]
          rcases hq : (xs.toList == sp.toList) with _ | _
          · have HT : Hid (takes sp ⟨xs, true, ⟨y1, y2, y3, y4, y5⟩⟩ = false) := Lib.hid (by simp only [takes, hq]; simpa using hsp)
            have hq2 : (!xs.toList == sp.toList) = true := by rw [hq]; rfl
            go_wp2_with (first | ((with_reducible apply wl_loadM midLg r0); (· rfl); (· (first | exact wanted_none rfl | exact wanted_some rfl rfl rfl)); (· rfl)) | ((with_reducible apply wl_store' lwLg); (· (first | exact wanted_none rfl | exact wanted_some rfl rfl rfl)); (· rfl); (· rfl); (· infer_instance); (· rfl); (· rfl); (· (simp [Value.oneCell'])); try simp only [setRow_alloc, setRow_new, setRow_new1, setRow_new2, setRow_new11, setRow_new111]) | ((with_reducible apply wl_store' lwY); (· (first | exact wanted_none rfl | exact wanted_some rfl rfl rfl)); (· rfl); (· rfl); (· infer_instance); (· rfl); (· rfl); (· (simp [Value.oneCell'])); try simp only [setRow_alloc, setRow_new, setRow_new1, setRow_new2, setRow_new11, setRow_new111]) | ((with_reducible apply wl_load' lwY); (· (first | exact wanted_none rfl | exact wanted_some rfl rfl rfl)); (· rfl); (· infer_instance); (· rfl)) | ((with_reducible apply wl_loadB midY); (· (first | exact wanted_none rfl | exact wanted_some rfl rfl rfl)); (· rfl); (· infer_instance); (· rfl); (· rfl)) | (go_at_call 21; refine (add_any ⟨a1, a2, a3, a4, a5⟩ ⟨y1, y2, y3, y4, y5⟩ _).mono ?_; rintro e w' ⟨rfl, n, rfl⟩))
            go_roundw
            case rel => exact ⟨k + 1, ⟨a1, a2, a3, a4, a5⟩, by omega, by first | rfl | go_num, by rw [HR.out, HD.out]; simp [recF, HT.out], inferInstance, inferInstance, by repeat' (first | (with_reducible exact Ext.refl _) | (with_reducible exact ExtOf.ext _) | (with_reducible refine Ext.trans ?_ (ExtOf.ext _)) | (with_reducible refine Ext.alloc ?_ _) | (with_reducible refine Ext.drew ?_) | (with_reducible refine Ext.setCell ?_ ?_ _) | (with_reducible refine Ext.setRow ?_ ?_ _) | (with_reducible exact HX.out) | (with_reducible refine Ext.trans ?_ HX.out) | (with_reducible refine Ext.below ?_ (Nat.le_refl _) _) | omega | (simp; done) | (simp; omega))⟩
            case measure => simp [intOf]; omega
          · have HT : Hid (takes sp ⟨xs, true, ⟨y1, y2, y3, y4, y5⟩⟩ = true) := Lib.hid (by simp [takes, hq])
            have hq2 : (!xs.toList == sp.toList) = false := by rw [hq]; rfl
            rcases he : (addE ⟨a1, a2, a3, a4, a5⟩ ⟨y1, y2, y3, y4, y5⟩ != 0) with _ | _
            · have HE : Hid (addE ⟨a1, a2, a3, a4, a5⟩ ⟨y1, y2, y3, y4, y5⟩ = 0) := Lib.hid (by simpa using he)
              go_wp2_with (first | ((with_reducible apply wl_loadM midLg r0); (· rfl); (· (first | exact wanted_none rfl | exact wanted_some rfl rfl rfl)); (· rfl)) | ((with_reducible apply wl_store' lwLg); (· (first | exact wanted_none rfl | exact wanted_some rfl rfl rfl)); (· rfl); (· rfl); (· infer_instance); (· rfl); (· rfl); (· (simp [Value.oneCell'])); try simp only [setRow_alloc, setRow_new, setRow_new1, setRow_new2, setRow_new11, setRow_new111]) | ((with_reducible apply wl_store' lwY); (· (first | exact wanted_none rfl | exact wanted_some rfl rfl rfl)); (· rfl); (· rfl); (· infer_instance); (· rfl); (· rfl); (· (simp [Value.oneCell'])); try simp only [setRow_alloc, setRow_new, setRow_new1, setRow_new2, setRow_new11, setRow_new111]) | ((with_reducible apply wl_load' lwY); (· (first | exact wanted_none rfl | exact wanted_some rfl rfl rfl)); (· rfl); (· infer_instance); (· rfl)) | ((with_reducible apply wl_loadB midY); (· (first | exact wanted_none rfl | exact wanted_some rfl rfl rfl)); (· rfl); (· infer_instance); (· rfl); (· rfl)) | (go_at_call 21; refine (add_any ⟨a1, a2, a3, a4, a5⟩ ⟨y1, y2, y3, y4, y5⟩ _).mono ?_; rintro e w' ⟨rfl, n, rfl⟩))
              go_roundw
              case rel => exact ⟨k + 1, addY ⟨a1, a2, a3, a4, a5⟩ ⟨y1, y2, y3, y4, y5⟩, by omega, by first | rfl | go_num, by rw [HR.out, HD.out]; simp [recF, HT.out, HE.out], inferInstance, inferInstance, by repeat' (first | (with_reducible exact Ext.refl _) | (with_reducible exact ExtOf.ext _) | (with_reducible refine Ext.trans ?_ (ExtOf.ext _)) | (with_reducible refine Ext.alloc ?_ _) | (with_reducible refine Ext.drew ?_) | (with_reducible refine Ext.setCell ?_ ?_ _) | (with_reducible refine Ext.setRow ?_ ?_ _) | (with_reducible exact HX.out) | (with_reducible refine Ext.trans ?_ HX.out) | (with_reducible refine Ext.below ?_ (Nat.le_refl _) _) | omega | (simp; done) | (simp; omega))⟩
              case measure => simp [intOf]; omega
            · have HE : Hid (¬ addE ⟨a1, a2, a3, a4, a5⟩ ⟨y1, y2, y3, y4, y5⟩ = 0) := Lib.hid (by simpa using he)
              have HE9 : Hid (addE ⟨a1, a2, a3, a4, a5⟩ ⟨y1, y2, y3, y4, y5⟩ = 9) := Lib.hid (by have := HE.out; unfold addE at this ⊢; split <;> simp_all)
              go_wp2_with (first | ((with_reducible apply wl_loadM midLg r0); (· rfl); (· (first | exact wanted_none rfl | exact wanted_some rfl rfl rfl)); (· rfl)) | ((with_reducible apply wl_store' lwLg); (· (first | exact wanted_none rfl | exact wanted_some rfl rfl rfl)); (· rfl); (· rfl); (· infer_instance); (· rfl); (· rfl); (· (simp [Value.oneCell'])); try simp only [setRow_alloc, setRow_new, setRow_new1, setRow_new2, setRow_new11, setRow_new111]) | ((with_reducible apply wl_store' lwY); (· (first | exact wanted_none rfl | exact wanted_some rfl rfl rfl)); (· rfl); (· rfl); (· infer_instance); (· rfl); (· rfl); (· (simp [Value.oneCell'])); try simp only [setRow_alloc, setRow_new, setRow_new1, setRow_new2, setRow_new11, setRow_new111]) | ((with_reducible apply wl_load' lwY); (· (first | exact wanted_none rfl | exact wanted_some rfl rfl rfl)); (· rfl); (· infer_instance); (· rfl)) | ((with_reducible apply wl_loadB midY); (· (first | exact wanted_none rfl | exact wanted_some rfl rfl rfl)); (· rfl); (· infer_instance); (· rfl); (· rfl)) | (go_at_call 21; refine (add_any ⟨a1, a2, a3, a4, a5⟩ ⟨y1, y2, y3, y4, y5⟩ _).mono ?_; rintro e w' ⟨rfl, n, rfl⟩))
              refine bodyPost_ret (results_cs (b0 := b4) rfl lwY rfl rfl inferInstance rfl) rfl ⟨?_, ?_⟩
              · rw [HR.out, HD.out, HE9.out]; simp [recF, HT.out, HE.out, zeroY]
              · exact ExtOf.of (by repeat' (first | (with_reducible exact Ext.refl _) | (with_reducible exact ExtOf.ext _) | (with_reducible refine Ext.trans ?_ (ExtOf.ext _)) | (with_reducible refine Ext.alloc ?_ _) | (with_reducible refine Ext.drew ?_) | (with_reducible refine Ext.setCell ?_ ?_ _) | (with_reducible refine Ext.setRow ?_ ?_ _) | (with_reducible exact HX.out) | (with_reducible refine Ext.trans ?_ HX.out) | (with_reducible refine Ext.below ?_ (Nat.le_refl _) _) | omega | (simp; done) | (simp; omega)))
    · have hkk : k = g.length := by omega
      have HE : Hid (recF sp g zeroY = (acc, 0)) := Lib.hid (by rw [HR.out, hkk, List.drop_length]; rfl)
      clear hkk
      go_wp2_with (first | ((with_reducible apply wl_load' lwY); (· (first | exact wanted_none rfl | exact wanted_some rfl rfl rfl)); (· rfl); (· infer_instance); (· rfl)) | ((with_reducible apply wl_store' lwY); (· (first | exact wanted_none rfl | exact wanted_some rfl rfl rfl)); (· rfl); (· rfl); (· infer_instance); (· rfl); (· rfl); (· (simp [Value.oneCell'])); try simp only [setRow_alloc, setRow_new, setRow_new1, setRow_new2, setRow_new11, setRow_new111]))
      refine bodyPost_ret (results_cs (b0 := b4) rfl lwY rfl rfl inferInstance rfl) rfl ⟨?_, ?_⟩
      · rw [HE.out]; rfl
      · exact ExtOf.of (by repeat' (first | (with_reducible exact Ext.refl _) | (with_reducible exact ExtOf.ext _) | (with_reducible refine Ext.trans ?_ (ExtOf.ext _)) | (with_reducible refine Ext.alloc ?_ _) | (with_reducible refine Ext.drew ?_) | (with_reducible refine Ext.setCell ?_ ?_ _) | (with_reducible refine Ext.setRow ?_ ?_ _) | (with_reducible exact HX.out) | (with_reducible refine Ext.trans ?_ HX.out) | (with_reducible refine Ext.below ?_ (Nat.le_refl _) _) | omega | (simp; done) | (simp; omega)))
theorem zeroYd (W : World) : (Instr.alloc 65 true (.tuple #[])).run Tryd.prog W = .ok (.pointer (some ⟨W.heap.size, 0, none⟩)) (W.alloc (.cells #[.int .i64 0, .int .i64 0, .int .i64 0, .int .i64 0, .int .i64 0] 65)) := by kernel_rfl
set_option maxRecDepth 20000 in
set_option maxHeartbeats 1600000 in
theorem rrecovery_any (g : List Sw) (vl vi vo : Value) (sp : ByteArray) (w : World) (h1 : SliceOf encLg 19 w vl g) (hg : g.length ≤ 1000) :
    Calls Tryd.prog 17 #[.agg (stCells vl vi vo), .string sp] w fun e w' => e = .returned (.tuple #[.agg #[.int .i64 (recF sp g zeroY).1.lg, .int .i64 (recF sp g zeroY).1.bo, .int .i64 (recF sp g zeroY).1.ch, .int .i64 (recF sp g zeroY).1.du, .int .i64 (recF sp g zeroY).1.va], .int .i64 (recF sp g zeroY).2]) ∧ ∃ n : ExtOf w, w' = n.val := by
  obtain ⟨p1, cap1, rfl, hg4, hg5, hg6⟩ := SliceOf.form h1
  have H1 := Lib.hid h1
  clear h1
  unfold stCells
  go_enter Tryd.func17, Tryd.ntmps17
  go_wp2_with fail
  obtain ⟨b2, hb2⟩ : ∃ x, x = w.heap.size := ⟨_, rfl⟩
  obtain ⟨b4, hb4⟩ : ∃ x, x = w.heap.size + 1 := ⟨_, rfl⟩
  obtain ⟨b6, hb6⟩ : ∃ x, x = w.heap.size + 1 + 1 := ⟨_, rfl⟩
  obtain ⟨W0, hW0, k2, k4, k6, kx⟩ : ∃ W0, W0 = (((w.alloc (.cells #[.int .i64 0, .slice none 0 0, .slice p1 g.length cap1, vi, .slice none 0 0, vo, .int .i64 0, .int .i64 0, .slice none 0 0, .slice none 0 0] 42)).alloc (.cells #[.int .i64 0, .int .i64 0, .int .i64 0, .int .i64 0, .int .i64 0] 65)).alloc (.cells #[.int .i64 0, .int .i64 0, .int .i64 0, .int .i64 0, .int .i64 0] 65)) ∧ Block W0 b2 #[.int .i64 0, .slice none 0 0, .slice p1 g.length cap1, vi, .slice none 0 0, vo, .int .i64 0, .int .i64 0, .slice none 0 0, .slice none 0 0] ∧ Block W0 b4 #[.int .i64 0, .int .i64 0, .int .i64 0, .int .i64 0, .int .i64 0] ∧ Block W0 b6 #[.int .i64 0, .int .i64 0, .int .i64 0, .int .i64 0, .int .i64 0] ∧ Ext w W0 := ⟨_, rfl, by rw [hb2]; infer_instance, by rw [hb4]; infer_instance, by rw [hb6]; infer_instance, by repeat' (first | (with_reducible exact Ext.refl _) | (with_reducible exact ExtOf.ext _) | (with_reducible refine Ext.trans ?_ (ExtOf.ext _)) | (with_reducible refine Ext.alloc ?_ _) | (with_reducible refine Ext.drew ?_) | (with_reducible refine Ext.setCell ?_ ?_ _) | (with_reducible refine Ext.setRow ?_ ?_ _) | (with_reducible exact HX.out) | (with_reducible refine Ext.trans ?_ HX.out) | (with_reducible refine Ext.below ?_ (Nat.le_refl _) _) | omega | (simp; done) | (simp; omega))⟩
  rw [← hW0, ← hb6, ← hb4, ← hb2]
  have a46 : Apart b4 b6 := ⟨by omega⟩
  have a64 : Apart b6 b4 := ⟨by omega⟩
  have a42 : Apart b4 b2 := ⟨by omega⟩
  have a62 : Apart b6 b2 := ⟨by omega⟩
  have lw4 : w.heap.size ≤ b4 := by omega
  have lw6 : w.heap.size ≤ b6 := by omega
  have K2 := Lib.hid k2
  have K4 := Lib.hid k4
  have K6 := Lib.hid k6
  have KX := Lib.hid kx
  clear hW0 k2 k4 k6 kx hb2 hb4 hb6
  go_loopw [7] (fun v wr => ∃ (k : Nat) (acc : Y5), k ≤ g.length ∧ v = .int .i64 k ∧ recF sp g zeroY = recF sp (g.drop k) acc ∧ Block wr b2 #[.int .i64 0, .slice none 0 0, .slice p1 g.length cap1, vi, .slice none 0 0, vo, .int .i64 0, .int .i64 0, .slice none 0 0, .slice none 0 0] ∧ Block wr b4 #[.int .i64 0, .int .i64 0, .int .i64 0, .int .i64 0, .int .i64 0] ∧ Block wr b6 #[.int .i64 acc.lg, .int .i64 acc.bo, .int .i64 acc.ch, .int .i64 acc.du, .int .i64 acc.va] ∧ Ext w wr) (fun v _ => g.length - (intOf v).toNat)
  case atStart => exact ⟨0, zeroY, by omega, rfl, rfl, K2.out, K4.out, K6.out, KX.out⟩
  case round =>
    clear K2 K4 K6 KX
    obtain ⟨k, acc, hk, rfl, hrec, h2, h4, h6, hx⟩ := hrel
    have HX := Lib.hid hx
    have HR := Lib.hid hrec
    clear hx hrec
    have o2 := h2.old
    have o4 := h4.old
    have o6 := h6.old
    by_cases hlt : k < g.length
    · obtain ⟨b1, off0, rfl, rw0⟩ := SliceOf.elemK H1.out hlt
      obtain ⟨x, hx0⟩ : ∃ x, x = g[k] := ⟨_, rfl⟩
      rw [← hx0] at rw0
      have r0 : World.rangeAt wr b1 (off0 + k * 19) [.string ⟨#[]⟩, .string ⟨#[]⟩, .string x.sp, .int .i64 0, .bool false, .bool x.sn, .slice none 0 0, .slice none 0 0, .int .i64 0, .int .i64 0, .int .i64 0, .int .i64 0, .int .i64 0, .slice none 0 0, .int .i64 x.y.lg, .int .i64 x.y.bo, .int .i64 x.y.ch, .int .i64 x.y.du, .int .i64 x.y.va] := HX.out.range rw0
      have HD : Hid (g.drop k = x :: g.drop (k + 1)) := Lib.hid (by rw [hx0]; exact List.drop_eq_getElem_cons hlt)
      clear hx0 rw0
      have o1 : Old b1 wr := Old.of_cell (r0 0 _ rfl)
      obtain ⟨xs, sn, ⟨y1, y2, y3, y4, y5⟩⟩ := x
      obtain ⟨a1, a2, a3, a4, a5⟩ := acc
      have c2 : wr.cell? ⟨b1, off0 + k * 19 + 2, none⟩ = some (.string xs) := r0 2 _ rfl
      have c5 : wr.cell? ⟨b1, off0 + k * 19 + 5, none⟩ = some (.bool sn) := r0 5 _ rfl
      have rY : World.rangeAt wr b1 (off0 + k * 19 + 14) [.int .i64 y1, .int .i64 y2, .int .i64 y3, .int .i64 y4, .int .i64 y5] := fun j u hj => by rw [Nat.add_assoc]; exact r0 (14 + j) u (by rw [Nat.add_comm]; simpa using hj)
      rcases sn with _ | _
      · have HT : Hid (takes sp ⟨xs, false, ⟨y1, y2, y3, y4, y5⟩⟩ = false) := Lib.hid rfl
        go_wp2_with fail
        go_roundw
        case rel => exact ⟨k + 1, ⟨a1, a2, a3, a4, a5⟩, by omega, by first | rfl | go_num, by rw [HR.out, HD.out]; simp [recF, HT.out], inferInstance, inferInstance, inferInstance, by repeat' (first | (with_reducible exact Ext.refl _) | (with_reducible exact ExtOf.ext _) | (with_reducible refine Ext.trans ?_ (ExtOf.ext _)) | (with_reducible refine Ext.alloc ?_ _) | (with_reducible refine Ext.drew ?_) | (with_reducible refine Ext.setCell ?_ ?_ _) | (with_reducible refine Ext.setRow ?_ ?_ _) | (with_reducible exact HX.out) | (with_reducible refine Ext.trans ?_ HX.out) | (with_reducible refine Ext.below ?_ (Nat.le_refl _) _) | omega | (simp; done) | (simp; omega))⟩
        case measure => simp [intOf]; omega
      · by_cases hsp : sp.toList = []
        · have HT : Hid (takes sp ⟨xs, true, ⟨y1, y2, y3, y4, y5⟩⟩ = true) := Lib.hid (by simp [takes, hsp])
          have hsp2 : (!sp.toList.isEmpty) = false := by simp [hsp]
          rcases he : (addE ⟨a1, a2, a3, a4, a5⟩ ⟨y1, y2, y3, y4, y5⟩ != 0) with _ | _
          · have HE : Hid (addE ⟨a1, a2, a3, a4, a5⟩ ⟨y1, y2, y3, y4, y5⟩ = 0) := Lib.hid (by simpa using he)
            go_wp2_with fail
            refine region_quiet (S := fun W => ∃ n : ExtOf wr, W = n.val) [true, true, true, true, true, true, true] 7 (by kernel_rfl) (by kernel_rfl) (by kernel_rfl) (fun _ _ _ _ _ h => h) (ExtOf.of (Ext.drew (Ext.refl _))) (by kernel_rfl) (by kernel_rfl) (by kernel_rfl) ?_
            simp only [part]
            repeat (first | go_big_quiet_skip | ((with_reducible apply q_load' lwY); (· (first | exact wanted_none rfl | exact wanted_some rfl rfl rfl)); (· rfl); (· infer_instance); (· rfl); simp only [Act.put, List.setIfInBounds_toArray, List.set_cons_succ, List.set_cons_zero]) | ((with_reducible apply q_loadM midY rY); (· rfl); (· (first | exact wanted_none rfl | exact wanted_some rfl rfl rfl)); (· rfl); simp only [Act.put, List.setIfInBounds_toArray, List.set_cons_succ, List.set_cons_zero]) | go_big_quiet_step (fail))
            refine wpQuiet_nil ?_
            refine ah_pair (c := 7) (mv := 8) (e0 := 9) (e1 := 10) (al := 11) (st := 12) (asg := 13) (f := 33) (vals := #[.agg #[.int .i64 a1, .int .i64 a2, .int .i64 a3, .int .i64 a4, .int .i64 a5], .agg #[.int .i64 y1, .int .i64 y2, .int .i64 y3, .int .i64 y4, .int .i64 y5]]) (cs := #[.int .i64 (addY ⟨a1, a2, a3, a4, a5⟩ ⟨y1, y2, y3, y4, y5⟩).lg, .int .i64 (addY ⟨a1, a2, a3, a4, a5⟩ ⟨y1, y2, y3, y4, y5⟩).bo, .int .i64 (addY ⟨a1, a2, a3, a4, a5⟩ ⟨y1, y2, y3, y4, y5⟩).ch, .int .i64 (addY ⟨a1, a2, a3, a4, a5⟩ ⟨y1, y2, y3, y4, y5⟩).du, .int .i64 (addY ⟨a1, a2, a3, a4, a5⟩ ⟨y1, y2, y3, y4, y5⟩).va]) (v1 := .int .i64 (addE ⟨a1, a2, a3, a4, a5⟩ ⟨y1, y2, y3, y4, y5⟩)) (z := #[.int .i64 0, .int .i64 0, .int .i64 0, .int .i64 0, .int .i64 0]) rfl rfl rfl rfl ⟨rfl, rfl, rfl⟩ rfl ⟨rfl, rfl, rfl⟩ rfl ⟨rfl, rfl, rfl⟩ rfl rfl rfl ⟨rfl, rfl, rfl⟩ lwY rfl (by simp [Value.oneCell']) zeroYd rfl (by kernel_rfl) (by kernel_rfl) (by kernel_rfl) (fun _ _ _ _ _ h => h) (fun W => by kernel_rfl) (fun W x => by kernel_rfl) (fun W _ => radd_any ⟨a1, a2, a3, a4, a5⟩ ⟨y1, y2, y3, y4, y5⟩ W) (fun W h => ExtOf.of (Ext.trans (Ext.drew (Ext.refl _)) h)) ?_
            intro W' gn hx'' hgn hbn
            have hx' : Ext wr W' := Ext.trans (Ext.drew (Ext.refl _)) hx''
            replace hgn : wr.heap.size ≤ gn := hgn
            clear hx''
            have kb2 := h2.ext hx'
            have kb4 := h4.ext hx'
            have kb6 := h6.ext hx'
            have HX2 : Hid (Ext w W') := Lib.hid (HX.out.trans hx')
            have ap4 : Apart gn b4 := ⟨by have := o4.lt; omega⟩
            have ap6 : Apart gn b6 := ⟨by have := o6.lt; omega⟩
            have ap2 : Apart gn b2 := ⟨by have := o2.lt; omega⟩
            have ap4' : Apart b4 gn := ⟨by have := o4.lt; omega⟩
            have ap6' : Apart b6 gn := ⟨by have := o6.lt; omega⟩
            clear hx'
            simp only [Act.put, List.setIfInBounds_toArray, List.set_cons_succ, List.set_cons_zero]
            go_wp2_with (first | ((with_reducible apply wl_store' lwY); (· (first | exact wanted_none rfl | exact wanted_some rfl rfl rfl)); (· rfl); (· rfl); (· infer_instance); (· rfl); (· rfl); (· (simp [Value.oneCell'])); try simp only [setRow_alloc, setRow_new, setRow_new1, setRow_new2, setRow_new11, setRow_new111]) | ((with_reducible apply wl_load' lwY); (· (first | exact wanted_none rfl | exact wanted_some rfl rfl rfl)); (· rfl); (· infer_instance); (· rfl)))
            go_roundw
            case rel => exact ⟨k + 1, addY ⟨a1, a2, a3, a4, a5⟩ ⟨y1, y2, y3, y4, y5⟩, by omega, by first | rfl | go_num, by rw [HR.out, HD.out]; simp [recF, HT.out, HE.out], inferInstance, inferInstance, inferInstance, by replace HX := HX2; repeat' (first | (with_reducible exact Ext.refl _) | (with_reducible exact ExtOf.ext _) | (with_reducible refine Ext.trans ?_ (ExtOf.ext _)) | (with_reducible refine Ext.alloc ?_ _) | (with_reducible refine Ext.drew ?_) | (with_reducible refine Ext.setCell ?_ ?_ _) | (with_reducible refine Ext.setRow ?_ ?_ _) | (with_reducible exact HX.out) | (with_reducible refine Ext.trans ?_ HX.out) | (with_reducible refine Ext.below ?_ (Nat.le_refl _) _) | omega | (simp; done) | (simp; omega))⟩
            case measure => simp [intOf]; omega
          · have HE : Hid (¬ addE ⟨a1, a2, a3, a4, a5⟩ ⟨y1, y2, y3, y4, y5⟩ = 0) := Lib.hid (by simpa using he)
            have HE9 : Hid (addE ⟨a1, a2, a3, a4, a5⟩ ⟨y1, y2, y3, y4, y5⟩ = 9) := Lib.hid (by have := HE.out; unfold addE at this ⊢; split <;> simp_all)
            go_wp2_with fail
            refine region_quiet (S := fun W => ∃ n : ExtOf wr, W = n.val) [true, true, true, true, true, true, true] 7 (by kernel_rfl) (by kernel_rfl) (by kernel_rfl) (fun _ _ _ _ _ h => h) (ExtOf.of (Ext.drew (Ext.refl _))) (by kernel_rfl) (by kernel_rfl) (by kernel_rfl) ?_
            simp only [part]
            repeat (first | go_big_quiet_skip | ((with_reducible apply q_load' lwY); (· (first | exact wanted_none rfl | exact wanted_some rfl rfl rfl)); (· rfl); (· infer_instance); (· rfl); simp only [Act.put, List.setIfInBounds_toArray, List.set_cons_succ, List.set_cons_zero]) | ((with_reducible apply q_loadM midY rY); (· rfl); (· (first | exact wanted_none rfl | exact wanted_some rfl rfl rfl)); (· rfl); simp only [Act.put, List.setIfInBounds_toArray, List.set_cons_succ, List.set_cons_zero]) | go_big_quiet_step (fail))
            refine wpQuiet_nil ?_
            refine ah_pair (c := 7) (mv := 8) (e0 := 9) (e1 := 10) (al := 11) (st := 12) (asg := 13) (f := 33) (vals := #[.agg #[.int .i64 a1, .int .i64 a2, .int .i64 a3, .int .i64 a4, .int .i64 a5], .agg #[.int .i64 y1, .int .i64 y2, .int .i64 y3, .int .i64 y4, .int .i64 y5]]) (cs := #[.int .i64 (addY ⟨a1, a2, a3, a4, a5⟩ ⟨y1, y2, y3, y4, y5⟩).lg, .int .i64 (addY ⟨a1, a2, a3, a4, a5⟩ ⟨y1, y2, y3, y4, y5⟩).bo, .int .i64 (addY ⟨a1, a2, a3, a4, a5⟩ ⟨y1, y2, y3, y4, y5⟩).ch, .int .i64 (addY ⟨a1, a2, a3, a4, a5⟩ ⟨y1, y2, y3, y4, y5⟩).du, .int .i64 (addY ⟨a1, a2, a3, a4, a5⟩ ⟨y1, y2, y3, y4, y5⟩).va]) (v1 := .int .i64 (addE ⟨a1, a2, a3, a4, a5⟩ ⟨y1, y2, y3, y4, y5⟩)) (z := #[.int .i64 0, .int .i64 0, .int .i64 0, .int .i64 0, .int .i64 0]) rfl rfl rfl rfl ⟨rfl, rfl, rfl⟩ rfl ⟨rfl, rfl, rfl⟩ rfl ⟨rfl, rfl, rfl⟩ rfl rfl rfl ⟨rfl, rfl, rfl⟩ lwY rfl (by simp [Value.oneCell']) zeroYd rfl (by kernel_rfl) (by kernel_rfl) (by kernel_rfl) (fun _ _ _ _ _ h => h) (fun W => by kernel_rfl) (fun W x => by kernel_rfl) (fun W _ => radd_any ⟨a1, a2, a3, a4, a5⟩ ⟨y1, y2, y3, y4, y5⟩ W) (fun W h => ExtOf.of (Ext.trans (Ext.drew (Ext.refl _)) h)) ?_
            intro W' gn hx'' hgn hbn
            have hx' : Ext wr W' := Ext.trans (Ext.drew (Ext.refl _)) hx''
            replace hgn : wr.heap.size ≤ gn := hgn
            clear hx''
            have kb2 := h2.ext hx'
            have kb4 := h4.ext hx'
            have kb6 := h6.ext hx'
            have HX2 : Hid (Ext w W') := Lib.hid (HX.out.trans hx')
            have ap4 : Apart gn b4 := ⟨by have := o4.lt; omega⟩
            have ap6 : Apart gn b6 := ⟨by have := o6.lt; omega⟩
            have ap2 : Apart gn b2 := ⟨by have := o2.lt; omega⟩
            have ap4' : Apart b4 gn := ⟨by have := o4.lt; omega⟩
            have ap6' : Apart b6 gn := ⟨by have := o6.lt; omega⟩
            clear hx'
            simp only [Act.put, List.setIfInBounds_toArray, List.set_cons_succ, List.set_cons_zero]
            go_wp2_with (first | ((with_reducible apply wl_store' lwY); (· (first | exact wanted_none rfl | exact wanted_some rfl rfl rfl)); (· rfl); (· rfl); (· infer_instance); (· rfl); (· rfl); (· (simp [Value.oneCell'])); try simp only [setRow_alloc, setRow_new, setRow_new1, setRow_new2, setRow_new11, setRow_new111]) | ((with_reducible apply wl_load' lwY); (· (first | exact wanted_none rfl | exact wanted_some rfl rfl rfl)); (· rfl); (· infer_instance); (· rfl)))
            refine bodyPost_ret (results_cs (b0 := b4) rfl lwY rfl rfl inferInstance rfl) rfl ⟨?_, ?_⟩
            · rw [HR.out, HD.out, HE9.out]; simp [recF, HT.out, HE.out, zeroY]
            · replace HX := HX2
              exact ExtOf.of (by repeat' (first | (with_reducible exact Ext.refl _) | (with_reducible exact ExtOf.ext _) | (with_reducible refine Ext.trans ?_ (ExtOf.ext _)) | (with_reducible refine Ext.alloc ?_ _) | (with_reducible refine Ext.drew ?_) | (with_reducible refine Ext.setCell ?_ ?_ _) | (with_reducible refine Ext.setRow ?_ ?_ _) | (with_reducible exact HX.out) | (with_reducible refine Ext.trans ?_ HX.out) | (with_reducible refine Ext.below ?_ (Nat.le_refl _) _) | omega | (simp; done) | (simp; omega)))
        · have hsp2 : (!sp.toList.isEmpty) = true := by simp [hsp]
          rcases hq : (xs.toList == sp.toList) with _ | _
          · have HT : Hid (takes sp ⟨xs, true, ⟨y1, y2, y3, y4, y5⟩⟩ = false) := Lib.hid (by simp only [takes, hq]; simpa using hsp)
            have hq2 : (!xs.toList == sp.toList) = true := by rw [hq]; rfl
            go_wp2_with fail
            go_roundw
            case rel => exact ⟨k + 1, ⟨a1, a2, a3, a4, a5⟩, by omega, by first | rfl | go_num, by rw [HR.out, HD.out]; simp [recF, HT.out], inferInstance, inferInstance, inferInstance, by repeat' (first | (with_reducible exact Ext.refl _) | (with_reducible exact ExtOf.ext _) | (with_reducible refine Ext.trans ?_ (ExtOf.ext _)) | (with_reducible refine Ext.alloc ?_ _) | (with_reducible refine Ext.drew ?_) | (with_reducible refine Ext.setCell ?_ ?_ _) | (with_reducible refine Ext.setRow ?_ ?_ _) | (with_reducible exact HX.out) | (with_reducible refine Ext.trans ?_ HX.out) | (with_reducible refine Ext.below ?_ (Nat.le_refl _) _) | omega | (simp; done) | (simp; omega))⟩
            case measure => simp [intOf]; omega
          · have HT : Hid (takes sp ⟨xs, true, ⟨y1, y2, y3, y4, y5⟩⟩ = true) := Lib.hid (by simp [takes, hq])
            have hq2 : (!xs.toList == sp.toList) = false := by rw [hq]; rfl
            rcases he : (addE ⟨a1, a2, a3, a4, a5⟩ ⟨y1, y2, y3, y4, y5⟩ != 0) with _ | _
            · have HE : Hid (addE ⟨a1, a2, a3, a4, a5⟩ ⟨y1, y2, y3, y4, y5⟩ = 0) := Lib.hid (by simpa using he)
              go_wp2_with fail
              refine region_quiet (S := fun W => ∃ n : ExtOf wr, W = n.val) [true, true, true, true, true, true, true] 7 (by kernel_rfl) (by kernel_rfl) (by kernel_rfl) (fun _ _ _ _ _ h => h) (ExtOf.of (Ext.drew (Ext.refl _))) (by kernel_rfl) (by kernel_rfl) (by kernel_rfl) ?_
              simp only [part]
              repeat (first | go_big_quiet_skip | ((with_reducible apply q_load' lwY); (· (first | exact wanted_none rfl | exact wanted_some rfl rfl rfl)); (· rfl); (· infer_instance); (· rfl); simp only [Act.put, List.setIfInBounds_toArray, List.set_cons_succ, List.set_cons_zero]) | ((with_reducible apply q_loadM midY rY); (· rfl); (· (first | exact wanted_none rfl | exact wanted_some rfl rfl rfl)); (· rfl); simp only [Act.put, List.setIfInBounds_toArray, List.set_cons_succ, List.set_cons_zero]) | go_big_quiet_step (fail))
              refine wpQuiet_nil ?_
              refine ah_pair (c := 7) (mv := 8) (e0 := 9) (e1 := 10) (al := 11) (st := 12) (asg := 13) (f := 33) (vals := #[.agg #[.int .i64 a1, .int .i64 a2, .int .i64 a3, .int .i64 a4, .int .i64 a5], .agg #[.int .i64 y1, .int .i64 y2, .int .i64 y3, .int .i64 y4, .int .i64 y5]]) (cs := #[.int .i64 (addY ⟨a1, a2, a3, a4, a5⟩ ⟨y1, y2, y3, y4, y5⟩).lg, .int .i64 (addY ⟨a1, a2, a3, a4, a5⟩ ⟨y1, y2, y3, y4, y5⟩).bo, .int .i64 (addY ⟨a1, a2, a3, a4, a5⟩ ⟨y1, y2, y3, y4, y5⟩).ch, .int .i64 (addY ⟨a1, a2, a3, a4, a5⟩ ⟨y1, y2, y3, y4, y5⟩).du, .int .i64 (addY ⟨a1, a2, a3, a4, a5⟩ ⟨y1, y2, y3, y4, y5⟩).va]) (v1 := .int .i64 (addE ⟨a1, a2, a3, a4, a5⟩ ⟨y1, y2, y3, y4, y5⟩)) (z := #[.int .i64 0, .int .i64 0, .int .i64 0, .int .i64 0, .int .i64 0]) rfl rfl rfl rfl ⟨rfl, rfl, rfl⟩ rfl ⟨rfl, rfl, rfl⟩ rfl ⟨rfl, rfl, rfl⟩ rfl rfl rfl ⟨rfl, rfl, rfl⟩ lwY rfl (by simp [Value.oneCell']) zeroYd rfl (by kernel_rfl) (by kernel_rfl) (by kernel_rfl) (fun _ _ _ _ _ h => h) (fun W => by kernel_rfl) (fun W x => by kernel_rfl) (fun W _ => radd_any ⟨a1, a2, a3, a4, a5⟩ ⟨y1, y2, y3, y4, y5⟩ W) (fun W h => ExtOf.of (Ext.trans (Ext.drew (Ext.refl _)) h)) ?_
              intro W' gn hx'' hgn hbn
              have hx' : Ext wr W' := Ext.trans (Ext.drew (Ext.refl _)) hx''
              replace hgn : wr.heap.size ≤ gn := hgn
              clear hx''
              have kb2 := h2.ext hx'
              have kb4 := h4.ext hx'
              have kb6 := h6.ext hx'
              have HX2 : Hid (Ext w W') := Lib.hid (HX.out.trans hx')
              have ap4 : Apart gn b4 := ⟨by have := o4.lt; omega⟩
              have ap6 : Apart gn b6 := ⟨by have := o6.lt; omega⟩
              have ap2 : Apart gn b2 := ⟨by have := o2.lt; omega⟩
              have ap4' : Apart b4 gn := ⟨by have := o4.lt; omega⟩
              have ap6' : Apart b6 gn := ⟨by have := o6.lt; omega⟩
              clear hx'
              simp only [Act.put, List.setIfInBounds_toArray, List.set_cons_succ, List.set_cons_zero]
              go_wp2_with (first | ((with_reducible apply wl_store' lwY); (· (first | exact wanted_none rfl | exact wanted_some rfl rfl rfl)); (· rfl); (· rfl); (· infer_instance); (· rfl); (· rfl); (· (simp [Value.oneCell'])); try simp only [setRow_alloc, setRow_new, setRow_new1, setRow_new2, setRow_new11, setRow_new111]) | ((with_reducible apply wl_load' lwY); (· (first | exact wanted_none rfl | exact wanted_some rfl rfl rfl)); (· rfl); (· infer_instance); (· rfl)))
              go_roundw
              case rel => exact ⟨k + 1, addY ⟨a1, a2, a3, a4, a5⟩ ⟨y1, y2, y3, y4, y5⟩, by omega, by first | rfl | go_num, by rw [HR.out, HD.out]; simp [recF, HT.out, HE.out], inferInstance, inferInstance, inferInstance, by replace HX := HX2; repeat' (first | (with_reducible exact Ext.refl _) | (with_reducible exact ExtOf.ext _) | (with_reducible refine Ext.trans ?_ (ExtOf.ext _)) | (with_reducible refine Ext.alloc ?_ _) | (with_reducible refine Ext.drew ?_) | (with_reducible refine Ext.setCell ?_ ?_ _) | (with_reducible refine Ext.setRow ?_ ?_ _) | (with_reducible exact HX.out) | (with_reducible refine Ext.trans ?_ HX.out) | (with_reducible refine Ext.below ?_ (Nat.le_refl _) _) | omega | (simp; done) | (simp; omega))⟩
              case measure => simp [intOf]; omega
            · have HE : Hid (¬ addE ⟨a1, a2, a3, a4, a5⟩ ⟨y1, y2, y3, y4, y5⟩ = 0) := Lib.hid (by simpa using he)
              have HE9 : Hid (addE ⟨a1, a2, a3, a4, a5⟩ ⟨y1, y2, y3, y4, y5⟩ = 9) := Lib.hid (by have := HE.out; unfold addE at this ⊢; split <;> simp_all)
              go_wp2_with fail
              refine region_quiet (S := fun W => ∃ n : ExtOf wr, W = n.val) [true, true, true, true, true, true, true] 7 (by kernel_rfl) (by kernel_rfl) (by kernel_rfl) (fun _ _ _ _ _ h => h) (ExtOf.of (Ext.drew (Ext.refl _))) (by kernel_rfl) (by kernel_rfl) (by kernel_rfl) ?_
              simp only [part]
              repeat (first | go_big_quiet_skip | ((with_reducible apply q_load' lwY); (· (first | exact wanted_none rfl | exact wanted_some rfl rfl rfl)); (· rfl); (· infer_instance); (· rfl); simp only [Act.put, List.setIfInBounds_toArray, List.set_cons_succ, List.set_cons_zero]) | ((with_reducible apply q_loadM midY rY); (· rfl); (· (first | exact wanted_none rfl | exact wanted_some rfl rfl rfl)); (· rfl); simp only [Act.put, List.setIfInBounds_toArray, List.set_cons_succ, List.set_cons_zero]) | go_big_quiet_step (fail))
              refine wpQuiet_nil ?_
              refine ah_pair (c := 7) (mv := 8) (e0 := 9) (e1 := 10) (al := 11) (st := 12) (asg := 13) (f := 33) (vals := #[.agg #[.int .i64 a1, .int .i64 a2, .int .i64 a3, .int .i64 a4, .int .i64 a5], .agg #[.int .i64 y1, .int .i64 y2, .int .i64 y3, .int .i64 y4, .int .i64 y5]]) (cs := #[.int .i64 (addY ⟨a1, a2, a3, a4, a5⟩ ⟨y1, y2, y3, y4, y5⟩).lg, .int .i64 (addY ⟨a1, a2, a3, a4, a5⟩ ⟨y1, y2, y3, y4, y5⟩).bo, .int .i64 (addY ⟨a1, a2, a3, a4, a5⟩ ⟨y1, y2, y3, y4, y5⟩).ch, .int .i64 (addY ⟨a1, a2, a3, a4, a5⟩ ⟨y1, y2, y3, y4, y5⟩).du, .int .i64 (addY ⟨a1, a2, a3, a4, a5⟩ ⟨y1, y2, y3, y4, y5⟩).va]) (v1 := .int .i64 (addE ⟨a1, a2, a3, a4, a5⟩ ⟨y1, y2, y3, y4, y5⟩)) (z := #[.int .i64 0, .int .i64 0, .int .i64 0, .int .i64 0, .int .i64 0]) rfl rfl rfl rfl ⟨rfl, rfl, rfl⟩ rfl ⟨rfl, rfl, rfl⟩ rfl ⟨rfl, rfl, rfl⟩ rfl rfl rfl ⟨rfl, rfl, rfl⟩ lwY rfl (by simp [Value.oneCell']) zeroYd rfl (by kernel_rfl) (by kernel_rfl) (by kernel_rfl) (fun _ _ _ _ _ h => h) (fun W => by kernel_rfl) (fun W x => by kernel_rfl) (fun W _ => radd_any ⟨a1, a2, a3, a4, a5⟩ ⟨y1, y2, y3, y4, y5⟩ W) (fun W h => ExtOf.of (Ext.trans (Ext.drew (Ext.refl _)) h)) ?_
              intro W' gn hx'' hgn hbn
              have hx' : Ext wr W' := Ext.trans (Ext.drew (Ext.refl _)) hx''
              replace hgn : wr.heap.size ≤ gn := hgn
              clear hx''
              have kb2 := h2.ext hx'
              have kb4 := h4.ext hx'
              have kb6 := h6.ext hx'
              have HX2 : Hid (Ext w W') := Lib.hid (HX.out.trans hx')
              have ap4 : Apart gn b4 := ⟨by have := o4.lt; omega⟩
              have ap6 : Apart gn b6 := ⟨by have := o6.lt; omega⟩
              have ap2 : Apart gn b2 := ⟨by have := o2.lt; omega⟩
              have ap4' : Apart b4 gn := ⟨by have := o4.lt; omega⟩
              have ap6' : Apart b6 gn := ⟨by have := o6.lt; omega⟩
              clear hx'
              simp only [Act.put, List.setIfInBounds_toArray, List.set_cons_succ, List.set_cons_zero]
              go_wp2_with (first | ((with_reducible apply wl_store' lwY); (· (first | exact wanted_none rfl | exact wanted_some rfl rfl rfl)); (· rfl); (· rfl); (· infer_instance); (· rfl); (· rfl); (· (simp [Value.oneCell'])); try simp only [setRow_alloc, setRow_new, setRow_new1, setRow_new2, setRow_new11, setRow_new111]) | ((with_reducible apply wl_load' lwY); (· (first | exact wanted_none rfl | exact wanted_some rfl rfl rfl)); (· rfl); (· infer_instance); (· rfl)))
              refine bodyPost_ret (results_cs (b0 := b4) rfl lwY rfl rfl inferInstance rfl) rfl ⟨?_, ?_⟩
              · rw [HR.out, HD.out, HE9.out]; simp [recF, HT.out, HE.out, zeroY]
              · replace HX := HX2
                exact ExtOf.of (by repeat' (first | (with_reducible exact Ext.refl _) | (with_reducible exact ExtOf.ext _) | (with_reducible refine Ext.trans ?_ (ExtOf.ext _)) | (with_reducible refine Ext.alloc ?_ _) | (with_reducible refine Ext.drew ?_) | (with_reducible refine Ext.setCell ?_ ?_ _) | (with_reducible refine Ext.setRow ?_ ?_ _) | (with_reducible exact HX.out) | (with_reducible refine Ext.trans ?_ HX.out) | (with_reducible refine Ext.below ?_ (Nat.le_refl _) _) | omega | (simp; done) | (simp; omega)))
    · have hkk : k = g.length := by omega
      have HE : Hid (recF sp g zeroY = (acc, 0)) := Lib.hid (by rw [HR.out, hkk, List.drop_length]; rfl)
      clear hkk
      go_wp2_with (first | ((with_reducible apply wl_load' lwY); (· (first | exact wanted_none rfl | exact wanted_some rfl rfl rfl)); (· rfl); (· infer_instance); (· rfl)) | ((with_reducible apply wl_store' lwY); (· (first | exact wanted_none rfl | exact wanted_some rfl rfl rfl)); (· rfl); (· rfl); (· infer_instance); (· rfl); (· rfl); (· (simp [Value.oneCell'])); try simp only [setRow_alloc, setRow_new, setRow_new1, setRow_new2, setRow_new11, setRow_new111]))
      refine bodyPost_ret (results_cs (b0 := b4) rfl lwY rfl rfl inferInstance rfl) rfl ⟨?_, ?_⟩
      · rw [HE.out]; rfl
      · exact ExtOf.of (by repeat' (first | (with_reducible exact Ext.refl _) | (with_reducible exact ExtOf.ext _) | (with_reducible refine Ext.trans ?_ (ExtOf.ext _)) | (with_reducible refine Ext.alloc ?_ _) | (with_reducible refine Ext.drew ?_) | (with_reducible refine Ext.setCell ?_ ?_ _) | (with_reducible refine Ext.setRow ?_ ?_ _) | (with_reducible exact HX.out) | (with_reducible refine Ext.trans ?_ HX.out) | (with_reducible refine Ext.below ?_ (Nat.le_refl _) _) | omega | (simp; done) | (simp; omega)))
end Go.Proofs.YtaflcbdbacogeaaDoor
