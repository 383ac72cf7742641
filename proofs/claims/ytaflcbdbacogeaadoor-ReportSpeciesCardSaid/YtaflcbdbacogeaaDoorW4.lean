/-
  ReportSpecies: the walks.
-/
import Derived.Test.YtaflcbdbacogeaaDoorW1
import Derived.Test.YtaflcbdbacogeaaDoorY2
set_option linter.unusedVariables false
set_option linter.unusedSimpArgs false
namespace Go.Proofs.YtaflcbdbacogeaaDoor
open Go.RowKit ReportM

attribute [local go_sem] ExtOf.cell ExtOf.frozen ExtS.cell ExtS.frozen Block.cell Block.frozen ExtB.cell ExtB.frozen alloc_cell alloc_frozen eqRw eqYd eqgRw eqgYd
attribute [local simp] stCells
set_option maxRecDepth 20000 in
set_option maxHeartbeats 1600000 in
theorem wide_any (g : List Sw) (v : Value) (w : World) (h1 : SliceOf encSw 7 w v g) (hl : g.length ≤ 1000) (hw : g.any wideB = true) : Calls Tryd.prog 22 #[v] w fun e w' => e = .returned (.bool true) ∧ ∃ n : ExtOf w, w' = n.val := by
  obtain ⟨p1, cap1, rfl, _, _, _⟩ := SliceOf.form h1
  have H1 := Lib.hid h1
  have HW := Lib.hid hw
  clear h1 hw
  go_enter Tryd.func22, Tryd.ntmps22
  go_wp2_with fail
  go_loopw [3] (fun i wr => ∃ k : Nat, k ≤ g.length ∧ i = .int .i64 k ∧ (∀ j (hj : j < g.length), j < k → wideB g[j] = false) ∧ Ext w wr) (fun i _ => g.length - (intOf i).toNat)
  case atStart => exact ⟨0, by omega, rfl, fun j _ hj => by omega, Ext.refl _⟩
  case round =>
    obtain ⟨k, hk, rfl, hall, hx⟩ := hrel
    have HX := Lib.hid hx
    have HA := Lib.hid hall
    clear hx hall
    by_cases hlt : k < g.length
    · obtain ⟨b1, o1, rfl, r0⟩ := SliceOf.elemK H1.out hlt
      obtain ⟨x, hx0⟩ : ∃ x, x = g[k] := ⟨_, rfl⟩
      rw [← hx0] at r0
      have HXK := Lib.hid hx0
      clear hx0
      obtain ⟨xs, sn, ⟨y1, y2, y3, y4, y5⟩⟩ := x
      have rY : World.rangeAt wr b1 (o1 + k * 7 + 2) [.int .i64 y1, .int .i64 y2, .int .i64 y3, .int .i64 y4, .int .i64 y5] := fun j u hj => by rw [Nat.add_assoc]; exact (HX.out.range r0) (2 + j) u (by rw [Nat.add_comm]; simpa [encSw] using hj)
      have o2 : Old b1 wr := Old.of_cell ((HX.out.range r0) 0 _ rfl)
      clear r0
      by_cases t1 : y1 > 18014398509481984
      · go_wp2_with (first | ((with_reducible apply wl_loadM midY rY); (· rfl); (· (first | exact wanted_none rfl | exact wanted_some rfl rfl rfl)); (· rfl)) | ((with_reducible apply wl_store' lwY); (· (first | exact wanted_none rfl | exact wanted_some rfl rfl rfl)); (· rfl); (· rfl); (· infer_instance); (· rfl); (· rfl); (· (simp [Value.oneCell'])); try simp only [setRow_alloc, setRow_new, setRow_new1, setRow_new2, setRow_new11, setRow_new111]) | ((with_reducible apply wl_load' lwY); (· (first | exact wanted_none rfl | exact wanted_some rfl rfl rfl)); (· rfl); (· infer_instance); (· rfl)))
        go_ret
        exact ⟨rfl, by exact ExtOf.of (by repeat' (first | (with_reducible exact Ext.refl _) | (with_reducible exact ExtOf.ext _) | (with_reducible refine Ext.trans ?_ (ExtOf.ext _)) | (with_reducible refine Ext.alloc ?_ _) | (with_reducible refine Ext.drew ?_) | (with_reducible refine Ext.setCell ?_ ?_ _) | (with_reducible refine Ext.setRow ?_ ?_ _) | (with_reducible exact HX.out) | (with_reducible refine Ext.trans ?_ HX.out) | (with_reducible refine Ext.below ?_ (Nat.le_refl _) _) | omega | (simp; done) | (simp; omega)))⟩
      by_cases t2 : y2 > 18014398509481984
      · go_wp2_with (first | ((with_reducible apply wl_loadM midY rY); (· rfl); (· (first | exact wanted_none rfl | exact wanted_some rfl rfl rfl)); (· rfl)) | ((with_reducible apply wl_store' lwY); (· (first | exact wanted_none rfl | exact wanted_some rfl rfl rfl)); (· rfl); (· rfl); (· infer_instance); (· rfl); (· rfl); (· (simp [Value.oneCell'])); try simp only [setRow_alloc, setRow_new, setRow_new1, setRow_new2, setRow_new11, setRow_new111]) | ((with_reducible apply wl_load' lwY); (· (first | exact wanted_none rfl | exact wanted_some rfl rfl rfl)); (· rfl); (· infer_instance); (· rfl)))
        go_ret
        exact ⟨rfl, by exact ExtOf.of (by repeat' (first | (with_reducible exact Ext.refl _) | (with_reducible exact ExtOf.ext _) | (with_reducible refine Ext.trans ?_ (ExtOf.ext _)) | (with_reducible refine Ext.alloc ?_ _) | (with_reducible refine Ext.drew ?_) | (with_reducible refine Ext.setCell ?_ ?_ _) | (with_reducible refine Ext.setRow ?_ ?_ _) | (with_reducible exact HX.out) | (with_reducible refine Ext.trans ?_ HX.out) | (with_reducible refine Ext.below ?_ (Nat.le_refl _) _) | omega | (simp; done) | (simp; omega)))⟩
      by_cases t3 : y3 > 18014398509481984
      · go_wp2_with (first | ((with_reducible apply wl_loadM midY rY); (· rfl); (· (first | exact wanted_none rfl | exact wanted_some rfl rfl rfl)); (· rfl)) | ((with_reducible apply wl_store' lwY); (· (first | exact wanted_none rfl | exact wanted_some rfl rfl rfl)); (· rfl); (· rfl); (· infer_instance); (· rfl); (· rfl); (· (simp [Value.oneCell'])); try simp only [setRow_alloc, setRow_new, setRow_new1, setRow_new2, setRow_new11, setRow_new111]) | ((with_reducible apply wl_load' lwY); (· (first | exact wanted_none rfl | exact wanted_some rfl rfl rfl)); (· rfl); (· infer_instance); (· rfl)))
        go_ret
        exact ⟨rfl, by exact ExtOf.of (by repeat' (first | (with_reducible exact Ext.refl _) | (with_reducible exact ExtOf.ext _) | (with_reducible refine Ext.trans ?_ (ExtOf.ext _)) | (with_reducible refine Ext.alloc ?_ _) | (with_reducible refine Ext.drew ?_) | (with_reducible refine Ext.setCell ?_ ?_ _) | (with_reducible refine Ext.setRow ?_ ?_ _) | (with_reducible exact HX.out) | (with_reducible refine Ext.trans ?_ HX.out) | (with_reducible refine Ext.below ?_ (Nat.le_refl _) _) | omega | (simp; done) | (simp; omega)))⟩
      by_cases t4 : y4 > 18014398509481984
      · go_wp2_with (first | ((with_reducible apply wl_loadM midY rY); (· rfl); (· (first | exact wanted_none rfl | exact wanted_some rfl rfl rfl)); (· rfl)) | ((with_reducible apply wl_store' lwY); (· (first | exact wanted_none rfl | exact wanted_some rfl rfl rfl)); (· rfl); (· rfl); (· infer_instance); (· rfl); (· rfl); (· (simp [Value.oneCell'])); try simp only [setRow_alloc, setRow_new, setRow_new1, setRow_new2, setRow_new11, setRow_new111]) | ((with_reducible apply wl_load' lwY); (· (first | exact wanted_none rfl | exact wanted_some rfl rfl rfl)); (· rfl); (· infer_instance); (· rfl)))
        go_ret
        exact ⟨rfl, by exact ExtOf.of (by repeat' (first | (with_reducible exact Ext.refl _) | (with_reducible exact ExtOf.ext _) | (with_reducible refine Ext.trans ?_ (ExtOf.ext _)) | (with_reducible refine Ext.alloc ?_ _) | (with_reducible refine Ext.drew ?_) | (with_reducible refine Ext.setCell ?_ ?_ _) | (with_reducible refine Ext.setRow ?_ ?_ _) | (with_reducible exact HX.out) | (with_reducible refine Ext.trans ?_ HX.out) | (with_reducible refine Ext.below ?_ (Nat.le_refl _) _) | omega | (simp; done) | (simp; omega)))⟩
      by_cases t5 : y5 > 18014398509481984
      · go_wp2_with (first | ((with_reducible apply wl_loadM midY rY); (· rfl); (· (first | exact wanted_none rfl | exact wanted_some rfl rfl rfl)); (· rfl)) | ((with_reducible apply wl_store' lwY); (· (first | exact wanted_none rfl | exact wanted_some rfl rfl rfl)); (· rfl); (· rfl); (· infer_instance); (· rfl); (· rfl); (· (simp [Value.oneCell'])); try simp only [setRow_alloc, setRow_new, setRow_new1, setRow_new2, setRow_new11, setRow_new111]) | ((with_reducible apply wl_load' lwY); (· (first | exact wanted_none rfl | exact wanted_some rfl rfl rfl)); (· rfl); (· infer_instance); (· rfl)))
        go_ret
        exact ⟨rfl, by exact ExtOf.of (by repeat' (first | (with_reducible exact Ext.refl _) | (with_reducible exact ExtOf.ext _) | (with_reducible refine Ext.trans ?_ (ExtOf.ext _)) | (with_reducible refine Ext.alloc ?_ _) | (with_reducible refine Ext.drew ?_) | (with_reducible refine Ext.setCell ?_ ?_ _) | (with_reducible refine Ext.setRow ?_ ?_ _) | (with_reducible exact HX.out) | (with_reducible refine Ext.trans ?_ HX.out) | (with_reducible refine Ext.below ?_ (Nat.le_refl _) _) | omega | (simp; done) | (simp; omega)))⟩
      by_cases t6 : y5 < -18014398509481984
      · go_wp2_with (first | ((with_reducible apply wl_loadM midY rY); (· rfl); (· (first | exact wanted_none rfl | exact wanted_some rfl rfl rfl)); (· rfl)) | ((with_reducible apply wl_store' lwY); (· (first | exact wanted_none rfl | exact wanted_some rfl rfl rfl)); (· rfl); (· rfl); (· infer_instance); (· rfl); (· rfl); (· (simp [Value.oneCell'])); try simp only [setRow_alloc, setRow_new, setRow_new1, setRow_new2, setRow_new11, setRow_new111]) | ((with_reducible apply wl_load' lwY); (· (first | exact wanted_none rfl | exact wanted_some rfl rfl rfl)); (· rfl); (· infer_instance); (· rfl)))
        go_ret
        exact ⟨rfl, by exact ExtOf.of (by repeat' (first | (with_reducible exact Ext.refl _) | (with_reducible exact ExtOf.ext _) | (with_reducible refine Ext.trans ?_ (ExtOf.ext _)) | (with_reducible refine Ext.alloc ?_ _) | (with_reducible refine Ext.drew ?_) | (with_reducible refine Ext.setCell ?_ ?_ _) | (with_reducible refine Ext.setRow ?_ ?_ _) | (with_reducible exact HX.out) | (with_reducible refine Ext.trans ?_ HX.out) | (with_reducible refine Ext.below ?_ (Nat.le_refl _) _) | omega | (simp; done) | (simp; omega)))⟩
      have HN : Hid (wideB g[k] = false) := Lib.hid (by rw [← HXK.out]; simp [wideB]; omega)
      go_wp2_with (first | ((with_reducible apply wl_loadM midY rY); (· rfl); (· (first | exact wanted_none rfl | exact wanted_some rfl rfl rfl)); (· rfl)) | ((with_reducible apply wl_store' lwY); (· (first | exact wanted_none rfl | exact wanted_some rfl rfl rfl)); (· rfl); (· rfl); (· infer_instance); (· rfl); (· rfl); (· (simp [Value.oneCell'])); try simp only [setRow_alloc, setRow_new, setRow_new1, setRow_new2, setRow_new11, setRow_new111]) | ((with_reducible apply wl_load' lwY); (· (first | exact wanted_none rfl | exact wanted_some rfl rfl rfl)); (· rfl); (· infer_instance); (· rfl)))
      go_roundw
      case rel => exact ⟨k + 1, by omega, by first | rfl | go_num, fun j hj hjk => by
        rcases Nat.lt_or_ge j k with h | h
        · exact HA.out j hj h
        · obtain rfl : j = k := by omega
          exact HN.out, by repeat' (first | (with_reducible exact Ext.refl _) | (with_reducible exact ExtOf.ext _) | (with_reducible refine Ext.trans ?_ (ExtOf.ext _)) | (with_reducible refine Ext.alloc ?_ _) | (with_reducible refine Ext.drew ?_) | (with_reducible refine Ext.setCell ?_ ?_ _) | (with_reducible refine Ext.setRow ?_ ?_ _) | (with_reducible exact HX.out) | (with_reducible refine Ext.trans ?_ HX.out) | (with_reducible refine Ext.below ?_ (Nat.le_refl _) _) | omega | (simp; done) | (simp; omega))⟩
      case measure => simp [intOf]; omega
    · exfalso
      have h2 := HW.out
      rw [List.any_eq_true] at h2
      obtain ⟨x, hx, hw⟩ := h2
      obtain ⟨j, hj, rfl⟩ := List.getElem_of_mem hx
      have := HA.out j hj (by omega)
      rw [this] at hw
      cases hw

def fB (g : List Sw) (u : List UInt8) (k : Nat) : Bool := (!u.isEmpty) && !((g.take k).map (·.sp.toList)).contains u
theorem fB_succ {g : List Sw} {u : List UInt8} {k : Nat} (h : k < g.length) : fB g u (k + 1) = (fB g u k && !(g[k].sp.toList == u)) := by
  unfold fB
  rw [List.take_succ_eq_append_getElem h, List.map_append]
  have e : ((List.map (fun x : Sw => x.sp.toList) (List.take k g) ++ List.map (fun x : Sw => x.sp.toList) [g[k]]).contains u) = ((List.map (fun x : Sw => x.sp.toList) (List.take k g)).contains u || (g[k].sp.toList == u)) := by
    rw [Bool.eq_iff_iff, Bool.or_eq_true, List.contains_iff_mem, List.contains_iff_mem, List.mem_append, List.map_cons, List.map_nil, List.mem_singleton, beq_iff_eq, eq_comm (a := u)]
  rw [e, Bool.not_or, Bool.and_assoc]
theorem fB_zero (g : List Sw) (u : List UInt8) : fB g u 0 = !u.isEmpty := by simp [fB]
theorem freshS {R : World → Prop} {Wm w0 : World} {T : TypeId} {z : Array Value} (b3 b5 b7 : Nat) {c3 c5 : Array Value} {vl : Value} {g : List Sw} (h3 : Block Wm b3 c3) (h5 : Block Wm b5 c5) (hb : Wm.heap.size = b7) (hx : Ext w0 Wm) (hl : SliceOf encLg 19 Wm vl g) (h : ∀ W, Block W b3 c3 → Block W b5 c5 → W.heap.size = b7 → Ext w0 W → SliceOf encLg 19 W vl g → R (W.alloc (.cells z T))) : R (Wm.alloc (.cells z T)) := h Wm h3 h5 hb hx hl
/-- what makes an error of a partial sum: a wide yield -/
theorem species_wide {g : List Sw} {u : ByteArray} {y : Y5} {f : Int} {k : Nat} (hl : g.length ≤ 40) (hk : k ≤ g.length) (hok : ∀ x ∈ g, takes ⟨#[]⟩ x = true → okY x.y = true) (hR : recF u g zeroY = (y, f)) (hne : ¬ (f = 0 ∧ addE (sumU g (fsTo g k)) y = 0)) : g.any wideB = true := by
  by_cases hw : g.any wideB = true
  · exact hw
  exfalso
  have hnw : ∀ x ∈ g, wideB x = false := fun x hx => by
    by_cases c : wideB x = true
    · exact absurd (List.any_eq_true.2 ⟨x, hx, c⟩) hw
    · simpa using c
  have hin : ∀ x ∈ g, takes ⟨#[]⟩ x = true → Within 1 x.y := fun x hx ht => narrow (hnw x hx) (hok x hx ht)
  have hf : (recF u g zeroY).2 = 0 := recF_fine (n := 0) Within.zero (by omega) (fun x hx ht => hin x hx (takes_any ht))
  rw [hR] at hf
  have hf0 : f = 0 := hf
  obtain ⟨hy, _⟩ := recF_ok hR hf0
  rw [zero_sumY] at hy
  have w1 : Within 40 y := by rw [hy]; exact within_len (fun x hx ht => hin x hx (takes_any ht)) hl
  have w2 : Within 40 (sumU g (fsTo g k)) := by
    rw [sumU_eq g _ (fsTo_nodup k hk)]
    refine within_len (fun x hx ht => hin x hx ?_) hl
    simp only [inUs, Bool.and_eq_true] at ht
    have h2 : (⟨#[]⟩ : ByteArray).toList.isEmpty = true := mtS
    simp [takes, h2, ht.1]
  exact hne ⟨hf0, by unfold addE; rw [w1.ok (by decide), w2.ok (by decide)]; rfl⟩
end Go.Proofs.YtaflcbdbacogeaaDoor
