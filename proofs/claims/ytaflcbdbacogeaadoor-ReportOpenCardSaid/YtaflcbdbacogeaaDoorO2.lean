/-
  ReportOpens: the walk.
-/
import Derived.Test.YtaflcbdbacogeaaDoorW1
import Derived.Test.YtaflcbdbacogeaaDoorX1
import Derived.Test.YtaflcbdbacogeaaDoorP6
import Derived.Test.YtaflcbdbacogeaaDoorO1
import Derived.Test.YtaflcbdbacogeaaDoorSoft
set_option linter.unusedVariables false
set_option linter.unusedSimpArgs false
namespace Go.Proofs.YtaflcbdbacogeaaDoor
open Go.RowKit ReportM

attribute [local go_sem] ExtOf.cell ExtOf.frozen ExtS.cell ExtS.frozen Block.cell Block.frozen ExtB.cell ExtB.frozen alloc_cell alloc_frozen eqRw eqYd eqgRw eqgYd
attribute [local simp] stCells
theorem fresh2o {R : World → Prop} {w w0 : World} (b0 b1 : Nat) {c0 c1 : Array Value} (h0 : Block w b0 c0) (h1 : Block w b1 c1) (hx : Ext w0 w) (h : ∀ W, Block W b0 c0 → Block W b1 c1 → Hid (Ext w0 W) → R W) : R w := h w h0 h1 hx
theorem nodup_len : ∀ (n : Nat) (L : List Nat), L.Nodup → (∀ i ∈ L, i < n) → L.length ≤ n
  | 0, L, _, h => by
    cases L with
    | nil => simp
    | cons a t => exact absurd (h a (by simp)) (by omega)
  | n + 1, L, hn, h => by
    have h1 : (L.erase n).length ≤ n := nodup_len n (L.erase n) (hn.erase n) (fun i hi => by
      have h2 := h i (List.mem_of_mem_erase hi)
      have h3 : i ≠ n := fun e => by subst e; exact (hn.not_mem_erase) hi
      omega)
    rw [List.length_erase] at h1
    split at h1 <;> omega
def opT (st rst : Array Value) : Nat → Option Value
  | 14 => some (.agg st)
  | 16 => some (.agg rst)
  | 18 => some (.bool true)
  | 19 => some (.bool true)
  | 20 => some (.bool true)
  | 21 => some (.bool true)
  | 2 => some (.bool true)
  | _ => none
def opA (st rst : Array Value) (d : Nat) (v : Value) : Prop := match opT st rst d with | some V => v = V | none => True
def opF (st rst : Array Value) (du : List Du) : Nat → Value → World → Prop
  | 15, v, w => ∃ L, OpenOk du L ∧ SliceOf encN 1 w v L
  | 17, v, w => ∃ L, OpenOk du L ∧ SliceOf encN 1 w v L
  | d, v, _ => opA st rst d v
theorem opA_some (st rst : Array Value) (d : Nat) : ∃ v, opA st rst d v := by
  unfold opA
  cases opT st rst d with
  | none => exact ⟨undef, trivial⟩
  | some V => exact ⟨V, rfl⟩
theorem opF_keep (st rst : Array Value) (du : List Du) (d : Nat) (v : Value) (w w' : World) (h : opF st rst du d v w) (hx : Ext w w') : opF st rst du d v w' := by
  unfold opF at *
  split at h
  · obtain ⟨L, h1, h2⟩ := h; exact ⟨L, h1, SliceOf.ext h2 hx⟩
  · obtain ⟨L, h1, h2⟩ := h; exact ⟨L, h1, SliceOf.ext h2 hx⟩
  · exact h
theorem OpenOk.len {d : List Du} {L : List Nat} (h : OpenOk d L) : L.length ≤ d.length := by
  have hnd : L.Nodup := h.asc.imp (fun h e => by subst e; unfold ltO at h; omega)
  exact nodup_len d.length L hnd (fun i hi => ((h.mem i).1 hi).1)
theorem opens_same {d : List Du} {v u : Value} {W : World} (hl : d.length ≤ 1000) (h1 : ∃ L, OpenOk d L ∧ SliceOf encN 1 W v L) (h2 : ∃ L, OpenOk d L ∧ SliceOf encN 1 W u L) :
    Calls Tryd.prog 18 #[v, u] W fun e w' => e = .returned (.bool true) ∧ ∃ n : ExtOf W, w' = n.val := by
  obtain ⟨L, a1, a2⟩ := h1
  obtain ⟨M, b1, b2⟩ := h2
  obtain rfl := OpenOk.unique a1 b1
  exact ints_eq L v u W a2 b2 (by have := a1.len; omega)
set_option maxRecDepth 100000 in
set_option maxHeartbeats 3200000 in
theorem opens_walk (d : List Du) (v0 : Value) (w : World) (h0 : SliceOf encDu 2 w v0 d) (htab : Tab w) : Calls Tryd.prog 5 #[v0] w fun e w' => e = .returned (.bool true) ∧ ∃ n : ExtOf w, w' = n.val := by
  obtain ⟨pv, cv, rfl, _, _, _⟩ := SliceOf.form h0
  have HT := Lib.hid htab
  have H0 := Lib.hid h0
  clear htab h0
  go_enter Tryd.func5, Tryd.ntmps5
  by_cases hlen : d.length ≤ 100
  · go_wp2_with (first | ((with_reducible apply wl_load' lwSt); (· (first | exact wanted_none rfl | exact wanted_some rfl rfl rfl)); (· rfl); (· infer_instance); (· rfl)) | ((with_reducible apply wl_load' lwRSt); (· (first | exact wanted_none rfl | exact wanted_some rfl rfl rfl)); (· rfl); (· infer_instance); (· rfl)) | ((with_reducible apply wl_store' lwSt); (· (first | exact wanted_none rfl | exact wanted_some rfl rfl rfl)); (· rfl); (· rfl); (· infer_instance); (· rfl); (· rfl); (· (simp [Value.oneCell'])); try simp only [setRow_alloc, setRow_new, setRow_new1, setRow_new2, setRow_new11, setRow_new111]) | ((with_reducible apply wl_store' lwRSt); (· (first | exact wanted_none rfl | exact wanted_some rfl rfl rfl)); (· rfl); (· rfl); (· infer_instance); (· rfl); (· rfl); (· (simp [Value.oneCell'])); try simp only [setRow_alloc, setRow_new, setRow_new1, setRow_new2, setRow_new11, setRow_new111]) | (go_at_call 10; refine (mill_any [] [] d _ _ _ _ (SliceOf.nil _) (SliceOf.nil _) H0.out (by decide) (by decide) (by omega) (by simp)).mono ?_; rintro e W ⟨vi, vri, vl, vrl, vo, vro, rfl, hi, hri, hl, hrl, ho, hro, nm, rfl⟩; obtain ⟨q1, k1, rfl, _, _, _⟩ := SliceOf.form hi; obtain ⟨q2, k2, rfl, _, _, _⟩ := SliceOf.form hri; obtain ⟨q3, k3, rfl, _, _, _⟩ := SliceOf.form hl; obtain ⟨q4, k4, rfl, _, _, _⟩ := SliceOf.form hrl; obtain ⟨q5, k5, rfl, _, _, _⟩ := SliceOf.form ho; obtain ⟨q6, k6, rfl, _, _, _⟩ := SliceOf.form hro; have HI := Lib.hid hi; have HL := Lib.hid hl; have HO := Lib.hid ho; have HRI := Lib.hid hri; have HRL := Lib.hid hrl; have HRO := Lib.hid hro; clear hi hri hl hrl ho hro))
    refine fresh2o (R := fun W => Code.wp _ _ _ _ W) (w0 := nm.val) nm.val.heap.size (nm.val.heap.size + 1) inferInstance inferInstance (by repeat' (first | (with_reducible exact Ext.refl _) | (with_reducible exact ExtOf.ext _) | (with_reducible refine Ext.trans ?_ (ExtOf.ext _)) | (with_reducible refine Ext.alloc ?_ _) | (with_reducible refine Ext.drew ?_) | (with_reducible refine Ext.setCell ?_ ?_ _) | (with_reducible refine Ext.setRow ?_ ?_ _) | (with_reducible exact HX.out) | (with_reducible refine Ext.trans ?_ HX.out) | (with_reducible refine Ext.below ?_ (Nat.le_refl _) _) | omega | (simp; done) | (simp; omega))) ?_
    intro W0 hB8 hB9 HXm
    have hl1 : d.length ≤ 1000 := by omega
    have HXd : Hid (Ext nm.val W0.drew) := Lib.hid (Ext.drew HXm.out)
    have HB8 : Hid (Block W0.drew nm.val.heap.size (stCells (.slice q3 0 k3) (.slice q1 (itsTo [] 0).length k1) (.slice q5 d.length k5))) := Lib.hid (Block.ext hB8 (Ext.drew (Ext.refl _)))
    have HB9 : Hid (Block W0.drew (nm.val.heap.size + 1) (stCells (.slice q4 0 k4) (.slice q2 (itsTo [] 0).length k2) (.slice q6 d.length k6))) := Lib.hid (Block.ext hB9 (Ext.drew (Ext.refl _)))
    replace HO := Lib.hid (SliceOf.ext HO.out HXd.out)
    replace HRO := Lib.hid (SliceOf.ext HRO.out HXd.out)
    replace HT := Lib.hid (HT.out.ext (nm.ext.trans HXd.out))
    have HXe : Hid (Ext w W0.drew) := Lib.hid (nm.ext.trans HXd.out)
    clear hB8 hB9
    refine wp_region_soft (opA (stCells (.slice q3 0 k3) (.slice q1 (itsTo [] 0).length k1) (.slice q5 d.length k5)) (stCells (.slice q4 0 k4) (.slice q2 (itsTo [] 0).length k2) (.slice q6 d.length k6))) (opF (stCells (.slice q3 0 k3) (.slice q1 (itsTo [] 0).length k1) (.slice q5 d.length k5)) (stCells (.slice q4 0 k4) (.slice q2 (itsTo [] 0).length k2) (.slice q6 d.length k6)) d) (by kernel_rfl) (by kernel_rfl) (by kernel_rfl) (by kernel_rfl) (opA_some _ _) (opF_keep _ _ _) ?_
    refine soft_det (d := 14) (V := .agg (stCells (.slice q3 0 k3) (.slice q1 (itsTo [] 0).length k1) (.slice q5 d.length k5))) rfl (by kernel_rfl) (fun v h => h) rfl (fun _ => rfl) (fun W hx _ => run_load_op lwSt rfl (by kernel_rfl) (Block.ext HB8.out hx) rfl) ?_
    refine soft_callS (d := 15) (f := 19) (vals := #[.agg (stCells (.slice q3 0 k3) (.slice q1 (itsTo [] 0).length k1) (.slice q5 d.length k5))]) rfl (by kernel_rfl) (fun v => trivial) (fun W => by kernel_rfl) (fun W hx _ => (open_walk sort_all d _ _ _ W (SliceOf.ext HO.out hx) hl1 hl1).mono fun e w' ⟨v, L, he, h1, h2, hn⟩ => ⟨v, he, ⟨L, h1, h2⟩, hn⟩) ?_
    intro v15
    refine soft_det (d := 16) (V := .agg (stCells (.slice q4 0 k4) (.slice q2 (itsTo [] 0).length k2) (.slice q6 d.length k6))) rfl (by kernel_rfl) (fun v h => h) rfl (fun _ => rfl) (fun W hx _ => run_load_op lwRSt rfl (by kernel_rfl) (Block.ext HB9.out hx) rfl) ?_
    refine soft_callS (d := 17) (f := 20) (vals := #[.agg (stCells (.slice q4 0 k4) (.slice q2 (itsTo [] 0).length k2) (.slice q6 d.length k6))]) rfl (by kernel_rfl) (fun v => trivial) (fun W => by kernel_rfl) (fun W hx _ => (ropen_walk d _ _ _ W (SliceOf.ext HRO.out hx) hl1).mono fun e w' ⟨v, L, he, h1, h2, hn⟩ => ⟨v, he, ⟨L, h1, h2⟩, hn⟩) ?_
    intro v17
    refine soft_call (d := 18) (V := .bool true) (f := 18) (vals := #[v15, v17]) rfl (by kernel_rfl) (fun v h => h) rfl (fun _ => rfl) (fun W => by kernel_rfl) (fun W hx hk => opens_same hl1 (known_get (d := 15) (v := v15) (n := 1) hk (by kernel_rfl) (by kernel_rfl) (by kernel_rfl)) (known_get (d := 17) (v := v17) (n := 3) hk (by kernel_rfl) (by kernel_rfl) (by kernel_rfl))) ?_
    refine soft_det (d := 19) (V := .bool true) rfl (by kernel_rfl) (fun v h => h) rfl (fun _ => rfl) (fun W _ _ => by kernel_rfl) ?_
    refine soft_call (d := 20) (V := .bool true) (f := 9) (vals := #[]) rfl (by kernel_rfl) (fun v h => h) rfl (fun _ => rfl) (fun W => by kernel_rfl) (fun W hx hk => awake_any W (HT.out.ext hx)) ?_
    refine soft_det (d := 21) (V := .bool true) rfl (by kernel_rfl) (fun v h => h) rfl (fun _ => rfl) (fun W _ _ => by kernel_rfl) ?_
    refine soft_det (d := 2) (V := .bool true) rfl (by kernel_rfl) (fun v h => h) rfl (fun _ => rfl) (fun W _ _ => by kernel_rfl) ?_
    intro W' hx'
    have HX2 : Hid (Ext w W') := Lib.hid (HXe.out.trans hx')
    simp only [Act.put, List.setIfInBounds_toArray, List.set_cons_succ, List.set_cons_zero]
    go_wp2
    go_ret
    exact ⟨rfl, ExtOf.of HX2.out⟩
  · go_wp2_with (go_at_call 9; refine (awake_any _ (HT.out.ext (by repeat' (first | (with_reducible exact Ext.refl _) | (with_reducible exact ExtOf.ext _) | (with_reducible refine Ext.trans ?_ (ExtOf.ext _)) | (with_reducible refine Ext.alloc ?_ _) | (with_reducible refine Ext.drew ?_) | (with_reducible refine Ext.setCell ?_ ?_ _) | (with_reducible refine Ext.setRow ?_ ?_ _) | (with_reducible exact HX.out) | (with_reducible refine Ext.trans ?_ HX.out) | (with_reducible refine Ext.below ?_ (Nat.le_refl _) _) | omega | (simp; done) | (simp; omega))))).mono ?_; rintro e W ⟨rfl, na, rfl⟩)
    go_ret
    exact ⟨rfl, by exact ExtOf.of (by repeat' (first | (with_reducible exact Ext.refl _) | (with_reducible exact ExtOf.ext _) | (with_reducible refine Ext.trans ?_ (ExtOf.ext _)) | (with_reducible refine Ext.alloc ?_ _) | (with_reducible refine Ext.drew ?_) | (with_reducible refine Ext.setCell ?_ ?_ _) | (with_reducible refine Ext.setRow ?_ ?_ _) | (with_reducible exact HX.out) | (with_reducible refine Ext.trans ?_ HX.out) | (with_reducible refine Ext.below ?_ (Nat.le_refl _) _) | omega | (simp; done) | (simp; omega)))⟩
end Go.Proofs.YtaflcbdbacogeaaDoor
