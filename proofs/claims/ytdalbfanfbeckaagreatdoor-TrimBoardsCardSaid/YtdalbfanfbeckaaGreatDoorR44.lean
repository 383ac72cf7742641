/-
  Chapter 26: the law's sample; what is small.
-/
import Derived.Test.YtdalbfanfbeckaaGreatDoorK43
import Derived.Test.YtdalbfanfbeckaaGreatDoorK27
set_option linter.unusedVariables false
set_option linter.unusedSimpArgs false
namespace Go.Proofs.YtdalbfanfbeckaaGreatDoor
open Go.RowKit TrimM

attribute [local go_sem] ExtOf.cell ExtOf.frozen ExtS.cell ExtS.frozen Block.cell Block.frozen ExtB.cell ExtB.frozen alloc_cell alloc_frozen
theorem slice_lit {α : Type} {enc : α → List Value} {k g : Nat} {W : World} {cs : Array Value} {l : List α} (hk : ∀ x, (enc x).length = k) (hB : Block W g cs) (hcs : cs.toList = l.flatMap enc) (hl : l.length ≤ 1000) : SliceOf enc k W (.slice (some ⟨g, 0, none⟩) l.length l.length) l := by
  refine ⟨_, l.length, rfl, Nat.le_refl _, by unfold maxLen; omega, fun h => (by cases h), fun i x hi => ⟨g, 0, rfl, fun j u hj => ?_⟩⟩
  rw [Block.cell (h := hB), Nat.zero_add]
  have := flatMap_get hk hi hj
  rw [← hcs] at this
  simpa using this
def bd0 : Bd := ⟨.empty, .empty, .empty, 0, box0, 0, 0, 0, 0, 0, false, 0⟩
def SamplePost (w : World) (e : Ending) (w' : World) : Prop := ∃ lv pv, e = .returned (.agg (gvC bd0 (.slice none 0 0) prod0 lv pv 500 5 15)) ∧ IntS w' lv prod0.ls ∧ IntS w' pv prod0.ps ∧ ∃ n : ExtOf w, w' = n.val
theorem wl_build {P : Program} {ops : Array Oper} {rest : List Oper} {a : Act} {T : TypeId} {els : Array (Nat × Operand)} {V : Value} {dst : Option Tmp} {ty : TypeId} {pos : String} {aft : Array Edge} {g : Option (Nat × Bool)} {w : World} {Q : Exit → Act → World → Prop} (hw : Region.wanted ⟨dst, .build T els, ty, pos, aft, g⟩ (yielded ops a.tmps) = true) (hr : (execOp a.eval ⟨dst, .build T els, ty, pos, aft, g⟩).run P w = .ok (.value V) w)
    (hk : wpList P ops Q rest (a.put dst V) w) : wpList P ops Q (⟨dst, .build T els, ty, pos, aft, g⟩ :: rest) a w := by
  refine wpList_step fun K hK => ?_
  rw [if_pos hw]
  unfold Oper.wp
  rw [hr]
  exact hK _ _ hk
set_option maxHeartbeats 1600000 in
set_option maxRecDepth 20000 in
theorem sample_any (w : World) : Calls Tryz.prog 11 #[] w (SamplePost w) := by
  go_enter Tryz.func11, Tryz.ntmps11
  go_upto_region 2 with (first | ((with_reducible apply wl_store' lwPd); (· (first | exact wanted_none rfl | exact wanted_some rfl rfl rfl)); (· rfl); (· rfl); (· infer_instance); (· rfl); (· rfl); (· (simp [Value.oneCell'])); try simp only [setRow_alloc, setRow_new, setRow_new1, setRow_new2, setRow_new11, setRow_new111]))
  refine nameW (R := fun W => Code.wp _ _ _ _ W) (fun W => Hid (Ext w W) ∧ Block W w.heap.size #[.string ⟨#[]⟩, .string ⟨#[]⟩, .string ⟨#[]⟩, .int .i64 0, .int .i64 0, .int .i64 0, .int .i64 0, .int .i64 0, .int .i64 0, .int .i64 0, .int .i64 0, .slice none 0 0, .int .i64 0, .int .i64 0, .int .i64 0, .int .i64 0, .bool false, .int .i64 0, .string ⟨#[]⟩, .int .i64 0, .int .i64 0, .int .i64 0, .int .i64 0, .slice none 0 0, .slice none 0 0, .int .i64 0, .int .i64 0, .int .i64 0] ∧ Block W (w.heap.size + 1) #[.int .i64 1000, .int .i64 2000] ∧ Block W (w.heap.size + 1 + 1) #[.int .i64 30, .int .i64 70] ∧ Block W (w.heap.size + 1 + 1 + 1) #[.string ⟨#[112, 108, 97, 110, 107]⟩, .int .i64 40, .int .i64 100, .int .i64 50, .int .i64 0, .slice (some ⟨w.heap.size + 1, 0, none⟩) 2 2, .slice (some ⟨w.heap.size + 1 + 1, 0, none⟩) 2 2]) ⟨Lib.hid (by repeat' (first | (with_reducible exact Ext.refl _) | (with_reducible exact ExtOf.ext _) | (with_reducible refine Ext.trans ?_ (ExtOf.ext _)) | (with_reducible refine Ext.alloc ?_ _) | (with_reducible refine Ext.drew ?_) | (with_reducible refine Ext.setCell ?_ ?_ _) | (with_reducible refine Ext.setRow ?_ ?_ _) | (with_reducible exact HX.out) | (with_reducible refine Ext.trans ?_ HX.out) | (with_reducible refine Ext.below ?_ (Nat.le_refl _) _) | omega | (simp; done) | (simp; omega))), ?_, ?_, ?_, ?_⟩ ?_
  · infer_instance
  · infer_instance
  · infer_instance
  · infer_instance
  rintro W ⟨HX, k0, k1, k2, k3⟩
  have o0 := k0.old
  have o1 := k1.old
  have o2 := k2.old
  have o3 := k3.old
  have hsz := HX.out.size
  have ap1 : Apart w.heap.size (w.heap.size + 1) := ⟨by omega⟩
  have ap2 : Apart w.heap.size (w.heap.size + 1 + 1) := ⟨by omega⟩
  go_upto_region 3 with (first | ((with_reducible refine wl_build (T := 30) (V := .agg #[.string ⟨#[]⟩, .string ⟨#[]⟩, .string ⟨#[]⟩, .int .i64 0, .int .i64 0, .int .i64 105, .int .i64 0, .int .i64 42, .int .i64 1000, .int .i64 4000, .int .i64 0, .slice none 0 0, .int .i64 0, .int .i64 0, .int .i64 0, .int .i64 0, .bool false, .int .i64 0]) ?_ ?_ ?_); (· (first | exact wanted_none rfl | exact wanted_some rfl rfl rfl)); (· kernel_rfl)) | ((with_reducible apply wl_store' lwBd); (· (first | exact wanted_none rfl | exact wanted_some rfl rfl rfl)); (· rfl); (· rfl); (· infer_instance); (· rfl); (· rfl); (· (simp [Value.oneCell'])); try simp only [setRow_alloc, setRow_new, setRow_new1, setRow_new2, setRow_new11, setRow_new111]))
  go_wp2_with (first | ((with_reducible refine wl_build (T := 35) (V := .agg #[.string ⟨#[]⟩, .string ⟨#[]⟩, .string ⟨#[]⟩, .int .i64 0, .int .i64 0, .int .i64 105, .int .i64 0, .int .i64 42, .int .i64 1000, .int .i64 4000, .int .i64 0, .slice none 0 0, .int .i64 0, .int .i64 0, .int .i64 0, .int .i64 0, .bool false, .int .i64 0, .string ⟨#[112, 108, 97, 110, 107]⟩, .int .i64 40, .int .i64 100, .int .i64 50, .int .i64 0, .slice (some ⟨w.heap.size + 1, 0, none⟩) 2 2, .slice (some ⟨w.heap.size + 1 + 1, 0, none⟩) 2 2, .int .i64 500, .int .i64 5, .int .i64 15]) ?_ ?_ ?_); (· (first | exact wanted_none rfl | exact wanted_some rfl rfl rfl)); (· kernel_rfl)) | ((with_reducible apply wl_load' lwPd); (· (first | exact wanted_none rfl | exact wanted_some rfl rfl rfl)); (· rfl); (· infer_instance); (· rfl)) | ((with_reducible apply wl_load' lwBd); (· (first | exact wanted_none rfl | exact wanted_some rfl rfl rfl)); (· rfl); (· infer_instance); (· rfl)) | ((with_reducible apply wl_store' lwGiven); (· (first | exact wanted_none rfl | exact wanted_some rfl rfl rfl)); (· rfl); (· rfl); (· infer_instance); (· rfl); (· rfl); (· (simp [Value.oneCell'])); try simp only [setRow_alloc, setRow_new, setRow_new1, setRow_new2, setRow_new11, setRow_new111]))
  refine bodyPost_ret (results_c1 (b0 := w.heap.size) rfl lwGiven rfl inferInstance rfl) rfl ⟨.slice (some ⟨w.heap.size + 1, 0, none⟩) 2 2, .slice (some ⟨w.heap.size + 1 + 1, 0, none⟩) 2 2, ?_, ?_, ?_, ?_⟩
  · rfl
  · exact slice_lit (l := [1000, 2000]) encI_len (g := w.heap.size + 1) inferInstance rfl (by decide)
  · exact slice_lit (l := [30, 70]) encI_len (g := w.heap.size + 1 + 1) inferInstance rfl (by decide)
  · exact ExtOf.of (by repeat' (first | (with_reducible exact Ext.refl _) | (with_reducible exact ExtOf.ext _) | (with_reducible refine Ext.trans ?_ (ExtOf.ext _)) | (with_reducible refine Ext.alloc ?_ _) | (with_reducible refine Ext.drew ?_) | (with_reducible refine Ext.setCell ?_ ?_ _) | (with_reducible refine Ext.setRow ?_ ?_ _) | (with_reducible exact HX.out) | (with_reducible refine Ext.trans ?_ HX.out) | (with_reducible refine Ext.below ?_ (Nat.le_refl _) _) | omega | (simp; done) | (simp; omega)))
def BoolPost (w : World) (e : Ending) (w' : World) : Prop := ∃ c : Bool, e = .returned (.bool c) ∧ ∃ n : ExtOf w, w' = n.val
set_option maxHeartbeats 1600000 in
set_option maxRecDepth 20000 in
theorem small_any (x : Bd) (dv : Value) (ds : List Df) (p : Pdt) (lv pv : Value) (step kerf fine : Int) (w : World) (hd : DfS w dv ds) (hl : IntS w lv p.ls) (hp : IntS w pv p.ps) :
    Calls Tryz.prog 4 #[.agg (gvC x dv p lv pv step kerf fine)] w (BoolPost w) := by
  obtain ⟨lq, lcap, rfl, hl1, hl2, hl3⟩ := SliceOf.form hl
  obtain ⟨pq, pcap, rfl, hp1, hp2, hp3⟩ := SliceOf.form hp
  obtain ⟨q, cap, rfl, hd1, hd2, hd3⟩ := SliceOf.form hd
  have HL := Lib.hid hl
  have HP := Lib.hid hp
  clear hl hp hd
  unfold maxLen at hl2 hp2 hd2
  unfold gvC
  obtain ⟨DL, hDL⟩ : ∃ n, n = ds.length := ⟨_, rfl⟩
  rw [← hDL] at hd1
  rw [← hDL]
  clear hDL
  go_enter Tryz.func4, Tryz.ntmps4
  go_upto_region 2 with (first | ((with_reducible apply wl_store' lwPd); (· (first | exact wanted_none rfl | exact wanted_some rfl rfl rfl)); (· rfl); (· rfl); (· infer_instance); (· rfl); (· rfl); (· (simp [Value.oneCell'])); try simp only [setRow_alloc, setRow_new, setRow_new1, setRow_new2, setRow_new11, setRow_new111]) | ((with_reducible apply wl_loadB midSpan); (· (first | exact wanted_none rfl | exact wanted_some rfl rfl rfl)); (· rfl); (· infer_instance); (· rfl); (· rfl)) | ((with_reducible apply wl_loadB midPd); (· (first | exact wanted_none rfl | exact wanted_some rfl rfl rfl)); (· rfl); (· infer_instance); (· rfl); (· rfl)) | ((with_reducible apply wl_store' lwSpan); (· (first | exact wanted_none rfl | exact wanted_some rfl rfl rfl)); (· rfl); (· rfl); (· infer_instance); (· rfl); (· rfl); (· (simp [Value.oneCell'])); try simp only [setRow_alloc, setRow_new, setRow_new1, setRow_new2, setRow_new11, setRow_new111]) | ((with_reducible apply wl_load' lwSpan); (· (first | exact wanted_none rfl | exact wanted_some rfl rfl rfl)); (· rfl); (· infer_instance); (· rfl)) | (go_at_call 10; refine (short_any p _ _ _ _ inferInstance (SliceOf.ext HL.out (by repeat' (first | (with_reducible exact Ext.refl _) | (with_reducible exact ExtOf.ext _) | (with_reducible refine Ext.trans ?_ (ExtOf.ext _)) | (with_reducible refine Ext.alloc ?_ _) | (with_reducible refine Ext.drew ?_) | (with_reducible refine Ext.setCell ?_ ?_ _) | (with_reducible refine Ext.setRow ?_ ?_ _) | (with_reducible exact HX.out) | (with_reducible refine Ext.trans ?_ HX.out) | (with_reducible refine Ext.below ?_ (Nat.le_refl _) _) | omega | (simp; done) | (simp; omega)))) (SliceOf.ext HP.out (by repeat' (first | (with_reducible exact Ext.refl _) | (with_reducible exact ExtOf.ext _) | (with_reducible refine Ext.trans ?_ (ExtOf.ext _)) | (with_reducible refine Ext.alloc ?_ _) | (with_reducible refine Ext.drew ?_) | (with_reducible refine Ext.setCell ?_ ?_ _) | (with_reducible refine Ext.setRow ?_ ?_ _) | (with_reducible exact HX.out) | (with_reducible refine Ext.trans ?_ HX.out) | (with_reducible refine Ext.below ?_ (Nat.le_refl _) _) | omega | (simp; done) | (simp; omega))))).mono ?_; rintro e w' ⟨rfl, nb, rfl⟩))
  refine nameW (R := fun W => Code.wp _ _ _ _ W) (fun W => Hid (Ext w W) ∧ Block W w.heap.size #[.string x.id, .string x.lg, .string x.sp, .int .i64 x.pr, .int .i64 x.b.xa, .int .i64 x.b.xb, .int .i64 x.b.ya, .int .i64 x.b.yb, .int .i64 x.b.za, .int .i64 x.b.zb, .int .i64 x.vol, .slice q DL cap, .int .i64 x.wa, .int .i64 x.su, .int .i64 x.co, .int .i64 x.st, .bool x.dr, .int .i64 x.gr, .string p.nm, .int .i64 p.th, .int .i64 p.wi, .int .i64 p.al, .int .i64 p.wa, .slice lq p.ls.length lcap, .slice pq p.ps.length pcap, .int .i64 step, .int .i64 kerf, .int .i64 fine] ∧ Block W (w.heap.size + 1) #[.int .i64 x.b.za, .int .i64 x.b.zb]) ⟨Lib.hid (by repeat' (first | (with_reducible exact Ext.refl _) | (with_reducible exact ExtOf.ext _) | (with_reducible refine Ext.trans ?_ (ExtOf.ext _)) | (with_reducible refine Ext.alloc ?_ _) | (with_reducible refine Ext.drew ?_) | (with_reducible refine Ext.setCell ?_ ?_ _) | (with_reducible refine Ext.setRow ?_ ?_ _) | (with_reducible exact HX.out) | (with_reducible refine Ext.trans ?_ HX.out) | (with_reducible refine Ext.below ?_ (Nat.le_refl _) _) | omega | (simp; done) | (simp; omega))), ?_, ?_⟩ ?_
  · infer_instance
  · infer_instance
  rintro W1 ⟨HX, k0, k1⟩
  have o0 := k0.old
  have o1 := k1.old
  by_cases a1 : 70 < DL
  · go_wp2_with fail
    go_ret
    exact ⟨_, rfl, by exact ExtOf.of (by repeat' (first | (with_reducible exact Ext.refl _) | (with_reducible exact ExtOf.ext _) | (with_reducible refine Ext.trans ?_ (ExtOf.ext _)) | (with_reducible refine Ext.alloc ?_ _) | (with_reducible refine Ext.drew ?_) | (with_reducible refine Ext.setCell ?_ ?_ _) | (with_reducible refine Ext.setRow ?_ ?_ _) | (with_reducible exact HX.out) | (with_reducible refine Ext.trans ?_ HX.out) | (with_reducible refine Ext.below ?_ (Nat.le_refl _) _) | omega | (simp; done) | (simp; omega)))⟩
  rcases hs : shortB p with _ | _
  · go_wp2_with (first | ((with_reducible apply wl_store' lwPd); (· (first | exact wanted_none rfl | exact wanted_some rfl rfl rfl)); (· rfl); (· rfl); (· infer_instance); (· rfl); (· rfl); (· (simp [Value.oneCell'])); try simp only [setRow_alloc, setRow_new, setRow_new1, setRow_new2, setRow_new11, setRow_new111]) | ((with_reducible apply wl_loadB midSpan); (· (first | exact wanted_none rfl | exact wanted_some rfl rfl rfl)); (· rfl); (· infer_instance); (· rfl); (· rfl)) | ((with_reducible apply wl_loadB midPd); (· (first | exact wanted_none rfl | exact wanted_some rfl rfl rfl)); (· rfl); (· infer_instance); (· rfl); (· rfl)) | ((with_reducible apply wl_store' lwSpan); (· (first | exact wanted_none rfl | exact wanted_some rfl rfl rfl)); (· rfl); (· rfl); (· infer_instance); (· rfl); (· rfl); (· (simp [Value.oneCell'])); try simp only [setRow_alloc, setRow_new, setRow_new1, setRow_new2, setRow_new11, setRow_new111]) | ((with_reducible apply wl_load' lwSpan); (· (first | exact wanted_none rfl | exact wanted_some rfl rfl rfl)); (· rfl); (· infer_instance); (· rfl)) | (go_at_call 10; refine (short_any p _ _ _ _ inferInstance (SliceOf.ext HL.out (by repeat' (first | (with_reducible exact Ext.refl _) | (with_reducible exact ExtOf.ext _) | (with_reducible refine Ext.trans ?_ (ExtOf.ext _)) | (with_reducible refine Ext.alloc ?_ _) | (with_reducible refine Ext.drew ?_) | (with_reducible refine Ext.setCell ?_ ?_ _) | (with_reducible refine Ext.setRow ?_ ?_ _) | (with_reducible exact HX.out) | (with_reducible refine Ext.trans ?_ HX.out) | (with_reducible refine Ext.below ?_ (Nat.le_refl _) _) | omega | (simp; done) | (simp; omega)))) (SliceOf.ext HP.out (by repeat' (first | (with_reducible exact Ext.refl _) | (with_reducible exact ExtOf.ext _) | (with_reducible refine Ext.trans ?_ (ExtOf.ext _)) | (with_reducible refine Ext.alloc ?_ _) | (with_reducible refine Ext.drew ?_) | (with_reducible refine Ext.setCell ?_ ?_ _) | (with_reducible refine Ext.setRow ?_ ?_ _) | (with_reducible exact HX.out) | (with_reducible refine Ext.trans ?_ HX.out) | (with_reducible refine Ext.below ?_ (Nat.le_refl _) _) | omega | (simp; done) | (simp; omega))))).mono ?_; rintro e w' ⟨rfl, nb, rfl⟩))
    go_ret
    exact ⟨_, rfl, by exact ExtOf.of (by repeat' (first | (with_reducible exact Ext.refl _) | (with_reducible exact ExtOf.ext _) | (with_reducible refine Ext.trans ?_ (ExtOf.ext _)) | (with_reducible refine Ext.alloc ?_ _) | (with_reducible refine Ext.drew ?_) | (with_reducible refine Ext.setCell ?_ ?_ _) | (with_reducible refine Ext.setRow ?_ ?_ _) | (with_reducible exact HX.out) | (with_reducible refine Ext.trans ?_ HX.out) | (with_reducible refine Ext.below ?_ (Nat.le_refl _) _) | omega | (simp; done) | (simp; omega)))⟩
  go_upto_region 4 with (first | ((with_reducible apply wl_store' lwPd); (· (first | exact wanted_none rfl | exact wanted_some rfl rfl rfl)); (· rfl); (· rfl); (· infer_instance); (· rfl); (· rfl); (· (simp [Value.oneCell'])); try simp only [setRow_alloc, setRow_new, setRow_new1, setRow_new2, setRow_new11, setRow_new111]) | ((with_reducible apply wl_loadB midSpan); (· (first | exact wanted_none rfl | exact wanted_some rfl rfl rfl)); (· rfl); (· infer_instance); (· rfl); (· rfl)) | ((with_reducible apply wl_loadB midPd); (· (first | exact wanted_none rfl | exact wanted_some rfl rfl rfl)); (· rfl); (· infer_instance); (· rfl); (· rfl)) | ((with_reducible apply wl_store' lwSpan); (· (first | exact wanted_none rfl | exact wanted_some rfl rfl rfl)); (· rfl); (· rfl); (· infer_instance); (· rfl); (· rfl); (· (simp [Value.oneCell'])); try simp only [setRow_alloc, setRow_new, setRow_new1, setRow_new2, setRow_new11, setRow_new111]) | ((with_reducible apply wl_load' lwSpan); (· (first | exact wanted_none rfl | exact wanted_some rfl rfl rfl)); (· rfl); (· infer_instance); (· rfl)) | (go_at_call 10; refine (short_any p _ _ _ _ inferInstance (SliceOf.ext HL.out (by repeat' (first | (with_reducible exact Ext.refl _) | (with_reducible exact ExtOf.ext _) | (with_reducible refine Ext.trans ?_ (ExtOf.ext _)) | (with_reducible refine Ext.alloc ?_ _) | (with_reducible refine Ext.drew ?_) | (with_reducible refine Ext.setCell ?_ ?_ _) | (with_reducible refine Ext.setRow ?_ ?_ _) | (with_reducible exact HX.out) | (with_reducible refine Ext.trans ?_ HX.out) | (with_reducible refine Ext.below ?_ (Nat.le_refl _) _) | omega | (simp; done) | (simp; omega)))) (SliceOf.ext HP.out (by repeat' (first | (with_reducible exact Ext.refl _) | (with_reducible exact ExtOf.ext _) | (with_reducible refine Ext.trans ?_ (ExtOf.ext _)) | (with_reducible refine Ext.alloc ?_ _) | (with_reducible refine Ext.drew ?_) | (with_reducible refine Ext.setCell ?_ ?_ _) | (with_reducible refine Ext.setRow ?_ ?_ _) | (with_reducible exact HX.out) | (with_reducible refine Ext.trans ?_ HX.out) | (with_reducible refine Ext.below ?_ (Nat.le_refl _) _) | omega | (simp; done) | (simp; omega))))).mono ?_; rintro e w' ⟨rfl, nb, rfl⟩))
  refine nameW (R := fun W => Code.wp _ _ _ _ W) (fun W => Hid (Ext w W) ∧ Old w.heap.size W ∧ W.cell? ⟨w.heap.size, 25, none⟩ = some (.int .i64 step) ∧ Block W (w.heap.size + 1) #[.int .i64 x.b.za, .int .i64 x.b.zb]) ⟨Lib.hid (by repeat' (first | (with_reducible exact Ext.refl _) | (with_reducible exact ExtOf.ext _) | (with_reducible refine Ext.trans ?_ (ExtOf.ext _)) | (with_reducible refine Ext.alloc ?_ _) | (with_reducible refine Ext.drew ?_) | (with_reducible refine Ext.setCell ?_ ?_ _) | (with_reducible refine Ext.setRow ?_ ?_ _) | (with_reducible exact HX.out) | (with_reducible refine Ext.trans ?_ HX.out) | (with_reducible refine Ext.below ?_ (Nat.le_refl _) _) | omega | (simp; done) | (simp; omega))), ?_, ?_, ?_⟩ ?_
  · exact (inferInstance : Block _ w.heap.size #[.string x.id, .string x.lg, .string x.sp, .int .i64 x.pr, .int .i64 x.b.xa, .int .i64 x.b.xb, .int .i64 x.b.ya, .int .i64 x.b.yb, .int .i64 x.b.za, .int .i64 x.b.zb, .int .i64 x.vol, .slice q DL cap, .int .i64 x.wa, .int .i64 x.su, .int .i64 x.co, .int .i64 x.st, .bool x.dr, .int .i64 x.gr, .string p.nm, .int .i64 p.th, .int .i64 p.wi, .int .i64 p.al, .int .i64 p.wa, .slice lq p.ls.length lcap, .slice pq p.ps.length pcap, .int .i64 step, .int .i64 kerf, .int .i64 fine]).old
  · rw [Block.cell (h := (inferInstance : Block _ w.heap.size #[.string x.id, .string x.lg, .string x.sp, .int .i64 x.pr, .int .i64 x.b.xa, .int .i64 x.b.xb, .int .i64 x.b.ya, .int .i64 x.b.yb, .int .i64 x.b.za, .int .i64 x.b.zb, .int .i64 x.vol, .slice q DL cap, .int .i64 x.wa, .int .i64 x.su, .int .i64 x.co, .int .i64 x.st, .bool x.dr, .int .i64 x.gr, .string p.nm, .int .i64 p.th, .int .i64 p.wi, .int .i64 p.al, .int .i64 p.wa, .slice lq p.ls.length lcap, .slice pq p.ps.length pcap, .int .i64 step, .int .i64 kerf, .int .i64 fine]))]; rfl
  · infer_instance
  clear k0 k1 o0 o1 HX
  rintro W2 ⟨HX, o0, k0, k1⟩
  have o1 := k1.old
  clear a1 hs HL HP hd1 hd2 hd3 hl1 hl2 hl3 hp1 hp2 hp3
  by_cases a2 : step < 1
  · go_wp2_with fail
    go_ret
    exact ⟨_, rfl, by exact ExtOf.of (by repeat' (first | (with_reducible exact Ext.refl _) | (with_reducible exact ExtOf.ext _) | (with_reducible refine Ext.trans ?_ (ExtOf.ext _)) | (with_reducible refine Ext.alloc ?_ _) | (with_reducible refine Ext.drew ?_) | (with_reducible refine Ext.setCell ?_ ?_ _) | (with_reducible refine Ext.setRow ?_ ?_ _) | (with_reducible exact HX.out) | (with_reducible refine Ext.trans ?_ HX.out) | (with_reducible refine Ext.below ?_ (Nat.le_refl _) _) | omega | (simp; done) | (simp; omega)))⟩
  by_cases a3 : x.b.za < 0
  · go_wp2_with fail
    go_ret
    exact ⟨_, rfl, by exact ExtOf.of (by repeat' (first | (with_reducible exact Ext.refl _) | (with_reducible exact ExtOf.ext _) | (with_reducible refine Ext.trans ?_ (ExtOf.ext _)) | (with_reducible refine Ext.alloc ?_ _) | (with_reducible refine Ext.drew ?_) | (with_reducible refine Ext.setCell ?_ ?_ _) | (with_reducible refine Ext.setRow ?_ ?_ _) | (with_reducible exact HX.out) | (with_reducible refine Ext.trans ?_ HX.out) | (with_reducible refine Ext.below ?_ (Nat.le_refl _) _) | omega | (simp; done) | (simp; omega)))⟩
  by_cases a4 : 20000 < x.b.za
  · go_wp2_with fail
    go_ret
    exact ⟨_, rfl, by exact ExtOf.of (by repeat' (first | (with_reducible exact Ext.refl _) | (with_reducible exact ExtOf.ext _) | (with_reducible refine Ext.trans ?_ (ExtOf.ext _)) | (with_reducible refine Ext.alloc ?_ _) | (with_reducible refine Ext.drew ?_) | (with_reducible refine Ext.setCell ?_ ?_ _) | (with_reducible refine Ext.setRow ?_ ?_ _) | (with_reducible exact HX.out) | (with_reducible refine Ext.trans ?_ HX.out) | (with_reducible refine Ext.below ?_ (Nat.le_refl _) _) | omega | (simp; done) | (simp; omega)))⟩
  by_cases a5 : x.b.zb < 0
  · go_wp2_with fail
    go_ret
    exact ⟨_, rfl, by exact ExtOf.of (by repeat' (first | (with_reducible exact Ext.refl _) | (with_reducible exact ExtOf.ext _) | (with_reducible refine Ext.trans ?_ (ExtOf.ext _)) | (with_reducible refine Ext.alloc ?_ _) | (with_reducible refine Ext.drew ?_) | (with_reducible refine Ext.setCell ?_ ?_ _) | (with_reducible refine Ext.setRow ?_ ?_ _) | (with_reducible exact HX.out) | (with_reducible refine Ext.trans ?_ HX.out) | (with_reducible refine Ext.below ?_ (Nat.le_refl _) _) | omega | (simp; done) | (simp; omega)))⟩
  by_cases a6 : 20000 < x.b.zb
  · go_wp2_with fail
    go_ret
    exact ⟨_, rfl, by exact ExtOf.of (by repeat' (first | (with_reducible exact Ext.refl _) | (with_reducible exact ExtOf.ext _) | (with_reducible refine Ext.trans ?_ (ExtOf.ext _)) | (with_reducible refine Ext.alloc ?_ _) | (with_reducible refine Ext.drew ?_) | (with_reducible refine Ext.setCell ?_ ?_ _) | (with_reducible refine Ext.setRow ?_ ?_ _) | (with_reducible exact HX.out) | (with_reducible refine Ext.trans ?_ HX.out) | (with_reducible refine Ext.below ?_ (Nat.le_refl _) _) | omega | (simp; done) | (simp; omega)))⟩
  go_wp2_with fail
  go_ret
  exact ⟨_, rfl, by exact ExtOf.of (by repeat' (first | (with_reducible exact Ext.refl _) | (with_reducible exact ExtOf.ext _) | (with_reducible refine Ext.trans ?_ (ExtOf.ext _)) | (with_reducible refine Ext.alloc ?_ _) | (with_reducible refine Ext.drew ?_) | (with_reducible refine Ext.setCell ?_ ?_ _) | (with_reducible refine Ext.setRow ?_ ?_ _) | (with_reducible exact HX.out) | (with_reducible refine Ext.trans ?_ HX.out) | (with_reducible refine Ext.below ?_ (Nat.le_refl _) _) | omega | (simp; done) | (simp; omega)))⟩
end Go.Proofs.YtdalbfanfbeckaaGreatDoor
