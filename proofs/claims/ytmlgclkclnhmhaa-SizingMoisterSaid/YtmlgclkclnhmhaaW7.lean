/-
  The examples of the chapter (sample, awake).
-/
import Derived.Test.YtmlgclkclnhmhaaW6
namespace Go.Proofs.Ytmlgclkclnhmhaa
open Go.RowKit

attribute [local go_sem] ExtOf.cell ExtOf.frozen Block.cell Block.frozen

set_option maxRecDepth 20000 in
set_option maxHeartbeats 1600000 in
theorem sample_any (w : World) :
    Calls Try.prog 30 #[] w fun e w' => e = .returned (.tuple #[.agg #[.string ⟨#[]⟩, .int .i64 0, .int .i64 0, .int .i64 0, .int .i64 0, .int .i64 0, .int .i64 0, .int .i64 0, .int .i64 0, .int .i64 0, .int .i64 0, .int .i64 0, .int .i64 65], .agg #[.string ⟨#[112]⟩, .int .i64 40, .int .i64 100, .int .i64 0, .int .i64 0, .slice none 0 0, .slice none 0 0], .agg #[.string ⟨#[]⟩, .string ⟨#[]⟩, .string ⟨#[]⟩, .int .i64 0, .int .i64 0, .int .i64 105, .int .i64 0, .int .i64 42, .int .i64 0, .int .i64 2000, .int .i64 0, .slice none 0 0, .int .i64 0, .int .i64 1200, .int .i64 1200, .int .i64 0, .bool false, .int .i64 0]]) ∧ ∃ n : ExtOf w, w' = n.val := by
  go_enter Try.func30, Try.ntmps30
  go_wp2_with (first | ((with_reducible apply wl_store' lwB); (· (first | exact wanted_none rfl | exact wanted_some rfl rfl rfl)); (· rfl); (· rfl); (· infer_instance); (· rfl); (· rfl); (· (simp [Value.oneCell'])); simp only [setRow_alloc, setRow_new, setRow_new1, setRow_new2, setRow_new11, setRow_new111]))
  refine wp_fresh4 (w0 := w) w.heap.size (w.heap.size + 1) (w.heap.size + 1 + 1) (w.heap.size + 1 + 1 + 1) inferInstance inferInstance inferInstance inferInstance (by repeat (first | exact Ext.refl _ | refine Ext.alloc ?_ _)) ?_
  intro W h0 h1 h2 h3 HX
  refine region_held (S := fun w' => Block w' (w.heap.size + 1 + 1 + 1) #[.string ⟨#[]⟩, .string ⟨#[]⟩, .string ⟨#[]⟩, .int .i64 0, .int .i64 0, .int .i64 105, .int .i64 0, .int .i64 42, .int .i64 0, .int .i64 2000, .int .i64 0, .slice none 0 0, .int .i64 0, .int .i64 1200, .int .i64 1200, .int .i64 0, .bool false, .int .i64 0]) (by kernel_rfl) ?_
  refine wpAnyH_take (i := 0) (v := .agg #[.string ⟨#[]⟩, .int .i64 0, .int .i64 0, .int .i64 0, .int .i64 0, .int .i64 0, .int .i64 0, .int .i64 0, .int .i64 0, .int .i64 0, .int .i64 0, .int .i64 0, .int .i64 65]) rfl (by kernel_rfl) (by kernel_rfl) (by kernel_rfl) (fun _ _ _ h => h) (.inl ⟨rfl, fun w' _ => by simp [go_sem]⟩) inferInstance ?_
  refine wpAnyH_take (i := 1) (v := .agg #[.string ⟨#[112]⟩, .int .i64 40, .int .i64 100, .int .i64 0, .int .i64 0, .slice none 0 0, .slice none 0 0]) rfl (by kernel_rfl) (by kernel_rfl) (by kernel_rfl) (fun _ _ _ h => h) (.inl ⟨rfl, fun w' _ => by simp [go_sem]⟩) inferInstance ?_
  refine wpAnyH_take (i := 2) (v := .agg #[.string ⟨#[]⟩, .string ⟨#[]⟩, .string ⟨#[]⟩, .int .i64 0, .int .i64 0, .int .i64 105, .int .i64 0, .int .i64 42, .int .i64 0, .int .i64 2000, .int .i64 0, .slice none 0 0, .int .i64 0, .int .i64 1200, .int .i64 1200, .int .i64 0, .bool false, .int .i64 0]) rfl (by kernel_rfl) (by kernel_rfl) (by kernel_rfl) (fun _ _ _ h => h) (.inl ⟨rfl, fun w' hb => run_load_op lwB rfl rfl hb rfl⟩) inferInstance ?_
  refine ah_store (i := 3) (b := w.heap.size) (cs := #[.string ⟨#[]⟩, .int .i64 0, .int .i64 0, .int .i64 0, .int .i64 0, .int .i64 0, .int .i64 0, .int .i64 0, .int .i64 0, .int .i64 0, .int .i64 0, .int .i64 0, .int .i64 65]) lwS rfl (by kernel_rfl) rfl rfl inferInstance rfl rfl (by simp [Value.oneCell']) inferInstance ?_
  refine ah_store (i := 4) (b := w.heap.size + 1) (cs := #[.string ⟨#[112]⟩, .int .i64 40, .int .i64 100, .int .i64 0, .int .i64 0, .slice none 0 0, .slice none 0 0]) lwP rfl (by kernel_rfl) rfl rfl inferInstance rfl rfl (by simp [Value.oneCell']) inferInstance ?_
  refine ah_store (i := 5) (b := w.heap.size + 1 + 1) (cs := #[.string ⟨#[]⟩, .string ⟨#[]⟩, .string ⟨#[]⟩, .int .i64 0, .int .i64 0, .int .i64 105, .int .i64 0, .int .i64 42, .int .i64 0, .int .i64 2000, .int .i64 0, .slice none 0 0, .int .i64 0, .int .i64 1200, .int .i64 1200, .int .i64 0, .bool false, .int .i64 0]) lwB rfl (by kernel_rfl) rfl rfl inferInstance rfl rfl (by simp [Value.oneCell']) inferInstance ?_
  refine wpAnyH_done (by kernel_rfl) ?_ _
  go_wp2
  refine bodyPost_ret (results_cell3 (b0 := w.heap.size) (b1 := w.heap.size + 1) (b2 := w.heap.size + 1 + 1) rfl lwS lwP lwB rfl rfl rfl rfl rfl rfl) rfl ⟨rfl, ?_⟩
  exact ExtOf.of (by repeat' (first | (with_reducible exact HX.out) | (with_reducible refine Ext.drew ?_) | (with_reducible refine Ext.setRow ?_ ?_ _) | (simp; done) | (simp; omega) | omega))

end Go.Proofs.Ytmlgclkclnhmhaa
