/-
  Chapter 26: parts of a board, and their gain.
-/
import Derived.Test.YtdalbfanfbeckaaGreatDoorK7
set_option linter.unusedVariables false
set_option linter.unusedSimpArgs false
namespace Go.Proofs.YtdalbfanfbeckaaGreatDoor
open Go.RowKit TrimM

attribute [local go_sem] ExtOf.cell ExtOf.frozen ExtS.cell ExtS.frozen Block.cell Block.frozen ExtB.cell ExtB.frozen alloc_cell alloc_frozen
/-- the box of a board -/
structure BOk (b : Bx) : Prop where
  x : b.xa < b.xb ∧ -600 ≤ b.xa ∧ b.xb ≤ 600
  y : b.ya < b.yb ∧ -600 ≤ b.ya ∧ b.yb ≤ 600
  z : b.za < b.zb ∧ 0 ≤ b.za ∧ b.zb ≤ 20000
theorem BOk.of {b : Bx} {ds : List Df} {p : Pdt} {step kerf fine : Int} (h : ChkOk b ds p step kerf fine) : BOk b := ⟨h.x, h.y, h.z⟩
set_option maxHeartbeats 800000 in
theorem piece_any (x : Bd) (dv : Value) (u v : Int) (w : World) (hb : BOk x.b) : Calls Tryz.prog 19 #[.agg (bdC x dv), .agg #[.int .i64 u, .int .i64 v]] w fun e w' => e = .returned (.agg #[.int .i64 (x.b.part u v).xa, .int .i64 (x.b.part u v).xb, .int .i64 (x.b.part u v).ya, .int .i64 (x.b.part u v).yb, .int .i64 (x.b.part u v).za, .int .i64 (x.b.part u v).zb]) ∧ ∃ n : ExtOf w, w' = n.val := by
  obtain ⟨⟨hx1, hx2, hx3⟩, ⟨hy1, hy2, hy3⟩, ⟨hz1, hz2, hz3⟩⟩ := hb
  obtain ⟨id, lg, sp, pr, ⟨xa, xb, ya, yb, za, zb⟩, vol, wa, su, co, st, dr, gr⟩ := x
  simp only at *
  unfold bdC
  go_enter Tryz.func19, Tryz.ntmps19
  go_wp2_with (first | ((with_reducible apply wl_load' lwBd); (· (first | exact wanted_none rfl | exact wanted_some rfl rfl rfl)); (· rfl); (· infer_instance); (· rfl)) | ((with_reducible apply wl_load' lwBox); (· (first | exact wanted_none rfl | exact wanted_some rfl rfl rfl)); (· rfl); (· infer_instance); (· rfl)) | ((with_reducible apply wl_load' lwSpan); (· (first | exact wanted_none rfl | exact wanted_some rfl rfl rfl)); (· rfl); (· infer_instance); (· rfl)) | ((with_reducible apply wl_loadB midSpan); (· (first | exact wanted_none rfl | exact wanted_some rfl rfl rfl)); (· rfl); (· infer_instance); (· rfl); (· rfl)) | ((with_reducible apply wl_loadB midBox); (· (first | exact wanted_none rfl | exact wanted_some rfl rfl rfl)); (· rfl); (· infer_instance); (· rfl); (· rfl)) | ((with_reducible apply wl_store' lwBox); (· (first | exact wanted_none rfl | exact wanted_some rfl rfl rfl)); (· rfl); (· rfl); (· infer_instance); (· rfl); (· rfl); (· (simp [Value.oneCell'])); try simp only [setRow_alloc, setRow_new, setRow_new1, setRow_new2, setRow_new11, setRow_new111]) | ((with_reducible apply wl_store' lwSpan); (· (first | exact wanted_none rfl | exact wanted_some rfl rfl rfl)); (· rfl); (· rfl); (· infer_instance); (· rfl); (· rfl); (· (simp [Value.oneCell'])); try simp only [setRow_alloc, setRow_new, setRow_new1, setRow_new2, setRow_new11, setRow_new111]) | ((with_reducible apply wl_store' lwBd); (· (first | exact wanted_none rfl | exact wanted_some rfl rfl rfl)); (· rfl); (· rfl); (· infer_instance); (· rfl); (· rfl); (· (simp [Value.oneCell'])); try simp only [setRow_alloc, setRow_new, setRow_new1, setRow_new2, setRow_new11, setRow_new111]))
  refine bodyPost_ret (results_c1 (b0 := w.heap.size + 2) rfl lwBox rfl inferInstance rfl) rfl ⟨rfl, by exact ExtOf.of (by repeat' (first | (with_reducible exact Ext.refl _) | (with_reducible exact ExtOf.ext _) | (with_reducible refine Ext.trans ?_ (ExtOf.ext _)) | (with_reducible refine Ext.alloc ?_ _) | (with_reducible refine Ext.drew ?_) | (with_reducible refine Ext.setCell ?_ ?_ _) | (with_reducible refine Ext.setRow ?_ ?_ _) | (with_reducible exact HX.out) | (with_reducible refine Ext.trans ?_ HX.out) | (with_reducible refine Ext.below ?_ (Nat.le_refl _) _) | omega | (simp; done) | (simp; omega)))⟩
set_option maxHeartbeats 800000 in
theorem rpart_any (x : Bd) (dv : Value) (u v : Int) (w : World) (hb : BOk x.b) : Calls Tryz.prog 24 #[.agg (bdC x dv), .int .i64 u, .int .i64 v] w fun e w' => e = .returned (.agg #[.int .i64 (x.b.part u v).xa, .int .i64 (x.b.part u v).xb, .int .i64 (x.b.part u v).ya, .int .i64 (x.b.part u v).yb, .int .i64 (x.b.part u v).za, .int .i64 (x.b.part u v).zb]) ∧ ∃ n : ExtOf w, w' = n.val := by
  obtain ⟨⟨hx1, hx2, hx3⟩, ⟨hy1, hy2, hy3⟩, ⟨hz1, hz2, hz3⟩⟩ := hb
  obtain ⟨id, lg, sp, pr, ⟨xa, xb, ya, yb, za, zb⟩, vol, wa, su, co, st, dr, gr⟩ := x
  simp only at *
  unfold bdC
  go_enter Tryz.func24, Tryz.ntmps24
  go_wp2_with (first | ((with_reducible apply wl_load' lwBd); (· (first | exact wanted_none rfl | exact wanted_some rfl rfl rfl)); (· rfl); (· infer_instance); (· rfl)) | ((with_reducible apply wl_load' lwBox); (· (first | exact wanted_none rfl | exact wanted_some rfl rfl rfl)); (· rfl); (· infer_instance); (· rfl)) | ((with_reducible apply wl_load' lwSpan); (· (first | exact wanted_none rfl | exact wanted_some rfl rfl rfl)); (· rfl); (· infer_instance); (· rfl)) | ((with_reducible apply wl_loadB midSpan); (· (first | exact wanted_none rfl | exact wanted_some rfl rfl rfl)); (· rfl); (· infer_instance); (· rfl); (· rfl)) | ((with_reducible apply wl_loadB midBox); (· (first | exact wanted_none rfl | exact wanted_some rfl rfl rfl)); (· rfl); (· infer_instance); (· rfl); (· rfl)) | ((with_reducible apply wl_store' lwBox); (· (first | exact wanted_none rfl | exact wanted_some rfl rfl rfl)); (· rfl); (· rfl); (· infer_instance); (· rfl); (· rfl); (· (simp [Value.oneCell'])); try simp only [setRow_alloc, setRow_new, setRow_new1, setRow_new2, setRow_new11, setRow_new111]) | ((with_reducible apply wl_store' lwSpan); (· (first | exact wanted_none rfl | exact wanted_some rfl rfl rfl)); (· rfl); (· rfl); (· infer_instance); (· rfl); (· rfl); (· (simp [Value.oneCell'])); try simp only [setRow_alloc, setRow_new, setRow_new1, setRow_new2, setRow_new11, setRow_new111]) | ((with_reducible apply wl_store' lwBd); (· (first | exact wanted_none rfl | exact wanted_some rfl rfl rfl)); (· rfl); (· rfl); (· infer_instance); (· rfl); (· rfl); (· (simp [Value.oneCell'])); try simp only [setRow_alloc, setRow_new, setRow_new1, setRow_new2, setRow_new11, setRow_new111]))
  refine bodyPost_ret (results_c1 (b0 := w.heap.size + 1) rfl lwBox rfl inferInstance rfl) rfl ⟨rfl, by exact ExtOf.of (by repeat' (first | (with_reducible exact Ext.refl _) | (with_reducible exact ExtOf.ext _) | (with_reducible refine Ext.trans ?_ (ExtOf.ext _)) | (with_reducible refine Ext.alloc ?_ _) | (with_reducible refine Ext.drew ?_) | (with_reducible refine Ext.setCell ?_ ?_ _) | (with_reducible refine Ext.setRow ?_ ?_ _) | (with_reducible exact HX.out) | (with_reducible refine Ext.trans ?_ HX.out) | (with_reducible refine Ext.below ?_ (Nat.le_refl _) _) | omega | (simp; done) | (simp; omega)))⟩
set_option maxHeartbeats 800000 in
theorem inLog_any (x : Bd) (dv : Value) (u v : Int) (w : World) (hb : BOk x.b) (hu : 0 ≤ u ∧ u ≤ 100000) (hv : 0 ≤ v ∧ v ≤ 100000) : Calls Tryz.prog 17 #[.agg (bdC x dv), .agg #[.int .i64 u, .int .i64 v]] w fun e w' => e = .returned (.agg #[.int .i64 (x.b.slab u v).xa, .int .i64 (x.b.slab u v).xb, .int .i64 (x.b.slab u v).ya, .int .i64 (x.b.slab u v).yb, .int .i64 (x.b.slab u v).za, .int .i64 (x.b.slab u v).zb]) ∧ ∃ n : ExtOf w, w' = n.val := by
  obtain ⟨⟨hx1, hx2, hx3⟩, ⟨hy1, hy2, hy3⟩, ⟨hz1, hz2, hz3⟩⟩ := hb
  obtain ⟨id, lg, sp, pr, ⟨xa, xb, ya, yb, za, zb⟩, vol, wa, su, co, st, dr, gr⟩ := x
  simp only at *
  unfold bdC
  go_enter Tryz.func17, Tryz.ntmps17
  go_wp2_with (first | ((with_reducible apply wl_load' lwBd); (· (first | exact wanted_none rfl | exact wanted_some rfl rfl rfl)); (· rfl); (· infer_instance); (· rfl)) | ((with_reducible apply wl_load' lwBox); (· (first | exact wanted_none rfl | exact wanted_some rfl rfl rfl)); (· rfl); (· infer_instance); (· rfl)) | ((with_reducible apply wl_load' lwSpan); (· (first | exact wanted_none rfl | exact wanted_some rfl rfl rfl)); (· rfl); (· infer_instance); (· rfl)) | ((with_reducible apply wl_loadB midSpan); (· (first | exact wanted_none rfl | exact wanted_some rfl rfl rfl)); (· rfl); (· infer_instance); (· rfl); (· rfl)) | ((with_reducible apply wl_loadB midBox); (· (first | exact wanted_none rfl | exact wanted_some rfl rfl rfl)); (· rfl); (· infer_instance); (· rfl); (· rfl)) | ((with_reducible apply wl_store' lwBox); (· (first | exact wanted_none rfl | exact wanted_some rfl rfl rfl)); (· rfl); (· rfl); (· infer_instance); (· rfl); (· rfl); (· (simp [Value.oneCell'])); try simp only [setRow_alloc, setRow_new, setRow_new1, setRow_new2, setRow_new11, setRow_new111]) | ((with_reducible apply wl_store' lwSpan); (· (first | exact wanted_none rfl | exact wanted_some rfl rfl rfl)); (· rfl); (· rfl); (· infer_instance); (· rfl); (· rfl); (· (simp [Value.oneCell'])); try simp only [setRow_alloc, setRow_new, setRow_new1, setRow_new2, setRow_new11, setRow_new111]) | ((with_reducible apply wl_store' lwBd); (· (first | exact wanted_none rfl | exact wanted_some rfl rfl rfl)); (· rfl); (· rfl); (· infer_instance); (· rfl); (· rfl); (· (simp [Value.oneCell'])); try simp only [setRow_alloc, setRow_new, setRow_new1, setRow_new2, setRow_new11, setRow_new111]))
  refine bodyPost_ret (results_c1 (b0 := w.heap.size + 2) rfl lwBox rfl inferInstance rfl) rfl ⟨rfl, by exact ExtOf.of (by repeat' (first | (with_reducible exact Ext.refl _) | (with_reducible exact ExtOf.ext _) | (with_reducible refine Ext.trans ?_ (ExtOf.ext _)) | (with_reducible refine Ext.alloc ?_ _) | (with_reducible refine Ext.drew ?_) | (with_reducible refine Ext.setCell ?_ ?_ _) | (with_reducible refine Ext.setRow ?_ ?_ _) | (with_reducible exact HX.out) | (with_reducible refine Ext.trans ?_ HX.out) | (with_reducible refine Ext.below ?_ (Nat.le_refl _) _) | omega | (simp; done) | (simp; omega)))⟩
theorem gain_cons (x : Bx) (fine : Int) (d : Df) (l : List Df) (p : Int) : TrimM.gain x fine (d :: l) p = if touches d x then if d.k = 3 then -1 else TrimM.gain x fine l (p - fine) else TrimM.gain x fine l p := rfl
theorem gain_drop {x : Bx} {fine : Int} {ds : List Df} {k : Nat} {d : Df} (h : k < ds.length) (hd : d = ds[k]) (p : Int) : TrimM.gain x fine (ds.drop k) p = if touches d x then if d.k = 3 then -1 else TrimM.gain x fine (ds.drop (k + 1)) (p - fine) else TrimM.gain x fine (ds.drop (k + 1)) p := by
  rw [List.drop_eq_getElem_cons h, gain_cons, hd]
theorem gain_end {x : Bx} {fine : Int} {ds : List Df} {k : Nat} (h : ds.length ≤ k) (p : Int) : TrimM.gain x fine (ds.drop k) p = if p < 0 then 0 else p := by
  rw [List.drop_of_length_le h]
  show max p 0 = _
  split <;> omega
set_option maxHeartbeats 1600000 in
set_option maxRecDepth 20000 in
theorem gain_any (x : Bd) (dv : Value) (ds : List Df) (u v price fine : Int) (w : World) (hb : BOk x.b) (hd : DfS w dv ds) (hl : ds.length ≤ 64) (hp : 0 ≤ price ∧ price ≤ 1000000) (hf : 0 ≤ fine ∧ fine ≤ 1000000) :
    Calls Tryz.prog 30 #[.agg (bdC x dv), .agg #[.int .i64 u, .int .i64 v], .int .i64 price, .int .i64 fine] w fun e w' => e = .returned (.int .i64 (TrimM.gain (x.b.part u v) fine ds price)) ∧ ∃ n : ExtOf w, w' = n.val := by
  obtain ⟨q, cap, rfl, hl1, hl2, hl3⟩ := SliceOf.form hd
  have HL := Lib.hid hd
  have HB := Lib.hid hb
  clear hd hb
  unfold maxLen at hl2
  obtain ⟨pb, hpb⟩ : ∃ pb, pb = x.b.part u v := ⟨_, rfl⟩
  have HPB := Lib.hid hpb
  rw [← hpb]
  clear hpb
  unfold bdC
  go_enter Tryz.func30, Tryz.ntmps30
  go_wp2_with (first | ((with_reducible apply wl_load' lwBd); (· (first | exact wanted_none rfl | exact wanted_some rfl rfl rfl)); (· rfl); (· infer_instance); (· rfl)) | ((with_reducible apply wl_load' lwSpan); (· (first | exact wanted_none rfl | exact wanted_some rfl rfl rfl)); (· rfl); (· infer_instance); (· rfl)) | (go_at_call 19; refine (piece_any x _ u v _ HB.out).mono ?_; rintro e w' ⟨rfl, n, rfl⟩; rw [← HPB.out]) | ((with_reducible apply wl_store' lwBox); (· (first | exact wanted_none rfl | exact wanted_some rfl rfl rfl)); (· rfl); (· rfl); (· infer_instance); (· rfl); (· rfl); (· (simp [Value.oneCell'])); try simp only [setRow_alloc, setRow_new, setRow_new1, setRow_new2, setRow_new11, setRow_new111]))
  obtain ⟨gb, hgb⟩ : ∃ g, g = n.val.heap.size := ⟨_, rfl⟩
  have hB : Block (n.val.alloc (.cells #[.int .i64 pb.xa, .int .i64 pb.xb, .int .i64 pb.ya, .int .i64 pb.yb, .int .i64 pb.za, .int .i64 pb.zb] 25)) gb #[.int .i64 pb.xa, .int .i64 pb.xb, .int .i64 pb.ya, .int .i64 pb.yb, .int .i64 pb.za, .int .i64 pb.zb] := by rw [hgb]; infer_instance
  have HX0 : Hid (Ext w (n.val.alloc (.cells #[.int .i64 pb.xa, .int .i64 pb.xb, .int .i64 pb.ya, .int .i64 pb.yb, .int .i64 pb.za, .int .i64 pb.zb] 25))) := Lib.hid (by repeat' (first | (with_reducible exact Ext.refl _) | (with_reducible exact ExtOf.ext _) | (with_reducible refine Ext.trans ?_ (ExtOf.ext _)) | (with_reducible refine Ext.alloc ?_ _) | (with_reducible refine Ext.drew ?_) | (with_reducible refine Ext.setCell ?_ ?_ _) | (with_reducible refine Ext.setRow ?_ ?_ _) | (with_reducible exact HX.out) | (with_reducible refine Ext.trans ?_ HX.out) | (with_reducible refine Ext.below ?_ (Nat.le_refl _) _) | omega | (simp; done) | (simp; omega)))
  rw [← hgb]
  generalize n.val.alloc (.cells #[.int .i64 pb.xa, .int .i64 pb.xb, .int .i64 pb.ya, .int .i64 pb.yb, .int .i64 pb.za, .int .i64 pb.zb] 25) = W1 at *
  clear hgb
  go_loopw [2, 18] (fun p i wr => ∃ (k : Nat) (pr : Int), k ≤ ds.length ∧ i = .int .i64 k ∧ p = .int .i64 pr ∧ Block wr gb #[.int .i64 pb.xa, .int .i64 pb.xb, .int .i64 pb.ya, .int .i64 pb.yb, .int .i64 pb.za, .int .i64 pb.zb] ∧ Ext w wr ∧ TrimM.gain pb fine ds price = TrimM.gain pb fine (ds.drop k) pr ∧ (-1000000 * (k : Int) ≤ pr ∧ pr ≤ 1000000)) (fun _ i _ => ds.length - (intOf i).toNat)
  case atStart => exact ⟨0, price, by omega, rfl, rfl, hB, HX0.out, rfl, by omega⟩
  case round =>
    clear hB HX0
    obtain ⟨k, pr, hk, rfl, rfl, hB, hx, hg, hb1, hb2⟩ := hrel
    have HX := Lib.hid hx
    have HG := Lib.hid hg
    have ob := hB.old
    clear hx hg
    by_cases hlt : k < ds.length
    · obtain ⟨bl, ol, hbl, r0⟩ := SliceOf.elemK (SliceOf.ext HL.out HX.out) hlt
      subst hbl
      obtain ⟨d, hd⟩ : ∃ d, d = ds[k] := ⟨_, rfl⟩
      rw [← hd] at r0
      have HS := Lib.hid (gain_drop (x := pb) (fine := fine) hlt hd pr)
      have c0 : wr.cell? ⟨bl, ol + k * 7, none⟩ = some (.int .i64 d.k) := r0 0 _ rfl
      have o1 : Old bl wr := Old.of_cell c0
      unfold encDf at r0
      clear hd
      rcases ht : touches d pb with _ | _
      · go_wp2_with (first | ((with_reducible apply wl_loadM midDf r0); (· rfl); (· (first | exact wanted_none rfl | exact wanted_some rfl rfl rfl)); (· rfl)) | ((with_reducible apply wl_load' lwBox); (· (first | exact wanted_none rfl | exact wanted_some rfl rfl rfl)); (· rfl); (· infer_instance); (· rfl)) | ((with_reducible apply wl_load' lwDf); (· (first | exact wanted_none rfl | exact wanted_some rfl rfl rfl)); (· rfl); (· infer_instance); (· rfl)) | ((with_reducible apply wl_store' lwDf); (· (first | exact wanted_none rfl | exact wanted_some rfl rfl rfl)); (· rfl); (· rfl); (· infer_instance); (· rfl); (· rfl); (· (simp [Value.oneCell'])); try simp only [setRow_alloc, setRow_new, setRow_new1, setRow_new2, setRow_new11, setRow_new111]) | (go_at_call 55; refine (touches_any d pb _).mono ?_; rintro e w' ⟨rfl, n, rfl⟩) | (go_at_call 48; refine (rTouches_any d pb _).mono ?_; rintro e w' ⟨rfl, n, rfl⟩))
        go_roundw
        case rel => exact ⟨k + 1, pr, by omega, by first | rfl | go_num, rfl, inferInstance, by repeat' (first | (with_reducible exact Ext.refl _) | (with_reducible exact ExtOf.ext _) | (with_reducible refine Ext.trans ?_ (ExtOf.ext _)) | (with_reducible refine Ext.alloc ?_ _) | (with_reducible refine Ext.drew ?_) | (with_reducible refine Ext.setCell ?_ ?_ _) | (with_reducible refine Ext.setRow ?_ ?_ _) | (with_reducible exact HX.out) | (with_reducible refine Ext.trans ?_ HX.out) | (with_reducible refine Ext.below ?_ (Nat.le_refl _) _) | omega | (simp; done) | (simp; omega)), by rw [HG.out, HS.out, ht]; rfl, by omega⟩
        case measure => simp [intOf]; omega
      · by_cases h3 : d.k = 3
        · have h4 : (d.k == 3) = true := by simp [h3]
          have HE : Hid (TrimM.gain pb fine ds price = -1) := Lib.hid (by rw [HG.out, HS.out, ht, if_pos rfl, if_pos h3])
          clear h3
          go_wp2_with (first | ((with_reducible apply wl_loadM midDf r0); (· rfl); (· (first | exact wanted_none rfl | exact wanted_some rfl rfl rfl)); (· rfl)) | ((with_reducible apply wl_load' lwBox); (· (first | exact wanted_none rfl | exact wanted_some rfl rfl rfl)); (· rfl); (· infer_instance); (· rfl)) | ((with_reducible apply wl_load' lwDf); (· (first | exact wanted_none rfl | exact wanted_some rfl rfl rfl)); (· rfl); (· infer_instance); (· rfl)) | ((with_reducible apply wl_store' lwDf); (· (first | exact wanted_none rfl | exact wanted_some rfl rfl rfl)); (· rfl); (· rfl); (· infer_instance); (· rfl); (· rfl); (· (simp [Value.oneCell'])); try simp only [setRow_alloc, setRow_new, setRow_new1, setRow_new2, setRow_new11, setRow_new111]) | (go_at_call 55; refine (touches_any d pb _).mono ?_; rintro e w' ⟨rfl, n, rfl⟩) | (go_at_call 48; refine (rTouches_any d pb _).mono ?_; rintro e w' ⟨rfl, n, rfl⟩))
          go_ret
          exact ⟨ret_int HE.out.symm, by exact ExtOf.of (by repeat' (first | (with_reducible exact Ext.refl _) | (with_reducible exact ExtOf.ext _) | (with_reducible refine Ext.trans ?_ (ExtOf.ext _)) | (with_reducible refine Ext.alloc ?_ _) | (with_reducible refine Ext.drew ?_) | (with_reducible refine Ext.setCell ?_ ?_ _) | (with_reducible refine Ext.setRow ?_ ?_ _) | (with_reducible exact HX.out) | (with_reducible refine Ext.trans ?_ HX.out) | (with_reducible refine Ext.below ?_ (Nat.le_refl _) _) | omega | (simp; done) | (simp; omega)))⟩
        · have h4 : (d.k == 3) = false := beq_eq_false_iff_ne.2 h3
          have HE : Hid (TrimM.gain pb fine (ds.drop k) pr = TrimM.gain pb fine (ds.drop (k + 1)) (pr - fine)) := Lib.hid (by rw [HS.out, ht, if_pos rfl, if_neg h3])
          clear h3
          go_wp2_with (first | ((with_reducible apply wl_loadM midDf r0); (· rfl); (· (first | exact wanted_none rfl | exact wanted_some rfl rfl rfl)); (· rfl)) | ((with_reducible apply wl_load' lwBox); (· (first | exact wanted_none rfl | exact wanted_some rfl rfl rfl)); (· rfl); (· infer_instance); (· rfl)) | ((with_reducible apply wl_load' lwDf); (· (first | exact wanted_none rfl | exact wanted_some rfl rfl rfl)); (· rfl); (· infer_instance); (· rfl)) | ((with_reducible apply wl_store' lwDf); (· (first | exact wanted_none rfl | exact wanted_some rfl rfl rfl)); (· rfl); (· rfl); (· infer_instance); (· rfl); (· rfl); (· (simp [Value.oneCell'])); try simp only [setRow_alloc, setRow_new, setRow_new1, setRow_new2, setRow_new11, setRow_new111]) | (go_at_call 55; refine (touches_any d pb _).mono ?_; rintro e w' ⟨rfl, n, rfl⟩) | (go_at_call 48; refine (rTouches_any d pb _).mono ?_; rintro e w' ⟨rfl, n, rfl⟩))
          go_roundw
          case rel => exact ⟨k + 1, pr - fine, by omega, by first | rfl | go_num, rfl, inferInstance, by repeat' (first | (with_reducible exact Ext.refl _) | (with_reducible exact ExtOf.ext _) | (with_reducible refine Ext.trans ?_ (ExtOf.ext _)) | (with_reducible refine Ext.alloc ?_ _) | (with_reducible refine Ext.drew ?_) | (with_reducible refine Ext.setCell ?_ ?_ _) | (with_reducible refine Ext.setRow ?_ ?_ _) | (with_reducible exact HX.out) | (with_reducible refine Ext.trans ?_ HX.out) | (with_reducible refine Ext.below ?_ (Nat.le_refl _) _) | omega | (simp; done) | (simp; omega)), by rw [HG.out, HE.out], by omega⟩
          case measure => simp [intOf]; omega
    · have HE : Hid (TrimM.gain pb fine ds price = if pr < 0 then 0 else pr) := Lib.hid (by rw [HG.out, gain_end (by omega)])
      go_wp2_with fail
      all_goals
        go_ret
        exact ⟨ret_int (by rw [HE.out]; split <;> omega), by exact ExtOf.of (by repeat' (first | (with_reducible exact Ext.refl _) | (with_reducible exact ExtOf.ext _) | (with_reducible refine Ext.trans ?_ (ExtOf.ext _)) | (with_reducible refine Ext.alloc ?_ _) | (with_reducible refine Ext.drew ?_) | (with_reducible refine Ext.setCell ?_ ?_ _) | (with_reducible refine Ext.setRow ?_ ?_ _) | (with_reducible exact HX.out) | (with_reducible refine Ext.trans ?_ HX.out) | (with_reducible refine Ext.below ?_ (Nat.le_refl _) _) | omega | (simp; done) | (simp; omega)))⟩
set_option maxHeartbeats 1600000 in
set_option maxRecDepth 20000 in
theorem rgain_any (x : Bd) (dv : Value) (ds : List Df) (pb : Bx) (price fine : Int) (w : World) (hd : DfS w dv ds) (hl : ds.length ≤ 64) (hp : 0 ≤ price ∧ price ≤ 1000000) (hf : 0 ≤ fine ∧ fine ≤ 1000000) :
    Calls Tryz.prog 43 #[.agg (bdC x dv), .agg #[.int .i64 pb.xa, .int .i64 pb.xb, .int .i64 pb.ya, .int .i64 pb.yb, .int .i64 pb.za, .int .i64 pb.zb], .int .i64 price, .int .i64 fine] w fun e w' => e = .returned (.int .i64 (TrimM.gain pb fine ds price)) ∧ ∃ n : ExtOf w, w' = n.val := by
  obtain ⟨q, cap, rfl, hl1, hl2, hl3⟩ := SliceOf.form hd
  have HL := Lib.hid hd
  clear hd
  unfold maxLen at hl2
  unfold bdC
  go_enter Tryz.func43, Tryz.ntmps43
  go_wp2_with fail
  have HX0 : Hid (Ext w ((w.alloc (.cells #[.string x.id, .string x.lg, .string x.sp, .int .i64 x.pr, .int .i64 x.b.xa, .int .i64 x.b.xb, .int .i64 x.b.ya, .int .i64 x.b.yb, .int .i64 x.b.za, .int .i64 x.b.zb, .int .i64 x.vol, .slice q ds.length cap, .int .i64 x.wa, .int .i64 x.su, .int .i64 x.co, .int .i64 x.st, .bool x.dr, .int .i64 x.gr] 30)).alloc (.cells #[.int .i64 pb.xa, .int .i64 pb.xb, .int .i64 pb.ya, .int .i64 pb.yb, .int .i64 pb.za, .int .i64 pb.zb] 25))) := Lib.hid (by repeat' (first | (with_reducible exact Ext.refl _) | (with_reducible exact ExtOf.ext _) | (with_reducible refine Ext.trans ?_ (ExtOf.ext _)) | (with_reducible refine Ext.alloc ?_ _) | (with_reducible refine Ext.drew ?_) | (with_reducible refine Ext.setCell ?_ ?_ _) | (with_reducible refine Ext.setRow ?_ ?_ _) | (with_reducible exact HX.out) | (with_reducible refine Ext.trans ?_ HX.out) | (with_reducible refine Ext.below ?_ (Nat.le_refl _) _) | omega | (simp; done) | (simp; omega)))
  go_loopw [2, 9] (fun p i wr => ∃ (k : Nat) (pr : Int), k ≤ ds.length ∧ i = .int .i64 k ∧ p = .int .i64 pr ∧ Block wr w.heap.size #[.string x.id, .string x.lg, .string x.sp, .int .i64 x.pr, .int .i64 x.b.xa, .int .i64 x.b.xb, .int .i64 x.b.ya, .int .i64 x.b.yb, .int .i64 x.b.za, .int .i64 x.b.zb, .int .i64 x.vol, .slice q ds.length cap, .int .i64 x.wa, .int .i64 x.su, .int .i64 x.co, .int .i64 x.st, .bool x.dr, .int .i64 x.gr] ∧ Block wr (w.heap.size + 1) #[.int .i64 pb.xa, .int .i64 pb.xb, .int .i64 pb.ya, .int .i64 pb.yb, .int .i64 pb.za, .int .i64 pb.zb] ∧ Ext w wr ∧ TrimM.gain pb fine ds price = TrimM.gain pb fine (ds.drop k) pr ∧ (-1000000 * (k : Int) ≤ pr ∧ pr ≤ 1000000)) (fun _ i _ => ds.length - (intOf i).toNat)
  case atStart => exact ⟨0, price, by omega, rfl, rfl, inferInstance, inferInstance, HX0.out, rfl, by omega⟩
  case round =>
    clear HX0
    obtain ⟨k, pr, hk, rfl, rfl, hA, hB, hx, hg, hb1, hb2⟩ := hrel
    have HX := Lib.hid hx
    have HG := Lib.hid hg
    have ob := hB.old
    have oa := hA.old
    clear hx hg
    by_cases hlt : k < ds.length
    · obtain ⟨bl, ol, hbl, r0⟩ := SliceOf.elemK (SliceOf.ext HL.out HX.out) hlt
      subst hbl
      obtain ⟨d, hd⟩ : ∃ d, d = ds[k] := ⟨_, rfl⟩
      rw [← hd] at r0
      have HS := Lib.hid (gain_drop (x := pb) (fine := fine) hlt hd pr)
      have c0 : wr.cell? ⟨bl, ol + k * 7, none⟩ = some (.int .i64 d.k) := r0 0 _ rfl
      have o1 : Old bl wr := Old.of_cell c0
      unfold encDf at r0
      clear hd
      rcases ht : touches d pb with _ | _
      · go_wp2_with fail
        refine wp_region_ext (by kernel_rfl) (by kernel_rfl) ?_
        repeat (first | go_big_quiet_skip | ((with_reducible apply q_loadM midDf r0); (· rfl); (· (first | exact wanted_none rfl | exact wanted_some rfl rfl rfl)); (· rfl); simp only [Act.put, List.setIfInBounds_toArray, List.set_cons_succ, List.set_cons_zero]) | ((with_reducible apply q_load' lwBox); (· (first | exact wanted_none rfl | exact wanted_some rfl rfl rfl)); (· rfl); (· infer_instance); (· rfl); simp only [Act.put, List.setIfInBounds_toArray, List.set_cons_succ, List.set_cons_zero]) | go_big_quiet_step ((go_at_call 48; exact ext_call (rTouches_any d pb _))))
        refine wpQuiet_nil ?_
        intro _ hw'
        obtain ⟨nq, hw''⟩ := hw'
        subst hw''
        go_wp2_with fail
        go_roundw
        case rel => exact ⟨k + 1, pr, by omega, by first | rfl | go_num, rfl, inferInstance, inferInstance, by repeat' (first | (with_reducible exact Ext.refl _) | (with_reducible exact ExtOf.ext _) | (with_reducible refine Ext.trans ?_ (ExtOf.ext _)) | (with_reducible refine Ext.alloc ?_ _) | (with_reducible refine Ext.drew ?_) | (with_reducible refine Ext.setCell ?_ ?_ _) | (with_reducible refine Ext.setRow ?_ ?_ _) | (with_reducible exact HX.out) | (with_reducible refine Ext.trans ?_ HX.out) | (with_reducible refine Ext.below ?_ (Nat.le_refl _) _) | omega | (simp; done) | (simp; omega)), by rw [HG.out, HS.out, ht]; rfl, by omega⟩
        case measure => simp [intOf]; omega
      · by_cases h3 : d.k = 3
        · have h4 : (d.k == 3) = true := by simp [h3]
          have HE : Hid (TrimM.gain pb fine ds price = -1) := Lib.hid (by rw [HG.out, HS.out, ht, if_pos rfl, if_pos h3])
          clear h3
          go_wp2_with fail
          refine wp_region_ext (by kernel_rfl) (by kernel_rfl) ?_
          repeat (first | go_big_quiet_skip | ((with_reducible apply q_loadM midDf r0); (· rfl); (· (first | exact wanted_none rfl | exact wanted_some rfl rfl rfl)); (· rfl); simp only [Act.put, List.setIfInBounds_toArray, List.set_cons_succ, List.set_cons_zero]) | ((with_reducible apply q_load' lwBox); (· (first | exact wanted_none rfl | exact wanted_some rfl rfl rfl)); (· rfl); (· infer_instance); (· rfl); simp only [Act.put, List.setIfInBounds_toArray, List.set_cons_succ, List.set_cons_zero]) | go_big_quiet_step ((go_at_call 48; exact ext_call (rTouches_any d pb _))))
          refine wpQuiet_nil ?_
          intro _ hw'
          obtain ⟨nq, hw''⟩ := hw'
          subst hw''
          go_wp2_with fail
          go_ret
          exact ⟨ret_int HE.out.symm, by exact ExtOf.of (by repeat' (first | (with_reducible exact Ext.refl _) | (with_reducible exact ExtOf.ext _) | (with_reducible refine Ext.trans ?_ (ExtOf.ext _)) | (with_reducible refine Ext.alloc ?_ _) | (with_reducible refine Ext.drew ?_) | (with_reducible refine Ext.setCell ?_ ?_ _) | (with_reducible refine Ext.setRow ?_ ?_ _) | (with_reducible exact HX.out) | (with_reducible refine Ext.trans ?_ HX.out) | (with_reducible refine Ext.below ?_ (Nat.le_refl _) _) | omega | (simp; done) | (simp; omega)))⟩
        · have h4 : (d.k == 3) = false := beq_eq_false_iff_ne.2 h3
          have HE : Hid (TrimM.gain pb fine (ds.drop k) pr = TrimM.gain pb fine (ds.drop (k + 1)) (pr - fine)) := Lib.hid (by rw [HS.out, ht, if_pos rfl, if_neg h3])
          clear h3
          go_wp2_with fail
          refine wp_region_ext (by kernel_rfl) (by kernel_rfl) ?_
          repeat (first | go_big_quiet_skip | ((with_reducible apply q_loadM midDf r0); (· rfl); (· (first | exact wanted_none rfl | exact wanted_some rfl rfl rfl)); (· rfl); simp only [Act.put, List.setIfInBounds_toArray, List.set_cons_succ, List.set_cons_zero]) | ((with_reducible apply q_load' lwBox); (· (first | exact wanted_none rfl | exact wanted_some rfl rfl rfl)); (· rfl); (· infer_instance); (· rfl); simp only [Act.put, List.setIfInBounds_toArray, List.set_cons_succ, List.set_cons_zero]) | go_big_quiet_step ((go_at_call 48; exact ext_call (rTouches_any d pb _))))
          refine wpQuiet_nil ?_
          intro _ hw'
          obtain ⟨nq, hw''⟩ := hw'
          subst hw''
          go_wp2_with fail
          go_roundw
          case rel => exact ⟨k + 1, pr - fine, by omega, by first | rfl | go_num, rfl, inferInstance, inferInstance, by repeat' (first | (with_reducible exact Ext.refl _) | (with_reducible exact ExtOf.ext _) | (with_reducible refine Ext.trans ?_ (ExtOf.ext _)) | (with_reducible refine Ext.alloc ?_ _) | (with_reducible refine Ext.drew ?_) | (with_reducible refine Ext.setCell ?_ ?_ _) | (with_reducible refine Ext.setRow ?_ ?_ _) | (with_reducible exact HX.out) | (with_reducible refine Ext.trans ?_ HX.out) | (with_reducible refine Ext.below ?_ (Nat.le_refl _) _) | omega | (simp; done) | (simp; omega)), by rw [HG.out, HE.out], by omega⟩
          case measure => simp [intOf]; omega
    · have HE : Hid (TrimM.gain pb fine ds price = if pr < 0 then 0 else pr) := Lib.hid (by rw [HG.out, gain_end (by omega)])
      go_wp2_with fail
      all_goals
        go_ret
        exact ⟨ret_int (by rw [HE.out]; split <;> omega), by exact ExtOf.of (by repeat' (first | (with_reducible exact Ext.refl _) | (with_reducible exact ExtOf.ext _) | (with_reducible refine Ext.trans ?_ (ExtOf.ext _)) | (with_reducible refine Ext.alloc ?_ _) | (with_reducible refine Ext.drew ?_) | (with_reducible refine Ext.setCell ?_ ?_ _) | (with_reducible refine Ext.setRow ?_ ?_ _) | (with_reducible exact HX.out) | (with_reducible refine Ext.trans ?_ HX.out) | (with_reducible refine Ext.below ?_ (Nat.le_refl _) _) | omega | (simp; done) | (simp; omega)))⟩
end Go.Proofs.YtdalbfanfbeckaaGreatDoor
