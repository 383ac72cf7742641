/-
  Chapter 26: several texts in one (R10, R11).
-/
import Derived.Test.YtdalbfanfbeckaaGreatDoorR9
import Derived.Test.YtdalbfanfbeckaaGreatDoorLA
import Derived.Deep.OwnRows
/-
  Chapter 26: the reference's check of a board, its product and the units.
-/
section
set_option linter.unusedVariables false
set_option linter.unusedSimpArgs false
namespace Go.Proofs.YtdalbfanfbeckaaGreatDoor
open Go.RowKit TrimM

attribute [local go_sem] ExtOf.cell ExtOf.frozen ExtS.cell ExtS.frozen Block.cell Block.frozen ExtB.cell ExtB.frozen alloc_cell alloc_frozen
def bey (a b lo hi : Int) : Bool := decide (a < lo) || decide (hi < a) || (decide (b < lo) || decide (hi < b))
set_option maxHeartbeats 400000 in
theorem beyond_any (a b lo hi : Int) (w : World) : Calls Tryz.prog 67 #[.agg #[.int .i64 a, .int .i64 b], .int .i64 lo, .int .i64 hi] w fun e w' => e = .returned (.bool (bey a b lo hi)) ∧ ∃ n : ExtOf w, w' = n.val := by
  have e : Hid (bey a b lo hi = (decide (a < lo) || decide (hi < a) || (decide (b < lo) || decide (hi < b)))) := Lib.hid rfl
  rcases h1 : decide (a < lo) with _ | _
  · rcases h2 : decide (hi < a) with _ | _
    · rcases h3 : decide (b < lo) with _ | _
      · go_enter Tryz.func67, Tryz.ntmps67
        go_wp2
        go_ret
        exact ⟨ret_bool (by rw [e.out, h1, h2, h3]; rfl), by exact ExtOf.of (by repeat' (first | (with_reducible exact Ext.refl _) | (with_reducible exact ExtOf.ext _) | (with_reducible refine Ext.trans ?_ (ExtOf.ext _)) | (with_reducible refine Ext.alloc ?_ _) | (with_reducible refine Ext.drew ?_) | (with_reducible refine Ext.setCell ?_ ?_ _) | (with_reducible refine Ext.setRow ?_ ?_ _) | (with_reducible exact HX.out) | (with_reducible refine Ext.trans ?_ HX.out) | (with_reducible refine Ext.below ?_ (Nat.le_refl _) _) | omega | (simp; done) | (simp; omega)))⟩
      · go_enter Tryz.func67, Tryz.ntmps67
        go_wp2
        go_ret
        exact ⟨ret_bool (by rw [e.out, h1, h2, h3]; rfl), by exact ExtOf.of (by repeat' (first | (with_reducible exact Ext.refl _) | (with_reducible exact ExtOf.ext _) | (with_reducible refine Ext.trans ?_ (ExtOf.ext _)) | (with_reducible refine Ext.alloc ?_ _) | (with_reducible refine Ext.drew ?_) | (with_reducible refine Ext.setCell ?_ ?_ _) | (with_reducible refine Ext.setRow ?_ ?_ _) | (with_reducible exact HX.out) | (with_reducible refine Ext.trans ?_ HX.out) | (with_reducible refine Ext.below ?_ (Nat.le_refl _) _) | omega | (simp; done) | (simp; omega)))⟩
    · go_enter Tryz.func67, Tryz.ntmps67
      go_wp2
      go_ret
      exact ⟨ret_bool (by rw [e.out, h1, h2]; rfl), by exact ExtOf.of (by repeat' (first | (with_reducible exact Ext.refl _) | (with_reducible exact ExtOf.ext _) | (with_reducible refine Ext.trans ?_ (ExtOf.ext _)) | (with_reducible refine Ext.alloc ?_ _) | (with_reducible refine Ext.drew ?_) | (with_reducible refine Ext.setCell ?_ ?_ _) | (with_reducible refine Ext.setRow ?_ ?_ _) | (with_reducible exact HX.out) | (with_reducible refine Ext.trans ?_ HX.out) | (with_reducible refine Ext.below ?_ (Nat.le_refl _) _) | omega | (simp; done) | (simp; omega)))⟩
  · go_enter Tryz.func67, Tryz.ntmps67
    go_wp2
    go_ret
    exact ⟨ret_bool (by rw [e.out, h1]; simp), by exact ExtOf.of (by repeat' (first | (with_reducible exact Ext.refl _) | (with_reducible exact ExtOf.ext _) | (with_reducible refine Ext.trans ?_ (ExtOf.ext _)) | (with_reducible refine Ext.alloc ?_ _) | (with_reducible refine Ext.drew ?_) | (with_reducible refine Ext.setCell ?_ ?_ _) | (with_reducible refine Ext.setRow ?_ ?_ _) | (with_reducible exact HX.out) | (with_reducible refine Ext.trans ?_ HX.out) | (with_reducible refine Ext.below ?_ (Nat.le_refl _) _) | omega | (simp; done) | (simp; omega)))⟩
def fit (x y t w : Int) : Bool := (x == t && y == w) || (x == w && y == t)
set_option maxHeartbeats 800000 in
set_option maxRecDepth 20000 in
theorem rGreen26_any (nm : ByteArray) (th wi al wn : Int) (lv pv : Value) (b : Bx) (w : World) (hx : b.xa < b.xb ∧ -600 ≤ b.xa ∧ b.xb ≤ 600) (hy : b.ya < b.yb ∧ -600 ≤ b.ya ∧ b.yb ≤ 600) :
    Calls Tryz.prog 68 #[.agg #[.string nm, .int .i64 th, .int .i64 wi, .int .i64 al, .int .i64 wn, lv, pv], .agg #[.int .i64 b.xa, .int .i64 b.xb, .int .i64 b.ya, .int .i64 b.yb, .int .i64 b.za, .int .i64 b.zb]] w fun e w' => e = .returned (.bool (fit (b.xb - b.xa) (b.yb - b.ya) (grT th wi al) (grW th wi al))) ∧ ∃ n : ExtOf w, w' = n.val := by
  obtain ⟨xa, xb, ya, yb, za, zb⟩ := b
  simp only at *
  obtain ⟨T, hT⟩ : ∃ T, T = grT th wi al := ⟨_, rfl⟩
  obtain ⟨V, hV⟩ : ∃ V, V = grW th wi al := ⟨_, rfl⟩
  have HT := Lib.hid hT
  have HV := Lib.hid hV
  rw [← hT, ← hV]
  clear hT hV
  have e : Hid (fit (xb - xa) (yb - ya) T V = ((xb - xa == T && yb - ya == V) || (xb - xa == V && yb - ya == T))) := Lib.hid rfl
  go_enter Tryz.func68, Tryz.ntmps68
  go_wp2_with (first | ((with_reducible apply wl_load' lwPd); (· (first | exact wanted_none rfl | exact wanted_some rfl rfl rfl)); (· rfl); (· infer_instance); (· rfl)) | (go_at_call 90; refine (rgreen_any _ _ _ _ _ _ _ _).mono ?_; rintro e w' ⟨rfl, n, rfl⟩; rw [← HT.out, ← HV.out]))
  refine wp_region_ext (by kernel_rfl) (by kernel_rfl) ?_
  repeat (first | go_big_quiet_skip | go_big_quiet_step (fail))
  refine wpQuiet_nil ?_
  intro _ hw'
  obtain ⟨nq, hw''⟩ := hw'
  subst hw''
  rcases h1 : (xb - xa == T) with _ | _
  · rcases h3 : (xb - xa == V) with _ | _
    · go_wp2_with fail
      go_ret
      exact ⟨ret_bool (by rw [e.out, h1, h3]; rfl), by exact ExtOf.of (by repeat' (first | (with_reducible exact Ext.refl _) | (with_reducible exact ExtOf.ext _) | (with_reducible refine Ext.trans ?_ (ExtOf.ext _)) | (with_reducible refine Ext.alloc ?_ _) | (with_reducible refine Ext.drew ?_) | (with_reducible refine Ext.setCell ?_ ?_ _) | (with_reducible refine Ext.setRow ?_ ?_ _) | (with_reducible exact HX.out) | (with_reducible refine Ext.trans ?_ HX.out) | (with_reducible refine Ext.below ?_ (Nat.le_refl _) _) | omega | (simp; done) | (simp; omega)))⟩
    · go_wp2_with fail
      go_ret
      exact ⟨ret_bool (by rw [e.out, h1, h3]; simp), by exact ExtOf.of (by repeat' (first | (with_reducible exact Ext.refl _) | (with_reducible exact ExtOf.ext _) | (with_reducible refine Ext.trans ?_ (ExtOf.ext _)) | (with_reducible refine Ext.alloc ?_ _) | (with_reducible refine Ext.drew ?_) | (with_reducible refine Ext.setCell ?_ ?_ _) | (with_reducible refine Ext.setRow ?_ ?_ _) | (with_reducible exact HX.out) | (with_reducible refine Ext.trans ?_ HX.out) | (with_reducible refine Ext.below ?_ (Nat.le_refl _) _) | omega | (simp; done) | (simp; omega)))⟩
  · rcases h2 : (yb - ya == V) with _ | _
    · rcases h3 : (xb - xa == V) with _ | _
      · go_wp2_with fail
        go_ret
        exact ⟨ret_bool (by rw [e.out, h1, h2, h3]; rfl), by exact ExtOf.of (by repeat' (first | (with_reducible exact Ext.refl _) | (with_reducible exact ExtOf.ext _) | (with_reducible refine Ext.trans ?_ (ExtOf.ext _)) | (with_reducible refine Ext.alloc ?_ _) | (with_reducible refine Ext.drew ?_) | (with_reducible refine Ext.setCell ?_ ?_ _) | (with_reducible refine Ext.setRow ?_ ?_ _) | (with_reducible exact HX.out) | (with_reducible refine Ext.trans ?_ HX.out) | (with_reducible refine Ext.below ?_ (Nat.le_refl _) _) | omega | (simp; done) | (simp; omega)))⟩
      · go_wp2_with fail
        go_ret
        exact ⟨ret_bool (by rw [e.out, h1, h2, h3]; simp), by exact ExtOf.of (by repeat' (first | (with_reducible exact Ext.refl _) | (with_reducible exact ExtOf.ext _) | (with_reducible refine Ext.trans ?_ (ExtOf.ext _)) | (with_reducible refine Ext.alloc ?_ _) | (with_reducible refine Ext.drew ?_) | (with_reducible refine Ext.setCell ?_ ?_ _) | (with_reducible refine Ext.setRow ?_ ?_ _) | (with_reducible exact HX.out) | (with_reducible refine Ext.trans ?_ HX.out) | (with_reducible refine Ext.below ?_ (Nat.le_refl _) _) | omega | (simp; done) | (simp; omega)))⟩
    · go_wp2_with fail
      go_ret
      exact ⟨ret_bool (by rw [e.out, h1, h2]; simp), by exact ExtOf.of (by repeat' (first | (with_reducible exact Ext.refl _) | (with_reducible exact ExtOf.ext _) | (with_reducible refine Ext.trans ?_ (ExtOf.ext _)) | (with_reducible refine Ext.alloc ?_ _) | (with_reducible refine Ext.drew ?_) | (with_reducible refine Ext.setCell ?_ ?_ _) | (with_reducible refine Ext.setRow ?_ ?_ _) | (with_reducible exact HX.out) | (with_reducible refine Ext.trans ?_ HX.out) | (with_reducible refine Ext.below ?_ (Nat.le_refl _) _) | omega | (simp; done) | (simp; omega)))⟩
def chkR (b : Bx) (ds : List Df) (p : Pdt) (step kerf fine : Int) : Int :=
  if prodE p ≠ 0 then prodE p else if defsE ds ≠ 0 then defsE ds
  else if step < 1 ∨ step > 20000 ∨ kerf < 0 ∨ kerf > 20 ∨ fine < 0 ∨ fine > 1000000 then 9
  else if b.empty then 19 else if ¬ b.ranged then 9
  else if ¬ (b.xb - b.xa = (TrimM.green p.th p.wi p.al).1 ∧ b.yb - b.ya = (TrimM.green p.th p.wi p.al).2 ∨ b.xb - b.xa = (TrimM.green p.th p.wi p.al).2 ∧ b.yb - b.ya = (TrimM.green p.th p.wi p.al).1) then 20
  else 0
theorem chkE_R (b : Bx) (ds : List Df) (p : Pdt) (step kerf fine : Int) : chkE b ds p step kerf fine = if chkR b ds p step kerf fine ≠ 0 then chkR b ds p step kerf fine else if (b.zb - b.za) / step > 2000 then 9 else 0 := by
  unfold chkE chkR
  by_cases h1 : prodE p ≠ 0
  · rw [if_pos h1, if_pos h1, if_pos h1]
  rw [if_neg h1, if_neg h1]
  by_cases h2 : defsE ds ≠ 0
  · rw [if_pos h2, if_pos h2, if_pos h2]
  rw [if_neg h2, if_neg h2]
  by_cases h3 : step < 1 ∨ step > 20000 ∨ kerf < 0 ∨ kerf > 20 ∨ fine < 0 ∨ fine > 1000000
  · rw [if_pos h3, if_pos h3]; rfl
  rw [if_neg h3, if_neg h3]
  by_cases h4 : b.empty = true
  · rw [if_pos h4, if_pos h4]; rfl
  rw [if_neg h4, if_neg h4]
  by_cases h5 : ¬ b.ranged = true
  · rw [if_pos h5, if_pos h5]; rfl
  rw [if_neg h5, if_neg h5]
  by_cases h6 : ¬ (b.xb - b.xa = (TrimM.green p.th p.wi p.al).1 ∧ b.yb - b.ya = (TrimM.green p.th p.wi p.al).2 ∨ b.xb - b.xa = (TrimM.green p.th p.wi p.al).2 ∧ b.yb - b.ya = (TrimM.green p.th p.wi p.al).1)
  · rw [if_pos h6, if_pos h6]; rfl
  · rw [if_neg h6, if_neg h6]; rfl
theorem bey_eq {a b : Int} (h : a < b) (lo hi : Int) : bey a b lo hi = !(decide (lo ≤ a) && decide (b ≤ hi)) := by
  unfold bey
  rw [Bool.eq_iff_iff]; simp; omega
set_option maxHeartbeats 3200000 in
set_option maxRecDepth 20000 in
theorem rcheck26_any (x : Bd) (dv : Value) (ds : List Df) (p : Pdt) (lv pv : Value) (step kerf fine : Int) (w : World) (hd : DfS w dv ds) (hl : IntS w lv p.ls) (hp : IntS w pv p.ps) :
    Calls Tryz.prog 42 #[.agg (bdC x dv), .agg (pdC p lv pv), .int .i64 step, .int .i64 kerf, .int .i64 fine] w fun e w' => e = .returned (.int .i64 (chkR x.b ds p step kerf fine)) ∧ ∃ n : ExtOf w, w' = n.val := by
  obtain ⟨nm, th, wi, al, wn, ls, ps⟩ := p
  obtain ⟨lq, lcap, rfl, hl1, hl2, hl3⟩ := SliceOf.form hl
  obtain ⟨pq, pcap, rfl, hp1, hp2, hp3⟩ := SliceOf.form hp
  obtain ⟨q, cap, rfl, hd1, hd2, hd3⟩ := SliceOf.form hd
  have HL := Lib.hid hl
  have HP := Lib.hid hp
  have HD := Lib.hid hd
  clear hl hp hd
  obtain ⟨id, lg, sp, pr, ⟨xa, xb, ya, yb, za, zb⟩, vol, wa, su, co, st, dr, gr⟩ := x
  simp only at *
  obtain ⟨E, hE⟩ : ∃ E, E = chkR ⟨xa, xb, ya, yb, za, zb⟩ ds ⟨nm, th, wi, al, wn, ls, ps⟩ step kerf fine := ⟨_, rfl⟩
  have HC := Lib.hid hE
  rw [← hE]
  clear hE
  have hgr := okG_eq ⟨nm, th, wi, al, wn, ls, ps⟩
  simp only at hgr
  have HGR := Lib.hid hgr
  clear hgr
  unfold bdC pdC
  dsimp only
  by_cases p0 : ¬ prodE ⟨nm, th, wi, al, wn, ls, ps⟩ = 0
  · have HE : Hid (E = prodE ⟨nm, th, wi, al, wn, ls, ps⟩) := Lib.hid (by rw [HC.out]; unfold chkR; rw [if_pos p0])
    have p1 : (prodE ⟨nm, th, wi, al, wn, ls, ps⟩ != 0) = true := bne_iff_ne.2 p0
    clear p0
    go_enter Tryz.func42, Tryz.ntmps42
    go_wp2_with (first | ((with_reducible apply wl_load' lwPd); (· (first | exact wanted_none rfl | exact wanted_some rfl rfl rfl)); (· rfl); (· infer_instance); (· rfl)) | ((with_reducible apply wl_load' lwBd); (· (first | exact wanted_none rfl | exact wanted_some rfl rfl rfl)); (· rfl); (· infer_instance); (· rfl)) | (go_at_call 53; refine (pCheck_any ⟨nm, th, wi, al, wn, ls, ps⟩ _ _ _ _ inferInstance (SliceOf.ext HL.out (by repeat' (first | (with_reducible exact Ext.refl _) | (with_reducible exact ExtOf.ext _) | (with_reducible refine Ext.trans ?_ (ExtOf.ext _)) | (with_reducible refine Ext.alloc ?_ _) | (with_reducible refine Ext.drew ?_) | (with_reducible refine Ext.setCell ?_ ?_ _) | (with_reducible refine Ext.setRow ?_ ?_ _) | (with_reducible exact HX.out) | (with_reducible refine Ext.trans ?_ HX.out) | (with_reducible refine Ext.below ?_ (Nat.le_refl _) _) | omega | (simp; done) | (simp; omega)))) (SliceOf.ext HP.out (by repeat' (first | (with_reducible exact Ext.refl _) | (with_reducible exact ExtOf.ext _) | (with_reducible refine Ext.trans ?_ (ExtOf.ext _)) | (with_reducible refine Ext.alloc ?_ _) | (with_reducible refine Ext.drew ?_) | (with_reducible refine Ext.setCell ?_ ?_ _) | (with_reducible refine Ext.setRow ?_ ?_ _) | (with_reducible exact HX.out) | (with_reducible refine Ext.trans ?_ HX.out) | (with_reducible refine Ext.below ?_ (Nat.le_refl _) _) | omega | (simp; done) | (simp; omega))))).mono ?_; rintro e w' ⟨rfl, np, rfl⟩) | (go_at_call 38; refine (dCheck_any ds _ _ (SliceOf.ext HD.out (by repeat' (first | (with_reducible exact Ext.refl _) | (with_reducible exact ExtOf.ext _) | (with_reducible refine Ext.trans ?_ (ExtOf.ext _)) | (with_reducible refine Ext.alloc ?_ _) | (with_reducible refine Ext.drew ?_) | (with_reducible refine Ext.setCell ?_ ?_ _) | (with_reducible refine Ext.setRow ?_ ?_ _) | (with_reducible exact HX.out) | (with_reducible refine Ext.trans ?_ HX.out) | (with_reducible refine Ext.below ?_ (Nat.le_refl _) _) | omega | (simp; done) | (simp; omega))))).mono ?_; rintro e w' ⟨rfl, nd, rfl⟩) | (go_at_call 65; refine (rpCheck_any ⟨nm, th, wi, al, wn, ls, ps⟩ _ _ _ _ inferInstance (SliceOf.ext HL.out (by repeat' (first | (with_reducible exact Ext.refl _) | (with_reducible exact ExtOf.ext _) | (with_reducible refine Ext.trans ?_ (ExtOf.ext _)) | (with_reducible refine Ext.alloc ?_ _) | (with_reducible refine Ext.drew ?_) | (with_reducible refine Ext.setCell ?_ ?_ _) | (with_reducible refine Ext.setRow ?_ ?_ _) | (with_reducible exact HX.out) | (with_reducible refine Ext.trans ?_ HX.out) | (with_reducible refine Ext.below ?_ (Nat.le_refl _) _) | omega | (simp; done) | (simp; omega)))) (SliceOf.ext HP.out (by repeat' (first | (with_reducible exact Ext.refl _) | (with_reducible exact ExtOf.ext _) | (with_reducible refine Ext.trans ?_ (ExtOf.ext _)) | (with_reducible refine Ext.alloc ?_ _) | (with_reducible refine Ext.drew ?_) | (with_reducible refine Ext.setCell ?_ ?_ _) | (with_reducible refine Ext.setRow ?_ ?_ _) | (with_reducible exact HX.out) | (with_reducible refine Ext.trans ?_ HX.out) | (with_reducible refine Ext.below ?_ (Nat.le_refl _) _) | omega | (simp; done) | (simp; omega))))).mono ?_; rintro e w' ⟨rfl, np, rfl⟩) | (go_at_call 46; refine (rdCheck_any ds _ _ (SliceOf.ext HD.out (by repeat' (first | (with_reducible exact Ext.refl _) | (with_reducible exact ExtOf.ext _) | (with_reducible refine Ext.trans ?_ (ExtOf.ext _)) | (with_reducible refine Ext.alloc ?_ _) | (with_reducible refine Ext.drew ?_) | (with_reducible refine Ext.setCell ?_ ?_ _) | (with_reducible refine Ext.setRow ?_ ?_ _) | (with_reducible exact HX.out) | (with_reducible refine Ext.trans ?_ HX.out) | (with_reducible refine Ext.below ?_ (Nat.le_refl _) _) | omega | (simp; done) | (simp; omega))))).mono ?_; rintro e w' ⟨rfl, nd, rfl⟩) | (go_at_call 54; refine (green_any _ _ _ _ _ _ _ _).mono ?_; rintro e w' ⟨rfl, n, rfl⟩))
    go_ret
    exact ⟨ret_int HE.out.symm, by exact ExtOf.of (by repeat' (first | (with_reducible exact Ext.refl _) | (with_reducible exact ExtOf.ext _) | (with_reducible refine Ext.trans ?_ (ExtOf.ext _)) | (with_reducible refine Ext.alloc ?_ _) | (with_reducible refine Ext.drew ?_) | (with_reducible refine Ext.setCell ?_ ?_ _) | (with_reducible refine Ext.setRow ?_ ?_ _) | (with_reducible exact HX.out) | (with_reducible refine Ext.trans ?_ HX.out) | (with_reducible refine Ext.below ?_ (Nat.le_refl _) _) | omega | (simp; done) | (simp; omega)))⟩
  replace p0 := Classical.not_not.1 p0
  have p1 : (prodE ⟨nm, th, wi, al, wn, ls, ps⟩ != 0) = false := bne_eq_false_iff_eq.2 p0
  have P0 := Lib.hid p0
  clear p0
  by_cases d0 : ¬ defsE ds = 0
  · have HE : Hid (E = defsE ds) := Lib.hid (by rw [HC.out]; unfold chkR; rw [if_neg (by rw [P0.out]; decide), if_pos d0])
    have d1 : (defsE ds != 0) = true := bne_iff_ne.2 d0
    clear d0
    go_enter Tryz.func42, Tryz.ntmps42
    go_wp2_with (first | ((with_reducible apply wl_load' lwPd); (· (first | exact wanted_none rfl | exact wanted_some rfl rfl rfl)); (· rfl); (· infer_instance); (· rfl)) | ((with_reducible apply wl_load' lwBd); (· (first | exact wanted_none rfl | exact wanted_some rfl rfl rfl)); (· rfl); (· infer_instance); (· rfl)) | (go_at_call 53; refine (pCheck_any ⟨nm, th, wi, al, wn, ls, ps⟩ _ _ _ _ inferInstance (SliceOf.ext HL.out (by repeat' (first | (with_reducible exact Ext.refl _) | (with_reducible exact ExtOf.ext _) | (with_reducible refine Ext.trans ?_ (ExtOf.ext _)) | (with_reducible refine Ext.alloc ?_ _) | (with_reducible refine Ext.drew ?_) | (with_reducible refine Ext.setCell ?_ ?_ _) | (with_reducible refine Ext.setRow ?_ ?_ _) | (with_reducible exact HX.out) | (with_reducible refine Ext.trans ?_ HX.out) | (with_reducible refine Ext.below ?_ (Nat.le_refl _) _) | omega | (simp; done) | (simp; omega)))) (SliceOf.ext HP.out (by repeat' (first | (with_reducible exact Ext.refl _) | (with_reducible exact ExtOf.ext _) | (with_reducible refine Ext.trans ?_ (ExtOf.ext _)) | (with_reducible refine Ext.alloc ?_ _) | (with_reducible refine Ext.drew ?_) | (with_reducible refine Ext.setCell ?_ ?_ _) | (with_reducible refine Ext.setRow ?_ ?_ _) | (with_reducible exact HX.out) | (with_reducible refine Ext.trans ?_ HX.out) | (with_reducible refine Ext.below ?_ (Nat.le_refl _) _) | omega | (simp; done) | (simp; omega))))).mono ?_; rintro e w' ⟨rfl, np, rfl⟩) | (go_at_call 38; refine (dCheck_any ds _ _ (SliceOf.ext HD.out (by repeat' (first | (with_reducible exact Ext.refl _) | (with_reducible exact ExtOf.ext _) | (with_reducible refine Ext.trans ?_ (ExtOf.ext _)) | (with_reducible refine Ext.alloc ?_ _) | (with_reducible refine Ext.drew ?_) | (with_reducible refine Ext.setCell ?_ ?_ _) | (with_reducible refine Ext.setRow ?_ ?_ _) | (with_reducible exact HX.out) | (with_reducible refine Ext.trans ?_ HX.out) | (with_reducible refine Ext.below ?_ (Nat.le_refl _) _) | omega | (simp; done) | (simp; omega))))).mono ?_; rintro e w' ⟨rfl, nd, rfl⟩) | (go_at_call 65; refine (rpCheck_any ⟨nm, th, wi, al, wn, ls, ps⟩ _ _ _ _ inferInstance (SliceOf.ext HL.out (by repeat' (first | (with_reducible exact Ext.refl _) | (with_reducible exact ExtOf.ext _) | (with_reducible refine Ext.trans ?_ (ExtOf.ext _)) | (with_reducible refine Ext.alloc ?_ _) | (with_reducible refine Ext.drew ?_) | (with_reducible refine Ext.setCell ?_ ?_ _) | (with_reducible refine Ext.setRow ?_ ?_ _) | (with_reducible exact HX.out) | (with_reducible refine Ext.trans ?_ HX.out) | (with_reducible refine Ext.below ?_ (Nat.le_refl _) _) | omega | (simp; done) | (simp; omega)))) (SliceOf.ext HP.out (by repeat' (first | (with_reducible exact Ext.refl _) | (with_reducible exact ExtOf.ext _) | (with_reducible refine Ext.trans ?_ (ExtOf.ext _)) | (with_reducible refine Ext.alloc ?_ _) | (with_reducible refine Ext.drew ?_) | (with_reducible refine Ext.setCell ?_ ?_ _) | (with_reducible refine Ext.setRow ?_ ?_ _) | (with_reducible exact HX.out) | (with_reducible refine Ext.trans ?_ HX.out) | (with_reducible refine Ext.below ?_ (Nat.le_refl _) _) | omega | (simp; done) | (simp; omega))))).mono ?_; rintro e w' ⟨rfl, np, rfl⟩) | (go_at_call 46; refine (rdCheck_any ds _ _ (SliceOf.ext HD.out (by repeat' (first | (with_reducible exact Ext.refl _) | (with_reducible exact ExtOf.ext _) | (with_reducible refine Ext.trans ?_ (ExtOf.ext _)) | (with_reducible refine Ext.alloc ?_ _) | (with_reducible refine Ext.drew ?_) | (with_reducible refine Ext.setCell ?_ ?_ _) | (with_reducible refine Ext.setRow ?_ ?_ _) | (with_reducible exact HX.out) | (with_reducible refine Ext.trans ?_ HX.out) | (with_reducible refine Ext.below ?_ (Nat.le_refl _) _) | omega | (simp; done) | (simp; omega))))).mono ?_; rintro e w' ⟨rfl, nd, rfl⟩) | (go_at_call 54; refine (green_any _ _ _ _ _ _ _ _).mono ?_; rintro e w' ⟨rfl, n, rfl⟩))
    go_ret
    exact ⟨ret_int HE.out.symm, by exact ExtOf.of (by repeat' (first | (with_reducible exact Ext.refl _) | (with_reducible exact ExtOf.ext _) | (with_reducible refine Ext.trans ?_ (ExtOf.ext _)) | (with_reducible refine Ext.alloc ?_ _) | (with_reducible refine Ext.drew ?_) | (with_reducible refine Ext.setCell ?_ ?_ _) | (with_reducible refine Ext.setRow ?_ ?_ _) | (with_reducible exact HX.out) | (with_reducible refine Ext.trans ?_ HX.out) | (with_reducible refine Ext.below ?_ (Nat.le_refl _) _) | omega | (simp; done) | (simp; omega)))⟩
  replace d0 := Classical.not_not.1 d0
  have d1 : (defsE ds != 0) = false := bne_eq_false_iff_eq.2 d0
  have D0 := Lib.hid d0
  clear d0
  have H9 : Hid ((step < 1 ∨ step > 20000 ∨ kerf < 0 ∨ kerf > 20 ∨ fine < 0 ∨ fine > 1000000) → E = 9) := Lib.hid (fun h => by rw [HC.out]; unfold chkR; rw [if_neg (by rw [P0.out]; decide), if_neg (by rw [D0.out]; decide), if_pos h])
  by_cases s1 : step < 1
  · have HE : Hid (E = 9) := Lib.hid (H9.out (by omega))
    go_enter Tryz.func42, Tryz.ntmps42
    go_wp2_with (first | ((with_reducible apply wl_load' lwPd); (· (first | exact wanted_none rfl | exact wanted_some rfl rfl rfl)); (· rfl); (· infer_instance); (· rfl)) | ((with_reducible apply wl_load' lwBd); (· (first | exact wanted_none rfl | exact wanted_some rfl rfl rfl)); (· rfl); (· infer_instance); (· rfl)) | (go_at_call 53; refine (pCheck_any ⟨nm, th, wi, al, wn, ls, ps⟩ _ _ _ _ inferInstance (SliceOf.ext HL.out (by repeat' (first | (with_reducible exact Ext.refl _) | (with_reducible exact ExtOf.ext _) | (with_reducible refine Ext.trans ?_ (ExtOf.ext _)) | (with_reducible refine Ext.alloc ?_ _) | (with_reducible refine Ext.drew ?_) | (with_reducible refine Ext.setCell ?_ ?_ _) | (with_reducible refine Ext.setRow ?_ ?_ _) | (with_reducible exact HX.out) | (with_reducible refine Ext.trans ?_ HX.out) | (with_reducible refine Ext.below ?_ (Nat.le_refl _) _) | omega | (simp; done) | (simp; omega)))) (SliceOf.ext HP.out (by repeat' (first | (with_reducible exact Ext.refl _) | (with_reducible exact ExtOf.ext _) | (with_reducible refine Ext.trans ?_ (ExtOf.ext _)) | (with_reducible refine Ext.alloc ?_ _) | (with_reducible refine Ext.drew ?_) | (with_reducible refine Ext.setCell ?_ ?_ _) | (with_reducible refine Ext.setRow ?_ ?_ _) | (with_reducible exact HX.out) | (with_reducible refine Ext.trans ?_ HX.out) | (with_reducible refine Ext.below ?_ (Nat.le_refl _) _) | omega | (simp; done) | (simp; omega))))).mono ?_; rintro e w' ⟨rfl, np, rfl⟩) | (go_at_call 38; refine (dCheck_any ds _ _ (SliceOf.ext HD.out (by repeat' (first | (with_reducible exact Ext.refl _) | (with_reducible exact ExtOf.ext _) | (with_reducible refine Ext.trans ?_ (ExtOf.ext _)) | (with_reducible refine Ext.alloc ?_ _) | (with_reducible refine Ext.drew ?_) | (with_reducible refine Ext.setCell ?_ ?_ _) | (with_reducible refine Ext.setRow ?_ ?_ _) | (with_reducible exact HX.out) | (with_reducible refine Ext.trans ?_ HX.out) | (with_reducible refine Ext.below ?_ (Nat.le_refl _) _) | omega | (simp; done) | (simp; omega))))).mono ?_; rintro e w' ⟨rfl, nd, rfl⟩) | (go_at_call 65; refine (rpCheck_any ⟨nm, th, wi, al, wn, ls, ps⟩ _ _ _ _ inferInstance (SliceOf.ext HL.out (by repeat' (first | (with_reducible exact Ext.refl _) | (with_reducible exact ExtOf.ext _) | (with_reducible refine Ext.trans ?_ (ExtOf.ext _)) | (with_reducible refine Ext.alloc ?_ _) | (with_reducible refine Ext.drew ?_) | (with_reducible refine Ext.setCell ?_ ?_ _) | (with_reducible refine Ext.setRow ?_ ?_ _) | (with_reducible exact HX.out) | (with_reducible refine Ext.trans ?_ HX.out) | (with_reducible refine Ext.below ?_ (Nat.le_refl _) _) | omega | (simp; done) | (simp; omega)))) (SliceOf.ext HP.out (by repeat' (first | (with_reducible exact Ext.refl _) | (with_reducible exact ExtOf.ext _) | (with_reducible refine Ext.trans ?_ (ExtOf.ext _)) | (with_reducible refine Ext.alloc ?_ _) | (with_reducible refine Ext.drew ?_) | (with_reducible refine Ext.setCell ?_ ?_ _) | (with_reducible refine Ext.setRow ?_ ?_ _) | (with_reducible exact HX.out) | (with_reducible refine Ext.trans ?_ HX.out) | (with_reducible refine Ext.below ?_ (Nat.le_refl _) _) | omega | (simp; done) | (simp; omega))))).mono ?_; rintro e w' ⟨rfl, np, rfl⟩) | (go_at_call 46; refine (rdCheck_any ds _ _ (SliceOf.ext HD.out (by repeat' (first | (with_reducible exact Ext.refl _) | (with_reducible exact ExtOf.ext _) | (with_reducible refine Ext.trans ?_ (ExtOf.ext _)) | (with_reducible refine Ext.alloc ?_ _) | (with_reducible refine Ext.drew ?_) | (with_reducible refine Ext.setCell ?_ ?_ _) | (with_reducible refine Ext.setRow ?_ ?_ _) | (with_reducible exact HX.out) | (with_reducible refine Ext.trans ?_ HX.out) | (with_reducible refine Ext.below ?_ (Nat.le_refl _) _) | omega | (simp; done) | (simp; omega))))).mono ?_; rintro e w' ⟨rfl, nd, rfl⟩) | (go_at_call 54; refine (green_any _ _ _ _ _ _ _ _).mono ?_; rintro e w' ⟨rfl, n, rfl⟩))
    go_ret
    exact ⟨ret_int HE.out.symm, by exact ExtOf.of (by repeat' (first | (with_reducible exact Ext.refl _) | (with_reducible exact ExtOf.ext _) | (with_reducible refine Ext.trans ?_ (ExtOf.ext _)) | (with_reducible refine Ext.alloc ?_ _) | (with_reducible refine Ext.drew ?_) | (with_reducible refine Ext.setCell ?_ ?_ _) | (with_reducible refine Ext.setRow ?_ ?_ _) | (with_reducible exact HX.out) | (with_reducible refine Ext.trans ?_ HX.out) | (with_reducible refine Ext.below ?_ (Nat.le_refl _) _) | omega | (simp; done) | (simp; omega)))⟩
  have s1' : decide (step < 1) = false := decide_eq_false s1
  by_cases s2 : 20000 < step
  · have HE : Hid (E = 9) := Lib.hid (H9.out (by omega))
    go_enter Tryz.func42, Tryz.ntmps42
    go_wp2_with (first | ((with_reducible apply wl_load' lwPd); (· (first | exact wanted_none rfl | exact wanted_some rfl rfl rfl)); (· rfl); (· infer_instance); (· rfl)) | ((with_reducible apply wl_load' lwBd); (· (first | exact wanted_none rfl | exact wanted_some rfl rfl rfl)); (· rfl); (· infer_instance); (· rfl)) | (go_at_call 53; refine (pCheck_any ⟨nm, th, wi, al, wn, ls, ps⟩ _ _ _ _ inferInstance (SliceOf.ext HL.out (by repeat' (first | (with_reducible exact Ext.refl _) | (with_reducible exact ExtOf.ext _) | (with_reducible refine Ext.trans ?_ (ExtOf.ext _)) | (with_reducible refine Ext.alloc ?_ _) | (with_reducible refine Ext.drew ?_) | (with_reducible refine Ext.setCell ?_ ?_ _) | (with_reducible refine Ext.setRow ?_ ?_ _) | (with_reducible exact HX.out) | (with_reducible refine Ext.trans ?_ HX.out) | (with_reducible refine Ext.below ?_ (Nat.le_refl _) _) | omega | (simp; done) | (simp; omega)))) (SliceOf.ext HP.out (by repeat' (first | (with_reducible exact Ext.refl _) | (with_reducible exact ExtOf.ext _) | (with_reducible refine Ext.trans ?_ (ExtOf.ext _)) | (with_reducible refine Ext.alloc ?_ _) | (with_reducible refine Ext.drew ?_) | (with_reducible refine Ext.setCell ?_ ?_ _) | (with_reducible refine Ext.setRow ?_ ?_ _) | (with_reducible exact HX.out) | (with_reducible refine Ext.trans ?_ HX.out) | (with_reducible refine Ext.below ?_ (Nat.le_refl _) _) | omega | (simp; done) | (simp; omega))))).mono ?_; rintro e w' ⟨rfl, np, rfl⟩) | (go_at_call 38; refine (dCheck_any ds _ _ (SliceOf.ext HD.out (by repeat' (first | (with_reducible exact Ext.refl _) | (with_reducible exact ExtOf.ext _) | (with_reducible refine Ext.trans ?_ (ExtOf.ext _)) | (with_reducible refine Ext.alloc ?_ _) | (with_reducible refine Ext.drew ?_) | (with_reducible refine Ext.setCell ?_ ?_ _) | (with_reducible refine Ext.setRow ?_ ?_ _) | (with_reducible exact HX.out) | (with_reducible refine Ext.trans ?_ HX.out) | (with_reducible refine Ext.below ?_ (Nat.le_refl _) _) | omega | (simp; done) | (simp; omega))))).mono ?_; rintro e w' ⟨rfl, nd, rfl⟩) | (go_at_call 65; refine (rpCheck_any ⟨nm, th, wi, al, wn, ls, ps⟩ _ _ _ _ inferInstance (SliceOf.ext HL.out (by repeat' (first | (with_reducible exact Ext.refl _) | (with_reducible exact ExtOf.ext _) | (with_reducible refine Ext.trans ?_ (ExtOf.ext _)) | (with_reducible refine Ext.alloc ?_ _) | (with_reducible refine Ext.drew ?_) | (with_reducible refine Ext.setCell ?_ ?_ _) | (with_reducible refine Ext.setRow ?_ ?_ _) | (with_reducible exact HX.out) | (with_reducible refine Ext.trans ?_ HX.out) | (with_reducible refine Ext.below ?_ (Nat.le_refl _) _) | omega | (simp; done) | (simp; omega)))) (SliceOf.ext HP.out (by repeat' (first | (with_reducible exact Ext.refl _) | (with_reducible exact ExtOf.ext _) | (with_reducible refine Ext.trans ?_ (ExtOf.ext _)) | (with_reducible refine Ext.alloc ?_ _) | (with_reducible refine Ext.drew ?_) | (with_reducible refine Ext.setCell ?_ ?_ _) | (with_reducible refine Ext.setRow ?_ ?_ _) | (with_reducible exact HX.out) | (with_reducible refine Ext.trans ?_ HX.out) | (with_reducible refine Ext.below ?_ (Nat.le_refl _) _) | omega | (simp; done) | (simp; omega))))).mono ?_; rintro e w' ⟨rfl, np, rfl⟩) | (go_at_call 46; refine (rdCheck_any ds _ _ (SliceOf.ext HD.out (by repeat' (first | (with_reducible exact Ext.refl _) | (with_reducible exact ExtOf.ext _) | (with_reducible refine Ext.trans ?_ (ExtOf.ext _)) | (with_reducible refine Ext.alloc ?_ _) | (with_reducible refine Ext.drew ?_) | (with_reducible refine Ext.setCell ?_ ?_ _) | (with_reducible refine Ext.setRow ?_ ?_ _) | (with_reducible exact HX.out) | (with_reducible refine Ext.trans ?_ HX.out) | (with_reducible refine Ext.below ?_ (Nat.le_refl _) _) | omega | (simp; done) | (simp; omega))))).mono ?_; rintro e w' ⟨rfl, nd, rfl⟩) | (go_at_call 54; refine (green_any _ _ _ _ _ _ _ _).mono ?_; rintro e w' ⟨rfl, n, rfl⟩))
    go_ret
    exact ⟨ret_int HE.out.symm, by exact ExtOf.of (by repeat' (first | (with_reducible exact Ext.refl _) | (with_reducible exact ExtOf.ext _) | (with_reducible refine Ext.trans ?_ (ExtOf.ext _)) | (with_reducible refine Ext.alloc ?_ _) | (with_reducible refine Ext.drew ?_) | (with_reducible refine Ext.setCell ?_ ?_ _) | (with_reducible refine Ext.setRow ?_ ?_ _) | (with_reducible exact HX.out) | (with_reducible refine Ext.trans ?_ HX.out) | (with_reducible refine Ext.below ?_ (Nat.le_refl _) _) | omega | (simp; done) | (simp; omega)))⟩
  have s2' : decide (20000 < step) = false := decide_eq_false s2
  by_cases s3 : kerf < 0
  · have HE : Hid (E = 9) := Lib.hid (H9.out (by omega))
    go_enter Tryz.func42, Tryz.ntmps42
    go_wp2_with (first | ((with_reducible apply wl_load' lwPd); (· (first | exact wanted_none rfl | exact wanted_some rfl rfl rfl)); (· rfl); (· infer_instance); (· rfl)) | ((with_reducible apply wl_load' lwBd); (· (first | exact wanted_none rfl | exact wanted_some rfl rfl rfl)); (· rfl); (· infer_instance); (· rfl)) | (go_at_call 53; refine (pCheck_any ⟨nm, th, wi, al, wn, ls, ps⟩ _ _ _ _ inferInstance (SliceOf.ext HL.out (by repeat' (first | (with_reducible exact Ext.refl _) | (with_reducible exact ExtOf.ext _) | (with_reducible refine Ext.trans ?_ (ExtOf.ext _)) | (with_reducible refine Ext.alloc ?_ _) | (with_reducible refine Ext.drew ?_) | (with_reducible refine Ext.setCell ?_ ?_ _) | (with_reducible refine Ext.setRow ?_ ?_ _) | (with_reducible exact HX.out) | (with_reducible refine Ext.trans ?_ HX.out) | (with_reducible refine Ext.below ?_ (Nat.le_refl _) _) | omega | (simp; done) | (simp; omega)))) (SliceOf.ext HP.out (by repeat' (first | (with_reducible exact Ext.refl _) | (with_reducible exact ExtOf.ext _) | (with_reducible refine Ext.trans ?_ (ExtOf.ext _)) | (with_reducible refine Ext.alloc ?_ _) | (with_reducible refine Ext.drew ?_) | (with_reducible refine Ext.setCell ?_ ?_ _) | (with_reducible refine Ext.setRow ?_ ?_ _) | (with_reducible exact HX.out) | (with_reducible refine Ext.trans ?_ HX.out) | (with_reducible refine Ext.below ?_ (Nat.le_refl _) _) | omega | (simp; done) | (simp; omega))))).mono ?_; rintro e w' ⟨rfl, np, rfl⟩) | (go_at_call 38; refine (dCheck_any ds _ _ (SliceOf.ext HD.out (by repeat' (first | (with_reducible exact Ext.refl _) | (with_reducible exact ExtOf.ext _) | (with_reducible refine Ext.trans ?_ (ExtOf.ext _)) | (with_reducible refine Ext.alloc ?_ _) | (with_reducible refine Ext.drew ?_) | (with_reducible refine Ext.setCell ?_ ?_ _) | (with_reducible refine Ext.setRow ?_ ?_ _) | (with_reducible exact HX.out) | (with_reducible refine Ext.trans ?_ HX.out) | (with_reducible refine Ext.below ?_ (Nat.le_refl _) _) | omega | (simp; done) | (simp; omega))))).mono ?_; rintro e w' ⟨rfl, nd, rfl⟩) | (go_at_call 65; refine (rpCheck_any ⟨nm, th, wi, al, wn, ls, ps⟩ _ _ _ _ inferInstance (SliceOf.ext HL.out (by repeat' (first | (with_reducible exact Ext.refl _) | (with_reducible exact ExtOf.ext _) | (with_reducible refine Ext.trans ?_ (ExtOf.ext _)) | (with_reducible refine Ext.alloc ?_ _) | (with_reducible refine Ext.drew ?_) | (with_reducible refine Ext.setCell ?_ ?_ _) | (with_reducible refine Ext.setRow ?_ ?_ _) | (with_reducible exact HX.out) | (with_reducible refine Ext.trans ?_ HX.out) | (with_reducible refine Ext.below ?_ (Nat.le_refl _) _) | omega | (simp; done) | (simp; omega)))) (SliceOf.ext HP.out (by repeat' (first | (with_reducible exact Ext.refl _) | (with_reducible exact ExtOf.ext _) | (with_reducible refine Ext.trans ?_ (ExtOf.ext _)) | (with_reducible refine Ext.alloc ?_ _) | (with_reducible refine Ext.drew ?_) | (with_reducible refine Ext.setCell ?_ ?_ _) | (with_reducible refine Ext.setRow ?_ ?_ _) | (with_reducible exact HX.out) | (with_reducible refine Ext.trans ?_ HX.out) | (with_reducible refine Ext.below ?_ (Nat.le_refl _) _) | omega | (simp; done) | (simp; omega))))).mono ?_; rintro e w' ⟨rfl, np, rfl⟩) | (go_at_call 46; refine (rdCheck_any ds _ _ (SliceOf.ext HD.out (by repeat' (first | (with_reducible exact Ext.refl _) | (with_reducible exact ExtOf.ext _) | (with_reducible refine Ext.trans ?_ (ExtOf.ext _)) | (with_reducible refine Ext.alloc ?_ _) | (with_reducible refine Ext.drew ?_) | (with_reducible refine Ext.setCell ?_ ?_ _) | (with_reducible refine Ext.setRow ?_ ?_ _) | (with_reducible exact HX.out) | (with_reducible refine Ext.trans ?_ HX.out) | (with_reducible refine Ext.below ?_ (Nat.le_refl _) _) | omega | (simp; done) | (simp; omega))))).mono ?_; rintro e w' ⟨rfl, nd, rfl⟩) | (go_at_call 54; refine (green_any _ _ _ _ _ _ _ _).mono ?_; rintro e w' ⟨rfl, n, rfl⟩))
    go_ret
    exact ⟨ret_int HE.out.symm, by exact ExtOf.of (by repeat' (first | (with_reducible exact Ext.refl _) | (with_reducible exact ExtOf.ext _) | (with_reducible refine Ext.trans ?_ (ExtOf.ext _)) | (with_reducible refine Ext.alloc ?_ _) | (with_reducible refine Ext.drew ?_) | (with_reducible refine Ext.setCell ?_ ?_ _) | (with_reducible refine Ext.setRow ?_ ?_ _) | (with_reducible exact HX.out) | (with_reducible refine Ext.trans ?_ HX.out) | (with_reducible refine Ext.below ?_ (Nat.le_refl _) _) | omega | (simp; done) | (simp; omega)))⟩
  have s3' : decide (kerf < 0) = false := decide_eq_false s3
  by_cases s4 : 20 < kerf
  · have HE : Hid (E = 9) := Lib.hid (H9.out (by omega))
    go_enter Tryz.func42, Tryz.ntmps42
    go_wp2_with (first | ((with_reducible apply wl_load' lwPd); (· (first | exact wanted_none rfl | exact wanted_some rfl rfl rfl)); (· rfl); (· infer_instance); (· rfl)) | ((with_reducible apply wl_load' lwBd); (· (first | exact wanted_none rfl | exact wanted_some rfl rfl rfl)); (· rfl); (· infer_instance); (· rfl)) | (go_at_call 53; refine (pCheck_any ⟨nm, th, wi, al, wn, ls, ps⟩ _ _ _ _ inferInstance (SliceOf.ext HL.out (by repeat' (first | (with_reducible exact Ext.refl _) | (with_reducible exact ExtOf.ext _) | (with_reducible refine Ext.trans ?_ (ExtOf.ext _)) | (with_reducible refine Ext.alloc ?_ _) | (with_reducible refine Ext.drew ?_) | (with_reducible refine Ext.setCell ?_ ?_ _) | (with_reducible refine Ext.setRow ?_ ?_ _) | (with_reducible exact HX.out) | (with_reducible refine Ext.trans ?_ HX.out) | (with_reducible refine Ext.below ?_ (Nat.le_refl _) _) | omega | (simp; done) | (simp; omega)))) (SliceOf.ext HP.out (by repeat' (first | (with_reducible exact Ext.refl _) | (with_reducible exact ExtOf.ext _) | (with_reducible refine Ext.trans ?_ (ExtOf.ext _)) | (with_reducible refine Ext.alloc ?_ _) | (with_reducible refine Ext.drew ?_) | (with_reducible refine Ext.setCell ?_ ?_ _) | (with_reducible refine Ext.setRow ?_ ?_ _) | (with_reducible exact HX.out) | (with_reducible refine Ext.trans ?_ HX.out) | (with_reducible refine Ext.below ?_ (Nat.le_refl _) _) | omega | (simp; done) | (simp; omega))))).mono ?_; rintro e w' ⟨rfl, np, rfl⟩) | (go_at_call 38; refine (dCheck_any ds _ _ (SliceOf.ext HD.out (by repeat' (first | (with_reducible exact Ext.refl _) | (with_reducible exact ExtOf.ext _) | (with_reducible refine Ext.trans ?_ (ExtOf.ext _)) | (with_reducible refine Ext.alloc ?_ _) | (with_reducible refine Ext.drew ?_) | (with_reducible refine Ext.setCell ?_ ?_ _) | (with_reducible refine Ext.setRow ?_ ?_ _) | (with_reducible exact HX.out) | (with_reducible refine Ext.trans ?_ HX.out) | (with_reducible refine Ext.below ?_ (Nat.le_refl _) _) | omega | (simp; done) | (simp; omega))))).mono ?_; rintro e w' ⟨rfl, nd, rfl⟩) | (go_at_call 65; refine (rpCheck_any ⟨nm, th, wi, al, wn, ls, ps⟩ _ _ _ _ inferInstance (SliceOf.ext HL.out (by repeat' (first | (with_reducible exact Ext.refl _) | (with_reducible exact ExtOf.ext _) | (with_reducible refine Ext.trans ?_ (ExtOf.ext _)) | (with_reducible refine Ext.alloc ?_ _) | (with_reducible refine Ext.drew ?_) | (with_reducible refine Ext.setCell ?_ ?_ _) | (with_reducible refine Ext.setRow ?_ ?_ _) | (with_reducible exact HX.out) | (with_reducible refine Ext.trans ?_ HX.out) | (with_reducible refine Ext.below ?_ (Nat.le_refl _) _) | omega | (simp; done) | (simp; omega)))) (SliceOf.ext HP.out (by repeat' (first | (with_reducible exact Ext.refl _) | (with_reducible exact ExtOf.ext _) | (with_reducible refine Ext.trans ?_ (ExtOf.ext _)) | (with_reducible refine Ext.alloc ?_ _) | (with_reducible refine Ext.drew ?_) | (with_reducible refine Ext.setCell ?_ ?_ _) | (with_reducible refine Ext.setRow ?_ ?_ _) | (with_reducible exact HX.out) | (with_reducible refine Ext.trans ?_ HX.out) | (with_reducible refine Ext.below ?_ (Nat.le_refl _) _) | omega | (simp; done) | (simp; omega))))).mono ?_; rintro e w' ⟨rfl, np, rfl⟩) | (go_at_call 46; refine (rdCheck_any ds _ _ (SliceOf.ext HD.out (by repeat' (first | (with_reducible exact Ext.refl _) | (with_reducible exact ExtOf.ext _) | (with_reducible refine Ext.trans ?_ (ExtOf.ext _)) | (with_reducible refine Ext.alloc ?_ _) | (with_reducible refine Ext.drew ?_) | (with_reducible refine Ext.setCell ?_ ?_ _) | (with_reducible refine Ext.setRow ?_ ?_ _) | (with_reducible exact HX.out) | (with_reducible refine Ext.trans ?_ HX.out) | (with_reducible refine Ext.below ?_ (Nat.le_refl _) _) | omega | (simp; done) | (simp; omega))))).mono ?_; rintro e w' ⟨rfl, nd, rfl⟩) | (go_at_call 54; refine (green_any _ _ _ _ _ _ _ _).mono ?_; rintro e w' ⟨rfl, n, rfl⟩))
    go_ret
    exact ⟨ret_int HE.out.symm, by exact ExtOf.of (by repeat' (first | (with_reducible exact Ext.refl _) | (with_reducible exact ExtOf.ext _) | (with_reducible refine Ext.trans ?_ (ExtOf.ext _)) | (with_reducible refine Ext.alloc ?_ _) | (with_reducible refine Ext.drew ?_) | (with_reducible refine Ext.setCell ?_ ?_ _) | (with_reducible refine Ext.setRow ?_ ?_ _) | (with_reducible exact HX.out) | (with_reducible refine Ext.trans ?_ HX.out) | (with_reducible refine Ext.below ?_ (Nat.le_refl _) _) | omega | (simp; done) | (simp; omega)))⟩
  have s4' : decide (20 < kerf) = false := decide_eq_false s4
  by_cases s5 : fine < 0
  · have HE : Hid (E = 9) := Lib.hid (H9.out (by omega))
    go_enter Tryz.func42, Tryz.ntmps42
    go_wp2_with (first | ((with_reducible apply wl_load' lwPd); (· (first | exact wanted_none rfl | exact wanted_some rfl rfl rfl)); (· rfl); (· infer_instance); (· rfl)) | ((with_reducible apply wl_load' lwBd); (· (first | exact wanted_none rfl | exact wanted_some rfl rfl rfl)); (· rfl); (· infer_instance); (· rfl)) | (go_at_call 53; refine (pCheck_any ⟨nm, th, wi, al, wn, ls, ps⟩ _ _ _ _ inferInstance (SliceOf.ext HL.out (by repeat' (first | (with_reducible exact Ext.refl _) | (with_reducible exact ExtOf.ext _) | (with_reducible refine Ext.trans ?_ (ExtOf.ext _)) | (with_reducible refine Ext.alloc ?_ _) | (with_reducible refine Ext.drew ?_) | (with_reducible refine Ext.setCell ?_ ?_ _) | (with_reducible refine Ext.setRow ?_ ?_ _) | (with_reducible exact HX.out) | (with_reducible refine Ext.trans ?_ HX.out) | (with_reducible refine Ext.below ?_ (Nat.le_refl _) _) | omega | (simp; done) | (simp; omega)))) (SliceOf.ext HP.out (by repeat' (first | (with_reducible exact Ext.refl _) | (with_reducible exact ExtOf.ext _) | (with_reducible refine Ext.trans ?_ (ExtOf.ext _)) | (with_reducible refine Ext.alloc ?_ _) | (with_reducible refine Ext.drew ?_) | (with_reducible refine Ext.setCell ?_ ?_ _) | (with_reducible refine Ext.setRow ?_ ?_ _) | (with_reducible exact HX.out) | (with_reducible refine Ext.trans ?_ HX.out) | (with_reducible refine Ext.below ?_ (Nat.le_refl _) _) | omega | (simp; done) | (simp; omega))))).mono ?_; rintro e w' ⟨rfl, np, rfl⟩) | (go_at_call 38; refine (dCheck_any ds _ _ (SliceOf.ext HD.out (by repeat' (first | (with_reducible exact Ext.refl _) | (with_reducible exact ExtOf.ext _) | (with_reducible refine Ext.trans ?_ (ExtOf.ext _)) | (with_reducible refine Ext.alloc ?_ _) | (with_reducible refine Ext.drew ?_) | (with_reducible refine Ext.setCell ?_ ?_ _) | (with_reducible refine Ext.setRow ?_ ?_ _) | (with_reducible exact HX.out) | (with_reducible refine Ext.trans ?_ HX.out) | (with_reducible refine Ext.below ?_ (Nat.le_refl _) _) | omega | (simp; done) | (simp; omega))))).mono ?_; rintro e w' ⟨rfl, nd, rfl⟩) | (go_at_call 65; refine (rpCheck_any ⟨nm, th, wi, al, wn, ls, ps⟩ _ _ _ _ inferInstance (SliceOf.ext HL.out (by repeat' (first | (with_reducible exact Ext.refl _) | (with_reducible exact ExtOf.ext _) | (with_reducible refine Ext.trans ?_ (ExtOf.ext _)) | (with_reducible refine Ext.alloc ?_ _) | (with_reducible refine Ext.drew ?_) | (with_reducible refine Ext.setCell ?_ ?_ _) | (with_reducible refine Ext.setRow ?_ ?_ _) | (with_reducible exact HX.out) | (with_reducible refine Ext.trans ?_ HX.out) | (with_reducible refine Ext.below ?_ (Nat.le_refl _) _) | omega | (simp; done) | (simp; omega)))) (SliceOf.ext HP.out (by repeat' (first | (with_reducible exact Ext.refl _) | (with_reducible exact ExtOf.ext _) | (with_reducible refine Ext.trans ?_ (ExtOf.ext _)) | (with_reducible refine Ext.alloc ?_ _) | (with_reducible refine Ext.drew ?_) | (with_reducible refine Ext.setCell ?_ ?_ _) | (with_reducible refine Ext.setRow ?_ ?_ _) | (with_reducible exact HX.out) | (with_reducible refine Ext.trans ?_ HX.out) | (with_reducible refine Ext.below ?_ (Nat.le_refl _) _) | omega | (simp; done) | (simp; omega))))).mono ?_; rintro e w' ⟨rfl, np, rfl⟩) | (go_at_call 46; refine (rdCheck_any ds _ _ (SliceOf.ext HD.out (by repeat' (first | (with_reducible exact Ext.refl _) | (with_reducible exact ExtOf.ext _) | (with_reducible refine Ext.trans ?_ (ExtOf.ext _)) | (with_reducible refine Ext.alloc ?_ _) | (with_reducible refine Ext.drew ?_) | (with_reducible refine Ext.setCell ?_ ?_ _) | (with_reducible refine Ext.setRow ?_ ?_ _) | (with_reducible exact HX.out) | (with_reducible refine Ext.trans ?_ HX.out) | (with_reducible refine Ext.below ?_ (Nat.le_refl _) _) | omega | (simp; done) | (simp; omega))))).mono ?_; rintro e w' ⟨rfl, nd, rfl⟩) | (go_at_call 54; refine (green_any _ _ _ _ _ _ _ _).mono ?_; rintro e w' ⟨rfl, n, rfl⟩))
    go_ret
    exact ⟨ret_int HE.out.symm, by exact ExtOf.of (by repeat' (first | (with_reducible exact Ext.refl _) | (with_reducible exact ExtOf.ext _) | (with_reducible refine Ext.trans ?_ (ExtOf.ext _)) | (with_reducible refine Ext.alloc ?_ _) | (with_reducible refine Ext.drew ?_) | (with_reducible refine Ext.setCell ?_ ?_ _) | (with_reducible refine Ext.setRow ?_ ?_ _) | (with_reducible exact HX.out) | (with_reducible refine Ext.trans ?_ HX.out) | (with_reducible refine Ext.below ?_ (Nat.le_refl _) _) | omega | (simp; done) | (simp; omega)))⟩
  have s5' : decide (fine < 0) = false := decide_eq_false s5
  by_cases s6 : 1000000 < fine
  · have HE : Hid (E = 9) := Lib.hid (H9.out (by omega))
    go_enter Tryz.func42, Tryz.ntmps42
    go_wp2_with (first | ((with_reducible apply wl_load' lwPd); (· (first | exact wanted_none rfl | exact wanted_some rfl rfl rfl)); (· rfl); (· infer_instance); (· rfl)) | ((with_reducible apply wl_load' lwBd); (· (first | exact wanted_none rfl | exact wanted_some rfl rfl rfl)); (· rfl); (· infer_instance); (· rfl)) | (go_at_call 53; refine (pCheck_any ⟨nm, th, wi, al, wn, ls, ps⟩ _ _ _ _ inferInstance (SliceOf.ext HL.out (by repeat' (first | (with_reducible exact Ext.refl _) | (with_reducible exact ExtOf.ext _) | (with_reducible refine Ext.trans ?_ (ExtOf.ext _)) | (with_reducible refine Ext.alloc ?_ _) | (with_reducible refine Ext.drew ?_) | (with_reducible refine Ext.setCell ?_ ?_ _) | (with_reducible refine Ext.setRow ?_ ?_ _) | (with_reducible exact HX.out) | (with_reducible refine Ext.trans ?_ HX.out) | (with_reducible refine Ext.below ?_ (Nat.le_refl _) _) | omega | (simp; done) | (simp; omega)))) (SliceOf.ext HP.out (by repeat' (first | (with_reducible exact Ext.refl _) | (with_reducible exact ExtOf.ext _) | (with_reducible refine Ext.trans ?_ (ExtOf.ext _)) | (with_reducible refine Ext.alloc ?_ _) | (with_reducible refine Ext.drew ?_) | (with_reducible refine Ext.setCell ?_ ?_ _) | (with_reducible refine Ext.setRow ?_ ?_ _) | (with_reducible exact HX.out) | (with_reducible refine Ext.trans ?_ HX.out) | (with_reducible refine Ext.below ?_ (Nat.le_refl _) _) | omega | (simp; done) | (simp; omega))))).mono ?_; rintro e w' ⟨rfl, np, rfl⟩) | (go_at_call 38; refine (dCheck_any ds _ _ (SliceOf.ext HD.out (by repeat' (first | (with_reducible exact Ext.refl _) | (with_reducible exact ExtOf.ext _) | (with_reducible refine Ext.trans ?_ (ExtOf.ext _)) | (with_reducible refine Ext.alloc ?_ _) | (with_reducible refine Ext.drew ?_) | (with_reducible refine Ext.setCell ?_ ?_ _) | (with_reducible refine Ext.setRow ?_ ?_ _) | (with_reducible exact HX.out) | (with_reducible refine Ext.trans ?_ HX.out) | (with_reducible refine Ext.below ?_ (Nat.le_refl _) _) | omega | (simp; done) | (simp; omega))))).mono ?_; rintro e w' ⟨rfl, nd, rfl⟩) | (go_at_call 65; refine (rpCheck_any ⟨nm, th, wi, al, wn, ls, ps⟩ _ _ _ _ inferInstance (SliceOf.ext HL.out (by repeat' (first | (with_reducible exact Ext.refl _) | (with_reducible exact ExtOf.ext _) | (with_reducible refine Ext.trans ?_ (ExtOf.ext _)) | (with_reducible refine Ext.alloc ?_ _) | (with_reducible refine Ext.drew ?_) | (with_reducible refine Ext.setCell ?_ ?_ _) | (with_reducible refine Ext.setRow ?_ ?_ _) | (with_reducible exact HX.out) | (with_reducible refine Ext.trans ?_ HX.out) | (with_reducible refine Ext.below ?_ (Nat.le_refl _) _) | omega | (simp; done) | (simp; omega)))) (SliceOf.ext HP.out (by repeat' (first | (with_reducible exact Ext.refl _) | (with_reducible exact ExtOf.ext _) | (with_reducible refine Ext.trans ?_ (ExtOf.ext _)) | (with_reducible refine Ext.alloc ?_ _) | (with_reducible refine Ext.drew ?_) | (with_reducible refine Ext.setCell ?_ ?_ _) | (with_reducible refine Ext.setRow ?_ ?_ _) | (with_reducible exact HX.out) | (with_reducible refine Ext.trans ?_ HX.out) | (with_reducible refine Ext.below ?_ (Nat.le_refl _) _) | omega | (simp; done) | (simp; omega))))).mono ?_; rintro e w' ⟨rfl, np, rfl⟩) | (go_at_call 46; refine (rdCheck_any ds _ _ (SliceOf.ext HD.out (by repeat' (first | (with_reducible exact Ext.refl _) | (with_reducible exact ExtOf.ext _) | (with_reducible refine Ext.trans ?_ (ExtOf.ext _)) | (with_reducible refine Ext.alloc ?_ _) | (with_reducible refine Ext.drew ?_) | (with_reducible refine Ext.setCell ?_ ?_ _) | (with_reducible refine Ext.setRow ?_ ?_ _) | (with_reducible exact HX.out) | (with_reducible refine Ext.trans ?_ HX.out) | (with_reducible refine Ext.below ?_ (Nat.le_refl _) _) | omega | (simp; done) | (simp; omega))))).mono ?_; rintro e w' ⟨rfl, nd, rfl⟩) | (go_at_call 54; refine (green_any _ _ _ _ _ _ _ _).mono ?_; rintro e w' ⟨rfl, n, rfl⟩))
    go_ret
    exact ⟨ret_int HE.out.symm, by exact ExtOf.of (by repeat' (first | (with_reducible exact Ext.refl _) | (with_reducible exact ExtOf.ext _) | (with_reducible refine Ext.trans ?_ (ExtOf.ext _)) | (with_reducible refine Ext.alloc ?_ _) | (with_reducible refine Ext.drew ?_) | (with_reducible refine Ext.setCell ?_ ?_ _) | (with_reducible refine Ext.setRow ?_ ?_ _) | (with_reducible exact HX.out) | (with_reducible refine Ext.trans ?_ HX.out) | (with_reducible refine Ext.below ?_ (Nat.le_refl _) _) | omega | (simp; done) | (simp; omega)))⟩
  have s6' : decide (1000000 < fine) = false := decide_eq_false s6
  have H10 : Hid (E = if (⟨xa, xb, ya, yb, za, zb⟩ : Bx).empty then 19 else if ¬ (⟨xa, xb, ya, yb, za, zb⟩ : Bx).ranged then 9 else if ¬ (xb - xa = grT th wi al ∧ yb - ya = grW th wi al ∨ xb - xa = grW th wi al ∧ yb - ya = grT th wi al) then 20 else 0) := Lib.hid (by
    rw [HC.out]
    unfold chkR
    rw [if_neg (by rw [P0.out]; decide), if_neg (by rw [D0.out]; decide), if_neg (by omega)]
    simp only [← HGR.out])
  clear H9
  go_enter Tryz.func42, Tryz.ntmps42
  go_wp2_with (first | ((with_reducible apply wl_load' lwPd); (· (first | exact wanted_none rfl | exact wanted_some rfl rfl rfl)); (· rfl); (· infer_instance); (· rfl)) | ((with_reducible apply wl_load' lwBd); (· (first | exact wanted_none rfl | exact wanted_some rfl rfl rfl)); (· rfl); (· infer_instance); (· rfl)) | (go_at_call 53; refine (pCheck_any ⟨nm, th, wi, al, wn, ls, ps⟩ _ _ _ _ inferInstance (SliceOf.ext HL.out (by repeat' (first | (with_reducible exact Ext.refl _) | (with_reducible exact ExtOf.ext _) | (with_reducible refine Ext.trans ?_ (ExtOf.ext _)) | (with_reducible refine Ext.alloc ?_ _) | (with_reducible refine Ext.drew ?_) | (with_reducible refine Ext.setCell ?_ ?_ _) | (with_reducible refine Ext.setRow ?_ ?_ _) | (with_reducible exact HX.out) | (with_reducible refine Ext.trans ?_ HX.out) | (with_reducible refine Ext.below ?_ (Nat.le_refl _) _) | omega | (simp; done) | (simp; omega)))) (SliceOf.ext HP.out (by repeat' (first | (with_reducible exact Ext.refl _) | (with_reducible exact ExtOf.ext _) | (with_reducible refine Ext.trans ?_ (ExtOf.ext _)) | (with_reducible refine Ext.alloc ?_ _) | (with_reducible refine Ext.drew ?_) | (with_reducible refine Ext.setCell ?_ ?_ _) | (with_reducible refine Ext.setRow ?_ ?_ _) | (with_reducible exact HX.out) | (with_reducible refine Ext.trans ?_ HX.out) | (with_reducible refine Ext.below ?_ (Nat.le_refl _) _) | omega | (simp; done) | (simp; omega))))).mono ?_; rintro e w' ⟨rfl, np, rfl⟩) | (go_at_call 38; refine (dCheck_any ds _ _ (SliceOf.ext HD.out (by repeat' (first | (with_reducible exact Ext.refl _) | (with_reducible exact ExtOf.ext _) | (with_reducible refine Ext.trans ?_ (ExtOf.ext _)) | (with_reducible refine Ext.alloc ?_ _) | (with_reducible refine Ext.drew ?_) | (with_reducible refine Ext.setCell ?_ ?_ _) | (with_reducible refine Ext.setRow ?_ ?_ _) | (with_reducible exact HX.out) | (with_reducible refine Ext.trans ?_ HX.out) | (with_reducible refine Ext.below ?_ (Nat.le_refl _) _) | omega | (simp; done) | (simp; omega))))).mono ?_; rintro e w' ⟨rfl, nd, rfl⟩) | (go_at_call 65; refine (rpCheck_any ⟨nm, th, wi, al, wn, ls, ps⟩ _ _ _ _ inferInstance (SliceOf.ext HL.out (by repeat' (first | (with_reducible exact Ext.refl _) | (with_reducible exact ExtOf.ext _) | (with_reducible refine Ext.trans ?_ (ExtOf.ext _)) | (with_reducible refine Ext.alloc ?_ _) | (with_reducible refine Ext.drew ?_) | (with_reducible refine Ext.setCell ?_ ?_ _) | (with_reducible refine Ext.setRow ?_ ?_ _) | (with_reducible exact HX.out) | (with_reducible refine Ext.trans ?_ HX.out) | (with_reducible refine Ext.below ?_ (Nat.le_refl _) _) | omega | (simp; done) | (simp; omega)))) (SliceOf.ext HP.out (by repeat' (first | (with_reducible exact Ext.refl _) | (with_reducible exact ExtOf.ext _) | (with_reducible refine Ext.trans ?_ (ExtOf.ext _)) | (with_reducible refine Ext.alloc ?_ _) | (with_reducible refine Ext.drew ?_) | (with_reducible refine Ext.setCell ?_ ?_ _) | (with_reducible refine Ext.setRow ?_ ?_ _) | (with_reducible exact HX.out) | (with_reducible refine Ext.trans ?_ HX.out) | (with_reducible refine Ext.below ?_ (Nat.le_refl _) _) | omega | (simp; done) | (simp; omega))))).mono ?_; rintro e w' ⟨rfl, np, rfl⟩) | (go_at_call 46; refine (rdCheck_any ds _ _ (SliceOf.ext HD.out (by repeat' (first | (with_reducible exact Ext.refl _) | (with_reducible exact ExtOf.ext _) | (with_reducible refine Ext.trans ?_ (ExtOf.ext _)) | (with_reducible refine Ext.alloc ?_ _) | (with_reducible refine Ext.drew ?_) | (with_reducible refine Ext.setCell ?_ ?_ _) | (with_reducible refine Ext.setRow ?_ ?_ _) | (with_reducible exact HX.out) | (with_reducible refine Ext.trans ?_ HX.out) | (with_reducible refine Ext.below ?_ (Nat.le_refl _) _) | omega | (simp; done) | (simp; omega))))).mono ?_; rintro e w' ⟨rfl, nd, rfl⟩) | (go_at_call 54; refine (green_any _ _ _ _ _ _ _ _).mono ?_; rintro e w' ⟨rfl, n, rfl⟩))
  have HX : Hid (Ext w nd.val) := Lib.hid (by repeat' (first | (with_reducible exact Ext.refl _) | (with_reducible exact ExtOf.ext _) | (with_reducible refine Ext.trans ?_ (ExtOf.ext _)) | (with_reducible refine Ext.alloc ?_ _) | (with_reducible refine Ext.drew ?_) | (with_reducible refine Ext.setCell ?_ ?_ _) | (with_reducible refine Ext.setRow ?_ ?_ _) | (with_reducible exact HX.out) | (with_reducible refine Ext.trans ?_ HX.out) | (with_reducible refine Ext.below ?_ (Nat.le_refl _) _) | omega | (simp; done) | (simp; omega)))
  have hbd : Block nd.val w.heap.size #[.string id, .string lg, .string sp, .int .i64 pr, .int .i64 xa, .int .i64 xb, .int .i64 ya, .int .i64 yb, .int .i64 za, .int .i64 zb, .int .i64 vol, .slice q ds.length cap, .int .i64 wa, .int .i64 su, .int .i64 co, .int .i64 st, .bool dr, .int .i64 gr] := inferInstance
  have hpd : Block nd.val (w.heap.size + 1) #[.string nm, .int .i64 th, .int .i64 wi, .int .i64 al, .int .i64 wn, .slice lq ls.length lcap, .slice pq ps.length pcap] := inferInstance
  generalize nd.val = Wn at *
  by_cases em : (⟨xa, xb, ya, yb, za, zb⟩ : Bx).empty = true
  · have HE : Hid (E = 19) := Lib.hid (by rw [H10.out]; (rw [if_pos em]))
    go_wp2_with (first | ((with_reducible apply wl_load' lwPd); (· (first | exact wanted_none rfl | exact wanted_some rfl rfl rfl)); (· rfl); (· infer_instance); (· rfl)) | ((with_reducible apply wl_load' lwBd); (· (first | exact wanted_none rfl | exact wanted_some rfl rfl rfl)); (· rfl); (· infer_instance); (· rfl)) | ((with_reducible apply wl_loadB midSpan); (· (first | exact wanted_none rfl | exact wanted_some rfl rfl rfl)); (· rfl); (· infer_instance); (· rfl); (· rfl)) | ((with_reducible apply wl_loadB midBox); (· (first | exact wanted_none rfl | exact wanted_some rfl rfl rfl)); (· rfl); (· infer_instance); (· rfl); (· rfl)) | (go_at_call 66; refine (rEmpty_any ⟨xa, xb, ya, yb, za, zb⟩ _).mono ?_; rintro e w' ⟨rfl, ne, rfl⟩) | (go_at_call 67; refine (beyond_any _ _ _ _ _).mono ?_; rintro e w' ⟨rfl, nb, rfl⟩) | (go_at_call 68; refine (rGreen26_any _ _ _ _ _ _ _ ⟨xa, xb, ya, yb, za, zb⟩ _ (by simp only; omega) (by simp only; omega)).mono ?_; rintro e w' ⟨rfl, ng, rfl⟩))
    go_ret
    exact ⟨ret_int HE.out.symm, by exact ExtOf.of (by repeat' (first | (with_reducible exact Ext.refl _) | (with_reducible exact ExtOf.ext _) | (with_reducible refine Ext.trans ?_ (ExtOf.ext _)) | (with_reducible refine Ext.alloc ?_ _) | (with_reducible refine Ext.drew ?_) | (with_reducible refine Ext.setCell ?_ ?_ _) | (with_reducible refine Ext.setRow ?_ ?_ _) | (with_reducible exact HX.out) | (with_reducible refine Ext.trans ?_ HX.out) | (with_reducible refine Ext.below ?_ (Nat.le_refl _) _) | omega | (simp; done) | (simp; omega)))⟩
  replace em : (⟨xa, xb, ya, yb, za, zb⟩ : Bx).empty = false := by simpa using em
  have hem := em
  simp only [Bx.empty, ge_iff_le, Bool.or_eq_false_iff, decide_eq_false_iff_not] at hem
  obtain ⟨⟨hx1, hy1⟩, hz1⟩ := hem
  have RG : Hid ((⟨xa, xb, ya, yb, za, zb⟩ : Bx).ranged = (!bey xa xb (-600) 600 && !bey ya yb (-600) 600 && !bey za zb 0 20000)) := Lib.hid (by
    rw [ranged_eq, bey_eq (by omega), bey_eq (by omega), bey_eq (by omega)]; simp)
  replace H10 : Hid (E = if ¬ (⟨xa, xb, ya, yb, za, zb⟩ : Bx).ranged then 9 else if ¬ (xb - xa = grT th wi al ∧ yb - ya = grW th wi al ∨ xb - xa = grW th wi al ∧ yb - ya = grT th wi al) then 20 else 0) := Lib.hid (by rw [H10.out, if_neg]; rw [em]; decide)
  rcases b1 : bey xa xb (-600) 600 with _ | _
  · rcases b2 : bey ya yb (-600) 600 with _ | _
    · rcases b3 : bey za zb 0 20000 with _ | _
      · replace H10 : Hid (E = if ¬ (xb - xa = grT th wi al ∧ yb - ya = grW th wi al ∨ xb - xa = grW th wi al ∧ yb - ya = grT th wi al) then 20 else 0) := Lib.hid (by rw [H10.out, if_neg]; rw [RG.out, b1, b2, b3]; decide)
        have g1 := b1
        have g2 := b2
        rw [bey_eq (by omega)] at g1 g2
        simp at g1 g2
        have q1 : -600 ≤ xa ∧ xb ≤ 600 := by omega
        have q2 : -600 ≤ ya ∧ yb ≤ 600 := by omega
        clear g1 g2
        rcases f1 : fit (xb - xa) (yb - ya) (grT th wi al) (grW th wi al) with _ | _
        · have HE : Hid (E = 20) := Lib.hid (by rw [H10.out]; (rw [if_pos]; simp [fit] at f1; omega))
          go_wp2_with (first | ((with_reducible apply wl_load' lwPd); (· (first | exact wanted_none rfl | exact wanted_some rfl rfl rfl)); (· rfl); (· infer_instance); (· rfl)) | ((with_reducible apply wl_load' lwBd); (· (first | exact wanted_none rfl | exact wanted_some rfl rfl rfl)); (· rfl); (· infer_instance); (· rfl)) | ((with_reducible apply wl_loadB midSpan); (· (first | exact wanted_none rfl | exact wanted_some rfl rfl rfl)); (· rfl); (· infer_instance); (· rfl); (· rfl)) | ((with_reducible apply wl_loadB midBox); (· (first | exact wanted_none rfl | exact wanted_some rfl rfl rfl)); (· rfl); (· infer_instance); (· rfl); (· rfl)) | (go_at_call 66; refine (rEmpty_any ⟨xa, xb, ya, yb, za, zb⟩ _).mono ?_; rintro e w' ⟨rfl, ne, rfl⟩) | (go_at_call 67; refine (beyond_any _ _ _ _ _).mono ?_; rintro e w' ⟨rfl, nb, rfl⟩) | (go_at_call 68; refine (rGreen26_any _ _ _ _ _ _ _ ⟨xa, xb, ya, yb, za, zb⟩ _ (by simp only; omega) (by simp only; omega)).mono ?_; rintro e w' ⟨rfl, ng, rfl⟩))
          go_ret
          exact ⟨ret_int HE.out.symm, by exact ExtOf.of (by repeat' (first | (with_reducible exact Ext.refl _) | (with_reducible exact ExtOf.ext _) | (with_reducible refine Ext.trans ?_ (ExtOf.ext _)) | (with_reducible refine Ext.alloc ?_ _) | (with_reducible refine Ext.drew ?_) | (with_reducible refine Ext.setCell ?_ ?_ _) | (with_reducible refine Ext.setRow ?_ ?_ _) | (with_reducible exact HX.out) | (with_reducible refine Ext.trans ?_ HX.out) | (with_reducible refine Ext.below ?_ (Nat.le_refl _) _) | omega | (simp; done) | (simp; omega)))⟩
        · have HE : Hid (E = 0) := Lib.hid (by rw [H10.out]; (rw [if_neg]; simp [fit] at f1; omega))
          go_wp2_with (first | ((with_reducible apply wl_load' lwPd); (· (first | exact wanted_none rfl | exact wanted_some rfl rfl rfl)); (· rfl); (· infer_instance); (· rfl)) | ((with_reducible apply wl_load' lwBd); (· (first | exact wanted_none rfl | exact wanted_some rfl rfl rfl)); (· rfl); (· infer_instance); (· rfl)) | ((with_reducible apply wl_loadB midSpan); (· (first | exact wanted_none rfl | exact wanted_some rfl rfl rfl)); (· rfl); (· infer_instance); (· rfl); (· rfl)) | ((with_reducible apply wl_loadB midBox); (· (first | exact wanted_none rfl | exact wanted_some rfl rfl rfl)); (· rfl); (· infer_instance); (· rfl); (· rfl)) | (go_at_call 66; refine (rEmpty_any ⟨xa, xb, ya, yb, za, zb⟩ _).mono ?_; rintro e w' ⟨rfl, ne, rfl⟩) | (go_at_call 67; refine (beyond_any _ _ _ _ _).mono ?_; rintro e w' ⟨rfl, nb, rfl⟩) | (go_at_call 68; refine (rGreen26_any _ _ _ _ _ _ _ ⟨xa, xb, ya, yb, za, zb⟩ _ (by simp only; omega) (by simp only; omega)).mono ?_; rintro e w' ⟨rfl, ng, rfl⟩))
          go_ret
          exact ⟨ret_int HE.out.symm, by exact ExtOf.of (by repeat' (first | (with_reducible exact Ext.refl _) | (with_reducible exact ExtOf.ext _) | (with_reducible refine Ext.trans ?_ (ExtOf.ext _)) | (with_reducible refine Ext.alloc ?_ _) | (with_reducible refine Ext.drew ?_) | (with_reducible refine Ext.setCell ?_ ?_ _) | (with_reducible refine Ext.setRow ?_ ?_ _) | (with_reducible exact HX.out) | (with_reducible refine Ext.trans ?_ HX.out) | (with_reducible refine Ext.below ?_ (Nat.le_refl _) _) | omega | (simp; done) | (simp; omega)))⟩
      · have HE : Hid (E = 9) := Lib.hid (by rw [H10.out]; (rw [if_pos]; rw [RG.out, b3]; simp))
        go_wp2_with (first | ((with_reducible apply wl_load' lwPd); (· (first | exact wanted_none rfl | exact wanted_some rfl rfl rfl)); (· rfl); (· infer_instance); (· rfl)) | ((with_reducible apply wl_load' lwBd); (· (first | exact wanted_none rfl | exact wanted_some rfl rfl rfl)); (· rfl); (· infer_instance); (· rfl)) | ((with_reducible apply wl_loadB midSpan); (· (first | exact wanted_none rfl | exact wanted_some rfl rfl rfl)); (· rfl); (· infer_instance); (· rfl); (· rfl)) | ((with_reducible apply wl_loadB midBox); (· (first | exact wanted_none rfl | exact wanted_some rfl rfl rfl)); (· rfl); (· infer_instance); (· rfl); (· rfl)) | (go_at_call 66; refine (rEmpty_any ⟨xa, xb, ya, yb, za, zb⟩ _).mono ?_; rintro e w' ⟨rfl, ne, rfl⟩) | (go_at_call 67; refine (beyond_any _ _ _ _ _).mono ?_; rintro e w' ⟨rfl, nb, rfl⟩) | (go_at_call 68; refine (rGreen26_any _ _ _ _ _ _ _ ⟨xa, xb, ya, yb, za, zb⟩ _ (by simp only; omega) (by simp only; omega)).mono ?_; rintro e w' ⟨rfl, ng, rfl⟩))
        go_ret
        exact ⟨ret_int HE.out.symm, by exact ExtOf.of (by repeat' (first | (with_reducible exact Ext.refl _) | (with_reducible exact ExtOf.ext _) | (with_reducible refine Ext.trans ?_ (ExtOf.ext _)) | (with_reducible refine Ext.alloc ?_ _) | (with_reducible refine Ext.drew ?_) | (with_reducible refine Ext.setCell ?_ ?_ _) | (with_reducible refine Ext.setRow ?_ ?_ _) | (with_reducible exact HX.out) | (with_reducible refine Ext.trans ?_ HX.out) | (with_reducible refine Ext.below ?_ (Nat.le_refl _) _) | omega | (simp; done) | (simp; omega)))⟩
    · have HE : Hid (E = 9) := Lib.hid (by rw [H10.out]; (rw [if_pos]; rw [RG.out, b2]; simp))
      go_wp2_with (first | ((with_reducible apply wl_load' lwPd); (· (first | exact wanted_none rfl | exact wanted_some rfl rfl rfl)); (· rfl); (· infer_instance); (· rfl)) | ((with_reducible apply wl_load' lwBd); (· (first | exact wanted_none rfl | exact wanted_some rfl rfl rfl)); (· rfl); (· infer_instance); (· rfl)) | ((with_reducible apply wl_loadB midSpan); (· (first | exact wanted_none rfl | exact wanted_some rfl rfl rfl)); (· rfl); (· infer_instance); (· rfl); (· rfl)) | ((with_reducible apply wl_loadB midBox); (· (first | exact wanted_none rfl | exact wanted_some rfl rfl rfl)); (· rfl); (· infer_instance); (· rfl); (· rfl)) | (go_at_call 66; refine (rEmpty_any ⟨xa, xb, ya, yb, za, zb⟩ _).mono ?_; rintro e w' ⟨rfl, ne, rfl⟩) | (go_at_call 67; refine (beyond_any _ _ _ _ _).mono ?_; rintro e w' ⟨rfl, nb, rfl⟩) | (go_at_call 68; refine (rGreen26_any _ _ _ _ _ _ _ ⟨xa, xb, ya, yb, za, zb⟩ _ (by simp only; omega) (by simp only; omega)).mono ?_; rintro e w' ⟨rfl, ng, rfl⟩))
      go_ret
      exact ⟨ret_int HE.out.symm, by exact ExtOf.of (by repeat' (first | (with_reducible exact Ext.refl _) | (with_reducible exact ExtOf.ext _) | (with_reducible refine Ext.trans ?_ (ExtOf.ext _)) | (with_reducible refine Ext.alloc ?_ _) | (with_reducible refine Ext.drew ?_) | (with_reducible refine Ext.setCell ?_ ?_ _) | (with_reducible refine Ext.setRow ?_ ?_ _) | (with_reducible exact HX.out) | (with_reducible refine Ext.trans ?_ HX.out) | (with_reducible refine Ext.below ?_ (Nat.le_refl _) _) | omega | (simp; done) | (simp; omega)))⟩
  · have HE : Hid (E = 9) := Lib.hid (by rw [H10.out]; (rw [if_pos]; rw [RG.out, b1]; simp))
    go_wp2_with (first | ((with_reducible apply wl_load' lwPd); (· (first | exact wanted_none rfl | exact wanted_some rfl rfl rfl)); (· rfl); (· infer_instance); (· rfl)) | ((with_reducible apply wl_load' lwBd); (· (first | exact wanted_none rfl | exact wanted_some rfl rfl rfl)); (· rfl); (· infer_instance); (· rfl)) | ((with_reducible apply wl_loadB midSpan); (· (first | exact wanted_none rfl | exact wanted_some rfl rfl rfl)); (· rfl); (· infer_instance); (· rfl); (· rfl)) | ((with_reducible apply wl_loadB midBox); (· (first | exact wanted_none rfl | exact wanted_some rfl rfl rfl)); (· rfl); (· infer_instance); (· rfl); (· rfl)) | (go_at_call 66; refine (rEmpty_any ⟨xa, xb, ya, yb, za, zb⟩ _).mono ?_; rintro e w' ⟨rfl, ne, rfl⟩) | (go_at_call 67; refine (beyond_any _ _ _ _ _).mono ?_; rintro e w' ⟨rfl, nb, rfl⟩) | (go_at_call 68; refine (rGreen26_any _ _ _ _ _ _ _ ⟨xa, xb, ya, yb, za, zb⟩ _ (by simp only; omega) (by simp only; omega)).mono ?_; rintro e w' ⟨rfl, ng, rfl⟩))
    go_ret
    exact ⟨ret_int HE.out.symm, by exact ExtOf.of (by repeat' (first | (with_reducible exact Ext.refl _) | (with_reducible exact ExtOf.ext _) | (with_reducible refine Ext.trans ?_ (ExtOf.ext _)) | (with_reducible refine Ext.alloc ?_ _) | (with_reducible refine Ext.drew ?_) | (with_reducible refine Ext.setCell ?_ ?_ _) | (with_reducible refine Ext.setRow ?_ ?_ _) | (with_reducible exact HX.out) | (with_reducible refine Ext.trans ?_ HX.out) | (with_reducible refine Ext.below ?_ (Nat.le_refl _) _) | omega | (simp; done) | (simp; omega)))⟩
end Go.Proofs.YtdalbfanfbeckaaGreatDoor
end
/-
  Chapter 26: lists of lists of numbers; a line that is being built.
-/
section
set_option linter.unusedVariables false
set_option linter.unusedSimpArgs false
namespace Go.Proofs.YtdalbfanfbeckaaGreatDoor
open Go.RowKit TrimM

/-- a row, as a value -/
abbrev RowV := Option Addr × Nat × Nat
def rowV (r : RowV) : Value := .slice r.1 r.2.1 r.2.2
def encR (r : RowV) : List Value := [rowV r]
theorem encR_len (r : RowV) : (encR r).length = 1 := rfl
theorem encR_one (r : RowV) : ∀ u ∈ encR r, u.oneCell' = true := by intro u hu; simp [encR] at hu; subst hu; rfl
theorem infoRow : (Tryz.prog.info? 31).map (fun i => (i.zero, i.size, i.bytes)) = some (some (.slice none 0 0), 1, 24) := by kernel_rfl
theorem infoInt : (Tryz.prog.info? 3).map (fun i => (i.zero, i.size, i.bytes)) = some (some (.int .i64 0), 1, 8) := by kernel_rfl
/-- v is a list of lists -/
def GridI (w : World) (v : Value) (G : List (List Int)) : Prop :=
  ∃ rs : List RowV, SliceOf encR 1 w v rs ∧ rs.length = G.length ∧ ∀ (i : Nat) r l, rs[i]? = some r → G[i]? = some l → IntS w (rowV r) l
theorem GridI.ext {w w' : World} {v : Value} {G : List (List Int)} (h : GridI w v G) (hx : Ext w w') : GridI w' v G := by
  obtain ⟨rs, h1, h2, h3⟩ := h
  exact ⟨rs, SliceOf.ext h1 hx, h2, fun i r l hr hl => SliceOf.ext (h3 i r l hr hl) hx⟩
theorem GridI.form {w : World} {v : Value} {G : List (List Int)} (h : GridI w v G) : ∃ p cap, v = .slice p G.length cap ∧ G.length ≤ cap ∧ cap ≤ maxLen ∧ (p = none → cap = 0) := by
  obtain ⟨rs, h1, h2, _⟩ := h
  rw [← h2]
  exact SliceOf.form h1
theorem GridI.row {w : World} {p : Option Addr} {n cap : Nat} {G : List (List Int)} (h : GridI w (.slice p n cap) G) {i : Nat} (hi : i < G.length) :
    ∃ b off rp rc, p = some ⟨b, off, none⟩ ∧ Old b w ∧ w.cell? ⟨b, off + i, none⟩ = some (.slice rp G[i].length rc) ∧ IntS w (.slice rp G[i].length rc) G[i] := by
  obtain ⟨rs, h1, h2, h3⟩ := h
  have hi' : i < rs.length := by omega
  obtain ⟨b, off, e1, e2, e3⟩ := SliceOf.elem1 h1 hi' (u := rowV rs[i]) rfl
  have hb := h3 i rs[i] G[i] (List.getElem?_eq_getElem hi') (List.getElem?_eq_getElem hi)
  obtain ⟨rp, rc, er, _⟩ := SliceOf.form hb
  rw [er] at e3 hb
  exact ⟨b, off, rp, rc, e1, e2, e3, hb⟩
theorem SliceOf.set_other {α : Type} {enc : α → List Value} {k : Nat} {w : World} {p : Option Addr} {n cap : Nat} {l : List α} (h : SliceOf enc k w (.slice p n cap) l) {g i : Nat} {x : Value} (hne : ∀ a, p = some a → a.block ≠ g) : SliceOf enc k (w.setCell ⟨g, i, none⟩ x) (.slice p n cap) l := by
  obtain ⟨p', cap', e, h1, h2, h3, h4⟩ := h
  refine ⟨p', cap', e, h1, h2, h3, fun j y hj => ?_⟩
  obtain ⟨b, off, hp, hc⟩ := h4 j y hj
  simp only [Value.slice.injEq] at e
  obtain ⟨rfl, _, _⟩ := e
  have hb := hne _ hp
  refine ⟨b, off, hp, fun t u ht => ?_⟩
  rw [World.cell?_setCell_other _ _ _ _ (by simp; intro hh; exact absurd hh.symm hb)]
  exact hc t u ht
theorem Own.set_low {α : Type} {enc : α → List Value} {k E base g i : Nat} {w : World} {v : Value} {r : List α} (h : Own enc k E base w v r) (hg : g < base) (x : Value) : Own enc k E base (w.setCell ⟨g, i, none⟩ x) v r := by
  refine ⟨h.1, ?_⟩
  rcases h.2 with hn | ⟨g', cap, cur, rfl, hb, hgg, rest⟩
  · exact .inl hn
  · refine .inr ⟨g', cap, cur, rfl, hb, ?_, rest⟩
    rw [Below.heap_setCell _ _ _ _ (show g' ≠ g by omega)]
    exact hgg
/-- a row of the line that is being built -/
structure RowSt (w : World) (B : Nat) (vs vg : Value) (r : RowV) (row : List Int) : Prop where
  sl : IntS w (rowV r) row
  at_ : ∀ a, r.1 = some a → B ≤ a.block ∧ a.block < w.heap.size ∧ vs.ownBlock ≠ some a.block ∧ vg.ownBlock ≠ some a.block
/-- a line that is being built -/
structure LineSt (w : World) (B gl : Nat) (un ke : Int) (vs vg : Value) (S : List Int) (G : List (List Int)) : Prop where
  line : Block w gl #[.int .i64 un, .int .i64 ke, .int .i64 1, vs, vg, .slice none 0 0, .slice none 0 0]
  low : gl < B
  size : B ≤ w.heap.size
  ownS : Own encI 1 3 B w vs S
  ownG : ∃ rs : List RowV, Own encR 1 31 B w vg rs ∧ rs.length = G.length ∧ ∀ (i : Nat) r l, rs[i]? = some r → G[i]? = some l → RowSt w B vs vg r l
  apt : Apt vs vg
theorem RowSt.ext {w w' : World} {B : Nat} {vs vg : Value} {r : RowV} {row : List Int} (h : RowSt w B vs vg r row) (hx : Ext w w') : RowSt w' B vs vg r row :=
  ⟨SliceOf.ext h.sl hx, fun a ha => by obtain ⟨h1, h2, h3⟩ := h.at_ a ha; exact ⟨h1, Nat.lt_of_lt_of_le h2 hx.size, h3⟩⟩
theorem LineSt.ext {w w' : World} {B gl : Nat} {un ke : Int} {vs vg : Value} {S : List Int} {G : List (List Int)} (h : LineSt w B gl un ke vs vg S G) (hx : Ext w w') : LineSt w' B gl un ke vs vg S G := by
  obtain ⟨rs, g1, g2, g3⟩ := h.ownG
  exact ⟨h.line.ext hx, h.low, Nat.le_trans h.size hx.size, h.ownS.ext hx, ⟨rs, g1.ext hx, g2, fun i r l hr hl => (g3 i r l hr hl).ext hx⟩, h.apt⟩
theorem RowSt.set {w : World} {B : Nat} {vs vg : Value} {r : RowV} {row : List Int} (h : RowSt w B vs vg r row) {g i : Nat} {x : Value} (hg : g < B) : RowSt (w.setCell ⟨g, i, none⟩ x) B vs vg r row := by
  refine ⟨?_, fun a ha => ?_⟩
  · have := h.sl
    unfold rowV at this ⊢
    exact SliceOf.set_other this (fun a ha => by have := (h.at_ a ha).1; omega)
  · obtain ⟨h1, h2, h3⟩ := h.at_ a ha
    exact ⟨h1, by rw [show (w.setCell ⟨g, i, none⟩ x).heap.size = w.heap.size by simp [World.setCell]]; exact h2, h3⟩
theorem setCell_size (w : World) (p : Addr) (v : Value) : (w.setCell p v).heap.size = w.heap.size := by simp [World.setCell]
instance (w : World) (p : Addr) (v : Value) (cs : Array Value) (t : TypeId) : Block ((w.setCell p v).alloc (.cells cs t)) w.heap.size cs := by
  have := Block.new (w.setCell p v) cs t
  rwa [setCell_size] at this
instance (w : World) (o : Obj) (p : Addr) (v : Value) (cs : Array Value) (t : TypeId) : Block (((w.alloc o).setCell p v).alloc (.cells cs t)) (w.heap.size + 1) cs := by
  have := Block.new ((w.alloc o).setCell p v) cs t
  rw [setCell_size] at this
  simpa using this
/-- the sizes have grown -/
theorem LineSt.pushS {w w1 : World} {B gl : Nat} {un ke : Int} {vs vg vs' : Value} {S S' : List Int} {G : List (List Int)} (h : LineSt w B gl un ke vs vg S G) (hk : Kept w vs w1 vs') (ho : Own encI 1 3 B w1 vs' S') : LineSt (w1.setCell ⟨gl, 3, none⟩ vs') B gl un ke vs' vg S' G := by
  obtain ⟨rs, g1, g2, g3⟩ := h.ownG
  have hl := h.low
  have hgl : gl < w.heap.size := h.line.lt
  have hne : vs.ownBlock ≠ some gl := fun e => by have := (World.ownsRow.lt h.ownS gl e).1; omega
  haveI := hk.block h.line hne
  refine ⟨?_, hl, by rw [setCell_size]; exact Nat.le_trans h.size hk.size, Own.set_low ho hl _, ⟨rs, Own.set_low (hk.other g1 h.apt) hl _, g2, fun i r l hr hl2 => ?_⟩, hk.apt g1 h.apt⟩
  · exact (inferInstance : Block (w1.setCell ⟨gl, 3, none⟩ vs') gl (Array.setIfInBounds _ 3 vs'))
  · refine RowSt.set ⟨?_, fun a ha => ?_⟩ hl
    · have := g3 i r l hr hl2
      exact hk.slice this.sl (fun a ha => (this.at_ a ha).2.2.1)
    · obtain ⟨q1, q2, q3, q4⟩ := (g3 i r l hr hl2).at_ a ha
      exact ⟨q1, Nat.lt_of_lt_of_le q2 hk.size, hk.ne q2 q3, q4⟩
/-- the rows have grown -/
theorem LineSt.pushG {w w1 : World} {B gl : Nat} {un ke : Int} {vs vg vg' : Value} {S : List Int} {G : List (List Int)} {rs : List RowV} {r0 : RowV} {row : List Int} (h : LineSt w B gl un ke vs vg S G) (g1 : Own encR 1 31 B w vg rs) (g2 : rs.length = G.length) (g3 : ∀ (i : Nat) r l, rs[i]? = some r → G[i]? = some l → RowSt w B vs vg r l) (hr0 : RowSt w B vs vg r0 row)
    (hk : Kept w vg w1 vg') (ho : Own encR 1 31 B w1 vg' (rs ++ [r0])) : LineSt (w1.setCell ⟨gl, 4, none⟩ vg') B gl un ke vs vg' S (G ++ [row]) := by
  have hl := h.low
  have hne : vg.ownBlock ≠ some gl := fun e => by have := (World.ownsRow.lt g1 gl e).1; omega
  haveI := hk.block h.line hne
  have key : ∀ r l, RowSt w B vs vg r l → RowSt (w1.setCell ⟨gl, 4, none⟩ vg') B vs vg' r l := fun r l hr => by
    refine RowSt.set ⟨hk.slice hr.sl (fun a ha => (hr.at_ a ha).2.2.2), fun a ha => ?_⟩ hl
    obtain ⟨q1, q2, q3, q4⟩ := hr.at_ a ha
    exact ⟨q1, Nat.lt_of_lt_of_le q2 hk.size, q3, hk.ne q2 q4⟩
  refine ⟨?_, hl, by rw [setCell_size]; exact Nat.le_trans h.size hk.size, Own.set_low (hk.other h.ownS h.apt.symm) hl _, ⟨rs ++ [r0], Own.set_low ho hl _, by simp [g2], fun i r l hr hl2 => ?_⟩, (hk.apt h.ownS h.apt.symm).symm⟩
  · exact (inferInstance : Block (w1.setCell ⟨gl, 4, none⟩ vg') gl (Array.setIfInBounds _ 4 vg'))
  · rcases Nat.lt_trichotomy i rs.length with hi | hi | hi
    · rw [List.getElem?_append_left hi] at hr
      rw [List.getElem?_append_left (by omega)] at hl2
      exact key r l (g3 i r l hr hl2)
    · subst hi
      rw [g2] at hl2
      simp at hr hl2
      subst hr
      subst hl2
      exact key _ _ hr0
    · rw [List.getElem?_eq_none (by simp; omega)] at hr
      cases hr
theorem RowSt.pushS {w w1 : World} {B gl : Nat} {un ke : Int} {vs vg vs' : Value} {S : List Int} {G : List (List Int)} {r : RowV} {row : List Int} (h : LineSt w B gl un ke vs vg S G) (hr : RowSt w B vs vg r row) (hk : Kept w vs w1 vs') : RowSt (w1.setCell ⟨gl, 3, none⟩ vs') B vs' vg r row := by
  refine RowSt.set ⟨hk.slice hr.sl (fun a ha => (hr.at_ a ha).2.2.1), fun a ha => ?_⟩ h.low
  obtain ⟨q1, q2, q3, q4⟩ := hr.at_ a ha
  exact ⟨q1, Nat.lt_of_lt_of_le q2 hk.size, hk.ne q2 q3, q4⟩
/-- where a slice of the call's own lies -/
theorem Own.low {α : Type} {enc : α → List Value} {k E base : Nat} {w : World} {v : Value} {l : List α} (h : Own enc k E base w v l) : ∃ p n cap, v = .slice p n cap ∧ n = l.length ∧ ∀ a, p = some a → base ≤ a.block ∧ a.block < w.heap.size := by
  obtain ⟨hl, ⟨rfl, hn⟩ | ⟨g, cap, cur, rfl, hb, hg, _⟩⟩ := h
  · exact ⟨none, 0, 0, rfl, hn.symm, fun a h => by cases h⟩
  · exact ⟨_, _, cap, rfl, rfl, fun a h => by obtain rfl := Option.some.inj h; exact ⟨hb, (Array.getElem?_eq_some_iff.1 hg).1⟩⟩
theorem Own.formS {α : Type} {enc : α → List Value} {k E base : Nat} {w : World} {v : Value} {l : List α} {y : α} (h : Own enc k E base w v (l ++ [y])) : ∃ g cap, v = .slice (some ⟨g, 0, none⟩) (l.length + 1) cap ∧ base ≤ g ∧ g < w.heap.size := by
  obtain ⟨hl, hn | ⟨g, cap, cur, rfl, hb, hg, _⟩⟩ := h
  · obtain ⟨_, hn⟩ := hn
    simp at hn
  · exact ⟨g, cap, by simp, hb, (Array.getElem?_eq_some_iff.1 hg).1⟩
theorem Block.below {w w' : World} {B b : Nat} {cs : Array Value} (h : Block w b cs) (n : Below B w w') (hb : b < B) : Block w' b cs := ⟨by obtain ⟨t, e⟩ := h.get; exact ⟨t, by rw [n.block b hb]; exact e⟩⟩
/-- what the line holds at the end -/
theorem LineSt.grid {w : World} {B gl : Nat} {un ke : Int} {vs vg : Value} {S : List Int} {G : List (List Int)} (h : LineSt w B gl un ke vs vg S G) : IntS w vs S ∧ GridI w vg G := by
  obtain ⟨rs, g1, g2, g3⟩ := h.ownG
  exact ⟨Own.slice encI_len h.ownS, rs, Own.slice encR_len g1, g2, fun i r l hr hl => (g3 i r l hr hl).sl⟩
theorem SliceOf.same {α : Type} {enc : α → List Value} {k : Nat} {w w' : World} {p : Option Addr} {n cap : Nat} {l : List α} (h : SliceOf enc k w (.slice p n cap) l) (hb : ∀ a, p = some a → w'.heap[a.block]? = w.heap[a.block]?) : SliceOf enc k w' (.slice p n cap) l := by
  obtain ⟨p', cap', e, h1, h2, h3, h4⟩ := h
  refine ⟨p', cap', e, h1, h2, h3, fun j y hj => ?_⟩
  obtain ⟨b, off, hp, hc⟩ := h4 j y hj
  simp only [Value.slice.injEq] at e
  obtain ⟨rfl, _, _⟩ := e
  have hbb := hb _ hp
  refine ⟨b, off, hp, fun t u ht => ?_⟩
  have := hc t u ht
  rw [← this]
  exact World.cell?_of_block (w := w) hbb
/-- what the line holds, where nothing above its box has changed -/
theorem LineSt.gridW {w w' : World} {B gl : Nat} {un ke : Int} {vs vg : Value} {S : List Int} {G : List (List Int)} (h : LineSt w B gl un ke vs vg S G) (hh : ∀ q, B ≤ q → q < w.heap.size → w'.heap[q]? = w.heap[q]?) : IntS w' vs S ∧ GridI w' vg G := by
  obtain ⟨rs, g1, g2, g3⟩ := h.ownG
  obtain ⟨p1, n1, c1, e1, -, q1⟩ := Own.low h.ownS
  obtain ⟨p2, n2, c2, e2, -, q2⟩ := Own.low g1
  have s1 := Own.slice encI_len h.ownS
  have s2 := Own.slice encR_len g1
  subst e1
  subst e2
  refine ⟨SliceOf.same s1 (fun a ha => hh _ (q1 a ha).1 (q1 a ha).2), rs, SliceOf.same s2 (fun a ha => hh _ (q2 a ha).1 (q2 a ha).2), g2, fun i r l hr hl => ?_⟩
  have := g3 i r l hr hl
  exact SliceOf.same this.sl (fun a ha => hh _ (this.at_ a ha).1 (this.at_ a ha).2.1)
theorem tail_heap (wr : World) (o1 o2 : Obj) (v1 v2 : Value) (gl b : Nat) (cs : Array Value) {q : Nat} (hq : q < wr.heap.size) (h1 : q ≠ gl) (h2 : q ≠ b) : (((((wr.alloc o1).setCell ⟨gl, 5, none⟩ v1).alloc o2).setCell ⟨gl, 6, none⟩ v2).setRow b cs).heap[q]? = wr.heap[q]? := by
  simp only [World.setRow, Array.getElem?_modify]
  rw [if_neg (Ne.symm h2), Below.heap_setCell _ _ _ _ h1, Below.heap_alloc _ _ _ (by rw [setCell_size]; simp; omega), Below.heap_setCell _ _ _ _ h1, Below.heap_alloc _ _ _ hq]
/-- a line -/
def LineS (w : World) (L : Ln) (cs : Array Value) : Prop := ∃ vs vg vc vd, cs = #[.int .i64 (L.n : Int), .int .i64 (L.k : Int), .int .i64 1, vs, vg, vc, vd] ∧ IntS w vs (L.sizes.map fun s : Nat => (s : Int)) ∧ GridI w vg L.rows ∧ IntS w vc (List.replicate L.n 0) ∧ IntS w vd (List.replicate L.n 0)
theorem LineS.ext {w w' : World} {L : Ln} {cs : Array Value} (h : LineS w L cs) (hx : Ext w w') : LineS w' L cs := by
  obtain ⟨vs, vg, vc, vd, e, h1, h2, h3, h4⟩ := h
  exact ⟨vs, vg, vc, vd, e, SliceOf.ext h1 hx, h2.ext hx, SliceOf.ext h3 hx, SliceOf.ext h4 hx⟩
theorem LineS.of {w : World} {L : Ln} {u kk : Nat} {vs vg vc vd : Value} {S : List Int} {G : List (List Int)} (hn : L.n = u) (hk : L.k = kk) (hS : S = L.sizes.map fun s : Nat => (s : Int)) (hG : G = L.rows) (h : IntS w vs S ∧ GridI w vg G) (hc : IntS w vc (List.replicate u 0)) (hd : IntS w vd (List.replicate u 0)) : LineS w L #[.int .i64 (u : Int), .int .i64 (kk : Int), .int .i64 1, vs, vg, vc, vd] := by
  subst hS
  subst hG
  refine ⟨vs, vg, vc, vd, by rw [hn, hk], h.1, h.2, by rw [hn]; exact hc, by rw [hn]; exact hd⟩
end Go.Proofs.YtdalbfanfbeckaaGreatDoor
end
