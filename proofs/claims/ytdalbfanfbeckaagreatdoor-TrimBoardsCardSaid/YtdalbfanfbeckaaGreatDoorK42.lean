/-
  Chapter 26: several texts in one (R41, R42).
-/
import Derived.Test.YtdalbfanfbeckaaGreatDoorK50
/-
  Chapter 26: Boards: pieces that can be cut.
-/
section
set_option linter.unusedVariables false
set_option linter.unusedSimpArgs false
namespace Go.Proofs.YtdalbfanfbeckaaGreatDoor
open Go.RowKit TrimM

attribute [local go_sem] ExtOf.cell ExtOf.frozen ExtS.cell ExtS.frozen Block.cell Block.frozen ExtB.cell ExtB.frozen alloc_cell alloc_frozen
theorem chain_mem {L : Ln} : ∀ (l : List Sp) (e : Int), L.chain e l → ∀ x ∈ l, 0 ≤ x.1 ∧ x.1 < L.sizes.length ∧ 0 ≤ x.2 ∧ L.stop x ≤ L.n
  | [], _, _, x, hx => by cases hx
  | y :: l, e, h, x, hx => by
    obtain ⟨h1, h2⟩ := h
    rcases List.mem_cons.1 hx with rfl | hx
    · obtain ⟨a1, a2, a3, a4, _⟩ := pieceE_zero h1
      exact ⟨a1, a2, a3, a4⟩
    · exact chain_mem l _ h2 x hx
theorem LineS.sizesI {w : World} {L : Ln} {a b c : Int} {v3 v4 v5 v6 : Value} (h : LineS w L #[.int .i64 a, .int .i64 b, .int .i64 c, v3, v4, v5, v6]) : IntS w v3 (L.sizes.map fun s : Nat => (s : Int)) := by
  obtain ⟨vs, vg, vc, vd, e, h1, _⟩ := h
  have e3 : v3 = vs := Option.some.inj (show some v3 = some vs from congrArg (fun z : Array Value => z[3]?) e)
  rw [e3]; exact h1
theorem boardsM_take {L : Ln} {step : Int} {P : List Sp} {k : Nat} (hk : k < P.length) {y : Sp} (hy : P[k] = y) : boardsM L step (P.take (k + 1)) = boardsM L step (P.take k) ++ [(y.2 * step, L.stop y * step)] := by
  unfold boardsM
  rw [List.take_succ_eq_append_getElem hk, hy, List.map_append]; rfl
theorem boardsM_len {L : Ln} {step : Int} {P : List Sp} {k : Nat} (hk : k ≤ P.length) : (boardsM L step (P.take k)).length = k := by
  unfold boardsM; rw [List.length_map, List.length_take]; omega
theorem run_loadL {P : Program} {w : World} {dst : Option Tmp} {ty T : TypeId} {n b : Nat} {x : Operand} {pos : String} {aft : Array Edge} {g : Option (Tmp × Bool)} {cs : Array Value} {a : Act} (L : Whole P T n) (hx : a.eval x = .pointer (some ⟨b, 0, none⟩)) (hc : Block w b cs) (hsz : cs.size = n) : (execOp a.eval ⟨dst, .load T x, ty, pos, aft, g⟩).run P w = .ok (.value (.agg cs)) w := run_load_op (o := ⟨dst, .load T x, ty, pos, aft, g⟩) L rfl hx hc hsz
theorem known_endT {F : Nat → Value → World → Prop} {l : List Oper} {mh : List Bool} {a : Act} {w : World} (h : ∀ (i : Nat) (oi : Oper) (d : Tmp), i ∈ idx 0 mh → l[i]? = some oi → oi.dst = some d → F d (a.tmps.getD d undef) w) {d i : Nat} {v : Value} (hi : (idx 0 mh).contains i = true) (he : (match l[i]? with | some o => (match o.dst with | some x => Nat.beq x d | none => false) | none => false) = true) (hv : a.tmps.getD d undef = v) : F d v w := by
  cases ho : l[i]? with
  | none => rw [ho] at he; cases he
  | some o =>
    rw [ho] at he
    cases hd : o.dst with
    | none => simp only [hd] at he; cases he
    | some x =>
      simp only [hd] at he
      obtain rfl : x = d := by simpa using he
      rw [← hv]
      exact h i o x (List.contains_iff_mem.1 hi) ho hd
theorem infoBd : (Tryz.prog.info? 30).map (fun i => (i.zero, i.size, i.bytes)) = some (some (.agg #[.string .empty, .string .empty, .string .empty, .int .i64 0, .int .i64 0, .int .i64 0, .int .i64 0, .int .i64 0, .int .i64 0, .int .i64 0, .int .i64 0, .slice none 0 0, .int .i64 0, .int .i64 0, .int .i64 0, .int .i64 0, .bool false, .int .i64 0]), 18, 184) := by kernel_rfl
theorem addS_mem {l : List Sp} {a b : Int} {y : Sp} (h : y ∈ addS l a b) : y ∈ l ∨ y = (a, b) ∧ a < b := by
  unfold addS at h
  split at h
  · rcases List.mem_append.1 h with h | h
    · exact .inl h
    · exact .inr ⟨by simpa using h, by assumption⟩
  · exact .inl h
theorem dusts_mem {L : Ln} : ∀ (l : List Sp) (e : Int), L.chain e l → ∀ y ∈ L.dusts e l, 0 ≤ y.1 ∧ y.1 < y.2 ∧ y.2 ≤ L.n
  | [], _, _, y, hy => by cases hy
  | x :: l, e, h, y, hy => by
    obtain ⟨h1, h2⟩ := h
    obtain ⟨a1, a2, a3, a4, a5, a6, a7⟩ := pieceE_zero h1
    rcases List.mem_append.1 hy with hy | hy
    · unfold Ln.dustA at hy
      rcases addS_mem hy with hy | ⟨rfl, hlt⟩
      · split at hy
        · rcases addS_mem hy with hy | ⟨rfl, hlt⟩
          · cases hy
          · refine ⟨?_, hlt, ?_⟩
            · show 0 ≤ x.2 - L.k; omega
            · show x.2 ≤ L.n; unfold Ln.stop at a4; omega
        · cases hy
      · refine ⟨?_, hlt, ?_⟩
        · show 0 ≤ L.stop x; unfold Ln.stop; omega
        · show L.behind (L.stop x) ≤ L.n; unfold Ln.behind; split <;> omega
    · exact dusts_mem l _ h2 y hy
/-- what the values of the region that makes a board are -/
def bdA (x : Bd) (b gn : Nat) (vb vds : Value) (z1 z2 : Int) (d : Nat) (v : Value) : Prop := match d with
  | 72 => v = vb
  | 73 => v = .pointer (some ⟨b, 1, none⟩)
  | 74 => v = .string x.lg
  | 75 => v = .pointer (some ⟨b, 2, none⟩)
  | 76 => v = .string x.sp
  | 77 => v = .pointer (some ⟨b, 3, none⟩)
  | 78 => v = .int .i64 x.pr
  | 79 => v = .agg (bdC x vds)
  | 80 => v = .agg #[.int .i64 z1, .int .i64 z2]
  | 81 => v = .agg #[.int .i64 (x.b.slab z1 z2).xa, .int .i64 (x.b.slab z1 z2).xb, .int .i64 (x.b.slab z1 z2).ya, .int .i64 (x.b.slab z1 z2).yb, .int .i64 (x.b.slab z1 z2).za, .int .i64 (x.b.slab z1 z2).zb]
  | 82 => v = .pointer (some ⟨b, 11, none⟩)
  | 83 => v = vds
  | 84 => v = .agg (bdC x vds)
  | 85 => v = .agg #[.int .i64 z1, .int .i64 z2]
  | 86 => v = .agg #[.int .i64 (x.b.part z1 z2).xa, .int .i64 (x.b.part z1 z2).xb, .int .i64 (x.b.part z1 z2).ya, .int .i64 (x.b.part z1 z2).yb, .int .i64 (x.b.part z1 z2).za, .int .i64 (x.b.part z1 z2).zb]
  | 88 => v = .pointer (some ⟨b, 12, none⟩)
  | 89 => v = .int .i64 x.wa
  | 90 => v = .pointer (some ⟨b, 13, none⟩)
  | 91 => v = .agg #[.int .i64 x.su, .int .i64 x.co, .int .i64 x.st]
  | 92 => v = .pointer (some ⟨b, 16, none⟩)
  | 93 => v = .bool x.dr
  | _ => True
/-- new defects in memory -/
def NewD (lo : Nat) (l : List Df) (r : RowV) (w : World) : Prop := DfS w (rowV r) l ∧ ∀ a, r.1 = some a → lo ≤ a.block ∧ a.block < w.heap.size
theorem NewD.ext {lo : Nat} {l : List Df} {r : RowV} {w w' : World} (h : NewD lo l r w) (hx : Ext w w') : NewD lo l r w' := ⟨SliceOf.ext h.1 hx, fun a ha => ⟨(h.2 a ha).1, Nat.lt_of_lt_of_le (h.2 a ha).2 hx.size⟩⟩
def bdF (x : Bd) (lo : Nat) (z1 z2 : Int) (l : List Df) (d : Nat) (v : Value) (w : World) : Prop := match d with
  | 87 => ∃ r : RowV, v = rowV r ∧ NewD lo l r w
  | 94 => ∃ r : RowV, v = .agg (nbC x (rowV r) (x.b.slab z1 z2)) ∧ NewD lo l r w
  | 95 => ∃ (r : RowV) (g : Nat), v = .slice (some ⟨g, 0, none⟩) 1 1 ∧ Block w g (nbC x (rowV r) (x.b.slab z1 z2)) ∧ lo ≤ g ∧ NewD lo l r w
  | _ => True
theorem bdA_some (x : Bd) (b gn : Nat) (vb vds : Value) (z1 z2 : Int) (d : Nat) : ∃ v, bdA x b gn vb vds z1 z2 d v := by
  unfold bdA; split <;> first | exact ⟨_, rfl⟩ | exact ⟨undef, trivial⟩
theorem bdF_keep (x : Bd) (lo : Nat) (z1 z2 : Int) (l : List Df) (d : Nat) (v : Value) (w w' : World) (h : bdF x lo z1 z2 l d v w) (hx : Ext w w') : bdF x lo z1 z2 l d v w' := by
  unfold bdF at *
  split at h
  · obtain ⟨r, h1, h2⟩ := h; exact ⟨r, h1, h2.ext hx⟩
  · obtain ⟨r, h1, h2⟩ := h; exact ⟨r, h1, h2.ext hx⟩
  · obtain ⟨r, g, h1, h2, h3, h4⟩ := h; exact ⟨r, g, h1, h2.ext hx, h3, h4.ext hx⟩
  · trivial
set_option maxHeartbeats 6400000 in
set_option maxRecDepth 20000 in
theorem boards_good (x : Bd) (dv : Value) (ds : List Df) (p : Pdt) (lv pv : Value) (step kerf : Int) (P : List Sp) (vp : Value) (w : World) (hd : DfS w dv ds) (hl : IntS w lv p.ls) (hp : IntS w pv p.ps) (hpp : SpS w vp P) (hPl : P.length ≤ 10000) (h0 : chkE x.b ds p step kerf 0 = 0) (hc : ((TrimM.line x.b ds p step kerf 0).cuts 0 [] [] P).1 = 0) :
    Calls Tryz.prog 6 #[.agg (bdC x dv), .agg (pdC p lv pv), .int .i64 step, .int .i64 kerf, vp] w (BoardsPost x ds p step kerf P w) := by
  obtain ⟨lq, lcap, rfl, hl1, hl2, hl3⟩ := SliceOf.form hl
  obtain ⟨pq, pcap, rfl, hp1, hp2, hp3⟩ := SliceOf.form hp
  obtain ⟨q, cap, rfl, hd1, hd2, hd3⟩ := SliceOf.form hd
  obtain ⟨qq, qcap, rfl, hq1, hq2, hq3⟩ := SliceOf.form hpp
  have HL := Lib.hid hl
  have HP := Lib.hid hp
  have HD := Lib.hid hd
  have HQ := Lib.hid hpp
  clear hl hp hd hpp
  unfold maxLen at hl2 hp2 hd2 hq2
  unfold bdC pdC
  obtain ⟨L, hLd⟩ : ∃ L, L = TrimM.line x.b ds p step kerf 0 := ⟨_, rfl⟩
  have hE : boardsE x.b ds p step kerf P = 0 := by unfold boardsE; rw [if_neg (by rw [h0]; decide), hc]
  have HE := Lib.hid hE
  have HCK := Lib.hid (chkE_zero h0)
  rw [← hLd] at hc
  have hch := cuts_chain P 0 [] [] hc
  have hDu : (L.cuts 0 [] [] P).2.1 = L.dusts 0 P := by rw [cuts_dust P 0 [] [] hch]; rfl
  have HCH := Lib.hid hch
  have HDU := Lib.hid hDu
  have HCZ := Lib.hid hc
  have HLD := Lib.hid hLd
  have h1 : (chkE x.b ds p step kerf 0 != 0) = false := bne_eq_false_iff_eq.2 h0
  have HFI : Hid L.Fine := Lib.hid (by rw [hLd]; exact line_fine (chkE_zero h0))
  have H0 := Lib.hid h0
  have hst := HCK.out.stp
  have hkf := HCK.out.krf
  have hzz := HCK.out.z
  have hun : (L.n : Int) * step ≤ x.b.zb - x.b.za := by rw [hLd]; exact (units_le HCK.out).1
  have hn : L.n ≤ 2000 := HFI.out.n
  clear h0 hE hc hch hDu hLd
  have hmf : ∀ (fn : Fn) (first cap : Array Value) (w : World), (Instr.makeFunc fn first cap).run Tryz.prog w = .ok (.func fn first cap) w := fun _ _ _ _ => rfl
  obtain ⟨iP, hiP, hP0, hP1, hP2⟩ := info_parts infoSpan
  obtain ⟨iR, hiR, hR0, hR1, hR2⟩ := info_parts infoBd
  go_enter_defers Tryz.func6, Tryz.ntmps6
  go_wp2_with (first | ((with_reducible apply wl_load' lwBd); (· (first | exact wanted_none rfl | exact wanted_some rfl rfl rfl)); (· rfl); (· infer_instance); (· rfl)) | ((with_reducible apply wl_load' lwPd); (· (first | exact wanted_none rfl | exact wanted_some rfl rfl rfl)); (· rfl); (· infer_instance); (· rfl)) | (go_at_call 13; refine (line_any x _ ds p _ _ step kerf 0 _ (SliceOf.ext HD.out (by repeat' (first | (with_reducible exact Ext.refl _) | (with_reducible exact ExtOf.ext _) | (with_reducible refine Ext.trans ?_ (ExtOf.ext _)) | (with_reducible refine Ext.alloc ?_ _) | (with_reducible refine Ext.drew ?_) | (with_reducible refine Ext.setCell ?_ ?_ _) | (with_reducible refine Ext.setRow ?_ ?_ _) | (with_reducible exact HX.out) | (with_reducible refine Ext.trans ?_ HX.out) | (with_reducible refine Ext.below ?_ (Nat.le_refl _) _) | omega | (simp; done) | (simp; omega)))) (SliceOf.ext HL.out (by repeat' (first | (with_reducible exact Ext.refl _) | (with_reducible exact ExtOf.ext _) | (with_reducible refine Ext.trans ?_ (ExtOf.ext _)) | (with_reducible refine Ext.alloc ?_ _) | (with_reducible refine Ext.drew ?_) | (with_reducible refine Ext.setCell ?_ ?_ _) | (with_reducible refine Ext.setRow ?_ ?_ _) | (with_reducible exact HX.out) | (with_reducible refine Ext.trans ?_ HX.out) | (with_reducible refine Ext.below ?_ (Nat.le_refl _) _) | omega | (simp; done) | (simp; omega)))) (SliceOf.ext HP.out (by repeat' (first | (with_reducible exact Ext.refl _) | (with_reducible exact ExtOf.ext _) | (with_reducible refine Ext.trans ?_ (ExtOf.ext _)) | (with_reducible refine Ext.alloc ?_ _) | (with_reducible refine Ext.drew ?_) | (with_reducible refine Ext.setCell ?_ ?_ _) | (with_reducible refine Ext.setRow ?_ ?_ _) | (with_reducible exact HX.out) | (with_reducible refine Ext.trans ?_ HX.out) | (with_reducible refine Ext.below ?_ (Nat.le_refl _) _) | omega | (simp; done) | (simp; omega))))).mono ?_; rintro e w' ⟨lv, rfl, hl0, hl1, nl, rfl⟩; (have hls := LineW.here (hl1 H0.out)); rw [← HLD.out] at hls; (have HLS := Lib.hid hls); clear hl0 hl1 hls; (obtain ⟨ps, c0, pg, c1, pc, c2, pd, c3, hlv⟩ := LineS.form HFI.out HLS.out); subst hlv) | ((with_reducible apply wl_store' lwLine); (· (first | exact wanted_none rfl | exact wanted_some rfl rfl rfl)); (· rfl); (· rfl); (· infer_instance); (· rfl); (· rfl); (· (simp [Value.oneCell'])); try simp only [setRow_alloc, setRow_new, setRow_new1, setRow_new2, setRow_new11, setRow_new111]) | ((with_reducible apply wl_load' lwLine); (· (first | exact wanted_none rfl | exact wanted_some rfl rfl rfl)); (· rfl); (· infer_instance); (· rfl)) | (go_at_call 14; refine (cuts_any _ HFI.out _ P _ _ (LineS.ext HLS.out (by repeat' (first | (with_reducible exact Ext.refl _) | (with_reducible exact ExtOf.ext _) | (with_reducible refine Ext.trans ?_ (ExtOf.ext _)) | (with_reducible refine Ext.alloc ?_ _) | (with_reducible refine Ext.drew ?_) | (with_reducible refine Ext.setCell ?_ ?_ _) | (with_reducible refine Ext.setRow ?_ ?_ _) | (with_reducible exact HX.out) | (with_reducible refine Ext.trans ?_ HX.out) | (with_reducible refine Ext.below ?_ (Nat.le_refl _) _) | omega | (simp; done) | (simp; omega)))) (SliceOf.ext HQ.out (by repeat' (first | (with_reducible exact Ext.refl _) | (with_reducible exact ExtOf.ext _) | (with_reducible refine Ext.trans ?_ (ExtOf.ext _)) | (with_reducible refine Ext.alloc ?_ _) | (with_reducible refine Ext.drew ?_) | (with_reducible refine Ext.setCell ?_ ?_ _) | (with_reducible refine Ext.setRow ?_ ?_ _) | (with_reducible exact HX.out) | (with_reducible refine Ext.trans ?_ HX.out) | (with_reducible refine Ext.below ?_ (Nat.le_refl _) _) | omega | (simp; done) | (simp; omega)))) hPl).mono ?_; rintro e w' ⟨vd, vc, rfl, hod, hoc, hap, nc, rfl⟩; rw [HCZ.out]; rw [HDU.out] at hod; (obtain ⟨qd, cdd, rfl⟩ := Own.form2 hod); (have HOD := Lib.hid hod); clear hod hoc hap))
  obtain ⟨gl, hgl⟩ : ∃ g, g = nl.val.heap.size := ⟨_, rfl⟩
  obtain ⟨gT, hgT⟩ : ∃ g, g = nc.val.heap.size := ⟨_, rfl⟩
  have hl2 : w.heap.size + 3 ≤ gl := by rw [hgl]; have := nl.size; simpa using this
  have hT2 : gl + 1 ≤ gT := by rw [hgT, hgl]; have := nc.size; simpa using this
  rw [← hgl, ← hgT]
  refine nameW (R := fun W => Code.wp _ _ _ _ W) (fun W => Hid (Ext w W) ∧ Block W w.heap.size #[.string x.id, .string x.lg, .string x.sp, .int .i64 x.pr, .int .i64 x.b.xa, .int .i64 x.b.xb, .int .i64 x.b.ya, .int .i64 x.b.yb, .int .i64 x.b.za, .int .i64 x.b.zb, .int .i64 x.vol, .slice q ds.length cap, .int .i64 x.wa, .int .i64 x.su, .int .i64 x.co, .int .i64 x.st, .bool x.dr, .int .i64 x.gr] ∧ Block W (w.heap.size + 2) #[.slice none 0 0] ∧ Block W gl #[.int .i64 (L.n : Int), .int .i64 (L.k : Int), .int .i64 1, .slice ps L.sizes.length c0, .slice pg L.sizes.length c1, .slice pc L.n c2, .slice pd L.n c3] ∧ Block W gT #[.slice none 0 0] ∧ Hid (∀ W', Below gT W W' → SpS W' (.slice qd (L.dusts 0 P).length cdd) (L.dusts 0 P)) ∧ Hid (∀ W', Below gT W W' → IntS W' (.slice ps L.sizes.length c0) (L.sizes.map fun s : Nat => (s : Int)))) ⟨Lib.hid (by repeat' (first | (with_reducible exact Ext.refl _) | (with_reducible exact ExtOf.ext _) | (with_reducible refine Ext.trans ?_ (ExtOf.ext _)) | (with_reducible refine Ext.alloc ?_ _) | (with_reducible refine Ext.drew ?_) | (with_reducible refine Ext.setCell ?_ ?_ _) | (with_reducible refine Ext.setRow ?_ ?_ _) | (with_reducible exact HX.out) | (with_reducible refine Ext.trans ?_ HX.out) | (with_reducible refine Ext.below ?_ (Nat.le_refl _) _) | omega | (simp; done) | (simp; omega))), ?_, ?_, ?_, ?_, Lib.hid ?_, Lib.hid ?_⟩ ?_
  · infer_instance
  · infer_instance
  · rw [hgl]; infer_instance
  · rw [hgT]; infer_instance
  · intro W' hW'
    exact SliceOf.ext (Own.slice encSp_len HOD.out) (Below.trans (Below.alloc (Below.refl _ _) (Nat.le_refl _) _) (hgT ▸ hW'))
  · intro W' hW'
    exact SliceOf.ext (SliceOf.ext HLS.out.sizesI (by repeat' (first | (with_reducible exact Ext.refl _) | (with_reducible exact ExtOf.ext _) | (with_reducible refine Ext.trans ?_ (ExtOf.ext _)) | (with_reducible refine Ext.alloc ?_ _) | (with_reducible refine Ext.drew ?_) | (with_reducible refine Ext.setCell ?_ ?_ _) | (with_reducible refine Ext.setRow ?_ ?_ _) | (with_reducible exact HX.out) | (with_reducible refine Ext.trans ?_ HX.out) | (with_reducible refine Ext.below ?_ (Nat.le_refl _) _) | omega | (simp; done) | (simp; omega)))) (Below.trans (Below.alloc (Below.refl _ _) (Nat.le_refl _) _) (hgT ▸ hW'))
  rintro W1 ⟨HX1, hb0, hb2, hbl, hbT, HOD1, HSZ1⟩
  clear hgl hgT HOD HLS nl nc
  go_loopw [10, 48] (fun v10 v wr => ∃ (k : Nat) (vt : Value) (rows : List (RowV × Bx)), k ≤ P.length ∧ v = .int .i64 (k : Int) ∧ BdSt x wr gT v10 vt (.slice none 0 0) rows ((boardsM L step (P.take k)).map fun s => (x.b.slab s.1 s.2, TrimM.clip ds (x.b.part s.1 s.2))) (boardsM L step (P.take k)) [] ∧ Below gT W1 wr) (fun _ v _ => P.length - (intOf v).toNat)
  case atStart => exact ⟨0, _, [], by omega, rfl, ⟨hbT, Own.nil _, Own.nil _, Own.nil _, Apt.nil _, Apt.nil _, Apt.nil _, rfl, fun i r y h => by simp at h⟩, Below.refl _ _⟩
  case round =>
    obtain ⟨k, vt, rows, hk, rfl, hst2, hbel⟩ := hrel
    have HBE := Lib.hid hbel
    have HX : Hid (Ext w wr) := Lib.hid (Below.trans HX1.out (Below.mono hbel (by omega)))
    have hszr := hbel.size
    have wb0 := Block.below hb0 hbel (by omega)
    have wb2 := Block.below hb2 hbel (by omega)
    have wbl := Block.below hbl hbel (by omega)
    have oc0 := wb0.old
    have ocl := wbl.old
    obtain ⟨T, hT⟩ : ∃ T, T = boardsM L step (P.take k) := ⟨_, rfl⟩
    obtain ⟨Y, hY⟩ : ∃ Y, Y = (boardsM L step (P.take k)).map fun s => (x.b.slab s.1 s.2, TrimM.clip ds (x.b.part s.1 s.2)) := ⟨_, rfl⟩
    rw [← hY, ← hT] at hst2
    have hTl : T.length ≤ 10000 := by rw [hT, boardsM_len hk]; omega
    obtain ⟨qt, ct, rfl⟩ := Own.form2 hst2.ownT
    obtain ⟨qb, cb, rfl⟩ := Own.form2 hst2.ownB
    have HB := Lib.hid hst2
    have HT := Lib.hid hT
    have HY := Lib.hid hY
    clear hst2 hbel hT hY
    by_cases hlt : k < P.length
    · obtain ⟨bp, fp, rfl, r0⟩ := SliceOf.elemK (SliceOf.ext HQ.out HX.out) hlt
      obtain ⟨⟨i, a⟩, hia⟩ : ∃ z, P[k] = z := ⟨_, rfl⟩
      have hm := chain_mem P 0 HCH.out _ (List.getElem_mem hlt)
      rw [hia] at r0 hm
      replace r0 : wr.rangeAt bp (fp + k * 2) [.int .i64 i, .int .i64 a] := r0
      obtain ⟨m1, m2, m3, m4⟩ := hm
      simp only at m1 m2 m3
      obtain ⟨ki, rfl⟩ : ∃ q : Nat, i = (q : Int) := ⟨i.toNat, by omega⟩
      have hki : ki < L.sizes.length := by omega
      have hls : ki < (L.sizes.map fun s : Nat => (s : Int)).length := by rw [List.length_map]; exact hki
      obtain ⟨sz, hsz⟩ : ∃ s, s = L.size ki := ⟨_, rfl⟩
      have hstp : L.stop ((ki : Int), a) = a + (sz : Int) := by unfold Ln.stop; simp only [Int.toNat_natCast]; rw [hsz]
      rw [hstp] at m4
      have hpos : 0 < sz := by rw [hsz]; exact (Ln.Fine.good HFI.out).size_pos hki
      have hszx : (L.sizes.map fun s : Nat => (s : Int))[ki] = (sz : Int) := by
        rw [List.getElem_map, hsz]; unfold Ln.size; rw [List.getElem?_eq_getElem hki]; rfl
      have HTK : Hid (boardsM L step (P.take (k + 1)) = T ++ [(a * step, (a + (sz : Int)) * step)]) := Lib.hid (by rw [boardsM_take hlt hia, hstp, HT.out])
      obtain ⟨bs, os, hbs, obs, e1⟩ := int_elem (HSZ1.out _ HBE.out) hls hszx
      subst hbs
      have hz0 : 0 ≤ a * step := Int.mul_nonneg m3 (by omega)
      have hz1 : a * step < (a + (sz : Int)) * step := mul_lt (by omega) (by omega)
      have hz2 : (a + (sz : Int)) * step ≤ x.b.zb - x.b.za := Int.le_trans (mul_le m4 (by omega)) hun
      obtain ⟨z1, hzz1⟩ : ∃ z, a * step = z := ⟨_, rfl⟩
      obtain ⟨z2, hzz2⟩ : ∃ z, (a + (sz : Int)) * step = z := ⟨_, rfl⟩
      rw [hzz1] at hz0 hz1
      rw [hzz2] at hz1 hz2
      rw [hzz1, hzz2] at HTK
      clear hszx hsz hstp hls hia
      go_wp2_with (first | ((with_reducible apply wl_store' lwPiece); (· (first | exact wanted_none rfl | exact wanted_some rfl rfl rfl)); (· rfl); (· rfl); (· infer_instance); (· rfl); (· rfl); (· (simp [Value.oneCell'])); try simp only [setRow_alloc, setRow_new, setRow_new1, setRow_new2, setRow_new11, setRow_new111]) | ((with_reducible apply wl_loadM midPiece r0); (· rfl); (· (first | exact wanted_none rfl | exact wanted_some rfl rfl rfl)); (· rfl)))
      refine nameW (R := fun W => Code.wp _ _ _ _ W) (fun W => Hid (Ext wr W) ∧ Block W w.heap.size #[.string x.id, .string x.lg, .string x.sp, .int .i64 x.pr, .int .i64 x.b.xa, .int .i64 x.b.xb, .int .i64 x.b.ya, .int .i64 x.b.yb, .int .i64 x.b.za, .int .i64 x.b.zb, .int .i64 x.vol, .slice q ds.length cap, .int .i64 x.wa, .int .i64 x.su, .int .i64 x.co, .int .i64 x.st, .bool x.dr, .int .i64 x.gr] ∧ Block W gl #[.int .i64 (L.n : Int), .int .i64 (L.k : Int), .int .i64 1, .slice (some ⟨bs, os, none⟩) L.sizes.length c0, .slice pg L.sizes.length c1, .slice pc L.n c2, .slice pd L.n c3] ∧ Block W wr.heap.size #[.int .i64 (ki : Int), .int .i64 a] ∧ Old bs W ∧ W.cell? ⟨bs, os + ki, none⟩ = some (.int .i64 (sz : Int))) ⟨Lib.hid (by repeat' (first | (with_reducible exact Ext.refl _) | (with_reducible refine Ext.trans ?_ (ExtOf.ext _)) | (with_reducible refine Ext.alloc ?_ _) | (with_reducible refine Ext.drew ?_) | (with_reducible refine Ext.setRow ?_ ?_ _) | omega | (simp; omega))), ?_, ?_, ?_, ?_, ?_⟩ ?_
      · infer_instance
      · infer_instance
      · infer_instance
      · infer_instance
      · rw [alloc_cell]; exact e1
      rintro W2 ⟨HE2, d0, dl, dp, obs2, e2⟩
      have od0 := d0.old
      have odl := dl.old
      have odp := dp.old
      clear e1 obs wb0 wb2 wbl oc0 ocl r0
      simp only [Act.put]
      apply wp_region_maker [true, true, true, true, true, true, true, true, true, true, true, true, true, true, true, true] 16 [false, false, false, false, false, false, false, false, false, false, false, false, false, false, false, false, false, true] _ 20 (MadeP W2 #[.int .i64 0, .int .i64 0]) 17 [] (by kernel_rfl) rfl rfl (by kernel_rfl) (by kernel_rfl) (by kernel_rfl) (by kernel_rfl) MadeP.keep
      · intro S hS hN R hR
        simp only [part]
        repeat (first | go_big_quiet_skip | go_big_quiet_step (fail))
        with_reducible refine wpQuiet_nil ?_
        exact hR
      · refine ⟨wanted_none rfl, fun W' hx' => ⟨.pointer (some ⟨W'.heap.size, 0, none⟩), W'.alloc (.cells #[.int .i64 0, .int .i64 0] 23), ?_, (Ext.refl _).alloc _, MadeP.new hx'⟩⟩
        simp [go_sem]
      intro v' W' hx' hmade
      obtain ⟨gn, rfl, hgn, hbn⟩ := hmade
      simp only [part, Act.put, List.setIfInBounds_toArray, List.set_cons_succ, List.set_cons_zero]
      have HE5 : Hid (Ext wr W') := Lib.hid (HE2.out.trans hx')
      have hgT5 := (HB.out.ext HE5.out).cell
      have hsz5 := HE5.out.size
      have hsz2 := HE2.out.size
      have hgn2 : wr.heap.size ≤ gn := by omega
      have hgTw : gT < wr.heap.size := HB.out.cell.lt
      have ap1 : Apart gn gT := ⟨by omega⟩
      have ap2 : Apart gT gn := ⟨by omega⟩
      have ap3 : Apart gn w.heap.size := ⟨by omega⟩
      have d5 := d0.ext hx'
      have oT5 := hgT5.old
      have odn := hbn.old
      clear d0 dl dp od0 odl odp hx' obs2 e2
      have hEA : Ext wr ((W'.setRow gn #[.int .i64 z1, .int .i64 z2]).alloc (.cells #[.int .i64 z1, .int .i64 z2] 23)) := by repeat' (first | (with_reducible exact HE5.out) | (with_reducible refine Ext.alloc ?_ _) | (with_reducible refine Ext.drew ?_) | (with_reducible refine Ext.setRow ?_ ?_ _) | omega)
      have hSA := HB.out.ext hEA
      have hZA : gT + 1 ≤ ((W'.setRow gn #[.int .i64 z1, .int .i64 z2]).alloc (.cells #[.int .i64 z1, .int .i64 z2] 23)).heap.size := Nat.le_trans hgTw hEA.size
      have HSA := Lib.hid hSA
      have HZA := Lib.hid hZA
      clear hSA hZA
      go_wp2_with (first | ((with_reducible apply wl_store' lwSpan); (· (first | exact wanted_none rfl | exact wanted_some rfl rfl rfl)); (· rfl); (· rfl); (· infer_instance); (· rfl); (· rfl); (· (simp [Value.oneCell'])); try simp only [setRow_alloc, setRow_new, setRow_new1, setRow_new2, setRow_new11, setRow_new111]) | ((with_reducible apply wl_load' lwSpan); (· (first | exact wanted_none rfl | exact wanted_some rfl rfl rfl)); (· rfl); (· infer_instance); (· rfl)) | (at_builtin; refine wl_append1g (enc := encSp) (k := 2) (E := 23) (base := gT + 1) (l := T) (y := (z1, z2)) Tryz.underlying61 hiP hP0 hP1 hP2 rfl (by decide) encSp_len encSp_one rfl rfl HSA.out.ownT (new_setRow _ _ _ _ _) rfl (by unfold maxLen; omega) (by omega) HZA.out ?_; intro v7 n7 ho7 hk7; (obtain ⟨g7, c7, rfl, hg7, hg7b⟩ := Own.formS ho7); have hcT := hk7.block HSA.out.cell HB.out.neT))
      have un : Under w.heap.size (gT + 1) := ⟨by omega⟩
      have ap4 : Apart gT w.heap.size := ⟨by omega⟩
      have bn7 : Block n7.val gn #[.int .i64 z1, .int .i64 z2] := hk7.block inferInstance (Own.block_lt HB.out.ownT hgn2)
      refine nameW (R := fun W => Code.wp _ _ _ _ W) (fun W => Hid (BdSt x W gT (.slice qb rows.length cb) (.slice (some ⟨g7, 0, none⟩) (T.length + 1) c7) (.slice none 0 0) rows Y (T ++ [(z1, z2)]) []) ∧ Hid (Below gT W1 W) ∧ Block W w.heap.size #[.string x.id, .string x.lg, .string x.sp, .int .i64 x.pr, .int .i64 x.b.xa, .int .i64 x.b.xb, .int .i64 x.b.ya, .int .i64 x.b.yb, .int .i64 x.b.za, .int .i64 x.b.zb, .int .i64 x.vol, .slice q ds.length cap, .int .i64 x.wa, .int .i64 x.su, .int .i64 x.co, .int .i64 x.st, .bool x.dr, .int .i64 x.gr] ∧ Block W gn #[.int .i64 z1, .int .i64 z2]) ⟨Lib.hid ?_, Lib.hid ?_, ?_, ?_⟩ ?_
      · exact HSA.out.pushT hk7 ho7
      · exact Below.setCell (Below.trans (Below.trans HBE.out (Below.mono hEA (by omega))) (Below.mono n7.below (Nat.le_succ _))) (Nat.le_refl _) _
      · infer_instance
      · infer_instance
      rintro W3 ⟨HB3, HBE3, d3, dn3⟩
      clear hcT bn7 hk7 hg7b ho7 n7 HSA HZA d5 hbn hgT5 oT5 odn hEA
      have HX3 : Hid (Ext w W3) := Lib.hid (Below.trans HX1.out (Below.mono HBE3.out (by omega)))
      have od3 := d3.old
      have odn3 := dn3.old
      refine wp_region_softT (bdA x w.heap.size gn (.slice qb rows.length cb) (.slice q ds.length cap) z1 z2) (bdF x W3.heap.size z1 z2 (TrimM.clip ds (x.b.part z1 z2))) [true, true, true, true, true, true, true, true, true, true, true, true, true, true, true, true, true, true, true, true, true, true, true, true] [false, false, false, false, false, false, false, false, false, false, false, false, false, false, false, false, false, false, false, false, false, false, false, false, true, true] 24 [25] (by kernel_rfl) rfl (by kernel_rfl) (by kernel_rfl) rfl (bdA_some _ _ _ _ _ _ _) (bdF_keep _ _ _ _ _) ?_
      have HNE : Hid (clipA ds (x.b.part z1 z2) = TrimM.clip ds (x.b.part z1 z2)) := Lib.hid (if_pos ⟨HCK.out.defs, by
        have hbx := HCK.out.x
        have hby := HCK.out.y
        unfold near
        rw [(insd_iff _ _ _ _).2 (by show (-1099511627776 ≤ (0 : Int) ∧ -1099511627776 ≤ x.b.xb - x.b.xa) ∧ (0 : Int) ≤ 1099511627776 ∧ x.b.xb - x.b.xa ≤ 1099511627776; omega), (insd_iff _ _ _ _).2 (by show (-1099511627776 ≤ (0 : Int) ∧ -1099511627776 ≤ x.b.yb - x.b.ya) ∧ (0 : Int) ≤ 1099511627776 ∧ x.b.yb - x.b.ya ≤ 1099511627776; omega), (insd_iff _ _ _ _).2 (by show (-1099511627776 ≤ z1 ∧ -1099511627776 ≤ z2) ∧ z1 ≤ 1099511627776 ∧ z2 ≤ 1099511627776; omega)]
        rfl⟩)
      have HBK := Lib.hid (BOk.of HCK.out)
      simp only [part]
      refine soft_det (d := 72) (V := .slice qb rows.length cb) rfl (by kernel_rfl) (fun v h => h) rfl (fun _ => trivial) (fun W hx _ => by kernel_rfl) ?_
      refine soft_det (d := 73) (V := .pointer (some ⟨w.heap.size, 1, none⟩)) rfl (by kernel_rfl) (fun v h => h) rfl (fun _ => trivial) (fun W hx _ => by kernel_rfl) ?_
      refine soft_det (d := 74) (V := .string x.lg) rfl (by kernel_rfl) (fun v h => h) rfl (fun _ => trivial) (fun W hx _ => (by have := Block.ext d3 hx; simp [execOp, go_sem])) ?_
      refine soft_det (d := 75) (V := .pointer (some ⟨w.heap.size, 2, none⟩)) rfl (by kernel_rfl) (fun v h => h) rfl (fun _ => trivial) (fun W hx _ => by kernel_rfl) ?_
      refine soft_det (d := 76) (V := .string x.sp) rfl (by kernel_rfl) (fun v h => h) rfl (fun _ => trivial) (fun W hx _ => (by have := Block.ext d3 hx; simp [execOp, go_sem])) ?_
      refine soft_det (d := 77) (V := .pointer (some ⟨w.heap.size, 3, none⟩)) rfl (by kernel_rfl) (fun v h => h) rfl (fun _ => trivial) (fun W hx _ => by kernel_rfl) ?_
      refine soft_det (d := 78) (V := .int .i64 x.pr) rfl (by kernel_rfl) (fun v h => h) rfl (fun _ => trivial) (fun W hx _ => (by have := Block.ext d3 hx; simp [execOp, go_sem])) ?_
      refine soft_det (d := 79) (V := .agg #[.string x.id, .string x.lg, .string x.sp, .int .i64 x.pr, .int .i64 x.b.xa, .int .i64 x.b.xb, .int .i64 x.b.ya, .int .i64 x.b.yb, .int .i64 x.b.za, .int .i64 x.b.zb, .int .i64 x.vol, .slice q ds.length cap, .int .i64 x.wa, .int .i64 x.su, .int .i64 x.co, .int .i64 x.st, .bool x.dr, .int .i64 x.gr]) rfl (by kernel_rfl) (fun v h => h) rfl (fun _ => trivial) (fun W hx _ => (by have hb := Block.ext d3 hx; (with_reducible refine run_loadL lwBd ?_ hb ?_); (· kernel_rfl); (· rfl))) ?_
      refine soft_det (d := 80) (V := .agg #[.int .i64 z1, .int .i64 z2]) rfl (by kernel_rfl) (fun v h => h) rfl (fun _ => trivial) (fun W hx _ => (by have hb := Block.ext dn3 hx; (with_reducible refine run_loadL lwSpan ?_ hb ?_); (· kernel_rfl); (· rfl))) ?_
      refine soft_call (d := 81) (V := .agg #[.int .i64 (x.b.slab z1 z2).xa, .int .i64 (x.b.slab z1 z2).xb, .int .i64 (x.b.slab z1 z2).ya, .int .i64 (x.b.slab z1 z2).yb, .int .i64 (x.b.slab z1 z2).za, .int .i64 (x.b.slab z1 z2).zb]) (f := 17) (vals := #[.agg (bdC x (.slice q ds.length cap)), .agg #[.int .i64 z1, .int .i64 z2]]) rfl (by kernel_rfl) (fun v h => h) rfl (fun _ => trivial) (fun W => by kernel_rfl) (fun W hx _ => inLog_any x _ z1 z2 W HBK.out (by omega) (by omega)) ?_
      refine soft_det (d := 82) (V := .pointer (some ⟨w.heap.size, 11, none⟩)) rfl (by kernel_rfl) (fun v h => h) rfl (fun _ => trivial) (fun W hx _ => by kernel_rfl) ?_
      refine soft_det (d := 83) (V := .slice q ds.length cap) rfl (by kernel_rfl) (fun v h => h) rfl (fun _ => trivial) (fun W hx _ => (by have := Block.ext d3 hx; simp [execOp, go_sem])) ?_
      refine soft_det (d := 84) (V := .agg #[.string x.id, .string x.lg, .string x.sp, .int .i64 x.pr, .int .i64 x.b.xa, .int .i64 x.b.xb, .int .i64 x.b.ya, .int .i64 x.b.yb, .int .i64 x.b.za, .int .i64 x.b.zb, .int .i64 x.vol, .slice q ds.length cap, .int .i64 x.wa, .int .i64 x.su, .int .i64 x.co, .int .i64 x.st, .bool x.dr, .int .i64 x.gr]) rfl (by kernel_rfl) (fun v h => h) rfl (fun _ => trivial) (fun W hx _ => (by have hb := Block.ext d3 hx; (with_reducible refine run_loadL lwBd ?_ hb ?_); (· kernel_rfl); (· rfl))) ?_
      refine soft_det (d := 85) (V := .agg #[.int .i64 z1, .int .i64 z2]) rfl (by kernel_rfl) (fun v h => h) rfl (fun _ => trivial) (fun W hx _ => (by have hb := Block.ext dn3 hx; (with_reducible refine run_loadL lwSpan ?_ hb ?_); (· kernel_rfl); (· rfl))) ?_
      refine soft_call (d := 86) (V := .agg #[.int .i64 (x.b.part z1 z2).xa, .int .i64 (x.b.part z1 z2).xb, .int .i64 (x.b.part z1 z2).ya, .int .i64 (x.b.part z1 z2).yb, .int .i64 (x.b.part z1 z2).za, .int .i64 (x.b.part z1 z2).zb]) (f := 19) (vals := #[.agg (bdC x (.slice q ds.length cap)), .agg #[.int .i64 z1, .int .i64 z2]]) rfl (by kernel_rfl) (fun v h => h) rfl (fun _ => trivial) (fun W => by kernel_rfl) (fun W hx _ => piece_any x _ z1 z2 W HBK.out) ?_
      refine soft_callS (d := 87) (f := 18) (vals := #[.slice q ds.length cap, .agg #[.int .i64 (x.b.part z1 z2).xa, .int .i64 (x.b.part z1 z2).xb, .int .i64 (x.b.part z1 z2).ya, .int .i64 (x.b.part z1 z2).yb, .int .i64 (x.b.part z1 z2).za, .int .i64 (x.b.part z1 z2).zb]]) rfl (by kernel_rfl) (fun v => trivial) (fun W => by kernel_rfl) (fun W hx _ => (dClip_any ds _ (x.b.part z1 z2) W (SliceOf.ext HD.out (HX3.out.trans hx))).mono fun e w' ⟨v, h1, h2, h4⟩ => by
        rw [HNE.out] at h2
        obtain ⟨pp, nn, cc, rfl, e2, hlow⟩ := Own.low h2
        exact ⟨_, h1, ⟨(pp, nn, cc), rfl, Own.slice encDf_len h2, fun a ha => ⟨Nat.le_trans hx.size (hlow a ha).1, (hlow a ha).2⟩⟩, h4⟩) ?_
      intro v87
      refine soft_det (d := 88) (V := .pointer (some ⟨w.heap.size, 12, none⟩)) rfl (by kernel_rfl) (fun v h => h) rfl (fun _ => trivial) (fun W hx _ => by kernel_rfl) ?_
      refine soft_det (d := 89) (V := .int .i64 x.wa) rfl (by kernel_rfl) (fun v h => h) rfl (fun _ => trivial) (fun W hx _ => (by have := Block.ext d3 hx; simp [execOp, go_sem])) ?_
      refine soft_det (d := 90) (V := .pointer (some ⟨w.heap.size, 13, none⟩)) rfl (by kernel_rfl) (fun v h => h) rfl (fun _ => trivial) (fun W hx _ => by kernel_rfl) ?_
      refine soft_det (d := 91) (V := .agg #[.int .i64 x.su, .int .i64 x.co, .int .i64 x.st]) rfl (by kernel_rfl) (fun v h => h) rfl (fun _ => trivial) (fun W hx _ => (by have := Block.ext d3 hx; simp [execOp, go_sem])) ?_
      refine soft_det (d := 92) (V := .pointer (some ⟨w.heap.size, 16, none⟩)) rfl (by kernel_rfl) (fun v h => h) rfl (fun _ => trivial) (fun W hx _ => by kernel_rfl) ?_
      refine soft_det (d := 93) (V := .bool x.dr) rfl (by kernel_rfl) (fun v h => h) rfl (fun _ => trivial) (fun W hx _ => (by have := Block.ext d3 hx; simp [execOp, go_sem])) ?_
      refine soft_some (d := 94) rfl (by kernel_rfl) (fun v => trivial) (fun W hx hk => by
        obtain ⟨r, rfl, hr⟩ : ∃ r : RowV, v87 = rowV r ∧ NewD W3.heap.size (TrimM.clip ds (x.b.part z1 z2)) r W := known_get (d := 87) (v := v87) (n := 15) hk (by kernel_rfl) (by kernel_rfl) (by kernel_rfl)
        exact ⟨.agg (nbC x (rowV r) (x.b.slab z1 z2)), W, by kernel_rfl, Ext.refl _, r, rfl, hr⟩) ?_
      intro v94
      refine soft_some (d := 95) rfl (by kernel_rfl) (fun v => trivial) (fun W hx hk => by
        obtain ⟨r, rfl, hr⟩ : ∃ r : RowV, v94 = .agg (nbC x (rowV r) (x.b.slab z1 z2)) ∧ NewD W3.heap.size (TrimM.clip ds (x.b.part z1 z2)) r W := known_get (d := 94) (v := v94) (n := 22) hk (by kernel_rfl) (by kernel_rfl) (by kernel_rfl)
        exact ⟨.slice (some ⟨W.heap.size, 0, none⟩) 1 1, W.alloc (.cells (nbC x (rowV r) (x.b.slab z1 z2)) 30), by kernel_rfl, (Ext.refl _).alloc _, r, W.heap.size, rfl, Block.new _ _ _, hx.size, hr.ext ((Ext.refl _).alloc _)⟩) ?_
      intro v95
      intro W4 hx4 hF4
      obtain ⟨r5, g5, hv95, hb5, hg5, hnd5⟩ : ∃ (r : RowV) (g : Nat), v95 = .slice (some ⟨g, 0, none⟩) 1 1 ∧ Block W4 g (nbC x (rowV r) (x.b.slab z1 z2)) ∧ W3.heap.size ≤ g ∧ NewD W3.heap.size (TrimM.clip ds (x.b.part z1 z2)) r W4 := known_endT hF4 (d := 95) (i := 23) (v := v95) (by kernel_rfl) (by kernel_rfl) (by kernel_rfl)
      subst hv95
      have hBS4 := HB3.out.ext hx4
      have hRD : RowD W4 (gT + 1) (.slice qb rows.length cb) (.slice (some ⟨g7, 0, none⟩) (T.length + 1) c7) (.slice none 0 0) r5 (TrimM.clip ds (x.b.part z1 z2)) := ⟨hnd5.1, fun a ha => by
        obtain ⟨k1, k2⟩ := hnd5.2 a ha
        exact ⟨Nat.le_trans HB3.out.cell.lt k1, k2, Own.block_lt HB3.out.ownB k1, Own.block_lt HB3.out.ownT k1, Own.block_lt HB3.out.ownD k1⟩⟩
      have HBS4 := Lib.hid hBS4
      have HRD := Lib.hid hRD
      have hrl : rows.length ≤ 10000 := by rw [HB3.out.len, HY.out, List.length_map, ← HT.out]; exact hTl
      have hz4 : gT + 1 ≤ W4.heap.size := Nat.le_trans HB3.out.cell.lt hx4.size
      clear hBS4 hRD hF4 hnd5
      simp only [part, Act.put, List.setIfInBounds_toArray, List.set_cons_succ, List.set_cons_zero]
      go_wp2_with (at_builtin; refine wl_append1g (enc := encRB x) (k := 18) (E := 30) (base := gT + 1) (l := rows) (y := (r5, x.b.slab z1 z2)) Tryz.underlying39 hiR hR0 hR1 hR2 rfl (by decide) (encRB_len x) (encRB_one x) rfl rfl HBS4.out.ownB hb5 rfl (by unfold maxLen; omega) (by omega) hz4 ?_; intro v8 n8 ho8 hk8)
      have hP9 := HBS4.out.pushB hk8 HRD.out ho8
      have hB9 : Below gT W1 n8.val := Below.trans (Below.trans HBE3.out (Below.mono hx4 (Nat.le_of_lt HB3.out.cell.lt))) (Below.mono n8.below (Nat.le_succ _))
      go_roundw
      case rel =>
        refine ⟨k + 1, .slice (some ⟨g7, 0, none⟩) (T.length + 1) c7, rows ++ [(r5, x.b.slab z1 z2)], by omega, by first | rfl | go_num, ?_, hB9⟩
        rw [HTK.out, List.map_append, HT.out, ← HY.out, ← HT.out]
        exact hP9
      case measure => simp [intOf]; omega
    · have hkP : k = P.length := by omega
      rw [hkP, List.take_length] at HT HY
      have HB1 := HB
      have HBE1 := HBE
      rename World => W5
      clear wb0 wb2 wbl oc0 ocl HX
      obtain ⟨DD, hDD⟩ : ∃ DD, DD = L.dusts 0 P := ⟨_, rfl⟩
      rw [← hDD] at HOD1 ⊢
      have HDM : Hid (∀ y ∈ DD, 0 ≤ y.1 ∧ y.1 < y.2 ∧ y.2 ≤ L.n) := Lib.hid (by rw [hDD]; exact dusts_mem P 0 HCH.out)
      have HDD := Lib.hid hDD
      clear hDD
      have hDl : DD.length ≤ 20000 := by rw [HDD.out]; have := dusts_len' (L := L) P 0; omega
      go_wp2_with fail
      clear hlt hkP
      go_loopw [11, 100] (fun v11 v wr => ∃ (k2 : Nat) (vt2 : Value) (TT : List Sp), k2 ≤ DD.length ∧ v = .int .i64 (k2 : Int) ∧ TT = (DD.take k2).map (dustM step kerf) ∧ BdSt x wr gT (.slice qb rows.length cb) vt2 v11 rows Y (T ++ TT) (TT.map fun s => x.b.slab s.1 s.2) ∧ Below gT W1 wr) (fun _ v _ => DD.length - (intOf v).toNat)
      case atStart => exact ⟨0, _, [], by omega, rfl, rfl, by rw [List.append_nil]; exact HB1.out, HBE1.out⟩
      case round =>
        obtain ⟨k2, vt2, TT, hk2, rfl, hTT, hst2, hbel⟩ := hrel
        have HBE := Lib.hid hbel
        have HX : Hid (Ext w wr) := Lib.hid (Below.trans HX1.out (Below.mono hbel (by omega)))
        have hszr := hbel.size
        have wb0 := Block.below hb0 hbel (by omega)
        have oc0 := wb0.old
        have hTTl : TT.length ≤ 20000 := by rw [hTT, List.length_map, List.length_take]; omega
        obtain ⟨T3, hT3⟩ : ∃ T3, T3 = T ++ TT := ⟨_, rfl⟩
        obtain ⟨D3, hD3⟩ : ∃ D3, D3 = TT.map fun s => x.b.slab s.1 s.2 := ⟨_, rfl⟩
        rw [← hT3, ← hD3] at hst2
        have hT3l : T3.length ≤ 30000 := by rw [hT3, List.length_append]; omega
        have hD3l : D3.length ≤ 20000 := by rw [hD3, List.length_map]; exact hTTl
        obtain ⟨qt2, ct2, rfl⟩ := Own.form2 hst2.ownT
        obtain ⟨qd2, cd2, rfl⟩ := Own.form2 hst2.ownD
        have HB := Lib.hid hst2
        have HTT := Lib.hid hTT
        have HT3 := Lib.hid hT3
        have HD3 := Lib.hid hD3
        clear hst2 hbel hTT hT3 hD3
        by_cases hlt : k2 < DD.length
        · obtain ⟨bp, fp, rfl, r0⟩ := SliceOf.elemK (HOD1.out _ HBE.out) hlt
          obtain ⟨⟨A, B⟩, hab⟩ : ∃ z, DD[k2] = z := ⟨_, rfl⟩
          have hm := HDM.out _ (List.getElem_mem hlt)
          rw [hab] at r0 hm
          replace r0 : wr.rangeAt bp (fp + k2 * 2) [.int .i64 A, .int .i64 B] := r0
          obtain ⟨m1, m2, m3⟩ := hm
          simp only at m1 m2 m3
          have HTK : Hid ((DD.take (k2 + 1)).map (dustM step kerf) = TT ++ [(A * step, min (A * step + kerf) (B * step))]) := Lib.hid (by rw [List.take_succ_eq_append_getElem hlt, hab, List.map_append, HTT.out]; rfl)
          have hz0 : 0 ≤ A * step := Int.mul_nonneg m1 (by omega)
          have hz1 : A * step < B * step := mul_lt (by omega) (by omega)
          have hz2 : B * step ≤ x.b.zb - x.b.za := Int.le_trans (mul_le m3 (by omega)) hun
          obtain ⟨z1, hzz1⟩ : ∃ z, A * step = z := ⟨_, rfl⟩
          obtain ⟨z3, hzz3⟩ : ∃ z, B * step = z := ⟨_, rfl⟩
          rw [hzz1] at hz0 hz1
          rw [hzz3] at hz1 hz2
          rw [hzz1, hzz3] at HTK
          clear hab
          have hz3 : z1 ≤ min (z1 + kerf) z3 ∧ min (z1 + kerf) z3 ≤ z3 := by omega
          obtain ⟨z2, hzz2⟩ : ∃ z, min (z1 + kerf) z3 = z := ⟨_, rfl⟩
          rw [hzz2] at HTK hz3
          go_upto_region 20 with (first | ((with_reducible apply wl_store' lwSpan); (· (first | exact wanted_none rfl | exact wanted_some rfl rfl rfl)); (· rfl); (· rfl); (· infer_instance); (· rfl); (· rfl); (· (simp [Value.oneCell'])); try simp only [setRow_alloc, setRow_new, setRow_new1, setRow_new2, setRow_new11, setRow_new111]) | ((with_reducible apply wl_loadM midSpan r0); (· rfl); (· (first | exact wanted_none rfl | exact wanted_some rfl rfl rfl)); (· rfl)))
          refine nameW (R := fun W => Code.wp _ _ _ _ W) (fun W => Hid (Ext wr W) ∧ Block W w.heap.size #[.string x.id, .string x.lg, .string x.sp, .int .i64 x.pr, .int .i64 x.b.xa, .int .i64 x.b.xb, .int .i64 x.b.ya, .int .i64 x.b.yb, .int .i64 x.b.za, .int .i64 x.b.zb, .int .i64 x.vol, .slice q ds.length cap, .int .i64 x.wa, .int .i64 x.su, .int .i64 x.co, .int .i64 x.st, .bool x.dr, .int .i64 x.gr] ∧ Block W (wr.heap.size + 1) #[.int .i64 z1, .int .i64 z2]) ⟨Lib.hid (by repeat' (first | (with_reducible exact Ext.refl _) | (with_reducible refine Ext.trans ?_ (ExtOf.ext _)) | (with_reducible refine Ext.alloc ?_ _) | (with_reducible refine Ext.drew ?_) | (with_reducible refine Ext.setRow ?_ ?_ _) | omega | (simp; omega))), ?_, ?_⟩ ?_
          · infer_instance
          · infer_instance
          rintro W2 ⟨HE2, d0, dn⟩
          have HB2 := Lib.hid (HB.out.ext HE2.out)
          have HBE2 : Hid (Below gT W1 W2) := Lib.hid (Below.trans HBE.out (Below.mono HE2.out (Nat.le_of_lt HB.out.cell.lt)))
          have hgTw : gT < wr.heap.size := HB.out.cell.lt
          have hT2c := HB2.out.cell
          have oT2 := hT2c.old
          have odn := dn.old
          have od0 := d0.old
          have hs2 := HE2.out.size
          obtain ⟨gz, hgz⟩ : ∃ g, g = wr.heap.size + 1 := ⟨_, rfl⟩
          rw [← hgz] at dn odn ⊢
          have hgz2 : wr.heap.size ≤ gz := by omega
          have hgz3 : gz < W2.heap.size := dn.lt
          have hEA : Ext W2 (W2.alloc (.cells #[.int .i64 z1, .int .i64 z2] 23)) := (Ext.refl _).alloc _
          have HSA := Lib.hid (HB2.out.ext hEA)
          have HZA : gT + 1 ≤ (W2.alloc (.cells #[.int .i64 z1, .int .i64 z2] 23)).heap.size := by simp; omega
          have ap1 : Apart gz gT := ⟨by omega⟩
          have ap2 : Apart gT gz := ⟨by omega⟩
          have un : Under w.heap.size (gT + 1) := ⟨by omega⟩
          have ap4 : Apart gT w.heap.size := ⟨by omega⟩
          have hbd : (0 ≤ z1 ∧ z1 ≤ 100000) ∧ (0 ≤ z2 ∧ z2 ≤ 100000) := by omega
          clear r0 wb0 oc0 hz1 hz2 hgz
          go_upto_region 21 with (first | ((with_reducible apply wl_store' lwSpan); (· (first | exact wanted_none rfl | exact wanted_some rfl rfl rfl)); (· rfl); (· rfl); (· infer_instance); (· rfl); (· rfl); (· (simp [Value.oneCell'])); try simp only [setRow_alloc, setRow_new, setRow_new1, setRow_new2, setRow_new11, setRow_new111]) | ((with_reducible apply wl_load' lwSpan); (· (first | exact wanted_none rfl | exact wanted_some rfl rfl rfl)); (· rfl); (· infer_instance); (· rfl)) | (at_builtin; refine wl_append1g (enc := encSp) (k := 2) (E := 23) (base := gT + 1) (l := T3) (y := (z1, z2)) Tryz.underlying61 hiP hP0 hP1 hP2 rfl (by decide) encSp_len encSp_one rfl rfl HSA.out.ownT (Block.new _ _ _) rfl (by unfold maxLen; omega) (by omega) HZA ?_; intro v7 n7 ho7 hk7; (obtain ⟨g7, c7, rfl, hg7, hg7b⟩ := Own.formS ho7); have hcT := hk7.block HSA.out.cell HB2.out.neT))
          have bnz : Block n7.val gz #[.int .i64 z1, .int .i64 z2] := hk7.block inferInstance (Own.block_lt HB.out.ownT hgz2)
          refine nameW (R := fun W => Code.wp _ _ _ _ W) (fun W => Hid (BdSt x W gT (.slice qb rows.length cb) (.slice (some ⟨g7, 0, none⟩) (T3.length + 1) c7) (.slice qd2 D3.length cd2) rows Y (T3 ++ [(z1, z2)]) D3) ∧ Hid (Below gT W1 W) ∧ Block W w.heap.size #[.string x.id, .string x.lg, .string x.sp, .int .i64 x.pr, .int .i64 x.b.xa, .int .i64 x.b.xb, .int .i64 x.b.ya, .int .i64 x.b.yb, .int .i64 x.b.za, .int .i64 x.b.zb, .int .i64 x.vol, .slice q ds.length cap, .int .i64 x.wa, .int .i64 x.su, .int .i64 x.co, .int .i64 x.st, .bool x.dr, .int .i64 x.gr] ∧ Block W gz #[.int .i64 z1, .int .i64 z2]) ⟨Lib.hid ?_, Lib.hid ?_, ?_, ?_⟩ ?_
          · exact HSA.out.pushT hk7 ho7
          · exact Below.setCell (Below.trans (Below.trans HBE2.out (Below.mono hEA (Nat.le_trans (Nat.le_of_lt hgTw) hs2))) (Below.mono n7.below (Nat.le_succ _))) (Nat.le_refl _) _
          · infer_instance
          · infer_instance
          rintro W3 ⟨HB3, HBE3, d3, dn3⟩
          clear hcT bnz hk7 hg7b ho7 n7 HSA HZA d0 dn odn od0 oT2 hT2c hEA
          have od3 := d3.old
          have odn3 := dn3.old
          have HBK := Lib.hid (BOk.of HCK.out)
          obtain ⟨iX, hiX, hX0, hX1, hX2⟩ := info_parts infoBox
          have hg3 : gT + 1 ≤ W3.heap.size := HB3.out.cell.lt
          go_wp2_with (first | ((with_reducible apply wl_load' lwBd); (· (first | exact wanted_none rfl | exact wanted_some rfl rfl rfl)); (· rfl); (· infer_instance); (· rfl)) | ((with_reducible apply wl_load' lwSpan); (· (first | exact wanted_none rfl | exact wanted_some rfl rfl rfl)); (· rfl); (· infer_instance); (· rfl)) | (go_at_call 17; refine (inLog_any x _ z1 z2 _ HBK.out hbd.1 hbd.2).mono ?_; rintro e w' ⟨rfl, nL, rfl⟩; have hnL := nL.size) | (at_builtin; refine wl_append1g (enc := encBx) (k := 6) (E := 25) (base := gT + 1) (l := D3) (y := x.b.slab z1 z2) Tryz.underlying40 hiX hX0 hX1 hX2 rfl (by decide) encBx_len encBx_one rfl rfl (Own.ext HB3.out.ownD (Ext.alloc (ExtOf.ext nL) _)) (Block.new _ _ _) rfl (by unfold maxLen; omega) (by omega) (by simp; omega) ?_; intro v8 n8 ho8 hk8))
          have hP9 := (HB3.out.ext (Ext.alloc (ExtOf.ext nL) _)).pushD hk8 ho8
          have hB9 : Below gT W1 n8.val := Below.trans (Below.trans HBE3.out (Below.mono (Ext.alloc (ExtOf.ext nL) _) (Nat.le_of_lt HB3.out.cell.lt))) (Below.mono n8.below (Nat.le_succ _))
          go_roundw
          case rel =>
            refine ⟨k2 + 1, .slice (some ⟨g7, 0, none⟩) (T3.length + 1) c7, TT ++ [(z1, z2)], by omega, by first | rfl | go_num, HTK.out.symm, ?_, hB9⟩
            rw [List.map_append, ← HD3.out, ← List.append_assoc, ← HT3.out]
            exact hP9
          case measure => simp [intOf]; omega
        · have hkD : k2 = DD.length := by omega
          rw [hkD, List.take_length] at HTT
          have hb2' := Block.below hb2 HBE.out (by omega)
          have ob2 := hb2'.old
          clear hlt
          have hlt : ¬ k2 < DD.length := by omega
          have hTe : T3 = boardsM (TrimM.line x.b ds p step kerf 0) step P ++ dustsM (TrimM.line x.b ds p step kerf 0) step kerf 0 P := by
            rw [HT3.out, HT.out, HTT.out, HDD.out, ← HLD.out]; rfl
          have hDe : D3 = dustY x.b ds p step kerf P := by
            rw [HD3.out, HTT.out, HDD.out]
            unfold dustY dustsM
            rw [if_pos HE.out, ← HLD.out]
          have hYe : Y = boardsY x.b ds p step kerf P := by
            rw [HY.out]
            unfold boardsY
            rw [if_pos HE.out, ← HLD.out]
          have hch : (TrimM.line x.b ds p step kerf 0).chain 0 P := by rw [← HLD.out]; exact HCH.out
          have hchips := (all_ok HE.out).chips
          have hcY : chipY x.b ds p step kerf P = (TrimM.gaps (x.b.zb - x.b.za) 0 (takenT x.b ds p step kerf 0 P)).map fun s => x.b.slab s.1 s.2 := if_pos HE.out
          have hG : (TrimM.gaps (x.b.zb - x.b.za) 0 (takenT x.b ds p step kerf 0 P)).length ≤ 100000 := by
            rw [hcY, List.length_map] at hchips
            omega
          have hr : ∀ s ∈ TrimM.gaps (x.b.zb - x.b.za) 0 (takenT x.b ds p step kerf 0 P), (0 ≤ s.1 ∧ s.1 ≤ 100000) ∧ (0 ≤ s.2 ∧ s.2 ≤ 100000) := fun s hs => by
            have := (covers HCK.out hch (List.Perm.refl _)).2.1 s (List.mem_append_right _ hs)
            omega
          have HTE := Lib.hid hTe
          have HDE := Lib.hid hDe
          have HYE := Lib.hid hYe
          have HCHH := Lib.hid hch
          have HCY := Lib.hid hcY
          have HG := Lib.hid hG
          have HR := Lib.hid hr
          have hgTw : gT < wr.heap.size := HB.out.cell.lt
          clear hTe hDe hYe hch hchips hcY hG hr
          go_wp2_with fail
          have ap1 : Apart (w.heap.size + 1 + 1) w.heap.size := ⟨by omega⟩
          have ap2 : Apart (w.heap.size + 1 + 1) gT := ⟨by omega⟩
          have cT := HB.out.cell
          refine leaves_cons (f := 15) (args := #[.pointer (some ⟨w.heap.size, 0, none⟩), .pointer (some ⟨gT, 0, none⟩), .pointer (some ⟨w.heap.size + 1 + 1, 0, none⟩)]) (by simp) (by simp [go_sem]) ?_
          refine (boardsC_any x (.slice q ds.length cap) w.heap.size gT (w.heap.size + 1 + 1) (gT + 1) (.slice qt2 T3.length ct2) T3 (takenT x.b ds p step kerf 0 P) .returning _ (BOk.of HCK.out) inferInstance inferInstance (inferInstance : Block _ _ (Array.setIfInBounds #[.slice none 0 0] 0 (.slice none 0 0))) (Own.set_low HB.out.ownT (Nat.lt_succ_of_lt (by omega)) _) (by omega) (by omega) (by omega) (by omega) (by rw [setCell_size]; omega) (by omega) (fun ys hp hs => taken_unique HCK.out HCHH.out (by rw [← HTE.out]; exact hp) hs) HR.out HG.out).mono ?_
          rintro e u' w' ⟨rfl, rfl, vf, hBf, hOf, hlow, hheap⟩
          refine ⟨_, resultsB (g := w.heap.size + 1 + 1) rfl rfl rfl rfl hBf, _, _, _, by rw [HE.out]; rfl, ?_, ?_, ?_, ?_⟩
          · rw [← HYE.out]
            exact (HB.out.read (w' := w') (fun q h1 h2 h3 => by rw [hheap q (by rw [setCell_size]; exact h2) (by omega) h3, Below.heap_setCell _ _ _ _ (show q ≠ w.heap.size + 1 + 1 by omega)])).1
          · rw [← HDE.out]
            exact (HB.out.read (w' := w') (fun q h1 h2 h3 => by rw [hheap q (by rw [setCell_size]; exact h2) (by omega) h3, Below.heap_setCell _ _ _ _ (show q ≠ w.heap.size + 1 + 1 by omega)])).2
          · rw [HCY.out]
            exact Own.slice encBx_len hOf
          · have hE1 : Ext w (wr.setCell ⟨w.heap.size + 1 + 1, 0, none⟩ (.slice none 0 0)) := Below.setCell (Below.trans HX1.out (Below.mono HBE.out (show w.heap.size ≤ gT by omega))) (show w.heap.size ≤ w.heap.size + 1 + 1 by omega) _
            exact ExtOf.of ⟨hlow.os.trans hE1.os, hlow.tape.trans hE1.tape, hlow.output.trans hE1.output, Nat.le_trans hE1.size hlow.size, fun k hk => by
              have hk2 : k < (wr.setCell ⟨w.heap.size + 1 + 1, 0, none⟩ (.slice none 0 0)).heap.size := Nat.lt_of_lt_of_le hk hE1.size
              rw [hheap k hk2 (by omega) (fun e => by have := (World.ownsRow.lt HB.out.ownT k e).1; omega), hE1.block k hk]⟩
end Go.Proofs.YtdalbfanfbeckaaGreatDoor
end
/-
  Chapter 26: Boards of any board, product and pieces.
-/
section
set_option linter.unusedVariables false
set_option linter.unusedSimpArgs false
namespace Go.Proofs.YtdalbfanfbeckaaGreatDoor
open Go.RowKit TrimM
theorem boards_any (x : Bd) (dv : Value) (ds : List Df) (p : Pdt) (lv pv : Value) (step kerf : Int) (P : List Sp) (vp : Value) (w : World) (hd : DfS w dv ds) (hl : IntS w lv p.ls) (hp : IntS w pv p.ps) (hpp : SpS w vp P) (hPl : P.length ≤ 10000) :
    Calls Tryz.prog 6 #[.agg (bdC x dv), .agg (pdC p lv pv), .int .i64 step, .int .i64 kerf, vp] w (BoardsPost x ds p step kerf P w) := by
  by_cases h0 : chkE x.b ds p step kerf 0 = 0
  · by_cases hc : ((TrimM.line x.b ds p step kerf 0).cuts 0 [] [] P).1 = 0
    · exact boards_good x dv ds p lv pv step kerf P vp w hd hl hp hpp hPl h0 hc
    · exact boards_bad2 x dv ds p lv pv step kerf P vp w hd hl hp hpp hPl h0 hc
  · exact boards_bad1 x dv ds p lv pv step kerf P vp w hd hl hp h0
end Go.Proofs.YtdalbfanfbeckaaGreatDoor
end
