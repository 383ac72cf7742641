/-
  ReportOpen: the walk.
-/
import Derived.Test.YtaflcbdbacogeaaDoorO2
import Derived.Deep.OwnRows
set_option linter.unusedVariables false
set_option linter.unusedSimpArgs false
namespace Go.Proofs.YtaflcbdbacogeaaDoor
open Go.RowKit ReportM

attribute [local go_sem] ExtOf.cell ExtOf.frozen ExtS.cell ExtS.frozen Block.cell Block.frozen ExtB.cell ExtB.frozen alloc_cell alloc_frozen eqRw eqYd eqgRw eqgYd
attribute [local simp] stCells
theorem infoBool : (Tryd.prog.info? 4).map (fun i => (i.zero, i.size, i.bytes)) = some (some (.bool false), 1, 1) := by kernel_rfl
theorem madeB (n : Nat) : madeCells #[Value.bool false] n = Array.replicate n (Value.bool false) := by
  apply Array.ext_getElem?
  intro j
  by_cases h : j < n
  · simp [madeCells, h, Nat.mod_one]
  · simp [madeCells, h]
/-- which of n places are in a list -/
def seenC (n : Nat) (M : List Nat) : Array Value := ((List.range n).map fun j => Value.bool (decide (j ∈ M))).toArray
theorem seenC_zero (n : Nat) : seenC n [] = Array.replicate n (Value.bool false) := by
  apply Array.ext_getElem?
  intro j
  by_cases h : j < n
  · simp [seenC, h]
  · simp [seenC, h]
theorem seenC_get {n j : Nat} (M : List Nat) (h : j < n) : (seenC n M)[j]? = some (.bool (decide (j ∈ M))) := by simp [seenC, h]
theorem seenC_set {n k : Nat} (M : List Nat) (h : k < n) : (seenC n M).setIfInBounds k (.bool true) = seenC n (M ++ [k]) := by
  apply Array.ext_getElem?
  intro j
  rw [Array.getElem?_setIfInBounds]
  by_cases hj : j < n
  · rw [seenC_get _ hj, seenC_get _ hj]
    by_cases e : k = j
    · subst e; simp [seenC, h]
    · rw [if_neg e]
      have : j ≠ k := fun h => e h.symm
      simp [this]
  · have e : k ≠ j := by omega
    rw [if_neg e]
    simp [seenC, hj]
theorem OpenOk.count {d : List Du} {L : List Nat} (h : OpenOk d L) : (opTo d d.length).length = L.length := by
  have h1 : L.Nodup := h.asc.imp (fun h e => by subst e; unfold ltO at h; omega)
  have h2 : (opTo d d.length).Nodup := (opTo_asc d d.length).imp (fun h e => by omega)
  exact ((List.perm_ext_iff_of_nodup h2 h1).2 (fun i => by rw [h.mem]; simp [opTo])).length_eq
theorem OpenOk.new {d : List Du} {L : List Nat} (h : OpenOk d L) {i : Nat} (hi : i < L.length) : L[i] ∉ tk L i := by
  intro hm
  have hs : L.Pairwise (ltO d) := h.asc
  rw [← List.take_append_drop i L, List.pairwise_append] at hs
  have := hs.2.2 _ hm L[i] (by rw [List.drop_eq_getElem_cons hi]; exact List.mem_cons_self)
  unfold ltO at this; omega
theorem OpenOk.prev {d : List Du} {L : List Nat} (h : OpenOk d L) {i j : Nat} (hi : i < L.length) (hj : j < i) : ltO d (L[j]'(by omega)) L[i] := (List.pairwise_iff_getElem.1 h.asc) j i (by omega) hi hj
set_option maxRecDepth 100000 in
set_option maxHeartbeats 3200000 in
theorem openL_walk (d : List Du) (v0 : Value) (w : World) (h0 : SliceOf encDu 2 w v0 d) (htab : Tab w) : Calls Tryd.prog 8 #[v0] w fun e w' => e = .returned (.bool true) ∧ ∃ n : ExtOf w, w' = n.val := by
  obtain ⟨pv, cv, rfl, _, _, _⟩ := SliceOf.form h0
  have HT := Lib.hid htab
  have H0 := Lib.hid h0
  clear htab h0
  by_cases hlen : d.length ≤ 100
  · have hm2 := run_make_row' (P := Tryd.prog) 86 4 (.bool false) 1 Tryd.underlying86 infoBool rfl .i64 .i64 d.length (by omega) (by omega)
    rw [madeB] at hm2
    go_enter Tryd.func8, Tryd.ntmps8
    go_wp2_with (first | ((with_reducible apply wl_load' lwSt); (· (first | exact wanted_none rfl | exact wanted_some rfl rfl rfl)); (· rfl); (· infer_instance); (· rfl)) | ((with_reducible apply wl_load' lwRSt); (· (first | exact wanted_none rfl | exact wanted_some rfl rfl rfl)); (· rfl); (· infer_instance); (· rfl)) | ((with_reducible apply wl_store' lwSt); (· (first | exact wanted_none rfl | exact wanted_some rfl rfl rfl)); (· rfl); (· rfl); (· infer_instance); (· rfl); (· rfl); (· (simp [Value.oneCell'])); try simp only [setRow_alloc, setRow_new, setRow_new1, setRow_new2, setRow_new11, setRow_new111]) | ((with_reducible apply wl_store' lwRSt); (· (first | exact wanted_none rfl | exact wanted_some rfl rfl rfl)); (· rfl); (· rfl); (· infer_instance); (· rfl); (· rfl); (· (simp [Value.oneCell'])); try simp only [setRow_alloc, setRow_new, setRow_new1, setRow_new2, setRow_new11, setRow_new111]) | (go_at_call 10; refine (mill_any [] [] d _ _ _ _ (SliceOf.nil _) (SliceOf.nil _) H0.out (by decide) (by decide) (by omega) (by simp)).mono ?_; rintro e W ⟨vi, vri, vl, vrl, vo, vro, rfl, hi, hri, hl, hrl, ho, hro, nm, rfl⟩; obtain ⟨q1, k1, rfl, _, _, _⟩ := SliceOf.form hi; obtain ⟨q2, k2, rfl, _, _, _⟩ := SliceOf.form hri; obtain ⟨q3, k3, rfl, _, _, _⟩ := SliceOf.form hl; obtain ⟨q4, k4, rfl, _, _, _⟩ := SliceOf.form hrl; obtain ⟨q5, k5, rfl, _, _, _⟩ := SliceOf.form ho; obtain ⟨q6, k6, rfl, _, _, _⟩ := SliceOf.form hro; have HI := Lib.hid hi; have HL := Lib.hid hl; have HO := Lib.hid ho; have HRI := Lib.hid hri; have HRL := Lib.hid hrl; have HRO := Lib.hid hro; clear hi hri hl hrl ho hro) | (go_at_call 19; refine (open_walk sort_all d _ _ _ _ (SliceOf.ext HO.out (by repeat' (first | (with_reducible exact Ext.refl _) | (with_reducible exact ExtOf.ext _) | (with_reducible refine Ext.trans ?_ (ExtOf.ext _)) | (with_reducible refine Ext.alloc ?_ _) | (with_reducible refine Ext.drew ?_) | (with_reducible refine Ext.setCell ?_ ?_ _) | (with_reducible refine Ext.setRow ?_ ?_ _) | (with_reducible exact HX.out) | (with_reducible refine Ext.trans ?_ HX.out) | (with_reducible refine Ext.below ?_ (Nat.le_refl _) _) | omega | (simp; done) | (simp; omega)))) (by omega) (by omega)).mono ?_; rintro e W ⟨v2, L, rfl, hop, hsl2, no, rfl⟩; obtain ⟨pl, cl, rfl, _, _, _⟩ := SliceOf.form hsl2; have HOP := Lib.hid hop; have HSL := Lib.hid hsl2; have hLd := hop.len; clear hop hsl2))
    obtain ⟨gs, hgs⟩ : ∃ x, x = no.val.heap.size := ⟨_, rfl⟩
    have hG1 : Block (no.val.alloc (.cells (Array.replicate d.length (.bool false)) 4)) gs (seenC d.length (tk L 0)) := by
      have e0 : seenC d.length (tk L 0) = Array.replicate d.length (.bool false) := seenC_zero d.length
      rw [e0, hgs]; exact Block.new _ _ _
    have HXW : Hid (Ext w no.val) := Lib.hid (by repeat' (first | (with_reducible exact Ext.refl _) | (with_reducible exact ExtOf.ext _) | (with_reducible refine Ext.trans ?_ (ExtOf.ext _)) | (with_reducible refine Ext.alloc ?_ _) | (with_reducible refine Ext.drew ?_) | (with_reducible refine Ext.setCell ?_ ?_ _) | (with_reducible refine Ext.setRow ?_ ?_ _) | (with_reducible exact HX.out) | (with_reducible refine Ext.trans ?_ HX.out) | (with_reducible refine Ext.below ?_ (Nat.le_refl _) _) | omega | (simp; done) | (simp; omega)))
    have HX1 : Hid (Ext no.val (no.val.alloc (.cells (Array.replicate d.length (.bool false)) 4))) := Lib.hid ((Ext.refl _).alloc _)
    rw [← hgs]
    generalize no.val.alloc (.cells (Array.replicate d.length (.bool false)) 4) = W1 at *
    generalize no.val = W2 at *
    have HG1 := Lib.hid hG1
    have hgw : W2.heap.size ≤ gs := by omega
    clear hG1 HO HRO HI HRI HL HRL hgs
    go_loopw [7] (fun v wr => ∃ i : Nat, i ≤ L.length ∧ v = .int .i64 i ∧ Block wr gs (seenC d.length (tk L i)) ∧ Ext W2 wr) (fun v _ => L.length - (intOf v).toNat)
    case atStart => exact ⟨0, by omega, rfl, HG1.out, HX1.out⟩
    case round =>
      clear HG1 HX1
      obtain ⟨i, hi, rfl, hG, hx⟩ := hrel
      have HX := Lib.hid hx
      clear hx
      by_cases hlt : i < L.length
      · obtain ⟨bl, ol, rfl, rl⟩ := SliceOf.elemK HSL.out hlt
        obtain ⟨x, hx⟩ : ∃ x, x = L[i] := ⟨_, rfl⟩
        have hxm := (HOP.out.mem x).1 (by rw [hx]; exact List.getElem_mem hlt)
        have hxd : x < d.length := hxm.1
        have hrn : (seenC d.length (tk L i))[x]? = some (.bool false) := by rw [seenC_get _ hxd, hx, decide_eq_false (HOP.out.new hlt)]
        have HSU : Hid (tk L (i + 1) = tk L i ++ [x]) := Lib.hid (by rw [hx]; exact tk_succ hlt)
        have HXE := Lib.hid hx
        have cL2 : W2.cell? ⟨bl, ol + i, none⟩ = some (.int .i64 (x : Int)) := by have := rl 0 _ rfl; rw [← hx] at this; simpa using this
        obtain ⟨b0, o0, rfl, r0⟩ := SliceOf.elemK (SliceOf.ext H0.out HXW.out) hxd
        obtain ⟨dx, hdx⟩ : ∃ z, z = dueOf d x := ⟨_, rfl⟩
        have cx2 : W2.cell? ⟨b0, o0 + x * 2, none⟩ = some (.int .i64 dx) := by have := r0 0 _ rfl; rw [hdx]; simpa [dueOf, hxd] using this
        have cs2 : W2.cell? ⟨b0, o0 + x * 2 + 1, none⟩ = some (.bool false) := by
          have := r0 1 _ rfl
          have h9 := hxm.2
          simp only [shOf, hxd, List.getElem?_eq_getElem, Option.map_some, Option.getD_some] at h9
          rw [← h9]; simpa using this
        have cL := HX.out.cell cL2
        have cs := HX.out.cell cs2
        have ol1 : Old bl wr := Old.of_cell cL
        have o01 : Old b0 wr := Old.of_cell cs
        have og := hG.old
        have HDX := Lib.hid hdx
        clear hx hxm rl r0 hdx
        have q1 : decide ((x : Int) < 0) = false := by simp
        have q2 : decide ((d.length : Int) ≤ (x : Int)) = false := by simp; omega
        have q3 : decide (d.length ≤ x) = false := by simp; omega
        have cG : wr.cell? ⟨gs, x, none⟩ = some (.bool false) := by rw [Block.cell (h := hG)]; exact hrn
        rcases Nat.eq_zero_or_pos i with hi0 | hi0
        · have ci0 : wr.cell? ⟨bl, ol, none⟩ = some (.int .i64 (x : Int)) := by rw [hi0] at cL; simpa using cL
          have q4 : decide (0 < i) = false := by simp [hi0]
          have hii : (i : Int) = 0 := by omega
          have HI0 := Lib.hid hi0
          clear hi0
          go_wp2_with fail
          refine wp_region_ext (by kernel_rfl) (by kernel_rfl) ?_
          repeat (first | go_big_quiet_skip | go_big_quiet_step (fail))
          refine wpQuiet_nil ?_
          intro _ hw'
          obtain ⟨nq, hw''⟩ := hw'
          subst hw''
          go_wp2_with fail
          go_roundw
          case rel =>
            have hG2 : Block nq.val gs ((seenC d.length (tk L i)).setIfInBounds x (.bool true)) := inferInstance
            rw [seenC_set _ hxd, ← HSU.out] at hG2
            exact ⟨i + 1, by omega, by first | rfl | go_num, hG2, (Ext.setCell HX.out hgw _).trans nq.ext⟩
          case measure => simp [intOf]; omega
        · obtain ⟨m, hm1, hm2⟩ : ∃ m, m + 1 ≤ i ∧ i ≤ m + 1 := ⟨i - 1, by omega, by omega⟩
          have hmz : (i : Int) - 1 = (m : Int) := by omega
          have hml : m < L.length := by omega
          obtain ⟨b', o', e', rl⟩ := SliceOf.elemK HSL.out hml
          simp only [Option.some.injEq, Addr.mk.injEq, and_true] at e'
          obtain ⟨rfl, rfl⟩ := e'
          obtain ⟨y, hy⟩ : ∃ y, y = L[m] := ⟨_, rfl⟩
          have cM2 : W2.cell? ⟨bl, ol + m, none⟩ = some (.int .i64 (y : Int)) := by have := rl 0 _ rfl; rw [← hy] at this; simpa using this
          have hyd : y < d.length := ((HOP.out.mem y).1 (by rw [hy]; exact List.getElem_mem hml)).1
          obtain ⟨b', o', e', r0⟩ := SliceOf.elemK (SliceOf.ext H0.out HXW.out) hyd
          simp only [Option.some.injEq, Addr.mk.injEq, and_true] at e'
          obtain ⟨rfl, rfl⟩ := e'
          obtain ⟨dy, hdy⟩ : ∃ z, z = dueOf d y := ⟨_, rfl⟩
          have cy2 : W2.cell? ⟨b0, o0 + y * 2, none⟩ = some (.int .i64 dy) := by have := r0 0 _ rfl; rw [hdy]; simpa [dueOf, hyd] using this
          have hlt2 : dy < dx ∨ dy = dx ∧ y < x := by
            have := HOP.out.prev hlt (show m < i by omega)
            rw [← hy, ← HXE.out] at this
            rw [hdy, HDX.out]; exact this
          have cM := HX.out.cell cM2
          have cy := HX.out.cell cy2
          have cx := HX.out.cell cx2
          have ab : Apart gs b0 := ⟨by have := (Old.of_cell cx2).lt; omega⟩
          have al : Apart gs bl := ⟨by have := (Old.of_cell cM2).lt; omega⟩
          have n1 : ¬ gs = b0 := ab.ne
          have n2 : ¬ gs = bl := al.ne
          have n3 : ¬ b0 = gs := fun h => n1 h.symm
          have n4 : ¬ bl = gs := fun h => n2 h.symm
          clear hy hdy rl r0
          have q4 : decide (0 < i) = true := by simpa using hi0
          have q5 : decide (dx < dy) = false := by simp; omega
          by_cases hee : dy = dx
          · subst hee
            have q6 : decide (x < y) = false := by simp; omega
            have q7 : decide ((x : Int) < (y : Int)) = false := by simp; omega
            go_wp2_with fail
            refine wp_region_ext (by kernel_rfl) (by kernel_rfl) ?_
            repeat (first | go_big_quiet_skip | go_big_quiet_step (fail))
            refine wpQuiet_nil ?_
            intro _ hw'
            obtain ⟨nq, hw''⟩ := hw'
            subst hw''
            go_wp2_with fail
            go_roundw
            case rel =>
              have hG2 : Block nq.val gs ((seenC d.length (tk L i)).setIfInBounds x (.bool true)) := inferInstance
              rw [seenC_set _ hxd, ← HSU.out] at hG2
              exact ⟨i + 1, by omega, by first | rfl | go_num, hG2, (Ext.setCell HX.out hgw _).trans nq.ext⟩
            case measure => simp [intOf]; omega
          · have q6 : (dy == dx) = false := by simpa using hee
            go_wp2_with fail
            refine wp_region_ext (by kernel_rfl) (by kernel_rfl) ?_
            repeat (first | go_big_quiet_skip | go_big_quiet_step (fail))
            refine wpQuiet_nil ?_
            intro _ hw'
            obtain ⟨nq, hw''⟩ := hw'
            subst hw''
            go_wp2_with fail
            go_roundw
            case rel =>
              have hG2 : Block nq.val gs ((seenC d.length (tk L i)).setIfInBounds x (.bool true)) := inferInstance
              rw [seenC_set _ hxd, ← HSU.out] at hG2
              exact ⟨i + 1, by omega, by first | rfl | go_num, hG2, (Ext.setCell HX.out hgw _).trans nq.ext⟩
            case measure => simp [intOf]; omega
      · have HCN := Lib.hid HOP.out.count
        clear hG
        go_wp2_with fail
        go_loopw [9, 10] (fun n v wr => ∃ k : Nat, k ≤ d.length ∧ v = .int .i64 k ∧ n = .int .i64 ((opTo d k).length : Nat) ∧ Ext W2 wr) (fun _ v _ => d.length - (intOf v).toNat)
        case atStart => exact ⟨0, by omega, rfl, rfl, HX.out⟩
        case round =>
          clear HX
          obtain ⟨k, hk, rfl, rfl, hx⟩ := hrel
          have HX := Lib.hid hx
          clear hx
          by_cases hlk : k < d.length
          · obtain ⟨b0, o0, rfl, r0⟩ := SliceOf.elemK (SliceOf.ext H0.out HXW.out) hlk
            have c1 : wr.cell? ⟨b0, o0 + k * 2 + 1, none⟩ = some (.bool (shOf d k)) := by
              have := HX.out.cell (r0 1 _ rfl)
              simpa [shOf, hlk] using this
            have o1 : Old b0 wr := Old.of_cell c1
            have hln := opTo_len d k
            have HSS := Lib.hid (opTo_succ d k)
            clear r0
            rcases hsh : shOf d k with _ | _
            · rw [hsh] at c1
              have HSU : Hid ((opTo d (k + 1)).length = (opTo d k).length + 1) := Lib.hid (by rw [HSS.out, hsh]; simp)
              obtain ⟨cc, hcc⟩ : ∃ c, c = (opTo d k).length := ⟨_, rfl⟩
              rw [← hcc] at hln HSU ⊢
              clear hcc hsh
              go_wp2_with fail
              go_roundw
              case rel => exact ⟨k + 1, by omega, by first | rfl | go_num, by rw [HSU.out]; first | rfl | go_num, HX.out⟩
              case measure => simp [intOf]; omega
            · rw [hsh] at c1
              have HSU : Hid ((opTo d (k + 1)).length = (opTo d k).length) := Lib.hid (by rw [HSS.out, hsh]; simp)
              clear hsh
              go_wp2_with fail
              go_roundw
              case rel => exact ⟨k + 1, by omega, by first | rfl | go_num, by rw [HSU.out], HX.out⟩
              case measure => simp [intOf]; omega
          · obtain rfl : k = d.length := by omega
            rw [HCN.out]
            go_wp2_with (go_at_call 9; refine (awake_any _ (HT.out.ext (HXW.out.trans HX.out))).mono ?_; rintro e W ⟨rfl, na, rfl⟩)
            go_ret
            exact ⟨rfl, ExtOf.of (HXW.out.trans (HX.out.trans na.ext))⟩
  · go_enter Tryd.func8, Tryd.ntmps8
    go_wp2_with (go_at_call 9; refine (awake_any _ (HT.out.ext (by repeat' (first | (with_reducible exact Ext.refl _) | (with_reducible exact ExtOf.ext _) | (with_reducible refine Ext.trans ?_ (ExtOf.ext _)) | (with_reducible refine Ext.alloc ?_ _) | (with_reducible refine Ext.drew ?_) | (with_reducible refine Ext.setCell ?_ ?_ _) | (with_reducible refine Ext.setRow ?_ ?_ _) | (with_reducible exact HX.out) | (with_reducible refine Ext.trans ?_ HX.out) | (with_reducible refine Ext.below ?_ (Nat.le_refl _) _) | omega | (simp; done) | (simp; omega))))).mono ?_; rintro e W ⟨rfl, na, rfl⟩)
    go_ret
    exact ⟨rfl, by exact ExtOf.of (by repeat' (first | (with_reducible exact Ext.refl _) | (with_reducible exact ExtOf.ext _) | (with_reducible refine Ext.trans ?_ (ExtOf.ext _)) | (with_reducible refine Ext.alloc ?_ _) | (with_reducible refine Ext.drew ?_) | (with_reducible refine Ext.setCell ?_ ?_ _) | (with_reducible refine Ext.setRow ?_ ?_ _) | (with_reducible exact HX.out) | (with_reducible refine Ext.trans ?_ HX.out) | (with_reducible refine Ext.below ?_ (Nat.le_refl _) _) | omega | (simp; done) | (simp; omega)))⟩
end Go.Proofs.YtaflcbdbacogeaaDoor
