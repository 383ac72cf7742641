/-
  The states of a mill and of the reference that a law makes out of its input.
-/
import Derived.Test.YtaflcbdbacogeaaDoorR1
set_option linter.unusedVariables false
set_option linter.unusedSimpArgs false
namespace Go.Proofs.YtaflcbdbacogeaaDoor
open Go.RowKit

attribute [local go_sem] ExtOf.cell ExtOf.frozen ExtS.cell ExtS.frozen Block.cell Block.frozen ExtB.cell ExtB.frozen alloc_cell alloc_frozen
def itAt (i : Nat) (x : Pl) : It := ⟨x.pr, i, i + clampL x.ln, x.gr, x.vo, x.pl⟩
def itsTo (l : List Pl) (k : Nat) : List It := (List.range k).filterMap fun i => (l[i]?).map (itAt i)
theorem itsTo_succ {l : List Pl} {k : Nat} (h : k < l.length) : itsTo l (k + 1) = itsTo l k ++ [itAt k l[k]] := by
  simp [itsTo, List.range_succ, List.filterMap_append, h]
theorem itsTo_len {l : List Pl} : ∀ {k : Nat}, k ≤ l.length → (itsTo l k).length = k
  | 0, _ => rfl
  | k + 1, h => by rw [itsTo_succ (by omega), List.length_append, itsTo_len (by omega)]; rfl
def tk {α : Type} (l : List α) (k : Nat) : List α := l.take k
theorem tk_len {α : Type} {l : List α} {k : Nat} (h : k ≤ l.length) : (tk l k).length = k := by simp [tk]; omega
theorem tk_succ {α : Type} {l : List α} {k : Nat} (h : k < l.length) : tk l (k + 1) = tk l k ++ [l[k]] := List.take_succ_eq_append_getElem h
theorem tk_all {α : Type} (l : List α) : tk l l.length = l := List.take_of_length_le (Nat.le_refl _)
theorem infoIt : (Tryd.prog.info? 100).map (fun i => (i.zero, i.size, i.bytes)) = some (some (.agg (encIt ⟨0, 0, 0, 0, 0, 0⟩).toArray), 22, 240) := by kernel_rfl
theorem infoRIt : (Tryd.prog.info? 101).map (fun i => (i.zero, i.size, i.bytes)) = some (some (.agg (encIt ⟨0, 0, 0, 0, 0, 0⟩).toArray), 22, 240) := by kernel_rfl
theorem infoLg : (Tryd.prog.info? 111).map (fun i => (i.zero, i.size, i.bytes)) = some (some (.agg (encLg ⟨⟨#[]⟩, false, ⟨0, 0, 0, 0, 0⟩⟩).toArray), 19, 216) := by kernel_rfl
theorem infoRLg : (Tryd.prog.info? 112).map (fun i => (i.zero, i.size, i.bytes)) = some (some (.agg (encLg ⟨⟨#[]⟩, false, ⟨0, 0, 0, 0, 0⟩⟩).toArray), 19, 216) := by kernel_rfl
theorem infoDm : (Tryd.prog.info? 116).map (fun i => (i.zero, i.size, i.bytes)) = some (some (.agg (encDm ⟨0, false⟩).toArray), 12, 112) := by kernel_rfl
theorem infoRDm : (Tryd.prog.info? 117).map (fun i => (i.zero, i.size, i.bytes)) = some (some (.agg (encDm ⟨0, false⟩).toArray), 12, 112) := by kernel_rfl
theorem info_parts {P : Program} {T n b : Nat} {z : Value} (h : (P.info? T).map (fun i => (i.zero, i.size, i.bytes)) = some (some z, n, b)) : ∃ i, P.info? T = some i ∧ i.zero = some z ∧ i.size = n ∧ i.bytes = b := by
  cases hi : P.info? T with
  | none => rw [hi] at h; cases h
  | some i =>
    rw [hi] at h
    simp at h
    exact ⟨i, rfl, h.1, h.2.1, h.2.2⟩
theorem SliceOf.setRow {α : Type} {enc : α → List Value} {k : Nat} {w : World} {g : Nat} {p : Option Addr} {n cap : Nat} {l : List α} (hs : SliceOf enc k w (.slice p n cap) l) (hne : ∀ a, p = some a → a.block ≠ g) (cs : Array Value) : SliceOf enc k (w.setRow g cs) (.slice p n cap) l := by
  obtain ⟨p', cap', e, h1, h2, h3, h4⟩ := hs
  refine ⟨p', cap', e, h1, h2, h3, fun i x hi => ?_⟩
  obtain ⟨b', off, hp, hc⟩ := h4 i x hi
  simp only [Value.slice.injEq] at e
  obtain ⟨rfl, _, _⟩ := e
  have g1 := hne _ hp
  refine ⟨b', off, hp, fun j u hj => ?_⟩
  have := hc j u hj
  rw [← this]
  simp only [World.cell?, World.setRow, Array.getElem?_modify]
  rw [if_neg (Ne.symm g1)]
def stCells (lg it od : Value) : Array Value := #[.int .i64 0, .slice none 0 0, lg, it, .slice none 0 0, od, .int .i64 0, .int .i64 0, .slice none 0 0, .slice none 0 0]
set_option maxRecDepth 20000 in
set_option maxHeartbeats 3200000 in
theorem mill_any (l : List Pl) (g : List Sw) (d : List Du) (v0 v1 v2 : Value) (w : World) (h0 : SliceOf encPl 5 w v0 l) (h1 : SliceOf encSw 7 w v1 g) (h2 : SliceOf encDu 2 w v2 d) (hl : l.length ≤ 1000) (hg : g.length ≤ 1000) (hd : d.length ≤ 1000) (hv : ∀ x ∈ l, 0 ≤ x.vo ∧ x.vo < 4294967296) :
    Calls Tryd.prog 10 #[v0, v1, v2] w fun e w' => ∃ vi vri vl vrl vo vro, e = .returned (.tuple #[.agg (stCells vl vi vo), .agg (stCells vrl vri vro)]) ∧ SliceOf encIt 22 w' vi (itsTo l l.length) ∧ SliceOf encIt 22 w' vri (itsTo l l.length) ∧ SliceOf encLg 19 w' vl g ∧ SliceOf encLg 19 w' vrl g ∧ SliceOf encDm 12 w' vo d ∧ SliceOf encDm 12 w' vro d ∧ ∃ n : ExtOf w, w' = n.val := by
  obtain ⟨iI, hiI, hI0, hI1, hI2⟩ := info_parts infoIt
  obtain ⟨iJ, hiJ, hJ0, hJ1, hJ2⟩ := info_parts infoRIt
  obtain ⟨iL, hiL, hL0, hL1, hL2⟩ := info_parts infoLg
  obtain ⟨iM, hiM, hM0, hM1, hM2⟩ := info_parts infoRLg
  obtain ⟨iN, hiN, hN0, hN1, hN2⟩ := info_parts infoDm
  obtain ⟨iO, hiO, hO0, hO1, hO2⟩ := info_parts infoRDm
  obtain ⟨p0, cap0, rfl, hg1, hg2, hg3⟩ := SliceOf.form h0
  obtain ⟨p1, cap1, rfl, hg4, hg5, hg6⟩ := SliceOf.form h1
  obtain ⟨p2, cap2, rfl, hg7, hg8, hg9⟩ := SliceOf.form h2
  have H0 := Lib.hid h0
  have H1 := Lib.hid h1
  have H2 := Lib.hid h2
  have HV := Lib.hid hv
  clear h0 h1 h2 hv
  go_enter Tryd.func10, Tryd.ntmps10
  go_wp2_with fail
  obtain ⟨b6, hb6⟩ : ∃ x, x = w.heap.size := ⟨_, rfl⟩
  obtain ⟨b7, hb7⟩ : ∃ x, x = w.heap.size + 1 := ⟨_, rfl⟩
  obtain ⟨b8, hb8⟩ : ∃ x, x = w.heap.size + 1 + 1 := ⟨_, rfl⟩
  obtain ⟨b9, hb9⟩ : ∃ x, x = w.heap.size + 1 + 1 + 1 := ⟨_, rfl⟩
  obtain ⟨W0, hW0, k6, k7, k8, k9, kx⟩ : ∃ W0, W0 = ((((w.alloc (.cells #[.int .i64 0, .slice none 0 0, .slice none 0 0, .slice none 0 0, .slice none 0 0, .slice none 0 0, .int .i64 0, .int .i64 0, .slice none 0 0, .slice none 0 0] 36)).alloc (.cells #[.int .i64 0, .slice none 0 0, .slice none 0 0, .slice none 0 0, .slice none 0 0, .slice none 0 0, .int .i64 0, .int .i64 0, .slice none 0 0, .slice none 0 0] 42)).alloc (.cells #[.int .i64 0, .slice none 0 0, .slice none 0 0, .slice none 0 0, .slice none 0 0, .slice none 0 0, .int .i64 0, .int .i64 0, .slice none 0 0, .slice none 0 0] 36)).alloc (.cells #[.int .i64 0, .slice none 0 0, .slice none 0 0, .slice none 0 0, .slice none 0 0, .slice none 0 0, .int .i64 0, .int .i64 0, .slice none 0 0, .slice none 0 0] 42)) ∧ Block W0 b6 #[.int .i64 0, .slice none 0 0, .slice none 0 0, .slice none 0 0, .slice none 0 0, .slice none 0 0, .int .i64 0, .int .i64 0, .slice none 0 0, .slice none 0 0] ∧ Block W0 b7 #[.int .i64 0, .slice none 0 0, .slice none 0 0, .slice none 0 0, .slice none 0 0, .slice none 0 0, .int .i64 0, .int .i64 0, .slice none 0 0, .slice none 0 0] ∧ Block W0 b8 #[.int .i64 0, .slice none 0 0, .slice none 0 0, .slice none 0 0, .slice none 0 0, .slice none 0 0, .int .i64 0, .int .i64 0, .slice none 0 0, .slice none 0 0] ∧ Block W0 b9 #[.int .i64 0, .slice none 0 0, .slice none 0 0, .slice none 0 0, .slice none 0 0, .slice none 0 0, .int .i64 0, .int .i64 0, .slice none 0 0, .slice none 0 0] ∧ Ext w W0 := ⟨_, rfl, by rw [hb6]; infer_instance, by rw [hb7]; infer_instance, by rw [hb8]; infer_instance, by rw [hb9]; infer_instance, by repeat' (first | (with_reducible exact Ext.refl _) | (with_reducible exact ExtOf.ext _) | (with_reducible refine Ext.trans ?_ (ExtOf.ext _)) | (with_reducible refine Ext.alloc ?_ _) | (with_reducible refine Ext.drew ?_) | (with_reducible refine Ext.setCell ?_ ?_ _) | (with_reducible refine Ext.setRow ?_ ?_ _) | (with_reducible exact HX.out) | (with_reducible refine Ext.trans ?_ HX.out) | (with_reducible refine Ext.below ?_ (Nat.le_refl _) _) | omega | (simp; done) | (simp; omega))⟩
  rw [← hW0]
  have hsz0 : W0.heap.size = w.heap.size + 4 := by rw [hW0]; simp
  rw [← hb9, ← hb8, ← hb7, ← hb6]
  obtain ⟨B0, hB0⟩ : ∃ x, x = w.heap.size + 4 := ⟨_, rfl⟩
  have d86 : b8 ≠ b6 := by omega
  have d87 : b8 ≠ b7 := by omega
  have d89 : b8 ≠ b9 := by omega
  have d96 : b9 ≠ b6 := by omega
  have d97 : b9 ≠ b7 := by omega
  have l6 : b6 < B0 := by omega
  have l7 : b7 < B0 := by omega
  have l8 : b8 < B0 := by omega
  have l9 : b9 < B0 := by omega
  have d67 : b6 ≠ b7 := by omega
  have lw6 : w.heap.size ≤ b6 := by omega
  have lw7 : w.heap.size ≤ b7 := by omega
  have lw8 : w.heap.size ≤ b8 := by omega
  have lw9 : w.heap.size ≤ b9 := by omega
  have lwB0 : w.heap.size ≤ B0 := by omega
  have hszB : B0 ≤ W0.heap.size := by omega
  have K6 := Lib.hid k6
  have K7 := Lib.hid k7
  have K8 := Lib.hid k8
  have K9 := Lib.hid k9
  have KX := Lib.hid kx
  clear hW0 k6 k7 k8 k9 kx hb6 hb7 hb8 hb9 hB0 hsz0
  go_loopw [10] (fun v wr => ∃ (k : Nat) (vi vri : Value), k ≤ l.length ∧ v = .int .i64 k ∧ Block wr b6 #[.int .i64 0, .slice none 0 0, .slice none 0 0, .slice none 0 0, .slice none 0 0, .slice none 0 0, .int .i64 0, .int .i64 0, .slice none 0 0, .slice none 0 0] ∧ Block wr b7 #[.int .i64 0, .slice none 0 0, .slice none 0 0, .slice none 0 0, .slice none 0 0, .slice none 0 0, .int .i64 0, .int .i64 0, .slice none 0 0, .slice none 0 0] ∧ Block wr b8 #[.int .i64 0, .slice none 0 0, .slice none 0 0, vi, .slice none 0 0, .slice none 0 0, .int .i64 0, .int .i64 0, .slice none 0 0, .slice none 0 0] ∧ Block wr b9 #[.int .i64 0, .slice none 0 0, .slice none 0 0, vri, .slice none 0 0, .slice none 0 0, .int .i64 0, .int .i64 0, .slice none 0 0, .slice none 0 0] ∧ Own encIt 22 100 B0 wr vi (itsTo l k) ∧ Own encIt 22 101 B0 wr vri (itsTo l k) ∧ Apt vi vri ∧ Ext w wr ∧ B0 ≤ wr.heap.size) (fun v _ => l.length - (intOf v).toNat)
  case atStart => exact ⟨0, .slice none 0 0, .slice none 0 0, by omega, rfl, K6.out, K7.out, K8.out, K9.out, Own.nil _, Own.nil _, Apt.nil _, KX.out, hszB⟩
  case round =>
    clear K6 K7 K8 K9 KX hszB 
    obtain ⟨k, vi, vri, hk, rfl, h6, h7, h8, h9, hoi, hori, hapt, hx, hszB⟩ := hrel
    have HX := Lib.hid hx
    have HOI := Lib.hid hoi
    have HOR := Lib.hid hori
    have HAP := Lib.hid hapt
    clear hx hoi hori hapt 
    by_cases hlt : k < l.length
    · obtain ⟨b0, off0, rfl, rw0⟩ := SliceOf.elemK H0.out hlt
      have r0 := HX.out.range rw0
      have c4 := r0 4 _ rfl
      have c0 := r0 0 _ rfl
      have hvo := HV.out _ (List.getElem_mem hlt)
      have hlen : (itsTo l k).length = k := itsTo_len (l := l) (k := k) (by omega)
      have HLEN := Lib.hid hlen
      have HSUC : Hid (itsTo l (k + 1) = itsTo l k ++ [itAt k l[k]]) := Lib.hid (itsTo_succ hlt)
      clear hlen
      have o0 : Old b0 wr := Old.of_cell c0
      have u8 : Under b8 B0 := ⟨l8⟩
      have u9 : Under b9 B0 := ⟨l9⟩
      have ob8 := h8.old
      go_wp2_with fail
      apply wp_region_maker [true, true, true, true, true, true, true, true, true, true, true, true, true, true] 14 [false, false, false, false, false, false, false, false, false, false, false, false, false, false, false, true, true, true] _ 33 (MadeS wr #[.string ⟨#[]⟩, .string ⟨#[]⟩, .string ⟨#[]⟩, .int .i64 l[k].pr, .int .i64 0, .int .i64 0, .int .i64 0, .int .i64 0, .int .i64 (k : Int), .int .i64 ((k : Int) + clampL l[k].ln), .int .i64 l[k].vo, .slice none 0 0, .int .i64 0, .int .i64 0, .int .i64 0, .int .i64 0, .bool false, .int .i64 l[k].gr, .int .i64 l[k].pl, .string ⟨#[]⟩, .string ⟨#[]⟩, .string ⟨#[]⟩]) 15 [16, 17] (by kernel_rfl) rfl rfl (by kernel_rfl) (by kernel_rfl) (by kernel_rfl) (by kernel_rfl) MadeS.keep
      · intro S hS hN R hR
        simp only [part]
        repeat (first | go_big_quiet_skip | ((with_reducible apply q_loadMS midPl r0); (· rfl); (· (first | exact wanted_none rfl | exact wanted_some rfl rfl rfl)); (· rfl); simp only [Act.put, List.setIfInBounds_toArray, List.set_cons_succ, List.set_cons_zero]) | go_big_quiet_step ((go_at_call 23; exact exts_call hS (board_pl _ _ _ (by omega) hvo))))
        with_reducible refine wpQuiet_nil ?_
        exact hR
      · refine ⟨wanted_none rfl, fun W' hx' => ⟨.slice (some ⟨W'.heap.size, 0, none⟩) 1 1, W'.alloc (.cells #[.string ⟨#[]⟩, .string ⟨#[]⟩, .string ⟨#[]⟩, .int .i64 l[k].pr, .int .i64 0, .int .i64 0, .int .i64 0, .int .i64 0, .int .i64 (k : Int), .int .i64 ((k : Int) + clampL l[k].ln), .int .i64 l[k].vo, .slice none 0 0, .int .i64 0, .int .i64 0, .int .i64 0, .int .i64 0, .bool false, .int .i64 l[k].gr, .int .i64 l[k].pl, .string ⟨#[]⟩, .string ⟨#[]⟩, .string ⟨#[]⟩] 100), ?_, (Ext.refl _).alloc _, MadeS.new hx'⟩⟩
        simp [go_sem]
      intro v' W' hx' hmade
      obtain ⟨gn, rfl, hgn, hbn⟩ := hmade
      have kb := h8.ext hx'
      simp only [part, Act.put, List.setIfInBounds_toArray, List.set_cons_succ, List.set_cons_zero]
      go_wp2_with ((at_builtin; refine wl_append1g (enc := encIt) (k := 22) (E := 100) (base := B0) (l := itsTo l k) (y := itAt k l[k]) Tryd.underlying30 hiI hI0 hI1 hI2 rfl (by decide) encIt_len encIt_one rfl rfl (Own.ext HOI.out hx') inferInstance rfl (by rw [HLEN.out]; unfold maxLen; omega) (by rw [HLEN.out]; omega) (by have h9 := hx'.size; omega) ?_; intro vc nc hownC hkept; obtain ⟨gc, capc, rfl, hgc1, hgc2⟩ := Own.formS hownC))
      replace hkept : Kept W' vi nc.val (.slice (some ⟨gc, 0, none⟩) ((itsTo l k).length + 1) capc) := hkept
      have keep := Keep.of (b := b8) (i := 3) (v := .slice (some ⟨gc, 0, none⟩) ((itsTo l k).length + 1) capc) hx' nc hszB
      have nh6 := keep.block h6 l6 (Ne.symm d86)
      have nh7 := keep.block h7 l7 (Ne.symm d87)
      have nh9 := keep.block h9 l9 (Ne.symm d89)
      have nh8 : Block (nc.val.setCell ⟨b8, 3, none⟩ (.slice (some ⟨gc, 0, none⟩) ((itsTo l k).length + 1) capc)) b8 #[.int .i64 0, .slice none 0 0, .slice none 0 0, .slice (some ⟨gc, 0, none⟩) ((itsTo l k).length + 1) capc, .slice none 0 0, .slice none 0 0, .int .i64 0, .int .i64 0, .slice none 0 0, .slice none 0 0] := (inferInstance : Block (nc.val.setCell ⟨b8, 3, none⟩ (.slice (some ⟨gc, 0, none⟩) ((itsTo l k).length + 1) capc)) b8 (Array.setIfInBounds _ 3 (.slice (some ⟨gc, 0, none⟩) ((itsTo l k).length + 1) capc)))
      have no : Own encIt 22 100 B0 (nc.val.setCell ⟨b8, 3, none⟩ (.slice (some ⟨gc, 0, none⟩) ((itsTo l k).length + 1) capc)) (.slice (some ⟨gc, 0, none⟩) ((itsTo l k).length + 1) capc) (itsTo l (k + 1)) := by rw [HSUC.out]; exact Own.set_low hownC l8 _
      have ns := Own.set_low (i := 3) (hkept.other (Own.ext HOR.out hx') HAP.out) l8 (.slice (some ⟨gc, 0, none⟩) ((itsTo l k).length + 1) capc)
      have na := hkept.apt (Own.ext HOR.out hx') HAP.out
      have nx := keep.ext HX.out lw8 lwB0
      have nz : B0 ≤ (nc.val.setCell ⟨b8, 3, none⟩ (.slice (some ⟨gc, 0, none⟩) ((itsTo l k).length + 1) capc)).heap.size := Nat.le_trans hszB keep.size
      generalize nc.val.setCell ⟨b8, 3, none⟩ (.slice (some ⟨gc, 0, none⟩) ((itsTo l k).length + 1) capc) = W1 at *
      replace HX := Lib.hid nx
      replace HOI := Lib.hid no
      replace HOR := Lib.hid ns
      replace HAP := Lib.hid na
      replace r0 := nx.range rw0
      replace c4 := r0 4 _ rfl
      replace c0 := r0 0 _ rfl
      replace o0 : Old b0 W1 := Old.of_cell c0
      have ob9 := nh9.old
      clear h6 h7 h8 h9 keep hkept hownC no ns na nx hszB ob8 nc hgc2 hbn hgn hx' kb 
      have hszB := nz
      clear nz
      have h6 := nh6
      have h7 := nh7
      have h8 := nh8
      have h9 := nh9
      clear nh6 nh7 nh8 nh9
      have hgc3 := hgc1
      apply wp_region_maker [true, true, true, true, true, true, true, true, true, true, true, true, true, true] 14 [false, false, false, false, false, false, false, false, false, false, false, false, false, false, false, true, true, true] _ 50 (MadeS W1 #[.string ⟨#[]⟩, .string ⟨#[]⟩, .string ⟨#[]⟩, .int .i64 l[k].pr, .int .i64 0, .int .i64 0, .int .i64 0, .int .i64 0, .int .i64 (k : Int), .int .i64 ((k : Int) + clampL l[k].ln), .int .i64 l[k].vo, .slice none 0 0, .int .i64 0, .int .i64 0, .int .i64 0, .int .i64 0, .bool false, .int .i64 l[k].gr, .int .i64 l[k].pl, .string ⟨#[]⟩, .string ⟨#[]⟩, .string ⟨#[]⟩]) 15 [16, 17] (by kernel_rfl) rfl rfl (by kernel_rfl) (by kernel_rfl) (by kernel_rfl) (by kernel_rfl) MadeS.keep
      · intro S hS hN R hR
        simp only [part]
        repeat (first | go_big_quiet_skip | ((with_reducible apply q_loadMS midPl r0); (· rfl); (· (first | exact wanted_none rfl | exact wanted_some rfl rfl rfl)); (· rfl); simp only [Act.put, List.setIfInBounds_toArray, List.set_cons_succ, List.set_cons_zero]) | go_big_quiet_step ((go_at_call 23; exact exts_call hS (board_pl _ _ _ (by omega) hvo))))
        with_reducible refine wpQuiet_nil ?_
        exact hR
      · refine ⟨wanted_none rfl, fun W' hx' => ⟨.slice (some ⟨W'.heap.size, 0, none⟩) 1 1, W'.alloc (.cells #[.string ⟨#[]⟩, .string ⟨#[]⟩, .string ⟨#[]⟩, .int .i64 l[k].pr, .int .i64 0, .int .i64 0, .int .i64 0, .int .i64 0, .int .i64 (k : Int), .int .i64 ((k : Int) + clampL l[k].ln), .int .i64 l[k].vo, .slice none 0 0, .int .i64 0, .int .i64 0, .int .i64 0, .int .i64 0, .bool false, .int .i64 l[k].gr, .int .i64 l[k].pl, .string ⟨#[]⟩, .string ⟨#[]⟩, .string ⟨#[]⟩] 101), ?_, (Ext.refl _).alloc _, MadeS.new hx'⟩⟩
        simp [go_sem]
      intro v' W' hx' hmade
      obtain ⟨gn, rfl, hgn, hbn⟩ := hmade
      have kb := h9.ext hx'
      simp only [part, Act.put, List.setIfInBounds_toArray, List.set_cons_succ, List.set_cons_zero]
      go_wp2_with ((at_builtin; refine wl_append1g (enc := encIt) (k := 22) (E := 101) (base := B0) (l := itsTo l k) (y := itAt k l[k]) Tryd.underlying38 hiJ hJ0 hJ1 hJ2 rfl (by decide) encIt_len encIt_one rfl rfl (Own.ext HOR.out hx') inferInstance rfl (by rw [HLEN.out]; unfold maxLen; omega) (by rw [HLEN.out]; omega) (by have h9 := hx'.size; omega) ?_; intro vc nc hownC hkept; obtain ⟨gc, capc, rfl, hgc1, hgc2⟩ := Own.formS hownC))
      go_roundw
      case rel =>
        replace hkept : Kept W' vri nc.val (.slice (some ⟨gc, 0, none⟩) ((itsTo l k).length + 1) capc) := hkept
        have keep := Keep.of (b := b9) (i := 3) (v := .slice (some ⟨gc, 0, none⟩) ((itsTo l k).length + 1) capc) hx' nc hszB
        have nh6 := keep.block h6 l6 (Ne.symm d96)
        have nh7 := keep.block h7 l7 (Ne.symm d97)
        have nh8 := keep.block h8 l8 d89
        have nh9 : Block (nc.val.setCell ⟨b9, 3, none⟩ (.slice (some ⟨gc, 0, none⟩) ((itsTo l k).length + 1) capc)) b9 #[.int .i64 0, .slice none 0 0, .slice none 0 0, .slice (some ⟨gc, 0, none⟩) ((itsTo l k).length + 1) capc, .slice none 0 0, .slice none 0 0, .int .i64 0, .int .i64 0, .slice none 0 0, .slice none 0 0] := (inferInstance : Block (nc.val.setCell ⟨b9, 3, none⟩ (.slice (some ⟨gc, 0, none⟩) ((itsTo l k).length + 1) capc)) b9 (Array.setIfInBounds _ 3 (.slice (some ⟨gc, 0, none⟩) ((itsTo l k).length + 1) capc)))
        have no : Own encIt 22 101 B0 (nc.val.setCell ⟨b9, 3, none⟩ (.slice (some ⟨gc, 0, none⟩) ((itsTo l k).length + 1) capc)) (.slice (some ⟨gc, 0, none⟩) ((itsTo l k).length + 1) capc) (itsTo l (k + 1)) := by rw [HSUC.out]; exact Own.set_low hownC l9 _
        have ns := Own.set_low (i := 3) (hkept.other (Own.ext HOI.out hx') HAP.out.symm) l9 (.slice (some ⟨gc, 0, none⟩) ((itsTo l k).length + 1) capc)
        have na := hkept.apt (Own.ext HOI.out hx') HAP.out.symm
        have nx := keep.ext HX.out lw9 lwB0
        have nz : B0 ≤ (nc.val.setCell ⟨b9, 3, none⟩ (.slice (some ⟨gc, 0, none⟩) ((itsTo l k).length + 1) capc)).heap.size := Nat.le_trans hszB keep.size
        generalize nc.val.setCell ⟨b9, 3, none⟩ (.slice (some ⟨gc, 0, none⟩) ((itsTo l k).length + 1) capc) = W2 at *
        exact ⟨k + 1, _, _, by omega, by go_num, nh6, nh7, nh8, nh9, ns, no, na.symm, nx, nz⟩
      case measure => simp [intOf]; omega
    · obtain rfl : k = l.length := by omega
      obtain ⟨pI, nI, capI, rfl, hnI, hpI⟩ := Own.low HOI.out
      obtain ⟨pJ, nJ, capJ, rfl, hnJ, hpJ⟩ := Own.low HOR.out
      have KI := Lib.hid (Own.slice encIt_len HOI.out)
      have KJ := Lib.hid (Own.slice encIt_len HOR.out)
      obtain ⟨B1, hB1⟩ : ∃ x, x = wr.heap.size := ⟨_, rfl⟩
      have pI8 : ∀ a, pI = some a → a.block < B1 ∧ a.block ≠ b8 := fun a ha => by have := hpI a ha; omega
      have pI9 : ∀ a, pI = some a → a.block < B1 ∧ a.block ≠ b9 := fun a ha => by have := hpI a ha; omega
      have pJ8 : ∀ a, pJ = some a → a.block < B1 ∧ a.block ≠ b8 := fun a ha => by have := hpJ a ha; omega
      have pJ9 : ∀ a, pJ = some a → a.block < B1 ∧ a.block ≠ b9 := fun a ha => by have := hpJ a ha; omega
      have PI6 : Hid (∀ a, pI = some a → a.block ≠ b6 ∧ a.block ≠ b7) := Lib.hid (fun a ha => by have := hpI a ha; omega)
      have PJ6 : Hid (∀ a, pJ = some a → a.block ≠ b6 ∧ a.block ≠ b7) := Lib.hid (fun a ha => by have := hpJ a ha; omega)
      have PI8 := Lib.hid pI8
      have PI9 := Lib.hid pI9
      have PJ8 := Lib.hid pJ8
      have PJ9 := Lib.hid pJ9
      have l6b : b6 < B1 := by omega
      have l7b : b7 < B1 := by omega
      have l8b : b8 < B1 := by omega
      have l9b : b9 < B1 := by omega
      have lwB1 : w.heap.size ≤ B1 := by omega
      have hszB1 : B1 ≤ wr.heap.size := by omega
      have K6 := Lib.hid h6
      have K7 := Lib.hid h7
      have K8 := Lib.hid h8
      have K9 := Lib.hid h9
      have KX := HX
      clear pI8 pI9 pJ8 pJ9 hpI hpJ h6 h7 h8 h9 HX HOI HOR HAP hB1 hszB
      have hszB := hszB1
      clear hszB1
      generalize wr = WL at *
      go_wp2_with fail
      go_loopw [11] (fun v wr => ∃ (k : Nat) (vl vrl : Value), k ≤ g.length ∧ v = .int .i64 k ∧ Block wr b6 #[.int .i64 0, .slice none 0 0, .slice none 0 0, .slice none 0 0, .slice none 0 0, .slice none 0 0, .int .i64 0, .int .i64 0, .slice none 0 0, .slice none 0 0] ∧ Block wr b7 #[.int .i64 0, .slice none 0 0, .slice none 0 0, .slice none 0 0, .slice none 0 0, .slice none 0 0, .int .i64 0, .int .i64 0, .slice none 0 0, .slice none 0 0] ∧ Block wr b8 #[.int .i64 0, .slice none 0 0, vl, .slice pI nI capI, .slice none 0 0, .slice none 0 0, .int .i64 0, .int .i64 0, .slice none 0 0, .slice none 0 0] ∧ Block wr b9 #[.int .i64 0, .slice none 0 0, vrl, .slice pJ nJ capJ, .slice none 0 0, .slice none 0 0, .int .i64 0, .int .i64 0, .slice none 0 0, .slice none 0 0] ∧ Own encLg 19 111 B1 wr vl (tk g k) ∧ Own encLg 19 112 B1 wr vrl (tk g k) ∧ Apt vl vrl ∧ Ext w wr ∧ B1 ≤ wr.heap.size ∧ SliceOf encIt 22 wr (.slice pI nI capI) (itsTo l l.length) ∧ SliceOf encIt 22 wr (.slice pJ nJ capJ) (itsTo l l.length)) (fun v _ => g.length - (intOf v).toNat)
      case atStart => exact ⟨0, .slice none 0 0, .slice none 0 0, by omega, rfl, K6.out, K7.out, K8.out, K9.out, Own.nil _, Own.nil _, Apt.nil _, KX.out, hszB, KI.out, KJ.out⟩
      case round =>
        clear K6 K7 K8 K9 KX hszB KI KJ
        obtain ⟨k, vl, vrl, hk, rfl, h6, h7, h8, h9, hoi, hori, hapt, hx, hszB, sKI, sKJ⟩ := hrel
        have HX := Lib.hid hx
        have HOI := Lib.hid hoi
        have HOR := Lib.hid hori
        have HAP := Lib.hid hapt
        have KI := Lib.hid sKI
        have KJ := Lib.hid sKJ
        clear hx hoi hori hapt sKI sKJ
        by_cases hlt : k < g.length
        · obtain ⟨b1, off0, rfl, rw0⟩ := SliceOf.elemK H1.out hlt
          have r0 := HX.out.range rw0
          have c0 : World.cell? _ ⟨b1, off0 + k * 7, none⟩ = some (.string g[k].sp) := r0 0 _ rfl
          have c1 := r0 1 _ rfl
          have rY : World.rangeAt _ b1 (off0 + k * 7 + 2) [.int .i64 g[k].y.lg, .int .i64 g[k].y.bo, .int .i64 g[k].y.ch, .int .i64 g[k].y.du, .int .i64 g[k].y.va] := (fun j u hj => by have := r0 (2 + j) u (by rw [show encSw g[k] = [.string g[k].sp, .bool g[k].sn] ++ [.int .i64 g[k].y.lg, .int .i64 g[k].y.bo, .int .i64 g[k].y.ch, .int .i64 g[k].y.du, .int .i64 g[k].y.va] from rfl, List.getElem?_append_right (by simp)]; simpa using hj); rw [show off0 + k * 7 + 2 + j = off0 + k * 7 + (2 + j) by omega]; exact this)
          have hlen : (tk g k).length = k := tk_len (by omega)
          have HLEN := Lib.hid hlen
          have HSUC : Hid (tk g (k + 1) = tk g k ++ [g[k]]) := Lib.hid (tk_succ hlt)
          clear hlen
          have o0 : Old b1 wr := Old.of_cell c0
          have u8 : Under b8 B1 := ⟨l8b⟩
          have u9 : Under b9 B1 := ⟨l9b⟩
          have ob8 := h8.old
          go_wp2_with fail
          apply wp_region_maker [true, true, true, true, true, true, true, true, true, true, true, true, true, true, true, true, true, true] 18 [false, false, false, false, false, false, false, false, false, false, false, false, false, false, false, false, false, false, false, true, true, true] _ 77 (MadeS wr #[.string ⟨#[]⟩, .string ⟨#[]⟩, .string g[k].sp, .int .i64 0, .bool false, .bool g[k].sn, .slice none 0 0, .slice none 0 0, .int .i64 0, .int .i64 0, .int .i64 0, .int .i64 0, .int .i64 0, .slice none 0 0, .int .i64 g[k].y.lg, .int .i64 g[k].y.bo, .int .i64 g[k].y.ch, .int .i64 g[k].y.du, .int .i64 g[k].y.va]) 19 [20, 21] (by kernel_rfl) rfl rfl (by kernel_rfl) (by kernel_rfl) (by kernel_rfl) (by kernel_rfl) MadeS.keep
          · intro S hS hN R hR
            simp only [part]
            repeat (first | go_big_quiet_skip | ((with_reducible apply q_loadMS midY rY); (· rfl); (· (first | exact wanted_none rfl | exact wanted_some rfl rfl rfl)); (· rfl); simp only [Act.put, List.setIfInBounds_toArray, List.set_cons_succ, List.set_cons_zero]) | go_big_quiet_step (fail))
            with_reducible refine wpQuiet_nil ?_
            exact hR
          · refine ⟨wanted_none rfl, fun W' hx' => ⟨.slice (some ⟨W'.heap.size, 0, none⟩) 1 1, W'.alloc (.cells #[.string ⟨#[]⟩, .string ⟨#[]⟩, .string g[k].sp, .int .i64 0, .bool false, .bool g[k].sn, .slice none 0 0, .slice none 0 0, .int .i64 0, .int .i64 0, .int .i64 0, .int .i64 0, .int .i64 0, .slice none 0 0, .int .i64 g[k].y.lg, .int .i64 g[k].y.bo, .int .i64 g[k].y.ch, .int .i64 g[k].y.du, .int .i64 g[k].y.va] 111), ?_, (Ext.refl _).alloc _, MadeS.new hx'⟩⟩
            simp [go_sem]
          intro v' W' hx' hmade
          obtain ⟨gn, rfl, hgn, hbn⟩ := hmade
          have kb := h8.ext hx'
          simp only [part, Act.put, List.setIfInBounds_toArray, List.set_cons_succ, List.set_cons_zero]
          go_wp2_with ((at_builtin; refine wl_append1g (enc := encLg) (k := 19) (E := 111) (base := B1) (l := tk g k) (y := g[k]) Tryd.underlying29 hiL hL0 hL1 hL2 rfl (by decide) encLg_len encLg_one rfl rfl (Own.ext HOI.out hx') inferInstance rfl (by rw [HLEN.out]; unfold maxLen; omega) (by rw [HLEN.out]; omega) (by have h9 := hx'.size; omega) ?_; intro vc nc hownC hkept; obtain ⟨gc, capc, rfl, hgc1, hgc2⟩ := Own.formS hownC))
          replace hkept : Kept W' vl nc.val (.slice (some ⟨gc, 0, none⟩) ((tk g k).length + 1) capc) := hkept
          have keep := Keep.of (b := b8) (i := 2) (v := .slice (some ⟨gc, 0, none⟩) ((tk g k).length + 1) capc) hx' nc hszB
          have nh6 := keep.block h6 l6b (Ne.symm d86)
          have nh7 := keep.block h7 l7b (Ne.symm d87)
          have nh9 := keep.block h9 l9b (Ne.symm d89)
          have nh8 : Block (nc.val.setCell ⟨b8, 2, none⟩ (.slice (some ⟨gc, 0, none⟩) ((tk g k).length + 1) capc)) b8 #[.int .i64 0, .slice none 0 0, .slice (some ⟨gc, 0, none⟩) ((tk g k).length + 1) capc, .slice pI nI capI, .slice none 0 0, .slice none 0 0, .int .i64 0, .int .i64 0, .slice none 0 0, .slice none 0 0] := (inferInstance : Block (nc.val.setCell ⟨b8, 2, none⟩ (.slice (some ⟨gc, 0, none⟩) ((tk g k).length + 1) capc)) b8 (Array.setIfInBounds _ 2 (.slice (some ⟨gc, 0, none⟩) ((tk g k).length + 1) capc)))
          have no : Own encLg 19 111 B1 (nc.val.setCell ⟨b8, 2, none⟩ (.slice (some ⟨gc, 0, none⟩) ((tk g k).length + 1) capc)) (.slice (some ⟨gc, 0, none⟩) ((tk g k).length + 1) capc) (tk g (k + 1)) := by rw [HSUC.out]; exact Own.set_low hownC l8b _
          have ns := Own.set_low (i := 2) (hkept.other (Own.ext HOR.out hx') HAP.out) l8b (.slice (some ⟨gc, 0, none⟩) ((tk g k).length + 1) capc)
          have na := hkept.apt (Own.ext HOR.out hx') HAP.out
          have nKI := keep.slice KI.out PI8.out
          have nKJ := keep.slice KJ.out PJ8.out
          have nx := keep.ext HX.out lw8 lwB1
          have nz : B1 ≤ (nc.val.setCell ⟨b8, 2, none⟩ (.slice (some ⟨gc, 0, none⟩) ((tk g k).length + 1) capc)).heap.size := Nat.le_trans hszB keep.size
          generalize nc.val.setCell ⟨b8, 2, none⟩ (.slice (some ⟨gc, 0, none⟩) ((tk g k).length + 1) capc) = W1 at *
          replace HX := Lib.hid nx
          replace HOI := Lib.hid no
          replace HOR := Lib.hid ns
          replace HAP := Lib.hid na
          replace KI := Lib.hid nKI
          replace KJ := Lib.hid nKJ
          replace r0 := nx.range rw0
          replace c0 : World.cell? _ ⟨b1, off0 + k * 7, none⟩ = some (.string g[k].sp) := r0 0 _ rfl
          replace c1 := r0 1 _ rfl
          replace rY : World.rangeAt _ b1 (off0 + k * 7 + 2) [.int .i64 g[k].y.lg, .int .i64 g[k].y.bo, .int .i64 g[k].y.ch, .int .i64 g[k].y.du, .int .i64 g[k].y.va] := (fun j u hj => by have := r0 (2 + j) u (by rw [show encSw g[k] = [.string g[k].sp, .bool g[k].sn] ++ [.int .i64 g[k].y.lg, .int .i64 g[k].y.bo, .int .i64 g[k].y.ch, .int .i64 g[k].y.du, .int .i64 g[k].y.va] from rfl, List.getElem?_append_right (by simp)]; simpa using hj); rw [show off0 + k * 7 + 2 + j = off0 + k * 7 + (2 + j) by omega]; exact this)
          replace o0 : Old b1 W1 := Old.of_cell c0
          have ob9 := nh9.old
          clear h6 h7 h8 h9 keep hkept hownC no ns na nx hszB ob8 nc hgc2 hbn hgn hx' kb nKI nKJ
          have hszB := nz
          clear nz
          have h6 := nh6
          have h7 := nh7
          have h8 := nh8
          have h9 := nh9
          clear nh6 nh7 nh8 nh9
          have hgc3 := hgc1
          apply wp_region_maker [true, true, true, true, true, true, true, true, true, true, true, true, true, true, true, true, true, true] 18 [false, false, false, false, false, false, false, false, false, false, false, false, false, false, false, false, false, false, false, true, true, true] _ 98 (MadeS W1 #[.string ⟨#[]⟩, .string ⟨#[]⟩, .string g[k].sp, .int .i64 0, .bool false, .bool g[k].sn, .slice none 0 0, .slice none 0 0, .int .i64 0, .int .i64 0, .int .i64 0, .int .i64 0, .int .i64 0, .slice none 0 0, .int .i64 g[k].y.lg, .int .i64 g[k].y.bo, .int .i64 g[k].y.ch, .int .i64 g[k].y.du, .int .i64 g[k].y.va]) 19 [20, 21] (by kernel_rfl) rfl rfl (by kernel_rfl) (by kernel_rfl) (by kernel_rfl) (by kernel_rfl) MadeS.keep
          · intro S hS hN R hR
            simp only [part]
            repeat (first | go_big_quiet_skip | ((with_reducible apply q_loadMS midY rY); (· rfl); (· (first | exact wanted_none rfl | exact wanted_some rfl rfl rfl)); (· rfl); simp only [Act.put, List.setIfInBounds_toArray, List.set_cons_succ, List.set_cons_zero]) | go_big_quiet_step (fail))
            with_reducible refine wpQuiet_nil ?_
            exact hR
          · refine ⟨wanted_none rfl, fun W' hx' => ⟨.slice (some ⟨W'.heap.size, 0, none⟩) 1 1, W'.alloc (.cells #[.string ⟨#[]⟩, .string ⟨#[]⟩, .string g[k].sp, .int .i64 0, .bool false, .bool g[k].sn, .slice none 0 0, .slice none 0 0, .int .i64 0, .int .i64 0, .int .i64 0, .int .i64 0, .int .i64 0, .slice none 0 0, .int .i64 g[k].y.lg, .int .i64 g[k].y.bo, .int .i64 g[k].y.ch, .int .i64 g[k].y.du, .int .i64 g[k].y.va] 112), ?_, (Ext.refl _).alloc _, MadeS.new hx'⟩⟩
            simp [go_sem]
          intro v' W' hx' hmade
          obtain ⟨gn, rfl, hgn, hbn⟩ := hmade
          have kb := h9.ext hx'
          simp only [part, Act.put, List.setIfInBounds_toArray, List.set_cons_succ, List.set_cons_zero]
          go_wp2_with ((at_builtin; refine wl_append1g (enc := encLg) (k := 19) (E := 112) (base := B1) (l := tk g k) (y := g[k]) Tryd.underlying37 hiM hM0 hM1 hM2 rfl (by decide) encLg_len encLg_one rfl rfl (Own.ext HOR.out hx') inferInstance rfl (by rw [HLEN.out]; unfold maxLen; omega) (by rw [HLEN.out]; omega) (by have h9 := hx'.size; omega) ?_; intro vc nc hownC hkept; obtain ⟨gc, capc, rfl, hgc1, hgc2⟩ := Own.formS hownC))
          go_roundw
          case rel =>
            replace hkept : Kept W' vrl nc.val (.slice (some ⟨gc, 0, none⟩) ((tk g k).length + 1) capc) := hkept
            have keep := Keep.of (b := b9) (i := 2) (v := .slice (some ⟨gc, 0, none⟩) ((tk g k).length + 1) capc) hx' nc hszB
            have nh6 := keep.block h6 l6b (Ne.symm d96)
            have nh7 := keep.block h7 l7b (Ne.symm d97)
            have nh8 := keep.block h8 l8b d89
            have nh9 : Block (nc.val.setCell ⟨b9, 2, none⟩ (.slice (some ⟨gc, 0, none⟩) ((tk g k).length + 1) capc)) b9 #[.int .i64 0, .slice none 0 0, .slice (some ⟨gc, 0, none⟩) ((tk g k).length + 1) capc, .slice pJ nJ capJ, .slice none 0 0, .slice none 0 0, .int .i64 0, .int .i64 0, .slice none 0 0, .slice none 0 0] := (inferInstance : Block (nc.val.setCell ⟨b9, 2, none⟩ (.slice (some ⟨gc, 0, none⟩) ((tk g k).length + 1) capc)) b9 (Array.setIfInBounds _ 2 (.slice (some ⟨gc, 0, none⟩) ((tk g k).length + 1) capc)))
            have no : Own encLg 19 112 B1 (nc.val.setCell ⟨b9, 2, none⟩ (.slice (some ⟨gc, 0, none⟩) ((tk g k).length + 1) capc)) (.slice (some ⟨gc, 0, none⟩) ((tk g k).length + 1) capc) (tk g (k + 1)) := by rw [HSUC.out]; exact Own.set_low hownC l9b _
            have ns := Own.set_low (i := 2) (hkept.other (Own.ext HOI.out hx') HAP.out.symm) l9b (.slice (some ⟨gc, 0, none⟩) ((tk g k).length + 1) capc)
            have na := hkept.apt (Own.ext HOI.out hx') HAP.out.symm
            have nKI := keep.slice KI.out PI9.out
            have nKJ := keep.slice KJ.out PJ9.out
            have nx := keep.ext HX.out lw9 lwB1
            have nz : B1 ≤ (nc.val.setCell ⟨b9, 2, none⟩ (.slice (some ⟨gc, 0, none⟩) ((tk g k).length + 1) capc)).heap.size := Nat.le_trans hszB keep.size
            generalize nc.val.setCell ⟨b9, 2, none⟩ (.slice (some ⟨gc, 0, none⟩) ((tk g k).length + 1) capc) = W2 at *
            exact ⟨k + 1, _, _, by omega, by go_num, nh6, nh7, nh8, nh9, ns, no, na.symm, nx, nz, nKI, nKJ⟩
          case measure => simp [intOf]; omega
        · obtain rfl : k = g.length := by omega
          obtain ⟨pL, nL, capL, rfl, hnL, hpL⟩ := Own.low HOI.out
          obtain ⟨pM, nM, capM, rfl, hnM, hpM⟩ := Own.low HOR.out
          have KL := Lib.hid (Own.slice encLg_len HOI.out)
          have KM := Lib.hid (Own.slice encLg_len HOR.out)
          obtain ⟨B2, hB2⟩ : ∃ x, x = wr.heap.size := ⟨_, rfl⟩
          have pL8 : ∀ a, pL = some a → a.block < B2 ∧ a.block ≠ b8 := fun a ha => by have := hpL a ha; omega
          have pL9 : ∀ a, pL = some a → a.block < B2 ∧ a.block ≠ b9 := fun a ha => by have := hpL a ha; omega
          have pM8 : ∀ a, pM = some a → a.block < B2 ∧ a.block ≠ b8 := fun a ha => by have := hpM a ha; omega
          have pM9 : ∀ a, pM = some a → a.block < B2 ∧ a.block ≠ b9 := fun a ha => by have := hpM a ha; omega
          have PL6 : Hid (∀ a, pL = some a → a.block ≠ b6 ∧ a.block ≠ b7) := Lib.hid (fun a ha => by have := hpL a ha; omega)
          have PM6 : Hid (∀ a, pM = some a → a.block ≠ b6 ∧ a.block ≠ b7) := Lib.hid (fun a ha => by have := hpM a ha; omega)
          have PL8 := Lib.hid pL8
          have PL9 := Lib.hid pL9
          have PM8 := Lib.hid pM8
          have PM9 := Lib.hid pM9
          have l6c : b6 < B2 := by omega
          have l7c : b7 < B2 := by omega
          have l8c : b8 < B2 := by omega
          have l9c : b9 < B2 := by omega
          have lwB2 : w.heap.size ≤ B2 := by omega
          have hszB3 : B2 ≤ wr.heap.size := by omega
          have qI8 : ∀ a, pI = some a → a.block < B2 ∧ a.block ≠ b8 := fun a ha => by have := PI8.out a ha; omega
          have qI9 : ∀ a, pI = some a → a.block < B2 ∧ a.block ≠ b9 := fun a ha => by have := PI9.out a ha; omega
          have qJ8 : ∀ a, pJ = some a → a.block < B2 ∧ a.block ≠ b8 := fun a ha => by have := PJ8.out a ha; omega
          have qJ9 : ∀ a, pJ = some a → a.block < B2 ∧ a.block ≠ b9 := fun a ha => by have := PJ9.out a ha; omega
          replace PI8 := Lib.hid qI8
          replace PI9 := Lib.hid qI9
          replace PJ8 := Lib.hid qJ8
          replace PJ9 := Lib.hid qJ9
          clear qI8 qI9 qJ8 qJ9
          have K6 := Lib.hid h6
          have K7 := Lib.hid h7
          have K8 := Lib.hid h8
          have K9 := Lib.hid h9
          have KX := HX
          clear pL8 pL9 pM8 pM9 hpL hpM h6 h7 h8 h9 HX HOI HOR HAP hB2 hszB
          have hszB := hszB3
          clear hszB3
          generalize wr = WL at *
          go_wp2_with fail
          go_loopw [12] (fun v wr => ∃ (k : Nat) (vo vro : Value), k ≤ d.length ∧ v = .int .i64 k ∧ Block wr b6 #[.int .i64 0, .slice none 0 0, .slice none 0 0, .slice none 0 0, .slice none 0 0, .slice none 0 0, .int .i64 0, .int .i64 0, .slice none 0 0, .slice none 0 0] ∧ Block wr b7 #[.int .i64 0, .slice none 0 0, .slice none 0 0, .slice none 0 0, .slice none 0 0, .slice none 0 0, .int .i64 0, .int .i64 0, .slice none 0 0, .slice none 0 0] ∧ Block wr b8 #[.int .i64 0, .slice none 0 0, .slice pL nL capL, .slice pI nI capI, .slice none 0 0, vo, .int .i64 0, .int .i64 0, .slice none 0 0, .slice none 0 0] ∧ Block wr b9 #[.int .i64 0, .slice none 0 0, .slice pM nM capM, .slice pJ nJ capJ, .slice none 0 0, vro, .int .i64 0, .int .i64 0, .slice none 0 0, .slice none 0 0] ∧ Own encDm 12 116 B2 wr vo (tk d k) ∧ Own encDm 12 117 B2 wr vro (tk d k) ∧ Apt vo vro ∧ Ext w wr ∧ B2 ≤ wr.heap.size ∧ SliceOf encIt 22 wr (.slice pI nI capI) (itsTo l l.length) ∧ SliceOf encIt 22 wr (.slice pJ nJ capJ) (itsTo l l.length) ∧ SliceOf encLg 19 wr (.slice pL nL capL) (tk g g.length) ∧ SliceOf encLg 19 wr (.slice pM nM capM) (tk g g.length)) (fun v _ => d.length - (intOf v).toNat)
          case atStart => exact ⟨0, .slice none 0 0, .slice none 0 0, by omega, rfl, K6.out, K7.out, K8.out, K9.out, Own.nil _, Own.nil _, Apt.nil _, KX.out, hszB, KI.out, KJ.out, KL.out, KM.out⟩
          case round =>
            clear K6 K7 K8 K9 KX hszB KI KJ KL KM
            obtain ⟨k, vo, vro, hk, rfl, h6, h7, h8, h9, hoi, hori, hapt, hx, hszB, sKI, sKJ, sKL, sKM⟩ := hrel
            have HX := Lib.hid hx
            have HOI := Lib.hid hoi
            have HOR := Lib.hid hori
            have HAP := Lib.hid hapt
            have KI := Lib.hid sKI
            have KJ := Lib.hid sKJ
            have KL := Lib.hid sKL
            have KM := Lib.hid sKM
            clear hx hoi hori hapt sKI sKJ sKL sKM
            by_cases hlt : k < d.length
            · obtain ⟨b2, off0, rfl, rw0⟩ := SliceOf.elemK H2.out hlt
              have r0 := HX.out.range rw0
              have c0 : World.cell? _ ⟨b2, off0 + k * 2, none⟩ = some (.int .i64 d[k].due) := r0 0 _ rfl
              have c1 := r0 1 _ rfl
              have hlen : (tk d k).length = k := tk_len (by omega)
              have HLEN := Lib.hid hlen
              have HSUC : Hid (tk d (k + 1) = tk d k ++ [d[k]]) := Lib.hid (tk_succ hlt)
              clear hlen
              have o0 : Old b2 wr := Old.of_cell c0
              have u8 : Under b8 B2 := ⟨l8c⟩
              have u9 : Under b9 B2 := ⟨l9c⟩
              have ob8 := h8.old
              go_wp2_with fail
              apply wp_region_maker [true, true, true, true, true, true, true, true, true, true, true, true, true, true] 14 [false, false, false, false, false, false, false, false, false, false, false, false, false, false, false, true, true, true] _ 121 (MadeS wr #[.string ⟨#[]⟩, .string ⟨#[]⟩, .int .i64 0, .int .i64 0, .int .i64 0, .int .i64 0, .int .i64 0, .int .i64 0, .int .i64 0, .int .i64 0, .int .i64 d[k].due, .bool d[k].sh]) 15 [16, 17] (by kernel_rfl) rfl rfl (by kernel_rfl) (by kernel_rfl) (by kernel_rfl) (by kernel_rfl) MadeS.keep
              · intro S hS hN R hR
                simp only [part]
                repeat (first | go_big_quiet_skip | go_big_quiet_step (fail))
                with_reducible refine wpQuiet_nil ?_
                exact hR
              · refine ⟨wanted_none rfl, fun W' hx' => ⟨.slice (some ⟨W'.heap.size, 0, none⟩) 1 1, W'.alloc (.cells #[.string ⟨#[]⟩, .string ⟨#[]⟩, .int .i64 0, .int .i64 0, .int .i64 0, .int .i64 0, .int .i64 0, .int .i64 0, .int .i64 0, .int .i64 0, .int .i64 d[k].due, .bool d[k].sh] 116), ?_, (Ext.refl _).alloc _, MadeS.new hx'⟩⟩
                simp [go_sem]
              intro v' W' hx' hmade
              obtain ⟨gn, rfl, hgn, hbn⟩ := hmade
              have kb := h8.ext hx'
              simp only [part, Act.put, List.setIfInBounds_toArray, List.set_cons_succ, List.set_cons_zero]
              go_wp2_with ((at_builtin; refine wl_append1g (enc := encDm) (k := 12) (E := 116) (base := B2) (l := tk d k) (y := d[k]) Tryd.underlying32 hiN hN0 hN1 hN2 rfl (by decide) encDm_len encDm_one rfl rfl (Own.ext HOI.out hx') inferInstance rfl (by rw [HLEN.out]; unfold maxLen; omega) (by rw [HLEN.out]; omega) (by have h9 := hx'.size; omega) ?_; intro vc nc hownC hkept; obtain ⟨gc, capc, rfl, hgc1, hgc2⟩ := Own.formS hownC))
              replace hkept : Kept W' vo nc.val (.slice (some ⟨gc, 0, none⟩) ((tk d k).length + 1) capc) := hkept
              have keep := Keep.of (b := b8) (i := 5) (v := .slice (some ⟨gc, 0, none⟩) ((tk d k).length + 1) capc) hx' nc hszB
              have nh6 := keep.block h6 l6c (Ne.symm d86)
              have nh7 := keep.block h7 l7c (Ne.symm d87)
              have nh9 := keep.block h9 l9c (Ne.symm d89)
              have nh8 : Block (nc.val.setCell ⟨b8, 5, none⟩ (.slice (some ⟨gc, 0, none⟩) ((tk d k).length + 1) capc)) b8 #[.int .i64 0, .slice none 0 0, .slice pL nL capL, .slice pI nI capI, .slice none 0 0, .slice (some ⟨gc, 0, none⟩) ((tk d k).length + 1) capc, .int .i64 0, .int .i64 0, .slice none 0 0, .slice none 0 0] := (inferInstance : Block (nc.val.setCell ⟨b8, 5, none⟩ (.slice (some ⟨gc, 0, none⟩) ((tk d k).length + 1) capc)) b8 (Array.setIfInBounds _ 5 (.slice (some ⟨gc, 0, none⟩) ((tk d k).length + 1) capc)))
              have no : Own encDm 12 116 B2 (nc.val.setCell ⟨b8, 5, none⟩ (.slice (some ⟨gc, 0, none⟩) ((tk d k).length + 1) capc)) (.slice (some ⟨gc, 0, none⟩) ((tk d k).length + 1) capc) (tk d (k + 1)) := by rw [HSUC.out]; exact Own.set_low hownC l8c _
              have ns := Own.set_low (i := 5) (hkept.other (Own.ext HOR.out hx') HAP.out) l8c (.slice (some ⟨gc, 0, none⟩) ((tk d k).length + 1) capc)
              have na := hkept.apt (Own.ext HOR.out hx') HAP.out
              have nKI := keep.slice KI.out PI8.out
              have nKJ := keep.slice KJ.out PJ8.out
              have nKL := keep.slice KL.out PL8.out
              have nKM := keep.slice KM.out PM8.out
              have nx := keep.ext HX.out lw8 lwB2
              have nz : B2 ≤ (nc.val.setCell ⟨b8, 5, none⟩ (.slice (some ⟨gc, 0, none⟩) ((tk d k).length + 1) capc)).heap.size := Nat.le_trans hszB keep.size
              generalize nc.val.setCell ⟨b8, 5, none⟩ (.slice (some ⟨gc, 0, none⟩) ((tk d k).length + 1) capc) = W1 at *
              replace HX := Lib.hid nx
              replace HOI := Lib.hid no
              replace HOR := Lib.hid ns
              replace HAP := Lib.hid na
              replace KI := Lib.hid nKI
              replace KJ := Lib.hid nKJ
              replace KL := Lib.hid nKL
              replace KM := Lib.hid nKM
              replace r0 := nx.range rw0
              replace c0 : World.cell? _ ⟨b2, off0 + k * 2, none⟩ = some (.int .i64 d[k].due) := r0 0 _ rfl
              replace c1 := r0 1 _ rfl
              replace o0 : Old b2 W1 := Old.of_cell c0
              have ob9 := nh9.old
              clear h6 h7 h8 h9 keep hkept hownC no ns na nx hszB ob8 nc hgc2 hbn hgn hx' kb nKI nKJ nKL nKM
              have hszB := nz
              clear nz
              have h6 := nh6
              have h7 := nh7
              have h8 := nh8
              have h9 := nh9
              clear nh6 nh7 nh8 nh9
              have hgc3 := hgc1
              apply wp_region_maker [true, true, true, true, true, true, true, true, true, true, true, true, true, true] 14 [false, false, false, false, false, false, false, false, false, false, false, false, false, false, false, true, true, true] _ 138 (MadeS W1 #[.string ⟨#[]⟩, .string ⟨#[]⟩, .int .i64 0, .int .i64 0, .int .i64 0, .int .i64 0, .int .i64 0, .int .i64 0, .int .i64 0, .int .i64 0, .int .i64 d[k].due, .bool d[k].sh]) 15 [16, 17] (by kernel_rfl) rfl rfl (by kernel_rfl) (by kernel_rfl) (by kernel_rfl) (by kernel_rfl) MadeS.keep
              · intro S hS hN R hR
                simp only [part]
                repeat (first | go_big_quiet_skip | go_big_quiet_step (fail))
                with_reducible refine wpQuiet_nil ?_
                exact hR
              · refine ⟨wanted_none rfl, fun W' hx' => ⟨.slice (some ⟨W'.heap.size, 0, none⟩) 1 1, W'.alloc (.cells #[.string ⟨#[]⟩, .string ⟨#[]⟩, .int .i64 0, .int .i64 0, .int .i64 0, .int .i64 0, .int .i64 0, .int .i64 0, .int .i64 0, .int .i64 0, .int .i64 d[k].due, .bool d[k].sh] 117), ?_, (Ext.refl _).alloc _, MadeS.new hx'⟩⟩
                simp [go_sem]
              intro v' W' hx' hmade
              obtain ⟨gn, rfl, hgn, hbn⟩ := hmade
              have kb := h9.ext hx'
              simp only [part, Act.put, List.setIfInBounds_toArray, List.set_cons_succ, List.set_cons_zero]
              go_wp2_with ((at_builtin; refine wl_append1g (enc := encDm) (k := 12) (E := 117) (base := B2) (l := tk d k) (y := d[k]) Tryd.underlying40 hiO hO0 hO1 hO2 rfl (by decide) encDm_len encDm_one rfl rfl (Own.ext HOR.out hx') inferInstance rfl (by rw [HLEN.out]; unfold maxLen; omega) (by rw [HLEN.out]; omega) (by have h9 := hx'.size; omega) ?_; intro vc nc hownC hkept; obtain ⟨gc, capc, rfl, hgc1, hgc2⟩ := Own.formS hownC))
              go_roundw
              case rel =>
                replace hkept : Kept W' vro nc.val (.slice (some ⟨gc, 0, none⟩) ((tk d k).length + 1) capc) := hkept
                have keep := Keep.of (b := b9) (i := 5) (v := .slice (some ⟨gc, 0, none⟩) ((tk d k).length + 1) capc) hx' nc hszB
                have nh6 := keep.block h6 l6c (Ne.symm d96)
                have nh7 := keep.block h7 l7c (Ne.symm d97)
                have nh8 := keep.block h8 l8c d89
                have nh9 : Block (nc.val.setCell ⟨b9, 5, none⟩ (.slice (some ⟨gc, 0, none⟩) ((tk d k).length + 1) capc)) b9 #[.int .i64 0, .slice none 0 0, .slice pM nM capM, .slice pJ nJ capJ, .slice none 0 0, .slice (some ⟨gc, 0, none⟩) ((tk d k).length + 1) capc, .int .i64 0, .int .i64 0, .slice none 0 0, .slice none 0 0] := (inferInstance : Block (nc.val.setCell ⟨b9, 5, none⟩ (.slice (some ⟨gc, 0, none⟩) ((tk d k).length + 1) capc)) b9 (Array.setIfInBounds _ 5 (.slice (some ⟨gc, 0, none⟩) ((tk d k).length + 1) capc)))
                have no : Own encDm 12 117 B2 (nc.val.setCell ⟨b9, 5, none⟩ (.slice (some ⟨gc, 0, none⟩) ((tk d k).length + 1) capc)) (.slice (some ⟨gc, 0, none⟩) ((tk d k).length + 1) capc) (tk d (k + 1)) := by rw [HSUC.out]; exact Own.set_low hownC l9c _
                have ns := Own.set_low (i := 5) (hkept.other (Own.ext HOI.out hx') HAP.out.symm) l9c (.slice (some ⟨gc, 0, none⟩) ((tk d k).length + 1) capc)
                have na := hkept.apt (Own.ext HOI.out hx') HAP.out.symm
                have nKI := keep.slice KI.out PI9.out
                have nKJ := keep.slice KJ.out PJ9.out
                have nKL := keep.slice KL.out PL9.out
                have nKM := keep.slice KM.out PM9.out
                have nx := keep.ext HX.out lw9 lwB2
                have nz : B2 ≤ (nc.val.setCell ⟨b9, 5, none⟩ (.slice (some ⟨gc, 0, none⟩) ((tk d k).length + 1) capc)).heap.size := Nat.le_trans hszB keep.size
                generalize nc.val.setCell ⟨b9, 5, none⟩ (.slice (some ⟨gc, 0, none⟩) ((tk d k).length + 1) capc) = W2 at *
                exact ⟨k + 1, _, _, by omega, by go_num, nh6, nh7, nh8, nh9, ns, no, na.symm, nx, nz, nKI, nKJ, nKL, nKM⟩
              case measure => simp [intOf]; omega
            · obtain rfl : k = d.length := by omega
              rw [tk_all] at HOI HOR KL KM
              obtain ⟨pN, nN, capN, rfl, hnN, hpN⟩ := Own.low HOI.out
              obtain ⟨pO, nO, capO, rfl, hnO, hpO⟩ := Own.low HOR.out
              have KN := Lib.hid (Own.slice encDm_len HOI.out)
              have KO := Lib.hid (Own.slice encDm_len HOR.out)
              have PN6 : Hid (∀ a, pN = some a → a.block ≠ b6 ∧ a.block ≠ b7) := Lib.hid (fun a ha => by have := hpN a ha; omega)
              have PO6 : Hid (∀ a, pO = some a → a.block ≠ b6 ∧ a.block ≠ b7) := Lib.hid (fun a ha => by have := hpO a ha; omega)
              clear HOI HOR HAP hpN hpO
              have a68 : Apart b6 b8 := ⟨Ne.symm d86⟩
              have a69 : Apart b6 b9 := ⟨Ne.symm d96⟩
              have a78 : Apart b7 b8 := ⟨Ne.symm d87⟩
              have a79 : Apart b7 b9 := ⟨Ne.symm d97⟩
              have a67 : Apart b6 b7 := ⟨d67⟩
              have a76 : Apart b7 b6 := ⟨Ne.symm d67⟩
              go_wp2_with fail
              refine region_held (S := fun W' => Block W' b8 #[.int .i64 0, .slice none 0 0, .slice pL nL capL, .slice pI nI capI, .slice none 0 0, .slice pN nN capN, .int .i64 0, .int .i64 0, .slice none 0 0, .slice none 0 0] ∧ Block W' b9 #[.int .i64 0, .slice none 0 0, .slice pM nM capM, .slice pJ nJ capJ, .slice none 0 0, .slice pO nO capO, .int .i64 0, .int .i64 0, .slice none 0 0, .slice none 0 0]) (by kernel_rfl) ?_
              refine wpAnyH_take (i := 0) (v := .agg #[.int .i64 0, .slice none 0 0, .slice pL nL capL, .slice pI nI capI, .slice none 0 0, .slice pN nN capN, .int .i64 0, .int .i64 0, .slice none 0 0, .slice none 0 0]) rfl (by kernel_rfl) (by kernel_rfl) (by kernel_rfl) (fun _ _ _ h => h) (.inl ⟨rfl, fun w' hb => run_load_op lwSt rfl rfl hb.1 rfl⟩) ⟨inferInstance, inferInstance⟩ ?_
              refine wpAnyH_take (i := 1) (v := .agg #[.int .i64 0, .slice none 0 0, .slice pM nM capM, .slice pJ nJ capJ, .slice none 0 0, .slice pO nO capO, .int .i64 0, .int .i64 0, .slice none 0 0, .slice none 0 0]) rfl (by kernel_rfl) (by kernel_rfl) (by kernel_rfl) (fun _ _ _ h => h) (.inl ⟨rfl, fun w' hb => run_load_op lwRSt rfl rfl hb.2 rfl⟩) ⟨inferInstance, inferInstance⟩ ?_
              refine ah_store (i := 2) (b := b6) (cs := #[.int .i64 0, .slice none 0 0, .slice pL nL capL, .slice pI nI capI, .slice none 0 0, .slice pN nN capN, .int .i64 0, .int .i64 0, .slice none 0 0, .slice none 0 0]) lwSt rfl (by kernel_rfl) rfl rfl inferInstance rfl rfl (by simp [Value.oneCell']) ⟨inferInstance, inferInstance⟩ ?_
              refine ah_store (i := 3) (b := b7) (cs := #[.int .i64 0, .slice none 0 0, .slice pM nM capM, .slice pJ nJ capJ, .slice none 0 0, .slice pO nO capO, .int .i64 0, .int .i64 0, .slice none 0 0, .slice none 0 0]) lwRSt rfl (by kernel_rfl) rfl rfl inferInstance rfl rfl (by simp [Value.oneCell']) ⟨inferInstance, inferInstance⟩ ?_
              refine wpAnyH_done (by kernel_rfl) ?_ _
              go_wp2_with fail
              refine bodyPost_ret (results_c2 (b0 := b6) (b1 := b7) rfl lwSt lwRSt rfl rfl inferInstance inferInstance rfl rfl) rfl ?_
              have fin : ∀ {α : Type} {enc : α → List Value} {K : Nat} {p : Option Addr} {n cap : Nat} {ls : List α}, SliceOf enc K wr (.slice p n cap) ls → (∀ a, p = some a → a.block ≠ b6 ∧ a.block ≠ b7) → SliceOf enc K ((wr.drew.setRow b6 #[.int .i64 0, .slice none 0 0, .slice pL nL capL, .slice pI nI capI, .slice none 0 0, .slice pN nN capN, .int .i64 0, .int .i64 0, .slice none 0 0, .slice none 0 0]).setRow b7 #[.int .i64 0, .slice none 0 0, .slice pM nM capM, .slice pJ nJ capJ, .slice none 0 0, .slice pO nO capO, .int .i64 0, .int .i64 0, .slice none 0 0, .slice none 0 0]) (.slice p n cap) ls := fun hs hp => SliceOf.setRow (SliceOf.setRow (SliceOf.ext hs (Ext.drew (Ext.refl _))) (fun a ha => (hp a ha).1) _) (fun a ha => (hp a ha).2) _
              exact ⟨_, _, _, _, _, _, rfl, fin KI.out PI6.out, fin KJ.out PJ6.out, fin KL.out PL6.out, fin KM.out PM6.out, fin KN.out PN6.out, fin KO.out PO6.out, ExtOf.of (Ext.setRow (Ext.setRow (Ext.drew HX.out) lw6 _) lw7 _)⟩
end Go.Proofs.YtaflcbdbacogeaaDoor
