/-
  Open of the program, given the sort.
-/
import Derived.Test.YtaflcbdbacogeaaDoorU2
set_option linter.unusedVariables false
set_option linter.unusedSimpArgs false
namespace Go.Proofs.YtaflcbdbacogeaaDoor
open Go.RowKit ReportM Go.Shelf Go.Lib Go.Sort

attribute [local go_sem] ExtOf.cell ExtOf.frozen ExtS.cell ExtS.frozen Block.cell Block.frozen ExtB.cell ExtB.frozen alloc_cell alloc_frozen
def encN (n : Nat) : List Value := [.int .i64 (n : Int)]
theorem encN_len (g : Nat) : (encN g).length = 1 := rfl
theorem encN_one (g : Nat) : ∀ u ∈ encN g, u.oneCell' = true := by simp [encN, Value.oneCell']
theorem infoInt : (Tryd.prog.info? 3).map (fun i => (i.zero, i.size, i.bytes)) = some (some (.int .i64 0), 1, 8) := by kernel_rfl
def opTo (d : List Du) (k : Nat) : List Nat := (List.range k).filter fun i => !shOf d i
theorem opTo_succ (d : List Du) (k : Nat) : opTo d (k + 1) = if shOf d k then opTo d k else opTo d k ++ [k] := by
  unfold opTo
  rw [List.range_succ, List.filter_append]
  cases h : shOf d k <;> simp [h]
theorem opTo_len (d : List Du) (k : Nat) : (opTo d k).length ≤ k := by
  unfold opTo
  have := List.length_filter_le (fun i => !shOf d i) (List.range k)
  simpa using this
theorem opTo_asc (d : List Du) (k : Nat) : (opTo d k).Pairwise (· < ·) := List.Pairwise.filter _ List.pairwise_lt_range
theorem opTo_lt {d : List Du} {k i : Nat} (h : i ∈ opTo d k) : i < k := by
  have := (List.mem_filter.1 h).1
  simpa using this
theorem nil_ins (fv : Value) (w : World) : Calls Tryd.prog 62 #[.slice none 0 0, .int .i64 0, .int .i64 0, fv] w fun e w' => e = .returned (.tuple #[]) ∧ w' = w := by
  go_enter Tryd.func62, Tryd.ntmps62
  go_wp2
  refine wp_loop_rounds 1 ?_
  rw [rounds_succ]
  go_wp2
  go_end0
  exact ⟨rfl, rfl⟩
theorem nil_sort (fv : Value) (w : World) : Calls Tryd.prog 34 #[.slice none 0 0, fv] w fun e w' => e = .returned (.tuple #[]) ∧ w' = w := by
  have hst : Calls Tryd.prog 47 #[.slice none 0 0, .int .i64 0, fv] w fun e w' => e = .returned (.tuple #[]) ∧ w' = w := by
    go_enter Tryd.func47, Tryd.ntmps47
    go_wp2
    refine wp_loop_rounds 1 ?_
    rw [rounds_succ]
    go_wp2_with (go_at_call 62; refine (nil_ins _ _).mono ?_; rintro e w1 ⟨rfl, rfl⟩)
    refine wp_loop_rounds 1 ?_
    rw [rounds_succ]
    go_wp2
    go_end0
    exact ⟨rfl, rfl⟩
  have H := Lib.hid hst
  clear hst
  go_enter Tryd.func34, Tryd.ntmps34
  go_wp2_with (go_at_call 47; refine H.out.mono ?_; rintro e w1 ⟨rfl, rfl⟩)
  go_end0
  exact ⟨rfl, rfl⟩
theorem openOk_of {d : List Du} (d' : Array (Fin (opTo d d.length).length)) [Inhabited (Fin (opTo d d.length).length)] (hp : PermIn 0 (opTo d d.length).length (dI (opTo d d.length)) d') (hs : SortedIn (TI d (opTo d d.length)) 0 (opTo d d.length).length d') : OpenOk d (d'.toList.map fun i => (opTo d d.length)[i]) := by
  have hsz : d'.size = (opTo d d.length).length := by rw [hp.1, dI_size]
  have hperm : d'.toList.Perm (List.finRange (opTo d d.length).length) := by
    have := perm_of_permIn (d := dI (opTo d d.length)) (d' := d') (by rw [dI_size]; exact hp)
    simpa [dI] using this
  have hop := opTo_asc d d.length
  constructor
  · intro i
    have h1 : (d'.toList.map fun i => (opTo d d.length)[i]).Perm (opTo d d.length) := by
      have h2 := hperm.map (fun i : Fin (opTo d d.length).length => (opTo d d.length)[i])
      have e3 : (List.finRange (opTo d d.length).length).map (fun i : Fin (opTo d d.length).length => (opTo d d.length)[i]) = opTo d d.length := by
        apply List.ext_getElem
        · simp
        · intro i h1 h2; simp
      rwa [e3] at h2
    rw [h1.mem_iff]
    simp [opTo]
  · rw [List.pairwise_map, List.pairwise_iff_getElem]
    intro i j hi hj hij
    have hi' : i < d'.size := by simpa using hi
    have hj' : j < d'.size := by simpa using hj
    have h1 := hs i j (Nat.zero_le _) hij (by omega)
    rw [getElem!_pos d' i hi', getElem!_pos d' j hj'] at h1
    have hnd : d'.toList.Nodup := (hperm.nodup_iff).2 (List.nodup_finRange _)
    have hne : d'[i] ≠ d'[j] := by
      have := (List.pairwise_iff_getElem.1 hnd) i j hi hj hij
      simpa using this
    simp only [TI, decide_eq_false_iff_not] at h1
    have hv : (d'[i]).val ≠ (d'[j]).val := fun e => hne (Fin.ext e)
    have mono : ∀ a b : Fin (opTo d d.length).length, a.val < b.val → (opTo d d.length)[a] < (opTo d d.length)[b] := fun a b h => (List.pairwise_iff_getElem.1 hop) a.val b.val a.isLt b.isLt h
    show ltO d ((opTo d d.length)[d'[i]]) ((opTo d d.length)[d'[j]])
    unfold ltO
    by_cases hlt : (d'[i]).val < (d'[j]).val
    · have := mono _ _ hlt; omega
    · have := mono d'[j] d'[i] (by omega); omega
theorem holdsI (op : List Nat) [ih : Inhabited (Fin op.length)] {E base cap g n : Nat} {W : World} (h : Own encN 1 E base W (.slice (some ⟨g, 0, none⟩) n cap) op) : Holds (encI op) W g 0 (dI op) := by
  intro j hj
  have hj' : j < op.length := by rw [dI_size] at hj; exact hj
  rw [dI_get op j hj', Nat.zero_add]
  have h1 : op[j]? = some op[j] := by simp [hj']
  have h2 := flatMap_get (l := op) encN_len (i := j) (j := 0) (u := .int .i64 ((op[j] : Nat) : Int)) h1 rfl
  have h3 := World.ownsRow.cells h (g := g) rfl (j * 1 + 0) _ h2
  have hadd : (⟨g, 0, none⟩ : Addr).add (j * 1 + 0) = ⟨g, j, none⟩ := by unfold Addr.add; split <;> simp_all
  rw [hadd] at h3
  refine ⟨h3, ?_⟩
  obtain ⟨_, hn | ⟨g', cap', cur, e2, hb, hg, _⟩⟩ := h
  · simp at hn
  · obtain ⟨rfl, _, _⟩ : g = g' ∧ _ ∧ _ := by simpa using e2
    simp [World.frozen?, hg]
theorem sliceI {op : List Nat} [ih : Inhabited (Fin op.length)] {g cap : Nat} {W W' : World} {d' : Array (Fin op.length)} (hS : SW (encI op) W g 0 d' W') (hH : Holds (encI op) W g 0 (dI op)) (hg : g < W.heap.size) (hp : PermIn 0 op.length (dI op) d') (h1 : op.length ≤ cap) (h2 : cap ≤ maxLen) :
    SliceOf encN 1 W' (.slice (some ⟨g, 0, none⟩) op.length cap) (d'.toList.map fun i => op[i]) := by
  have hH' := hS.holds hg hH hp.1
  have hsz : d'.size = op.length := by rw [hp.1, dI_size]
  refine ⟨some ⟨g, 0, none⟩, cap, by simp [hsz], by simp [hsz]; exact h1, h2, (fun h => by cases h), fun i x hi => ⟨g, 0, rfl, fun j u hj => ?_⟩⟩
  have hi1 : i < d'.size := by
    have := (List.getElem?_eq_some_iff.1 hi).1
    simpa using this
  obtain ⟨hc1, _⟩ := hH' i hi1
  have hj0 : j = 0 := by
    have := (List.getElem?_eq_some_iff.1 hj).1
    simp [encN] at this
    exact this
  subst hj0
  have hx : x = op[d'[i]!] := by
    have := (List.getElem?_eq_some_iff.1 hi).2
    simp only [getElem!_pos d' i hi1]
    simpa using this.symm
  have hu : u = .int .i64 (x : Int) := by simpa [encN] using hj.symm
  rw [hu, hx, show 0 + (i * 1 + 0) = 0 + i by omega]
  exact hc1
theorem cmpLaysI {d : List Du} [ih : Inhabited (Fin (opTo d d.length).length)] {b1 g co size : Nat} {vl vi : Value} {po : Option Addr} {W : World} (hb : Block W b1 #[.int .i64 0, .slice none 0 0, vl, vi, .slice none 0 0, .slice po d.length co, .int .i64 0, .int .i64 0, .slice none 0 0, .slice none 0 0]) (ho : SliceOf encDm 12 W (.slice po d.length co) d) (h1 : b1 ≠ g) (h2 : ∀ a, po = some a → a.block ≠ g) : CmpLays1 Tryd.prog 35 #[.pointer (some ⟨b1, 0, none⟩)] (encI (opTo d d.length)) (cmpI d (opTo d d.length)) g 0 size W := by
  intro m os dk _ x y
  have hk := kept_sort (encI (opTo d d.length)) W g m 0 0 dk os
  have hb' := hk.block hb (fun e => h1 (Option.some.inj e).symm)
  have ho' := hk.slice ho (fun a ha e => h2 a ha (Option.some.inj e).symm)
  refine (opencmp_any d b1 _ _ vl vi po co _ hb' ho' (opTo_lt (List.getElem_mem x.isLt)) (opTo_lt (List.getElem_mem y.isLt))).mono ?_
  rintro e w' ⟨rfl, q, rfl⟩
  exact ⟨rfl, q, #[], by rw [grow_empty]⟩
set_option maxRecDepth 20000 in
set_option maxHeartbeats 1600000 in
theorem open_walk {m : Nat} (hsort : SortOk m) (d : List Du) (vl vi vo : Value) (w : World) (h1 : SliceOf encDm 12 w vo d) (hm : d.length ≤ m) (hl : d.length ≤ 1000) :
    Calls Tryd.prog 19 #[.agg (stCells vl vi vo)] w fun e w' => ∃ v L, e = .returned v ∧ OpenOk d L ∧ SliceOf encN 1 w' v L ∧ ∃ n : ExtOf w, w' = n.val := by
  obtain ⟨iI, hiI, hI0, hI1, hI2⟩ := info_parts infoInt
  obtain ⟨po, co, rfl, hg4, hg5, hg6⟩ := SliceOf.form h1
  have H1 := Lib.hid h1
  have HS := Lib.hid hsort
  clear h1 hsort
  unfold stCells
  go_enter Tryd.func19, Tryd.ntmps19
  go_wp2_with fail
  obtain ⟨b1, hb1⟩ : ∃ x, x = w.heap.size := ⟨_, rfl⟩
  obtain ⟨W0, hW0, k1, kx⟩ : ∃ W0, W0 = (w.alloc (.cells #[.int .i64 0, .slice none 0 0, vl, vi, .slice none 0 0, .slice po d.length co, .int .i64 0, .int .i64 0, .slice none 0 0, .slice none 0 0] 36)) ∧ Block W0 b1 #[.int .i64 0, .slice none 0 0, vl, vi, .slice none 0 0, .slice po d.length co, .int .i64 0, .int .i64 0, .slice none 0 0, .slice none 0 0] ∧ Ext w W0 := ⟨_, rfl, by rw [hb1]; infer_instance, by repeat' (first | (with_reducible exact Ext.refl _) | (with_reducible exact ExtOf.ext _) | (with_reducible refine Ext.trans ?_ (ExtOf.ext _)) | (with_reducible refine Ext.alloc ?_ _) | (with_reducible refine Ext.drew ?_) | (with_reducible refine Ext.setCell ?_ ?_ _) | (with_reducible refine Ext.setRow ?_ ?_ _) | (with_reducible exact HX.out) | (with_reducible refine Ext.trans ?_ HX.out) | (with_reducible refine Ext.below ?_ (Nat.le_refl _) _) | omega | (simp; done) | (simp; omega))⟩
  rw [← hW0, ← hb1]
  have K1 := Lib.hid k1
  have KX := Lib.hid kx
  obtain ⟨B, hB⟩ : ∃ B, B = b1 + 1 := ⟨_, rfl⟩
  have lwB : w.heap.size ≤ B := by omega
  have lb1 : b1 < B := by omega
  have hBW : B ≤ W0.heap.size := by rw [hW0, hB, hb1]; simp
  clear hW0 k1 kx hb1 hB
  go_loopw [3, 9] (fun v i wr => ∃ k : Nat, k ≤ d.length ∧ i = .int .i64 k ∧ Own encN 1 3 B wr v (opTo d k) ∧ (opTo d k = [] → v = .slice none 0 0) ∧ Block wr b1 #[.int .i64 0, .slice none 0 0, vl, vi, .slice none 0 0, .slice po d.length co, .int .i64 0, .int .i64 0, .slice none 0 0, .slice none 0 0] ∧ Ext w wr ∧ B ≤ wr.heap.size) (fun _ i _ => d.length - (intOf i).toNat)
  case atStart => exact ⟨0, by omega, rfl, Own.nil _, fun _ => rfl, K1.out, KX.out, hBW⟩
  case round =>
    clear K1 KX hBW
    obtain ⟨k, hk, rfl, how, hnil, hb, hx, hBW⟩ := hrel
    have HX := Lib.hid hx
    have HW := Lib.hid how
    have HN := Lib.hid hnil
    clear hx how hnil
    by_cases hlt : k < d.length
    · obtain ⟨bo, oo, rfl, rw0⟩ := SliceOf.elemK H1.out hlt
      obtain ⟨x, hx0⟩ : ∃ x, x = d[k] := ⟨_, rfl⟩
      rw [← hx0] at rw0
      have r0 : World.rangeAt wr bo (oo + k * 12) [.string ⟨#[]⟩, .string ⟨#[]⟩, .int .i64 0, .int .i64 0, .int .i64 0, .int .i64 0, .int .i64 0, .int .i64 0, .int .i64 0, .int .i64 0, .int .i64 x.due, .bool x.sh] := HX.out.range rw0
      have HSH : Hid (shOf d k = x.sh) := Lib.hid (by simp [shOf, hx0, hlt])
      clear hx0 rw0
      have o1 : Old bo wr := Old.of_cell (r0 0 _ rfl)
      have hlen := opTo_len d k
      obtain ⟨du, sh⟩ := x
      rcases sh with _ | _
      · have HSU : Hid (opTo d (k + 1) = opTo d k ++ [k]) := Lib.hid (by rw [opTo_succ, HSH.out]; rfl)
        have ub : Under b1 B := ⟨lb1⟩
        go_wp2_with (first | ((with_reducible apply wl_loadM midDm r0); (· rfl); (· (first | exact wanted_none rfl | exact wanted_some rfl rfl rfl)); (· rfl)) | ((with_reducible apply wl_store' lwDm); (· (first | exact wanted_none rfl | exact wanted_some rfl rfl rfl)); (· rfl); (· rfl); (· infer_instance); (· rfl); (· rfl); (· (simp [Value.oneCell'])); try simp only [setRow_alloc, setRow_new, setRow_new1, setRow_new2, setRow_new11, setRow_new111]) | (at_builtin; refine wl_append1g (enc := encN) (k := 1) (E := 3) (base := B) (l := opTo d k) (y := k) Tryd.underlying25 hiI hI0 hI1 hI2 rfl (by decide) encN_len encN_one rfl rfl (Own.alloc (Own.alloc HW.out _) _) inferInstance rfl (by unfold maxLen; omega) (by omega) (by simp; omega) ?_; intro vc nc hownC hkept; have HOC := Lib.hid hownC; clear hownC hkept))
        go_roundw
        case rel => exact ⟨k + 1, by omega, by first | rfl | go_num, by rw [HSU.out]; exact HOC.out, by rw [HSU.out]; simp, inferInstance, Below.trans ((HX.out.alloc _).alloc _) (Below.mono nc.below lwB), by have := nc.below.size; simp at this; omega⟩
        case measure => simp [intOf]; omega
      · have HSU : Hid (opTo d (k + 1) = opTo d k) := Lib.hid (by rw [opTo_succ, HSH.out]; rfl)
        go_wp2_with (first | ((with_reducible apply wl_loadM midDm r0); (· rfl); (· (first | exact wanted_none rfl | exact wanted_some rfl rfl rfl)); (· rfl)) | ((with_reducible apply wl_store' lwDm); (· (first | exact wanted_none rfl | exact wanted_some rfl rfl rfl)); (· rfl); (· rfl); (· infer_instance); (· rfl); (· rfl); (· (simp [Value.oneCell'])); try simp only [setRow_alloc, setRow_new, setRow_new1, setRow_new2, setRow_new11, setRow_new111]))
        go_roundw
        case rel => exact ⟨k + 1, by omega, by first | rfl | go_num, by rw [HSU.out]; exact Own.alloc HW.out _, by rw [HSU.out]; exact HN.out, inferInstance, HX.out.alloc _, by simp; omega⟩
        case measure => simp [intOf]; omega
    · have hkk : k = d.length := by omega
      have HE : Hid (opTo d k = opTo d d.length) := Lib.hid (by rw [hkk])
      clear hkk
      by_cases hop : opTo d d.length = []
      · obtain rfl := HN.out (HE.out.trans hop)
        have HOP : Hid (OpenOk d []) := Lib.hid ⟨fun i => by
          have : i ∈ opTo d d.length ↔ i < d.length ∧ shOf d i = false := by simp [opTo]
          rw [← this, hop], List.Pairwise.nil⟩
        clear hop
        go_wp2_with (go_at_call 34; refine (nil_sort _ _).mono ?_; rintro e w1 ⟨rfl, rfl⟩)
        go_ret
        exact ⟨_, [], rfl, HOP.out, SliceOf.nil _, ExtOf.of HX.out⟩
      · have HW2 : Hid (Own encN 1 3 B wr u3 (opTo d d.length)) := Lib.hid (by have := HW.out; rwa [HE.out] at this)
        obtain ⟨g, cap, hu3⟩ : ∃ g cap, u3 = .slice (some ⟨g, 0, none⟩) (opTo d d.length).length cap := by
          obtain ⟨_, ⟨_, hn⟩ | ⟨g, cap, cur, e, _⟩⟩ := HW2.out
          · exact absurd (List.eq_nil_of_length_eq_zero hn) hop
          · exact ⟨g, cap, e⟩
        subst hu3
        have hlen := opTo_len d d.length
        have hpos : 0 < (opTo d d.length).length := List.length_pos_iff.2 hop
        haveI ih : Inhabited (Fin (opTo d d.length).length) := ⟨⟨0, hpos⟩⟩
        have hgB : B ≤ g := (World.ownsRow.lt HW2.out g rfl).1
        have hgW : g < wr.heap.size := (World.ownsRow.lt HW2.out g rfl).2
        have HH := Lib.hid (holdsI (opTo d d.length) HW2.out)
        have HC : Hid (CmpLays1 Tryd.prog 35 #[.pointer (some ⟨b1, 0, none⟩)] (encI (opTo d d.length)) (cmpI d (opTo d d.length)) g 0 (opTo d d.length).length wr) := Lib.hid (cmpLaysI hb (SliceOf.ext H1.out HX.out) (by omega) (fun a ha => by
          obtain ⟨bo, oo, e, r⟩ := SliceOf.elemK H1.out (i := 0) (by omega)
          rw [e] at ha
          obtain rfl := Option.some.inj ha
          have := (Old.of_cell (r 0 _ rfl)).lt
          show bo ≠ g
          omega))
        have HR := Lib.hid (HS.out d (opTo d d.length) g cap b1 wr #[.pointer (some ⟨b1, 0, none⟩)] (by omega) HC.out HH.out hgW)
        have hzz : (opTo d d.length).length ≤ 1000 := by omega
        have HCAP : Hid ((opTo d d.length).length ≤ cap ∧ cap ≤ maxLen) := Lib.hid (by
          obtain ⟨p', c', e, h1, h2, _⟩ := Own.slice encN_len HW2.out
          simp only [Value.slice.injEq] at e
          obtain ⟨_, _, rfl⟩ := e
          exact ⟨h1, h2⟩)
        clear hop HE HW HN
        go_wp2_with (go_at_call 34; refine HR.out.mono ?_; rintro e w1 ⟨rfl, d', hp, hso, hsw⟩; have HP := Lib.hid hp; have HSO := Lib.hid hso; have HSW := Lib.hid hsw; clear hp hso hsw)
        go_ret
        refine ⟨_, _, rfl, openOk_of d' HP.out HSO.out, sliceI HSW.out HH.out hgW HP.out HCAP.out.1 HCAP.out.2, ?_⟩
        obtain ⟨n, os, rfl⟩ := HSW.out
        exact ExtOf.of (Below.trans HX.out ⟨rfl, rfl, rfl, size_sortWorld _ _ _ _ _ _ _, fun q hq => heap_sortWorld _ _ _ _ _ _ _ (by have := HX.out.size; omega) (by omega)⟩)
end Go.Proofs.YtaflcbdbacogeaaDoor
