/-
  Chapter 26: several texts in one (R36, R37, R38).
-/
import Derived.Test.YtdalbfanfbeckaaGreatDoorK33
import Derived.Test.YtdalbfanfbeckaaGreatDoorShelf
import Derived.Test.YtdalbfanfbeckaaGreatDoorLB
import Derived.Test.YtdalbfanfbeckaaGreatDoorR8
import Derived.Test.YtdalbfanfbeckaaGreatDoorR24
import Derived.Defers
/-
  Chapter 26: the sort of spans by their beginnings.
-/
section
set_option linter.unusedVariables false
set_option linter.unusedSimpArgs false
namespace Go.Proofs.YtdalbfanfbeckaaGreatDoor
open Go.RowKit TrimM Go.Shelf Go.Lib Go.Sort

attribute [local go_sem] ExtOf.cell ExtOf.frozen ExtS.cell ExtS.frozen Block.cell Block.frozen ExtB.cell ExtB.frozen alloc_cell alloc_frozen
def cmpI (a b : Int) : Int := if a < b then -1 else if b < a then 1 else 0
def cmpF (s t : Sp) : Int := cmpI s.1 t.1
theorem isnan_any (a : Int) (w : World) : Calls Tryz.prog 61 #[.int .i64 a] w fun e w' => e = .returned (.bool false) ∧ w = w' := by
  go_enter Tryz.func61, Tryz.ntmps61
  go_wp2
  go_ret
  exact ⟨rfl, rfl⟩
set_option maxHeartbeats 400000 in
theorem cmpint_any (a b : Int) (w : World) : Calls Tryz.prog 37 #[.int .i64 a, .int .i64 b] w fun e w' => e = .returned (.int .i64 (cmpI a b)) ∧ w = w' := by
  unfold cmpI
  by_cases h1 : a < b
  · rw [if_pos h1]
    go_enter Tryz.func37, Tryz.ntmps37
    go_wp2_with (go_at_call 61; refine (isnan_any _ _).mono ?_; rintro e w' ⟨rfl, rfl⟩)
    go_ret
    exact ⟨rfl, rfl⟩
  · rw [if_neg h1]
    have h1' : decide (a < b) = false := by simpa using h1
    by_cases h2 : b < a
    · rw [if_pos h2]
      go_enter Tryz.func37, Tryz.ntmps37
      go_wp2_with (go_at_call 61; refine (isnan_any _ _).mono ?_; rintro e w' ⟨rfl, rfl⟩)
      go_ret
      exact ⟨rfl, rfl⟩
    · rw [if_neg h2]
      have h2' : decide (b < a) = false := by simpa using h2
      go_enter Tryz.func37, Tryz.ntmps37
      go_wp2_with (go_at_call 61; refine (isnan_any _ _).mono ?_; rintro e w' ⟨rfl, rfl⟩)
      go_ret
      exact ⟨rfl, rfl⟩
set_option maxHeartbeats 400000 in
theorem gapsC_any (s t : Sp) (w : World) : Calls Tryz.prog 36 #[.agg #[.int .i64 s.1, .int .i64 s.2], .agg #[.int .i64 t.1, .int .i64 t.2]] w fun e w' => e = .returned (.int .i64 (cmpF s t)) ∧ ∃ o1 o2 : Obj, w' = ((w.alloc o1).alloc o2) := by
  obtain ⟨a, b⟩ := s
  obtain ⟨c, d⟩ := t
  go_enter Tryz.func36, Tryz.ntmps36
  go_wp2_with (go_at_call 37; refine (cmpint_any _ _ _).mono ?_; rintro e w' ⟨rfl, rfl⟩)
  go_ret
  exact ⟨rfl, _, _, rfl⟩
def ltF (s t : Sp) : Bool := decide (s.1 < t.1)
theorem ltF_cmp (s t : Sp) : decide (cmpF s t < 0) = ltF s t := by
  unfold cmpF cmpI ltF
  rw [Bool.eq_iff_iff]
  simp only [decide_eq_true_eq]
  split <;> rename_i h
  · simp [h]
  · split <;> omega
theorem swoF : SWO (ltOf cmpF) where
  irrefl x := by unfold ltOf; rw [ltF_cmp]; simp [ltF]
  trans x y z h1 h2 := by unfold ltOf at *; rw [ltF_cmp] at *; simp only [ltF, decide_eq_true_eq] at *; omega
  ntrans x y z h1 h2 := by unfold ltOf at *; rw [ltF_cmp] at *; simp only [ltF, decide_eq_false_iff_not] at *; omega
theorem cmpLays (blk off size : Nat) (w : World) : CmpLays Tryz.prog 36 #[] encSp 2 cmpF blk off size w := by
  intro m os dk _ x y
  refine (gapsC_any x y _).mono ?_
  rintro e w' ⟨rfl, o1, o2, rfl⟩
  refine ⟨rfl, 0, #[o1, o2], ?_⟩
  rw [alloc_eq_grow, alloc_eq_grow, grow_grow]
  rfl
theorem holdsK_of_own {E base g n cap : Nat} {w : World} {l : List Sp} (h : Own encSp 2 E base w (.slice (some ⟨g, 0, none⟩) n cap) l) : HoldsK encSp 2 w g 0 l.toArray := by
  intro t ht
  have ht' : t < l.length * 2 := by simpa using ht
  have hi : t / 2 < l.length := by omega
  have h1 : l[t / 2]? = some l[t / 2] := List.getElem?_eq_getElem hi
  have hj : t % 2 < (encSp l[t / 2]).length := by rw [encSp_len]; omega
  have h2 := flatMap_get encSp_len h1 (List.getElem?_eq_getElem hj)
  have e : t / 2 * 2 + t % 2 = t := by omega
  rw [e] at h2
  have h3 := World.ownsRow.cells h (g := g) rfl t _ h2
  have hadd : (⟨g, 0, none⟩ : Addr).add t = ⟨g, t, none⟩ := by unfold Addr.add; split <;> simp_all
  rw [hadd] at h3
  rw [Nat.zero_add]
  refine ⟨?_, ?_⟩
  · rw [h3, get_flatK _ _ _ _ (by simpa using ht')]
    have e1 : l.toArray[t / 2]! = l[t / 2] := by simp [hi]
    rw [e1]
    simp [hj]
  · obtain ⟨_, hn | ⟨g', cap', cur, e2, hb, hg, _⟩⟩ := h
    · simp at hn
    · obtain ⟨rfl, _, _⟩ : g = g' ∧ _ ∧ _ := by simpa using e2
      simp [World.frozen?, hg]
theorem sps_of_holdsK {g cap : Nat} {w : World} {d : Array Sp} (h : HoldsK encSp 2 w g 0 d) (h1 : d.size ≤ cap) (h2 : cap ≤ maxLen) : SpS w (.slice (some ⟨g, 0, none⟩) d.toList.length cap) d.toList := by
  refine ⟨_, cap, rfl, by simpa using h1, h2, (fun h => by cases h), fun i x hi => ⟨g, 0, rfl, fun j u hj => ?_⟩⟩
  have hi' : i < d.size := by simpa using (List.getElem?_eq_some_iff.1 hi).1
  have hj' : j < 2 := by have := (List.getElem?_eq_some_iff.1 hj).1; rwa [encSp_len] at this
  obtain ⟨hc, _⟩ := h (i * 2 + j) (by simp; omega)
  rw [hc, get_flatK _ _ _ _ (by omega), show (i * 2 + j) / 2 = i from by omega, show (i * 2 + j) % 2 = j from by omega]
  have e1 : d[i]! = x := by
    rw [getElem!_pos d i hi']
    have := (List.getElem?_eq_some_iff.1 hi).2
    simpa using this
  rw [e1]
  have := (List.getElem?_eq_some_iff.1 hj)
  obtain ⟨h5, h6⟩ := this
  simp [h5, h6]
theorem sort_heap {g m q : Nat} {W : World} {d : Array Sp} {os : Array Obj} (hq : q < W.heap.size) (hg : q ≠ g) : (sortWorldK encSp 2 W g 0 m d os).heap[q]? = W.heap[q]? := by
  show ((W.heap.modify g _) ++ os)[q]? = _
  rw [Array.getElem?_append_left (by simp; omega), Array.getElem?_modify, if_neg (Ne.symm hg)]
theorem below_sort {base g m : Nat} {W : World} {d : Array Sp} {os : Array Obj} (hg : base ≤ g) (hl : g < W.heap.size) : Below base W (sortWorldK encSp 2 W g 0 m d os) := by
  refine ⟨rfl, rfl, rfl, ?_, fun k hk => sort_heap (by omega) (by omega)⟩
  simp [sortWorldK, Sort.grow, size_putRowK, Sort.ahead]
theorem perm_of {d d' : Array Sp} (h : PermIn 0 d.size d d') : d'.toList.Perm d.toList := by
  obtain ⟨h1, _, h3⟩ := h
  rw [Array.extract_size] at h3
  rwa [← h1, Array.extract_size] at h3
theorem sorted_of {d : Array Sp} {n : Nat} (hn : n = d.size) (h : SortedIn (ltOf cmpF) 0 n d) : d.toList.Pairwise (fun x y => x.1 ≤ y.1) := by
  rw [List.pairwise_iff_getElem]
  intro i j hi hj hij
  have hi' : i < d.size := by simpa using hi
  have hj' : j < d.size := by simpa using hj
  have h2 := h i j (by omega) hij (by omega)
  rw [getElem!_pos d i hi', getElem!_pos d j hj'] at h2
  unfold ltOf at h2
  rw [ltF_cmp] at h2
  simp only [ltF, decide_eq_false_iff_not] at h2
  simp only [Array.getElem_toList]
  omega
def SortPost (base : Nat) (fl : List Sp) (v : Value) (W : World) (e : Ending) (w' : World) : Prop := e = .returned (.tuple #[]) ∧ Below base W w' ∧ (∀ q, q < W.heap.size → v.ownBlock ≠ some q → w'.heap[q]? = W.heap[q]?) ∧ ∃ ys : List Sp, ys.Perm fl ∧ ys.Pairwise (fun x y => x.1 ≤ y.1) ∧ SpS w' v ys
theorem sortF_any (fl : List Sp) (v : Value) (W : World) (base : Nat) (hown : Own encSp 2 23 base W v fl) (hlen : fl.length ≤ 1000000) :
    Calls Tryz.prog 35 #[v, .func (.func 36) #[] #[]] W (SortPost base fl v W) := by
  have h0 := hown
  obtain ⟨hl, ⟨rfl, hn⟩ | ⟨g, cap, cur, rfl, hb, hg, hn, hc, hs, ht⟩⟩ := hown
  · have e0 : fl = [] := List.eq_nil_of_length_eq_zero hn
    subst e0
    refine (AnyF.slices_SortFunc_none Tryz.sortSp none 0 _ W).mono ?_
    rintro e w' ⟨rfl, rfl⟩
    exact ⟨rfl, Below.refl _ _, fun _ _ _ => rfl, [], List.Perm.refl _, List.Pairwise.nil, SliceOf.nil _⟩
  · have eg : ∀ args w, (callFunc 36 args).run Tryz.prog w = .ok (.enter 36 args) w := enters_of Tryz.func36 (by kernel_rfl) rfl
    have hblk : g < W.heap.size := (Array.getElem?_eq_some_iff.1 hg).1
    have hH := holdsK_of_own h0
    have hcon := AnyQ.slices_SortFunc Tryz.sortSp 2 Tryz.isAgg23 Tryz.sizeOf23 encSp encSp_len encSp_one cmpF swoF 36 #[] g 0 cap fl.toArray W eg (cmpLays g 0 _ W) hH hblk (by simp; omega)
    have e2 : fl.toArray.size = fl.length := by simp
    rw [e2] at hcon
    refine Calls.mono hcon ?_
    rintro e w' ⟨rfl, d', m, os, hp, hso, rfl⟩
    have hsz : d'.size = fl.length := by have := hp.1; simpa using this
    refine ⟨rfl, below_sort hb hblk, fun q hq hne => sort_heap hq (fun e => hne (by rw [e]; rfl)), d'.toList, perm_of (by rw [e2]; exact hp), sorted_of hsz.symm hso, ?_⟩
    have h5 := holdsK_sortWorldK_c encSp 2 W g 0 fl.toArray d' m os hH hblk (by simp [hsz])
    have h6 := sps_of_holdsK (cap := cap) h5 (by rw [hsz]; simpa using hn) hc
    have e3 : d'.toList.length = fl.length := by simp [hsz]
    rw [e3] at h6
    exact h6
end Go.Proofs.YtdalbfanfbeckaaGreatDoor
end
/-
  Chapter 26: the gaps between spans.
-/
section
set_option linter.unusedVariables false
set_option linter.unusedSimpArgs false
namespace Go.Proofs.YtdalbfanfbeckaaGreatDoor
open Go.RowKit TrimM

attribute [local go_sem] ExtOf.cell ExtOf.frozen ExtS.cell ExtS.frozen Block.cell Block.frozen ExtB.cell ExtB.frozen alloc_cell alloc_frozen
def GapsPost (base : Nat) (v : Value) (n : Int) (T : List Sp) (w : World) (e : Ending) (w' : World) : Prop := ∃ v', e = .returned v' ∧ Own encSp 2 23 w.heap.size w' v' (TrimM.gaps n 0 T) ∧ Below base w w' ∧ ∀ q, q < w.heap.size → v.ownBlock ≠ some q → w'.heap[q]? = w.heap[q]?
theorem gaps_step {n a : Int} {T : List Sp} {k : Nat} (hk : k < T.length) {A B : Int} (hx : T[k] = (A, B)) : TrimM.gaps n a (T.drop k) = (if a < A then [(a, A)] else []) ++ TrimM.gaps n (max a B) (T.drop (k + 1)) := by
  rw [List.drop_eq_getElem_cons hk, hx, TrimM.gaps]
set_option maxHeartbeats 1600000 in
set_option maxRecDepth 20000 in
theorem gaps_any (base : Nat) (l T : List Sp) (v : Value) (n : Int) (w : World) (ho : Own encSp 2 23 base w v l) (hb : base ≤ w.heap.size) (hl : l.length ≤ 100000) (hT : ∀ ys : List Sp, ys.Perm l → ys.Pairwise (fun x y => x.1 ≤ y.1) → ys = T) :
    Calls Tryz.prog 16 #[.int .i64 n, v] w (GapsPost base v n T w) := by
  obtain ⟨q, c, rfl⟩ := Own.form2 ho
  have HO := Lib.hid ho
  have HT := Lib.hid hT
  obtain ⟨iP, hiP, hP0, hP1, hP2⟩ := info_parts infoSpan
  clear ho hT
  go_enter Tryz.func16, Tryz.ntmps16
  go_wp2_with fail
  refine (sortF_any l _ _ base HO.out (by omega)).mono ?_
  rintro e W1 ⟨rfl, hbel, hheap, ys, hp, hs, hsl⟩
  obtain rfl := HT.out ys hp hs
  have hlen : ys.length = l.length := hp.length_eq
  have hlen2 : ys.length ≤ 100000 := by omega
  have HB := Lib.hid hbel
  have HH := Lib.hid hheap
  rw [← hlen] at hsl ⊢
  obtain ⟨_, _, hfe, f1, f2, f3⟩ := SliceOf.form hsl
  have HS := Lib.hid hsl
  have hszW := hbel.size
  injection hfe with e1 e2 e3
  subst e1
  subst e3
  unfold maxLen at f2
  clear hp hs hbel hheap hsl e2 hlen HT HO
  go_wp2_with fail
  go_loopw [5, 6, 13] (fun v5 v6 v wr => ∃ (k : Nat) (a : Int) (r : List Sp), k ≤ ys.length ∧ v = .int .i64 (k : Int) ∧ v6 = .int .i64 a ∧ r.length ≤ k ∧ TrimM.gaps n 0 ys = r ++ TrimM.gaps n a (ys.drop k) ∧ Own encSp 2 23 W1.heap.size wr v5 r ∧ Ext W1 wr) (fun _ _ v _ => ys.length - (intOf v).toNat)
  case atStart => exact ⟨0, 0, [], by omega, rfl, rfl, by simp, rfl, Own.nil _, Ext.refl _⟩
  case round =>
    obtain ⟨k, a, r, hk, rfl, rfl, hr, hg, ho, hx⟩ := hrel
    have HX := Lib.hid hx
    have HO := Lib.hid ho
    have HG := Lib.hid hg
    have hszr := hx.size
    clear hx ho hg
    obtain ⟨q5, c5, rfl⟩ := Own.form2 HO.out
    by_cases hlt : k < ys.length
    · obtain ⟨b0, f0, rfl, r0⟩ := SliceOf.elemK (SliceOf.ext HS.out HX.out) hlt
      obtain ⟨⟨A, B⟩, hab⟩ : ∃ z, ys[k] = z := ⟨_, rfl⟩
      rw [hab] at r0
      replace r0 : wr.rangeAt b0 (f0 + k * 2) [.int .i64 A, .int .i64 B] := r0
      have HST := Lib.hid (gaps_step (n := n) (a := a) hlt hab)
      have hmx : (if a < B then B else a) = max a B := by split <;> omega
      clear hab
      by_cases t : a < A
      · have t' : decide (a < A) = true := decide_eq_true t
        have HNX : Hid (TrimM.gaps n 0 ys = (r ++ [(a, A)]) ++ TrimM.gaps n (max a B) (ys.drop (k + 1))) := Lib.hid (by rw [HG.out, HST.out, if_pos t, List.append_assoc])
        clear HG HST
        go_wp2_with (first | first | ((with_reducible apply wl_store' lwSpan); (· (first | exact wanted_none rfl | exact wanted_some rfl rfl rfl)); (· rfl); (· rfl); (· infer_instance); (· rfl); (· rfl); (· (simp [Value.oneCell'])); try simp only [setRow_alloc, setRow_new, setRow_new1, setRow_new2, setRow_new11, setRow_new111]) | ((with_reducible apply wl_load' lwSpan); (· (first | exact wanted_none rfl | exact wanted_some rfl rfl rfl)); (· rfl); (· infer_instance); (· rfl)) | ((with_reducible apply wl_loadM midSpan r0); (· rfl); (· (first | exact wanted_none rfl | exact wanted_some rfl rfl rfl)); (· rfl)) | ((at_builtin; refine wl_append1g (enc := encSp) (k := 2) (E := 23) (base := W1.heap.size) (l := r) (y := (a, A)) Tryz.underlying61 hiP hP0 hP1 hP2 rfl (by decide) encSp_len encSp_one rfl rfl ((HO.out.alloc _).alloc _) inferInstance rfl (by unfold maxLen; omega) (by omega) (by simp; omega) ?_; intro v7 n7 ho7 hk7); have hB9 : Block n7.val wr.heap.size #[.int .i64 A, .int .i64 B] := Kept.block hk7 inferInstance (Own.block_lt HO.out (Nat.le_refl _))))
        have HX7 : Hid (Ext W1 n7.val) := Lib.hid (Ext.below (by repeat' (first | (with_reducible exact Ext.refl _) | (with_reducible exact ExtOf.ext _) | (with_reducible refine Ext.trans ?_ (ExtOf.ext _)) | (with_reducible refine Ext.alloc ?_ _) | (with_reducible refine Ext.drew ?_) | (with_reducible refine Ext.setCell ?_ ?_ _) | (with_reducible refine Ext.setRow ?_ ?_ _) | (with_reducible exact HX.out) | (with_reducible refine Ext.trans ?_ HX.out) | (with_reducible refine Ext.below ?_ (Nat.le_refl _) _) | omega | (simp; done) | (simp; omega))) (Nat.le_refl _) n7)
        have HO7 := Lib.hid ho7
        clear ho7 hk7
        go_roundw
        case rel => exact ⟨k + 1, max a B, r ++ [(a, A)], by omega, by first | rfl | go_num, by first | rfl | exact congrArg _ hmx, by simp; omega, HNX.out, HO7.out, HX7.out⟩
        case measure => simp [intOf]; omega
      · have t' : decide (a < A) = false := decide_eq_false t
        have HNX : Hid (TrimM.gaps n 0 ys = r ++ TrimM.gaps n (max a B) (ys.drop (k + 1))) := Lib.hid (by rw [HG.out, HST.out, if_neg t]; rfl)
        clear HG HST
        go_wp2_with (first | ((with_reducible apply wl_store' lwSpan); (· (first | exact wanted_none rfl | exact wanted_some rfl rfl rfl)); (· rfl); (· rfl); (· infer_instance); (· rfl); (· rfl); (· (simp [Value.oneCell'])); try simp only [setRow_alloc, setRow_new, setRow_new1, setRow_new2, setRow_new11, setRow_new111]) | ((with_reducible apply wl_load' lwSpan); (· (first | exact wanted_none rfl | exact wanted_some rfl rfl rfl)); (· rfl); (· infer_instance); (· rfl)) | ((with_reducible apply wl_loadM midSpan r0); (· rfl); (· (first | exact wanted_none rfl | exact wanted_some rfl rfl rfl)); (· rfl)))
        go_roundw
        case rel => exact ⟨k + 1, max a B, r, by omega, by first | rfl | go_num, by first | rfl | exact congrArg _ hmx, by omega, HNX.out, HO.out.alloc _, by repeat' (first | (with_reducible exact Ext.refl _) | (with_reducible exact ExtOf.ext _) | (with_reducible refine Ext.trans ?_ (ExtOf.ext _)) | (with_reducible refine Ext.alloc ?_ _) | (with_reducible refine Ext.drew ?_) | (with_reducible refine Ext.setCell ?_ ?_ _) | (with_reducible refine Ext.setRow ?_ ?_ _) | (with_reducible exact HX.out) | (with_reducible refine Ext.trans ?_ HX.out) | (with_reducible refine Ext.below ?_ (Nat.le_refl _) _) | omega | (simp; done) | (simp; omega))⟩
        case measure => simp [intOf]; omega
    · have hnil : ys.drop k = [] := List.drop_of_length_le (by omega)
      have HFI : Hid (TrimM.gaps n 0 ys = r ++ if a < n then [(a, n)] else []) := Lib.hid (by rw [HG.out, hnil, TrimM.gaps])
      clear hnil HG
      by_cases t : a < n
      · have t' : decide (a < n) = true := decide_eq_true t
        go_wp2_with (first | first | ((with_reducible apply wl_store' lwSpan); (· (first | exact wanted_none rfl | exact wanted_some rfl rfl rfl)); (· rfl); (· rfl); (· infer_instance); (· rfl); (· rfl); (· (simp [Value.oneCell'])); try simp only [setRow_alloc, setRow_new, setRow_new1, setRow_new2, setRow_new11, setRow_new111]) | ((with_reducible apply wl_load' lwSpan); (· (first | exact wanted_none rfl | exact wanted_some rfl rfl rfl)); (· rfl); (· infer_instance); (· rfl)) | ((with_reducible apply wl_loadM midSpan r0); (· rfl); (· (first | exact wanted_none rfl | exact wanted_some rfl rfl rfl)); (· rfl)) | (at_builtin; refine wl_append1g (enc := encSp) (k := 2) (E := 23) (base := W1.heap.size) (l := r) (y := (a, n)) Tryz.underlying61 hiP hP0 hP1 hP2 rfl (by decide) encSp_len encSp_one rfl rfl (HO.out.alloc _) inferInstance rfl (by unfold maxLen; omega) (by omega) (by simp; omega) ?_; intro v7 n7 ho7 hk7))
        have HX7 : Hid (Ext W1 n7.val) := Lib.hid (Ext.below (by repeat' (first | (with_reducible exact Ext.refl _) | (with_reducible exact ExtOf.ext _) | (with_reducible refine Ext.trans ?_ (ExtOf.ext _)) | (with_reducible refine Ext.alloc ?_ _) | (with_reducible refine Ext.drew ?_) | (with_reducible refine Ext.setCell ?_ ?_ _) | (with_reducible refine Ext.setRow ?_ ?_ _) | (with_reducible exact HX.out) | (with_reducible refine Ext.trans ?_ HX.out) | (with_reducible refine Ext.below ?_ (Nat.le_refl _) _) | omega | (simp; done) | (simp; omega))) (Nat.le_refl _) n7)
        go_ret
        refine ⟨_, rfl, by rw [HFI.out, if_pos t]; exact Own.lower ho7 hszW, Below.trans HB.out (Below.mono HX7.out (by omega)), fun q' hq hne => ?_⟩
        rw [HX7.out.block q' (by omega), HH.out q' hq hne]
      · have t' : decide (a < n) = false := decide_eq_false t
        go_wp2_with (first | ((with_reducible apply wl_store' lwSpan); (· (first | exact wanted_none rfl | exact wanted_some rfl rfl rfl)); (· rfl); (· rfl); (· infer_instance); (· rfl); (· rfl); (· (simp [Value.oneCell'])); try simp only [setRow_alloc, setRow_new, setRow_new1, setRow_new2, setRow_new11, setRow_new111]) | ((with_reducible apply wl_load' lwSpan); (· (first | exact wanted_none rfl | exact wanted_some rfl rfl rfl)); (· rfl); (· infer_instance); (· rfl)) | ((with_reducible apply wl_loadM midSpan r0); (· rfl); (· (first | exact wanted_none rfl | exact wanted_some rfl rfl rfl)); (· rfl)))
        go_ret
        refine ⟨_, rfl, by rw [HFI.out, if_neg (by omega), List.append_nil]; exact Own.lower HO.out hszW, Below.trans HB.out (Below.mono HX.out (by omega)), fun q' hq hne => ?_⟩
        rw [HX.out.block q' (by omega), HH.out q' hq hne]
end Go.Proofs.YtdalbfanfbeckaaGreatDoor
end
/-
  Chapter 26: the deferred call of Boards: the gaps become chips.
-/
section
set_option linter.unusedVariables false
set_option linter.unusedSimpArgs false
namespace Go.Proofs.YtdalbfanfbeckaaGreatDoor
open Go.RowKit TrimM

attribute [local go_sem] ExtOf.cell ExtOf.frozen ExtS.cell ExtS.frozen Block.cell Block.frozen ExtB.cell ExtB.frozen alloc_cell alloc_frozen
theorem infoBox : (Tryz.prog.info? 25).map (fun i => (i.zero, i.size, i.bytes)) = some (some (.agg #[.int .i64 0, .int .i64 0, .int .i64 0, .int .i64 0, .int .i64 0, .int .i64 0]), 6, 48) := by kernel_rfl
/-- the worlds that are as w but for block g and new blocks -/
structure Exc (g : Nat) (w w' : World) : Prop where
  low : Below 0 w w'
  heap : ∀ q, q < w.heap.size → q ≠ g → w'.heap[q]? = w.heap[q]?
theorem Exc.refl (g : Nat) (w : World) : Exc g w w := ⟨Below.refl _ _, fun _ _ _ => rfl⟩
theorem Exc.ext {g : Nat} {w a b : World} (h : Exc g w a) (hx : Ext a b) : Exc g w b :=
  ⟨Below.trans h.low (Below.mono hx (Nat.zero_le _)), fun q hq hne => by rw [hx.block q (Nat.lt_of_lt_of_le hq h.low.size), h.heap q hq hne]⟩
theorem Exc.below {g B : Nat} {w a b : World} (h : Exc g w a) (hb : Below B a b) (hB : w.heap.size ≤ B) : Exc g w b :=
  ⟨Below.trans h.low (Below.mono hb (Nat.zero_le _)), fun q hq hne => by rw [hb.block q (by omega), h.heap q hq hne]⟩
theorem Exc.setCell {g i : Nat} {w a : World} (h : Exc g w a) (v : Value) : Exc g w (a.setCell ⟨g, i, none⟩ v) :=
  ⟨Below.trans h.low (Below.setCell (Below.refl _ _) (Nat.zero_le _) _), fun q hq hne => by rw [Below.heap_setCell _ _ _ _ hne, h.heap q hq hne]⟩
theorem Exc.block {g b : Nat} {w a : World} {cs : Array Value} (h : Exc g w a) (hB : Block w b cs) (hne : b ≠ g) : Block a b cs := by
  obtain ⟨t, e⟩ := hB.get
  exact ⟨t, by rw [h.heap b hB.lt hne]; exact e⟩
def BCPost (x : Bd) (gc : Nat) (vt : Value) (T : List Sp) (w : World) (e : Ending) (w' : World) : Prop := e = .returned (.tuple #[]) ∧ ∃ vc, Block w' gc #[vc] ∧ Own encBx 6 25 w.heap.size w' vc ((TrimM.gaps (x.b.zb - x.b.za) 0 T).map fun s => x.b.slab s.1 s.2) ∧ Below 0 w w' ∧ ∀ q, q < w.heap.size → q ≠ gc → vt.ownBlock ≠ some q → w'.heap[q]? = w.heap[q]?
set_option maxHeartbeats 1600000 in
set_option maxRecDepth 20000 in
theorem boardsC_any (x : Bd) (dv : Value) (gb gt gc base : Nat) (vt : Value) (l T : List Sp) (u : FrameMode) (w : World) (hbk : BOk x.b) (hB : Block w gb (bdC x dv)) (hT : Block w gt #[vt]) (hC : Block w gc #[.slice none 0 0]) (ho : Own encSp 2 23 base w vt l)
    (h1 : gb < base) (h2 : gt < base) (h3 : gc < base) (hbc : gb ≠ gc) (hb : base ≤ w.heap.size) (hl : l.length ≤ 100000) (hu : ∀ ys : List Sp, ys.Perm l → ys.Pairwise (fun x y => x.1 ≤ y.1) → ys = T) (hr : ∀ s ∈ TrimM.gaps (x.b.zb - x.b.za) 0 T, (0 ≤ s.1 ∧ s.1 ≤ 100000) ∧ (0 ≤ s.2 ∧ s.2 ≤ 100000)) (hG : (TrimM.gaps (x.b.zb - x.b.za) 0 T).length ≤ 100000) :
    CallsD Tryz.prog 15 #[.pointer (some ⟨gb, 0, none⟩), .pointer (some ⟨gt, 0, none⟩), .pointer (some ⟨gc, 0, none⟩)] u w fun e u' w' => u' = u ∧ BCPost x gc vt T w e w' := by
  have HO := Lib.hid ho
  have HU := Lib.hid hu
  have HR := Lib.hid hr
  obtain ⟨G, hGd⟩ : ∃ G, G = TrimM.gaps (x.b.zb - x.b.za) 0 T := ⟨_, rfl⟩
  rw [← hGd] at hG
  have HGD := Lib.hid hGd
  have HBK := Lib.hid hbk
  obtain ⟨b1, b2, b3⟩ := hbk
  obtain ⟨iB, hiB, hi0, hi1, hi2⟩ := info_parts infoBox
  have obb := hB.old
  have obt := hT.old
  have obc := hC.old
  have HB := Lib.hid hB
  have HC := Lib.hid hC
  have ng : vt.ownBlock ≠ some gb := fun e => by have := (World.ownsRow.lt ho gb e).1; omega
  have nc : vt.ownBlock ≠ some gc := fun e => by have := (World.ownsRow.lt ho gc e).1; omega
  clear ho hu hr hGd
  unfold bdC at hB
  go_enter_d Tryz.func15, Tryz.ntmps15
  go_wp2_with fail
  refine (gaps_any base l T vt (x.b.zb - x.b.za) _ HO.out hb hl HU.out).mono ?_
  rintro e W1 ⟨vg, rfl, hog, hbel, hheap⟩
  rw [← HGD.out] at hog
  have hB1 : Block W1 gb (bdC x dv) := by
    obtain ⟨t, e⟩ := HB.out.get
    exact ⟨t, by rw [hheap gb HB.out.lt ng]; exact e⟩
  have hC1 : Block W1 gc #[.slice none 0 0] := by
    obtain ⟨t, e⟩ := HC.out.get
    exact ⟨t, by rw [hheap gc HC.out.lt nc]; exact e⟩
  obtain ⟨qg, ng2, cg, rfl, rfl, hlow⟩ := Own.low hog
  have hsg := Own.slice encSp_len hog
  have HLW := Lib.hid hlow
  have HSG := Lib.hid hsg
  have HBE := Lib.hid hbel
  have HHE := Lib.hid hheap
  have HB1 := Lib.hid hB1
  have hszW := hbel.size
  have oC1 : Old gc W1 := hC1.old
  have hcW : gc < W1.heap.size := hC1.lt
  clear hB hT hC obb obt obc hog hbel hheap hlow hsg hB1 ng nc HO HU HB HC
  go_wp2_with fail
  go_loopw [17] (fun v wr => ∃ (k : Nat) (vc : Value), k ≤ G.length ∧ v = .int .i64 (k : Int) ∧ Block wr gc #[vc] ∧ Own encBx 6 25 W1.heap.size wr vc ((G.take k).map fun s => x.b.slab s.1 s.2) ∧ Exc gc W1 wr) (fun v _ => G.length - (intOf v).toNat)
  case atStart => exact ⟨0, _, by omega, rfl, hC1, Own.nil _, Exc.refl _ _⟩
  case round =>
    obtain ⟨k, vc, hk, rfl, hcc, ho, hx⟩ := hrel
    have HX := Lib.hid hx
    have HO := Lib.hid ho
    have hszr := hx.low.size
    clear hx ho
    obtain ⟨qv, cv, rfl⟩ := Own.form2 HO.out
    by_cases hlt : k < G.length
    · have hsr := SliceOf.same HSG.out (w' := wr) (fun a ha => HX.out.heap a.block (HLW.out a ha).2 (by have := (HLW.out a ha).1; omega))
      obtain ⟨b0, f0, rfl, r0⟩ := SliceOf.elemK hsr hlt
      obtain ⟨⟨A, B⟩, hab⟩ : ∃ z, G[k] = z := ⟨_, rfl⟩
      rw [hab] at r0
      replace r0 : wr.rangeAt b0 (f0 + k * 2) [.int .i64 A, .int .i64 B] := r0
      have hrr := HR.out (A, B) (by rw [← HGD.out, ← hab]; exact List.getElem_mem hlt)
      have HTK : Hid (((G.take (k + 1)).map fun s => x.b.slab s.1 s.2) = ((G.take k).map fun s => x.b.slab s.1 s.2) ++ [x.b.slab A B]) := Lib.hid (by rw [List.take_succ_eq_append_getElem hlt, hab, List.map_append]; rfl)
      simp only at hrr
      clear hab hsr
      obtain ⟨C, hC⟩ : ∃ C, C = ((G.take k).map fun s => x.b.slab s.1 s.2) := ⟨_, rfl⟩
      have hCl : C.length = k := by rw [hC]; simp; omega
      rw [← hC] at HO HTK
      rw [← hC] at hcc
      have HCL := Lib.hid hCl
      have hCk : C.length ≤ k := by omega
      clear hC hCl
      go_wp2_with (first | ((with_reducible apply wl_store' lwSpan); (· (first | exact wanted_none rfl | exact wanted_some rfl rfl rfl)); (· rfl); (· rfl); (· infer_instance); (· rfl); (· rfl); (· (simp [Value.oneCell'])); try simp only [setRow_alloc, setRow_new, setRow_new1, setRow_new2, setRow_new11, setRow_new111]) | ((with_reducible apply wl_load' lwSpan); (· (first | exact wanted_none rfl | exact wanted_some rfl rfl rfl)); (· rfl); (· infer_instance); (· rfl)) | ((with_reducible apply wl_loadM midSpan r0); (· rfl); (· (first | exact wanted_none rfl | exact wanted_some rfl rfl rfl)); (· rfl)))
      refine nameW (R := fun W => Code.wp _ _ _ _ W) (fun W => Hid (Ext wr W) ∧ Block W gc #[.slice qv C.length cv] ∧ Block W wr.heap.size #[.int .i64 A, .int .i64 B]) ⟨Lib.hid (by repeat' (first | (with_reducible exact Ext.refl _) | (with_reducible refine Ext.trans ?_ (ExtOf.ext _)) | (with_reducible refine Ext.alloc ?_ _) | (with_reducible refine Ext.drew ?_) | (with_reducible refine Ext.setRow ?_ ?_ _) | omega | (simp; omega))), ?_, ?_⟩ ?_
      · infer_instance
      · infer_instance
      rintro W4 ⟨HE4, hc4, hs4⟩
      have hb4 : Block W4 gb #[.string x.id, .string x.lg, .string x.sp, .int .i64 x.pr, .int .i64 x.b.xa, .int .i64 x.b.xb, .int .i64 x.b.ya, .int .i64 x.b.yb, .int .i64 x.b.za, .int .i64 x.b.zb, .int .i64 x.vol, dv, .int .i64 x.wa, .int .i64 x.su, .int .i64 x.co, .int .i64 x.st, .bool x.dr, .int .i64 x.gr] := (HX.out.ext HE4.out).block HB1.out hbc
      have o1 := hc4.old
      have o2 := hs4.old
      have o3 := hb4.old
      simp only [Act.put]
      apply wp_region_maker [true, true, true, true] 4 [false, false, false, false, false, true, true] _ 25 (MadeS W4 (encBx (x.b.slab A B)).toArray) 5 [6] (by kernel_rfl) rfl rfl (by kernel_rfl) (by kernel_rfl) (by kernel_rfl) (by kernel_rfl) MadeS.keep
      · intro S hS hN R hR
        simp only [part]
        repeat (first | go_big_quiet_skip | ((with_reducible apply q_loadS lwBd); (· (first | exact wanted_none rfl | exact wanted_some rfl rfl rfl)); (· rfl); (· infer_instance); (· rfl); simp only [Act.put, List.setIfInBounds_toArray, List.set_cons_succ, List.set_cons_zero]) | ((with_reducible apply q_loadS lwSpan); (· (first | exact wanted_none rfl | exact wanted_some rfl rfl rfl)); (· rfl); (· infer_instance); (· rfl); simp only [Act.put, List.setIfInBounds_toArray, List.set_cons_succ, List.set_cons_zero]) | go_big_quiet_step ((go_at_call 17; exact exts_call hS (inLog_any x dv A B _ HBK.out hrr.1 hrr.2))))
        with_reducible refine wpQuiet_nil ?_
        exact hR
      · refine ⟨wanted_none rfl, fun W' hx' => ⟨.slice (some ⟨W'.heap.size, 0, none⟩) 1 1, W'.alloc (.cells (encBx (x.b.slab A B)).toArray 25), ?_, (Ext.refl _).alloc _, MadeS.new hx'⟩⟩
        simp [go_sem, encBx]
      intro v' W' hx' hmade
      obtain ⟨gn, rfl, hgn, hbn⟩ := hmade
      simp only [part, Act.put, List.setIfInBounds_toArray, List.set_cons_succ, List.set_cons_zero]
      have HE5 : Hid (Ext wr W') := Lib.hid (HE4.out.trans hx')
      have hc5 := hc4.ext hx'
      have o5 := hc5.old
      go_wp2_with (at_builtin; refine wl_append1g (enc := encBx) (k := 6) (E := 25) (base := W1.heap.size) (l := C) (y := x.b.slab A B) Tryz.underlying40 hiB hi0 hi1 hi2 rfl (by decide) encBx_len encBx_one rfl rfl (Own.ext HO.out HE5.out) hbn rfl (by unfold maxLen; omega) (by omega) (by have := HE5.out.size; omega) ?_; intro v7 n7 ho7 hk7; (obtain ⟨g7, c7, rfl, hg7, _⟩ := Own.formS ho7))
      have hX6 : Exc gc W1 n7.val := (HX.out.ext HE5.out).below n7.below (Nat.le_refl _)
      go_roundw
      case rel => exact ⟨k + 1, _, by omega, by first | rfl | go_num, inferInstance, by rw [HTK.out]; exact Own.set_low ho7 hcW _, hX6.setCell _⟩
      case measure => simp [intOf]; omega
    · have hkG : k = G.length := by omega
      have HFI : Hid (((G.take k).map fun s => x.b.slab s.1 s.2) = G.map fun s => x.b.slab s.1 s.2) := Lib.hid (by rw [hkG, List.take_length])
      clear hkG
      go_wp2_with fail
      refine bodyPost_ret (results_none rfl _ _ _) rfl ⟨rfl, _, hcc, ?_, Below.trans (Below.mono HBE.out (Nat.zero_le _)) HX.out.low, fun q hq hne hne2 => ?_⟩
      · rw [← HGD.out, ← HFI.out]; exact Own.lower HO.out hszW
      · rw [HX.out.heap q (by omega) hne, HHE.out q hq hne2]
end Go.Proofs.YtdalbfanfbeckaaGreatDoor
end
