/-
  The contract of the sort that Canon calls: the row holds the spans in order.
-/
import Derived.Test.YtfbcaafkekcmbaaW4
import Derived.Test.YtfbcaafkekcmbaaShelf
namespace Go.Proofs.Ytfbcaafkekcmbaa
open Go.RowKit SpanM Go.Shelf Go.Lib Go.Sort

theorem swoS : SWO (ltOf cmpS) where
  irrefl x := by unfold ltOf; rw [ltS_cmp]; simp [ltS]
  trans x y z h1 h2 := by unfold ltOf at *; rw [ltS_cmp] at *; simp only [ltS, decide_eq_true_eq] at *; omega
  ntrans x y z h1 h2 := by unfold ltOf at *; rw [ltS_cmp] at *; simp only [ltS, decide_eq_false_iff_not] at *; omega
theorem antiS (x y : Sp) (h1 : ltOf cmpS x y = false) (h2 : ltOf cmpS y x = false) : x = y := by
  unfold ltOf at *
  rw [ltS_cmp] at *
  simp only [ltS, decide_eq_false_iff_not] at *
  exact Prod.ext (by omega) (by omega)
theorem cmpLays (blk off size : Nat) (w : World) : CmpLays Try.prog 38 #[] encS 2 cmpS blk off size w := by
  intro m os dk _ x y
  refine (cmpS_any x y _).mono ?_
  rintro e w' ⟨rfl, o1, o2, o3, rfl⟩
  refine ⟨rfl, 1, #[o1, o2, o3], ?_⟩
  rw [alloc_eq_grow, alloc_eq_grow, alloc_eq_grow, grow_grow, grow_grow]
  rfl
theorem holdsK_of_own {E base g n cap : Nat} {w : World} {l : List Sp} (h : Own encS 2 E base w (.slice (some ⟨g, 0, none⟩) n cap) l) : HoldsK encS 2 w g 0 l.toArray := by
  intro t ht
  have ht' : t < l.length * 2 := by simpa using ht
  have hi : t / 2 < l.length := by omega
  have h1 : l[t / 2]? = some l[t / 2] := List.getElem?_eq_getElem hi
  have hj : t % 2 < (encS l[t / 2]).length := by rw [encS_len]; omega
  have h2 := flatMap_get encS_len h1 (List.getElem?_eq_getElem hj)
  have e : t / 2 * 2 + t % 2 = t := by omega
  rw [e] at h2
  have h3 := World.ownsRow.cells h (g := g) rfl t _ h2
  have hadd : (⟨g, 0, none⟩ : Addr).add t = ⟨g, t, none⟩ := by unfold Addr.add; split <;> simp_all
  rw [hadd] at h3
  rw [Nat.zero_add]
  refine ⟨?_, ?_⟩
  · rw [h3, get_flatK _ _ _ _ (by simpa using ht')]
    have e1 : l.toArray[t / 2]! = l[t / 2] := by simp [hi]
    rw [e1]
    simp [hj]
  · obtain ⟨_, hn | ⟨g', cap', cur, e2, hb, hg, _⟩⟩ := h
    · simp at hn
    · obtain ⟨rfl, _, _⟩ : g = g' ∧ _ ∧ _ := by simpa using e2
      simp [World.frozen?, hg]
theorem sps_of_holdsK {g cap : Nat} {w : World} {d : Array Sp} (h : HoldsK encS 2 w g 0 d) (h1 : d.size ≤ cap) (h2 : cap ≤ maxLen) : SpS w (.slice (some ⟨g, 0, none⟩) d.toList.length cap) d.toList := by
  refine ⟨_, cap, rfl, by simpa using h1, h2, (fun h => by cases h), fun i x hi => ⟨g, 0, rfl, fun j u hj => ?_⟩⟩
  have hi' : i < d.size := by simpa using (List.getElem?_eq_some_iff.1 hi).1
  have hj' : j < 2 := by have := (List.getElem?_eq_some_iff.1 hj).1; rwa [encS_len] at this
  obtain ⟨hc, _⟩ := h (i * 2 + j) (by simp; omega)
  rw [hc, get_flatK _ _ _ _ (by omega), show (i * 2 + j) / 2 = i from by omega, show (i * 2 + j) % 2 = j from by omega]
  have e1 : d[i]! = x := by
    rw [getElem!_pos d i hi']
    have := (List.getElem?_eq_some_iff.1 hi).2
    simpa using this
  rw [e1]
  have := (List.getElem?_eq_some_iff.1 hj)
  obtain ⟨h5, h6⟩ := this
  simp [h5, h6]
theorem below_sort {base g m : Nat} {W : World} {d : Array Sp} {os : Array Obj} (hg : base ≤ g) (hl : g < W.heap.size) : Below base W (sortWorldK encS 2 W g 0 m d os) := by
  refine ⟨rfl, rfl, rfl, ?_, fun k hk => ?_⟩
  · simp [sortWorldK, grow, size_putRowK, Sort.ahead]
  · show ((W.heap.modify g _) ++ os)[k]? = _
    rw [Array.getElem?_append_left (by simp; omega), Array.getElem?_modify, if_neg (by omega)]

theorem sort_any (fl : List Sp) (v : Value) (W : World) (base : Nat) (hown : Own encS 2 23 base W v fl) (hlen : fl.length ≤ 1099511627776) :
    Calls Try.prog 37 #[v, .func (.func 38) #[] #[]] W fun e w' => e = .returned (.tuple #[]) ∧ ∃ n : ExtB base W, w' = n.val ∧ ∃ ys q cap, ys = (fl.mergeSort fun x y => !ltS y x) ∧ v = .slice q ys.length cap ∧ SpS n.val (.slice q ys.length cap) ys := by
  have h0 := hown
  obtain ⟨hl, ⟨rfl, hn⟩ | ⟨g, cap, cur, rfl, hb, hg, hn, hc, hs, ht⟩⟩ := hown
  · have e0 : fl = [] := List.eq_nil_of_length_eq_zero hn
    subst e0
    refine (AnyF.slices_SortFunc_none Try.sortSp none 0 _ W).mono ?_
    rintro e w' ⟨rfl, rfl⟩
    exact ⟨rfl, ⟨w', Below.refl _ _⟩, rfl, [], none, 0, by simp, rfl, SliceOf.nil _⟩
  · have eg : ∀ args w, (callFunc 38 args).run Try.prog w = .ok (.enter 38 args) w := enters_of Try.func38 (by kernel_rfl) rfl
    have hblk : g < W.heap.size := (Array.getElem?_eq_some_iff.1 hg).1
    have hH := holdsK_of_own h0
    have hcon := AnyQ.slices_SortFunc_total Try.sortSp 2 Try.isAgg23 Try.sizeOf23 encS encS_len encS_one cmpS swoS 38 #[] g 0 cap fl.toArray W eg (cmpLays g 0 _ W) hH hblk (by simp; omega) antiS
    have e1 : (fun x y => !ltOf cmpS y x) = (fun x y : Sp => !ltS y x) := by funext x y; unfold ltOf; rw [ltS_cmp]
    rw [e1] at hcon
    have e2 : fl.toArray.size = fl.length := by simp
    rw [e2] at hcon
    refine Calls.mono hcon ?_
    rintro e w' ⟨rfl, m, os, rfl⟩
    refine ⟨rfl, ⟨_, below_sort hb hblk⟩, rfl, (fl.mergeSort fun x y => !ltS y x), some ⟨g, 0, none⟩, cap, rfl, by simp, ?_⟩
    have h5 := holdsK_sortWorldK_c encS 2 W g 0 fl.toArray (fl.mergeSort fun x y => !ltS y x).toArray m os hH hblk (by simp)
    have h6 := sps_of_holdsK (cap := cap) h5 (by simpa using hn) hc
    exact h6

end Go.Proofs.Ytfbcaafkekcmbaa
