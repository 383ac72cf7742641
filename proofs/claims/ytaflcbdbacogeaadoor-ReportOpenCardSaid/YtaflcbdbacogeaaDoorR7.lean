/-
  The sort of the tallies.
-/
import Derived.Test.YtaflcbdbacogeaaDoorR6
set_option linter.unusedVariables false
set_option linter.unusedSimpArgs false
namespace Go.Proofs.YtaflcbdbacogeaaDoor
open Go.RowKit ReportM Go.Maps Go.Shelf Go.Lib Go.Sort

def encP (g : Nat) : List Value := [.pointer (some ⟨g, 0, none⟩)]
theorem encP_len (g : Nat) : (encP g).length = 1 := rfl
theorem encP_one (g : Nat) : ∀ u ∈ encP g, u.oneCell' = true := by simp [encP, Value.oneCell']
theorem heap_sortWorld {α : Type} [Inhabited α] (enc : α → Value) (W : World) (blk off n : Nat) (d : Array α) (os : Array Obj) {q : Nat} (hq : q < W.heap.size) (hne : q ≠ blk) : (sortWorld enc W blk off n d os).heap[q]? = W.heap[q]? := by
  show ((W.heap.modify blk _) ++ os)[q]? = _
  rw [Array.getElem?_append_left (by simp; omega), Array.getElem?_modify, if_neg (by omega)]
theorem size_sortWorld {α : Type} [Inhabited α] (enc : α → Value) (W : World) (blk off n : Nat) (d : Array α) (os : Array Obj) : W.heap.size ≤ (sortWorld enc W blk off n d os).heap.size := by
  show W.heap.size ≤ ((W.heap.modify blk _) ++ os).size
  simp
/-- w' is w but for the block of v and new blocks -/
theorem kept_sort {α : Type} [Inhabited α] (enc : α → Value) (W : World) (blk n m cap : Nat) (d : Array α) (os : Array Obj) : Kept W (.slice (some ⟨blk, 0, none⟩) m cap) (sortWorld enc W blk 0 n d os) (.slice (some ⟨blk, 0, none⟩) m cap) :=
  ⟨fun q hq hne => heap_sortWorld enc W blk 0 n d os hq (fun e => hne (by rw [e]; rfl)), .inl rfl, size_sortWorld _ _ _ _ _ _ _⟩
def zipOk (W : World) (zs : List (Nat × Tal)) : Prop := ∀ z ∈ zs, Block W z.1 (talC z.2)
section
variable (zs : List (Nat × Tal))
def encF (i : Fin zs.length) : Value := .pointer (some ⟨(zs[i]).1, 0, none⟩)
def cmpF (i j : Fin zs.length) : Int := cmpK (zs[i]).2.k (zs[j]).2.k
theorem encF_one : OneCell (encF zs) := fun i => by simp [encF, Value.oneCell']
theorem ltF (i j : Fin zs.length) : ltOf (cmpF zs) i j = decide (ltK (zs[i]).2.k (zs[j]).2.k) := by unfold ltOf cmpF; exact cmpK_lt _ _
theorem swoF : SWO (ltOf (cmpF zs)) where
  irrefl x := by rw [ltF]; simpa using ltK_irrefl _
  trans x y z h1 h2 := by rw [ltF] at *; simp only [decide_eq_true_eq] at *; exact ltK_trans h1 h2
  ntrans x y z h1 h2 := by
    rw [ltF] at *
    simp only [decide_eq_false_iff_not] at *
    intro h3
    by_cases h4 : ltK (zs[y]).2.k (zs[x]).2.k
    · exact h2 (ltK_trans h4 h3)
    · have := ltK_total h1 h4
      rw [this] at h3
      exact h2 h3
def dF : Array (Fin zs.length) := (List.finRange zs.length).toArray
theorem dF_size : (dF zs).size = zs.length := by simp [dF]
theorem dF_get [ih : Inhabited (Fin zs.length)] (j : Nat) (hj : j < zs.length) : (dF zs)[j]! = ⟨j, hj⟩ := by
  have h2 : j < (dF zs).size := by rw [dF_size]; exact hj
  rw [getElem!_pos (dF zs) j h2]
  simp [dF]
theorem holdsF [ih : Inhabited (Fin zs.length)] {E base cap g n : Nat} {W : World} (h : Own encP 1 E base W (.slice (some ⟨g, 0, none⟩) n cap) (zs.map (·.1))) : Holds (encF zs) W g 0 (dF zs) := by
  intro j hj
  have hj' : j < zs.length := by rw [dF_size] at hj; exact hj
  rw [dF_get zs j hj', Nat.zero_add]
  have h1 : (zs.map (·.1))[j]? = some (zs[j]).1 := by simp [hj']
  have h2 := flatMap_get (l := zs.map (·.1)) encP_len (i := j) (j := 0) (u := .pointer (some ⟨(zs[j]).1, 0, none⟩)) h1 rfl
  have h3 := World.ownsRow.cells h (g := g) rfl (j * 1 + 0) _ h2
  have hadd : (⟨g, 0, none⟩ : Addr).add (j * 1 + 0) = ⟨g, j, none⟩ := by unfold Addr.add; split <;> simp_all
  rw [hadd] at h3
  refine ⟨h3, ?_⟩
  obtain ⟨_, hn | ⟨g', cap', cur, e2, hb, hg, _⟩⟩ := h
  · simp at hn
  · obtain ⟨rfl, _, _⟩ : g = g' ∧ _ ∧ _ := by simpa using e2
    simp [World.frozen?, hg]
theorem cmpLaysF [ih : Inhabited (Fin zs.length)] {blk size : Nat} {W : World} (hz : zipOk W zs) (hne : ∀ z ∈ zs, z.1 ≠ blk) : CmpLays1 Tryd.prog 26 #[] (encF zs) (cmpF zs) blk 0 size W := by
  intro m os dk _ x y
  have hb : ∀ i : Fin zs.length, Block (sortWorld (encF zs) W blk 0 m dk os) (zs[i]).1 (talC (zs[i]).2) := fun i => by
    have hm : zs[i] ∈ zs := List.getElem_mem _
    have := hz _ hm
    obtain ⟨t, e⟩ := this.get
    exact ⟨⟨t, by rw [heap_sortWorld _ _ _ _ _ _ _ this.lt (hne _ hm)]; exact e⟩⟩
  refine (compare_any _ _ _ _ _ (hb x) (hb y)).mono ?_
  rintro e w' ⟨rfl, q, o, rfl⟩
  exact ⟨rfl, q, #[o], alloc_eq_grow _ _⟩
end
theorem perm_of_permIn {α : Type} [Inhabited α] {d d' : Array α} (h : PermIn 0 d.size d d') : d'.toList.Perm d.toList := by
  have h3 := h.2.2
  have e1 : d.extract 0 d.size = d := by simp
  have e2 : d'.extract 0 d.size = d' := by rw [← h.1]; simp
  rwa [e1, e2] at h3
theorem sort_tallies (zs : List (Nat × Tal)) (v : Value) (W : World) (base : Nat) (hown : Own encP 1 124 base W v (zs.map (·.1))) (hz : zipOk W zs) (hne : ∀ z ∈ zs, v.ownBlock ≠ some z.1) (hlen : zs.length ≤ 1000000) :
    Calls Tryd.prog 25 #[v, .func (.func 26) #[] #[]] W fun e w' => e = .returned (.tuple #[]) ∧ ∃ zs' : List (Nat × Tal), zs'.Perm zs ∧ (zs'.Pairwise fun a b => ¬ ltK b.2.k a.2.k) ∧ SliceOf encP 1 w' v (zs'.map (·.1)) ∧ Kept W v w' v ∧ w'.os = W.os ∧ w'.tape = W.tape ∧ w'.output = W.output := by
  have h0 := hown
  obtain ⟨hl, ⟨rfl, hn⟩ | ⟨g, cap, cur, rfl, hb, hg, hn, hc, hs, ht⟩⟩ := hown
  · have e0 : zs = [] := List.eq_nil_of_length_eq_zero (by simpa using hn)
    subst e0
    refine (AnyF.slices_SortFunc_none Tryd.sortT0 none 0 _ W).mono ?_
    rintro e w' ⟨rfl, rfl⟩
    exact ⟨rfl, [], List.Perm.refl _, List.Pairwise.nil, SliceOf.nil _, ⟨fun _ _ _ => rfl, .inl rfl, Nat.le_refl _⟩, rfl, rfl, rfl⟩
  · by_cases hz0 : zs.length = 0
    · have e0 : zs = [] := List.eq_nil_of_length_eq_zero hz0
      subst e0
      refine (AnyF.slices_SortFunc_none Tryd.sortT0 (some ⟨g, 0, none⟩) cap _ W).mono ?_
      rintro e w' ⟨rfl, rfl⟩
      exact ⟨rfl, [], List.Perm.refl _, List.Pairwise.nil, Own.slice encP_len h0, ⟨fun _ _ _ => rfl, .inl rfl, Nat.le_refl _⟩, rfl, rfl, rfl⟩
    · haveI ih : Inhabited (Fin zs.length) := ⟨⟨0, by omega⟩⟩
      have eg : ∀ args w, (callFunc 26 args).run Tryd.prog w = .ok (.enter 26 args) w := enters_of Tryd.func26 (by kernel_rfl) rfl
      have hblk : g < W.heap.size := (Array.getElem?_eq_some_iff.1 hg).1
      have hH := holdsF zs h0
      have hcon := Any.slices_SortFunc Tryd.sortT (encF zs) (encF_one zs) (cmpF zs) (swoF zs) 26 #[] g 0 cap (dF zs) W eg (cmpLaysF zs hz (fun z hz' e => hne z hz' (by rw [e]; rfl))) hH hblk (by rw [dF_size]; omega)
      have e2 : (zs.map (·.1)).length = (dF zs).size := by rw [dF_size]; simp
      rw [e2]
      refine Calls.mono hcon ?_
      rintro e w' ⟨rfl, d', n, os, hp, hso, rfl⟩
      have hpl := perm_of_permIn hp
      refine ⟨rfl, d'.toList.map (fun i => zs[i]), ?_, ?_, ?_, kept_sort _ _ _ _ _ _ _ _, rfl, rfl, rfl⟩
      · have := hpl.map (fun i : Fin zs.length => zs[i])
        have e3 : (dF zs).toList.map (fun i : Fin zs.length => zs[i]) = zs := by
          simp only [dF]
          apply List.ext_getElem
          · simp
          · intro i h1 h2; simp
        rwa [e3] at this
      · rw [List.pairwise_map, List.pairwise_iff_getElem]
        intro i j hi hj hij
        have hi' : i < d'.size := by simpa using hi
        have hj' : j < d'.size := by simpa using hj
        have := hso i j (Nat.zero_le _) hij (by rw [← hp.1]; exact hj')
        rw [getElem!_pos d' i hi', getElem!_pos d' j hj', ltF] at this
        simpa using this
      · have hS : SW (encF zs) W g 0 d' (sortWorld (encF zs) W g 0 n d' os) := ⟨n, os, rfl⟩
        have hH' := hS.holds hblk hH hp.1
        have hsz : d'.size = zs.length := by rw [hp.1, dF_size]
        refine ⟨some ⟨g, 0, none⟩, cap, by simp [hsz, dF_size], by simp [hsz]; simpa using hn, hc, (fun h => by cases h), fun i x hi => ⟨g, 0, rfl, fun j u hj => ?_⟩⟩
        have hi1 : i < d'.size := by
          have := (List.getElem?_eq_some_iff.1 hi).1
          simpa using this
        obtain ⟨hc1, _⟩ := hH' i hi1
        have hj0 : j = 0 := by
          have := (List.getElem?_eq_some_iff.1 hj).1
          simp [encP] at this
          exact this
        subst hj0
        have hx : x = (zs[d'[i]!]).1 := by
          have := (List.getElem?_eq_some_iff.1 hi).2
          simp only [getElem!_pos d' i hi1]
          simpa using this.symm
        have hu : u = .pointer (some ⟨x, 0, none⟩) := by simpa [encP] using hj.symm
        rw [hu, hx, show 0 + (i * 1 + 0) = 0 + i by omega]
        exact hc1
end Go.Proofs.YtaflcbdbacogeaaDoor
