/-
  Plain facts on the counts: the best ones; more boards or more numbers do not make them worse.
-/
import Derived.Test.YthchddkdcibbhaaE2
namespace Go.Proofs.Ythchddkdcibbhaa
open Go.RowKit AssignM

/-- the counts of a list, as a list -/
def cntsL (R : Nat) (to : List Int) : List Int := (List.range R).map fun i => (cntI to i : Int)
theorem cntsL_len {R : Nat} {to : List Int} : (cntsL R to).length = R := by simp [cntsL]
theorem cntsL_get {R : Nat} {a b : List Int} (h : cntsL R a = cntsL R b) {i : Nat} (hi : i < R) : cntI a i = cntI b i := by
  have := congrArg (fun l => l[i]?) h
  simp [cntsL, hi] at this
  omega
theorem bestS_len {F : List (List Bool)} {l m : List Int} : (bestS F l m).length ≤ 512 := by
  unfold bestS
  split
  · rename_i h
    have := (Rect.of (bestErr_ok h).1).2.2
    simp [firstF_len]
    exact this
  · simp
theorem countsS_eq {F : List (List Bool)} {m : List Int} (h : mostErr F m = 0) : countsS F m = (List.range F.length).map fun i => (fillAll F F.length (cols F) (nth (toNats m)) i : Int) := by unfold countsS; rw [if_pos h]
theorem countsS_len {F : List (List Bool)} {m : List Int} (h : mostErr F m = 0) : (countsS F m).length = F.length := by rw [countsS_eq h]; simp
theorem countsS_get {F : List (List Bool)} {m : List Int} (h : mostErr F m = 0) {i : Nat} (hi : i < (countsS F m).length) : (countsS F m)[i] = (fillAll F F.length (cols F) (nth (toNats m)) i : Int) := by
  have : (countsS F m)[i]? = some (fillAll F F.length (cols F) (nth (toNats m)) i : Int) := by
    have hi' := hi
    rw [countsS_len h] at hi'
    rw [countsS_eq h]
    simp [hi']
  rw [List.getElem?_eq_getElem hi] at this
  exact Option.some.inj this
theorem nth_nats {m : List Int} {i : Nat} (hi : i < m.length) (h0 : 0 ≤ m[i]) : (nth (toNats m) i : Int) = m[i] := by
  rw [nth_eq (by simpa [toNats] using hi)]
  simp [toNats]
  omega
theorem cntsL_idx {R : Nat} {to : List Int} {i : Nat} (hi : i < (cntsL R to).length) : (cntsL R to)[i] = (cntI to i : Int) := by simp [cntsL]
/-- NO VALID ASSIGNMENT HAS BETTER COUNTS -/
theorem counts_best {F : List (List Bool)} {m to : List Int} (h : validS F m to = true) : betterS (cntsL F.length to) (countsS F m) = false := by
  obtain ⟨h1, h2, h3, h4⟩ := validS_iff.1 h
  refine better_false fun k x y hx hy hpre => ?_
  obtain ⟨hk1, rfl⟩ := List.getElem?_eq_some_iff.1 hx
  obtain ⟨hk2, rfl⟩ := List.getElem?_eq_some_iff.1 hy
  have hkR : k < F.length := by rw [cntsL_len] at hk1; exact hk1
  rw [cntsL_idx hk1, countsS_get h1 hk2]
  have := fillAll_max (F := F) (R := F.length) (C := cols F) (most := nth (toNats m)) (d := fun i => cntI to i) hkR ⟨matI to, matI_ok h2 h3, fun i _ => cnt_matI h2 i⟩ (h4 k hkR) (fun j hj => by
    have e := hpre j hj
    have hj1 : j < (cntsL F.length to).length := by omega
    have hj2 : j < (countsS F m).length := by omega
    rw [List.getElem?_eq_getElem hj1, List.getElem?_eq_getElem hj2, cntsL_idx hj1, countsS_get h1 hj2] at e
    have := Option.some.inj e
    omega)
  omega
/-- no order of the best assignment has too few or too many -/
theorem best_enough {F : List (List Bool)} {l m : List Int} (h : bestErr F l m = 0) {i : Nat} (hi : i < F.length) (hl : i < l.length) (hm : i < m.length) : (cntI (bestS F l m) i : Int) ≤ m[i] ∧ (cntI (bestS F l m) i = 0 ∨ l[i] ≤ (cntI (bestS F l m) i : Int)) := by
  obtain ⟨h1, h2, h3, h4, h5⟩ := bestErr_ok h
  obtain ⟨e1, e2⟩ := bestC_spec (F := F) (l := l) (m := m) |>.2 i hi
  rw [bestS_cnt h hi]
  have a1 := nth_nats hl (h5 _ (List.getElem_mem hl))
  have a2 := nth_nats hm (h4 _ (List.getElem_mem hm)).1
  omega
def enoughTo (c l : List Int) : Nat → Bool
  | 0 => true
  | k + 1 => enoughTo c l k && (decide ((c[k]?).getD 0 = 0) || decide ((l[k]?).getD 0 ≤ (c[k]?).getD 0))
theorem enoughTo_all {c l : List Int} : ∀ {k : Nat}, enoughTo c l k = true → ∀ i, i < k → (c[i]?).getD 0 = 0 ∨ (l[i]?).getD 0 ≤ (c[i]?).getD 0
  | 0, _, i, hi => by omega
  | k + 1, h, i, hi => by
    rw [enoughTo, Bool.and_eq_true] at h
    by_cases e : i = k
    · subst e; simpa using h.2
    · exact enoughTo_all h.1 i (by omega)
/-- if the counts are enough, the best assignment has them -/
theorem best_has {F : List (List Bool)} {l m : List Int} (h : bestErr F l m = 0) (he : enoughTo (countsS F m) l F.length = true) : cntsL F.length (bestS F l m) = countsS F m := by
  have hm0 := most_of_best h
  obtain ⟨h1, h2, h3, h4, h5⟩ := bestErr_ok h
  have key : bestC F l m = fillAll F F.length (cols F) (nth (toNats m)) := by
    unfold bestC
    refine bestF_none (find_none fun i hi => ?_) _
    have hic : i < (countsS F m).length := by rw [countsS_len hm0]; exact hi
    have hil : i < l.length := by omega
    have := enoughTo_all he i hi
    rw [List.getElem?_eq_getElem hic, List.getElem?_eq_getElem hil, countsS_get hm0 hic] at this
    simp only [Option.getD_some] at this
    have a1 := nth_nats hil (h5 _ (List.getElem_mem hil))
    simp; omega
  rw [countsS_eq hm0]
  unfold cntsL
  refine List.map_congr_left fun i hi => ?_
  rw [bestS_cnt h (List.mem_range.1 hi), key]

/-- the table with one more board -/
def wider (F : List (List Bool)) (bd : List Bool) : List (List Bool) := (List.range F.length).map fun i => (F[i]?.getD []) ++ [(bd[i]?).getD false]
theorem wider_len {F : List (List Bool)} {bd : List Bool} : (wider F bd).length = F.length := by simp [wider]
theorem wider_get {F : List (List Bool)} {bd : List Bool} {i : Nat} (hi : i < F.length) : (wider F bd)[i]? = some (F[i] ++ [(bd[i]?).getD false]) := by simp [wider, hi]
theorem wider_ok {F : List (List Bool)} {bd : List Bool} {m : List Int} (h : mostErr F m = 0) (h0 : 0 < F.length) (h13 : cols F ≤ 13) : mostErr (wider F bd) m = 0 ∧ cols (wider F bd) = cols F + 1 := by
  obtain ⟨e1, e2, e3⟩ := mostErr_ok h
  obtain ⟨hr, hR, _⟩ := Rect.of e1
  have hc : cols (wider F bd) = cols F + 1 := by
    rw [cols_get (by rw [wider_len]; exact h0), cols_get h0]
    have := wider_get (bd := bd) h0
    rw [List.getElem?_eq_getElem (by rw [wider_len]; exact h0)] at this
    rw [Option.some.inj this]
    simp
  have hall : ∀ r ∈ wider F bd, r.length = cols F + 1 := fun r hr' => by
    obtain ⟨i, hi, rfl⟩ := List.mem_map.1 hr'
    have hi' := List.mem_range.1 hi
    rw [List.getElem?_eq_getElem hi']
    simp [hr.wide _ (List.getElem_mem hi')]
  refine ⟨?_, hc⟩
  have ht : tabErr (wider F bd) = 0 := by
    unfold tabErr
    rw [if_neg (by rw [wider_len]; omega), if_neg, if_neg]
    · unfold odd
      rw [Bool.not_eq_true, List.any_eq_false]
      intro r hr'
      rw [hall r hr', hc]
      simp
    · unfold big
      rw [Bool.not_eq_true, List.any_eq_false]
      intro r hr'
      rw [hall r hr']
      simp; omega
  unfold mostErr
  rw [if_neg (by simpa using ht), if_neg (by rw [wider_len]; simpa using e2), if_neg]
  unfold badMost
  rw [Bool.not_eq_true, List.any_eq_false]
  intro x hx
  have := e3 x hx
  simp; omega
theorem wider_fit {F : List (List Bool)} {bd : List Bool} {i k : Nat} (hr : Rect F F.length (cols F)) (hk : k < cols F) (h : fit F i k = true) : fit (wider F bd) i k = true := by
  rcases Nat.lt_or_ge i F.length with hi | hi
  · unfold fit at h ⊢
    rw [wider_get hi]
    rw [List.getElem?_eq_getElem hi] at h
    have hw := hr.wide _ (List.getElem_mem hi)
    simp only [Option.getD_some] at h ⊢
    rw [List.getElem?_append_left (by omega)]
    exact h
  · unfold fit at h
    rw [List.getElem?_eq_none hi] at h
    simp at h
theorem cnt_more {F : List (List Bool)} {R C : Nat} {a : Mat} (ha : Ok F R C a) (i : Nat) : cnt (C + 1) a 0 i = cnt C a 0 i := by
  unfold cnt
  rw [cntP]
  have : a C ≠ some i := fun h => by have := (ha.at_ C i h).1; omega
  simp [this]
theorem counts_le {F G : List (List Bool)} {m n : List Int} (h1 : mostErr F m = 0) (h2 : mostErr G n = 0) (hl : G.length = F.length) (hf : Feas G G.length (cols G) 0 (fillAll F F.length (cols F) (nth (toNats m)))) (hm : ∀ i, i < F.length → nth (toNats m) i ≤ nth (toNats n) i) : betterS (countsS F m) (countsS G n) = false := by
  refine better_false fun k x y hx hy hpre => ?_
  obtain ⟨hk1, rfl⟩ := List.getElem?_eq_some_iff.1 hx
  obtain ⟨hk2, rfl⟩ := List.getElem?_eq_some_iff.1 hy
  have hkR : k < F.length := by rw [countsS_len h1] at hk1; exact hk1
  rw [countsS_get h1 hk1, countsS_get h2 hk2]
  have := fillAll_max (F := G) (R := G.length) (C := cols G) (most := nth (toNats n)) (d := fillAll F F.length (cols F) (nth (toNats m))) (i := k) (by omega) hf (Nat.le_trans (fillAll_le hkR) (hm k hkR)) (fun j hj => by
    have e := hpre j hj
    have hj1 : j < (countsS F m).length := by omega
    have hj2 : j < (countsS G n).length := by omega
    rw [List.getElem?_eq_getElem hj1, List.getElem?_eq_getElem hj2, countsS_get h1 hj1, countsS_get h2 hj2] at e
    have := Option.some.inj e
    omega)
  omega
/-- A FURTHER BOARD -/
theorem more_boards {F : List (List Bool)} {bd : List Bool} {m : List Int} (h : mostErr F m = 0) (h0 : 0 < F.length) (h13 : cols F ≤ 13) : betterS (countsS F m) (countsS (wider F bd) m) = false := by
  obtain ⟨w1, w2⟩ := wider_ok (bd := bd) h h0 h13
  obtain ⟨hr, _, _⟩ := Rect.of (mostErr_ok h).1
  refine counts_le h w1 wider_len ?_ (fun i _ => Nat.le_refl _)
  obtain ⟨a, ha, hc⟩ := fillAll_feas (F := F) (R := F.length) (C := cols F) (most := nth (toNats m))
  rw [w2, wider_len]
  refine ⟨a, ⟨fun k i hk => ?_⟩, fun i hi => by rw [cnt_more ha]; exact hc i hi⟩
  obtain ⟨e1, e2, e3⟩ := ha.at_ k i hk
  exact ⟨by omega, e2, wider_fit hr e1 e3⟩
/-- A GREATER NUMBER -/
def more (m : List Int) (at_ : Nat) : List Int := m.set at_ (min ((m[at_]?).getD 0 + 1) 200)
theorem more_ok {F : List (List Bool)} {m : List Int} {i : Nat} (h : mostErr F m = 0) : mostErr F (more m i) = 0 := by
  obtain ⟨e1, e2, e3⟩ := mostErr_ok h
  unfold mostErr
  rw [if_neg (by simpa using e1), if_neg (by simpa [more] using e2), if_neg]
  unfold badMost
  rw [Bool.not_eq_true, List.any_eq_false]
  intro x hx
  have hb : 0 ≤ x ∧ x ≤ 200 := by
    rcases List.mem_or_eq_of_mem_set hx with h' | h'
    · exact e3 x h'
    · rcases Nat.lt_or_ge i m.length with hi | hi
      · have := e3 _ (List.getElem_mem hi)
        rw [List.getElem?_eq_getElem hi] at h'
        simp only [Option.getD_some] at h'
        omega
      · rw [List.getElem?_eq_none hi] at h'
        simp at h'
        omega
  simp; omega
theorem more_numbers {F : List (List Bool)} {m : List Int} {i : Nat} (h : mostErr F m = 0) : betterS (countsS F m) (countsS F (more m i)) = false := by
  obtain ⟨e1, e2, e3⟩ := mostErr_ok h
  refine counts_le h (more_ok h) rfl fillAll_feas fun j hj => ?_
  have hjm : j < m.length := by omega
  have hjm' : j < (more m i).length := by simp [more]; omega
  have a1 := nth_nats hjm (e3 _ (List.getElem_mem hjm)).1
  have hb := e3 _ (List.getElem_mem hjm)
  have hg : m[j] ≤ (more m i)[j] := by
    by_cases e : i = j
    · subst e
      have : (more m i)[i] = min ((m[i]?).getD 0 + 1) 200 := by simp only [more, List.getElem_set_self]
      rw [this, List.getElem?_eq_getElem hjm]
      simp only [Option.getD_some]
      omega
    · have : (more m i)[j] = m[j] := by simp only [more, List.getElem_set_ne e]
      omega
  have a2 := nth_nats hjm' (by omega)
  omega

end Go.Proofs.Ythchddkdcibbhaa
