/-
  Plain facts on lists of ints as assignments: what Best returns is valid, has its counts, and comes first.
-/
import Derived.Test.YthchddkdcibbhaaA7
import Derived.Test.YthchddkdcibbhaaC4
namespace Go.Proofs.Ythchddkdcibbhaa
open Go.RowKit AssignM

/-- a list of ints as an assignment -/
def entI (x : Int) : Option Nat := if x < 0 then none else some x.toNat
def matI (to : List Int) : Mat := fun k => (to[k]?).bind entI
theorem entI_opt (o : Option Nat) : entI (optInt o) = o := by
  cases o with
  | none => rfl
  | some j =>
    have h : ¬ optInt (some j) < 0 := by simp only [optInt]; omega
    unfold entI
    rw [if_neg h]
    simp [optInt]
theorem entI_some {x : Int} {i : Nat} (h : entI x = some i) : x = (i : Int) := by
  unfold entI at h
  split at h
  · cases h
  · simp at h; omega
theorem entI_int {x : Int} {i : Nat} : entI x = some i ↔ x = (i : Int) := by
  refine ⟨entI_some, fun h => ?_⟩
  subst h
  simp [entI]
theorem ents_all {F : List (List Bool)} : ∀ {to : List Int} {k : Nat}, entsOk F k to = true → ∀ (j : Nat) x, to[j]? = some x → entOk F (k + j) x = true
  | [], _, _, j, x, h => by simp at h
  | y :: to, k, h, j, x, hx => by
    rw [entsOk, Bool.and_eq_true] at h
    cases j with
    | zero => simp at hx; subst hx; exact h.1
    | succ j => have := ents_all h.2 j x (by simpa using hx); rw [show k + (j + 1) = k + 1 + j by omega]; exact this
theorem ents_of {F : List (List Bool)} : ∀ {to : List Int} {k : Nat}, (∀ (j : Nat) x, to[j]? = some x → entOk F (k + j) x = true) → entsOk F k to = true
  | [], _, _ => rfl
  | y :: to, k, h => by
    rw [entsOk, Bool.and_eq_true]
    refine ⟨h 0 y rfl, ents_of fun j x hx => ?_⟩
    have := h (j + 1) x (by simpa using hx)
    rw [show k + (j + 1) = k + 1 + j by omega] at this
    exact this
theorem matI_ok {F : List (List Bool)} {C : Nat} {to : List Int} (hl : to.length = C) (h : entsOk F 0 to = true) : Ok F F.length C (matI to) := by
  refine ⟨fun k i hk => ?_⟩
  unfold matI at hk
  rcases hx : to[k]? with _ | x
  · rw [hx] at hk; cases hk
  · rw [hx] at hk
    have e := entI_some (show entI x = some i from hk)
    have h1 := ents_all h k x hx
    have hkl : k < to.length := (List.getElem?_eq_some_iff.1 hx).1
    subst e
    unfold entOk at h1
    rw [Bool.or_eq_true, decide_eq_true_eq, Bool.and_eq_true, decide_eq_true_eq, Nat.zero_add] at h1
    refine ⟨by omega, ?_⟩
    rcases h1 with h1 | ⟨h1, h2⟩
    · omega
    · exact ⟨by omega, by simpa using h2⟩
theorem cntP_take {to : List Int} {i : Nat} : ∀ {n : Nat}, n ≤ to.length → cntP (fun k => decide (0 ≤ k ∧ matI to k = some i)) n = cntI (to.take n) i
  | 0, _ => by simp [cntP, cntI]
  | n + 1, h => by
    have hn : n < to.length := by omega
    rw [cntP, cntP_take (by omega), cntI_take hn]
    have e : matI to n = entI to[n] := by unfold matI; rw [List.getElem?_eq_getElem hn]; rfl
    rw [e]
    by_cases hx : to[n] = (i : Int)
    · rw [if_pos hx]; simp [entI_int.2 hx]
    · rw [if_neg hx]
      have : entI to[n] ≠ some i := fun h => hx (entI_some h)
      simp [this]
theorem cnt_matI {C : Nat} {to : List Int} (hl : to.length = C) (i : Nat) : cnt C (matI to) 0 i = cntI to i := by
  subst hl
  unfold cnt
  rw [cntP_take (Nat.le_refl _), List.take_length]
theorem cntI_opt (l : List (Option Nat)) (i : Nat) : cntI (l.map optInt) i = cntL l i := by
  unfold cntI cntL
  rw [List.countP_map]
  refine List.countP_congr fun x _ => ?_
  cases x with
  | none => simp [optInt]
  | some j => simp [optInt]; omega
theorem validS_iff {F : List (List Bool)} {m to : List Int} : validS F m to = true ↔ mostErr F m = 0 ∧ to.length = cols F ∧ entsOk F 0 to = true ∧ ∀ i, i < F.length → cntI to i ≤ nth (toNats m) i := by
  unfold validS
  rw [Bool.and_eq_true, Bool.and_eq_true, Bool.and_eq_true, decide_eq_true_eq, decide_eq_true_eq, Bool.not_eq_true', over_step]
  constructor
  · rintro ⟨⟨⟨h1, h2⟩, h3⟩, h4⟩; exact ⟨h1, h2, h3, h4⟩
  · rintro ⟨h1, h2, h3, h4⟩; exact ⟨⟨⟨h1, h2⟩, h3⟩, h4⟩
theorem most_of_best {F : List (List Bool)} {l m : List Int} (h : bestErr F l m = 0) : mostErr F m = 0 := by
  obtain ⟨h1, h2, h3, h4, h5⟩ := bestErr_ok h
  unfold mostErr
  rw [if_neg (by simpa using h1), if_neg (by simpa using h3), if_neg]
  unfold badMost
  rw [Bool.not_eq_true, List.any_eq_false]
  intro x hx
  have := h4 x hx
  simp; omega
theorem nz_le (lim : Nat → Nat) (R : Nat) : nz lim R ≤ R := cntP_len _ _
theorem bestC_spec {F : List (List Bool)} {l m : List Int} : Feas F F.length (cols F) 0 (bestC F l m) ∧ ∀ i, i < F.length → bestC F l m i ≤ nth (toNats m) i ∧ (bestC F l m i = 0 ∨ nth (toNats l) i ≤ bestC F l m i) := bestF_spec (nz_le _ _)
/-- WHAT Best RETURNS: its length, its counts -/
theorem bestS_eq {F : List (List Bool)} {l m : List Int} (h : bestErr F l m = 0) : bestS F l m = (firstF F F.length (cols F) (cols F) 0 (bestC F l m)).map optInt := by unfold bestS; rw [if_pos h]
theorem bestS_length {F : List (List Bool)} {l m : List Int} (h : bestErr F l m = 0) : (bestS F l m).length = cols F := by rw [bestS_eq h, List.length_map, firstF_len]
theorem bestS_cnt {F : List (List Bool)} {l m : List Int} (h : bestErr F l m = 0) {i : Nat} (hi : i < F.length) : cntI (bestS F l m) i = bestC F l m i := by
  rw [bestS_eq h, cntI_opt]
  exact (firstF_ok (n := cols F) (k := 0) (by omega) bestC_spec.1).2 i hi
theorem bestS_valid {F : List (List Bool)} {l m : List Int} (h : bestErr F l m = 0) : validS F m (bestS F l m) = true := by
  rw [validS_iff]
  refine ⟨most_of_best h, bestS_length h, ents_of fun j x hx => ?_, fun i hi => by rw [bestS_cnt h hi]; exact (bestC_spec.2 i hi).1⟩
  rw [bestS_eq h, List.getElem?_map] at hx
  rcases ho : (firstF F F.length (cols F) (cols F) 0 (bestC F l m))[j]? with _ | o
  · rw [ho] at hx; cases hx
  · rw [ho] at hx
    simp at hx
    subst hx
    cases o with
    | none => simp [entOk, optInt]
    | some i =>
      have := (firstF_ok (n := cols F) (k := 0) (by omega) bestC_spec.1).1 j i ho
      have h2 := this.2
      rw [Nat.zero_add] at h2
      simp [entOk, optInt, this.1, h2]
/-- NO VALID ASSIGNMENT WITH THE SAME COUNTS COMES BEFORE IT -/
theorem bestS_first {F : List (List Bool)} {l m to : List Int} (h : bestErr F l m = 0) (hv : validS F m to = true) (hc : ∀ i, i < F.length → cntI (bestS F l m) i = cntI to i) {k : Nat} (hk : k < (bestS F l m).length) (hk' : k < to.length) (hpre : ∀ j, j < k → (bestS F l m)[j]? = to[j]?) (hne : (bestS F l m)[k] ≠ to[k]) :
    0 ≤ (bestS F l m)[k] ∧ (to[k] < 0 ∨ (bestS F l m)[k] < to[k]) := by
  obtain ⟨h1, h2, h3, h4⟩ := validS_iff.1 hv
  obtain ⟨fs, hfs⟩ : ∃ fs, fs = firstF F F.length (cols F) (cols F) 0 (bestC F l m) := ⟨_, rfl⟩
  have hb : bestS F l m = fs.map optInt := by rw [bestS_eq h, hfs]
  have hfl : fs.length = cols F := by rw [hfs, firstF_len]
  have hent : ∀ (j : Nat) x, to[j]? = some x → x = optInt (entI x) := fun j x hx => by
    have := ents_all h3 j x hx
    simp [entOk] at this
    unfold entI
    rcases this with e | e
    · subst e; rfl
    · rw [if_neg (by omega)]; simp [optInt]; omega
  have hmat : ∀ (j : Nat) (hj : j < to.length), matI to j = entI to[j] := fun j hj => by unfold matI; rw [List.getElem?_eq_getElem hj]; rfl
  have hmin := firstF_min (F := F) (R := F.length) (C := cols F) (matI_ok h2 h3) (n := cols F) (k := 0) (left := bestC F l m) (by omega) (fun i hi => by rw [cnt_matI h2, ← hc i hi, bestS_cnt h hi]) k (by omega) (fun j hj => ?_) ?_
  · obtain ⟨i, e1, e2⟩ := hmin
    rw [← hfs] at e1
    have e3 : (bestS F l m)[k] = (i : Int) := by
      have : (bestS F l m)[k]? = some (i : Int) := by rw [hb, List.getElem?_map, e1]; rfl
      rw [List.getElem?_eq_getElem hk] at this
      exact Option.some.inj this
    rw [e3]
    refine ⟨by omega, ?_⟩
    rcases Int.lt_or_le to[k] 0 with hn | hn
    · exact .inl hn
    · right
      have := e2 to[k].toNat (by rw [Nat.zero_add, hmat k hk', entI_int]; omega)
      omega
  · rw [← hfs]
    have hjl : j < to.length := by omega
    have hjf : j < fs.length := by omega
    have e := hpre j hj
    rw [hb, List.getElem?_map, List.getElem?_eq_getElem hjl, List.getElem?_eq_getElem hjf] at e
    simp at e
    rw [List.getElem?_eq_getElem hjf, Nat.zero_add, hmat j hjl, ← e, entI_opt]
  · rw [← hfs]
    have hkf : k < fs.length := by omega
    rw [List.getElem?_eq_getElem hkf, Nat.zero_add, hmat k hk']
    intro e
    apply hne
    have e1 : (bestS F l m)[k]? = some (optInt fs[k]) := by rw [hb, List.getElem?_map, List.getElem?_eq_getElem hkf]; rfl
    rw [List.getElem?_eq_getElem hk] at e1
    rw [Option.some.inj e1, Option.some.inj e]
    exact (hent k to[k] (List.getElem?_eq_getElem hk')).symm

end Go.Proofs.Ythchddkdcibbhaa
