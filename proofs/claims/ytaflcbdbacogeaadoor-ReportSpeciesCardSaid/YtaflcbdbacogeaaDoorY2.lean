/-
  ReportSpecies: the plain part.
-/
import Derived.Test.YtaflcbdbacogeaaDoorW1
set_option linter.unusedVariables false
set_option linter.unusedSimpArgs false
namespace Go.Proofs.YtaflcbdbacogeaaDoor
open Go.RowKit ReportM

theorem mtS : (⟨#[]⟩ : ByteArray).toList.isEmpty = true := by kernel_rfl
theorem Y5.ext' {a b : Y5} (h1 : a.lg = b.lg) (h2 : a.bo = b.bo) (h3 : a.ch = b.ch) (h4 : a.du = b.du) (h5 : a.va = b.va) : a = b := by
  cases a; cases b; simp_all
/-- the sum of those that p names -/
def tot (p : Sw → Bool) (f : Sw → Int) (g : List Sw) : Int := ((g.filter p).map f).sum
def totY (p : Sw → Bool) (g : List Sw) : Y5 := ⟨tot p (·.y.lg) g, tot p (·.y.bo) g, tot p (·.y.ch) g, tot p (·.y.du) g, tot p (·.y.va) g⟩
theorem tot_cons (p : Sw → Bool) (f : Sw → Int) (x : Sw) (g : List Sw) : tot p f (x :: g) = (if p x then f x else 0) + tot p f g := by
  unfold tot
  by_cases h : p x <;> simp [h]
theorem totY_cons (p : Sw → Bool) (x : Sw) (g : List Sw) : totY p (x :: g) = if p x then sumY x.y (totY p g) else totY p g := by
  by_cases h : p x
  · rw [if_pos h]; simp only [totY, tot_cons, h, if_true, sumY]
  · rw [if_neg h]; simp only [totY, tot_cons, h, if_false, Int.zero_add, Bool.false_eq_true]
theorem sumY_assoc (a b c : Y5) : sumY (sumY a b) c = sumY a (sumY b c) := by simp [sumY, Int.add_assoc]
theorem sumY_zero (a : Y5) : sumY a zeroY = a := by simp [sumY, zeroY]
theorem zero_sumY (a : Y5) : sumY zeroY a = a := by simp [sumY, zeroY]
theorem add_ok {a b : Y5} (h : addE a b = 0) : addY a b = sumY a b ∧ okY a = true ∧ okY b = true := by
  unfold addE at h
  unfold addY
  by_cases c : (okY a && okY b) = true
  · rw [if_pos c]
    rw [Bool.and_eq_true] at c
    exact ⟨rfl, c.1, c.2⟩
  · rw [if_neg c] at h; cases h
theorem recF_ok {sp : ByteArray} : ∀ {g : List Sw} {acc r : Y5} {e : Int}, recF sp g acc = (r, e) → e = 0 → r = sumY acc (totY (takes sp) g) ∧ ∀ x ∈ g, takes sp x = true → okY x.y = true
  | [], acc, r, e, h, _ => by
    simp only [recF, Prod.mk.injEq] at h
    refine ⟨?_, fun x hx => absurd hx (by simp)⟩
    rw [← h.1]
    exact (sumY_zero acc).symm
  | x :: g, acc, r, e, h, he => by
    unfold recF at h
    by_cases t : takes sp x = true
    · rw [if_pos t] at h
      by_cases a : addE acc x.y = 0
      · rw [if_pos a] at h
        obtain ⟨ih1, ih2⟩ := recF_ok h he
        obtain ⟨a1, _, a3⟩ := add_ok a
        refine ⟨?_, fun y hy ht => ?_⟩
        · rw [ih1, a1, totY_cons, if_pos t, sumY_assoc]
        · rcases List.mem_cons.1 hy with rfl | hy
          · exact a3
          · exact ih2 y hy ht
      · rw [if_neg a] at h
        simp only [Prod.mk.injEq] at h
        rw [he] at h
        exact absurd h.2 (by decide)
    · rw [if_neg t] at h
      obtain ⟨ih1, ih2⟩ := recF_ok h he
      refine ⟨?_, fun y hy ht => ?_⟩
      · rw [ih1, totY_cons, if_neg t]
      · rcases List.mem_cons.1 hy with rfl | hy
        · exact absurd ht t
        · exact ih2 y hy ht
theorem recF_err {sp : ByteArray} : ∀ {g : List Sw} {acc r : Y5} {e : Int}, recF sp g acc = (r, e) → e ≠ 0 → r = zeroY
  | [], acc, r, e, h, he => by
    simp only [recF, Prod.mk.injEq] at h
    exact absurd h.2.symm he
  | x :: g, acc, r, e, h, he => by
    unfold recF at h
    by_cases t : takes sp x = true
    · rw [if_pos t] at h
      by_cases a : addE acc x.y = 0
      · rw [if_pos a] at h; exact recF_err h he
      · rw [if_neg a] at h
        simp only [Prod.mk.injEq] at h
        exact h.1.symm
    · rw [if_neg t] at h; exact recF_err h he
/-- within n times the bound -/
def Within (n : Int) (y : Y5) : Prop := (0 ≤ y.lg ∧ y.lg ≤ n * 18014398509481984) ∧ (0 ≤ y.bo ∧ y.bo ≤ n * 18014398509481984) ∧ (0 ≤ y.ch ∧ y.ch ≤ n * 18014398509481984) ∧ (0 ≤ y.du ∧ y.du ≤ n * 18014398509481984) ∧ (-(n * 18014398509481984) ≤ y.va ∧ y.va ≤ n * 18014398509481984)
theorem Within.ok {n : Int} {y : Y5} (h : Within n y) (hn : n ≤ 100) : okY y = true := by
  obtain ⟨h1, h2, h3, h4, h5⟩ := h
  simp only [okY, okN, okV, Bool.and_eq_true, decide_eq_true_eq]
  omega
theorem Within.sum {n m : Int} {a b : Y5} (h : Within n a) (k : Within m b) : Within (n + m) (sumY a b) := by
  obtain ⟨h1, h2, h3, h4, h5⟩ := h
  obtain ⟨k1, k2, k3, k4, k5⟩ := k
  simp only [Within, sumY]
  omega
theorem Within.zero : Within 0 zeroY := by simp [Within, zeroY]
theorem Within.mono {n m : Int} {a : Y5} (h : Within n a) (hm : n ≤ m) : Within m a := by
  obtain ⟨h1, h2, h3, h4, h5⟩ := h
  simp only [Within]
  omega
theorem totY_within {p : Sw → Bool} : ∀ {g : List Sw}, (∀ x ∈ g, p x = true → Within 1 x.y) → Within ((g.filter p).length : Nat) (totY p g)
  | [], _ => by simpa [totY, tot, zeroY] using Within.zero
  | x :: g, h => by
    have ih := totY_within (p := p) (g := g) (fun y hy => h y (List.mem_cons_of_mem _ hy))
    rw [totY_cons]
    by_cases c : p x = true
    · rw [if_pos c, List.filter_cons_of_pos c]
      have := (h x (by simp) c).sum ih
      exact this.mono (by simp; omega)
    · rw [if_neg c, List.filter_cons_of_neg c]
      exact ih
theorem recF_fine {sp : ByteArray} : ∀ {g : List Sw} {acc : Y5} {n : Int}, Within n acc → n + g.length ≤ 100 → (∀ x ∈ g, takes sp x = true → Within 1 x.y) → (recF sp g acc).2 = 0
  | [], _, _, _, _, _ => rfl
  | x :: g, acc, n, ha, hn, h => by
    unfold recF
    simp only [List.length_cons, Int.natCast_add, Int.natCast_one] at hn
    by_cases t : takes sp x = true
    · have hx := h x (by simp) t
      have o1 := ha.ok (by omega)
      have o2 := hx.ok (by omega)
      have e1 : addE acc x.y = 0 := by unfold addE; rw [o1, o2]; rfl
      rw [if_pos t, if_pos e1, (add_ok e1).1]
      exact recF_fine (ha.sum hx) (by omega) (fun y hy => h y (List.mem_cons_of_mem _ hy))
    · rw [if_neg t]
      exact recF_fine ha (by omega) (fun y hy => h y (List.mem_cons_of_mem _ hy))
/-- the law's wide -/
def wideB (x : Sw) : Bool := decide (x.y.lg > 18014398509481984) || decide (x.y.bo > 18014398509481984) || decide (x.y.ch > 18014398509481984) || decide (x.y.du > 18014398509481984) || decide (x.y.va > 18014398509481984) || decide (x.y.va < -18014398509481984)
theorem narrow {x : Sw} (h : wideB x = false) (ho : okY x.y = true) : Within 1 x.y := by
  simp only [wideB, Bool.or_eq_false_iff, decide_eq_false_iff_not] at h
  simp only [okY, okN, okV, Bool.and_eq_true, decide_eq_true_eq] at ho
  simp only [Within]
  omega
/-- the species that come first among the first k -/
def fsTo (g : List Sw) : Nat → List (List UInt8)
  | 0 => []
  | k + 1 => match g[k]? with
    | none => fsTo g k
    | some x => if x.sp.toList ∈ (g.take k).map (·.sp.toList) then fsTo g k else fsTo g k ++ [x.sp.toList]
theorem fsTo_succ {g : List Sw} {k : Nat} (h : k < g.length) : fsTo g (k + 1) = if g[k].sp.toList ∈ (g.take k).map (·.sp.toList) then fsTo g k else fsTo g k ++ [g[k].sp.toList] := by
  rw [fsTo, List.getElem?_eq_getElem h]
theorem fsTo_mem {g : List Sw} : ∀ k, k ≤ g.length → ∀ u, u ∈ fsTo g k ↔ u ∈ (g.take k).map (·.sp.toList)
  | 0, _, u => by simp [fsTo]
  | k + 1, hk, u => by
    have ih := fsTo_mem (g := g) k (by omega)
    have hlt : k < g.length := by omega
    rw [fsTo_succ hlt, List.take_succ_eq_append_getElem hlt, List.map_append, List.mem_append]
    split
    · rename_i h
      rw [ih u]
      constructor
      · exact Or.inl
      · rintro (h' | h')
        · exact h'
        · simp only [List.map_cons, List.map_nil, List.mem_singleton] at h'
          rw [h']; exact h
    · rw [List.mem_append, ih u]
      simp
theorem fsTo_nodup {g : List Sw} : ∀ k, k ≤ g.length → (fsTo g k).Nodup
  | 0, _ => by simp [fsTo]
  | k + 1, hk => by
    have ih := fsTo_nodup (g := g) k (by omega)
    have hlt : k < g.length := by omega
    rw [fsTo_succ hlt]
    split
    · exact ih
    · rename_i h
      rw [List.nodup_append]
      refine ⟨ih, by simp, fun a ha b hb e => h ?_⟩
      simp only [List.mem_singleton] at hb
      rw [← hb, ← e]
      exact (fsTo_mem k (by omega) a).1 ha
/-- those of a species -/
def ofSp (u : List UInt8) (x : Sw) : Bool := x.sn && (x.sp.toList == u)
def sumU (g : List Sw) (us : List (List UInt8)) : Y5 := us.foldr (fun u a => sumY (totY (ofSp u) g) a) zeroY
theorem sumU_snoc (g : List Sw) (us : List (List UInt8)) (u : List UInt8) : sumU g (us ++ [u]) = sumY (sumU g us) (totY (ofSp u) g) := by
  unfold sumU
  rw [List.foldr_append]
  simp only [List.foldr_cons, List.foldr_nil, sumY_zero]
  induction us with
  | nil => simp [zero_sumY]
  | cons v us ih => simp only [List.foldr_cons]; rw [ih, sumY_assoc]
def inUs (us : List (List UInt8)) (x : Sw) : Bool := x.sn && us.contains x.sp.toList
theorem tot_split {us : List (List UInt8)} {u : List UInt8} (hu : u ∉ us) (f : Sw → Int) : ∀ g : List Sw, tot (inUs (u :: us)) f g = tot (ofSp u) f g + tot (inUs us) f g
  | [] => by simp [tot]
  | x :: g => by
    have ih := tot_split hu f g
    rw [tot_cons, tot_cons, tot_cons, ih]
    by_cases hs : x.sn = true
    · by_cases e : x.sp.toList = u
      · have h2 : inUs us x = false := by simp [inUs, hs, e, hu]
        have h1 : ofSp u x = true := by simp [ofSp, hs, e]
        have h3 : inUs (u :: us) x = true := by simp [inUs, hs, e]
        rw [h1, h2, h3]; simp; omega
      · have h1 : ofSp u x = false := by simp [ofSp, e]
        have h3 : inUs (u :: us) x = inUs us x := by simp [inUs, hs, e]
        rw [h1, h3]; simp; omega
    · have h1 : ofSp u x = false := by simp [ofSp, hs]
      have h2 : inUs us x = false := by simp [inUs, hs]
      have h3 : inUs (u :: us) x = false := by simp [inUs, hs]
      rw [h1, h2, h3]; simp
theorem sumU_eq (g : List Sw) : ∀ us : List (List UInt8), us.Nodup → sumU g us = totY (inUs us) g
  | [], _ => by
    have : ∀ f, tot (inUs []) f g = 0 := fun f => by
      unfold tot
      rw [List.filter_eq_nil_iff.2 (fun x _ => by simp [inUs])]
      rfl
    simp only [sumU, List.foldr_nil, totY, this, zeroY]
  | u :: us, h => by
    obtain ⟨h1, h2⟩ := List.nodup_cons.1 h
    have ih := sumU_eq g us h2
    show sumY (totY (ofSp u) g) (sumU g us) = _
    rw [ih]
    simp only [totY, sumY, tot_split h1]
theorem sumU_all {g : List Sw} : sumU g (fsTo g g.length) = totY (takes ⟨#[]⟩) g := by
  rw [sumU_eq g _ (fsTo_nodup _ (Nat.le_refl _))]
  have e : ∀ x ∈ g, inUs (fsTo g g.length) x = takes ⟨#[]⟩ x := fun x hx => by
    have h1 : x.sp.toList ∈ fsTo g g.length := (fsTo_mem _ (Nat.le_refl _) _).2 (by rw [List.take_of_length_le (Nat.le_refl _)]; exact List.mem_map.2 ⟨x, hx, rfl⟩)
    have h2 : (⟨#[]⟩ : ByteArray).toList.isEmpty = true := mtS
    simp [inUs, takes, h1, h2]
  unfold totY tot
  rw [List.filter_congr e]
theorem takes_sp {sp : ByteArray} (h : sp.toList ≠ []) (x : Sw) : takes sp x = ofSp sp.toList x := by
  have : sp.toList.isEmpty = false := by cases e : sp.toList <;> simp_all
  simp [takes, ofSp, this]
theorem takes_any {sp : ByteArray} {x : Sw} (h : takes sp x = true) : takes ⟨#[]⟩ x = true := by
  have h2 : (⟨#[]⟩ : ByteArray).toList.isEmpty = true := mtS
  simp only [takes, Bool.and_eq_true] at h
  simp [takes, h2, h.1]
theorem within_len {p : Sw → Bool} {g : List Sw} (h : ∀ x ∈ g, p x = true → Within 1 x.y) (hl : g.length ≤ 40) : Within 40 (totY p g) :=
  (totY_within h).mono (by have := List.length_filter_le p g; omega)
end Go.Proofs.YtaflcbdbacogeaaDoor
