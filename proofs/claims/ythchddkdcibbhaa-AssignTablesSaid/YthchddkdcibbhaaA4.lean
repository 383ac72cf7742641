/-
  The earliest assignment with given counts; the limits of Best.
-/
import Derived.Test.YthchddkdcibbhaaA3
namespace AssignM
/-- the boards from b on are board b and those behind it -/
theorem cnt_step {C b x : Nat} {a : Mat} (hb : b < C) : cnt C a b x = cnt C a (b + 1) x + if a b = some x then 1 else 0 := by
  unfold cnt
  by_cases h : a b = some x
  · rw [if_pos h]
    refine cntP_turn (p := fun k => decide (b + 1 ≤ k ∧ a k = some x)) hb (fun k hk => ?_) (by rw [decide_eq_false_iff_not]; omega) (by simp [h])
    have : (b + 1 ≤ k) = (b ≤ k) := by simp; omega
    simp only [this]
  · rw [if_neg h, Nat.add_zero]
    refine cntP_congr fun k _ => ?_
    by_cases e : k = b
    · subst e; simp [h]
    · have : (b + 1 ≤ k) = (b ≤ k) := by simp; omega
      simp only [this]
def okFor (F : List (List Bool)) (R C k : Nat) (left : Nat → Nat) (i : Nat) : Bool := fit F i k && decide (0 < left i) && feasB F R C (k + 1) (drop1 left i)
/-- the first order to which board k can go -/
def pick (F : List (List Bool)) (R C k : Nat) (left : Nat → Nat) : Option Nat := (List.range R).find? (okFor F R C k left)
def after (left : Nat → Nat) : Option Nat → Nat → Nat
  | some i => drop1 left i
  | none => left
def firstF (F : List (List Bool)) (R C : Nat) : Nat → Nat → (Nat → Nat) → List (Option Nat)
  | 0, _, _ => []
  | n + 1, k, left => pick F R C k left :: firstF F R C n (k + 1) (after left (pick F R C k left))
theorem find_range {p : Nat → Bool} {R i : Nat} (hi : i < R) (hp : p i = true) (h : ∀ j, j < i → p j = false) : (List.range R).find? p = some i := by
  rw [List.find?_range_eq_some]
  exact ⟨hp, List.mem_range.2 hi, fun j hj => by simp [h j hj]⟩
theorem find_none {p : Nat → Bool} {R : Nat} (h : ∀ j, j < R → p j = false) : (List.range R).find? p = none := by
  rw [List.find?_eq_none]
  intro x hx
  simp [h x (List.mem_range.1 hx)]
theorem drop1_congr {R : Nat} {c d : Nat → Nat} (h : ∀ i, i < R → c i = d i) (o : Nat) : ∀ i, i < R → drop1 c o i = drop1 d o i := fun i hi => by unfold drop1; rw [h i hi]
theorem okFor_congr {F : List (List Bool)} {R C k : Nat} {c d : Nat → Nat} (h : ∀ i, i < R → c i = d i) {i : Nat} (hi : i < R) : okFor F R C k c i = okFor F R C k d i := by
  unfold okFor; rw [h i hi, feasB_congr (drop1_congr h i)]
theorem find_congr {p q : Nat → Bool} : ∀ {l : List Nat}, (∀ x ∈ l, p x = q x) → l.find? p = l.find? q
  | [], _ => rfl
  | x :: l, h => by
    rw [List.find?_cons, List.find?_cons, h x (by simp), find_congr (fun y hy => h y (by simp [hy]))]
theorem pick_congr {F : List (List Bool)} {R C k : Nat} {c d : Nat → Nat} (h : ∀ i, i < R → c i = d i) : pick F R C k c = pick F R C k d :=
  find_congr fun i hi => okFor_congr h (List.mem_range.1 hi)
theorem after_congr {R : Nat} {c d : Nat → Nat} (h : ∀ i, i < R → c i = d i) (o : Option Nat) : ∀ i, i < R → after c o i = after d o i := by
  cases o with
  | none => exact h
  | some j => exact drop1_congr h j
theorem firstF_congr {F : List (List Bool)} {R C : Nat} : ∀ {n k : Nat} {c d : Nat → Nat}, (∀ i, i < R → c i = d i) → firstF F R C n k c = firstF F R C n k d
  | 0, _, _, _, _ => rfl
  | n + 1, k, c, d, h => by rw [firstF, firstF, pick_congr h, firstF_congr (after_congr h _)]
theorem firstF_len {F : List (List Bool)} {R C : Nat} : ∀ {n k : Nat} {c : Nat → Nat}, (firstF F R C n k c).length = n
  | 0, _, _ => rfl
  | n + 1, k, c => by rw [firstF, List.length_cons, firstF_len]
/-- board b was treated: what improve leaves -/
structure Improved (F : List (List Bool)) (R C b : Nat) (a t : Mat) : Prop where
  ok : Ok F R C t
  low : ∀ k, k < b → t k = a k
  at_ : t b = pick F R C b (cnt C a b)
  cn : ∀ x, x < R → cnt C t (b + 1) x = after (cnt C a b) (t b) x
/-- board b keeps its order -/
theorem Improved.keep {F : List (List Bool)} {R C b i : Nat} {a : Mat} (ha : Ok F R C a) (hb : b < C) (hab : a b = some i) (h : ∀ j, j < i → okFor F R C b (cnt C a b) j = false) : Improved F R C b a a := by
  obtain ⟨_, hi, hf⟩ := ha.at_ b i hab
  have hs : ∀ x, cnt C a b x = cnt C a (b + 1) x + if a b = some x then 1 else 0 := fun x => cnt_step hb
  have hd : ∀ x, x < R → cnt C a (b + 1) x = drop1 (cnt C a b) i x := fun x _ => by
    unfold drop1
    rw [hs x, hab]
    by_cases e : x = i
    · subst e; simp
    · simp [e, Ne.symm e]
  have hok : okFor F R C b (cnt C a b) i = true := by
    unfold okFor
    rw [hf, Bool.true_and, Bool.and_eq_true, feasB_iff]
    exact ⟨by have := hs i; rw [hab] at this; simp at this; simp; omega, a, ha, hd⟩
  have hp : pick F R C b (cnt C a b) = some i := find_range hi hok h
  exact ⟨ha, fun _ _ => rfl, by rw [hab, hp], fun x hx => by rw [hab]; exact hd x hx⟩
/-- board b is free and goes to nobody -/
theorem Improved.free {F : List (List Bool)} {R C b : Nat} {a : Mat} (ha : Ok F R C a) (hb : b < C) (hab : a b = none) (h : ∀ j, j < R → okFor F R C b (cnt C a b) j = false) : Improved F R C b a a := by
  have hp : pick F R C b (cnt C a b) = none := find_none h
  exact ⟨ha, fun _ _ => rfl, by rw [hab, hp], fun x _ => by rw [hab]; have := cnt_step (x := x) (a := a) hb; rw [hab] at this; simpa [after] using this.symm⟩
/-- what move leaves: board b goes to order i -/
structure Moved (F : List (List Bool)) (R C b i : Nat) (a t : Mat) : Prop where
  ok : Ok F R C t
  low : ∀ k, k < b → t k = a k
  at_ : t b = some i
  pos : 0 < cnt C a b i
  cn : ∀ x, x < R → cnt C t (b + 1) x = drop1 (cnt C a b) i x
theorem Moved.improved {F : List (List Bool)} {R C b i : Nat} {a t : Mat} (hm : Moved F R C b i a t) (h : ∀ j, j < i → okFor F R C b (cnt C a b) j = false) : Improved F R C b a t := by
  obtain ⟨_, hi, hf⟩ := hm.ok.at_ b i hm.at_
  have hok : okFor F R C b (cnt C a b) i = true := by
    unfold okFor
    rw [hf, Bool.true_and, Bool.and_eq_true, feasB_iff]
    exact ⟨by simpa using hm.pos, t, hm.ok, hm.cn⟩
  have hp : pick F R C b (cnt C a b) = some i := find_range hi hok h
  exact ⟨hm.ok, hm.low, by rw [hm.at_, hp], fun x hx => by rw [hm.at_]; exact hm.cn x hx⟩
/-- a board behind b is taken from order i, and b given to it -/
theorem swap_cnt {F : List (List Bool)} {R C b f i : Nat} {a : Mat} (ha : Ok F R C a) (hbf : b < f) (hf : a f = some i) : ∀ x, cnt C (upd (upd a b (some i)) f none) (b + 1) x = drop1 (cnt C a (b + 1)) i x := by
  intro x
  have hfC := (ha.at_ f i hf).1
  have h0 : cnt C (upd a b (some i)) (b + 1) x = cnt C a (b + 1) x := cnt_upd_low (by omega)
  have hf' : upd a b (some i) f = some i := by rw [upd_other (by omega)]; exact hf
  unfold drop1
  by_cases e : x = i
  · subst e
    have := cnt_upd_gone (x := none) hfC (show b + 1 ≤ f by omega) hf' (by simp)
    rw [h0] at this
    rw [if_pos rfl]
    omega
  · rw [if_neg e, cnt_upd_other (by rw [hf']; simp; exact fun h => e h.symm) (by simp), h0]
theorem swap_ok {F : List (List Bool)} {R C b f i : Nat} {a : Mat} (ha : Ok F R C a) (hb : b < C) (hi : i < R) (hfit : fit F i b = true) : Ok F R C (upd (upd a b (some i)) f none) :=
  (ha.upd (fun j hj => by obtain rfl : i = j := (by simpa using hj); exact ⟨hb, hi, hfit⟩)).upd (fun j hj => by cases hj)
theorem cnt_pos_of {C lo f i : Nat} {a : Mat} (hf : a f = some i) (h1 : lo ≤ f) (h2 : f < C) : 0 < cnt C a lo i := by
  rcases Nat.eq_zero_or_pos (cnt C a lo i) with e | e
  · have := cntP_none e f h2
    simp [h1, hf] at this
  · exact e
/-- board b was free -/
theorem Moved.free {F : List (List Bool)} {R C b f i : Nat} {a : Mat} (ha : Ok F R C a) (hb : b < C) (hi : i < R) (hfit : fit F i b = true) (hab : a b = none) (hbf : b < f) (hf : a f = some i) : Moved F R C b i a (upd (upd a b (some i)) f none) := by
  have hs : ∀ x, cnt C a b x = cnt C a (b + 1) x := fun x => by have := cnt_step (x := x) (a := a) hb; rw [hab] at this; simpa using this
  refine ⟨swap_ok ha hb hi hfit, fun k hk => by rw [upd_other (by omega), upd_other (by omega)], by rw [upd_other (by omega), upd_same], cnt_pos_of hf (by omega) (ha.at_ f i hf).1, fun x _ => ?_⟩
  rw [swap_cnt ha hbf hf]
  unfold drop1
  rw [hs x]
/-- board b had another order, which got another board -/
theorem Moved.taken {F : List (List Bool)} {R C b f i now : Nat} {a t : Mat} (ha : Ok F R C a) (hb : b < C) (hab : a b = some now) (hne : i ≠ now) (hbf : b < f) (hf : a f = some i)
    (ht : Ok F R C t) (hc : ∀ x, cnt C t (b + 1) x = bump (cnt C (upd (upd a b (some i)) f none) (b + 1)) now x) (hlow : ∀ m, m < b + 1 → t m = upd (upd a b (some i)) f none m) : Moved F R C b i a t := by
  refine ⟨ht, fun k hk => by rw [hlow k (by omega), upd_other (by omega), upd_other (by omega)], by rw [hlow b (by omega), upd_other (by omega), upd_same], cnt_pos_of hf (by omega) (ha.at_ f i hf).1, fun x _ => ?_⟩
  rw [hc x]
  have hs := cnt_step (x := x) (a := a) hb
  rw [hab] at hs
  unfold bump drop1
  rw [swap_cnt ha hbf hf]
  unfold drop1
  by_cases e1 : x = now
  · subst e1; simp [Ne.symm hne] at hs ⊢; omega
  · by_cases e2 : x = i
    · subst e2; simp [e1, Ne.symm e1] at hs ⊢; omega
    · simp [e1, e2, Ne.symm e1] at hs ⊢; omega
/-- one more for now is not possible: so i cannot have b -/
theorem not_okFor {F : List (List Bool)} {R C b f i now : Nat} {a : Mat} (ha : Ok F R C a) (hb : b < C) (hab : a b = some now) (hne : i ≠ now) (hbf : b < f) (hf : a f = some i)
    (hn : ¬ Feas F R C (b + 1) (bump (cnt C (upd (upd a b (some i)) f none) (b + 1)) now)) : okFor F R C b (cnt C a b) i = false := by
  rw [Bool.eq_false_iff]
  intro h
  unfold okFor at h
  rw [Bool.and_eq_true, feasB_iff] at h
  refine hn ((Feas.congr fun x _ => ?_).1 h.2)
  have hs := cnt_step (x := x) (a := a) hb
  rw [hab] at hs
  unfold bump drop1
  rw [swap_cnt ha hbf hf]
  unfold drop1
  by_cases e1 : x = now
  · subst e1; simp [Ne.symm hne] at hs ⊢; omega
  · by_cases e2 : x = i
    · subst e2; simp [e1, Ne.symm e1] at hs ⊢; omega
    · simp [e1, e2, Ne.symm e1] at hs ⊢; omega
/-- order i has no board behind b (and not b) -/
theorem not_okFor_none {F : List (List Bool)} {R C b i : Nat} {a : Mat} (hb : b < C) (hab : a b ≠ some i) (h : ∀ f, b < f → f < C → a f ≠ some i) : okFor F R C b (cnt C a b) i = false := by
  have h0 : cnt C a b i = 0 := cntP_zero fun k hk => by
    rw [decide_eq_false_iff_not]
    rintro ⟨h1, h2⟩
    by_cases e : k = b
    · subst e; exact hab h2
    · exact h k (by omega) hk h2
  unfold okFor
  rw [h0]
  simp
end AssignM
