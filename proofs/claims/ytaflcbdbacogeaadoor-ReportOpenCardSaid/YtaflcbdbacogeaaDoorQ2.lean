/-
  Plain facts on the stable sort of Go's library: exchanged ranges, rotations, merges.
-/
import Derived.Sort.LotA
namespace ReportM
open Go.Sort
variable {α : Type} [Inhabited α]

/-- d' is d with n places from a on exchanged with n places from b on -/
def SwR (a b n : Nat) (d d' : Array α) : Prop := d'.size = d.size ∧ ∀ x, d'[x]! = if a ≤ x ∧ x < a + n then d[x + (b - a)]! else if b ≤ x ∧ x < b + n then d[x - (b - a)]! else d[x]!
theorem SwR.zero (a b : Nat) (d : Array α) : SwR a b 0 d d := ⟨rfl, fun x => by rw [if_neg (by omega), if_neg (by omega)]⟩
theorem SwR.step {a b k n : Nat} {d dk : Array α} (h : SwR a b k d dk) (hab : a + n ≤ b) (hk : k < n) (hb : b + n ≤ d.size) : SwR a b (k + 1) d (swp dk (a + k) (b + k)) := by
  refine ⟨by rw [swp_size]; exact h.1, fun x => ?_⟩
  have g := swp_get dk (i := a + k) (j := b + k) (by rw [h.1]; omega) (by rw [h.1]; omega) x
  have hA := h.2 (a + k)
  have hB := h.2 (b + k)
  rw [if_neg (by omega), if_neg (by omega)] at hA
  rw [if_neg (by omega), if_neg (by omega)] at hB
  rw [g]
  by_cases c1 : x = b + k
  · subst c1
    rw [if_pos rfl, hA, if_neg (by omega), if_pos (by omega)]
    congr 1; omega
  · rw [if_neg c1]
    by_cases c2 : x = a + k
    · subst c2
      rw [if_pos rfl, hB, if_pos (by omega)]
      congr 1; omega
    · rw [if_neg c2, h.2 x]
      by_cases c3 : a ≤ x ∧ x < a + k
      · rw [if_pos c3, if_pos (by omega)]
      · rw [if_neg c3, if_neg (show ¬ (a ≤ x ∧ x < a + (k + 1)) by omega)]
        by_cases c4 : b ≤ x ∧ x < b + k
        · rw [if_pos c4, if_pos (by omega)]
        · rw [if_neg c4, if_neg (by omega)]

/-- the parts [a, m) and [m, b) of d change places -/
def rotG (a m b : Nat) (d : Array α) (x : Nat) : α := if a ≤ x ∧ x < a + (b - m) then d[x + (m - a)]! else if a + (b - m) ≤ x ∧ x < b then d[x - (b - m)]! else d[x]!
/-- what is left to do: the parts [m - i, m) and [m, m + j) of dk change places -/
structure RotI (m i j : Nat) (G : Nat → α) (dk : Array α) : Prop where
  out : ∀ x, x < m - i ∨ m + j ≤ x → G x = dk[x]!
  lo : ∀ x, m - i ≤ x → x < m - i + j → G x = dk[x + i]!
  hi : ∀ x, m - i + j ≤ x → x < m + j → G x = dk[x - j]!
theorem RotI.start {a m b : Nat} (d : Array α) (h1 : a ≤ m) (h2 : m ≤ b) : RotI m (m - a) (b - m) (rotG a m b d) d := by
  refine ⟨fun x hx => ?_, fun x h3 h4 => ?_, fun x h3 h4 => ?_⟩
  · unfold rotG; rw [if_neg (by omega), if_neg (by omega)]
  · unfold rotG; rw [if_pos (by omega)]
  · unfold rotG; rw [if_neg (by omega), if_pos (by omega)]
theorem RotI.left {m i j : Nat} {G : Nat → α} {d d' : Array α} (h : RotI m i j G d) (hi : i ≤ m) (hij : j < i) (hs : SwR (m - i) m j d d') : RotI m (i - j) j G d' := by
  refine ⟨fun x hx => ?_, fun x h3 h4 => ?_, fun x h3 h4 => ?_⟩
  · rw [hs.2 x]
    by_cases c : m - i ≤ x ∧ x < m - i + j
    · rw [if_pos c, h.lo x c.1 c.2]; congr 1; omega
    · rw [if_neg c, if_neg (by omega), h.out x (by omega)]
  · rw [hs.2 (x + (i - j)), if_neg (by omega), if_pos (by omega), h.hi x (by omega) (by omega)]; congr 1; omega
  · rw [hs.2 (x - j), if_neg (by omega), if_neg (by omega), h.hi x (by omega) (by omega)]
theorem RotI.right {m i j : Nat} {G : Nat → α} {d d' : Array α} (h : RotI m i j G d) (hi : i ≤ m) (hij : i < j) (hs : SwR (m - i) (m + j - i) i d d') : RotI m i (j - i) G d' := by
  refine ⟨fun x hx => ?_, fun x h3 h4 => ?_, fun x h3 h4 => ?_⟩
  · rw [hs.2 x]
    by_cases c : m + j - i ≤ x ∧ x < m + j - i + i
    · rw [if_neg (by omega), if_pos c, h.hi x (by omega) (by omega)]; congr 1; omega
    · rw [if_neg (by omega), if_neg c, h.out x (by omega)]
  · rw [hs.2 (x + i), if_neg (by omega), if_neg (by omega), h.lo x (by omega) (by omega)]
  · rw [hs.2 (x - (j - i)), if_pos (by omega), h.lo x (by omega) (by omega)]; congr 1; omega
theorem RotI.done {m i : Nat} {G : Nat → α} {d d' : Array α} (h : RotI m i i G d) (hi : i ≤ m) (hs : SwR (m - i) m i d d') (x : Nat) : d'[x]! = G x := by
  rw [hs.2 x]
  by_cases c : m - i ≤ x ∧ x < m - i + i
  · rw [if_pos c, h.lo x c.1 c.2]; congr 1; omega
  · rw [if_neg c]
    by_cases c2 : m ≤ x ∧ x < m + i
    · rw [if_pos c2, h.hi x (by omega) (by omega)]; congr 1; omega
    · rw [if_neg c2, h.out x (by omega)]

section
variable {T : α → α → Bool}
/-- both parts are in order -/
structure Two (T : α → α → Bool) (a m b : Nat) (d : Array α) : Prop where
  lo : SortedIn T a m d
  hi : SortedIn T m b d
omit [Inhabited α] in
/-- x is at most z if x is at most y and y at most z -/
theorem le_tr (hS : SWO T) {x y z : α} (h1 : T y x = false) (h2 : T z y = false) : T z x = false := hS.ntrans _ _ _ h2 h1
/-- the element at a moves up to the place before i -/
def upG (a k : Nat) (d : Array α) (x : Nat) : α := if a ≤ x ∧ x < k then d[x + 1]! else if x = k then d[a]! else d[x]!
theorem upG_step {a k : Nat} {d dk : Array α} (h : ∀ x, dk[x]! = upG a k d x) (ha : a ≤ k) (hk : k + 1 < dk.size) : ∀ x, (swp dk k (k + 1))[x]! = upG a (k + 1) d x := fun x => by
  rw [swp_get dk (by omega) hk x]
  unfold upG at *
  by_cases c1 : x = k + 1
  · subst c1
    rw [if_pos rfl, h k, if_neg (by omega), if_pos rfl, if_neg (by omega), if_pos rfl]
  · rw [if_neg c1]
    by_cases c2 : x = k
    · subst c2
      rw [if_pos rfl, h (x + 1), if_neg (by omega), if_neg (by omega), if_pos (by omega)]
    · rw [if_neg c2, h x]
      by_cases c3 : a ≤ x ∧ x < k
      · rw [if_pos c3, if_pos (by omega)]
      · rw [if_neg c3, if_neg c2, if_neg (by omega), if_neg c1]
theorem up_sorted (hS : SWO T) {a b i : Nat} {d d' : Array α} (hd : SortedIn T (a + 1) b d) (hai : a < i) (hib : i ≤ b) (h1 : ∀ h, a < h → h < i → T d[h]! d[a]! = true) (h2 : ∀ h, i ≤ h → h < b → T d[h]! d[a]! = false)
    (hd' : ∀ x, d'[x]! = upG a (i - 1) d x) : SortedIn T a b d' := by
  intro p q hp hpq hq
  rw [hd' p, hd' q]
  unfold upG
  by_cases c1 : a ≤ q ∧ q < i - 1
  · rw [if_pos c1, if_pos (by omega)]
    exact hd _ _ (by omega) (by omega) (by omega)
  · rw [if_neg c1]
    by_cases c2 : q = i - 1
    · rw [if_pos c2, if_pos (by omega)]
      exact hS.asymmA (h1 _ (by omega) (by omega))
    · rw [if_neg c2]
      by_cases c3 : a ≤ p ∧ p < i - 1
      · rw [if_pos c3]
        exact hd _ _ (by omega) (by omega) (by omega)
      · rw [if_neg c3]
        by_cases c4 : p = i - 1
        · rw [if_pos c4]; exact h2 q (by omega) (by omega)
        · rw [if_neg c4]; exact hd _ _ (by omega) (by omega) (by omega)
/-- the element at m moves down to place k -/
def dnG (m k : Nat) (d : Array α) (x : Nat) : α := if k < x ∧ x ≤ m then d[x - 1]! else if x = k then d[m]! else d[x]!
theorem dnG_step {m k : Nat} {d dk : Array α} (h : ∀ x, dk[x]! = dnG m (k + 1) d x) (ha : k + 1 ≤ m) (hk : k + 1 < dk.size) : ∀ x, (swp dk (k + 1) k)[x]! = dnG m k d x := fun x => by
  rw [swp_get dk hk (by omega) x]
  unfold dnG at *
  by_cases c1 : x = k
  · subst c1
    rw [if_pos rfl, h (x + 1), if_neg (by omega), if_pos rfl, if_neg (by omega), if_pos rfl]
  · rw [if_neg c1]
    by_cases c2 : x = k + 1
    · subst c2
      rw [if_pos rfl, h k, if_neg (by omega), if_neg (by omega), if_pos (by omega)]; rfl
    · rw [if_neg c2, h x]
      by_cases c3 : k + 1 < x ∧ x ≤ m
      · rw [if_pos c3, if_pos (by omega)]
      · rw [if_neg c3, if_neg c2, if_neg (by omega), if_neg c1]
theorem dn_sorted (hS : SWO T) {a m i : Nat} {d d' : Array α} (hd : SortedIn T a m d) (hai : a ≤ i) (him : i ≤ m) (h1 : ∀ h, a ≤ h → h < i → T d[m]! d[h]! = false) (h2 : ∀ h, i ≤ h → h < m → T d[m]! d[h]! = true)
    (hd' : ∀ x, d'[x]! = dnG m i d x) : SortedIn T a (m + 1) d' := by
  intro p q hp hpq hq
  rw [hd' p, hd' q]
  unfold dnG
  by_cases c1 : i < q ∧ q ≤ m
  · rw [if_pos c1]
    by_cases c2 : i < p ∧ p ≤ m
    · rw [if_pos c2]; exact hd _ _ (by omega) (by omega) (by omega)
    · rw [if_neg c2]
      by_cases c3 : p = i
      · rw [if_pos c3]; exact hS.asymmA (h2 _ (by omega) (by omega))
      · rw [if_neg c3]; exact hd _ _ (by omega) (by omega) (by omega)
  · rw [if_neg c1, if_neg (show ¬ (i < p ∧ p ≤ m) by omega)]
    by_cases c2 : q = i
    · rw [if_pos c2, if_neg (by omega)]
      exact h1 p hp (by omega)
    · rw [if_neg c2, if_neg (by omega)]; exact hd _ _ (by omega) (by omega) (by omega)

/-- behind the search and the rotation: what is known of the two halves -/
structure Cut (T : α → α → Bool) (a m b mid s : Nat) (d : Array α) : Prop where
  as : a ≤ s
  sm : s ≤ m
  me : m ≤ mid + m - s
  eb : mid + m - s ≤ b
  below : s ≤ mid
  l : s = a ∨ mid + m - s = b ∨ T d[mid + m - s]! d[s - 1]! = false
  r : s = m ∨ mid + m - s = m ∨ T d[mid + m - s - 1]! d[s]! = true
/-- the halves, in the terms of the array behind the rotation -/
structure Halves (T : α → α → Bool) (a s mid e b : Nat) (d : Array α) : Prop where
  p1 : SortedIn T a s d
  p2 : SortedIn T s mid d
  p3 : SortedIn T mid e d
  p4 : SortedIn T e b d
  cross : ∀ x y, a ≤ x → x < mid → mid ≤ y → y < b → T d[y]! d[x]! = false
theorem Cut.halves (hS : SWO T) {a m b mid s : Nat} {d d' : Array α} (h2 : Two T a m b d) (h : Cut T a m b mid s d) (hr : ∀ x, d'[x]! = rotG s m (mid + m - s) d x) : Halves T a s mid (mid + m - s) b d' := by
  have h1 := h.as; have h3 := h.sm; have h4 := h.me; have h5 := h.eb; have h6 := h.below
  have gl : ∀ x, x < s → d'[x]! = d[x]! := fun x hx => by rw [hr]; unfold rotG; rw [if_neg (by omega), if_neg (by omega)]
  have gm : ∀ x, s ≤ x → x < mid → d'[x]! = d[x + (m - s)]! := fun x hx hy => by rw [hr]; unfold rotG; rw [if_pos (by omega)]
  have gr : ∀ x, mid ≤ x → x < mid + m - s → d'[x]! = d[x - (mid - s)]! := fun x hx hy => by
    rw [hr]; unfold rotG; rw [if_neg (by omega), if_pos (by omega)]; congr 1; omega
  have ge : ∀ x, mid + m - s ≤ x → d'[x]! = d[x]! := fun x hx => by rw [hr]; unfold rotG; rw [if_neg (by omega), if_neg (by omega)]
  -- the old places: x < s or m ≤ x < e below, s ≤ y < m or e ≤ y above
  have hx1 : ∀ x y, a ≤ x → x < s → mid + m - s ≤ y → y < b → T d[y]! d[x]! = false := fun x y a1 a2 a3 a4 => by
    rcases h.l with e | e | e
    · omega
    · omega
    · have u1 : T d[s - 1]! d[x]! = false := by
        by_cases c : x = s - 1
        · rw [c]; exact hS.irrefl _
        · exact h2.lo _ _ a1 (by omega) (by omega)
      have u2 : T d[y]! d[mid + m - s]! = false := by
        by_cases c : y = mid + m - s
        · rw [c]; exact hS.irrefl _
        · exact h2.hi _ _ h4 (by omega) a4
      exact le_tr hS (le_tr hS u1 e) u2
  have hx2 : ∀ x y, m ≤ x → x < mid + m - s → s ≤ y → y < m → T d[y]! d[x]! = false := fun x y a1 a2 a3 a4 => by
    rcases h.r with e | e | e
    · omega
    · omega
    · have u1 : T d[mid + m - s - 1]! d[x]! = false := by
        by_cases c : x = mid + m - s - 1
        · rw [c]; exact hS.irrefl _
        · exact h2.hi _ _ a1 (by omega) (by omega)
      have u2 : T d[y]! d[s]! = false := by
        by_cases c : y = s
        · rw [c]; exact hS.irrefl _
        · exact h2.lo _ _ h1 (by omega) a4
      exact le_tr hS (le_tr hS u1 (hS.asymmA e)) u2
  refine ⟨fun p q a1 a2 a3 => ?_, fun p q a1 a2 a3 => ?_, fun p q a1 a2 a3 => ?_, fun p q a1 a2 a3 => ?_, fun x y a1 a2 a3 a4 => ?_⟩
  · rw [gl _ a3, gl _ (by omega)]; exact h2.lo _ _ a1 a2 (by omega)
  · rw [gm _ a1 (by omega), gm _ (by omega) a3]; exact h2.hi _ _ (by omega) (by omega) (by omega)
  · rw [gr _ a1 (by omega), gr _ (by omega) a3]; exact h2.lo _ _ (by omega) (by omega) (by omega)
  · rw [ge _ a1, ge _ (by omega)]; exact h2.hi _ _ (by omega) a2 a3
  · by_cases c1 : x < s
    · rw [gl _ c1]
      by_cases c2 : y < mid + m - s
      · rw [gr _ a3 c2]; exact h2.lo _ _ a1 (by omega) (by omega)
      · rw [ge _ (by omega)]; exact hx1 _ _ a1 c1 (by omega) a4
    · rw [gm _ (by omega) a2]
      by_cases c2 : y < mid + m - s
      · rw [gr _ a3 c2]; exact hx2 _ _ (by omega) (by omega) (by omega) (by omega)
      · rw [ge _ (by omega)]; exact h2.hi _ _ (by omega) (by omega) a4
/-- the halves in order, each behind its own merge -/
theorem Halves.join {a s mid e b : Nat} {d d1 d2 : Array α} (hc : ∀ x y, a ≤ x → x < mid → mid ≤ y → y < b → T d[y]! d[x]! = false) (hsz : b ≤ d.size) (ham : a ≤ mid) (hmb : mid ≤ b) (k1 : PermIn a mid d d1) (s1 : SortedIn T a mid d1) (k2 : PermIn mid b d1 d2) (s2 : SortedIn T mid b d2) : SortedIn T a b d2 := by
  have c1 : ∀ x, a ≤ x → x < mid → ∀ y, mid ≤ y → y < b → T d1[y]! d1[x]! = false := by
    intro x hx1 hx2 y hy1 hy2
    rw [k1.2.1 y (by omega)]
    exact permIn_all d d1 a mid (fun z => T d[y]! z = false) (by omega) k1 (fun i h1 h2 => hc i y h1 h2 hy1 hy2) x hx1 hx2
  have c2 : ∀ x, a ≤ x → x < mid → ∀ y, mid ≤ y → y < b → T d2[y]! d2[x]! = false := by
    intro x hx1 hx2 y hy1 hy2
    rw [k2.2.1 x (by omega)]
    exact permIn_all d1 d2 mid b (fun z => T z d1[x]! = false) (by rw [k1.1]; exact hsz) k2 (fun i h1 h2 => c1 x hx1 hx2 i h1 h2) y hy1 hy2
  intro p q hp hpq hq
  by_cases h1 : q < mid
  · rw [k2.2.1 p (by omega), k2.2.1 q (by omega)]; exact s1 _ _ hp hpq h1
  · by_cases h2 : p < mid
    · exact c2 p hp h2 q (by omega) hq
    · exact s2 _ _ (by omega) hpq hq
end
/-- comparisons of a later element with an earlier one are those of T -/
def Agree (lt T : α → α → Bool) (a m b : Nat) (d : Array α) : Prop := ∀ i j, a ≤ i → i < m → m ≤ j → j < b → lt d[j]! d[i]! = T d[j]! d[i]!
/-- insertion sort is stable -/
theorem insInner_agree {lt T : α → α → Bool} (a : Nat) : ∀ (j : Nat) (d : Array α), j < d.size → (∀ p, a ≤ p → p < j → lt d[j]! d[p]! = T d[j]! d[p]!) → insInner lt a j d = insInner T a j d
  | 0, d, _, _ => rfl
  | j + 1, d, hj, h => by
    unfold insInner
    by_cases c : j + 1 > a
    · rw [h j (by omega) (by omega)]
      split
      · refine insInner_agree a j _ (by rw [swp_size]; omega) (fun p h1 h2 => ?_)
        have g := swp_get d hj (show j < d.size by omega)
        rw [g, g, if_pos rfl, if_neg (by omega), if_neg (by omega)]
        exact h p h1 (by omega)
      · rfl
    · have : decide (j + 1 > a) = false := by simpa using c
      rw [this]; simp
theorem insOuter_agree {lt T : α → α → Bool} (hS : SWO T) (a b : Nat) : ∀ (n i : Nat) (d : Array α), b - i = n → a < i → b ≤ d.size → SortedIn T a i d → (∀ p q, a ≤ p → p < q → i ≤ q → q < b → lt d[q]! d[p]! = T d[q]! d[p]!) → insOuter lt a b i d = insOuter T a b i d
  | 0, i, d, hn, _, _, _, _ => by rw [insOuter, if_neg (by omega), insOuter, if_neg (by omega)]
  | n + 1, i, d, hn, hai, hb, hs, h => by
    have hlt : i < b := by omega
    rw [insOuter, if_pos hlt, insOuter.eq_1 T, if_pos hlt]
    rw [insInner_agree (lt := lt) (T := T) a i d (by omega) (fun p h1 h2 => h p i h1 h2 (Nat.le_refl _) hlt)]
    have h1 := insInner_spec hS swp_permIn permIn_refl permIn_trans a (i + 1) i (by omega) i d (by omega) (Nat.le_refl _) (by omega) ⟨fun p q hap hpq hqi _ hq => hs p q hap hpq (by omega), fun q h1 h2 => by omega⟩
    refine insOuter_agree hS a b n (i + 1) _ (by omega) (by omega) (by rw [h1.1.1]; exact hb) h1.2 (fun p q h2 h3 h4 h5 => ?_)
    rw [h1.1.2.1 q (by omega)]
    by_cases c : p < i + 1
    · exact permIn_all d _ a (i + 1) (fun z => lt d[q]! z = T d[q]! z) (by omega) h1.1 (fun x h6 h7 => h x q h6 (by omega) (by omega) h5) p h2 c
    · rw [h1.1.2.1 p (by omega)]; exact h p q h2 h3 (by omega) h5
theorem insertionSort_agree {lt T : α → α → Bool} (hS : SWO T) {a b : Nat} {d : Array α} (hab : a ≤ b) (hb : b ≤ d.size) (h : ∀ p q, a ≤ p → p < q → q < b → lt d[q]! d[p]! = T d[q]! d[p]!) : PermIn a b d (insertionSort lt d a b) ∧ SortedIn T a b (insertionSort lt d a b) := by
  have e : insertionSort lt d a b = insertionSort T d a b := by
    unfold insertionSort
    by_cases c : a + 1 < b
    · exact insOuter_agree hS a b _ (a + 1) d rfl (by omega) hb (fun i j h1 h2 h3 => by omega) (fun p q h1 h2 h3 h4 => h p q h1 h2 h4)
    · rw [insOuter, if_neg c, insOuter, if_neg c]
  rw [e]
  exact insertionSort_holds hS d a b hab hb
end ReportM
