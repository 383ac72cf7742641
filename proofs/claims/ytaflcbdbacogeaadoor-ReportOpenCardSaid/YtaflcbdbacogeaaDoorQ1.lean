/-
  Plain facts on the rows of a stock: lists of tallies, their order, their sums.
-/
namespace ReportM
abbrev Ky := Int × Int × Int
/-- the order of rows -/
def ltK (a b : Ky) : Prop := a.1 < b.1 ∨ a.1 = b.1 ∧ (a.2.1 < b.2.1 ∨ a.2.1 = b.2.1 ∧ a.2.2 < b.2.2)
instance (a b : Ky) : Decidable (ltK a b) := by unfold ltK; infer_instance
theorem ltK_irrefl (a : Ky) : ¬ ltK a a := by unfold ltK; omega
theorem ltK_trans {a b c : Ky} (h : ltK a b) (k : ltK b c) : ltK a c := by unfold ltK at *; omega
theorem ltK_asymm {a b : Ky} (h : ltK a b) : ¬ ltK b a := by unfold ltK at *; omega
theorem ltK_total {a b : Ky} (h : ¬ ltK a b) (k : ¬ ltK b a) : a = b := by
  obtain ⟨a1, a2, a3⟩ := a
  obtain ⟨b1, b2, b3⟩ := b
  simp only [ltK] at h k
  simp only [Prod.mk.injEq]
  omega
theorem ltK_ne {a b : Ky} (h : ltK a b) : a ≠ b := fun e => ltK_irrefl b (e ▸ h)
/-- a row: key, number, volume -/
structure Tal where
  (k : Ky) (c v : Int)
def cntK (xs : List (Ky × Int)) (k : Ky) : Int := ((xs.filter fun x => decide (x.1 = k)).length : Nat)
def volK (xs : List (Ky × Int)) (k : Ky) : Int := ((xs.filter fun x => decide (x.1 = k)).map (·.2)).sum
theorem cntK_snoc (xs : List (Ky × Int)) (x : Ky × Int) (k : Ky) : cntK (xs ++ [x]) k = cntK xs k + if x.1 = k then 1 else 0 := by
  unfold cntK
  rw [List.filter_append, List.length_append]
  by_cases h : x.1 = k <;> simp [h]
theorem volK_snoc (xs : List (Ky × Int)) (x : Ky × Int) (k : Ky) : volK (xs ++ [x]) k = volK xs k + if x.1 = k then x.2 else 0 := by
  unfold volK
  rw [List.filter_append, List.map_append, List.sum_append]
  by_cases h : x.1 = k <;> simp [h]
theorem cntK_not {xs : List (Ky × Int)} {k : Ky} (h : k ∉ xs.map (·.1)) : cntK xs k = 0 ∧ volK xs k = 0 := by
  have e : xs.filter (fun x => decide (x.1 = k)) = [] := by
    rw [List.filter_eq_nil_iff]
    intro x hx hk
    exact h (List.mem_map.2 ⟨x, hx, by simpa using hk⟩)
  simp [cntK, volK, e]
/-- the rows of the boards xs -/
structure Ok (xs : List (Ky × Int)) (ts : List Tal) : Prop where
  nd : (ts.map (·.k)).Nodup
  mem : ∀ k, k ∈ ts.map (·.k) ↔ k ∈ xs.map (·.1)
  val : ∀ t ∈ ts, t.c = cntK xs t.k ∧ t.v = volK xs t.k
theorem Ok.nil : Ok [] [] := ⟨by simp, by simp, by simp⟩
theorem Ok.perm {xs : List (Ky × Int)} {ts ts' : List Tal} (h : Ok xs ts) (hp : ts'.Perm ts) : Ok xs ts' :=
  ⟨((hp.map (·.k)).nodup_iff).2 h.nd, fun k => by rw [(hp.map (·.k)).mem_iff]; exact h.mem k, fun t ht => h.val t (hp.mem_iff.1 ht)⟩
/-- a board with a new key -/
theorem Ok.add {xs : List (Ky × Int)} {l1 l2 : List Tal} (h : Ok xs (l1 ++ l2)) {k : Ky} {v : Int} (hk : k ∉ (l1 ++ l2).map (·.k)) : Ok (xs ++ [(k, v)]) (l1 ++ ⟨k, 1, v⟩ :: l2) := by
  have hx : k ∉ xs.map (·.1) := fun hh => hk ((h.mem k).2 hh)
  have hp : (l1 ++ ⟨k, 1, v⟩ :: l2).Perm (⟨k, 1, v⟩ :: (l1 ++ l2)) := List.perm_middle
  have h1 : Ok (xs ++ [(k, v)]) (⟨k, 1, v⟩ :: (l1 ++ l2)) := by
    refine ⟨?_, fun q => ?_, fun t ht => ?_⟩
    · rw [List.map_cons, List.nodup_cons]; exact ⟨hk, h.nd⟩
    · rw [List.map_cons, List.mem_cons, h.mem q, List.map_append, List.mem_append]
      simp only [List.map_cons, List.map_nil, List.mem_singleton]
      exact Or.comm
    · obtain ⟨c0, v0⟩ := cntK_not hx
      rw [cntK_snoc, volK_snoc]
      rcases List.mem_cons.1 ht with rfl | ht
      · simp only [if_true, c0, v0]; omega
      · have hne : ¬ k = t.k := fun e => hk (e ▸ List.mem_map.2 ⟨t, ht, rfl⟩)
        simp only [if_neg hne]
        have := h.val t ht
        omega
  exact h1.perm hp
/-- a board whose key is there -/
theorem Ok.bump {xs : List (Ky × Int)} {l1 l2 : List Tal} {t : Tal} (h : Ok xs (l1 ++ t :: l2)) (v : Int) : Ok (xs ++ [(t.k, v)]) (l1 ++ ⟨t.k, t.c + 1, t.v + v⟩ :: l2) := by
  have hm : (l1 ++ ⟨t.k, t.c + 1, t.v + v⟩ :: l2).map (·.k) = (l1 ++ t :: l2).map (·.k) := by simp
  refine ⟨by rw [hm]; exact h.nd, fun q => ?_, fun u hu => ?_⟩
  · rw [hm, h.mem q, List.map_append, List.mem_append]
    simp only [List.map_cons, List.map_nil, List.mem_singleton]
    refine ⟨fun hh => .inl hh, fun hh => hh.elim id fun e => ?_⟩
    rw [e, ← h.mem]; simp
  · rw [cntK_snoc, volK_snoc]
    have hnd := h.nd
    rw [List.map_append, List.map_cons] at hnd
    have hnot : ∀ u ∈ l1 ++ l2, u.k ≠ t.k := by
      intro u hu e
      rw [List.nodup_append] at hnd
      obtain ⟨_, h2, h3⟩ := hnd
      rw [List.nodup_cons] at h2
      rcases List.mem_append.1 hu with hu | hu
      · exact h3 _ (List.mem_map.2 ⟨u, hu, rfl⟩) _ (List.mem_cons_self) e
      · exact h2.1 (List.mem_map.2 ⟨u, hu, e⟩)
    rcases List.mem_append.1 hu with hu | hu
    · have hne := hnot u (by simp [hu])
      simp only [if_neg (Ne.symm hne)]
      have := h.val u (by simp [hu])
      omega
    · rcases List.mem_cons.1 hu with rfl | hu
      · have := h.val t (by simp)
        simp only [if_true]
        omega
      · have hne := hnot u (by simp [hu])
        simp only [if_neg (Ne.symm hne)]
        have := h.val u (by simp [hu])
        omega
/-- the rows are in order -/
def Asc (ts : List Tal) : Prop := ts.Pairwise fun a b => ltK a.k b.k
theorem sorted_unique {α : Type} {r : α → α → Prop} (ir : ∀ a, ¬ r a a) (as : ∀ a b, r a b → ¬ r b a) : ∀ {l m : List α}, l.Pairwise r → m.Pairwise r → (∀ x, x ∈ l ↔ x ∈ m) → l = m
  | [], [], _, _, _ => rfl
  | [], b :: m, _, _, h => absurd ((h b).2 (by simp)) (by simp)
  | a :: l, [], _, _, h => absurd ((h a).1 (by simp)) (by simp)
  | a :: l, b :: m, hl, hm, h => by
    obtain ⟨h1, h2⟩ := List.pairwise_cons.1 hl
    obtain ⟨g1, g2⟩ := List.pairwise_cons.1 hm
    have e : a = b := by
      rcases List.mem_cons.1 ((h a).1 (by simp)) with e | ha
      · exact e
      · rcases List.mem_cons.1 ((h b).2 (by simp)) with e | hb
        · exact e.symm
        · exact absurd (h1 b hb) (as _ _ (g1 a ha))
    subst e
    have : l = m := sorted_unique ir as h2 g2 (fun x => by
      constructor
      · intro hx
        rcases List.mem_cons.1 ((h x).1 (by simp [hx])) with e | hh
        · exact absurd (h1 x hx) (e ▸ ir _)
        · exact hh
      · intro hx
        rcases List.mem_cons.1 ((h x).2 (by simp [hx])) with e | hh
        · exact absurd (g1 x hx) (e ▸ ir _)
        · exact hh)
    rw [this]
/-- the rows are determined by the boards -/
theorem Ok.unique {xs : List (Ky × Int)} {ts us : List Tal} (h : Ok xs ts) (g : Ok xs us) (ha : Asc ts) (hb : Asc us) : ts = us := by
  have sub : ∀ {l m : List Tal}, Ok xs l → Ok xs m → ∀ t, t ∈ l → t ∈ m := fun {l m} hl hm t ht => by
    have : t.k ∈ m.map (·.k) := (hm.mem _).2 ((hl.mem _).1 (List.mem_map.2 ⟨t, ht, rfl⟩))
    obtain ⟨u, hu, e⟩ := List.mem_map.1 this
    have v1 := hl.val t ht
    have v2 := hm.val u hu
    rw [e] at v2
    obtain ⟨tk, tc, tv⟩ := t
    obtain ⟨uk, uc, uv⟩ := u
    simp only at e v1 v2
    subst e
    rw [v1.1, v1.2, ← v2.1, ← v2.2]
    exact hu
  exact sorted_unique (r := fun a b : Tal => ltK a.k b.k) (fun a => ltK_irrefl _) (fun a b => ltK_asymm) ha hb (fun x => ⟨sub h g x, sub g h x⟩)
/-- numbers and volumes add up -/
theorem sum_filter {xs : List (Ky × Int)} (ks : List Ky) (hnd : ks.Nodup) (hall : ∀ x ∈ xs, x.1 ∈ ks) : (ks.map (cntK xs)).sum = xs.length ∧ (ks.map (volK xs)).sum = (xs.map (·.2)).sum := by
  induction xs with
  | nil =>
    have z : ∀ (f : Ky → Int) (ks : List Ky), (∀ k, f k = 0) → (ks.map f).sum = 0 := fun f ks hf => by
      clear hnd hall
      induction ks with
      | nil => rfl
      | cons k ks ih => rw [List.map_cons, List.sum_cons, hf, ih]; rfl
    exact ⟨z _ ks (fun k => by simp [cntK]), z _ ks (fun k => by simp [volK])⟩
  | cons x xs ih =>
    obtain ⟨i1, i2⟩ := ih (fun y hy => hall y (by simp [hy]))
    have hx := hall x (by simp)
    have c1 : ∀ k, cntK (x :: xs) k = (if x.1 = k then 1 else 0) + cntK xs k := fun k => by
      unfold cntK; by_cases h : x.1 = k <;> simp [h]; omega
    have v1 : ∀ k, volK (x :: xs) k = (if x.1 = k then x.2 else 0) + volK xs k := fun k => by
      unfold volK; by_cases h : x.1 = k <;> simp [h]
    have one : ∀ (a : Int) (f : Ky → Int) (ks : List Ky), ks.Nodup → x.1 ∈ ks → (ks.map fun k => (if x.1 = k then a else 0) + f k).sum = a + (ks.map f).sum := fun a f ks hnd hx => by
      have zero : ∀ ks : List Ky, x.1 ∉ ks → (ks.map fun k => (if x.1 = k then a else 0) + f k).sum = (ks.map f).sum := fun ks hk => by
        congr 1
        apply List.map_congr_left
        intro k hk'
        have hn : ¬ x.1 = k := fun e => hk (e ▸ hk')
        rw [if_neg hn]; omega
      induction ks with
      | nil => cases hx
      | cons k ks ih =>
        rw [List.nodup_cons] at hnd
        simp only [List.map_cons, List.sum_cons]
        by_cases e : x.1 = k
        · rw [if_pos e, zero ks (e ▸ hnd.1)]; omega
        · rw [if_neg e, ih hnd.2 ((List.mem_cons.1 hx).resolve_left e)]; omega
    constructor
    · rw [show (cntK (x :: xs)) = fun k => (if x.1 = k then 1 else 0) + cntK xs k from funext c1, one 1 _ ks hnd hx, i1]; simp; omega
    · rw [show (volK (x :: xs)) = fun k => (if x.1 = k then x.2 else 0) + volK xs k from funext v1, one x.2 _ ks hnd hx, i2]; simp
theorem Ok.sums {xs : List (Ky × Int)} {ts : List Tal} (h : Ok xs ts) : (ts.map (·.c)).sum = xs.length ∧ (ts.map (·.v)).sum = (xs.map (·.2)).sum := by
  have := sum_filter (xs := xs) (ts.map (·.k)) h.nd (fun x hx => (h.mem x.1).2 (List.mem_map.2 ⟨x, hx, rfl⟩))
  have e1 : ts.map (·.c) = (ts.map (·.k)).map (cntK xs) := by
    rw [List.map_map]; exact List.map_congr_left fun t ht => (h.val t ht).1
  have e2 : ts.map (·.v) = (ts.map (·.k)).map (volK xs) := by
    rw [List.map_map]; exact List.map_congr_left fun t ht => (h.val t ht).2
  rw [e1, e2]
  exact this
theorem cntK_pos {xs : List (Ky × Int)} {k : Ky} (h : k ∈ xs.map (·.1)) : 1 ≤ cntK xs k := by
  obtain ⟨x, hx, e⟩ := List.mem_map.1 h
  have : 0 < (xs.filter fun x => decide (x.1 = k)).length := List.length_pos_of_mem (List.mem_filter.2 ⟨hx, by simpa using e⟩)
  unfold cntK; omega
theorem cntK_le (xs : List (Ky × Int)) (k : Ky) : cntK xs k ≤ xs.length := by
  unfold cntK; have := List.length_filter_le (fun x : Ky × Int => decide (x.1 = k)) xs; omega
theorem sum_bound {M : Int} : ∀ {l : List Int}, (∀ x ∈ l, 0 ≤ x ∧ x ≤ M) → 0 ≤ l.sum ∧ l.sum ≤ M * l.length
  | [], _ => by simp
  | x :: l, h => by
    have i := sum_bound (M := M) (l := l) (fun y hy => h y (by simp [hy]))
    have := h x (by simp)
    rw [List.sum_cons, List.length_cons]
    have e : M * ((l.length + 1 : Nat) : Int) = M * l.length + M := by rw [Int.natCast_add, Int.mul_add]; simp
    omega
theorem volK_bound {xs : List (Ky × Int)} {M : Int} (hM : 0 ≤ M) (h : ∀ x ∈ xs, 0 ≤ x.2 ∧ x.2 ≤ M) (k : Ky) : 0 ≤ volK xs k ∧ volK xs k ≤ M * xs.length := by
  unfold volK
  have := sum_bound (M := M) (l := (xs.filter fun x => decide (x.1 = k)).map (·.2)) (fun y hy => by
    obtain ⟨x, hx, rfl⟩ := List.mem_map.1 hy
    exact h x (List.mem_filter.1 hx).1)
  have l1 : ((xs.filter fun x => decide (x.1 = k)).length : Int) ≤ xs.length := by
    have := List.length_filter_le (fun x : Ky × Int => decide (x.1 = k)) xs; omega
  have := Int.mul_le_mul_of_nonneg_left l1 hM
  rw [List.length_map] at *
  omega
end ReportM
