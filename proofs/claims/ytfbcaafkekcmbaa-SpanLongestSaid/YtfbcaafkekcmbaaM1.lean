/-
  Plain facts on intervals of integers and canonical lists of them.
-/
namespace SpanM
abbrev Sp := Int × Int
def mem (n : Int) (s : Sp) : Prop := s.1 ≤ n ∧ n < s.2
def Mem (n : Int) (l : List Sp) : Prop := ∃ s ∈ l, mem n s
/-- ascending, not empty, neither overlapping nor adjacent -/
def Can (l : List Sp) : Prop := (∀ s ∈ l, s.1 < s.2) ∧ l.Pairwise (fun s t => s.2 < t.1)

theorem Mem_nil (n : Int) : ¬ Mem n [] := by rintro ⟨s, h, _⟩; cases h
theorem Mem_cons {n : Int} {s : Sp} {l : List Sp} : Mem n (s :: l) ↔ mem n s ∨ Mem n l := by
  constructor
  · rintro ⟨t, ht, h⟩
    rcases List.mem_cons.1 ht with rfl | ht
    · exact .inl h
    · exact .inr ⟨t, ht, h⟩
  · rintro (h | ⟨t, ht, h⟩)
    · exact ⟨s, by simp, h⟩
    · exact ⟨t, by simp [ht], h⟩
theorem Mem_append {n : Int} {l m : List Sp} : Mem n (l ++ m) ↔ Mem n l ∨ Mem n m := by
  constructor
  · rintro ⟨t, ht, h⟩
    rcases List.mem_append.1 ht with ht | ht
    · exact .inl ⟨t, ht, h⟩
    · exact .inr ⟨t, ht, h⟩
  · rintro (⟨t, ht, h⟩ | ⟨t, ht, h⟩)
    · exact ⟨t, by simp [ht], h⟩
    · exact ⟨t, by simp [ht], h⟩
theorem Mem_single {n : Int} {s : Sp} : Mem n [s] ↔ mem n s := by
  rw [Mem_cons]; exact ⟨fun h => h.elim id (fun h => absurd h (Mem_nil n)), .inl⟩

theorem Can_nil : Can [] := ⟨(fun _ h => by cases h), List.Pairwise.nil⟩
theorem Can_cons {s : Sp} {l : List Sp} : Can (s :: l) ↔ s.1 < s.2 ∧ (∀ t ∈ l, s.2 < t.1) ∧ Can l := by
  unfold Can
  rw [List.pairwise_cons]
  constructor
  · rintro ⟨h1, h2, h3⟩
    exact ⟨h1 s (by simp), h2, fun t ht => h1 t (by simp [ht]), h3⟩
  · rintro ⟨h1, h2, h3, h4⟩
    refine ⟨fun t ht => ?_, h2, h4⟩
    rcases List.mem_cons.1 ht with rfl | ht
    · exact h1
    · exact h3 t ht
theorem Can_append {l m : List Sp} : Can (l ++ m) ↔ Can l ∧ Can m ∧ ∀ s ∈ l, ∀ t ∈ m, s.2 < t.1 := by
  unfold Can
  rw [List.pairwise_append]
  constructor
  · rintro ⟨h1, h2, h3, h4⟩
    exact ⟨⟨fun s hs => h1 s (by simp [hs]), h2⟩, ⟨fun s hs => h1 s (by simp [hs]), h3⟩, h4⟩
  · rintro ⟨⟨h1, h2⟩, ⟨h3, h4⟩, h5⟩
    refine ⟨fun s hs => ?_, h2, h4, h5⟩
    rcases List.mem_append.1 hs with hs | hs
    · exact h1 s hs
    · exact h3 s hs
theorem Can_single {s : Sp} : Can [s] ↔ s.1 < s.2 := by rw [Can_cons]; exact ⟨fun h => h.1, fun h => ⟨h, (fun _ h => by cases h), Can_nil⟩⟩

theorem Mem_lt {l : List Sp} {x n : Int} (h : ∀ t ∈ l, x < t.1) (hm : Mem n l) : x < n := by
  obtain ⟨t, ht, h1, _⟩ := hm
  have := h t ht
  omega

/-- A CANONICAL LIST IS DETERMINED BY ITS MEMBERS. -/
theorem can_unique : ∀ {l m : List Sp}, Can l → Can m → (∀ n, Mem n l ↔ Mem n m) → l = m
  | [], [], _, _, _ => rfl
  | [], t :: m, _, hm, h => by
    have h1 := (Can_cons.1 hm).1
    exact absurd ((h t.1).2 (Mem_cons.2 (.inl ⟨Int.le_refl _, h1⟩))) (Mem_nil _)
  | s :: l, [], hl, _, h => by
    have h1 := (Can_cons.1 hl).1
    exact absurd ((h s.1).1 (Mem_cons.2 (.inl ⟨Int.le_refl _, h1⟩))) (Mem_nil _)
  | s :: l, t :: m, hl, hm, h => by
    obtain ⟨s1, s2, s3⟩ := Can_cons.1 hl
    obtain ⟨t1, t2, t3⟩ := Can_cons.1 hm
    have low : ∀ {n}, Mem n (s :: l) → s.1 ≤ n := fun {n} hn => by
      rcases Mem_cons.1 hn with hn | hn
      · exact hn.1
      · have := Mem_lt s2 hn; omega
    have low' : ∀ {n}, Mem n (t :: m) → t.1 ≤ n := fun {n} hn => by
      rcases Mem_cons.1 hn with hn | hn
      · exact hn.1
      · have := Mem_lt t2 hn; omega
    have e1 : s.1 = t.1 := by
      have a := low' ((h s.1).1 (Mem_cons.2 (.inl ⟨Int.le_refl _, s1⟩)))
      have b := low ((h t.1).2 (Mem_cons.2 (.inl ⟨Int.le_refl _, t1⟩)))
      omega
    have e2 : s.2 = t.2 := by
      rcases Int.lt_trichotomy s.2 t.2 with c | c | c
      · have a := (h s.2).2 (Mem_cons.2 (.inl ⟨by omega, c⟩))
        rcases Mem_cons.1 a with a | a
        · have := a.2; omega
        · have := Mem_lt s2 a; omega
      · exact c
      · have a := (h t.2).1 (Mem_cons.2 (.inl ⟨by omega, c⟩))
        rcases Mem_cons.1 a with a | a
        · have := a.2; omega
        · have := Mem_lt t2 a; omega
    have e : s = t := Prod.ext e1 e2
    subst e
    rw [can_unique s3 t3 fun n => ?_]
    constructor
    · intro hn
      have h1 := Mem_lt s2 hn
      rcases Mem_cons.1 ((h n).1 (Mem_cons.2 (.inr hn))) with a | a
      · have := a.2; omega
      · exact a
    · intro hn
      have h1 := Mem_lt t2 hn
      rcases Mem_cons.1 ((h n).2 (Mem_cons.2 (.inr hn))) with a | a
      · have := a.2; omega
      · exact a

/-! ### Canon, by sorting and merging -/
def merge (r : List Sp) (s : Sp) : List Sp :=
  match r.getLast? with
  | some q => if s.1 ≤ q.2 then r.dropLast ++ [(q.1, max q.2 s.2)] else r ++ [s]
  | none => r ++ [s]
theorem merge_nil (s : Sp) : merge [] s = [s] := rfl
theorem merge_snoc (r : List Sp) (q s : Sp) : merge (r ++ [q]) s = if s.1 ≤ q.2 then r ++ [(q.1, max q.2 s.2)] else r ++ [q] ++ [s] := by
  simp [merge]
theorem merge_ok {r : List Sp} {s : Sp} (hr : Can r) (hs : s.1 < s.2) (hlast : ∀ q ∈ r, q.1 ≤ s.1) :
    Can (merge r s) ∧ (∀ n, Mem n (merge r s) ↔ Mem n r ∨ mem n s) ∧ ∀ q ∈ merge r s, q.1 ≤ s.1 := by
  rcases List.eq_nil_or_concat r with rfl | ⟨r, q, rfl⟩
  · rw [merge_nil]
    refine ⟨Can_single.2 hs, fun n => ?_, fun q hq => ?_⟩
    · rw [Mem_single]; exact ⟨.inr, fun h => h.elim (fun h => absurd h (Mem_nil n)) id⟩
    · rw [List.mem_singleton] at hq; subst hq; omega
  · rw [List.concat_eq_append] at *
    rw [merge_snoc]
    have hq := hlast q (by simp)
    obtain ⟨h1, h2, h3⟩ := Can_append.1 hr
    have hq2 := Can_single.1 h2
    split
    · rename_i hle
      refine ⟨Can_append.2 ⟨h1, Can_single.2 (by show q.1 < max q.2 s.2; omega), fun x hx t ht => ?_⟩, fun n => ?_, fun x hx => ?_⟩
      · rw [List.mem_singleton] at ht; subst ht; exact h3 x hx q (by simp)
      · rw [Mem_append, Mem_append, Mem_single, Mem_single]
        have : mem n (q.1, max q.2 s.2) ↔ mem n q ∨ mem n s := by unfold mem; simp only; omega
        rw [this, or_assoc]
      · rcases List.mem_append.1 hx with hx | hx
        · exact hlast x (by simp [hx])
        · rw [List.mem_singleton] at hx; subst hx; exact hq
    · rename_i hgt
      refine ⟨Can_append.2 ⟨hr, Can_single.2 hs, fun x hx t ht => ?_⟩, fun n => ?_, fun x hx => ?_⟩
      · rw [List.mem_singleton] at ht; subst ht
        rcases List.mem_append.1 hx with hx | hx
        · have := h3 x hx q (by simp); omega
        · rw [List.mem_singleton] at hx; subst hx; omega
      · rw [Mem_append, Mem_single]
      · rcases List.mem_append.1 hx with hx | hx
        · exact hlast x hx
        · rw [List.mem_singleton] at hx; subst hx; omega
theorem foldl_merge : ∀ {l r : List Sp}, Can r → (∀ s ∈ l, s.1 < s.2) → l.Pairwise (fun s t => s.1 ≤ t.1) → (∀ q ∈ r, ∀ s ∈ l, q.1 ≤ s.1) →
    Can (l.foldl merge r) ∧ ∀ n, Mem n (l.foldl merge r) ↔ Mem n r ∨ Mem n l
  | [], r, hr, _, _, _ => ⟨hr, fun n => ⟨.inl, fun h => h.elim id (fun h => absurd h (Mem_nil n))⟩⟩
  | s :: l, r, hr, hne, hs, hq => by
    obtain ⟨a, b, c⟩ := merge_ok hr (hne s (by simp)) (fun q h => hq q h s (by simp))
    rw [List.pairwise_cons] at hs
    obtain ⟨d, e⟩ := foldl_merge (l := l) (r := merge r s) a (fun t ht => hne t (by simp [ht])) hs.2 (fun q h t ht => by have := c q h; have := hs.1 t ht; omega)
    refine ⟨d, fun n => ?_⟩
    rw [List.foldl_cons, e, b, Mem_cons, or_assoc]

def ne (s : Sp) : Bool := decide (s.1 < s.2)
/-- sp lies before tp: by the first end, then by the second one -/
def ltS (s t : Sp) : Bool := decide (s.1 < t.1 ∨ (s.1 = t.1 ∧ s.2 < t.2))
def canon (l : List Sp) : List Sp := ((l.filter ne).mergeSort fun x y => !ltS y x).foldl merge []
theorem ltS_false {s t : Sp} (h : (!ltS t s) = true) : s.1 ≤ t.1 := by
  simp only [ltS, Bool.not_eq_true', decide_eq_false_iff_not] at h; omega
theorem mem_filter {n : Int} {l : List Sp} : Mem n (l.filter ne) ↔ Mem n l := by
  constructor
  · rintro ⟨s, hs, h⟩; exact ⟨s, (List.mem_filter.1 hs).1, h⟩
  · rintro ⟨s, hs, h1, h2⟩; exact ⟨s, List.mem_filter.2 ⟨hs, by simp only [ne, decide_eq_true_eq]; omega⟩, h1, h2⟩
theorem canon_ok (l : List Sp) : Can (canon l) ∧ ∀ n, Mem n (canon l) ↔ Mem n l := by
  have tr : ∀ (a b c : Sp), (!ltS b a) = true → (!ltS c b) = true → (!ltS c a) = true := by
    intro a b c h1 h2
    simp only [ltS, Bool.not_eq_true', decide_eq_false_iff_not] at *
    omega
  have tot : ∀ (a b : Sp), ((!ltS b a) || (!ltS a b)) = true := by
    intro a b
    simp only [ltS, Bool.or_eq_true, Bool.not_eq_true', decide_eq_false_iff_not]
    omega
  have hs := List.pairwise_mergeSort (le := fun x y => !ltS y x) tr tot (l.filter ne)
  have hp := List.mergeSort_perm (l.filter ne) (fun x y => !ltS y x)
  have := foldl_merge (l := (l.filter ne).mergeSort fun x y => !ltS y x) (r := []) Can_nil (fun s h => by
    have := (List.mem_filter.1 (hp.mem_iff.1 h)).2
    simpa [ne] using this) (hs.imp fun h => ltS_false h) (fun q h => by cases h)
  refine ⟨this.1, fun n => ?_⟩
  unfold canon
  rw [this.2, ← mem_filter (l := l)]
  constructor
  · rintro (h | ⟨s, h1, h2⟩)
    · exact absurd h (Mem_nil n)
    · exact ⟨s, hp.mem_iff.1 h1, h2⟩
  · rintro ⟨s, h1, h2⟩; exact .inr ⟨s, hp.mem_iff.2 h1, h2⟩
theorem canon_eq {l m : List Sp} (hm : Can m) (h : ∀ n, Mem n m ↔ Mem n l) : m = canon l :=
  can_unique hm (canon_ok l).1 fun n => by rw [h n, (canon_ok l).2 n]
theorem canon_congr {l m : List Sp} (h : ∀ n, Mem n l ↔ Mem n m) : canon l = canon m := canon_eq (canon_ok l).1 fun n => by rw [(canon_ok l).2, h]
theorem canon_id {l : List Sp} (h : Can l) : canon l = l := (canon_eq h fun _ => Iff.rfl).symm

/-! ### the reference's Canon: one span after the other -/
def insStep (p : List Sp × Sp × List Sp) (x : Sp) : List Sp × Sp × List Sp :=
  if x.2 < p.2.1.1 then (p.1 ++ [x], p.2.1, p.2.2) else if p.2.1.2 < x.1 then (p.1, p.2.1, p.2.2 ++ [x]) else (p.1, (min p.2.1.1 x.1, max p.2.1.2 x.2), p.2.2)
def insAll (l : List Sp) (s : Sp) : List Sp × Sp × List Sp := l.foldl insStep ([], s, [])
def ins (l : List Sp) (s : Sp) : List Sp := (insAll l s).1 ++ [(insAll l s).2.1] ++ (insAll l s).2.2
theorem insStep_ok : ∀ {l : List Sp} {b a : List Sp} {s : Sp}, Can l → Can (b ++ [s] ++ a) → (∀ y ∈ b, ∀ z ∈ l, y.2 < z.1) → (∀ y ∈ a, ∀ z ∈ l, y.2 < z.1) →
    Can ((l.foldl insStep (b, s, a)).1 ++ [(l.foldl insStep (b, s, a)).2.1] ++ (l.foldl insStep (b, s, a)).2.2) ∧
    ∀ n, Mem n ((l.foldl insStep (b, s, a)).1 ++ [(l.foldl insStep (b, s, a)).2.1] ++ (l.foldl insStep (b, s, a)).2.2) ↔ Mem n (b ++ [s] ++ a) ∨ Mem n l
  | [], b, a, s, _, h, _, _ => ⟨h, fun n => ⟨.inl, fun h => h.elim id (fun h => absurd h (Mem_nil n))⟩⟩
  | z :: l, b, a, s, hl, h, hb, ha => by
    obtain ⟨z1, z2, z3⟩ := Can_cons.1 hl
    obtain ⟨h1, h2, h3⟩ := Can_append.1 h
    obtain ⟨h4, h5, h6⟩ := Can_append.1 h1
    have hs := Can_single.1 h5
    have hbs : ∀ y ∈ b, y.2 < s.1 := fun y hy => h6 y hy s (by simp)
    have hsa : ∀ y ∈ a, s.2 < y.1 := fun y hy => h3 s (by simp) y hy
    have hba : ∀ y ∈ b, ∀ x ∈ a, y.2 < x.1 := fun y hy x hx => h3 y (by simp [hy]) x hx
    rw [List.foldl_cons]
    by_cases c1 : z.2 < s.1
    · have e : insStep (b, s, a) z = (b ++ [z], s, a) := by simp [insStep, c1]
      rw [e]
      obtain ⟨r1, r2⟩ := insStep_ok (l := l) (b := b ++ [z]) (a := a) (s := s) z3 (by
        refine Can_append.2 ⟨Can_append.2 ⟨Can_append.2 ⟨h4, Can_single.2 z1, fun y hy t ht => ?_⟩, h5, fun y hy t ht => ?_⟩, h2, fun y hy t ht => ?_⟩
        · rw [List.mem_singleton] at ht; subst ht; exact hb y hy t (by simp)
        · rw [List.mem_singleton] at ht; subst ht
          rcases List.mem_append.1 hy with hy | hy
          · exact hbs y hy
          · rw [List.mem_singleton] at hy; subst hy; exact c1
        · rcases List.mem_append.1 hy with hy | hy
          · rcases List.mem_append.1 hy with hy | hy
            · exact hba y hy t ht
            · rw [List.mem_singleton] at hy; subst hy; have := hsa t ht; omega
          · rw [List.mem_singleton] at hy; subst hy; exact hsa t ht)
        (fun y hy x hx => by
          rcases List.mem_append.1 hy with hy | hy
          · exact hb y hy x (by simp [hx])
          · rw [List.mem_singleton] at hy; subst hy; exact z2 x hx) (fun y hy x hx => ha y hy x (by simp [hx]))
      refine ⟨r1, fun n => ?_⟩
      rw [r2, Mem_cons]
      simp only [Mem_append, Mem_single]
      constructor
      · rintro ((((h | h) | h) | h) | h) <;> simp [h]
      · rintro (((h | h) | h) | h | h) <;> simp [h]
    · by_cases c2 : s.2 < z.1
      · have e : insStep (b, s, a) z = (b, s, a ++ [z]) := by simp [insStep, c1, c2]
        rw [e]
        obtain ⟨r1, r2⟩ := insStep_ok (l := l) (b := b) (a := a ++ [z]) (s := s) z3 (by
          refine Can_append.2 ⟨h1, Can_append.2 ⟨h2, Can_single.2 z1, fun y hy t ht => ?_⟩, fun y hy t ht => ?_⟩
          · rw [List.mem_singleton] at ht; subst ht; exact ha y hy t (by simp)
          · rcases List.mem_append.1 ht with ht | ht
            · exact h3 y hy t ht
            · rw [List.mem_singleton] at ht; subst ht
              rcases List.mem_append.1 hy with hy | hy
              · exact hb y hy t (by simp)
              · rw [List.mem_singleton] at hy; subst hy; exact c2)
          (fun y hy x hx => hb y hy x (by simp [hx])) (fun y hy x hx => by
            rcases List.mem_append.1 hy with hy | hy
            · exact ha y hy x (by simp [hx])
            · rw [List.mem_singleton] at hy; subst hy; exact z2 x hx)
        refine ⟨r1, fun n => ?_⟩
        rw [r2, Mem_cons]
        simp only [Mem_append, Mem_single]
        constructor
        · rintro (((h | h) | h | h) | h) <;> simp [h]
        · rintro (((h | h) | h) | h | h) <;> simp [h]
      · have e : insStep (b, s, a) z = (b, (min s.1 z.1, max s.2 z.2), a) := by simp [insStep, c1, c2]
        have a0 : a = [] := by
          cases a with
          | nil => rfl
          | cons y a =>
            have g1 := hsa y (by simp)
            have g2 := ha y (by simp) z (by simp)
            have g3 := h2.1 y (by simp)
            omega
        subst a0
        rw [e]
        obtain ⟨r1, r2⟩ := insStep_ok (l := l) (b := b) (a := []) (s := (min s.1 z.1, max s.2 z.2)) z3 (by
          rw [List.append_nil]
          refine Can_append.2 ⟨h4, Can_single.2 (by show min s.1 z.1 < max s.2 z.2; omega), fun y hy t ht => ?_⟩
          rw [List.mem_singleton] at ht; subst ht
          have g1 := hbs y hy
          have g2 := hb y hy z (by simp)
          show y.2 < min s.1 z.1
          omega)
          (fun y hy x hx => hb y hy x (by simp [hx])) (fun y hy => by cases hy)
        refine ⟨r1, fun n => ?_⟩
        rw [r2, Mem_cons]
        simp only [Mem_append, Mem_single, List.append_nil]
        have : mem n (min s.1 z.1, max s.2 z.2) ↔ mem n s ∨ mem n z := by unfold mem; simp only; omega
        rw [this]
        constructor
        · rintro ((h | h | h) | h) <;> simp [h]
        · rintro ((h | h) | h | h) <;> simp [h]
theorem ins_ok {l : List Sp} {s : Sp} (hl : Can l) (hs : s.1 < s.2) : Can (ins l s) ∧ ∀ n, Mem n (ins l s) ↔ mem n s ∨ Mem n l := by
  obtain ⟨h1, h2⟩ := insStep_ok (l := l) (b := []) (a := []) (s := s) hl (by simpa using Can_single.2 hs) (fun y h => by cases h) (fun y h => by cases h)
  refine ⟨h1, fun n => ?_⟩
  unfold ins insAll
  rw [h2]
  simp [Mem_single]
def rcanonFrom (r l : List Sp) : List Sp := l.foldl (fun r s => if ne s then ins r s else r) r
theorem rcanonFrom_ok : ∀ {l r : List Sp}, Can r → Can (rcanonFrom r l) ∧ ∀ n, Mem n (rcanonFrom r l) ↔ Mem n r ∨ Mem n l
  | [], r, hr => ⟨hr, fun n => ⟨.inl, fun h => h.elim id (fun h => absurd h (Mem_nil n))⟩⟩
  | s :: l, r, hr => by
    unfold rcanonFrom
    rw [List.foldl_cons]
    by_cases c : ne s = true
    · have hs : s.1 < s.2 := by simpa [ne] using c
      obtain ⟨h1, h2⟩ := ins_ok hr hs
      obtain ⟨h3, h4⟩ := rcanonFrom_ok (l := l) h1
      rw [if_pos c]
      refine ⟨h3, fun n => ?_⟩
      unfold rcanonFrom at h4
      rw [h4, h2, Mem_cons]
      constructor
      · rintro ((h | h) | h) <;> simp [h]
      · rintro (h | h | h) <;> simp [h]
    · rw [if_neg c]
      obtain ⟨h3, h4⟩ := rcanonFrom_ok (l := l) hr
      refine ⟨h3, fun n => ?_⟩
      unfold rcanonFrom at h4
      rw [h4, Mem_cons]
      have hno : ¬ mem n s := by unfold mem; simp only [ne, decide_eq_true_eq] at c; omega
      constructor
      · rintro (h | h) <;> simp [h]
      · rintro (h | h | h)
        · simp [h]
        · exact absurd h hno
        · simp [h]
theorem rcanon_eq (l : List Sp) : rcanonFrom [] l = canon l := by
  obtain ⟨h1, h2⟩ := rcanonFrom_ok (l := l) (r := []) Can_nil
  refine canon_eq h1 fun n => ?_
  rw [h2]
  exact ⟨fun h => h.elim (fun h => absurd h (Mem_nil n)) id, .inr⟩
theorem runion_eq (a b : List Sp) : rcanonFrom (rcanonFrom [] a) b = canon (a ++ b) := by
  rw [rcanon_eq]
  obtain ⟨h1, h2⟩ := rcanonFrom_ok (l := b) (r := canon a) (canon_ok a).1
  refine canon_eq h1 fun n => ?_
  rw [h2, (canon_ok a).2, Mem_append]

/-! ### the common part -/
def meet (s t : Sp) : Sp := if max s.1 t.1 < min s.2 t.2 then (max s.1 t.1, min s.2 t.2) else (0, 0)
theorem meet_mem (s t : Sp) (n : Int) : mem n (meet s t) ↔ mem n s ∧ mem n t := by
  unfold meet mem; split <;> simp only <;> omega
theorem ne_meet {s t : Sp} (h : ne (meet s t) = true) : s.1 ≤ (meet s t).1 ∧ (meet s t).2 ≤ s.2 ∧ t.1 ≤ (meet s t).1 ∧ (meet s t).2 ≤ t.2 ∧ (meet s t).1 < (meet s t).2 ∧ (meet s t).2 = min s.2 t.2 := by
  unfold meet at *
  split at h
  · rename_i hc
    rw [if_pos hc]
    exact ⟨by show s.1 ≤ max s.1 t.1; omega, by show min s.2 t.2 ≤ s.2; omega, by show t.1 ≤ max s.1 t.1; omega, by show min s.2 t.2 ≤ t.2; omega, hc, rfl⟩
  · simp [ne] at h
def opt (s : Sp) : List Sp := if ne s then [s] else []
theorem Mem_opt {n : Int} {s : Sp} : Mem n (opt s) ↔ mem n s := by
  unfold opt
  split
  · exact Mem_single
  · rename_i h
    simp only [ne, decide_eq_true_eq] at h
    exact ⟨fun h => absurd h (Mem_nil n), fun h => by unfold mem at h; omega⟩
theorem mem_opt {s x : Sp} (h : x ∈ opt s) : x = s ∧ ne s = true := by
  unfold opt at h
  split at h
  · rename_i c; exact ⟨by simpa using h, c⟩
  · cases h
def com : Nat → List Sp → List Sp → List Sp
  | 0, _, _ => []
  | k + 1, s :: a, t :: b => opt (meet s t) ++ if s.2 < t.2 then com k a (t :: b) else com k (s :: a) b
  | _ + 1, _, _ => []
theorem com_in : ∀ {k : Nat} {a b : List Sp} {x : Sp}, x ∈ com k a b → (∃ s ∈ a, s.1 ≤ x.1 ∧ x.2 ≤ s.2) ∧ ∃ t ∈ b, t.1 ≤ x.1 ∧ x.2 ≤ t.2
  | 0, _, _, _, h => by cases h
  | k + 1, [], _, _, h => by cases h
  | k + 1, _ :: _, [], _, h => by cases h
  | k + 1, s :: a, t :: b, x, h => by
    rw [com] at h
    rcases List.mem_append.1 h with h | h
    · obtain ⟨rfl, hn⟩ := mem_opt h
      obtain ⟨h1, h2, h3, h4, _, _⟩ := ne_meet hn
      exact ⟨⟨s, by simp, h1, h2⟩, ⟨t, by simp, h3, h4⟩⟩
    · split at h
      · obtain ⟨⟨y, hy, h1⟩, h2⟩ := com_in h
        exact ⟨⟨y, by simp [hy], h1⟩, h2⟩
      · obtain ⟨h1, ⟨y, hy, h2⟩⟩ := com_in h
        exact ⟨h1, ⟨y, by simp [hy], h2⟩⟩
theorem com_ok : ∀ {k : Nat} {a b : List Sp}, a.length + b.length ≤ k → Can a → Can b → Can (com k a b) ∧ ∀ n, Mem n (com k a b) ↔ Mem n a ∧ Mem n b
  | 0, a, b, hk, _, _ => by
    have : a = [] := List.eq_nil_of_length_eq_zero (by omega)
    subst this
    exact ⟨Can_nil, fun n => ⟨fun h => absurd h (Mem_nil n), fun h => absurd h.1 (Mem_nil n)⟩⟩
  | k + 1, [], _, _, _, _ => ⟨Can_nil, fun n => ⟨fun h => absurd h (Mem_nil n), fun h => absurd h.1 (Mem_nil n)⟩⟩
  | k + 1, _ :: _, [], _, _, _ => ⟨Can_nil, fun n => ⟨fun h => absurd h (Mem_nil n), fun h => absurd h.2 (Mem_nil n)⟩⟩
  | k + 1, s :: a, t :: b, hk, ha, hb => by
    obtain ⟨s1, s2, s3⟩ := Can_cons.1 ha
    obtain ⟨t1, t2, t3⟩ := Can_cons.1 hb
    simp only [List.length_cons] at hk
    rw [com]
    by_cases c : s.2 < t.2
    · rw [if_pos c]
      obtain ⟨h1, h2⟩ := com_ok (k := k) (a := a) (b := t :: b) (by simp only [List.length_cons]; omega) s3 hb
      refine ⟨Can_append.2 ⟨?_, h1, fun x hx y hy => ?_⟩, fun n => ?_⟩
      · unfold opt; split
        · rename_i hn; exact Can_single.2 (by simpa [ne] using hn)
        · exact Can_nil
      · obtain ⟨rfl, hn⟩ := mem_opt hx
        obtain ⟨⟨z, hz, g1, _⟩, _⟩ := com_in hy
        have := (ne_meet hn).2.1
        have := s2 z hz
        omega
      · rw [Mem_append, Mem_opt, meet_mem, h2, Mem_cons, Mem_cons]
        constructor
        · rintro (⟨h, h'⟩ | ⟨h, h'⟩)
          · exact ⟨.inl h, .inl h'⟩
          · exact ⟨.inr h, h'⟩
        · rintro ⟨h | h, h'⟩
          · rcases h' with h' | h'
            · exact .inl ⟨h, h'⟩
            · have := Mem_lt t2 h'; have := h.2; omega
          · exact .inr ⟨h, h'⟩
    · rw [if_neg c]
      obtain ⟨h1, h2⟩ := com_ok (k := k) (a := s :: a) (b := b) (by simp only [List.length_cons]; omega) ha t3
      refine ⟨Can_append.2 ⟨?_, h1, fun x hx y hy => ?_⟩, fun n => ?_⟩
      · unfold opt; split
        · rename_i hn; exact Can_single.2 (by simpa [ne] using hn)
        · exact Can_nil
      · obtain ⟨rfl, hn⟩ := mem_opt hx
        obtain ⟨_, ⟨z, hz, g1, _⟩⟩ := com_in hy
        have := (ne_meet hn).2.2.2.1
        have := t2 z hz
        omega
      · rw [Mem_append, Mem_opt, meet_mem, h2, Mem_cons, Mem_cons]
        constructor
        · rintro (⟨h, h'⟩ | ⟨h, h'⟩)
          · exact ⟨.inl h, .inl h'⟩
          · exact ⟨h, .inr h'⟩
        · rintro ⟨h, h' | h'⟩
          · rcases h with h | h
            · exact .inl ⟨h, h'⟩
            · have := Mem_lt s2 h; have := h'.2; omega
          · exact .inr ⟨h, h'⟩
def common (a b : List Sp) : List Sp := com ((canon a).length + (canon b).length) (canon a) (canon b)
theorem common_ok (a b : List Sp) : Can (common a b) ∧ ∀ n, Mem n (common a b) ↔ Mem n a ∧ Mem n b := by
  obtain ⟨h1, h2⟩ := com_ok (Nat.le_refl _) (canon_ok a).1 (canon_ok b).1
  exact ⟨h1, fun n => by rw [common, h2, (canon_ok a).2, (canon_ok b).2]⟩
def rcommon (a b : List Sp) : List Sp := (canon a).flatMap fun s => (canon b).flatMap fun t => opt (meet s t)
theorem rcom_ok {a b : List Sp} (ha : Can a) (hb : Can b) : Can (a.flatMap fun s => b.flatMap fun t => opt (meet s t)) ∧ ∀ n, Mem n (a.flatMap fun s => b.flatMap fun t => opt (meet s t)) ↔ Mem n a ∧ Mem n b := by
  have inner : ∀ (s : Sp) (b : List Sp), Can b → Can (b.flatMap fun t => opt (meet s t)) ∧ (∀ n, Mem n (b.flatMap fun t => opt (meet s t)) ↔ mem n s ∧ Mem n b) ∧
      ∀ x ∈ (b.flatMap fun t => opt (meet s t)), s.1 ≤ x.1 ∧ x.2 ≤ s.2 ∧ ∃ t ∈ b, t.1 ≤ x.1 ∧ x.2 ≤ t.2 := by
    intro s b
    induction b with
    | nil => exact fun _ => ⟨Can_nil, fun n => ⟨fun h => absurd h (Mem_nil n), fun h => absurd h.2 (Mem_nil n)⟩, fun x hx => by cases hx⟩
    | cons t b ih =>
      intro hb
      obtain ⟨t1, t2, t3⟩ := Can_cons.1 hb
      obtain ⟨h1, h2, h3⟩ := ih t3
      rw [List.flatMap_cons]
      refine ⟨Can_append.2 ⟨?_, h1, fun x hx y hy => ?_⟩, fun n => ?_, fun x hx => ?_⟩
      · unfold opt; split
        · rename_i hn; exact Can_single.2 (by simpa [ne] using hn)
        · exact Can_nil
      · obtain ⟨rfl, hn⟩ := mem_opt hx
        obtain ⟨_, _, z, hz, g1, _⟩ := h3 y hy
        have := (ne_meet hn).2.2.2.1
        have := t2 z hz
        omega
      · rw [Mem_append, Mem_opt, meet_mem, h2, Mem_cons]
        constructor
        · rintro (⟨h, h'⟩ | ⟨h, h'⟩) <;> simp [h, h']
        · rintro ⟨h, h' | h'⟩ <;> simp [h, h']
      · rcases List.mem_append.1 hx with hx | hx
        · obtain ⟨rfl, hn⟩ := mem_opt hx
          obtain ⟨g1, g2, g3, g4, _, _⟩ := ne_meet hn
          exact ⟨g1, g2, t, by simp, g3, g4⟩
        · obtain ⟨g1, g2, z, hz, g3⟩ := h3 x hx
          exact ⟨g1, g2, z, by simp [hz], g3⟩
  induction a with
  | nil => exact ⟨Can_nil, fun n => ⟨fun h => absurd h (Mem_nil n), fun h => absurd h.1 (Mem_nil n)⟩⟩
  | cons s a ih =>
    obtain ⟨s1, s2, s3⟩ := Can_cons.1 ha
    obtain ⟨h1, h2⟩ := ih s3
    obtain ⟨i1, i2, i3⟩ := inner s b hb
    rw [List.flatMap_cons]
    refine ⟨Can_append.2 ⟨i1, h1, fun x hx y hy => ?_⟩, fun n => ?_⟩
    · obtain ⟨_, g2, _⟩ := i3 x hx
      obtain ⟨z, hz, hy⟩ := List.mem_flatMap.1 hy
      obtain ⟨g3, _⟩ := (inner z b hb).2.2 y hy
      have := s2 z hz
      omega
    · rw [Mem_append, i2, h2, Mem_cons]
      constructor
      · rintro (⟨h, h'⟩ | ⟨h, h'⟩) <;> simp [h, h']
      · rintro ⟨h | h, h'⟩ <;> simp [h, h']
theorem rcommon_eq (a b : List Sp) : rcommon a b = common a b := by
  obtain ⟨h1, h2⟩ := rcom_ok (canon_ok a).1 (canon_ok b).1
  exact can_unique h1 (common_ok a b).1 fun n => by rw [(common_ok a b).2]; unfold rcommon; rw [h2, (canon_ok a).2, (canon_ok b).2]

/-! ### the difference -/
def holes (s : Sp) : Int → List Sp → List Sp
  | at0, [] => opt (at0, s.2)
  | at0, h :: b => if s.2 ≤ h.1 then opt (at0, s.2) else opt (at0, h.1) ++ holes s h.2 b
theorem Can_opt (s : Sp) : Can (opt s) := by
  unfold opt; split
  · rename_i hn; exact Can_single.2 (by simpa [ne] using hn)
  · exact Can_nil
theorem holes_in {s : Sp} : ∀ {b : List Sp} {at0 : Int} {x : Sp}, Can b → (∀ h ∈ b, at0 < h.2) → x ∈ holes s at0 b → at0 ≤ x.1 ∧ x.2 ≤ s.2
  | [], at0, x, _, _, h => by
    obtain ⟨rfl, _⟩ := mem_opt h
    exact ⟨Int.le_refl _, Int.le_refl _⟩
  | t :: b, at0, x, hb, hlt, h => by
    obtain ⟨t1, t2, t3⟩ := Can_cons.1 hb
    rw [holes] at h
    split at h
    · obtain ⟨rfl, _⟩ := mem_opt h
      exact ⟨Int.le_refl _, Int.le_refl _⟩
    · rename_i c
      rcases List.mem_append.1 h with h | h
      · obtain ⟨rfl, _⟩ := mem_opt h
        exact ⟨Int.le_refl _, by show t.1 ≤ s.2; omega⟩
      · have := holes_in t3 (fun h' hh => by have := t2 h' hh; have := t3.1 h' hh; omega) h
        have := hlt t (by simp)
        omega
theorem holes_ok {s : Sp} : ∀ {b : List Sp} {at0 : Int}, Can b → (∀ h ∈ b, at0 < h.2) → Can (holes s at0 b) ∧ ∀ n, Mem n (holes s at0 b) ↔ (at0 ≤ n ∧ n < s.2) ∧ ¬ Mem n b
  | [], at0, _, _ => ⟨Can_opt _, fun n => by
      rw [holes, Mem_opt]
      exact ⟨fun h => ⟨h, Mem_nil n⟩, fun h => h.1⟩⟩
  | t :: b, at0, hb, hlt => by
    obtain ⟨t1, t2, t3⟩ := Can_cons.1 hb
    rw [holes]
    split
    · rename_i c
      refine ⟨Can_opt _, fun n => ?_⟩
      rw [Mem_opt, Mem_cons]
      constructor
      · intro h
        refine ⟨h, ?_⟩
        have h2 := h.2
        simp only at h2
        rintro (h' | h')
        · have := h'.1; omega
        · have := Mem_lt t2 h'; omega
      · exact fun h => h.1
    · rename_i c
      have hlt' : ∀ h ∈ b, t.2 < h.2 := fun h' hh => by have := t2 h' hh; have := t3.1 h' hh; omega
      obtain ⟨h1, h2⟩ := holes_ok (s := s) (at0 := t.2) t3 hlt'
      refine ⟨Can_append.2 ⟨Can_opt _, h1, fun x hx y hy => ?_⟩, fun n => ?_⟩
      · obtain ⟨rfl, _⟩ := mem_opt hx
        have := holes_in t3 hlt' hy
        show t.1 < y.1
        omega
      · have g := hlt t (by simp)
        rw [Mem_append, Mem_opt, h2, Mem_cons]
        constructor
        · rintro (h | ⟨h, h'⟩)
          · have h3 := h.1
            have h4 := h.2
            simp only at h3 h4
            refine ⟨by omega, ?_⟩
            rintro (h' | h')
            · have := h'.1; omega
            · have := Mem_lt t2 h'; omega
          · refine ⟨by omega, ?_⟩
            rintro (k | k)
            · have := k.2; omega
            · exact h' k
        · rintro ⟨h, h'⟩
          by_cases k : n < t.1
          · exact .inl ⟨h.1, k⟩
          · right
            refine ⟨⟨?_, h.2⟩, fun k' => h' (.inr k')⟩
            rcases Int.lt_or_le n t.2 with k2 | k2
            · exact absurd (Or.inl ⟨by omega, k2⟩) h'
            · exact k2
def past (s t : Sp) : Bool := decide (t.2 ≤ s.1)
def minusFrom : List Sp → List Sp → List Sp
  | [], _ => []
  | s :: a, b => holes s s.1 (b.dropWhile (past s)) ++ minusFrom a (b.dropWhile (past s))
theorem drop_ok {s : Sp} : ∀ {b : List Sp}, Can b → Can (b.dropWhile (past s)) ∧ (∀ h ∈ b.dropWhile (past s), s.1 < h.2) ∧ ∀ n, s.1 ≤ n → (Mem n (b.dropWhile (past s)) ↔ Mem n b)
  | [], h => ⟨h, (fun _ h => by cases h), fun _ _ => Iff.rfl⟩
  | t :: b, h => by
    obtain ⟨t1, t2, t3⟩ := Can_cons.1 h
    rw [List.dropWhile_cons]
    split
    · rename_i c
      have c' : t.2 ≤ s.1 := by simpa [past] using c
      obtain ⟨h1, h2, h3⟩ := drop_ok (s := s) t3
      refine ⟨h1, h2, fun n hn => ?_⟩
      rw [h3 n hn, Mem_cons]
      exact ⟨.inr, fun k => k.elim (fun k => by have := k.2; omega) id⟩
    · rename_i c
      have c' : ¬ t.2 ≤ s.1 := by simpa [past] using c
      refine ⟨h, fun x hx => ?_, fun _ _ => Iff.rfl⟩
      rcases List.mem_cons.1 hx with rfl | hx
      · omega
      · have := t2 x hx; have := t3.1 x hx; omega
theorem minusFrom_ok : ∀ {a b : List Sp}, Can a → Can b → Can (minusFrom a b) ∧ (∀ n, Mem n (minusFrom a b) ↔ Mem n a ∧ ¬ Mem n b) ∧ ∀ x ∈ minusFrom a b, ∃ s ∈ a, s.1 ≤ x.1 ∧ x.2 ≤ s.2
  | [], _, _, _ => ⟨Can_nil, fun n => ⟨fun h => absurd h (Mem_nil n), fun h => absurd h.1 (Mem_nil n)⟩, fun _ h => by cases h⟩
  | s :: a, b, ha, hb => by
    obtain ⟨s1, s2, s3⟩ := Can_cons.1 ha
    obtain ⟨d1, d2, d3⟩ := drop_ok (s := s) hb
    obtain ⟨g1, g2⟩ := holes_ok (s := s) (at0 := s.1) d1 d2
    obtain ⟨h1, h2, h3⟩ := minusFrom_ok s3 d1
    rw [minusFrom]
    refine ⟨Can_append.2 ⟨g1, h1, fun x hx y hy => ?_⟩, fun n => ?_, fun x hx => ?_⟩
    · have := (holes_in d1 d2 hx).2
      obtain ⟨z, hz, k, _⟩ := h3 y hy
      have := s2 z hz
      omega
    · rw [Mem_append, g2, h2, Mem_cons]
      constructor
      · rintro (⟨h, h'⟩ | ⟨h, h'⟩)
        · exact ⟨.inl h, fun k => h' ((d3 n h.1).2 k)⟩
        · have := Mem_lt s2 h
          exact ⟨.inr h, fun k => h' ((d3 n (by omega)).2 k)⟩
      · rintro ⟨h | h, h'⟩
        · exact .inl ⟨h, fun k => h' ((d3 n h.1).1 k)⟩
        · have := Mem_lt s2 h
          exact .inr ⟨h, fun k => h' ((d3 n (by omega)).1 k)⟩
    · rcases List.mem_append.1 hx with hx | hx
      · obtain ⟨k1, k2⟩ := holes_in d1 d2 hx
        exact ⟨s, by simp, k1, k2⟩
      · obtain ⟨z, hz, k⟩ := h3 x hx
        exact ⟨z, by simp [hz], k⟩
def minus (a b : List Sp) : List Sp := minusFrom (canon a) (canon b)
theorem minus_ok (a b : List Sp) : Can (minus a b) ∧ ∀ n, Mem n (minus a b) ↔ Mem n a ∧ ¬ Mem n b := by
  obtain ⟨h1, h2, _⟩ := minusFrom_ok (canon_ok a).1 (canon_ok b).1
  exact ⟨h1, fun n => by rw [minus, h2, (canon_ok a).2, (canon_ok b).2]⟩
def cut (y s : Sp) : List Sp := opt (s.1, min s.2 y.1) ++ opt (max s.1 y.2, s.2)
theorem cut_ok {y : Sp} (hy : y.1 < y.2) : ∀ {a : List Sp}, Can a → Can (a.flatMap (cut y)) ∧ (∀ n, Mem n (a.flatMap (cut y)) ↔ Mem n a ∧ ¬ mem n y) ∧ ∀ x ∈ a.flatMap (cut y), ∃ s ∈ a, s.1 ≤ x.1 ∧ x.2 ≤ s.2
  | [], _ => ⟨Can_nil, fun n => ⟨fun h => absurd h (Mem_nil n), fun h => absurd h.1 (Mem_nil n)⟩, fun _ h => by cases h⟩
  | s :: a, ha => by
    obtain ⟨s1, s2, s3⟩ := Can_cons.1 ha
    obtain ⟨h1, h2, h3⟩ := cut_ok hy s3
    have hin : ∀ x ∈ cut y s, s.1 ≤ x.1 ∧ x.2 ≤ s.2 := fun x hx => by
      rcases List.mem_append.1 hx with hx | hx <;> obtain ⟨rfl, _⟩ := mem_opt hx <;> simp only <;> omega
    rw [List.flatMap_cons]
    refine ⟨Can_append.2 ⟨Can_append.2 ⟨Can_opt _, Can_opt _, fun x hx z hz => ?_⟩, h1, fun x hx z hz => ?_⟩, fun n => ?_, fun x hx => ?_⟩
    · obtain ⟨rfl, _⟩ := mem_opt hx
      obtain ⟨rfl, _⟩ := mem_opt hz
      simp only
      omega
    · have := hin x hx
      obtain ⟨t, ht, k, _⟩ := h3 z hz
      have := s2 t ht
      omega
    · have e : Mem n (cut y s) ↔ mem n s ∧ ¬ mem n y := by
        unfold cut
        rw [Mem_append, Mem_opt, Mem_opt]
        unfold mem
        simp only
        omega
      rw [Mem_append, e, h2, Mem_cons]
      constructor
      · rintro (⟨h, h'⟩ | ⟨h, h'⟩) <;> simp [h, h']
      · rintro ⟨h | h, h'⟩ <;> simp [h, h']
    · rcases List.mem_append.1 hx with hx | hx
      · exact ⟨s, by simp, hin x hx⟩
      · obtain ⟨t, ht, k⟩ := h3 x hx
        exact ⟨t, by simp [ht], k⟩
def rminusFrom (out y : List Sp) : List Sp := y.foldl (fun out y => out.flatMap (cut y)) out
theorem rminusFrom_ok : ∀ {y out : List Sp}, Can out → (∀ s ∈ y, s.1 < s.2) → Can (rminusFrom out y) ∧ ∀ n, Mem n (rminusFrom out y) ↔ Mem n out ∧ ¬ Mem n y
  | [], out, h, _ => ⟨h, fun n => ⟨fun k => ⟨k, Mem_nil n⟩, fun k => k.1⟩⟩
  | t :: y, out, h, hy => by
    obtain ⟨h1, h2, _⟩ := cut_ok (hy t (by simp)) h
    obtain ⟨h3, h4⟩ := rminusFrom_ok (y := y) h1 (fun s hs => hy s (List.mem_cons_of_mem _ hs))
    refine ⟨h3, fun n => ?_⟩
    show Mem n (rminusFrom (out.flatMap (cut t)) y) ↔ _
    rw [h4, h2, Mem_cons, not_or, and_assoc]
theorem rminus_eq (a b : List Sp) : rminusFrom (canon a) (canon b) = minus a b := by
  obtain ⟨h1, h2⟩ := rminusFrom_ok (canon_ok a).1 (canon_ok b).1.1
  exact can_unique h1 (minus_ok a b).1 fun n => by rw [h2, (minus_ok a b).2, (canon_ok a).2, (canon_ok b).2]

/-! ### Is, Has -/
def isFrom : Option Sp → List Sp → Bool
  | _, [] => true
  | p, s :: l => if s.2 ≤ s.1 ∨ (∃ q, p = some q ∧ s.1 ≤ q.2) then false else isFrom (some s) l
def has (l : List Sp) (n : Int) : Bool := l.any fun s => decide (s.1 ≤ n ∧ n < s.2)
theorem has_iff {l : List Sp} {n : Int} : has l n = true ↔ Mem n l := by
  unfold has Mem mem
  rw [List.any_eq_true]
  constructor
  · rintro ⟨s, h1, h2⟩; exact ⟨s, h1, by simpa using h2⟩
  · rintro ⟨s, h1, h2⟩; exact ⟨s, h1, by simpa using h2⟩
theorem has_congr {l m : List Sp} {n : Int} (h : Mem n l ↔ Mem n m) : has l n = has m n := by
  rw [Bool.eq_iff_iff, has_iff, has_iff, h]
/-- is the list canonical? by neighbours, at index i -/
def okAt (l : List Sp) (i : Nat) : Bool := decide ((l.getD i (0, 0)).1 < (l.getD i (0, 0)).2 ∧ (0 < i → (l.getD (i - 1) (0, 0)).2 < (l.getD i (0, 0)).1))
def isB (l : List Sp) : Bool := (List.range l.length).all (okAt l)
theorem isB_of {l : List Sp} (h : Can l) : isB l = true := by
  unfold isB
  rw [List.all_eq_true]
  intro i hi
  have hi := List.mem_range.1 hi
  unfold okAt
  simp only [decide_eq_true_eq]
  have e : l.getD i (0, 0) = l[i] := by simp [List.getD, hi]
  rw [e]
  refine ⟨h.1 _ (List.getElem_mem hi), fun h0 => ?_⟩
  have e' : l.getD (i - 1) (0, 0) = l[i - 1] := by simp [List.getD, (by omega : i - 1 < l.length)]
  rw [e']
  exact List.pairwise_iff_getElem.1 h.2 (i - 1) i (by omega) hi (by omega)

/-! ### lengths -/
def top : Int := 9223372036854775807
def size (s : Sp) : Int := if s.1 < s.2 then s.2 - s.1 else 0
def len (s : Sp) : Int := min (size s) top
def tot (l : List Sp) : Int := (l.map size).sum
def total (l : List Sp) : Int := min (tot (canon l)) top
theorem size_nn (s : Sp) : 0 ≤ size s := by unfold size; split <;> omega
theorem tot_nn : ∀ l : List Sp, 0 ≤ tot l
  | [] => by simp [tot]
  | s :: l => by have := tot_nn l; have := size_nn s; simp only [tot, List.map_cons, List.sum_cons] at *; omega
theorem tot_cons (s : Sp) (l : List Sp) : tot (s :: l) = size s + tot l := by simp [tot]
theorem tot_append (l m : List Sp) : tot (l ++ m) = tot l + tot m := by simp [tot, List.map_append, List.sum_append]
/-- spans that lie in a row between lo and hi have together at most hi - lo integers -/
theorem tot_le : ∀ {l : List Sp} {lo hi : Int}, Can l → lo ≤ hi → (∀ s ∈ l, lo ≤ s.1 ∧ s.2 ≤ hi) → tot l ≤ hi - lo
  | [], lo, hi, _, h, _ => by simp [tot]; omega
  | s :: l, lo, hi, hc, h, hb => by
    obtain ⟨s1, s2, s3⟩ := Can_cons.1 hc
    have b := hb s (by simp)
    have := tot_le (l := l) (lo := s.2) (hi := hi) s3 (by omega) (fun t ht => ⟨by have := s2 t ht; omega, (hb t (by simp [ht])).2⟩)
    rw [tot_cons]
    unfold size
    rw [if_pos s1]
    omega
/-- how many of the n integers from lo on are in a set -/
def cnt (p : Int → Bool) (lo : Int) : Nat → Int
  | 0 => 0
  | n + 1 => cnt p lo n + if p (lo + n) then 1 else 0
theorem cnt_congr {p q : Int → Bool} {lo : Int} : ∀ {n : Nat}, (∀ i, p i = q i) → cnt p lo n = cnt q lo n
  | 0, _ => rfl
  | n + 1, h => by rw [cnt, cnt, cnt_congr h, h]
theorem cnt_or_and (p q : Int → Bool) (lo : Int) : ∀ n : Nat, cnt (fun i => p i || q i) lo n + cnt (fun i => p i && q i) lo n = cnt p lo n + cnt q lo n
  | 0 => rfl
  | n + 1 => by
    have := cnt_or_and p q lo n
    simp only [cnt]
    by_cases hp : p (lo + n) = true <;> by_cases hq : q (lo + n) = true <;> simp [hp, hq] <;> omega
theorem cnt_minus (p q : Int → Bool) (lo : Int) : ∀ n : Nat, cnt (fun i => p i && !q i) lo n + cnt (fun i => p i && q i) lo n = cnt p lo n
  | 0 => rfl
  | n + 1 => by
    have := cnt_minus p q lo n
    simp only [cnt]
    by_cases hp : p (lo + n) = true <;> by_cases hq : q (lo + n) = true <;> simp [hp, hq] <;> omega
theorem cnt_span {a b : Int} (lo : Int) : ∀ n : Nat, lo ≤ a → a ≤ b → cnt (fun i => decide (a ≤ i ∧ i < b)) lo n = max 0 (min (lo + n) b - a)
  | 0, h1, h2 => by simp only [cnt]; omega
  | n + 1, h1, h2 => by
    rw [cnt, cnt_span lo n h1 h2]
    by_cases c : a ≤ lo + n ∧ lo + n < b
    · rw [if_pos (by simpa using c)]; omega
    · rw [if_neg (by simpa using c)]; omega
theorem cnt_none (lo : Int) : ∀ n : Nat, cnt (fun _ => false) lo n = 0
  | 0 => rfl
  | n + 1 => by rw [cnt, cnt_none]; rfl
/-- the number of integers of a canonical list -/
theorem tot_cnt : ∀ {l : List Sp} {lo : Int} {n : Nat}, Can l → (∀ s ∈ l, lo ≤ s.1 ∧ s.2 ≤ lo + n) → tot l = cnt (has l) lo n
  | [], lo, n, _, _ => by
    have : cnt (has []) lo n = cnt (fun _ => false) lo n := cnt_congr fun i => rfl
    rw [this, cnt_none]; rfl
  | s :: l, lo, n, hc, hb => by
    obtain ⟨s1, s2, s3⟩ := Can_cons.1 hc
    have b := hb s (by simp)
    have ih := tot_cnt (l := l) (lo := lo) (n := n) s3 (fun t ht => hb t (by simp [ht]))
    have e1 := cnt_or_and (fun i => decide (s.1 ≤ i ∧ i < s.2)) (has l) lo n
    have e2 : cnt (fun i => decide (s.1 ≤ i ∧ i < s.2) && has l i) lo n = 0 := by
      rw [← cnt_none lo n]
      refine cnt_congr fun i => ?_
      rw [Bool.and_eq_false_iff]
      by_cases c : s.1 ≤ i ∧ i < s.2
      · right
        rw [Bool.eq_false_iff]
        intro h
        have := Mem_lt s2 (has_iff.1 h)
        omega
      · left; simpa using c
    have e3 : cnt (has (s :: l)) lo n = cnt (fun i => decide (s.1 ≤ i ∧ i < s.2) || has l i) lo n := cnt_congr fun i => by simp [has]
    have e4 := cnt_span (a := s.1) (b := s.2) lo n b.1 (by omega)
    rw [tot_cons, ih, e3]
    unfold size
    rw [if_pos s1]
    omega
theorem Can_within {l m : List Sp} {lo hi : Int} (hc : Can l) (h : ∀ n, Mem n l → Mem n m) (hb : ∀ s ∈ m, lo ≤ s.1 ∧ s.2 ≤ hi) : ∀ s ∈ l, lo ≤ s.1 ∧ s.2 ≤ hi := by
  intro s hs
  have h1 := hc.1 s hs
  obtain ⟨t, ht, k1, k2⟩ := h s.1 ⟨s, hs, Int.le_refl _, h1⟩
  obtain ⟨t', ht', k1', k2'⟩ := h (s.2 - 1) ⟨s, hs, by omega, by omega⟩
  have := hb t ht
  have := hb t' ht'
  omega
/-- THE NUMBERS OF INTEGERS ADD UP -/
theorem measure {a b : List Sp} {lo : Int} {n : Nat} (ha : ∀ s ∈ a, lo ≤ s.1 ∧ s.2 ≤ lo + n) (hb : ∀ s ∈ b, lo ≤ s.1 ∧ s.2 ≤ lo + n) :
    tot (canon (a ++ b)) + tot (common a b) = tot (canon a) + tot (canon b) ∧ tot (minus a b) = tot (canon a) - tot (common a b) ∧
    tot (canon (a ++ b)) ≤ n ∧ tot (common a b) ≤ n ∧ tot (canon a) ≤ n ∧ tot (canon b) ≤ n ∧ tot (minus a b) ≤ n := by
  have ca := canon_ok a
  have cb := canon_ok b
  have cu := canon_ok (a ++ b)
  have cc := common_ok a b
  have cm := minus_ok a b
  have hab : ∀ s ∈ a ++ b, lo ≤ s.1 ∧ s.2 ≤ lo + n := fun s hs => (List.mem_append.1 hs).elim (ha s) (hb s)
  have wa := Can_within ca.1 (fun i h => (ca.2 i).1 h) ha
  have wb := Can_within cb.1 (fun i h => (cb.2 i).1 h) hb
  have wu := Can_within cu.1 (fun i h => (cu.2 i).1 h) hab
  have wc := Can_within cc.1 (fun i h => ((cc.2 i).1 h).1) ha
  have wm := Can_within cm.1 (fun i h => ((cm.2 i).1 h).1) ha
  have ea := tot_cnt ca.1 wa
  have eb := tot_cnt cb.1 wb
  have eu := tot_cnt cu.1 wu
  have ec := tot_cnt cc.1 wc
  have em := tot_cnt cm.1 wm
  have fa : ∀ i, has (canon a) i = has a i := fun i => has_congr (ca.2 i)
  have fb : ∀ i, has (canon b) i = has b i := fun i => has_congr (cb.2 i)
  have fu : ∀ i, has (canon (a ++ b)) i = (has a i || has b i) := fun i => by
    rw [Bool.eq_iff_iff, has_iff, cu.2, Mem_append, Bool.or_eq_true, has_iff, has_iff]
  have fc : ∀ i, has (common a b) i = (has a i && has b i) := fun i => by
    rw [Bool.eq_iff_iff, has_iff, cc.2, Bool.and_eq_true, has_iff, has_iff]
  have fm : ∀ i, has (minus a b) i = (has a i && !has b i) := fun i => by
    rw [Bool.eq_iff_iff, has_iff, cm.2, Bool.and_eq_true, has_iff, Bool.not_eq_true', Bool.eq_false_iff, Ne, has_iff]
  rw [cnt_congr fa] at ea
  rw [cnt_congr fb] at eb
  rw [cnt_congr fu] at eu
  rw [cnt_congr fc] at ec
  rw [cnt_congr fm] at em
  have k1 := cnt_or_and (has a) (has b) lo n
  have k2 := cnt_minus (has a) (has b) lo n
  have l1 := tot_le ca.1 (by omega) wa
  have l2 := tot_le cb.1 (by omega) wb
  have l3 := tot_le cu.1 (by omega) wu
  have l4 := tot_le cc.1 (by omega) wc
  have l5 := tot_le cm.1 (by omega) wm
  omega

/-! ### the longest -/
def longer (b s : Sp) : Sp := if len b < len s then s else b
def longest (l : List Sp) : Sp := (canon l).foldl longer (0, 0)
theorem len_pos {s : Sp} (h : s.1 < s.2) : 0 < len s := by unfold len size top; rw [if_pos h]; omega
theorem longer_first {s : Sp} (h : s.1 < s.2) : longer (0, 0) s = s := by
  have := len_pos h
  unfold longer
  rw [if_pos (by show min (size (0, 0)) top < len s; simp [size, top]; omega)]
/-- the first of the longest: what foldl leaves -/
theorem longest_spec : ∀ {l : List Sp} {b : Sp}, len b ≤ len (l.foldl longer b) ∧ (∀ s ∈ l, len s ≤ len (l.foldl longer b)) ∧
    (l.foldl longer b = b ∨ (len b < len (l.foldl longer b) ∧ ∃ p q, l = p ++ l.foldl longer b :: q ∧ ∀ s ∈ p, len s < len (l.foldl longer b)))
  | [], b => ⟨Int.le_refl _, (fun _ h => by cases h), .inl rfl⟩
  | s :: l, b => by
    obtain ⟨h1, h2, h3⟩ := longest_spec (l := l) (b := longer b s)
    rw [List.foldl_cons]
    generalize hr : l.foldl longer (longer b s) = r at *
    have hb : len b ≤ len (longer b s) ∧ len s ≤ len (longer b s) := by unfold longer; split <;> omega
    refine ⟨by omega, fun t ht => ?_, ?_⟩
    · rcases List.mem_cons.1 ht with rfl | ht
      · omega
      · exact h2 t ht
    · rcases h3 with h3 | ⟨h3, p, q, h4, h5⟩
      · by_cases c : len b < len s
        · have e : longer b s = s := by unfold longer; rw [if_pos c]
          rw [e] at h3
          right
          refine ⟨by rw [h3]; exact c, [], l, by rw [h3]; rfl, fun _ h => by cases h⟩
        · have e : longer b s = b := by unfold longer; rw [if_neg c]
          rw [e] at h3
          exact .inl h3
      · right
        refine ⟨by omega, s :: p, q, by rw [h4]; rfl, fun t ht => ?_⟩
        rcases List.mem_cons.1 ht with rfl | ht
        · omega
        · exact h5 t ht

end SpanM
namespace SpanM
/-- Is, by a walk along the list: q is the end of the span before -/
def gapOk : Option Int → Int → Bool
  | none, _ => true
  | some e, a => decide (e < a)
def isGo : Option Int → List Sp → Bool
  | _, [] => true
  | q, s :: l => decide (s.1 < s.2) && gapOk q s.1 && isGo (some s.2) l
theorem isGo_of_can : ∀ {l : List Sp} {q : Option Int}, Can l → (∀ e, q = some e → ∀ s ∈ l, e < s.1) → isGo q l = true
  | [], _, _, _ => rfl
  | s :: l, q, h, hq => by
    obtain ⟨s1, s2, s3⟩ := Can_cons.1 h
    have ih := isGo_of_can (q := some s.2) s3 (fun e he t ht => by cases he; exact s2 t ht)
    rw [isGo, ih, Bool.and_true, Bool.and_eq_true]
    refine ⟨by simpa using s1, ?_⟩
    cases q with
    | none => rfl
    | some e => simpa [gapOk] using hq e rfl s (by simp)
theorem isGo_can {l : List Sp} (h : Can l) : isGo none l = true := isGo_of_can h (fun e he => by cases he)
/-- two lists are equal -/
def same (a b : List Sp) : Bool := decide (a = b)
/-- all numbers lie between -2^60 and 2^60 -/
def smallB (l : List Sp) : Bool := l.all fun s => decide (-1152921504606846976 ≤ s.1 ∧ s.1 ≤ 1152921504606846976 ∧ -1152921504606846976 ≤ s.2 ∧ s.2 ≤ 1152921504606846976)
end SpanM
namespace SpanM
theorem merge_len (r : List Sp) (s : Sp) : (merge r s).length ≤ r.length + 1 := by
  rcases List.eq_nil_or_concat r with rfl | ⟨r', q, rfl⟩
  · simp [merge_nil]
  · rw [List.concat_eq_append, merge_snoc]; split <;> simp
theorem foldl_merge_len : ∀ (l r : List Sp), (l.foldl merge r).length ≤ r.length + l.length
  | [], r => by simp
  | s :: l, r => by
    have h1 := foldl_merge_len l (merge r s)
    have h2 := merge_len r s
    simp only [List.foldl_cons, List.length_cons]
    omega
theorem canon_len (l : List Sp) : (canon l).length ≤ l.length := by
  have h1 := foldl_merge_len ((l.filter ne).mergeSort fun x y => !ltS y x) []
  have h2 := List.length_filter_le ne l
  unfold canon
  simp only [List.length_nil, List.length_mergeSort, Nat.zero_add] at h1
  omega
/-- the two ends are ints of 64 bits -/
def In (s : Sp) : Prop := -9223372036854775808 ≤ s.1 ∧ s.1 ≤ 9223372036854775807 ∧ -9223372036854775808 ≤ s.2 ∧ s.2 ≤ 9223372036854775807
theorem In_sub {l m : List Sp} (hc : Can l) (h : ∀ n, Mem n l → Mem n m) (hm : ∀ s ∈ m, In s) : ∀ s ∈ l, In s := by
  intro s hs
  have h1 := hc.1 s hs
  have := Can_within (lo := -9223372036854775808) (hi := 9223372036854775807) hc h (fun s hs => ⟨(hm s hs).1, (hm s hs).2.2.2⟩) s hs
  exact ⟨this.1, by omega, by omega, this.2⟩
theorem canon_in {l : List Sp} (h : ∀ s ∈ l, In s) : ∀ s ∈ canon l, In s := In_sub (canon_ok l).1 (fun n => ((canon_ok l).2 n).1) h
theorem tot_canon {l : List Sp} (h : ∀ s ∈ l, In s) : 0 ≤ tot (canon l) ∧ tot (canon l) ≤ 18446744073709551615 := by
  refine ⟨tot_nn _, ?_⟩
  have h2 := canon_in h
  have := tot_le (l := canon l) (lo := -9223372036854775808) (hi := 9223372036854775807) (canon_ok l).1 (by omega) (fun s hs => ⟨(h2 s hs).1, (h2 s hs).2.2.2⟩)
  omega
end SpanM
namespace SpanM
theorem opt_len (s : Sp) : (opt s).length ≤ 1 := by unfold opt; split <;> simp
theorem holes_len (s : Sp) : ∀ (b : List Sp) (at0 : Int), (holes s at0 b).length ≤ b.length + 1
  | [], at0 => by have := opt_len (at0, s.2); simp only [holes, List.length_nil]; omega
  | h :: b, at0 => by
    rw [holes]
    split
    · have := opt_len (at0, s.2); simp only [List.length_cons]; omega
    · have h1 := opt_len (at0, h.1)
      have h2 := holes_len s b h.2
      simp only [List.length_append, List.length_cons]
      omega
theorem dropWhile_len (p : Sp → Bool) : ∀ b : List Sp, (b.dropWhile p).length ≤ b.length
  | [] => by simp
  | x :: b => by
    rw [List.dropWhile_cons]
    split
    · have := dropWhile_len p b; simp only [List.length_cons]; omega
    · simp
theorem minusFrom_len : ∀ (a b : List Sp), (minusFrom a b).length ≤ a.length * (b.length + 1)
  | [], b => by simp [minusFrom]
  | s :: a, b => by
    have h1 := holes_len s (b.dropWhile (past s)) s.1
    have h2 := minusFrom_len a (b.dropWhile (past s))
    have h3 := dropWhile_len (past s) b
    have h4 : a.length * ((b.dropWhile (past s)).length + 1) ≤ a.length * (b.length + 1) := Nat.mul_le_mul_left _ (by omega)
    rw [minusFrom, List.length_append, List.length_cons, Nat.succ_mul]
    omega
theorem minus_len (a b : List Sp) (ha : a.length ≤ 1048576) (hb : b.length ≤ 1048576) : (minusFrom (canon a) (canon b)).length ≤ 1099512676352 := by
  have h1 := minusFrom_len (canon a) (canon b)
  have h2 := canon_len a
  have h3 := canon_len b
  have h4 : (canon a).length * ((canon b).length + 1) ≤ 1048576 * 1048577 := Nat.mul_le_mul (by omega) (by omega)
  omega
theorem dropWhile_yes {p : Sp → Bool} {x : Sp} {y : List Sp} (h : p x = true) : (x :: y).dropWhile p = y.dropWhile p := by rw [List.dropWhile_cons, if_pos h]
theorem dropWhile_no {p : Sp → Bool} {x : Sp} {y : List Sp} (h : p x = false) : (x :: y).dropWhile p = x :: y := by rw [List.dropWhile_cons, if_neg (by simp [h])]
end SpanM
