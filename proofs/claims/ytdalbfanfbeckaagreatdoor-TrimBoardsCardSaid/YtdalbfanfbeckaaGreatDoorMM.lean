/-
  Chapter 26: several texts in one (MA, MB).
-/

section
/- Chapter 26, the plain part: lines, cuts, best pieces, clips. -/
set_option linter.unusedVariables false
/-
  Chapter 26, the plain part: what the line of a board is.
-/
namespace TrimM

structure Bx where
  xa : Int
  xb : Int
  ya : Int
  yb : Int
  za : Int
  zb : Int
structure Df where
  k : Int
  b : Bx
structure Pdt where
  nm : ByteArray
  th : Int
  wi : Int
  al : Int
  wa : Int
  ls : List Int
  ps : List Int

/-- a name: small letters, behind the first also digits and the underscore -/
def small (c : UInt8) : Bool := decide (97 ≤ c.toNat ∧ c.toNat ≤ 122)
def digit (c : UInt8) : Bool := decide (48 ≤ c.toNat ∧ c.toNat ≤ 57)
def tailOk (l : List UInt8) : Bool := l.all fun c => small c || digit c || c.toNat == 95
def nameL : List UInt8 → Bool
  | [] => false
  | c :: l => decide (l.length + 1 ≤ 16) && small c && tailOk l

def sized (n : Int) : Bool := decide (1 ≤ n ∧ n ≤ 600)
def grow (n al : Int) : Int := (n * (1000 + al) + 999) / 1000
def green (th wi al : Int) : Int × Int := if sized th && sized wi && decide (0 ≤ al ∧ al ≤ 200) then (grow th al, grow wi al) else (0, 0)

/-- the error of lengths, behind a length that may be there -/
def lensE : Option Int → List Int → Int
  | _, [] => 0
  | o, n :: l => if n < 100 ∨ n > 20000 then 9 else match o with
    | none => lensE (some n) l
    | some m => if n ≤ m then 11 else lensE (some n) l
def pricesE : List Int → Int
  | [] => 0
  | n :: l => if n < 0 ∨ n > 1000000 then 9 else pricesE l
def listsE (ls ps : List Int) : Int :=
  if ls.length = 0 then 3 else if ls.length > 8 then 4 else if ps.length ≠ ls.length then 19
  else if lensE none ls ≠ 0 then lensE none ls else pricesE ps
def numE (p : Pdt) : Int :=
  if p.th < 5 ∨ p.th > 300 ∨ p.wi < p.th ∨ p.wi > 600 then 9
  else if p.al < 0 ∨ p.al > 200 ∨ p.wa < 0 ∨ p.wa > 1000 then 9
  else if (green p.th p.wi p.al).2 > 600 then 9 else listsE p.ls p.ps
def prodE (p : Pdt) : Int := if nameL p.nm.data.toList then numE p else 6

def Bx.empty (b : Bx) : Bool := decide (b.xa ≥ b.xb) || decide (b.ya ≥ b.yb) || decide (b.za ≥ b.zb)
def Bx.ranged (b : Bx) : Bool := decide (-600 ≤ b.xa ∧ b.xb ≤ 600 ∧ -600 ≤ b.ya ∧ b.yb ≤ 600 ∧ 0 ≤ b.za ∧ b.zb ≤ 20000)
def dfE (d : Df) : Int := if d.k < 1 ∨ d.k > 6 then 10 else if d.b.empty then 19 else if d.b.ranged then 0 else 9
def dfsE : List Df → Int
  | [] => 0
  | d :: l => if dfE d ≠ 0 then dfE d else dfsE l
def defsE (l : List Df) : Int := if l.length > 64 then 4 else dfsE l

/-- the common part of two spans -/
def meetS (a b c d : Int) : Int × Int := if max a c ≥ min b d then (0, 0) else (max a c, min b d)
def Bx.meet (p q : Bx) : Bx :=
  ⟨(meetS p.xa p.xb q.xa q.xb).1, (meetS p.xa p.xb q.xa q.xb).2, (meetS p.ya p.yb q.ya q.yb).1, (meetS p.ya p.yb q.ya q.yb).2, (meetS p.za p.zb q.za q.zb).1, (meetS p.za p.zb q.za q.zb).2⟩
def touches (d : Df) (b : Bx) : Bool := !(d.b.meet b).empty
/-- a part of a board, in its own coordinates, and in those of its log -/
def Bx.part (b : Bx) (u v : Int) : Bx := ⟨0, b.xb - b.xa, 0, b.yb - b.ya, u, v⟩
def Bx.slab (b : Bx) (u v : Int) : Bx := ⟨b.xa, b.xb, b.ya, b.yb, b.za + u, b.za + v⟩
def gain (x : Bx) (fine : Int) : List Df → Int → Int
  | [], p => max p 0
  | d :: l, p => if touches d x then if d.k = 3 then -1 else gain x fine l (p - fine) else gain x fine l p
/-- the error of the line of a board -/
def chkE (b : Bx) (ds : List Df) (p : Pdt) (step kerf fine : Int) : Int :=
  if prodE p ≠ 0 then prodE p else if defsE ds ≠ 0 then defsE ds
  else if step < 1 ∨ step > 20000 ∨ kerf < 0 ∨ kerf > 20 ∨ fine < 0 ∨ fine > 1000000 then 9
  else if b.empty then 19 else if ¬ b.ranged then 9
  else if ¬ (b.xb - b.xa = (green p.th p.wi p.al).1 ∧ b.yb - b.ya = (green p.th p.wi p.al).2 ∨ b.xb - b.xa = (green p.th p.wi p.al).2 ∧ b.yb - b.ya = (green p.th p.wi p.al).1) then 20
  else if (b.zb - b.za) / step > 2000 then 9 else 0
structure Ln where
  n : Nat
  k : Nat
  sizes : List Nat
  rows : List (List Int)
def row (b : Bx) (ds : List Df) (step fine units n price : Int) : List Int :=
  (List.range (units.toNat + 1 - (n / step).toNat)).map fun i : Nat => gain (b.part ((i : Int) * step) ((i : Int) * step + n)) fine ds price
def keeps (step n : Int) : Bool := decide (n % step = 0 ∧ n ≤ 2000 * step)
def line (b : Bx) (ds : List Df) (p : Pdt) (step kerf fine : Int) : Ln :=
  ⟨((b.zb - b.za) / step).toNat, ((kerf + step - 1) / step).toNat,
   ((p.ls.zip p.ps).filter fun q => keeps step q.1).map fun q => (q.1 / step).toNat,
   ((p.ls.zip p.ps).filter fun q => keeps step q.1).map fun q => row b ds step fine ((b.zb - b.za) / step) q.1 q.2⟩
end TrimM
/-
  Chapter 26, the plain part: cutting a line (kerf, no worth of chips or dust, pitch 1).
-/
namespace TrimM
namespace Ln
variable (L : Ln)
def size (i : Nat) : Nat := L.sizes[i]?.getD 0
def gain (i a : Nat) : Int := (L.rows[i]?.getD [])[a]?.getD (-1)
/-- the fresh edge behind a piece, if there is one -/
def next (e : Nat) : Nat := min (e + L.k) L.n
/-- the pieces that can begin at a place -/
def here (a : Nat) : List (Nat × Nat) := (List.range L.sizes.length).filterMap fun i => if a + L.size i ≤ L.n ∧ 0 ≤ L.gain i a then some (i, a) else none
/-- the worth of a piece and of all behind it -/
def worth (E : Nat → Int) (x : Nat × Nat) : Int := L.gain x.1 x.2 + (if x.2 + L.size x.1 = L.n then 0 else E (L.next (x.2 + L.size x.1)))
def better (E : Nat → Int) (c : Option (Nat × Nat) × Int) (x : Nat × Nat) : Option (Nat × Nat) × Int := if L.worth E x > c.2 then (some x, L.worth E x) else c
/-- the places at which the next piece can begin, if p is a fresh edge -/
def places (p : Nat) : List Nat := p :: List.range' (p + 1 + L.k) (L.n - (p + L.k))
def cands (p : Nat) : List (Nat × Nat) := (L.places p).flatMap L.here
def bestAt (E : Nat → Int) (p : Nat) : Option (Nat × Nat) × Int := (L.cands p).foldl (L.better E) (none, 0)
def EF : Nat → Nat → Option (Nat × Nat) × Int
  | 0, _ => (none, 0)
  | f + 1, p => L.bestAt (fun q => (EF f q).2) p
/-- the best choice at a fresh edge -/
def E (p : Nat) : Option (Nat × Nat) × Int := L.EF (L.n + 1 - p) p
structure Good : Prop where
  pos : ∀ s ∈ L.sizes, 0 < s
end Ln
variable {L : Ln}
theorem Ln.Good.size_pos (h : L.Good) {i : Nat} (hi : i < L.sizes.length) : 0 < L.size i := by
  unfold Ln.size
  rw [List.getElem?_eq_getElem hi]
  exact h.pos _ (List.getElem_mem hi)
theorem mem_here {a : Nat} {x : Nat × Nat} : x ∈ L.here a ↔ x.2 = a ∧ x.1 < L.sizes.length ∧ a + L.size x.1 ≤ L.n ∧ 0 ≤ L.gain x.1 a := by
  obtain ⟨i, b⟩ := x
  unfold Ln.here
  simp only [List.mem_filterMap, List.mem_range, Option.ite_none_right_eq_some, Option.some.injEq, Prod.mk.injEq]
  constructor
  · rintro ⟨j, h1, h2, rfl, rfl⟩; exact ⟨rfl, h1, h2⟩
  · rintro ⟨rfl, h1, h2⟩; exact ⟨i, h1, h2, rfl, rfl⟩
theorem mem_places {p a : Nat} (hp : p ≤ L.n) : a ∈ L.places p ↔ a = p ∨ p + 1 + L.k ≤ a ∧ a ≤ L.n := by
  unfold Ln.places
  rw [List.mem_cons, List.mem_range'_1]
  omega
theorem mem_cands {p : Nat} (hp : p ≤ L.n) {x : Nat × Nat} : x ∈ L.cands p ↔ (x.2 = p ∨ p + 1 + L.k ≤ x.2) ∧ x.1 < L.sizes.length ∧ x.2 + L.size x.1 ≤ L.n ∧ 0 ≤ L.gain x.1 x.2 := by
  unfold Ln.cands
  rw [List.mem_flatMap]
  constructor
  · rintro ⟨a, h1, h2⟩
    obtain ⟨rfl, h3⟩ := mem_here.1 h2
    rw [mem_places hp] at h1
    exact ⟨by omega, h3⟩
  · rintro ⟨h1, h2, h3, h4⟩
    exact ⟨x.2, (mem_places hp).2 (by omega), mem_here.2 ⟨rfl, h2, h3, h4⟩⟩
theorem foldl_congr {α β : Type} {f g : β → α → β} : ∀ (l : List α) (b : β), (∀ b x, x ∈ l → f b x = g b x) → l.foldl f b = l.foldl g b
  | [], _, _ => rfl
  | x :: l, b, h => by
    rw [List.foldl_cons, List.foldl_cons, h b x (by simp)]
    exact foldl_congr l _ fun b y hy => h b y (by simp [hy])
theorem bestAt_congr (hL : L.Good) {E F : Nat → Int} {p : Nat} (hp : p ≤ L.n) (h : ∀ q, p < q → q ≤ L.n → E q = F q) : L.bestAt E p = L.bestAt F p := by
  unfold Ln.bestAt
  apply foldl_congr
  intro b x hx
  obtain ⟨h1, h2, h3, h4⟩ := (mem_cands hp).1 hx
  have h5 := hL.size_pos h2
  have : L.worth E x = L.worth F x := by
    unfold Ln.worth
    by_cases c : x.2 + L.size x.1 = L.n
    · rw [if_pos c, if_pos c]
    · rw [if_neg c, if_neg c, h]
      · unfold Ln.next; omega
      · unfold Ln.next; omega
  unfold Ln.better
  rw [this]
theorem EF_stable (hL : L.Good) : ∀ (f p : Nat), p ≤ L.n → L.n + 1 - p ≤ f → L.EF f p = L.E p := by
  have key : ∀ (m f g p : Nat), p ≤ L.n → L.n + 1 - p ≤ m → L.n + 1 - p ≤ f → L.n + 1 - p ≤ g → L.EF f p = L.EF g p := by
    intro m
    induction m with
    | zero => intro f g p h1 h2; omega
    | succ m ih =>
      intro f g p h1 h2 h3 h4
      obtain ⟨f', rfl⟩ : ∃ f', f = f' + 1 := ⟨f - 1, by omega⟩
      obtain ⟨g', rfl⟩ : ∃ g', g = g' + 1 := ⟨g - 1, by omega⟩
      show L.bestAt _ p = L.bestAt _ p
      exact bestAt_congr hL h1 fun q k1 k2 => by rw [ih f' g' q k2 (by omega) (by omega) (by omega)]
  intro f p h1 h2
  exact key _ _ _ _ h1 (Nat.le_refl _) h2 (Nat.le_refl _)
theorem E_eq (hL : L.Good) {p : Nat} (hp : p ≤ L.n) : L.E p = L.bestAt (fun q => (L.E q).2) p := by
  have h : L.E p = L.EF (L.n - p + 1) p := (EF_stable hL _ p hp (by omega)).symm
  rw [h]
  show L.bestAt _ p = _
  exact bestAt_congr hL hp fun q k1 k2 => by rw [EF_stable hL _ q k2 (by omega)]
/-- what a fold by 'better' is: as great as all, and the first of the greatest -/
theorem fold_ge (E : Nat → Int) : ∀ (l : List (Nat × Nat)) (c : Option (Nat × Nat) × Int), c.2 ≤ (l.foldl (L.better E) c).2 ∧ ∀ x ∈ l, L.worth E x ≤ (l.foldl (L.better E) c).2
  | [], c => ⟨Int.le_refl _, by simp⟩
  | y :: l, c => by
    rw [List.foldl_cons]
    obtain ⟨h1, h2⟩ := fold_ge E l (L.better E c y)
    have h3 : c.2 ≤ (L.better E c y).2 ∧ L.worth E y ≤ (L.better E c y).2 := by
      unfold Ln.better
      split
      · exact ⟨by simp only; omega, Int.le_refl _⟩
      · exact ⟨Int.le_refl _, by omega⟩
    refine ⟨by omega, fun x hx => ?_⟩
    rcases List.mem_cons.1 hx with rfl | hx
    · omega
    · exact h2 x hx
theorem fold_mem (E : Nat → Int) : ∀ (l : List (Nat × Nat)) (c : Option (Nat × Nat) × Int), l.foldl (L.better E) c = c ∨ ∃ x ∈ l, l.foldl (L.better E) c = (some x, L.worth E x)
  | [], c => Or.inl rfl
  | y :: l, c => by
    rw [List.foldl_cons]
    rcases fold_mem E l (L.better E c y) with h | ⟨x, hx, h⟩
    · rw [h]
      unfold Ln.better
      split
      · exact Or.inr ⟨y, by simp, rfl⟩
      · exact Or.inl rfl
    · exact Or.inr ⟨x, by simp [hx], h⟩
end TrimM
/-
  Chapter 26, the plain part: cutting pieces from a line, the parts that are taken, and the gaps between them.
-/
namespace TrimM
abbrev Sp := Int × Int
def addS (l : List Sp) (a b : Int) : List Sp := if a < b then l ++ [(a, b)] else l
namespace Ln
variable (L : Ln)
/-- the error of the next piece, if e is the fresh edge (below 0: there is none) -/
def pieceE (e : Int) (x : Sp) : Int :=
  if x.1 < 0 ∨ (L.sizes.length : Int) ≤ x.1 then 9
  else if x.2 < 0 ∨ (L.n : Int) - L.size x.1.toNat < x.2 then 20
  else if e < 0 ∨ x.2 ≠ e ∧ x.2 - L.k - e < 1 then 11
  else if L.gain x.1.toNat x.2.toNat < 0 then 14 else 0
def behind (q : Int) : Int := if q = L.n then -1 else min (q + L.k) L.n
def stop (x : Sp) : Int := x.2 + L.size x.1.toNat
def dustA (e : Int) (x : Sp) (d : List Sp) : List Sp := addS (if e < x.2 then addS d (x.2 - L.k) x.2 else d) (L.stop x) (L.behind (L.stop x))
def chipsA (e : Int) (x : Sp) (c : List Sp) : List Sp := if e < x.2 then addS c e (x.2 - L.k) else c
/-- error, dust and chips of pieces -/
def cuts : Int → List Sp → List Sp → List Sp → Int × List Sp × List Sp
  | e, d, c, [] => (0, d, if 0 ≤ e then addS c e L.n else c)
  | e, d, c, x :: l => if L.pieceE e x = 0 then cuts (L.behind (L.stop x)) (L.dustA e x d) (L.chipsA e x c) l else (L.pieceE e x, [], [])
/-- the pieces can be cut one after the other -/
def chain : Int → List Sp → Prop
  | _, [] => True
  | e, x :: l => L.pieceE e x = 0 ∧ chain (L.behind (L.stop x)) l
/-- boards and dust in their order along the line -/
def laid : Int → List Sp → List Sp
  | _, [] => []
  | e, x :: l => (if e < x.2 then addS [] (x.2 - L.k) x.2 else []) ++ (x.2, L.stop x) :: (addS [] (L.stop x) (L.behind (L.stop x)) ++ laid (L.behind (L.stop x)) l)
/-- the dust alone -/
def dusts : Int → List Sp → List Sp
  | _, [] => []
  | e, x :: l => L.dustA e x [] ++ dusts (L.behind (L.stop x)) l
end Ln
variable {L : Ln}
theorem addS_app (l m : List Sp) (a b : Int) : addS (l ++ m) a b = l ++ addS m a b := by
  unfold addS; split <;> simp
theorem addS_nil (l : List Sp) (a b : Int) : addS l a b = l ++ addS [] a b := by
  rw [← addS_app]; simp
theorem dustA_app (e : Int) (x : Sp) (d : List Sp) : L.dustA e x d = d ++ L.dustA e x [] := by
  unfold Ln.dustA
  split
  · rw [addS_nil d, addS_app]
  · rw [addS_nil d]
theorem cuts_chain : ∀ (l : List Sp) (e : Int) (d c : List Sp), (L.cuts e d c l).1 = 0 → L.chain e l
  | [], _, _, _, _ => trivial
  | x :: l, e, d, c, h => by
    unfold Ln.cuts at h
    split at h
    · rename_i h0; exact ⟨h0, cuts_chain l _ _ _ h⟩
    · rename_i h0; exact absurd h h0
theorem chain_cuts : ∀ (l : List Sp) (e : Int) (d c : List Sp), L.chain e l → (L.cuts e d c l).1 = 0
  | [], _, _, _, _ => rfl
  | x :: l, e, d, c, h => by
    unfold Ln.cuts
    rw [if_pos h.1]
    exact chain_cuts l _ _ _ h.2
theorem cuts_dust : ∀ (l : List Sp) (e : Int) (d c : List Sp), L.chain e l → (L.cuts e d c l).2.1 = d ++ L.dusts e l
  | [], _, _, _, _ => by simp [Ln.cuts, Ln.dusts]
  | x :: l, e, d, c, h => by
    unfold Ln.cuts Ln.dusts
    rw [if_pos h.1, cuts_dust l _ _ _ h.2, dustA_app, List.append_assoc]
theorem cuts_none {e : Int} {d c l : List Sp} : ∀ (h : (L.cuts e d c l).1 ≠ 0), (L.cuts e d c l).2 = ([], []) := by
  induction l generalizing e d c with
  | nil => intro h; exact absurd rfl h
  | cons x l ih =>
    intro h
    unfold Ln.cuts at h ⊢
    split
    · rename_i h0; rw [if_pos h0] at h; exact ih h
    · rfl
/-- what a piece meets -/
theorem pieceE_zero {e : Int} {x : Sp} (h : L.pieceE e x = 0) : 0 ≤ x.1 ∧ x.1 < L.sizes.length ∧ 0 ≤ x.2 ∧ L.stop x ≤ L.n ∧ 0 ≤ e ∧ (x.2 = e ∨ e + 1 + L.k ≤ x.2) ∧ 0 ≤ L.gain x.1.toNat x.2.toNat := by
  unfold Ln.pieceE at h
  unfold Ln.stop
  split at h
  · cases h
  split at h
  · cases h
  split at h
  · cases h
  split at h
  · cases h
  omega
/-- spans one behind the other, from a place on -/
def Seq : Int → List Sp → Prop
  | _, [] => True
  | a, x :: l => a ≤ x.1 ∧ x.1 < x.2 ∧ Seq x.2 l
theorem Seq.mono {l : List Sp} {a b : Int} (h : Seq b l) (hab : a ≤ b) : Seq a l := by
  cases l with
  | nil => trivial
  | cons x l => exact ⟨Int.le_trans hab h.1, h.2⟩
theorem Seq.pairwise : ∀ {l : List Sp} {a : Int}, Seq a l → (∀ x ∈ l, a ≤ x.1 ∧ x.1 < x.2) ∧ l.Pairwise (fun x y => x.2 ≤ y.1)
  | [], _, _ => ⟨by simp, List.Pairwise.nil⟩
  | x :: l, a, h => by
    obtain ⟨h1, h2⟩ := h.2.2.pairwise
    have h3 := h.1
    have h4 := h.2.1
    refine ⟨fun y hy => ?_, List.pairwise_cons.2 ⟨fun y hy => (h1 y hy).1, h2⟩⟩
    rcases List.mem_cons.1 hy with rfl | hy
    · exact ⟨h3, h4⟩
    · have := h1 y hy; omega
/-- the part of a cut that is dust, in mm -/
def dustM (step kerf : Int) (x : Sp) : Sp := (x.1 * step, min (x.1 * step + kerf) (x.2 * step))
def boardM (step : Int) (x : Sp) : Sp := (x.1 * step, x.2 * step)
/-- boards and dust in their order, in mm -/
def laidM (L : Ln) (step kerf : Int) : Int → List Sp → List Sp
  | _, [] => []
  | e, x :: l => ((if e < x.2 then addS [] (x.2 - L.k) x.2 else []).map (dustM step kerf)) ++ boardM step (x.2, L.stop x) :: ((addS [] (L.stop x) (L.behind (L.stop x))).map (dustM step kerf) ++ laidM L step kerf (L.behind (L.stop x)) l)
def boardsM (L : Ln) (step : Int) (l : List Sp) : List Sp := l.map fun x => boardM step (x.2, L.stop x)
def dustsM (L : Ln) (step kerf : Int) (e : Int) (l : List Sp) : List Sp := (L.dusts e l).map (dustM step kerf)
theorem laidM_perm (step kerf : Int) : ∀ (l : List Sp) (e : Int), (laidM L step kerf e l).Perm (boardsM L step l ++ dustsM L step kerf e l)
  | [], _ => by simp [laidM, boardsM, dustsM, Ln.dusts]
  | x :: l, e => by
    have h := laidM_perm step kerf l (L.behind (L.stop x))
    have e1 : dustsM L step kerf e (x :: l) = ((if e < x.2 then addS [] (x.2 - L.k) x.2 else []).map (dustM step kerf)) ++ ((addS [] (L.stop x) (L.behind (L.stop x))).map (dustM step kerf) ++ dustsM L step kerf (L.behind (L.stop x)) l) := by
      unfold dustsM
      rw [Ln.dusts, Ln.dustA, addS_nil, List.map_append, List.map_append, List.append_assoc]
    rw [e1, laidM]
    refine List.perm_iff_count.2 fun a => ?_
    have h2 := List.perm_iff_count.1 h a
    simp only [List.count_append, List.count_cons, boardsM, List.map_cons] at h2 ⊢
    omega
theorem mul_lt {a b s : Int} (h : a < b) (hs : 0 < s) : a * s < b * s := Int.mul_lt_mul_of_pos_right h hs
theorem mul_le {a b s : Int} (h : a ≤ b) (hs : 0 < s) : a * s ≤ b * s := Int.mul_le_mul_of_nonneg_right h (by omega)
theorem dustM_in {a b step kerf : Int} (h : a < b) (hs : 0 < step) (hk : 0 < kerf) : (dustM step kerf (a, b)).1 = a * step ∧ a * step < (dustM step kerf (a, b)).2 ∧ (dustM step kerf (a, b)).2 ≤ b * step := by
  have := mul_lt h hs
  refine ⟨rfl, ?_, ?_⟩
  · show a * step < min (a * step + kerf) (b * step); omega
  · show min (a * step + kerf) (b * step) ≤ b * step; omega
/-- boards and dust lie one behind the other -/
theorem laidM_seq (hL : L.Good) {step kerf : Int} (hs : 0 < step) (hk : 0 < L.k → 0 < kerf) (hkk : kerf ≤ L.k * step) : ∀ (l : List Sp) (e : Int), L.chain e l → 0 ≤ e ∨ l = [] → Seq (e * step) (laidM L step kerf e l) ∧ ∀ x ∈ laidM L step kerf e l, x.2 ≤ L.n * step
  | [], _, _, _ => ⟨trivial, by simp [laidM]⟩
  | x :: l, e, h, he => by
    obtain ⟨h1, h2, h3, h4, h5, h6, _⟩ := pieceE_zero h.1
    have hp := hL.size_pos (i := x.1.toNat) (by omega)
    have hx : x.2 < L.stop x := by unfold Ln.stop; omega
    have hst := mul_lt hx hs
    have hb1 : 0 ≤ L.behind (L.stop x) ∨ l = [] := by
      cases l with
      | nil => exact Or.inr rfl
      | cons y l => exact Or.inl (pieceE_zero h.2.1).2.2.2.2.1
    obtain ⟨i1, i2⟩ := laidM_seq hL hs hk hkk l _ h.2 hb1
    -- what lies behind the piece
    have tail : Seq (L.stop x * step) ((addS [] (L.stop x) (L.behind (L.stop x))).map (dustM step kerf) ++ laidM L step kerf (L.behind (L.stop x)) l) ∧ ∀ y ∈ (addS [] (L.stop x) (L.behind (L.stop x))).map (dustM step kerf) ++ laidM L step kerf (L.behind (L.stop x)) l, y.2 ≤ L.n * step := by
      unfold addS
      split
      · rename_i hlt
        have hb : L.behind (L.stop x) = min (L.stop x + L.k) L.n := by
          unfold Ln.behind; rw [if_neg]; intro hh; unfold Ln.behind at hlt; rw [if_pos hh] at hlt; omega
        have hk0 : 0 < kerf := hk (by omega)
        have m1 := mul_lt hlt hs
        have m2 : L.behind (L.stop x) * step ≤ L.n * step := mul_le (by omega) hs
        obtain ⟨d1, d2, d3⟩ := dustM_in hlt hs hk0
        refine ⟨⟨Int.le_of_eq d1.symm, by rw [d1]; exact d2, i1.mono d3⟩, fun y hy => ?_⟩
        rcases List.mem_append.1 hy with hy | hy
        · simp only [List.nil_append, List.map_cons, List.map_nil, List.mem_singleton] at hy
          subst hy
          omega
        · exact i2 y hy
      · rename_i hlt
        rw [List.map_nil, List.nil_append]
        refine ⟨?_, i2⟩
        cases l with
        | nil => trivial
        | cons y l =>
          have hb : 0 ≤ L.behind (L.stop x) := by rcases hb1 with hb1 | hb1; exact hb1; cases hb1
          have hb2 : L.stop x ≤ L.behind (L.stop x) := by
            unfold Ln.behind at hb ⊢
            split
            · rename_i hh; rw [if_pos hh] at hb; omega
            · omega
          exact i1.mono (mul_le hb2 hs)
    have body : Seq (x.2 * step) (boardM step (x.2, L.stop x) :: ((addS [] (L.stop x) (L.behind (L.stop x))).map (dustM step kerf) ++ laidM L step kerf (L.behind (L.stop x)) l)) := ⟨Int.le_refl _, hst, tail.1⟩
    have hn : L.stop x * step ≤ L.n * step := mul_le h4 hs
    have bound : ∀ y ∈ boardM step (x.2, L.stop x) :: ((addS [] (L.stop x) (L.behind (L.stop x))).map (dustM step kerf) ++ laidM L step kerf (L.behind (L.stop x)) l), y.2 ≤ L.n * step := by
      intro y hy
      rcases List.mem_cons.1 hy with rfl | hy
      · exact hn
      · exact tail.2 y hy
    rw [laidM]
    have hex : e * step ≤ x.2 * step := mul_le (by omega) hs
    split
    · rename_i hlt
      unfold addS
      split
      · rename_i hlt2
        have hk0 : 0 < kerf := hk (by omega)
        have m1 := mul_lt hlt2 hs
        have m3 : e * step ≤ (x.2 - L.k) * step := mul_le (by omega) hs
        obtain ⟨d1, d2, d3⟩ := dustM_in hlt2 hs hk0
        refine ⟨⟨by rw [d1]; exact m3, by rw [d1]; exact d2, body.mono d3⟩, fun y hy => ?_⟩
        rcases List.mem_append.1 hy with hy | hy
        · simp only [List.nil_append, List.map_cons, List.map_nil, List.mem_singleton] at hy
          subst hy
          have m4 := mul_le h4 hs
          omega
        · exact bound y hy
      · exact ⟨body.mono hex, bound⟩
    · exact ⟨body.mono hex, bound⟩
/-- the gaps between spans, up to a length -/
def gaps (n : Int) : Int → List Sp → List Sp
  | a, [] => if a < n then [(a, n)] else []
  | a, x :: l => (if a < x.1 then [(a, x.1)] else []) ++ gaps n (max a x.2) l
/-- spans and gaps together -/
def tiled (n : Int) : Int → List Sp → List Sp
  | a, [] => if a < n then [(a, n)] else []
  | a, x :: l => (if a < x.1 then [(a, x.1)] else []) ++ x :: tiled n (max a x.2) l
theorem tiled_perm (n : Int) : ∀ (l : List Sp) (a : Int), (tiled n a l).Perm (l ++ gaps n a l)
  | [], a => by simp [tiled, gaps]
  | x :: l, a => by
    have h := tiled_perm n l (max a x.2)
    rw [tiled, gaps]
    refine List.perm_iff_count.2 fun y => ?_
    have h2 := List.perm_iff_count.1 h y
    simp only [List.count_append, List.count_cons, List.cons_append] at h2 ⊢
    omega
def sumS (l : List Sp) : Int := (l.map fun x => x.2 - x.1).sum
theorem tiled_sum (n : Int) : ∀ (l : List Sp) (a : Int), Seq a l → (∀ x ∈ l, x.2 ≤ n) → a ≤ n → sumS (tiled n a l) = n - a
  | [], a, _, _, ha => by
    unfold tiled
    split
    · simp [sumS]
    · simp [sumS]; omega
  | x :: l, a, h, hn, ha => by
    have h1 := h.1
    have h2 := h.2.1
    have hm : max a x.2 = x.2 := by omega
    have hx := hn x (by simp)
    rw [tiled, hm]
    have ih := tiled_sum n l x.2 h.2.2 (fun y hy => hn y (by simp [hy])) hx
    unfold sumS at ih ⊢
    rw [List.map_append, List.sum_append, List.map_cons, List.sum_cons, ih]
    split
    · simp; omega
    · simp; omega
theorem tiled_seq (n : Int) : ∀ (l : List Sp) (a : Int), Seq a l → (∀ x ∈ l, x.2 ≤ n) → a ≤ n → Seq a (tiled n a l) ∧ ∀ x ∈ tiled n a l, x.2 ≤ n
  | [], a, _, _, ha => by
    unfold tiled
    split
    · rename_i h; exact ⟨⟨Int.le_refl _, h, trivial⟩, by simp⟩
    · exact ⟨trivial, by simp⟩
  | x :: l, a, h, hn, ha => by
    have h1 := h.1
    have h2 := h.2.1
    have hm : max a x.2 = x.2 := by omega
    have hx := hn x (by simp)
    rw [tiled, hm]
    obtain ⟨i1, i2⟩ := tiled_seq n l x.2 h.2.2 (fun y hy => hn y (by simp [hy])) hx
    split
    · rename_i hlt
      refine ⟨⟨Int.le_refl _, hlt, Int.le_refl _, h2, i1⟩, fun y hy => ?_⟩
      rcases List.mem_append.1 hy with hy | hy
      · rw [List.mem_singleton.1 hy]; show x.1 ≤ n; omega
      · rcases List.mem_cons.1 hy with rfl | hy
        · exact hx
        · exact i2 y hy
    · refine ⟨⟨h1, h2, i1⟩, fun y hy => ?_⟩
      rcases List.mem_append.1 hy with hy | hy
      · cases hy
      · rcases List.mem_cons.1 hy with rfl | hy
        · exact hx
        · exact i2 y hy
/-- two orders of the same spans, both by their beginnings, which differ, are one -/
theorem sorted_unique {l m : List Sp} (hp : l.Perm m) (hl : l.Pairwise (fun x y => x.1 ≤ y.1)) (hm : m.Pairwise (fun x y => x.1 < y.1)) : l = m := by
  induction l generalizing m with
  | nil => exact (List.nil_perm.1 hp).symm
  | cons x l ih =>
    cases m with
    | nil => exact absurd hp.length_eq (by simp)
    | cons y m =>
      have hxy : x = y := by
        have hx := hp.mem_iff.1 (List.mem_cons_self : x ∈ x :: l)
        have hy := hp.mem_iff.2 (List.mem_cons_self : y ∈ y :: m)
        rcases List.mem_cons.1 hx with h | h
        · exact h
        · have h1 := (List.pairwise_cons.1 hm).1 x h
          rcases List.mem_cons.1 hy with h' | h'
          · exact h'.symm
          · have h2 := (List.pairwise_cons.1 hl).1 y h'
            omega
      subst hxy
      rw [ih (List.Perm.cons_inv hp) (List.pairwise_cons.1 hl).2 (List.pairwise_cons.1 hm).2]
/-- two lists as one -/
def merged : List Sp → List Sp → List Sp
  | [], b => b
  | x :: a, [] => x :: a
  | x :: a, y :: b => if x.1 < y.1 then x :: merged a (y :: b) else y :: merged (x :: a) b
termination_by a b => a.length + b.length
theorem merged_nil (a : List Sp) : merged a [] = a := by
  cases a <;> simp [merged]
theorem merged_perm : ∀ (k : Nat) (a b : List Sp), a.length + b.length ≤ k → (merged a b).Perm (a ++ b)
  | _, [], b, _ => by simp [merged]
  | _, x :: a, [], _ => by simp [merged]
  | 0, x :: a, y :: b, h => by simp at h
  | k + 1, x :: a, y :: b, h => by
    rw [merged]
    simp only [List.length_cons] at h
    split
    · exact (merged_perm k a (y :: b) (by simp only [List.length_cons]; omega)).cons x
    · refine ((merged_perm k (x :: a) b (by simp only [List.length_cons]; omega)).cons y).trans ?_
      exact List.perm_middle.symm
theorem merged_sorted : ∀ (k : Nat) (a b : List Sp), a.length + b.length ≤ k → a.Pairwise (fun x y => x.1 ≤ y.1) → b.Pairwise (fun x y => x.1 ≤ y.1) → (merged a b).Pairwise (fun x y => x.1 ≤ y.1)
  | _, [], b, _, _, hb => by simpa [merged] using hb
  | _, x :: a, [], _, ha, _ => by simpa [merged] using ha
  | 0, x :: a, y :: b, h, _, _ => by simp at h
  | k + 1, x :: a, y :: b, h, ha, hb => by
    rw [merged]
    simp only [List.length_cons] at h
    obtain ⟨a1, a2⟩ := List.pairwise_cons.1 ha
    obtain ⟨b1, b2⟩ := List.pairwise_cons.1 hb
    split
    · rename_i hlt
      refine List.pairwise_cons.2 ⟨fun z hz => ?_, merged_sorted k a (y :: b) (by simp only [List.length_cons]; omega) a2 hb⟩
      have := (merged_perm _ a (y :: b) (Nat.le_refl _)).mem_iff.1 hz
      rcases List.mem_append.1 this with hz | hz
      · exact a1 z hz
      · rcases List.mem_cons.1 hz with rfl | hz
        · omega
        · have := b1 z hz; omega
    · rename_i hlt
      refine List.pairwise_cons.2 ⟨fun z hz => ?_, merged_sorted k (x :: a) b (by simp only [List.length_cons]; omega) ha b2⟩
      have := (merged_perm _ (x :: a) b (Nat.le_refl _)).mem_iff.1 hz
      rcases List.mem_append.1 this with hz | hz
      · rcases List.mem_cons.1 hz with rfl | hz
        · omega
        · have := a1 z hz; omega
      · exact b1 z hz
end TrimM
/-
  Chapter 26, the plain part: the best pieces.
-/
namespace TrimM
variable {L : Ln}
/-- a piece, as the program holds it -/
def pc (x : Nat × Nat) : Sp := ((x.1 : Int), (x.2 : Int))
def gains (L : Ln) (l : List Sp) : Int := (l.map fun x => L.gain x.1.toNat x.2.toNat).sum
theorem stop_pc (x : Nat × Nat) : L.stop (pc x) = ((x.2 + L.size x.1 : Nat) : Int) := by
  unfold Ln.stop pc; simp
theorem E_ge (hL : L.Good) {p : Nat} (hp : p ≤ L.n) : 0 ≤ (L.E p).2 ∧ ∀ x ∈ L.cands p, L.worth (fun q => (L.E q).2) x ≤ (L.E p).2 := by
  rw [E_eq hL hp]
  exact fold_ge _ _ _
theorem E_mem (hL : L.Good) {p : Nat} (hp : p ≤ L.n) : L.E p = (none, 0) ∨ ∃ x ∈ L.cands p, L.E p = (some x, L.worth (fun q => (L.E q).2) x) := by
  rw [E_eq hL hp]
  exact fold_mem _ _ _
/-- no pieces are worth more -/
theorem chain_le (hL : L.Good) : ∀ (l : List Sp) (p : Nat), p ≤ L.n → L.chain p l → gains L l ≤ (L.E p).2
  | [], p, hp, _ => by simpa [gains] using (E_ge hL hp).1
  | x :: l, p, hp, h => by
    obtain ⟨h1, h2, h3, h4, h5, h6, h7⟩ := pieceE_zero h.1
    obtain ⟨y, rfl⟩ : ∃ y : Nat × Nat, x = pc y := ⟨(x.1.toNat, x.2.toNat), by unfold pc; ext <;> simp <;> omega⟩
    have hy1 : y.1 < L.sizes.length := by unfold pc at h2; simp at h2; exact h2
    have e1 : (pc y).1.toNat = y.1 := by simp [pc]
    have e2 : (pc y).2.toNat = y.2 := by simp [pc]
    have hst := stop_pc (L := L) y
    have hy2 : y.2 + L.size y.1 ≤ L.n := by omega
    have hsz := hL.size_pos hy1
    rw [e1, e2] at h7
    have e3 : (pc y).2 = (y.2 : Int) := rfl
    have hc : y ∈ L.cands p := (mem_cands hp).2 ⟨by omega, hy1, hy2, h7⟩
    have hw := (E_ge hL hp).2 y hc
    have hg : gains L (pc y :: l) = L.gain y.1 y.2 + gains L l := by simp [gains, e1, e2]
    rw [hg]
    unfold Ln.worth at hw
    simp only at hw
    by_cases he : y.2 + L.size y.1 = L.n
    · rw [if_pos he] at hw
      have hb : L.behind (L.stop (pc y)) = -1 := by unfold Ln.behind; rw [hst, if_pos (by omega)]
      have hl : l = [] := by
        cases l with
        | nil => rfl
        | cons z l =>
          have := (pieceE_zero h.2.1).2.2.2.2.1
          omega
      subst hl
      simpa [gains] using hw
    · rw [if_neg he] at hw
      have hb : L.behind (L.stop (pc y)) = ((L.next (y.2 + L.size y.1) : Nat) : Int) := by
        unfold Ln.behind Ln.next; rw [hst, if_neg (by omega)]; omega
      have h8 := h.2
      rw [hb] at h8
      have := chain_le hL l (L.next (y.2 + L.size y.1)) (by unfold Ln.next; omega) h8
      omega
/-- the pieces that the best choices name -/
def bestF (L : Ln) : Nat → Nat → List (Nat × Nat)
  | 0, _ => []
  | f + 1, p => match (L.E p).1 with
    | none => []
    | some x => x :: if x.2 + L.size x.1 = L.n then [] else bestF L f (L.next (x.2 + L.size x.1))
theorem bestF_stable (hL : L.Good) : ∀ (m f g p : Nat), p ≤ L.n → L.n + 1 - p ≤ m → L.n + 1 - p ≤ f → L.n + 1 - p ≤ g → bestF L f p = bestF L g p
  | 0, _, _, _, h1, h2, _, _ => by omega
  | m + 1, f, g, p, h1, h2, h3, h4 => by
    obtain ⟨f', rfl⟩ : ∃ f', f = f' + 1 := ⟨f - 1, by omega⟩
    obtain ⟨g', rfl⟩ : ∃ g', g = g' + 1 := ⟨g - 1, by omega⟩
    rw [bestF, bestF]
    rcases E_mem hL h1 with e | ⟨x, hx, e⟩
    · rw [e]
    · rw [e]
      simp only
      obtain ⟨c1, c2, c3, c4⟩ := (mem_cands h1).1 hx
      have c5 := hL.size_pos c2
      by_cases he : x.2 + L.size x.1 = L.n
      · rw [if_pos he, if_pos he]
      · rw [if_neg he, if_neg he, bestF_stable hL m f' g' _ (by unfold Ln.next; omega) (by unfold Ln.next; omega) (by unfold Ln.next; omega) (by unfold Ln.next; omega)]
def bestL (L : Ln) (p : Nat) : List (Nat × Nat) := bestF L (L.n + 1 - p) p
theorem bestL_none (hL : L.Good) {p : Nat} (hp : p ≤ L.n) (h : (L.E p).1 = none) : bestL L p = [] := by
  unfold bestL
  obtain ⟨f, hf⟩ : ∃ f, L.n + 1 - p = f + 1 := ⟨L.n - p, by omega⟩
  rw [hf, bestF, h]
theorem bestL_some (hL : L.Good) {p : Nat} (hp : p ≤ L.n) {x : Nat × Nat} (h : (L.E p).1 = some x) : x ∈ L.cands p ∧ (L.E p).2 = L.worth (fun q => (L.E q).2) x ∧ bestL L p = x :: if x.2 + L.size x.1 = L.n then [] else bestL L (L.next (x.2 + L.size x.1)) := by
  rcases E_mem hL hp with e | ⟨y, hy, e⟩
  · rw [e] at h; cases h
  · rw [e] at h
    obtain rfl : y = x := by injection h
    refine ⟨hy, by rw [e], ?_⟩
    obtain ⟨c1, c2, c3, c4⟩ := (mem_cands hp).1 hy
    have c5 := hL.size_pos c2
    have e1 : (L.E p).1 = some y := by rw [e]
    unfold bestL
    obtain ⟨f, hf⟩ : ∃ f, L.n + 1 - p = f + 1 := ⟨L.n - p, by omega⟩
    rw [hf, bestF, e1]
    simp only
    by_cases he : y.2 + L.size y.1 = L.n
    · rw [if_pos he, if_pos he]
    · rw [if_neg he, if_neg he, bestF_stable hL (L.n + 1) f _ _ (by unfold Ln.next; omega) (by unfold Ln.next; omega) (by unfold Ln.next; omega) (Nat.le_refl _)]
theorem piece_ok {p : Nat} (hp : p ≤ L.n) {x : Nat × Nat} (h : x ∈ L.cands p) : L.pieceE p (pc x) = 0 := by
  obtain ⟨c1, c2, c3, c4⟩ := (mem_cands hp).1 h
  have e1 : (pc x).1.toNat = x.1 := by simp [pc]
  have e2 : (pc x).2.toNat = x.2 := by simp [pc]
  have e3 : (pc x).2 = (x.2 : Int) := rfl
  have e4 : (pc x).1 = (x.1 : Int) := rfl
  unfold Ln.pieceE
  rw [e1, e2, e3, e4, if_neg (by omega), if_neg (by omega), if_neg (by omega), if_neg (by omega)]
/-- the best pieces can be cut, and are worth what the best choice says -/
theorem best_chain (hL : L.Good) : ∀ (k p : Nat), p ≤ L.n → L.n - p < k → L.chain p ((bestL L p).map pc) ∧ gains L ((bestL L p).map pc) = (L.E p).2
  | 0, _, _, h => by omega
  | k + 1, p, hp, hk => by
    cases he : (L.E p).1 with
    | none =>
      rw [bestL_none hL hp he]
      refine ⟨trivial, ?_⟩
      rcases E_mem hL hp with e | ⟨x, hx, e⟩
      · rw [e]; rfl
      · rw [e] at he; cases he
    | some x =>
      obtain ⟨h1, h2, h3⟩ := bestL_some hL hp he
      obtain ⟨c1, c2, c3, c4⟩ := (mem_cands hp).1 h1
      have c5 := hL.size_pos c2
      have hst := stop_pc (L := L) x
      have e1 : (pc x).1.toNat = x.1 := by simp [pc]
      have e2 : (pc x).2.toNat = x.2 := by simp [pc]
      rw [h2, h3]
      unfold Ln.worth
      by_cases hn : x.2 + L.size x.1 = L.n
      · rw [if_pos hn, if_pos hn]
        exact ⟨⟨piece_ok hp h1, trivial⟩, by simp [gains, e1, e2]⟩
      · rw [if_neg hn, if_neg hn]
        have hb : L.behind (L.stop (pc x)) = ((L.next (x.2 + L.size x.1) : Nat) : Int) := by
          unfold Ln.behind Ln.next; rw [hst, if_neg (by omega)]; omega
        obtain ⟨i1, i2⟩ := best_chain hL k (L.next (x.2 + L.size x.1)) (by unfold Ln.next; omega) (by unfold Ln.next; omega)
        refine ⟨⟨piece_ok hp h1, by rw [hb]; exact i1⟩, ?_⟩
        rw [List.map_cons, gains, List.map_cons, List.sum_cons, e1, e2]
        unfold gains at i2
        rw [i2]
theorem E_le (hL : L.Good) {M : Int} (hM : 0 ≤ M) (hg : ∀ i a, L.gain i a ≤ M) : ∀ (k p : Nat), p ≤ L.n → L.n - p < k → (L.E p).2 ≤ ((L.n - p : Nat) : Int) * M
  | 0, _, _, h => by omega
  | k + 1, p, hp, hk => by
    rcases E_mem hL hp with e | ⟨x, hx, e⟩
    · rw [e]; exact Int.mul_nonneg (by omega) hM
    · rw [e]
      obtain ⟨c1, c2, c3, c4⟩ := (mem_cands hp).1 hx
      have c5 := hL.size_pos c2
      have g1 := hg x.1 x.2
      have up : ∀ q : Nat, p < q → q ≤ L.n → ((L.n - q : Nat) : Int) * M + M ≤ ((L.n - p : Nat) : Int) * M := by
        intro q h1 h2
        have e1 : ((L.n - q : Nat) : Int) * M + M = (((L.n - q : Nat) : Int) + 1) * M := by rw [Int.add_mul, Int.one_mul]
        rw [e1]
        exact Int.mul_le_mul_of_nonneg_right (by omega) hM
      unfold Ln.worth
      simp only
      by_cases hn : x.2 + L.size x.1 = L.n
      · rw [if_pos hn]
        have := up L.n (by omega) (Nat.le_refl _)
        simp at this ⊢
        omega
      · rw [if_neg hn]
        have h1 := E_le hL hM hg k (L.next (x.2 + L.size x.1)) (by unfold Ln.next; omega) (by unfold Ln.next; omega)
        have h2 := up (L.next (x.2 + L.size x.1)) (by unfold Ln.next; omega) (by unfold Ln.next; omega)
        omega
/-- the first greatest worth of a list -/
def topS (L : Ln) (E : Nat → Int) (c : Option ((Nat × Nat) × Int)) (x : Nat × Nat) : Option ((Nat × Nat) × Int) := match c with
  | none => some (x, L.worth E x)
  | some c => some (if L.worth E x > c.2 then (x, L.worth E x) else c)
def topOf (L : Ln) (E : Nat → Int) (l : List (Nat × Nat)) : Option ((Nat × Nat) × Int) := l.foldl (topS L E) none
/-- the better one of a choice and a piece that may be there -/
def take (c : Option (Nat × Nat) × Int) : Option ((Nat × Nat) × Int) → Option (Nat × Nat) × Int
  | none => c
  | some t => if t.2 > c.2 then (some t.1, t.2) else c
theorem better_fold (E : Nat → Int) (c : Option (Nat × Nat) × Int) : ∀ (l : List (Nat × Nat)) (o : Option ((Nat × Nat) × Int)), l.foldl (L.better E) (take c o) = take c (l.foldl (topS L E) o)
  | [], _ => rfl
  | x :: l, o => by
    rw [List.foldl_cons, List.foldl_cons, ← better_fold E c l]
    congr 1
    cases o with
    | none => rfl
    | some t =>
      unfold Ln.better topS take
      simp only
      by_cases h1 : t.2 > c.2
      · rw [if_pos h1]
        by_cases h2 : L.worth E x > t.2
        · rw [if_pos h2, if_pos h2, if_pos (by show L.worth E x > c.2; omega)]
        · rw [if_neg h2, if_neg h2, if_pos h1]
      · rw [if_neg h1]
        by_cases h2 : L.worth E x > t.2
        · rw [if_pos h2]
        · rw [if_neg h2, if_neg h1, if_neg (by omega)]
theorem better_top (E : Nat → Int) (c : Option (Nat × Nat) × Int) (l : List (Nat × Nat)) : l.foldl (L.better E) c = take c (topOf L E l) := better_fold E c l none
theorem bestAt_top (E : Nat → Int) (p : Nat) : L.bestAt E p = (L.places p).foldl (fun c a => take c (topOf L E (L.here a))) (none, 0) := by
  unfold Ln.bestAt Ln.cands
  have : ∀ (l : List Nat) (c : Option (Nat × Nat) × Int), (l.flatMap L.here).foldl (L.better E) c = l.foldl (fun c a => take c (topOf L E (L.here a))) c := by
    intro l
    induction l with
    | nil => intro c; rfl
    | cons a l ih => intro c; rw [List.flatMap_cons, List.foldl_append, ih, List.foldl_cons, better_top]
  exact this _ _
end TrimM
/-
  Chapter 26, the plain part: what the deduction does, and how defects are clipped.
-/
namespace TrimM
/-- a rot meets the part -/
def rotten (x : Bx) (ds : List Df) : Bool := ds.any fun d => touches d x && decide (d.k = 3)
theorem rotten_cons (x : Bx) (d : Df) (l : List Df) : rotten x (d :: l) = ((touches d x && decide (d.k = 3)) || rotten x l) := rfl
theorem gain_neg (x : Bx) (fine : Int) : ∀ (ds : List Df) (p : Int), gain x fine ds p = -1 ∧ rotten x ds = true ∨ 0 ≤ gain x fine ds p ∧ rotten x ds = false
  | [], p => Or.inr ⟨by unfold gain; omega, rfl⟩
  | d :: l, p => by
    rw [rotten_cons]
    unfold gain
    cases ht : touches d x with
    | false => rw [Bool.false_and, Bool.false_or]; exact gain_neg x fine l p
    | true =>
      by_cases hk : d.k = 3
      · left; simp [hk]
      · rw [decide_eq_false hk, Bool.true_and, Bool.false_or, if_pos rfl, if_neg hk]
        exact gain_neg x fine l (p - fine)
theorem gain_mono (x : Bx) (f g : Int) (hfg : f ≤ g) (ds : List Df) (p q : Int) (hpq : q ≤ p) : gain x g ds q ≤ gain x f ds p := by
  induction ds generalizing p q with
  | nil => unfold gain; omega
  | cons d l ih =>
    unfold gain
    cases touches d x with
    | false => simpa using ih p q hpq
    | true =>
      by_cases hk : d.k = 3
      · simp [hk]
      · simp only [hk, if_true, if_false]
        exact ih _ _ (by omega)
theorem gain_le (x : Bx) (f : Int) (hf : 0 ≤ f) (ds : List Df) (p : Int) (hp : 0 ≤ p) : gain x f ds p ≤ p := by
  have key : ∀ (ds : List Df) (p : Int), gain x f ds p ≤ max p 0 := by
    intro ds
    induction ds with
    | nil => intro p; unfold gain; omega
    | cons d l ih =>
      intro p
      unfold gain
      cases touches d x with
      | false => simpa using ih p
      | true =>
        by_cases hk : d.k = 3
        · simp [hk]; omega
        · simp only [hk, if_true, if_false]
          have := ih (p - f)
          omega
  have := key ds p
  omega
theorem gain_ge (x : Bx) (f : Int) (ds : List Df) (p : Int) : -1 ≤ gain x f ds p := by
  rcases gain_neg x f ds p with ⟨h, _⟩ | ⟨h, _⟩ <;> omega
/-- a box, moved -/
def Bx.move (b : Bx) (x y z : Int) : Bx := ⟨b.xa + x, b.xb + x, b.ya + y, b.yb + y, b.za + z, b.zb + z⟩
/-- the part of a defect in a box, relative to its corner -/
def clip1 (b : Bx) (d : Df) : Option Df := if touches d b then some ⟨d.k, (d.b.meet b).move (-b.xa) (-b.ya) (-b.za)⟩ else none
def clip (ds : List Df) (b : Bx) : List Df := ds.filterMap (clip1 b)
theorem clip_filter (ds : List Df) (b : Bx) : clip ds b = (ds.filter fun d => touches d b).map fun d => ⟨d.k, (d.b.meet b).move (-b.xa) (-b.ya) (-b.za)⟩ := by
  unfold clip clip1
  induction ds with
  | nil => rfl
  | cons d l ih =>
    rw [List.filterMap_cons, List.filter_cons]
    by_cases h : touches d b = true
    · rw [if_pos h, if_pos h]; simp [ih]
    · rw [if_neg h, if_neg h]; exact ih
theorem meetS_eq (a b c d : Int) : (max a c < min b d ∧ meetS a b c d = (max a c, min b d)) ∨ (min b d ≤ max a c ∧ meetS a b c d = (0, 0)) := by
  unfold meetS
  by_cases h : max a c ≥ min b d
  · right; exact ⟨h, if_pos h⟩
  · left; exact ⟨by omega, if_neg h⟩
theorem touches_iff (d : Df) (b : Bx) : touches d b = true ↔ max d.b.xa b.xa < min d.b.xb b.xb ∧ max d.b.ya b.ya < min d.b.yb b.yb ∧ max d.b.za b.za < min d.b.zb b.zb := by
  unfold touches Bx.empty Bx.meet
  rcases meetS_eq d.b.xa d.b.xb b.xa b.xb with ⟨h1, e1⟩ | ⟨h1, e1⟩ <;> rcases meetS_eq d.b.ya d.b.yb b.ya b.yb with ⟨h2, e2⟩ | ⟨h2, e2⟩ <;> rcases meetS_eq d.b.za d.b.zb b.za b.zb with ⟨h3, e3⟩ | ⟨h3, e3⟩ <;> simp only [e1, e2, e3] <;> simp <;> omega
theorem meet_of {d : Df} {b : Bx} (h : touches d b = true) : d.b.meet b = ⟨max d.b.xa b.xa, min d.b.xb b.xb, max d.b.ya b.ya, min d.b.yb b.yb, max d.b.za b.za, min d.b.zb b.zb⟩ := by
  obtain ⟨h1, h2, h3⟩ := (touches_iff d b).1 h
  unfold Bx.meet meetS
  rw [if_neg (by omega), if_neg (by omega), if_neg (by omega)]
theorem clip1_some {b : Bx} {d : Df} (h : touches d b = true) : clip1 b d = some ⟨d.k, ⟨max d.b.xa b.xa - b.xa, min d.b.xb b.xb - b.xa, max d.b.ya b.ya - b.ya, min d.b.yb b.yb - b.ya, max d.b.za b.za - b.za, min d.b.zb b.zb - b.za⟩⟩ := by
  unfold clip1
  rw [if_pos h, meet_of h]
  rfl
theorem clip1_none {b : Bx} {d : Df} (h : touches d b = false) : clip1 b d = none := by
  unfold clip1
  rw [h]
  rfl
/-- a part of a board that is clipped is clipped -/
theorem clip1_clip1 (b : Bx) (d : Df) (u v : Int) (hx : b.xa < b.xb) (hy : b.ya < b.yb) (hu : 0 ≤ u) (huv : u < v) (hv : v ≤ b.zb - b.za) : (clip1 b d).bind (clip1 (b.part u v)) = clip1 (b.slab u v) d := by
  cases h1 : touches d b with
  | false =>
    rw [clip1_none h1]
    have : touches d (b.slab u v) = false := by
      cases h2 : touches d (b.slab u v) with
      | false => rfl
      | true =>
        have h3 := (touches_iff _ _).1 h2
        have h4 : touches d b = true := (touches_iff _ _).2 (by simp only [Bx.slab] at h3; omega)
        rw [h1] at h4; cases h4
    rw [clip1_none this]
    rfl
  | true =>
    rw [clip1_some h1]
    have g1 := (touches_iff _ _).1 h1
    cases h2 : touches d (b.slab u v) with
    | false =>
      rw [clip1_none h2]
      refine clip1_none ?_
      cases h3 : touches _ (b.part u v) with
      | false => rfl
      | true =>
        have g3 := (touches_iff _ _).1 h3
        have : touches d (b.slab u v) = true := (touches_iff _ _).2 (by simp only [Bx.slab, Bx.part] at g3 ⊢; omega)
        rw [h2] at this; cases this
    | true =>
      have g2 := (touches_iff _ _).1 h2
      have h3 : touches ⟨d.k, ⟨max d.b.xa b.xa - b.xa, min d.b.xb b.xb - b.xa, max d.b.ya b.ya - b.ya, min d.b.yb b.yb - b.ya, max d.b.za b.za - b.za, min d.b.zb b.zb - b.za⟩⟩ (b.part u v) = true := (touches_iff _ _).2 (by simp only [Bx.slab, Bx.part] at g2 ⊢; omega)
      rw [clip1_some h2]
      show clip1 _ _ = _
      rw [clip1_some h3]
      simp only [Bx.slab, Bx.part, Option.some.injEq, Df.mk.injEq, Bx.mk.injEq, true_and]
      simp only [Bx.slab] at g2
      refine ⟨?_, ?_, ?_, ?_, ?_, ?_⟩ <;> omega
theorem clip_clip (ds : List Df) (b : Bx) (u v : Int) (hx : b.xa < b.xb) (hy : b.ya < b.yb) (hu : 0 ≤ u) (huv : u < v) (hv : v ≤ b.zb - b.za) : clip (clip ds b) (b.part u v) = clip ds (b.slab u v) := by
  unfold clip
  rw [List.filterMap_filterMap]
  congr 1
  funext d
  exact clip1_clip1 b d u v hx hy hu huv hv
/-- a board without rot: none of the clipped defects is one -/
theorem clip_rot {ds : List Df} {b : Bx} (h : rotten b ds = false) : ∀ d ∈ clip ds b, d.k ≠ 3 := by
  intro d hd
  obtain ⟨d0, h1, h2⟩ := List.mem_filterMap.1 hd
  unfold clip1 at h2
  split at h2
  · rename_i ht
    injection h2 with h2
    subst h2
    intro hk
    have : rotten b ds = true := List.any_eq_true.2 ⟨d0, h1, by simpa [ht] using hk⟩
    rw [h] at this; cases this
  · cases h2
theorem clip_len (ds : List Df) (b : Bx) : (clip ds b).length ≤ ds.length := List.length_filterMap_le _ _
end TrimM
end
/- Chapter 26, the plain part: what the line of a board meets; covers; examples. -/
section
set_option linter.unusedVariables false
/-
  Chapter 26, the plain part: what the line of a board meets.
-/
namespace TrimM
structure Ln.Fine (L : Ln) : Prop where
  n : L.n ≤ 2000
  k : L.k ≤ 20
  sizes : L.sizes.length ≤ 8
  size : ∀ s ∈ L.sizes, 1 ≤ s ∧ s ≤ 2000
  rows : L.rows.length = L.sizes.length
  row : ∀ i, i < L.sizes.length → ∃ r, L.rows[i]? = some r ∧ r.length = L.n + 1 - L.size i
  vals : ∀ r ∈ L.rows, ∀ v ∈ r, -1 ≤ v ∧ v ≤ 1000000
theorem Ln.Fine.good {L : Ln} (h : L.Fine) : L.Good := ⟨fun s hs => (h.size s hs).1⟩
theorem lensE_zero : ∀ (l : List Int) (o : Option Int), lensE o l = 0 → ∀ n ∈ l, 100 ≤ n ∧ n ≤ 20000
  | [], _, _, n, hn => by cases hn
  | m :: l, o, h, n, hn => by
    unfold lensE at h
    split at h
    · cases h
    · rename_i h1
      rcases List.mem_cons.1 hn with rfl | hn
      · omega
      · cases o with
        | none => exact lensE_zero l _ h n hn
        | some x =>
          simp only at h
          split at h
          · cases h
          · exact lensE_zero l _ h n hn
theorem pricesE_zero : ∀ (l : List Int), pricesE l = 0 → ∀ n ∈ l, 0 ≤ n ∧ n ≤ 1000000
  | [], _, n, hn => by cases hn
  | m :: l, h, n, hn => by
    unfold pricesE at h
    split at h
    · cases h
    · rename_i h1
      rcases List.mem_cons.1 hn with rfl | hn
      · omega
      · exact pricesE_zero l h n hn
structure ProdOk (p : Pdt) : Prop where
  th : 5 ≤ p.th ∧ p.th ≤ 300
  wi : p.th ≤ p.wi ∧ p.wi ≤ 600
  al : 0 ≤ p.al ∧ p.al ≤ 200
  wa : 0 ≤ p.wa ∧ p.wa ≤ 1000
  len : p.ls.length ≤ 8
  pos : p.ls.length ≠ 0
  same : p.ps.length = p.ls.length
  lens : ∀ n ∈ p.ls, 100 ≤ n ∧ n ≤ 20000
  prices : ∀ n ∈ p.ps, 0 ≤ n ∧ n ≤ 1000000
theorem prodE_zero {p : Pdt} (h : prodE p = 0) : ProdOk p := by
  unfold prodE at h
  split at h
  · unfold numE at h
    split at h
    · cases h
    split at h
    · cases h
    split at h
    · cases h
    unfold listsE at h
    split at h
    · cases h
    split at h
    · cases h
    split at h
    · cases h
    split at h
    · rename_i h7; exact absurd h h7
    rename_i h1 h2 h3 h4 h5 h6 h7
    exact ⟨by omega, by omega, by omega, by omega, by omega, h4, by omega, lensE_zero _ _ (Classical.not_not.1 h7), pricesE_zero _ h⟩
  · cases h
structure ChkOk (b : Bx) (ds : List Df) (p : Pdt) (step kerf fine : Int) : Prop where
  prod : ProdOk p
  defs : defsE ds = 0
  stp : 1 ≤ step ∧ step ≤ 20000
  krf : 0 ≤ kerf ∧ kerf ≤ 20
  fin : 0 ≤ fine ∧ fine ≤ 1000000
  x : b.xa < b.xb ∧ -600 ≤ b.xa ∧ b.xb ≤ 600
  y : b.ya < b.yb ∧ -600 ≤ b.ya ∧ b.yb ≤ 600
  z : b.za < b.zb ∧ 0 ≤ b.za ∧ b.zb ≤ 20000
  units : (b.zb - b.za) / step ≤ 2000
theorem chkE_zero {b : Bx} {ds : List Df} {p : Pdt} {step kerf fine : Int} (h : chkE b ds p step kerf fine = 0) : ChkOk b ds p step kerf fine := by
  unfold chkE at h
  split at h
  · rename_i h1; exact absurd h h1
  split at h
  · rename_i h1; exact absurd h h1
  split at h
  · cases h
  split at h
  · cases h
  split at h
  · cases h
  split at h
  · cases h
  split at h
  · cases h
  rename_i h1 h2 h3 h4 h5 h6 h7
  simp only [Bx.empty, Bool.or_eq_true, decide_eq_true_eq] at h4
  simp only [Bx.ranged, decide_eq_true_eq, Classical.not_not] at h5
  exact ⟨prodE_zero (by omega), by omega, by omega, by omega, by omega, by omega, by omega, by omega, by omega⟩
/-- a length of the product that the line has, its price -/
def kept (p : Pdt) (step : Int) : List (Int × Int) := (p.ls.zip p.ps).filter fun q => keeps step q.1
theorem kept_mem {p : Pdt} (hp : ProdOk p) {step : Int} {q : Int × Int} (h : q ∈ kept p step) : q.1 ∈ p.ls ∧ 100 ≤ q.1 ∧ q.1 ≤ 20000 ∧ 0 ≤ q.2 ∧ q.2 ≤ 1000000 ∧ q.1 % step = 0 ∧ q.1 ≤ 2000 * step := by
  unfold kept at h
  obtain ⟨h1, h2⟩ := List.mem_filter.1 h
  obtain ⟨m1, m2⟩ := List.of_mem_zip (a := q.1) (b := q.2) h1
  have := hp.lens _ m1
  have := hp.prices _ m2
  simp only [keeps, decide_eq_true_eq] at h2
  exact ⟨m1, by omega, by omega, by omega, by omega, h2.1, h2.2⟩
theorem kept_len (p : Pdt) (step : Int) : (kept p step).length ≤ p.ls.length := by
  unfold kept
  refine Nat.le_trans (List.length_filter_le _ _) ?_
  rw [List.length_zip]; omega
theorem div_mul {n step : Int} (h : n % step = 0) : n / step * step = n := Int.ediv_mul_cancel (Int.dvd_of_emod_eq_zero h)
theorem size_of {n step : Int} (hs : 1 ≤ step) (h1 : 100 ≤ n) (h2 : n % step = 0) (h3 : n ≤ 2000 * step) : 1 ≤ n / step ∧ n / step ≤ 2000 := by
  have h := div_mul h2
  constructor
  · rcases Int.lt_or_le (n / step) 1 with c | c
    · have : n / step * step ≤ 0 * step := Int.mul_le_mul_of_nonneg_right (by omega) (by omega)
      omega
    · exact c
  · rcases Int.lt_or_le 2000 (n / step) with c | c
    · have : 2001 * step ≤ n / step * step := Int.mul_le_mul_of_nonneg_right (by omega) (by omega)
      omega
    · exact c
section
variable {b : Bx} {ds : List Df} {p : Pdt} {step kerf fine : Int}
theorem line_sizes : (line b ds p step kerf fine).sizes = (kept p step).map fun q => (q.1 / step).toNat := rfl
theorem line_rows : (line b ds p step kerf fine).rows = (kept p step).map fun q => row b ds step fine ((b.zb - b.za) / step) q.1 q.2 := rfl
theorem line_size {i : Nat} (hi : i < (kept p step).length) : (line b ds p step kerf fine).size i = ((kept p step)[i].1 / step).toNat := by
  unfold Ln.size
  rw [line_sizes, List.getElem?_map, List.getElem?_eq_getElem hi]
  rfl
theorem kerf_le (hs : 1 ≤ step) (hk : 0 ≤ kerf) : kerf ≤ (kerf + step - 1) / step * step := by
  have h1 := Int.mul_ediv_add_emod (kerf + step - 1) step
  have h2 := Int.emod_lt_of_pos (kerf + step - 1) (show 0 < step by omega)
  rw [Int.mul_comm] at h1
  omega
theorem line_fine (h : ChkOk b ds p step kerf fine) : (line b ds p step kerf fine).Fine := by
  have hst := h.stp
  have hz := h.z
  have hu0 : 0 ≤ (b.zb - b.za) / step := Int.ediv_nonneg (by omega) (by omega)
  have hu := h.units
  have hk := h.krf
  refine ⟨?_, ?_, ?_, ?_, ?_, ?_, ?_⟩
  · show ((b.zb - b.za) / step).toNat ≤ 2000; omega
  · show ((kerf + step - 1) / step).toNat ≤ 20
    have : (kerf + step - 1) / step < 21 := Int.ediv_lt_of_lt_mul (by omega) (by omega)
    omega
  · rw [line_sizes, List.length_map]
    have := kept_len p step
    have := h.prod.len
    omega
  · intro s hs
    rw [line_sizes] at hs
    obtain ⟨q, hq, rfl⟩ := List.mem_map.1 hs
    obtain ⟨_, k1, k2, k3, k4, k5, k6⟩ := kept_mem h.prod hq
    have := size_of hst.1 k1 k5 k6
    omega
  · rw [line_sizes, line_rows, List.length_map, List.length_map]
  · intro i hi
    rw [line_sizes, List.length_map] at hi
    refine ⟨_, by rw [line_rows, List.getElem?_map, List.getElem?_eq_getElem hi]; rfl, ?_⟩
    rw [line_size hi]
    unfold row
    rw [List.length_map, List.length_range]
    rfl
  · intro r hr v hv
    rw [line_rows] at hr
    obtain ⟨q, hq, rfl⟩ := List.mem_map.1 hr
    obtain ⟨_, k1, k2, k3, k4, k5, k6⟩ := kept_mem h.prod hq
    unfold row at hv
    obtain ⟨a, _, rfl⟩ := List.mem_map.1 hv
    exact ⟨gain_ge _ _ _ _, Int.le_trans (gain_le _ _ h.fin.1 _ _ k3) k4⟩
/-- the part of the board that a piece is, and its price -/
theorem line_gain (h : ChkOk b ds p step kerf fine) {i a : Nat} (hi : i < (kept p step).length) (ha : a + ((kept p step)[i].1 / step).toNat ≤ ((b.zb - b.za) / step).toNat) : (line b ds p step kerf fine).gain i a = gain (b.part ((a : Int) * step) ((a : Int) * step + (kept p step)[i].1)) fine ds (kept p step)[i].2 := by
  unfold Ln.gain
  rw [line_rows, List.getElem?_map, List.getElem?_eq_getElem hi]
  simp only [Option.map_some, Option.getD_some]
  unfold row
  rw [List.getElem?_map, List.getElem?_range (by omega)]
  rfl
theorem line_gain_le (h : ChkOk b ds p step kerf fine) (i a : Nat) : (line b ds p step kerf fine).gain i a ≤ 1000000 := by
  unfold Ln.gain
  cases hr : (line b ds p step kerf fine).rows[i]? with
  | none => simp
  | some r =>
    simp only [Option.getD_some]
    cases hv : r[a]? with
    | none => simp
    | some v => exact ((line_fine h).vals r (List.mem_of_getElem? hr) v (List.mem_of_getElem? hv)).2
/-- what the chain of a line is does not hang on the deduction -/
theorem line_chain (h : ChkOk b ds p step kerf fine) {fine2 : Int} (h2 : ChkOk b ds p step kerf fine2) : ∀ (l : List Sp) (e : Int), (line b ds p step kerf fine).chain e l → (line b ds p step kerf fine2).chain e l ∧ (fine ≤ fine2 → gains (line b ds p step kerf fine2) l ≤ gains (line b ds p step kerf fine) l)
  | [], _, _ => ⟨trivial, fun _ => Int.le_refl _⟩
  | x :: l, e, hc => by
    obtain ⟨c1, c2, c3, c4, c5, c6, c7⟩ := pieceE_zero hc.1
    rw [line_sizes, List.length_map] at c2
    have hi : x.1.toNat < (kept p step).length := by omega
    have es : ∀ f, (line b ds p step kerf f).size x.1.toNat = ((kept p step)[x.1.toNat].1 / step).toNat := fun f => line_size hi
    have hn : ∀ f, (line b ds p step kerf f).n = ((b.zb - b.za) / step).toNat := fun f => rfl
    have ha : x.2.toNat + ((kept p step)[x.1.toNat].1 / step).toNat ≤ ((b.zb - b.za) / step).toNat := by
      unfold Ln.stop at c4
      rw [es, hn] at c4
      omega
    have e1 := line_gain h hi ha
    have e2 := line_gain h2 hi ha
    have est : (line b ds p step kerf fine2).stop x = (line b ds p step kerf fine).stop x := by unfold Ln.stop; rw [es, es]
    have ebe : ∀ q, (line b ds p step kerf fine2).behind q = (line b ds p step kerf fine).behind q := fun q => rfl
    obtain ⟨i1, i2⟩ := line_chain h h2 l _ hc.2
    refine ⟨⟨?_, ?_⟩, fun hf => ?_⟩
    · have h0 := hc.1
      have g2 : 0 ≤ (line b ds p step kerf fine2).gain x.1.toNat x.2.toNat := by
        rw [e2]
        rw [e1] at c7
        rcases gain_neg (b.part ((x.2.toNat : Int) * step) ((x.2.toNat : Int) * step + (kept p step)[x.1.toNat].1)) fine ds (kept p step)[x.1.toNat].2 with ⟨_, hr⟩ | ⟨_, hr⟩
        · omega
        · rcases gain_neg (b.part ((x.2.toNat : Int) * step) ((x.2.toNat : Int) * step + (kept p step)[x.1.toNat].1)) fine2 ds (kept p step)[x.1.toNat].2 with ⟨_, hr2⟩ | ⟨g, _⟩
          · rw [hr] at hr2; cases hr2
          · exact g
      unfold Ln.stop at c4
      unfold Ln.pieceE
      rw [line_sizes, List.length_map, if_neg (by omega), es, hn]
      rw [es, hn] at c4
      rw [if_neg (by omega)]
      have ek : (line b ds p step kerf fine2).k = (line b ds p step kerf fine).k := rfl
      rw [ek, if_neg (by omega), if_neg (by omega)]
    · rw [est, ebe]; exact i1
    · have i3 := i2 hf
      unfold gains at i3 ⊢
      rw [List.map_cons, List.map_cons, List.sum_cons, List.sum_cons, e1, e2]
      have := gain_mono (b.part ((x.2.toNat : Int) * step) ((x.2.toNat : Int) * step + (kept p step)[x.1.toNat].1)) fine fine2 hf ds (kept p step)[x.1.toNat].2 (kept p step)[x.1.toNat].2 (Int.le_refl _)
      omega
end
end TrimM
/-
  Chapter 26, the plain part: boards, dust and chips are the board.
-/
namespace TrimM
theorem perm_sum {l m : List Int} (h : l.Perm m) : l.sum = m.sum := by
  induction h with
  | nil => rfl
  | cons x _ ih => rw [List.sum_cons, List.sum_cons, ih]
  | swap x y l => simp only [List.sum_cons]; omega
  | trans _ _ h1 h2 => exact h1.trans h2
def apart (x y : Sp) : Prop := ¬ (x.1 < y.2 ∧ y.1 < x.2)
theorem apart_symm {x y : Sp} (h : apart x y) : apart y x := fun k => h ⟨k.2, k.1⟩
section
variable {b : Bx} {ds : List Df} {p : Pdt} {step kerf fine : Int}
/-- what is taken, in its order -/
def takenT (b : Bx) (ds : List Df) (p : Pdt) (step kerf fine : Int) (l : List Sp) : List Sp := laidM (line b ds p step kerf fine) step kerf 0 l
theorem line_kk (h : ChkOk b ds p step kerf fine) : (0 < (line b ds p step kerf fine).k → 0 < kerf) ∧ kerf ≤ (line b ds p step kerf fine).k * step := by
  have h1 := h.stp
  have h2 := h.krf
  have h3 := kerf_le h1.1 h2.1
  have h4 : 0 ≤ (kerf + step - 1) / step := Int.ediv_nonneg (by omega) (by omega)
  have e : (line b ds p step kerf fine).k = ((kerf + step - 1) / step).toNat := rfl
  rw [e]
  refine ⟨fun hk => ?_, by rw [show (((kerf + step - 1) / step).toNat : Int) = (kerf + step - 1) / step by omega]; exact h3⟩
  rcases Int.lt_or_le 0 kerf with c | c
  · exact c
  · have : (kerf + step - 1) / step < 1 := Int.ediv_lt_of_lt_mul (by omega) (by omega)
    omega
theorem units_le (h : ChkOk b ds p step kerf fine) : ((line b ds p step kerf fine).n : Int) * step ≤ b.zb - b.za ∧ 0 ≤ b.zb - b.za := by
  have h1 := h.stp
  have h2 := h.z
  have h3 : 0 ≤ (b.zb - b.za) / step := Int.ediv_nonneg (by omega) (by omega)
  have e : ((line b ds p step kerf fine).n : Int) = (b.zb - b.za) / step := by
    show (((b.zb - b.za) / step).toNat : Int) = _; omega
  rw [e]
  exact ⟨Int.ediv_mul_le _ (by omega), by omega⟩
theorem taken_seq (h : ChkOk b ds p step kerf fine) {l : List Sp} (hc : (line b ds p step kerf fine).chain 0 l) : Seq 0 (takenT b ds p step kerf fine l) ∧ ∀ x ∈ takenT b ds p step kerf fine l, x.2 ≤ b.zb - b.za := by
  obtain ⟨k1, k2⟩ := line_kk h
  obtain ⟨u1, u2⟩ := units_le h
  have hs := h.stp
  obtain ⟨s1, s2⟩ := laidM_seq (line_fine h).good (show 0 < step by omega) k1 k2 l 0 hc (Or.inl (by omega))
  rw [Int.zero_mul] at s1
  exact ⟨s1, fun x hx => Int.le_trans (s2 x hx) u1⟩
/-- whoever sorts them -/
theorem taken_unique (h : ChkOk b ds p step kerf fine) {l S : List Sp} (hc : (line b ds p step kerf fine).chain 0 l) (hp : S.Perm (boardsM (line b ds p step kerf fine) step l ++ dustsM (line b ds p step kerf fine) step kerf 0 l)) (hs : S.Pairwise (fun x y => x.1 ≤ y.1)) : S = takenT b ds p step kerf fine l := by
  obtain ⟨h1, h2⟩ := (taken_seq h hc).1.pairwise
  refine sorted_unique (hp.trans (laidM_perm _ _ _ _).symm) hs ?_
  refine List.Pairwise.imp_of_mem (fun {x y} hx hy hxy => ?_) h2
  have := h1 x hx
  omega
theorem boards_sorted (h : ChkOk b ds p step kerf fine) {l : List Sp} (hc : (line b ds p step kerf fine).chain 0 l) : (boardsM (line b ds p step kerf fine) step l).Pairwise (fun x y => x.1 ≤ y.1) ∧ (dustsM (line b ds p step kerf fine) step kerf 0 l).Pairwise (fun x y => x.1 ≤ y.1) := by
  have hs := h.stp
  have key : ∀ (l : List Sp) (e : Int), (line b ds p step kerf fine).chain e l → (0 ≤ e ∨ l = []) → (∀ x ∈ boardsM (line b ds p step kerf fine) step l, e * step ≤ x.1) ∧ (∀ x ∈ dustsM (line b ds p step kerf fine) step kerf e l, e * step ≤ x.1) ∧ (boardsM (line b ds p step kerf fine) step l).Pairwise (fun x y => x.1 ≤ y.1) ∧ (dustsM (line b ds p step kerf fine) step kerf e l).Pairwise (fun x y => x.1 ≤ y.1) := by
    intro l e hc he
    obtain ⟨k1, k2⟩ := line_kk h
    obtain ⟨s1, s2⟩ := laidM_seq (line_fine h).good (show 0 < step by omega) k1 k2 l e hc he
    obtain ⟨g1, g2⟩ := s1.pairwise
    have hp := laidM_perm (L := line b ds p step kerf fine) step kerf l e
    refine ⟨fun x hx => (g1 x (hp.mem_iff.2 (List.mem_append_left _ hx))).1, fun x hx => (g1 x (hp.mem_iff.2 (List.mem_append_right _ hx))).1, ?_⟩
    -- both are parts of the whole, in its order
    have sub : ∀ (l : List Sp) (e : Int), (boardsM (line b ds p step kerf fine) step l).Sublist (laidM (line b ds p step kerf fine) step kerf e l) ∧ (dustsM (line b ds p step kerf fine) step kerf e l).Sublist (laidM (line b ds p step kerf fine) step kerf e l) := by
      intro l
      induction l with
      | nil => intro e; exact ⟨List.Sublist.slnil, List.Sublist.slnil⟩
      | cons x l ih =>
        intro e
        obtain ⟨i1, i2⟩ := ih ((line b ds p step kerf fine).behind ((line b ds p step kerf fine).stop x))
        rw [laidM]
        constructor
        · refine List.Sublist.trans ?_ (List.sublist_append_right _ _)
          exact (i1.trans (List.sublist_append_right _ _)).cons_cons _
        · have e1 : dustsM (line b ds p step kerf fine) step kerf e (x :: l) = ((if e < x.2 then addS [] (x.2 - (line b ds p step kerf fine).k) x.2 else []).map (dustM step kerf)) ++ ((addS [] ((line b ds p step kerf fine).stop x) ((line b ds p step kerf fine).behind ((line b ds p step kerf fine).stop x))).map (dustM step kerf) ++ dustsM (line b ds p step kerf fine) step kerf ((line b ds p step kerf fine).behind ((line b ds p step kerf fine).stop x)) l) := by
            unfold dustsM
            rw [Ln.dusts, Ln.dustA, addS_nil, List.map_append, List.map_append, List.append_assoc]
          rw [e1]
          exact (List.Sublist.refl _).append (((List.Sublist.refl _).append i2).cons _)
    obtain ⟨b1, b2⟩ := sub l e
    have g3 : (laidM (line b ds p step kerf fine) step kerf e l).Pairwise (fun x y => x.1 ≤ y.1) := by
      refine List.Pairwise.imp_of_mem (fun {x y} hx hy hxy => ?_) g2
      have := g1 x hx
      omega
    exact ⟨g3.sublist b1, g3.sublist b2⟩
  exact (key l 0 hc (Or.inl (by omega))).2.2
/-- boards, dust and chips: their sum, and that they do not overlap -/
theorem covers (h : ChkOk b ds p step kerf fine) {l A : List Sp} (hc : (line b ds p step kerf fine).chain 0 l) (hA : A.Perm (boardsM (line b ds p step kerf fine) step l ++ dustsM (line b ds p step kerf fine) step kerf 0 l ++ gaps (b.zb - b.za) 0 (takenT b ds p step kerf fine l))) :
    sumS A = b.zb - b.za ∧ (∀ x ∈ A, 0 ≤ x.1 ∧ x.1 < x.2 ∧ x.2 ≤ b.zb - b.za) ∧ A.Pairwise apart := by
  obtain ⟨t1, t2⟩ := taken_seq h hc
  have hu := (units_le h).2
  have hT := tiled_perm (b.zb - b.za) (takenT b ds p step kerf fine l) 0
  have hAT : A.Perm (tiled (b.zb - b.za) 0 (takenT b ds p step kerf fine l)) := hA.trans (((laidM_perm (L := line b ds p step kerf fine) step kerf l 0).symm.append_right _).trans hT.symm)
  have q1 := tiled_sum (b.zb - b.za) _ 0 t1 t2 hu
  obtain ⟨q2, q3⟩ := tiled_seq (b.zb - b.za) _ 0 t1 t2 hu
  obtain ⟨q4, q5⟩ := q2.pairwise
  refine ⟨?_, fun x hx => ?_, ?_⟩
  · unfold sumS at q1 ⊢
    rw [perm_sum (hAT.map _), q1]; omega
  · have := hAT.mem_iff.1 hx
    have := q4 x this
    have := q3 x ‹_›
    omega
  · refine (hAT.pairwise_iff (fun {x y} => apart_symm)).2 (q5.imp fun {x y} hxy hk => ?_)
    omega
end
end TrimM
/-
  Chapter 26, the plain part: the examples of the chapter.
-/
namespace TrimM
def prod0 : Pdt := ⟨⟨#[112, 108, 97, 110, 107]⟩, 40, 100, 50, 0, [1000, 2000], [30, 70]⟩
def box0 : Bx := ⟨0, 105, 0, 42, 1000, 4000⟩
def knot0 : Df := ⟨1, ⟨0, 9, 0, 9, 100, 150⟩⟩
theorem chk0 : chkE box0 [] prod0 500 5 15 = 0 := by decide +kernel
theorem chk1 : chkE box0 [knot0] prod0 500 5 15 = 0 := by decide +kernel
theorem chk2 : chkE box0 [knot0] prod0 500 5 0 = 0 := by decide +kernel
theorem best0 : bestL (line box0 [] prod0 500 5 15) 0 = [(1, 0)] ∧ ((line box0 [] prod0 500 5 15).E 0).2 = 70 := by decide +kernel
theorem best1 : bestL (line box0 [knot0] prod0 500 5 15) 0 = [(1, 2)] ∧ ((line box0 [knot0] prod0 500 5 15).E 0).2 = 70 := by decide +kernel
theorem cuts2 : (line box0 [knot0] prod0 500 5 0).cuts 0 [] [] [(1, 2)] = (0, [(1, 2)], [(0, 1)]) := by decide +kernel
theorem boards2 : boardsM (line box0 [knot0] prod0 500 5 0) 500 [(1, 2)] = [(1000, 3000)] := by decide +kernel
theorem dusts2 : dustsM (line box0 [knot0] prod0 500 5 0) 500 5 0 [(1, 2)] = [(500, 505)] := by decide +kernel
theorem chips2 : gaps 3000 0 (takenT box0 [knot0] prod0 500 5 0 [(1, 2)]) = [(0, 500), (505, 1000)] := by decide +kernel
theorem clip2 : clip [knot0] (box0.part 1000 3000) = [] := by decide +kernel
end TrimM
end
