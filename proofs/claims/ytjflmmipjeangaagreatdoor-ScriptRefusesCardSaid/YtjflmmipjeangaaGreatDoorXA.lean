/-
  Chapter 62: several texts in one (SymA, SymB, SymC, SymD, SymW, SymE, SymF, SymG, SymH, SymI).
-/
import Derived.ProofKit
import Derived.Calls
import Derived.Orders
import Derived.WalkKit
import Derived.Laws.CopyRow
import Derived.Laws.Cells
import Derived.Laws.CopyOwn
import Derived.Deep.MidRow
import Derived.Great.BuildSlice
import Derived.Laws.MakeOwn
import Derived.Deep.AppendSrc
import Derived.Laws.Tables
/-
  The executor, ground: slots as paths in a binary tree; the laws of reading and writing it; a Sem tree that only asks for the program runs the same in every world.
-/
section
set_option linter.unusedVariables false
set_option linter.unusedSimpArgs false
namespace Go.Proofs.YtjflmmipjeangaaGreatDoor.Sx

/-- the number of a slot, as a path -/
inductive Pos where
  | H | O (p : Pos) | I (p : Pos)
def Pos.nat : Pos → Nat
  | .H => 0
  | .O p => 2 * p.nat + 1
  | .I p => 2 * p.nat + 2
theorem Pos.nat_inj : ∀ {p q : Pos}, p.nat = q.nat → p = q
  | .H, .H, _ => rfl
  | .O p, .O q, h => by simp only [Pos.nat] at h; rw [Pos.nat_inj (p := p) (q := q) (by omega)]
  | .I p, .I q, h => by simp only [Pos.nat] at h; rw [Pos.nat_inj (p := p) (q := q) (by omega)]
  | .H, .O q, h => by simp only [Pos.nat] at h; omega
  | .H, .I q, h => by simp only [Pos.nat] at h; omega
  | .O p, .H, h => by simp only [Pos.nat] at h; omega
  | .I p, .H, h => by simp only [Pos.nat] at h; omega
  | .O p, .I q, h => by simp only [Pos.nat] at h; omega
  | .I p, .O q, h => by simp only [Pos.nat] at h; omega

/-- slots, or any other store: a tree -/
inductive Tr (α : Type) where
  | leaf
  | node (l : Tr α) (v : α) (r : Tr α)
section
variable {α : Type} (u : α)
noncomputable def Tr.val (t : Tr α) : α := Tr.rec u (fun _ v _ _ _ => v) t
noncomputable def Tr.left (t : Tr α) : Tr α := Tr.rec .leaf (fun l _ _ _ _ => l) t
noncomputable def Tr.right (t : Tr α) : Tr α := Tr.rec .leaf (fun _ _ r _ _ => r) t
noncomputable def gt (p : Pos) : Tr α → α :=
  Pos.rec (fun t => Tr.rec u (fun _ v _ _ _ => v) t) (fun _ ih t => Tr.rec u (fun l _ _ _ _ => ih l) t) (fun _ ih t => Tr.rec u (fun _ _ r _ _ => ih r) t) p
noncomputable def st (p : Pos) (x : α) : Tr α → Tr α :=
  Pos.rec (fun t => Tr.rec (.node .leaf x .leaf) (fun l _ r _ _ => .node l x r) t)
    (fun _ ih t => Tr.rec (.node (ih .leaf) u .leaf) (fun l v r _ _ => .node (ih l) v r) t)
    (fun _ ih t => Tr.rec (.node .leaf u (ih .leaf)) (fun l v r _ _ => .node l v (ih r)) t) p
theorem gt_leaf (p : Pos) : gt u p (.leaf : Tr α) = u := by cases p <;> rfl
theorem gt_st_same (p : Pos) (x : α) : ∀ t, gt u p (st u p x t) = x := by
  induction p with
  | H => intro t; cases t <;> rfl
  | O p ih => intro t; cases t with
    | leaf => exact ih .leaf
    | node l v r => exact ih l
  | I p ih => intro t; cases t with
    | leaf => exact ih .leaf
    | node l v r => exact ih r
theorem gt_st_other (x : α) : ∀ (p q : Pos) (t : Tr α), q ≠ p → gt u q (st u p x t) = gt u q t := by
  intro p
  induction p with
  | H => intro q t h
         cases q with
         | H => exact absurd rfl h
         | O q => cases t with
           | leaf => exact gt_leaf u q
           | node l v r => rfl
         | I q => cases t with
           | leaf => exact gt_leaf u q
           | node l v r => rfl
  | O p ih => intro q t h
              cases q with
              | H => cases t <;> rfl
              | O q => cases t with
                | leaf => exact (ih q .leaf (fun e => h (by rw [e]))).trans (gt_leaf u q)
                | node l v r => exact ih q l (fun e => h (by rw [e]))
              | I q => cases t with
                | leaf => exact gt_leaf u q
                | node l v r => rfl
  | I p ih => intro q t h
              cases q with
              | H => cases t <;> rfl
              | I q => cases t with
                | leaf => exact (ih q .leaf (fun e => h (by rw [e]))).trans (gt_leaf u q)
                | node l v r => exact ih q r (fun e => h (by rw [e]))
              | O q => cases t with
                | leaf => exact gt_leaf u q
                | node l v r => rfl
end

/-- a Sem tree that only asks for the program, followed to its end -/
def Sem.calm {α : Type} (P : Program) : Sem α → Option α
  | .pure a => some a
  | .program k => Sem.calm P (k P)
  | .mark _ k => Sem.calm P k
  | _ => none
theorem calm_run {α : Type} {P : Program} {s : Sem α} {a : α} (h : Sem.calm P s = some a) (w : World) : s.run P w = .ok a w := by
  induction s with
  | pure b => simp only [Sem.calm, Option.some.injEq] at h; subst h; rfl
  | program k ih => exact ih P h
  | mark m k ih => exact ih h
  | _ => cases h
end Go.Proofs.YtjflmmipjeangaaGreatDoor.Sx
end
/-
  The executor, values: a value whose addresses are the numbers of own blocks, and how it reads in the world (VR): relation over the places of the blocks, which only grow.
-/
section
set_option linter.unusedVariables false
set_option linter.unusedSimpArgs false
namespace Go.Proofs.YtjflmmipjeangaaGreatDoor.Sx

/-- the next number -/
noncomputable def Pos.next (p : Pos) : Pos := Pos.rec (.O .H) (fun q _ => .I q) (fun _ ih => .O ih) p
theorem Pos.next_nat (p : Pos) : p.next.nat = p.nat + 1 := by
  induction p with
  | H => rfl
  | O p ih => rfl
  | I p ih => show 2 * p.next.nat + 1 = _; rw [ih]; simp only [Pos.nat]; omega

/-- what a slice of own memory can still take: known, or all that its block has, less a number -/
inductive Cap where
  | known (n : Nat)
  | upto (less : Nat)
def Cap.real (k : Nat) : Cap → Nat
  | .known n => n
  | .upto s => k - s

inductive SVal where
  | v (x : Value)
  | ptr (b : Pos) (off : Nat)
  | slice (b : Pos) (off len : Nat) (c : Cap)
  | agg (l : List SVal)
  | tuple (l : List SVal)
  | func (fn : Fn) (first captured : List SVal)
  | iface (t : TypeId) (x : SVal)
  | map (b : Pos)

/-- the places: of an own block its number in the world, and how many elements it has room for -/
abbrev Pl := Pos → Option (Nat × Nat)
def Pl.le (ρ σ : Pl) : Prop := ∀ b x, ρ b = some x → σ b = some x
theorem Pl.le.refl (ρ : Pl) : ρ.le ρ := fun _ _ h => h
theorem Pl.le.trans {ρ σ τ : Pl} (h : ρ.le σ) (k : σ.le τ) : ρ.le τ := fun b x e => k b x (h b x e)
noncomputable def Pl.put (ρ : Pl) (b : Pos) (x : Nat × Nat) : Pl := fun c => open Classical in if c = b then some x else ρ c
theorem Pl.put_same (ρ : Pl) (b : Pos) (x : Nat × Nat) : ρ.put b x b = some x := by simp [Pl.put]
theorem Pl.put_other (ρ : Pl) {b c : Pos} (x : Nat × Nat) (h : c ≠ b) : ρ.put b x c = ρ c := by simp [Pl.put, h]
theorem Pl.le_put {ρ : Pl} {b : Pos} (x : Nat × Nat) (h : ρ b = none) : ρ.le (ρ.put b x) := fun c y e => by
  have : c ≠ b := fun e' => by subst e'; rw [h] at e; cases e
  rw [Pl.put_other ρ x this]; exact e

/-- the places of the numbers below n -/
noncomputable def Pl.below (ρ : Pl) (n : Nat) : Pl := fun b => if b.nat < n then ρ b else none
theorem Pl.below_lt {ρ : Pl} {n : Nat} {b : Pos} (h : b.nat < n) : ρ.below n b = ρ b := by simp [Pl.below, h]
theorem Pl.below_ge {ρ : Pl} {n : Nat} {b : Pos} (h : n ≤ b.nat) : ρ.below n b = none := by simp [Pl.below, Nat.not_lt.2 h]
theorem Pl.below_some {ρ : Pl} {n : Nat} {b : Pos} {x : Nat × Nat} (h : ρ.below n b = some x) : b.nat < n ∧ ρ b = some x := by
  unfold Pl.below at h
  split at h
  · next hb => exact ⟨hb, h⟩
  · cases h
theorem Pl.below_le (ρ : Pl) (n : Nat) : (ρ.below n).le ρ := fun b x h => (Pl.below_some h).2
theorem Pl.below_mono (ρ : Pl) {n m : Nat} (h : n ≤ m) : (ρ.below n).le (ρ.below m) := fun b x e => by
  obtain ⟨h1, h2⟩ := Pl.below_some e
  rw [Pl.below_lt (by omega)]; exact h2

mutual
inductive VR (ρ : Pl) : SVal → Value → Prop
  | v (x : Value) : VR ρ (.v x) x
  | ptr {b : Pos} {off r k : Nat} (h : ρ b = some (r, k)) : VR ρ (.ptr b off) (.pointer (some ⟨r, off, none⟩))
  | slice {b : Pos} {off off' len r k : Nat} {c : Cap} (h : ρ b = some (r, k)) (hc : len ≤ c.real k) (ha : c.real k = 0 ∨ off' = off) : VR ρ (.slice b off len c) (.slice (some ⟨r, off', none⟩) len (c.real k))
  | agg {l : List SVal} {vs : List Value} (h : VRs ρ l vs) : VR ρ (.agg l) (.agg vs.toArray)
  | tuple {l : List SVal} {vs : List Value} (h : VRs ρ l vs) : VR ρ (.tuple l) (.tuple vs.toArray)
  | func {fn : Fn} {m l : List SVal} {us vs : List Value} (k : VRs ρ m us) (h : VRs ρ l vs) : VR ρ (.func fn m l) (.func fn us.toArray vs.toArray)
  | iface {t : TypeId} {x : SVal} {y : Value} (h : VR ρ x y) : VR ρ (.iface t x) (.iface t y)
  | map {b : Pos} {r k : Nat} (h : ρ b = some (r, k)) : VR ρ (.map b) (.map (some r))
inductive VRs (ρ : Pl) : List SVal → List Value → Prop
  | nil : VRs ρ [] []
  | cons {s : SVal} {v : Value} {l : List SVal} {vs : List Value} (h : VR ρ s v) (t : VRs ρ l vs) : VRs ρ (s :: l) (v :: vs)
end

mutual
theorem VR.mono {ρ σ : Pl} (hs : ρ.le σ) : ∀ {s : SVal} {v : Value}, VR ρ s v → VR σ s v
  | _, _, .v x => .v x
  | _, _, .ptr h => .ptr (hs _ _ h)
  | _, _, .slice h hc ha => .slice (hs _ _ h) hc ha
  | _, _, .agg h => .agg (VRs.mono hs h)
  | _, _, .tuple h => .tuple (VRs.mono hs h)
  | _, _, .func k h => .func (VRs.mono hs k) (VRs.mono hs h)
  | _, _, .iface h => .iface (VR.mono hs h)
  | _, _, .map h => .map (hs _ _ h)
theorem VRs.mono {ρ σ : Pl} (hs : ρ.le σ) : ∀ {l : List SVal} {vs : List Value}, VRs ρ l vs → VRs σ l vs
  | _, _, .nil => .nil
  | _, _, .cons h t => .cons (VR.mono hs h) (VRs.mono hs t)
end
theorem VRs.length {ρ : Pl} : ∀ {l : List SVal} {vs : List Value}, VRs ρ l vs → l.length = vs.length
  | _, _, .nil => rfl
  | _, _, .cons _ t => by simp [VRs.length t]
theorem VRs.get {ρ : Pl} : ∀ {l : List SVal} {vs : List Value}, VRs ρ l vs → ∀ (i : Nat) (s : SVal), l[i]? = some s → ∃ v, vs[i]? = some v ∧ VR ρ s v
  | _, _, .nil, i, s, h => by simp at h
  | _, _, .cons (v := v) h t, 0, s, e => by simp only [List.getElem?_cons_zero, Option.some.injEq] at e; subst e; exact ⟨v, rfl, h⟩
  | _, _, .cons h t, i + 1, s, e => by simp only [List.getElem?_cons_succ] at e ⊢; exact VRs.get t i s e
theorem VRs.append {ρ : Pl} : ∀ {l : List SVal} {vs : List Value} {m : List SVal} {us : List Value}, VRs ρ l vs → VRs ρ m us → VRs ρ (l ++ m) (vs ++ us)
  | _, _, _, _, .nil, k => k
  | _, _, _, _, .cons h t, k => .cons h (VRs.append t k)
theorem VRs.take {ρ : Pl} : ∀ {l : List SVal} {vs : List Value} (n : Nat), VRs ρ l vs → VRs ρ (l.take n) (vs.take n)
  | _, _, 0, _ => by simp only [List.take_zero]; exact .nil
  | _, _, _ + 1, .nil => .nil
  | _, _, n + 1, .cons h t => .cons h (VRs.take n t)
theorem VRs.drop {ρ : Pl} : ∀ {l : List SVal} {vs : List Value} (n : Nat), VRs ρ l vs → VRs ρ (l.drop n) (vs.drop n)
  | _, _, 0, h => h
  | _, _, _ + 1, .nil => .nil
  | _, _, n + 1, .cons _ t => VRs.drop n t
theorem VRs.set {ρ : Pl} {s : SVal} {v : Value} (h : VR ρ s v) : ∀ {l : List SVal} {vs : List Value} (n : Nat), VRs ρ l vs → VRs ρ (l.set n s) (vs.set n v)
  | _, _, _, .nil => .nil
  | _, _, 0, .cons _ t => .cons h t
  | _, _, n + 1, .cons a t => .cons a (VRs.set h n t)

mutual
/-- a value without own addresses, as the model has it -/
noncomputable def SVal.pure? : SVal → Option Value
  | .v x => some x
  | .agg l => (pures? l).map fun vs => .agg vs.toArray
  | .tuple l => (pures? l).map fun vs => .tuple vs.toArray
  | .iface t x => x.pure?.map fun v => .iface t v
  | _ => none
noncomputable def pures? : List SVal → Option (List Value)
  | [] => some []
  | s :: l => match s.pure?, pures? l with
    | some v, some vs => some (v :: vs)
    | _, _ => none
end
mutual
theorem VR.pure {ρ : Pl} : ∀ {s : SVal} {v x : Value}, VR ρ s v → s.pure? = some x → v = x
  | _, _, _, .v x, h => by simp only [SVal.pure?, Option.some.injEq] at h; exact h
  | _, _, _, .agg k, h => by
    simp only [SVal.pure?, Option.map_eq_some_iff] at h
    obtain ⟨vs, h, rfl⟩ := h
    rw [VRs.pures k h]
  | _, _, _, .tuple k, h => by
    simp only [SVal.pure?, Option.map_eq_some_iff] at h
    obtain ⟨vs, h, rfl⟩ := h
    rw [VRs.pures k h]
  | _, _, _, .ptr _, h => by simp [SVal.pure?] at h
  | _, _, _, .slice _ _ _, h => by simp [SVal.pure?] at h
  | _, _, _, .func _ _, h => by simp [SVal.pure?] at h
  | _, _, _, .iface k, h => by
    simp only [SVal.pure?, Option.map_eq_some_iff] at h
    obtain ⟨u, h, rfl⟩ := h
    rw [VR.pure k h]
  | _, _, _, .map _, h => by simp [SVal.pure?] at h
theorem VRs.pures {ρ : Pl} : ∀ {l : List SVal} {vs us : List Value}, VRs ρ l vs → pures? l = some us → vs = us
  | _, _, _, .nil, h => by simp only [pures?, Option.some.injEq] at h; exact h
  | _, _, _, .cons (s := s) (l := l) k t, h => by
    simp only [pures?] at h
    cases hs : s.pure? with
    | none => rw [hs] at h; cases h
    | some y =>
      cases hl : pures? l with
      | none => rw [hs, hl] at h; cases h
      | some ys =>
        rw [hs, hl] at h
        simp only [Option.some.injEq] at h
        rw [← h, VR.pure k hs, VRs.pures t hl]
end
end Go.Proofs.YtjflmmipjeangaaGreatDoor.Sx
end
/-
  The executor, loops: a loop by fuel.
-/
section
set_option linter.unusedVariables false
set_option linter.unusedSimpArgs false
namespace Go.Proofs.YtjflmmipjeangaaGreatDoor.Sx

section
variable {P : Program} {c : Code} {Q : Exit → Act → World → Prop}
/-- n rounds of a loop are enough -/
def Rounds (P : Program) (c : Code) (Q : Exit → Act → World → Prop) : Nat → Act → World → Prop
  | 0, _, _ => False
  | n + 1, a, w => c.wp P (Exit.then (Rounds P c Q n) Q) a w
theorem exists_least {p : Nat → Prop} : ∀ n, p n → ∃ m, p m ∧ ∀ k, p k → m ≤ k := by
  intro n
  induction n using Nat.strongRecOn with
  | ind n ih =>
    intro h
    by_cases hs : ∃ k, k < n ∧ p k
    · obtain ⟨k, hk, hp⟩ := hs
      exact ih k hk hp
    · exact ⟨n, h, fun k hk => Nat.le_of_not_lt fun hlt => hs ⟨k, hlt, hk⟩⟩
theorem wp_rounds {n : Nat} {a : Act} {w : World} (h : Rounds P c Q n a w) : (Code.loop c).wp P Q a w := by
  let μ : Act → World → Nat := fun a w => open Classical in if h : ∃ n, Rounds P c Q n a w then Classical.choose (exists_least (p := fun n => Rounds P c Q n a w) h.choose h.choose_spec) else 0
  have hμ : ∀ a w, (∃ n, Rounds P c Q n a w) → Rounds P c Q (μ a w) a w ∧ ∀ k, Rounds P c Q k a w → μ a w ≤ k := by
    intro a w hx
    have : μ a w = Classical.choose (exists_least (p := fun n => Rounds P c Q n a w) hx.choose hx.choose_spec) := dif_pos hx
    rw [this]
    exact Classical.choose_spec (exists_least (p := fun n => Rounds P c Q n a w) hx.choose hx.choose_spec)
  refine wp_loop (fun a w => ∃ n, Rounds P c Q n a w) μ ⟨n, h⟩ ?_
  intro a w hx
  obtain ⟨h1, h2⟩ := hμ a w hx
  cases hm : μ a w with
  | zero => rw [hm] at h1; exact h1.elim
  | succ m =>
    rw [hm] at h1
    refine wp_mono h1 ?_
    intro e a' w' hq
    cases e with
    | normal => exact ⟨⟨m, hq⟩, Nat.lt_succ_of_le ((hμ a' w' ⟨m, hq⟩).2 m hq)⟩
    | _ => exact hq
end
end Go.Proofs.YtjflmmipjeangaaGreatDoor.Sx
end
/-
  The executor, operations without addresses: run by the model's own execOp on the values that the slots hold, if its tree is calm.
-/
section
set_option linter.unusedVariables false
set_option linter.unusedSimpArgs false
namespace Go.Proofs.YtjflmmipjeangaaGreatDoor.Sx

/-- the path of a number -/
def Pos.ofN : Nat → Nat → Pos
  | 0, _ => .H
  | f + 1, n => if n = 0 then .H else if n % 2 = 1 then .O (Pos.ofN f (n / 2)) else .I (Pos.ofN f (n / 2 - 1))
theorem Pos.nat_ofN : ∀ (f n : Nat), n ≤ f → (Pos.ofN f n).nat = n
  | 0, n, h => by have : n = 0 := by omega
                  subst this; rfl
  | f + 1, n, h => by
    unfold Pos.ofN
    split
    · next h0 => subst h0; rfl
    · split
      · next h1 => simp only [Pos.nat]; rw [Pos.nat_ofN f (n / 2) (by omega)]; omega
      · next h1 => simp only [Pos.nat]; rw [Pos.nat_ofN f (n / 2 - 1) (by omega)]; omega
def Pos.of (n : Nat) : Pos := Pos.ofN n n
theorem Pos.nat_of (n : Nat) : (Pos.of n).nat = n := Pos.nat_ofN n n (Nat.le_refl n)
theorem Pos.of_nat (p : Pos) : Pos.of p.nat = p := Pos.nat_inj (Pos.nat_of _)

abbrev Sl := Tr SVal
abbrev unset : SVal := .v undef
/-- the numbers of the variables that are laid -/
abbrev Gl := Nat → Option Pos
def Globs (G : Gl) (ρ : Pl) : Prop := ∀ g b, G g = some b → ∃ k, ρ b = some (g, k)
/-- what an operand is -/
noncomputable def ev (G : Gl) (t : Sl) : Operand → SVal
  | .tmp i => gt unset (Pos.of i) t
  | .const v => .v v
  | .global g => match G g with
    | some b => .ptr b 0
    | none => .v (.pointer (some ⟨g, 0, none⟩))
  | .func f => .v (.func (.func f) #[] #[])
/-- the slots t are those of the frame a -/
structure FrR (D : List Deferred) (ρ : Pl) (n : Nat) (t : Sl) (a : Act) : Prop where
  size : a.tmps.size = n
  defers : a.defers = D
  slot : ∀ p : Pos, VR ρ (gt unset p t) (a.tmps.getD p.nat undef)
theorem ev_read {G : Gl} {ρ : Pl} {t : Sl} {a : Act} (hg : Globs G ρ) (x : Operand) (h : ∀ i, x = .tmp i → VR ρ (gt unset (Pos.of i) t) (a.eval x)) : VR ρ (ev G t x) (a.eval x) := by
  cases x with
  | tmp i => exact h i rfl
  | const v => exact .v v
  | global g =>
    show VR ρ (match G g with | some b => .ptr b 0 | none => .v (.pointer (some ⟨g, 0, none⟩))) (.pointer (some ⟨g, 0, none⟩))
    cases hb : G g with
    | none => exact .v _
    | some b => obtain ⟨k, hk⟩ := hg g b hb; exact .ptr hk
  | func f => exact .v _
theorem FrR.ev {D : List Deferred} {G : Gl} {ρ : Pl} {n : Nat} {t : Sl} {a : Act} (hg : Globs G ρ) (h : FrR D ρ n t a) (x : Operand) : VR ρ (ev G t x) (a.eval x) :=
  ev_read hg x fun i e => by subst e; have := h.slot (Pos.of i); rw [Pos.nat_of] at this; exact this
theorem FrR.mono {D : List Deferred} {ρ σ : Pl} {n : Nat} {t : Sl} {a : Act} (hs : ρ.le σ) (h : FrR D ρ n t a) : FrR D σ n t a := ⟨h.size, h.defers, fun p => (h.slot p).mono hs⟩
theorem FrR.put {D : List Deferred} {ρ : Pl} {n : Nat} {t : Sl} {a : Act} (h : FrR D ρ n t a) {d : Pos} (hd : d.nat < n) {s : SVal} {v : Value} (hv : VR ρ s v) : FrR D ρ n (st unset d s t) (a.put (some d.nat) v) := by
  refine ⟨by simp [Act.put, h.size], h.defers, fun p => ?_⟩
  by_cases hp : p = d
  · subst hp
    rw [gt_st_same]
    have : (a.put (some p.nat) v).tmps.getD p.nat undef = v := by
      have hs : p.nat < a.tmps.size := by rw [h.size]; exact hd
      simp [Act.put, hs]
    rw [this]
    exact hv
  · rw [gt_st_other _ _ _ _ _ hp]
    have hne : d.nat ≠ p.nat := fun e => hp (Pos.nat_inj e).symm
    have : (a.put (some d.nat) v).tmps.getD p.nat undef = a.tmps.getD p.nat undef := by
      simp [Act.put, Array.getElem?_setIfInBounds_ne hne]
    rw [this]
    exact h.slot p
theorem FrR.none {D : List Deferred} {ρ : Pl} {n : Nat} {t : Sl} {a : Act} (h : FrR D ρ n t a) (v : Value) : FrR D ρ n t (a.put none v) := h

/-- the operands of an operation read as the slots say -/
def Opnds (G : Gl) (ρ : Pl) (t : Sl) (a : Act) (o : Oper) : Prop := ∀ x ∈ o.op.operands, VR ρ (ev G t x) (a.eval x)
theorem FrR.opnds {D : List Deferred} {G : Gl} {ρ : Pl} {n : Nat} {t : Sl} {a : Act} (hg : Globs G ρ) (h : FrR D ρ n t a) (o : Oper) : Opnds G ρ t a o := fun x _ => h.ev hg x
/-- the operands as plain values; 'undef' where one has own addresses -/
noncomputable def plain (G : Gl) (t : Sl) (x : Operand) : Value := ((ev G t x).pure?).getD undef
noncomputable def plainB (G : Gl) (t : Sl) (x : Operand) : Bool := ((ev G t x).pure?).isSome
theorem plain_eval {G : Gl} {ρ : Pl} {t : Sl} {a : Act} {x : Operand} (h : VR ρ (ev G t x) (a.eval x)) (hx : plainB G t x = true) : a.eval x = plain G t x := by
  unfold plainB at hx
  unfold plain
  cases hp : (Go.Proofs.YtjflmmipjeangaaGreatDoor.Sx.ev G t x).pure? with
  | none => rw [hp] at hx; cases hx
  | some v => exact h.pure hp
/-- an operation on plain values, by the model's own execOp -/
theorem calm_op {P : Program} {G : Gl} {ρ : Pl} {t : Sl} {a : Act} {o : Oper} (h : Opnds G ρ t a o) {r : Next} (hs : ∀ cs b, o.op ≠ .select cs b)
    (ha : ∀ x ∈ o.op.operands, plainB G t x = true) (hc : Sem.calm P (execOp (plain G t) o) = some r) (w : World) : (execOp a.eval o).run P w = .ok r w := by
  rw [execOp_congr o hs (fun x hx => plain_eval (h x hx) (ha x hx))]
  exact calm_run hc w
end Go.Proofs.YtjflmmipjeangaaGreatDoor.Sx
end
/-
  The executor, ground: functions on lists by recursors alone (the kernel goes through them fast), and the same as the library's.
-/
section
set_option linter.unusedVariables false
set_option linter.unusedSimpArgs false
namespace Go.Proofs.YtjflmmipjeangaaGreatDoor.Sx

section
variable {α β : Type}
noncomputable def lenR (l : List α) : Nat := List.rec 0 (fun _ _ ih => Nat.succ ih) l
theorem lenR_eq : ∀ l : List α, lenR l = l.length
  | [] => rfl
  | _ :: l => congrArg Nat.succ (lenR_eq l)
noncomputable def dropR (n : Nat) (l : List α) : List α := Nat.rec (motive := fun _ => List α → List α) (fun l => l) (fun _ ih l => List.rec [] (fun _ t _ => ih t) l) n l
theorem dropR_eq : ∀ (n : Nat) (l : List α), dropR n l = l.drop n
  | 0, _ => rfl
  | _ + 1, [] => rfl
  | n + 1, _ :: l => dropR_eq n l
noncomputable def takeR (n : Nat) (l : List α) : List α := Nat.rec (motive := fun _ => List α → List α) (fun _ => []) (fun _ ih l => List.rec [] (fun x t _ => x :: ih t) l) n l
theorem takeR_eq : ∀ (n : Nat) (l : List α), takeR n l = l.take n
  | 0, _ => by simp; rfl
  | _ + 1, [] => rfl
  | n + 1, x :: l => congrArg (x :: ·) (takeR_eq n l)
noncomputable def nthR (n : Nat) (l : List α) : Option α := Nat.rec (motive := fun _ => List α → Option α) (fun l => List.rec none (fun x _ _ => some x) l) (fun _ ih l => List.rec none (fun _ t _ => ih t) l) n l
theorem nthR_eq : ∀ (n : Nat) (l : List α), nthR n l = l[n]?
  | 0, [] => rfl
  | 0, _ :: _ => rfl
  | _ + 1, [] => rfl
  | n + 1, _ :: l => nthR_eq n l
noncomputable def appR (a b : List α) : List α := List.rec b (fun x _ ih => x :: ih) a
theorem appR_eq : ∀ a b : List α, appR a b = a ++ b
  | [], _ => rfl
  | x :: a, b => congrArg (x :: ·) (appR_eq a b)
noncomputable def spliceR (off : Nat) (l c : List α) : List α := Nat.rec (motive := fun _ => List α → List α) (fun c => appR l (dropR (lenR l) c)) (fun _ ih c => List.rec l (fun x t _ => x :: ih t) c) off c
theorem spliceR_eq : ∀ (off : Nat) (l c : List α), spliceR off l c = c.take off ++ l ++ c.drop (off + l.length)
  | 0, l, c => by
    show appR l (dropR (lenR l) c) = _
    rw [appR_eq, dropR_eq, lenR_eq]
    simp
  | _ + 1, l, [] => by simp; rfl
  | off + 1, l, x :: c => by
    show x :: spliceR off l c = _
    rw [spliceR_eq off l c]
    simp [Nat.add_right_comm]
noncomputable def mapR (f : α → β) (l : List α) : List β := List.rec [] (fun x _ ih => f x :: ih) l
theorem mapR_eq (f : α → β) : ∀ l : List α, mapR f l = l.map f
  | [] => rfl
  | x :: l => congrArg (f x :: ·) (mapR_eq f l)
/-- the list's spine is laid out ahead of what follows -/
noncomputable def normL (l : List α) (k : List α → β) : β := List.rec (motive := fun _ => (List α → β) → β) (fun k => k []) (fun x _ ih k => ih (fun r => k (x :: r))) l k
theorem normL_eq : ∀ (l : List α) (k : List α → β), normL l k = k l
  | [], _ => rfl
  | x :: l, k => normL_eq l (fun r => k (x :: r))
end
end Go.Proofs.YtjflmmipjeangaaGreatDoor.Sx
end
/-
  The executor, memory: the own heap, how a world holds it (Held), what a step may change (Stp); reading, a new block.
-/
section
set_option linter.unusedVariables false
set_option linter.unusedSimpArgs false
namespace Go.Proofs.YtjflmmipjeangaaGreatDoor.Sx

/-- an own block: its cells; 'grow = some z': what append made, elements of z cells, with room behind -/
inductive SObj where
  | cells (c : List SVal) (e : TypeId) (grow : Option Nat)
  | ro (c : List SVal)
  | map (l : List (ByteArray × Value))
  /-- a map from whole numbers -/
  | imap (l : List (Int × Value))
  | siter (s : ByteArray) (pos : Nat)
  /-- n cells and more, all of them z, but for those of the list (the newest first) -/
  | big (n : Nat) (z : SVal) (l : List (Nat × SVal)) (e : TypeId)
  | gone
/-- the own heap: the next number; the number from which on blocks may be written; the blocks -/
structure Hp where
  next : Pos
  low : Nat
  tr : Tr SObj
noncomputable abbrev Hp.at (H : Hp) (b : Pos) : SObj := gt .gone b H.tr
/-- a cell of a block that is given by its differences -/
noncomputable def bigAt (z : SVal) (i : Nat) (l : List (Nat × SVal)) : SVal := List.rec z (fun p _ ih => match Nat.beq p.1 i with
  | true => p.2
  | false => ih) l
/-- a block that is not written any more -/
def SObj.still : SObj → Bool
  | .gone => true
  | .ro _ => true
  | _ => false
/-- the block at place r is as o says -/
def Has (ρ : Pl) (W : World) (r k : Nat) : SObj → Prop
  | .gone => True
  | .cells c e g => ∃ C, W.heap[r]? = some (.cells C e (0, 0)) ∧ c.length ≤ C.size ∧ VRs ρ c (C.toList.take c.length) ∧
      (match g with | none => C.size = c.length | some z => C.size = k * z)
  | .ro c => ∃ C e fr, W.heap[r]? = some (.cells C e fr) ∧ c.length ≤ C.size ∧ VRs ρ c (C.toList.take c.length)
  | .map l => ∃ es clock, W.heap[r]? = some (.map es clock) ∧ es.toList.map (fun x => (x.key, x.val)) = l.map fun x => (Value.string x.1, x.2)
  | .imap l => ∃ es clock, W.heap[r]? = some (.map es clock) ∧ es.toList.map (fun x => (x.key, x.val)) = l.map fun x => (Value.int .i64 x.1, x.2)
  | .siter s pos => W.heap[r]? = some (.stringIter s pos)
  | .big n z l e => ∃ C, W.heap[r]? = some (.cells C e (0, 0)) ∧ n ≤ C.size ∧ ∀ i, i < n → ∃ v, C[i]? = some v ∧ VR ρ (bigAt z i l) v
theorem Has.mono {ρ σ : Pl} (hs : ρ.le σ) {W : World} {r k : Nat} {o : SObj} (h : Has ρ W r k o) : Has σ W r k o := by
  cases o with
  | gone => trivial
  | cells c e g =>
    obtain ⟨C, h2, h3, h4, h5⟩ := h
    exact ⟨C, h2, h3, h4.mono hs, h5⟩
  | ro c =>
    obtain ⟨C, t, fr, h2, h3, h4⟩ := h
    exact ⟨C, t, fr, h2, h3, h4.mono hs⟩
  | map l => exact h
  | imap l => exact h
  | siter s pos => exact h
  | big n z l e =>
    obtain ⟨C, h2, h3, h4⟩ := h
    exact ⟨C, h2, h3, fun i hi => let ⟨v, e1, e2⟩ := h4 i hi; ⟨v, e1, e2.mono hs⟩⟩
theorem Has.world {ρ : Pl} {W W' : World} {r k : Nat} {o : SObj} (h : Has ρ W r k o) (e : W'.heap[r]? = W.heap[r]?) : Has ρ W' r k o := by
  cases o with
  | gone => trivial
  | cells c t g =>
    obtain ⟨C, h2, h3⟩ := h
    exact ⟨C, e.trans h2, h3⟩
  | ro c =>
    obtain ⟨C, t, fr, h2, h3⟩ := h
    exact ⟨C, t, fr, e.trans h2, h3⟩
  | map l =>
    obtain ⟨es, clock, h2, h3⟩ := h
    exact ⟨es, clock, e.trans h2, h3⟩
  | imap l =>
    obtain ⟨es, clock, h2, h3⟩ := h
    exact ⟨es, clock, e.trans h2, h3⟩
  | siter s pos => exact e.trans h
  | big n z l t =>
    obtain ⟨C, h2, h3⟩ := h
    exact ⟨C, e.trans h2, h3⟩
/-- W holds the heap H at the places ρ -/
structure Held (ρ : Pl) (H : Hp) (W : World) : Prop where
  fresh : ∀ b, H.next.nat ≤ b.nat → ρ b = none
  lt : ∀ b r k, ρ b = some (r, k) → r < W.heap.size
  obj : ∀ b r k, ρ b = some (r, k) → Has ρ W r k (H.at b)
  apart : ∀ b b' r k r' k', b ≠ b' → ρ b = some (r, k) → ρ b' = some (r', k') → H.at b ≠ .gone → H.at b' ≠ .gone → r ≠ r'
theorem Held.drew {ρ : Pl} {H : Hp} {W : World} (h : Held ρ H W) : Held ρ H W.drew := ⟨h.fresh, h.lt, h.obj, h.apart⟩
/-- r is no place of a living block that may be written -/
def Safe (ρ : Pl) (H : Hp) (r : Nat) : Prop := ∀ b k, ρ b = some (r, k) → H.low ≤ b.nat → (H.at b).still = true
/-- what a step may change -/
structure Stp (ρ σ : Pl) (H H' : Hp) (W W' : World) : Prop where
  agree : ∀ b, b.nat < H.next.nat → σ b = ρ b
  low : H'.low = H.low
  next : H.next.nat ≤ H'.next.nat
  old : ∀ b, b.nat < H.low → b.nat < H.next.nat → H'.at b = H.at b
  dead : ∀ b, b.nat < H.next.nat → (H.at b).still = true → H'.at b = H.at b
  os : W'.os = W.os
  tape : W'.tape = W.tape
  output : W'.output = W.output
  size : W.heap.size ≤ W'.heap.size
  frame : ∀ r, r < W.heap.size → Safe ρ H r → W'.heap[r]? = W.heap[r]?
  born : ∀ b r k, H.next.nat ≤ b.nat → σ b = some (r, k) → W.heap.size ≤ r ∨ ¬ Safe ρ H r
theorem Stp.refl {ρ : Pl} {H : Hp} {W : World} (hf : ∀ b, H.next.nat ≤ b.nat → ρ b = none) : Stp ρ ρ H H W W :=
  ⟨fun _ _ => rfl, rfl, Nat.le_refl _, fun _ _ _ => rfl, fun _ _ _ => rfl, rfl, rfl, rfl, Nat.le_refl _, fun _ _ _ => rfl, fun b r k h e => by rw [hf b h] at e; cases e⟩
theorem Stp.le {ρ σ : Pl} {H H' : Hp} {W W' : World} (s : Stp ρ σ H H' W W') (hf : ∀ b, H.next.nat ≤ b.nat → ρ b = none) : ρ.le σ := fun b x e => by
  by_cases hb : b.nat < H.next.nat
  · rw [s.agree b hb]; exact e
  · rw [hf b (by omega)] at e; cases e
theorem Stp.safe {ρ σ : Pl} {H H' : Hp} {W W' : World} (s : Stp ρ σ H H' W W') {r : Nat} (hr : r < W.heap.size) (h : Safe ρ H r) : Safe σ H' r := fun b k e hl => by
  by_cases hb : b.nat < H.next.nat
  · rw [s.agree b hb] at e
    have hst := h b k e (by rw [← s.low]; exact hl)
    rw [s.dead b hb hst]; exact hst
  · rcases s.born b r k (by omega) e with h1 | h1
    · omega
    · exact absurd h h1
theorem Stp.trans {ρ σ τ : Pl} {H H1 H2 : Hp} {W W1 W2 : World} (s : Stp ρ σ H H1 W W1) (t : Stp σ τ H1 H2 W1 W2) : Stp ρ τ H H2 W W2 := by
  have hn := s.next
  have hn2 := t.next
  refine ⟨fun b hb => (t.agree b (by omega)).trans (s.agree b hb), t.low.trans s.low, by omega, fun b h1 h2 => (t.old b (by rw [s.low]; exact h1) (by omega)).trans (s.old b h1 h2),
    fun b hb h => (t.dead b (by omega) (by rw [s.dead b hb h]; exact h)).trans (s.dead b hb h), t.os.trans s.os, t.tape.trans s.tape, t.output.trans s.output, Nat.le_trans s.size t.size,
    fun r hr h => (t.frame r (Nat.lt_of_lt_of_le hr s.size) (s.safe hr h)).trans (s.frame r hr h), fun b r k hb e => ?_⟩
  by_cases hb1 : b.nat < H1.next.nat
  · rw [t.agree b hb1] at e
    exact s.born b r k hb e
  · rcases t.born b r k (by omega) e with h1 | h1
    · exact .inl (Nat.le_trans s.size h1)
    · by_cases hr : r < W.heap.size
      · exact .inr fun h => h1 (s.safe hr h)
      · exact .inl (by omega)
theorem Stp.drew {ρ σ : Pl} {H H' : Hp} {W W' : World} (s : Stp ρ σ H H' W.drew W') : Stp ρ σ H H' W W' :=
  ⟨s.agree, s.low, s.next, s.old, s.dead, s.os, s.tape, s.output, s.size, s.frame, s.born⟩

/-- the cells of a block that may be read -/
def SObj.row : SObj → Option (List SVal)
  | .cells c _ _ => some c
  | .ro c => some c
  | _ => none
theorem Has.row {ρ : Pl} {W : World} {r k : Nat} {o : SObj} {c : List SVal} (h : Has ρ W r k o) (ho : o.row = some c) : ∃ C e fr, W.heap[r]? = some (.cells C e fr) ∧ c.length ≤ C.size ∧ VRs ρ c (C.toList.take c.length) := by
  cases o with
  | cells c' e g =>
    simp only [SObj.row, Option.some.injEq] at ho
    subst ho
    obtain ⟨C, h1, h2, h3, _⟩ := h
    exact ⟨C, e, _, h1, h2, h3⟩
  | ro c' =>
    simp only [SObj.row, Option.some.injEq] at ho
    subst ho
    exact h
  | _ => cases ho
/-- what lies at a place of an own block -/
theorem Held.range {ρ : Pl} {H : Hp} {W : World} (h : Held ρ H W) {b : Pos} {r k : Nat} (hb : ρ b = some (r, k)) {c : List SVal} (ho : (H.at b).row = some c)
    (off n : Nat) (hn : off + n ≤ c.length) : ∃ vs, VRs ρ ((c.drop off).take n) vs ∧ vs.length = n ∧ ∀ j v, vs[j]? = some v → W.cell? ⟨r, off + j, none⟩ = some v := by
  obtain ⟨C, e, fr, h2, h3, h4⟩ := (h.obj b r k hb).row ho
  refine ⟨((C.toList.take c.length).drop off).take n, (h4.drop off).take n, ?_, ?_⟩
  · simp; omega
  · intro j v hj
    have hjn : j < n := by
      have := (List.getElem?_eq_some_iff.1 hj).1
      simp at this
      omega
    rw [List.getElem?_take_of_lt hjn, List.getElem?_drop, List.getElem?_take_of_lt (by omega)] at hj
    simp only [World.cell?, h2]
    simpa using hj

/-- the heap with one more block -/
noncomputable def Hp.more (H : Hp) (o : SObj) : Hp := ⟨H.next.next, H.low, st .gone H.next o H.tr⟩
theorem Hp.more_next (H : Hp) (o : SObj) : (H.more o).next.nat = H.next.nat + 1 := Pos.next_nat _
theorem Hp.more_same (H : Hp) (o : SObj) : (H.more o).at H.next = o := gt_st_same _ _ _ _
theorem Hp.more_other (H : Hp) (o : SObj) {b : Pos} (h : b ≠ H.next) : (H.more o).at b = H.at b := gt_st_other _ _ _ _ _ h
/-- a new block, that lies in W' -/
theorem Held.grow {ρ : Pl} {H : Hp} {W W' : World} (h : Held ρ H W) (o : SObj) {r k : Nat} (hr : r < W'.heap.size) (hnew : W.heap.size ≤ r ∨ (¬ Safe ρ H r ∧ ∀ b k, ρ b = some (r, k) → H.at b = .gone))
    (ho : ∀ σ, ρ.le σ → Has σ W' r k o) (os : W'.os = W.os) (tape : W'.tape = W.tape) (output : W'.output = W.output) (size : W.heap.size ≤ W'.heap.size) (frame : ∀ r, r < W.heap.size → W'.heap[r]? = W.heap[r]?) :
    Stp ρ (ρ.put H.next (r, k)) H (H.more o) W W' ∧ Held (ρ.put H.next (r, k)) (H.more o) W' := by
  have hle := Pl.le_put (r, k) (h.fresh H.next (Nat.le_refl _))
  have hne : ∀ b : Pos, b.nat < H.next.nat → b ≠ H.next := fun b hb e => by subst e; omega
  refine ⟨⟨fun b hb => Pl.put_other ρ _ (hne b hb), rfl, by rw [Hp.more_next]; omega, fun b _ hb => Hp.more_other _ _ (hne b hb), fun b hb e => Hp.more_other _ _ (hne b hb), os, tape, output, size, fun r hr _ => frame r hr, ?_⟩, ?_, ?_, ?_, ?_⟩
  · intro b r' k' hb e
    by_cases hbn : b = H.next
    · subst hbn
      rw [Pl.put_same] at e
      simp only [Option.some.injEq, Prod.mk.injEq] at e
      obtain ⟨rfl, rfl⟩ := e
      exact hnew.imp id (·.1)
    · rw [Pl.put_other ρ _ hbn, h.fresh b hb] at e; cases e
  · intro b hb
    rw [Hp.more_next] at hb
    have : b ≠ H.next := fun e => by subst e; omega
    rw [Pl.put_other ρ _ this]
    exact h.fresh b (by omega)
  · intro b r' k' hb
    by_cases hbn : b = H.next
    · subst hbn
      rw [Pl.put_same] at hb
      simp only [Option.some.injEq, Prod.mk.injEq] at hb
      obtain ⟨rfl, rfl⟩ := hb
      exact hr
    · rw [Pl.put_other ρ _ hbn] at hb
      exact Nat.lt_of_lt_of_le (h.lt b r' k' hb) size
  · intro b r' k' hb
    by_cases hbn : b = H.next
    · subst hbn
      rw [Pl.put_same] at hb
      simp only [Option.some.injEq, Prod.mk.injEq] at hb
      obtain ⟨rfl, rfl⟩ := hb
      rw [Hp.more_same]
      exact ho _ hle
    · rw [Pl.put_other ρ _ hbn] at hb
      rw [Hp.more_other _ _ hbn]
      exact ((h.obj b r' k' hb).mono hle).world (frame r' (h.lt b r' k' hb))
  · have key : ∀ b r2 k2, ρ b = some (r2, k2) → H.at b ≠ .gone → r ≠ r2 := fun b r2 k2 hb hg e => by
      subst e
      rcases hnew with h1 | ⟨_, h1⟩
      · have := h.lt b r k2 hb; omega
      · exact hg (h1 b k2 hb)
    intro b b' r1 k1 r2 k2 hbb hb hb' hg hg'
    by_cases hbn : b = H.next
    · subst hbn
      rw [Pl.put_same] at hb
      rw [Pl.put_other ρ _ (Ne.symm hbb)] at hb'
      rw [Hp.more_other _ _ (Ne.symm hbb)] at hg'
      simp only [Option.some.injEq, Prod.mk.injEq] at hb
      obtain ⟨rfl, rfl⟩ := hb
      exact key b' r2 k2 hb' hg'
    · by_cases hbn' : b' = H.next
      · subst hbn'
        rw [Pl.put_same] at hb'
        rw [Pl.put_other ρ _ hbn] at hb
        rw [Hp.more_other _ _ hbn] at hg
        simp only [Option.some.injEq, Prod.mk.injEq] at hb'
        obtain ⟨rfl, rfl⟩ := hb'
        exact (key b r1 k1 hb hg).symm
      · rw [Pl.put_other ρ _ hbn] at hb
        rw [Pl.put_other ρ _ hbn'] at hb'
        rw [Hp.more_other _ _ hbn] at hg
        rw [Hp.more_other _ _ hbn'] at hg'
        exact h.apart b b' r1 k1 r2 k2 hbb hb hb' hg hg'
/-- a new block of cells -/
theorem Held.new {ρ : Pl} {H : Hp} {W : World} (h : Held ρ H W) (c : List SVal) (vs : List Value) (e : TypeId) (hv : VRs ρ c vs) (k : Nat) :
    Stp ρ (ρ.put H.next (W.heap.size, k)) H (H.more (.cells c e none)) W (W.alloc (.cells vs.toArray e)) ∧ Held (ρ.put H.next (W.heap.size, k)) (H.more (.cells c e none)) (W.alloc (.cells vs.toArray e)) := by
  refine h.grow (.cells c e none) (by simp) (.inl (Nat.le_refl _)) (fun σ hs => ?_) rfl rfl rfl (by simp) (fun r hr => Go.RowKit.Below.heap_alloc _ _ _ hr)
  exact ⟨vs.toArray, (MapKept.heap_alloc W _).1, by simp [hv.length], by
    have := hv.mono hs
    rw [hv.length]
    simpa using this, by simp [hv.length]⟩
end Go.Proofs.YtjflmmipjeangaaGreatDoor.Sx
end
/-
  The executor, memory: writing into an own block.
-/
section
set_option linter.unusedVariables false
set_option linter.unusedSimpArgs false
namespace Go.Proofs.YtjflmmipjeangaaGreatDoor.Sx

/-- the heap with another block at b -/
noncomputable def Hp.set (H : Hp) (b : Pos) (o : SObj) : Hp := ⟨H.next, H.low, st .gone b o H.tr⟩
theorem Hp.set_same (H : Hp) (b : Pos) (o : SObj) : (H.set b o).at b = o := gt_st_same _ _ _ _
theorem Hp.set_other (H : Hp) {b b' : Pos} (o : SObj) (h : b' ≠ b) : (H.set b o).at b' = H.at b' := gt_st_other _ _ _ _ _ h
/-- a block that may be written is another now -/
theorem Held.alter {ρ : Pl} {H : Hp} {W W' : World} (h : Held ρ H W) {b : Pos} {r k : Nat} (hb : ρ b = some (r, k)) (hl : H.low ≤ b.nat) (hstill : (H.at b).still = false) (o : SObj)
    (ho : Has ρ W' r k o) (os : W'.os = W.os) (tape : W'.tape = W.tape) (output : W'.output = W.output) (size : W.heap.size ≤ W'.heap.size) (frame : ∀ r', r' ≠ r → W'.heap[r']? = W.heap[r']?) :
    Stp ρ ρ H (H.set b o) W W' ∧ Held ρ (H.set b o) W' := by
  have halive : H.at b ≠ .gone := fun e => by rw [e] at hstill; cases hstill
  refine ⟨⟨fun _ _ => rfl, rfl, Nat.le_refl _, fun b' h1 _ => Hp.set_other _ _ (fun e => by subst e; omega), ?_, os, tape, output, size, ?_, ?_⟩, h.fresh, ?_, ?_, ?_⟩
  · intro b' _ hg
    by_cases hbb : b' = b
    · subst hbb; rw [hstill] at hg; cases hg
    · exact Hp.set_other _ _ hbb
  · intro r' hr' hs
    exact frame r' fun e => by subst e; have := hs b k hb hl; rw [hstill] at this; cases this
  · intro b' r' k' hn e
    rw [h.fresh b' hn] at e; cases e
  · intro b' r' k' hb'
    exact Nat.lt_of_lt_of_le (h.lt b' r' k' hb') size
  · intro b' r' k' hb'
    by_cases hbb : b' = b
    · subst hbb
      rw [hb] at hb'
      simp only [Option.some.injEq, Prod.mk.injEq] at hb'
      obtain ⟨rfl, rfl⟩ := hb'
      rw [Hp.set_same]; exact ho
    · rw [Hp.set_other _ _ hbb]
      have hx := h.obj b' r' k' hb'
      by_cases hg : H.at b' = .gone
      · rw [hg]; trivial
      · exact hx.world (frame r' (h.apart b' b r' k' r k hbb hb' hb hg halive))
  · intro b1 b2 r1 k1 r2 k2 hne hb1 hb2 hg1 hg2
    refine h.apart b1 b2 r1 k1 r2 k2 hne hb1 hb2 ?_ ?_
    · by_cases hbb : b1 = b
      · subst hbb; exact halive
      · rwa [Hp.set_other _ _ hbb] at hg1
    · by_cases hbb : b2 = b
      · subst hbb; exact halive
      · rwa [Hp.set_other _ _ hbb] at hg2
/-- a block that may be written is given up, and one at its place or at a new one taken -/
theorem Held.swap {ρ : Pl} {H : Hp} {W W' : World} (h : Held ρ H W) {b : Pos} {r k : Nat} (hb : ρ b = some (r, k)) (hl : H.low ≤ b.nat) (hstill : (H.at b).still = false) (o : SObj) {r2 k2 : Nat} (h2 : r2 = r ∨ W.heap.size ≤ r2) (hlt : r2 < W'.heap.size)
    (ho : ∀ σ, ρ.le σ → Has σ W' r2 k2 o) (os : W'.os = W.os) (tape : W'.tape = W.tape) (output : W'.output = W.output) (size : W.heap.size ≤ W'.heap.size) (frame : ∀ r', r' < W.heap.size → r' ≠ r → W'.heap[r']? = W.heap[r']?) :
    Stp ρ (ρ.put H.next (r2, k2)) H ((H.set b .gone).more o) W W' ∧ Held (ρ.put H.next (r2, k2)) ((H.set b .gone).more o) W' := by
  have halive : H.at b ≠ .gone := fun e => by rw [e] at hstill; cases hstill
  have hle := Pl.le_put (r2, k2) (h.fresh H.next (Nat.le_refl _))
  have hne : ∀ b : Pos, b.nat < H.next.nat → b ≠ H.next := fun b hb e => by subst e; omega
  have hbn : b ≠ H.next := fun e => by subst e; rw [h.fresh _ (Nat.le_refl _)] at hb; cases hb
  have hat : ∀ b', b' ≠ H.next → b' ≠ b → ((H.set b .gone).more o).at b' = H.at b' := fun b' e1 e2 => (Hp.more_other (H.set b .gone) o e1).trans (Hp.set_other _ _ e2)
  have hatb : ((H.set b .gone).more o).at b = .gone := (Hp.more_other (H.set b .gone) o hbn).trans (Hp.set_same _ _ _)
  have hatn : ((H.set b .gone).more o).at H.next = o := Hp.more_same (H.set b .gone) o
  have hnx : ((H.set b .gone).more o).next.nat = H.next.nat + 1 := Hp.more_next _ _
  have key : ∀ b' r' k', b' ≠ b → ρ b' = some (r', k') → H.at b' ≠ .gone → r2 ≠ r' := fun b' r' k' e hb' hg e2 => by
    rcases h2 with h2 | h2
    · exact h.apart b' b r' k' r k e hb' hb hg halive (by rw [← e2, h2])
    · have := h.lt b' r' k' hb'; omega
  refine ⟨⟨fun b' hb' => Pl.put_other ρ _ (hne b' hb'), rfl, by rw [hnx]; omega, fun b' h1 h3 => hat b' (hne b' h3) (fun e => by subst e; omega), ?_, os, tape, output, size, ?_, ?_⟩, ?_, ?_, ?_, ?_⟩
  · intro b' hb' hg
    by_cases e : b' = b
    · subst e; rw [hstill] at hg; cases hg
    · exact hat b' (hne b' hb') e
  · intro r' hr' hs
    exact frame r' hr' fun e => by subst e; have := hs b k hb hl; rw [hstill] at this; cases this
  · intro b' r' k' hb' e
    by_cases hbn' : b' = H.next
    · subst hbn'
      rw [Pl.put_same] at e
      simp only [Option.some.injEq, Prod.mk.injEq] at e
      obtain ⟨rfl, rfl⟩ := e
      rcases h2 with h2 | h2
      · subst h2
        exact .inr fun hs => by have := hs b k hb hl; rw [hstill] at this; cases this
      · exact .inl h2
    · rw [Pl.put_other ρ _ hbn', h.fresh b' hb'] at e; cases e
  · intro b' hb'
    rw [hnx] at hb'
    have : b' ≠ H.next := fun e => by subst e; omega
    rw [Pl.put_other ρ _ this]
    exact h.fresh b' (by omega)
  · intro b' r' k' hb'
    by_cases hbn' : b' = H.next
    · subst hbn'
      rw [Pl.put_same] at hb'
      simp only [Option.some.injEq, Prod.mk.injEq] at hb'
      obtain ⟨rfl, rfl⟩ := hb'
      exact hlt
    · rw [Pl.put_other ρ _ hbn'] at hb'
      exact Nat.lt_of_lt_of_le (h.lt b' r' k' hb') size
  · intro b' r' k' hb'
    by_cases hbn' : b' = H.next
    · subst hbn'
      rw [Pl.put_same] at hb'
      simp only [Option.some.injEq, Prod.mk.injEq] at hb'
      obtain ⟨rfl, rfl⟩ := hb'
      rw [hatn]
      exact ho _ hle
    · rw [Pl.put_other ρ _ hbn'] at hb'
      by_cases e : b' = b
      · subst e; rw [hatb]; trivial
      · rw [hat b' hbn' e]
        by_cases hg : H.at b' = .gone
        · rw [hg]; trivial
        · exact ((h.obj b' r' k' hb').mono hle).world (frame r' (h.lt b' r' k' hb') (h.apart b' b r' k' r k e hb' hb hg halive))
  · intro b1 b2 r1 k1 r2' k2' hbb hb1 hb2 hg1 hg2
    by_cases e1 : b1 = H.next
    · subst e1
      rw [Pl.put_same] at hb1
      rw [Pl.put_other ρ _ (Ne.symm hbb)] at hb2
      simp only [Option.some.injEq, Prod.mk.injEq] at hb1
      obtain ⟨rfl, rfl⟩ := hb1
      by_cases e2 : b2 = b
      · subst e2; exact absurd hatb hg2
      · rw [hat b2 (Ne.symm hbb) e2] at hg2
        exact key b2 r2' k2' e2 hb2 hg2
    · by_cases e2 : b2 = H.next
      · subst e2
        rw [Pl.put_same] at hb2
        rw [Pl.put_other ρ _ e1] at hb1
        simp only [Option.some.injEq, Prod.mk.injEq] at hb2
        obtain ⟨rfl, rfl⟩ := hb2
        by_cases e3 : b1 = b
        · subst e3; exact absurd hatb hg1
        · rw [hat b1 e1 e3] at hg1
          exact (key b1 r1 k1 e3 hb1 hg1).symm
      · rw [Pl.put_other ρ _ e1] at hb1
        rw [Pl.put_other ρ _ e2] at hb2
        by_cases e3 : b1 = b
        · subst e3; exact absurd hatb hg1
        · by_cases e4 : b2 = b
          · subst e4; exact absurd hatb hg2
          · rw [hat b1 e1 e3] at hg1
            rw [hat b2 e2 e4] at hg2
            exact h.apart b1 b2 r1 k1 r2' k2' hbb hb1 hb2 hg1 hg2
theorem Held.store {P : Program} {ρ : Pl} {H : Hp} {W : World} (h : Held ρ H W) {b : Pos} {r k : Nat} (hb : ρ b = some (r, k)) (hl : H.low ≤ b.nat) {c : List SVal} {e : TypeId} {g : Option Nat} (ho : H.at b = .cells c e g)
    (off : Nat) (ns : List SVal) (us : List Value) (hv : VRs ρ ns us) (hn : off + ns.length ≤ c.length) (h1 : ∀ v ∈ us, v.oneCell' = true) :
    ∃ W', (storeCells ⟨r, off, none⟩ us).run P W = .ok () W' ∧ Stp ρ ρ H (H.set b (.cells (c.take off ++ ns ++ c.drop (off + ns.length)) e g)) W W' ∧ Held ρ (H.set b (.cells (c.take off ++ ns ++ c.drop (off + ns.length)) e g)) W' ∧ ∀ r', r' ≠ r → W'.heap[r']? = W.heap[r']? := by
  have hx := h.obj b r k hb
  rw [ho] at hx
  obtain ⟨C, e2, e3, e4, e5⟩ := hx
  have hul := hv.length
  have hlen : (c.take off ++ ns ++ c.drop (off + ns.length)).length = c.length := by simp; omega
  have hlenC : (C.toList.take off ++ us ++ C.toList.drop (off + us.length)).length = C.size := by simp; omega
  have hrun := run_storeCells_at (P := P) r off e us 0 C W e2 (by omega) h1
  simp only [Nat.add_zero] at hrun
  refine ⟨_, hrun, ?_⟩
  refine and_assoc.1 ⟨?_, fun r' hr' => setRow_other _ _ _ _ hr'⟩
  refine h.alter hb hl (by rw [ho]; rfl) _ ?_ rfl rfl rfl (by rw [setRow_size]; exact Nat.le_refl _) (fun r' hr' => setRow_other _ _ _ _ hr')
  refine ⟨_, setRow_heap W r C _ e _ e2, by simp only [List.size_toArray]; omega, ?_, ?_⟩
  · have h3 : VRs ρ (c.take off ++ ns ++ c.drop (off + ns.length)) ((C.toList.take c.length).take off ++ us ++ (C.toList.take c.length).drop (off + us.length)) := by
      rw [← hul]
      exact ((e4.take off).append hv).append (e4.drop _)
    have h4 : (C.toList.take off ++ us ++ C.toList.drop (off + us.length)).take (c.take off ++ ns ++ c.drop (off + ns.length)).length = (C.toList.take c.length).take off ++ us ++ (C.toList.take c.length).drop (off + us.length) := by
      rw [hlen, List.take_take, List.drop_take, List.append_assoc, List.take_append, List.take_append, List.append_assoc]
      have t1 : (C.toList.take off).take c.length = C.toList.take (min off c.length) := by rw [List.take_take, Nat.min_comm]
      have t2 : (C.toList.take off).length = off := by simp; omega
      rw [t1, t2, List.take_of_length_le (l := us) (by omega)]
      congr 3
      omega
    rw [h4]
    exact h3
  · rw [hlen]
    cases g with
    | none => simp only [List.size_toArray]; rw [hlenC]; exact e5
    | some z => simp only [List.size_toArray]; rw [hlenC]; exact e5
end Go.Proofs.YtjflmmipjeangaaGreatDoor.Sx
end
/-
  The executor, one operation: what it yields in the world, given what it yields on own values: moves, loads, stores, addresses, boxes.
-/
section
set_option linter.unusedVariables false
set_option linter.unusedSimpArgs false
namespace Go.Proofs.YtjflmmipjeangaaGreatDoor.Sx
open Go.RowKit

/-- a value that reads as s, in a world that holds H' -/
def Good (ρ : Pl) (H : Hp) (W : World) (s : SVal) (H' : Hp) (v : Value) (W' : World) : Prop := ∃ σ, Stp ρ σ H H' W W' ∧ VR σ s v ∧ Held σ H' W'
theorem Good.same {ρ : Pl} {H : Hp} {W : World} (h : Held ρ H W) {v : Value} {s : SVal} (hv : VR ρ s v) : Good ρ H W s H v W := ⟨ρ, Stp.refl h.fresh, hv, h⟩
/-- the operation ends with a value and a world -/
def Ends (P : Program) (R : Value → World → Prop) : Result Next → Prop
  | .ok (.value v) w' => R v w'
  | .ok .skip w' => R undef w'
  | .ok (.enter f args) w' => Calls P f args w' fun e w'' => ∃ v, e = .returned v ∧ R v w''
  | _ => False
/-- the operation does what the executor says -/
abbrev Does (P : Program) (ρ : Pl) (H : Hp) (W : World) (s : SVal) (H' : Hp) (a : Act) (o : Oper) : Prop := Ends P (Good ρ H W s H') ((execOp a.eval o).run P W)
theorem Does.value {P : Program} {ρ : Pl} {H H' : Hp} {W W' : World} {s : SVal} {a : Act} {o : Oper} {v : Value} (hr : (execOp a.eval o).run P W = .ok (.value v) W') (h : Good ρ H W s H' v W') : Does P ρ H W s H' a o := by
  unfold Does; rw [hr]; exact h
theorem Does.skip {P : Program} {ρ : Pl} {H H' : Hp} {W W' : World} {s : SVal} {a : Act} {o : Oper} (hr : (execOp a.eval o).run P W = .ok .skip W') (h : Good ρ H W s H' undef W') : Does P ρ H W s H' a o := by
  unfold Does; rw [hr]; exact h
theorem add_zero_spot (r off n : Nat) : (⟨r, off, none⟩ : Addr).add n = ⟨r, off + n, none⟩ := by unfold Addr.add; split <;> simp_all

/-- the cells of an own block from off on -/
noncomputable def cellsAt (H : Hp) (b : Pos) (off n : Nat) : Option (List SVal) :=
  match (H.at b).row with
  | some c => match Nat.ble (Nat.add off n) (lenR c) with
    | true => some (takeR n (dropR off c))
    | false => none
  | none => none
theorem cellsAt_spec {H : Hp} {b : Pos} {off n : Nat} {l : List SVal} (h : cellsAt H b off n = some l) : ∃ c, (H.at b).row = some c ∧ off + n ≤ c.length ∧ l = (c.drop off).take n := by
  unfold cellsAt at h
  split at h <;> try (cases h; done)
  next c ho =>
  split at h <;> try (cases h; done)
  next hb =>
  simp only [Option.some.injEq] at h
  rw [lenR_eq] at hb
  exact ⟨c, ho, Nat.le_of_ble_eq_true hb, by rw [← h, takeR_eq, dropR_eq]⟩
/-- a cell of a block that is given by its differences -/
noncomputable def ldB (o : SObj) (off : Nat) : Option SVal :=
  match o with
  | .big n z l _ => match Nat.blt off n with
    | true => some (bigAt z off l)
    | false => none
  | _ => none
/-- what lies in a variable of a type -/
noncomputable def ldS (P : Program) (H : Hp) (T : TypeId) (b : Pos) (off : Nat) : Option SVal :=
  match P.underlying T with
  | some d => match d.isRow with
    | true => match P.info? T with
      | some i => match cellsAt H b off i.size with
        | some l => some (.agg l)
        | none => none
      | none => none
    | false => match cellsAt H b off 1 with
      | some [s] => some s
      | _ => ldB (H.at b) off
  | none => none
theorem ldB_run {P : Program} {ρ : Pl} {W : World} {r k off T : Nat} {o : SObj} {s : SVal} (h : Has ρ W r k o) (hs : ldB o off = some s) {d : TypeDesc} (hu : P.underlying T = some d) (hd : d.isRow = false) :
    ∃ v, VR ρ s v ∧ ∀ W1 : World, W1.heap[r]? = W.heap[r]? → (loadVar T ⟨r, off, none⟩).run P W1 = .ok v W1 := by
  unfold ldB at hs
  split at hs <;> try (cases hs; done)
  next n z l e =>
  split at hs <;> try (cases hs; done)
  next hlt =>
  simp only [Option.some.injEq] at hs
  subst hs
  obtain ⟨C, h1, h2, h3⟩ := h
  obtain ⟨v, h4, h5⟩ := h3 off (Nat.blt_eq.mp hlt)
  refine ⟨v, h5, fun W1 hW1 => ?_⟩
  have h0 : W1.cell? ⟨r, off, none⟩ = some v := by simp only [World.cell?, hW1, h1]; simpa using h4
  unfold loadVar isAgg underlying
  simp only [program, Sem.run_bind, Sem.run, Result.andThen_ok, hu]
  cases d <;> first
    | (simp [TypeDesc.isRow] at hd; done)
    | (simp [load, Sem.run, h0, Sem.run_bind, Sem.run_pure]; done)
theorem ldS_run {P : Program} {ρ : Pl} {H : Hp} {W : World} (h : Held ρ H W) {T off : Nat} {b : Pos} {r k : Nat} {s : SVal} (hb : ρ b = some (r, k)) (hs : ldS P H T b off = some s) :
    ∃ v, VR ρ s v ∧ (loadVar T ⟨r, off, none⟩).run P W = .ok v W := by
  unfold ldS at hs
  split at hs
  · next d hu =>
    split at hs
    · next hd =>
      split at hs
      · next i hi =>
        split at hs
        · next l hc =>
          simp only [Option.some.injEq] at hs
          subst hs
          obtain ⟨c, h1, h2, rfl⟩ := cellsAt_spec hc
          obtain ⟨vs, hv, hl, hcell⟩ := h.range hb h1 off i.size h2
          exact ⟨_, .agg hv, run_loadVar_mid (P := P) W _ off T vs d (fun j v hj => hcell j v hj) hu hd (by rw [hl, hi]; rfl)⟩
        · cases hs
      · cases hs
    · next hd =>
      split at hs
      · next s' hc =>
        simp only [Option.some.injEq] at hs
        subst hs
        obtain ⟨c, h1, h2, h3⟩ := cellsAt_spec hc
        obtain ⟨vs, hv, hl, hcell⟩ := h.range hb h1 off 1 h2
        rw [← h3] at hv
        cases hv with
        | @cons _ u _ us hs ht =>
          have h0 := hcell 0 u rfl
          simp only [Nat.add_zero] at h0
          refine ⟨u, hs, ?_⟩
          unfold loadVar isAgg underlying
          simp only [program, Sem.run_bind, Sem.run, Result.andThen_ok, hu]
          cases d <;> first
            | (simp [TypeDesc.isRow] at hd; done)
            | (simp [load, Sem.run, h0, Sem.run_bind, Sem.run_pure]; done)
      · obtain ⟨v, h1, h2⟩ := ldB_run (P := P) (h.obj b r k hb) hs hu hd
        exact ⟨v, h1, h2 W rfl⟩
  · cases hs

section
variable {P : Program} {G : Gl} {ρ : Pl} {H H' : Hp} {W : World} {t : Sl} {a : Act} {o : Oper} {s : SVal}
theorem d_move {x : Operand} (ho : o.op = .move x ∨ o.op = .assign x) (h : Held ρ H W) (hx : VR ρ s (a.eval x)) : Does P ρ H W s H a o := by
  refine Does.value (v := a.eval x) ?_ (Good.same h hx)
  rcases ho with ho | ho <;> (unfold execOp; simp [ho, Sem.run_pure])
theorem d_pick {c x y : Operand} {b : Bool} (ho : o.op = .pick c x y) (h : Held ρ H W) (hc : VR ρ (.v (.bool b)) (a.eval c)) (hx : VR ρ s (if b then a.eval x else a.eval y)) : Does P ρ H W s H a o := by
  refine Does.value ?_ (Good.same h hx)
  generalize hev : a.eval c = v at hc
  cases hc
  unfold execOp
  simp [ho, hev, asBool, Sem.run_bind, Sem.run_pure, Result.andThen_ok]
theorem d_load {T off : Nat} {x : Operand} {b : Pos} (ho : o.op = .load T x) (h : Held ρ H W) (hx : VR ρ (.ptr b off) (a.eval x)) (hs : ldS P H T b off = some s) : Does P ρ H W s H a o := by
  generalize hev : a.eval x = v at hx
  cases hx with
  | ptr hb =>
    obtain ⟨v, hv, hr⟩ := ldS_run (P := P) h hb hs
    refine Does.value (v := v) ?_ (Good.same h hv)
    unfold execOp
    simp only [ho, hev, Instr.loadAt, Instr.sureAddr, Sem.run_bind, Sem.run_pure, Result.andThen_ok, hr]

/-- one cell's value -/
def SVal.one : SVal → Bool
  | .v x => x.oneCell'
  | .agg _ | .tuple _ => false
  | _ => true
theorem VR.one {v : Value} (h : VR ρ s v) (hs : s.one = true) : v.oneCell' = true := by
  cases h <;> first | exact hs | rfl | (simp [SVal.one] at hs; done)
noncomputable def SVal.cells : SVal → List SVal
  | .v (.agg cs) => cs.toList.map .v
  | .agg l => l
  | s => [s]
theorem VRs.of_map (ρ : Pl) : ∀ l : List Value, VRs ρ (l.map .v) l
  | [] => .nil
  | x :: l => .cons (.v x) (VRs.of_map ρ l)
theorem VR.cells {v : Value} (h : VR ρ s v) : VRs ρ s.cells v.cells.toList := by
  cases h with
  | v => cases v <;> first | exact VRs.of_map ρ _ | exact .cons (.v _) .nil
  | agg h => simpa [SVal.cells, Value.cells] using h
  | ptr h => exact .cons (.ptr h) .nil
  | slice h hc ha => exact .cons (.slice h hc ha) .nil
  | tuple h => exact .cons (.tuple h) .nil
  | func k h => exact .cons (.func k h) .nil
  | iface h => exact .cons (.iface h) .nil
  | map h => exact .cons (.map h) .nil
noncomputable def oneAll (l : List SVal) : Bool := List.rec true (fun s _ ih => match s.one with | true => ih | false => false) l
theorem VRs.one : ∀ {l : List SVal} {vs : List Value}, VRs ρ l vs → oneAll l = true → ∀ v ∈ vs, v.oneCell' = true
  | _, _, .nil, _, v, hv => by cases hv
  | s :: l, _, .cons h t, ha, v, hv => by
    have ha' : (match s.one with | true => oneAll l | false => false) = true := ha
    cases hs : s.one with
    | false => rw [hs] at ha'; cases ha'
    | true =>
      rw [hs] at ha'
      rcases List.mem_cons.1 hv with rfl | hv
      · exact h.one hs
      · exact VRs.one t ha' v hv
/-- the heap behind a store -/
noncomputable def putAt (H : Hp) (b : Pos) (off : Nat) (l : List SVal) : Option Hp :=
  match H.at b with
  | .cells c e g => match Nat.ble (Nat.add off (lenR l)) (lenR c) with
    | true => match Nat.ble H.low b.nat with
      | true => normL (spliceR off l c) fun r => some (H.set b (.cells r e g))
      | false => none
    | false => none
  | _ => none
theorem putAt_spec {b : Pos} {off : Nat} {l : List SVal} (hp : putAt H b off l = some H') : ∃ c e g, H.at b = .cells c e g ∧ off + l.length ≤ c.length ∧ Nat.ble H.low b.nat = true ∧ H' = H.set b (.cells (c.take off ++ l ++ c.drop (off + l.length)) e g) := by
  unfold putAt at hp
  split at hp <;> try (cases hp; done)
  next c e g hb =>
  split at hp <;> try (cases hp; done)
  next h2 =>
  split at hp <;> try (cases hp; done)
  next h3 =>
  rw [normL_eq, spliceR_eq] at hp
  simp only [Option.some.injEq] at hp
  rw [lenR_eq, lenR_eq] at h2
  exact ⟨c, e, g, hb, Nat.le_of_ble_eq_true h2, h3, hp.symm⟩
theorem putAt_run {b : Pos} {off : Nat} {l : List SVal} {us : List Value} {r k : Nat} (h : Held ρ H W) (hb : ρ b = some (r, k)) (hv : VRs ρ l us) (h1 : ∀ v ∈ us, v.oneCell' = true) (hp : putAt H b off l = some H') :
    ∃ W', (storeCells ⟨r, off, none⟩ us).run P W = .ok () W' ∧ Stp ρ ρ H H' W W' ∧ Held ρ H' W' ∧ ∀ r', r' ≠ r → W'.heap[r']? = W.heap[r']? := by
  obtain ⟨c, e, g, ho, h2, h3, rfl⟩ := putAt_spec hp
  exact h.store hb (Nat.le_of_ble_eq_true h3) ho off l us hv h2 h1
/-- a store into a block that is given by its differences -/
noncomputable def putBig (H : Hp) (b : Pos) (off : Nat) (l : List SVal) : Option Hp :=
  match H.at b with
  | .big n z q e => match l with
    | [s] => match Nat.blt off n, Nat.ble H.low b.nat with
      | true, true => some (H.set b (.big n z ((off, s) :: q) e))
      | _, _ => none
    | _ => none
  | _ => none
theorem putBig_spec {b : Pos} {off : Nat} {l : List SVal} (hp : putBig H b off l = some H') : ∃ n z q e s, H.at b = .big n z q e ∧ l = [s] ∧ off < n ∧ Nat.ble H.low b.nat = true ∧ H' = H.set b (.big n z ((off, s) :: q) e) := by
  unfold putBig at hp
  split at hp <;> try (cases hp; done)
  next n z q e hb =>
  split at hp <;> try (cases hp; done)
  next s =>
  split at hp <;> try (cases hp; done)
  next h1 h2 =>
  simp only [Option.some.injEq] at hp
  exact ⟨n, z, q, e, s, hb, rfl, Nat.blt_eq.mp h1, h2, hp.symm⟩
theorem putBig_run {b : Pos} {off : Nat} {l : List SVal} {us : List Value} {r k : Nat} (h : Held ρ H W) (hb : ρ b = some (r, k)) (hv : VRs ρ l us) (h1 : ∀ v ∈ us, v.oneCell' = true) (hp : putBig H b off l = some H') :
    ∃ W', (storeCells ⟨r, off, none⟩ us).run P W = .ok () W' ∧ Stp ρ ρ H H' W W' ∧ Held ρ H' W' ∧ ∀ r', r' ≠ r → W'.heap[r']? = W.heap[r']? := by
  obtain ⟨n, z, q, e, s, ho, rfl, h2, h3, rfl⟩ := putBig_spec hp
  have hx := h.obj b r k hb
  rw [ho] at hx
  obtain ⟨C, e2, e3, e4⟩ := hx
  cases hv with
  | @cons _ u _ us' hs ht =>
  cases ht
  have hrun := run_storeCells_at (P := P) r off e [u] 0 C W e2 (by simp; omega) h1
  simp only [Nat.add_zero] at hrun
  refine ⟨_, hrun, ?_⟩
  refine and_assoc.1 ⟨?_, fun r' hr' => setRow_other _ _ _ _ hr'⟩
  refine h.alter hb (Nat.le_of_ble_eq_true h3) (by rw [ho]; rfl) _ ?_ rfl rfl rfl (by rw [setRow_size]; exact Nat.le_refl _) (fun r' hr' => setRow_other _ _ _ _ hr')
  refine ⟨_, setRow_heap W r C _ e _ e2, by simp; omega, fun i hi => ?_⟩
  have hoff : off < C.toList.length := by simp; omega
  have hset : C.toList.take off ++ [u] ++ C.toList.drop (off + [u].length) = C.toList.set off u := by
    rw [List.set_eq_take_append_cons_drop, if_pos hoff, List.append_assoc]; rfl
  rw [hset]
  obtain ⟨v, e5, e6⟩ := e4 i hi
  by_cases hio : i = off
  · subst hio
    refine ⟨u, by simp [Nat.lt_of_lt_of_le hi e3], ?_⟩
    have : bigAt z i ((i, s) :: q) = s := by
      show (match Nat.beq i i with | true => s | false => _) = s
      rw [Nat.beq_refl]
    rw [this]
    exact hs
  · refine ⟨v, by simp [Ne.symm hio]; exact e5, ?_⟩
    have : bigAt z i ((off, s) :: q) = bigAt z i q := by
      show (match Nat.beq off i with | true => s | false => bigAt z i q) = _
      have : Nat.beq off i = false := by
        cases hq : Nat.beq off i with
        | false => rfl
        | true => exact absurd (Nat.eq_of_beq_eq_true hq).symm hio
      rw [this]
    rw [this]
    exact e6
/-- the heap behind a store, of either kind -/
noncomputable def putG (H : Hp) (b : Pos) (off : Nat) (l : List SVal) : Option Hp :=
  match putAt H b off l with
  | some H' => some H'
  | none => putBig H b off l
theorem putG_cases {b : Pos} {off : Nat} {l : List SVal} (hp : putG H b off l = some H') : putAt H b off l = some H' ∨ putBig H b off l = some H' := by
  unfold putG at hp
  split at hp
  · next H1 h => simp only [Option.some.injEq] at hp; subst hp; exact .inl h
  · exact .inr hp
theorem putG_run {b : Pos} {off : Nat} {l : List SVal} {us : List Value} {r k : Nat} (h : Held ρ H W) (hb : ρ b = some (r, k)) (hv : VRs ρ l us) (h1 : ∀ v ∈ us, v.oneCell' = true) (hp : putG H b off l = some H') :
    ∃ W', (storeCells ⟨r, off, none⟩ us).run P W = .ok () W' ∧ Stp ρ ρ H H' W W' ∧ Held ρ H' W' ∧ ∀ r', r' ≠ r → W'.heap[r']? = W.heap[r']? := by
  rcases putG_cases hp with hp | hp
  · exact putAt_run h hb hv h1 hp
  · exact putBig_run h hb hv h1 hp
theorem d_store_run {T off : Nat} {x y : Operand} {b : Pos} (ho : o.op = .store T x y) (h : Held ρ H W) (hx : VR ρ (.ptr b off) (a.eval x)) (hy : VR ρ s (a.eval y)) (hi : (P.info? T).map (·.size) = some s.cells.length) (h1 : oneAll s.cells = true)
    (hp : putG H b off s.cells = some H') : ∃ W', (execOp a.eval o).run P W = .ok .skip W' ∧ Stp ρ ρ H H' W W' ∧ Held ρ H' W' ∧ ∀ r k, ρ b = some (r, k) → ∀ r', r' ≠ r → W'.heap[r']? = W.heap[r']? := by
  generalize hev : a.eval x = v at hx
  generalize hew : a.eval y = u at hy
  cases hx with
  | @ptr _ _ r _ hr =>
    obtain ⟨W', hrun, hst, hheld, hfr⟩ := putG_run (P := P) h hr hy.cells (hy.cells.one h1) hp
    refine ⟨W', ?_, hst, hheld, fun r2 k2 hr2 => by rw [hr] at hr2; simp only [Option.some.injEq, Prod.mk.injEq] at hr2; rw [← hr2.1]; exact hfr⟩
    have hsz : u.cells.size = s.cells.length := by rw [hy.cells.length]; simp
    cases hq : P.info? T with
    | none => rw [hq] at hi; cases hi
    | some i =>
      rw [hq] at hi
      simp only [Option.map_some, Option.some.injEq] at hi
      unfold execOp
      simp [ho, hev, hew, Instr.storeAt, Instr.sureAddr, storeVar, sizeOf, typeInfo, program, Sem.run_bind, Sem.run, Sem.run_pure, Result.andThen_ok, hq, hi, hsz, hrun]

theorem d_store {T off : Nat} {x y : Operand} {b : Pos} (ho : o.op = .store T x y) (h : Held ρ H W) (hx : VR ρ (.ptr b off) (a.eval x)) (hy : VR ρ s (a.eval y)) (hi : (P.info? T).map (·.size) = some s.cells.length) (h1 : oneAll s.cells = true)
    (hp : putG H b off s.cells = some H') : Does P ρ H W unset H' a o := by
  obtain ⟨W', hrun, hst, hheld, _⟩ := d_store_run (P := P) ho h hx hy hi h1 hp
  exact Does.skip hrun ⟨ρ, hst, .v _, hheld⟩
/-- the offset of a field, if it has cells -/
def fieldOff (P : Program) (S : TypeId) (i : Nat) : Option Nat :=
  match P.underlying S with
  | some (.struct fs) => match fs[i]? with
    | some f => match P.info? f.type with
      | some t => if Nat.beq t.size 0 then none else some f.offset
      | none => none
    | none => none
  | _ => none
theorem d_field {S i off d : Nat} {x : Operand} {b : Pos} (ho : o.op = .fieldAddr S x i) (h : Held ρ H W) (hx : VR ρ (.ptr b off) (a.eval x)) (hf : fieldOff P S i = some d) : Does P ρ H W (.ptr b (off + d)) H a o := by
  unfold fieldOff at hf
  split at hf <;> try (cases hf; done)
  next fs hu =>
  split at hf <;> try (cases hf; done)
  next f hfi =>
  split at hf <;> try (cases hf; done)
  next t ht =>
  split at hf <;> try (cases hf; done)
  next hz =>
  simp only [Option.some.injEq] at hf
  subst hf
  have hz' : t.size ≠ 0 := fun e => hz (by rw [e]; rfl)
  generalize hev : a.eval x = v at hx
  cases hx with
  | @ptr _ _ r _ hr =>
    refine Does.value (v := .pointer (some ⟨r, off + f.offset, none⟩)) ?_ (Good.same h (.ptr hr))
    unfold execOp
    simp [ho, hev, Instr.fieldAt, Instr.sureAddr, underlying, fieldPlace, sizeOf, typeInfo, program, Sem.run_bind, Sem.run, Sem.run_pure, Result.andThen_ok, hu, hfi, ht, hz', add_zero_spot]

/-- the cells of an element of a slice's type -/
def elemSize (P : Program) (T : TypeId) : Option Nat :=
  match P.underlying T with
  | some (.slice e) => match P.info? e with
    | some t => some t.size
    | none => none
  | _ => none
theorem elemSize_spec {T z : Nat} (hz : elemSize P T = some z) : ∃ e t, P.underlying T = some (.slice e) ∧ P.info? e = some t ∧ t.size = z := by
  unfold elemSize at hz
  split at hz <;> try (cases hz; done)
  next e hu =>
  split at hz <;> try (cases hz; done)
  next t ht =>
  simp only [Option.some.injEq] at hz
  exact ⟨e, t, hu, ht, hz⟩
theorem d_index {T off len z n : Nat} {x y : Operand} {b : Pos} {c : Cap} {k : IntKind} (ho : o.op = .indexAddr T x y) (h : Held ρ H W) (hx : VR ρ (.slice b off len c) (a.eval x)) (hy : VR ρ (.v (.int k (.ofNat n))) (a.eval y))
    (hz : elemSize P T = some z) (hn : n < len) : Does P ρ H W (.ptr b (off + n * z)) H a o := by
  obtain ⟨e, t, hu, ht, rfl⟩ := elemSize_spec hz
  generalize hev : a.eval x = v at hx
  generalize hew : a.eval y = u at hy
  cases hy
  cases hx with
  | @slice _ _ off' _ r kk _ hr hcap ha =>
    have ha' : off' = off := ha.resolve_left (by omega)
    subst ha'
    have h0 : (0 : Int) ≤ Int.ofNat n ∧ Int.ofNat n < (len : Int) := ⟨Int.natCast_nonneg n, Int.ofNat_lt.2 hn⟩
    refine Does.value (v := .pointer (some ⟨r, _ + n * t.size, none⟩)) ?_ (Good.same h (.ptr hr))
    unfold execOp
    simp only [ho, hev, hew, Instr.indexAt, asIntOf, underlying, sizeOf, typeInfo, program, Sem.run_bind, Sem.run, Sem.run_pure, Result.andThen_ok, hu, ht]
    rw [if_pos h0]
    simp [Sem.run_bind, Sem.run, Sem.run_pure, Result.andThen_ok, ht, add_zero_spot]
/-- the length of an array type and the cells of its elements -/
def arrOf (P : Program) (T : TypeId) : Option (Nat × Nat) :=
  match P.underlying T with
  | some (.array n e) => match P.info? e with
    | some t => some (n, t.size)
    | none => none
  | _ => none
theorem arrOf_spec {T len z : Nat} (hz : arrOf P T = some (len, z)) : ∃ e t, P.underlying T = some (.array len e) ∧ P.info? e = some t ∧ t.size = z := by
  unfold arrOf at hz
  split at hz <;> try (cases hz; done)
  next n e hu =>
  split at hz <;> try (cases hz; done)
  next t ht =>
  simp only [Option.some.injEq, Prod.mk.injEq] at hz
  obtain ⟨rfl, rfl⟩ := hz
  exact ⟨e, t, hu, ht, rfl⟩
theorem d_indexp {T off len z n : Nat} {x y : Operand} {b : Pos} {k : IntKind} (ho : o.op = .indexAddr T x y) (h : Held ρ H W) (hx : VR ρ (.ptr b off) (a.eval x)) (hy : VR ρ (.v (.int k (.ofNat n))) (a.eval y))
    (hz : arrOf P T = some (len, z)) (hn : n < len) : Does P ρ H W (.ptr b (off + n * z)) H a o := by
  obtain ⟨e, t, hu, ht, rfl⟩ := arrOf_spec hz
  generalize hev : a.eval x = v at hx
  generalize hew : a.eval y = u at hy
  cases hy
  cases hx with
  | @ptr _ _ r kk hr =>
    have h0 : (0 : Int) ≤ Int.ofNat n ∧ Int.ofNat n < (len : Int) := ⟨Int.natCast_nonneg n, Int.ofNat_lt.2 hn⟩
    refine Does.value (v := .pointer (some ⟨r, off + n * t.size, none⟩)) ?_ (Good.same h (.ptr hr))
    unfold execOp
    simp only [ho, hev, hew, Instr.indexAt, Instr.sureAddr, asIntOf, underlying, sizeOf, typeInfo, program, Sem.run_bind, Sem.run, Sem.run_pure, Result.andThen_ok, hu, ht]
    rw [if_pos h0]
    simp [Sem.run_bind, Sem.run, Sem.run_pure, Result.andThen_ok, ht, add_zero_spot]

/-- a box: a variable of its own -/
theorem d_box {T : Nat} {x : Operand} (ho : o.op = .box T x) (h : Held ρ H W) (hx : VR ρ s (a.eval x)) : Does P ρ H W (.ptr H.next 0) (H.more (.cells s.cells T none)) a o := by
  obtain ⟨hst, hh⟩ := h.new s.cells (a.eval x).cells.toList T hx.cells 0
  refine Does.value (v := .pointer (some ⟨W.heap.size, 0, none⟩)) ?_ ⟨_, hst, .ptr (Pl.put_same _ _ _), hh⟩
  unfold execOp
  simp [ho, Instr.box, newVar, newRow, newObj, Sem.run_bind, Sem.run, Sem.run_pure, Result.andThen_ok]
/-- the cells of a type's zero value -/
def zeroOf (P : Program) (T : TypeId) : Option (List Value) :=
  match P.info? T with
  | some t => match t.zero with
    | some z => some z.cells.toList
    | none => none
  | none => none
theorem zero_run {T : TypeId} {l : List Value} (h : zeroOf P T = some l) (W : World) : ∃ z, (zeroValue T).run P W = .ok z W ∧ z.cells.toList = l := by
  unfold zeroOf at h
  split at h <;> try (cases h; done)
  next t ht =>
  split at h <;> try (cases h; done)
  next z hz =>
  simp only [Option.some.injEq] at h
  refine ⟨z, ?_, h⟩
  simp [zeroValue, typeInfo, program, Sem.run_bind, Sem.run, Sem.run_pure, Result.andThen_ok, ht, hz]
theorem d_alloc {T : Nat} {l : List Value} (ho : o.op = .alloc T) (h : Held ρ H W) (hz : zeroOf P T = some l) : Does P ρ H W (.ptr H.next 0) (H.more (.cells (l.map .v) T none)) a o := by
  obtain ⟨z, hr, hl⟩ := zero_run hz W
  obtain ⟨hst, hh⟩ := h.new (l.map .v) l T (VRs.of_map ρ l) 0
  refine Does.value (v := .pointer (some ⟨W.heap.size, 0, none⟩)) ?_ ⟨_, hst, .ptr (Pl.put_same _ _ _), hh⟩
  have hz' : z.cells = l.toArray := by rw [← hl]
  unfold execOp
  simp [ho, Instr.alloc, newVar, newRow, newObj, Sem.run_bind, Sem.run, Sem.run_pure, Result.andThen_ok, hr, hz']
theorem d_extract {x : Operand} {i : Nat} {l : List SVal} (ho : o.op = .extract x i) (h : Held ρ H W) (hx : VR ρ (.tuple l) (a.eval x)) (hi : l[i]? = some s) : Does P ρ H W s H a o := by
  generalize hev : a.eval x = v at hx
  cases hx with
  | @tuple _ vs hl =>
    obtain ⟨v, hv, hs⟩ := hl.get i s hi
    refine Does.value (v := v) ?_ (Good.same h hs)
    unfold execOp
    simp [ho, hev, Instr.extract, hv, Sem.run_bind, Sem.run, Sem.run_pure, Result.andThen_ok]
theorem d_nilCheck_ptr {x : Operand} {b : Pos} {off : Nat} (ho : o.op = .nilCheck x) (h : Held ρ H W) (hx : VR ρ (.ptr b off) (a.eval x)) : Does P ρ H W (.ptr b off) H a o := by
  generalize hev : a.eval x = v at hx
  refine Does.value (v := v) ?_ (Good.same h hx)
  cases hx
  unfold execOp
  simp [ho, hev, Sem.run_pure]
theorem d_nilCheck_func {x : Operand} {f : FuncId} {m l : List SVal} (ho : o.op = .nilCheck x) (h : Held ρ H W) (hx : VR ρ (.func (.func f) m l) (a.eval x)) : Does P ρ H W (.func (.func f) m l) H a o := by
  generalize hev : a.eval x = v at hx
  refine Does.value (v := v) ?_ (Good.same h hx)
  cases hx
  unfold execOp
  simp [ho, hev, Sem.run_pure]
theorem d_iface {x : Operand} {T : TypeId} {d : TypeDesc} (ho : o.op = .makeInterface T x) (h : Held ρ H W) (hu : P.underlying T = some d) (hd : (match d with | .interface _ => false | _ => true) = true) (hx : VR ρ s (a.eval x)) : Does P ρ H W (.iface T s) H a o := by
  refine Does.value (v := .iface T (a.eval x)) ?_ (Good.same h (.iface hx))
  unfold execOp
  cases d <;> first
    | (simp at hd; done)
    | (simp [ho, Instr.makeInterface, underlying, program, hu, Sem.run_bind, Sem.run, Sem.run_pure, Result.andThen_ok]; done)
theorem VRs.of_evals (h : ∀ x ∈ o.op.operands, VR ρ (ev G t x) (a.eval x)) : ∀ xs : List Operand, (∀ x ∈ xs, x ∈ o.op.operands) → VRs ρ (xs.map (ev G t)) (xs.map a.eval)
  | [], _ => .nil
  | x :: xs, hx => .cons (h x (hx x (by simp))) (VRs.of_evals h xs fun y hy => hx y (by simp [hy]))
theorem d_func {fn : Fn} {m l : Array Operand} (ho : o.op = .makeFunc fn m l) (h : Held ρ H W) (hx : Opnds G ρ t a o) : Does P ρ H W (.func fn (m.toList.map (ev G t)) (l.toList.map (ev G t))) H a o := by
  have hm := VRs.of_evals (G := G) (t := t) hx m.toList (fun x hx => by rw [ho]; simp [Op.operands]; exact .inl (by simpa using hx))
  have hl := VRs.of_evals (G := G) (t := t) hx l.toList (fun x hx => by rw [ho]; simp [Op.operands]; exact .inr (by simpa using hx))
  refine Does.value (v := .func fn (m.toList.map a.eval).toArray (l.toList.map a.eval).toArray) ?_ (Good.same h (.func hm hl))
  unfold execOp
  simp [ho, Instr.makeFunc, Sem.run_bind, Sem.run, Sem.run_pure, Result.andThen_ok]
  constructor <;> (apply Array.ext'; simp)
end
end Go.Proofs.YtjflmmipjeangaaGreatDoor.Sx
end
/-
  The executor, one operation: parts of a slice, lengths, parts of a struct or an array, values put together.
-/
section
set_option linter.unusedVariables false
set_option linter.unusedSimpArgs false
namespace Go.Proofs.YtjflmmipjeangaaGreatDoor.Sx
open Go.RowKit

def Cap.less (l : Nat) : Cap → Cap
  | .known n => .known (n - l)
  | .upto s => .upto (s + l)
theorem Cap.less_real (k l : Nat) (c : Cap) : (c.less l).real k = c.real k - l := by cases c <;> simp [Cap.less, Cap.real]; omega
/-- a bound of a slice: given, or the one that stands for it -/
def Bound (ρ : Pl) (a : Act) (d n : Nat) : Option Operand → Prop
  | none => n = d
  | some x => ∃ k, VR ρ (.v (.int k (.ofNat n))) (a.eval x)
theorem bound_run {P : Program} {W : World} {n y : Nat} (k : IntKind) (code : BoundsCode) (h : n ≤ y) : (Instr.sliceBound (.int k (n : Int)) y code).run P W = .ok n W := by
  unfold Instr.sliceBound
  have h0 : (0 : Int) ≤ (n : Int) ∧ (n : Int) ≤ (y : Int) := ⟨Int.natCast_nonneg n, Int.ofNat_le.2 h⟩
  simp only [asIntOf, Sem.run_bind, Sem.run_pure, Result.andThen_ok]
  rw [if_pos h0]
  rfl
section
variable {P : Program} {G : Gl} {ρ : Pl} {H H' : Hp} {W : World} {t : Sl} {a : Act} {o : Oper} {s : SVal}
theorem bounds_run {len cap l m : Nat} {b : Bool} {lo hi : Option Operand} (hl : Bound ρ a 0 l lo) (hm : Bound ρ a len m hi) (h1 : l ≤ m) (h2 : m ≤ cap) :
    (Instr.sliceBounds b len cap (lo.map a.eval) (hi.map a.eval) none).run P W = .ok (l, m, cap) W := by
  unfold Instr.sliceBounds
  cases hi with
  | none =>
    cases lo with
    | none =>
      simp only [Bound] at hl hm
      subst hl; subst hm
      simp [Sem.run_bind, Sem.run_pure, Result.andThen_ok]
    | some y =>
      obtain ⟨k, hk⟩ := hl
      simp only [Bound] at hm
      subst hm
      generalize hyv : a.eval y = yv at hk
      cases hk
      simp [Sem.run_bind, Sem.run_pure, Result.andThen_ok, hyv, bound_run (P := P) (W := W) k _ h1]
  | some y =>
    obtain ⟨k, hk⟩ := hm
    generalize hyv : a.eval y = yv at hk
    cases hk
    have hb1 := fun code => bound_run (P := P) (W := W) (n := m) (y := cap) k code h2
    cases lo with
    | none =>
      simp only [Bound] at hl
      subst hl
      simp [Sem.run_bind, Sem.run_pure, Result.andThen_ok, hyv, hb1]
    | some y' =>
      obtain ⟨k', hk'⟩ := hl
      generalize hyv' : a.eval y' = yv' at hk'
      cases hk'
      simp [Sem.run_bind, Sem.run_pure, Result.andThen_ok, hyv, hyv', hb1, bound_run (P := P) (W := W) k' _ h1]
theorem d_slice {T off len z l m : Nat} {x : Operand} {lo hi : Option Operand} {b : Pos} {c : Cap} (ho : o.op = .slice T x lo hi none) (h : Held ρ H W) (hx : VR ρ (.slice b off len c) (a.eval x)) (hz : elemSize P T = some z)
    (hl : Bound ρ a 0 l lo) (hm : Bound ρ a len m hi) (h1 : l ≤ m) (h2 : m ≤ len) : Does P ρ H W (.slice b (off + l * z) (m - l) (c.less l)) H a o := by
  obtain ⟨e, t, hu, ht, rfl⟩ := elemSize_spec hz
  generalize hev : a.eval x = v at hx
  cases hx with
  | @slice _ _ off' _ r kk _ hr hcap ha =>
    have hb := bounds_run (P := P) (W := W) (b := true) hl hm h1 (Nat.le_trans h2 hcap)
    refine Does.value (v := .slice (some (if c.real kk = l then ⟨r, off', none⟩ else ⟨r, off' + l * t.size, none⟩)) (m - l) (c.real kk - l)) ?_ (Good.same h ?_)
    · unfold execOp
      simp only [ho, hev, Instr.sliceAt, Instr.slice, underlying, program, Sem.run_bind, Sem.run, Sem.run_pure, Result.andThen_ok, hu, Option.map_none, hb, sizeOf, typeInfo, ht]
      by_cases hc : c.real kk = l
      · simp [hc]
      · simp [hc, add_zero_spot]
    · rw [← Cap.less_real]
      by_cases hc : c.real kk = l
      · rw [if_pos hc]
        exact .slice hr (by rw [Cap.less_real]; omega) (.inl (by rw [Cap.less_real]; omega))
      · rw [if_neg hc]
        refine .slice hr (by rw [Cap.less_real]; omega) ?_
        rcases ha with ha | ha
        · omega
        · exact .inr (by rw [ha])
theorem d_slicep {T off n z l m : Nat} {x : Operand} {lo hi : Option Operand} {b : Pos} (ho : o.op = .slice T x lo hi none) (h : Held ρ H W) (hx : VR ρ (.ptr b off) (a.eval x)) (hz : arrOf P T = some (n, z))
    (hl : Bound ρ a 0 l lo) (hm : Bound ρ a n m hi) (h1 : l ≤ m) (h2 : m ≤ n) : Does P ρ H W (.slice b (off + l * z) (m - l) (.known (n - l))) H a o := by
  obtain ⟨e, t, hu, ht, rfl⟩ := arrOf_spec hz
  generalize hev : a.eval x = v at hx
  cases hx with
  | @ptr _ _ r kk hr =>
    have hb := bounds_run (P := P) (W := W) (b := false) hl hm h1 h2
    refine Does.value (v := .slice (some (if n = l then ⟨r, off, none⟩ else ⟨r, off + l * t.size, none⟩)) (m - l) (n - l)) ?_ (Good.same h ?_)
    · unfold execOp
      simp only [ho, hev, Instr.sliceAt, Instr.sureAddr, underlying, program, Sem.run_bind, Sem.run, Sem.run_pure, Result.andThen_ok, hu, Option.map_none, hb, sizeOf, typeInfo, ht]
      by_cases hc : n = l
      · simp [hc]
      · simp [hc, add_zero_spot]
    · have key : ∀ off' : Nat, (n - l = 0 ∨ off' = off + l * t.size) → VR ρ (.slice b (off + l * t.size) (m - l) (.known (n - l))) (.slice (some ⟨r, off', none⟩) (m - l) ((Cap.known (n - l)).real kk)) := fun off' ha => .slice hr (by simp only [Cap.real]; omega) ha
      by_cases hc : n = l
      · rw [if_pos hc]; exact key off (.inl (by omega))
      · rw [if_neg hc]; exact key _ (.inr rfl)
theorem d_len {T off len : Nat} {x : Operand} {b : Pos} {c : Cap} {e : TypeId} (ho : o.op = .call { callee := .builtin .len, args := #[x], argTypes := #[T] }) (h : Held ρ H W) (hu : P.underlying T = some (.slice e)) (hx : VR ρ (.slice b off len c) (a.eval x)) :
    Does P ρ H W (.v (.int .i64 len)) H a o := by
  generalize hev : a.eval x = v at hx
  cases hx with
  | @slice _ _ _ _ r kk _ hr hcap ha =>
    refine Does.value (v := .int .i64 len) ?_ (Good.same h (.v _))
    unfold execOp
    simp [ho, hev, resolve, invoke, builtin, Builtin.len_, goInt, underlying, program, hu, Sem.run_bind, Sem.run, Sem.run_pure, Result.andThen_ok]
theorem d_cap {T off len n : Nat} {x : Operand} {b : Pos} {e : TypeId} (ho : o.op = .call { callee := .builtin .cap, args := #[x], argTypes := #[T] }) (h : Held ρ H W) (hu : P.underlying T = some (.slice e)) (hx : VR ρ (.slice b off len (.known n)) (a.eval x)) :
    Does P ρ H W (.v (.int .i64 n)) H a o := by
  generalize hev : a.eval x = v at hx
  cases hx with
  | @slice _ _ _ _ r kk _ hr hcap ha =>
    refine Does.value (v := .int .i64 n) ?_ (Good.same h (.v _))
    unfold execOp
    simp [ho, hev, resolve, invoke, builtin, Builtin.cap_, goInt, underlying, program, hu, Sem.run_bind, Sem.run, Sem.run_pure, Result.andThen_ok, Cap.real]

/-- a part of the cells l, of type T -/
noncomputable def partS (P : Program) (T : TypeId) (l : List SVal) (off : Nat) : Option SVal :=
  match P.underlying T with
  | some d => match d.isRow with
    | true => match P.info? T with
      | some i => some (.agg (takeR i.size (dropR off l)))
      | none => none
    | false => nthR off l
  | none => none
theorem partS_run {T off : Nat} {l : List SVal} {vs : List Value} (hv : VRs ρ l vs) (hp : partS P T l off = some s) : ∃ v, VR ρ s v ∧ (part T vs.toArray off).run P W = .ok v W := by
  unfold partS at hp
  split at hp
  · next d hu =>
    split at hp
    · next hd =>
      split at hp
      · next i hi =>
        simp only [Option.some.injEq] at hp
        rw [takeR_eq, dropR_eq] at hp
        subst hp
        refine ⟨_, .agg ((hv.drop off).take i.size), ?_⟩
        unfold part isAgg
        cases d <;> first
          | (simp [TypeDesc.isRow] at hd; done)
          | (simp [underlying, program, hu, sizeOf, typeInfo, hi, Sem.run_bind, Sem.run, Sem.run_pure, Result.andThen_ok]
             done)
      · cases hp
    · next hd =>
      rw [nthR_eq] at hp
      obtain ⟨v, h1, h2⟩ := hv.get off s hp
      refine ⟨v, h2, ?_⟩
      unfold part isAgg
      cases d <;> first
        | (simp [TypeDesc.isRow] at hd; done)
        | (simp [underlying, program, hu, h1, Sem.run_bind, Sem.run, Sem.run_pure, Result.andThen_ok]; done)
  · cases hp
/-- the type and the place of a field -/
def fieldAtS (P : Program) (T : TypeId) (i : Nat) : Option (TypeId × Nat) :=
  match P.underlying T with
  | some (.struct fs) => match fs[i]? with
    | some f => some (f.type, f.offset)
    | none => none
  | _ => none
theorem d_fieldv {T i d T' : Nat} {x : Operand} {l : List SVal} (ho : o.op = .field T x i) (h : Held ρ H W) (hx : VR ρ (.agg l) (a.eval x)) (hf : fieldAtS P T i = some (T', d)) (hp : partS P T' l d = some s) : Does P ρ H W s H a o := by
  unfold fieldAtS at hf
  split at hf <;> try (cases hf; done)
  next fs hu =>
  split at hf <;> try (cases hf; done)
  next f hfi =>
  simp only [Option.some.injEq, Prod.mk.injEq] at hf
  obtain ⟨rfl, rfl⟩ := hf
  generalize hev : a.eval x = v at hx
  cases hx with
  | @agg _ vs hl =>
    obtain ⟨v, hv, hr⟩ := partS_run (P := P) (W := W) hl hp
    refine Does.value (v := v) ?_ (Good.same h hv)
    unfold execOp
    simp [ho, hev, Instr.field, underlying, program, hu, hfi, asAgg, Sem.run_bind, Sem.run, Sem.run_pure, Result.andThen_ok, hr]
theorem d_indexv {T n len z : Nat} {e : TypeId} {k : IntKind} {x y : Operand} {l : List SVal} (ho : o.op = .index T x y) (h : Held ρ H W) (hx : VR ρ (.agg l) (a.eval x)) (hy : VR ρ (.v (.int k (.ofNat n))) (a.eval y))
    (hu : P.underlying T = some (.array len e)) (hz : (P.info? e).map (·.size) = some z) (hn : n < len) (hp : partS P e l (n * z) = some s) : Does P ρ H W s H a o := by
  generalize hev : a.eval x = v at hx
  generalize hew : a.eval y = u at hy
  cases hy
  cases hx with
  | @agg _ vs hl =>
    obtain ⟨v, hv, hr⟩ := partS_run (P := P) (W := W) hl hp
    cases hi : P.info? e with
    | none => rw [hi] at hz; cases hz
    | some t =>
      rw [hi] at hz
      simp only [Option.map_some, Option.some.injEq] at hz
      subst hz
      have h0 : (0 : Int) ≤ Int.ofNat n ∧ Int.ofNat n < (len : Int) := ⟨Int.natCast_nonneg n, Int.ofNat_lt.2 hn⟩
      refine Does.value (v := v) ?_ (Good.same h hv)
      unfold execOp
      simp only [ho, hev, hew, Instr.index, asIntOf, underlying, sizeOf, typeInfo, program, Sem.run_bind, Sem.run, Sem.run_pure, Result.andThen_ok, hu, hi]
      rw [if_pos h0]
      simp [Sem.run_bind, Sem.run, Sem.run_pure, Result.andThen_ok, hi, hr, sizeOf, typeInfo, program]

/-- parts laid into cells -/
noncomputable def fillS (place : Nat → Option (Nat × Nat)) (cells : List SVal) (ps : List (Nat × SVal)) : Option (List SVal) :=
  List.rec (fun cells => some cells) (fun p _ ih cells => match place p.1 with
    | some (off, size) => match Nat.beq (lenR p.2.cells) size with
      | true => match Nat.ble (Nat.add off size) (lenR cells) with
        | true => normL (spliceR off p.2.cells cells) ih
        | false => none
      | false => none
    | none => none) ps cells
theorem set_fold (off : Nat) (us : List Value) (cs : List Value) (h : off + us.length ≤ cs.length) :
    ((us.zipIdx).foldl (fun cs (x : Value × Nat) => cs.setIfInBounds (off + x.2) x.1) cs.toArray) = (cs.take off ++ us ++ cs.drop (off + us.length)).toArray := by
  obtain ⟨h1, h2⟩ := Go.Great.foldl_set off us 0 cs.toArray
  apply Array.ext_getElem?
  intro k
  rw [h2 k]
  simp only [Nat.add_zero, List.size_toArray, List.getElem?_toArray]
  by_cases hk : off ≤ k ∧ k < off + us.length ∧ k < cs.length
  · rw [if_pos hk, List.append_assoc, List.getElem?_append_right (by simp; omega), List.getElem?_append_left (by simp; omega)]
    simp only [List.length_take]
    congr 1; omega
  · rw [if_neg hk]
    by_cases hk1 : k < off
    · rw [List.append_assoc, List.getElem?_append_left (by simp; omega), List.getElem?_take_of_lt hk1]
    · rw [List.getElem?_append_right (by simp; omega), List.getElem?_drop]
      simp only [List.length_append, List.length_take]
      by_cases hk2 : k < cs.length
      · congr 1; omega
      · rw [List.getElem?_eq_none (by omega), List.getElem?_eq_none (by omega)]
theorem fillS_run {place : Nat → Option (Nat × Nat)} : ∀ {ps : List (Nat × SVal)} {qs : List (Nat × Value)} {cells : List SVal} {cs : List Value} {l : List SVal}, ps.map (·.1) = qs.map (·.1) → VRs ρ (ps.map (·.2)) (qs.map (·.2)) → VRs ρ cells cs → fillS place cells ps = some l →
    ∃ vs, VRs ρ l vs ∧ Instr.fill place cs.toArray qs = some vs.toArray
  | [], [], cells, cs, l, _, _, hc, hf => by
    have hf' : some cells = some l := hf
    simp only [Option.some.injEq] at hf'
    subst hf'
    exact ⟨cs, hc, rfl⟩
  | [], _ :: _, _, _, _, h, _, _, _ => by cases h
  | _ :: _, [], _, _, _, h, _, _, _ => by cases h
  | (i, s) :: ps, (j, v) :: qs, cells, cs, l, h, hv, hc, hf => by
    simp only [List.map_cons, List.cons.injEq] at h
    obtain ⟨rfl, h⟩ := h
    have hf' : (match place i with
      | some (off, size) => match Nat.beq (lenR s.cells) size with
        | true => match Nat.ble (Nat.add off size) (lenR cells) with
          | true => normL (spliceR off s.cells cells) fun r => fillS place r ps
          | false => none
        | false => none
      | none => none) = some l := hf
    simp only [List.map_cons] at hv
    cases hv with
    | cons hs ht =>
      split at hf' <;> try (cases hf'; done)
      next off size hp =>
      split at hf' <;> try (cases hf'; done)
      next e1 =>
      split at hf' <;> try (cases hf'; done)
      next e2 =>
      rw [normL_eq, spliceR_eq] at hf'
      rw [lenR_eq] at e1 e2
      have e1' : s.cells.length = size := Nat.eq_of_beq_eq_true e1
      have e2' : off + s.cells.length ≤ cells.length := by rw [e1']; exact Nat.le_of_ble_eq_true e2
      have hcl := hc.length
      have hsl := hs.cells.length
      have hstep : VRs ρ (cells.take off ++ s.cells ++ cells.drop (off + s.cells.length)) (cs.take off ++ v.cells.toList ++ cs.drop (off + v.cells.toList.length)) := by
        rw [← hsl]
        exact ((hc.take off).append hs.cells).append (hc.drop _)
      obtain ⟨vs, k1, k2⟩ := fillS_run h ht hstep hf'
      refine ⟨vs, k1, ?_⟩
      unfold Instr.fill
      have hsz : v.cells.size = size := by rw [← e1', hsl]; simp
      have hno : ¬ ((decide (v.cells.size ≠ size) || decide (off + v.cells.size > cs.toArray.size)) = true) := by
        simp only [List.size_toArray, hsz, ne_eq, not_true, decide_false, Bool.false_or, decide_eq_true_eq]
        omega
      simp only [hp]
      rw [if_neg hno, ← k2, ← Array.foldl_toList, Array.toList_zipIdx]
      have := set_fold off v.cells.toList cs (by rw [← hsl, ← hcl]; exact e2')
      rw [this]
end
end Go.Proofs.YtjflmmipjeangaaGreatDoor.Sx
end
/-
  The executor, one operation: structs, arrays and slices put together, new slices, append.
-/
section
set_option linter.unusedVariables false
set_option linter.unusedSimpArgs false
namespace Go.Proofs.YtjflmmipjeangaaGreatDoor.Sx
open Go.RowKit

section
variable {P : Program} {G : Gl} {ρ : Pl} {H H' : Hp} {W : World} {t : Sl} {a : Act} {o : Oper} {s : SVal}
/-- the zero cells of a struct or an array type, and the place of each part -/
def planOf (P : Program) (T : TypeId) : Option (List Value × (Nat → Option (Nat × Nat))) :=
  match P.info? T, P.underlying T with
  | some it, some (.array _ e) =>
    match it.zero, P.info? e with
    | some z, some ie => some (z.cells.toList, fun i => some (i * ie.size, ie.size))
    | _, _ => none
  | some it, some (.struct fields) =>
    match it.zero, fields.toList.mapM (fun f => (P.info? f.type).map fun i => (f.offset, i.size)) with
    | some z, some places => some (z.cells.toList, fun i => places.toArray[i]?)
    | _, _ => none
  | _, _ => none
theorem planOf_built {T : TypeId} {z : List Value} {pl : Nat → Option (Nat × Nat)} (h : planOf P T = some (z, pl)) (qs : List (Nat × Value)) : P.built T qs = Instr.fill pl z.toArray qs := by
  unfold planOf at h
  unfold Program.built
  split at h
  · next it e n hi hu =>
    split at h <;> try (cases h; done)
    next z' ie hz hie =>
    simp only [Option.some.injEq, Prod.mk.injEq] at h
    obtain ⟨rfl, rfl⟩ := h
    simp only [hi, hu, hz, hie]
  · next it fields hi hu =>
    split at h <;> try (cases h; done)
    next z' places hz hie =>
    simp only [Option.some.injEq, Prod.mk.injEq] at h
    obtain ⟨rfl, rfl⟩ := h
    simp only [hi, hu, hz, hie]
  · cases h
/-- the parts, on own values -/
noncomputable def partsS (G : Gl) (t : Sl) (ps : List (Nat × Operand)) : List (Nat × SVal) := ps.map fun p => (p.1, ev G t p.2)
theorem partsS_read (h : ∀ x ∈ o.op.operands, VR ρ (ev G t x) (a.eval x)) : ∀ ps : List (Nat × Operand), (∀ p ∈ ps, p.2 ∈ o.op.operands) →
    (partsS G t ps).map (·.1) = (ps.map fun p => (p.1, a.eval p.2)).map (·.1) ∧ VRs ρ ((partsS G t ps).map (·.2)) ((ps.map fun p => (p.1, a.eval p.2)).map (·.2))
  | [], _ => ⟨rfl, .nil⟩
  | p :: ps, hp => by
    obtain ⟨h1, h2⟩ := partsS_read h ps fun q hq => hp q (by simp [hq])
    exact ⟨by simp only [partsS, List.map_cons] at h1 ⊢; rw [h1], .cons (h p.2 (hp p (by simp))) h2⟩
theorem d_build {T : TypeId} {ps : Array (Nat × Operand)} {z : List Value} {pl : Nat → Option (Nat × Nat)} {l : List SVal} (ho : o.op = .build T ps) (h : Held ρ H W) (hx : Opnds G ρ t a o) (hp : planOf P T = some (z, pl))
    (hf : fillS pl (z.map .v) (partsS G t ps.toList) = some l) : Does P ρ H W (.agg l) H a o := by
  obtain ⟨h1, h2⟩ := partsS_read (G := G) hx ps.toList fun p hp => by
    rw [ho]; simp only [Op.operands, List.mem_toArray, List.mem_map]; simp; exact ⟨p.1, by simpa using hp⟩
  obtain ⟨vs, h3, h4⟩ := fillS_run (ρ := ρ) h1 h2 (VRs.of_map ρ z) hf
  refine Does.value (v := .agg vs.toArray) ?_ (Good.same h (.agg h3))
  unfold execOp
  have hb : P.built T (ps.map fun x => (x.1, a.eval x.2)).toList = some vs.toArray := by rw [planOf_built hp, Array.toList_map]; exact h4
  simp only [ho, Sem.run_bind, run_build W T _ _ hb, Result.andThen_ok, Sem.run_pure]

/-- the element type of a slice type, the cells of an element, those of a zero element -/
def rowOf (P : Program) (T : TypeId) : Option (TypeId × Nat × Value) :=
  match P.underlying T with
  | some (.slice e) => match P.info? e with
    | some i => match i.zero with
      | some z => some (e, i.size, z)
      | none => none
    | none => none
  | _ => none
theorem rowOf_spec {T e n : Nat} {z : Value} (h : rowOf P T = some (e, n, z)) : ∃ i, P.underlying T = some (.slice e) ∧ P.info? e = some i ∧ i.size = n ∧ i.zero = some z := by
  unfold rowOf at h
  split at h <;> try (cases h; done)
  next e' hu =>
  split at h <;> try (cases h; done)
  next i hi =>
  split at h <;> try (cases h; done)
  next z' hz =>
  simp only [Option.some.injEq, Prod.mk.injEq] at h
  obtain ⟨rfl, rfl, rfl⟩ := h
  exact ⟨i, hu, hi, rfl, hz⟩
/-- n zero cells -/
def zerosOf (z : Value) (n : Nat) : List Value := (List.range n).map fun i => z.cells[i % z.cells.size]!
theorem zerosOf_made (z : Value) (n : Nat) : (zerosOf z n).toArray = madeCells z.cells n := by
  apply Array.ext'
  simp [zerosOf, madeCells]
theorem d_buildSlice {T e len n : Nat} {ps : Array (Nat × Operand)} {z : Value} {l : List SVal} (ho : o.op = .buildSlice T len ps) (h : Held ρ H W) (hx : Opnds G ρ t a o) (hr : rowOf P T = some (e, n, z))
    (hs : Nat.ble (len * n) 16777216 = true) (hpos : Nat.ble 1 (len * n) = true)
    (hf : fillS (fun i => some (i * n, n)) ((zerosOf z (len * n)).map .v) (partsS G t ps.toList) = some l) : Does P ρ H W (.slice H.next 0 len (.known len)) (H.more (.cells l e none)) a o := by
  obtain ⟨i, hu, hi, rfl, hz⟩ := rowOf_spec hr
  obtain ⟨h1, h2⟩ := partsS_read (G := G) hx ps.toList fun p hp => by
    rw [ho]; simp only [Op.operands, List.mem_toArray, List.mem_map]; simp; exact ⟨p.1, by simpa using hp⟩
  obtain ⟨vs, h3, h4⟩ := fillS_run (ρ := ρ) h1 h2 (VRs.of_map ρ _) hf
  rw [zerosOf_made] at h4
  obtain ⟨hst, hh⟩ := h.new l vs e h3 0
  refine Does.value (v := .slice (some ⟨W.heap.size, 0, none⟩) len len) ?_ ⟨_, hst, ?_, hh⟩
  · have hs' := Nat.le_of_ble_eq_true hs
    have hp' := Nat.le_of_ble_eq_true hpos
    have h4' : Instr.fill (fun j => some (j * i.size, i.size)) ((Array.range (len * i.size)).map (z.cells[· % z.cells.size]!)) (ps.map fun x => (x.1, a.eval x.2)).toList = some vs.toArray := by rw [Array.toList_map]; exact h4
    unfold execOp
    simp only [ho, Sem.run_bind, run_buildSlice (P := P) W T e len _ vs.toArray i z hu hi hz (by omega) (by omega) h4', Result.andThen_ok, Sem.run_pure]
  · exact VR.slice (c := .known len) (k := 0) (Pl.put_same _ _ _) (Nat.le_refl _) (.inr rfl)
theorem d_buildNone {T e n : Nat} {z : Value} (ho : o.op = .buildSlice T 0 #[]) (h : Held ρ H W) (hr : rowOf P T = some (e, n, z)) : Does P ρ H W (.slice H.next 0 0 (.known 0)) (H.more (.cells [] e none)) a o := by
  obtain ⟨i, hu, hi, rfl, hz⟩ := rowOf_spec hr
  obtain ⟨hst, hh⟩ := h.new [] [] e .nil 0
  refine Does.value (v := .slice (some ⟨W.heap.size, 0, none⟩) 0 0) ?_ ⟨_, hst, ?_, hh⟩
  · unfold execOp
    simp [ho, Instr.buildSlice, run_underlying hu, sizeOf, typeInfo, hi, Instr.fill, newRow, Array.range_zero', Sem.run_bind, Sem.run_pure, Result.andThen_ok]
  · exact VR.slice (c := .known 0) (k := 0) (Pl.put_same _ _ _) (Nat.le_refl _) (.inr rfl)
theorem d_makeSlice {T e n l c : Nat} {x y : Operand} {z : Value} {kl kc : IntKind} {i : TypeInfo} (ho : o.op = .makeSlice T x y) (h : Held ρ H W) (hx : VR ρ (.v (.int kl (.ofNat l))) (a.eval x)) (hy : VR ρ (.v (.int kc (.ofNat c))) (a.eval y))
    (hr : rowOf P T = some (e, n, z)) (hi : P.info? e = some i) (hlc : l ≤ c) (hb : i.bytes * c ≤ 281474976710656) (h63 : c ≤ 9223372036854775807) : Does P ρ H W (.slice H.next 0 l (.known c)) (H.more (.cells ((zerosOf z (c * n)).map .v) e none)) a o := by
  obtain ⟨i', hu, hi', rfl, hz⟩ := rowOf_spec hr
  rw [hi] at hi'
  simp only [Option.some.injEq] at hi'
  subst hi'
  generalize hev : a.eval x = v at hx
  generalize hew : a.eval y = u at hy
  cases hx
  cases hy
  obtain ⟨hst, hh⟩ := h.new ((zerosOf z (c * i.size)).map .v) (zerosOf z (c * i.size)) e (VRs.of_map ρ _) 0
  have hb' : (i.bytes : Int) * (Int.ofNat c) ≤ 281474976710656 := by
    have h : ((i.bytes * c : Nat) : Int) ≤ 281474976710656 := by omega
    rwa [Int.natCast_mul] at h
  have hrun := run_make (P := P) W T e i z hu hi hz kl kc (.ofNat l) (.ofNat c) (Int.natCast_nonneg l) (Int.ofNat_le.2 hlc) hb' (by simp only [Int.ofNat_eq_natCast]; omega)
  refine Does.value (v := .slice (some ⟨W.heap.size, 0, none⟩) l c) (W' := W.alloc (.cells (zerosOf z (c * i.size)).toArray e)) ?_ ⟨_, hst, ?_, hh⟩
  · rw [zerosOf_made]
    unfold execOp
    simp only [ho, hev, hew, Sem.run_bind, hrun, Result.andThen_ok, Sem.run_pure]
    rfl
  · exact VR.slice (c := .known c) (k := 0) (Pl.put_same _ _ _) hlc (.inr rfl)
/-- the one cell of a zero value -/
def oneZero (z : Value) : Option Value :=
  match z.cells with
  | ⟨[v]⟩ => some v
  | _ => none
theorem zerosOf_one {z v : Value} (h : oneZero z = some v) (n i : Nat) (hi : i < n) : (zerosOf z n).toArray[i]? = some v := by
  unfold oneZero at h
  split at h <;> try (cases h; done)
  next u hz =>
  simp only [Option.some.injEq] at h
  subst h
  unfold zerosOf
  simp only [List.getElem?_toArray, List.getElem?_map, List.getElem?_range hi, Option.map_some, hz]
  simp [Nat.mod_one]
theorem d_makeBig {T e l c : Nat} {x y : Operand} {z v0 : Value} {kl kc : IntKind} {i : TypeInfo} (ho : o.op = .makeSlice T x y) (h : Held ρ H W) (hx : VR ρ (.v (.int kl (.ofNat l))) (a.eval x)) (hy : VR ρ (.v (.int kc (.ofNat c))) (a.eval y))
    (hr : rowOf P T = some (e, 1, z)) (hi : P.info? e = some i) (hlc : l ≤ c) (hb : i.bytes * c ≤ 281474976710656) (h63 : c ≤ 9223372036854775807) (h1 : oneZero z = some v0) : Does P ρ H W (.slice H.next 0 l (.known c)) (H.more (.big c (.v v0) [] e)) a o := by
  obtain ⟨i', hu, hi', hsz, hz⟩ := rowOf_spec hr
  rw [hi] at hi'
  simp only [Option.some.injEq] at hi'
  subst hi'
  generalize hev : a.eval x = v at hx
  generalize hew : a.eval y = u at hy
  cases hx
  cases hy
  have hsize : (zerosOf z c).length = c := by simp [zerosOf]
  obtain ⟨hst, hh⟩ := h.grow (W' := W.alloc (.cells (zerosOf z c).toArray e)) (.big c (.v v0) [] e) (r := W.heap.size) (k := 0) (by simp) (.inl (Nat.le_refl _))
    (fun σ _ => ⟨(zerosOf z c).toArray, (MapKept.heap_alloc W _).1, by simp [hsize], fun j hj => ⟨v0, zerosOf_one h1 c j hj, .v v0⟩⟩) rfl rfl rfl (by simp) (fun r hr => Go.RowKit.Below.heap_alloc _ _ _ hr)
  have hb' : (i.bytes : Int) * (Int.ofNat c) ≤ 281474976710656 := by
    have h : ((i.bytes * c : Nat) : Int) ≤ 281474976710656 := by omega
    rwa [Int.natCast_mul] at h
  have hrun := run_make (P := P) W T e i z hu hi hz kl kc (.ofNat l) (.ofNat c) (Int.natCast_nonneg l) (Int.ofNat_le.2 hlc) hb' (by simp only [Int.ofNat_eq_natCast]; omega)
  refine Does.value (v := .slice (some ⟨W.heap.size, 0, none⟩) l c) (W' := W.alloc (.cells (zerosOf z c).toArray e)) ?_ ⟨_, hst, ?_, hh⟩
  · have hm : (zerosOf z c).toArray = madeCells z.cells (c * i.size) := by rw [hsz, Nat.mul_one]; exact zerosOf_made z c
    rw [hm]
    unfold execOp
    simp only [ho, hev, hew, Sem.run_bind, hrun, Result.andThen_ok, Sem.run_pure]
    rfl
  · exact VR.slice (c := .known c) (k := 0) (Pl.put_same _ _ _) hlc (.inr rfl)
end
end Go.Proofs.YtjflmmipjeangaaGreatDoor.Sx
end
