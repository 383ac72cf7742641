/-
  Chapter 62: several texts in one (SymAR, SymAS, SymAT, SymAU, SymAV, SymTab).
-/
import Derived.Test.YtjflmmipjeangaaGreatDoorXD
import Derived.RangeFuncIn
import Derived.RangeFuncRecord
import Derived.RangeFuncLeaves
import Derived.RangeFuncCalls
import Derived.TacticsIn
import Derived.Lib.Join
import Derived.Test.YtjflmmipjeangaaGreatDoorProg
import Derived.KernelRfl
/-
  The executor: ranges over functions ('for x := range seq { .. }'): the walk within a round and within the function that is ranged over.
-/
section
set_option linter.unusedVariables false
set_option linter.unusedSimpArgs false
namespace Go.Proofs.YtjflmmipjeangaaGreatDoor.Sx
open Go.RowKit

/-- a fence that lets everything in -/
structure Open (F : Fence) : Prop where
  fn : ∀ f, F.fn f
  depth : F.depth = none
  calls : ∀ {n : Nat} {P : Program} {f : FuncId} {args : Array Value} {w : World} {R : Ending → World → Prop}, Calls P f args w R → CallsIn F n P f args w R
theorem open_wide : Open Fence.wide := ⟨fun _ => trivial, rfl, fun h => callsIn_wide.2 h⟩
theorem open_round (l : Nat) : Open (Fence.wide.inRound l) := ⟨fun _ => trivial, rfl, fun h => CallsIn.inRound l (callsIn_wide.2 h)⟩
theorem does_in {F : Fence} {n : Nat} {P : Program} {ρ : Pl} {H H' : Hp} {W : World} {s : SVal} {a : Act} {o : Oper} {K : Act → World → Prop} {Q : Exit → Act → World → Prop} (hF : Open F) (h : Does P ρ H W s H' a o) (hd : ∀ c, o.op ≠ .defer c)
    (hK : ∀ v W', Good ρ H W s H' v W' → K (a.put o.dst v) W') : o.wpIn F n P a W K Q := by
  unfold Oper.wpIn
  refine ⟨fun f _ => hF.fn f, ?_⟩
  rw [Oper.semAt_eq F.round a.eval o hd]
  unfold Does Ends at h
  split at h
  · next v w' he => rw [he]; exact hK _ _ h
  · next w' he => rw [he]; exact hK _ _ h
  · next f args w' he =>
    rw [he, Oper.uponIn_enter]
    refine And.intro (fun e => by rw [hF.depth] at e; cases e) (hF.calls (Calls.mono h fun e w'' hh => ?_))
    obtain ⟨v, he, hg⟩ := hh
    subst he
    exact hK _ _ hg
  · exact h.elim

/-- rounds of a loop -/
def RoundsIn (F : Fence) (n : Nat) (P : Program) (c : Code) (Q : Exit → Act → World → Prop) : Nat → Act → World → Prop
  | 0 => fun _ _ => False
  | k + 1 => fun a w => c.wpIn F n P (Exit.then (RoundsIn F n P c Q k) Q) a w
theorem least_of {p : Nat → Prop} : ∀ k, p k → ∃ m, p m ∧ ∀ j, p j → m ≤ j := by
  intro k
  induction k using Nat.strongRecOn with
  | _ k ih =>
    intro h
    by_cases hx : ∃ j, j < k ∧ p j
    · obtain ⟨j, hj, hp⟩ := hx
      exact ih j hj hp
    · exact ⟨k, h, fun j hj => Nat.le_of_not_lt fun hlt => hx ⟨j, hlt, hj⟩⟩
theorem wpIn_rounds {F : Fence} {n : Nat} {P : Program} {c : Code} {Q : Exit → Act → World → Prop} {a : Act} {w : World} (k : Nat) (h : RoundsIn F n P c Q k a w) : (Code.loop c).wpIn F n P Q a w := by
  classical
  let L : Act → World → Nat → Prop := fun a w m => RoundsIn F n P c Q m a w ∧ ∀ j, RoundsIn F n P c Q j a w → m ≤ j
  let μ : Act → World → Nat := fun a w => if h : ∃ m, L a w m then Classical.choose h else 0
  refine wpIn_loop (fun a w => ∃ k, RoundsIn F n P c Q k a w) μ ⟨k, h⟩ fun a w hi => ?_
  have hl : ∀ a w, (∃ k, RoundsIn F n P c Q k a w) → L a w (μ a w) := fun a w ⟨k, hk⟩ => by
    have he : ∃ m, L a w m := least_of k hk
    have : μ a w = Classical.choose he := dif_pos he
    rw [this]
    exact Classical.choose_spec he
  have hs := (hl a w hi).1
  generalize μ a w = m at hs ⊢
  cases m with
  | zero => exact hs.elim
  | succ m =>
    refine wpIn_mono hs fun e a' w' q => ?_
    cases e <;> first
      | exact q
      | exact ⟨⟨m, q⟩, Nat.lt_succ_of_le ((hl a' w' ⟨m, q⟩).2 m q)⟩

/-- a jump that a round leaves pending -/
inductive Jp where
  | ret
  | exit (n : Nat)
def Jp.code : Jp → Code
  | .ret => .ret
  | .exit n => .exit n
/-- what a walk owes: that a call of yield was this loop's; that a range over a function began so -/
inductive Ob where
  | lp (l : Nat)
  | at (g : Operand) (ps : Array Tmp) (x y : Code) (t : Sl) (H : Hp)
/-- how a piece of code ends: slots, heap, pending jump; what is owed -/
inductive YE where
  | norm (t : Sl) (H : Hp) (j : Option Jp) (ob : List Ob)
  | exit (n : Nat) (t : Sl) (H : Hp) (j : Option Jp) (ob : List Ob)
  | ret (t : Sl) (H : Hp) (j : Option Jp) (ob : List Ob)
  | bad
/-- with debts more -/
noncomputable def YE.owe (o : List Ob) : YE → YE
  | .norm t H j ob => .norm t H j (appR o ob)
  | .exit n t H j ob => .exit n t H j (appR o ob)
  | .ret t H j ob => .ret t H j (appR o ob)
  | .bad => .bad
noncomputable def YE.obs : YE → List Ob
  | .norm _ _ _ ob => ob
  | .exit _ _ _ _ ob => ob
  | .ret _ _ _ ob => ob
  | .bad => []
def YE.debt (ok : Ob → Prop) (r : YE) : Prop := ∀ z ∈ r.obs, ok z
theorem owe_norm {o : List Ob} {r : YE} (h : r.owe o ≠ .bad) : r ≠ .bad := fun e => h (by rw [e]; rfl)
theorem owe_debt {ok : Ob → Prop} {o : List Ob} {r : YE} (hb : r.owe o ≠ .bad) (h : (r.owe o).debt ok) : (∀ z ∈ o, ok z) ∧ r.debt ok := by
  cases r <;> first
    | exact absurd rfl hb
    | (unfold YE.debt at h ⊢
       simp only [YE.owe, YE.obs, appR_eq, List.mem_append] at h ⊢
       exact ⟨fun z hz => h z (.inl hz), fun z hz => h z (.inr hz)⟩)
/-- what a call of yield yields -/
abbrev Yl := Nat → List SVal → Hp → Option (SVal × Hp × Option Jp × List Ob)
/-- a range over a function -/
abbrev Rf := Operand → Array Tmp → Code → Code → Sl → Hp → Option Jp → YE
section
variable (P : Program) (G : Gl) (cl : FuncId → List SVal → Hp → Out)
noncomputable def stepY (yl : Yl) (o : Oper) (t : Sl) (H : Hp) (j : Option Jp) : Option (SVal × Hp × Option Jp × List Ob) :=
  match o.op with
  | .defer _ => none
  | .call ⟨.value x, args, _⟩ => match ev G t x with
    | .v (.func (.yield l) ⟨[]⟩ ⟨[]⟩) => match j with
      | none => yl l (args.toList.map (ev G t)) H
      | some _ => none
    | _ => match xop P G cl o t H with
      | some (s, H') => some (s, H', j, [])
      | none => none
  | _ => match xop P G cl o t H with
    | some (s, H') => some (s, H', j, [])
    | none => none
noncomputable def listY (yl : Yl) (ops : Array Oper) : List Oper → Sl → Hp → Option Jp → YE
  | [], t, H, j => .norm t H j []
  | o :: rest, t, H, j => match wantS ops t o with
    | true => match stepY P G cl yl o t H j with
      | some (s, H', j', ob) => match o.dst with
        | some d => (listY yl ops rest (st unset (Pos.of d) s t) H' j').owe ob
        | none => (listY yl ops rest t H' j').owe ob
      | none => .bad
    | false => match o.dst with
      | some d => listY yl ops rest (st unset (Pos.of d) unset t) H j
      | none => listY yl ops rest t H j
noncomputable def roundsY (f : Sl → Hp → Option Jp → YE) : Nat → Sl → Hp → Option Jp → YE
  | 0, _, _, _ => .bad
  | k + 1, t, H, j => match f t H j with
    | .norm t H j ob => (roundsY f k t H j).owe ob
    | r => r
noncomputable def denY (yl : Yl) (rf : Rf) (fuel : Nat) : Code → Sl → Hp → Option Jp → YE
  | .skip, t, H, j => .norm t H j []
  | .label _, t, H, j => .norm t H j []
  | .region _ ops false, t, H, j => listY P G cl yl ops ops.toList t H j
  | .seq x y, t, H, j => match denY yl rf fuel x t H j with
    | .norm t H j ob => (denY yl rf fuel y t H j).owe ob
    | r => r
  | .cond c x y, t, H, j => match ev G t c with
    | .v (.bool true) => denY yl rf fuel x t H j
    | .v (.bool false) => denY yl rf fuel y t H j
    | _ => .bad
  | .block id c, t, H, j => match denY yl rf fuel c t H j with
    | .exit n t H j ob => match Nat.beq n id with
      | true => .norm t H j ob
      | false => .exit n t H j ob
    | r => r
  | .loop c, t, H, j => roundsY (fun t H j => denY yl rf fuel c t H j) fuel t H j
  | .exit id, t, H, j => .exit id t H j []
  | .ret, t, H, j => .ret t H j []
  | .rangeFunc g ps x y, t, H, j => rf g ps x y t H j
  | _, _, _, _ => .bad
end
/-- the claim's bundle: what a piece of code finds -/
structure St (G : Gl) (J : Pl → Hp → World → Option Jp → Prop) (M : List Deferred → Pl → World → Prop) (N : Nat) (t : Sl) (H : Hp) (j : Option Jp) (a : Act) (W : World) : Prop where
  ex : ∃ σ D, H.Tidy ∧ GlobsH G σ H ∧ Held σ H W ∧ FrR D σ N t a ∧ M D σ W ∧ J σ H W j
def IEnd (G : Gl) (J : Pl → Hp → World → Option Jp → Prop) (M : List Deferred → Pl → World → Prop) (N : Nat) (r : YE) (e : Exit) (a : Act) (W : World) : Prop :=
  match r with
  | .norm t H j _ => e = .normal ∧ St G J M N t H j a W
  | .exit m t H j _ => e = .exit m ∧ St G J M N t H j a W
  | .ret t H j _ => e = .ret ∧ St G J M N t H j a W
  | .bad => False
theorem IEnd.owe {G : Gl} {J : Pl → Hp → World → Option Jp → Prop} {M : List Deferred → Pl → World → Prop} {N : Nat} {r : YE} {o : List Ob} {e : Exit} {a : Act} {W : World} (h : IEnd G J M N r e a W) : IEnd G J M N (r.owe o) e a W := by
  cases r <;> exact h
/-- kept by whatever the executor does -/
def KeepJ {α : Type} (J : α → Pl → Hp → World → Prop) : Prop := ∀ x ρ σ H H' W W', Held ρ H W → Stp ρ σ H H' W W' → J x ρ H W → J x σ H' W'
structure Ctx (P : Program) (G : Gl) (cl : FuncId → List SVal → Hp → Out) (F : Fence) (J : Pl → Hp → World → Option Jp → Prop) (M : List Deferred → Pl → World → Prop) (N : Nat) (yl : Yl) (rf : Rf) (ok : Ob → Prop) : Prop where
  hcl : ∀ f args H s H', cl f args H = some (s, H') → Sub H H'
  hok : ClOk P G cl
  hF : Open F
  hJ : ∀ j ρ σ H H' W W', Held ρ H W → Stp ρ σ H H' W W' → J ρ H W j → J σ H' W' j
  hM : ∀ D ρ σ H H' W W', Held ρ H W → Stp ρ σ H H' W W' → M D ρ W → M D σ W'
  hy : ∀ l args H s H' j' ob, yl l args H = some (s, H', j', ob) → (∀ z ∈ ob, ok z) → ∀ n ρ W vs, H.Tidy → GlobsH G ρ H → Held ρ H W → J ρ H W none → VRs ρ args vs →
    ∃ fn tmps asg body, (Instr.yield l vs.toArray).run P W = .ok (.round l fn tmps asg body) W ∧ RoundIn F n P l fn tmps asg body W fun e W' => ∃ v σ, e = .returned v ∧ ρ.le σ ∧ VR σ s v ∧ H'.Tidy ∧ GlobsH G σ H' ∧ Held σ H' W' ∧ J σ H' W' j' ∧ ∀ D, M D ρ W → M D σ W'
  hr : ∀ g ps x y t H j, rf g ps x y t H j ≠ .bad → (rf g ps x y t H j).debt ok → ∀ n a W, St G J M N t H j a W → (Code.rangeFunc g ps x y).wpIn F n P (IEnd G J M N (rf g ps x y t H j)) a W
noncomputable def dstY (N : Nat) : Code → Bool
  | .skip | .label _ | .exit _ | .ret => true
  | .region _ ops _ => ops.toList.all fun o => match o.dst with
      | some d => Nat.blt d N
      | none => true
  | .seq a b | .cond _ a b => dstY N a && dstY N b
  | .block _ a | .loop a => dstY N a
  | .rangeFunc _ _ _ _ => true
  | _ => false
section
variable {P : Program} {G : Gl} {cl : FuncId → List SVal → Hp → Out} {F : Fence} {J : Pl → Hp → World → Option Jp → Prop} {M : List Deferred → Pl → World → Prop} {N : Nat} {yl : Yl} {rf : Rf} {ok : Ob → Prop}
theorem St.put (h : ∀ ρ, ∀ v, VR ρ unset v → True) {t : Sl} {H : Hp} {j : Option Jp} {a : Act} {W : World} (hs : St G J M N t H j a W) {d : Tmp} (hd : d < N) : St G J M N (st unset (Pos.of d) unset t) H j (a.put (some d) undef) W := by
  obtain ⟨σ, D, h1, h2, h3, h4, h5, h6⟩ := hs.ex
  have hp := h4.put (d := Pos.of d) (by rw [Pos.nat_of]; exact hd) (VR.v (ρ := σ) undef)
  rw [Pos.nat_of] at hp
  exact ⟨σ, D, h1, h2, h3, hp, h5, h6⟩
theorem stepY_run (C : Ctx P G cl F J M N yl rf ok) {o : Oper} {t : Sl} {H : Hp} {j : Option Jp} {s : SVal} {H' : Hp} {j' : Option Jp} {ob : List Ob} (h : stepY P G cl yl o t H j = some (s, H', j', ob)) (hob : ∀ z ∈ ob, ok z) {n : Nat} {a : Act} {W : World} (hs : St G J M N t H j a W) {K : Act → World → Prop} {Q : Exit → Act → World → Prop}
    (hK : ∀ v σ D W', H'.Tidy → GlobsH G σ H' → Held σ H' W' → FrR D σ N t a → M D σ W' → J σ H' W' j' → VR σ s v → K (a.put o.dst v) W') : o.wpIn F n P a W K Q := by
  obtain ⟨σ, D, h1, h2, h3, h4, h5, h6⟩ := hs.ex
  have plain : xop P G cl o t H = some (s, H') → j' = j → (∀ c, o.op ≠ .defer c) → o.wpIn F n P a W K Q := fun hx hj hd => by
    subst hj
    refine does_in C.hF (xop_run C.hok h1 h2 h3 (h4.opnds h2.globs o) hx) hd fun v W' ⟨τ, k1, k2, k3⟩ => ?_
    exact hK v τ D W' ((xop_sub C.hcl hx).tidy h1) (h2.step k1) k3 (h4.mono (k1.le h3.fresh)) (C.hM D σ τ H H' W W' h3 k1 h5) (C.hJ j' σ τ H H' W W' h3 k1 h6) k2
  have plain' : (match xop P G cl o t H with
      | some (s, H') => some (s, H', j, [])
      | none => none) = some (s, H', j', ob) → (∀ c, o.op ≠ .defer c) → o.wpIn F n P a W K Q := fun hx hd => by
    split at hx <;> try (cases hx; done)
    next s0 H0 he =>
    simp only [Option.some.injEq, Prod.mk.injEq] at hx
    obtain ⟨rfl, rfl, rfl, _⟩ := hx
    exact plain he rfl hd
  unfold stepY at h
  split at h
  · cases h
  · next x args ts ho =>
    have hnd : ∀ c, o.op ≠ .defer c := fun c e => by rw [ho] at e; cases e
    split at h
    · next l hx =>
      split at h <;> try (cases h; done)
      have hv := h4.ev h2.globs x
      rw [hx] at hv
      have hfv : a.eval x = .func (.yield l) ⟨[]⟩ ⟨[]⟩ := by generalize a.eval x = v at hv; cases hv; rfl
      have hargs : VRs σ (args.toList.map (ev G t)) (args.toList.map a.eval) := by
        have : ∀ xs : List Operand, VRs σ (xs.map (ev G t)) (xs.map a.eval) := by
          intro xs
          induction xs with
          | nil => exact .nil
          | cons x xs ih => exact .cons (h4.ev h2.globs x) ih
        exact this _
      obtain ⟨fn, tmps, asg, body, hrun, hround⟩ := C.hy l _ H s H' j' ob h hob (n - 1) σ W _ h1 h2 h3 h6 hargs
      unfold Oper.wpIn
      refine ⟨fun f _ => C.hF.fn f, ?_⟩
      rw [Oper.semAt_eq F.round a.eval o hnd]
      have he : (execOp a.eval o).run P W = .ok (.round l fn tmps asg body) W := by
        have e2 : (args.toList.map a.eval).toArray = args.map a.eval := by apply Array.ext'; simp
        rw [e2] at hrun
        unfold execOp
        rw [ho]
        simp [resolve, hfv, Deferred.ofValue, invoke, Sem.run_bind, Sem.run_pure, Result.andThen_ok, hrun]
      rw [he, Oper.uponIn_round]
      refine And.intro (fun e => by rw [C.hF.depth] at e; cases e) (RoundIn.mono hround fun e W' hh => ?_)
      obtain ⟨v, τ, rfl, k0, k1, k2, k3, k4, k5, k6⟩ := hh
      exact hK v τ D W' k2 k3 k4 (h4.mono k0) (k6 D h5) k5 k1
    · exact plain' h hnd
  · next hnd _ => exact plain' h hnd
theorem listY_run (C : Ctx P G cl F J M N yl rf ok) {ops : Array Oper} {Q : Exit → Act → World → Prop} {n : Nat} : ∀ (l : List Oper), (∀ o ∈ l, ∀ d, o.dst = some d → d < N) → ∀ t H j a W, listY P G cl yl ops l t H j ≠ .bad → (listY P G cl yl ops l t H j).debt ok → St G J M N t H j a W → (∀ e a' W', IEnd G J M N (listY P G cl yl ops l t H j) e a' W' → Q e a' W') → wpListIn F n P ops Q l a W
  | [], _, t, H, j, a, W, _, _, hs, hQ => wpListIn_nil (hQ _ _ _ ⟨rfl, hs⟩)
  | o :: rest, hd, t, H, j, a, W, hb, hdebt, hs, hQ => by
    obtain ⟨σ, D, h1, h2, h3, h4, h5, h6⟩ := hs.ex
    have hw : wantS ops t o = Region.wanted o (yielded ops a.tmps) := want_eq (ρ := σ) fun d _ => by have := h4.slot (Pos.of d); rw [Pos.nat_of] at this; exact this
    have hdr : ∀ o ∈ rest, ∀ d, o.dst = some d → d < N := fun o ho d h => hd o (List.mem_cons_of_mem _ ho) d h
    have hdo : ∀ d, o.dst = some d → d < N := fun d h => hd o List.mem_cons_self d h
    refine wpListIn_step fun K hK => ?_
    rw [← hw]
    unfold listY at hb hdebt hQ
    cases hwt : wantS ops t o with
    | true =>
      rw [hwt] at hb hdebt hQ
      simp only [if_true]
      cases hst : stepY P G cl yl o t H j with
      | none => rw [hst] at hb; exact absurd rfl hb
      | some r =>
        obtain ⟨s, H', j', ob⟩ := r
        rw [hst] at hb hdebt hQ
        simp only at hb hdebt hQ
        cases hdst : o.dst with
        | none =>
          rw [hdst] at hb hdebt hQ
          simp only at hb hdebt hQ
          obtain ⟨hob, hdebt'⟩ := owe_debt hb hdebt
          refine stepY_run C hst hob hs fun v τ D' W' k1 k2 k3 k4 k5 k6 k7 => hK _ _ ?_
          rw [hdst]
          exact listY_run C rest hdr t H' j' _ W' (owe_norm hb) hdebt' ⟨τ, D', k1, k2, k3, k4, k5, k6⟩ fun e a' W'' h => hQ e a' W'' h.owe
        | some d =>
          rw [hdst] at hb hdebt hQ
          simp only at hb hdebt hQ
          obtain ⟨hob, hdebt'⟩ := owe_debt hb hdebt
          refine stepY_run C hst hob hs fun v τ D' W' k1 k2 k3 k4 k5 k6 k7 => hK _ _ ?_
          have hp := k4.put (d := Pos.of d) (by rw [Pos.nat_of]; exact hdo d hdst) k7
          rw [Pos.nat_of] at hp
          rw [hdst]
          exact listY_run C rest hdr _ H' j' _ W' (owe_norm hb) hdebt' ⟨τ, D', k1, k2, k3, hp, k5, k6⟩ fun e a' W'' h => hQ e a' W'' h.owe
    | false =>
      rw [hwt] at hb hdebt hQ
      simp only [Bool.false_eq_true, if_false]
      refine ⟨fun f _ => C.hF.fn f, hK _ _ ?_⟩
      cases hdst : o.dst with
      | none =>
        rw [hdst] at hb hdebt hQ
        exact listY_run C rest hdr t H j _ W hb hdebt ⟨σ, D, h1, h2, h3, h4, h5, h6⟩ hQ
      | some d =>
        rw [hdst] at hb hdebt hQ
        have hp := h4.put (d := Pos.of d) (by rw [Pos.nat_of]; exact hdo d hdst) (VR.v (ρ := σ) undef)
        rw [Pos.nat_of] at hp
        exact listY_run C rest hdr _ H j _ W hb hdebt ⟨σ, D, h1, h2, h3, hp, h5, h6⟩ hQ
theorem denY_run (C : Ctx P G cl F J M N yl rf ok) (fuel : Nat) : ∀ (c : Code), dstY N c = true → ∀ t H j a W n, denY P G cl yl rf fuel c t H j ≠ .bad → (denY P G cl yl rf fuel c t H j).debt ok → St G J M N t H j a W → c.wpIn F n P (IEnd G J M N (denY P G cl yl rf fuel c t H j)) a W := by
  intro c
  induction c with
  | skip => intro _ t H j a W n _ _ hs; exact wpIn_skip ⟨rfl, hs⟩
  | label m => intro _ t H j a W n _ _ hs; exact wpIn_label ⟨rfl, hs⟩
  | exit id => intro _ t H j a W n _ _ hs; exact wpIn_exit ⟨rfl, hs⟩
  | ret => intro _ t H j a W n _ _ hs; exact wpIn_ret ⟨rfl, hs⟩
  | region id ops draw =>
    intro hd t H j a W n hb hdebt hs
    cases draw with
    | true => exact absurd rfl hb
    | false =>
      have hd' : (ops.toList.all fun o => match o.dst with
        | some d => Nat.blt d N
        | none => true) = true := hd
      rw [List.all_eq_true] at hd'
      refine wpIn_region_list (listY_run C ops.toList (fun o ho d hod => ?_) t H j a W hb hdebt hs fun e a' W' h => h)
      have := hd' o ho
      rw [hod] at this
      exact Nat.blt_eq.mp this
  | seq x y ihx ihy =>
    intro hd t H j a W n hb hdebt hs
    have hd' : (dstY N x && dstY N y) = true := hd
    rw [Bool.and_eq_true] at hd'
    have he : denY P G cl yl rf fuel (.seq x y) t H j = (match denY P G cl yl rf fuel x t H j with
      | .norm t H j ob => (denY P G cl yl rf fuel y t H j).owe ob
      | r => r) := rfl
    rw [he] at hb hdebt ⊢
    refine wpIn_seq ?_
    have h1 := ihx hd'.1 t H j a W n
    cases hr : denY P G cl yl rf fuel x t H j with
    | norm t1 H1 j1 ob =>
      rw [hr] at h1 hb hdebt
      simp only at hb hdebt
      obtain ⟨hob, hdebt'⟩ := owe_debt hb hdebt
      refine wpIn_mono (h1 (fun e => by cases e) hob hs) fun e a' W' ⟨he, hl⟩ => ?_
      subst he
      exact wpIn_mono (ihy hd'.2 t1 H1 j1 a' W' n (owe_norm hb) hdebt' hl) fun e a2 W2 h => h.owe
    | exit m t1 H1 j1 ob =>
      rw [hr] at h1 hdebt
      refine wpIn_mono (h1 (fun e => by cases e) hdebt hs) fun e a' W' h => ?_
      obtain ⟨rfl, hl⟩ := h
      exact ⟨rfl, hl⟩
    | ret t1 H1 j1 ob =>
      rw [hr] at h1 hdebt
      refine wpIn_mono (h1 (fun e => by cases e) hdebt hs) fun e a' W' h => ?_
      obtain ⟨rfl, hl⟩ := h
      exact ⟨rfl, hl⟩
    | bad => rw [hr] at hb; exact absurd rfl hb
  | cond c x y ihx ihy =>
    intro hd t H j a W n hb hdebt hs
    have hd' : (dstY N x && dstY N y) = true := hd
    rw [Bool.and_eq_true] at hd'
    have he : denY P G cl yl rf fuel (.cond c x y) t H j = (match ev G t c with
      | .v (.bool true) => denY P G cl yl rf fuel x t H j
      | .v (.bool false) => denY P G cl yl rf fuel y t H j
      | _ => .bad) := rfl
    obtain ⟨σ, D, h1, h2, h3, h4, h5, h6⟩ := hs.ex
    have hc := h4.ev h2.globs c
    rw [he] at hb hdebt ⊢
    split at hb
    · next hv =>
      rw [hv] at hc
      have hc' : a.eval c = .bool true := by generalize a.eval c = v at hc; cases hc; rfl
      exact wpIn_cond_true hc' (ihx hd'.1 t H j a W n hb (by rw [hv] at hdebt; exact hdebt) hs)
    · next hv =>
      rw [hv] at hc
      have hc' : a.eval c = .bool false := by generalize a.eval c = v at hc; cases hc; rfl
      exact wpIn_cond_false hc' (ihy hd'.2 t H j a W n hb (by rw [hv] at hdebt; exact hdebt) hs)
    · exact absurd rfl hb
  | block id b ih =>
    intro hd t H j a W n hb hdebt hs
    have he : denY P G cl yl rf fuel (.block id b) t H j = (match denY P G cl yl rf fuel b t H j with
      | .exit n t H j ob => match Nat.beq n id with
        | true => .norm t H j ob
        | false => .exit n t H j ob
      | r => r) := rfl
    rw [he] at hb hdebt ⊢
    refine wpIn_block ?_
    have h1 := ih hd t H j a W n
    cases hr : denY P G cl yl rf fuel b t H j with
    | norm t1 H1 j1 ob =>
      rw [hr] at h1 hdebt
      refine wpIn_mono (h1 (fun e => by cases e) hdebt hs) fun e a' W' h => ?_
      obtain ⟨rfl, hl⟩ := h
      exact ⟨rfl, hl⟩
    | exit m t1 H1 j1 ob =>
      rw [hr] at h1 hdebt
      have hd0 : (YE.exit m t1 H1 j1 ob).debt ok := by
        revert hdebt
        simp only
        cases Nat.beq m id <;> exact fun h => h
      refine wpIn_mono (h1 (fun e => by cases e) hd0 hs) fun e a' W' h => ?_
      obtain ⟨rfl, hl⟩ := h
      by_cases hmi : m = id
      · subst hmi
        simp only [Exit.inBlock, Nat.beq_refl]
        simp
        exact ⟨rfl, hl⟩
      · have hbeq : Nat.beq m id = false := by
          cases hx : Nat.beq m id with
          | false => rfl
          | true => exact absurd (Nat.eq_of_beq_eq_true hx) hmi
        simp only [Exit.inBlock, hbeq, hmi, if_false]
        exact ⟨rfl, hl⟩
    | ret t1 H1 j1 ob =>
      rw [hr] at h1 hdebt
      refine wpIn_mono (h1 (fun e => by cases e) hdebt hs) fun e a' W' h => ?_
      obtain ⟨rfl, hl⟩ := h
      exact ⟨rfl, hl⟩
    | bad => rw [hr] at hb; exact absurd rfl hb
  | loop b ih =>
    intro hd t H j a W n hb hdebt hs
    refine wpIn_rounds fuel ?_
    have key : ∀ k t H j a W (Q : Exit → Act → World → Prop), roundsY (fun t H j => denY P G cl yl rf fuel b t H j) k t H j ≠ .bad → (roundsY (fun t H j => denY P G cl yl rf fuel b t H j) k t H j).debt ok → St G J M N t H j a W →
        (∀ e a' W', IEnd G J M N (roundsY (fun t H j => denY P G cl yl rf fuel b t H j) k t H j) e a' W' → Q e a' W') → RoundsIn F n P b Q k a W := by
      intro k
      induction k with
      | zero => intro t H j a W Q hb; exact absurd rfl hb
      | succ k ihk =>
        intro t H j a W Q hb hdebt hs hQ
        unfold roundsY at hb hdebt hQ
        show b.wpIn F n P (Exit.then (RoundsIn F n P b Q k) Q) a W
        have h1 := ih hd t H j a W n
        cases hr : denY P G cl yl rf fuel b t H j with
        | norm t1 H1 j1 ob =>
          rw [hr] at h1 hb hdebt hQ
          simp only at hb hdebt hQ
          obtain ⟨hob, hdebt'⟩ := owe_debt hb hdebt
          refine wpIn_mono (h1 (fun e => by cases e) hob hs) fun e a' W' ⟨he, hl⟩ => ?_
          subst he
          exact ihk t1 H1 j1 a' W' Q (owe_norm hb) hdebt' hl fun e a2 W2 h => hQ e a2 W2 h.owe
        | exit m t1 H1 j1 ob =>
          rw [hr] at h1 hdebt hQ
          refine wpIn_mono (h1 (fun e => by cases e) hdebt hs) fun e a' W' h => ?_
          obtain ⟨rfl, hl⟩ := h
          exact hQ _ _ _ ⟨rfl, hl⟩
        | ret t1 H1 j1 ob =>
          rw [hr] at h1 hdebt hQ
          refine wpIn_mono (h1 (fun e => by cases e) hdebt hs) fun e a' W' h => ?_
          obtain ⟨rfl, hl⟩ := h
          exact hQ _ _ _ ⟨rfl, hl⟩
        | bad => rw [hr] at hb; exact absurd rfl hb
    exact key fuel t H j a W _ hb hdebt hs fun e a' W' h => h
  | rangeFunc g ps x y _ _ => intro _ t H j a W n hb hdebt hs; exact C.hr g ps x y t H j hb hdebt n a W hs
  | _ => intros; rename_i hb _ _; exact absurd rfl hb
end
end Go.Proofs.YtjflmmipjeangaaGreatDoor.Sx
end
/-
  The executor, ranges over functions: the statement; entries.
-/
section
set_option linter.unusedVariables false
set_option linter.unusedSimpArgs false
namespace Go.Proofs.YtjflmmipjeangaaGreatDoor.Sx
open Go.RowKit

/-- a block of the book-keeping: no own block lies there -/
structure Bk (ρ : Pl) (W : World) (x : Nat) (o : Obj) : Prop where
  at_ : W.heap[x]? = some o
  free : ∀ b k, ρ b ≠ some (x, k)
theorem Bk.lt {ρ : Pl} {W : World} {x : Nat} {o : Obj} (h : Bk ρ W x o) : x < W.heap.size := (Array.getElem?_eq_some_iff.1 h.at_).1
theorem Bk.safe {ρ : Pl} {W : World} {x : Nat} {o : Obj} {H : Hp} (h : Bk ρ W x o) : Safe ρ H x := fun b k e _ => absurd e (h.free b k)
theorem Bk.step {ρ σ : Pl} {H H' : Hp} {W W' : World} {x : Nat} {o : Obj} (s : Stp ρ σ H H' W W') (h : Bk ρ W x o) : Bk σ W' x o := by
  refine ⟨(s.frame x h.lt h.safe).trans h.at_, fun b k e => ?_⟩
  by_cases hb : b.nat < H.next.nat
  · rw [s.agree b hb] at e; exact h.free b k e
  · rcases s.born b x k (by omega) e with h1 | h1
    · have := h.lt; omega
    · exact h1 h.safe
theorem Bk.put {ρ : Pl} {W : World} {x y : Nat} {o o' : Obj} (h : Bk ρ W x o) (hne : x ≠ y) : Bk ρ (W.putObj y o') x o := ⟨(World.putObj_heap_other (by omega)).trans h.at_, h.free⟩
theorem Bk.self {ρ : Pl} {W : World} {x : Nat} {o o' : Obj} (h : Bk ρ W x o) : Bk ρ (W.putObj x o') x o' := ⟨World.putObj_heap_same h.lt, h.free⟩
theorem putObj_size (W : World) (x : Nat) (o : Obj) : (W.putObj x o).heap.size = W.heap.size := by simp [World.putObj]
/-- own blocks do not see the book-keeping -/
theorem Held.mark {ρ : Pl} {H : Hp} {W : World} {x : Nat} {o o' : Obj} (h : Held ρ H W) (hb : Bk ρ W x o) : Held ρ H (W.putObj x o') := by
  refine ⟨h.fresh, fun b r k e => by rw [putObj_size]; exact h.lt b r k e, fun b r k e => (h.obj b r k e).world (World.putObj_heap_other ?_), h.apart⟩
  intro heq
  subst heq
  exact hb.free b k e
theorem Stp.mark {ρ σ : Pl} {H H' : Hp} {W W' : World} {x : Nat} {o' : Obj} (s : Stp ρ σ H H' W W') (hx : W.heap.size ≤ x) : Stp ρ σ H H' W (W'.putObj x o') :=
  ⟨s.agree, s.low, s.next, s.old, s.dead, s.os, s.tape, s.output, by rw [putObj_size]; exact s.size, fun r hr hs => (World.putObj_heap_other (by omega)).trans (s.frame r hr hs), s.born⟩
theorem alloc_old {W : World} {o : Obj} {x : Nat} (h : x < W.heap.size) : (W.alloc o).heap[x]? = W.heap[x]? := by
  show (W.heap.push o)[x]? = _
  rw [Array.getElem?_push, if_neg (by omega)]
/-- a block that is laid beside the own ones -/
theorem Held.lay {ρ : Pl} {H : Hp} {W : World} {o : Obj} (h : Held ρ H W) : Held ρ H (W.alloc o) := by
  refine ⟨h.fresh, fun b r k e => by rw [World.size_alloc]; have := h.lt b r k e; omega, fun b r k e => (h.obj b r k e).world (alloc_old (h.lt b r k e)), h.apart⟩
theorem Stp.lay {ρ σ : Pl} {H H' : Hp} {W W' : World} {o : Obj} (s : Stp ρ σ H H' W W') : Stp ρ σ H H' W (W'.alloc o) :=
  ⟨s.agree, s.low, s.next, s.old, s.dead, s.os, s.tape, s.output, by rw [World.size_alloc]; have := s.size; omega, fun r hr hs => by
    have := s.size
    exact (alloc_old (by omega)).trans (s.frame r hr hs), s.born⟩
theorem Bk.lay {ρ : Pl} {W : World} {x : Nat} {o o' : Obj} (h : Bk ρ W x o) : Bk ρ (W.alloc o') x o := by
  exact ⟨(alloc_old h.lt).trans h.at_, h.free⟩
theorem Bk.new {ρ : Pl} {H : Hp} {W : World} {o : Obj} (h : Held ρ H W) : Bk ρ (W.alloc o) W.heap.size o :=
  ⟨World.alloc_heap_new W o, fun b k e => by have := h.lt b _ k e; omega⟩
/-- the parameters of a round -/
noncomputable def putsS (ps : List Tmp) (args : List SVal) (t : Sl) : Sl :=
  match ps, args with
  | p :: ps, s :: args => putsS ps args (st unset (Pos.of p) s t)
  | _, _ => t
theorem FrR.puts {ρ : Pl} {N : Nat} : ∀ (ps : List Tmp) (args : List SVal) (vs : List Value) (t : Sl) (T : Array Value), VRs ρ args vs → (∀ p ∈ ps, p < N) → FrR [] ρ N t { tmps := T, defers := [] } →
    FrR [] ρ N (putsS ps args t) { tmps := (ps.zip vs).foldl (fun t (p, v) => t.setIfInBounds p v) T, defers := [] }
  | [], args, vs, t, T, _, _, h => by
    cases args <;> exact h
  | p :: ps, args, vs, t, T, hv, hp, h => by
    cases hv with
    | nil => exact h
    | cons h1 h2 =>
      have hpN := hp p List.mem_cons_self
      have h3 := h.put (d := Pos.of p) (by rw [Pos.nat_of]; exact hpN) h1
      rw [Pos.nat_of] at h3
      exact FrR.puts ps _ _ _ _ h2 (fun q hq => hp q (List.mem_cons_of_mem _ hq)) h3
def noYl : Yl := fun _ _ _ => none
def noRf : Rf := fun _ _ _ _ _ _ _ => .bad
section
variable (P : Program) (G : Gl) (cl : FuncId → List SVal → Hp → Out)
/-- one round -/
noncomputable def ylY (fuel : Nat) (l : Nat) (ps : Array Tmp) (x y : Code) (t : Sl) : Yl := fun l' args H =>
  match Nat.beq (lenR args) ps.size with
  | true => match denY P G cl noYl noRf fuel x (putsS ps.toList args t) H none with
    | .norm t1 H1 _ ob1 => match denY P G cl noYl noRf fuel y t1 H1 none with
      | .norm _ H2 _ ob2 => some (.v (.bool true), H2, none, .lp l' :: appR ob1 ob2)
      | .ret _ H2 _ ob2 => some (.v (.bool false), H2, some .ret, .lp l' :: appR ob1 ob2)
      | .exit n _ H2 _ ob2 => some (.v (.bool false), H2, some (.exit n), .lp l' :: appR ob1 ob2)
      | .bad => none
    | _ => none
  | false => none
/-- the statement, of a caller with N slots -/
noncomputable def rfY (fuel N : Nat) (l : Nat) (g : Operand) (ps : Array Tmp) (x y : Code) (t : Sl) (H : Hp) : YE :=
  match ev G t g with
  | .func (.func gf) [] caps => match P.funcs[gf]? with
    | some fn => match fn.body with
      | some c => match Nat.ble (Nat.succ (lenR caps)) fn.ntmps, dstY fn.ntmps c, dstY N x && dstY N y && ps.toList.all (Nat.blt · N), enters P gf with
        | true, true, true, true => match denY P G cl (ylY P G cl fuel l ps x y t) noRf fuel c (argsS (.v (.func (.yield l) ⟨[]⟩ ⟨[]⟩) :: caps) .H .leaf) H none with
          | .norm t' H' j' ob => match resS P fn t' H' with
            | some (_, H2) => match j' with
              | none => .norm t H2 none ob
              | some .ret => .ret t H2 none ob
              | some (.exit n) => .exit n t H2 none ob
            | none => .bad
          | .ret t' H' j' ob => match resS P fn t' H' with
            | some (_, H2) => match j' with
              | none => .norm t H2 none ob
              | some .ret => .ret t H2 none ob
              | some (.exit n) => .exit n t H2 none ob
            | none => .bad
          | _ => .bad
        | _, _, _, _ => .bad
      | none => .bad
    | none => .bad
  | _ => .bad
end
/-- marks of loops among the deferred calls -/
def Marks (Wa : World) (D : List Deferred) (ρ : Pl) (W : World) : Prop := ∃ xs : List Nat, D = xs.map (fun x => { target := .collected x, args := #[] }) ∧ xs.Nodup ∧ (∀ x ∈ xs, Bk ρ W x (.deferred (some []))) ∧ ∀ x ∈ xs, Wa.heap.size ≤ x
theorem Marks.step {Wa : World} {D : List Deferred} {ρ σ : Pl} {H H' : Hp} {W W' : World} (s : Stp ρ σ H H' W W') (h : Marks Wa D ρ W) : Marks Wa D σ W' := by
  obtain ⟨xs, h1, h2, h3, h4⟩ := h
  exact ⟨xs, h1, h2, fun x hx => (h3 x hx).step s, h4⟩
/-- within a loop's rounds: since the loop was entered; since the round began -/
def JB (ρ0 : Pl) (H0 : Hp) (W0 : World) (l D : Nat) (o : Obj) (ρ1 : Pl) (ρ : Pl) (H : Hp) (W : World) : Prop := ρ1.le ρ ∧ Stp ρ0 ρ H0 H W0 W ∧ Bk ρ W l o ∧ Bk ρ W D (.deferred (some []))
theorem JB.step {ρ0 : Pl} {H0 : Hp} {W0 : World} {l D : Nat} {o : Obj} {ρ1 ρ σ : Pl} {H H' : Hp} {W W' : World} (hh : Held ρ H W) (s : Stp ρ σ H H' W W') (h : JB ρ0 H0 W0 l D o ρ1 ρ H W) : JB ρ0 H0 W0 l D o ρ1 σ H' W' :=
  ⟨fun b x e => s.le hh.fresh b x (h.1 b x e), h.2.1.trans s, h.2.2.1.step s, h.2.2.2.step s⟩
section
variable {P : Program} {G : Gl} {cl : FuncId → List SVal → Hp → Out}
theorem body_ctx (hcl : ∀ f args H s H', cl f args H = some (s, H') → Sub H H') (hok : ClOk P G cl) (ok : Ob → Prop) (ρ0 : Pl) (H0 : Hp) (W0 : World) (l D : Nat) (o : Obj) (ρ1 : Pl) (N lr : Nat) :
    Ctx P G cl (Fence.wide.inRound lr) (fun ρ H W _ => JB ρ0 H0 W0 l D o ρ1 ρ H W) (fun D _ _ => D = []) N noYl noRf ok where
  hcl := hcl
  hok := hok
  hF := open_round lr
  hJ := fun _ _ _ _ _ _ _ hh s h => h.step hh s
  hM := fun _ _ _ _ _ _ _ _ _ h => h
  hy := fun _ _ _ _ _ _ _ h => by cases h
  hr := fun _ _ _ _ _ _ _ h => absurd rfl h
def recY (fn : FuncId) (T : Array Value) (ps : Array Tmp) (x y : Code) (D : Nat) (st : LoopState) (pe : Option Code) : Loop := { state := st, pending := pe, fn := fn, tmps := T, params := ps, assign := x, body := y, defers := D }
def recJ (fn : FuncId) (T : Array Value) (ps : Array Tmp) (x y : Code) (D : Nat) (j : Option Jp) : Loop := recY fn T ps x y D (if j.isNone then .ready else .done) (j.map Jp.code)
theorem yl_round (hcl : ∀ f args H s H', cl f args H = some (s, H') → Sub H H') (hok : ClOk P G cl) {ρ0 : Pl} {H0 : Hp} {W0 : World} {l D N fuel : Nat} {fn : FuncId} {T : Array Value} {ps : Array Tmp} {x y : Code} {t : Sl} (hlD : l ≠ D) (hW0 : W0.heap.size ≤ l) (hfr : FrR [] ρ0 N t { tmps := T, defers := [] })
    (hdx : dstY N x = true) (hdy : dstY N y = true) (hps : ∀ p ∈ ps.toList, p < N) {l' : Nat} {args : List SVal} {H : Hp} {s : SVal} {H' : Hp} {j' : Option Jp} {ob : List Ob} (h : ylY P G cl fuel l ps x y t l' args H = some (s, H', j', ob)) (hob : ∀ z ∈ ob, z = .lp l)
    (n : Nat) (ρ : Pl) (W : World) (vs : List Value) (ht : H.Tidy) (hg : GlobsH G ρ H) (hh : Held ρ H W) (hJ : JB ρ0 H0 W0 l D (.loop (recJ fn T ps x y D none)) ρ0 ρ H W) (hv : VRs ρ args vs) :
    ∃ fm tmps asg body, (Instr.yield l' vs.toArray).run P W = .ok (.round l' fm tmps asg body) W ∧ RoundIn Fence.wide n P l' fm tmps asg body W fun e W' => ∃ v σ, e = .returned v ∧ ρ.le σ ∧ VR σ s v ∧ H'.Tidy ∧ GlobsH G σ H' ∧ Held σ H' W' ∧ JB ρ0 H0 W0 l D (.loop (recJ fn T ps x y D j')) ρ0 σ H' W' ∧ ∀ Dl : List Deferred, Dl = [] → Dl = [] := by
  unfold ylY at h
  split at h <;> try (cases h; done)
  next hlen =>
  have hlen' := Nat.eq_of_beq_eq_true hlen
  rw [lenR_eq] at hlen'
  split at h <;> try (cases h; done)
  next t1 H1 j1 ob1 hx =>
  have hsz : vs.toArray.size = ps.size := by rw [List.size_toArray, ← hv.length]; exact hlen'
  obtain ⟨hJ1, hJ2, hJ3, hJ4⟩ := hJ
  have fin : ∀ (oy : List Ob), (∀ z ∈ (.lp l' :: appR ob1 oy : List Ob), z = .lp l) → l' = l ∧ (∀ z ∈ ob1, z = Ob.lp l) ∧ ∀ z ∈ oy, z = Ob.lp l := fun oy hz => by
    rw [appR_eq] at hz
    have h1 := hz (.lp l') List.mem_cons_self
    simp only [Ob.lp.injEq] at h1
    exact ⟨h1, fun z hz1 => hz z (List.mem_cons_of_mem _ (List.mem_append_left _ hz1)), fun z hz1 => hz z (List.mem_cons_of_mem _ (List.mem_append_right _ hz1))⟩
  have main : ∀ (oy : List Ob), l' = l → (∀ z ∈ ob1, z = Ob.lp l) → (∀ z ∈ oy, z = Ob.lp l) → (denY P G cl noYl noRf fuel y t1 H1 none).obs = oy → denY P G cl noYl noRf fuel y t1 H1 none ≠ .bad →
      (∀ (jump : Option Code) (e : Exit) (a' : Act) (W3 : World) (t2 : Sl), IEnd G (fun ρ2 H2 W2 _ => JB ρ0 H0 W0 l D (.loop (recY fn T ps x y D .busy none)) ρ ρ2 H2 W2) (fun D _ _ => D = []) N (denY P G cl noYl noRf fuel y t1 H1 none) e a' W3 → roundPost P l (fun e W' => ∃ v σ, e = .returned v ∧ ρ.le σ ∧ VR σ s v ∧ H'.Tidy ∧ GlobsH G σ H' ∧ Held σ H' W' ∧ JB ρ0 H0 W0 l D (.loop (recJ fn T ps x y D j')) ρ0 σ H' W' ∧ ∀ Dl : List Deferred, Dl = [] → Dl = []) e a' W3) →
      ∃ fm tmps asg body, (Instr.yield l' vs.toArray).run P W = .ok (.round l' fm tmps asg body) W ∧ RoundIn Fence.wide n P l' fm tmps asg body W fun e W' => ∃ v σ, e = .returned v ∧ ρ.le σ ∧ VR σ s v ∧ H'.Tidy ∧ GlobsH G σ H' ∧ Held σ H' W' ∧ JB ρ0 H0 W0 l D (.loop (recJ fn T ps x y D j')) ρ0 σ H' W' ∧ ∀ Dl : List Deferred, Dl = [] → Dl = [] := by
    intro oy hl ho1 ho2 hoy hyb hend
    subst hl
    refine ⟨_, _, _, _, run_yield hJ3.at_ hsz, roundIn_of_wpIn trivial ?_⟩
    have hf1 : FrR [] ρ N (putsS ps.toList args t) { tmps := (ps.zip vs.toArray).foldl (fun tmps (t, a) => tmps.setIfInBounds t a) T, defers := [] } := by
      have := (hfr.mono hJ1).puts ps.toList args vs _ _ hv hps
      have e : (ps.zip vs.toArray).foldl (fun tmps (t, a) => tmps.setIfInBounds t a) T = (ps.toList.zip vs).foldl (fun t (p, v) => t.setIfInBounds p v) T := by
        rw [← Array.foldl_toList]
        simp
      rw [e]; exact this
    have hxr := denY_run (body_ctx hcl hok (fun z => z = Ob.lp l') ρ0 H0 W0 l' D (.loop (recJ fn T ps x y D none)) ρ N l') fuel x hdx (putsS ps.toList args t) H none _ W n (by rw [hx]; exact fun e => by cases e) (by rw [hx]; exact ho1)
      ⟨ρ, [], ht, hg, hh, hf1, rfl, ⟨fun b x h => h, hJ2, hJ3, hJ4⟩⟩
    rw [hx] at hxr
    refine wpIn_mono hxr fun e a1 W1 he => ?_
    obtain ⟨rfl, hst⟩ := he
    obtain ⟨σ, D1, k1, k2, k3, k4, k5, k6, k7, k8, k9⟩ := hst.ex
    subst k5
    refine ⟨_, run_beginRound k8.at_ rfl, ?_⟩
    have hyr := denY_run (body_ctx hcl hok (fun z => z = Ob.lp l') ρ0 H0 W0 l' D (.loop (recY fn T ps x y D .busy none)) ρ N l') fuel y hdy t1 H1 none a1 (W1.putObj l' (.loop (recY fn T ps x y D .busy none))) n hyb (by unfold YE.debt; rw [hoy]; exact ho2)
      ⟨σ, [], k1, k2, k3.mark k8, k4, rfl, ⟨k6, k7.mark hW0, k8.self, k9.put (Ne.symm hlD)⟩⟩
    exact wpIn_mono hyr fun e a' W3 h => hend none e a' W3 t1 h
  split at h
  · next t2 H2 j2 ob2 hy =>
    simp only [Option.some.injEq, Prod.mk.injEq] at h
    obtain ⟨rfl, rfl, rfl, rfl⟩ := h
    obtain ⟨q1, q2, q3⟩ := fin ob2 hob
    refine main ob2 q1 q2 q3 (by rw [hy]; rfl) (by rw [hy]; exact fun e => by cases e) fun _ e a' W3 _ he => ?_
    rw [hy] at he
    obtain ⟨rfl, hst⟩ := he
    obtain ⟨σ, D1, k1, k2, k3, k4, k5, k6, k7, k8, k9⟩ := hst.ex
    exact ⟨_, _, run_endRound none k8.at_, _, σ, rfl, k6, .v _, k1, k2, k3.mark k8, ⟨fun b x h => k6 b x (hJ1 b x h), k7.mark hW0, k8.self, k9.put (Ne.symm hlD)⟩, fun _ h => h⟩
  · next t2 H2 j2 ob2 hy =>
    simp only [Option.some.injEq, Prod.mk.injEq] at h
    obtain ⟨rfl, rfl, rfl, rfl⟩ := h
    obtain ⟨q1, q2, q3⟩ := fin ob2 hob
    refine main ob2 q1 q2 q3 (by rw [hy]; rfl) (by rw [hy]; exact fun e => by cases e) fun _ e a' W3 _ he => ?_
    rw [hy] at he
    obtain ⟨rfl, hst⟩ := he
    obtain ⟨σ, D1, k1, k2, k3, k4, k5, k6, k7, k8, k9⟩ := hst.ex
    exact ⟨_, _, run_endRound (some .ret) k8.at_, _, σ, rfl, k6, .v _, k1, k2, k3.mark k8, ⟨fun b x h => k6 b x (hJ1 b x h), k7.mark hW0, k8.self, k9.put (Ne.symm hlD)⟩, fun _ h => h⟩
  · next m t2 H2 j2 ob2 hy =>
    simp only [Option.some.injEq, Prod.mk.injEq] at h
    obtain ⟨rfl, rfl, rfl, rfl⟩ := h
    obtain ⟨q1, q2, q3⟩ := fin ob2 hob
    refine main ob2 q1 q2 q3 (by rw [hy]; rfl) (by rw [hy]; exact fun e => by cases e) fun _ e a' W3 _ he => ?_
    rw [hy] at he
    obtain ⟨rfl, hst⟩ := he
    obtain ⟨σ, D1, k1, k2, k3, k4, k5, k6, k7, k8, k9⟩ := hst.ex
    exact ⟨_, _, run_endRound (some (.exit m)) k8.at_, _, σ, rfl, k6, .v _, k1, k2, k3.mark k8, ⟨fun b x h => k6 b x (hJ1 b x h), k7.mark hW0, k8.self, k9.put (Ne.symm hlD)⟩, fun _ h => h⟩
  · cases h
/-- since the function was entered -/
def JT (ρa : Pl) (Ha : Hp) (Wa : World) (ρ : Pl) (H : Hp) (W : World) : Prop := Stp ρa ρ Ha H Wa W
def repL (k l : Nat) : List Ob := List.replicate k (.lp l)
theorem rf_run (hcl : ∀ f args H s H', cl f args H = some (s, H') → Sub H H') (hok : ClOk P G cl) {ρa : Pl} {Ha : Hp} {Wa : World} {fuel N k : Nat} {g : Operand} {ps : Array Tmp} {x y : Code} {t : Sl} {H : Hp} {r0 : YE} (hr0 : r0 ≠ .bad)
    (hall : ∀ l, rfY P G cl fuel N l g ps x y t H = r0.owe (repL k l)) (hobs : r0.obs = []) {n : Nat} {a : Act} {W : World} {j : Option Jp} (hs : St G (fun ρ H W _ => JT ρa Ha Wa ρ H W) (Marks Wa) N t H j a W) :
    (Code.rangeFunc g ps x y).wpIn Fence.wide n P (IEnd G (fun ρ H W _ => JT ρa Ha Wa ρ H W) (Marks Wa) N r0) a W := by
  obtain ⟨ρ, Dl, ht, hg, hh, hf, hM, hJ⟩ := hs.ex
  have nb : ∀ {o : List Ob}, YE.bad = r0.owe o → False := fun h => by cases r0 <;> first | exact hr0 rfl | cases h
  obtain ⟨l, hl⟩ : ∃ l, l = W.heap.size + 1 := ⟨_, rfl⟩
  have hr := hall l
  unfold rfY at hr
  split at hr <;> try (exact (nb hr).elim)
  next gf caps hev =>
  split at hr <;> try (exact (nb hr).elim)
  next fn hfn =>
  split at hr <;> try (exact (nb hr).elim)
  next c hc =>
  split at hr <;> try (exact (nb hr).elim)
  next h1 h2 h3 h4 =>
  rw [Bool.and_eq_true, Bool.and_eq_true] at h3
  obtain ⟨⟨hdx, hdy⟩, hps⟩ := h3
  have hps' : ∀ p ∈ ps.toList, p < N := fun p hp => by
    rw [List.all_eq_true] at hps
    exact Nat.blt_eq.mp (hps p hp)
  have hve := hf.ev hg.globs g
  rw [hev] at hve
  obtain ⟨lb, hgv, hlb⟩ : ∃ lb, a.eval g = .func (.func gf) #[] (List.toArray lb) ∧ VRs ρ caps lb := by
    generalize a.eval g = v at hve
    cases hve with
    | func h1 h2 =>
      cases h1
      exact ⟨_, rfl, h2⟩
  have hfr : FrR [] ρ N t { tmps := a.tmps, defers := [] } := ⟨hf.size, rfl, hf.slot⟩
  refine wpIn_rangeFunc fun fnid _ => ?_
  obtain ⟨W1, hW1⟩ : ∃ W1, W1 = (W.alloc (.deferred (some []))).alloc (.loop (recJ fnid a.tmps ps x y W.heap.size none)) := ⟨_, rfl⟩
  refine ⟨l, [{ target := .collected W.heap.size, args := #[] }], W1, { target := .fn (.func gf) lb.toArray, args := #[.func (.yield l) #[] #[]] }, W1, gf, #[.func (.yield l) #[] #[]] ++ lb.toArray, W1, ?_, ?_, fun _ _ => trivial, ?_, fun e => (by cases e), ?_⟩
  · rw [hW1, hl]; exact run_enterLoop_outer _ _ _ _ _
  · have e0 : (Act.eval a (.const (.func (.yield l) #[] #[]))) = .func (.yield l) #[] #[] := rfl
    simp [resolve, hgv, Deferred.ofValue, Sem.run_pure, e0]
  · exact enters_run h4 _
  · refine callsIn_of_wp hfn hc trivial ?_
    have hargs : VRs ρ (.v (.func (.yield l) ⟨[]⟩ ⟨[]⟩) :: caps) (Value.func (.yield l) ⟨[]⟩ ⟨[]⟩ :: lb) := .cons (.v _) hlb
    have hfg : FrR [] ρ fn.ntmps (argsS (.v (.func (.yield l) ⟨[]⟩ ⟨[]⟩) :: caps) .H .leaf) { tmps := (#[Value.func (.yield l) #[] #[]] ++ lb.toArray) ++ Array.replicate (fn.ntmps - (#[Value.func (.yield l) #[] #[]] ++ lb.toArray).size) undef, defers := [] } := by
      have := FrR.enter hargs (n := fn.ntmps) (by have := Nat.le_of_ble_eq_true h1; rw [lenR_eq] at this; simpa using this)
      have e : (#[Value.func (.yield l) #[] #[]] ++ lb.toArray : Array Value) = (Value.func (.yield l) ⟨[]⟩ ⟨[]⟩ :: lb : List Value).toArray := by simp
      rw [e]; exact this
    have hkD : Bk ρ W1 W.heap.size (.deferred (some [])) := by rw [hW1]; exact (Bk.new hh).lay
    have hkl : Bk ρ W1 l (.loop (recJ fnid a.tmps ps x y W.heap.size none)) := by
      have := Bk.new (o := .loop (recJ fnid a.tmps ps x y W.heap.size none)) (hh.lay (o := .deferred (some [])))
      rw [World.size_alloc] at this
      rw [hW1, hl]; exact this
    have hh1 : Held ρ H W1 := by rw [hW1]; exact hh.lay.lay
    have hs1 : Stp ρ ρ H H W W1 := by rw [hW1]; exact (Stp.refl hh.fresh).lay.lay
    have C : Ctx P G cl Fence.wide (fun ρ' H' W' j => JB ρ H W l W.heap.size (.loop (recJ fnid a.tmps ps x y W.heap.size j)) ρ ρ' H' W') (fun D _ _ => D = []) fn.ntmps (ylY P G cl fuel l ps x y t) noRf (fun z => z = .lp l) :=
      { hcl := hcl, hok := hok, hF := open_wide, hJ := fun _ _ _ _ _ _ _ hh s h => h.step hh s, hM := fun _ _ _ _ _ _ _ _ _ h => h,
        hy := fun l' args H1 s H2 j' ob hy hob n ρ1 W2 vs q1 q2 q3 q4 q5 => yl_round hcl hok (by omega) (by omega) hfr hdx hdy hps' hy hob n ρ1 W2 vs q1 q2 q3 q4 q5,
        hr := fun _ _ _ _ _ _ _ h => absurd rfl h }
    have hdebt : ∀ ob, (∃ r1 : YE, r1 = r0.owe (repL k l) ∧ r1.obs = ob) → ∀ z ∈ ob, z = Ob.lp l := fun ob ⟨r1, e1, e2⟩ z hz => by
      have : r1.obs = repL k l := by
        rw [e1]
        cases r0 <;> first
          | exact absurd rfl hr0
          | (simp only [YE.owe, YE.obs, appR_eq] at hobs ⊢
             rw [hobs, List.append_nil])
      rw [← e2, this] at hz
      exact List.eq_of_mem_replicate hz
    have fin : ∀ (t' : Sl) (H' : Hp) (j' : Option Jp) (ob : List Ob) (a' : Act) (W' : World), (match resS P fn t' H' with
            | some (_, H2) => match j' with
              | none => YE.norm t H2 none ob
              | some .ret => .ret t H2 none ob
              | some (.exit n) => .exit n t H2 none ob
            | none => .bad) = r0.owe (repL k l) → St G (fun ρ' H' W' j => JB ρ H W l W.heap.size (.loop (recJ fnid a.tmps ps x y W.heap.size j)) ρ ρ' H' W') (fun D _ _ => D = []) fn.ntmps t' H' j' a' W' →
        a'.defers = [] ∧ ∃ v, (results fn a'.tmps).run P W' = .ok v W' ∧ rangePost Fence.wide n P l (IEnd G (fun ρ H W _ => JT ρa Ha Wa ρ H W) (Marks Wa) N r0) { a with defers := [{ target := .collected W.heap.size, args := #[] }] ++ a.defers } (.returned v) W' := by
      intro t' H' j' ob a' W' hq hst
      obtain ⟨σ, D1, k1, k2, k3, k4, k5, k6, k7, k8, k9⟩ := hst.ex
      subst k5
      split at hq <;> try (exact (nb hq).elim)
      next s1 H2 hres =>
      obtain ⟨rfl, v, hv, hrun⟩ := resS_run k4 k3 hres
      refine ⟨k4.defers, v, hrun, _, _, run_endLoop k8.at_ (by unfold recJ recY; cases j' <;> simp), ?_⟩
      have hne : l ≠ W.heap.size := by omega
      have hst2 : St G (fun ρ H W _ => JT ρa Ha Wa ρ H W) (Marks Wa) N t H2 none { a with defers := [{ target := .collected W.heap.size, args := #[] }] ++ a.defers } (W'.putObj l (.loop { recJ fnid a.tmps ps x y W.heap.size j' with state := .exhausted })) := by
        obtain ⟨xs, m1, m2, m3, m4⟩ := hM
        refine ⟨σ, { target := .collected W.heap.size, args := #[] } :: Dl, k1, k2, k3.mark k8, ⟨hf.size, ?_, fun p => (hf.slot p).mono k6⟩, ⟨W.heap.size :: xs, by rw [m1]; rfl, ?_, ?_, ?_⟩, hJ.trans (k7.mark (by omega))⟩
        · show [_] ++ a.defers = _
          rw [hf.defers]; rfl
        · refine List.nodup_cons.2 ⟨fun hm => ?_, m2⟩
          have := (m3 _ hm).lt; omega
        · intro z hz
          rcases List.mem_cons.1 hz with rfl | hz
          · exact k9.put (Ne.symm hne)
          · have := (m3 z hz).lt
            exact ((m3 z hz).step k7).put (by omega)
        · intro z hz
          rcases List.mem_cons.1 hz with rfl | hz
          · exact hJ.size
          · exact m4 z hz
      cases j' with
      | none =>
        show IEnd G _ (Marks Wa) N r0 .normal _ _
        cases r0 <;> first
          | exact absurd rfl hr0
          | (simp only [YE.owe, YE.norm.injEq, reduceCtorEq] at hq
             try (obtain ⟨rfl, rfl, rfl, _⟩ := hq
                  exact ⟨rfl, hst2⟩))
      | some jp =>
        cases jp with
        | ret =>
          refine wpIn_ret ?_
          cases r0 <;> first
            | exact absurd rfl hr0
            | (simp only [YE.owe, YE.ret.injEq, reduceCtorEq] at hq
               try (obtain ⟨rfl, rfl, rfl, _⟩ := hq
                    exact ⟨rfl, hst2⟩))
        | exit m =>
          refine wpIn_exit ?_
          cases r0 <;> first
            | exact absurd rfl hr0
            | (simp only [YE.owe, YE.exit.injEq, reduceCtorEq] at hq
               try (obtain ⟨rfl, rfl, rfl, rfl, _⟩ := hq
                    exact ⟨rfl, hst2⟩))
    have obs_of : ∀ (t' : Sl) (H' : Hp) (j' : Option Jp) (ob : List Ob), (match resS P fn t' H' with
            | some (_, H2) => match j' with
              | none => YE.norm t H2 none ob
              | some .ret => .ret t H2 none ob
              | some (.exit n) => .exit n t H2 none ob
            | none => .bad) = r0.owe (repL k l) → ∀ z ∈ ob, z = Ob.lp l := fun t' H' j' ob hq => by
      refine hdebt ob ⟨_, hq, ?_⟩
      split at hq <;> try (exact (nb hq).elim)
      next s1 H2 hres =>
      cases j' with
      | none => rfl
      | some jp => cases jp <;> rfl
    split at hr
    · next t' H' j' ob hd =>
      have := denY_run C fuel c h2 _ H none _ W1 (n - 1) (by rw [hd]; exact fun e => by cases e) (by rw [hd]; exact obs_of t' H' j' ob hr) ⟨ρ, [], ht, hg, hh1, hfg, rfl, ⟨fun b x h => h, hs1, hkl, hkD⟩⟩
      rw [hd] at this
      refine wpIn_mono this fun e a' W' he => ?_
      obtain ⟨rfl, hst⟩ := he
      exact fin t' H' j' ob a' W' hr hst
    · next t' H' j' ob hd =>
      have := denY_run C fuel c h2 _ H none _ W1 (n - 1) (by rw [hd]; exact fun e => by cases e) (by rw [hd]; exact obs_of t' H' j' ob hr) ⟨ρ, [], ht, hg, hh1, hfg, rfl, ⟨fun b x h => h, hs1, hkl, hkD⟩⟩
      rw [hd] at this
      refine wpIn_mono this fun e a' W' he => ?_
      obtain ⟨rfl, hst⟩ := he
      exact fin t' H' j' ob a' W' hr hst
    · exact (nb hr).elim
theorem leaves_marks {F : Fence} {n : Nat} {fn : Func} {N : Nat} {t : Sl} {H H' : Hp} {s : SVal} {tmps : Array Value} {σ : Pl} {R : Ending → World → Prop} {ρa : Pl} {Ha : Hp} {Wa : World} (hr : resS P fn t H = some (s, H')) (hR : ∀ v W, VR σ s v → Held σ H' W → Stp ρa σ Ha H' Wa W → R (.returned v) W) :
    ∀ (xs : List Nat) (W : World), xs.Nodup → (∀ x ∈ xs, Bk σ W x (.deferred (some []))) → (∀ x ∈ xs, Wa.heap.size ≤ x) → FrR [] σ N t { tmps := tmps, defers := [] } → Held σ H W → Stp ρa σ Ha H Wa W → LeavesInM F n P fn tmps R (xs.map fun x => { target := .collected x, args := #[] }) .returning W
  | [], W, _, _, _, hf, hh, hs => by
    obtain ⟨rfl, v, hv, hrun⟩ := resS_run hf hh hr
    exact ⟨v, hrun, hR v W hv hh hs⟩
  | x :: xs, W, hn, hb, hge, hf, hh, hs => by
    have hx := hb x List.mem_cons_self
    have hgx := hge x List.mem_cons_self
    refine ⟨by simp, .inl ⟨x, _, rfl, run_takeDeferred hx.at_, ?_⟩⟩
    refine leaves_marks hr hR xs _ (List.nodup_cons.1 hn).2 (fun y hy => (hb y (List.mem_cons_of_mem _ hy)).put ?_) (fun y hy => hge y (List.mem_cons_of_mem _ hy)) hf (hh.mark hx) (hs.mark hgx)
    intro e
    subst e
    exact (List.nodup_cons.1 hn).1 hy
/-- what is owed is that the range over a function began so -/
noncomputable def enterR (P : Program) (G : Gl) (cl : FuncId → List SVal → Hp → Out) (rf : Rf) (fuel : Nat) (f : FuncId) (args : List SVal) (H : Hp) : YE :=
  match P.funcs[f]? with
  | some fn => match fn.body with
    | some c => match Nat.ble (lenR args) fn.ntmps, dstY fn.ntmps c with
      | true, true => denY P G cl noYl rf fuel c (argsS args .H .leaf) H none
      | _, _ => .bad
    | none => .bad
  | none => .bad
noncomputable def resR (P : Program) (f : FuncId) (r : YE) : Out :=
  match P.funcs[f]? with
  | some fn => match r with
    | .norm t H _ _ => resS P fn t H
    | .ret t H _ _ => resS P fn t H
    | _ => none
  | none => none
theorem enterR_run (hcl : ∀ f args H s H', cl f args H = some (s, H') → Sub H H') (hok : ClOk P G cl) {rf : Rf} {ok : Ob → Prop} {fuel : Nat} {f : FuncId} {args : List SVal} {H H' : Hp} {s : SVal}
    (hrf : ∀ N fn, P.funcs[f]? = some fn → N = fn.ntmps → ∀ ρa Ha Wa g ps x y t H j, rf g ps x y t H j ≠ .bad → (rf g ps x y t H j).debt ok → ∀ n a W, St G (fun ρ H W _ => JT ρa Ha Wa ρ H W) (Marks Wa) N t H j a W → (Code.rangeFunc g ps x y).wpIn Fence.wide n P (IEnd G (fun ρ H W _ => JT ρa Ha Wa ρ H W) (Marks Wa) N (rf g ps x y t H j)) a W)
    (hdebt : (enterR P G cl rf fuel f args H).debt ok) (h : resR P f (enterR P G cl rf fuel f args H) = some (s, H')) {ρ : Pl} {W : World} {vs : List Value} (ht : H.Tidy) (hg : GlobsH G ρ H) (hh : Held ρ H W) (hv : VRs ρ args vs) :
    Calls P f vs.toArray W fun e W' => ∃ v, e = .returned v ∧ Good ρ H W s H' v W' := by
  unfold resR at h
  split at h <;> try (cases h; done)
  next fn hfn =>
  unfold enterR at hdebt h
  rw [hfn] at hdebt h
  simp only at hdebt h
  cases hc : fn.body with
  | none => rw [hc] at h; cases h
  | some c =>
    rw [hc] at hdebt h
    simp only at hdebt h
    cases h1 : Nat.ble (lenR args) fn.ntmps with
    | false => rw [h1] at h; cases h
    | true =>
      cases h2 : dstY fn.ntmps c with
      | false => rw [h1, h2] at h; cases h
      | true =>
        rw [h1, h2] at hdebt h
        simp only at hdebt h
        have hfr : FrR [] ρ fn.ntmps (argsS args .H .leaf) { tmps := vs.toArray ++ Array.replicate (fn.ntmps - vs.toArray.size) undef, defers := [] } := FrR.enter hv (by rw [lenR_eq] at h1; exact Nat.le_of_ble_eq_true h1)
        have C : Ctx P G cl Fence.wide (fun ρ' H' W' _ => JT ρ H W ρ' H' W') (Marks W) fn.ntmps noYl rf ok :=
          { hcl := hcl, hok := hok, hF := open_wide, hJ := fun _ _ _ _ _ _ _ _ s h => Stp.trans h s, hM := fun _ _ _ _ _ _ _ _ s h => h.step s, hy := fun _ _ _ _ _ _ _ h => (by cases h), hr := fun g ps x y t H1 j hb hd n a W1 hs => hrf _ fn hfn rfl ρ H W g ps x y t H1 j hb hd n a W1 hs }
        refine (callsIn_wide (n := 1)).1 (callsIn_of_wp_marks hfn hc trivial ?_ rfl)
        have hb : denY P G cl noYl rf fuel c (argsS args .H .leaf) H none ≠ .bad := fun e => by rw [e] at h; cases h
        refine wpIn_mono (denY_run C fuel c h2 _ H none _ W 1 hb hdebt ⟨ρ, [], ht, hg, hh, hfr, ⟨[], rfl, List.nodup_nil, fun _ h => (by cases h), fun _ h => (by cases h)⟩, Stp.refl hh.fresh⟩) fun e a' W' he => ?_
        have fin : ∀ t' H1 j', resS P fn t' H1 = some (s, H') → St G (fun ρ' H' W' _ => JT ρ H W ρ' H' W') (Marks W) fn.ntmps t' H1 j' a' W' → LeavesInM Fence.wide 1 P fn a'.tmps (fun e W' => ∃ v, e = .returned v ∧ Good ρ H W s H' v W') a'.defers .returning W' := fun t' H1 j' hr hst => by
          obtain ⟨σ, D1, k1, k2, k3, k4, ⟨xs, m1, m2, m3, m4⟩, k6⟩ := hst.ex
          have hfz : FrR [] σ fn.ntmps t' { tmps := a'.tmps, defers := [] } := ⟨k4.size, rfl, k4.slot⟩
          rw [k4.defers, m1]
          exact leaves_marks (ρa := ρ) (Ha := H) (Wa := W) hr (fun v W2 q1 q2 q3 => ⟨v, rfl, σ, q3, q1, q2⟩) xs W' m2 m3 m4 hfz k3 k6
        split at h
        · next t' H1 j' ob hd =>
          rw [hd] at he
          obtain ⟨rfl, hst⟩ := he
          exact fin t' H1 j' h hst
        · next t' H1 j' ob hd =>
          rw [hd] at he
          obtain ⟨rfl, hst⟩ := he
          exact fin t' H1 j' h hst
        · cases h
/-- where the range over a function begins: the walk stopped there -/
noncomputable def stopRf : Rf := fun g ps x y t H _ => .exit 4294967295 t H none [.at g ps x y t H]
noncomputable def YE.begun (r : YE) : Option Ob := r.obs.head?
/-- the range over a function, for loop l -/
noncomputable def rfO (P : Program) (G : Gl) (cl : FuncId → List SVal → Hp → Out) (fuel N l : Nat) : Option Ob → YE
  | some (.at g ps x y t H) => rfY P G cl fuel N l g ps x y t H
  | _ => .bad
noncomputable def YE.clear : YE → YE
  | .norm t H j _ => .norm t H j []
  | .exit n t H j _ => .exit n t H j []
  | .ret t H j _ => .ret t H j []
  | .bad => .bad
theorem clear_obs (r : YE) : r.clear.obs = [] := by cases r <;> rfl
/-- the walk, with what the loop does told -/
noncomputable def toldRf (r0 : YE) : Rf := fun g ps x y t H _ => r0.owe [.at g ps x y t H]
/-- an entry is right if the executor says so: a function with one range over a function -/
theorem EntOk.ofR {gl : List (List SVal)} {e : Ent} {orc : FuncId → List SVal → Hp → Option Out} {fuel d N k : Nat} {ob : Option Ob} {r0 r : YE} (ho : OrcOk P G orc) (hm : P.follows .mixedOrders = true) (hk : keysOk (gl.length + e.frag.length) e.outs = true)
    (hN : ∀ fn, P.funcs[e.f]? = some fn → fn.ntmps = N)
    (hob : ob = (enterR P G (clD P G orc fuel d) stopRf fuel e.f e.args (fragH (gl ++ e.frag))).begun)
    (h0 : r0 = (rfO P G (clD P G orc fuel d) fuel N 0 ob).clear) (hnb : r0 ≠ .bad)
    (hall : ∀ l, rfO P G (clD P G orc fuel d) fuel N l ob = r0.owe (repL k l))
    (hr : r = enterR P G (clD P G orc fuel d) (toldRf r0) fuel e.f e.args (fragH (gl ++ e.frag)))
    (hobs : r.obs.map some = [ob])
    (h : (resR P e.f r).map (fun r => (r.1, e.outs.map fun p => r.2.at p.1)) = some (e.s, e.outs.map (·.2))) : EntOk P G gl e := by
  classical
  have hcl := clD_sub ho fuel d
  have hok := clD_run ho hm fuel d
  have hro : r0.obs = [] := by rw [h0]; exact clear_obs _
  cases hres : resR P e.f r with
  | none => rw [hres] at h; cases h
  | some q =>
    obtain ⟨s1, H1'⟩ := q
    rw [hres] at h
    simp only [Option.map_some, Option.some.injEq, Prod.mk.injEq] at h
    obtain ⟨hs1, hs2⟩ := h
    have key : ∀ ρ W vs, (fragH (gl ++ e.frag)).Tidy → GlobsH G ρ (fragH (gl ++ e.frag)) → Held ρ (fragH (gl ++ e.frag)) W → VRs ρ e.args vs → Calls P e.f vs.toArray W fun en W' => ∃ v, en = .returned v ∧ Good ρ (fragH (gl ++ e.frag)) W s1 H1' v W' := fun ρ W vs ht hg hh hv => by
      rw [hr] at hres hobs
      refine enterR_run (ok := fun z => some z = ob) hcl hok (fun N' fn hfn hN' ρa Ha Wa g ps x y t H j hb hd n a W hs => ?_) ?_ hres ht hg hh hv
      · have hat : some (Ob.at g ps x y t H) = ob := by
          have : Ob.at g ps x y t H ∈ (toldRf r0 g ps x y t H j).obs := by
            unfold toldRf
            cases r0 <;> first
              | exact absurd rfl hnb
              | simp [YE.owe, YE.obs, appR_eq]
          exact hd _ this
        have hNN : N' = N := by rw [hN']; exact hN fn hfn
        subst hNN
        have hall' : ∀ l, rfY P G (clD P G orc fuel d) fuel N' l g ps x y t H = r0.owe (repL k l) := fun l => by
          have := hall l
          rw [← hat] at this
          exact this
        refine wpIn_mono (rf_run hcl hok hnb hall' hro hs) fun e a W h => ?_
        exact h.owe
      · intro z hz
        have hz2 : some z ∈ (enterR P G (clD P G orc fuel d) (toldRf r0) fuel e.f e.args (fragH (gl ++ e.frag))).obs.map some := List.mem_map.2 ⟨z, hz, rfl⟩
        rw [hobs] at hz2
        exact List.mem_singleton.1 hz2
    refine ⟨fun f args H => if f = e.f ∧ args = e.args ∧ H = fragH (gl ++ e.frag) then some (s1, H1') else none, ?_, hk, H1', ?_, fun j k o hj => ?_⟩
    · intro f args H s H' hq ρ W vs ht hg hh hv
      simp only at hq
      split at hq <;> try (cases hq; done)
      next hc =>
      obtain ⟨rfl, rfl, rfl⟩ := hc
      simp only [Option.some.injEq, Prod.mk.injEq] at hq
      obtain ⟨rfl, rfl⟩ := hq
      exact key ρ W vs ht hg hh hv
    · simp only [and_self, if_true]
      rw [hs1]
    · have h2 := congrArg (fun l => l[j]?) hs2
      simp only [List.getElem?_map, hj, Option.map_some, Option.some.injEq] at h2
      exact h2
end
end Go.Proofs.YtjflmmipjeangaaGreatDoor.Sx
end
/-
  The executor, one more call that is known: strings.Join, given its contract.
-/
section
set_option linter.unusedVariables false
set_option linter.unusedSimpArgs false
namespace Go.Proofs.YtjflmmipjeangaaGreatDoor.Sx
open Go.RowKit

/-- the bytes of strings -/
noncomputable def strsR (l : List SVal) : Option (List (List UInt8)) := List.rec (some []) (fun s _ ih => match s with
  | .v (.string x) => match ih with
    | some r => some (x.data.toList :: r)
    | none => none
  | _ => none) l
noncomputable def joinR (sep : List UInt8) (l : List (List UInt8)) : List UInt8 := List.rec [] (fun x t ih => List.rec x (fun _ _ _ => appR x (appR sep ih)) t) l
theorem joinR_eq (sep : List UInt8) : ∀ l : List (List UInt8), joinR sep l = Lib.join l sep
  | [] => rfl
  | [x] => (Lib.join_one x sep).symm
  | x :: y :: l => by
    show appR x (appR sep (joinR sep (y :: l))) = _
    rw [appR_eq, appR_eq, joinR_eq sep (y :: l)]
    simp [Lib.join, List.intercalate]
theorem strsR_spec {ρ : Pl} : ∀ {l : List SVal} {r : List (List UInt8)} {vs : List Value}, strsR l = some r → VRs ρ l vs → ∃ xs : List ByteArray, xs.map (·.data.toList) = r ∧ vs = xs.map Value.string
  | [], r, vs, h, hv => by
    have h' : some [] = some r := h
    simp only [Option.some.injEq] at h'
    subst h'
    cases hv
    exact ⟨[], rfl, rfl⟩
  | s :: l, r, vs, h, hv => by
    have bad : (none : Option (List (List UInt8))) = some r → False := fun h => by cases h
    cases s with
    | v x =>
      cases x with
      | string x =>
        have h' : (match strsR l with
          | some r => some (x.data.toList :: r)
          | none => none) = some r := h
        cases e : strsR l with
        | none => rw [e] at h'; cases h'
        | some r0 =>
          rw [e] at h'
          simp only [Option.some.injEq] at h'
          subst h'
          cases hv with
          | cons h1 h2 =>
            obtain ⟨xs, e1, e2⟩ := strsR_spec e h2
            cases h1
            exact ⟨x :: xs, by simp [e1], by simp [e2]⟩
      | _ => exact (bad h).elim
    | _ => exact (bad h).elim
/-- what stands below stays as it is -/
theorem Good.below {ρ : Pl} {H : Hp} {W W' : World} (h : Held ρ H W) (hb : Below W.heap.size W W') {v : Value} {s : SVal} (hv : VR ρ s v) (ho : W'.os = W.os) (ht : W'.tape = W.tape) (hu : W'.output = W.output) : Good ρ H W s H v W' :=
  ⟨ρ, ⟨fun _ _ => rfl, rfl, Nat.le_refl _, fun _ _ _ => rfl, fun _ _ _ => rfl, ho, ht, hu, hb.size, fun r hr _ => hb.block r hr, fun b r k e1 e2 => by rw [h.fresh b e1] at e2; cases e2⟩, hv,
    ⟨h.fresh, fun b r k e => Nat.lt_of_lt_of_le (h.lt b r k e) hb.size, fun b r k e => (h.obj b r k e).world (hb.block r (h.lt b r k e)), h.apart⟩⟩
/-- strings.Join -/
noncomputable def joinO (J : FuncId) (orc : FuncId → List SVal → Hp → Option Out) (f : FuncId) (args : List SVal) (H : Hp) : Option Out :=
  match Nat.beq f J with
  | false => orc f args H
  | true => match args with
    | [.slice b off n _, .v (.string sep)] => match (H.at b).row with
      | some c => match Nat.ble (off + n) (lenR c) && Nat.blt 0 n && Nat.ble n 1000000 with
        | true => match strsR (takeR n (dropR off c)) with
          | some l => normL (joinR sep.data.toList l) fun r => match Nat.ble (lenR r) 1000000 with
            | true => some (some (.v (.string ⟨⟨r⟩⟩), H))
            | false => none
          | none => none
        | false => none
      | none => none
    | _ => none
/-- what is asked of strings.Join -/
def JoinOk (P : Program) (J : FuncId) : Prop := ∀ (bk o c : Nat) (xs : List ByteArray) (sep : ByteArray) (w : World), (∀ (j : Nat) x, xs[j]? = some x → w.cell? ⟨bk, o + j, none⟩ = some (.string x)) → bk < w.heap.size → 0 < xs.length → xs.length ≤ 1000000 → xs.length ≤ c → (Lib.join (xs.map (·.data.toList)) sep.data.toList).length ≤ 1000000 →
  Calls P J #[.slice (some ⟨bk, o, none⟩) xs.length c, .string sep] w fun e w' => e = .returned (.string ⟨(Lib.join (xs.map (·.data.toList)) sep.data.toList).toArray⟩) ∧ Below w.heap.size w w'
theorem joinO_ok {P : Program} {G : Gl} {J : FuncId} {orc : FuncId → List SVal → Hp → Option Out} (hJ : JoinOk P J) (ho : OrcOk P G orc) : OrcOk P G (joinO J orc) := by
  have key : ∀ f args H s H', joinO J orc f args H = some (some (s, H')) → orc f args H = some (some (s, H')) ∨ f = J ∧ ∃ b off n c0 sep c l r, args = [.slice b off n c0, .v (.string sep)] ∧ (H.at b).row = some c ∧ off + n ≤ c.length ∧ 0 < n ∧ n ≤ 1000000 ∧ strsR ((c.drop off).take n) = some l ∧ r = Lib.join l sep.data.toList ∧ r.length ≤ 1000000 ∧ s = .v (.string ⟨⟨r⟩⟩) ∧ H' = H := by
    intro f args H s H' h
    unfold joinO at h
    split at h
    · exact .inl h
    · next hf =>
      right
      refine ⟨Nat.eq_of_beq_eq_true hf, ?_⟩
      split at h <;> try (cases h; done)
      next b off n c0 sep =>
      split at h <;> try (cases h; done)
      next c hc =>
      split at h <;> try (cases h; done)
      next hle =>
      split at h <;> try (cases h; done)
      next l hl =>
      rw [normL_eq] at h
      split at h <;> try (cases h; done)
      next hr =>
      simp only [Option.some.injEq, Prod.mk.injEq] at h
      obtain ⟨rfl, rfl⟩ := h
      simp only [Bool.and_eq_true] at hle
      have h1 := Nat.le_of_ble_eq_true hle.1.1
      have h2 := Nat.blt_eq.mp hle.1.2
      have h3 := Nat.le_of_ble_eq_true hle.2
      have h4 := Nat.le_of_ble_eq_true hr
      rw [lenR_eq] at h1 h4
      rw [takeR_eq, dropR_eq] at hl
      exact ⟨b, off, n, c0, sep, c, l, _, rfl, hc, h1, h2, h3, hl, joinR_eq _ _, h4, rfl, rfl⟩
  refine ⟨fun f args H s H' h => ?_, fun f args H s H' h ρ W vs ht hg hh hv => ?_⟩
  · rcases key f args H s H' h with h | ⟨_, b, off, n, c0, sep, c, l, r, _, _, _, _, _, _, _, _, _, rfl⟩
    · exact ho.sub f args H s H' h
    · exact Sub.refl _
  · rcases key f args H s H' h with h | ⟨rfl, b, off, n, c0, sep, c, l, r, rfl, hc, h1, h2, h3, hl, rfl, h4, rfl, rfl⟩
    · exact ho.run f args H s H' h ρ W vs ht hg hh hv
    · cases hv with
      | cons hv1 hv2 => cases hv2 with
        | cons hv2 hv3 =>
          cases hv3
          cases hv2
          cases hv1 with
          | slice hb hcap ha =>
            next off' rr k =>
            obtain rfl : off' = off := ha.resolve_left (by omega)
            obtain ⟨us, u1, u2, u3⟩ := hh.range hb hc off' n h1
            obtain ⟨xs, e1, e2⟩ := strsR_spec hl u1
            subst e2
            rw [List.length_map] at u2
            subst e1 u2
            refine Calls.mono (hJ rr off' _ xs sep W (fun j x hj => u3 j (.string x) (by rw [List.getElem?_map, hj]; rfl)) (hh.lt _ _ _ hb) h2 h3 hcap h4) ?_
            rintro e W' ⟨rfl, hbl⟩
            exact ⟨_, rfl, Good.below hh hbl (.v _) hbl.os hbl.tape hbl.output⟩
end Go.Proofs.YtjflmmipjeangaaGreatDoor.Sx
end
/-
  The executor, two more calls that are known: copyCheck and String of a strings.Builder, given what they do.
-/
section
set_option linter.unusedVariables false
set_option linter.unusedSimpArgs false
namespace Go.Proofs.YtjflmmipjeangaaGreatDoor.Sx
open Go.RowKit

/-- what is asked of copyCheck; tB: the type strings.Builder -/
def CcOk (P : Program) (cc : FuncId) (tB : TypeId) : Prop :=
  (∀ (b : Nat) (w : World), w.cell? ⟨b, 0, none⟩ = some (.pointer (some ⟨b, 0, none⟩)) → Calls P cc #[.pointer (some ⟨b, 0, none⟩)] w fun e w' => e = .returned (.tuple #[]) ∧ w' = w) ∧
  (∀ (b : Nat) (w : World), w.cell? ⟨b, 0, none⟩ = some (.pointer none) → w.shape? b = some (tB, 2) → w.frozen? ⟨b, 0, none⟩ = false → Calls P cc #[.pointer (some ⟨b, 0, none⟩)] w fun e w' => e = .returned (.tuple #[]) ∧ w' = w.setCell ⟨b, 0, none⟩ (.pointer (some ⟨b, 0, none⟩)))
noncomputable def ccO (cc : FuncId) (tB : TypeId) (orc : FuncId → List SVal → Hp → Option Out) (f : FuncId) (args : List SVal) (H : Hp) : Option Out :=
  match Nat.beq f cc with
  | false => orc f args H
  | true => match args with
    | [.ptr b 0] => match H.at b with
      | .cells [p, s] e none => match Nat.beq e tB, Nat.ble H.low b.nat, p with
        | true, true, .v (.pointer none) => some (some (.v (.tuple #[]), H.set b (.cells [.ptr b 0, s] e none)))
        | true, true, .ptr b' 0 => match posEq b' b with
          | true => some (some (.v (.tuple #[]), H))
          | false => none
        | _, _, _ => none
      | _ => none
    | _ => none
/-- a block of two cells -/
theorem two_cells {ρ : Pl} {W : World} {r k : Nat} {p s : SVal} {e : TypeId} (h : Has ρ W r k (.cells [p, s] e none)) : ∃ u v, W.heap[r]? = some (.cells #[u, v] e (0, 0)) ∧ VR ρ p u ∧ VR ρ s v := by
  obtain ⟨C, h1, h2, h3, h4⟩ := h
  have h4' : C.size = 2 := h4
  obtain ⟨l⟩ := C
  have hl : l.length = 2 := by simpa using h4'
  match l, hl with
  | [u, v], _ =>
    have h3' : VRs ρ [p, s] [u, v] := h3
    cases h3' with
    | cons a b => cases b with
      | cons b c => exact ⟨u, v, h1, a, b⟩
theorem ccO_ok {P : Program} {G : Gl} {cc : FuncId} {tB : TypeId} {orc : FuncId → List SVal → Hp → Option Out} (hC : CcOk P cc tB) (ho : OrcOk P G orc) : OrcOk P G (ccO cc tB orc) := by
  have key : ∀ f args H s H', ccO cc tB orc f args H = some (some (s, H')) → orc f args H = some (some (s, H')) ∨ f = cc ∧ ∃ b p q, args = [.ptr b 0] ∧ H.at b = .cells [p, q] tB none ∧ Nat.ble H.low b.nat = true ∧ s = .v (.tuple #[]) ∧ ((p = .v (.pointer none) ∧ H' = H.set b (.cells [.ptr b 0, q] tB none)) ∨ (p = .ptr b 0 ∧ H' = H)) := by
    intro f args H s H' h
    unfold ccO at h
    split at h
    · exact .inl h
    · next hf =>
      right
      refine ⟨Nat.eq_of_beq_eq_true hf, ?_⟩
      split at h <;> try (cases h; done)
      next b =>
      split at h <;> try (cases h; done)
      next p q e hb =>
      split at h <;> try (cases h; done)
      · next he hl =>
        simp only [Option.some.injEq, Prod.mk.injEq] at h
        obtain ⟨rfl, rfl⟩ := h
        have he' := Nat.eq_of_beq_eq_true he
        subst he'
        exact ⟨b, _, q, rfl, hb, hl, rfl, .inl ⟨rfl, rfl⟩⟩
      · next b' he hl =>
        split at h <;> try (cases h; done)
        next hp =>
        simp only [Option.some.injEq, Prod.mk.injEq] at h
        obtain ⟨rfl, rfl⟩ := h
        have he' := Nat.eq_of_beq_eq_true he
        subst he'
        have hp' := posEq_spec hp
        subst hp'
        exact ⟨_, _, q, rfl, hb, hl, rfl, .inr ⟨rfl, rfl⟩⟩
  refine ⟨fun f args H s H' h => ?_, fun f args H s H' h ρ W vs ht hg hh hv => ?_⟩
  · rcases key f args H s H' h with h | ⟨_, b, p, q, rfl, hb, hl, rfl, ⟨_, rfl⟩ | ⟨_, rfl⟩⟩
    · exact ho.sub f args H s H' h
    · exact Sub.set hb rfl hl
    · exact Sub.refl _
  · rcases key f args H s H' h with h | ⟨rfl, b, p, q, rfl, hb, hl, rfl, hcase⟩
    · exact ho.run f args H s H' h ρ W vs ht hg hh hv
    · cases hv with
      | cons hv1 hv2 =>
        cases hv2
        cases hv1 with
        | ptr hr =>
          next r k =>
          have hx := hh.obj b r k hr
          rw [hb] at hx
          obtain ⟨u, v, h1, h2, h3⟩ := two_cells hx
          rcases hcase with ⟨rfl, rfl⟩ | ⟨rfl, rfl⟩
          · cases h2
            refine Calls.mono (hC.2 r W (by simp [World.cell?, h1]) (by simp [World.shape?, h1]) (by simp [World.frozen?, h1])) ?_
            rintro e W' ⟨rfl, rfl⟩
            refine ⟨_, rfl, ρ, ?_⟩
            have hal := hh.alter (W' := W.setCell ⟨r, 0, none⟩ (.pointer (some ⟨r, 0, none⟩))) hr (Nat.le_of_ble_eq_true hl) (by rw [hb]; rfl) (.cells [.ptr b 0, q] tB none)
              ⟨#[.pointer (some ⟨r, 0, none⟩), v], by simp [World.setCell, Array.getElem?_modify, h1], by simp, .cons (.ptr hr) (.cons h3 .nil), rfl⟩ rfl rfl rfl (by simp [World.setCell]) (fun r' hr' => Below.heap_setCell _ _ _ _ hr')
            exact ⟨hal.1, .v _, hal.2⟩
          · cases h2 with
            | ptr hr2 =>
              rw [hr] at hr2
              simp only [Option.some.injEq, Prod.mk.injEq] at hr2
              obtain ⟨rfl, rfl⟩ := hr2
              refine Calls.mono (hC.1 r W (by simp [World.cell?, h1])) ?_
              rintro e W' ⟨rfl, rfl⟩
              exact ⟨_, rfl, Good.same hh (.v _)⟩
/-- what is asked of String; tU: the type uint8 -/
def BsOk (P : Program) (bs : FuncId) (tU : TypeId) : Prop :=
  (∀ (b : Nat) (w : World), w.cell? ⟨b, 1, none⟩ = some (.slice none 0 0) → Calls P bs #[.pointer (some ⟨b, 0, none⟩)] w fun e w' => e = .returned (.string .empty) ∧ w' = w.drew) ∧
  (∀ (b q cap cells : Nat) (l : List UInt8) (w : World), w.cell? ⟨b, 1, none⟩ = some (.slice (some ⟨q, 0, none⟩) l.length cap) → l ≠ [] → l.length ≤ cap → l.length ≤ 1000000 → w.shape? q = some (tU, cells) → l.length ≤ cells → (∀ (j : Nat) x, l[j]? = some x → w.cell? ⟨q, j, none⟩ = some (.int .u8 x.toNat)) →
    Calls P bs #[.pointer (some ⟨b, 0, none⟩)] w fun e w' => e = .returned (.string ⟨l.toArray⟩) ∧ w' = w.drew.freeze ⟨q, 0, none⟩ l.length)
/-- bytes out of cells -/
noncomputable def u8sR (l : List SVal) : Option (List UInt8) := List.rec (some []) (fun s _ ih => match s with
  | .v (.int .u8 (.ofNat n)) => match Nat.blt n 256, ih with
    | true, some r => some (UInt8.ofNat n :: r)
    | _, _ => none
  | _ => none) l
theorem u8sR_spec {ρ : Pl} : ∀ {l : List SVal} {r : List UInt8} {vs : List Value}, u8sR l = some r → VRs ρ l vs → vs = r.map fun b => Value.int .u8 b.toNat
  | [], r, vs, h, hv => by
    have h' : some ([] : List UInt8) = some r := h
    simp only [Option.some.injEq] at h'
    subst h'
    cases hv
    rfl
  | s :: l, r, vs, h, hv => by
    cases hv with
    | cons h0 h1 =>
      have h' : (match (generalizing := false) s with
        | .v (.int .u8 (.ofNat n)) => match (generalizing := false) Nat.blt n 256, u8sR l with
          | true, some r => some (UInt8.ofNat n :: r)
          | _, _ => none
        | _ => none) = some r := h
      split at h' <;> try (cases h'; done)
      next n =>
      split at h' <;> try (cases h'; done)
      next r' hn hr =>
      simp only [Option.some.injEq] at h'
      subst h'
      cases h0
      rw [u8sR_spec hr h1]
      simp only [List.map_cons]
      congr 2
      have : n < 256 := Nat.blt_eq.mp hn
      simp [UInt8.toNat_ofNat, Nat.mod_eq_of_lt this]
noncomputable def bsO (bs : FuncId) (tB tU : TypeId) (orc : FuncId → List SVal → Hp → Option Out) (f : FuncId) (args : List SVal) (H : Hp) : Option Out :=
  match Nat.beq f bs with
  | false => orc f args H
  | true => match args with
    | [.ptr b 0] => match H.at b with
      | .cells [_, s] e none => match s with
        | .v (.slice none 0 0) => some (some (.v (.string .empty), H))
        | .slice q 0 len (.upto 0) => match H.at q with
          | .cells C e' g => match Nat.beq e' tU && Nat.ble H.low q.nat && Nat.blt 0 len && Nat.ble len (lenR C) && Nat.ble len 1000000 with
            | true => match u8sR (takeR len C) with
              | some l => normL l fun l => some (some (.v (.string ⟨⟨l⟩⟩), H.set q (.ro C)))
              | none => none
            | false => none
          | _ => none
        | _ => none
      | _ => none
    | _ => none
theorem freeze_heap (W : World) (q n r : Nat) {C : Array Value} {e : TypeId} (h : W.heap[q]? = some (.cells C e (0, 0))) : (∃ fr, (W.freeze ⟨q, 0, none⟩ n).heap[q]? = some (.cells C e fr)) ∧ (∀ r, r ≠ q → (W.freeze ⟨q, 0, none⟩ n).heap[r]? = W.heap[r]?) ∧ (W.freeze ⟨q, 0, none⟩ n).heap.size = W.heap.size ∧ (W.freeze ⟨q, 0, none⟩ n).os = W.os ∧ (W.freeze ⟨q, 0, none⟩ n).tape = W.tape ∧ (W.freeze ⟨q, 0, none⟩ n).output = W.output := by
  unfold World.freeze
  split
  · exact ⟨⟨_, h⟩, fun _ _ => rfl, rfl, rfl, rfl, rfl⟩
  · refine ⟨⟨_, by simp only [Array.getElem?_modify, if_pos rfl, h, Option.map_some]; rfl⟩, fun r hr => by simp [Array.getElem?_modify, Ne.symm hr], by simp, rfl, rfl, rfl⟩
theorem bsO_ok {P : Program} {G : Gl} {bs : FuncId} {tB tU : TypeId} {orc : FuncId → List SVal → Hp → Option Out} (hC : BsOk P bs tU) (ho : OrcOk P G orc) : OrcOk P G (bsO bs tB tU orc) := by
  have key : ∀ f args H s H', bsO bs tB tU orc f args H = some (some (s, H')) → orc f args H = some (some (s, H')) ∨ f = bs ∧ ∃ b p q e, args = [.ptr b 0] ∧ H.at b = .cells [p, q] e none ∧
      ((q = .v (.slice none 0 0) ∧ s = .v (.string .empty) ∧ H' = H) ∨ ∃ r len C g l, q = .slice r 0 len (.upto 0) ∧ H.at r = .cells C tU g ∧ Nat.ble H.low r.nat = true ∧ 0 < len ∧ len ≤ C.length ∧ len ≤ 1000000 ∧ u8sR (C.take len) = some l ∧ s = .v (.string ⟨⟨l⟩⟩) ∧ H' = H.set r (.ro C)) := by
    intro f args H s H' h
    unfold bsO at h
    split at h
    · exact .inl h
    · next hf =>
      right
      refine ⟨Nat.eq_of_beq_eq_true hf, ?_⟩
      split at h <;> try (cases h; done)
      next b =>
      split at h <;> try (cases h; done)
      next p q e hb =>
      split at h <;> try (cases h; done)
      · simp only [Option.some.injEq, Prod.mk.injEq] at h
        obtain ⟨rfl, rfl⟩ := h
        exact ⟨b, p, _, e, rfl, hb, .inl ⟨rfl, rfl, rfl⟩⟩
      · next r len =>
        split at h <;> try (cases h; done)
        next C e' g hr =>
        split at h <;> try (cases h; done)
        next hle =>
        split at h <;> try (cases h; done)
        next l hl =>
        rw [normL_eq] at h
        simp only [Option.some.injEq, Prod.mk.injEq] at h
        obtain ⟨rfl, rfl⟩ := h
        simp only [Bool.and_eq_true] at hle
        obtain ⟨⟨⟨⟨h1, h2⟩, h3⟩, h4⟩, h5⟩ := hle
        have h1' := Nat.eq_of_beq_eq_true h1
        subst h1'
        rw [lenR_eq] at h4
        rw [takeR_eq] at hl
        exact ⟨b, p, _, e, rfl, hb, .inr ⟨r, len, C, g, l, rfl, hr, h2, Nat.blt_eq.mp h3, Nat.le_of_ble_eq_true h4, Nat.le_of_ble_eq_true h5, hl, rfl, rfl⟩⟩
  refine ⟨fun f args H s H' h => ?_, fun f args H s H' h ρ W vs ht hg hh hv => ?_⟩
  · rcases key f args H s H' h with h | ⟨_, b, p, q, e, rfl, hb, ⟨_, _, rfl⟩ | ⟨r, len, C, g, l, _, hr, hl, _, _, _, _, _, rfl⟩⟩
    · exact ho.sub f args H s H' h
    · exact Sub.refl _
    · exact Sub.set hr rfl hl
  · rcases key f args H s H' h with h | ⟨rfl, b, p, q, e, rfl, hb, hcase⟩
    · exact ho.run f args H s H' h ρ W vs ht hg hh hv
    · cases hv with
      | cons hv1 hv2 =>
        cases hv2
        cases hv1 with
        | ptr hr =>
          next rr k =>
          have hx := hh.obj b rr k hr
          rw [hb] at hx
          obtain ⟨u, v, h1, h2, h3⟩ := two_cells hx
          rcases hcase with ⟨rfl, rfl, rfl⟩ | ⟨r, len, C, g, l, rfl, hrr, hlow, hl0, hlC, hlm, hu8, rfl, rfl⟩
          · cases h3
            refine Calls.mono (hC.1 rr W (by simp [World.cell?, h1])) ?_
            rintro e W' ⟨rfl, rfl⟩
            exact ⟨_, rfl, Good.below hh (Below.drew (Below.refl _ _)) (.v _) rfl rfl rfl⟩
          · cases h3 with
            | slice hq hcap ha =>
              next off' r2 k2 =>
              simp only [Cap.real, Nat.sub_zero] at hcap ha h1
              obtain rfl : off' = 0 := ha.resolve_left (by omega)
              have hy := hh.obj r r2 k2 hq
              rw [hrr] at hy
              obtain ⟨D, g1, g2, g3, g4⟩ := hy
              have hbytes := u8sR_spec hu8 (g3.take len)
              have hll : l.length = len := by
                have := congrArg List.length hbytes
                simp at this
                omega
              have hfr := freeze_heap W.drew r2 len 0 g1
              subst hll
              refine Calls.mono (hC.2 rr r2 k2 D.size l W (by simp [World.cell?, h1]) (by intro e; rw [e] at hl0; simp at hl0) hcap hlm (by simp [World.shape?, g1]) (by omega) (fun j x hj => ?_)) ?_
              · have hjl := (List.getElem?_eq_some_iff.1 hj).1
                have h5 : (D.toList.take C.length).take l.length = l.map fun b => Value.int .u8 b.toNat := hbytes
                have h6 := congrArg (fun m => m[j]?) h5
                simp only [List.getElem?_map, hj, Option.map_some] at h6
                rw [List.getElem?_take_of_lt hjl, List.getElem?_take_of_lt (by omega)] at h6
                simp only [World.cell?, g1]
                simpa using h6
              · rintro e W' ⟨rfl, rfl⟩
                obtain ⟨⟨fr, e1⟩, e2, e3, e4, e5, e6⟩ := hfr
                refine ⟨_, rfl, ρ, ?_⟩
                have hal := hh.alter hq (Nat.le_of_ble_eq_true hlow) (by rw [hrr]; rfl) (.ro C) (W' := W.drew.freeze ⟨r2, 0, none⟩ l.length) ⟨D, _, fr, e1, g2, g3⟩ e4 e5 e6 (by rw [e3]; exact Nat.le_refl _) e2
                exact ⟨hal.1, .v _, hal.2⟩
end Go.Proofs.YtjflmmipjeangaaGreatDoor.Sx
end
/-
  The executor, one more call that is known: all blocks of an empty disk, read, given what the function does.
-/
section
set_option linter.unusedVariables false
set_option linter.unusedSimpArgs false
namespace Go.Proofs.YtjflmmipjeangaaGreatDoor.Sx
open Go.RowKit

/-- the disk in block d: n empty blocks in block B, no write pending (block M), not down -/
structure DiskW (w : World) (d B M n : Nat) : Prop where
  blocks : w.cell? ⟨d, 0, none⟩ = some (.slice (some ⟨B, 0, none⟩) n n)
  newest : w.cell? ⟨d, 2, none⟩ = some (.map (some M))
  down : w.cell? ⟨d, 6, none⟩ = some (.bool false)
  empty : ∀ i, i < n → w.cell? ⟨B, i, none⟩ = some (.string .empty)
  none_ : ∃ clock, w.heap[M]? = some (.map #[] clock)
  pos : 0 < n
  small : n ≤ 1000000
  lts : d < w.heap.size ∧ B < w.heap.size ∧ M < w.heap.size
/-- what is asked of readAll; T: the type *disk.Disk, tS: string -/
def RaOk (P : Program) (ra : FuncId) (T tS : TypeId) : Prop := ∀ (d B M n : Nat) (w : World), DiskW w d B M n →
  Calls P ra #[.iface T (.pointer (some ⟨d, 0, none⟩))] w fun e w' => ∃ q cap C, e = .returned (.tuple #[.slice (some ⟨q, 0, none⟩) n cap, .int .i64 0]) ∧ Below w.heap.size w w' ∧ w.heap.size ≤ q ∧ n ≤ cap ∧ w'.heap[q]? = some (.cells C tS (0, 0)) ∧ n ≤ C.size ∧ ∀ i, i < n → C[i]? = some (.string .empty)
noncomputable def raO (ra : FuncId) (T tS : TypeId) (orc : FuncId → List SVal → Hp → Option Out) (f : FuncId) (args : List SVal) (H : Hp) : Option Out :=
  match Nat.beq f ra with
  | false => orc f args H
  | true => match args with
    | [.iface t (.ptr d 0)] => match H.at d with
      | .cells [.slice B 0 n (.known n'), _, .map M, _, _, _, .v (.bool false)] _ none => match H.at B, H.at M with
        | .big m (.v (.string ⟨⟨[]⟩⟩)) [] _, .imap [] => match Nat.beq t T && Nat.beq n n' && Nat.ble n m && Nat.blt 0 n && Nat.ble n 1000000 with
          | true => some (some (.tuple [.slice H.next 0 n (.upto 0), .v (.int .i64 0)], H.more (.big n (.v (.string .empty)) [] tS)))
          | false => none
        | _, _ => none
      | _ => none
    | _ => none
theorem raO_ok {P : Program} {G : Gl} {ra : FuncId} {T tS : TypeId} {orc : FuncId → List SVal → Hp → Option Out} (hC : RaOk P ra T tS) (ho : OrcOk P G orc) : OrcOk P G (raO ra T tS orc) := by
  have key : ∀ f args H s H', raO ra T tS orc f args H = some (some (s, H')) → orc f args H = some (some (s, H')) ∨ f = ra ∧ ∃ d B n x1 M x3 x4 x5 e m eB, args = [.iface T (.ptr d 0)] ∧ H.at d = .cells [.slice B 0 n (.known n), x1, .map M, x3, x4, x5, .v (.bool false)] e none ∧ H.at B = .big m (.v (.string .empty)) [] eB ∧ H.at M = .imap [] ∧ n ≤ m ∧ 0 < n ∧ n ≤ 1000000 ∧
      s = .tuple [.slice H.next 0 n (.upto 0), .v (.int .i64 0)] ∧ H' = H.more (.big n (.v (.string .empty)) [] tS) := by
    intro f args H s H' h
    unfold raO at h
    split at h
    · exact .inl h
    · next hf =>
      right
      refine ⟨Nat.eq_of_beq_eq_true hf, ?_⟩
      split at h <;> try (cases h; done)
      next t d =>
      split at h <;> try (cases h; done)
      next B n n' x1 M x3 x4 x5 e hd =>
      split at h <;> try (cases h; done)
      next m eB hB hM =>
      split at h <;> try (cases h; done)
      next hle =>
      simp only [Option.some.injEq, Prod.mk.injEq] at h
      obtain ⟨rfl, rfl⟩ := h
      simp only [Bool.and_eq_true] at hle
      obtain ⟨⟨⟨⟨h1, h2⟩, h3⟩, h4⟩, h5⟩ := hle
      have h1' := Nat.eq_of_beq_eq_true h1
      have h2' := Nat.eq_of_beq_eq_true h2
      subst h1' h2'
      exact ⟨d, B, n, x1, M, x3, x4, x5, e, m, eB, rfl, hd, hB, hM, Nat.le_of_ble_eq_true h3, Nat.blt_eq.mp h4, Nat.le_of_ble_eq_true h5, rfl, rfl⟩
  refine ⟨fun f args H s H' h => ?_, fun f args H s H' h ρ W vs ht hg hh hv => ?_⟩
  · rcases key f args H s H' h with h | ⟨_, d, B, n, x1, M, x3, x4, x5, e, m, eB, _, _, _, _, _, _, _, _, rfl⟩
    · exact ho.sub f args H s H' h
    · exact Sub.more _ _
  · rcases key f args H s H' h with h | ⟨rfl, d, B, n, x1, M, x3, x4, x5, e, m, eB, rfl, hd, hB, hM, h1, h2, h3, rfl, rfl⟩
    · exact ho.run f args H s H' h ρ W vs ht hg hh hv
    · cases hv with
      | cons hv1 hv2 =>
        cases hv2
        cases hv1 with
        | iface hv1 => cases hv1 with
          | ptr hr =>
            next rd kd =>
            have hx := hh.obj d rd kd hr
            rw [hd] at hx
            obtain ⟨C, c1, c2, c3, c4⟩ := hx
            have c4' : C.size = 7 := c4
            obtain ⟨l⟩ := C
            have hl : l.length = 7 := by simpa using c4'
            match l, hl with
            | [u0, u1, u2, u3, u4, u5, u6], _ =>
              have c3' : VRs ρ [.slice B 0 n (.known n), x1, .map M, x3, x4, x5, .v (.bool false)] [u0, u1, u2, u3, u4, u5, u6] := c3
              cases c3' with
              | cons v0 t0 => cases t0 with
                | cons v1 t1 => cases t1 with
                  | cons v2 t2 => cases t2 with
                    | cons v3 t3 => cases t3 with
                      | cons v4 t4 => cases t4 with
                        | cons v5 t5 => cases t5 with
                          | cons v6 t6 =>
                            cases v0 with
                            | @slice _ _ off' _ rB kB _ hb hcap ha =>
                              simp only [Cap.real] at ha hcap c1
                              obtain rfl : off' = 0 := ha.resolve_left (by omega)
                              cases v2 with
                              | @map _ rM kM hm =>
                                cases v6
                                have hyB := hh.obj B rB kB hb
                                rw [hB] at hyB
                                obtain ⟨D, d1, d2, d3⟩ := hyB
                                have hyM := hh.obj M rM kM hm
                                rw [hM] at hyM
                                obtain ⟨es, clock, e1, e2⟩ := hyM
                                have hes : es = #[] := by
                                  have : es.toList.length = 0 := by
                                    have := congrArg List.length e2
                                    simpa using this
                                  apply Array.ext'
                                  simpa using this
                                subst hes
                                refine Calls.mono (hC rd rB rM n W ⟨by simp [World.cell?, c1], by simp [World.cell?, c1], by simp [World.cell?, c1], fun i hi => ?_, ⟨clock, e1⟩, h2, h3, hh.lt _ _ _ hr, hh.lt _ _ _ hb, hh.lt _ _ _ hm⟩) ?_
                                · obtain ⟨v, g1, g2⟩ := d3 i (by omega)
                                  have : bigAt (.v (.string .empty)) i [] = .v (.string .empty) := rfl
                                  rw [this] at g2
                                  cases g2
                                  simp only [World.cell?, d1]
                                  simpa using g1
                                · rintro e W' ⟨q, cap, D', rfl, hbl, hq, hcap', g1, g2, g3⟩
                                  have hqlt : q < W'.heap.size := (Array.getElem?_eq_some_iff.1 g1).1
                                  obtain ⟨hst, hh'⟩ := hh.grow (W' := W') (.big n (.v (.string .empty)) [] tS) (r := q) (k := cap) hqlt (.inl hq) (fun σ _ => ⟨D', g1, g2, fun i hi => ⟨_, g3 i hi, .v _⟩⟩) hbl.os hbl.tape hbl.output hbl.size (fun r hr => hbl.block r hr)
                                  have hsl : VR (ρ.put H.next (q, cap)) (.slice H.next 0 n (.upto 0)) (.slice (some ⟨q, 0, none⟩) n cap) := by
                                    have := VR.slice (c := .upto 0) (off := 0) (off' := 0) (len := n) (Pl.put_same ρ H.next (q, cap)) (by simpa [Cap.real] using hcap') (.inr rfl)
                                    simpa [Cap.real] using this
                                  exact ⟨_, rfl, _, hst, .tuple (.cons hsl (.cons (.v _) .nil)), hh'⟩
end Go.Proofs.YtjflmmipjeangaaGreatDoor.Sx
end
/-
  The table of known calls of the sample: the laid variables' contents.
-/
section
set_option linter.unusedVariables false
set_option linter.unusedSimpArgs false
namespace Go.Proofs.YtjflmmipjeangaaGreatDoor.Sx
open Go
def i64M (n : Int) : SVal := .v (.int .i64 n)
def u8M (n : Int) : SVal := .v (.int .u8 n)
def strM (l : List UInt8) : SVal := .v (.string ⟨⟨l⟩⟩)
/-- sawmill/schedule.words, unicode/utf8.acceptRanges, internal/strconv.uint64pow10, math/bits.deBruijn32tab, math/bits.deBruijn64tab, sawmill/ring.directions, sawmill/kiln.stillAir, sawmill/poly.turns, sawmill/cutting.none -/
def glM : List (List SVal) := [[.v (.string ⟨⟨[98, 101, 108, 111, 119]⟩⟩), .v (.string ⟨⟨[102, 111, 114]⟩⟩), .v (.string ⟨⟨[97, 116]⟩⟩)],
  [.v (.int .u8 128), .v (.int .u8 191), .v (.int .u8 160), .v (.int .u8 191), .v (.int .u8 128), .v (.int .u8 159), .v (.int .u8 144), .v (.int .u8 191), .v (.int .u8 128), .v (.int .u8 143), .v (.int .u8 0), .v (.int .u8 0), .v (.int .u8 0), .v (.int .u8 0), .v (.int .u8 0), .v (.int .u8 0), .v (.int .u8 0), .v (.int .u8 0), .v (.int .u8 0), .v (.int .u8 0), .v (.int .u8 0), .v (.int .u8 0), .v (.int .u8 0), .v (.int .u8 0), .v (.int .u8 0), .v (.int .u8 0), .v (.int .u8 0), .v (.int .u8 0), .v (.int .u8 0), .v (.int .u8 0), .v (.int .u8 0), .v (.int .u8 0)],
  [.v (.int .u64 1), .v (.int .u64 10), .v (.int .u64 100), .v (.int .u64 1000), .v (.int .u64 10000), .v (.int .u64 100000), .v (.int .u64 1000000), .v (.int .u64 10000000), .v (.int .u64 100000000), .v (.int .u64 1000000000), .v (.int .u64 10000000000), .v (.int .u64 100000000000), .v (.int .u64 1000000000000), .v (.int .u64 10000000000000), .v (.int .u64 100000000000000), .v (.int .u64 1000000000000000), .v (.int .u64 10000000000000000), .v (.int .u64 100000000000000000), .v (.int .u64 1000000000000000000), .v (.int .u64 10000000000000000000)],
  [.v (.int .u8 0), .v (.int .u8 1), .v (.int .u8 28), .v (.int .u8 2), .v (.int .u8 29), .v (.int .u8 14), .v (.int .u8 24), .v (.int .u8 3), .v (.int .u8 30), .v (.int .u8 22), .v (.int .u8 20), .v (.int .u8 15), .v (.int .u8 25), .v (.int .u8 17), .v (.int .u8 4), .v (.int .u8 8), .v (.int .u8 31), .v (.int .u8 27), .v (.int .u8 13), .v (.int .u8 23), .v (.int .u8 21), .v (.int .u8 19), .v (.int .u8 16), .v (.int .u8 7), .v (.int .u8 26), .v (.int .u8 12), .v (.int .u8 18), .v (.int .u8 6), .v (.int .u8 11), .v (.int .u8 5), .v (.int .u8 10), .v (.int .u8 9)],
  [.v (.int .u8 0), .v (.int .u8 1), .v (.int .u8 56), .v (.int .u8 2), .v (.int .u8 57), .v (.int .u8 49), .v (.int .u8 28), .v (.int .u8 3), .v (.int .u8 61), .v (.int .u8 58), .v (.int .u8 42), .v (.int .u8 50), .v (.int .u8 38), .v (.int .u8 29), .v (.int .u8 17), .v (.int .u8 4), .v (.int .u8 62), .v (.int .u8 47), .v (.int .u8 59), .v (.int .u8 36), .v (.int .u8 45), .v (.int .u8 43), .v (.int .u8 51), .v (.int .u8 22), .v (.int .u8 53), .v (.int .u8 39), .v (.int .u8 33), .v (.int .u8 30), .v (.int .u8 24), .v (.int .u8 18), .v (.int .u8 12), .v (.int .u8 5), .v (.int .u8 63), .v (.int .u8 55), .v (.int .u8 48), .v (.int .u8 27), .v (.int .u8 60), .v (.int .u8 41), .v (.int .u8 37), .v (.int .u8 16), .v (.int .u8 46), .v (.int .u8 35), .v (.int .u8 44), .v (.int .u8 21), .v (.int .u8 52), .v (.int .u8 32), .v (.int .u8 23), .v (.int .u8 11), .v (.int .u8 54), .v (.int .u8 26), .v (.int .u8 40), .v (.int .u8 15), .v (.int .u8 34), .v (.int .u8 20), .v (.int .u8 31), .v (.int .u8 10), .v (.int .u8 25), .v (.int .u8 14), .v (.int .u8 19), .v (.int .u8 9), .v (.int .u8 13), .v (.int .u8 8), .v (.int .u8 7), .v (.int .u8 6)],
  [.v (.int .i64 (-1)), .v (.int .i64 1)],
  [.v (.bool false), .v (.bool false), .v (.bool true), .v (.bool false)],
  [.v (.int .i64 1), .v (.int .i64 0), .v (.int .i64 0), .v (.int .i64 1), .v (.int .i64 (-1)), .v (.int .i64 0), .v (.int .i64 0), .v (.int .i64 (-1))],
  [.v (.int .i64 (-1)), .v (.int .i64 (-1))]]
/-- the number of each in the program, in order -/
def gM : Gl := fun g => match g with
  | 0 => some (Pos.of 0)
  | 2 => some (Pos.of 1)
  | 4 => some (Pos.of 2)
  | 5 => some (Pos.of 3)
  | 6 => some (Pos.of 4)
  | 7 => some (Pos.of 5)
  | 8 => some (Pos.of 6)
  | 9 => some (Pos.of 7)
  | 10 => some (Pos.of 8)
  | _ => none
theorem gM_lt : ∀ g b, gM g = some b → b.nat < glM.length := fun g b h => by
  unfold gM at h
  split at h <;> first
    | (cases h; done)
    | (simp only [Option.some.injEq] at h; subst h; rw [Pos.nat_of]; decide)
end Go.Proofs.YtjflmmipjeangaaGreatDoor.Sx
end
