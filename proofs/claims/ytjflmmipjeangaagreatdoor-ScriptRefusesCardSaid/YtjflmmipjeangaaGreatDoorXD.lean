/-
  Chapter 62: several texts in one (SymN, SymO, SymP, SymM, SymRc, SymAD).
-/
import Derived.Test.YtjflmmipjeangaaGreatDoorXC
import Derived.Scope
import Derived.Recover
import Derived.Defers
/-
  The executor, code: sequences, branches, blocks, loops; a function entered.
-/
section
set_option linter.unusedVariables false
set_option linter.unusedSimpArgs false
namespace Go.Proofs.YtjflmmipjeangaaGreatDoor.Sx
open Go.RowKit

/-- how a piece of code ends -/
inductive RE where
  | norm (t : Sl) (H : Hp)
  | exit (n : Nat) (t : Sl) (H : Hp)
  | ret (t : Sl) (H : Hp)
  | bad
section
variable (P : Program) (G : Gl) (cl : FuncId → List SVal → Hp → Out)
noncomputable def rounds (f : Sl → Hp → RE) (n : Nat) : Sl → Hp → RE :=
  Nat.rec (fun _ _ => .bad) (fun _ again t H => match f t H with
    | .norm t H => again t H
    | .exit n t H => .exit n t H
    | .ret t H => .ret t H
    | .bad => .bad) n
noncomputable def den (fuel : Nat) (c : Code) : Sl → Hp → RE :=
  Code.rec (motive := fun _ => Sl → Hp → RE)
    (fun t H => .norm t H)
    (fun _ ops draw t H => match runR P G cl ops draw t H with
      | some (t, H) => .norm t H
      | none => .bad)
    (fun _ _ iha ihb t H => match iha t H with
      | .norm t H => ihb t H
      | .exit n t H => .exit n t H
      | .ret t H => .ret t H
      | .bad => .bad)
    (fun c _ _ ihx ihy t H => match ev G t c with
      | .v (.bool true) => ihx t H
      | .v (.bool false) => ihy t H
      | _ => .bad)
    (fun id _ ih t H => match ih t H with
      | .norm t H => .norm t H
      | .exit n t H => match Nat.beq n id with
        | true => .norm t H
        | false => .exit n t H
      | .ret t H => .ret t H
      | .bad => .bad)
    (fun _ ih t H => rounds ih fuel t H)
    (fun _ _ _ _ _ _ _ _ => .bad)
    (fun id t H => .exit id t H)
    (fun _ ih t H => ih t H)
    (fun _ t H => .norm t H)
    (fun _ _ _ => .bad)
    (fun t H => .ret t H)
    (fun _ _ _ => .bad) c
/-- a piece of code, prepared -/
structure Act2 where
  run : Sl → Hp → Option (Sl × Hp)
structure Act3 where
  run : Sl → Hp → RE
/-- an operation of a class, prepared -/
noncomputable def prepK (n0 : Hp → Nat) (c : Cls) (o : Oper) : Act1 :=
  match c with
  | .bar => prep P G cl o
  | .pure => ⟨fun t H => match (prep P G cl o).run t ⟨H.next, H.low, .leaf⟩ with
    | some (s, _) => some (s, H)
    | none => none⟩
  | .read => ⟨fun t H => match (prep P G cl o).run t ⟨H.next, H.next.nat, H.tr⟩ with
    | some (s, _) => some (s, H)
    | none => none⟩
  | c => ⟨fun t H => xcls P G cl (n0 H) c o t H⟩
/-- the rest of a region, prepared -/
noncomputable def prepL (n0 : Nat) (ops : Array Oper) (l : List (Oper × Cls)) : Act2 :=
  List.rec ⟨fun t H => some (t, H)⟩ (fun p _ ih => match p.1.guard with
    | none => match p.1.dst with
      | some d => ⟨fun t H => match (prepK P G cl (fun _ => n0) p.2 p.1).run t H with
        | some (s, H') => ih.run (st unset (Pos.of d) s t) H'
        | none => none⟩
      | none => ⟨fun t H => match (prepK P G cl (fun _ => n0) p.2 p.1).run t H with
        | some (_, H') => ih.run t H'
        | none => none⟩
    | some _ => ⟨fun t H => match wantS ops t p.1 with
      | true => match (prepK P G cl (fun _ => n0) p.2 p.1).run t H with
        | some (s, H') => match p.1.dst with
          | some d => ih.run (st unset (Pos.of d) s t) H'
          | none => ih.run t H'
        | none => none
      | false => match p.1.dst with
        | some d => ih.run (st unset (Pos.of d) unset t) H
        | none => ih.run t H⟩) l
theorem prepK_run (n0 : Nat) (c : Cls) (o : Oper) (t : Sl) (H : Hp) : (prepK P G cl (fun _ => n0) c o).run t H = xcls P G cl n0 c o t H := by cases c <;> rfl
theorem prepL_run (n0 : Nat) (ops : Array Oper) : ∀ (l : List (Oper × Cls)) (t : Sl) (H : Hp), (prepL P G cl n0 ops l).run t H = runL P G cl n0 ops l t H
  | [], _, _ => rfl
  | p :: l, t, H => by
    have ih := prepL_run n0 ops l
    show ((match p.1.guard with
      | none => match p.1.dst with
        | some d => (⟨fun t H => match (prepK P G cl (fun _ => n0) p.2 p.1).run t H with
          | some (s, H') => (prepL P G cl n0 ops l).run (st unset (Pos.of d) s t) H'
          | none => none⟩ : Act2)
        | none => ⟨fun t H => match (prepK P G cl (fun _ => n0) p.2 p.1).run t H with
          | some (_, H') => (prepL P G cl n0 ops l).run t H'
          | none => none⟩
      | some _ => ⟨fun t H => match wantS ops t p.1 with
        | true => match (prepK P G cl (fun _ => n0) p.2 p.1).run t H with
          | some (s, H') => match p.1.dst with
            | some d => (prepL P G cl n0 ops l).run (st unset (Pos.of d) s t) H'
            | none => (prepL P G cl n0 ops l).run t H'
          | none => none
        | false => match p.1.dst with
          | some d => (prepL P G cl n0 ops l).run (st unset (Pos.of d) unset t) H
          | none => (prepL P G cl n0 ops l).run t H⟩).run t H) = (match wantS ops t p.1 with
      | true => match xcls P G cl n0 p.2 p.1 t H with
        | some (s, H') => match p.1.dst with
          | some d => runL P G cl n0 ops l (st unset (Pos.of d) s t) H'
          | none => runL P G cl n0 ops l t H'
        | none => none
      | false => match p.1.dst with
        | some d => runL P G cl n0 ops l (st unset (Pos.of d) unset t) H
        | none => runL P G cl n0 ops l t H)
    cases hg : p.1.guard with
    | none =>
      have hw : wantS ops t p.1 = true := by unfold wantS; rw [hg]
      rw [hw]
      cases p.1.dst with
      | none => simp only [prepK_run, ih]
      | some d => simp only [prepK_run, ih]
    | some g => simp only [prepK_run, ih]
/-- a region by the plan in which calls may write -/
noncomputable def denC (ops : Array Oper) : Act3 :=
  match planW clsC ops with
  | some l => ⟨fun t H => match runL P G cl H.next.nat ops l t H with
    | some (t, H) => .norm t H
    | none => .bad⟩
  | none => ⟨fun _ _ => .bad⟩
theorem denC_run (ops : Array Oper) (t : Sl) (H : Hp) : (denC P G cl ops).run t H = (match runC P G cl ops t H with
    | some (t, H) => .norm t H
    | none => .bad) := by
  unfold denC runC
  cases planW clsC ops <;> rfl
/-- a region, prepared but for the number at which it begins -/
noncomputable def denR (ops : Array Oper) (draw : Bool) : Act3 :=
  match draw with
  | false => ⟨fun t H => match (prepL P G cl 0 ops (mapR (fun o => (o, Cls.bar)) ops.toList)).run t H with
    | some (t, H) => .norm t H
    | none => .bad⟩
  | true => match planR ops true with
    | some l => match l.any fun p => p.2.isLook with
      | false => ⟨fun t H => match (prepL P G cl 0 ops l).run t H with
        | some (t, H) => .norm t H
        | none => (denC P G cl ops).run t H⟩
      | true => ⟨fun t H => match runL P G cl H.next.nat ops l t H with
        | some (t, H) => .norm t H
        | none => (denC P G cl ops).run t H⟩
    | none => ⟨fun t H => (denC P G cl ops).run t H⟩
noncomputable def denB (fuel : Nat) (c : Code) : Act3 :=
  Code.rec (motive := fun _ => Act3)
    ⟨fun t H => .norm t H⟩
    (fun _ ops draw => denR P G cl ops draw)
    (fun _ _ iha ihb => ⟨fun t H => match iha.run t H with
      | .norm t H => ihb.run t H
      | .exit n t H => .exit n t H
      | .ret t H => .ret t H
      | .bad => .bad⟩)
    (fun c _ _ ihx ihy => ⟨fun t H => match ev G t c with
      | .v (.bool true) => ihx.run t H
      | .v (.bool false) => ihy.run t H
      | _ => .bad⟩)
    (fun id _ ih => ⟨fun t H => match ih.run t H with
      | .norm t H => .norm t H
      | .exit n t H => match Nat.beq n id with
        | true => .norm t H
        | false => .exit n t H
      | .ret t H => .ret t H
      | .bad => .bad⟩)
    (fun _ ih => ⟨fun t H => rounds ih.run fuel t H⟩)
    (fun _ _ _ _ _ _ => ⟨fun _ _ => .bad⟩)
    (fun id => ⟨fun t H => .exit id t H⟩)
    (fun _ ih => ⟨fun t H => ih.run t H⟩)
    (fun _ => ⟨fun t H => .norm t H⟩)
    (fun _ => ⟨fun _ _ => .bad⟩)
    ⟨fun t H => .ret t H⟩
    (fun _ => ⟨fun _ _ => .bad⟩) c
theorem xcls_n0 (n m : Nat) (c : Cls) (hc : c.isLook = false) (o : Oper) (t : Sl) (H : Hp) : xcls P G cl n c o t H = xcls P G cl m c o t H := by cases c <;> first | rfl | cases hc
theorem runL_n0 (n m : Nat) (ops : Array Oper) : ∀ (l : List (Oper × Cls)), (∀ p ∈ l, p.2.isLook = false) → ∀ t H, runL P G cl n ops l t H = runL P G cl m ops l t H
  | [], _, _, _ => rfl
  | p :: l, h, t, H => by
    have ih := runL_n0 n m ops l fun q hq => h q (by simp [hq])
    show (match wantS ops t p.1 with
      | true => match xcls P G cl n p.2 p.1 t H with
        | some (s, H') => match p.1.dst with
          | some d => runL P G cl n ops l (st unset (Pos.of d) s t) H'
          | none => runL P G cl n ops l t H'
        | none => none
      | false => match p.1.dst with
        | some d => runL P G cl n ops l (st unset (Pos.of d) unset t) H
        | none => runL P G cl n ops l t H) = (match wantS ops t p.1 with
      | true => match xcls P G cl m p.2 p.1 t H with
        | some (s, H') => match p.1.dst with
          | some d => runL P G cl m ops l (st unset (Pos.of d) s t) H'
          | none => runL P G cl m ops l t H'
        | none => none
      | false => match p.1.dst with
        | some d => runL P G cl m ops l (st unset (Pos.of d) unset t) H
        | none => runL P G cl m ops l t H)
    simp only [xcls_n0 P G cl n m p.2 (h p (by simp)) p.1 t H, ih]
theorem denR_run (ops : Array Oper) (draw : Bool) (t : Sl) (H : Hp) : (denR P G cl ops draw).run t H = (match runR P G cl ops draw t H with
    | some (t, H) => .norm t H
    | none => .bad) := by
  unfold denR runR
  cases draw with
  | false =>
    simp only [prepL_run]
    rw [mapR_eq]
    rw [runL_n0 P G cl 0 H.next.nat ops _ (fun p hp => by obtain ⟨o, _, rfl⟩ := List.mem_map.1 hp; rfl)]
  | true =>
    cases hp : planR ops true with
    | none => simp only [denC_run]
    | some l =>
      simp only
      cases ha : l.any fun p => p.2.isLook with
      | true =>
        simp only [denC_run]
        cases runL P G cl H.next.nat ops l t H <;> rfl
      | false =>
        simp only [prepL_run, denC_run]
        rw [runL_n0 P G cl 0 H.next.nat ops l (fun p hp => by
          rw [List.any_eq_false] at ha
          simpa using ha p hp)]
        cases runL P G cl H.next.nat ops l t H <;> rfl
theorem denB_run (fuel : Nat) (c : Code) : ∀ t H, (denB P G cl fuel c).run t H = den P G cl fuel c t H := by
  induction c with
  | region id ops draw => intro t H; exact denR_run P G cl ops draw t H
  | seq x y ihx ihy =>
    intro t H
    show (match (denB P G cl fuel x).run t H with
      | .norm t H => (denB P G cl fuel y).run t H
      | .exit n t H => RE.exit n t H
      | .ret t H => RE.ret t H
      | .bad => RE.bad) = (match den P G cl fuel x t H with
      | .norm t H => den P G cl fuel y t H
      | .exit n t H => RE.exit n t H
      | .ret t H => RE.ret t H
      | .bad => RE.bad)
    simp only [ihx, ihy]
  | cond c x y ihx ihy =>
    intro t H
    show (match ev G t c with
      | .v (.bool true) => (denB P G cl fuel x).run t H
      | .v (.bool false) => (denB P G cl fuel y).run t H
      | _ => RE.bad) = (match ev G t c with
      | .v (.bool true) => den P G cl fuel x t H
      | .v (.bool false) => den P G cl fuel y t H
      | _ => RE.bad)
    simp only [ihx, ihy]
  | block id b ih =>
    intro t H
    show (match (denB P G cl fuel b).run t H with
      | .norm t H => RE.norm t H
      | .exit n t H => match Nat.beq n id with
        | true => RE.norm t H
        | false => RE.exit n t H
      | .ret t H => RE.ret t H
      | .bad => RE.bad) = (match den P G cl fuel b t H with
      | .norm t H => RE.norm t H
      | .exit n t H => match Nat.beq n id with
        | true => RE.norm t H
        | false => RE.exit n t H
      | .ret t H => RE.ret t H
      | .bad => RE.bad)
    simp only [ih]
  | loop b ih =>
    intro t H
    show rounds (denB P G cl fuel b).run fuel t H = rounds (den P G cl fuel b) fuel t H
    rw [show (denB P G cl fuel b).run = den P G cl fuel b from funext fun t => funext fun H => ih t H]
  | scope b ih => intro t H; exact ih t H
  | _ => intros; rfl
/-- every slot that is written is one of the frame's -/
noncomputable def dstOk (N : Nat) (c : Code) : Bool :=
  Code.rec (motive := fun _ => Bool) true (fun _ ops _ => ops.toList.all fun o => match o.dst with
      | some d => Nat.blt d N
      | none => true) (fun _ _ a b => a && b) (fun _ _ _ a b => a && b) (fun _ _ a => a) (fun _ a => a) (fun _ _ _ _ _ _ => false) (fun _ => true) (fun _ a => a) (fun _ => true) (fun _ => true) true (fun _ => true) c
end
section
variable {D : List Deferred} {P : Program} {G : Gl} {cl : FuncId → List SVal → Hp → Out}
theorem Left.trans {ρ σ : Pl} {H H1 H2 : Hp} {W W1 W2 : World} {N : Nat} {t2 : Sl} {a2 : Act} (h : Stp ρ σ H H1 W W1) (k : Left D σ H1 W1 N t2 H2 a2 W2) : Left D ρ H W N t2 H2 a2 W2 := by
  obtain ⟨τ, h1, h2, h3⟩ := k.ex
  exact ⟨τ, h.trans h1, h2, h3⟩
/-- where the code arrives -/
def REnd (D : List Deferred) (ρ : Pl) (H : Hp) (W : World) (N : Nat) (r : RE) (e : Exit) (a' : Act) (W' : World) : Prop :=
  match r with
  | .norm t' H' => e = .normal ∧ Left D ρ H W N t' H' a' W'
  | .exit n t' H' => e = .exit n ∧ Left D ρ H W N t' H' a' W'
  | .ret t' H' => e = .ret ∧ Left D ρ H W N t' H' a' W'
  | .bad => False
def RSub (H : Hp) : RE → Prop
  | .norm _ H' | .exit _ _ H' | .ret _ H' => Sub H H'
  | .bad => True
theorem runL_sub {n0 : Nat} (hcl : ∀ f args H s H', cl f args H = some (s, H') → Sub H H') {ops : Array Oper} {l : List (Oper × Cls)} {t t' : Sl} {H H' : Hp} (h : runL P G cl n0 ops l t H = some (t', H')) : Sub H H' := by
  obtain ⟨τ, η, val, T, rfl, rfl, rfl, rfl⟩ := runL_trace l t H h
  exact T.sub hcl (Nat.zero_le _) (Nat.le_refl _)
theorem rounds_sub {f : Sl → Hp → RE} (hf : ∀ t H, RSub H (f t H)) : ∀ (n : Nat) t H, RSub H (rounds f n t H)
  | 0, _, _ => trivial
  | n + 1, t, H => by
    show RSub H (match f t H with
      | .norm t H => rounds f n t H
      | .exit n t H => .exit n t H
      | .ret t H => .ret t H
      | .bad => .bad)
    have h := hf t H
    cases hr : f t H with
    | norm t1 H1 =>
      rw [hr] at h
      have h2 := rounds_sub hf n t1 H1
      show RSub H (rounds f n t1 H1)
      cases hr2 : rounds f n t1 H1 <;> rw [hr2] at h2 <;> first | trivial | exact Sub.trans h h2
    | _ => rw [hr] at h; exact h
theorem RSub.trans {H H1 : Hp} {r : RE} (h : Sub H H1) (k : RSub H1 r) : RSub H r := by
  cases r <;> first | trivial | exact Sub.trans h k
theorem den_sub (hcl : ∀ f args H s H', cl f args H = some (s, H') → Sub H H') (fuel : Nat) (c : Code) : ∀ t H, RSub H (den P G cl fuel c t H) := by
  induction c with
  | skip => intro t H; exact Sub.refl H
  | region id ops draw =>
    intro t H
    show RSub H (match runR P G cl ops draw t H with
      | some (t, H) => .norm t H
      | none => .bad)
    cases hr : runR P G cl ops draw t H with
    | none => trivial
    | some p =>
      obtain ⟨t', H'⟩ := p
      have alt : runC P G cl ops t H = some (t', H') → Sub H H' := fun h => by
        unfold runC at h
        split at h <;> try (cases h; done)
        exact runL_sub hcl h
      unfold runR at hr
      split at hr
      · exact runL_sub hcl hr
      · split at hr
        · split at hr
          · next h => simp only [Option.some.injEq] at hr; subst hr; exact runL_sub hcl h
          · exact alt hr
        · exact alt hr
  | seq x y ihx ihy =>
    intro t H
    show RSub H (match den P G cl fuel x t H with
      | .norm t H => den P G cl fuel y t H
      | .exit n t H => .exit n t H
      | .ret t H => .ret t H
      | .bad => .bad)
    have h := ihx t H
    cases hr : den P G cl fuel x t H with
    | norm t1 H1 => rw [hr] at h; exact RSub.trans h (ihy t1 H1)
    | _ => rw [hr] at h; exact h
  | cond c x y ihx ihy =>
    intro t H
    show RSub H (match ev G t c with
      | .v (.bool true) => den P G cl fuel x t H
      | .v (.bool false) => den P G cl fuel y t H
      | _ => .bad)
    split
    · exact ihx t H
    · exact ihy t H
    · trivial
  | block id b ih =>
    intro t H
    show RSub H (match den P G cl fuel b t H with
      | .norm t H => .norm t H
      | .exit n t H => match Nat.beq n id with
        | true => .norm t H
        | false => .exit n t H
      | .ret t H => .ret t H
      | .bad => .bad)
    have h := ih t H
    cases hr : den P G cl fuel b t H with
    | exit n t1 H1 =>
      rw [hr] at h
      simp only
      cases Nat.beq n id <;> exact h
    | _ => rw [hr] at h; exact h
  | loop b ih => intro t H; exact rounds_sub ih fuel t H
  | rangeFunc f ps x y _ _ => intro t H; trivial
  | exit id => intro t H; exact Sub.refl H
  | scope b ih => intro t H; exact ih t H
  | label n => intro t H; exact Sub.refl H
  | goto n => intro t H; trivial
  | ret => intro t H; exact Sub.refl H
  | refuse w => intro t H; trivial
/-- the claim about a piece of code -/
def DenOk (D : List Deferred) (P : Program) (G : Gl) (N : Nat) (c : Code) (f : Sl → Hp → RE) : Prop :=
  ∀ t H ρ a W, H.Tidy → GlobsH G ρ H → FrR D ρ N t a → Held ρ H W → f t H ≠ .bad → c.wp P (REnd D ρ H W N (f t H)) a W
theorem Left.self {ρ : Pl} {H : Hp} {W : World} {N : Nat} {t : Sl} {a : Act} (hf : FrR D ρ N t a) (hh : Held ρ H W) : Left D ρ H W N t H a W := ⟨ρ, Stp.refl hh.fresh, hf, hh⟩
theorem REnd.of {ρ σ : Pl} {H H1 : Hp} {W W1 : World} {N : Nat} {r : RE} {e : Exit} {a' : Act} {W' : World} (s : Stp ρ σ H H1 W W1) (h : REnd D σ H1 W1 N r e a' W') : REnd D ρ H W N r e a' W' := by
  cases r <;> first | exact ⟨h.1, Left.trans s h.2⟩ | exact h
theorem rounds_run {N : Nat} {c : Code} {f : Sl → Hp → RE} (hf : DenOk D P G N c f) (hs : ∀ t H, RSub H (f t H)) {Q : Exit → Act → World → Prop} : ∀ (n : Nat) t H ρ a W, H.Tidy → GlobsH G ρ H → FrR D ρ N t a → Held ρ H W → rounds f n t H ≠ .bad →
    (∀ e a' W', REnd D ρ H W N (rounds f n t H) e a' W' → Q e a' W') → Rounds P c Q n a W
  | 0, t, H, ρ, a, W, _, _, _, _, hb, _ => absurd rfl hb
  | n + 1, t, H, ρ, a, W, ht, hg, hfr, hh, hb, hq => by
    have he : rounds f (n + 1) t H = (match f t H with
      | .norm t H => rounds f n t H
      | .exit n t H => .exit n t H
      | .ret t H => .ret t H
      | .bad => .bad) := rfl
    rw [he] at hb hq
    show c.wp P (Exit.then (Rounds P c Q n) Q) a W
    have h1 := hf t H ρ a W ht hg hfr hh
    have h2 := hs t H
    cases hr : f t H with
    | norm t1 H1 =>
      rw [hr] at h1 h2 hb hq
      refine wp_mono (h1 (fun e => by cases e)) fun e a' W' ⟨he, hl⟩ => ?_
      subst he
      obtain ⟨σ, s1, s2, s3⟩ := hl.ex
      exact rounds_run hf hs n t1 H1 σ a' W' (h2.tidy ht) (hg.step s1) s2 s3 hb fun e a2 W2 h => hq e a2 W2 (REnd.of s1 h)
    | exit m t1 H1 =>
      rw [hr] at h1 hq
      refine wp_mono (h1 (fun e => by cases e)) fun e a' W' h => ?_
      obtain ⟨rfl, hl⟩ := h
      exact hq _ _ _ ⟨rfl, hl⟩
    | ret t1 H1 =>
      rw [hr] at h1 hq
      refine wp_mono (h1 (fun e => by cases e)) fun e a' W' h => ?_
      obtain ⟨rfl, hl⟩ := h
      exact hq _ _ _ ⟨rfl, hl⟩
    | bad => rw [hr] at hb; exact absurd rfl hb
theorem den_run (hcl : ∀ f args H s H', cl f args H = some (s, H') → Sub H H') (hok : ClOk P G cl) (hm : P.follows .mixedOrders = true) (fuel N : Nat) (c : Code) : dstOk N c = true → DenOk D P G N c (den P G cl fuel c) := by
  induction c with
  | skip => intro _ t H ρ a W ht hg hf hh _; exact wp_skip ⟨rfl, Left.self hf hh⟩
  | region id ops draw =>
    intro hd t H ρ a W ht hg hf hh hb
    have hd' : (ops.toList.all fun o => match o.dst with
      | some d => Nat.blt d N
      | none => true) = true := hd
    have he : den P G cl fuel (.region id ops draw) t H = (match runR P G cl ops draw t H with
      | some (t, H) => .norm t H
      | none => .bad) := rfl
    rw [he] at hb ⊢
    cases hr : runR P G cl ops draw t H with
    | none => rw [hr] at hb; exact absurd rfl hb
    | some p =>
      obtain ⟨t', H'⟩ := p
      refine region_run hcl hok hm ht hg (fun j o d ho hod => ?_) hr hf hh fun a' W' h => ⟨rfl, h⟩
      rw [List.all_eq_true] at hd'
      have := hd' o (by simp only [Array.mem_toList_iff]; exact Array.mem_of_getElem? ho)
      rw [hod] at this
      exact Nat.blt_eq.mp this
  | seq x y ihx ihy =>
    intro hd t H ρ a W ht hg hf hh hb
    have hd' : (dstOk N x && dstOk N y) = true := hd
    rw [Bool.and_eq_true] at hd'
    have he : den P G cl fuel (.seq x y) t H = (match den P G cl fuel x t H with
      | .norm t H => den P G cl fuel y t H
      | .exit n t H => .exit n t H
      | .ret t H => .ret t H
      | .bad => .bad) := rfl
    rw [he] at hb ⊢
    refine wp_seq ?_
    have h1 := ihx hd'.1 t H ρ a W ht hg hf hh
    have h2 := den_sub (P := P) (G := G) hcl fuel x t H
    cases hr : den P G cl fuel x t H with
    | norm t1 H1 =>
      rw [hr] at h1 h2 hb
      refine wp_mono (h1 (fun e => by cases e)) fun e a' W' ⟨he, hl⟩ => ?_
      subst he
      obtain ⟨σ, s1, s2, s3⟩ := hl.ex
      exact wp_mono (ihy hd'.2 t1 H1 σ a' W' (h2.tidy ht) (hg.step s1) s2 s3 hb) fun e a2 W2 h => REnd.of s1 h
    | exit m t1 H1 =>
      rw [hr] at h1
      refine wp_mono (h1 (fun e => by cases e)) fun e a' W' h => ?_
      obtain ⟨rfl, hl⟩ := h
      exact ⟨rfl, hl⟩
    | ret t1 H1 =>
      rw [hr] at h1
      refine wp_mono (h1 (fun e => by cases e)) fun e a' W' h => ?_
      obtain ⟨rfl, hl⟩ := h
      exact ⟨rfl, hl⟩
    | bad => rw [hr] at hb; exact absurd rfl hb
  | cond c x y ihx ihy =>
    intro hd t H ρ a W ht hg hf hh hb
    have hd' : (dstOk N x && dstOk N y) = true := hd
    rw [Bool.and_eq_true] at hd'
    have he : den P G cl fuel (.cond c x y) t H = (match ev G t c with
      | .v (.bool true) => den P G cl fuel x t H
      | .v (.bool false) => den P G cl fuel y t H
      | _ => .bad) := rfl
    have hc := hf.ev hg.globs c
    rw [he] at hb ⊢
    split at hb
    · next hv =>
      rw [hv] at hc
      have hc' : a.eval c = .bool true := by generalize a.eval c = v at hc; cases hc; rfl
      exact wp_cond_true hc' (ihx hd'.1 t H ρ a W ht hg hf hh hb)
    · next hv =>
      rw [hv] at hc
      have hc' : a.eval c = .bool false := by generalize a.eval c = v at hc; cases hc; rfl
      exact wp_cond_false hc' (ihy hd'.2 t H ρ a W ht hg hf hh hb)
    · exact absurd rfl hb
  | block id b ih =>
    intro hd t H ρ a W ht hg hf hh hb
    have he : den P G cl fuel (.block id b) t H = (match den P G cl fuel b t H with
      | .norm t H => .norm t H
      | .exit n t H => match Nat.beq n id with
        | true => .norm t H
        | false => .exit n t H
      | .ret t H => .ret t H
      | .bad => .bad) := rfl
    rw [he] at hb ⊢
    refine wp_block ?_
    have h1 := ih hd t H ρ a W ht hg hf hh
    cases hr : den P G cl fuel b t H with
    | norm t1 H1 =>
      rw [hr] at h1
      refine wp_mono (h1 (fun e => by cases e)) fun e a' W' h => ?_
      obtain ⟨rfl, hl⟩ := h
      exact ⟨rfl, hl⟩
    | exit m t1 H1 =>
      rw [hr] at h1
      refine wp_mono (h1 (fun e => by cases e)) fun e a' W' h => ?_
      obtain ⟨rfl, hl⟩ := h
      by_cases hmi : m = id
      · subst hmi
        simp only [Exit.inBlock, Nat.beq_refl]
        simp
        exact ⟨rfl, hl⟩
      · have hbeq : Nat.beq m id = false := by
          cases hx : Nat.beq m id with
          | false => rfl
          | true => exact absurd (Nat.eq_of_beq_eq_true hx) hmi
        simp only [Exit.inBlock, hbeq, hmi, if_false]
        exact ⟨rfl, hl⟩
    | ret t1 H1 =>
      rw [hr] at h1
      refine wp_mono (h1 (fun e => by cases e)) fun e a' W' h => ?_
      obtain ⟨rfl, hl⟩ := h
      exact ⟨rfl, hl⟩
    | bad => rw [hr] at hb; exact absurd rfl hb
  | loop b ih =>
    intro hd t H ρ a W ht hg hf hh hb
    exact wp_rounds (rounds_run (ih hd) (den_sub hcl fuel b) fuel t H ρ a W ht hg hf hh hb fun e a' W' h => h)
  | rangeFunc f ps x y _ _ => intro hd; cases hd
  | exit id => intro _ t H ρ a W ht hg hf hh _; exact wp_exit ⟨rfl, Left.self hf hh⟩
  | scope b ih =>
    intro hd t H ρ a W ht hg hf hh hb
    refine wp_scope_straight (wp_mono (ih hd t H ρ a W ht hg hf hh hb) fun e a' W' h => ?_)
    show Exit.noGoto (REnd D ρ H W N (den P G cl fuel b t H)) e a' W'
    cases e with
    | goto n => cases hr : den P G cl fuel b t H <;> rw [hr] at h <;> first | (cases h.1; done) | exact h.elim
    | _ => exact h
  | label n => intro _ t H ρ a W ht hg hf hh _; exact wp_label ⟨rfl, Left.self hf hh⟩
  | goto n => intro _ t H ρ a W ht hg hf hh hb; exact absurd rfl hb
  | ret => intro _ t H ρ a W ht hg hf hh _; exact wp_ret ⟨rfl, Left.self hf hh⟩
  | refuse w => intro _ t H ρ a W ht hg hf hh hb; exact absurd rfl hb
end
end Go.Proofs.YtjflmmipjeangaaGreatDoor.Sx
end
/-
  The executor, calls: a function entered with arguments; calls to a depth, with a table of calls that are known.
-/
section
set_option linter.unusedVariables false
set_option linter.unusedSimpArgs false
namespace Go.Proofs.YtjflmmipjeangaaGreatDoor.Sx
open Go.RowKit

/-- the slots of a function that is entered -/
noncomputable def argsS (l : List SVal) : Pos → Sl → Sl := List.rec (fun _ t => t) (fun s _ ih p t => ih p.next (st unset p s t)) l
theorem argsS_gt : ∀ (l : List SVal) (p q : Pos) (t : Sl), gt unset q (argsS l p t) = if p.nat ≤ q.nat ∧ q.nat < p.nat + l.length then l.getD (q.nat - p.nat) unset else gt unset q t
  | [], p, q, t => by
    rw [if_neg (by simp only [List.length_nil]; omega)]; rfl
  | s :: l, p, q, t => by
    show gt unset q (argsS l p.next (st unset p s t)) = _
    rw [argsS_gt l p.next q]
    rw [Pos.next_nat, List.length_cons]
    by_cases h1 : p.nat + 1 ≤ q.nat ∧ q.nat < p.nat + 1 + l.length
    · rw [if_pos h1, if_pos (by omega)]
      have : q.nat - p.nat = (q.nat - (p.nat + 1)) + 1 := by omega
      rw [this, List.getD_cons_succ]
    · rw [if_neg h1]
      by_cases h2 : q = p
      · subst h2
        rw [gt_st_same, if_pos (by omega)]
        simp
      · have h3 : q.nat ≠ p.nat := fun e => h2 (Pos.nat_inj e)
        rw [gt_st_other _ _ _ _ _ h2, if_neg (by omega)]
theorem FrR.enter {ρ : Pl} {l : List SVal} {vs : List Value} {n : Nat} (h : VRs ρ l vs) (hn : l.length ≤ n) : FrR [] ρ n (argsS l .H .leaf) { tmps := vs.toArray ++ Array.replicate (n - vs.toArray.size) undef, defers := [] } := by
  have hlen := h.length
  refine ⟨by simp only [Array.size_append, List.size_toArray, Array.size_replicate]; omega, rfl, fun p => ?_⟩
  rw [argsS_gt]
  have h0 : Pos.H.nat = 0 := rfl
  rw [h0]
  simp only [Nat.zero_le, true_and, Nat.zero_add, Nat.sub_zero]
  by_cases hp : p.nat < l.length
  · rw [if_pos hp]
    obtain ⟨v, hv, hr⟩ := h.get p.nat (l.getD p.nat unset) (by rw [List.getD_eq_getElem?_getD, List.getElem?_eq_getElem hp]; rfl)
    have : (vs.toArray ++ Array.replicate (n - vs.toArray.size) undef).getD p.nat undef = v := by
      rw [Array.getD_eq_getD_getElem?, Array.getElem?_append_left (by simp; omega)]
      simp [hv]
    rw [this]; exact hr
  · rw [if_neg hp, gt_leaf]
    have : (vs.toArray ++ Array.replicate (n - vs.toArray.size) undef).getD p.nat undef = undef := by
      rw [Array.getD_eq_getD_getElem?, Array.getElem?_append_right (by simp; omega), Array.getElem?_replicate]
      split <;> rfl
    rw [this]; exact .v _
section
variable (P : Program) (G : Gl)
/-- one result of a function -/
noncomputable def resOne (t : Sl) (H : Hp) (r : ResultVar) : Option SVal :=
  match r with
  | .tmp d => some (gt unset (Pos.of d) t)
  | .cell d T => match gt unset (Pos.of d) t with
    | .ptr b off => ldS P H T b off
    | _ => none
/-- the results of a function -/
noncomputable def resL (t : Sl) (H : Hp) (l : List ResultVar) : Option (List SVal) :=
  List.rec (some []) (fun r _ ih => match ih, resOne P t H r with
    | some ss, some s => some (s :: ss)
    | _, _ => none) l
noncomputable def resS (fn : Func) (t : Sl) (H : Hp) : Out :=
  match resL P t H fn.results.toList with
  | some [s] => some (s, H)
  | some l => some (.tuple l, H)
  | none => none
noncomputable def enterF (cl : FuncId → List SVal → Hp → Out) (fuel : Nat) (f : FuncId) (args : List SVal) (H : Hp) : Out :=
  match P.funcs[f]? with
  | some fn => match fn.body with
    | some c => match Nat.ble (lenR args) fn.ntmps, dstOk fn.ntmps c with
      | true, true => match (denB P G cl fuel c).run (argsS args .H .leaf) H with
        | .norm t H' => resS P fn t H'
        | .ret t H' => resS P fn t H'
        | _ => none
      | _, _ => none
    | none => none
  | none => none
/-- calls to a depth; ahead of it a table of calls that are known -/
noncomputable def clD (orc : FuncId → List SVal → Hp → Option Out) (fuel : Nat) (d : Nat) : FuncId → List SVal → Hp → Out :=
  Nat.rec (fun _ _ _ => none) (fun _ ih f args H => match orc f args H with
    | some r => r
    | none => enterF P G ih fuel f args H) d
end
def resM (tmps : Array Value) (r : ResultVar) : Sem Value :=
  match r with
  | .tmp t => pure (tmps.getD t undef)
  | .cell a t => do loadVar t (← asAddr (tmps.getD a undef))
theorem results_eq (fn : Func) (tmps : Array Value) : results fn tmps = (do let vs ← fn.results.mapM (resM tmps); pure (if h : vs.size = 1 then vs[0] else .tuple vs)) := by
  unfold results
  congr 1
section
variable {D : List Deferred} {P : Program} {G : Gl} {cl : FuncId → List SVal → Hp → Out}
theorem resOne_run {ρ : Pl} {H : Hp} {W : World} {N : Nat} {t : Sl} {a : Act} (hf : FrR D ρ N t a) (hh : Held ρ H W) {r : ResultVar} {s : SVal} (h : resOne P t H r = some s) : ∃ v, VR ρ s v ∧ (resM a.tmps r).run P W = .ok v W := by
  cases r with
  | tmp d =>
    simp only [resOne, Option.some.injEq] at h
    subst h
    have hs := hf.slot (Pos.of d)
    rw [Pos.nat_of] at hs
    exact ⟨_, hs, rfl⟩
  | cell d T =>
    have hs := hf.slot (Pos.of d)
    rw [Pos.nat_of] at hs
    simp only [resOne] at h
    split at h <;> try (cases h; done)
    next b off he =>
    rw [he] at hs
    generalize hev : a.tmps.getD d undef = v at hs
    cases hs with
    | ptr hb =>
      obtain ⟨u, hu, hlr⟩ := ldS_run (P := P) hh hb h
      exact ⟨u, hu, by simp only [resM, hev, asAddr, Sem.run_bind, Sem.run_pure, Result.andThen_ok, hlr]⟩
theorem resL_run {ρ : Pl} {H : Hp} {W : World} {N : Nat} {t : Sl} {a : Act} (hf : FrR D ρ N t a) (hh : Held ρ H W) : ∀ {l : List ResultVar} {ss : List SVal}, resL P t H l = some ss → ∃ vs, VRs ρ ss vs ∧ (l.mapM (resM a.tmps)).run P W = .ok vs W
  | [], ss, h => by
    have h' : some [] = some ss := h
    simp only [Option.some.injEq] at h'
    subst h'
    exact ⟨[], .nil, by simp [Sem.run_pure]⟩
  | r :: l, ss, h => by
    have h' : (match resL P t H l, resOne P t H r with
      | some ss, some s => some (s :: ss)
      | _, _ => none) = some ss := h
    cases hr : resL P t H l with
    | none => rw [hr] at h'; cases h'
    | some s0 =>
      cases ho : resOne P t H r with
      | none => rw [hr, ho] at h'; cases h'
      | some s1 =>
        rw [hr, ho] at h'
        simp only [Option.some.injEq] at h'
        subst h'
        obtain ⟨vs, hvs, hrun⟩ := resL_run hf hh hr
        obtain ⟨v, hv, hr1⟩ := resOne_run hf hh ho
        exact ⟨_, .cons hv hvs, by simp only [List.mapM_cons, Sem.run_bind, Sem.run_pure, Result.andThen_ok, hrun, hr1]⟩
theorem resS_run {ρ : Pl} {H H' : Hp} {W : World} {N : Nat} {t : Sl} {a : Act} {fn : Func} {s : SVal} (hf : FrR D ρ N t a) (hh : Held ρ H W) (h : resS P fn t H = some (s, H')) : H' = H ∧ ∃ v, VR ρ s v ∧ (results fn a.tmps).run P W = .ok v W := by
  unfold resS at h
  cases hr : resL P t H fn.results.toList with
  | none => rw [hr] at h; cases h
  | some ss =>
    rw [hr] at h
    obtain ⟨vs, hvs, hrun⟩ := resL_run (P := P) hf hh hr
    have hm : (fn.results.mapM (resM a.tmps)).run P W = .ok vs.toArray W := by
      rw [Array.mapM_eq_mapM_toList]
      simp only [map_eq_pure_bind, Sem.run_bind, hrun, Result.andThen_ok, Sem.run_pure]
    have hres : (results fn a.tmps).run P W = .ok (if h : vs.toArray.size = 1 then vs.toArray[0] else .tuple vs.toArray) W := by
      rw [results_eq]
      simp only [Sem.run_bind, hm, Result.andThen_ok, Sem.run_pure]
    rw [hres]
    cases hvs with
    | nil =>
      simp only [Option.some.injEq, Prod.mk.injEq] at h
      obtain ⟨rfl, rfl⟩ := h
      exact ⟨rfl, _, .tuple .nil, rfl⟩
    | cons h1 ht =>
      cases ht with
      | nil =>
        simp only [Option.some.injEq, Prod.mk.injEq] at h
        obtain ⟨rfl, rfl⟩ := h
        exact ⟨rfl, _, h1, rfl⟩
      | cons h2 ht =>
        simp only [Option.some.injEq, Prod.mk.injEq] at h
        obtain ⟨rfl, rfl⟩ := h
        exact ⟨rfl, _, .tuple (.cons h1 (.cons h2 ht)), rfl⟩
/-- a heap with what the laid variables have -/
def Tab (G : Gl) (ρ : Pl) (H : Hp) : Prop := H.Tidy ∧ GlobsH G ρ H
theorem resS_sub {fn : Func} {t : Sl} {H H' : Hp} {s : SVal} (h : resS P fn t H = some (s, H')) : H' = H := by
  unfold resS at h
  split at h <;> first
    | (cases h; done)
    | (simp only [Option.some.injEq, Prod.mk.injEq] at h; exact h.2.symm)
theorem enterF_sub (hcl : ∀ f args H s H', cl f args H = some (s, H') → Sub H H') {fuel f : Nat} {args : List SVal} {H H' : Hp} {s : SVal} (h : enterF P G cl fuel f args H = some (s, H')) : Sub H H' := by
  unfold enterF at h
  split at h <;> try (cases h; done)
  next fn hfn =>
  split at h <;> try (cases h; done)
  next c hc =>
  split at h <;> try (cases h; done)
  next h1 h2 =>
  simp only [denB_run] at h
  have hs := den_sub (P := P) (G := G) hcl fuel c (argsS args .H .leaf) H
  split at h
  · next t' H1 he => rw [he] at hs; rw [resS_sub h]; exact hs
  · next t' H1 he => rw [he] at hs; rw [resS_sub h]; exact hs
  · cases h
theorem enterF_run (hcl : ∀ f args H s H', cl f args H = some (s, H') → Sub H H') (hok : ClOk P G cl) (hm : P.follows .mixedOrders = true) (fuel : Nat) : ClOk P G (enterF P G cl fuel) := by
  intro f args H s H' h ρ W vs ht hg hh hvs
  unfold enterF at h
  split at h <;> try (cases h; done)
  next fn hfn =>
  split at h <;> try (cases h; done)
  next c hc =>
  split at h <;> try (cases h; done)
  next h1 h2 =>
  simp only [denB_run] at h
  have hfr : FrR [] ρ fn.ntmps (argsS args .H .leaf) { tmps := vs.toArray ++ Array.replicate (fn.ntmps - vs.toArray.size) undef, defers := [] } := FrR.enter hvs (by rw [lenR_eq] at h1; exact Nat.le_of_ble_eq_true h1)
  refine calls_of_wp hfn hc ?_
  have hb : den P G cl fuel c (argsS args .H .leaf) H ≠ .bad := fun e => by rw [e] at h; cases h
  refine wp_mono (den_run hcl hok hm fuel fn.ntmps c h2 _ H ρ _ W ht hg hfr hh hb) fun e a' W' he => ?_
  have fin : ∀ t' H1, resS P fn t' H1 = some (s, H') → Left [] ρ H W fn.ntmps t' H1 a' W' → a'.defers = [] ∧ ∃ v, (results fn a'.tmps).run P W' = .ok v W' ∧ ∃ u, Ending.returned v = .returned u ∧ Good ρ H W s H' u W' := fun t' H1 hr hl => by
    obtain ⟨σ, s1, s2, s3⟩ := hl.ex
    obtain ⟨rfl, v, hv, hrun⟩ := resS_run s2 s3 hr
    exact ⟨s2.defers, v, hrun, v, rfl, σ, s1, hv, s3⟩
  split at h
  · next t' H1 hd =>
    rw [hd] at he
    obtain ⟨rfl, hl⟩ := he
    exact fin t' H1 h hl
  · next t' H1 hd =>
    rw [hd] at he
    obtain ⟨rfl, hl⟩ := he
    exact fin t' H1 h hl
  · cases h
/-- a table of calls that are known -/
structure OrcOk (P : Program) (G : Gl) (orc : FuncId → List SVal → Hp → Option Out) : Prop where
  sub : ∀ f args H s H', orc f args H = some (some (s, H')) → Sub H H'
  run : ∀ f args H s H', orc f args H = some (some (s, H')) → ∀ ρ W vs, H.Tidy → GlobsH G ρ H → Held ρ H W → VRs ρ args vs → Calls P f vs.toArray W fun e W' => ∃ v, e = .returned v ∧ Good ρ H W s H' v W'
theorem orc_none : OrcOk P G (fun _ _ _ => none) := ⟨fun _ _ _ _ _ h => (by cases h), fun _ _ _ _ _ h => (by cases h)⟩
variable {orc : FuncId → List SVal → Hp → Option Out}
theorem clD_sub (ho : OrcOk P G orc) (fuel : Nat) : ∀ d f args H s H', clD P G orc fuel d f args H = some (s, H') → Sub H H'
  | 0, _, _, _, _, _, h => by cases h
  | d + 1, f, args, H, s, H', h => by
    have h' : (match orc f args H with
      | some r => r
      | none => enterF P G (clD P G orc fuel d) fuel f args H) = some (s, H') := h
    cases hr : orc f args H with
    | some r => rw [hr] at h'; subst h'; exact ho.sub f args H s H' hr
    | none => rw [hr] at h'; exact enterF_sub (clD_sub ho fuel d) h'
/-- THE EXECUTOR IS SOUND -/
theorem clD_run (ho : OrcOk P G orc) (hm : P.follows .mixedOrders = true) (fuel : Nat) : ∀ d, ClOk P G (clD P G orc fuel d)
  | 0 => fun _ _ _ _ _ h => by cases h
  | d + 1 => fun f args H s H' h => by
    have h' : (match orc f args H with
      | some r => r
      | none => enterF P G (clD P G orc fuel d) fuel f args H) = some (s, H') := h
    cases hr : orc f args H with
    | some r => rw [hr] at h'; subst h'; exact ho.run f args H s H' hr
    | none => rw [hr] at h'; exact enterF_run (clD_sub ho fuel d) (clD_run ho hm fuel d) hm fuel f args H s H' h'
end
end Go.Proofs.YtjflmmipjeangaaGreatDoor.Sx
end
/-
  The executor, fragments: a call that is known on a small heap is known on every heap that holds the same blocks, whatever their numbers.
-/
section
set_option linter.unusedVariables false
set_option linter.unusedSimpArgs false
namespace Go.Proofs.YtjflmmipjeangaaGreatDoor.Sx
open Go.RowKit

mutual
/-- a value with other numbers -/
noncomputable def ren (μ : Pos → Option Pos) : SVal → Option SVal
  | .v x => some (.v x)
  | .ptr b off => match μ b with
    | some b' => some (.ptr b' off)
    | none => none
  | .slice b off len c => match μ b with
    | some b' => some (.slice b' off len c)
    | none => none
  | .agg l => match rens μ l with
    | some l' => some (.agg l')
    | none => none
  | .tuple l => match rens μ l with
    | some l' => some (.tuple l')
    | none => none
  | .func fn m l => match rens μ m, rens μ l with
    | some m', some l' => some (.func fn m' l')
    | _, _ => none
  | .iface t x => match ren μ x with
    | some x' => some (.iface t x')
    | none => none
  | .map b => match μ b with
    | some b' => some (.map b')
    | none => none
noncomputable def rens (μ : Pos → Option Pos) : List SVal → Option (List SVal)
  | [] => some []
  | s :: l => match ren μ s, rens μ l with
    | some s', some l' => some (s' :: l')
    | _, _ => none
end
mutual
theorem ren_fwd {μ : Pos → Option Pos} {ρ σ : Pl} (h : ∀ b b' x, μ b = some b' → ρ b = some x → σ b' = some x) : ∀ {s s' : SVal} {v : Value}, VR ρ s v → ren μ s = some s' → VR σ s' v
  | _, _, _, .v x, e => by simp only [ren, Option.some.injEq] at e; subst e; exact .v x
  | .ptr b off, _, _, .ptr hb, e => by
    simp only [ren] at e
    split at e <;> try (cases e; done)
    next b' hm => simp only [Option.some.injEq] at e; subst e; exact .ptr (h b b' _ hm hb)
  | .slice b off len c, _, _, .slice hb hc ha, e => by
    simp only [ren] at e
    split at e <;> try (cases e; done)
    next b' hm => simp only [Option.some.injEq] at e; subst e; exact .slice (h b b' _ hm hb) hc ha
  | _, _, _, .agg hl, e => by
    simp only [ren] at e
    split at e <;> try (cases e; done)
    next l' hm => simp only [Option.some.injEq] at e; subst e; exact .agg (rens_fwd h hl hm)
  | _, _, _, .tuple hl, e => by
    simp only [ren] at e
    split at e <;> try (cases e; done)
    next l' hm => simp only [Option.some.injEq] at e; subst e; exact .tuple (rens_fwd h hl hm)
  | _, _, _, .func hm hl, e => by
    simp only [ren] at e
    split at e <;> try (cases e; done)
    next m' l' e1 e2 => simp only [Option.some.injEq] at e; subst e; exact .func (rens_fwd h hm e1) (rens_fwd h hl e2)
  | _, _, _, .iface hx, e => by
    simp only [ren] at e
    split at e <;> try (cases e; done)
    next x' hm => simp only [Option.some.injEq] at e; subst e; exact .iface (ren_fwd h hx hm)
  | .map b, _, _, .map hb, e => by
    simp only [ren] at e
    split at e <;> try (cases e; done)
    next b' hm => simp only [Option.some.injEq] at e; subst e; exact .map (h b b' _ hm hb)
theorem rens_fwd {μ : Pos → Option Pos} {ρ σ : Pl} (h : ∀ b b' x, μ b = some b' → ρ b = some x → σ b' = some x) : ∀ {l l' : List SVal} {vs : List Value}, VRs ρ l vs → rens μ l = some l' → VRs σ l' vs
  | _, _, _, .nil, e => by simp only [rens, Option.some.injEq] at e; subst e; exact .nil
  | _, _, _, .cons hs ht, e => by
    simp only [rens] at e
    split at e <;> try (cases e; done)
    next s' l' e1 e2 => simp only [Option.some.injEq] at e; subst e; exact .cons (ren_fwd h hs e1) (rens_fwd h ht e2)
end
mutual
theorem ren_bwd {μ : Pos → Option Pos} {ρ σ : Pl} (h : ∀ b b' x, μ b = some b' → σ b' = some x → ρ b = some x) : ∀ (s : SVal) {s' : SVal} {v : Value}, VR σ s' v → ren μ s = some s' → VR ρ s v
  | .v x, _, _, hv, e => by simp only [ren, Option.some.injEq] at e; subst e; cases hv; exact .v x
  | .ptr b off, _, _, hv, e => by
    simp only [ren] at e
    split at e <;> try (cases e; done)
    next b' hm => simp only [Option.some.injEq] at e; subst e; cases hv with | ptr hb => exact .ptr (h b b' _ hm hb)
  | .slice b off len c, _, _, hv, e => by
    simp only [ren] at e
    split at e <;> try (cases e; done)
    next b' hm => simp only [Option.some.injEq] at e; subst e; cases hv with | slice hb hc ha => exact .slice (h b b' _ hm hb) hc ha
  | .agg l, _, _, hv, e => by
    simp only [ren] at e
    split at e <;> try (cases e; done)
    next l' hm => simp only [Option.some.injEq] at e; subst e; cases hv with | agg hl => exact .agg (rens_bwd h l hl hm)
  | .tuple l, _, _, hv, e => by
    simp only [ren] at e
    split at e <;> try (cases e; done)
    next l' hm => simp only [Option.some.injEq] at e; subst e; cases hv with | tuple hl => exact .tuple (rens_bwd h l hl hm)
  | .func fn m l, _, _, hv, e => by
    simp only [ren] at e
    split at e <;> try (cases e; done)
    next m' l' e1 e2 => simp only [Option.some.injEq] at e; subst e; cases hv with | func hm hl => exact .func (rens_bwd h m hm e1) (rens_bwd h l hl e2)
  | .iface t x, _, _, hv, e => by
    simp only [ren] at e
    split at e <;> try (cases e; done)
    next x' hm => simp only [Option.some.injEq] at e; subst e; cases hv with | iface hx => exact .iface (ren_bwd h x hx hm)
  | .map b, _, _, hv, e => by
    simp only [ren] at e
    split at e <;> try (cases e; done)
    next b' hm => simp only [Option.some.injEq] at e; subst e; cases hv with | map hb => exact .map (h b b' _ hm hb)
theorem rens_bwd {μ : Pos → Option Pos} {ρ σ : Pl} (h : ∀ b b' x, μ b = some b' → σ b' = some x → ρ b = some x) : ∀ (l : List SVal) {l' : List SVal} {vs : List Value}, VRs σ l' vs → rens μ l = some l' → VRs ρ l vs
  | [], _, _, hv, e => by simp only [rens, Option.some.injEq] at e; subst e; cases hv; exact .nil
  | s :: l, _, _, hv, e => by
    simp only [rens] at e
    split at e <;> try (cases e; done)
    next s' l' e1 e2 => simp only [Option.some.injEq] at e; subst e; cases hv with | cons hs ht => exact .cons (ren_bwd h s hs e1) (rens_bwd h l ht e2)
end
theorem rens_length {μ : Pos → Option Pos} : ∀ {l l' : List SVal}, rens μ l = some l' → l.length = l'.length
  | [], _, e => by simp only [rens, Option.some.injEq] at e; subst e; rfl
  | s :: l, _, e => by
    simp only [rens] at e
    split at e <;> try (cases e; done)
    next s' l' e1 e2 => simp only [Option.some.injEq] at e; subst e; simp [rens_length e2]
/-- a block of a result with other numbers -/
noncomputable def renO (μ : Pos → Option Pos) : SObj → Option SObj
  | .cells c e g => match rens μ c with
    | some c' => some (.cells c' e g)
    | none => none
  | .ro c => match rens μ c with
    | some c' => some (.ro c')
    | none => none
  | .big n (.v x) [] e => some (.big n (.v x) [] e)
  | .imap l => some (.imap l)
  | .map l => some (.map l)
  | _ => none
theorem renO_has {μ : Pos → Option Pos} {ρ σ : Pl} (h : ∀ b b' x, μ b = some b' → ρ b = some x → σ b' = some x) {W : World} {r k : Nat} {o o' : SObj} (ho : Has ρ W r k o) (e : renO μ o = some o') : Has σ W r k o' := by
  unfold renO at e
  split at e
  · next c t g =>
    split at e <;> try (cases e; done)
    next c' hm =>
    simp only [Option.some.injEq] at e
    subst e
    obtain ⟨C, h1, h2, h3, h4⟩ := ho
    have hl := rens_length hm
    exact ⟨C, h1, by rw [← hl]; exact h2, by rw [← hl]; exact rens_fwd h h3 hm, by rw [← hl]; exact h4⟩
  · next c =>
    split at e <;> try (cases e; done)
    next c' hm =>
    simp only [Option.some.injEq] at e
    subst e
    obtain ⟨C, t, fr, h1, h2, h3⟩ := ho
    have hl := rens_length hm
    exact ⟨C, t, fr, h1, by rw [← hl]; exact h2, by rw [← hl]; exact rens_fwd h h3 hm⟩
  · next n x t =>
    simp only [Option.some.injEq] at e
    subst e
    obtain ⟨C, h1, h2, h3⟩ := ho
    refine ⟨C, h1, h2, fun i hi => ?_⟩
    obtain ⟨v, g1, g2⟩ := h3 i hi
    have hb : ∀ i, bigAt (.v x) i [] = .v x := fun _ => rfl
    rw [hb] at g2 ⊢
    cases g2
    exact ⟨_, g1, .v _⟩
  · simp only [Option.some.injEq] at e
    subst e
    exact ho
  · simp only [Option.some.injEq] at e
    subst e
    exact ho
  · cases e
/-- many new blocks -/
noncomputable def Hp.mores (H : Hp) (l : List SObj) : Hp := List.rec (motive := fun _ => Hp → Hp) (fun H => H) (fun o _ ih H => ih (H.more o)) l H
theorem mores_sub : ∀ (l : List SObj) (H : Hp), Sub H (H.mores l)
  | [], H => Sub.refl H
  | o :: l, H => (Sub.more H o).trans (mores_sub l (H.more o))
theorem mores_next : ∀ (l : List SObj) (H : Hp), (H.mores l).next.nat = H.next.nat + l.length
  | [], H => rfl
  | o :: l, H => by
    show ((H.more o).mores l).next.nat = _
    rw [mores_next l (H.more o), Hp.more_next, List.length_cons]; omega
theorem mores_old : ∀ (l : List SObj) (H : Hp) (b : Pos), b.nat < H.next.nat → (H.mores l).at b = H.at b
  | [], H, b, _ => rfl
  | o :: l, H, b, h => by
    show ((H.more o).mores l).at b = _
    rw [mores_old l (H.more o) b (by rw [Hp.more_next]; omega)]
    exact Hp.more_other _ _ (fun e => by subst e; omega)
theorem mores_new : ∀ (l : List SObj) (H : Hp) (b : Pos) (j : Nat) (o : SObj), b.nat = H.next.nat + j → l[j]? = some o → (H.mores l).at b = o
  | [], H, b, j, o, _, h => by simp at h
  | o' :: l, H, b, 0, o, hb, h => by
    simp only [List.getElem?_cons_zero, Option.some.injEq] at h
    subst h
    show ((H.more o').mores l).at b = _
    have : b = H.next := Pos.nat_inj (by omega)
    subst this
    rw [mores_old l (H.more o') H.next (by rw [Hp.more_next]; omega)]
    exact Hp.more_same _ _
  | o' :: l, H, b, j + 1, o, hb, h => by
    simp only [List.getElem?_cons_succ] at h
    exact mores_new l (H.more o') b j o (by rw [Hp.more_next]; omega) h
section
variable {P : Program} {G : Gl} {cl : FuncId → List SVal → Hp → Out}
/-- A FRAGMENT: the call on the small heap H1, all of it read only, numbers by μ; of what it made, the blocks 'outs' are kept -/
theorem frag_run {H1 H1' H : Hp} {f : FuncId} {args1 args : List SVal} {s1 s' : SVal} {μ μ' : Pos → Option Pos} {outs : List (Pos × SObj)} {os : List SObj} (hcl : ClOk P G cl) (h1 : cl f args1 H1 = some (s1, H1')) (ht1 : H1.Tidy) (hlow : H1.low = H1.next.nat)
    (hμ : ∀ b b', μ b = some b' → b.nat < H1.next.nat ∧ b'.nat < H.next.nat) (hinj : ∀ b b' c, μ b = some c → μ b' = some c → b = b') (hG : ∀ g b, G g = some b → μ b = some b)
    (hcont : ∀ b b', μ b = some b' → H1.at b = .gone ∨ ∃ c1 c rest, H1.at b = .ro c1 ∧ (H.at b').row = some (c ++ rest) ∧ rens μ c1 = some c) (hargs : rens μ args1 = some args)
    (hout : ∀ (j : Nat) (k : Pos) (o : SObj), outs[j]? = some (k, o) → H1.next.nat ≤ k.nat ∧ H1'.at k = o ∧ ∃ o' : SObj, os[j]? = some o' ∧ renO μ' o = some o') (hlen : os.length = outs.length)
    (hdist : ∀ (i j : Nat) (k : Pos) (o o' : SObj), outs[i]? = some (k, o) → outs[j]? = some (k, o') → i = j)
    (hμ' : ∀ b b', μ' b = some b' → μ b = some b' ∨ ∃ (j : Nat) (o : SObj), outs[j]? = some (b, o) ∧ b'.nat = H.next.nat + j) (hs : ren μ' s1 = some s')
    {ρ : Pl} {W : World} {vs : List Value} (hg : GlobsH G ρ H) (hh : Held ρ H W) (hv : VRs ρ args vs) : Calls P f vs.toArray W fun e W' => ∃ v, e = .returned v ∧ Good ρ H W s' (H.mores os) v W' := by
  let ρ1 : Pl := fun b => (μ b).bind ρ
  have hρ1 : ∀ b x, ρ1 b = some x → ∃ b', μ b = some b' ∧ ρ b' = some x := fun b x h => by
    cases hm : μ b with
    | none => simp only [ρ1, hm] at h; cases h
    | some b' => simp only [ρ1, hm] at h; exact ⟨b', rfl, h⟩
  have hback : ∀ b b' x, μ b = some b' → ρ b' = some x → ρ1 b = some x := fun b b' x hm hx => by simp only [ρ1, hm]; exact hx
  have halive : ∀ b' (c : List SVal), (H.at b').row = some c → H.at b' ≠ .gone := fun b' c h e => by rw [e] at h; cases h
  have hheld1 : Held ρ1 H1 W := by
    refine ⟨fun b hb => ?_, fun b r k h => ?_, fun b r k h => ?_, fun b b2 r k r2 k2 hne h h2 hgb hgb2 => ?_⟩
    · cases hm : μ b with
      | none => simp only [ρ1, hm]; rfl
      | some b' => have := (hμ b b' hm).1; omega
    · obtain ⟨b', _, hb'⟩ := hρ1 b _ h
      exact hh.lt b' r k hb'
    · obtain ⟨b', hm, hb'⟩ := hρ1 b _ h
      rcases hcont b b' hm with hgone | ⟨c1, c, rest, e1, e2, e3⟩
      · rw [hgone]; trivial
      · rw [e1]
        obtain ⟨C, e, fr, g1, g2, g3⟩ := (hh.obj b' r k hb').row e2
        have hl := rens_length e3
        refine ⟨C, e, fr, g1, by rw [hl]; simp at g2; omega, ?_⟩
        have := g3.take c.length
        rw [List.take_append_of_le_length (Nat.le_refl _), List.take_of_length_le (Nat.le_refl _), List.take_take, Nat.min_eq_left (by simp)] at this
        rw [hl]
        exact rens_bwd hback c1 this e3
    · obtain ⟨c, hm, hc⟩ := hρ1 b _ h
      obtain ⟨c2, hm2, hc2⟩ := hρ1 b2 _ h2
      have hcne : c ≠ c2 := fun e => by subst e; exact hne (hinj b b2 c hm hm2)
      rcases hcont b c hm with hgone | ⟨x1, y1, z1, _, e1, _⟩
      · exact absurd hgone hgb
      · rcases hcont b2 c2 hm2 with hgone | ⟨x2, y2, z2, _, e2, _⟩
        · exact absurd hgone hgb2
        · exact hh.apart c c2 r k r2 k2 hcne hc hc2 (halive _ _ e1) (halive _ _ e2)
  have hg1 : GlobsH G ρ1 H1 := fun g b hb => by
    obtain ⟨_, k, hk⟩ := hg g b hb
    have hm := hG g b hb
    exact ⟨(hμ b b hm).1, k, hback b b _ hm hk⟩
  refine (hcl f args1 H1 s1 H1' h1 ρ1 W vs ht1 hg1 hheld1 (rens_bwd hback args1 hv hargs)).mono fun e W' ⟨v, he, σ1, s1', hv1, hh1⟩ => ⟨v, he, ?_⟩
  have hsafe : ∀ r, Safe ρ1 H1 r := fun r b k hb hl => by
    obtain ⟨b', hm, _⟩ := hρ1 b _ hb
    have := (hμ b b' hm).1
    rw [hlow] at hl; omega
  have hsame : ∀ r, r < W.heap.size → W'.heap[r]? = W.heap[r]? := fun r hr => s1'.frame r hr (hsafe r)
  have hborn : ∀ b r k, H1.next.nat ≤ b.nat → σ1 b = some (r, k) → W.heap.size ≤ r := fun b r k hb h => (s1'.born b r k hb h).resolve_right fun hn => hn (hsafe r)
  -- the numbers of the blocks that are kept
  let σ : Pl := fun b => if b.nat < H.next.nat then ρ b else match outs[b.nat - H.next.nat]? with
    | some p => σ1 p.1
    | none => none
  have hσold : ∀ b : Pos, b.nat < H.next.nat → σ b = ρ b := fun b h => if_pos h
  have hσnew : ∀ (b : Pos) x, H.next.nat ≤ b.nat → σ b = some x → ∃ k o, outs[b.nat - H.next.nat]? = some (k, o) ∧ σ1 k = some x := fun b x hb h => by
    have : σ b = match outs[b.nat - H.next.nat]? with
      | some p => σ1 p.1
      | none => none := if_neg (by omega)
    rw [this] at h
    split at h
    · next p hp => exact ⟨p.1, p.2, hp, h⟩
    · cases h
  have hle : ρ.le σ := fun b x h => by
    have hb : b.nat < H.next.nat := Nat.lt_of_not_le fun hge => by rw [hh.fresh b hge] at h; cases h
    rw [hσold b hb]; exact h
  have hmap : ∀ b b' x, μ' b = some b' → σ1 b = some x → σ b' = some x := fun b b' x hm hx => by
    rcases hμ' b b' hm with hm | ⟨j, o, hj, hb'⟩
    · have hlt := hμ b b' hm
      rw [hσold b' hlt.2]
      rw [s1'.agree b hlt.1] at hx
      obtain ⟨b2, hm2, hb2⟩ := hρ1 b x hx
      rw [hm] at hm2
      simp only [Option.some.injEq] at hm2
      rw [hm2]; exact hb2
    · have : σ b' = match outs[b'.nat - H.next.nat]? with
        | some p => σ1 p.1
        | none => none := if_neg (by omega)
      rw [this, show b'.nat - H.next.nat = j by omega, hj]
      exact hx
  have hobj : ∀ b r k, H.next.nat ≤ b.nat → σ b = some (r, k) → W.heap.size ≤ r ∧ r < W'.heap.size ∧ Has σ W' r k ((H.mores os).at b) ∧ ∃ kk o, outs[b.nat - H.next.nat]? = some (kk, o) ∧ σ1 kk = some (r, k) ∧ ((H.mores os).at b ≠ .gone → H1'.at kk ≠ .gone) := fun b r k hb h => by
    obtain ⟨kk, o, hj, hk⟩ := hσnew b _ hb h
    obtain ⟨e1, e2, o', e3, e4⟩ := hout _ kk o hj
    have hat : (H.mores os).at b = o' := mores_new os H b _ o' (by omega) e3
    refine ⟨hborn kk r k e1 hk, hh1.lt kk r k hk, ?_, kk, o, hj, hk, fun _ hg0 => ?_⟩
    · rw [hat]
      have := hh1.obj kk r k hk
      rw [e2] at this
      exact renO_has hmap this e4
    · rw [e2] at hg0
      rw [hg0] at e4
      cases e4
  have hsub := mores_sub os H
  refine ⟨σ, ⟨hσold, hsub.low, hsub.next, hsub.old, hsub.dead, s1'.os, s1'.tape, s1'.output, s1'.size, fun r hr _ => hsame r hr, fun b r k hb h => .inl (hobj b r k hb h).1⟩, ren_fwd hmap hv1 hs, ⟨fun b hb => ?_, fun b r k h => ?_, fun b r k h => ?_, fun b b2 r k r2 k2 hne h h2 hgb hgb2 => ?_⟩⟩
  · rw [mores_next, hlen] at hb
    have : σ b = match outs[b.nat - H.next.nat]? with
      | some p => σ1 p.1
      | none => none := if_neg (by omega)
    rw [this, List.getElem?_eq_none (by omega)]
  · by_cases hb : b.nat < H.next.nat
    · rw [hσold b hb] at h; exact Nat.lt_of_lt_of_le (hh.lt b r k h) s1'.size
    · exact (hobj b r k (by omega) h).2.1
  · by_cases hb : b.nat < H.next.nat
    · rw [hσold b hb] at h
      rw [mores_old os H b hb]
      exact ((hh.obj b r k h).mono hle).world (hsame r (hh.lt b r k h))
    · exact (hobj b r k (by omega) h).2.2.1
  · by_cases hb : b.nat < H.next.nat
    · rw [hσold b hb] at h
      have hr := hh.lt b r k h
      by_cases hb2 : b2.nat < H.next.nat
      · rw [hσold b2 hb2] at h2
        rw [mores_old os H b hb] at hgb
        rw [mores_old os H b2 hb2] at hgb2
        exact hh.apart b b2 r k r2 k2 hne h h2 hgb hgb2
      · have := (hobj b2 r2 k2 (by omega) h2).1; omega
    · obtain ⟨g1, _, _, kk, o, hj, hk, hal⟩ := hobj b r k (by omega) h
      by_cases hb2 : b2.nat < H.next.nat
      · rw [hσold b2 hb2] at h2
        have := hh.lt b2 r2 k2 h2; omega
      · obtain ⟨_, _, _, kk2, o2, hj2, hk2, hal2⟩ := hobj b2 r2 k2 (by omega) h2
        have hkne : kk ≠ kk2 := fun e => by
          subst e
          have := hdist _ _ kk o o2 hj hj2
          exact hne (Pos.nat_inj (by omega))
        exact hh1.apart kk kk2 r k r2 k2 hkne hk hk2 (hal hgb) (hal2 hgb2)
end
end Go.Proofs.YtjflmmipjeangaaGreatDoor.Sx
end
/-
  The executor, a table of calls that are known: entries for calls whose arguments are plain or slices of plain cells.
-/
section
set_option linter.unusedVariables false
set_option linter.unusedSimpArgs false
namespace Go.Proofs.YtjflmmipjeangaaGreatDoor.Sx
open Go.RowKit

/-- a call that is known: its arguments (slices of the blocks 'frag', numbered from g0 on), what it returns, the blocks that it makes and that are kept -/
structure Ent where
  f : FuncId
  args : List SVal
  frag : List (List SVal)
  s : SVal
  outs : List (Pos × SObj)
/-- the small heap: the laid variables, then the blocks of the arguments -/
noncomputable def fragH (all : List (List SVal)) : Hp :=
  ⟨((⟨.H, 0, .leaf⟩ : Hp).mores (mapR .ro all)).next, lenR all, ((⟨.H, 0, .leaf⟩ : Hp).mores (mapR .ro all)).tr⟩
theorem fragH_next (all : List (List SVal)) : (fragH all).next.nat = all.length := by
  show ((⟨.H, 0, .leaf⟩ : Hp).mores (mapR .ro all)).next.nat = _
  rw [mores_next, mapR_eq, List.length_map]
  show 0 + all.length = all.length
  omega
theorem base_tidy : (⟨.H, 0, .leaf⟩ : Hp).Tidy := fun b _ => gt_leaf _ _
theorem fragH_tidy (all : List (List SVal)) : (fragH all).Tidy := fun b hb => (mores_sub (mapR .ro all) _).tidy base_tidy b hb
theorem fragH_at (all : List (List SVal)) (b : Pos) (c : List SVal) (hc : all[b.nat]? = some c) : (fragH all).at b = .ro c := by
  show ((⟨.H, 0, .leaf⟩ : Hp).mores (mapR .ro all)).at b = _
  exact mores_new _ _ b b.nat _ (by show b.nat = 0 + b.nat; omega) (by rw [mapR_eq, List.getElem?_map, hc]; rfl)
/-- the same plain value -/
def eqV (x y : Value) : Bool :=
  match x, y with
  | .int .i64 m, .int .i64 n => eqF m n
  | .int .u64 m, .int .u64 n => eqF m n
  | .int .u8 m, .int .u8 n => eqF m n
  | .bool a, .bool b => a == b
  | .string a, .string b => a == b
  | .slice none 0 0, .slice none 0 0 => true
  | .pointer none, .pointer none => true
  | .nilIface, .nilIface => true
  | .func (.func f) ⟨[]⟩ ⟨[]⟩, .func (.func g) ⟨[]⟩ ⟨[]⟩ => Nat.beq f g
  | _, _ => false
theorem eqV_spec {x y : Value} (h : eqV x y = true) : x = y := by
  unfold eqV at h
  split at h <;> first
    | (rw [(eqF_iff _ _).1 h]; done)
    | rfl
    | (rw [(MapKept.bytes_beq _ _).1 h]; done)
    | (cases h; done)
    | (rw [eq_of_beq h]; done)
    | (rw [Nat.eq_of_beq_eq_true h]; done)
def posEq (p q : Pos) : Bool := Nat.beq p.nat q.nat
theorem posEq_spec {p q : Pos} (h : posEq p q = true) : p = q := Pos.nat_inj (Nat.eq_of_beq_eq_true h)
def capEq (c d : Cap) : Bool :=
  match c, d with
  | .known m, .known n => Nat.beq m n
  | .upto m, .upto n => Nat.beq m n
  | _, _ => false
theorem capEq_spec {c d : Cap} (h : capEq c d = true) : c = d := by
  cases c <;> cases d <;> simp only [capEq] at h <;> first | (cases h; done) | rw [Nat.eq_of_beq_eq_true h]
/-- the same cell, but for the numbers of blocks -/
def cellOk (μ : Pos → Option Pos) (s s' : SVal) : Bool :=
  match s, s' with
  | .v x, .v y => eqV x y
  | .slice b off len c, .slice b' off' len' c' => (match μ b with
      | some x => posEq x b'
      | none => false) && Nat.beq off off' && Nat.beq len len' && capEq c c'
  | .ptr b off, .ptr b' off' => (match μ b with
      | some x => posEq x b'
      | none => false) && Nat.beq off off'
  | _, _ => false
theorem cellOk_spec {μ : Pos → Option Pos} {s s' : SVal} (h : cellOk μ s s' = true) : ren μ s = some s' := by
  unfold cellOk at h
  split at h
  · rw [eqV_spec h]; rfl
  · next b off len c b' off' len' c' =>
    simp only [Bool.and_eq_true] at h
    obtain ⟨⟨⟨h1, h2⟩, h3⟩, h4⟩ := h
    split at h1 <;> try (cases h1; done)
    next x hx =>
    have e1 := posEq_spec h1
    have e2 := Nat.eq_of_beq_eq_true h2
    have e3 := Nat.eq_of_beq_eq_true h3
    have e4 := capEq_spec h4
    subst e1 e2 e3 e4
    simp only [ren, hx]
  · next b off b' off' =>
    simp only [Bool.and_eq_true] at h
    obtain ⟨h1, h2⟩ := h
    split at h1 <;> try (cases h1; done)
    next x hx =>
    have e1 := posEq_spec h1
    have e2 := Nat.eq_of_beq_eq_true h2
    subst e1 e2
    simp only [ren, hx]
  · cases h
/-- the first cells are these -/
noncomputable def cellsPre (μ : Pos → Option Pos) (c1 : List SVal) : List SVal → Bool := List.rec (motive := fun _ => List SVal → Bool) (fun _ => true) (fun s _ ih c => List.rec false (fun s' t _ => match cellOk μ s s' with
  | true => ih t
  | false => false) c) c1
theorem cellsPre_spec (μ : Pos → Option Pos) : ∀ (c1 c : List SVal), cellsPre μ c1 c = true → ∃ c0 rest, c = c0 ++ rest ∧ rens μ c1 = some c0
  | [], c, _ => ⟨[], c, rfl, rfl⟩
  | s :: c1, [], h => by cases (show false = true from h)
  | s :: c1, s' :: c, h => by
    have h' : (match cellOk μ s s' with
      | true => cellsPre μ c1 c
      | false => false) = true := h
    split at h' <;> try (cases h'; done)
    next he =>
    obtain ⟨c0, rest, rfl, h2⟩ := cellsPre_spec μ c1 c h'
    exact ⟨s' :: c0, rest, rfl, by simp only [rens, cellOk_spec he, h2]⟩
/-- an argument: a cell, or a struct of cells -/
noncomputable def argB (μ : Pos → Option Pos) (s s' : SVal) : Bool :=
  match s, s' with
  | .agg l, .agg l' => cellsPre μ l l' && Nat.beq (lenR l) (lenR l')
  | .func (.func f) [] l, .func (.func f') [] l' => Nat.beq f f' && cellsPre μ l l' && Nat.beq (lenR l) (lenR l')
  | s, s' => cellOk μ s s'
theorem argB_spec {μ : Pos → Option Pos} {s s' : SVal} (h : argB μ s s' = true) : ren μ s = some s' := by
  unfold argB at h
  split at h
  · next l l' =>
    rw [Bool.and_eq_true] at h
    obtain ⟨c0, rest, rfl, h2⟩ := cellsPre_spec μ l l' h.1
    have hl := rens_length h2
    have h3 := Nat.eq_of_beq_eq_true h.2
    rw [lenR_eq, lenR_eq, List.length_append] at h3
    have : rest = [] := List.eq_nil_of_length_eq_zero (by omega)
    subst this
    simp only [ren, h2, List.append_nil]
  · next f l f' l' =>
    rw [Bool.and_eq_true, Bool.and_eq_true] at h
    obtain ⟨c0, rest, rfl, h2⟩ := cellsPre_spec μ l l' h.1.2
    have hl := rens_length h2
    have h3 := Nat.eq_of_beq_eq_true h.2
    rw [lenR_eq, lenR_eq, List.length_append] at h3
    have : rest = [] := List.eq_nil_of_length_eq_zero (by omega)
    subst this
    have h4 := Nat.eq_of_beq_eq_true h.1.1
    subst h4
    simp only [ren, rens, h2, List.append_nil]
  · exact cellOk_spec h
noncomputable def argsB (μ : Pos → Option Pos) : List SVal → List SVal → Bool
  | [], [] => true
  | s :: l, s' :: l' => argB μ s s' && argsB μ l l'
  | _, _ => false
theorem argsB_spec {μ : Pos → Option Pos} : ∀ {l l' : List SVal}, argsB μ l l' = true → rens μ l = some l'
  | [], [], _ => rfl
  | [], _ :: _, h => by cases (show false = true from h)
  | _ :: _, [], h => by cases (show false = true from h)
  | s :: l, s' :: l', h => by
    have h' : (argB μ s s' && argsB μ l l') = true := h
    rw [Bool.and_eq_true] at h'
    simp only [rens, argB_spec h'.1, argsB_spec h'.2]
/-- which block stands for which, as two lists of cells tell -/
noncomputable def pairsC (c1 c : List SVal) (ps : List (Pos × Pos)) : List (Pos × Pos) :=
  List.rec (motive := fun _ => List SVal → List (Pos × Pos) → List (Pos × Pos)) (fun _ ps => ps) (fun s _ ih c ps => List.rec ps (fun s' t _ => match s, s' with
    | .slice b _ _ _, .slice b' _ _ _ => ih t (match ps.any fun p => posEq p.1 b with
      | true => ps
      | false => ps ++ [(b, b')])
    | .ptr b _, .ptr b' _ => ih t (match ps.any fun p => posEq p.1 b with
      | true => ps
      | false => ps ++ [(b, b')])
    | _, _ => ih t ps) c) c1 c ps
noncomputable def flatA (l : List SVal) : List SVal := List.rec [] (fun s _ ih => match s with
  | .agg c => appR c ih
  | .func _ _ c => appR c ih
  | s => s :: ih) l
/-- the blocks' contents tell of further blocks -/
noncomputable def pairsF (H : Hp) (g0 : Nat) : Pos → List (List SVal) → List (Pos × Pos) → List (Pos × Pos)
  | _, [], ps => ps
  | p, c1 :: l, ps => pairsF H g0 p.next l (match Nat.blt p.nat g0 with
    | true => ps
    | false => match ps.find? fun q => posEq q.1 p with
      | some q => match (H.at q.2).row with
        | some c => pairsC c1 c ps
        | none => ps
      | none => ps)
noncomputable def pairsOf (H : Hp) (g0 : Nat) (all : List (List SVal)) (l l' : List SVal) : List (Pos × Pos) := pairsF H g0 .H all (pairsC (flatA l) (flatA l') [])
def muF (g0 : Nat) (ps : List (Pos × Pos)) (b : Pos) : Option Pos :=
  match Nat.blt b.nat g0 with
  | true => some b
  | false => match ps.find? fun p => posEq p.1 b with
    | some p => some p.2
    | none => none
noncomputable def fragB (μ : Pos → Option Pos) (H : Hp) : Pos → List (List SVal) → Bool
  | _, [] => true
  | p, c1 :: l => (match μ p with
    | some b' => match (H.at b').row with
      | some c => cellsPre μ c1 c
      | none => false
    | none => true) && fragB μ H p.next l
theorem fragB_spec {μ : Pos → Option Pos} {H : Hp} : ∀ (l : List (List SVal)) (p : Pos), fragB μ H p l = true → ∀ (i : Nat) (c1 : List SVal) (b b' : Pos), l[i]? = some c1 → b.nat = p.nat + i → μ b = some b' → ∃ c0 rest, (H.at b').row = some (c0 ++ rest) ∧ rens μ c1 = some c0
  | [], _, _, i, c1, _, _, h, _, _ => by simp at h
  | c :: l, p, h, 0, c1, b, b', hc, hb, hm => by
    simp only [List.getElem?_cons_zero, Option.some.injEq] at hc
    subst hc
    have : b = p := Pos.nat_inj (by omega)
    subst this
    unfold fragB at h
    rw [Bool.and_eq_true, hm] at h
    have h1 := h.1
    simp only at h1
    split at h1 <;> try (cases h1; done)
    next c2 hr =>
    obtain ⟨c0, rest, rfl, h2⟩ := cellsPre_spec μ c c2 h1
    exact ⟨c0, rest, hr, h2⟩
  | c :: l, p, h, i + 1, c1, b, b', hc, hb, hm => by
    unfold fragB at h
    rw [Bool.and_eq_true] at h
    exact fragB_spec l p.next h.2 i c1 b b' (by simpa using hc) (by rw [Pos.next_nat]; omega) hm
/-- the place of a key -/
def idxOf (b : Pos) : List (Pos × SObj) → Nat → Option Nat
  | [], _ => none
  | p :: l, j => match posEq p.1 b with
    | true => some j
    | false => idxOf b l (j + 1)
theorem idxOf_spec {b : Pos} : ∀ (l : List (Pos × SObj)) (i j : Nat), idxOf b l i = some j → i ≤ j ∧ ∃ o, l[j - i]? = some (b, o)
  | [], _, _, h => by cases h
  | p :: l, i, j, h => by
    unfold idxOf at h
    split at h
    · next he =>
      simp only [Option.some.injEq] at h
      subst h
      exact ⟨Nat.le_refl _, p.2, by simp only [Nat.sub_self, List.getElem?_cons_zero]; rw [← posEq_spec he]⟩
    · obtain ⟨h1, o, h2⟩ := idxOf_spec l (i + 1) j h
      refine ⟨by omega, o, ?_⟩
      have : j - i = (j - (i + 1)) + 1 := by omega
      rw [this, List.getElem?_cons_succ]; exact h2
def muX (μ : Pos → Option Pos) (n : Nat) (outs : List (Pos × SObj)) (b : Pos) : Option Pos :=
  match μ b with
  | some x => some x
  | none => match idxOf b outs 0 with
    | some j => some (Pos.of (n + j))
    | none => none
noncomputable def renAll (μ : Pos → Option Pos) (l : List (Pos × SObj)) : Option (List SObj) :=
  List.rec (some []) (fun p _ ih => match renO μ p.2, ih with
    | some o, some os => some (o :: os)
    | _, _ => none) l
theorem renAll_spec {μ : Pos → Option Pos} : ∀ {l : List (Pos × SObj)} {os : List SObj}, renAll μ l = some os → os.length = l.length ∧ ∀ (j : Nat) (k : Pos) (o : SObj), l[j]? = some (k, o) → ∃ o' : SObj, os[j]? = some o' ∧ renO μ o = some o'
  | [], os, h => by
    have h' : some [] = some os := h
    simp only [Option.some.injEq] at h'
    subst h'
    exact ⟨rfl, fun j k o h => by simp at h⟩
  | p :: l, os, h => by
    have h' : (match renO μ p.2, renAll μ l with
      | some o, some os => some (o :: os)
      | _, _ => none) = some os := h
    split at h' <;> try (cases h'; done)
    next o os0 e1 e2 =>
    simp only [Option.some.injEq] at h'
    subst h'
    obtain ⟨h1, h2⟩ := renAll_spec e2
    refine ⟨by simp [h1], fun j k o2 hj => ?_⟩
    cases j with
    | zero =>
      simp only [List.getElem?_cons_zero, Option.some.injEq] at hj
      subst hj
      exact ⟨o, rfl, e1⟩
    | succ j => exact h2 j k o2 (by simpa using hj)
/-- the keys, each once, none among the small heap's -/
def keysOk (n : Nat) : List (Pos × SObj) → Bool
  | [] => true
  | p :: l => Nat.ble n p.1.nat && (l.all fun q => !posEq p.1 q.1) && keysOk n l
theorem keysOk_spec {n : Nat} : ∀ {l : List (Pos × SObj)}, keysOk n l = true → (∀ (j : Nat) (k : Pos) (o : SObj), l[j]? = some (k, o) → n ≤ k.nat) ∧ ∀ (i j : Nat) (k : Pos) (o o' : SObj), l[i]? = some (k, o) → l[j]? = some (k, o') → i = j
  | [], _ => ⟨fun j k o h => by simp at h, fun i j k o o' h => by simp at h⟩
  | p :: l, h => by
    unfold keysOk at h
    rw [Bool.and_eq_true, Bool.and_eq_true] at h
    obtain ⟨⟨h1, h2⟩, h3⟩ := h
    obtain ⟨g1, g2⟩ := keysOk_spec h3
    rw [List.all_eq_true] at h2
    have hne : ∀ (j : Nat) (k : Pos) (o : SObj), l[j]? = some (k, o) → p.1 ≠ k := fun j k o hj e => by
      have := h2 (k, o) (List.mem_of_getElem? hj)
      simp [posEq, e] at this
    refine ⟨fun j k o hj => ?_, fun i j k o o' hi hj => ?_⟩
    · cases j with
      | zero =>
        simp only [List.getElem?_cons_zero, Option.some.injEq] at hj
        have := Nat.le_of_ble_eq_true h1
        rw [hj] at this; exact this
      | succ j => exact g1 j k o (by simpa using hj)
    · cases i with
      | zero =>
        cases j with
        | zero => rfl
        | succ j =>
          simp only [List.getElem?_cons_zero, Option.some.injEq] at hi
          exact absurd (by rw [hi]) (hne j k o' (by simpa using hj))
      | succ i =>
        cases j with
        | zero =>
          simp only [List.getElem?_cons_zero, Option.some.injEq] at hj
          exact absurd (by rw [hj]) (hne i k o (by simpa using hi))
        | succ j => rw [g2 i j k o o' (by simpa using hi) (by simpa using hj)]
/-- the pairs are one to one, and none is a laid variable's -/
def pairsB (g0 m n : Nat) : List (Pos × Pos) → Bool
  | [] => true
  | p :: l => Nat.ble g0 p.1.nat && Nat.blt p.1.nat m && Nat.ble g0 p.2.nat && Nat.blt p.2.nat n && (l.all fun q => !posEq p.2 q.2) && pairsB g0 m n l
theorem pairsB_spec {g0 m n : Nat} : ∀ {l : List (Pos × Pos)}, pairsB g0 m n l = true → (∀ p ∈ l, g0 ≤ p.1.nat ∧ p.1.nat < m ∧ g0 ≤ p.2.nat ∧ p.2.nat < n) ∧ ∀ p ∈ l, ∀ q ∈ l, p.2 = q.2 → p = q
  | [], _ => ⟨fun p h => (by cases h), fun p h => (by cases h)⟩
  | p :: l, h => by
    unfold pairsB at h
    simp only [Bool.and_eq_true] at h
    obtain ⟨⟨⟨⟨⟨h1, h2⟩, h3⟩, h4⟩, h5⟩, h6⟩ := h
    obtain ⟨g1, g2⟩ := pairsB_spec h6
    rw [List.all_eq_true] at h5
    refine ⟨fun q hq => ?_, fun a ha b hb hab => ?_⟩
    · rcases List.mem_cons.1 hq with rfl | hq
      · exact ⟨Nat.le_of_ble_eq_true h1, Nat.blt_eq.mp h2, Nat.le_of_ble_eq_true h3, Nat.blt_eq.mp h4⟩
      · exact g1 q hq
    · rcases List.mem_cons.1 ha with ha1 | ha2
      · rcases List.mem_cons.1 hb with hb1 | hb2
        · rw [ha1, hb1]
        · have := h5 b hb2; rw [← ha1] at this; simp [posEq, hab] at this
      · rcases List.mem_cons.1 hb with hb1 | hb2
        · have := h5 a ha2; rw [← hb1] at this; simp [posEq, hab] at this
        · exact g2 a ha2 b hb2 hab
/-- an entry, used; gl: what the laid variables hold -/
noncomputable def entP (gl : List (List SVal)) (e : Ent) (args : List SVal) (H : Hp) (ps : List (Pos × Pos)) : Option Out :=
  match (pairsB (lenR gl) (lenR gl + lenR e.frag) H.next.nat ps && Nat.ble (lenR gl) H.next.nat && argsB (muF (lenR gl) ps) e.args args) with
  | true => match fragB (muF (lenR gl) ps) H .H (gl ++ e.frag) with
    | true => match renAll (muX (muF (lenR gl) ps) H.next.nat e.outs) e.outs, ren (muX (muF (lenR gl) ps) H.next.nat e.outs) e.s with
      | some os, some s => normL os fun os => some (some (s, H.mores os))
      | _, _ => none
    | false => none
  | false => none
noncomputable def entO (gl : List (List SVal)) (e : Ent) (args : List SVal) (H : Hp) : Option Out := normL (pairsOf H (lenR gl) (gl ++ e.frag) e.args args) fun ps => entP gl e args H ps
/-- an entry is right -/
def EntOk (P : Program) (G : Gl) (gl : List (List SVal)) (e : Ent) : Prop :=
  ∃ cl, ClOk P G cl ∧ keysOk (gl.length + e.frag.length) e.outs = true ∧ ∃ H1', cl e.f e.args (fragH (gl ++ e.frag)) = some (e.s, H1') ∧ ∀ (j : Nat) (k : Pos) (o : SObj), e.outs[j]? = some (k, o) → H1'.at k = o
/-- an entry is right if the executor says so -/
theorem EntOk.of {P : Program} {G : Gl} {gl : List (List SVal)} {e : Ent} {orc : FuncId → List SVal → Hp → Option Out} {fuel d : Nat} (ho : OrcOk P G orc) (hm : P.follows .mixedOrders = true) (hk : keysOk (gl.length + e.frag.length) e.outs = true)
    (h : (clD P G orc fuel d e.f e.args (fragH (gl ++ e.frag))).map (fun r => (r.1, e.outs.map fun p => r.2.at p.1)) = some (e.s, e.outs.map (·.2))) : EntOk P G gl e := by
  refine ⟨clD P G orc fuel d, clD_run ho hm fuel d, hk, ?_⟩
  cases hr : clD P G orc fuel d e.f e.args (fragH (gl ++ e.frag)) with
  | none => rw [hr] at h; cases h
  | some r =>
    rw [hr] at h
    simp only [Option.map_some, Option.some.injEq, Prod.mk.injEq] at h
    refine ⟨r.2, by rw [← h.1], fun j k o hj => ?_⟩
    have h2 := congrArg (fun l => l[j]?) h.2
    simp only [List.getElem?_map, hj, Option.map_some, Option.some.injEq] at h2
    exact h2
theorem muF_some {g0 : Nat} {ps : List (Pos × Pos)} {b b' : Pos} (h : muF g0 ps b = some b') : (b.nat < g0 ∧ b' = b) ∨ (g0 ≤ b.nat ∧ (b, b') ∈ ps) := by
  unfold muF at h
  split at h
  · next hb => simp only [Option.some.injEq] at h; exact .inl ⟨Nat.blt_eq.mp hb, h.symm⟩
  · next hb =>
    split at h <;> try (cases h; done)
    next p hp =>
    simp only [Option.some.injEq] at h
    have h1 := List.find?_some hp
    have h2 := List.mem_of_find?_eq_some hp
    have h3 : p.1 = b := posEq_spec h1
    refine .inr ⟨Nat.le_of_not_lt fun hlt => (by rw [Nat.blt_eq.mpr hlt] at hb; cases hb), ?_⟩
    rw [← h3, ← h]; exact h2
theorem entO_sub {gl : List (List SVal)} {e : Ent} {args : List SVal} {H H' : Hp} {s : SVal} (h : entO gl e args H = some (some (s, H'))) : Sub H H' := by
  unfold entO at h
  rw [normL_eq] at h
  unfold entP at h
  split at h <;> try (cases h; done)
  split at h <;> try (cases h; done)
  split at h <;> try (cases h; done)
  rw [normL_eq] at h
  simp only [Option.some.injEq, Prod.mk.injEq] at h
  rw [← h.2]; exact mores_sub _ _
theorem entO_run {P : Program} {G : Gl} {gl : List (List SVal)} {e : Ent} {args : List SVal} {H H' : Hp} {s : SVal} (he : EntOk P G gl e) (hG : ∀ g b, G g = some b → b.nat < gl.length) (h : entO gl e args H = some (some (s, H'))) {ρ : Pl} {W : World} {vs : List Value} (hg : GlobsH G ρ H) (hh : Held ρ H W) (hv : VRs ρ args vs) :
    Calls P e.f vs.toArray W fun en W' => ∃ v, en = .returned v ∧ Good ρ H W s H' v W' := by
  obtain ⟨cl, hcl, hkeys, H1', hrun, hat⟩ := he
  unfold entO at h
  rw [normL_eq] at h
  generalize pairsOf H (lenR gl) (gl ++ e.frag) e.args args = ps at h
  unfold entP at h
  split at h <;> try (cases h; done)
  next hp =>
  split at h <;> try (cases h; done)
  next hf =>
  split at h <;> try (cases h; done)
  next os s' hos hs =>
  rw [normL_eq] at h
  simp only [Option.some.injEq, Prod.mk.injEq] at h
  obtain ⟨rfl, rfl⟩ := h
  rw [Bool.and_eq_true, Bool.and_eq_true] at hp
  obtain ⟨⟨hp1, hp2⟩, hp3⟩ := hp
  simp only [lenR_eq] at hp1 hp2 hp3 hf hos hs
  obtain ⟨q1, q2⟩ := pairsB_spec hp1
  obtain ⟨k1, k2⟩ := keysOk_spec hkeys
  obtain ⟨o1, o2⟩ := renAll_spec hos
  have hn := Nat.le_of_ble_eq_true hp2
  have hnext : (fragH (gl ++ e.frag)).next.nat = gl.length + e.frag.length := by rw [fragH_next, List.length_append]
  have hlow : (fragH (gl ++ e.frag)).low = (fragH (gl ++ e.frag)).next.nat := by rw [hnext]; show lenR (gl ++ e.frag) = _; rw [lenR_eq, List.length_append]
  refine frag_run (μ := muF gl.length ps) (μ' := muX (muF gl.length ps) H.next.nat e.outs) (outs := e.outs) hcl hrun (fragH_tidy _) hlow (fun b b' hm => ?_) (fun b b' c h1 h2 => ?_) (fun g b hgb => ?_) (fun b b' hm => ?_) (argsB_spec hp3) (fun j k o hj => ?_) o1 k2 (fun b b' hm => ?_) hs hg hh hv
  · rw [hnext]
    rcases muF_some hm with ⟨h1, rfl⟩ | ⟨_, h2⟩
    · exact ⟨by omega, by omega⟩
    · have := q1 _ h2; exact ⟨this.2.1, this.2.2.2⟩
  · rcases muF_some h1 with ⟨g1, rfl⟩ | ⟨_, g1⟩ <;> rcases muF_some h2 with ⟨g2, g3⟩ | ⟨_, g2⟩
    · exact g3
    · have := (q1 _ g2).2.2.1; simp only at this; subst_vars; omega
    · have := (q1 _ g1).2.2.1; simp only at this; subst_vars; omega
    · have := q2 _ g1 _ g2 rfl
      simp only [Prod.mk.injEq] at this; exact this.1
  · unfold muF
    rw [Nat.blt_eq.mpr (hG g b hgb)]
  · have hb : b.nat < (gl ++ e.frag).length := by
      rw [List.length_append]
      rcases muF_some hm with ⟨h1, rfl⟩ | ⟨_, h2⟩
      · omega
      · exact (q1 _ h2).2.1
    have hc := List.getElem?_eq_getElem hb
    obtain ⟨c0, rest, r1, r2⟩ := fragB_spec (gl ++ e.frag) .H hf b.nat _ b b' hc (by show b.nat = 0 + b.nat; omega) hm
    exact .inr ⟨_, _, rest, fragH_at _ b _ hc, r1, r2⟩
  · obtain ⟨o', e1, e2⟩ := o2 j k o hj
    exact ⟨by rw [hnext]; exact k1 j k o hj, hat j k o hj, o', e1, e2⟩
  · unfold muX at hm
    split at hm
    · next x hx => simp only [Option.some.injEq] at hm; subst hm; exact .inl hx
    · split at hm <;> try (cases hm; done)
      next j hj =>
      simp only [Option.some.injEq] at hm
      obtain ⟨_, o, ho⟩ := idxOf_spec e.outs 0 j hj
      exact .inr ⟨j, o, by simpa using ho, by rw [← hm, Pos.nat_of]⟩
/-- a table -/
noncomputable def orcT (gl : List (List SVal)) (T : List Ent) (f : FuncId) (args : List SVal) (H : Hp) : Option Out :=
  List.rec none (fun e _ ih => match Nat.beq e.f f with
    | true => match entO gl e args H with
      | some (some r) => some (some r)
      | _ => ih
    | false => ih) T
theorem orcT_ok {P : Program} {G : Gl} {gl : List (List SVal)} (hG : ∀ g b, G g = some b → b.nat < gl.length) : ∀ (T : List Ent), (∀ e ∈ T, EntOk P G gl e) → OrcOk P G (orcT gl T)
  | [], _ => orc_none
  | e :: T, h => by
    have ih := orcT_ok hG T fun x hx => h x (by simp [hx])
    have hstep : ∀ f args H r, orcT gl (e :: T) f args H = some (some r) → (e.f = f ∧ entO gl e args H = some (some r)) ∨ orcT gl T f args H = some (some r) := fun f args H r hr => by
      have hr' : (match Nat.beq e.f f with
        | true => match entO gl e args H with
          | some (some r) => some (some r)
          | _ => orcT gl T f args H
        | false => orcT gl T f args H) = some (some r) := hr
      split at hr'
      · next hf =>
        split at hr'
        · next r' he => simp only [Option.some.injEq] at hr'; subst hr'; exact .inl ⟨Nat.eq_of_beq_eq_true hf, he⟩
        · exact .inr hr'
      · exact .inr hr'
    refine ⟨fun f args H s H' hr => ?_, fun f args H s H' hr ρ W vs ht hg hh hv => ?_⟩
    · rcases hstep f args H _ hr with ⟨_, h1⟩ | h1
      · exact entO_sub h1
      · exact ih.sub f args H s H' h1
    · rcases hstep f args H _ hr with ⟨rfl, h1⟩ | h1
      · exact entO_run (h e (by simp)) hG h1 hg hh hv
      · exact ih.run f args H s H' h1 ρ W vs ht hg hh hv
end Go.Proofs.YtjflmmipjeangaaGreatDoor.Sx
end
/-
  The executor: the code of a deferred closure that asks 'recover()' first, in a call that does not panic.
-/
section
set_option linter.unusedVariables false
set_option linter.unusedSimpArgs false
namespace Go.Proofs.YtjflmmipjeangaaGreatDoor.Sx
open Go.RowKit

/-- a body that begins with recover() -/
def recOf (c : Code) : Option (Array Oper × Tmp × List Oper × Code) :=
  match c with
  | .seq (.region _ ops false) rest => match ops.toList with
    | ⟨some d, .call ⟨.builtin .recover, ⟨[]⟩, _⟩, _, _, _, none⟩ :: l => some (ops, d, l, rest)
    | _ => none
  | _ => none
section
variable (P : Program) (G : Gl) (cl : FuncId → List SVal → Hp → Out)
/-- such a body, or any other -/
noncomputable def runE (fuel : Nat) (c : Code) (t : Sl) (H : Hp) : RE :=
  match recOf c with
  | some (ops, d, l, rest) => match runL P G cl 0 ops (mapR (fun o => (o, Cls.bar)) l) (st unset (Pos.of d) (.v .nilIface) t) H with
    | some (t1, H1) => den P G cl fuel rest t1 H1
    | none => .bad
  | none => den P G cl fuel c t H
end
section
variable {P : Program} {G : Gl} {cl : FuncId → List SVal → Hp → Out}
theorem ends_uponS {R : Value → World → Prop} {ops : Array Oper} {Q : Exit → Act → List Frame → World → Prop} {rest : List Nat} {i : Nat} {o : Oper} {a : Act} {cs : List Frame} {W : World} (ho : ops[i]? = some o) (hw : Region.wanted o (yielded ops a.tmps) = true) (h : Ends P R ((execOp a.eval o).run P W))
    (hk : ∀ v w', R v w' → wpOpsS P ops Q rest (a.put o.dst v) cs w') : wpOpsS P ops Q (i :: rest) a cs W := by
  unfold wpOpsS
  simp only [ho]
  rw [if_pos hw]
  generalize (execOp a.eval o).run P W = r at h
  have hu := ends_upon (P := P) (a := a) (o := o) (K := fun a' w' => wpOpsS P ops Q rest a' cs w') (Q := fun e a' w' => Q e a' cs w') h hk
  cases r with
  | ok n w' => cases n <;> first | exact hu | exact h.elim
  | halt _ _ => exact hu
theorem listS_run (hcl : ∀ f args H s H', cl f args H = some (s, H') → Sub H H') (hok : ClOk P G cl) {ops : Array Oper} {N n0 : Nat} {Q : Exit → Act → List Frame → World → Prop} {cs : List Frame} : ∀ (l : List Oper) (i : Nat), (∀ k o, l[k]? = some o → ops[i + k]? = some o) → (∀ o ∈ l, ∀ d, o.dst = some d → d < N) →
    ∀ t H ρ a W t' H', H.Tidy → GlobsH G ρ H → FrR [] ρ N t a → Held ρ H W → runL P G cl n0 ops (l.map fun o => (o, Cls.bar)) t H = some (t', H') → (∀ a' W', Left [] ρ H W N t' H' a' W' → Q .normal a' cs W') → wpOpsS P ops Q (List.range' i l.length) a cs W
  | [], i, _, _, t, H, ρ, a, W, t', H', ht, hg, hf, hh, hr, hQ => by
    have hr' : some (t, H) = some (t', H') := hr
    simp only [Option.some.injEq, Prod.mk.injEq] at hr'
    obtain ⟨rfl, rfl⟩ := hr'
    exact hQ a W ⟨ρ, Stp.refl hh.fresh, hf, hh⟩
  | o :: l, i, hl, hN, t, H, ρ, a, W, t', H', ht, hg, hf, hh, hr, hQ => by
    have ho : ops[i]? = some o := by have := hl 0 o rfl; simpa using this
    have hlooks : ∀ d ∈ o.looksAt ops, VR ρ (gt unset (Pos.of d) t) (a.tmps.getD d undef) := fun d _ => by have := hf.slot (Pos.of d); rwa [Pos.nat_of] at this
    have hwant := want_eq (ops := ops) hlooks
    have hr' : (match wantS ops t o with
      | true => match xcls P G cl n0 Cls.bar o t H with
        | some (s, H') => match o.dst with
          | some d => runL P G cl n0 ops (l.map fun o => (o, Cls.bar)) (st unset (Pos.of d) s t) H'
          | none => runL P G cl n0 ops (l.map fun o => (o, Cls.bar)) t H'
        | none => none
      | false => match o.dst with
        | some d => runL P G cl n0 ops (l.map fun o => (o, Cls.bar)) (st unset (Pos.of d) unset t) H
        | none => runL P G cl n0 ops (l.map fun o => (o, Cls.bar)) t H) = some (t', H') := hr
    have hl' : ∀ k o', l[k]? = some o' → ops[i + 1 + k]? = some o' := fun k o' hk => by
      have := hl (k + 1) o' (by simpa using hk)
      rwa [show i + 1 + k = i + (k + 1) by omega]
    have hN' : ∀ o ∈ l, ∀ d, o.dst = some d → d < N := fun o' ho' => hN o' (List.mem_cons_of_mem _ ho')
    rw [List.length_cons, List.range'_succ]
    cases hw : wantS ops t o with
    | true =>
      rw [hw] at hr' hwant
      simp only at hr'
      cases hx : xcls P G cl n0 Cls.bar o t H with
      | none => rw [hx] at hr'; cases hr'
      | some r =>
        obtain ⟨s, H1⟩ := r
        rw [hx] at hr'
        simp only at hr'
        have hx' : xop P G cl o t H = some (s, H1) := by rw [← prep_run]; exact hx
        have hdoes := xop_run hok ht hg hh (hf.opnds hg.globs _) hx'
        have hsub := xop_sub hcl hx'
        refine ends_uponS ho hwant.symm hdoes fun v W' ⟨σ, h1, h2, h3⟩ => ?_
        have hf' := hf.mono (h1.le hh.fresh)
        cases hd : o.dst with
        | none =>
          rw [hd] at hr'
          simp only at hr'
          exact listS_run hcl hok l (i + 1) hl' hN' t H1 σ _ W' t' H' (hsub.tidy ht) (hg.step h1) hf' h3 hr' fun a' W2 hL => hQ a' W2 (Left.trans h1 hL)
        | some d =>
          rw [hd] at hr'
          simp only at hr'
          have hp := hf'.put (d := Pos.of d) (by rw [Pos.nat_of]; exact hN o List.mem_cons_self d hd) h2
          rw [Pos.nat_of] at hp
          exact listS_run hcl hok l (i + 1) hl' hN' _ H1 σ _ W' t' H' (hsub.tidy ht) (hg.step h1) hp h3 hr' fun a' W2 hL => hQ a' W2 (Left.trans h1 hL)
    | false =>
      rw [hw] at hr' hwant
      unfold wpOpsS
      simp only [ho]
      rw [if_neg (by rw [← hwant]; simp)]
      simp only at hr'
      cases hd : o.dst with
      | none =>
        rw [hd] at hr'
        simp only at hr'
        exact listS_run hcl hok l (i + 1) hl' hN' t H ρ _ W t' H' ht hg hf hh hr' hQ
      | some d =>
        rw [hd] at hr'
        simp only at hr'
        have hp := hf.put (d := Pos.of d) (by rw [Pos.nat_of]; exact hN o List.mem_cons_self d hd) (VR.v (ρ := ρ) undef)
        rw [Pos.nat_of] at hp
        exact listS_run hcl hok l (i + 1) hl' hN' _ H ρ _ W t' H' ht hg hp hh hr' hQ
/-- what such a body comes to, in a deferred call of a function that returns -/
theorem runE_run (hcl : ∀ f args H s H', cl f args H = some (s, H') → Sub H H') (hok : ClOk P G cl) (hm : P.follows .mixedOrders = true) {fuel : Nat} {f : FuncId} {fn : Func} {c : Code} (hfn : P.funcs[f]? = some fn) (hc : fn.body = some c) (hd : dstOk fn.ntmps c = true)
    {args : List SVal} {H : Hp} {ρ : Pl} {W : World} {vs : List Value} (hlen : args.length ≤ fn.ntmps) (ht : H.Tidy) (hg : GlobsH G ρ H) (hh : Held ρ H W) (hv : VRs ρ args vs) (hb : runE P G cl fuel c (argsS args .H .leaf) H ≠ .bad)
    {R : Ending → World → Prop} (hR : ∀ e a' W', REnd [] ρ H W fn.ntmps (runE P G cl fuel c (argsS args .H .leaf) H) e a' W' → bodyPost P fn R e a' W') :
    CallsD P f vs.toArray .returning W fun e u W' => u = .returning ∧ R e W' := by
  have hfr : FrR [] ρ fn.ntmps (argsS args .H .leaf) { tmps := vs.toArray ++ Array.replicate (fn.ntmps - vs.toArray.size) undef, defers := [] } := FrR.enter hv hlen
  cases hq : recOf c with
  | none =>
    unfold runE at hb hR
    rw [hq] at hb hR
    exact callsD_of_wp hfn hc (wp_mono (den_run hcl hok hm fuel fn.ntmps c hd _ H ρ _ W ht hg hfr hh hb) hR)
  | some q =>
    obtain ⟨ops, d, l, rest⟩ := q
    unfold runE at hb hR
    rw [hq] at hb hR
    simp only [mapR_eq] at hb hR
    unfold recOf at hq
    split at hq <;> try (cases hq; done)
    next id ops' rest' =>
    split at hq <;> try (cases hq; done)
    next d' ats ty po af l' hops =>
    simp only [Option.some.injEq, Prod.mk.injEq] at hq
    obtain ⟨rfl, rfl, rfl, rfl⟩ := hq
    refine callsD_of_wpS hfn hc fun c₀ cs hu => wpS_seq (wpS_region ?_)
    have hsz : ops'.size = l'.length + 1 := by rw [← Array.length_toList, hops]; rfl
    have h0 : ops'[0]? = some ⟨some d', .call ⟨.builtin .recover, ⟨[]⟩, ats⟩, ty, po, af, none⟩ := by rw [← Array.getElem?_toList, hops]; rfl
    rw [List.range_eq_range', hsz, List.range'_succ]
    unfold wpOpsS
    simp only [h0]
    rw [if_pos (by rfl)]
    have hrun : (execOp ({ tmps := vs.toArray ++ Array.replicate (fn.ntmps - vs.toArray.size) undef, defers := [] } : Act).eval ⟨some d', .call ⟨.builtin .recover, ⟨[]⟩, ats⟩, ty, po, af, none⟩).run P W = .ok .recover W := by
      unfold execOp
      simp [resolve, invoke, builtin, Sem.run_bind, Sem.run, Sem.run_pure, Result.andThen_ok]
    rw [hrun]
    have hrec : recoverD (c₀ :: cs) = none := by simp [recoverD, hu]
    simp only [hrec]
    have hd' : (dstOk fn.ntmps (.region id ops' false) && dstOk fn.ntmps rest') = true := hd
    rw [Bool.and_eq_true] at hd'
    have hdx : (ops'.toList.all fun o => match o.dst with
      | some d => Nat.blt d fn.ntmps
      | none => true) = true := hd'.1
    rw [List.all_eq_true] at hdx
    have hN : ∀ o ∈ ops'.toList, ∀ d, o.dst = some d → d < fn.ntmps := fun o ho d hod => by
      have := hdx o ho
      rw [hod] at this
      exact Nat.blt_eq.mp this
    rw [hops] at hN
    have hp := hfr.put (d := Pos.of d') (by rw [Pos.nat_of]; exact hN _ List.mem_cons_self d' rfl) (VR.v (ρ := ρ) .nilIface)
    rw [Pos.nat_of] at hp
    cases hr : runL P G cl 0 ops' (l'.map fun o => (o, Cls.bar)) (st unset (Pos.of d') (.v .nilIface) (argsS args .H .leaf)) H with
    | none => rw [hr] at hb; exact absurd rfl hb
    | some q =>
      obtain ⟨t1, H1⟩ := q
      rw [hr] at hb hR
      simp only at hb hR
      refine listS_run hcl hok l' 1 (fun k o hk => by rw [← Array.getElem?_toList, hops, Nat.add_comm, List.getElem?_cons_succ]; exact hk) (fun o ho => hN o (List.mem_cons_of_mem _ ho)) _ H ρ _ W t1 H1 ht hg hp hh hr fun a' W' hL => ?_
      obtain ⟨σ, s1, s2, s3⟩ := hL.ex
      have hsub := runL_sub hcl hr
      refine wpS_of_wp (wp_mono (den_run hcl hok hm fuel fn.ntmps rest' hd'.2 t1 H1 σ a' W' (hsub.tidy ht) (hg.step s1) s2 s3 hb) fun e a2 W2 he => ?_)
      have hend := hR e a2 W2 (REnd.of s1 he)
      cases e with
      | normal =>
        obtain ⟨h1, v, h2, h3⟩ := hend
        exact ⟨h1, .returning, by rw [← hu], v, h2, rfl, h3⟩
      | ret =>
        obtain ⟨h1, v, h2, h3⟩ := hend
        exact ⟨h1, .returning, by rw [← hu], v, h2, rfl, h3⟩
      | panic ch =>
        obtain ⟨h1, h3⟩ := hend
        exact ⟨h1, .returning, by rw [← hu], rfl, h3⟩
      | exit id => exact hend.elim
      | goto l => exact hend.elim
      | outgrown => exact ⟨.returning, rfl, hend⟩
end
end Go.Proofs.YtjflmmipjeangaaGreatDoor.Sx
end
/-
  The executor: a function with one deferred closure, made and deferred in a region of its own outside any loop.
-/
section
set_option linter.unusedVariables false
set_option linter.unusedSimpArgs false
namespace Go.Proofs.YtjflmmipjeangaaGreatDoor.Sx
open Go.RowKit

/-- a region that makes a closure and defers it -/
def defOf (ops : Array Oper) (draw : Bool) : Option (Tmp × FuncId × Array Operand) :=
  match draw, ops.toList with
  | false, [⟨some d, .makeFunc (.func f) ⟨[]⟩ l, _, _, _, none⟩, ⟨none, .defer ⟨.value (.tmp d'), ⟨[]⟩, _⟩, _, _, _, none⟩] => match Nat.beq d d' with
    | true => some (d, f, l)
    | false => none
  | _, _ => none
theorem defOf_mem {ops : Array Oper} {draw : Bool} {d : Tmp} {f : FuncId} {l : Array Operand} (h : defOf ops draw = some (d, f, l)) : ∃ o ∈ ops.toList, o.dst = some d := by
  unfold defOf at h
  split at h <;> try (cases h; done)
  next d1 f1 l1 ty1 po1 af1 d2 at2 ty2 po2 af2 hl =>
  split at h <;> try (cases h; done)
  simp only [Option.some.injEq, Prod.mk.injEq] at h
  obtain ⟨rfl, rfl, rfl⟩ := h
  rw [hl]
  exact ⟨_, List.mem_cons_self, rfl⟩
theorem defOf_run {P : Program} {G : Gl} {ρ : Pl} {ops : Array Oper} {draw : Bool} {d : Tmp} {f : FuncId} {l : Array Operand} {N id : Nat} {t : Sl} {a : Act} {W : World} {Q : Exit → Act → World → Prop} (h : defOf ops draw = some (d, f, l)) (hd : d < N) (hg : Globs G ρ) (hf : FrR [] ρ N t a)
    (hQ : ∀ a' vs, VRs ρ (l.toList.map (ev G t)) vs → FrR [{ target := .fn (.func f) vs.toArray, args := #[] }] ρ N (st unset (Pos.of d) (.func (.func f) [] (l.toList.map (ev G t))) t) a' → Q .normal a' W) : (Code.region id ops draw).wp P Q a W := by
  unfold defOf at h
  split at h <;> try (cases h; done)
  next d1 f1 l1 ty1 po1 af1 d2 at2 ty2 po2 af2 hl =>
  split at h <;> try (cases h; done)
  next hbd =>
  have hdd := Nat.eq_of_beq_eq_true hbd
  simp only [Option.some.injEq, Prod.mk.injEq] at h
  obtain ⟨rfl, rfl, rfl⟩ := h
  subst hdd
  refine wp_region_list ?_
  rw [hl]
  refine wpList_plain rfl fun K hK => ?_
  unfold Oper.wp
  have hv : VRs ρ (l1.toList.map (Go.Proofs.YtjflmmipjeangaaGreatDoor.Sx.ev G t)) (l1.toList.map a.eval) := by
    have : ∀ xs : List Operand, VRs ρ (xs.map (Go.Proofs.YtjflmmipjeangaaGreatDoor.Sx.ev G t)) (xs.map a.eval) := by
      intro xs
      induction xs with
      | nil => exact .nil
      | cons x xs ih => exact .cons (hf.ev hg x) ih
    exact this _
  have h1 : (execOp a.eval ⟨some d1, .makeFunc (.func f1) ⟨[]⟩ l1, ty1, po1, af1, none⟩).run P W = .ok (.value (.func (.func f1) #[] (l1.toList.map a.eval).toArray)) W := by
    have e : (l1.toList.map a.eval).toArray = l1.map a.eval := by apply Array.ext'; simp
    rw [e]
    simp [execOp, Instr.makeFunc, Sem.run_bind, Sem.run_pure, Result.andThen_ok]
  rw [h1]
  refine hK _ _ ?_
  refine wpList_plain rfl fun K hK => ?_
  unfold Oper.wp
  have hp := hf.put (d := Pos.of d1) (by rw [Pos.nat_of]; exact hd) (VR.func (ρ := ρ) (fn := .func f1) .nil hv)
  rw [Pos.nat_of] at hp
  have hsz : d1 < a.tmps.size := by rw [hf.size]; exact hd
  have h2 : (execOp (a.put (some d1) (.func (.func f1) #[] (l1.toList.map a.eval).toArray)).eval ⟨none, .defer ⟨.value (.tmp d1), ⟨[]⟩, at2⟩, ty2, po2, af2, none⟩).run P W = .ok (.defer { target := .fn (.func f1) (l1.toList.map a.eval).toArray, args := #[] }) W := by
    have e : (a.put (some d1) (.func (.func f1) #[] (l1.toList.map a.eval).toArray)).eval (.tmp d1) = .func (.func f1) #[] (l1.toList.map a.eval).toArray := by
      simp [Act.put, Act.eval, hsz]
    simp [execOp, resolve, e, Deferred.ofValue, Sem.run_bind, Sem.run_pure, Result.andThen_ok]
  rw [h2]
  refine hK _ _ ?_
  refine wpList_nil (hQ _ _ hv ?_)
  refine ⟨hp.size, ?_, hp.slot⟩
  show _ :: (a.put (some d1) _).defers = _
  rw [hp.defers]
/-- the same of a piece of code -/
def defC (c : Code) : Option (Tmp × FuncId × Array Operand) :=
  match c with
  | .region _ ops draw => defOf ops draw
  | _ => none
section
variable (P : Program) (G : Gl)
/-- up to the deferral -/
noncomputable def runD (cl : FuncId → List SVal → Hp → Out) (fuel : Nat) : Code → Sl → Hp → Option (Sl × Hp × FuncId × List SVal × Code)
  | .seq x b, t, H => match defC x with
    | some (d, f, l) => some (st unset (Pos.of d) (.func (.func f) [] (l.toList.map (ev G t))) t, H, f, l.toList.map (ev G t), b)
    | none => match den P G cl fuel x t H with
      | .norm t H => runD cl fuel b t H
      | _ => none
  | _, _, _ => none
/-- a closure run by its code -/
noncomputable def endD (cl : FuncId → List SVal → Hp → Out) (fuel : Nat) (f : FuncId) (args : List SVal) (H : Hp) : Option Hp :=
  match P.funcs[f]? with
  | some fn => match fn.body with
    | some c => match Nat.ble (lenR args) fn.ntmps, dstOk fn.ntmps c, enters P f with
      | true, true, true => match runE P G cl fuel c (argsS args .H .leaf) H with
        | .norm t H' => (resS P fn t H').map (·.2)
        | .ret t H' => (resS P fn t H').map (·.2)
        | _ => none
      | _, _, _ => none
    | none => none
  | none => none
noncomputable def enterD (cl : FuncId → List SVal → Hp → Out) (fuel : Nat) (f : FuncId) (args : List SVal) (H : Hp) : Out :=
  match P.funcs[f]? with
  | some fn => match fn.body with
    | some c => match Nat.ble (lenR args) fn.ntmps, dstOk fn.ntmps c with
      | true, true => match runD P G cl fuel c (argsS args .H .leaf) H with
        | some (t, H1, g, l, b) => match den P G cl fuel b t H1 with
          | .norm t' H2 => match endD P G cl fuel g l H2 with
            | some H3 => resS P fn t' H3
            | none => none
          | .ret t' H2 => match endD P G cl fuel g l H2 with
            | some H3 => resS P fn t' H3
            | none => none
          | _ => none
        | none => none
      | _, _ => none
    | none => none
  | none => none
end
section
variable {P : Program} {G : Gl} {cl : FuncId → List SVal → Hp → Out}
theorem endD_run (hcl : ∀ f args H s H', cl f args H = some (s, H') → Sub H H') (hok : ClOk P G cl) (hm : P.follows .mixedOrders = true) {fuel : Nat} {f : FuncId} {args : List SVal} {H H' : Hp} (h : endD P G cl fuel f args H = some H') {ρ : Pl} {W : World} {vs : List Value} (ht : H.Tidy) (hg : GlobsH G ρ H) (hh : Held ρ H W) (hv : VRs ρ args vs) :
    enters P f = true ∧ CallsD P f vs.toArray .returning W fun e u W' => u = .returning ∧ ∃ v, e = .returned v ∧ ∃ σ, Stp ρ σ H H' W W' ∧ Held σ H' W' := by
  unfold endD at h
  split at h <;> try (cases h; done)
  next fn hfn =>
  split at h <;> try (cases h; done)
  next c hc =>
  split at h <;> try (cases h; done)
  next h1 h2 h3 =>
  have hb : runE P G cl fuel c (argsS args .H .leaf) H ≠ .bad := fun e => by rw [e] at h; cases h
  refine ⟨h3, runE_run hcl hok hm hfn hc h2 (by rw [lenR_eq] at h1; exact Nat.le_of_ble_eq_true h1) ht hg hh hv hb (R := fun e W' => ∃ v, e = .returned v ∧ ∃ σ, Stp ρ σ H H' W W' ∧ Held σ H' W') fun e a' W' he => ?_⟩
  have fin : ∀ t' H1, (resS P fn t' H1).map (·.2) = some H' → Left [] ρ H W fn.ntmps t' H1 a' W' → a'.defers = [] ∧ ∃ v, (results fn a'.tmps).run P W' = .ok v W' ∧ ∃ u, Ending.returned v = .returned u ∧ ∃ σ, Stp ρ σ H H' W W' ∧ Held σ H' W' := fun t' H1 hr hl => by
    obtain ⟨σ, s1, s2, s3⟩ := hl.ex
    cases hq : resS P fn t' H1 with
    | none => rw [hq] at hr; cases hr
    | some q =>
      obtain ⟨s, H2⟩ := q
      rw [hq] at hr
      simp only [Option.map_some, Option.some.injEq] at hr
      subst hr
      obtain ⟨rfl, v, hv, hrun⟩ := resS_run s2 s3 hq
      exact ⟨s2.defers, v, hrun, v, rfl, σ, s1, s3⟩
  split at h
  · next t' H1 hd =>
    rw [hd] at he
    obtain ⟨rfl, hl⟩ := he
    exact fin t' H1 h hl
  · next t' H1 hd =>
    rw [hd] at he
    obtain ⟨rfl, hl⟩ := he
    exact fin t' H1 h hl
  · cases h
theorem runD_run (hcl : ∀ f args H s H', cl f args H = some (s, H') → Sub H H') (hok : ClOk P G cl) (hm : P.follows .mixedOrders = true) (fuel N : Nat) {Q : Exit → Act → World → Prop} : ∀ (c : Code), dstOk N c = true → ∀ t H ρ a W t' H1 g l b, H.Tidy → GlobsH G ρ H → FrR [] ρ N t a → Held ρ H W → runD P G cl fuel c t H = some (t', H1, g, l, b) →
    (∀ σ a' W' vs, Stp ρ σ H H1 W W' → Sub H H1 → Held σ H1 W' → VRs σ l vs → FrR [{ target := .fn (.func g) vs.toArray, args := #[] }] σ N t' a' → dstOk N b = true → b.wp P Q a' W') → c.wp P Q a W := by
  intro c
  induction c with
  | seq x y _ ih =>
    intro hd t H ρ a W t' H1 g l b ht hg hf hh h hQ
    have hd' : (dstOk N x && dstOk N y) = true := hd
    rw [Bool.and_eq_true] at hd'
    unfold runD at h
    refine wp_seq ?_
    split at h
    · next d f l1 hdef =>
      simp only [Option.some.injEq, Prod.mk.injEq] at h
      obtain ⟨rfl, rfl, rfl, rfl, rfl⟩ := h
      cases x <;> try (cases hdef; done)
      next id ops draw _ =>
      have hdef : defOf ops draw = some (d, f, l1) := hdef
      have hdx : (ops.toList.all fun o => match o.dst with
        | some d => Nat.blt d N
        | none => true) = true := hd'.1
      have hdN : d < N := by
        obtain ⟨o, ho, hod⟩ := defOf_mem hdef
        rw [List.all_eq_true] at hdx
        have := hdx o ho
        rw [hod] at this
        exact Nat.blt_eq.mp this
      exact defOf_run hdef hdN hg.globs hf fun a' vs hv hf' => hQ ρ a' W vs (Stp.refl hh.fresh) (Sub.refl _) hh hv hf' hd'.2
    · have hb : den P G cl fuel x t H ≠ .bad := fun e => by rw [e] at h; cases h
      have h1 := den_run (D := []) hcl hok hm fuel N x hd'.1 t H ρ a W ht hg hf hh hb
      have h2 := den_sub (P := P) (G := G) hcl fuel x t H
      refine wp_mono h1 fun e a' W' he => ?_
      split at h <;> try (cases h; done)
      next t1 H2 hd1 =>
      rw [hd1] at he h2
      obtain ⟨rfl, hl⟩ := he
      obtain ⟨σ, s1, s2, s3⟩ := hl.ex
      exact ih hd'.2 t1 H2 σ a' W' t' H1 g l b (h2.tidy ht) (hg.step s1) s2 s3 h fun τ a2 W2 vs k1 k2 k3 k4 k5 k6 => hQ τ a2 W2 vs (s1.trans k1) (Sub.trans (show Sub _ _ from h2) k2) k3 k4 k5 k6
  | _ => intros; first
    | (rename_i h _; cases h; done)
    | skip
theorem enterD_run (hcl : ∀ f args H s H', cl f args H = some (s, H') → Sub H H') (hok : ClOk P G cl) (hm : P.follows .mixedOrders = true) (fuel : Nat) : ClOk P G (enterD P G cl fuel) := by
  intro f args H s H' h ρ W vs ht hg hh hvs
  unfold enterD at h
  split at h <;> try (cases h; done)
  next fn hfn =>
  split at h <;> try (cases h; done)
  next c hc =>
  split at h <;> try (cases h; done)
  next h1 h2 =>
  have hfr : FrR [] ρ fn.ntmps (argsS args .H .leaf) { tmps := vs.toArray ++ Array.replicate (fn.ntmps - vs.toArray.size) undef, defers := [] } := FrR.enter hvs (by rw [lenR_eq] at h1; exact Nat.le_of_ble_eq_true h1)
  refine calls_of_wp_defers hfn hc ?_
  split at h <;> try (cases h; done)
  next t' H1 g l b hr =>
  refine runD_run hcl hok hm fuel fn.ntmps c h2 _ H ρ _ W t' H1 g l b ht hg hfr hh hr fun σ a' W' us s1 s2 s3 s4 s5 s6 => ?_
  have hb : den P G cl fuel b t' H1 ≠ .bad := fun e => by rw [e] at h; cases h
  have h3 := den_sub (P := P) (G := G) hcl fuel b t' H1
  refine wp_mono (den_run hcl hok hm fuel fn.ntmps b s6 _ H1 σ _ W' (s2.tidy ht) (hg.step s1) s5 s3 hb) fun e a2 W2 he => ?_
  have fin : ∀ t2 H2, (match endD P G cl fuel g l H2 with
      | some H3 => resS P fn t2 H3
      | none => none) = some (s, H') → Sub H1 H2 → Left [{ target := .fn (.func g) us.toArray, args := #[] }] σ H1 W' fn.ntmps t2 H2 a2 W2 → Leaves P fn a2.tmps (fun e W' => ∃ v, e = .returned v ∧ Good ρ H W s H' v W') a2.defers .returning W2 := fun t2 H2 hr2 hsub hl => by
    obtain ⟨τ, k1, k2, k3⟩ := hl.ex
    split at hr2 <;> try (cases hr2; done)
    next H3 hE =>
    have hus : VRs τ l us := s4.mono (k1.le s3.fresh)
    obtain ⟨hen, hE2⟩ := endD_run hcl hok hm hE (hsub.tidy (s2.tidy ht)) ((hg.step s1).step k1) k3 hus
    rw [k2.defers]
    refine leaves_cons (by simp) (f := g) (args := us.toArray) ?_ ?_
    · show (callFunc g (#[] ++ us.toArray)).run P W2 = _
      rw [Array.empty_append]
      exact enters_run hen _
    · refine hE2.mono fun e u W3 ⟨hu, v, he, υ, m1, m2⟩ => ?_
      subst hu he
      have hf3 := k2.mono (m1.le k3.fresh)
      obtain ⟨rfl, v2, hv2, hrun⟩ := resS_run hf3 m2 hr2
      exact ⟨v2, hrun, v2, rfl, υ, (s1.trans k1).trans m1, hv2, m2⟩
  split at h
  · next t2 H2 hd =>
    rw [hd] at he h3
    obtain ⟨rfl, hl⟩ := he
    exact fin t2 H2 h h3 hl
  · next t2 H2 hd =>
    rw [hd] at he h3
    obtain ⟨rfl, hl⟩ := he
    exact fin t2 H2 h h3 hl
  · cases h
/-- an entry is right if the executor says so: a function with one deferred closure -/
theorem EntOk.ofD {gl : List (List SVal)} {e : Ent} {orc : FuncId → List SVal → Hp → Option Out} {fuel d : Nat} (ho : OrcOk P G orc) (hm : P.follows .mixedOrders = true) (hk : keysOk (gl.length + e.frag.length) e.outs = true)
    (h : (enterD P G (clD P G orc fuel d) fuel e.f e.args (fragH (gl ++ e.frag))).map (fun r => (r.1, e.outs.map fun p => r.2.at p.1)) = some (e.s, e.outs.map (·.2))) : EntOk P G gl e := by
  refine ⟨enterD P G (clD P G orc fuel d) fuel, enterD_run (clD_sub ho fuel d) (clD_run ho hm fuel d) hm fuel, hk, ?_⟩
  cases hr : enterD P G (clD P G orc fuel d) fuel e.f e.args (fragH (gl ++ e.frag)) with
  | none => rw [hr] at h; cases h
  | some r =>
    rw [hr] at h
    simp only [Option.map_some, Option.some.injEq, Prod.mk.injEq] at h
    refine ⟨r.2, by rw [← h.1], fun j k o hj => ?_⟩
    have h2 := congrArg (fun l => l[j]?) h.2
    simp only [List.getElem?_map, hj, Option.map_some, Option.some.injEq] at h2
    exact h2
end
end Go.Proofs.YtjflmmipjeangaaGreatDoor.Sx
end
