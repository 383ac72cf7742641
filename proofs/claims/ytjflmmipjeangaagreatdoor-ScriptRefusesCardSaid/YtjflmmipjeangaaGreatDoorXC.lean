/-
  Chapter 62: several texts in one (SymLk, SymR, SymQ, SymT, SymU, SymV).
-/
import Derived.Test.YtjflmmipjeangaaGreatDoorXB
/-
  The executor: blocks that are locked for the time of a call.
-/
section
set_option linter.unusedVariables false
set_option linter.unusedSimpArgs false
namespace Go.Proofs.YtjflmmipjeangaaGreatDoor.Sx
open Go.RowKit

/-- the blocks through these slots, all of them cells -/
noncomputable def lockL (t : Sl) (H : Hp) (ds : List Tmp) : Option (List Pos) :=
  List.rec (some []) (fun d _ ih => match gt unset (Pos.of d) t, ih with
    | .ptr b _, some bs => match H.at b with
      | .cells _ _ _ => some (b :: bs)
      | _ => none
    | _, _ => none) ds
/-- these blocks read only -/
noncomputable def lockH (H : Hp) (bs : List Pos) : Hp := List.rec H (fun b _ ih => match H.at b with
  | .cells c _ _ => ih.set b (.ro c)
  | _ => ih) bs
/-- these blocks as they were -/
noncomputable def unlockH (H : Hp) (bs : List Pos) (E : Hp) : Hp := List.rec E (fun b _ ih => ih.set b (H.at b)) bs
theorem lockL_spec {t : Sl} {H : Hp} : ∀ {ds : List Tmp} {bs : List Pos}, lockL t H ds = some bs → (∀ d ∈ ds, ∀ b off, gt unset (Pos.of d) t = .ptr b off → b ∈ bs) ∧ ∀ b ∈ bs, ∃ c e g, H.at b = .cells c e g
  | [], bs, h => by
    have h' : some ([] : List Pos) = some bs := h
    simp only [Option.some.injEq] at h'
    subst h'
    exact ⟨fun d hd => (by cases hd), fun b hb => (by cases hb)⟩
  | d :: ds, bs, h => by
    have h' : (match gt unset (Pos.of d) t, lockL t H ds with
    | .ptr b _, some bs => match H.at b with
      | .cells _ _ _ => some (b :: bs)
      | _ => none
    | _, _ => none) = some bs := h
    split at h' <;> try (cases h'; done)
    next b off bs' h1 h2 =>
    split at h' <;> try (cases h'; done)
    next c e g hb =>
    simp only [Option.some.injEq] at h'
    subst h'
    obtain ⟨i1, i2⟩ := lockL_spec h2
    refine ⟨fun d' hd' b' off' he => ?_, fun b' hb' => ?_⟩
    · rcases List.mem_cons.1 hd' with rfl | hd'
      · rw [h1] at he
        simp only [SVal.ptr.injEq] at he
        rw [← he.1]
        exact List.mem_cons_self
      · exact List.mem_cons_of_mem _ (i1 d' hd' b' off' he)
    · rcases List.mem_cons.1 hb' with rfl | hb'
      · exact ⟨c, e, g, hb⟩
      · exact i2 b' hb'
theorem lockH_next (H : Hp) : ∀ bs, (lockH H bs).next = H.next ∧ (lockH H bs).low = H.low
  | [] => ⟨rfl, rfl⟩
  | b :: bs => by
    have h : lockH H (b :: bs) = (match H.at b with
      | .cells c _ _ => (lockH H bs).set b (.ro c)
      | _ => lockH H bs) := rfl
    rw [h]
    split
    · exact lockH_next H bs
    · exact lockH_next H bs
theorem lockH_out (H : Hp) (b : Pos) : ∀ bs, b ∉ bs → (lockH H bs).at b = H.at b
  | [], _ => rfl
  | b' :: bs, hb => by
    have h : lockH H (b' :: bs) = (match H.at b' with
      | .cells c _ _ => (lockH H bs).set b' (.ro c)
      | _ => lockH H bs) := rfl
    rw [h]
    have h1 : b ≠ b' := fun e => hb (by rw [e]; exact List.mem_cons_self)
    have h2 : b ∉ bs := fun e => hb (List.mem_cons_of_mem _ e)
    split
    · rw [Hp.set_other _ _ h1]; exact lockH_out H b bs h2
    · exact lockH_out H b bs h2
theorem lockH_in (H : Hp) {b : Pos} {c : List SVal} {e : TypeId} {g : Option Nat} (hc : H.at b = .cells c e g) : ∀ bs, b ∈ bs → (lockH H bs).at b = .ro c
  | [], hb => by cases hb
  | b' :: bs, hb => by
    have h : lockH H (b' :: bs) = (match H.at b' with
      | .cells c _ _ => (lockH H bs).set b' (.ro c)
      | _ => lockH H bs) := rfl
    rw [h]
    by_cases he : b = b'
    · subst he
      rw [hc]
      exact Hp.set_same _ _ _
    · have h2 : b ∈ bs := by
        rcases List.mem_cons.1 hb with h | h
        · exact absurd h he
        · exact h
      split
      · rw [Hp.set_other _ _ he]; exact lockH_in H hc bs h2
      · exact lockH_in H hc bs h2
theorem unlock_next (H E : Hp) : ∀ bs, (unlockH H bs E).next = E.next ∧ (unlockH H bs E).low = E.low
  | [] => ⟨rfl, rfl⟩
  | b :: bs => unlock_next H E bs
theorem unlock_out (H E : Hp) (b : Pos) : ∀ bs, b ∉ bs → (unlockH H bs E).at b = E.at b
  | [], _ => rfl
  | b' :: bs, hb => by
    have h : unlockH H (b' :: bs) E = (unlockH H bs E).set b' (H.at b') := rfl
    rw [h, Hp.set_other _ _ (fun e => hb (by rw [e]; exact List.mem_cons_self))]
    exact unlock_out H E b bs fun e => hb (List.mem_cons_of_mem _ e)
theorem unlock_in (H E : Hp) (b : Pos) : ∀ bs, b ∈ bs → (unlockH H bs E).at b = H.at b
  | [], hb => by cases hb
  | b' :: bs, hb => by
    have h : unlockH H (b' :: bs) E = (unlockH H bs E).set b' (H.at b') := rfl
    rw [h]
    by_cases he : b = b'
    · subst he; exact Hp.set_same _ _ _
    · rw [Hp.set_other _ _ he]
      rcases List.mem_cons.1 hb with h | h
      · exact absurd h he
      · exact unlock_in H E b bs h
section
variable {ρ σ : Pl} {H E : Hp} {W W' : World} {bs : List Pos}
theorem lock_still (hbs : ∀ b ∈ bs, ∃ c e g, H.at b = .cells c e g) {b : Pos} (h : (H.at b).still = true) : b ∉ bs := fun hb => by
  obtain ⟨c, e, g, he⟩ := hbs b hb
  rw [he] at h
  cases h
theorem lock_held (hbs : ∀ b ∈ bs, ∃ c e g, H.at b = .cells c e g) (h : Held ρ H W) : Held ρ (lockH H bs) W := by
  have halive : ∀ b, (lockH H bs).at b ≠ .gone → H.at b ≠ .gone := fun b hg => by
    by_cases hb : b ∈ bs
    · obtain ⟨c, e, g, he⟩ := hbs b hb
      rw [he]; exact fun e => by cases e
    · rwa [lockH_out H b bs hb] at hg
  refine ⟨fun b hb => h.fresh b (by rwa [(lockH_next H bs).1] at hb), h.lt, fun b r k hr => ?_, fun b b' r k r' k' hne h1 h2 g1 g2 => h.apart b b' r k r' k' hne h1 h2 (halive b g1) (halive b' g2)⟩
  by_cases hb : b ∈ bs
  · obtain ⟨c, e, g, he⟩ := hbs b hb
    rw [lockH_in H he bs hb]
    have hx := h.obj b r k hr
    rw [he] at hx
    obtain ⟨C, h1, h2, h3, _⟩ := hx
    exact ⟨C, e, _, h1, h2, h3⟩
  · rw [lockH_out H b bs hb]; exact h.obj b r k hr
theorem lock_tidy (hbs : ∀ b ∈ bs, ∃ c e g, H.at b = .cells c e g) (h : H.Tidy) : (lockH H bs).Tidy := fun b hb => by
  rw [(lockH_next H bs).1] at hb
  have hg := h b hb
  rw [lockH_out H b bs (lock_still hbs (by rw [hg]; rfl))]
  exact hg
theorem lock_safe (hbs : ∀ b ∈ bs, ∃ c e g, H.at b = .cells c e g) {r : Nat} (h : Safe ρ H r) : Safe ρ (lockH H bs) r := fun b k hr hl => by
  by_cases hb : b ∈ bs
  · obtain ⟨c, e, g, he⟩ := hbs b hb
    rw [lockH_in H he bs hb]; rfl
  · rw [lockH_out H b bs hb]
    exact h b k hr (by rwa [(lockH_next H bs).2] at hl)
/-- the call is over -/
theorem unlock_run (hbs : ∀ b ∈ bs, ∃ c e g, H.at b = .cells c e g) (ht : H.Tidy) (h : Held ρ H W) (s : Stp ρ σ (lockH H bs) E W W') (hE : Held σ E W') :
    Stp ρ σ H (unlockH H bs E) W W' ∧ Held σ (unlockH H bs E) W' ∧ ∀ b ∈ bs, ∀ r k, ρ b = some (r, k) → W'.heap[r]? = W.heap[r]? := by
  have hln := (lockH_next H bs).1
  have hll := (lockH_next H bs).2
  have hbn : ∀ b ∈ bs, b.nat < H.next.nat := fun b hb => Nat.lt_of_not_le fun hle => by
    obtain ⟨c, e, g, he⟩ := hbs b hb
    rw [ht b hle] at he; cases he
  have hworld : ∀ b ∈ bs, ∀ r k, ρ b = some (r, k) → W'.heap[r]? = W.heap[r]? := fun b hb r k hr => by
    obtain ⟨c, e, g, he⟩ := hbs b hb
    refine s.frame r (h.lt b r k hr) fun b0 k0 h0 hl0 => ?_
    by_cases hbb : b0 = b
    · subst hbb; rw [lockH_in H he bs hb]; rfl
    · have hg : H.at b0 = .gone := Classical.byContradiction fun hg => h.apart b0 b r k0 r k hbb h0 hr hg (by rw [he]; exact fun e => by cases e) rfl
      rw [lockH_out H b0 bs (lock_still hbs (by rw [hg]; rfl)), hg]; rfl
  have hEl : ∀ b ∈ bs, E.at b ≠ .gone := fun b hb e => by
    obtain ⟨c, e', g, he⟩ := hbs b hb
    have h1 := lockH_in H he bs hb
    have h2 := s.dead b (by rw [hln]; exact hbn b hb) (by rw [h1]; rfl)
    rw [e, h1] at h2
    cases h2
  refine ⟨⟨fun b hb => s.agree b (by rw [hln]; exact hb), (unlock_next H E bs).2.trans (s.low.trans hll), by rw [(unlock_next H E bs).1, ← hln]; exact s.next, fun b h1 h2 => ?_, fun b h1 h2 => ?_, s.os, s.tape, s.output, s.size, fun r hr hs => s.frame r hr (lock_safe hbs hs), fun b r k hb hr => ?_⟩, ⟨fun b hb => ?_, hE.lt, fun b r k hr => ?_, fun b b' r k r' k' hne h1 h2 g1 g2 => ?_⟩, hworld⟩
  · by_cases hb : b ∈ bs
    · exact unlock_in H E b bs hb
    · rw [unlock_out H E b bs hb, s.old b (by rw [hll]; exact h1) (by rw [hln]; exact h2)]
      exact lockH_out H b bs hb
  · have hb := lock_still hbs h2
    have h3 := lockH_out H b bs hb
    rw [unlock_out H E b bs hb, s.dead b (by rw [hln]; exact h1) (by rw [h3]; exact h2)]
    exact h3
  · rcases s.born b r k (by rw [hln]; exact hb) hr with h1 | h1
    · exact .inl h1
    · exact .inr fun h2 => h1 (lock_safe hbs h2)
  · exact hE.fresh b (by rwa [(unlock_next H E bs).1] at hb)
  · by_cases hb : b ∈ bs
    · rw [unlock_in H E b bs hb]
      have hr' : ρ b = some (r, k) := by rw [← s.agree b (by rw [hln]; exact hbn b hb)]; exact hr
      exact ((h.obj b r k hr').mono (s.le fun b hb => h.fresh b (by rwa [hln] at hb))).world (hworld b hb r k hr')
    · rw [unlock_out H E b bs hb]; exact hE.obj b r k hr
  · refine hE.apart b b' r k r' k' hne h1 h2 ?_ ?_
    · by_cases hb : b ∈ bs
      · exact hEl b hb
      · rwa [unlock_out H E b bs hb] at g1
    · by_cases hb : b' ∈ bs
      · exact hEl b' hb
      · rwa [unlock_out H E b' bs hb] at g2
theorem unlock_sub (hbs : ∀ b ∈ bs, ∃ c e g, H.at b = .cells c e g) (s : Sub (lockH H bs) E) : Sub H (unlockH H bs E) := by
  have hln := (lockH_next H bs).1
  have hll := (lockH_next H bs).2
  refine ⟨(unlock_next H E bs).2.trans (s.low.trans hll), by rw [(unlock_next H E bs).1, ← hln]; exact s.next, fun b h1 h2 => ?_, fun b h1 h2 => ?_, fun t b hb => ?_⟩
  · by_cases hb : b ∈ bs
    · exact unlock_in H E b bs hb
    · rw [unlock_out H E b bs hb, s.old b (by rw [hll]; exact h1) (by rw [hln]; exact h2)]
      exact lockH_out H b bs hb
  · have hb := lock_still hbs h2
    have h3 := lockH_out H b bs hb
    rw [unlock_out H E b bs hb, s.dead b (by rw [hln]; exact h1) (by rw [h3]; exact h2)]
    exact h3
  · rw [(unlock_next H E bs).1] at hb
    have hn := s.next
    rw [hln] at hn
    have hg := t b (by omega)
    rw [unlock_out H E b bs (lock_still hbs (by rw [hg]; rfl))]
    exact s.tidy (lock_tidy hbs t) b hb
end
end Go.Proofs.YtjflmmipjeangaaGreatDoor.Sx
end
/-
  The executor, regions: the function; classes of operations; when a region may be carried out in its text's order.
-/
section
set_option linter.unusedVariables false
set_option linter.unusedSimpArgs false
namespace Go.Proofs.YtjflmmipjeangaaGreatDoor.Sx
open Go.RowKit

/-- how an operation is carried out where the order is drawn: from its operands alone; as one that makes one block; writing nothing that was there; as one that all others wait for or that waits for them -/
inductive Cls where
  | pure | new | read | quiet | bar
  /-- a load that a later store may overtake -/
  | look
  /-- a store that may overtake loads through these slots -/
  | put (ds : List Tmp)
def Cls.isBar : Cls → Bool
  | .bar | .put _ => true
  | _ => false
def Cls.heapy : Cls → Bool
  | .pure | .new | .look => false
  | _ => true
def isCall : Op → Bool
  | .call { callee := .builtin _, .. } => false
  | .call _ => true
  | _ => false
def kindOf : Op → Cls
  | .alloc _ | .box .. | .buildSlice .. | .makeSlice .. | .makeMap .. => .new
  | .load .. | .lookup .. => .read
  | .convert .. => .quiet
  | .call { callee := .builtin .len, .. } | .call { callee := .builtin .min, .. } | .call { callee := .builtin .max, .. } => .pure
  | .call { callee := .builtin _, .. } => .bar
  | .call _ => .quiet
  | .move _ | .assign _ | .pick .. | .build .. | .nilCheck _ | .binOp .. | .unOp .. | .makeInterface .. | .makeFunc .. | .slice .. | .fieldAddr .. | .field .. | .indexAddr .. | .index .. | .extract .. => .pure
  | _ => .bar
/-- for whom an operation waits, as bits -/
def rowM (acc : List Nat) (l : List Edge) : Nat :=
  match l with
  | [] => 0
  | e :: l => match Region.binds .any e with
    | true => (1 <<< e.on ||| acc.getD e.on 0) ||| rowM acc l
    | false => rowM acc l
def masksL : List Oper → List Nat → List Nat
  | [], acc => acc
  | o :: rest, acc => masksL rest (acc ++ [rowM acc o.after.toList])
/-- i waits for j -/
inductive Pre (ops : Array Oper) : Nat → Nat → Prop
  | edge {i : Nat} {o : Oper} {e : Edge} (ho : ops[i]? = some o) (he : e ∈ o.after) (hb : Region.binds .any e = true) : Pre ops i e.on
  | step {i j : Nat} {o : Oper} {e : Edge} (ho : ops[i]? = some o) (he : e ∈ o.after) (hb : Region.binds .any e = true) (h : Pre ops e.on j) : Pre ops i j
theorem rowM_spec {ops : Array Oper} {acc : List Nat} (hacc : ∀ i j, (acc.getD i 0).testBit j = true → Pre ops i j) {i : Nat} {o : Oper} (ho : ops[i]? = some o) : ∀ (l : List Edge), (∀ e ∈ l, e ∈ o.after) → ∀ j, (rowM acc l).testBit j = true → Pre ops i j
  | [], _, j, h => by simp [rowM] at h
  | e :: l, hl, j, h => by
    unfold rowM at h
    split at h
    · next hb =>
      rw [Nat.testBit_or, Nat.testBit_or, Bool.or_eq_true, Bool.or_eq_true] at h
      rcases h with (h | h) | h
      · rw [Nat.testBit_shiftLeft] at h
        simp only [Bool.and_eq_true, decide_eq_true_eq] at h
        have h1 := h.2
        have : j = e.on := by
          have h2 := Nat.testBit_one_eq_true_iff_self_eq_zero.1 h1
          omega
        subst this
        exact .edge ho (hl e (by simp)) hb
      · exact .step ho (hl e (by simp)) hb (hacc _ _ h)
      · exact rowM_spec hacc ho l (fun e he => hl e (by simp [he])) j h
    · exact rowM_spec hacc ho l (fun e he => hl e (by simp [he])) j h
theorem masksL_spec {ops : Array Oper} : ∀ (l : List Oper) (acc : List Nat), (∀ i j, (acc.getD i 0).testBit j = true → Pre ops i j) → (∀ k o, l[k]? = some o → ops[acc.length + k]? = some o) → ∀ i j, ((masksL l acc).getD i 0).testBit j = true → Pre ops i j
  | [], acc, h, _, i, j, hij => h i j hij
  | o :: rest, acc, h, hl, i, j, hij => by
    unfold masksL at hij
    refine masksL_spec rest (acc ++ [rowM acc o.after.toList]) ?_ ?_ i j hij
    · intro i j hb
      by_cases hi : i < acc.length
      · rw [List.getD_eq_getElem?_getD, List.getElem?_append_left hi, ← List.getD_eq_getElem?_getD] at hb
        exact h i j hb
      · by_cases hi2 : i = acc.length
        · subst hi2
          rw [List.getD_eq_getElem?_getD, List.getElem?_append_right (Nat.le_refl _)] at hb
          simp only [Nat.sub_self, List.getElem?_cons_zero, Option.getD_some] at hb
          have ho := hl 0 o rfl
          simp only [Nat.add_zero] at ho
          exact rowM_spec h ho _ (fun e he => by simpa using he) j hb
        · rw [List.getD_eq_getElem?_getD, List.getElem?_eq_none (by simp; omega)] at hb
          simp at hb
    · intro k o' hk
      have := hl (k + 1) o' (by simpa using hk)
      rw [List.length_append, List.length_singleton, Nat.add_assoc, Nat.add_comm 1 k]
      exact this
def touch (d : Option Tmp) (l : List Tmp) : Bool :=
  match d with
  | some d => l.contains d
  | none => false
def clash (d e : Option Tmp) : Bool :=
  match d, e with
  | some d, some e => Nat.beq d e
  | _, _ => false
def ordB (ms : List Nat) (i j : Nat) : Bool := (ms.getD i 0).testBit j
def isStore : Op → Bool
  | .store .. => true
  | _ => false
def Cls.isNew : Cls → Bool
  | .new => true
  | _ => false
/-- the slot through which such a load reads -/
def lookSlot (p : Oper × Cls) : Option Tmp :=
  match p.2, p.1.op with
  | .look, .load _ (.tmp d) => some d
  | _, _ => none
def Cls.isLook : Cls → Bool
  | .look => true
  | _ => false
def putHas (c : Cls) (d : Option Tmp) : Bool :=
  match c, d with
  | .put ds, some d => ds.contains d
  | _, _ => false
def oneOk (p : Oper × Cls) : Bool :=
  match p.2 with
  | .look => (lookSlot p).isSome && !clash (lookSlot p) p.1.dst
  | .put _ => isStore p.1.op || isCall p.1.op
  | .pure => still p.1.op
  | .read => still p.1.op
  | _ => true
def pairOk (ops : Array Oper) (ms : List Nat) (i j : Nat) (p q : Oper × Cls) : Bool :=
  (!((p.2.isBar && q.2.heapy) || (q.2.isBar && p.2.heapy) || touch q.1.dst (p.1.looksAt ops) || touch p.1.dst (q.1.looksAt ops) || (p.2.isBar && q.2.isNew && !isStore p.1.op)) || ordB ms i j) && !clash p.1.dst q.1.dst && (!(p.2.isBar && q.2.isLook) || ordB ms i j || putHas p.2 (lookSlot q)) && !(q.2.isBar && p.2.isLook) && !clash p.1.dst (lookSlot q)
def pairsOk (ops : Array Oper) (ms : List Nat) (l : List ((Oper × Cls) × Nat)) : Bool :=
  l.all fun p => oneOk p.1 && (p.1.1.after.toList.all fun e => !Region.binds .any e || Nat.blt e.on p.2) && l.all fun q => !Nat.blt q.2 p.2 || pairOk ops ms p.2 q.2 p.1 q.1
/-- the class of each operation -/
def clsOf (ms : List Nat) (l : List (Oper × Nat)) (p : Oper × Nat) : Cls :=
  match kindOf p.1.op with
  | .bar => match isStore p.1.op with
    | true => match l.filterMap fun q => match q.1.op with
        | .load _ (.tmp d) => if Nat.blt q.2 p.2 && !ordB ms p.2 q.2 then some d else none
        | _ => none with
      | [] => .bar
      | ds => .put ds
    | false => .bar
  | .read => match (match p.1.op with
      | .load _ (.tmp _) => l.any fun q => isStore q.1.op && Nat.blt p.2 q.2 && !ordB ms q.2 p.2
      | _ => false) with
    | true => .look
    | false => .read
  | .quiet => match isCall p.1.op && l.all fun q => Nat.beq q.2 p.2 || (if Nat.blt q.2 p.2 then !((kindOf q.1.op).heapy || (kindOf q.1.op).isNew) || ordB ms p.2 q.2 else !(kindOf q.1.op).heapy || ordB ms q.2 p.2) with
    | true => .bar
    | false => .quiet
  | c => c
/-- a load through a slot -/
def tmpLoad : Op → Option Tmp
  | .load _ (.tmp d) => some d
  | _ => none
/-- the class of each operation, where calls may write: loads that a later call may overtake are told from the others -/
def clsC (ms : List Nat) (l : List (Oper × Nat)) (p : Oper × Nat) : Cls :=
  match kindOf p.1.op with
  | .read => match (match tmpLoad p.1.op with
      | some _ => l.any fun q => (isStore q.1.op || isCall q.1.op) && Nat.blt p.2 q.2 && !ordB ms q.2 p.2
      | none => false) with
    | true => .look
    | false => .read
  | .quiet => match isCall p.1.op && l.all fun q => Nat.beq q.2 p.2 || (if Nat.blt q.2 p.2 then (tmpLoad q.1.op).isSome || !((kindOf q.1.op).heapy || (kindOf q.1.op).isNew) || ordB ms p.2 q.2 else !(kindOf q.1.op).heapy || ordB ms q.2 p.2) with
    | true => match l.filterMap fun q => if Nat.blt q.2 p.2 && !ordB ms p.2 q.2 then tmpLoad q.1.op else none with
      | [] => .bar
      | ds => .put ds
    | false => .quiet
  | _ => clsOf ms l p
/-- the operations with their classes, if the region may be carried out in its text's order -/
def planW (f : List Nat → List (Oper × Nat) → Oper × Nat → Cls) (ops : Array Oper) : Option (List (Oper × Cls)) :=
  let ms := masksL ops.toList []
  let cs := ops.toList.zipIdx.map fun p => (p.1, f ms ops.toList.zipIdx p)
  match pairsOk ops ms cs.zipIdx && Region.noSelect ops with
  | true => some cs
  | false => none
def planR (ops : Array Oper) (draw : Bool) : Option (List (Oper × Cls)) :=
  match draw with
  | false => some (ops.toList.map fun o => (o, .bar))
  | true => planW clsOf ops
structure PlanOk (ops : Array Oper) (l : List (Oper × Cls)) : Prop where
  len : l.length = ops.size
  at_ : ∀ (i : Nat) (o : Oper), ops[i]? = some o → ∃ c, l[i]? = some (o, c)
  back : ∀ (i : Nat) (o : Oper) (c : Cls), l[i]? = some (o, c) → ops[i]? = some o
  edges : ∀ (i : Nat) (o : Oper) (e : Edge), ops[i]? = some o → e ∈ o.after → Region.binds .any e = true → e.on < i
  heap : ∀ (i j : Nat) (p q : Oper × Cls), j < i → l[i]? = some p → l[j]? = some q → (p.2.isBar = true ∧ q.2.heapy = true ∨ q.2.isBar = true ∧ p.2.heapy = true) → Pre ops i j
  reads : ∀ (i j : Nat) (p q : Oper × Cls) (d : Tmp), j < i → l[i]? = some p → l[j]? = some q → q.1.dst = some d → d ∈ p.1.looksAt ops → Pre ops i j
  writes : ∀ (i j : Nat) (p q : Oper × Cls) (d : Tmp), j < i → l[i]? = some p → l[j]? = some q → p.1.dst = some d → d ∈ q.1.looksAt ops → Pre ops i j
  news : ∀ (i j : Nat) (p q : Oper × Cls), j < i → l[i]? = some p → l[j]? = some q → p.2.isBar = true → q.2.isNew = true → isStore p.1.op = true ∨ Pre ops i j
  lookOp : ∀ (j : Nat) (q : Oper × Cls), l[j]? = some q → q.2 = .look → ∃ T d, q.1.op = .load T (.tmp d) ∧ (∀ (k : Nat) (p : Oper × Cls), j ≤ k → l[k]? = some p → p.1.dst ≠ some d) ∧ ∀ (k : Nat) (p : Oper × Cls), k < j → l[k]? = some p → p.2.isBar = false
  lookBar : ∀ (i j : Nat) (p q : Oper × Cls) (T : TypeId) (d : Tmp), j < i → l[i]? = some p → l[j]? = some q → q.2 = .look → q.1.op = .load T (.tmp d) → p.2.isBar = true → Pre ops i j ∨ ∃ ds, p.2 = .put ds ∧ d ∈ ds
  same : ∀ (i : Nat) (p : Oper × Cls), l[i]? = some p → p.2 = .pure ∨ p.2 = .read → still p.1.op = true
  putOp : ∀ (i : Nat) (p : Oper × Cls) (ds : List Tmp), l[i]? = some p → p.2 = .put ds → isStore p.1.op = true ∨ isCall p.1.op = true
  one : ∀ (i j : Nat) (p q : Oper × Cls) (d : Tmp), j < i → l[i]? = some p → l[j]? = some q → p.1.dst = some d → q.1.dst = some d → False
theorem planW_ok {f : List Nat → List (Oper × Nat) → Oper × Nat → Cls} {ops : Array Oper} {l : List (Oper × Cls)} (h : planW f ops = some l) : PlanOk ops l := by
  unfold planW at h
  simp only at h
  split at h <;> try (cases h; done)
  next hp =>
  simp only [Option.some.injEq] at h
  subst h
  rw [Bool.and_eq_true] at hp
  have hp := hp.1
  have hat : ∀ i, (ops.toList.zipIdx.map fun p => (p.1, f (masksL ops.toList []) ops.toList.zipIdx p))[i]? = (ops[i]?).map fun o => (o, f (masksL ops.toList []) ops.toList.zipIdx (o, i)) := fun i => by
    rw [List.getElem?_map, List.getElem?_zipIdx, Array.getElem?_toList]
    cases ops[i]? <;> simp
  have hms : ∀ i j, ordB (masksL ops.toList []) i j = true → Pre ops i j := fun i j hb =>
    masksL_spec ops.toList [] (fun i j h => by simp at h) (fun k o hk => by simpa using hk) i j hb
  generalize hcs : (ops.toList.zipIdx.map fun p => (p.1, f (masksL ops.toList []) ops.toList.zipIdx p)) = cs at hp hat ⊢
  unfold pairsOk at hp
  rw [List.all_eq_true] at hp
  have hpair : ∀ i j p q, j < i → cs[i]? = some p → cs[j]? = some q → pairOk ops (masksL ops.toList []) i j p q = true := fun i j p q hlt hi hj => by
    have h1 := hp (p, i) (by rw [List.mem_iff_getElem?]; exact ⟨i, by rw [List.getElem?_zipIdx, hi]; simp⟩)
    rw [Bool.and_eq_true, Bool.and_eq_true, List.all_eq_true, List.all_eq_true] at h1
    have h2 := h1.2 (q, j) (by rw [List.mem_iff_getElem?]; exact ⟨j, by rw [List.getElem?_zipIdx, hj]; simp⟩)
    rw [Nat.blt_eq.mpr hlt] at h2
    simpa using h2
  have hord : ∀ i j p q, j < i → cs[i]? = some p → cs[j]? = some q → ((p.2.isBar && q.2.heapy) || (q.2.isBar && p.2.heapy) || touch q.1.dst (p.1.looksAt ops) || touch p.1.dst (q.1.looksAt ops) || (p.2.isBar && q.2.isNew && !isStore p.1.op)) = true → Pre ops i j := fun i j p q hlt hi hj hc => by
    have := hpair i j p q hlt hi hj
    unfold pairOk at this
    rw [hc] at this
    simp only [Bool.not_true, Bool.false_or, Bool.and_eq_true] at this
    exact hms i j this.1.1.1.1
  have htouch : ∀ (d : Tmp) (l : List Tmp), d ∈ l → touch (some d) l = true := fun d l hd => by simp [touch, hd]
  have hone : ∀ i p, cs[i]? = some p → oneOk p = true := fun i p hi => by
    have h1 := hp (p, i) (by rw [List.mem_iff_getElem?]; exact ⟨i, by rw [List.getElem?_zipIdx, hi]; simp⟩)
    rw [Bool.and_eq_true, Bool.and_eq_true] at h1
    exact h1.1.1
  refine ⟨?_, ?_, ?_, ?_, ?_, ?_, ?_, ?_, ?_, ?_, ?_, ?_, ?_⟩
  · rw [← hcs]; simp
  · intro i o ho; rw [hat i, ho]; exact ⟨_, rfl⟩
  · intro i o c hc
    rw [hat i] at hc
    cases ho : ops[i]? with
    | none => rw [ho] at hc; cases hc
    | some o' => rw [ho] at hc; simp only [Option.map_some, Option.some.injEq, Prod.mk.injEq] at hc; rw [hc.1]
  · intro i o e ho he hb
    have h1 := hp ((o, f (masksL ops.toList []) ops.toList.zipIdx (o, i)), i) (by rw [List.mem_iff_getElem?]; exact ⟨i, by rw [List.getElem?_zipIdx, hat i, ho]; simp⟩)
    rw [Bool.and_eq_true, Bool.and_eq_true, List.all_eq_true] at h1
    have h2 := h1.1.2 e (by simpa using he)
    rw [hb] at h2
    exact Nat.blt_eq.mp (by simpa using h2)
  · intro i j p q hlt hi hj hc
    refine hord i j p q hlt hi hj ?_
    rcases hc with ⟨h1, h2⟩ | ⟨h1, h2⟩ <;> simp [h1, h2]
  · intro i j p q d hlt hi hj hd hm
    exact hord i j p q hlt hi hj (by rw [hd, htouch d _ hm]; simp)
  · intro i j p q d hlt hi hj hd hm
    exact hord i j p q hlt hi hj (by rw [hd, htouch d _ hm]; simp)
  · intro i j p q hlt hi hj hb hn
    cases hs : isStore p.1.op with
    | true => exact .inl rfl
    | false => exact .inr (hord i j p q hlt hi hj (by rw [hb, hn, hs]; simp))
  · intro j q hj hq
    have h1 := hone j q hj
    unfold oneOk lookSlot at h1
    rw [hq] at h1
    simp only at h1
    have hex : ∃ T d, q.1.op = .load T (.tmp d) := by
      cases hop : q.1.op <;> rw [hop] at h1 <;> try (cases h1; done)
      next T x =>
      cases x <;> first | exact ⟨_, _, rfl⟩ | (cases h1; done)
    obtain ⟨T, d, hop⟩ := hex
    rw [hop] at h1
    have hls : lookSlot q = some d := by unfold lookSlot; rw [hq, hop]
    refine ⟨T, d, hop, fun k p hk hp hd => ?_, fun k p hk hp => ?_⟩
    · by_cases hkj : k = j
      · subst hkj
        rw [hj] at hp
        simp only [Option.some.injEq] at hp
        subst hp
        rw [hd] at h1
        simp [clash] at h1
      · have h2 := hpair k j p q (by omega) hp hj
        unfold pairOk at h2
        rw [hls, hd] at h2
        simp [clash] at h2
    · have h2 := hpair j k q p hk hj hp
      unfold pairOk at h2
      cases hb : p.2.isBar with
      | false => rfl
      | true =>
        have hl : q.2.isLook = true := by rw [hq]; rfl
        rw [hb, hl] at h2
        simp at h2
  · intro i j p q T d hlt hi hj hq hop hb
    have h2 := hpair i j p q hlt hi hj
    have hls : lookSlot q = some d := by unfold lookSlot; rw [hq, hop]
    have hl : q.2.isLook = true := by rw [hq]; rfl
    unfold pairOk at h2
    rw [hls, hl, hb] at h2
    simp only [Bool.and_eq_true, Bool.and_self, Bool.not_true, Bool.false_or, Bool.or_eq_true] at h2
    rcases h2.1.1.2 with h3 | h3
    · exact .inl (hms i j h3)
    · right
      unfold putHas at h3
      split at h3 <;> try (cases h3; done)
      next ds d' he hd =>
      simp only [Option.some.injEq] at hd
      subst hd
      exact ⟨ds, he, by simpa using h3⟩
  · intro i p hi hpd
    have h1 := hone i p hi
    unfold oneOk at h1
    rcases hpd with hpd | hpd <;> (rw [hpd] at h1; exact h1)
  · intro i p ds hi hpd
    have h1 := hone i p hi
    unfold oneOk at h1
    rw [hpd] at h1
    simpa using h1
  · intro i j p q d hlt hi hj hd hd'
    have := hpair i j p q hlt hi hj
    unfold pairOk at this
    rw [hd, hd'] at this
    simp [clash] at this
theorem planR_ok {ops : Array Oper} {l : List (Oper × Cls)} (h : planR ops true = some l) : PlanOk ops l := planW_ok h

section
variable (P : Program) (G : Gl) (cl : FuncId → List SVal → Hp → Out) (n0 : Nat) (ops : Array Oper)
/-- a store goes elsewhere than loads through these slots -/
noncomputable def putOk (o : Oper) (t : Sl) (ds : List Tmp) : Bool :=
  match o.op with
  | .store _ x _ => match ev G t x with
    | .ptr bt _ => ds.all fun d => match gt unset (Pos.of d) t with
      | .ptr b _ => !Nat.beq b.nat bt.nat
      | _ => false
    | _ => false
  | _ => false
/-- a load of what lay there when the region began -/
noncomputable def lookOld (o : Oper) (t : Sl) : Bool :=
  match o.op with
  | .load _ x => match ev G t x with
    | .ptr b _ => Nat.blt b.nat n0
    | _ => false
  | _ => false
/-- one operation of a class -/
noncomputable def xcls (c : Cls) (o : Oper) (t : Sl) (H : Hp) : Out :=
  match c with
  | .pure => match (prep P G cl o).run t ⟨H.next, H.low, .leaf⟩ with
    | some (s, _) => some (s, H)
    | none => none
  | .read => match (prep P G cl o).run t ⟨H.next, H.next.nat, H.tr⟩ with
    | some (s, _) => some (s, H)
    | none => none
  | .new => match (prep P G cl o).run t ⟨H.next, H.low, .leaf⟩ with
    | some (s, H') => some (s, ⟨H'.next, H.low, st .gone H.next (H'.at H.next) H.tr⟩)
    | none => none
  | .quiet => match (prep P G cl o).run t ⟨H.next, H.next.nat, H.tr⟩ with
    | some (s, H') => some (s, ⟨H'.next, H.low, H'.tr⟩)
    | none => none
  | .bar => (prep P G cl o).run t H
  | .look => match lookOld G n0 o t with
    | true => match (prep P G cl o).run t H with
      | some (s, _) => some (s, H)
      | none => none
    | false => none
  | .put ds => match isStore o.op with
    | true => match putOk G o t ds with
      | true => (prep P G cl o).run t H
      | false => none
    | false => match lockL t H ds with
      | some bs => match (prep P G cl o).run t (lockH H bs) with
        | some (s, E) => some (s, unlockH H bs E)
        | none => none
      | none => none
/-- the answer of an operation on which others hang -/
noncomputable def yieldS (t : Sl) (j : Nat) : Option Bool :=
  match (ops[j]?).bind (·.dst) with
  | some d => match gt unset (Pos.of d) t with
    | .v (.bool b) => some b
    | _ => none
  | none => none
noncomputable def wantS (t : Sl) (o : Oper) : Bool :=
  match o.guard with
  | none => true
  | some (j, want) => match yieldS ops t j with
    | some true => want
    | some false => !want
    | none => false
noncomputable def setS (t : Sl) (d : Option Tmp) (s : SVal) : Sl :=
  match d with
  | some d => st unset (Pos.of d) s t
  | none => t
noncomputable def runL (l : List (Oper × Cls)) : Sl → Hp → Option (Sl × Hp) :=
  List.rec (fun t H => some (t, H)) (fun p _ ih t H => match wantS ops t p.1 with
    | true => match xcls P G cl n0 p.2 p.1 t H with
      | some (s, H') => match p.1.dst with
        | some d => ih (st unset (Pos.of d) s t) H'
        | none => ih t H'
      | none => none
    | false => match p.1.dst with
      | some d => ih (st unset (Pos.of d) unset t) H
      | none => ih t H) l
end
end Go.Proofs.YtjflmmipjeangaaGreatDoor.Sx
end
/-
  The executor, regions: what a run in the text's order leaves behind; the invariant for every other order.
-/
section
set_option linter.unusedVariables false
set_option linter.unusedSimpArgs false
namespace Go.Proofs.YtjflmmipjeangaaGreatDoor.Sx
open Go.RowKit

/-- the heap on which an operation of a class is carried out -/
noncomputable def Cls.heap (c : Cls) (H : Hp) : Hp :=
  match c with
  | .pure | .new | .look => ⟨H.next, H.low, .leaf⟩
  | .quiet | .read => ⟨H.next, H.next.nat, H.tr⟩
  | .bar | .put _ => H
/-- the heap that it leaves -/
noncomputable def Cls.fin (c : Cls) (H E : Hp) : Hp :=
  match c with
  | .pure | .look | .read => H
  | .new => ⟨E.next, H.low, st .gone H.next (E.at H.next) H.tr⟩
  | .quiet => ⟨E.next, H.low, E.tr⟩
  | .bar | .put _ => E
section
variable {P : Program} {G : Gl} {cl : FuncId → List SVal → Hp → Out} {n0 : Nat} {ops : Array Oper} {H H' E : Hp} {t t' : Sl} {o : Oper} {s : SVal} {c : Cls}
theorem xcls_look (h : xcls P G cl n0 .look o t H = some (s, H')) : H' = H ∧ lookOld G n0 o t = true ∧ ∃ E, xop P G cl o t H = some (s, E) := by
  simp only [xcls, prep_run] at h
  split at h <;> try (cases h; done)
  next hl =>
  split at h <;> try (cases h; done)
  next s' E he =>
  simp only [Option.some.injEq, Prod.mk.injEq] at h
  obtain ⟨rfl, rfl⟩ := h
  exact ⟨rfl, hl, E, he⟩
theorem xcls_put {ds : List Tmp} (hs : isStore o.op = true) (h : xcls P G cl n0 (.put ds) o t H = some (s, H')) : putOk G o t ds = true ∧ xop P G cl o t H = some (s, H') := by
  simp only [xcls, prep_run, hs] at h
  split at h <;> try (cases h; done)
  next hp => exact ⟨hp, h⟩
theorem xcls_cput {ds : List Tmp} (hs : isStore o.op = false) (h : xcls P G cl n0 (.put ds) o t H = some (s, H')) : ∃ bs E, lockL t H ds = some bs ∧ xop P G cl o t (lockH H bs) = some (s, E) ∧ H' = unlockH H bs E := by
  simp only [xcls, prep_run, hs] at h
  split at h <;> try (cases h; done)
  next bs hbs =>
  split at h <;> try (cases h; done)
  next s' E hE =>
  simp only [Option.some.injEq, Prod.mk.injEq] at h
  obtain ⟨rfl, rfl⟩ := h
  exact ⟨bs, E, hbs, hE, rfl⟩
/-- a call for whose time blocks are locked -/
def isLocked (c : Cls) (o : Oper) : Bool :=
  match c with
  | .put _ => !isStore o.op
  | _ => false
theorem isLocked_spec {c : Cls} {o : Oper} (h : isLocked c o = true) : ∃ ds, c = .put ds ∧ isStore o.op = false := by
  unfold isLocked at h
  split at h
  · next ds => exact ⟨ds, rfl, by simpa using h⟩
  · cases h
theorem xcls_split (hnl : c.isLook = false) (hnk : isLocked c o = false) (h : xcls P G cl n0 c o t H = some (s, H')) : ∃ E, xop P G cl o t (c.heap H) = some (s, E) ∧ H' = c.fin H E := by
  cases c <;> try (cases hnl; done)
  all_goals simp only [xcls, prep_run] at h
  · split at h <;> try (cases h; done)
    next s' E he =>
    simp only [Option.some.injEq, Prod.mk.injEq] at h
    obtain ⟨rfl, rfl⟩ := h
    exact ⟨E, he, rfl⟩
  · split at h <;> try (cases h; done)
    next s' E he =>
    simp only [Option.some.injEq, Prod.mk.injEq] at h
    obtain ⟨rfl, rfl⟩ := h
    exact ⟨E, he, rfl⟩
  · split at h <;> try (cases h; done)
    next s' E he =>
    simp only [Option.some.injEq, Prod.mk.injEq] at h
    obtain ⟨rfl, rfl⟩ := h
    exact ⟨E, he, rfl⟩
  · split at h <;> try (cases h; done)
    next s' E he =>
    simp only [Option.some.injEq, Prod.mk.injEq] at h
    obtain ⟨rfl, rfl⟩ := h
    exact ⟨E, he, rfl⟩
  · exact ⟨H', h, rfl⟩
  · have hst : isStore o.op = true := by simpa [isLocked] using hnk
    simp only [hst] at h
    split at h <;> try (cases h; done)
    exact ⟨H', h, rfl⟩
theorem bar_heap {c : Cls} (hb : c.isBar = true) (H : Hp) : c.heap H = H := by cases c <;> first | rfl | cases hb
theorem bar_fin {c : Cls} (hb : c.isBar = true) (H E : Hp) : c.fin H E = E := by cases c <;> first | rfl | cases hb
theorem bar_look {c : Cls} (hb : c.isBar = true) : c.isLook = false := by cases c <;> first | rfl | cases hb
theorem look_eq {c : Cls} (h : c.isLook = true) : c = .look := by cases c <;> first | rfl | cases h
theorem heap_next (c : Cls) (H : Hp) : (c.heap H).next = H.next := by cases c <;> rfl
theorem fin_next (c : Cls) (H E : Hp) (hs : c = .pure ∨ c = .read ∨ c = .look → E = c.heap H) : (c.fin H E).next = E.next := by
  cases c <;> first | rfl | (rw [hs (by simp)]; rfl)
theorem leaf_at (n : Pos) (m : Nat) (b : Pos) : (⟨n, m, .leaf⟩ : Hp).at b = .gone := gt_leaf _ _
theorem fin_keep (hs : Sub (c.heap H) E) (hc : c.isBar = false) {b : Pos} (hb : b.nat < H.next.nat) : (c.fin H E).at b = H.at b := by
  cases c with
  | pure => rfl
  | new => exact gt_st_other _ _ _ _ _ (fun e => by subst e; omega)
  | quiet => exact hs.old b hb hb
  | look => rfl
  | read => rfl
  | bar => cases hc
  | put ds => cases hc
theorem fin_new (hs : Sub (c.heap H) E) (ht : H.Tidy) {b : Pos} (hb : H.next.nat ≤ b.nat) : (c.fin H E).at b = .gone ∨ (c.fin H E).at b = E.at b := by
  cases c with
  | pure => exact .inl (ht b hb)
  | new =>
    by_cases e : b = H.next
    · subst e; exact .inr (gt_st_same _ _ _ _)
    · exact .inl ((gt_st_other _ _ _ _ _ e).trans (ht b hb))
  | quiet => exact .inr rfl
  | look => exact .inl (ht b hb)
  | read => exact .inl (ht b hb)
  | bar => exact .inr rfl
  | put ds => exact .inr rfl
theorem fin_sub (hs : Sub (c.heap H) E) : Sub H (c.fin H E) := by
  have hn := hs.next
  rw [heap_next] at hn
  cases c with
  | pure => exact Sub.refl _
  | read => exact Sub.refl _
  | new =>
    have hl : (⟨H.next, H.low, .leaf⟩ : Hp).Tidy := fun b _ => leaf_at _ _ b
    refine ⟨rfl, hn, fun b _ hb => gt_st_other _ _ _ _ _ (fun e => by subst e; omega), fun b hb h => ?_, fun t b hb => ?_⟩
    · exact gt_st_other _ _ _ _ _ (fun e => by subst e; omega)
    · by_cases e : b = H.next
      · subst e
        exact (gt_st_same _ _ _ _).trans (hs.tidy hl _ hb)
      · exact (gt_st_other _ _ _ _ _ e).trans (t b (Nat.le_trans hn hb))
  | quiet => exact ⟨rfl, hn, fun b h1 h2 => hs.old b h2 h2, fun b h1 h2 => hs.dead b h1 h2, fun t b hb => hs.tidy t b hb⟩
  | look => exact Sub.refl _
  | bar => exact hs
  | put ds => exact hs

/-- one step in the text's order -/
def StepOk (P : Program) (G : Gl) (cl : FuncId → List SVal → Hp → Out) (n0 : Nat) (ops : Array Oper) (p : Oper × Cls) (t : Sl) (H : Hp) (s : SVal) (t' : Sl) (H' : Hp) : Prop :=
  t' = setS t p.1.dst s ∧ ((wantS ops t p.1 = true ∧ xcls P G cl n0 p.2 p.1 t H = some (s, H')) ∨ (wantS ops t p.1 = false ∧ s = unset ∧ H' = H))
/-- a run in the text's order, step by step -/
structure Trace (P : Program) (G : Gl) (cl : FuncId → List SVal → Hp → Out) (n0 : Nat) (ops : Array Oper) (l : List (Oper × Cls)) (τ : Nat → Sl) (η : Nat → Hp) (val : Nat → SVal) : Prop where
  step : ∀ (i : Nat) (p : Oper × Cls), l[i]? = some p → StepOk P G cl n0 ops p (τ i) (η i) (val i) (τ (i + 1)) (η (i + 1))
theorem runL_trace : ∀ (l : List (Oper × Cls)) (t : Sl) (H : Hp) {t' : Sl} {H' : Hp}, runL P G cl n0 ops l t H = some (t', H') → ∃ τ η val, Trace P G cl n0 ops l τ η val ∧ τ 0 = t ∧ η 0 = H ∧ τ l.length = t' ∧ η l.length = H'
  | [], t, H, t', H', h => by
    have h' : some (t, H) = some (t', H') := h
    simp only [Option.some.injEq, Prod.mk.injEq] at h'
    obtain ⟨rfl, rfl⟩ := h'
    exact ⟨fun _ => t, fun _ => H, fun _ => unset, ⟨fun i p hp => by simp at hp⟩, rfl, rfl, rfl, rfl⟩
  | p :: l, t, H, t', H', h => by
    have h' : (match wantS ops t p.1 with
      | true => match xcls P G cl n0 p.2 p.1 t H with
        | some (s, H') => match p.1.dst with
          | some d => runL P G cl n0 ops l (st unset (Pos.of d) s t) H'
          | none => runL P G cl n0 ops l t H'
        | none => none
      | false => match p.1.dst with
        | some d => runL P G cl n0 ops l (st unset (Pos.of d) unset t) H
        | none => runL P G cl n0 ops l t H) = some (t', H') := h
    have hset : ∀ (s : SVal) (H1 : Hp), (match p.1.dst with
          | some d => runL P G cl n0 ops l (st unset (Pos.of d) s t) H1
          | none => runL P G cl n0 ops l t H1) = runL P G cl n0 ops l (setS t p.1.dst s) H1 := fun s H1 => by
      cases p.1.dst <;> rfl
    have key : ∀ (s : SVal) (H1 : Hp), StepOk P G cl n0 ops p t H s (setS t p.1.dst s) H1 → runL P G cl n0 ops l (setS t p.1.dst s) H1 = some (t', H') → ∃ τ η val, Trace P G cl n0 ops (p :: l) τ η val ∧ τ 0 = t ∧ η 0 = H ∧ τ (p :: l).length = t' ∧ η (p :: l).length = H' := fun s H1 hs hr => by
      obtain ⟨τ, η, val, htr, h1, h2, h3, h4⟩ := runL_trace l _ H1 hr
      refine ⟨fun i => match i with | 0 => t | i + 1 => τ i, fun i => match i with | 0 => H | i + 1 => η i, fun i => match i with | 0 => s | i + 1 => val i, ⟨fun i p' hp => ?_⟩, rfl, rfl, h3, h4⟩
      cases i with
      | zero =>
        simp only [List.getElem?_cons_zero, Option.some.injEq] at hp
        subst hp
        show StepOk P G cl n0 ops p t H s (τ 0) (η 0)
        rw [h1, h2]; exact hs
      | succ i => exact htr.step i p' (by simpa using hp)
    split at h'
    · next hw =>
      split at h' <;> try (cases h'; done)
      next s H1 hx => exact key s H1 ⟨rfl, .inl ⟨hw, hx⟩⟩ (by rw [← hset]; exact h')
    · next hw => exact key unset H ⟨rfl, .inr ⟨hw, rfl, rfl⟩⟩ (by rw [← hset]; exact h')
variable {l : List (Oper × Cls)} {τ : Nat → Sl} {η : Nat → Hp} {val : Nat → SVal}
theorem Trace.sub1 (hcl : ∀ f args H s H', cl f args H = some (s, H') → Sub H H') (T : Trace P G cl n0 ops l τ η val) {i : Nat} {p : Oper × Cls} (hp : l[i]? = some p) : Sub (η i) (η (i + 1)) := by
  rcases (T.step i p hp).2 with ⟨_, h⟩ | ⟨_, _, h⟩
  · cases hl : p.2.isLook with
    | true => rw [look_eq hl] at h; rw [(xcls_look h).1]; exact Sub.refl _
    | false =>
      cases hk : isLocked p.2 p.1 with
      | false =>
        obtain ⟨E, he, h2⟩ := xcls_split hl hk h
        rw [h2]; exact fin_sub (xop_sub hcl he)
      | true =>
        obtain ⟨ds, hc, hs⟩ := isLocked_spec hk
        rw [hc] at h
        obtain ⟨bs, E, hb, he, h2⟩ := xcls_cput hs h
        rw [h2]; exact unlock_sub (lockL_spec hb).2 (xop_sub hcl he)
  · rw [h]; exact Sub.refl _
theorem Trace.keep1 (hcl : ∀ f args H s H', cl f args H = some (s, H') → Sub H H') (T : Trace P G cl n0 ops l τ η val) {i : Nat} {p : Oper × Cls} (hp : l[i]? = some p) (hc : p.2.isBar = false) {b : Pos} (hb : b.nat < (η i).next.nat) : (η (i + 1)).at b = (η i).at b := by
  rcases (T.step i p hp).2 with ⟨_, h⟩ | ⟨_, _, h⟩
  · cases hl : p.2.isLook with
    | true => rw [look_eq hl] at h; rw [(xcls_look h).1]
    | false =>
      obtain ⟨E, he, h2⟩ := xcls_split hl (by cases hp2 : p.2 with
        | put ds => rw [hp2] at hc; cases hc
        | _ => rfl) h
      rw [h2]; exact fin_keep (xop_sub hcl he) hc hb
  · rw [h]
theorem Trace.sub (hcl : ∀ f args H s H', cl f args H = some (s, H') → Sub H H') (T : Trace P G cl n0 ops l τ η val) {i j : Nat} (hij : i ≤ j) (hj : j ≤ l.length) : Sub (η i) (η j) := by
  induction j with
  | zero => have : i = 0 := by omega
            subst this; exact Sub.refl _
  | succ j ih =>
    by_cases h : i = j + 1
    · subst h; exact Sub.refl _
    · have hlt : j < l.length := by omega
      exact (ih (by omega) (by omega)).trans (T.sub1 hcl (List.getElem?_eq_getElem hlt))
theorem Trace.keep (hcl : ∀ f args H s H', cl f args H = some (s, H') → Sub H H') (T : Trace P G cl n0 ops l τ η val) {i j : Nat} (hij : i ≤ j) (hj : j ≤ l.length) (hc : ∀ k p, i ≤ k → k < j → l[k]? = some p → p.2.isBar = false) {b : Pos} (hb : b.nat < (η i).next.nat) :
    (η j).at b = (η i).at b := by
  induction j with
  | zero => have : i = 0 := by omega
            subst this; rfl
  | succ j ih =>
    by_cases h : i = j + 1
    · subst h; rfl
    · have hlt : j < l.length := by omega
      have hs := T.sub hcl (show i ≤ j by omega) (by omega)
      rw [T.keep1 hcl (List.getElem?_eq_getElem hlt) (hc j _ (by omega) (by omega) (List.getElem?_eq_getElem hlt)) (Nat.lt_of_lt_of_le hb hs.next)]
      exact ih (by omega) (by omega) (fun k p h1 h2 => hc k p h1 (by omega))
/-- what lies at number b when q is the place behind the last operation that all wait for; for how many numbers it is known -/
def Cont (η : Nat → Hp) (K q : Nat) (b : Pos) (x : SObj) (m : Nat) : Prop :=
  (b.nat < (η q).next.nat ∧ x = (η q).at b ∧ m = (η q).next.nat) ∨ ∃ j, q ≤ j ∧ j < K ∧ (η j).next.nat ≤ b.nat ∧ b.nat < (η (j + 1)).next.nat ∧ x = (η (j + 1)).at b ∧ m = (η (j + 1)).next.nat
theorem Cont.at (hcl : ∀ f args H s H', cl f args H = some (s, H') → Sub H H') (T : Trace P G cl n0 ops l τ η val) {q i : Nat} (hqi : q ≤ i) (hi : i ≤ l.length) (hc : ∀ k p, q ≤ k → k < i → l[k]? = some p → p.2.isBar = false) {b : Pos} (hb : b.nat < (η i).next.nat) {x : SObj} {m : Nat}
    (h : Cont η l.length q b x m) : x = (η i).at b ∧ m ≤ (η i).next.nat := by
  rcases h with ⟨h1, rfl, rfl⟩ | ⟨j, h1, h2, h3, h4, rfl, rfl⟩
  · exact ⟨(T.keep hcl hqi hi hc h1).symm, (T.sub hcl hqi hi).next⟩
  · have hji : j < i := Nat.lt_of_not_le fun hle => by have := (T.sub hcl hle (by omega)).next; omega
    exact ⟨(T.keep hcl (show j + 1 ≤ i by omega) hi (fun k p e1 e2 => hc k p (by omega) e2) h4).symm, (T.sub hcl (show j + 1 ≤ i by omega) hi).next⟩
theorem Cont.some (K : Nat) (hK : K ≤ l.length) (hcl : ∀ f args H s H', cl f args H = some (s, H') → Sub H H') (T : Trace P G cl n0 ops l τ η val) {q : Nat} (hq : q ≤ K) {b : Pos} (hb : b.nat < (η K).next.nat) : ∃ x m, Cont η K q b x m := by
  by_cases h : b.nat < (η q).next.nat
  · exact ⟨_, _, .inl ⟨h, rfl, rfl⟩⟩
  · have : ∀ d, q + d ≤ K → b.nat < (η (q + d)).next.nat → ∃ j, q ≤ j ∧ j < K ∧ (η j).next.nat ≤ b.nat ∧ b.nat < (η (j + 1)).next.nat := by
      intro d
      induction d with
      | zero => intro _ h'; exact absurd h' h
      | succ d ih =>
        intro h1 h2
        by_cases h3 : b.nat < (η (q + d)).next.nat
        · exact ih (by omega) h3
        · exact ⟨q + d, by omega, by omega, by omega, h2⟩
    obtain ⟨j, h1, h2, h3, h4⟩ := this (K - q) (by omega) (by rw [show q + (K - q) = K by omega]; exact hb)
    exact ⟨_, _, .inr ⟨j, h1, h2, h3, h4, rfl, rfl⟩⟩
theorem Cont.lt {K q : Nat} {b : Pos} {x : SObj} {m : Nat} (h : Cont η K q b x m) : b.nat < m := by
  rcases h with ⟨h1, _, rfl⟩ | ⟨j, _, _, _, h4, _, rfl⟩
  · exact h1
  · exact h4
end
end Go.Proofs.YtjflmmipjeangaaGreatDoor.Sx
end
/-
  The executor, regions: whatever order is drawn, the region leaves what the run in the text's order leaves.
-/
section
set_option linter.unusedVariables false
set_option linter.unusedSimpArgs false
namespace Go.Proofs.YtjflmmipjeangaaGreatDoor.Sx
open Go.RowKit

section
variable {D : List Deferred} {P : Program} {G : Gl} {cl : FuncId → List SVal → Hp → Out} {n0 : Nat} {ops : Array Oper} {l : List (Oper × Cls)} {τ : Nat → Sl} {η : Nat → Hp} {val : Nat → SVal}
theorem pos_of_inj {d e : Nat} (h : Pos.of d = Pos.of e) : d = e := by have := congrArg Pos.nat h; rwa [Pos.nat_of, Pos.nat_of] at this
theorem setS_other (t : Sl) (d : Option Tmp) (s : SVal) (e : Nat) (h : d ≠ some e) : gt unset (Pos.of e) (setS t d s) = gt unset (Pos.of e) t := by
  cases d with
  | none => rfl
  | some d => exact gt_st_other _ _ _ _ _ (fun he => h (by rw [pos_of_inj he]))
theorem Trace.slot_old (T : Trace P G cl n0 ops l τ η val) {d : Nat} {i : Nat} (hi : i ≤ l.length) (h : ∀ j p, j < i → l[j]? = some p → p.1.dst ≠ some d) : gt unset (Pos.of d) (τ i) = gt unset (Pos.of d) (τ 0) := by
  induction i with
  | zero => rfl
  | succ i ih =>
    have hlt : i < l.length := by omega
    have hp := List.getElem?_eq_getElem hlt
    rw [(T.step i _ hp).1, setS_other _ _ _ _ (h i _ (by omega) hp)]
    exact ih (by omega) fun j p hj hp => h j p (by omega) hp
theorem Trace.slot_new (T : Trace P G cl n0 ops l τ η val) (hone : ∀ (i j : Nat) (p q : Oper × Cls) (d : Tmp), j < i → l[i]? = some p → l[j]? = some q → p.1.dst = some d → q.1.dst = some d → False) {d : Nat} {i j : Nat} {p : Oper × Cls} (hi : i ≤ l.length) (hji : j < i)
    (hp : l[j]? = some p) (hd : p.1.dst = some d) : gt unset (Pos.of d) (τ i) = val j := by
  induction i with
  | zero => omega
  | succ i ih =>
    have hlt : i < l.length := by omega
    have hpi := List.getElem?_eq_getElem hlt
    rw [(T.step i _ hpi).1]
    by_cases hij : j = i
    · subst hij
      rw [hp] at hpi
      simp only [Option.some.injEq] at hpi
      rw [← hpi, hd]
      exact gt_st_same _ _ _ _
    · rw [setS_other _ _ _ _ (fun he => hone i j _ p d (by omega) hpi hp he hd)]
      exact ih (by omega) (by omega)
theorem want_eq {ρ : Pl} {t : Sl} {a : Act} {o : Oper} (h : ∀ d ∈ o.looksAt ops, VR ρ (gt unset (Pos.of d) t) (a.tmps.getD d undef)) : wantS ops t o = Region.wanted o (yielded ops a.tmps) := by
  unfold wantS Region.wanted
  cases hg : o.guard with
  | none => rfl
  | some g =>
    obtain ⟨j, want⟩ := g
    have key : yieldS ops t j = yielded ops a.tmps j := by
      unfold yieldS yielded
      cases hd : (ops[j]?).bind (·.dst) with
      | none => rfl
      | some d =>
        have hv := h d (by unfold Oper.looksAt; rw [hg]; simp [hd])
        simp only [Option.bind_some]
        by_cases hs : d < a.tmps.size
        · have e : a.tmps[d]? = some (a.tmps.getD d undef) := by simp [hs]
          rw [e]
          generalize gt unset (Pos.of d) t = s at hv
          generalize a.tmps.getD d undef = v at hv
          cases hv <;> first | rfl | (cases v <;> rfl)
        · have e : a.tmps[d]? = none := Array.getElem?_eq_none (Nat.le_of_not_lt hs)
          have e2 : a.tmps.getD d undef = undef := by simp [e]
          rw [e]
          rw [e2] at hv
          generalize gt unset (Pos.of d) t = s at hv
          generalize hu : undef = v at hv
          cases hv <;> first | rfl | (subst hu; rfl)
    simp only [key]
    cases yielded ops a.tmps j with
    | none => rfl
    | some b => cases b <;> cases want <;> rfl
theorem opnds_of {ρ : Pl} {t : Sl} {a : Act} {o : Oper} (hg : Globs G ρ) (h : ∀ d ∈ o.looksAt ops, VR ρ (gt unset (Pos.of d) t) (a.tmps.getD d undef)) : Opnds G ρ t a o := fun x hx =>
  ev_read hg x fun i e => by
    subst e
    exact h i (List.mem_append_left _ (List.mem_filterMap.2 ⟨.tmp i, by simpa using hx, rfl⟩))
theorem Pre.listed {listed : Array Bool} (hc : ∀ (j : Nat) (oj : Oper), ops[j]? = some oj → listed.getD j false = true → ∀ e ∈ oj.after, Region.binds .any e = true → listed.getD e.on false = true) {i j : Nat} (h : Pre ops i j) : (∀ oi, ops[i]? = some oi → ∀ e ∈ oi.after, Region.binds .any e = true → listed.getD e.on false = true) → listed.getD j false = true := by
  induction h with
  | edge ho he hb => intro hi; exact hi _ ho _ he hb
  | step ho he hb _ ih => intro hi; exact ih fun oi hoi e he' hb' => hc _ oi hoi (hi _ ho _ he hb) e he' hb'

/-- what holds when the operations in 'listed' have been carried out -/
structure RInv (D : List Deferred) (ops : Array Oper) (l : List (Oper × Cls)) (τ : Nat → Sl) (η : Nat → Hp) (val : Nat → SVal) (ρ0 : Pl) (W0 : World) (N : Nat) (listed : Array Bool) (q : Nat) (ρ : Pl) (a : Act) (W : World) : Prop where
  size : listed.size = ops.size
  closed : ∀ (j : Nat) (oj : Oper), ops[j]? = some oj → listed.getD j false = true → ∀ e ∈ oj.after, Region.binds .any e = true → listed.getD e.on false = true
  qle : q ≤ l.length
  qbar : ∀ (j : Nat) (p : Oper × Cls), l[j]? = some p → p.2.isBar = true → listed.getD j false = true → j < q
  qdone : 0 < q → ∃ p, l[q - 1]? = some p ∧ p.2.isBar = true ∧ listed.getD (q - 1) false = true
  und : ∀ j, j < l.length → listed.getD j false = false → j < q → ∀ b : Pos, (η j).next.nat ≤ b.nat → b.nat < (η (j + 1)).next.nat → (η q).at b = (η (j + 1)).at b
  home : ∀ b x, ρ b = some x → b.nat < (η 0).next.nat ∨ ∃ j, listed.getD j false = true ∧ j < l.length ∧ (η j).next.nat ≤ b.nat ∧ b.nat < (η (j + 1)).next.nat
  obj : ∀ b r k x m, ρ b = some (r, k) → Cont η l.length q b x m → Has (ρ.below m) W r k x
  lt : ∀ b r k, ρ b = some (r, k) → r < W.heap.size
  apart : ∀ b b' r k r' k' x x' m m', b ≠ b' → ρ b = some (r, k) → ρ b' = some (r', k') → Cont η l.length q b x m → Cont η l.length q b' x' m' → x ≠ .gone → x' ≠ .gone → r ≠ r'
  slotW : ∀ (j : Nat) (p : Oper × Cls) (d : Tmp), l[j]? = some p → p.1.dst = some d → listed.getD j false = true → VR (ρ.below (η (j + 1)).next.nat) (val j) (a.tmps.getD d undef)
  slotO : ∀ (d : Tmp), (∀ (j : Nat) (p : Oper × Cls), l[j]? = some p → p.1.dst = some d → listed.getD j false = false) → VR (ρ.below (η 0).next.nat) (gt unset (Pos.of d) (τ 0)) (a.tmps.getD d undef)
  tsize : a.tmps.size = N
  defers : a.defers = D
  agree : ∀ b, b.nat < (η 0).next.nat → ρ b = ρ0 b
  os : W.os = W0.os
  tape : W.tape = W0.tape
  output : W.output = W0.output
  size0 : W0.heap.size ≤ W.heap.size
  frame : ∀ r, r < W0.heap.size → Safe ρ0 (η 0) r → W.heap[r]? = W0.heap[r]?
  born : ∀ b r k, (η 0).next.nat ≤ b.nat → ρ b = some (r, k) → W0.heap.size ≤ r ∨ ¬ Safe ρ0 (η 0) r
theorem getD_two {listed : Array Bool} {i : Nat} (h : i < listed.size) : listed.getD i true = listed.getD i false := by simp [h]
theorem getD_set_i {listed : Array Bool} {i : Nat} (h : i < listed.size) : (listed.setIfInBounds i true).getD i false = true := by simp [h]
theorem getD_set_j {listed : Array Bool} {i j : Nat} (h : i ≠ j) : (listed.setIfInBounds i true).getD j false = listed.getD j false := by simp [Array.getElem?_setIfInBounds_ne h]
variable {ρ0 ρ σ : Pl} {W0 W W' : World} {N q i : Nat} {listed : Array Bool} {a : Act} {p : Oper × Cls}
/-- an operation that all wait for: where the run stands -/
theorem RInv.stage (hpl : PlanOk ops l) (inv : RInv D ops l τ η val ρ0 W0 N listed q ρ a W) (hp : l[i]? = some p) (hh : p.2.heapy = true) (hn : listed.getD i false = false) (hr : ∀ oi, ops[i]? = some oi → ∀ e ∈ oi.after, Region.binds .any e = true → listed.getD e.on false = true) :
    q ≤ i ∧ ∀ k p', q ≤ k → k < i → l[k]? = some p' → p'.2.isBar = false := by
  have hlist : ∀ j, Pre ops i j → listed.getD j false = true := fun j h => h.listed inv.closed hr
  constructor
  · by_cases h0 : 0 < q
    · obtain ⟨p', h1, h2, h3⟩ := inv.qdone h0
      by_cases hlt : i < q - 1
      · have hpre := hpl.heap (q - 1) i p' p hlt h1 hp (.inl ⟨h2, hh⟩)
        have := hpre.listed inv.closed (fun oi hoi e he hb => inv.closed _ oi hoi h3 e he hb)
        rw [hn] at this; cases this
      · have : i ≠ q - 1 := fun e => by rw [e, h3] at hn; cases hn
        omega
    · omega
  · intro k p' h1 h2 h3
    cases hb : p'.2.isBar with
    | false => rfl
    | true =>
      have := inv.qbar k p' h3 hb (hlist k (hpl.heap i k p p' h2 hp h3 (.inr ⟨hb, hh⟩)))
      omega
theorem isBar_heapy {c : Cls} (h : c.isBar = true) : c.heapy = true := by cases c <;> first | rfl | cases h
/-- one more operation -/
theorem RInv.core (hpl : PlanOk ops l) (hcl : ∀ f args H s H', cl f args H = some (s, H') → Sub H H') (T : Trace P G cl n0 ops l τ η val) (hN : ∀ (j : Nat) (p : Oper × Cls) (d : Tmp), l[j]? = some p → p.1.dst = some d → d < N)
    (inv : RInv D ops l τ η val ρ0 W0 N listed q ρ a W) (hp : l[i]? = some p) (hn : listed.getD i false = false) (hr : ∀ oi, ops[i]? = some oi → ∀ e ∈ oi.after, Region.binds .any e = true → listed.getD e.on false = true)
    {E E' : Hp} {v : Value} (hEn : E.next = (η i).next) (hst : Stp (ρ.below (η i).next.nat) σ E E' W W') (hv : VR σ (val i) v) (hheld : Held σ E' W') (f1 : (η (i + 1)).next.nat = E'.next.nat)
    (f2 : ∀ b : Pos, (η i).next.nat ≤ b.nat → (η (i + 1)).at b = .gone ∨ (η (i + 1)).at b = E'.at b)
    (f4 : p.2.isBar = true → (∀ b, (η (i + 1)).at b = E'.at b) ∧ (∀ b, E.at b = (η i).at b) ∧ E.low = (η i).low)
    (f5 : p.2.isBar = false → ∀ r, Safe (ρ.below (η i).next.nat) E r)
    (f6 : p.2.isBar = true → ∀ j, j < i → listed.getD j false = false → ∀ b : Pos, (η j).next.nat ≤ b.nat → b.nat < (η (j + 1)).next.nat → (η (i + 1)).at b = (η i).at b) :
    ∃ q' ρ', RInv D ops l τ η val ρ0 W0 N (listed.setIfInBounds i true) q' ρ' (a.put p.1.dst v) W' := by
  have hil : i < l.length := (List.getElem?_eq_some_iff.1 hp).1
  have hio : i < listed.size := by rw [inv.size, ← hpl.len]; exact hil
  have hmono : ∀ {j k : Nat}, j ≤ k → k ≤ l.length → (η j).next.nat ≤ (η k).next.nat := fun h1 h2 => (T.sub hcl h1 h2).next
  have hEnn : E.next.nat = (η i).next.nat := by rw [hEn]
  have hi1 : (η i).next.nat ≤ (η (i + 1)).next.nat := hmono (by omega) (by omega)
  -- numbers of the operation are not in use
  have hfree : ∀ (b : Pos) x, ρ b = some x → ¬ ((η i).next.nat ≤ b.nat ∧ b.nat < (η (i + 1)).next.nat) := fun b x hb ⟨h1, h2⟩ => by
    rcases inv.home b x hb with h | ⟨j, hj, hjl, h3, h4⟩
    · have := hmono (Nat.zero_le i) (by omega); omega
    · have hji : j ≠ i := fun e => by subst e; rw [hn] at hj; cases hj
      rcases Nat.lt_or_gt_of_ne hji with hlt | hgt
      · have := hmono (show j + 1 ≤ i by omega) (by omega); omega
      · have := hmono (show i + 1 ≤ j by omega) (by omega); omega
  let ρ' : Pl := fun b => if (η i).next.nat ≤ b.nat ∧ b.nat < (η (i + 1)).next.nat then σ b else ρ b
  have hnew : ∀ b : Pos, (η i).next.nat ≤ b.nat ∧ b.nat < (η (i + 1)).next.nat → ρ' b = σ b := fun b h => if_pos h
  have hold : ∀ b : Pos, ¬ ((η i).next.nat ≤ b.nat ∧ b.nat < (η (i + 1)).next.nat) → ρ' b = ρ b := fun b h => if_neg h
  have hle : ρ.le ρ' := fun b x hb => by rw [hold b (hfree b x hb)]; exact hb
  have hbl : ∀ m, (ρ.below m).le (ρ'.below m) := fun m b x hb => by
    obtain ⟨h1, h2⟩ := Pl.below_some hb
    rw [Pl.below_lt h1]; exact hle b x h2
  have hσ : ρ'.below (η (i + 1)).next.nat = σ := by
    funext b
    by_cases h1 : b.nat < (η (i + 1)).next.nat
    · rw [Pl.below_lt h1]
      by_cases h2 : (η i).next.nat ≤ b.nat
      · exact hnew b ⟨h2, h1⟩
      · rw [hold b (fun h => h2 h.1), hst.agree b (by rw [hEnn]; omega), Pl.below_lt (by omega)]
    · rw [Pl.below_ge (by omega), hheld.fresh b (by rw [← f1]; omega)]
  have hσo : ∀ b : Pos, b.nat < (η i).next.nat → σ b = ρ b := fun b h => by rw [hst.agree b (by rw [hEnn]; exact h), Pl.below_lt h]
  -- the state in front of an operation that all wait for
  have hstage : p.2.isBar = true → q ≤ i ∧ ∀ k p', q ≤ k → k < i → l[k]? = some p' → p'.2.isBar = false := fun hb => inv.stage hpl hp (isBar_heapy hb) hn hr
  have hcont : p.2.isBar = true → ∀ (b : Pos) x, ρ b = some x → b.nat < (η i).next.nat → ∃ m, Cont η l.length q b ((η i).at b) m := fun hb b x hbx hlt => by
    obtain ⟨y, m, hy⟩ := Cont.some (η := η) l.length (Nat.le_refl _) hcl T inv.qle (b := b) (Nat.lt_of_lt_of_le hlt (hmono (by omega) (Nat.le_refl _)))
    obtain ⟨h1, h2⟩ := hstage hb
    obtain ⟨h3, _⟩ := Cont.at hcl T h1 (by omega) h2 hlt hy
    rw [h3] at hy
    exact ⟨m, hy⟩
  have hsafe0 : ∀ r, r < W0.heap.size → Safe ρ0 (η 0) r → Safe (ρ.below (η i).next.nat) E r := fun r hr0 hs => by
    cases hb : p.2.isBar with
    | false => exact f5 hb r
    | true =>
      obtain ⟨_, g2, g3⟩ := f4 hb
      have hs0 := T.sub hcl (Nat.zero_le i) (by omega)
      intro b0 k0 hb0 hl0
      obtain ⟨h1, h2⟩ := Pl.below_some hb0
      rw [g2]
      by_cases h3 : b0.nat < (η 0).next.nat
      · rw [inv.agree b0 h3] at h2
        have hst0 := hs b0 k0 h2 (by rw [← hs0.low, ← g3]; exact hl0)
        rw [hs0.dead b0 h3 hst0]; exact hst0
      · rcases inv.born b0 r k0 (by omega) h2 with h4 | h4
        · omega
        · exact absurd hs h4
  let q' := if p.2.isBar = true then i + 1 else q
  have hq'b : p.2.isBar = true → q' = i + 1 := fun h => if_pos h
  have hq'n : p.2.isBar = false → q' = q := fun h => if_neg (by rw [h]; exact fun e => by cases e)
  -- what lies at a new number
  have hcnew : ∀ (b : Pos) x m, (η i).next.nat ≤ b.nat ∧ b.nat < (η (i + 1)).next.nat → Cont η l.length q' b x m → x = (η (i + 1)).at b ∧ (η (i + 1)).next.nat ≤ m := fun b x m hb hc => by
    have key : ∀ j, j < l.length → (η j).next.nat ≤ b.nat → b.nat < (η (j + 1)).next.nat → j = i := fun j hj h1 h2 => by
      rcases Nat.lt_trichotomy j i with h | h | h
      · have := hmono (show j + 1 ≤ i by omega) (by omega); omega
      · exact h
      · have := hmono (show i + 1 ≤ j by omega) (by omega); omega
    rcases hc with ⟨h1, rfl, rfl⟩ | ⟨j, h1, h2, h3, h4, rfl, rfl⟩
    · cases hbar : p.2.isBar with
      | true => rw [hq'b hbar]; exact ⟨rfl, Nat.le_refl _⟩
      | false =>
        rw [hq'n hbar] at h1 ⊢
        have hiq : i < q := Nat.lt_of_not_le fun hle => by have := hmono hle (by omega); omega
        exact ⟨inv.und i hil hn hiq b hb.1 hb.2, hmono (by omega) inv.qle⟩
    · have := key j h2 h3 h4
      subst this
      exact ⟨rfl, Nat.le_refl _⟩
  -- what lies at an old number
  have hcold : ∀ (b : Pos) x m, ¬ ((η i).next.nat ≤ b.nat ∧ b.nat < (η (i + 1)).next.nat) → Cont η l.length q' b x m →
      (p.2.isBar = true ∧ b.nat < (η i).next.nat ∧ x = E'.at b ∧ m = (η (i + 1)).next.nat) ∨ (Cont η l.length q b x m ∧ (p.2.isBar = true → (η (i + 1)).next.nat ≤ b.nat)) := fun b x m hb hc => by
    cases hbar : p.2.isBar with
    | false => rw [hq'n hbar] at hc; exact .inr ⟨hc, fun e => by cases e⟩
    | true =>
      rw [hq'b hbar] at hc
      rcases hc with ⟨h1, rfl, rfl⟩ | ⟨j, h1, h2, h3, h4, rfl, rfl⟩
      · refine .inl ⟨rfl, ?_, (f4 hbar).1 b, rfl⟩
        by_cases h5 : (η i).next.nat ≤ b.nat
        · exact absurd ⟨h5, h1⟩ hb
        · omega
      · refine .inr ⟨.inr ⟨j, ?_, h2, h3, h4, rfl, rfl⟩, fun _ => Nat.le_trans (hmono h1 (by omega)) h3⟩
        have := (hstage hbar).1
        omega
  refine ⟨q', ρ', ⟨by simp [inv.size], ?_, ?_, ?_, ?_, ?_, ?_, ?_, ?_, ?_, ?_, ?_, ?_, ?_, ?_, hst.os.trans inv.os, hst.tape.trans inv.tape, hst.output.trans inv.output, Nat.le_trans inv.size0 hst.size, ?_, ?_⟩⟩
  · -- closed
    intro j oj hoj hj e he hb
    by_cases hij : i = j
    · subst hij
      have h1 := hr oj hoj e he hb
      by_cases hie : i = e.on
      · rw [← hie]; exact getD_set_i hio
      · rw [getD_set_j hie]; exact h1
    · rw [getD_set_j hij] at hj
      have h1 := inv.closed j oj hoj hj e he hb
      by_cases hie : i = e.on
      · rw [← hie]; exact getD_set_i hio
      · rw [getD_set_j hie]; exact h1
  · -- qle
    show q' ≤ l.length
    cases hbar : p.2.isBar with
    | true => rw [hq'b hbar]; omega
    | false => rw [hq'n hbar]; exact inv.qle
  · -- qbar
    intro j pj hj hbj hlj
    cases hbar : p.2.isBar with
    | true =>
      rw [hq'b hbar]
      by_cases hij : i = j
      · omega
      · rw [getD_set_j hij] at hlj
        have := inv.qbar j pj hj hbj hlj
        have := (hstage hbar).1
        omega
    | false =>
      rw [hq'n hbar]
      by_cases hij : i = j
      · subst hij; rw [hp] at hj; simp only [Option.some.injEq] at hj; subst hj; rw [hbar] at hbj; cases hbj
      · rw [getD_set_j hij] at hlj; exact inv.qbar j pj hj hbj hlj
  · -- qdone
    intro h0
    cases hbar : p.2.isBar with
    | true => rw [hq'b hbar]; exact ⟨p, hp, hbar, getD_set_i hio⟩
    | false =>
      rw [hq'n hbar] at h0 ⊢
      obtain ⟨p', h1, h2, h3⟩ := inv.qdone h0
      refine ⟨p', h1, h2, ?_⟩
      have : i ≠ q - 1 := fun e => by rw [e, h3] at hn; cases hn
      rw [getD_set_j this]; exact h3
  · -- und
    intro j hj hlj hjq b h1 h2
    have hij : i ≠ j := fun e => by subst e; rw [getD_set_i hio] at hlj; cases hlj
    rw [getD_set_j hij] at hlj
    cases hbar : p.2.isBar with
    | false => rw [hq'n hbar] at hjq ⊢; exact inv.und j hj hlj hjq b h1 h2
    | true =>
      rw [hq'b hbar] at hjq ⊢
      have hjlt : j < i := by omega
      obtain ⟨g1, g2⟩ := hstage hbar
      rw [f6 hbar j hjlt hlj b h1 h2]
      by_cases hjq2 : j < q
      · rw [T.keep hcl g1 (by omega) g2 (Nat.lt_of_lt_of_le h2 (hmono (by omega) inv.qle))]
        exact inv.und j hj hlj hjq2 b h1 h2
      · exact T.keep hcl (by omega) (by omega) (fun k p' e1 e2 => g2 k p' (by omega) e2) h2
  · -- home
    intro b x hb
    by_cases h : (η i).next.nat ≤ b.nat ∧ b.nat < (η (i + 1)).next.nat
    · exact .inr ⟨i, getD_set_i hio, hil, h.1, h.2⟩
    · rw [hold b h] at hb
      rcases inv.home b x hb with h1 | ⟨j, hj, hjl, h3, h4⟩
      · exact .inl h1
      · have hij : i ≠ j := fun e => by subst e; rw [hn] at hj; cases hj
        exact .inr ⟨j, by rw [getD_set_j hij]; exact hj, hjl, h3, h4⟩
  · -- obj
    intro b r k x m hb hc
    by_cases h : (η i).next.nat ≤ b.nat ∧ b.nat < (η (i + 1)).next.nat
    · obtain ⟨rfl, hm⟩ := hcnew b x m h hc
      rw [hnew b h] at hb
      rcases f2 b h.1 with h1 | h1
      · rw [h1]; trivial
      · rw [h1]
        have := hheld.obj b r k hb
        rw [← hσ] at this
        exact this.mono (Pl.below_mono ρ' hm)
    · rw [hold b h] at hb
      rcases hcold b x m h hc with ⟨hbar, h1, rfl, rfl⟩ | ⟨hc, hfar⟩
      · rw [hσ]; exact hheld.obj b r k (by rw [hσo b h1]; exact hb)
      · by_cases hg : x = .gone
        · subst hg; trivial
        · refine ((inv.obj b r k x m hb hc).world ?_).mono (hbl m)
          refine hst.frame r (inv.lt b r k hb) ?_
          cases hbar : p.2.isBar with
          | false => exact f5 hbar r
          | true =>
            obtain ⟨_, g2, _⟩ := f4 hbar
            intro b0 k0 hb0 _
            obtain ⟨h1, h2⟩ := Pl.below_some hb0
            by_cases hg0 : E.at b0 = .gone
            · rw [hg0]; rfl
            · rw [g2] at hg0
              obtain ⟨m0, hc0⟩ := hcont hbar b0 _ h2 h1
              have := hfar hbar
              exact absurd rfl (inv.apart b0 b r k0 r k _ x m0 m (fun e => by subst e; omega) h2 hb hc0 hc hg0 hg)
  · -- lt
    intro b r k hb
    by_cases h : (η i).next.nat ≤ b.nat ∧ b.nat < (η (i + 1)).next.nat
    · rw [hnew b h] at hb; exact hheld.lt b r k hb
    · rw [hold b h] at hb; exact Nat.lt_of_lt_of_le (inv.lt b r k hb) hst.size
  · -- apart
    have far : ∀ (r r' k' : Nat) (b' : Pos) (x' : SObj) (m' : Nat), p.2.isBar = true → ¬ Safe (ρ.below (η i).next.nat) E r → ρ b' = some (r', k') → Cont η l.length q b' x' m' → x' ≠ .gone → (η (i + 1)).next.nat ≤ b'.nat → r ≠ r' := fun r r' k' b' x' m' hbar hns hb' hc' hx' hfar e => by
      apply hns
      intro b0 k0 hb0 _
      obtain ⟨h1, h2⟩ := Pl.below_some hb0
      by_cases hg0 : E.at b0 = .gone
      · rw [hg0]; rfl
      · rw [(f4 hbar).2.1] at hg0
        obtain ⟨m0, hc0⟩ := hcont hbar b0 _ h2 h1
        exact absurd e (inv.apart b0 b' r k0 r' k' _ x' m0 m' (fun e => by subst e; omega) h2 hb' hc0 hc' hg0 hx')
    have alive : ∀ b : Pos, p.2.isBar = true → b.nat < (η i).next.nat → E'.at b ≠ .gone → (η i).at b ≠ .gone := fun b hbar h1 hg e =>
      hg ((hst.dead b (by rw [hEnn]; exact h1) (by rw [(f4 hbar).2.1, e]; rfl)).trans (by rw [(f4 hbar).2.1]; exact e))
    have newOld : ∀ b b' r k r' k' x x' m m', ((η i).next.nat ≤ b.nat ∧ b.nat < (η (i + 1)).next.nat) → ¬ ((η i).next.nat ≤ b'.nat ∧ b'.nat < (η (i + 1)).next.nat) → ρ' b = some (r, k) → ρ' b' = some (r', k') → Cont η l.length q' b x m → Cont η l.length q' b' x' m' → x ≠ .gone → x' ≠ .gone → r ≠ r' := by
      intro b b' r k r' k' x x' m m' hB hB' hb hb' hc hc' hx hx'
      obtain ⟨rfl, _⟩ := hcnew b x m hB hc
      rw [hnew b hB] at hb
      rw [hold b' hB'] at hb'
      have hne : b ≠ b' := fun e => by subst e; exact hB' hB
      have hxE : (η (i + 1)).at b = E'.at b := (f2 b hB.1).resolve_left hx
      rcases hcold b' x' m' hB' hc' with ⟨hbar, h1, rfl, _⟩ | ⟨hc', hfar⟩
      · exact hheld.apart b b' r k r' k' hne hb (by rw [hσo b' h1]; exact hb') (by rw [← hxE]; exact hx) hx'
      · rcases hst.born b r k (by rw [hEnn]; exact hB.1) hb with h1 | h1
        · have := inv.lt b' r' k' hb'; omega
        · cases hbar : p.2.isBar with
          | false => exact absurd (f5 hbar r) h1
          | true => exact far r r' k' b' x' m' hbar h1 hb' hc' hx' (hfar hbar)
    intro b b' r k r' k' x x' m m' hne hb hb' hc hc' hx hx'
    by_cases hB : (η i).next.nat ≤ b.nat ∧ b.nat < (η (i + 1)).next.nat
    · by_cases hB' : (η i).next.nat ≤ b'.nat ∧ b'.nat < (η (i + 1)).next.nat
      · obtain ⟨rfl, _⟩ := hcnew b x m hB hc
        obtain ⟨rfl, _⟩ := hcnew b' x' m' hB' hc'
        rw [hnew b hB] at hb
        rw [hnew b' hB'] at hb'
        exact hheld.apart b b' r k r' k' hne hb hb' (by rw [← (f2 b hB.1).resolve_left hx]; exact hx) (by rw [← (f2 b' hB'.1).resolve_left hx']; exact hx')
      · exact newOld b b' r k r' k' x x' m m' hB hB' hb hb' hc hc' hx hx'
    · by_cases hB' : (η i).next.nat ≤ b'.nat ∧ b'.nat < (η (i + 1)).next.nat
      · exact (newOld b' b r' k' r k x' x m' m hB' hB hb' hb hc' hc hx' hx).symm
      · rw [hold b hB] at hb
        rw [hold b' hB'] at hb'
        rcases hcold b x m hB hc with ⟨hbar, h1, rfl, _⟩ | ⟨hc, hfar⟩
        · rcases hcold b' x' m' hB' hc' with ⟨_, h1', rfl, _⟩ | ⟨hc', hfar'⟩
          · exact hheld.apart b b' r k r' k' hne (by rw [hσo b h1]; exact hb) (by rw [hσo b' h1']; exact hb') hx hx'
          · obtain ⟨m0, hc0⟩ := hcont hbar b _ hb h1
            exact inv.apart b b' r k r' k' _ x' m0 m' hne hb hb' hc0 hc' (alive b hbar h1 hx) hx'
        · rcases hcold b' x' m' hB' hc' with ⟨hbar, h1', rfl, _⟩ | ⟨hc', hfar'⟩
          · obtain ⟨m0, hc0⟩ := hcont hbar b' _ hb' h1'
            exact inv.apart b b' r k r' k' x _ m m0 hne hb hb' hc hc0 hx (alive b' hbar h1' hx')
          · exact inv.apart b b' r k r' k' x x' m m' hne hb hb' hc hc' hx hx'
  · -- slotW
    intro j pj d hj hd hlj
    by_cases hij : i = j
    · subst hij
      rw [hp] at hj
      simp only [Option.some.injEq] at hj
      subst hj
      have hdN := hN i p d hp hd
      have : (a.put p.1.dst v).tmps.getD d undef = v := by rw [hd]; simp [Act.put, inv.tsize, hdN]
      rw [this, hσ]
      exact hv
    · rw [getD_set_j hij] at hlj
      have hne : p.1.dst ≠ some d := fun e => by
        rcases Nat.lt_or_gt_of_ne hij with h | h
        · exact hpl.one j i pj p d h hj hp hd e
        · exact hpl.one i j p pj d h hp hj e hd
      have : (a.put p.1.dst v).tmps.getD d undef = a.tmps.getD d undef := by
        cases hpd : p.1.dst with
        | none => rfl
        | some e =>
          have : e ≠ d := fun h => hne (by rw [hpd, h])
          simp [Act.put, Array.getElem?_setIfInBounds_ne this]
      rw [this]
      exact (inv.slotW j pj d hj hd hlj).mono (hbl _)
  · -- slotO
    intro d hd
    have hne : p.1.dst ≠ some d := fun e => by have := hd i p hp e; rw [getD_set_i hio] at this; cases this
    have : (a.put p.1.dst v).tmps.getD d undef = a.tmps.getD d undef := by
      cases hpd : p.1.dst with
      | none => rfl
      | some e =>
        have : e ≠ d := fun h => hne (by rw [hpd, h])
        simp [Act.put, Array.getElem?_setIfInBounds_ne this]
    rw [this]
    refine (inv.slotO d fun j pj hj hdj => ?_).mono (hbl _)
    have h1 := hd j pj hj hdj
    by_cases hij : i = j
    · subst hij; rw [getD_set_i hio] at h1; cases h1
    · rwa [getD_set_j hij] at h1
  · -- tsize
    cases hpd : p.1.dst with
    | none => exact inv.tsize
    | some e => simp [Act.put, inv.tsize]
  · -- defers
    cases hpd : p.1.dst with
    | none => exact inv.defers
    | some e => exact inv.defers
  · -- agree
    intro b hb
    have h0 := hmono (Nat.zero_le i) (by omega)
    rw [hold b (fun h => by omega)]
    exact inv.agree b hb
  · -- frame
    intro r hr0 hs
    rw [hst.frame r (Nat.lt_of_lt_of_le hr0 inv.size0) (hsafe0 r hr0 hs)]
    exact inv.frame r hr0 hs
  · -- born
    intro b r k hb0 hb
    by_cases h : (η i).next.nat ≤ b.nat ∧ b.nat < (η (i + 1)).next.nat
    · rw [hnew b h] at hb
      by_cases hr0 : r < W0.heap.size
      · refine .inr fun hs => ?_
        rcases hst.born b r k (by rw [hEnn]; exact h.1) hb with h1 | h1
        · have := inv.size0; omega
        · exact h1 (hsafe0 r hr0 hs)
      · exact .inl (by omega)
    · rw [hold b h] at hb
      exact inv.born b r k hb0 hb
end
end Go.Proofs.YtjflmmipjeangaaGreatDoor.Sx
end
/-
  The executor, regions: a drawn region, whole.
-/
section
set_option linter.unusedVariables false
set_option linter.unusedSimpArgs false
namespace Go.Proofs.YtjflmmipjeangaaGreatDoor.Sx
open Go.RowKit

section
variable {D : List Deferred} {P : Program} {G : Gl} {cl : FuncId → List SVal → Hp → Out} {n0 : Nat} {ops : Array Oper} {l : List (Oper × Cls)} {τ : Nat → Sl} {η : Nat → Hp} {val : Nat → SVal}
variable {ρ0 ρ σ : Pl} {W0 W W' : World} {N q i : Nat} {listed : Array Bool} {a : Act} {p : Oper × Cls} {Q : Exit → Act → World → Prop}
theorem ends_upon {R : Value → World → Prop} {K : Act → World → Prop} {o : Oper} {r : Result Next} (h : Ends P R r) (hk : ∀ v w', R v w' → K (a.put o.dst v) w') : o.upon P a K Q r := by
  cases r with
  | ok n w' =>
    cases n <;> first
      | exact hk _ _ h
      | exact Calls.mono h (fun e w'' he => by obtain ⟨v, rfl, hr⟩ := he; exact hk _ _ hr)
      | exact h.elim
  | halt x w' => exact h.elim
theorem RInv.looks (hpl : PlanOk ops l) (T : Trace P G cl n0 ops l τ η val) (hcl : ∀ f args H s H', cl f args H = some (s, H') → Sub H H') (inv : RInv D ops l τ η val ρ0 W0 N listed q ρ a W) (hp : l[i]? = some p) (hn : listed.getD i false = false)
    (hr : ∀ oi, ops[i]? = some oi → ∀ e ∈ oi.after, Region.binds .any e = true → listed.getD e.on false = true) : ∀ d ∈ p.1.looksAt ops, VR (ρ.below (η i).next.nat) (gt unset (Pos.of d) (τ i)) (a.tmps.getD d undef) := by
  have hil : i < l.length := (List.getElem?_eq_some_iff.1 hp).1
  intro d hd
  by_cases hw : ∃ (j : Nat) (pj : Oper × Cls), l[j]? = some pj ∧ pj.1.dst = some d ∧ j < i
  · obtain ⟨j, pj, hj, hdj, hji⟩ := hw
    have hdone := (hpl.reads i j p pj d hji hp hj hdj hd).listed inv.closed hr
    rw [T.slot_new hpl.one (by omega) hji hj hdj]
    exact (inv.slotW j pj d hj hdj hdone).mono (Pl.below_mono ρ (T.sub hcl (show j + 1 ≤ i by omega) (by omega)).next)
  · rw [T.slot_old (by omega) (fun j pj hji hj e => hw ⟨j, pj, hj, e, hji⟩)]
    refine (inv.slotO d fun j pj hj hdj => ?_).mono (Pl.below_mono ρ (T.sub hcl (Nat.zero_le i) (by omega)).next)
    by_cases hij : j = i
    · subst hij; exact hn
    · have hgt : i < j := Nat.lt_of_le_of_ne (Nat.le_of_not_lt fun h => hw ⟨j, pj, hj, hdj, h⟩) (Ne.symm hij)
      cases hd' : listed.getD j false with
      | false => rfl
      | true =>
        have := (hpl.writes j i pj p d hgt hj hp hdj hd).listed inv.closed (fun oi hoi e he hb => inv.closed j oi hoi hd' e he hb)
        rw [hn] at this; cases this
theorem RInv.held (hpl : PlanOk ops l) (T : Trace P G cl n0 ops l τ η val) (hcl : ∀ f args H s H', cl f args H = some (s, H') → Sub H H') (inv : RInv D ops l τ η val ρ0 W0 N listed q ρ a W) (hp : l[i]? = some p) (hn : listed.getD i false = false)
    (hr : ∀ oi, ops[i]? = some oi → ∀ e ∈ oi.after, Region.binds .any e = true → listed.getD e.on false = true) : Held (ρ.below (η i).next.nat) (p.2.heap (η i)) W := by
  have hil : i < l.length := (List.getElem?_eq_some_iff.1 hp).1
  have hfresh : ∀ b : Pos, (p.2.heap (η i)).next.nat ≤ b.nat → ρ.below (η i).next.nat b = none := fun b hb => by rw [heap_next] at hb; exact Pl.below_ge hb
  have hlt : ∀ b r k, ρ.below (η i).next.nat b = some (r, k) → r < W.heap.size := fun b r k hb => inv.lt b r k (Pl.below_some hb).2
  cases hh : p.2.heapy with
  | false =>
    have hleaf : ∀ b, (p.2.heap (η i)).at b = .gone := fun b => by
      cases hc : p.2 <;> rw [hc] at hh <;> first | (cases hh; done) | exact leaf_at _ _ b
    exact ⟨hfresh, hlt, fun b r k _ => by rw [hleaf]; trivial, fun b b' r k r' k' _ _ _ hg => absurd (hleaf b) hg⟩
  | true =>
    obtain ⟨h1, h2⟩ := inv.stage hpl hp hh hn hr
    have hat : ∀ b, (p.2.heap (η i)).at b = (η i).at b := fun b => by
      cases hc : p.2 <;> rw [hc] at hh <;> first | (cases hh; done) | rfl
    have hcont : ∀ b x, ρ.below (η i).next.nat b = some x → ρ b = some x ∧ ∃ m, Cont η l.length q b ((η i).at b) m ∧ m ≤ (η i).next.nat := fun b x hb => by
      obtain ⟨h3, h4⟩ := Pl.below_some hb
      obtain ⟨y, m, hy⟩ := Cont.some (η := η) l.length (Nat.le_refl _) hcl T inv.qle (b := b) (Nat.lt_of_lt_of_le h3 (T.sub hcl (show i ≤ l.length by omega) (Nat.le_refl _)).next)
      obtain ⟨h5, h6⟩ := Cont.at hcl T h1 (by omega) h2 h3 hy
      rw [h5] at hy
      exact ⟨h4, m, hy, h6⟩
    refine ⟨hfresh, hlt, fun b r k hb => ?_, fun b b' r k r' k' hne hb hb' hg hg' => ?_⟩
    · obtain ⟨h3, m, h4, h5⟩ := hcont b _ hb
      rw [hat]
      exact (inv.obj b r k _ m h3 h4).mono (Pl.below_mono ρ h5)
    · obtain ⟨h3, m, h4, h5⟩ := hcont b _ hb
      obtain ⟨h3', m', h4', h5'⟩ := hcont b' _ hb'
      rw [hat] at hg hg'
      exact inv.apart b b' r k r' k' _ _ m m' hne h3 h3' h4 h4' hg hg'
theorem nonbar_safe {c : Cls} {H : Hp} (hb : c.isBar = false) (r : Nat) : Safe (ρ.below H.next.nat) (c.heap H) r := fun b k hbk hl => by
  cases c with
  | pure => exact congrArg SObj.still (leaf_at _ _ b)
  | new => exact congrArg SObj.still (leaf_at _ _ b)
  | quiet =>
    have := (Pl.below_some hbk).1
    have hl' : H.next.nat ≤ b.nat := hl
    omega
  | look => exact congrArg SObj.still (leaf_at _ _ b)
  | read =>
    have := (Pl.below_some hbk).1
    have hl' : H.next.nat ≤ b.nat := hl
    omega
  | bar => cases hb
  | put ds => cases hb
/-- a load reads the same in every world that has the block -/
theorem ldS_has {H : Hp} {T off : Nat} {b : Pos} {r k : Nat} {s : SVal} (h : Has ρ W r k (H.at b)) (hs : ldS P H T b off = some s) : ∃ v, VR ρ s v ∧ ∀ W1 : World, W1.heap[r]? = W.heap[r]? → (loadVar T ⟨r, off, none⟩).run P W1 = .ok v W1 := by
  have rng : ∀ (off n : Nat) (l : List SVal), cellsAt H b off n = some l → ∃ vs, VRs ρ l vs ∧ vs.length = n ∧ ∀ W1 : World, W1.heap[r]? = W.heap[r]? → ∀ (j : Nat) (v : Value), vs[j]? = some v → W1.cell? ⟨r, off + j, none⟩ = some v := fun off n l hc => by
    obtain ⟨c, h1, h2, rfl⟩ := cellsAt_spec hc
    obtain ⟨C, e, fr, h3, h4, h5⟩ := h.row h1
    refine ⟨((C.toList.take c.length).drop off).take n, (h5.drop off).take n, by simp; omega, fun W1 hW1 j v hj => ?_⟩
    have hjn : j < n := by
      have := (List.getElem?_eq_some_iff.1 hj).1
      simp at this
      omega
    rw [List.getElem?_take_of_lt hjn, List.getElem?_drop, List.getElem?_take_of_lt (by omega)] at hj
    simp only [World.cell?, hW1, h3]
    simpa using hj
  unfold ldS at hs
  split at hs
  · next d hu =>
    split at hs
    · next hd =>
      split at hs
      · next i hi =>
        split at hs
        · next l hc =>
          simp only [Option.some.injEq] at hs
          subst hs
          obtain ⟨vs, hv, hl, hcell⟩ := rng off i.size l hc
          exact ⟨_, .agg hv, fun W1 hW1 => run_loadVar_mid (P := P) W1 _ off T vs d (fun j v hj => hcell W1 hW1 j v hj) hu hd (by rw [hl, hi]; rfl)⟩
        · cases hs
      · cases hs
    · next hd =>
      split at hs
      · next s' hc =>
        simp only [Option.some.injEq] at hs
        subst hs
        obtain ⟨vs, hv, hl, hcell⟩ := rng off 1 _ hc
        cases hv with
        | @cons _ u _ us hs ht =>
          refine ⟨u, hs, fun W1 hW1 => ?_⟩
          have h0 := hcell W1 hW1 0 u rfl
          simp only [Nat.add_zero] at h0
          unfold loadVar isAgg underlying
          simp only [program, Sem.run_bind, Sem.run, Result.andThen_ok, hu]
          cases d <;> first
            | (simp [TypeDesc.isRow] at hd; done)
            | (simp [load, Sem.run, h0, Sem.run_bind, Sem.run_pure]; done)
      · exact ldB_run (P := P) h hs hu hd
  · cases hs
theorem ldS_alive {H : Hp} {T off : Nat} {b : Pos} {s : SVal} (hs : ldS P H T b off = some s) : H.at b ≠ .gone := fun e => by
  have hc : ∀ off n, cellsAt H b off n = none := fun off n => by unfold cellsAt; rw [e]; rfl
  unfold ldS at hs
  repeat' split at hs
  all_goals first
    | (cases hs; done)
    | (rw [e] at hs; cases hs; done)
    | (rename_i hh; rw [hc] at hh; cases hh)
/-- what a load that may be overtaken will read -/
def LK (P : Program) (ops : Array Oper) (l : List (Oper × Cls)) (τ : Nat → Sl) (val : Nat → SVal) (ρ0 : Pl) (listed : Array Bool) (W : World) : Prop :=
  ∀ (j : Nat) (o : Oper) (T : TypeId) (d : Tmp) (b : Pos) (off r k : Nat), l[j]? = some (o, .look) → o.op = .load T (.tmp d) → listed.getD j false = false → wantS ops (τ j) o = true → gt unset (Pos.of d) (τ j) = .ptr b off → ρ0 b = some (r, k) →
    ∃ v, VR ρ0 (val j) v ∧ ∀ W1 : World, W1.heap[r]? = W.heap[r]? → (loadVar T ⟨r, off, none⟩).run P W1 = .ok v W1
theorem LK.keep (h : LK P ops l τ val ρ0 listed W) (hi : i < listed.size) (hw : ∀ (j : Nat) (o : Oper) (T : TypeId) (d : Tmp) (b : Pos) (off r k : Nat), l[j]? = some (o, .look) → o.op = .load T (.tmp d) → listed.getD j false = false → j ≠ i → wantS ops (τ j) o = true → gt unset (Pos.of d) (τ j) = .ptr b off → ρ0 b = some (r, k) → W'.heap[r]? = W.heap[r]?) :
    LK P ops l τ val ρ0 (listed.setIfInBounds i true) W' := fun j o T d b off r k hj hop hl hwant hslot hb => by
  have hji : j ≠ i := fun e => by subst e; rw [getD_set_i hi] at hl; cases hl
  rw [getD_set_j (Ne.symm hji)] at hl
  obtain ⟨v, hv, hrun⟩ := h j o T d b off r k hj hop hl hwant hslot hb
  exact ⟨v, hv, fun W1 hW1 => hrun W1 (hW1.trans (hw j o T d b off r k hj hop hl hji hwant hslot hb))⟩
/-- what a step of a load that may be overtaken says -/
theorem Trace.look (T : Trace P G cl n0 ops l τ η val) {j : Nat} {o : Oper} {ty : TypeId} {d : Tmp} {b : Pos} {off : Nat} (hj : l[j]? = some (o, .look)) (hop : o.op = .load ty (.tmp d)) (hw : wantS ops (τ j) o = true) (hs : gt unset (Pos.of d) (τ j) = .ptr b off) :
    η (j + 1) = η j ∧ b.nat < n0 ∧ ldS P (η j) ty b off = some (val j) := by
  rcases (T.step j _ hj).2 with ⟨_, h⟩ | ⟨h, _⟩
  · obtain ⟨h1, h2, E, h3⟩ := xcls_look h
    have hev : ev G (τ j) (.tmp d) = .ptr b off := hs
    refine ⟨h1, ?_, ?_⟩
    · unfold lookOld at h2
      simp only [hop, hev] at h2
      exact Nat.blt_eq.mp h2
    · unfold xop at h3
      simp only [hop, hev] at h3
      split at h3 <;> try (cases h3; done)
      next s' hl =>
      simp only [Option.some.injEq, Prod.mk.injEq] at h3
      rw [hl, h3.1]
  · have h' : wantS ops (τ j) o = false := h
    rw [hw] at h'; cases h'
theorem putOk_ne {o : Oper} {t : Sl} {ds : List Tmp} {T : TypeId} {x y : Operand} {bt b : Pos} {ot off : Nat} {d : Tmp} (h : putOk G o t ds = true) (hop : o.op = .store T x y) (hx : ev G t x = .ptr bt ot) (hd : d ∈ ds) (hb : gt unset (Pos.of d) t = .ptr b off) : b ≠ bt := fun e => by
  subst e
  unfold putOk at h
  simp only [hop, hx] at h
  rw [List.all_eq_true] at h
  have := h d hd
  simp only [hb, Nat.beq_refl] at this
  cases this
theorem xop_store {o : Oper} {t : Sl} {H H' : Hp} {s : SVal} {T : TypeId} {x y : Operand} (hop : o.op = .store T x y) (h : xop P G cl o t H = some (s, H')) : ∃ bt off, ev G t x = .ptr bt off ∧ s = unset ∧ (P.info? T).map (·.size) = some (ev G t y).cells.length ∧ oneAll (ev G t y).cells = true ∧ putG H bt off (ev G t y).cells = some H' := by
  unfold xop at h
  simp only [hop] at h
  unfold xStore at h
  split at h <;> try (cases h; done)
  next bt off ti he hti =>
  split at h <;> try (cases h; done)
  next H'' h1 h2 hput =>
  simp only [Option.some.injEq, Prod.mk.injEq] at h
  obtain ⟨rfl, rfl⟩ := h
  exact ⟨bt, off, he, rfl, by rw [hti]; simp only [Option.map_some]; rw [Nat.eq_of_beq_eq_true h1], h2, hput⟩
theorem putAt_other {H H' : Hp} {b b' : Pos} {off : Nat} {l : List SVal} (h : putAt H b off l = some H') (hne : b' ≠ b) : H'.at b' = H.at b' := by
  obtain ⟨c, e, g, hb, _, h2, rfl⟩ := putAt_spec h
  exact Hp.set_other _ _ hne
theorem putAt_alive {H H' : Hp} {b : Pos} {off : Nat} {l : List SVal} (h : putAt H b off l = some H') : H.at b ≠ .gone := fun e => by
  obtain ⟨c, e', g, hb, _⟩ := putAt_spec h
  rw [e] at hb
  cases hb
theorem putG_other {H H' : Hp} {b b' : Pos} {off : Nat} {l : List SVal} (h : putG H b off l = some H') (hne : b' ≠ b) : H'.at b' = H.at b' := by
  rcases putG_cases h with h | h
  · exact putAt_other h hne
  · obtain ⟨n, z, q, e, s, hb, _, _, h2, rfl⟩ := putBig_spec h
    exact Hp.set_other _ _ hne
theorem putG_alive {H H' : Hp} {b : Pos} {off : Nat} {l : List SVal} (h : putG H b off l = some H') : H.at b ≠ .gone := fun e => by
  rcases putG_cases h with h | h
  · exact putAt_alive h e
  · obtain ⟨n, z, q, e', s, hb, _⟩ := putBig_spec h
    rw [e] at hb
    cases hb
theorem isStore_op {o : Op} (h : isStore o = true) : ∃ T x y, o = .store T x y := by
  cases o <;> first | exact ⟨_, _, _, rfl⟩ | cases h
/-- the block of a load that has been overtaken by nothing but stores elsewhere -/
theorem look_keep (hpl : PlanOk ops l) (T : Trace P G cl n0 ops l τ η val) (hcl : ∀ f args H s H', cl f args H = some (s, H') → Sub H H') {j : Nat} {o : Oper} {ty : TypeId} {d : Tmp} {b : Pos} {off : Nat} (hj : l[j]? = some (o, .look)) (hop : o.op = .load ty (.tmp d)) (hs : gt unset (Pos.of d) (τ j) = .ptr b off)
    (hb : b.nat < (η j).next.nat) : ∀ i, j ≤ i → i ≤ l.length → (∀ k, j < k → k < i → ∀ p, l[k]? = some p → p.2.isBar = true → ¬ Pre ops k j) → (η i).at b = (η j).at b ∧ gt unset (Pos.of d) (τ i) = .ptr b off := by
  obtain ⟨T', d', h1, h2, _⟩ := hpl.lookOp j _ hj rfl
  have hdd : d' = d := by rw [hop] at h1; simp only [Op.load.injEq, Operand.tmp.injEq] at h1; exact h1.2.symm
  subst hdd
  intro i
  induction i with
  | zero => intro hji _ _; have : j = 0 := by omega
            subst this; exact ⟨rfl, hs⟩
  | succ i ih =>
    intro hji hil hno
    by_cases hjeq : j = i + 1
    · subst hjeq; exact ⟨rfl, hs⟩
    · obtain ⟨g1, g2⟩ := ih (by omega) (by omega) (fun k e1 e2 p hp hb => hno k e1 (by omega) p hp hb)
      have hlt : i < l.length := by omega
      have hp := List.getElem?_eq_getElem hlt
      generalize l[i] = p at hp
      have hbi : b.nat < (η i).next.nat := Nat.lt_of_lt_of_le hb (T.sub hcl (show j ≤ i by omega) (by omega)).next
      have hslot : gt unset (Pos.of d') (τ (i + 1)) = .ptr b off := by
        rw [(T.step i p hp).1, setS_other _ _ _ _ (h2 i p (by omega) hp)]; exact g2
      refine ⟨?_, hslot⟩
      rw [← g1]
      cases hbar : p.2.isBar with
      | false => exact T.keep1 hcl hp hbar hbi
      | true =>
        rcases (T.step i p hp).2 with ⟨_, hx⟩ | ⟨_, _, he⟩
        · have hji2 : j < i := by
            rcases Nat.lt_or_eq_of_le (show j ≤ i by omega) with h | h
            · exact h
            · subst h; rw [hj] at hp; simp only [Option.some.injEq] at hp; rw [← hp] at hbar; cases hbar
          rcases hpl.lookBar i j p _ ty d' hji2 hp hj rfl hop hbar with h | ⟨ds, hc, hd⟩
          · exact absurd h (hno i hji2 (by omega) p hp hbar)
          · rw [hc] at hx
            cases hst0 : isStore p.1.op with
            | true =>
              obtain ⟨k1, k2⟩ := xcls_put hst0 hx
              obtain ⟨T2, x2, y2, hst⟩ := isStore_op hst0
              obtain ⟨bt, ot, e1, _, _, _, e5⟩ := xop_store hst k2
              exact putG_other e5 (putOk_ne k1 hst e1 hd g2)
            | false =>
              obtain ⟨bs, E, hb, _, h2⟩ := xcls_cput hst0 hx
              rw [h2]
              exact unlock_in _ _ b bs ((lockL_spec hb).1 d' hd b off g2)
        · rw [he]
/-- whichever operation comes up -/
theorem RInv.step (hpl : PlanOk ops l) (T : Trace P G cl n0 ops l τ η val) (hcl : ∀ f args H s H', cl f args H = some (s, H') → Sub H H') (hok : ClOk P G cl) (htidy : (η 0).Tidy) (hg : ∀ g b, G g = some b → b.nat < (η 0).next.nat ∧ ∃ k, ρ0 b = some (g, k)) (hfresh0 : ∀ b x, ρ0 b = some x → b.nat < (η 0).next.nat)
    (hN : ∀ (j : Nat) (p : Oper × Cls) (d : Tmp), l[j]? = some p → p.1.dst = some d → d < N) (hn0 : n0 = (η 0).next.nat) (inv : RInv D ops l τ η val ρ0 W0 N listed q ρ a W) (lk : LK P ops l τ val ρ0 listed W) (hi : i ∈ Region.ready .any ops listed) :
    wpOp P ops Q i (fun a' W' => (∃ q' ρ', RInv D ops l τ η val ρ0 W0 N (listed.setIfInBounds i true) q' ρ' a' W') ∧ LK P ops l τ val ρ0 (listed.setIfInBounds i true) W') a W := by
  obtain ⟨hun, o, ho, hall⟩ := mem_ready.1 hi
  obtain ⟨c, hp⟩ := hpl.at_ i o ho
  have hil : i < l.length := (List.getElem?_eq_some_iff.1 hp).1
  have hn : listed.getD i false = false := by rw [← getD_two (by rw [inv.size, ← hpl.len]; exact hil)]; exact hun
  have hr : ∀ oi, ops[i]? = some oi → ∀ e ∈ oi.after, Region.binds .any e = true → listed.getD e.on false = true := fun oi hoi e he hb => by
    rw [ho] at hoi
    simp only [Option.some.injEq] at hoi
    subst hoi
    exact hall e he hb
  have htid : (η i).Tidy := (T.sub hcl (Nat.zero_le i) (by omega)).tidy htidy
  have hlooks := inv.looks hpl T hcl hp hn hr
  have hheld := inv.held hpl T hcl hp hn hr
  have hglob : Globs G (ρ.below (η i).next.nat) := fun g b hgb => by
    obtain ⟨h1, k, h2⟩ := hg g b hgb
    have := (T.sub hcl (Nat.zero_le i) (by omega)).next
    exact ⟨k, by rw [Pl.below_lt (by omega), inv.agree b h1]; exact h2⟩
  have hopnds : Opnds G (ρ.below (η i).next.nat) (τ i) a o := opnds_of hglob hlooks
  have hwant := want_eq (ops := ops) hlooks
  have f5 : (o, c).2.isBar = false → ∀ r, Safe (ρ.below (η i).next.nat) ((o, c).2.heap (η i)) r := fun hb r => nonbar_safe hb r
  have his : i < listed.size := by rw [inv.size, ← hpl.len]; exact hil
  have hlt0 : ∀ (b : Pos) r k, ρ0 b = some (r, k) → b.nat < (η 0).next.nat → r < W.heap.size := fun b r k hb hbn => inv.lt b r k (by rw [inv.agree b hbn]; exact hb)
  unfold wpOp
  simp only [ho]
  rcases (T.step i _ hp).2 with ⟨hw, hx⟩ | ⟨hw, hval, heta⟩
  · rw [if_pos (by rw [← hwant]; exact hw)]
    refine .inl ?_
    by_cases hlook : c = .look
    · -- a load that may have been overtaken
      subst hlook
      obtain ⟨ty, d, hop, _, _⟩ := hpl.lookOp i _ hp rfl
      have hop' : o.op = .load ty (.tmp d) := hop
      have hvd : VR (ρ.below (η i).next.nat) (gt unset (Pos.of d) (τ i)) (a.eval (.tmp d)) := hopnds (.tmp d) (by rw [hop']; simp [Op.operands])
      have hptr : ∃ b off, gt unset (Pos.of d) (τ i) = .ptr b off := by
        obtain ⟨_, h2, _⟩ := xcls_look hx
        unfold lookOld at h2
        simp only [hop'] at h2
        split at h2 <;> try (cases h2; done)
        next b off he => exact ⟨b, off, he⟩
      obtain ⟨b, off, hslot⟩ := hptr
      obtain ⟨heta, hbn, hld⟩ := T.look hp hop' hw hslot
      rw [hn0] at hbn
      rw [hslot] at hvd
      generalize hev : a.eval (.tmp d) = va at hvd
      cases hvd with
      | @ptr _ _ r k hrb =>
        have hρ : ρ0 b = some (r, k) := by rw [← inv.agree b hbn]; exact (Pl.below_some hrb).2
        obtain ⟨v, hv, hrun⟩ := lk i o ty d b off r k hp hop' hn hw hslot hρ
        have hrun' : (execOp a.eval o).run P W = .ok (.value v) W := by
          unfold execOp
          simp only [hop', hev, Instr.loadAt, Instr.sureAddr, Sem.run_bind, Sem.run_pure, Result.andThen_ok, hrun W rfl]
        unfold Oper.wp
        rw [hrun']
        have hle : ρ0.le (ρ.below (η i).next.nat) := fun b' x' hx' => by
          have hb0 : b'.nat < (η 0).next.nat := hfresh0 b' x' hx'
          rw [Pl.below_lt (Nat.lt_of_lt_of_le hb0 (T.sub hcl (Nat.zero_le i) (by omega)).next), inv.agree b' hb0]; exact hx'
        have hst : Stp (ρ.below (η i).next.nat) (ρ.below (η i).next.nat) ((o, Cls.look).2.heap (η i)) ((o, Cls.look).2.heap (η i)) W W := Stp.refl fun b hb => by rw [heap_next] at hb; exact Pl.below_ge hb
        exact ⟨inv.core hpl hcl T hN hp hn hr (heap_next _ _) hst (hv.mono hle) hheld (by rw [heta, heap_next]) (fun b hb => by rw [heta]; exact .inl (htid b hb)) (fun hb => by cases hb) f5 (fun hb => by cases hb), lk.keep his fun _ _ _ _ _ _ _ _ _ _ _ _ _ _ _ => rfl⟩
    · have hcontI : ∀ (b : Pos) x, ρ b = some x → b.nat < (η i).next.nat → c.heapy = true → ∃ m, Cont η l.length q b ((η i).at b) m := fun b x hbx hlt hheapy => by
        have hstage := inv.stage hpl hp hheapy hn hr
        obtain ⟨y, m, hy⟩ := Cont.some (η := η) l.length (Nat.le_refl _) hcl T inv.qle (b := b) (Nat.lt_of_lt_of_le hlt (T.sub hcl (show i ≤ l.length by omega) (Nat.le_refl _)).next)
        obtain ⟨h3, _⟩ := Cont.at hcl T hstage.1 (by omega) hstage.2 hlt hy
        rw [h3] at hy
        exact ⟨m, hy⟩
      by_cases hlk : isLocked c o = true
      · -- a call that may overtake loads: their blocks are locked
        obtain ⟨ds, rfl, hst0⟩ := isLocked_spec hlk
        obtain ⟨bs, E', hbs, hxop, hfin⟩ := xcls_cput hst0 hx
        obtain ⟨hbs1, hbs2⟩ := lockL_spec hbs
        have hbar : (o, Cls.put ds).2.isBar = true := rfl
        have hheld' : Held (ρ.below (η i).next.nat) (η i) W := hheld
        have hEg : GlobsH G (ρ.below (η i).next.nat) (lockH (η i) bs) := fun g b hgb => by
          obtain ⟨k, hk⟩ := hglob g b hgb
          exact ⟨by rw [(lockH_next _ _).1]; exact (Pl.below_some hk).1, k, hk⟩
        have hdoes := xop_run hok (lock_tidy hbs2 htid) hEg (lock_held hbs2 hheld') hopnds hxop
        unfold Oper.wp
        refine ends_upon hdoes fun v W' hgood => ?_
        obtain ⟨σ, hst1, hv, hh1⟩ := hgood
        obtain ⟨hst, hh, hworld⟩ := unlock_run hbs2 htid hheld' hst1 hh1
        refine ⟨inv.core hpl hcl T hN hp hn hr (heap_next _ _) hst hv hh (by rw [hfin]) (fun b hb => by rw [hfin]; exact .inr rfl) (fun _ => ⟨fun _ => by rw [hfin], fun _ => rfl, rfl⟩) f5 (fun hb j hji hjn b h1 h2 => ?_), lk.keep his fun j oj tj d b off r k hj hopj hjn hji hwj hsj hb0 => ?_⟩
        · have hbn : b.nat < (η i).next.nat := Nat.lt_of_lt_of_le h2 (T.sub hcl (show j + 1 ≤ i by omega) (by omega)).next
          by_cases hgone : (η i).at b = .gone
          · exact (T.sub1 hcl hp).dead b hbn (by rw [hgone]; rfl)
          · have hjl : j < l.length := by omega
            have hpj := List.getElem?_eq_getElem hjl
            generalize l[j] = pj at hpj
            have hnot : ∀ h : Pre ops i j, False := fun h => by have := h.listed inv.closed hr; rw [hjn] at this; cases this
            cases hk : pj.2.heapy with
            | true => exact (hnot (hpl.heap i j _ pj hji hp hpj (.inl ⟨hb, hk⟩))).elim
            | false =>
              cases hnw : pj.2.isNew with
              | false =>
                exfalso
                apply hgone
                have hj1 : (η (j + 1)).at b = .gone := by
                  have htj : (η j).Tidy := (T.sub hcl (Nat.zero_le j) (by omega)).tidy htidy
                  rcases (T.step j pj hpj).2 with ⟨_, hxj⟩ | ⟨_, _, hej⟩
                  · cases hlj : pj.2.isLook with
                    | true => rw [look_eq hlj] at hxj; rw [(xcls_look hxj).1]; exact htj b h1
                    | false =>
                      have hcj : pj.2 = .pure := by cases h : pj.2 <;> rw [h] at hk hnw hlj <;> first | rfl | (cases hk; done) | (cases hnw; done) | (cases hlj; done)
                      obtain ⟨Ej, _, hfj⟩ := xcls_split hlj (by rw [hcj]; rfl) hxj
                      rw [hfj, hcj]
                      exact htj b h1
                  · rw [hej]; exact htj b h1
                exact ((T.sub hcl (show j + 1 ≤ i by omega) (by omega)).dead b h2 (by rw [hj1]; rfl)).trans hj1
              | true =>
                rcases hpl.news i j _ pj hji hp hpj hb hnw with hs | hs
                · rw [hst0] at hs; cases hs
                · exact (hnot hs).elim
        · -- the block of a load that waits is locked
          obtain ⟨hetaj, hbn, hld⟩ := T.look hj hopj hwj hsj
          rw [hn0] at hbn
          have hjl : j < l.length := (List.getElem?_eq_some_iff.1 hj).1
          obtain ⟨_, d', hd1, _, hnob⟩ := hpl.lookOp j _ hj rfl
          have hji2 : j < i := by
            rcases Nat.lt_trichotomy j i with h | h | h
            · exact h
            · exact absurd h hji
            · have := hnob i _ h hp; cases this
          have hnoPre : ∀ k, j < k → k ≤ i → ∀ p, l[k]? = some p → p.2.isBar = true → ¬ Pre ops k j := fun k h1 h2 p hp' hb hpre => by
            rcases Nat.lt_or_eq_of_le h2 with h | h
            · have hik : Pre ops i k := hpl.heap i k _ p h hp hp' (.inr ⟨hb, rfl⟩)
              have hk := hik.listed inv.closed hr
              have := hpre.listed inv.closed (fun oi hoi e he hb => inv.closed k oi hoi hk e he hb)
              rw [hjn] at this; cases this
            · subst h
              have := hpre.listed inv.closed hr
              rw [hjn] at this; cases this
          have hbj : b.nat < (η j).next.nat := Nat.lt_of_lt_of_le hbn (T.sub hcl (Nat.zero_le j) (by omega)).next
          obtain ⟨hkeep, hslot⟩ := look_keep hpl T hcl hj hopj hsj hbj i (by omega) (by omega) (fun k h1 h2 p hp' hb => hnoPre k h1 (by omega) p hp' hb)
          have hdin : d ∈ ds := by
            rcases hpl.lookBar i j _ _ tj d hji2 hp hj rfl hopj rfl with h | ⟨ds', h3, h4⟩
            · exact absurd h (hnoPre i hji2 (Nat.le_refl _) _ hp rfl)
            · simp only [Cls.put.injEq] at h3; rw [h3]; exact h4
          have hbi : b.nat < (η i).next.nat := Nat.lt_of_lt_of_le hbn (T.sub hcl (Nat.zero_le i) (by omega)).next
          exact hworld b (hbs1 d hdin b off hslot) r k (by rw [Pl.below_lt hbi, inv.agree b hbn]; exact hb0)
      by_cases hput : ∃ ds, c = .put ds
      · -- a store that may overtake loads
        obtain ⟨ds, rfl⟩ := hput
        have hst0 : isStore o.op = true := by simpa [isLocked] using hlk
        obtain ⟨hpo, hxop⟩ := xcls_put hst0 hx
        obtain ⟨ty, x, y, hop⟩ := isStore_op hst0
        have hop' : o.op = .store ty x y := hop
        obtain ⟨bt, ot, e1, e2, e3, e4, e5⟩ := xop_store hop' hxop
        have hvx : VR (ρ.below (η i).next.nat) (ev G (τ i) x) (a.eval x) := hopnds x (by rw [hop']; simp [Op.operands])
        have hvy : VR (ρ.below (η i).next.nat) (ev G (τ i) y) (a.eval y) := hopnds y (by rw [hop']; simp [Op.operands])
        rw [e1] at hvx
        have hbt : ∃ r k, ρ.below (η i).next.nat bt = some (r, k) := by generalize a.eval x = vx at hvx; cases hvx with | @ptr _ _ r k hr => exact ⟨r, k, hr⟩
        obtain ⟨rt, kt, hrt⟩ := hbt
        obtain ⟨W', hrun, hst, hh, hfr⟩ := d_store_run (P := P) hop' hheld hvx hvy e3 e4 e5
        have hfr := hfr rt kt hrt
        unfold Oper.wp
        rw [hrun]
        have hbar : (o, Cls.put ds).2.isBar = true := rfl
        refine ⟨inv.core hpl hcl T hN hp hn hr (heap_next _ _) hst (by rw [e2]; exact .v _) hh rfl (fun b hb => .inr rfl) (fun _ => ⟨fun _ => rfl, fun _ => rfl, rfl⟩) f5 (fun _ j hji hjn b h1 h2 => ?_), lk.keep his fun j oj tj d b off r k hj hopj hjn hji hwj hsj hb0 => ?_⟩
        · have hne : b ≠ bt := fun e => by
            subst e
            obtain ⟨_, hbs⟩ := Pl.below_some hrt
            rcases inv.home b _ hbs with h3 | ⟨j', hj', hjl', h3, h4⟩
            · have := (T.sub hcl (Nat.zero_le j) (by omega)).next; omega
            · have : j' = j := by
                rcases Nat.lt_trichotomy j' j with h | h | h
                · have := (T.sub hcl (show j' + 1 ≤ j by omega) (by omega)).next; omega
                · exact h
                · have := (T.sub hcl (show j + 1 ≤ j' by omega) (by omega)).next; omega
              rw [this, hjn] at hj'; cases hj'
          exact putG_other e5 hne
        · -- the block of a load that waits is another one
          obtain ⟨hetaj, hbn, hld⟩ := T.look hj hopj hwj hsj
          rw [hn0] at hbn
          have hjl : j < l.length := (List.getElem?_eq_some_iff.1 hj).1
          obtain ⟨_, d', hd1, _, hnob⟩ := hpl.lookOp j _ hj rfl
          have hji2 : j < i := by
            rcases Nat.lt_trichotomy j i with h | h | h
            · exact h
            · exact absurd h hji
            · have := hnob i _ h hp; cases this
          have hnoPre : ∀ k, j < k → k ≤ i → ∀ p, l[k]? = some p → p.2.isBar = true → ¬ Pre ops k j := fun k h1 h2 p hp' hb hpre => by
            rcases Nat.lt_or_eq_of_le h2 with h | h
            · have hik : Pre ops i k := hpl.heap i k _ p h hp hp' (.inr ⟨hb, rfl⟩)
              have hk := hik.listed inv.closed hr
              have := hpre.listed inv.closed (fun oi hoi e he hb => inv.closed k oi hoi hk e he hb)
              rw [hjn] at this; cases this
            · subst h
              have := hpre.listed inv.closed hr
              rw [hjn] at this; cases this
          have hbj : b.nat < (η j).next.nat := Nat.lt_of_lt_of_le hbn (T.sub hcl (Nat.zero_le j) (by omega)).next
          obtain ⟨hkeep, hslot⟩ := look_keep hpl T hcl hj hopj hsj hbj i (by omega) (by omega) (fun k h1 h2 p hp' hb => hnoPre k h1 (by omega) p hp' hb)
          have hdin : d ∈ ds := by
            rcases hpl.lookBar i j _ _ tj d hji2 hp hj rfl hopj rfl with h | ⟨ds', h3, h4⟩
            · exact absurd h (hnoPre i hji2 (Nat.le_refl _) _ hp rfl)
            · simp only [Cls.put.injEq] at h3; rw [h3]; exact h4
          have hne : b ≠ bt := putOk_ne hpo hop' e1 hdin hslot
          have hρb : ρ b = some (r, k) := by rw [inv.agree b hbn]; exact hb0
          obtain ⟨hbtn, hbts⟩ := Pl.below_some hrt
          have hbi : b.nat < (η i).next.nat := Nat.lt_of_lt_of_le hbn (T.sub hcl (Nat.zero_le i) (by omega)).next
          obtain ⟨m1, hc1⟩ := hcontI b _ hρb hbi rfl
          obtain ⟨m2, hc2⟩ := hcontI bt _ hbts hbtn rfl
          exact hfr r (inv.apart b bt r k rt kt _ _ m1 m2 hne hρb hbts hc1 hc2 (by rw [hkeep]; exact ldS_alive hld) (putG_alive e5))
      · have hnl : c.isLook = false := by cases h : c.isLook with
          | false => rfl
          | true => exact absurd (look_eq h) hlook
        obtain ⟨E', hxop, hfin⟩ := xcls_split hnl (by simpa using hlk) hx
        have hsub := xop_sub hcl hxop
        have hEt : ((o, c).2.heap (η i)).Tidy := by
          cases c with
          | pure => exact fun b _ => leaf_at _ _ b
          | new => exact fun b _ => leaf_at _ _ b
          | quiet => exact htid
          | read => exact htid
          | bar => exact htid
          | look => cases hnl
          | put ds => exact absurd ⟨ds, rfl⟩ hput
        have hEg : GlobsH G (ρ.below (η i).next.nat) ((o, c).2.heap (η i)) := fun g b hgb => by
          obtain ⟨k, hk⟩ := hglob g b hgb
          exact ⟨by rw [heap_next]; exact (Pl.below_some hk).1, k, hk⟩
        have hdoes := xop_run hok hEt hEg hheld hopnds hxop
        unfold Oper.wp
        refine ends_upon hdoes fun v W' hgood => ?_
        obtain ⟨σ, hst, hv, hh⟩ := hgood
        refine ⟨inv.core hpl hcl T hN hp hn hr (heap_next _ _) hst hv hh (by rw [hfin, fin_next _ _ _ (fun hcs => by
            rcases hcs with h | h | h
            · exact xop_same (hpl.same i _ hp (.inl h)) hxop
            · exact xop_same (hpl.same i _ hp (.inr h)) hxop
            · exact absurd h hlook)]) (fun b hb => by rw [hfin]; exact fin_new hsub htid hb) (fun hb => ⟨fun b => by rw [hfin, bar_fin hb], fun b => by rw [bar_heap hb], by rw [bar_heap hb]⟩) f5 (fun hb j hji hjn b h1 h2 => ?_), lk.keep his fun j oj tj d b off r k hj hopj hjn hji hwj hsj hb0 => ?_⟩
        · have hbn : b.nat < (η i).next.nat := Nat.lt_of_lt_of_le h2 (T.sub hcl (show j + 1 ≤ i by omega) (by omega)).next
          by_cases hgone : (η i).at b = .gone
          · exact (T.sub1 hcl hp).dead b hbn (by rw [hgone]; rfl)
          · have hjl : j < l.length := by omega
            have hpj := List.getElem?_eq_getElem hjl
            generalize l[j] = pj at hpj
            have hnot : ∀ h : Pre ops i j, False := fun h => by have := h.listed inv.closed hr; rw [hjn] at this; cases this
            cases hk : pj.2.heapy with
            | true => exact (hnot (hpl.heap i j _ pj hji hp hpj (.inl ⟨hb, hk⟩))).elim
            | false =>
              cases hnw : pj.2.isNew with
              | false =>
                exfalso
                apply hgone
                have hj1 : (η (j + 1)).at b = .gone := by
                  have htj : (η j).Tidy := (T.sub hcl (Nat.zero_le j) (by omega)).tidy htidy
                  rcases (T.step j pj hpj).2 with ⟨_, hxj⟩ | ⟨_, _, hej⟩
                  · cases hlj : pj.2.isLook with
                    | true => rw [look_eq hlj] at hxj; rw [(xcls_look hxj).1]; exact htj b h1
                    | false =>
                      have hcj : pj.2 = .pure := by cases h : pj.2 <;> rw [h] at hk hnw hlj <;> first | rfl | (cases hk; done) | (cases hnw; done) | (cases hlj; done)
                      obtain ⟨Ej, _, hfj⟩ := xcls_split hlj (by rw [hcj]; rfl) hxj
                      rw [hfj, hcj]
                      exact htj b h1
                  · rw [hej]; exact htj b h1
                exact ((T.sub hcl (show j + 1 ≤ i by omega) (by omega)).dead b h2 (by rw [hj1]; rfl)).trans hj1
              | true =>
                rcases hpl.news i j _ pj hji hp hpj hb hnw with hs | hs
                · obtain ⟨ty, x, y, hop⟩ := isStore_op hs
                  have hop' : o.op = .store ty x y := hop
                  have hb' : c.isBar = true := hb
                  rw [bar_heap hb'] at hxop
                  obtain ⟨bt, ot, e1, _, _, _, e5⟩ := xop_store hop' hxop
                  have hvx : VR (ρ.below (η i).next.nat) (ev G (τ i) x) (a.eval x) := hopnds x (by rw [hop']; simp [Op.operands])
                  rw [e1] at hvx
                  have hne : b ≠ bt := fun e => by
                    subst e
                    generalize a.eval x = vx at hvx
                    cases hvx with
                    | @ptr _ _ r0 k0 hr0 =>
                      obtain ⟨_, hbs⟩ := Pl.below_some hr0
                      rcases inv.home b _ hbs with h3 | ⟨j', hj', hjl', h3, h4⟩
                      · have := (T.sub hcl (Nat.zero_le j) (by omega)).next; omega
                      · have : j' = j := by
                          rcases Nat.lt_trichotomy j' j with h | h | h
                          · have := (T.sub hcl (show j' + 1 ≤ j by omega) (by omega)).next; omega
                          · exact h
                          · have := (T.sub hcl (show j + 1 ≤ j' by omega) (by omega)).next; omega
                        rw [this, hjn] at hj'; cases hj'
                  rw [hfin, bar_fin hb]
                  exact putG_other e5 hne
                · exact (hnot hs).elim
        · -- a load that waits reads what it read
          obtain ⟨_, hbn, _⟩ := T.look hj hopj hwj hsj
          rw [hn0] at hbn
          cases hbar : c.isBar with
          | false => exact hst.frame r (hlt0 b r k hb0 hbn) (f5 hbar r)
          | true =>
            exfalso
            obtain ⟨_, _, _, _, hnob⟩ := hpl.lookOp j _ hj rfl
            rcases Nat.lt_trichotomy j i with h | h | h
            · rcases hpl.lookBar i j _ _ tj d h hp hj rfl hopj hbar with h2 | ⟨ds, h3, _⟩
              · have := h2.listed inv.closed hr; rw [hjn] at this; cases this
              · exact hput ⟨ds, h3⟩
            · exact hji h
            · have := hnob i _ h hp
              have hb' : c.isBar = false := this
              rw [hbar] at hb'; cases hb'
  · rw [if_neg (by rw [← hwant, hw]; exact fun e => by cases e)]
    have hst : Stp (ρ.below (η i).next.nat) (ρ.below (η i).next.nat) ((o, c).2.heap (η i)) ((o, c).2.heap (η i)) W W := Stp.refl fun b hb => by rw [heap_next] at hb; exact Pl.below_ge hb
    exact ⟨inv.core hpl hcl T hN hp hn hr (heap_next _ _) hst (by rw [hval]; exact .v _) hheld (by rw [heta, heap_next]) (fun b hb => by rw [heta]; exact .inl (htid b hb)) (fun hb => ⟨fun b => by rw [heta, bar_heap hb], fun b => by rw [bar_heap hb], by rw [bar_heap hb]⟩) f5 (fun hb j hji hjn b h1 h2 => by rw [heta]), lk.keep his fun _ _ _ _ _ _ _ _ _ _ _ _ _ _ _ => rfl⟩
end
end Go.Proofs.YtjflmmipjeangaaGreatDoor.Sx
end
/-
  The executor, regions: drawn or not, a region leaves what the executor says.
-/
section
set_option linter.unusedVariables false
set_option linter.unusedSimpArgs false
namespace Go.Proofs.YtjflmmipjeangaaGreatDoor.Sx
open Go.RowKit

/-- how many numbers below n are not listed -/
def cnt (listed : Array Bool) : Nat → Nat
  | 0 => 0
  | n + 1 => cnt listed n + if listed.getD n true = true then 0 else 1
theorem cnt_set_ge {listed : Array Bool} {i : Nat} : ∀ n, n ≤ i → cnt (listed.setIfInBounds i true) n = cnt listed n
  | 0, _ => rfl
  | n + 1, h => by
    unfold cnt
    rw [cnt_set_ge n (by omega)]
    have : (listed.setIfInBounds i true).getD n true = listed.getD n true := by simp [Array.getElem?_setIfInBounds_ne (show i ≠ n by omega)]
    rw [this]
theorem cnt_set_lt {listed : Array Bool} {i : Nat} (hi : listed.getD i true = false) : ∀ n, i < n → cnt (listed.setIfInBounds i true) n + 1 = cnt listed n
  | 0, h => by omega
  | n + 1, h => by
    unfold cnt
    by_cases hin : i = n
    · subst hin
      have hs : i < listed.size := by
        rcases Nat.lt_or_ge i listed.size with h' | h'
        · exact h'
        · simp [Array.getElem?_eq_none h'] at hi
      have : (listed.setIfInBounds i true).getD i true = true := by simp [hs]
      rw [cnt_set_ge i (Nat.le_refl _), this, hi]
      simp
    · have := cnt_set_lt hi n (by omega)
      have e : (listed.setIfInBounds i true).getD n true = listed.getD n true := by simp [Array.getElem?_setIfInBounds_ne hin]
      rw [e]; omega
theorem cnt_zero {listed : Array Bool} : ∀ n, cnt listed n = 0 → ∀ i, i < n → listed.getD i true = true
  | 0, _, i, h => by omega
  | n + 1, h, i, hi => by
    unfold cnt at h
    by_cases hin : i = n
    · subst hin
      by_cases hb : listed.getD i true = true
      · exact hb
      · rw [if_neg hb] at h; omega
    · exact cnt_zero n (by omega) i (by omega)
theorem cnt_full : ∀ (n m : Nat), n ≤ m → cnt (Array.replicate m false) n = n
  | 0, _, _ => rfl
  | n + 1, m, h => by
    unfold cnt
    rw [cnt_full n m (by omega)]
    have : (Array.replicate m false).getD n true = false := by simp [show n < m by omega]
    rw [this]; simp
section
variable {D : List Deferred} {P : Program} {G : Gl} {cl : FuncId → List SVal → Hp → Out} {n0 : Nat} {ops : Array Oper} {l : List (Oper × Cls)} {τ : Nat → Sl} {η : Nat → Hp} {val : Nat → SVal}
variable {ρ0 ρ σ : Pl} {W0 W W' : World} {N q i : Nat} {listed : Array Bool} {a : Act} {p : Oper × Cls} {Q : Exit → Act → World → Prop}
theorem Held.below_self (h : Held ρ0 (η 0) W0) : ρ0.below (η 0).next.nat = ρ0 := by
  funext b
  by_cases hb : b.nat < (η 0).next.nat
  · exact Pl.below_lt hb
  · rw [Pl.below_ge (by omega), h.fresh b (by omega)]
theorem RInv.init (hpl : PlanOk ops l) (T : Trace P G cl n0 ops l τ η val) (hcl : ∀ f args H s H', cl f args H = some (s, H') → Sub H H') (h : Held ρ0 (η 0) W0) (hf : FrR D ρ0 N (τ 0) a) : RInv D ops l τ η val ρ0 W0 N (Array.replicate ops.size false) 0 ρ0 a W0 := by
  have hno : ∀ j, (Array.replicate ops.size false).getD j false = false := fun j => by
    by_cases hj : j < ops.size <;> simp [hj]
  have hb := h.below_self
  have hlt : ∀ b x, ρ0 b = some x → b.nat < (η 0).next.nat := fun b x hx => Nat.lt_of_not_le fun hle => by rw [h.fresh b hle] at hx; cases hx
  have hc : ∀ b x y m, ρ0 b = some x → Cont η l.length 0 b y m → y = (η 0).at b ∧ m = (η 0).next.nat := fun b x y m hx hc => by
    rcases hc with ⟨h1, rfl, rfl⟩ | ⟨j, h1, h2, h3, h4, rfl, rfl⟩
    · exact ⟨rfl, rfl⟩
    · have := (T.sub hcl (Nat.zero_le j) (by omega)).next
      have := hlt b x hx
      omega
  refine ⟨by simp, fun j oj _ hj => (by rw [hno] at hj; cases hj), Nat.zero_le _, fun j p _ _ hj => (by rw [hno] at hj; cases hj), fun h0 => (by omega), fun j _ _ h0 => (by omega), fun b x hx => .inl (hlt b x hx), fun b r k x m hx hcx => ?_, h.lt, ?_, fun j p d _ _ hj => (by rw [hno] at hj; cases hj), ?_, hf.size, hf.defers, fun _ _ => rfl, rfl, rfl, rfl, Nat.le_refl _, fun _ _ _ => rfl, fun b r k hb0 hx => ?_⟩
  · obtain ⟨rfl, rfl⟩ := hc b _ x m hx hcx
    rw [hb]; exact h.obj b r k hx
  · intro b b' r k r' k' x x' m m' hne hx hx' hcx hcx' hg hg'
    obtain ⟨rfl, _⟩ := hc b _ x m hx hcx
    obtain ⟨rfl, _⟩ := hc b' _ x' m' hx' hcx'
    exact h.apart b b' r k r' k' hne hx hx' hg hg'
  · intro d _
    have := hf.slot (Pos.of d)
    rw [Pos.nat_of] at this
    rw [hb]; exact this
  · have := hlt b _ hx; omega
theorem ldS_congr {H H' : Hp} {T off : Nat} {b : Pos} (h : H.at b = H'.at b) : ldS P H T b off = ldS P H' T b off := by
  have hc : ∀ off n, cellsAt H b off n = cellsAt H' b off n := fun off n => by unfold cellsAt; rw [h]
  unfold ldS
  simp only [hc, h]
theorem LK.init (hpl : PlanOk ops l) (T : Trace P G cl n0 ops l τ η val) (hcl : ∀ f args H s H', cl f args H = some (s, H') → Sub H H') (hn0 : n0 = (η 0).next.nat) (h : Held ρ0 (η 0) W0) : LK P ops l τ val ρ0 listed W0 := fun j o ty d b off r k hj hop _ hw hs hb => by
  obtain ⟨_, hbn, hld⟩ := T.look hj hop hw hs
  rw [hn0] at hbn
  have hjl : j < l.length := (List.getElem?_eq_some_iff.1 hj).1
  obtain ⟨_, _, _, _, hnob⟩ := hpl.lookOp j _ hj rfl
  have hk : (η j).at b = (η 0).at b := T.keep hcl (Nat.zero_le j) (by omega) (fun k p _ h2 hp => hnob k p h2 hp) hbn
  rw [ldS_congr hk] at hld
  exact ldS_has (h.obj b r k hb) hld
/-- what a region leaves -/
structure Left (D : List Deferred) (ρ : Pl) (H : Hp) (W : World) (N : Nat) (t' : Sl) (H' : Hp) (a' : Act) (W' : World) : Prop where
  ex : ∃ σ, Stp ρ σ H H' W W' ∧ FrR D σ N t' a' ∧ Held σ H' W'
theorem RInv.finish (hpl : PlanOk ops l) (T : Trace P G cl n0 ops l τ η val) (hcl : ∀ f args H s H', cl f args H = some (s, H') → Sub H H') (inv : RInv D ops l τ η val ρ0 W0 N listed q ρ a W) (hall : ∀ j, j < l.length → listed.getD j false = true) :
    Left D ρ0 (η 0) W0 N (τ l.length) (η l.length) a W := by
  have hbars : ∀ k p, q ≤ k → k < l.length → l[k]? = some p → p.2.isBar = false := fun k p h1 h2 h3 => by
    cases hb : p.2.isBar with
    | false => rfl
    | true => have := inv.qbar k p h3 hb (hall k h2); omega
  have hlt : ∀ b x, ρ b = some x → b.nat < (η l.length).next.nat := fun b x hx => by
    rcases inv.home b x hx with h | ⟨j, _, hj, _, h⟩
    · have := (T.sub hcl (Nat.zero_le l.length) (Nat.le_refl _)).next; omega
    · have := (T.sub hcl (show j + 1 ≤ l.length by omega) (Nat.le_refl _)).next; omega
  have hcont : ∀ b x, ρ b = some x → ∃ m, Cont η l.length q b ((η l.length).at b) m := fun b x hx => by
    obtain ⟨y, m, hy⟩ := Cont.some (η := η) l.length (Nat.le_refl _) hcl T inv.qle (hlt b x hx)
    obtain ⟨h1, _⟩ := Cont.at hcl T inv.qle (Nat.le_refl _) hbars (hlt b x hx) hy
    rw [h1] at hy
    exact ⟨m, hy⟩
  have hs := T.sub hcl (Nat.zero_le l.length) (Nat.le_refl _)
  refine ⟨ρ, ⟨inv.agree, hs.low, hs.next, fun b h1 h2 => hs.old b h1 h2, hs.dead, inv.os, inv.tape, inv.output, inv.size0, inv.frame, inv.born⟩, ⟨inv.tsize, inv.defers, fun p => ?_⟩, ⟨fun b hb => ?_, inv.lt, fun b r k hx => ?_, fun b b' r k r' k' hne hx hx' hg hg' => ?_⟩⟩
  · by_cases hw : ∃ (j : Nat) (pj : Oper × Cls), l[j]? = some pj ∧ pj.1.dst = some p.nat
    · obtain ⟨j, pj, hj, hdj⟩ := hw
      have hjl := (List.getElem?_eq_some_iff.1 hj).1
      have := T.slot_new hpl.one (Nat.le_refl _) hjl hj hdj
      rw [Pos.of_nat] at this
      rw [this]
      exact (inv.slotW j pj p.nat hj hdj (hall j hjl)).mono (Pl.below_le ρ _)
    · have := T.slot_old (d := p.nat) (Nat.le_refl _) (fun j pj _ hj e => hw ⟨j, pj, hj, e⟩)
      rw [Pos.of_nat] at this
      rw [this]
      have := inv.slotO p.nat fun j pj hj hdj => absurd ⟨j, pj, hj, hdj⟩ hw
      rw [Pos.of_nat] at this
      exact this.mono (Pl.below_le ρ _)
  · cases hx : ρ b with
    | none => rfl
    | some x => have := hlt b x hx; omega
  · obtain ⟨m, hm⟩ := hcont b _ hx
    exact (inv.obj b r k _ m hx hm).mono (Pl.below_le ρ m)
  · obtain ⟨m, hm⟩ := hcont b _ hx
    obtain ⟨m', hm'⟩ := hcont b' _ hx'
    exact inv.apart b b' r k r' k' _ _ m m' hne hx hx' hm hm' hg hg'
theorem ready_some (hpl : PlanOk ops l) (hs : listed.size = ops.size) : ∀ i, i < l.length → listed.getD i true = false → ∃ j, j ∈ Region.ready .any ops listed := by
  intro i
  induction i using Nat.strongRecOn with
  | ind i ih =>
    intro hi hn
    have hio : i < ops.size := by rw [← hpl.len]; exact hi
    by_cases hr : ∀ e ∈ (ops[i]).after, Region.binds .any e = true → listed.getD e.on false = true
    · exact ⟨i, mem_ready.2 ⟨hn, ops[i], by simp [hio], hr⟩⟩
    · have : ∃ e ∈ (ops[i]).after, Region.binds .any e = true ∧ listed.getD e.on false ≠ true := Classical.byContradiction fun hc => hr fun e he hb => Classical.byContradiction fun hx => hc ⟨e, he, hb, hx⟩
      obtain ⟨e, he, hbe, hx⟩ := this
      have hlt := hpl.edges i ops[i] e (by simp [hio]) he hbe
      exact ih e.on hlt (by omega) (by rw [getD_two (by omega)]; simpa using hx)
theorem any_run (hpl : PlanOk ops l) (T : Trace P G cl n0 ops l τ η val) (hcl : ∀ f args H s H', cl f args H = some (s, H') → Sub H H') (hok : ClOk P G cl) (htidy : (η 0).Tidy) (hg : ∀ g b, G g = some b → b.nat < (η 0).next.nat ∧ ∃ k, ρ0 b = some (g, k)) (hfresh0 : ∀ b x, ρ0 b = some x → b.nat < (η 0).next.nat) (hn0 : n0 = (η 0).next.nat)
    (hN : ∀ (j : Nat) (p : Oper × Cls) (d : Tmp), l[j]? = some p → p.1.dst = some d → d < N) (hQ : ∀ a' W', Left D ρ0 (η 0) W0 N (τ l.length) (η l.length) a' W' → Q .normal a' W') :
    ∀ (fuel : Nat) (listed : Array Bool) (q : Nat) (ρ : Pl) (a : Act) (W : World), cnt listed l.length = fuel → RInv D ops l τ η val ρ0 W0 N listed q ρ a W → LK P ops l τ val ρ0 listed W → wpAny P .any ops Q fuel listed a W := by
  intro fuel
  induction fuel with
  | zero =>
    intro listed q ρ a W hc inv lk
    have hall := cnt_zero l.length hc
    refine ⟨?_, hQ _ _ (inv.finish hpl T hcl fun j hj => by rw [← getD_two (by rw [inv.size, ← hpl.len]; exact hj)]; exact hall j hj)⟩
    cases hr : Region.ready .any ops listed with
    | nil => rfl
    | cons i _ =>
      have hi : i ∈ Region.ready .any ops listed := by rw [hr]; simp
      obtain ⟨hun, o, ho, _⟩ := mem_ready.1 hi
      have := hall i (by rw [hpl.len]; exact (Array.getElem?_eq_some_iff.1 ho).1)
      rw [hun] at this; cases this
  | succ fuel ih =>
    intro listed q ρ a W hc inv lk
    refine ⟨fun hr => ?_, fun i hi => ?_⟩
    · exfalso
      have : ∃ i, i < l.length ∧ listed.getD i true = false := Classical.byContradiction fun hx => by
        have : ∀ n, n ≤ l.length → cnt listed n = 0 := by
          intro n
          induction n with
          | zero => intro _; rfl
          | succ n ihn =>
            intro hn
            unfold cnt
            rw [ihn (by omega)]
            have : listed.getD n true = true := by
              cases hb : listed.getD n true with
              | true => rfl
              | false => exact absurd ⟨n, by omega, hb⟩ hx
            rw [this]; simp
        rw [this _ (Nat.le_refl _)] at hc; omega
      obtain ⟨i, hi, hn⟩ := this
      obtain ⟨j, hj⟩ := ready_some hpl inv.size i hi hn
      rw [hr] at hj; cases hj
    · obtain ⟨hun, o, ho, _⟩ := mem_ready.1 hi
      have hil : i < l.length := by rw [hpl.len]; exact (Array.getElem?_eq_some_iff.1 ho).1
      have hc' := cnt_set_lt hun l.length hil
      exact wpOp_mono (fun a' W' ⟨⟨q', ρ', inv'⟩, lk'⟩ => ih _ q' ρ' a' W' (by omega) inv' lk') (inv.step hpl T hcl hok htidy hg hfresh0 hN hn0 lk hi)

/-- a region whose order is not drawn -/
theorem ops_run (T : Trace P G cl n0 ops l τ η val) (hcl : ∀ f args H s H', cl f args H = some (s, H') → Sub H H') (hok : ClOk P G cl) (hl : l = ops.toList.map fun o => (o, Cls.bar)) (htidy : (η 0).Tidy) (hg : ∀ g b, G g = some b → b.nat < (η 0).next.nat ∧ ∃ k, ρ0 b = some (g, k))
    (hN : ∀ (j : Nat) (p : Oper × Cls) (d : Tmp), l[j]? = some p → p.1.dst = some d → d < N) (hQ : ∀ a' W', Left D ρ0 (η 0) W0 N (τ l.length) (η l.length) a' W' → Q .normal a' W') :
    ∀ (d i : Nat) (a : Act) (W : World), i + d = l.length → Left D ρ0 (η 0) W0 N (τ i) (η i) a W → wpOps P ops Q (List.range' i d) a W := by
  intro d
  induction d with
  | zero =>
    intro i a W hi h
    have : i = l.length := by omega
    subst this
    exact hQ _ _ h
  | succ d ih =>
    intro i a W hi h
    have hil : i < l.length := by omega
    have hlen : l.length = ops.size := by rw [hl]; simp
    have hio : i < ops.size := by omega
    have ho : ops[i]? = some ops[i] := by simp [hio]
    have hp : l[i]? = some (ops[i], Cls.bar) := by rw [hl, List.getElem?_map, Array.getElem?_toList, ho]; rfl
    obtain ⟨σ, hst, hf, hh⟩ := h.ex
    have hglob : Globs G σ := fun g b hgb => by
      obtain ⟨h1, k, h2⟩ := hg g b hgb
      exact ⟨k, by rw [hst.agree b h1]; exact h2⟩
    rw [List.range'_succ, wpOps_cons]
    unfold wpOp
    simp only [ho]
    have hlooks : ∀ d ∈ (ops[i]).looksAt ops, VR σ (gt unset (Pos.of d) (τ i)) (a.tmps.getD d undef) := fun d _ => by have := hf.slot (Pos.of d); rwa [Pos.nat_of] at this
    have hwant := want_eq (ops := ops) hlooks
    have next : ∀ v τ' W', Stp σ τ' (η i) (η (i + 1)) W W' → VR τ' (val i) v → Held τ' (η (i + 1)) W' → Left D ρ0 (η 0) W0 N (τ (i + 1)) (η (i + 1)) (a.put (ops[i]).dst v) W' := fun v τ' W' h1 h2 h3 => by
      refine ⟨τ', hst.trans h1, ?_, h3⟩
      rw [(T.step i _ hp).1]
      have hf' := hf.mono (h1.le hh.fresh)
      cases hd : (ops[i]).dst with
      | none => simp only [hd, setS]; exact hf'
      | some d =>
        simp only [hd, setS]
        have := hf'.put (d := Pos.of d) (by rw [Pos.nat_of]; exact hN i _ d hp hd) h2
        rwa [Pos.nat_of] at this
    rcases (T.step i _ hp).2 with ⟨hw, hx⟩ | ⟨hw, hval, heta⟩
    · rw [if_pos (by rw [← hwant]; exact hw)]
      refine .inl ?_
      have hgh : GlobsH G σ (η i) := GlobsH.step hg hst
      have hdoes := xop_run hok ((T.sub hcl (Nat.zero_le i) (by omega)).tidy htidy) hgh hh (hf.opnds hglob _) (show xop P G cl ops[i] (τ i) (η i) = some (val i, η (i + 1)) from by rw [← prep_run]; exact hx)
      unfold Oper.wp
      exact ends_upon hdoes fun v W' ⟨τ', h1, h2, h3⟩ => ih (i + 1) _ _ (by omega) (next v τ' W' h1 h2 h3)
    · rw [if_neg (by rw [← hwant, hw]; exact fun e => by cases e)]
      refine ih (i + 1) _ _ (by omega) (next undef σ W ?_ ?_ ?_)
      · rw [heta]; exact Stp.refl hh.fresh
      · rw [hval]; exact .v _
      · rw [heta]; exact hh
end
section
variable (P : Program) (G : Gl) (cl : FuncId → List SVal → Hp → Out)
/-- a region by the plan in which calls may write -/
noncomputable def runC (ops : Array Oper) (t : Sl) (H : Hp) : Option (Sl × Hp) :=
  match planW clsC ops with
  | some l => runL P G cl H.next.nat ops l t H
  | none => none
/-- a region -/
noncomputable def runR (ops : Array Oper) (draw : Bool) (t : Sl) (H : Hp) : Option (Sl × Hp) :=
  match draw with
  | false => runL P G cl H.next.nat ops (ops.toList.map fun o => (o, Cls.bar)) t H
  | true => match planR ops true with
    | some l => match runL P G cl H.next.nat ops l t H with
      | some r => some r
      | none => runC P G cl ops t H
    | none => runC P G cl ops t H
end
theorem plan_run {D : List Deferred} {P : Program} {G : Gl} {cl : FuncId → List SVal → Hp → Out} {ops : Array Oper} {l : List (Oper × Cls)} {t t' : Sl} {H H' : Hp} {ρ : Pl} {W : World} {N id : Nat} {a : Act} {Q : Exit → Act → World → Prop} (hcl : ∀ f args H s H', cl f args H = some (s, H') → Sub H H') (hok : ClOk P G cl)
    (hm : P.follows .mixedOrders = true) (htidy : H.Tidy) (hg : ∀ g b, G g = some b → b.nat < H.next.nat ∧ ∃ k, ρ b = some (g, k)) (hN : ∀ (j : Nat) (o : Oper) (d : Tmp), ops[j]? = some o → o.dst = some d → d < N) (hpl : PlanOk ops l) (hr : runL P G cl H.next.nat ops l t H = some (t', H'))
    (hf : FrR D ρ N t a) (hh : Held ρ H W) (hQ : ∀ a' W', Left D ρ H W N t' H' a' W' → Q .normal a' W') : (Code.region id ops true).wp P Q a W := by
  obtain ⟨τ, η, val, T, rfl, rfl, rfl, rfl⟩ := runL_trace l t H hr
  have hN' : ∀ (j : Nat) (p : Oper × Cls) (d : Tmp), l[j]? = some p → p.1.dst = some d → d < N := fun j p d hp hd => hN j p.1 d (hpl.back j p.1 p.2 hp) hd
  refine wp_region_any hm ?_
  have inv := RInv.init (W0 := W.drew) hpl T hcl hh.drew hf
  refine any_run hpl T hcl hok htidy hg (fun b x hx => Nat.lt_of_not_le fun hle => by rw [hh.fresh b hle] at hx; cases hx) rfl hN' (fun a' W' h => hQ a' W' ?_) ops.size _ 0 ρ a _ (by rw [hpl.len]; exact cnt_full ops.size ops.size (Nat.le_refl _)) inv (LK.init hpl T hcl rfl hh.drew)
  obtain ⟨σ, h1, h2, h3⟩ := h.ex
  exact ⟨σ, h1.drew, h2, h3⟩
theorem region_run {D : List Deferred} {P : Program} {G : Gl} {cl : FuncId → List SVal → Hp → Out} {ops : Array Oper} {draw : Bool} {t t' : Sl} {H H' : Hp} {ρ : Pl} {W : World} {N id : Nat} {a : Act} {Q : Exit → Act → World → Prop} (hcl : ∀ f args H s H', cl f args H = some (s, H') → Sub H H') (hok : ClOk P G cl)
    (hm : P.follows .mixedOrders = true) (htidy : H.Tidy) (hg : ∀ g b, G g = some b → b.nat < H.next.nat ∧ ∃ k, ρ b = some (g, k)) (hN : ∀ (j : Nat) (o : Oper) (d : Tmp), ops[j]? = some o → o.dst = some d → d < N) (hr : runR P G cl ops draw t H = some (t', H'))
    (hf : FrR D ρ N t a) (hh : Held ρ H W) (hQ : ∀ a' W', Left D ρ H W N t' H' a' W' → Q .normal a' W') : (Code.region id ops draw).wp P Q a W := by
  cases draw with
  | true =>
    have alt : runC P G cl ops t H = some (t', H') → (Code.region id ops true).wp P Q a W := fun h => by
      unfold runC at h
      split at h <;> try (cases h; done)
      next l hl => exact plan_run hcl hok hm htidy hg hN (planW_ok hl) h hf hh hQ
    unfold runR at hr
    simp only at hr
    split at hr
    · next l hl =>
      split at hr
      · next r hrl =>
        simp only [Option.some.injEq] at hr
        subst hr
        exact plan_run hcl hok hm htidy hg hN (planR_ok hl) hrl hf hh hQ
      · exact alt hr
    · exact alt hr
  | false =>
    unfold runR at hr
    simp only at hr
    generalize hl' : (ops.toList.map fun o => (o, Cls.bar)) = l at hr
    obtain ⟨τ, η, val, T, rfl, rfl, rfl, rfl⟩ := runL_trace l t H hr
    have hl' := hl'.symm
    have hlen : l.length = ops.size := by rw [hl']; simp
    have hN' : ∀ (j : Nat) (p : Oper × Cls) (d : Tmp), l[j]? = some p → p.1.dst = some d → d < N := fun j p d hp hd => by
      rw [hl', List.getElem?_map, Array.getElem?_toList] at hp
      cases ho : ops[j]? with
      | none => rw [ho] at hp; cases hp
      | some o =>
        rw [ho] at hp
        simp only [Option.map_some, Option.some.injEq] at hp
        subst hp
        exact hN j o d ho hd
    refine wp_region ?_
    rw [List.range_eq_range', ← hlen]
    exact ops_run T hcl hok hl' htidy hg hN' hQ l.length 0 a W (by omega) ⟨ρ, Stp.refl hh.fresh, hf, hh⟩
end Go.Proofs.YtjflmmipjeangaaGreatDoor.Sx
end
