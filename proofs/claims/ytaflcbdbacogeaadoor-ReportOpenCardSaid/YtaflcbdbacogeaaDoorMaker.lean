/-
  A region that draws its order: a head of operations that read or call functions that leave old memory alone, among them one that makes memory, and a tail that comes up one after the other.
-/
import Derived.Test.YtaflcbdbacogeaaDoorMix
import Derived.Test.YtaflcbdbacogeaaDoorSoft
set_option linter.unusedVariables false
set_option linter.unusedSimpArgs false
namespace Go.Proofs.YtaflcbdbacogeaaDoor
open Go.RowKit

/-- later memory keeps S -/
def Stable (S : World → Prop) : Prop := ∀ W W', S W → Ext W W' → S W'
/-- the worlds that extend w and meet S -/
def ExtS (w : World) (S : World → Prop) : Type := { W : World // Ext w W ∧ S W }
def ExtS.val {w : World} {S : World → Prop} (n : ExtS w S) : World := Subtype.val n
theorem ExtS.ext {w : World} {S : World → Prop} (n : ExtS w S) : Ext w n.val := n.2.1
theorem ExtS.st {w : World} {S : World → Prop} (n : ExtS w S) : S n.val := n.2.2
instance {w : World} {S : World → Prop} {b : Nat} [h : Old b w] (n : ExtS w S) : Old b n.val := ⟨Nat.lt_of_lt_of_le h.lt n.ext.size⟩
instance {w : World} {S : World → Prop} {b : Nat} {cs : Array Value} [h : Block w b cs] (n : ExtS w S) : Block n.val b cs := ⟨by obtain ⟨t, e⟩ := h.get; exact ⟨t, by rw [n.ext.block b h.lt]; exact e⟩⟩
theorem ExtS.cell {w : World} {S : World → Prop} (n : ExtS w S) (b o : Nat) [h : Old b w] : n.val.cell? ⟨b, o, none⟩ = w.cell? ⟨b, o, none⟩ := Below.cell (p := ⟨b, o, none⟩) n.ext h.lt
theorem ExtS.frozen {w : World} {S : World → Prop} (n : ExtS w S) (b o : Nat) [h : Old b w] : n.val.frozen? ⟨b, o, none⟩ = w.frozen? ⟨b, o, none⟩ := Below.frozen (p := ⟨b, o, none⟩) n.ext h.lt
theorem ExtS.of {w W : World} {S : World → Prop} (h : Ext w W) (h' : S W) : ∃ n : ExtS w S, W = n.val := ⟨⟨W, h, h'⟩, rfl⟩

section
variable {P : Program} {ops : Array Oper} {w0 : World} {A : Nat → Value → Prop} {F : Nat → Value → World → Prop}
theorem exts_call {f : FuncId} {args : Array Value} {w : World} {S : World → Prop} {n : ExtS w S} {v : Value} (hS : Stable S)
    (h : Calls P f args n.val fun e w' => e = .returned v ∧ ∃ m : ExtOf n.val, w' = m.val) : Calls P f args n.val fun e w'' => e = .returned v ∧ ∃ m : ExtS w S, w'' = m.val :=
  h.mono fun _ _ ⟨he, m, hm⟩ => ⟨he, ExtS.of (hm ▸ n.ext.trans m.ext) (hm ▸ hS _ _ n.st m.ext)⟩
/-- the soft head, whatever order is picked; then L -/
def wpAnySL (P : Program) (ops : Array Oper) (w0 : World) (A : Nat → Value → Prop) (F : Nat → Value → World → Prop) (hs : List Nat) (L : Array Bool → Act → Prop) : Nat → Array Bool → Act → Prop
  | 0, listed, a => L listed a
  | f + 1, listed, a => Region.ready .any ops listed ≠ [] ∧ ∀ i ∈ Region.ready .any ops listed, i ∈ hs ∧ sOp P ops w0 A F i (wpAnySL P ops w0 A F hs L f (listed.setIfInBounds i true)) a
theorem wpAnySL_first {hs ts : List Nat} {t0 i : Nat} {oi : Oper} {L : Array Bool → Act → Prop} (hi : ops[i]? = some oi) (hA : ∀ d, ∃ v, A d v) (h1w : oneWriter ops) (hsel : ∀ (j : Nat) (o : Oper) cs b, ops[j]? = some o → o.op ≠ .select cs b)
    (hsk : sinkL ops t0 hs = true) (hch : chainL ops t0 ts = true) (hsz : ∀ i ∈ hs, i < ops.size) (hin : i ∈ hs) (hdone : ∀ listed a, L listed a → ∀ j ∈ Region.ready .any ops listed, j ∈ t0 :: ts) :
    ∀ (f : Nat) (listed : Array Bool) (a : Act), InvL ops hs t0 ts listed →
      (∀ j oj, ops[j]? = some oj → j ≠ i → listed.getD j true = false → (∀ e ∈ oj.after, Region.binds .any e = true → e.on ≠ i) → oi.apart ops oj = true) →
      i ∈ Region.ready .any ops listed → SO P ops w0 A F oi a → (∀ v, Adm ops A oi a v → wpAnySL P ops w0 A F hs L f (listed.setIfInBounds i true) (a.put oi.dst v)) → wpAnySL P ops w0 A F hs L (f + 1) listed a := by
  have here : ∀ {K : Act → Prop} {a : Act}, SO P ops w0 A F oi a → (∀ v, Adm ops A oi a v → K (a.put oi.dst v)) → sOp P ops w0 A F i K a := fun {K a} h1 h2 => by
    unfold sOp; rw [hi]; exact ⟨h1, h2⟩
  intro f
  induction f with
  | zero =>
    intro listed a inv _ hr hy H
    have hun := (mem_ready.1 hr).1
    refine ⟨fun h => (by rw [h] at hr; cases hr), fun j hj => ?_⟩
    obtain ⟨hjn, hjt⟩ := head_only inv hsk hch hsz hin hun hj
    refine ⟨hjn, ?_⟩
    by_cases hji : j = i
    · subst hji; exact here hy H
    · obtain ⟨v, hv⟩ := Adm_some (ops := ops) hA oi a
      exact absurd (hdone _ _ (H v hv) j (ready_mono hj hji)) hjt
  | succ f ih =>
    intro listed a inv hfree hr hy H
    have hun := (mem_ready.1 hr).1
    refine ⟨fun h => (by rw [h] at hr; cases hr), fun j hj => ?_⟩
    obtain ⟨hjn, hjt⟩ := head_only inv hsk hch hsz hin hun hj
    refine ⟨hjn, ?_⟩
    by_cases hji : j = i
    · subst hji; exact here hy H
    · obtain ⟨hjun, oj, hoj, hall⟩ := mem_ready.1 hj
      obtain ⟨hiun, oi', hoi', halli⟩ := mem_ready.1 hr
      obtain rfl : oi = oi' := by rw [hi] at hoi'; exact Option.some.inj hoi'
      have notwait : ∀ (k : Nat), listed.getD k true = false → ∀ (ok : Oper), (∀ e ∈ ok.after, Region.binds .any e = true → listed.getD e.on false = true) → ∀ e ∈ ok.after, Region.binds .any e = true → e.on ≠ k := fun k hk ok hok e he hb heq => by
        have h1 := hok e he hb
        rw [heq, getD_both hk] at h1
        cases h1
      have hnot := notwait i hiun oj hall
      have hnoti := notwait j hjun oi halli
      obtain ⟨l1, l2, l3⟩ := Oper.apart_spec (hfree j oj hoj hji hjun hnot)
      have hfree' : ∀ k ok, ops[k]? = some ok → k ≠ i → (listed.setIfInBounds j true).getD k true = false →
          (∀ e ∈ ok.after, Region.binds .any e = true → e.on ≠ i) → oi.apart ops ok = true := fun k ok hk hki hun hno => by
        refine hfree k ok hk hki ?_ hno
        by_cases hjk : j = k
        · subst hjk; exact hjun
        · rw [getD_set_ne true hjk] at hun; exact hun
      have at1 : ∀ v, Adm ops A oi a v → SO P ops w0 A F oj (a.put oi.dst v) ∧ ∀ u, Adm ops A oj (a.put oi.dst v) u → wpAnySL P ops w0 A F hs L f ((listed.setIfInBounds i true).setIfInBounds j true) ((a.put oi.dst v).put oj.dst u) := fun v hv => by
        have := ((H v hv).2 j (ready_mono hj hji)).2
        unfold sOp at this
        rw [hoj] at this
        exact this
      obtain ⟨v0, hv0⟩ := Adm_some (ops := ops) hA oi a
      unfold sOp
      rw [hoj]
      refine ⟨(SO_put h1w hi hnot (fun cs b => hsel j oj cs b hoj) l1).1 (at1 v0 hv0).1, fun u hu => ?_⟩
      refine ih (listed.setIfInBounds j true) (a.put oj.dst u) (inv.set hj hjt) hfree' (ready_mono hr (Ne.symm hji)) ((SO_put h1w hoj hnoti (fun cs b => hsel i oi cs b hi) l3).2 hy) (fun v hv => ?_)
      rw [Adm_put l3] at hv
      have := (at1 v hv).2 u (by rw [Adm_put l1]; exact hu)
      rw [Array.setIfInBounds_comm _ _ (Ne.symm hji), Act.put_comm a v u l2] at this
      exact this
theorem wpAnySL_lex {hs0 ts : List Nat} {t0 : Nat} {Lq : Act → Prop} (hA : ∀ d, ∃ v, A d v) (h1w : oneWriter ops) (hsel : Region.noSelect ops = true) (hsk : sinkL ops t0 hs0 = true) (hch : chainL ops t0 ts = true) (hsz : ∀ i ∈ hs0, i < ops.size) (hdis : ∀ i ∈ hs0, i ∉ t0 :: ts) :
    ∀ (hs : List Nat) (l : List Oper) (listed : Array Bool) (a : Act), OpsAt ops hs l → (∀ i ∈ hs, i ∈ hs0) → (∀ i ∈ hs0, i ∈ hs ∨ listed.getD i false = true) → InvL ops hs0 t0 ts listed →
    lexL ops (t0 :: ts) hs listed = true → wpSoft P ops w0 A F Lq l a →
    wpAnySL P ops w0 A F hs0 (fun listed' a' => seqL ops (t0 :: ts) listed' = true ∧ Lq a' ∧ ∀ i ∈ hs0, listed'.getD i false = true) hs.length listed a
  | [], [], listed, a, _, _, hall, _, hB, h => ⟨by simpa [lexL] using hB, h, fun i hi => (hall i hi).resolve_left (by simp)⟩
  | k :: ks, o :: l, listed, a, hl, hsub, hall, inv, hB, h => by
    obtain ⟨h0, hl⟩ := hl
    simp only [lexL, Bool.and_eq_true] at hB
    obtain ⟨⟨hr, hf⟩, hB'⟩ := hB
    have hr' : k ∈ Region.ready .any ops listed := by simpa using hr
    exact wpAnySL_first h0 hA h1w (Region.noSelect_spec hsel) hsk hch hsz (hsub k (by simp)) (fun listed' a' hL => seqL_ready hL.1) ks.length listed a inv (Region.free_spec h0 hf) hr' h.1
      (fun v hv => wpAnySL_lex hA h1w hsel hsk hch hsz hdis ks l _ _ hl (fun i hi => hsub i (by simp [hi])) (fun i hi => by
        rcases hall i hi with h9 | h9
        · rcases List.mem_cons.1 h9 with rfl | h9
          · right
            have hlt : i < listed.size := by rw [inv.size]; exact hsz i hi
            simp [hlt]
          · exact .inl h9
        · exact .inr (getD_set_true h9)) (inv.set hr' (hdis k (hsub k (by simp)))) hB' (h.2 v hv))
  | [], _ :: _, _, _, hl, _, _, _, _, _ => hl.elim
  | _ :: _, [], _, _, hl, _, _, _, _, _ => hl.elim
theorem wpAny_of_softL {g : Nat} {hs : List Nat} {L : Array Bool → Act → Prop} {Q' : Exit → Act → World → Prop} (hst : ∀ d v w w', F d v w → Ext w w' → F d v w') (h1w : oneWriter ops) (hL : ∀ listed a w, mid ops w0 F listed a w → L listed a → wpAny P .any ops Q' g listed a w) :
    ∀ (f : Nat) (listed : Array Bool) (a : Act) (w : World), mid ops w0 F listed a w → wpAnySL P ops w0 A F hs L f listed a → wpAny P .any ops Q' (f + g) listed a w
  | 0, listed, a, w, hm, h => by rw [Nat.zero_add]; exact hL _ _ _ hm h
  | f + 1, listed, a, w, hm, h => by
    rw [show f + 1 + g = (f + g) + 1 by omega]
    refine ⟨fun h0 => absurd h0 h.1, fun i hi => ?_⟩
    have hso := (h.2 i hi).2
    obtain ⟨_, o, ho, hall⟩ := mem_ready.1 hi
    unfold sOp at hso
    rw [ho] at hso
    unfold wpOp
    rw [ho]
    obtain ⟨h1, h2⟩ := hso
    unfold SO at h1
    unfold Adm at h2
    by_cases hw : Region.wanted o (yielded ops a.tmps) = true
    · simp only [hw, if_true] at h1 h2 ⊢
      refine .inl ?_
      have h3 := h1 w hm.1 (fun e he hb oi d hoi hd => hm.2.2 e.on oi d (hall e he hb) hoi hd)
      have fin : ∀ v w', Ext w w' ∧ okDst A F o.dst v w' → wpAny P .any ops Q' (f + g) (listed.setIfInBounds i true) (a.put o.dst v) w' := fun v w' ⟨hx, hv⟩ => by
        refine wpAny_of_softL (hs := hs) hst h1w hL f _ _ _ (mid_put hst h1w ho hm hx hv) ?_
        cases hd : o.dst with
        | none => have := h2 undef (by rw [hd]; rfl); rw [hd] at this; exact this
        | some d => rw [hd] at hv h2; exact h2 v hv.1
      unfold Oper.wp
      generalize (execOp a.eval o).run P w = r at *
      cases r with
      | ok n w' =>
        cases n <;> simp only [endsWith] at h3 <;> simp only [Oper.upon]
        case value u => exact fin _ _ h3
        case skip => exact fin _ _ h3
        case enter f args => exact Calls.mono h3 fun e w'' ⟨v, he, hv⟩ => by subst he; exact fin _ _ hv
      | halt x w' => simp only [endsWith] at h3
    · simp only [hw] at h1 h2 ⊢
      exact wpAny_of_softL hst h1w hL f _ _ _ (mid_put hst h1w ho hm (Ext.refl w) (h1.2 w)) (h2 undef rfl)

/-- what a walk leaves in a slot that it does not write -/
theorem quiet_frame {C : World → Prop} {A' : Act} {d : Nat} : ∀ (l : List Oper) (a : Act), (∀ o ∈ l, o.dst ≠ some d) → wpQuiet P ops C (fun a' => a' = A') l a → A'.tmps.getD d undef = a.tmps.getD d undef
  | [], a, _, h => by have : a = A' := h; rw [this]
  | o :: l, a, hd, h => by
    have step : ∀ v, wpQuiet P ops C (fun a' => a' = A') l (a.put o.dst v) → A'.tmps.getD d undef = a.tmps.getD d undef := fun v hv => by
      rw [quiet_frame l _ (fun o' ho' => hd o' (by simp [ho'])) hv]
      cases hdo : o.dst with
      | none => rfl
      | some d' =>
        have hne : d' ≠ d := fun e => hd o (by simp) (by rw [hdo, e])
        simp [Act.put, Array.getElem?_setIfInBounds_ne hne]
    unfold wpQuiet at h
    split at h
    · obtain ⟨v, _, hv⟩ := h
      exact step v hv
    · exact step undef h
theorem quiet_size {C : World → Prop} {A' : Act} : ∀ (l : List Oper) (a : Act), wpQuiet P ops C (fun a' => a' = A') l a → A'.tmps.size = a.tmps.size
  | [], a, h => by have : a = A' := h; rw [this]
  | o :: l, a, h => by
    unfold wpQuiet at h
    split at h
    · obtain ⟨v, _, hv⟩ := h
      rw [quiet_size l _ hv, size_put]
    · rw [quiet_size l _ h, size_put]
/-- the head: operations that only read or call, and then one that makes memory -/
theorem soft_of_quiet {w : World} {A' : Act} {oM : Oper} {dM : Nat} {FM : Value → World → Prop} {Q : Act → Prop} (hdM : oM.dst = some dM)
    (hM : SO P ops w (fun d v => d = dM ∨ v = A'.tmps.getD d undef) (fun d v W => d = dM → FM v W) oM A') (hwM : Region.wanted oM (yielded ops A'.tmps) = true) (hQ : ∀ v, Q (A'.put (some dM) v)) :
    ∀ (l : List Oper) (a : Act), (∀ o ∈ l, ∃ d, o.dst = some d ∧ d ≠ dM ∧ d < a.tmps.size) → noTwice (l.filterMap (·.dst)) = true →
      (∀ S, Stable S → Nonempty (ExtS w S) → wpQuiet P ops (fun W => ∃ n : ExtS w S, W = n.val) (fun a' => a' = A') l a) →
      wpSoft P ops w (fun d v => d = dM ∨ v = A'.tmps.getD d undef) (fun d v W => d = dM → FM v W) Q (l ++ [oM]) a
  | [], a, _, _, h => by
    have : a = A' := h (fun _ => True) (fun _ _ _ _ => trivial) ⟨⟨w, Ext.refl w, trivial⟩⟩
    subst this
    refine ⟨hM, fun v _ => ?_⟩
    rw [hdM]
    exact hQ v
  | o :: l, a, hd, ht, h => by
    obtain ⟨d, hdo, hne, hlt⟩ := hd o (by simp)
    have ht' : noTwice (d :: l.filterMap (·.dst)) = true := by simpa [List.filterMap_cons, hdo] using ht
    have hnot : ∀ o' ∈ l, o'.dst ≠ some d := fun o' ho' e => by
      have := (List.nodup_cons.1 (noTwice_nodup ht')).1
      exact this (List.mem_filterMap.2 ⟨o', ho', e⟩)
    have hval : ∀ S, Stable S → ∀ v, wpQuiet P ops (fun W => ∃ n : ExtS w S, W = n.val) (fun a' => a' = A') l (a.put o.dst v) → v = A'.tmps.getD d undef := fun S _ v hv => by
      have := quiet_frame (d := d) l _ hnot hv
      rw [this, hdo]
      simp [Act.put, Array.getElem?_setIfInBounds_self_of_lt hlt]
    have htl : noTwice (l.filterMap (·.dst)) = true := by simp only [noTwice, Bool.and_eq_true] at ht'; exact ht'.2
    have hd' : ∀ v, ∀ o' ∈ l, ∃ d, o'.dst = some d ∧ d ≠ dM ∧ d < (a.put o.dst v).tmps.size := fun v o' ho' => by
      obtain ⟨d', e1, e2, e3⟩ := hd o' (by simp [ho'])
      exact ⟨d', e1, e2, by rw [size_put]; exact e3⟩
    by_cases hw : Region.wanted o (yielded ops a.tmps) = true
    · have hs : ∀ S, Stable S → Nonempty (ExtS w S) → (∀ W, (∃ n : ExtS w S, W = n.val) → o.quietAt P a (fun W => ∃ n : ExtS w S, W = n.val) W (A'.tmps.getD d undef)) ∧ wpQuiet P ops (fun W => ∃ n : ExtS w S, W = n.val) (fun a' => a' = A') l (a.put o.dst (A'.tmps.getD d undef)) := fun S hS hN => by
        have h0 := h S hS hN
        unfold wpQuiet at h0
        rw [if_pos hw] at h0
        obtain ⟨v, h1, h2⟩ := h0
        have e := hval S hS v h2
        subst e
        exact ⟨h1, h2⟩
      refine ⟨?_, fun v hv => ?_⟩
      · unfold SO
        rw [if_pos hw]
        intro W hx _
        have hSW : Stable (fun W1 => Ext W W1) := fun _ _ h1 h2 => h1.trans h2
        have h1 := (hs _ hSW ⟨⟨W, hx, Ext.refl W⟩⟩).1 W (ExtS.of hx (Ext.refl W))
        unfold Oper.quietAt at h1
        rw [hdo]
        generalize (execOp a.eval o).run P W = r at *
        cases r with
        | ok n w' =>
          cases n <;> simp only [Oper.quietUpon] at h1 <;> simp only [endsWith]
          case value u =>
            obtain ⟨e1, e2⟩ := h1
            rw [e1, e2]
            exact ⟨Ext.refl W, .inr rfl, fun e => absurd e hne⟩
          case skip =>
            obtain ⟨e1, e2⟩ := h1
            rw [e1]
            exact ⟨Ext.refl W, .inr e2.symm, fun e => absurd e hne⟩
          case enter f args =>
            obtain ⟨e1, hc⟩ := h1
            rw [e1]
            exact hc.mono fun e w'' ⟨he, n, hn⟩ => ⟨_, he, by rw [hn]; exact n.st, .inr rfl, fun e => absurd e hne⟩
        | halt x w' => simp only [Oper.quietUpon] at h1
      · unfold Adm at hv
        rw [if_pos hw, hdo] at hv
        have hv' : v = A'.tmps.getD d undef := (show d = dM ∨ v = A'.tmps.getD d undef from hv).resolve_left hne
        subst hv'
        exact soft_of_quiet hdM hM hwM hQ l _ (hd' _) htl (fun S hS hN => (hs S hS hN).2)
    · have hs : ∀ S, Stable S → Nonempty (ExtS w S) → wpQuiet P ops (fun W => ∃ n : ExtS w S, W = n.val) (fun a' => a' = A') l (a.put o.dst undef) := fun S hS hN => by
        have h0 := h S hS hN
        unfold wpQuiet at h0
        rw [if_neg hw] at h0
        exact h0
      have eu : undef = A'.tmps.getD d undef := hval (fun _ => True) (fun _ _ _ _ => trivial) undef (hs _ (fun _ _ _ _ => trivial) ⟨⟨w, Ext.refl w, trivial⟩⟩)
      refine ⟨?_, fun v hv => ?_⟩
      · unfold SO
        rw [if_neg hw, hdo]
        exact ⟨.inr eu, fun W => ⟨.inr eu, fun e => absurd e hne⟩⟩
      · unfold Adm at hv
        rw [if_neg hw] at hv
        subst hv
        exact soft_of_quiet hdM hM hwM hQ l _ (hd' _) htl hs
def makerB (ops : Array Oper) (l : List Oper) (n : Nat) (hs : List Nat) (t0 : Nat) (ts : List Nat) (dM : Nat) : Bool :=
  mixB ops (Array.replicate ops.size false) hs t0 ts && (hs.all fun i => decide (i < ops.size) && !((t0 :: ts).contains i)) && oneWriterB ops && (l.all fun o => match o.dst with | some d => !(Nat.beq d dM) && Nat.blt d n | none => false) && noTwice (l.filterMap (·.dst)) && (ops.toList.all fun o => match o.dst with | some d => Nat.blt d n | none => true)
/-- THE REGION: quiet operations, one that makes memory, a tail -/
theorem wp_region_maker {id : Nat} {Q : Exit → Act → World → Prop} {a : Act} {w : World} {l : List Oper} {A' : Act} (mh : List Bool) (iM : Nat) (mt : List Bool) (oM : Oper) (dM : Nat) (FM : Value → World → Prop) (t0 : Nat) (ts : List Nat) (hm : P.follows .mixedOrders = true) (hM : l[iM]? = some oM) (hdM : oM.dst = some dM)
    (hmt : idx 0 mt = t0 :: ts) (hlen : decide (mh.length ≤ l.length) && decide (mt.length ≤ l.length) = true) (hB : makerB l.toArray (part l mh) a.tmps.size (idx 0 mh ++ [iM]) t0 ts dM = true) (hf : l.length = (idx 0 mh).length + 1 + (t0 :: ts).length)
    (hst : ∀ v W W', FM v W → Ext W W' → FM v W')
    (hq' : ∀ S, Stable S → Nonempty (ExtS w S) → ∀ R : Act → Prop, R A' → wpQuiet P l.toArray (fun W => ∃ n : ExtS w S, W = n.val) R (part l mh) a)
    (hrun : Region.wanted oM (yielded l.toArray A'.tmps) = true ∧ ∀ W, Ext w W → ∃ v W', (execOp A'.eval oM).run P W = .ok (.value v) W' ∧ Ext W W' ∧ FM v W')
    (ht : ∀ v W, Ext w W → FM v W → wpList P l.toArray Q (part l mt) (A'.put (some dM) v) W) : (Code.region id l.toArray true).wp P Q a w := by
  have hq : ∀ S, Stable S → Nonempty (ExtS w S) → wpQuiet P l.toArray (fun W => ∃ n : ExtS w S, W = n.val) (fun a' => a' = A') (part l mh) a := fun S hS hN => hq' S hS hN _ rfl
  simp only [makerB, Bool.and_eq_true] at hB
  obtain ⟨⟨⟨⟨⟨hb1, hb2⟩, hb3⟩, hb4⟩, hb5⟩, hb6⟩ := hB
  simp only [Bool.and_eq_true, decide_eq_true_eq] at hlen
  have inv := mixB_inv hb1
  simp only [mixB, Bool.and_eq_true, decide_eq_true_eq, List.all_eq_true] at hb1
  obtain ⟨⟨⟨⟨⟨⟨⟨h1, h2⟩, h3⟩, h4⟩, h5⟩, h6⟩, h7⟩, h8⟩ := hb1
  have hs1 : ∀ i ∈ idx 0 mh ++ [iM], i < l.toArray.size := fun i hi => by
    have := List.all_eq_true.1 hb2 i hi
    simp only [Bool.and_eq_true, decide_eq_true_eq] at this
    exact this.1
  have hs2 : ∀ i ∈ idx 0 mh ++ [iM], i ∉ t0 :: ts := fun i hi => by
    have := List.all_eq_true.1 hb2 i hi
    simp only [Bool.and_eq_true, Bool.not_eq_true'] at this
    intro hmm
    have h9 := this.2
    rw [List.contains_iff_mem.2 hmm] at h9
    cases h9
  have h1w := oneWriter_of hb3
  have e1 := opsAt_part l mh l 0 hlen.1 (fun j => by simp)
  have e2 := opsAt_part l mt l 0 hlen.2 (fun j => by simp)
  rw [hmt] at e2
  have e3 : OpsAt l.toArray (idx 0 mh ++ [iM]) (part l mh ++ [oM]) := by
    have : ∀ (is : List Nat) (os : List Oper), OpsAt l.toArray is os → OpsAt l.toArray (is ++ [iM]) (os ++ [oM]) := by
      intro is
      induction is with
      | nil => intro os h; cases os with
        | nil => exact ⟨by simpa using hM, trivial⟩
        | cons o os => exact h.elim
      | cons i is ih => intro os h; cases os with
        | nil => exact h.elim
        | cons o os => exact ⟨h.1, ih os h.2⟩
    exact this _ _ e1
  have hA : ∀ d, ∃ v, (fun d v => d = dM ∨ v = A'.tmps.getD d undef) d v := fun d => ⟨A'.tmps.getD d undef, .inr rfl⟩
  have hstF : ∀ d v W W', (fun d v W => d = dM → FM v W) d v W → Ext W W' → (fun d v W => d = dM → FM v W) d v W' := fun d v W W' hF hx e => hst _ _ _ (hF e) hx
  have hsoft := soft_of_quiet (P := P) (ops := l.toArray) (w := w) (A' := A') (oM := oM) (dM := dM) (FM := FM) (Q := fun a' => ∃ v, a' = A'.put (some dM) v) hdM (by
      unfold SO
      rw [if_pos hrun.1]
      intro W hx _
      obtain ⟨v, W', hr, hx', hF⟩ := hrun.2 W hx
      rw [hr, hdM]
      exact ⟨hx', .inl rfl, fun _ => hF⟩) hrun.1 (fun v => ⟨v, rfl⟩) (part l mh) a (fun o ho => by
      have := List.all_eq_true.1 hb4 o ho
      cases hd : o.dst with
      | none => rw [hd] at this; cases this
      | some d =>
        rw [hd] at this
        simp only [Bool.and_eq_true, Bool.not_eq_true', Nat.blt_eq] at this
        exact ⟨d, rfl, fun e => by rw [e] at this; simp at this, this.2⟩) hb5 hq
  have H := wpAnySL_lex (P := P) hA h1w h1 h6 h7 hs1 hs2 _ _ (Array.replicate l.toArray.size false) a e3 (fun i hi => hi) (fun i hi => .inl hi) inv h8 hsoft
  refine wp_region_any hm ?_
  have hmid : mid l.toArray w (fun d v W => d = dM → FM v W) (Array.replicate l.toArray.size false) a w.drew := by
    refine ⟨Ext.drew (Ext.refl _), fun i oi d hi hd => ?_, fun i oi d hl => by rw [getD_replicate_false] at hl; cases hl⟩
    have hmem : oi ∈ l := List.mem_of_getElem? (by simpa using hi)
    have := List.all_eq_true.1 hb6 oi (by simpa using hmem)
    rw [hd] at this
    simpa [Nat.blt_eq] using this
  have := wpAny_of_softL (P := P) (Q' := Q) (g := (t0 :: ts).length) hstF h1w (fun listed' a' W hmd hL => by
    obtain ⟨hseq, ⟨v, rfl⟩, hall⟩ := hL
    refine wpAny_of_seqL (t0 :: ts) (part l mt) listed' _ W e2 hseq (ht v W hmd.1 ?_)
    have hlt : dM < a.tmps.size := by
      have hmem : oM ∈ l := List.mem_of_getElem? hM
      have := List.all_eq_true.1 hb6 oM (by simpa using hmem)
      rw [hdM] at this
      simpa [Nat.blt_eq] using this
    have hlis := hall iM (by simp)
    have := hmd.2.2 iM oM dM hlis (by simpa using hM) hdM rfl
    have hlt2 : dM < A'.tmps.size := by rw [quiet_size (part l mh) a (hq (fun _ => True) (fun _ _ _ _ => trivial) ⟨⟨_, Ext.refl _, trivial⟩⟩)]; exact hlt
    simpa [Act.put, Array.getElem?_setIfInBounds_self_of_lt hlt2] using this) (idx 0 mh ++ [iM]).length _ _ _ hmid H
  have hfu : l.toArray.size = (idx 0 mh ++ [iM]).length + (t0 :: ts).length := by simp at hf ⊢; omega
  rw [hfu]
  rw [← hfu] at this ⊢
  exact this
end
end Go.Proofs.YtaflcbdbacogeaaDoor
