/-
  A region that draws its order, some operations already carried out: the head (in an order that is named) leaves old memory alone, the tail comes up one after the other.
-/
import Derived.Test.YtaflcbdbacogeaaDoorQTail
set_option linter.unusedVariables false
set_option linter.unusedSimpArgs false
namespace Go.Proofs.YtaflcbdbacogeaaDoor
open Go.RowKit

section
variable {P : Program} {ops : Array Oper} {C : World → Prop}
def sinkL (ops : Array Oper) (t0 : Nat) : List Nat → Bool
  | [] => true
  | i :: rest => ((rest ++ [t0]).any fun j => Region.waitsFor .any ops j i) && sinkL ops t0 rest
def chainL (ops : Array Oper) : Nat → List Nat → Bool
  | _, [] => true
  | t, t' :: ts => Region.waitsFor .any ops t' t && chainL ops t' ts
def seqL (ops : Array Oper) : List Nat → Array Bool → Bool
  | [], listed => (Region.ready .any ops listed).isEmpty
  | t :: ts, listed => decide (Region.ready .any ops listed = [t]) && seqL ops ts (listed.setIfInBounds t true)
def lexL (ops : Array Oper) (ts : List Nat) : List Nat → Array Bool → Bool
  | [], listed => seqL ops ts listed
  | k :: ks, listed => (Region.ready .any ops listed).contains k && Region.free .any ops listed k && lexL ops ts ks (listed.setIfInBounds k true)
def closedB (ops : Array Oper) (listed : Array Bool) : Bool :=
  (List.range ops.size).all fun j => match ops[j]? with
    | some oj => !(listed.getD j false) || oj.after.all fun e => !(Region.binds .any e) || listed.getD e.on false
    | none => true
def coverB (ops : Array Oper) (listed : Array Bool) (hs ts : List Nat) : Bool := (List.range ops.size).all fun i => listed.getD i true || hs.contains i || ts.contains i
def mixB (ops : Array Oper) (listed : Array Bool) (hs : List Nat) (t0 : Nat) (ts : List Nat) : Bool :=
  Region.noSelect ops && decide (listed.size = ops.size) && closedB ops listed && ((t0 :: ts).all fun t => decide (t < ops.size) && !(listed.getD t true)) && coverB ops listed hs (t0 :: ts) && sinkL ops t0 hs && chainL ops t0 ts && lexL ops (t0 :: ts) hs listed

structure InvL (ops : Array Oper) (hs : List Nat) (t0 : Nat) (ts : List Nat) (listed : Array Bool) : Prop where
  size : listed.size = ops.size
  closed : ∀ j oj, ops[j]? = some oj → listed.getD j false = true → ∀ e ∈ oj.after, Region.binds .any e = true → listed.getD e.on false = true
  tail : ∀ t ∈ t0 :: ts, listed.getD t true = false
  cover : ∀ i, listed.getD i true = false → i ∈ hs ∨ i ∈ t0 :: ts

theorem InvL.set {hs ts : List Nat} {t0 i : Nat} {listed : Array Bool} (inv : InvL ops hs t0 ts listed) (hi : i ∈ Region.ready .any ops listed) (hin : i ∉ t0 :: ts) : InvL ops hs t0 ts (listed.setIfInBounds i true) := by
  obtain ⟨_, oi, hoi, hall⟩ := mem_ready.1 hi
  refine ⟨by simp [inv.size], fun j oj hj hl e he hb => ?_, fun t ht => by rw [getD_set_ne true (show i ≠ t from fun e => hin (by rw [e]; exact ht))]; exact inv.tail t ht, fun k hk => ?_⟩
  · by_cases hij : i = j
    · subst hij
      have : oj = oi := Option.some.inj (hj.symm.trans hoi)
      subst this
      exact getD_set_true (hall e he hb)
    · rw [getD_set_ne false hij] at hl
      exact getD_set_true (inv.closed j oj hj hl e he hb)
  · by_cases hik : i = k
    · subst hik
      have hlt : i < listed.size := by
        rcases Nat.lt_or_ge i listed.size with h | h
        · exact h
        · have := (mem_ready.1 hi).1
          simp [Array.getElem?_eq_none h] at this
      simp [hlt] at hk
    · rw [getD_set_ne true hik] at hk
      exact inv.cover k hk
theorem chain_waits {hs ts0 : List Nat} {t0' : Nat} {listed : Array Bool} (inv : InvL ops hs t0' ts0 listed) : ∀ (ts : List Nat) (t : Nat), chainL ops t ts = true → (∀ x ∈ t :: ts, x ∈ t0' :: ts0) → ∀ x ∈ ts, x ∉ Region.ready .any ops listed
  | [], _, _, _, x, hx => by cases hx
  | t' :: ts, t, hc, hsub, x, hx => by
    simp only [chainL, Bool.and_eq_true] at hc
    rcases List.mem_cons.1 hx with rfl | hx
    · intro hr
      obtain ⟨_, ox, hox, hall⟩ := mem_ready.1 hr
      obtain ⟨o', ho', e, he, hb, hon⟩ := Region.waitsFor_spec hc.1
      have : o' = ox := Option.some.inj (ho'.symm.trans hox)
      subst this
      have h2 := hall e he hb
      rw [hon, getD_both (inv.tail t (hsub t (by simp)))] at h2
      cases h2
    · exact chain_waits inv ts t' hc.2 (fun y hy => hsub y (List.mem_cons_of_mem _ hy)) x hx
theorem sink_waits {hs0 ts : List Nat} {t0 : Nat} {listed : Array Bool} (inv : InvL ops hs0 t0 ts listed) : ∀ (hs : List Nat), sinkL ops t0 hs = true → (∀ i ∈ hs, i < ops.size) → ∀ i ∈ hs, listed.getD i true = false → t0 ∉ Region.ready .any ops listed
  | [], _, _, i, hi, _ => by cases hi
  | h :: rest, hs, hsz, i, hi, hun => by
    simp only [sinkL, Bool.and_eq_true] at hs
    rcases List.mem_cons.1 hi with rfl | hi
    · intro hr
      obtain ⟨j, hj, hw⟩ := List.any_eq_true.1 hs.1
      obtain ⟨oj, hoj, e, he, hb, hon⟩ := Region.waitsFor_spec hw
      rcases List.mem_append.1 hj with hj | hj
      · cases hl : listed.getD j false with
        | true =>
          have h2 := inv.closed j oj hoj hl e he hb
          rw [hon, getD_both hun] at h2
          cases h2
        | false =>
          have hjs : j < listed.size := by rw [inv.size]; exact hsz j (by simp [hj])
          exact sink_waits inv rest hs.2 (fun k hk => hsz k (by simp [hk])) j hj (getD_in hjs hl) hr
      · obtain rfl : j = t0 := by simpa using hj
        obtain ⟨_, ot, hot, hall⟩ := mem_ready.1 hr
        have : oj = ot := Option.some.inj (hoj.symm.trans hot)
        subst this
        have h2 := hall e he hb
        rw [hon, getD_both hun] at h2
        cases h2
    · exact sink_waits inv rest hs.2 (fun k hk => hsz k (by simp [hk])) i hi hun
theorem head_only {hs ts : List Nat} {t0 i : Nat} {listed : Array Bool} (inv : InvL ops hs t0 ts listed) (hsk : sinkL ops t0 hs = true) (hch : chainL ops t0 ts = true) (hsz : ∀ i ∈ hs, i < ops.size) (hi : i ∈ hs) (hun : listed.getD i true = false) {j : Nat} (hj : j ∈ Region.ready .any ops listed) : j ∈ hs ∧ j ∉ t0 :: ts := by
  have hno : j ∉ t0 :: ts := by
    intro h
    rcases List.mem_cons.1 h with rfl | h
    · exact sink_waits inv hs hsk hsz i hi hun hj
    · exact chain_waits inv ts t0 hch (fun x hx => hx) j h hj
  exact ⟨(inv.cover j (mem_ready.1 hj).1).resolve_right hno, hno⟩

/-- the head, whatever order is picked; then L -/
def wpAnyM (P : Program) (ops : Array Oper) (C : World → Prop) (hs : List Nat) (L : Array Bool → Act → Prop) : Nat → Array Bool → Act → Prop
  | 0, listed, a => L listed a
  | f + 1, listed, a => Region.ready .any ops listed ≠ [] ∧ ∀ i ∈ Region.ready .any ops listed, i ∈ hs ∧ qOp P ops C i (wpAnyM P ops C hs L f (listed.setIfInBounds i true)) a
theorem wpAny_of_headM {g : Nat} {hs : List Nat} {L : Array Bool → Act → Prop} {Q' : Exit → Act → World → Prop} (hL : ∀ listed a w, C w → L listed a → wpAny P .any ops Q' g listed a w) :
    ∀ (f : Nat) (listed : Array Bool) (a : Act) (w : World), C w → wpAnyM P ops C hs L f listed a → wpAny P .any ops Q' (f + g) listed a w
  | 0, listed, a, w, hw, h => by rw [Nat.zero_add]; exact hL _ _ _ hw h
  | f + 1, listed, a, w, hw, h => by
    rw [show f + 1 + g = (f + g) + 1 by omega]
    exact ⟨fun h0 => absurd h0 h.1, fun i hi => wpOp_of_qOp hw (fun a' w' hw' h' => wpAny_of_headM hL f _ a' w' hw' h') (h.2 i hi).2⟩
theorem wpAnyM_first {hs ts : List Nat} {t0 i : Nat} {oi : Oper} {v : Value} {L : Array Bool → Act → Prop} (hi : ops[i]? = some oi) (hsel : ∀ (j : Nat) (o : Oper) cs b, ops[j]? = some o → o.op ≠ .select cs b)
    (hsk : sinkL ops t0 hs = true) (hch : chainL ops t0 ts = true) (hsz : ∀ i ∈ hs, i < ops.size) (hin : i ∈ hs) (hdone : ∀ listed a, L listed a → ∀ j ∈ Region.ready .any ops listed, j ∈ t0 :: ts) :
    ∀ (f : Nat) (listed : Array Bool) (a : Act), InvL ops hs t0 ts listed →
      (∀ j oj, ops[j]? = some oj → j ≠ i → listed.getD j true = false → (∀ e ∈ oj.after, Region.binds .any e = true → e.on ≠ i) → oi.apart ops oj = true) →
      i ∈ Region.ready .any ops listed → YieldsIn P ops C oi v a →
      wpAnyM P ops C hs L f (listed.setIfInBounds i true) (a.put oi.dst v) → wpAnyM P ops C hs L (f + 1) listed a := by
  intro f
  induction f with
  | zero =>
    intro listed a inv _ hr hy H
    have hun := (mem_ready.1 hr).1
    refine ⟨fun h => (by rw [h] at hr; cases hr), fun j hj => ?_⟩
    obtain ⟨hjn, hjt⟩ := head_only inv hsk hch hsz hin hun hj
    refine ⟨hjn, ?_⟩
    by_cases hji : j = i
    · subst hji; exact hy.qOp hi H
    · exact absurd (hdone _ _ H j (ready_mono hj hji)) hjt
  | succ f ih =>
    intro listed a inv hfree hr hy H
    have hun := (mem_ready.1 hr).1
    refine ⟨fun h => (by rw [h] at hr; cases hr), fun j hj => ?_⟩
    obtain ⟨hjn, hjt⟩ := head_only inv hsk hch hsz hin hun hj
    refine ⟨hjn, ?_⟩
    by_cases hji : j = i
    · subst hji; exact hy.qOp hi H
    · have h1 := (H.2 j (ready_mono hj hji)).2
      obtain ⟨hjun, oj, hoj, hall⟩ := mem_ready.1 hj
      have hnot : ∀ e ∈ oj.after, Region.binds .any e = true → e.on ≠ i := fun e he hb heq => by
        have h1 := hall e he hb
        rw [heq, getD_both hun] at h1
        cases h1
      have h2 := qOp_put hoj (hfree j oj hoj hji hjun hnot) (fun cs b => hsel i oi cs b hi) (fun cs b => hsel j oj cs b hoj) hy h1
      have hfree' : ∀ k ok, ops[k]? = some ok → k ≠ i → (listed.setIfInBounds j true).getD k true = false →
          (∀ e ∈ ok.after, Region.binds .any e = true → e.on ≠ i) → oi.apart ops ok = true := fun k ok hk hki hun hno => by
        refine hfree k ok hk hki ?_ hno
        by_cases hjk : j = k
        · subst hjk; exact hjun
        · rw [getD_set_ne true hjk] at hun; exact hun
      refine qOp_mono (fun a' h3 => ih (listed.setIfInBounds j true) a' (inv.set hj hjt) hfree' (ready_mono hr (Ne.symm hji)) h3.1 ?_) h2
      rw [Array.setIfInBounds_comm _ _ hji]
      exact h3.2
/-- the operations of a list of places -/
def OpsAt (ops : Array Oper) : List Nat → List Oper → Prop
  | [], [] => True
  | i :: is, o :: os => ops[i]? = some o ∧ OpsAt ops is os
  | _, _ => False
theorem seqL_ready {ts : List Nat} {listed : Array Bool} (h : seqL ops ts listed = true) : ∀ j ∈ Region.ready .any ops listed, j ∈ ts := by
  cases ts with
  | nil => intro j hj; simp only [seqL, List.isEmpty_iff] at h; rw [h] at hj; cases hj
  | cons t ts =>
    intro j hj
    simp only [seqL, Bool.and_eq_true, decide_eq_true_eq] at h
    rw [h.1] at hj
    have : j = t := by simpa using hj
    simp [this]
theorem wpAnyM_lex {hs0 ts : List Nat} {t0 : Nat} {Lq : Act → Prop} (hsel : Region.noSelect ops = true) (hsk : sinkL ops t0 hs0 = true) (hch : chainL ops t0 ts = true) (hsz : ∀ i ∈ hs0, i < ops.size) (hdis : ∀ i ∈ hs0, i ∉ t0 :: ts) :
    ∀ (hs : List Nat) (l : List Oper) (listed : Array Bool) (a : Act), OpsAt ops hs l → (∀ i ∈ hs, i ∈ hs0) → InvL ops hs0 t0 ts listed →
    lexL ops (t0 :: ts) hs listed = true → wpQuiet P ops C Lq l a →
    wpAnyM P ops C hs0 (fun listed' a' => seqL ops (t0 :: ts) listed' = true ∧ Lq a') hs.length listed a
  | [], [], listed, a, _, _, _, hB, h => ⟨by simpa [lexL] using hB, h⟩
  | k :: ks, o :: l, listed, a, hl, hsub, inv, hB, h => by
    obtain ⟨h0, hl⟩ := hl
    simp only [lexL, Bool.and_eq_true] at hB
    obtain ⟨⟨hr, hf⟩, hB'⟩ := hB
    have hr' : k ∈ Region.ready .any ops listed := by simpa using hr
    have hst : qOp P ops C k (wpQuiet P ops C Lq l) a := by unfold qOp; simp only [h0]; exact h
    obtain ⟨v, hy, hK⟩ := yieldsIn_of_qOp h0 hst
    exact wpAnyM_first h0 (Region.noSelect_spec hsel) hsk hch hsz (hsub k (by simp)) (fun listed' a' hL => seqL_ready hL.1) ks.length listed a inv (Region.free_spec h0 hf) hr' hy
      (wpAnyM_lex hsel hsk hch hsz hdis ks l _ _ hl (fun i hi => hsub i (by simp [hi])) (inv.set hr' (hdis k (hsub k (by simp)))) hB' hK)
  | [], _ :: _, _, _, hl, _, _, _, _ => hl.elim
  | _ :: _, [], _, _, hl, _, _, _, _ => hl.elim
theorem wpAny_of_seqL {Q' : Exit → Act → World → Prop} : ∀ (ts : List Nat) (l : List Oper) (listed : Array Bool) (a : Act) (w : World), OpsAt ops ts l →
    seqL ops ts listed = true → wpList P ops Q' l a w → wpAny P .any ops Q' ts.length listed a w
  | [], [], _, _, _, _, hB, h => ⟨by simpa [seqL] using hB, h⟩
  | t :: ts, o :: l, listed, a, w, hl, hB, h => by
    obtain ⟨h0, hl⟩ := hl
    simp only [seqL, Bool.and_eq_true, decide_eq_true_eq] at hB
    refine ⟨fun h1 => (by rw [hB.1] at h1; cases h1), fun i hi => ?_⟩
    rw [hB.1] at hi
    have hik : i = t := by simpa using hi
    subst hik
    have hw : wpOp P ops Q' i (wpList P ops Q' l) a w := by unfold wpOp; simp only [h0]; exact h
    exact wpOp_mono (fun a' w' h' => wpAny_of_seqL ts l _ a' w' hl hB.2 h') hw
  | [], _ :: _, _, _, _, hl, _, _ => hl.elim
  | _ :: _, [], _, _, _, hl, _, _ => hl.elim
theorem mixB_inv {hs ts : List Nat} {t0 : Nat} {listed : Array Bool} (hB : mixB ops listed hs t0 ts = true) : InvL ops hs t0 ts listed := by
  simp only [mixB, Bool.and_eq_true, decide_eq_true_eq, List.all_eq_true] at hB
  obtain ⟨⟨⟨⟨⟨⟨⟨h1, h2⟩, h3⟩, h4⟩, h5⟩, h6⟩, h7⟩, h8⟩ := hB
  refine ⟨h2, fun j oj hj hl e he hb => ?_, fun t ht => ?_, fun i hi => ?_⟩
  · have hlt : j < ops.size := (Array.getElem?_eq_some_iff.1 hj).1
    have := List.all_eq_true.1 h3 j (List.mem_range.2 hlt)
    rw [hj] at this
    simp only [hl, Bool.not_true, Bool.false_or] at this
    have := (Array.all_eq_true'.1 this) e he
    simp only [hb, Bool.not_true, Bool.false_or] at this
    exact this
  · have := h4 t ht
    simp only [Bool.not_eq_true'] at this
    exact this.2
  · have hlt : i < ops.size := by
      rcases Nat.lt_or_ge i listed.size with h | h
      · omega
      · simp [Array.getElem?_eq_none h] at hi
    have := List.all_eq_true.1 h5 i (List.mem_range.2 hlt)
    simp only [hi, Bool.false_or, Bool.or_eq_true, List.contains_iff_mem] at this
    exact this
/-- the rest of a region: a head and a tail -/
theorem any_tail {Q : Exit → Act → World → Prop} {a : Act} {w : World} {hs ts : List Nat} {t0 : Nat} {lh lt : List Oper} {listed : Array Bool} (hB : mixB ops listed hs t0 ts = true) (hsz : (hs.all fun i => decide (i < ops.size) && !((t0 :: ts).contains i)) = true) (hh : OpsAt ops hs lh) (ht : OpsAt ops (t0 :: ts) lt) (hC : C w)
    (h : wpQuiet P ops C (fun a' => ∀ w', C w' → wpList P ops Q lt a' w') lh a) : wpAny P .any ops Q (hs.length + (t0 :: ts).length) listed a w := by
  have inv := mixB_inv hB
  simp only [mixB, Bool.and_eq_true, decide_eq_true_eq, List.all_eq_true] at hB
  obtain ⟨⟨⟨⟨⟨⟨⟨h1, h2⟩, h3⟩, h4⟩, h5⟩, h6⟩, h7⟩, h8⟩ := hB
  have hs1 : ∀ i ∈ hs, i < ops.size := fun i hi => by
    have := List.all_eq_true.1 hsz i hi
    simp only [Bool.and_eq_true, decide_eq_true_eq] at this
    exact this.1
  have hs2 : ∀ i ∈ hs, i ∉ t0 :: ts := fun i hi => by
    have := List.all_eq_true.1 hsz i hi
    simp only [Bool.and_eq_true, Bool.not_eq_true'] at this
    intro hm
    have h9 := this.2
    rw [List.contains_iff_mem.2 hm] at h9
    cases h9
  have H := wpAnyM_lex (C := C) (P := P) h1 h6 h7 hs1 hs2 hs lh listed a hh (fun i hi => hi) inv h8 h
  exact wpAny_of_headM (Q' := Q) (g := (t0 :: ts).length) (fun listed' a' w' hw' hL => wpAny_of_seqL (t0 :: ts) lt listed' a' w' ht hL.1 (hL.2 w' hw')) hs.length listed a w hC H
/-- the part of a list that a mask names -/
def part {α : Type} : List α → List Bool → List α
  | [], _ => []
  | _ :: _, [] => []
  | o :: l, true :: m => o :: part l m
  | _ :: l, false :: m => part l m
def idx : Nat → List Bool → List Nat
  | _, [] => []
  | k, true :: m => k :: idx (k + 1) m
  | k, false :: m => idx (k + 1) m
theorem opsAt_part (l : List Oper) : ∀ (m : List Bool) (l' : List Oper) (k : Nat), m.length ≤ l'.length → (∀ j, l'[j]? = l[k + j]?) → OpsAt l.toArray (idx k m) (part l' m)
  | [], [], _, _, _ => trivial
  | [], _ :: _, _, _, _ => trivial
  | _ :: _, [], _, h, _ => by simp at h
  | true :: m, o :: l', k, h, hl => by
    refine ⟨?_, opsAt_part l m l' (k + 1) (by simpa using h) (fun j => ?_)⟩
    · have := hl 0
      simpa using this.symm
    · have := hl (j + 1)
      simpa [Nat.add_assoc, Nat.add_comm 1 j] using this
  | false :: m, o :: l', k, h, hl => opsAt_part l m l' (k + 1) (by simpa using h) (fun j => by
      have := hl (j + 1)
      simpa [Nat.add_assoc, Nat.add_comm 1 j] using this)
def maskB (ops : Array Oper) (listed : Array Bool) (mh mt : List Bool) : Bool :=
  match idx 0 mt with
  | [] => false
  | t0 :: ts => mixB ops listed (idx 0 mh) t0 ts && ((idx 0 mh).all fun i => decide (i < ops.size) && !((t0 :: ts).contains i)) && decide (mh.length ≤ ops.size) && decide (mt.length ≤ ops.size)
/-- the rest of a region, head and tail named by masks -/
theorem any_mask {Q : Exit → Act → World → Prop} {a : Act} {w : World} {l : List Oper} {listed : Array Bool} {fuel : Nat} (mh mt : List Bool) (hB : maskB l.toArray listed mh mt = true) (hf : fuel = (idx 0 mh).length + (idx 0 mt).length) (hC : C w)
    (h : wpQuiet P l.toArray C (fun a' => ∀ w', C w' → wpList P l.toArray Q (part l mt) a' w') (part l mh) a) : wpAny P .any l.toArray Q fuel listed a w := by
  unfold maskB at hB
  subst hf
  rcases he : idx 0 mt with _ | ⟨t0, ts⟩
  · rw [he] at hB; cases hB
  · rw [he] at hB
    simp only [Bool.and_eq_true, decide_eq_true_eq] at hB
    obtain ⟨⟨⟨h1, h2⟩, h3⟩, h4⟩ := hB
    have e1 := opsAt_part l mh l 0 (by simpa using h3) (fun j => by simp)
    have e2 := opsAt_part l mt l 0 (by simpa using h4) (fun j => by simp)
    rw [he] at e2
    exact any_tail h1 h2 e1 e2 hC h
/-- the whole region -/
theorem wp_region_mask {id : Nat} {Q : Exit → Act → World → Prop} {a : Act} {w : World} {l : List Oper} (mh mt : List Bool) (hm : P.follows .mixedOrders = true) (hB : maskB l.toArray (Array.replicate l.toArray.size false) mh mt = true) (hf : l.toArray.size = (idx 0 mh).length + (idx 0 mt).length)
    (h : wpQuiet P l.toArray (fun w' => ∃ n : ExtOf w, w' = n.val) (fun a' => ∀ w', (∃ n : ExtOf w, w' = n.val) → wpList P l.toArray Q (part l mt) a' w') (part l mh) a) : (Code.region id l.toArray true).wp P Q a w :=
  wp_region_any hm (any_mask (w := { w with drawn := w.drawn + 1 }) mh mt hB hf (ExtOf.of (Ext.drew (Ext.refl w))) h)
end
end Go.Proofs.YtaflcbdbacogeaaDoor
