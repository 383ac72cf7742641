/-
  Chapter 62: several texts in one (Soft, QTail, Mix, Maker, SoftF, SoftG, Str, Str2, Pair, Pair2, Sub).
-/
import Derived.Test.YtjflmmipjeangaaGreatDoorLA
import Derived.StillTail
import Derived.Deep.Quiet
import Derived.Deep.MidRow
/-
  A region that draws its order and whose operations read, make memory, or call functions that leave old memory alone: one walk in the text's order, each operation's value known by a condition that later memory keeps.
-/
section
set_option linter.unusedVariables false
set_option linter.unusedSimpArgs false
namespace Go.Proofs.YtjflmmipjeangaaGreatDoor
open Go.RowKit Go.WideShapes Go.ChangeShapes

section
variable {P : Program} {ops : Array Oper} {w0 : World} {A : Nat → Value → Prop} {F : Nat → Value → World → Prop}
/-- an operation ends with a value and a world -/
def endsWith (P : Program) (R : Value → World → Prop) : Result Next → Prop
  | .ok (.value v) w' => R v w'
  | .ok .skip w' => R undef w'
  | .ok (.enter f args) w' => Calls P f args w' fun e w'' => ∃ v, e = .returned v ∧ R v w''
  | _ => False
/-- what is known of the temporary that is written -/
def okDst (A : Nat → Value → Prop) (F : Nat → Value → World → Prop) : Option Tmp → Value → World → Prop
  | some d, v, w => A d v ∧ F d v w
  | none, _, _ => True
def admDst (A : Nat → Value → Prop) : Option Tmp → Value → Prop
  | some d, v => A d v
  | none, v => v = undef
/-- what is known of those for whom operation o waits -/
def known (ops : Array Oper) (F : Nat → Value → World → Prop) (o : Oper) (a : Act) (w : World) : Prop :=
  ∀ e ∈ o.after, Region.binds .any e = true → ∀ oi d, ops[e.on]? = some oi → oi.dst = some d → F d (a.tmps.getD d undef) w
/-- the operation, in whatever world behind w0 in which its predecessors' values are as known -/
def SO (P : Program) (ops : Array Oper) (w0 : World) (A : Nat → Value → Prop) (F : Nat → Value → World → Prop) (o : Oper) (a : Act) : Prop :=
  if Region.wanted o (yielded ops a.tmps) = true then ∀ w, Ext w0 w → known ops F o a w → endsWith P (fun v w' => Ext w w' ∧ okDst A F o.dst v w') ((execOp a.eval o).run P w)
  else admDst A o.dst undef ∧ ∀ w, okDst A F o.dst undef w
def Adm (ops : Array Oper) (A : Nat → Value → Prop) (o : Oper) (a : Act) (v : Value) : Prop := if Region.wanted o (yielded ops a.tmps) = true then admDst A o.dst v else v = undef
def sOp (P : Program) (ops : Array Oper) (w0 : World) (A : Nat → Value → Prop) (F : Nat → Value → World → Prop) (i : Nat) (K : Act → Prop) (a : Act) : Prop :=
  match ops[i]? with
  | none => K a
  | some o => SO P ops w0 A F o a ∧ ∀ v, Adm ops A o a v → K (a.put o.dst v)
def wpSoft (P : Program) (ops : Array Oper) (w0 : World) (A : Nat → Value → Prop) (F : Nat → Value → World → Prop) (Q : Act → Prop) : List Oper → Act → Prop
  | [], a => Q a
  | o :: rest, a => SO P ops w0 A F o a ∧ ∀ v, Adm ops A o a v → wpSoft P ops w0 A F Q rest (a.put o.dst v)
def wpAnyS (P : Program) (ops : Array Oper) (w0 : World) (A : Nat → Value → Prop) (F : Nat → Value → World → Prop) (Q : Act → Prop) : Nat → Array Bool → Act → Prop
  | 0, listed, a => Region.ready .any ops listed = [] ∧ Q a
  | fuel + 1, listed, a => (Region.ready .any ops listed = [] → Q a) ∧ ∀ i ∈ Region.ready .any ops listed, sOp P ops w0 A F i (wpAnyS P ops w0 A F Q fuel (listed.setIfInBounds i true)) a

theorem sOp_mono {i : Nat} {a : Act} {K K' : Act → Prop} (h : ∀ a, K a → K' a) (hh : sOp P ops w0 A F i K a) : sOp P ops w0 A F i K' a := by
  unfold sOp at *
  split
  · rename_i ho; simp only [ho] at hh; exact h _ hh
  · rename_i o ho; simp only [ho] at hh; exact ⟨hh.1, fun v hv => h _ (hh.2 v hv)⟩

/-- no temporary is written twice -/
def oneWriter (ops : Array Oper) : Prop := ∀ (j k : Nat) (oj ok : Oper) (d : Tmp), ops[j]? = some oj → ops[k]? = some ok → oj.dst = some d → ok.dst = some d → j = k

theorem known_put {i : Nat} {oi oj : Oper} {v : Value} {a : Act} {w : World} (h1w : oneWriter ops) (hi : ops[i]? = some oi) (hn : ∀ e ∈ oj.after, Region.binds .any e = true → e.on ≠ i) : known ops F oj (a.put oi.dst v) w ↔ known ops F oj a w := by
  have key : ∀ e ∈ oj.after, Region.binds .any e = true → ∀ ok d, ops[e.on]? = some ok → ok.dst = some d → (a.put oi.dst v).tmps.getD d undef = a.tmps.getD d undef := by
    intro e he hb ok d hk hd
    cases hdi : oi.dst with
    | none => rfl
    | some di =>
      have hne : di ≠ d := fun hh => hn e he hb (h1w _ _ _ _ d hk hi hd (by rw [hdi, hh]))
      simp [Act.put, Array.getElem?_setIfInBounds_ne hne]
  constructor
  · intro h e he hb ok d hk hd; rw [← key e he hb ok d hk hd]; exact h e he hb ok d hk hd
  · intro h e he hb ok d hk hd; rw [key e he hb ok d hk hd]; exact h e he hb ok d hk hd

theorem SO_put {i : Nat} {oi oj : Oper} {v : Value} {a : Act} (h1w : oneWriter ops) (hi : ops[i]? = some oi) (hn : ∀ e ∈ oj.after, Region.binds .any e = true → e.on ≠ i) (hsj : ∀ cs b, oj.op ≠ .select cs b)
    (hl : ∀ d, oi.dst = some d → d ∉ oj.looksAt ops) : SO P ops w0 A F oj (a.put oi.dst v) ↔ SO P ops w0 A F oj a := by
  unfold SO
  rw [wanted_put oj a oi.dst v hl, execOp_put oj hsj a oi.dst v hl]
  simp only [known_put (F := F) h1w hi hn]
theorem Adm_put {oi oj : Oper} {v : Value} {a : Act} (hl : ∀ d, oi.dst = some d → d ∉ oj.looksAt ops) : Adm ops A oj (a.put oi.dst v) = Adm ops A oj a := by
  funext u
  unfold Adm
  rw [wanted_put oj a oi.dst v hl]
theorem Adm_some (hA : ∀ d, ∃ v, A d v) (o : Oper) (a : Act) : ∃ v, Adm ops A o a v := by
  unfold Adm
  split
  · cases h : o.dst with
    | none => exact ⟨undef, rfl⟩
    | some d => exact hA d
  · exact ⟨undef, rfl⟩

theorem wpAnyS_first {Q : Act → Prop} {i : Nat} {oi : Oper} (hi : ops[i]? = some oi) (hA : ∀ d, ∃ v, A d v) (h1w : oneWriter ops) (hsel : ∀ (j : Nat) (o : Oper) cs b, ops[j]? = some o → o.op ≠ .select cs b) :
    ∀ (fuel : Nat) (listed : Array Bool) (a : Act),
      (∀ j oj, ops[j]? = some oj → j ≠ i → listed.getD j true = false → (∀ e ∈ oj.after, Region.binds .any e = true → e.on ≠ i) → oi.apart ops oj = true) →
      i ∈ Region.ready .any ops listed → SO P ops w0 A F oi a → (∀ v, Adm ops A oi a v → wpAnyS P ops w0 A F Q fuel (listed.setIfInBounds i true) (a.put oi.dst v)) → wpAnyS P ops w0 A F Q (fuel + 1) listed a := by
  have here : ∀ {K : Act → Prop} {a : Act}, SO P ops w0 A F oi a → (∀ v, Adm ops A oi a v → K (a.put oi.dst v)) → sOp P ops w0 A F i K a := fun {K a} h1 h2 => by
    unfold sOp; rw [hi]; exact ⟨h1, h2⟩
  intro fuel
  induction fuel with
  | zero =>
    intro listed a _ hr hy H
    refine ⟨fun h => (by rw [h] at hr; cases hr), fun j hj => ?_⟩
    by_cases hji : j = i
    · subst hji; exact here hy H
    · obtain ⟨v, hv⟩ := Adm_some (ops := ops) hA oi a
      have := ready_mono hj hji
      rw [(H v hv).1] at this
      cases this
  | succ fuel ih =>
    intro listed a hfree hr hy H
    refine ⟨fun h => (by rw [h] at hr; cases hr), fun j hj => ?_⟩
    by_cases hji : j = i
    · subst hji; exact here hy H
    · obtain ⟨hjun, oj, hoj, hall⟩ := mem_ready.1 hj
      obtain ⟨hiun, oi', hoi', halli⟩ := mem_ready.1 hr
      obtain rfl : oi = oi' := by rw [hi] at hoi'; exact Option.some.inj hoi'
      have notwait : ∀ (k : Nat), listed.getD k true = false → ∀ (ok : Oper), (∀ e ∈ ok.after, Region.binds .any e = true → listed.getD e.on false = true) → ∀ e ∈ ok.after, Region.binds .any e = true → e.on ≠ k := fun k hk ok hok e he hb heq => by
        have h1 := hok e he hb
        rw [heq] at h1
        rcases Nat.lt_or_ge k listed.size with h' | h'
        · simp [h'] at hk h1; rw [hk] at h1; cases h1
        · simp [Array.getElem?_eq_none h'] at h1
      have hnot := notwait i hiun oj hall
      have hnoti := notwait j hjun oi halli
      obtain ⟨l1, l2, l3⟩ := Oper.apart_spec (hfree j oj hoj hji hjun hnot)
      have hfree' : ∀ k ok, ops[k]? = some ok → k ≠ i → (listed.setIfInBounds j true).getD k true = false →
          (∀ e ∈ ok.after, Region.binds .any e = true → e.on ≠ i) → oi.apart ops ok = true := fun k ok hk hki hun hno => by
        refine hfree k ok hk hki ?_ hno
        by_cases hjk : j = k
        · subst hjk; exact hjun
        · rw [getD_set_ne true hjk] at hun; exact hun
      have at1 : ∀ v, Adm ops A oi a v → SO P ops w0 A F oj (a.put oi.dst v) ∧ ∀ u, Adm ops A oj (a.put oi.dst v) u → wpAnyS P ops w0 A F Q fuel ((listed.setIfInBounds i true).setIfInBounds j true) ((a.put oi.dst v).put oj.dst u) := fun v hv => by
        have := (H v hv).2 j (ready_mono hj hji)
        unfold sOp at this
        rw [hoj] at this
        exact this
      obtain ⟨v0, hv0⟩ := Adm_some (ops := ops) hA oi a
      unfold sOp
      rw [hoj]
      refine ⟨(SO_put h1w hi hnot (fun cs b => hsel j oj cs b hoj) l1).1 (at1 v0 hv0).1, fun u hu => ?_⟩
      refine ih (listed.setIfInBounds j true) (a.put oj.dst u) hfree' (ready_mono hr (Ne.symm hji)) ((SO_put h1w hoj hnoti (fun cs b => hsel i oi cs b hi) l3).2 hy) (fun v hv => ?_)
      rw [Adm_put l3] at hv
      have := (at1 v hv).2 u (by rw [Adm_put l1]; exact hu)
      rw [Array.setIfInBounds_comm _ _ (Ne.symm hji), Act.put_comm a v u l2] at this
      exact this

theorem wpAnyS_lex {Q : Act → Prop} (hA : ∀ d, ∃ v, A d v) (h1w : oneWriter ops) (hs : Region.noSelect ops = true) : ∀ (l : List Oper) (k : Nat) (listed : Array Bool) (a : Act), (∀ j, l[j]? = ops[k + j]?) →
    Region.lexFrom .any ops l.length k listed = true → wpSoft P ops w0 A F Q l a → wpAnyS P ops w0 A F Q l.length listed a
  | [], _, _, _, _, hB, h => ⟨by simpa [Region.lexFrom] using hB, h⟩
  | o :: l, k, listed, a, hl, hB, h => by
    have h0 : ops[k]? = some o := by simpa using (hl 0).symm
    simp only [List.length_cons, Region.lexFrom, Bool.and_eq_true] at hB
    obtain ⟨⟨hr, hf⟩, hB'⟩ := hB
    exact wpAnyS_first h0 hA h1w (Region.noSelect_spec hs) l.length listed a (Region.free_spec h0 hf) (by simpa using hr) h.1
      (fun v hv => wpAnyS_lex hA h1w hs l (k + 1) _ _ (fun j => by have := hl (j + 1); simpa [Nat.add_assoc, Nat.add_comm 1 j] using this) hB' (h.2 v hv))

/-- what holds in the midst of the region -/
def mid (ops : Array Oper) (w0 : World) (F : Nat → Value → World → Prop) (listed : Array Bool) (a : Act) (w : World) : Prop :=
  Ext w0 w ∧ (∀ (i : Nat) (oi : Oper) (d : Tmp), ops[i]? = some oi → oi.dst = some d → d < a.tmps.size) ∧ ∀ (i : Nat) (oi : Oper) (d : Tmp), listed.getD i false = true → ops[i]? = some oi → oi.dst = some d → F d (a.tmps.getD d undef) w

theorem mid_put {listed : Array Bool} {a : Act} {w w' : World} {i : Nat} {o : Oper} {v : Value} (hst : ∀ d v w w', F d v w → Ext w w' → F d v w') (h1w : oneWriter ops) (hi : ops[i]? = some o) (hm : mid ops w0 F listed a w) (hx : Ext w w') (hv : okDst A F o.dst v w') :
    mid ops w0 F (listed.setIfInBounds i true) (a.put o.dst v) w' := by
  obtain ⟨h1, h2, h3⟩ := hm
  refine ⟨Ext.trans h1 hx, fun k ok d hk hd => by rw [size_put]; exact h2 k ok d hk hd, fun k ok d hl hk hd => ?_⟩
  by_cases hki : k = i
  · subst hki
    obtain rfl : o = ok := by rw [hi] at hk; exact Option.some.inj hk
    rw [hd] at hv ⊢
    have hlt := h2 k o d hi hd
    have : (a.put (some d) v).tmps.getD d undef = v := by simp [Act.put, Array.getElem?_setIfInBounds_self_of_lt hlt]
    rw [this]
    exact hv.2
  · have hl' : listed.getD k false = true := by rw [getD_set_ne false (Ne.symm hki)] at hl; exact hl
    have hf := hst _ _ _ _ (h3 k ok d hl' hk hd) hx
    cases hdi : o.dst with
    | none => exact hf
    | some di =>
      have hne : di ≠ d := fun hh => hki (h1w _ _ _ _ d hk hi hd (by rw [hdi, hh]))
      have : (a.put (some di) v).tmps.getD d undef = a.tmps.getD d undef := by simp [Act.put, Array.getElem?_setIfInBounds_ne hne]
      rw [this]
      exact hf

theorem wpAny_of_soft {Q : Act → Prop} {Q' : Exit → Act → World → Prop} (hst : ∀ d v w w', F d v w → Ext w w' → F d v w') (h1w : oneWriter ops) (hQ : ∀ a w, Ext w0 w → Q a → Q' .normal a w) : ∀ (fuel : Nat) (listed : Array Bool) (a : Act) (w : World), mid ops w0 F listed a w →
    wpAnyS P ops w0 A F Q fuel listed a → wpAny P .any ops Q' fuel listed a w
  | 0, _, _, _, hm, h => ⟨h.1, hQ _ _ hm.1 h.2⟩
  | fuel + 1, listed, a, w, hm, h => ⟨fun h0 => hQ _ _ hm.1 (h.1 h0), fun i hi => by
    have hs := h.2 i hi
    obtain ⟨_, o, ho, hall⟩ := mem_ready.1 hi
    unfold sOp at hs
    rw [ho] at hs
    unfold wpOp
    rw [ho]
    obtain ⟨h1, h2⟩ := hs
    unfold SO at h1
    unfold Adm at h2
    by_cases hw : Region.wanted o (yielded ops a.tmps) = true
    · simp only [hw, if_true] at h1 h2 ⊢
      refine .inl ?_
      have h3 := h1 w hm.1 (fun e he hb oi d hoi hd => hm.2.2 e.on oi d (hall e he hb) hoi hd)
      have fin : ∀ v w', Ext w w' ∧ okDst A F o.dst v w' → wpAny P .any ops Q' fuel (listed.setIfInBounds i true) (a.put o.dst v) w' := fun v w' ⟨hx, hv⟩ => by
        refine wpAny_of_soft hst h1w hQ fuel _ _ _ (mid_put hst h1w ho hm hx hv) ?_
        cases hd : o.dst with
        | none => have := h2 undef (by rw [hd]; rfl); rw [hd] at this; exact this
        | some d => rw [hd] at hv h2; exact h2 v hv.1
      unfold Oper.wp
      generalize (execOp a.eval o).run P w = r at *
      cases r with
      | ok n w' =>
        cases n <;> simp only [endsWith] at h3 <;> simp only [Oper.upon]
        case value u => exact fin _ _ h3
        case skip => exact fin _ _ h3
        case enter f args => exact Calls.mono h3 fun e w'' ⟨v, he, hv⟩ => by subst he; exact fin _ _ hv
      | halt x w' => simp only [endsWith] at h3
    · simp only [hw] at h1 h2 ⊢
      exact wpAny_of_soft hst h1w hQ fuel _ _ _ (mid_put hst h1w ho hm (Ext.refl w) (h1.2 w)) (h2 undef rfl)⟩

/-- no temporary is written twice, as a Bool -/
def noTwice : List Nat → Bool
  | [] => true
  | x :: l => l.all (fun y => !(Nat.beq x y)) && noTwice l
theorem noTwice_nodup : ∀ {l : List Nat}, noTwice l = true → l.Nodup
  | [], _ => List.Pairwise.nil
  | x :: l, h => by
    simp only [noTwice, Bool.and_eq_true, List.all_eq_true] at h
    refine List.nodup_cons.2 ⟨fun hm => ?_, noTwice_nodup h.2⟩
    have := h.1 x hm
    simp at this
def oneWriterB (ops : Array Oper) : Bool := noTwice (ops.toList.filterMap (·.dst))
theorem nodup_filterMap {l : List Oper} (h : (l.filterMap (·.dst)).Nodup) : ∀ (j k : Nat) (oj ok : Oper) (d : Tmp), l[j]? = some oj → l[k]? = some ok → oj.dst = some d → ok.dst = some d → j = k := by
  induction l with
  | nil => intro j k oj ok d h; simp at h
  | cons x l ih =>
    intro j k oj ok d hj hk hdj hdk
    have mem : ∀ (m : Nat) (o : Oper), l[m]? = some o → o.dst = some d → d ∈ l.filterMap (·.dst) := fun m o hm hd => List.mem_filterMap.2 ⟨o, List.mem_of_getElem? hm, hd⟩
    have hl : (l.filterMap (·.dst)).Nodup := by
      rw [List.filterMap_cons] at h
      split at h
      · exact h
      · exact (List.nodup_cons.1 h).2
    have hx : ∀ (o : Oper), o = x → o.dst = some d → d ∉ l.filterMap (·.dst) := fun o ho hd => by
      subst ho
      rw [List.filterMap_cons, hd] at h
      exact (List.nodup_cons.1 h).1
    cases j with
    | zero =>
      cases k with
      | zero => rfl
      | succ k =>
        simp at hj hk
        exact absurd (mem k ok hk hdk) (hx oj hj.symm hdj)
    | succ j =>
      cases k with
      | zero =>
        simp at hj hk
        exact absurd (mem j oj hj hdj) (hx ok hk.symm hdk)
      | succ k =>
        simp at hj hk
        rw [ih hl j k oj ok d hj hk hdj hdk]
theorem oneWriter_of (h : oneWriterB ops = true) : oneWriter ops := by
  intro j k oj ok d hj hk hdj hdk
  have h' : (ops.toList.filterMap (·.dst)).Nodup := noTwice_nodup h
  exact nodup_filterMap h' j k oj ok d (by simpa using hj) (by simpa using hk) hdj hdk

/-- THE REGION: one walk in the text's order -/
theorem wp_region_soft {id : Nat} {Q : Exit → Act → World → Prop} {a : Act} {w : World} {l : List Oper} (A : Nat → Value → Prop) (F : Nat → Value → World → Prop) (hm : P.follows .mixedOrders = true) (hB : Region.lexB .any l.toArray = true) (h1 : oneWriterB l.toArray = true)
    (hsz : l.all (fun o => match o.dst with | some d => Nat.blt d a.tmps.size | none => true) = true) (hA : ∀ d, ∃ v, A d v) (hst : ∀ d v w w', F d v w → Ext w w' → F d v w')
    (h : wpSoft P l.toArray w.drew A F (fun a' => ∀ w', Ext w.drew w' → Q .normal a' w') l a) : (Code.region id l.toArray true).wp P Q a w := by
  have h1w := oneWriter_of h1
  simp only [Region.lexB, Bool.and_eq_true] at hB
  refine wp_region_any hm (wpAny_of_soft (w0 := w.drew) (A := A) (F := F) (Q := fun a' => ∀ w', Ext w.drew w' → Q .normal a' w') hst h1w (fun _ w' hw' h => h w' hw') _ _ _ _ ?_ ?_)
  · refine ⟨Ext.refl _, fun i oi d hi hd => ?_, fun i oi d hl => ?_⟩
    · have hmem : oi ∈ l := List.mem_of_getElem? (by simpa using hi)
      have := List.all_eq_true.1 hsz oi hmem
      rw [hd] at this
      simpa [Nat.blt_eq] using this
    · rcases Nat.lt_or_ge i l.length with h' | h' <;> simp [h'] at hl
  · have := wpAnyS_lex (P := P) (w0 := w.drew) (A := A) (F := F) (Q := fun a' => ∀ w', Ext w.drew w' → Q .normal a' w') hA h1w hB.1 l 0 (Array.replicate l.toArray.size false) a (by simp) (by simpa using hB.2) h
    simpa using this

section
variable {Q : Act → Prop} {o : Oper} {rest : List Oper} {a : Act} {d : Nat} {V : Value}
theorem known_get {w : World} (hk : known ops F o a w) {n d : Nat} {v : Value} (he : o.after.toList.any (fun e => Nat.beq e.on n && Region.binds .any e) = true) (h1 : (ops[n]?).bind (·.dst) = some d) (hv : a.tmps.getD d undef = v) : F d v w := by
  rw [List.any_eq_true] at he
  obtain ⟨e, hm, he⟩ := he
  rw [Bool.and_eq_true] at he
  obtain rfl : e.on = n := by simpa using he.1
  cases ho : ops[e.on]? with
  | none => rw [ho] at h1; cases h1
  | some oi =>
    rw [ho] at h1
    rw [← hv]
    exact hk e (by simpa using hm) he.2 oi d ho h1
/-- an operation that yields one value, whatever the world -/
theorem soft_det (hd : o.dst = some d) (hw : Region.wanted o (yielded ops a.tmps) = true) (hA : ∀ v, A d v → v = V) (hAV : A d V) (hF : ∀ w, F d V w) (hrun : ∀ w, Ext w0 w → known ops F o a w → (execOp a.eval o).run P w = .ok (.value V) w)
    (h : wpSoft P ops w0 A F Q rest (a.put (some d) V)) : wpSoft P ops w0 A F Q (o :: rest) a := by
  refine ⟨?_, fun v hv => ?_⟩
  · unfold SO
    rw [if_pos hw]
    intro w hx hk
    rw [hrun w hx hk, hd]
    exact ⟨Ext.refl w, hAV, hF w⟩
  · unfold Adm at hv
    rw [if_pos hw, hd] at hv
    rw [hA v hv, hd]
    exact h
/-- an operation that makes memory -/
theorem soft_new (hd : o.dst = some d) (hw : Region.wanted o (yielded ops a.tmps) = true) (hA : ∀ v, A d v) (hrun : ∀ w, Ext w0 w → ∃ v w', (execOp a.eval o).run P w = .ok (.value v) w' ∧ Ext w w' ∧ F d v w')
    (h : ∀ v, wpSoft P ops w0 A F Q rest (a.put (some d) v)) : wpSoft P ops w0 A F Q (o :: rest) a := by
  refine ⟨?_, fun v _ => by rw [hd]; exact h v⟩
  unfold SO
  rw [if_pos hw]
  intro w hx _
  obtain ⟨v, w', e, h1, h2⟩ := hrun w hx
  rw [e, hd]
  exact ⟨h1, hA v, h2⟩
/-- a call that returns one value -/
theorem soft_call {f : FuncId} {vals : Array Value} (hd : o.dst = some d) (hw : Region.wanted o (yielded ops a.tmps) = true) (hA : ∀ v, A d v → v = V) (hAV : A d V) (hF : ∀ w, F d V w) (he : ∀ w, (execOp a.eval o).run P w = .ok (.enter f vals) w)
    (hc : ∀ w, Ext w0 w → known ops F o a w → Calls P f vals w fun e w' => e = .returned V ∧ ∃ n : ExtOf w, w' = n.val)
    (h : wpSoft P ops w0 A F Q rest (a.put (some d) V)) : wpSoft P ops w0 A F Q (o :: rest) a := by
  refine ⟨?_, fun v hv => ?_⟩
  · unfold SO
    rw [if_pos hw]
    intro w hx hk
    rw [he w, hd]
    exact (hc w hx hk).mono fun e w' ⟨h1, n, h2⟩ => ⟨V, h1, by rw [h2]; exact n.ext, hAV, hF w'⟩
  · unfold Adm at hv
    rw [if_pos hw, hd] at hv
    rw [hA v hv, hd]
    exact h
/-- a call whose value is known by a condition -/
theorem soft_callS {f : FuncId} {vals : Array Value} (hd : o.dst = some d) (hw : Region.wanted o (yielded ops a.tmps) = true) (hA : ∀ v, A d v) (he : ∀ w, (execOp a.eval o).run P w = .ok (.enter f vals) w)
    (hc : ∀ w, Ext w0 w → known ops F o a w → Calls P f vals w fun e w' => ∃ v, e = .returned v ∧ F d v w' ∧ ∃ n : ExtOf w, w' = n.val)
    (h : ∀ v, wpSoft P ops w0 A F Q rest (a.put (some d) v)) : wpSoft P ops w0 A F Q (o :: rest) a := by
  refine ⟨?_, fun v _ => by rw [hd]; exact h v⟩
  unfold SO
  rw [if_pos hw]
  intro w hx hk
  rw [he w, hd]
  exact (hc w hx hk).mono fun e w' ⟨v, h1, h2, n, h3⟩ => ⟨v, h1, by rw [h3]; exact n.ext, hA v, h2⟩
end
end
end Go.Proofs.YtjflmmipjeangaaGreatDoor
end
/-
  A region that draws its order: its first operations read or call functions that leave old memory alone, the last ones come up one after the other.
-/
section
set_option linter.unusedVariables false
set_option linter.unusedSimpArgs false
namespace Go.Proofs.YtjflmmipjeangaaGreatDoor
open Go.RowKit

section
variable {P : Program} {ops : Array Oper} {md : Region.Mode} {C : World → Prop}
/-- the head of the region, whatever order is picked; then L -/
def wpAnyT (P : Program) (md : Region.Mode) (ops : Array Oper) (C : World → Prop) (n : Nat) (L : Array Bool → Act → Prop) : Nat → Array Bool → Act → Prop
  | 0, listed, a => L listed a
  | f + 1, listed, a => Region.ready md ops listed ≠ [] ∧ ∀ i ∈ Region.ready md ops listed, i < n ∧ qOp P ops C i (wpAnyT P md ops C n L f (listed.setIfInBounds i true)) a
theorem wpAny_of_headT {n g : Nat} {L : Array Bool → Act → Prop} {Q' : Exit → Act → World → Prop} (hL : ∀ listed a w, C w → L listed a → wpAny P md ops Q' g listed a w) :
    ∀ (f : Nat) (listed : Array Bool) (a : Act) (w : World), C w → wpAnyT P md ops C n L f listed a → wpAny P md ops Q' (f + g) listed a w
  | 0, listed, a, w, hw, h => by rw [Nat.zero_add]; exact hL _ _ _ hw h
  | f + 1, listed, a, w, hw, h => by
    rw [show f + 1 + g = (f + g) + 1 by omega]
    exact ⟨fun h0 => absurd h0 h.1, fun i hi => wpOp_of_qOp hw (fun a' w' hw' h' => wpAny_of_headT hL f _ a' w' hw' h') (h.2 i hi).2⟩
theorem wpAnyT_first {n i : Nat} {oi : Oper} {v : Value} {L : Array Bool → Act → Prop} (hi : ops[i]? = some oi) (hsel : ∀ (j : Nat) (o : Oper) cs b, ops[j]? = some o → o.op ≠ .select cs b)
    (hs : Region.sinkB md ops n = true) (hc : Region.chainB md ops n = true) (hn : n < ops.size) (hin : i < n) (hdone : ∀ listed a, L listed a → ∀ j ∈ Region.ready md ops listed, n ≤ j) :
    ∀ (f : Nat) (listed : Array Bool) (a : Act), HeadInv md ops n listed →
      (∀ j oj, ops[j]? = some oj → j ≠ i → listed.getD j true = false → (∀ e ∈ oj.after, Region.binds md e = true → e.on ≠ i) → oi.apart ops oj = true) →
      i ∈ Region.ready md ops listed → YieldsIn P ops C oi v a →
      wpAnyT P md ops C n L f (listed.setIfInBounds i true) (a.put oi.dst v) → wpAnyT P md ops C n L (f + 1) listed a := by
  intro f
  induction f with
  | zero =>
    intro listed a inv _ hr hy H
    have hun := (mem_ready.1 hr).1
    refine ⟨fun h => (by rw [h] at hr; cases hr), fun j hj => ?_⟩
    have hjn : j < n := by
      rcases Nat.lt_or_ge j n with h | h
      · exact h
      · exact absurd hj (tail_waits hs hc hn inv _ i rfl hin hun j h)
    refine ⟨hjn, ?_⟩
    by_cases hji : j = i
    · subst hji; exact hy.qOp hi H
    · have := hdone _ _ H j (ready_mono hj hji)
      omega
  | succ f ih =>
    intro listed a inv hfree hr hy H
    have hun := (mem_ready.1 hr).1
    refine ⟨fun h => (by rw [h] at hr; cases hr), fun j hj => ?_⟩
    have hjn : j < n := by
      rcases Nat.lt_or_ge j n with h | h
      · exact h
      · exact absurd hj (tail_waits hs hc hn inv _ i rfl hin hun j h)
    refine ⟨hjn, ?_⟩
    by_cases hji : j = i
    · subst hji; exact hy.qOp hi H
    · have h1 := (H.2 j (ready_mono hj hji)).2
      obtain ⟨hjun, oj, hoj, hall⟩ := mem_ready.1 hj
      have hnot : ∀ e ∈ oj.after, Region.binds md e = true → e.on ≠ i := fun e he hb heq => by
        have h1 := hall e he hb
        rw [heq, getD_both hun] at h1
        cases h1
      have h2 := qOp_put hoj (hfree j oj hoj hji hjun hnot) (fun cs b => hsel i oi cs b hi) (fun cs b => hsel j oj cs b hoj) hy h1
      have hfree' : ∀ k ok, ops[k]? = some ok → k ≠ i → (listed.setIfInBounds j true).getD k true = false →
          (∀ e ∈ ok.after, Region.binds md e = true → e.on ≠ i) → oi.apart ops ok = true := fun k ok hk hki hun hno => by
        refine hfree k ok hk hki ?_ hno
        by_cases hjk : j = k
        · subst hjk; exact hjun
        · rw [getD_set_ne true hjk] at hun; exact hun
      refine qOp_mono (fun a' h3 => ih (listed.setIfInBounds j true) a' (inv.set hj hjn) hfree' (ready_mono hr (Ne.symm hji)) h3.1 ?_) h2
      rw [Array.setIfInBounds_comm _ _ hji]
      exact h3.2
theorem wpAnyT_lex {n g : Nat} {Lq : Act → Prop} (hsel : Region.noSelect ops = true) (hs : Region.sinkB md ops n = true) (hc : Region.chainB md ops n = true) (hn : n < ops.size) :
    ∀ (l : List Oper) (k : Nat) (listed : Array Bool) (a : Act), (∀ j, j < l.length → l[j]? = ops[k + j]?) → k + l.length = n → HeadInv md ops n listed →
    Region.lexHead md ops g l.length k listed = true → wpQuiet P ops C Lq l a →
    wpAnyT P md ops C n (fun listed' a' => Region.seqB md ops g n listed' = true ∧ Lq a') l.length listed a
  | [], k, listed, a, _, hk, _, hB, h => by
    have : k = n := by simpa using hk
    subst this
    exact ⟨by simpa [Region.lexHead] using hB, h⟩
  | o :: l, k, listed, a, hl, hk, inv, hB, h => by
    have h0 : ops[k]? = some o := by simpa using (hl 0 (by simp)).symm
    simp only [List.length_cons, Region.lexHead, Bool.and_eq_true] at hB
    obtain ⟨⟨hr, hf⟩, hB'⟩ := hB
    have hkn : k < n := by simp only [List.length_cons] at hk; omega
    have hr' : k ∈ Region.ready md ops listed := by simpa using hr
    have hst : qOp P ops C k (wpQuiet P ops C Lq l) a := by unfold qOp; simp only [h0]; exact h
    obtain ⟨v, hy, hK⟩ := yieldsIn_of_qOp h0 hst
    exact wpAnyT_first h0 (Region.noSelect_spec hsel) hs hc hn hkn (fun listed' a' hL => seqB_ready hL.1) l.length listed a inv (Region.free_spec h0 hf) hr' hy
      (wpAnyT_lex hsel hs hc hn l (k + 1) _ _ (fun j hj => by have := hl (j + 1) (by simp; omega); simpa [Nat.add_assoc, Nat.add_comm 1 j] using this) (by simp only [List.length_cons] at hk; omega) (inv.set hr' hkn) hB' hK)
/-- THE REGION: n operations that leave old memory alone, and a tail -/
theorem wp_region_ext_tail {id : Nat} {Q : Exit → Act → World → Prop} {a : Act} {w : World} {l : List Oper} (n : Nat) (hm : P.follows .mixedOrders = true) (hB : Region.lexTailB .any l.toArray n = true)
    (h : wpQuiet P l.toArray (fun w' => ∃ n : ExtOf w, w' = n.val) (fun a' => ∀ w', (∃ n : ExtOf w, w' = n.val) → wpList P l.toArray Q (l.drop n) a' w') (l.take n) a) : (Code.region id l.toArray true).wp P Q a w := by
  simp only [Region.lexTailB, Bool.and_eq_true, decide_eq_true_eq] at hB
  obtain ⟨⟨⟨⟨hsel, hn⟩, hs⟩, hc⟩, hlex⟩ := hB
  have hn' : n < l.length := by simpa using hn
  have htl : (l.take n).length = n := by simp; omega
  have hdl : (l.drop n).length = l.toArray.size - n := by simp
  have inv0 : HeadInv .any l.toArray n (Array.replicate l.toArray.size false) :=
    ⟨by simp, fun j oj _ hl => (by rw [getD_replicate_false] at hl; cases hl), fun t _ ht => getD_in (by simpa using ht) (getD_replicate_false _ _)⟩
  have H := wpAnyT_lex (md := .any) (g := l.toArray.size - n) hsel hs hc hn (l.take n) 0 _ a (fun j hj => by
    have hj' : j < n := by rw [htl] at hj; exact hj
    simp [hj']) (by simpa using htl) inv0 (by rw [htl]; exact hlex) h
  refine wp_region_any hm ?_
  have := wpAny_of_headT (Q' := Q) (g := l.toArray.size - n) (fun listed a' w' hw' hL => by
    have := wpAny_of_seq (md := .any) (Q' := Q) (l.drop n) n listed a' w' (fun j => by simp [List.getElem?_drop]) (by rw [hdl]; exact hL.1) (hL.2 w' hw')
    rwa [hdl] at this) _ _ _ { w with drawn := w.drawn + 1 } (ExtOf.of (Ext.drew (Ext.refl w))) H
  rw [htl, show n + (l.toArray.size - n) = l.toArray.size by omega] at this
  exact this
end
end Go.Proofs.YtjflmmipjeangaaGreatDoor
end
/-
  A region that draws its order, some operations already carried out: the head (in an order that is named) leaves old memory alone, the tail comes up one after the other.
-/
section
set_option linter.unusedVariables false
set_option linter.unusedSimpArgs false
namespace Go.Proofs.YtjflmmipjeangaaGreatDoor
open Go.RowKit

section
variable {P : Program} {ops : Array Oper} {C : World → Prop}
def sinkL (ops : Array Oper) (t0 : Nat) : List Nat → Bool
  | [] => true
  | i :: rest => ((rest ++ [t0]).any fun j => Region.waitsFor .any ops j i) && sinkL ops t0 rest
def chainL (ops : Array Oper) : Nat → List Nat → Bool
  | _, [] => true
  | t, t' :: ts => Region.waitsFor .any ops t' t && chainL ops t' ts
def seqL (ops : Array Oper) : List Nat → Array Bool → Bool
  | [], listed => (Region.ready .any ops listed).isEmpty
  | t :: ts, listed => decide (Region.ready .any ops listed = [t]) && seqL ops ts (listed.setIfInBounds t true)
def lexL (ops : Array Oper) (ts : List Nat) : List Nat → Array Bool → Bool
  | [], listed => seqL ops ts listed
  | k :: ks, listed => (Region.ready .any ops listed).contains k && Region.free .any ops listed k && lexL ops ts ks (listed.setIfInBounds k true)
def closedB (ops : Array Oper) (listed : Array Bool) : Bool :=
  (List.range ops.size).all fun j => match ops[j]? with
    | some oj => !(listed.getD j false) || oj.after.all fun e => !(Region.binds .any e) || listed.getD e.on false
    | none => true
def coverB (ops : Array Oper) (listed : Array Bool) (hs ts : List Nat) : Bool := (List.range ops.size).all fun i => listed.getD i true || hs.contains i || ts.contains i
def mixB (ops : Array Oper) (listed : Array Bool) (hs : List Nat) (t0 : Nat) (ts : List Nat) : Bool :=
  Region.noSelect ops && decide (listed.size = ops.size) && closedB ops listed && ((t0 :: ts).all fun t => decide (t < ops.size) && !(listed.getD t true)) && coverB ops listed hs (t0 :: ts) && sinkL ops t0 hs && chainL ops t0 ts && lexL ops (t0 :: ts) hs listed

structure InvL (ops : Array Oper) (hs : List Nat) (t0 : Nat) (ts : List Nat) (listed : Array Bool) : Prop where
  size : listed.size = ops.size
  closed : ∀ j oj, ops[j]? = some oj → listed.getD j false = true → ∀ e ∈ oj.after, Region.binds .any e = true → listed.getD e.on false = true
  tail : ∀ t ∈ t0 :: ts, listed.getD t true = false
  cover : ∀ i, listed.getD i true = false → i ∈ hs ∨ i ∈ t0 :: ts

theorem InvL.set {hs ts : List Nat} {t0 i : Nat} {listed : Array Bool} (inv : InvL ops hs t0 ts listed) (hi : i ∈ Region.ready .any ops listed) (hin : i ∉ t0 :: ts) : InvL ops hs t0 ts (listed.setIfInBounds i true) := by
  obtain ⟨_, oi, hoi, hall⟩ := mem_ready.1 hi
  refine ⟨by simp [inv.size], fun j oj hj hl e he hb => ?_, fun t ht => by rw [getD_set_ne true (show i ≠ t from fun e => hin (by rw [e]; exact ht))]; exact inv.tail t ht, fun k hk => ?_⟩
  · by_cases hij : i = j
    · subst hij
      have : oj = oi := Option.some.inj (hj.symm.trans hoi)
      subst this
      exact getD_set_true (hall e he hb)
    · rw [getD_set_ne false hij] at hl
      exact getD_set_true (inv.closed j oj hj hl e he hb)
  · by_cases hik : i = k
    · subst hik
      have hlt : i < listed.size := by
        rcases Nat.lt_or_ge i listed.size with h | h
        · exact h
        · have := (mem_ready.1 hi).1
          simp [Array.getElem?_eq_none h] at this
      simp [hlt] at hk
    · rw [getD_set_ne true hik] at hk
      exact inv.cover k hk
theorem chain_waits {hs ts0 : List Nat} {t0' : Nat} {listed : Array Bool} (inv : InvL ops hs t0' ts0 listed) : ∀ (ts : List Nat) (t : Nat), chainL ops t ts = true → (∀ x ∈ t :: ts, x ∈ t0' :: ts0) → ∀ x ∈ ts, x ∉ Region.ready .any ops listed
  | [], _, _, _, x, hx => by cases hx
  | t' :: ts, t, hc, hsub, x, hx => by
    simp only [chainL, Bool.and_eq_true] at hc
    rcases List.mem_cons.1 hx with rfl | hx
    · intro hr
      obtain ⟨_, ox, hox, hall⟩ := mem_ready.1 hr
      obtain ⟨o', ho', e, he, hb, hon⟩ := Region.waitsFor_spec hc.1
      have : o' = ox := Option.some.inj (ho'.symm.trans hox)
      subst this
      have h2 := hall e he hb
      rw [hon, getD_both (inv.tail t (hsub t (by simp)))] at h2
      cases h2
    · exact chain_waits inv ts t' hc.2 (fun y hy => hsub y (List.mem_cons_of_mem _ hy)) x hx
theorem sink_waits {hs0 ts : List Nat} {t0 : Nat} {listed : Array Bool} (inv : InvL ops hs0 t0 ts listed) : ∀ (hs : List Nat), sinkL ops t0 hs = true → (∀ i ∈ hs, i < ops.size) → ∀ i ∈ hs, listed.getD i true = false → t0 ∉ Region.ready .any ops listed
  | [], _, _, i, hi, _ => by cases hi
  | h :: rest, hs, hsz, i, hi, hun => by
    simp only [sinkL, Bool.and_eq_true] at hs
    rcases List.mem_cons.1 hi with rfl | hi
    · intro hr
      obtain ⟨j, hj, hw⟩ := List.any_eq_true.1 hs.1
      obtain ⟨oj, hoj, e, he, hb, hon⟩ := Region.waitsFor_spec hw
      rcases List.mem_append.1 hj with hj | hj
      · cases hl : listed.getD j false with
        | true =>
          have h2 := inv.closed j oj hoj hl e he hb
          rw [hon, getD_both hun] at h2
          cases h2
        | false =>
          have hjs : j < listed.size := by rw [inv.size]; exact hsz j (by simp [hj])
          exact sink_waits inv rest hs.2 (fun k hk => hsz k (by simp [hk])) j hj (getD_in hjs hl) hr
      · obtain rfl : j = t0 := by simpa using hj
        obtain ⟨_, ot, hot, hall⟩ := mem_ready.1 hr
        have : oj = ot := Option.some.inj (hoj.symm.trans hot)
        subst this
        have h2 := hall e he hb
        rw [hon, getD_both hun] at h2
        cases h2
    · exact sink_waits inv rest hs.2 (fun k hk => hsz k (by simp [hk])) i hi hun
theorem head_only {hs ts : List Nat} {t0 i : Nat} {listed : Array Bool} (inv : InvL ops hs t0 ts listed) (hsk : sinkL ops t0 hs = true) (hch : chainL ops t0 ts = true) (hsz : ∀ i ∈ hs, i < ops.size) (hi : i ∈ hs) (hun : listed.getD i true = false) {j : Nat} (hj : j ∈ Region.ready .any ops listed) : j ∈ hs ∧ j ∉ t0 :: ts := by
  have hno : j ∉ t0 :: ts := by
    intro h
    rcases List.mem_cons.1 h with rfl | h
    · exact sink_waits inv hs hsk hsz i hi hun hj
    · exact chain_waits inv ts t0 hch (fun x hx => hx) j h hj
  exact ⟨(inv.cover j (mem_ready.1 hj).1).resolve_right hno, hno⟩

/-- the head, whatever order is picked; then L -/
def wpAnyM (P : Program) (ops : Array Oper) (C : World → Prop) (hs : List Nat) (L : Array Bool → Act → Prop) : Nat → Array Bool → Act → Prop
  | 0, listed, a => L listed a
  | f + 1, listed, a => Region.ready .any ops listed ≠ [] ∧ ∀ i ∈ Region.ready .any ops listed, i ∈ hs ∧ qOp P ops C i (wpAnyM P ops C hs L f (listed.setIfInBounds i true)) a
theorem wpAny_of_headM {g : Nat} {hs : List Nat} {L : Array Bool → Act → Prop} {Q' : Exit → Act → World → Prop} (hL : ∀ listed a w, C w → L listed a → wpAny P .any ops Q' g listed a w) :
    ∀ (f : Nat) (listed : Array Bool) (a : Act) (w : World), C w → wpAnyM P ops C hs L f listed a → wpAny P .any ops Q' (f + g) listed a w
  | 0, listed, a, w, hw, h => by rw [Nat.zero_add]; exact hL _ _ _ hw h
  | f + 1, listed, a, w, hw, h => by
    rw [show f + 1 + g = (f + g) + 1 by omega]
    exact ⟨fun h0 => absurd h0 h.1, fun i hi => wpOp_of_qOp hw (fun a' w' hw' h' => wpAny_of_headM hL f _ a' w' hw' h') (h.2 i hi).2⟩
theorem wpAnyM_first {hs ts : List Nat} {t0 i : Nat} {oi : Oper} {v : Value} {L : Array Bool → Act → Prop} (hi : ops[i]? = some oi) (hsel : ∀ (j : Nat) (o : Oper) cs b, ops[j]? = some o → o.op ≠ .select cs b)
    (hsk : sinkL ops t0 hs = true) (hch : chainL ops t0 ts = true) (hsz : ∀ i ∈ hs, i < ops.size) (hin : i ∈ hs) (hdone : ∀ listed a, L listed a → ∀ j ∈ Region.ready .any ops listed, j ∈ t0 :: ts) :
    ∀ (f : Nat) (listed : Array Bool) (a : Act), InvL ops hs t0 ts listed →
      (∀ j oj, ops[j]? = some oj → j ≠ i → listed.getD j true = false → (∀ e ∈ oj.after, Region.binds .any e = true → e.on ≠ i) → oi.apart ops oj = true) →
      i ∈ Region.ready .any ops listed → YieldsIn P ops C oi v a →
      wpAnyM P ops C hs L f (listed.setIfInBounds i true) (a.put oi.dst v) → wpAnyM P ops C hs L (f + 1) listed a := by
  intro f
  induction f with
  | zero =>
    intro listed a inv _ hr hy H
    have hun := (mem_ready.1 hr).1
    refine ⟨fun h => (by rw [h] at hr; cases hr), fun j hj => ?_⟩
    obtain ⟨hjn, hjt⟩ := head_only inv hsk hch hsz hin hun hj
    refine ⟨hjn, ?_⟩
    by_cases hji : j = i
    · subst hji; exact hy.qOp hi H
    · exact absurd (hdone _ _ H j (ready_mono hj hji)) hjt
  | succ f ih =>
    intro listed a inv hfree hr hy H
    have hun := (mem_ready.1 hr).1
    refine ⟨fun h => (by rw [h] at hr; cases hr), fun j hj => ?_⟩
    obtain ⟨hjn, hjt⟩ := head_only inv hsk hch hsz hin hun hj
    refine ⟨hjn, ?_⟩
    by_cases hji : j = i
    · subst hji; exact hy.qOp hi H
    · have h1 := (H.2 j (ready_mono hj hji)).2
      obtain ⟨hjun, oj, hoj, hall⟩ := mem_ready.1 hj
      have hnot : ∀ e ∈ oj.after, Region.binds .any e = true → e.on ≠ i := fun e he hb heq => by
        have h1 := hall e he hb
        rw [heq, getD_both hun] at h1
        cases h1
      have h2 := qOp_put hoj (hfree j oj hoj hji hjun hnot) (fun cs b => hsel i oi cs b hi) (fun cs b => hsel j oj cs b hoj) hy h1
      have hfree' : ∀ k ok, ops[k]? = some ok → k ≠ i → (listed.setIfInBounds j true).getD k true = false →
          (∀ e ∈ ok.after, Region.binds .any e = true → e.on ≠ i) → oi.apart ops ok = true := fun k ok hk hki hun hno => by
        refine hfree k ok hk hki ?_ hno
        by_cases hjk : j = k
        · subst hjk; exact hjun
        · rw [getD_set_ne true hjk] at hun; exact hun
      refine qOp_mono (fun a' h3 => ih (listed.setIfInBounds j true) a' (inv.set hj hjt) hfree' (ready_mono hr (Ne.symm hji)) h3.1 ?_) h2
      rw [Array.setIfInBounds_comm _ _ hji]
      exact h3.2
/-- the operations of a list of places -/
def OpsAt (ops : Array Oper) : List Nat → List Oper → Prop
  | [], [] => True
  | i :: is, o :: os => ops[i]? = some o ∧ OpsAt ops is os
  | _, _ => False
theorem seqL_ready {ts : List Nat} {listed : Array Bool} (h : seqL ops ts listed = true) : ∀ j ∈ Region.ready .any ops listed, j ∈ ts := by
  cases ts with
  | nil => intro j hj; simp only [seqL, List.isEmpty_iff] at h; rw [h] at hj; cases hj
  | cons t ts =>
    intro j hj
    simp only [seqL, Bool.and_eq_true, decide_eq_true_eq] at h
    rw [h.1] at hj
    have : j = t := by simpa using hj
    simp [this]
theorem wpAnyM_lex {hs0 ts : List Nat} {t0 : Nat} {Lq : Act → Prop} (hsel : Region.noSelect ops = true) (hsk : sinkL ops t0 hs0 = true) (hch : chainL ops t0 ts = true) (hsz : ∀ i ∈ hs0, i < ops.size) (hdis : ∀ i ∈ hs0, i ∉ t0 :: ts) :
    ∀ (hs : List Nat) (l : List Oper) (listed : Array Bool) (a : Act), OpsAt ops hs l → (∀ i ∈ hs, i ∈ hs0) → InvL ops hs0 t0 ts listed →
    lexL ops (t0 :: ts) hs listed = true → wpQuiet P ops C Lq l a →
    wpAnyM P ops C hs0 (fun listed' a' => seqL ops (t0 :: ts) listed' = true ∧ Lq a') hs.length listed a
  | [], [], listed, a, _, _, _, hB, h => ⟨by simpa [lexL] using hB, h⟩
  | k :: ks, o :: l, listed, a, hl, hsub, inv, hB, h => by
    obtain ⟨h0, hl⟩ := hl
    simp only [lexL, Bool.and_eq_true] at hB
    obtain ⟨⟨hr, hf⟩, hB'⟩ := hB
    have hr' : k ∈ Region.ready .any ops listed := by simpa using hr
    have hst : qOp P ops C k (wpQuiet P ops C Lq l) a := by unfold qOp; simp only [h0]; exact h
    obtain ⟨v, hy, hK⟩ := yieldsIn_of_qOp h0 hst
    exact wpAnyM_first h0 (Region.noSelect_spec hsel) hsk hch hsz (hsub k (by simp)) (fun listed' a' hL => seqL_ready hL.1) ks.length listed a inv (Region.free_spec h0 hf) hr' hy
      (wpAnyM_lex hsel hsk hch hsz hdis ks l _ _ hl (fun i hi => hsub i (by simp [hi])) (inv.set hr' (hdis k (hsub k (by simp)))) hB' hK)
  | [], _ :: _, _, _, hl, _, _, _, _ => hl.elim
  | _ :: _, [], _, _, hl, _, _, _, _ => hl.elim
theorem wpAny_of_seqL {Q' : Exit → Act → World → Prop} : ∀ (ts : List Nat) (l : List Oper) (listed : Array Bool) (a : Act) (w : World), OpsAt ops ts l →
    seqL ops ts listed = true → wpList P ops Q' l a w → wpAny P .any ops Q' ts.length listed a w
  | [], [], _, _, _, _, hB, h => ⟨by simpa [seqL] using hB, h⟩
  | t :: ts, o :: l, listed, a, w, hl, hB, h => by
    obtain ⟨h0, hl⟩ := hl
    simp only [seqL, Bool.and_eq_true, decide_eq_true_eq] at hB
    refine ⟨fun h1 => (by rw [hB.1] at h1; cases h1), fun i hi => ?_⟩
    rw [hB.1] at hi
    have hik : i = t := by simpa using hi
    subst hik
    have hw : wpOp P ops Q' i (wpList P ops Q' l) a w := by unfold wpOp; simp only [h0]; exact h
    exact wpOp_mono (fun a' w' h' => wpAny_of_seqL ts l _ a' w' hl hB.2 h') hw
  | [], _ :: _, _, _, _, hl, _, _ => hl.elim
  | _ :: _, [], _, _, _, hl, _, _ => hl.elim
theorem mixB_inv {hs ts : List Nat} {t0 : Nat} {listed : Array Bool} (hB : mixB ops listed hs t0 ts = true) : InvL ops hs t0 ts listed := by
  simp only [mixB, Bool.and_eq_true, decide_eq_true_eq, List.all_eq_true] at hB
  obtain ⟨⟨⟨⟨⟨⟨⟨h1, h2⟩, h3⟩, h4⟩, h5⟩, h6⟩, h7⟩, h8⟩ := hB
  refine ⟨h2, fun j oj hj hl e he hb => ?_, fun t ht => ?_, fun i hi => ?_⟩
  · have hlt : j < ops.size := (Array.getElem?_eq_some_iff.1 hj).1
    have := List.all_eq_true.1 h3 j (List.mem_range.2 hlt)
    rw [hj] at this
    simp only [hl, Bool.not_true, Bool.false_or] at this
    have := (Array.all_eq_true'.1 this) e he
    simp only [hb, Bool.not_true, Bool.false_or] at this
    exact this
  · have := h4 t ht
    simp only [Bool.not_eq_true'] at this
    exact this.2
  · have hlt : i < ops.size := by
      rcases Nat.lt_or_ge i listed.size with h | h
      · omega
      · simp [Array.getElem?_eq_none h] at hi
    have := List.all_eq_true.1 h5 i (List.mem_range.2 hlt)
    simp only [hi, Bool.false_or, Bool.or_eq_true, List.contains_iff_mem] at this
    exact this
/-- the rest of a region: a head and a tail -/
theorem any_tail {Q : Exit → Act → World → Prop} {a : Act} {w : World} {hs ts : List Nat} {t0 : Nat} {lh lt : List Oper} {listed : Array Bool} (hB : mixB ops listed hs t0 ts = true) (hsz : (hs.all fun i => decide (i < ops.size) && !((t0 :: ts).contains i)) = true) (hh : OpsAt ops hs lh) (ht : OpsAt ops (t0 :: ts) lt) (hC : C w)
    (h : wpQuiet P ops C (fun a' => ∀ w', C w' → wpList P ops Q lt a' w') lh a) : wpAny P .any ops Q (hs.length + (t0 :: ts).length) listed a w := by
  have inv := mixB_inv hB
  simp only [mixB, Bool.and_eq_true, decide_eq_true_eq, List.all_eq_true] at hB
  obtain ⟨⟨⟨⟨⟨⟨⟨h1, h2⟩, h3⟩, h4⟩, h5⟩, h6⟩, h7⟩, h8⟩ := hB
  have hs1 : ∀ i ∈ hs, i < ops.size := fun i hi => by
    have := List.all_eq_true.1 hsz i hi
    simp only [Bool.and_eq_true, decide_eq_true_eq] at this
    exact this.1
  have hs2 : ∀ i ∈ hs, i ∉ t0 :: ts := fun i hi => by
    have := List.all_eq_true.1 hsz i hi
    simp only [Bool.and_eq_true, Bool.not_eq_true'] at this
    intro hm
    have h9 := this.2
    rw [List.contains_iff_mem.2 hm] at h9
    cases h9
  have H := wpAnyM_lex (C := C) (P := P) h1 h6 h7 hs1 hs2 hs lh listed a hh (fun i hi => hi) inv h8 h
  exact wpAny_of_headM (Q' := Q) (g := (t0 :: ts).length) (fun listed' a' w' hw' hL => wpAny_of_seqL (t0 :: ts) lt listed' a' w' ht hL.1 (hL.2 w' hw')) hs.length listed a w hC H
/-- the part of a list that a mask names -/
def part {α : Type} : List α → List Bool → List α
  | [], _ => []
  | _ :: _, [] => []
  | o :: l, true :: m => o :: part l m
  | _ :: l, false :: m => part l m
def idx : Nat → List Bool → List Nat
  | _, [] => []
  | k, true :: m => k :: idx (k + 1) m
  | k, false :: m => idx (k + 1) m
theorem opsAt_part (l : List Oper) : ∀ (m : List Bool) (l' : List Oper) (k : Nat), m.length ≤ l'.length → (∀ j, l'[j]? = l[k + j]?) → OpsAt l.toArray (idx k m) (part l' m)
  | [], [], _, _, _ => trivial
  | [], _ :: _, _, _, _ => trivial
  | _ :: _, [], _, h, _ => by simp at h
  | true :: m, o :: l', k, h, hl => by
    refine ⟨?_, opsAt_part l m l' (k + 1) (by simpa using h) (fun j => ?_)⟩
    · have := hl 0
      simpa using this.symm
    · have := hl (j + 1)
      simpa [Nat.add_assoc, Nat.add_comm 1 j] using this
  | false :: m, o :: l', k, h, hl => opsAt_part l m l' (k + 1) (by simpa using h) (fun j => by
      have := hl (j + 1)
      simpa [Nat.add_assoc, Nat.add_comm 1 j] using this)
def maskB (ops : Array Oper) (listed : Array Bool) (mh mt : List Bool) : Bool :=
  match idx 0 mt with
  | [] => false
  | t0 :: ts => mixB ops listed (idx 0 mh) t0 ts && ((idx 0 mh).all fun i => decide (i < ops.size) && !((t0 :: ts).contains i)) && decide (mh.length ≤ ops.size) && decide (mt.length ≤ ops.size)
/-- the rest of a region, head and tail named by masks -/
theorem any_mask {Q : Exit → Act → World → Prop} {a : Act} {w : World} {l : List Oper} {listed : Array Bool} {fuel : Nat} (mh mt : List Bool) (hB : maskB l.toArray listed mh mt = true) (hf : fuel = (idx 0 mh).length + (idx 0 mt).length) (hC : C w)
    (h : wpQuiet P l.toArray C (fun a' => ∀ w', C w' → wpList P l.toArray Q (part l mt) a' w') (part l mh) a) : wpAny P .any l.toArray Q fuel listed a w := by
  unfold maskB at hB
  subst hf
  rcases he : idx 0 mt with _ | ⟨t0, ts⟩
  · rw [he] at hB; cases hB
  · rw [he] at hB
    simp only [Bool.and_eq_true, decide_eq_true_eq] at hB
    obtain ⟨⟨⟨h1, h2⟩, h3⟩, h4⟩ := hB
    have e1 := opsAt_part l mh l 0 (by simpa using h3) (fun j => by simp)
    have e2 := opsAt_part l mt l 0 (by simpa using h4) (fun j => by simp)
    rw [he] at e2
    exact any_tail h1 h2 e1 e2 hC h
/-- the whole region -/
theorem wp_region_mask {id : Nat} {Q : Exit → Act → World → Prop} {a : Act} {w : World} {l : List Oper} (mh mt : List Bool) (hm : P.follows .mixedOrders = true) (hB : maskB l.toArray (Array.replicate l.toArray.size false) mh mt = true) (hf : l.toArray.size = (idx 0 mh).length + (idx 0 mt).length)
    (h : wpQuiet P l.toArray (fun w' => ∃ n : ExtOf w, w' = n.val) (fun a' => ∀ w', (∃ n : ExtOf w, w' = n.val) → wpList P l.toArray Q (part l mt) a' w') (part l mh) a) : (Code.region id l.toArray true).wp P Q a w :=
  wp_region_any hm (any_mask (w := { w with drawn := w.drawn + 1 }) mh mt hB hf (ExtOf.of (Ext.drew (Ext.refl w))) h)
end
end Go.Proofs.YtjflmmipjeangaaGreatDoor
end
/-
  A region that draws its order: a head of operations that read or call functions that leave old memory alone, among them one that makes memory, and a tail that comes up one after the other.
-/
section
set_option linter.unusedVariables false
set_option linter.unusedSimpArgs false
namespace Go.Proofs.YtjflmmipjeangaaGreatDoor
open Go.RowKit

/-- later memory keeps S -/
def Stable (S : World → Prop) : Prop := ∀ W W', S W → Ext W W' → S W'
/-- the worlds that extend w and meet S -/
def ExtS (w : World) (S : World → Prop) : Type := { W : World // Ext w W ∧ S W }
def ExtS.val {w : World} {S : World → Prop} (n : ExtS w S) : World := Subtype.val n
theorem ExtS.ext {w : World} {S : World → Prop} (n : ExtS w S) : Ext w n.val := n.2.1
theorem ExtS.st {w : World} {S : World → Prop} (n : ExtS w S) : S n.val := n.2.2
instance {w : World} {S : World → Prop} {b : Nat} [h : Old b w] (n : ExtS w S) : Old b n.val := ⟨Nat.lt_of_lt_of_le h.lt n.ext.size⟩
instance {w : World} {S : World → Prop} {b : Nat} {cs : Array Value} [h : Block w b cs] (n : ExtS w S) : Block n.val b cs := ⟨by obtain ⟨t, e⟩ := h.get; exact ⟨t, by rw [n.ext.block b h.lt]; exact e⟩⟩
theorem ExtS.cell {w : World} {S : World → Prop} (n : ExtS w S) (b o : Nat) [h : Old b w] : n.val.cell? ⟨b, o, none⟩ = w.cell? ⟨b, o, none⟩ := Below.cell (p := ⟨b, o, none⟩) n.ext h.lt
theorem ExtS.frozen {w : World} {S : World → Prop} (n : ExtS w S) (b o : Nat) [h : Old b w] : n.val.frozen? ⟨b, o, none⟩ = w.frozen? ⟨b, o, none⟩ := Below.frozen (p := ⟨b, o, none⟩) n.ext h.lt
theorem ExtS.of {w W : World} {S : World → Prop} (h : Ext w W) (h' : S W) : ∃ n : ExtS w S, W = n.val := ⟨⟨W, h, h'⟩, rfl⟩

section
variable {P : Program} {ops : Array Oper} {w0 : World} {A : Nat → Value → Prop} {F : Nat → Value → World → Prop}
theorem exts_call {f : FuncId} {args : Array Value} {w : World} {S : World → Prop} {n : ExtS w S} {v : Value} (hS : Stable S)
    (h : Calls P f args n.val fun e w' => e = .returned v ∧ ∃ m : ExtOf n.val, w' = m.val) : Calls P f args n.val fun e w'' => e = .returned v ∧ ∃ m : ExtS w S, w'' = m.val :=
  h.mono fun _ _ ⟨he, m, hm⟩ => ⟨he, ExtS.of (hm ▸ n.ext.trans m.ext) (hm ▸ hS _ _ n.st m.ext)⟩
/-- the soft head, whatever order is picked; then L -/
def wpAnySL (P : Program) (ops : Array Oper) (w0 : World) (A : Nat → Value → Prop) (F : Nat → Value → World → Prop) (hs : List Nat) (L : Array Bool → Act → Prop) : Nat → Array Bool → Act → Prop
  | 0, listed, a => L listed a
  | f + 1, listed, a => Region.ready .any ops listed ≠ [] ∧ ∀ i ∈ Region.ready .any ops listed, i ∈ hs ∧ sOp P ops w0 A F i (wpAnySL P ops w0 A F hs L f (listed.setIfInBounds i true)) a
theorem wpAnySL_first {hs ts : List Nat} {t0 i : Nat} {oi : Oper} {L : Array Bool → Act → Prop} (hi : ops[i]? = some oi) (hA : ∀ d, ∃ v, A d v) (h1w : oneWriter ops) (hsel : ∀ (j : Nat) (o : Oper) cs b, ops[j]? = some o → o.op ≠ .select cs b)
    (hsk : sinkL ops t0 hs = true) (hch : chainL ops t0 ts = true) (hsz : ∀ i ∈ hs, i < ops.size) (hin : i ∈ hs) (hdone : ∀ listed a, L listed a → ∀ j ∈ Region.ready .any ops listed, j ∈ t0 :: ts) :
    ∀ (f : Nat) (listed : Array Bool) (a : Act), InvL ops hs t0 ts listed →
      (∀ j oj, ops[j]? = some oj → j ≠ i → listed.getD j true = false → (∀ e ∈ oj.after, Region.binds .any e = true → e.on ≠ i) → oi.apart ops oj = true) →
      i ∈ Region.ready .any ops listed → SO P ops w0 A F oi a → (∀ v, Adm ops A oi a v → wpAnySL P ops w0 A F hs L f (listed.setIfInBounds i true) (a.put oi.dst v)) → wpAnySL P ops w0 A F hs L (f + 1) listed a := by
  have here : ∀ {K : Act → Prop} {a : Act}, SO P ops w0 A F oi a → (∀ v, Adm ops A oi a v → K (a.put oi.dst v)) → sOp P ops w0 A F i K a := fun {K a} h1 h2 => by
    unfold sOp; rw [hi]; exact ⟨h1, h2⟩
  intro f
  induction f with
  | zero =>
    intro listed a inv _ hr hy H
    have hun := (mem_ready.1 hr).1
    refine ⟨fun h => (by rw [h] at hr; cases hr), fun j hj => ?_⟩
    obtain ⟨hjn, hjt⟩ := head_only inv hsk hch hsz hin hun hj
    refine ⟨hjn, ?_⟩
    by_cases hji : j = i
    · subst hji; exact here hy H
    · obtain ⟨v, hv⟩ := Adm_some (ops := ops) hA oi a
      exact absurd (hdone _ _ (H v hv) j (ready_mono hj hji)) hjt
  | succ f ih =>
    intro listed a inv hfree hr hy H
    have hun := (mem_ready.1 hr).1
    refine ⟨fun h => (by rw [h] at hr; cases hr), fun j hj => ?_⟩
    obtain ⟨hjn, hjt⟩ := head_only inv hsk hch hsz hin hun hj
    refine ⟨hjn, ?_⟩
    by_cases hji : j = i
    · subst hji; exact here hy H
    · obtain ⟨hjun, oj, hoj, hall⟩ := mem_ready.1 hj
      obtain ⟨hiun, oi', hoi', halli⟩ := mem_ready.1 hr
      obtain rfl : oi = oi' := by rw [hi] at hoi'; exact Option.some.inj hoi'
      have notwait : ∀ (k : Nat), listed.getD k true = false → ∀ (ok : Oper), (∀ e ∈ ok.after, Region.binds .any e = true → listed.getD e.on false = true) → ∀ e ∈ ok.after, Region.binds .any e = true → e.on ≠ k := fun k hk ok hok e he hb heq => by
        have h1 := hok e he hb
        rw [heq, getD_both hk] at h1
        cases h1
      have hnot := notwait i hiun oj hall
      have hnoti := notwait j hjun oi halli
      obtain ⟨l1, l2, l3⟩ := Oper.apart_spec (hfree j oj hoj hji hjun hnot)
      have hfree' : ∀ k ok, ops[k]? = some ok → k ≠ i → (listed.setIfInBounds j true).getD k true = false →
          (∀ e ∈ ok.after, Region.binds .any e = true → e.on ≠ i) → oi.apart ops ok = true := fun k ok hk hki hun hno => by
        refine hfree k ok hk hki ?_ hno
        by_cases hjk : j = k
        · subst hjk; exact hjun
        · rw [getD_set_ne true hjk] at hun; exact hun
      have at1 : ∀ v, Adm ops A oi a v → SO P ops w0 A F oj (a.put oi.dst v) ∧ ∀ u, Adm ops A oj (a.put oi.dst v) u → wpAnySL P ops w0 A F hs L f ((listed.setIfInBounds i true).setIfInBounds j true) ((a.put oi.dst v).put oj.dst u) := fun v hv => by
        have := ((H v hv).2 j (ready_mono hj hji)).2
        unfold sOp at this
        rw [hoj] at this
        exact this
      obtain ⟨v0, hv0⟩ := Adm_some (ops := ops) hA oi a
      unfold sOp
      rw [hoj]
      refine ⟨(SO_put h1w hi hnot (fun cs b => hsel j oj cs b hoj) l1).1 (at1 v0 hv0).1, fun u hu => ?_⟩
      refine ih (listed.setIfInBounds j true) (a.put oj.dst u) (inv.set hj hjt) hfree' (ready_mono hr (Ne.symm hji)) ((SO_put h1w hoj hnoti (fun cs b => hsel i oi cs b hi) l3).2 hy) (fun v hv => ?_)
      rw [Adm_put l3] at hv
      have := (at1 v hv).2 u (by rw [Adm_put l1]; exact hu)
      rw [Array.setIfInBounds_comm _ _ (Ne.symm hji), Act.put_comm a v u l2] at this
      exact this
theorem wpAnySL_lex {hs0 ts : List Nat} {t0 : Nat} {Lq : Act → Prop} (hA : ∀ d, ∃ v, A d v) (h1w : oneWriter ops) (hsel : Region.noSelect ops = true) (hsk : sinkL ops t0 hs0 = true) (hch : chainL ops t0 ts = true) (hsz : ∀ i ∈ hs0, i < ops.size) (hdis : ∀ i ∈ hs0, i ∉ t0 :: ts) :
    ∀ (hs : List Nat) (l : List Oper) (listed : Array Bool) (a : Act), OpsAt ops hs l → (∀ i ∈ hs, i ∈ hs0) → (∀ i ∈ hs0, i ∈ hs ∨ listed.getD i false = true) → InvL ops hs0 t0 ts listed →
    lexL ops (t0 :: ts) hs listed = true → wpSoft P ops w0 A F Lq l a →
    wpAnySL P ops w0 A F hs0 (fun listed' a' => seqL ops (t0 :: ts) listed' = true ∧ Lq a' ∧ ∀ i ∈ hs0, listed'.getD i false = true) hs.length listed a
  | [], [], listed, a, _, _, hall, _, hB, h => ⟨by simpa [lexL] using hB, h, fun i hi => (hall i hi).resolve_left (by simp)⟩
  | k :: ks, o :: l, listed, a, hl, hsub, hall, inv, hB, h => by
    obtain ⟨h0, hl⟩ := hl
    simp only [lexL, Bool.and_eq_true] at hB
    obtain ⟨⟨hr, hf⟩, hB'⟩ := hB
    have hr' : k ∈ Region.ready .any ops listed := by simpa using hr
    exact wpAnySL_first h0 hA h1w (Region.noSelect_spec hsel) hsk hch hsz (hsub k (by simp)) (fun listed' a' hL => seqL_ready hL.1) ks.length listed a inv (Region.free_spec h0 hf) hr' h.1
      (fun v hv => wpAnySL_lex hA h1w hsel hsk hch hsz hdis ks l _ _ hl (fun i hi => hsub i (by simp [hi])) (fun i hi => by
        rcases hall i hi with h9 | h9
        · rcases List.mem_cons.1 h9 with rfl | h9
          · right
            have hlt : i < listed.size := by rw [inv.size]; exact hsz i hi
            simp [hlt]
          · exact .inl h9
        · exact .inr (getD_set_true h9)) (inv.set hr' (hdis k (hsub k (by simp)))) hB' (h.2 v hv))
  | [], _ :: _, _, _, hl, _, _, _, _, _ => hl.elim
  | _ :: _, [], _, _, hl, _, _, _, _, _ => hl.elim
theorem wpAny_of_softL {g : Nat} {hs : List Nat} {L : Array Bool → Act → Prop} {Q' : Exit → Act → World → Prop} (hst : ∀ d v w w', F d v w → Ext w w' → F d v w') (h1w : oneWriter ops) (hL : ∀ listed a w, mid ops w0 F listed a w → L listed a → wpAny P .any ops Q' g listed a w) :
    ∀ (f : Nat) (listed : Array Bool) (a : Act) (w : World), mid ops w0 F listed a w → wpAnySL P ops w0 A F hs L f listed a → wpAny P .any ops Q' (f + g) listed a w
  | 0, listed, a, w, hm, h => by rw [Nat.zero_add]; exact hL _ _ _ hm h
  | f + 1, listed, a, w, hm, h => by
    rw [show f + 1 + g = (f + g) + 1 by omega]
    refine ⟨fun h0 => absurd h0 h.1, fun i hi => ?_⟩
    have hso := (h.2 i hi).2
    obtain ⟨_, o, ho, hall⟩ := mem_ready.1 hi
    unfold sOp at hso
    rw [ho] at hso
    unfold wpOp
    rw [ho]
    obtain ⟨h1, h2⟩ := hso
    unfold SO at h1
    unfold Adm at h2
    by_cases hw : Region.wanted o (yielded ops a.tmps) = true
    · simp only [hw, if_true] at h1 h2 ⊢
      refine .inl ?_
      have h3 := h1 w hm.1 (fun e he hb oi d hoi hd => hm.2.2 e.on oi d (hall e he hb) hoi hd)
      have fin : ∀ v w', Ext w w' ∧ okDst A F o.dst v w' → wpAny P .any ops Q' (f + g) (listed.setIfInBounds i true) (a.put o.dst v) w' := fun v w' ⟨hx, hv⟩ => by
        refine wpAny_of_softL (hs := hs) hst h1w hL f _ _ _ (mid_put hst h1w ho hm hx hv) ?_
        cases hd : o.dst with
        | none => have := h2 undef (by rw [hd]; rfl); rw [hd] at this; exact this
        | some d => rw [hd] at hv h2; exact h2 v hv.1
      unfold Oper.wp
      generalize (execOp a.eval o).run P w = r at *
      cases r with
      | ok n w' =>
        cases n <;> simp only [endsWith] at h3 <;> simp only [Oper.upon]
        case value u => exact fin _ _ h3
        case skip => exact fin _ _ h3
        case enter f args => exact Calls.mono h3 fun e w'' ⟨v, he, hv⟩ => by subst he; exact fin _ _ hv
      | halt x w' => simp only [endsWith] at h3
    · simp only [hw] at h1 h2 ⊢
      exact wpAny_of_softL hst h1w hL f _ _ _ (mid_put hst h1w ho hm (Ext.refl w) (h1.2 w)) (h2 undef rfl)

/-- what a walk leaves in a slot that it does not write -/
theorem quiet_frame {C : World → Prop} {A' : Act} {d : Nat} : ∀ (l : List Oper) (a : Act), (∀ o ∈ l, o.dst ≠ some d) → wpQuiet P ops C (fun a' => a' = A') l a → A'.tmps.getD d undef = a.tmps.getD d undef
  | [], a, _, h => by have : a = A' := h; rw [this]
  | o :: l, a, hd, h => by
    have step : ∀ v, wpQuiet P ops C (fun a' => a' = A') l (a.put o.dst v) → A'.tmps.getD d undef = a.tmps.getD d undef := fun v hv => by
      rw [quiet_frame l _ (fun o' ho' => hd o' (by simp [ho'])) hv]
      cases hdo : o.dst with
      | none => rfl
      | some d' =>
        have hne : d' ≠ d := fun e => hd o (by simp) (by rw [hdo, e])
        simp [Act.put, Array.getElem?_setIfInBounds_ne hne]
    unfold wpQuiet at h
    split at h
    · obtain ⟨v, _, hv⟩ := h
      exact step v hv
    · exact step undef h
theorem quiet_size {C : World → Prop} {A' : Act} : ∀ (l : List Oper) (a : Act), wpQuiet P ops C (fun a' => a' = A') l a → A'.tmps.size = a.tmps.size
  | [], a, h => by have : a = A' := h; rw [this]
  | o :: l, a, h => by
    unfold wpQuiet at h
    split at h
    · obtain ⟨v, _, hv⟩ := h
      rw [quiet_size l _ hv, size_put]
    · rw [quiet_size l _ h, size_put]
/-- the head: operations that only read or call, and then one that makes memory -/
theorem soft_of_quiet {w : World} {A' : Act} {oM : Oper} {dM : Nat} {FM : Value → World → Prop} {Q : Act → Prop} (hdM : oM.dst = some dM)
    (hM : SO P ops w (fun d v => d = dM ∨ v = A'.tmps.getD d undef) (fun d v W => d = dM → FM v W) oM A') (hwM : Region.wanted oM (yielded ops A'.tmps) = true) (hQ : ∀ v, Q (A'.put (some dM) v)) :
    ∀ (l : List Oper) (a : Act), (∀ o ∈ l, ∃ d, o.dst = some d ∧ d ≠ dM ∧ d < a.tmps.size) → noTwice (l.filterMap (·.dst)) = true →
      (∀ S, Stable S → Nonempty (ExtS w S) → wpQuiet P ops (fun W => ∃ n : ExtS w S, W = n.val) (fun a' => a' = A') l a) →
      wpSoft P ops w (fun d v => d = dM ∨ v = A'.tmps.getD d undef) (fun d v W => d = dM → FM v W) Q (l ++ [oM]) a
  | [], a, _, _, h => by
    have : a = A' := h (fun _ => True) (fun _ _ _ _ => trivial) ⟨⟨w, Ext.refl w, trivial⟩⟩
    subst this
    refine ⟨hM, fun v _ => ?_⟩
    rw [hdM]
    exact hQ v
  | o :: l, a, hd, ht, h => by
    obtain ⟨d, hdo, hne, hlt⟩ := hd o (by simp)
    have ht' : noTwice (d :: l.filterMap (·.dst)) = true := by simpa [List.filterMap_cons, hdo] using ht
    have hnot : ∀ o' ∈ l, o'.dst ≠ some d := fun o' ho' e => by
      have := (List.nodup_cons.1 (noTwice_nodup ht')).1
      exact this (List.mem_filterMap.2 ⟨o', ho', e⟩)
    have hval : ∀ S, Stable S → ∀ v, wpQuiet P ops (fun W => ∃ n : ExtS w S, W = n.val) (fun a' => a' = A') l (a.put o.dst v) → v = A'.tmps.getD d undef := fun S _ v hv => by
      have := quiet_frame (d := d) l _ hnot hv
      rw [this, hdo]
      simp [Act.put, Array.getElem?_setIfInBounds_self_of_lt hlt]
    have htl : noTwice (l.filterMap (·.dst)) = true := by simp only [noTwice, Bool.and_eq_true] at ht'; exact ht'.2
    have hd' : ∀ v, ∀ o' ∈ l, ∃ d, o'.dst = some d ∧ d ≠ dM ∧ d < (a.put o.dst v).tmps.size := fun v o' ho' => by
      obtain ⟨d', e1, e2, e3⟩ := hd o' (by simp [ho'])
      exact ⟨d', e1, e2, by rw [size_put]; exact e3⟩
    by_cases hw : Region.wanted o (yielded ops a.tmps) = true
    · have hs : ∀ S, Stable S → Nonempty (ExtS w S) → (∀ W, (∃ n : ExtS w S, W = n.val) → o.quietAt P a (fun W => ∃ n : ExtS w S, W = n.val) W (A'.tmps.getD d undef)) ∧ wpQuiet P ops (fun W => ∃ n : ExtS w S, W = n.val) (fun a' => a' = A') l (a.put o.dst (A'.tmps.getD d undef)) := fun S hS hN => by
        have h0 := h S hS hN
        unfold wpQuiet at h0
        rw [if_pos hw] at h0
        obtain ⟨v, h1, h2⟩ := h0
        have e := hval S hS v h2
        subst e
        exact ⟨h1, h2⟩
      refine ⟨?_, fun v hv => ?_⟩
      · unfold SO
        rw [if_pos hw]
        intro W hx _
        have hSW : Stable (fun W1 => Ext W W1) := fun _ _ h1 h2 => h1.trans h2
        have h1 := (hs _ hSW ⟨⟨W, hx, Ext.refl W⟩⟩).1 W (ExtS.of hx (Ext.refl W))
        unfold Oper.quietAt at h1
        rw [hdo]
        generalize (execOp a.eval o).run P W = r at *
        cases r with
        | ok n w' =>
          cases n <;> simp only [Oper.quietUpon] at h1 <;> simp only [endsWith]
          case value u =>
            obtain ⟨e1, e2⟩ := h1
            rw [e1, e2]
            exact ⟨Ext.refl W, .inr rfl, fun e => absurd e hne⟩
          case skip =>
            obtain ⟨e1, e2⟩ := h1
            rw [e1]
            exact ⟨Ext.refl W, .inr e2.symm, fun e => absurd e hne⟩
          case enter f args =>
            obtain ⟨e1, hc⟩ := h1
            rw [e1]
            exact hc.mono fun e w'' ⟨he, n, hn⟩ => ⟨_, he, by rw [hn]; exact n.st, .inr rfl, fun e => absurd e hne⟩
        | halt x w' => simp only [Oper.quietUpon] at h1
      · unfold Adm at hv
        rw [if_pos hw, hdo] at hv
        have hv' : v = A'.tmps.getD d undef := (show d = dM ∨ v = A'.tmps.getD d undef from hv).resolve_left hne
        subst hv'
        exact soft_of_quiet hdM hM hwM hQ l _ (hd' _) htl (fun S hS hN => (hs S hS hN).2)
    · have hs : ∀ S, Stable S → Nonempty (ExtS w S) → wpQuiet P ops (fun W => ∃ n : ExtS w S, W = n.val) (fun a' => a' = A') l (a.put o.dst undef) := fun S hS hN => by
        have h0 := h S hS hN
        unfold wpQuiet at h0
        rw [if_neg hw] at h0
        exact h0
      have eu : undef = A'.tmps.getD d undef := hval (fun _ => True) (fun _ _ _ _ => trivial) undef (hs _ (fun _ _ _ _ => trivial) ⟨⟨w, Ext.refl w, trivial⟩⟩)
      refine ⟨?_, fun v hv => ?_⟩
      · unfold SO
        rw [if_neg hw, hdo]
        exact ⟨.inr eu, fun W => ⟨.inr eu, fun e => absurd e hne⟩⟩
      · unfold Adm at hv
        rw [if_neg hw] at hv
        subst hv
        exact soft_of_quiet hdM hM hwM hQ l _ (hd' _) htl hs
def makerB (ops : Array Oper) (l : List Oper) (n : Nat) (hs : List Nat) (t0 : Nat) (ts : List Nat) (dM : Nat) : Bool :=
  mixB ops (Array.replicate ops.size false) hs t0 ts && (hs.all fun i => decide (i < ops.size) && !((t0 :: ts).contains i)) && oneWriterB ops && (l.all fun o => match o.dst with | some d => !(Nat.beq d dM) && Nat.blt d n | none => false) && noTwice (l.filterMap (·.dst)) && (ops.toList.all fun o => match o.dst with | some d => Nat.blt d n | none => true)
/-- THE REGION: quiet operations, one that makes memory, a tail -/
theorem wp_region_maker {id : Nat} {Q : Exit → Act → World → Prop} {a : Act} {w : World} {l : List Oper} {A' : Act} (mh : List Bool) (iM : Nat) (mt : List Bool) (oM : Oper) (dM : Nat) (FM : Value → World → Prop) (t0 : Nat) (ts : List Nat) (hm : P.follows .mixedOrders = true) (hM : l[iM]? = some oM) (hdM : oM.dst = some dM)
    (hmt : idx 0 mt = t0 :: ts) (hlen : decide (mh.length ≤ l.length) && decide (mt.length ≤ l.length) = true) (hB : makerB l.toArray (part l mh) a.tmps.size (idx 0 mh ++ [iM]) t0 ts dM = true) (hf : l.length = (idx 0 mh).length + 1 + (t0 :: ts).length)
    (hst : ∀ v W W', FM v W → Ext W W' → FM v W')
    (hq' : ∀ S, Stable S → Nonempty (ExtS w S) → ∀ R : Act → Prop, R A' → wpQuiet P l.toArray (fun W => ∃ n : ExtS w S, W = n.val) R (part l mh) a)
    (hrun : Region.wanted oM (yielded l.toArray A'.tmps) = true ∧ ∀ W, Ext w W → ∃ v W', (execOp A'.eval oM).run P W = .ok (.value v) W' ∧ Ext W W' ∧ FM v W')
    (ht : ∀ v W, Ext w W → FM v W → wpList P l.toArray Q (part l mt) (A'.put (some dM) v) W) : (Code.region id l.toArray true).wp P Q a w := by
  have hq : ∀ S, Stable S → Nonempty (ExtS w S) → wpQuiet P l.toArray (fun W => ∃ n : ExtS w S, W = n.val) (fun a' => a' = A') (part l mh) a := fun S hS hN => hq' S hS hN _ rfl
  simp only [makerB, Bool.and_eq_true] at hB
  obtain ⟨⟨⟨⟨⟨hb1, hb2⟩, hb3⟩, hb4⟩, hb5⟩, hb6⟩ := hB
  simp only [Bool.and_eq_true, decide_eq_true_eq] at hlen
  have inv := mixB_inv hb1
  simp only [mixB, Bool.and_eq_true, decide_eq_true_eq, List.all_eq_true] at hb1
  obtain ⟨⟨⟨⟨⟨⟨⟨h1, h2⟩, h3⟩, h4⟩, h5⟩, h6⟩, h7⟩, h8⟩ := hb1
  have hs1 : ∀ i ∈ idx 0 mh ++ [iM], i < l.toArray.size := fun i hi => by
    have := List.all_eq_true.1 hb2 i hi
    simp only [Bool.and_eq_true, decide_eq_true_eq] at this
    exact this.1
  have hs2 : ∀ i ∈ idx 0 mh ++ [iM], i ∉ t0 :: ts := fun i hi => by
    have := List.all_eq_true.1 hb2 i hi
    simp only [Bool.and_eq_true, Bool.not_eq_true'] at this
    intro hmm
    have h9 := this.2
    rw [List.contains_iff_mem.2 hmm] at h9
    cases h9
  have h1w := oneWriter_of hb3
  have e1 := opsAt_part l mh l 0 hlen.1 (fun j => by simp)
  have e2 := opsAt_part l mt l 0 hlen.2 (fun j => by simp)
  rw [hmt] at e2
  have e3 : OpsAt l.toArray (idx 0 mh ++ [iM]) (part l mh ++ [oM]) := by
    have : ∀ (is : List Nat) (os : List Oper), OpsAt l.toArray is os → OpsAt l.toArray (is ++ [iM]) (os ++ [oM]) := by
      intro is
      induction is with
      | nil => intro os h; cases os with
        | nil => exact ⟨by simpa using hM, trivial⟩
        | cons o os => exact h.elim
      | cons i is ih => intro os h; cases os with
        | nil => exact h.elim
        | cons o os => exact ⟨h.1, ih os h.2⟩
    exact this _ _ e1
  have hA : ∀ d, ∃ v, (fun d v => d = dM ∨ v = A'.tmps.getD d undef) d v := fun d => ⟨A'.tmps.getD d undef, .inr rfl⟩
  have hstF : ∀ d v W W', (fun d v W => d = dM → FM v W) d v W → Ext W W' → (fun d v W => d = dM → FM v W) d v W' := fun d v W W' hF hx e => hst _ _ _ (hF e) hx
  have hsoft := soft_of_quiet (P := P) (ops := l.toArray) (w := w) (A' := A') (oM := oM) (dM := dM) (FM := FM) (Q := fun a' => ∃ v, a' = A'.put (some dM) v) hdM (by
      unfold SO
      rw [if_pos hrun.1]
      intro W hx _
      obtain ⟨v, W', hr, hx', hF⟩ := hrun.2 W hx
      rw [hr, hdM]
      exact ⟨hx', .inl rfl, fun _ => hF⟩) hrun.1 (fun v => ⟨v, rfl⟩) (part l mh) a (fun o ho => by
      have := List.all_eq_true.1 hb4 o ho
      cases hd : o.dst with
      | none => rw [hd] at this; cases this
      | some d =>
        rw [hd] at this
        simp only [Bool.and_eq_true, Bool.not_eq_true', Nat.blt_eq] at this
        exact ⟨d, rfl, fun e => by rw [e] at this; simp at this, this.2⟩) hb5 hq
  have H := wpAnySL_lex (P := P) hA h1w h1 h6 h7 hs1 hs2 _ _ (Array.replicate l.toArray.size false) a e3 (fun i hi => hi) (fun i hi => .inl hi) inv h8 hsoft
  refine wp_region_any hm ?_
  have hmid : mid l.toArray w (fun d v W => d = dM → FM v W) (Array.replicate l.toArray.size false) a w.drew := by
    refine ⟨Ext.drew (Ext.refl _), fun i oi d hi hd => ?_, fun i oi d hl => by rw [getD_replicate_false] at hl; cases hl⟩
    have hmem : oi ∈ l := List.mem_of_getElem? (by simpa using hi)
    have := List.all_eq_true.1 hb6 oi (by simpa using hmem)
    rw [hd] at this
    simpa [Nat.blt_eq] using this
  have := wpAny_of_softL (P := P) (Q' := Q) (g := (t0 :: ts).length) hstF h1w (fun listed' a' W hmd hL => by
    obtain ⟨hseq, ⟨v, rfl⟩, hall⟩ := hL
    refine wpAny_of_seqL (t0 :: ts) (part l mt) listed' _ W e2 hseq (ht v W hmd.1 ?_)
    have hlt : dM < a.tmps.size := by
      have hmem : oM ∈ l := List.mem_of_getElem? hM
      have := List.all_eq_true.1 hb6 oM (by simpa using hmem)
      rw [hdM] at this
      simpa [Nat.blt_eq] using this
    have hlis := hall iM (by simp)
    have := hmd.2.2 iM oM dM hlis (by simpa using hM) hdM rfl
    have hlt2 : dM < A'.tmps.size := by rw [quiet_size (part l mh) a (hq (fun _ => True) (fun _ _ _ _ => trivial) ⟨⟨_, Ext.refl _, trivial⟩⟩)]; exact hlt
    simpa [Act.put, Array.getElem?_setIfInBounds_self_of_lt hlt2] using this) (idx 0 mh ++ [iM]).length _ _ _ hmid H
  have hfu : l.toArray.size = (idx 0 mh ++ [iM]).length + (t0 :: ts).length := by simp at hf ⊢; omega
  rw [hfu]
  rw [← hfu] at this ⊢
  exact this
end
end Go.Proofs.YtjflmmipjeangaaGreatDoor
end
/-
  A region that draws its order, as in Soft; at its end all that is known of its values is told.
-/
section
set_option linter.unusedVariables false
set_option linter.unusedSimpArgs false
namespace Go.Proofs.YtjflmmipjeangaaGreatDoor
open Go.RowKit Go.WideShapes Go.ChangeShapes

section
variable {P : Program} {ops : Array Oper} {w0 : World} {A : Nat → Value → Prop} {F : Nat → Value → World → Prop}
/-- each operation waits for earlier ones alone, as a Bool -/
def ordB (ops : Array Oper) : Bool := (List.range ops.size).all fun k => ((ops[k]?).map (fun o => o.after.toList.all fun e => !Region.binds .any e || Nat.blt e.on k)).getD true
theorem ord_of (h : ordB ops = true) {k : Nat} {o : Oper} (ho : ops[k]? = some o) {e : Edge} (he : e ∈ o.after) (hb : Region.binds .any e = true) : e.on < k := by
  have hk : k < ops.size := (Array.getElem?_eq_some_iff.1 ho).1
  have h1 := List.all_eq_true.1 h k (List.mem_range.2 hk)
  rw [ho] at h1
  have h2 := List.all_eq_true.1 h1 e (by simpa using he)
  simpa [hb, Nat.blt_eq] using h2
theorem all_listed (h : ordB ops = true) {listed : Array Bool} (hs : listed.size = ops.size) (hr : Region.ready .any ops listed = []) : ∀ k, k < ops.size → listed.getD k false = true := by
  intro k
  induction k using Nat.strongRecOn with
  | ind k ih =>
    intro hk
    by_cases hc : listed.getD k false = true
    · exact hc
    · exfalso
      have hun : listed.getD k true = false := by
        have hk' : k < listed.size := by omega
        simp [hk'] at hc ⊢
        exact hc
      have hm : k ∈ Region.ready .any ops listed := mem_ready.2 ⟨hun, ops[k], by simp [hk], fun e he hb => by
        have h1 := ord_of h (k := k) (o := ops[k]) (by simp [hk]) he hb
        exact ih e.on h1 (by omega)⟩
      rw [hr] at hm
      cases hm
theorem wpAny_of_softF {Q : Act → Prop} {Q' : Exit → Act → World → Prop} (hord : ordB ops = true) (hst : ∀ d v w w', F d v w → Ext w w' → F d v w') (h1w : oneWriter ops)
    (hQ : ∀ a w, Ext w0 w → (∀ (i : Nat) (oi : Oper) (d : Tmp), ops[i]? = some oi → oi.dst = some d → F d (a.tmps.getD d undef) w) → Q a → Q' .normal a w) : ∀ (fuel : Nat) (listed : Array Bool) (a : Act) (w : World), listed.size = ops.size → mid ops w0 F listed a w →
    wpAnyS P ops w0 A F Q fuel listed a → wpAny P .any ops Q' fuel listed a w
  | 0, listed, a, w, hs, hm, h => ⟨h.1, hQ _ _ hm.1 (fun i oi d hi hd => hm.2.2 i oi d (all_listed hord hs h.1 i (Array.getElem?_eq_some_iff.1 hi).1) hi hd) h.2⟩
  | fuel + 1, listed, a, w, hs, hm, h => ⟨fun h0 => hQ _ _ hm.1 (fun i oi d hi hd => hm.2.2 i oi d (all_listed hord hs h0 i (Array.getElem?_eq_some_iff.1 hi).1) hi hd) (h.1 h0), fun i hi => by
    have hso := h.2 i hi
    obtain ⟨_, o, ho, hall⟩ := mem_ready.1 hi
    unfold sOp at hso
    rw [ho] at hso
    unfold wpOp
    rw [ho]
    obtain ⟨h1, h2⟩ := hso
    unfold SO at h1
    unfold Adm at h2
    by_cases hw : Region.wanted o (yielded ops a.tmps) = true
    · simp only [hw, if_true] at h1 h2 ⊢
      refine .inl ?_
      have h3 := h1 w hm.1 (fun e he hb oi d hoi hd => hm.2.2 e.on oi d (hall e he hb) hoi hd)
      have fin : ∀ v w', Ext w w' ∧ okDst A F o.dst v w' → wpAny P .any ops Q' fuel (listed.setIfInBounds i true) (a.put o.dst v) w' := fun v w' ⟨hx, hv⟩ => by
        refine wpAny_of_softF hord hst h1w hQ fuel _ _ _ (by simpa using hs) (mid_put hst h1w ho hm hx hv) ?_
        cases hd : o.dst with
        | none => have := h2 undef (by rw [hd]; rfl); rw [hd] at this; exact this
        | some d => rw [hd] at hv h2; exact h2 v hv.1
      unfold Oper.wp
      generalize (execOp a.eval o).run P w = r at *
      cases r with
      | ok n w' =>
        cases n <;> simp only [endsWith] at h3 <;> simp only [Oper.upon]
        case value u => exact fin _ _ h3
        case skip => exact fin _ _ h3
        case enter f args => exact Calls.mono h3 fun e w'' ⟨v, he, hv⟩ => by subst he; exact fin _ _ hv
      | halt x w' => simp only [endsWith] at h3
    · simp only [hw] at h1 h2 ⊢
      exact wpAny_of_softF hord hst h1w hQ fuel _ _ _ (by simpa using hs) (mid_put hst h1w ho hm (Ext.refl w) (h1.2 w)) (h2 undef rfl)⟩

/-- THE REGION: one walk in the text's order; at its end what is known of each value is told -/
theorem wp_region_softF {id : Nat} {Q : Exit → Act → World → Prop} {a : Act} {w : World} {l : List Oper} (A : Nat → Value → Prop) (F : Nat → Value → World → Prop) (hm : P.follows .mixedOrders = true) (hB : Region.lexB .any l.toArray = true) (h1 : oneWriterB l.toArray = true) (hord : ordB l.toArray = true)
    (hsz : l.all (fun o => match o.dst with | some d => Nat.blt d a.tmps.size | none => true) = true) (hA : ∀ d, ∃ v, A d v) (hst : ∀ d v w w', F d v w → Ext w w' → F d v w')
    (h : wpSoft P l.toArray w.drew A F (fun a' => ∀ w', Ext w.drew w' → (∀ (i : Nat) (oi : Oper) (d : Tmp), l[i]? = some oi → oi.dst = some d → F d (a'.tmps.getD d undef) w') → Q .normal a' w') l a) : (Code.region id l.toArray true).wp P Q a w := by
  have h1w := oneWriter_of h1
  simp only [Region.lexB, Bool.and_eq_true] at hB
  refine wp_region_any hm (wpAny_of_softF (w0 := w.drew) (A := A) (F := F) (Q := fun a' => ∀ w', Ext w.drew w' → (∀ (i : Nat) (oi : Oper) (d : Tmp), l[i]? = some oi → oi.dst = some d → F d (a'.tmps.getD d undef) w') → Q .normal a' w') hord hst h1w (fun _ w' hw' hF h => h w' hw' (fun i oi d hi hd => hF i oi d (by simpa using hi) hd)) _ _ _ _ (by simp) ?_ ?_)
  · refine ⟨Ext.refl _, fun i oi d hi hd => ?_, fun i oi d hl => ?_⟩
    · have hmem : oi ∈ l := List.mem_of_getElem? (by simpa using hi)
      have := List.all_eq_true.1 hsz oi hmem
      rw [hd] at this
      simpa [Nat.blt_eq] using this
    · rcases Nat.lt_or_ge i l.length with h' | h' <;> simp [h'] at hl
  · have := wpAnyS_lex (P := P) (w0 := w.drew) (A := A) (F := F) (Q := fun a' => ∀ w', Ext w.drew w' → (∀ (i : Nat) (oi : Oper) (d : Tmp), l[i]? = some oi → oi.dst = some d → F d (a'.tmps.getD d undef) w') → Q .normal a' w') hA h1w hB.1 l 0 (Array.replicate l.toArray.size false) a (by simp) (by simpa using hB.2) h
    simpa using this
end
end Go.Proofs.YtjflmmipjeangaaGreatDoor
end
/-
  Regions that draw their order, as in SoftF: a value that is known by a condition on what went before; what is known of a value at the end. A row of the call's own, newly made.
-/
section
set_option linter.unusedVariables false
set_option linter.unusedSimpArgs false
namespace Go.Proofs.YtjflmmipjeangaaGreatDoor
open Go.RowKit Go.WideShapes Go.ChangeShapes
section
variable {P : Program} {ops : Array Oper} {w0 : World} {A : Nat → Value → Prop} {F : Nat → Value → World → Prop} {Q : Act → Prop} {o : Oper} {rest : List Oper} {a : Act} {d : Nat}
theorem soft_some (hd : o.dst = some d) (hw : Region.wanted o (yielded ops a.tmps) = true) (hA : ∀ v, A d v) (hrun : ∀ w, Ext w0 w → known ops F o a w → ∃ v w', (execOp a.eval o).run P w = .ok (.value v) w' ∧ Ext w w' ∧ F d v w')
    (h : ∀ v, wpSoft P ops w0 A F Q rest (a.put (some d) v)) : wpSoft P ops w0 A F Q (o :: rest) a := by
  refine ⟨?_, fun v _ => by rw [hd]; exact h v⟩
  unfold SO
  rw [if_pos hw]
  intro w hx hk
  obtain ⟨v, w', e, h1, h2⟩ := hrun w hx hk
  rw [e, hd]
  exact ⟨h1, hA v, h2⟩
theorem known_end {l : List Oper} {w : World} (h : ∀ (i : Nat) (oi : Oper) (d : Tmp), l[i]? = some oi → oi.dst = some d → F d (a.tmps.getD d undef) w) {v : Value} (he : l.any (fun o => match o.dst with | some x => Nat.beq x d | none => false) = true) (hv : a.tmps.getD d undef = v) : F d v w := by
  obtain ⟨o, hm, ho⟩ := List.any_eq_true.1 he
  obtain ⟨i, hi⟩ := List.mem_iff_getElem?.1 hm
  cases hd : o.dst with
  | none => rw [hd] at ho; cases ho
  | some x =>
    rw [hd] at ho
    obtain rfl : x = d := by simpa using ho
    rw [← hv]
    exact h i o x hi hd
end
/-- a newly made row is the call's own -/
theorem Own.fresh {α : Type} {enc : α → List Value} {k E base n : Nat} {w : World} {cs : Array Value} {l : List α} (hk : ∀ x, (enc x).length = k) (hc : cs.toList = l.flatMap enc) (hn : n = l.length) (hb : base ≤ w.heap.size) (hm : n ≤ maxLen) :
    Own enc k E base (w.alloc (.cells cs E)) (.slice (some ⟨w.heap.size, 0, none⟩) n n) l := by
  subst hn
  have hfl : (l.flatMap enc).length = l.length * k := by
    clear hc hm
    induction l with
    | nil => simp
    | cons x l ih => rw [List.flatMap_cons, List.length_append, hk, ih, List.length_cons, Nat.succ_mul, Nat.add_comm]
  have hsz : cs.size = l.length * k := by rw [← hfl, ← hc]; simp
  refine ⟨hfl, .inr ⟨w.heap.size, l.length, cs, rfl, hb, (MapKept.heap_alloc w _).1, Nat.le_refl _, hm, hsz, ?_⟩⟩
  rw [hc, List.take_of_length_le (by omega)]
theorem Own.ne_lo {α : Type} {enc : α → List Value} {k E base b : Nat} {w : World} {v : Value} {l : List α} (h : Own enc k E base w v l) (hb : b < base) : v.ownBlock ≠ some b := by
  rcases h.2 with hn | ⟨g, cap, cur, rfl, hg, _⟩
  · rw [hn.1]; intro e; cases e
  · intro e
    have : g = b := by simpa [Value.ownBlock] using e
    omega
end Go.Proofs.YtjflmmipjeangaaGreatDoor
end
/-
  More program-independent ground: structs in the midst of a block, struct results.
-/
section
set_option linter.unusedVariables false
set_option linter.unusedSimpArgs false
namespace Go.Proofs.YtjflmmipjeangaaGreatDoor
open Go.RowKit

section
variable {P : Program} {ops : Array Oper} {rest : List Oper} {a : Act} {x y : Operand} {T b off : Nat} {cs : List Value} {dst : Option Tmp} {ty : TypeId} {pos : String} {aft : Array Edge} {g : Option (Nat × Bool)}
/-- type T is loaded whole, out of the midst of a block -/
structure Mid (P : Program) (T n : Nat) : Prop where
  load : ∀ (w : World) (b o : Nat) (cs : List Value), cs.length = n → w.rangeAt b o cs → (loadVar T ⟨b, o, none⟩).run P w = .ok (.agg cs.toArray) w
theorem mid_of {T n : Nat} {d : TypeDesc} (hu : P.underlying T = some d) (hd : d.isRow = true) (hi : (P.info? T).map (·.size) = some n) : Mid P T n := ⟨fun w b o cs hl hc => run_loadVar_mid w b o T cs d hc hu hd (by rw [hl]; exact hi)⟩
theorem Ext.range {w w' : World} (h : Ext w w') {b o : Nat} {cs : List Value} (hc : w.rangeAt b o cs) : w'.rangeAt b o cs := fun j v hj => h.cell (hc j v hj)
theorem q_loadM {n : Nat} {w : World} {Q : Act → Prop} (L : Mid P T n) (hc : w.rangeAt b off cs) (hsz : cs.length = n) (hw : Region.wanted ⟨dst, .load T x, ty, pos, aft, g⟩ (yielded ops a.tmps) = true) (hx : a.eval x = .pointer (some ⟨b, off, none⟩))
    (hk : wpQuiet P ops (fun w' => ∃ n : ExtOf w, w' = n.val) Q rest (a.put dst (.agg cs.toArray))) : wpQuiet P ops (fun w' => ∃ n : ExtOf w, w' = n.val) Q (⟨dst, .load T x, ty, pos, aft, g⟩ :: rest) a := by
  refine wpQuiet_step fun K hK => ?_
  rw [if_pos hw]
  refine ⟨.agg cs.toArray, ?_, hK _ hk⟩
  rintro w' ⟨m, rfl⟩
  unfold Oper.quietAt execOp
  simp only [hx, Instr.loadAt, Instr.sureAddr, Sem.run_bind, Sem.run_pure, Result.andThen_ok, L.load m.val b off cs hsz (m.ext.range hc)]
  exact ⟨rfl, rfl⟩
theorem q_loadMS {n : Nat} {w : World} {S : World → Prop} {Q : Act → Prop} (L : Mid P T n) (hc : w.rangeAt b off cs) (hsz : cs.length = n) (hw : Region.wanted ⟨dst, .load T x, ty, pos, aft, g⟩ (yielded ops a.tmps) = true) (hx : a.eval x = .pointer (some ⟨b, off, none⟩))
    (hk : wpQuiet P ops (fun w' => ∃ n : ExtS w S, w' = n.val) Q rest (a.put dst (.agg cs.toArray))) : wpQuiet P ops (fun w' => ∃ n : ExtS w S, w' = n.val) Q (⟨dst, .load T x, ty, pos, aft, g⟩ :: rest) a := by
  refine wpQuiet_step fun K hK => ?_
  rw [if_pos hw]
  refine ⟨.agg cs.toArray, ?_, hK _ hk⟩
  rintro w' ⟨m, rfl⟩
  unfold Oper.quietAt execOp
  simp only [hx, Instr.loadAt, Instr.sureAddr, Sem.run_bind, Sem.run_pure, Result.andThen_ok, L.load m.val b off cs hsz (m.ext.range hc)]
  exact ⟨rfl, rfl⟩
theorem q_loadS {n : Nat} {w : World} {S : World → Prop} {Q : Act → Prop} {cs : Array Value} (L : Whole P T n) (hw : Region.wanted ⟨dst, .load T x, ty, pos, aft, g⟩ (yielded ops a.tmps) = true) (hx : a.eval x = .pointer (some ⟨b, 0, none⟩))
    (hc : Block w b cs) (hsz : cs.size = n) (hk : wpQuiet P ops (fun w' => ∃ n : ExtS w S, w' = n.val) Q rest (a.put dst (.agg cs))) : wpQuiet P ops (fun w' => ∃ n : ExtS w S, w' = n.val) Q (⟨dst, .load T x, ty, pos, aft, g⟩ :: rest) a := by
  refine wpQuiet_step fun K hK => ?_
  rw [if_pos hw]
  refine ⟨.agg cs, ?_, hK _ hk⟩
  rintro w' ⟨m, rfl⟩
  unfold Oper.quietAt
  rw [run_load_op (o := ⟨dst, .load T x, ty, pos, aft, g⟩) L rfl hx (inferInstance : Block m.val b cs) hsz]
  exact ⟨rfl, rfl⟩
/-- a new block that holds cs: of a slice of one element -/
def MadeS (w : World) (cs : Array Value) (v : Value) (W : World) : Prop := ∃ g, v = .slice (some ⟨g, 0, none⟩) 1 1 ∧ w.heap.size ≤ g ∧ Block W g cs
theorem MadeS.keep {w : World} {cs : Array Value} : ∀ v W W', MadeS w cs v W → Ext W W' → MadeS w cs v W' := fun v W W' ⟨g, h1, h2, h3⟩ hx => ⟨g, h1, h2, h3.ext hx⟩
theorem MadeS.new {w W : World} {cs : Array Value} {T : TypeId} (hx : Ext w W) : MadeS w cs (.slice (some ⟨W.heap.size, 0, none⟩) 1 1) (W.alloc (.cells cs T)) := ⟨W.heap.size, rfl, hx.size, Block.new _ _ _⟩
/-- a new block that holds cs -/
def MadeP (w : World) (cs : Array Value) (v : Value) (W : World) : Prop := ∃ g, v = .pointer (some ⟨g, 0, none⟩) ∧ w.heap.size ≤ g ∧ Block W g cs
theorem MadeP.keep {w : World} {cs : Array Value} : ∀ v W W', MadeP w cs v W → Ext W W' → MadeP w cs v W' := fun v W W' ⟨g, h1, h2, h3⟩ hx => ⟨g, h1, h2, h3.ext hx⟩
theorem MadeP.new {w W : World} {cs : Array Value} {T : TypeId} (hx : Ext w W) : MadeP w cs (.pointer (some ⟨W.heap.size, 0, none⟩)) (W.alloc (.cells cs T)) := ⟨W.heap.size, rfl, hx.size, Block.new _ _ _⟩
theorem wl_loadM {n : Nat} {w : World} {Q : Exit → Act → World → Prop} (L : Mid P T n) (hc : w.rangeAt b off cs) (hsz : cs.length = n) (hw : Region.wanted ⟨dst, .load T x, ty, pos, aft, g⟩ (yielded ops a.tmps) = true) (hx : a.eval x = .pointer (some ⟨b, off, none⟩))
    (hk : wpList P ops Q rest (a.put dst (.agg cs.toArray)) w) : wpList P ops Q (⟨dst, .load T x, ty, pos, aft, g⟩ :: rest) a w := by
  refine wpList_step fun K hK => ?_
  rw [if_pos hw]
  unfold Oper.wp execOp
  simp only [hx, Instr.loadAt, Instr.sureAddr, Sem.run_bind, Sem.run_pure, Result.andThen_ok, L.load w b off cs hsz hc]
  exact hK _ _ hk
end
theorem SliceOf.elemK {α : Type} {enc : α → List Value} {k : Nat} {w : World} {p : Option Addr} {n cap : Nat} {l : List α} (h : SliceOf enc k w (.slice p n cap) l) {i : Nat} (hi : i < l.length) :
    ∃ b off, p = some ⟨b, off, none⟩ ∧ w.rangeAt b (off + i * k) (enc l[i]) := by
  obtain ⟨p', cap', e, h1, h2, h3, h4⟩ := h
  simp only [Value.slice.injEq] at e
  obtain ⟨rfl, _, _⟩ := e
  obtain ⟨b, off, hp, hc⟩ := h4 i l[i] (List.getElem?_eq_getElem hi)
  exact ⟨b, off, hp, fun j u hj => by rw [Nat.add_assoc]; exact hc j u hj⟩
theorem SliceOf.form {α : Type} {enc : α → List Value} {k : Nat} {w : World} {v : Value} {l : List α} (h : SliceOf enc k w v l) : ∃ p cap, v = .slice p l.length cap ∧ l.length ≤ cap ∧ cap ≤ maxLen ∧ (p = none → cap = 0) := by
  obtain ⟨p, cap, e, h1, h2, h3, _⟩ := h
  exact ⟨p, cap, e, h1, h2, h3⟩
theorem SliceOf.kept {α : Type} {enc : α → List Value} {k : Nat} {w w' : World} {v : Value} {l : List α} (h : SliceOf enc k w v l) (hx : Ext w w') : SliceOf enc k w' v l := SliceOf.ext h hx
section
variable {P : Program} {fn : Func} {p0 p1 : Tmp} {t0 t1 n0 n1 b0 b1 : Nat} {tmps : Array Value} {w : World} {c0 c1 : Array Value}
theorem results_c1 (h : fn.results = #[.cell p0 t0]) (L0 : Whole P t0 n0) (h0 : tmps.getD p0 undef = .pointer (some ⟨b0, 0, none⟩)) (B0 : Block w b0 c0) (s0 : c0.size = n0) : (results fn tmps).run P w = .ok (.agg c0) w := by
  have g0 : tmps[p0]?.getD undef = .pointer (some ⟨b0, 0, none⟩) := by simpa using h0
  simp [results, h, g0, asAddr, L0.load w b0 c0 B0 s0]
theorem results_c2 (h : fn.results = #[.cell p0 t0, .cell p1 t1]) (L0 : Whole P t0 n0) (L1 : Whole P t1 n1) (h0 : tmps.getD p0 undef = .pointer (some ⟨b0, 0, none⟩)) (h1 : tmps.getD p1 undef = .pointer (some ⟨b1, 0, none⟩))
    (B0 : Block w b0 c0) (B1 : Block w b1 c1) (s0 : c0.size = n0) (s1 : c1.size = n1) : (results fn tmps).run P w = .ok (.tuple #[.agg c0, .agg c1]) w := by
  have g0 : tmps[p0]?.getD undef = .pointer (some ⟨b0, 0, none⟩) := by simpa using h0
  have g1 : tmps[p1]?.getD undef = .pointer (some ⟨b1, 0, none⟩) := by simpa using h1
  simp [results, h, g0, g1, asAddr, L0.load w b0 c0 B0 s0, L1.load w b1 c1 B1 s1]
theorem results_cs {v : Value} (h : fn.results = #[.cell p0 t0, .tmp p1]) (L0 : Whole P t0 n0) (h0 : tmps.getD p0 undef = .pointer (some ⟨b0, 0, none⟩)) (h1 : tmps.getD p1 undef = v)
    (B0 : Block w b0 c0) (s0 : c0.size = n0) : (results fn tmps).run P w = .ok (.tuple #[.agg c0, v]) w := by
  have g0 : tmps[p0]?.getD undef = .pointer (some ⟨b0, 0, none⟩) := by simpa using h0
  have g1 : tmps[p1]?.getD undef = v := by simpa using h1
  simp [results, h, g0, g1, asAddr, L0.load w b0 c0 B0 s0]
end
theorem ret_int {k : IntKind} {a b : Int} (h : a = b) : Ending.returned (.int k a) = .returned (.int k b) := by rw [h]
theorem ret_bool {a b : Bool} (h : a = b) : Ending.returned (.bool a) = .returned (.bool b) := by rw [h]
end Go.Proofs.YtjflmmipjeangaaGreatDoor
end
/-
  More program-independent ground: a struct in the midst of a block that is known whole.
-/
section
set_option linter.unusedVariables false
set_option linter.unusedSimpArgs false
namespace Go.Proofs.YtjflmmipjeangaaGreatDoor
open Go.RowKit

theorem Block.rangeL {w : World} {b : Nat} {cs : Array Value} (h : Block w b cs) {off n : Nat} {l : List Value} (hl : (cs.toList.drop off).take n = l) : w.rangeAt b off l := fun j u hj => by
  rw [Block.cell]
  subst hl
  rw [List.getElem?_take] at hj
  split at hj
  · rw [List.getElem?_drop] at hj
    simpa using hj
  · cases hj
section
variable {P : Program} {ops : Array Oper} {rest : List Oper} {a : Act} {x y : Operand} {T b off n : Nat} {cs : Array Value} {l : List Value} {dst : Option Tmp} {ty : TypeId} {pos : String} {aft : Array Edge} {g : Option (Nat × Bool)} {w : World}
theorem wl_loadB {Q : Exit → Act → World → Prop} (L : Mid P T n) (hw : Region.wanted ⟨dst, .load T x, ty, pos, aft, g⟩ (yielded ops a.tmps) = true) (hx : a.eval x = .pointer (some ⟨b, off, none⟩)) (hb : Block w b cs) (hl : (cs.toList.drop off).take n = l) (hsz : l.length = n)
    (hk : wpList P ops Q rest (a.put dst (.agg l.toArray)) w) : wpList P ops Q (⟨dst, .load T x, ty, pos, aft, g⟩ :: rest) a w := wl_loadM L (hb.rangeL hl) hsz hw hx hk
theorem q_loadB {Q : Act → Prop} (L : Mid P T n) (hw : Region.wanted ⟨dst, .load T x, ty, pos, aft, g⟩ (yielded ops a.tmps) = true) (hx : a.eval x = .pointer (some ⟨b, off, none⟩)) (hb : Block w b cs) (hl : (cs.toList.drop off).take n = l) (hsz : l.length = n)
    (hk : wpQuiet P ops (fun w' => ∃ n : ExtOf w, w' = n.val) Q rest (a.put dst (.agg l.toArray))) : wpQuiet P ops (fun w' => ∃ n : ExtOf w, w' = n.val) Q (⟨dst, .load T x, ty, pos, aft, g⟩ :: rest) a := q_loadM L (hb.rangeL hl) hsz hw hx hk
theorem q_loadBS {S : World → Prop} {Q : Act → Prop} (L : Mid P T n) (hw : Region.wanted ⟨dst, .load T x, ty, pos, aft, g⟩ (yielded ops a.tmps) = true) (hx : a.eval x = .pointer (some ⟨b, off, none⟩)) (hb : Block w b cs) (hl : (cs.toList.drop off).take n = l) (hsz : l.length = n)
    (hk : wpQuiet P ops (fun w' => ∃ n : ExtS w S, w' = n.val) Q rest (a.put dst (.agg l.toArray))) : wpQuiet P ops (fun w' => ∃ n : ExtS w S, w' = n.val) Q (⟨dst, .load T x, ty, pos, aft, g⟩ :: rest) a := q_loadMS L (hb.rangeL hl) hsz hw hx hk
end
end Go.Proofs.YtjflmmipjeangaaGreatDoor
end
/-
  A region that draws its order: operations that only read are taken first; then 'x, e := f(..)': a call, an allocation in whichever order, what the call hands back is taken apart, the first part is stored into the new box.
-/
section
set_option linter.unusedVariables false
set_option linter.unusedSimpArgs false
namespace Go.Proofs.YtjflmmipjeangaaGreatDoor
open Go.RowKit

/-- operations that hand back a value, whatever they do -/
def plainB : Op → Bool
  | .move _ | .assign _ | .load _ _ | .fieldAddr _ _ _ | .indexAddr _ _ _ | .extract _ _ | .binOp _ _ _ _ _ | .unOp _ _ _ | .build _ _ | .field _ _ _ | .index _ _ _ | .lookup _ _ _ _ | .slice _ _ _ _ _ => true
  | _ => false
section
variable {P : Program} {ops : Array Oper} {Q : Exit → Act → World → Prop} {S : World → Prop} {listed : Array Bool} {fuel : Nat} {a : Act} {w : World}
theorem quietUpon_bind {C : World → Prop} {s : Sem Value} {w : World} {v : Value} (h : Oper.quietUpon P C w v ((do pure (Next.value (← s)) : Sem Next).run P w)) : (do pure (Next.value (← s)) : Sem Next).run P w = .ok (.value v) w := by
  simp only [Sem.run_bind] at h ⊢
  cases hr : s.run P w with
  | ok x w' =>
    rw [hr] at h
    simp only [Result.andThen_ok, Sem.run_pure, Oper.quietUpon] at h ⊢
    obtain ⟨rfl, rfl⟩ := h
    rfl
  | halt x w' =>
    rw [hr] at h
    simp [Result.andThen, Oper.quietUpon] at h
theorem plain_yields {C : World → Prop} {o : Oper} {ev : Operand → Value} {w : World} {v : Value} (hp : plainB o.op = true) (h : Oper.quietUpon P C w v ((execOp ev o).run P w)) : (execOp ev o).run P w = .ok (.value v) w := by
  unfold execOp at h ⊢
  cases ho : o.op <;> rw [ho] at h hp <;> simp only [plainB, Bool.false_eq_true] at hp <;> first
    | exact quietUpon_bind h
    | (simp only [Sem.run_pure, Oper.quietUpon] at h ⊢; obtain ⟨_, rfl⟩ := h; rfl)
theorem putQ (hQ : ∀ c a (d : Tmp) v w, Q (.panic c) (a.put (some d) v) w → Q (.panic c) a w) (d : Option Tmp) (v : Value) : ∀ c a w, Q (.panic c) (a.put d v) w → Q (.panic c) a w := fun c a w h => by
  cases d with
  | none => exact h
  | some d => exact hQ c a d v w h
def takeB (ops : Array Oper) : List Nat → Array Bool → Bool
  | [], _ => true
  | i :: is, listed => (Region.ready .any ops listed).contains i && Region.free .any ops listed i && takeB ops is (listed.setIfInBounds i true)
def listAll : List Nat → Array Bool → Array Bool
  | [], listed => listed
  | i :: is, listed => listAll is (listed.setIfInBounds i true)
/-- the operations is, which only read, are taken first -/
theorem wpAnyH_quiet (hsel : Region.noSelect ops = true) (hQ : ∀ c a (d : Tmp) v w, Q (.panic c) (a.put (some d) v) w → Q (.panic c) a w) (hS : S w) : ∀ (is : List Nat) (l : List Oper) (listed : Array Bool) (a : Act), OpsAt ops is l → (l.all fun o => plainB o.op) = true → takeB ops is listed = true →
    wpQuiet P ops S (fun a' => wpAnyH P .any ops Q S fuel (listAll is listed) a' w) l a → wpAnyH P .any ops Q S (fuel + is.length) listed a w
  | [], [], listed, a, _, _, _, h => h
  | i :: is, o :: l, listed, a, ho, hp, hB, h => by
    obtain ⟨h0, hl⟩ := ho
    simp only [takeB, Bool.and_eq_true] at hB
    obtain ⟨⟨hr, hf⟩, hB'⟩ := hB
    simp only [List.all_cons, Bool.and_eq_true] at hp
    unfold wpQuiet at h
    by_cases hw : Region.wanted o (yielded ops a.tmps) = true
    · rw [if_pos hw] at h
      obtain ⟨v, hv, hk⟩ := h
      refine wpAnyH_take (v := v) (fuel := fuel + is.length) h0 hsel hf hr (putQ hQ _ _) (.inl ⟨hw, fun w' hw' => plain_yields hp.1 (hv w' hw')⟩) hS ?_
      exact wpAnyH_quiet hsel hQ hS is l _ _ hl hp.2 hB' hk
    · rw [if_neg hw] at h
      refine wpAnyH_take (v := undef) (fuel := fuel + is.length) h0 hsel hf hr (putQ hQ _ _) (.inr ⟨by simpa using hw, rfl⟩) hS ?_
      exact wpAnyH_quiet hsel hQ hS is l _ _ hl hp.2 hB' h
  | [], _ :: _, _, _, hl, _, _, _ => hl.elim
  | _ :: _, [], _, _, hl, _, _, _ => hl.elim
/-- the region: the operations of the mask are taken first -/
theorem region_quiet {id : Nat} {l : List Oper} (mh : List Bool) (n : Nat) (hm : P.follows .mixedOrders = true) (hlen : decide (mh.length ≤ l.length) = true) (hsel : Region.noSelect l.toArray = true) (hQ : ∀ c a (d : Tmp) v w, Q (.panic c) (a.put (some d) v) w → Q (.panic c) a w) (hS : S w.drew)
    (hp : ((part l mh).all fun o => plainB o.op) = true) (hB : takeB l.toArray (idx 0 mh) (Array.replicate l.toArray.size false) = true) (hf : l.toArray.size = n + (idx 0 mh).length)
    (hq : wpQuiet P l.toArray S (fun a' => wpAnyH P .any l.toArray Q S n (listAll (idx 0 mh) (Array.replicate l.toArray.size false)) a' w.drew) (part l mh) a) : (Code.region id l.toArray true).wp P Q a w := by
  refine region_held (S := S) hm ?_
  have e1 := opsAt_part l mh l 0 (by simpa using hlen) (fun j => by simp)
  have := wpAnyH_quiet (P := P) (Q := Q) (fuel := n) hsel hQ hS _ _ _ a e1 hp hB hq
  rw [← hf] at this
  exact this

def pairB (ops : Array Oper) (listed : Array Bool) (c mv e0 e1 al st asg : Nat) : Bool :=
  let r (l : Array Bool) (x : List Nat) : Bool := decide (Region.ready .any ops l = x)
  let s (l : Array Bool) (i : Nat) := l.setIfInBounds i true
  let tk (l : Array Bool) (i : Nat) : Bool := (Region.ready .any ops l).contains i && Region.free .any ops l i
  Region.noSelect ops && r listed [c, al] &&
  (let l := s listed c; tk l mv && tk (s l mv) e0 && tk (s (s l mv) e0) e1 && r (s (s (s l mv) e0) e1) [al] && r (s (s (s (s l mv) e0) e1) al) [st] && r (s (s (s (s (s l mv) e0) e1) al) st) [asg] && r (s (s (s (s (s (s l mv) e0) e1) al) st) asg) []) &&
  r (s listed al) [c] &&
  (let l := s (s listed al) c; tk l mv && tk (s l mv) e0 && tk (s (s l mv) e0) e1 && r (s (s (s l mv) e0) e1) [st] && r (s (s (s (s l mv) e0) e1) st) [asg] && r (s (s (s (s (s l mv) e0) e1) st) asg) [])
theorem put_comm' {a : Act} {d e : Nat} (h : d ≠ e) (u v : Value) : (a.put (some d) u).put (some e) v = (a.put (some e) v).put (some d) u :=
  by simp only [Act.put]; rw [Array.setIfInBounds_comm _ _ h]
theorem run_move {o : Oper} {x : Operand} (ho : o.op = .move x) (W : World) : (execOp a.eval o).run P W = .ok (.value (a.eval x)) W := by unfold execOp; rw [ho]; rfl
theorem run_assign {o : Oper} {x : Operand} (ho : o.op = .assign x) (W : World) : (execOp a.eval o).run P W = .ok (.value (a.eval x)) W := by unfold execOp; rw [ho]; rfl
theorem run_extract {o : Oper} {x : Operand} {k : Nat} {vs : Array Value} {v : Value} (ho : o.op = .extract x k) (hx : a.eval x = .tuple vs) (hv : vs[k]? = some v) (W : World) : (execOp a.eval o).run P W = .ok (.value v) W := by
  unfold execOp; rw [ho]; simp only [hx]; simp [Instr.extract, hv, go_sem]
set_option maxHeartbeats 1600000 in
/-- 'x, e := f(..)' -/
theorem ah_pair {c mv e0 e1 al st asg f T d1 dm d3 d4 d2 d5 n : Nat} {oc omv oe0 oe1 oas : Oper} {vals : Array Value} {ta ts : TypeId} {pa ps : String} {aa ea : Array Edge} {cs z : Array Value} {v1 : Value}
    (hoc : ops[c]? = some oc) (hgc : oc.guard = none) (hdc : oc.dst = some d1)
    (hmv : ops[mv]? = some omv) (hmv' : omv.dst = some dm ∧ omv.op = .move (.tmp d1) ∧ omv.guard = none)
    (hoe0 : ops[e0]? = some oe0) (hoe0' : oe0.dst = some d3 ∧ oe0.op = .extract (.tmp dm) 0 ∧ oe0.guard = none)
    (hoe1 : ops[e1]? = some oe1) (hoe1' : oe1.dst = some d4 ∧ oe1.op = .extract (.tmp dm) 1 ∧ oe1.guard = none)
    (hoa : ops[al]? = some ⟨some d2, .alloc T, ta, pa, aa, none⟩) (hos : ops[st]? = some ⟨none, .store T (.tmp d2) (.tmp d3), ts, ps, ea, none⟩)
    (hoas : ops[asg]? = some oas) (hoas' : oas.dst = some d5 ∧ oas.op = .assign (.tmp d4) ∧ oas.guard = none)
    (L : Whole P T n) (hcs : cs.size = n) (h1 : cs.all (·.oneCell') = true) (hz : ∀ W : World, (Instr.alloc T true (.tuple #[])).run P W = .ok (.pointer (some ⟨W.heap.size, 0, none⟩)) (W.alloc (.cells z T))) (hzs : z.size = n)
    (hd : noTwice [d1, dm, d3, d4, d2, d5] = true) (hb : [d1, dm, d3, d4, d2, d5].all (fun d => decide (d < a.tmps.size)) = true) (hB : pairB ops listed c mv e0 e1 al st asg = true)
    (hQ : ∀ c a (d : Tmp) v w, Q (.panic c) (a.put (some d) v) w → Q (.panic c) a w)
    (he : ∀ W : World, (execOp a.eval oc).run P W = .ok (.enter f vals) W) (he' : ∀ (W : World) (x : Value), (execOp (a.put (some d2) x).eval oc).run P W = .ok (.enter f vals) W)
    (hc : ∀ W : World, Ext w W → Calls P f vals W fun e w' => e = .returned (.tuple #[.agg cs, v1]) ∧ ∃ n : ExtOf W, w' = n.val) (hS : ∀ W : World, Ext w W → S W)
    (hk : ∀ (W : World) (g : Nat), Ext w W → w.heap.size ≤ g → Block W g cs → Q .normal ((((((a.put (some d1) (.tuple #[.agg cs, v1])).put (some dm) (.tuple #[.agg cs, v1])).put (some d3) (.agg cs)).put (some d4) v1).put (some d2) (.pointer (some ⟨g, 0, none⟩))).put (some d5) v1) W) :
    wpAnyH P .any ops Q S (fuel + 7) listed a w := by
  have hnd := noTwice_nodup hd
  simp only [List.nodup_cons, List.mem_cons, List.not_mem_nil, or_false, not_or, not_false_eq_true, List.nodup_nil, and_true] at hnd
  obtain ⟨⟨n1, n2, n3, n4, n5⟩, ⟨m1, m2, m3, m4⟩, ⟨k1, k2, k3⟩, ⟨j1, j2⟩, i1⟩ := hnd
  simp only [List.all_cons, List.all_nil, Bool.and_eq_true, decide_eq_true_eq, and_true] at hb
  obtain ⟨b1, b2, b3, b4, b5, b6⟩ := hb
  simp only [pairB, Bool.and_eq_true, decide_eq_true_eq] at hB
  obtain ⟨⟨⟨⟨hsel, r0⟩, ⟨⟨⟨⟨⟨⟨t1, t2⟩, t3⟩, r1⟩, r2⟩, r3⟩, r4⟩⟩, r5⟩, ⟨⟨⟨⟨⟨s1, s2⟩, s3⟩, r6⟩, r7⟩, r8⟩⟩ := hB
  have hS0 := hS w (Ext.refl w)
  obtain ⟨dmv, omv, gmv⟩ := hmv'
  obtain ⟨de0, oe0', ge0⟩ := hoe0'
  obtain ⟨de1, oe1', ge1⟩ := hoe1'
  obtain ⟨das, oas', gas⟩ := hoas'
  refine wpAnyH_all r0 (by simp) ?_
  intro j hj
  rcases (by simpa using hj : j = c ∨ j = al) with rfl | rfl
  · refine wpOp_call hoc hgc (he w) ?_
    refine (hc w (Ext.refl w)).mono ?_
    rintro e w' ⟨rfl, m, rfl⟩
    refine ⟨_, rfl, hS _ m.ext, ?_⟩
    rw [hdc]
    refine wpAnyH_take (v := .tuple #[.agg cs, v1]) hmv hsel t1.2 t1.1 (putQ hQ _ _) (.inl ⟨wanted_none gmv, fun W _ => by rw [run_move omv, eval_put_same b1]⟩) (hS _ m.ext) ?_
    rw [dmv]
    refine wpAnyH_take (v := .agg cs) hoe0 hsel t2.2 t2.1 (putQ hQ _ _) (.inl ⟨wanted_none ge0, fun W _ => run_extract oe0' (eval_put_same (by rw [size_put]; exact b2)) rfl W⟩) (hS _ m.ext) ?_
    rw [de0]
    refine wpAnyH_take (v := v1) hoe1 hsel t3.2 t3.1 (putQ hQ _ _) (.inl ⟨wanted_none ge1, fun W _ => run_extract oe1' (by rw [eval_put_other (Ne.symm m1)]; exact eval_put_same (by rw [size_put]; exact b2)) rfl W⟩) (hS _ m.ext) ?_
    rw [de1]
    refine ah_one r1 (wpOp_alloc (b := m.val.heap.size) hoa rfl (hz _) ⟨hS _ (m.ext.alloc _), ?_⟩)
    refine ah_store (i := st) (b := m.val.heap.size) (cs := cs) L hos r2 (eval_put_same (by simp only [size_put]; exact b5)) (by rw [eval_put_other (Ne.symm k2), eval_put_other (Ne.symm k1)]; exact eval_put_same (by simp only [size_put]; exact b3)) (Block.new _ _ _) hzs hcs h1 (hS _ ((m.ext.alloc _).setRow m.ext.size _)) ?_
    refine ah_one r3 ?_
    refine YieldsIf.wpOp (S := S) (v := v1) hoas (.inl ⟨wanted_none gas, fun W _ => by rw [run_assign oas']; rw [show ∀ (b : Act) x, (b.put none x) = b from fun _ _ => rfl]; rw [eval_put_other (Ne.symm j1), eval_put_same (by simp only [size_put]; exact b4)]⟩) (hS _ ((m.ext.alloc _).setRow m.ext.size _)) ?_
    refine ⟨hS _ ((m.ext.alloc _).setRow m.ext.size _), ?_⟩
    rw [das]
    exact wpAnyH_done r4 (hk _ _ ((m.ext.alloc _).setRow m.ext.size _) m.ext.size inferInstance) _
  · refine wpOp_alloc (b := w.heap.size) hoa rfl (hz _) ⟨hS _ ((Ext.refl w).alloc _), ?_⟩
    refine ah_one r5 (wpOp_call hoc hgc (he' _ _) ?_)
    refine (hc _ ((Ext.refl w).alloc _)).mono ?_
    rintro e w' ⟨rfl, m, rfl⟩
    have hx : Ext w m.val := Ext.trans ((Ext.refl w).alloc _) m.ext
    refine ⟨_, rfl, hS _ hx, ?_⟩
    rw [hdc]
    refine wpAnyH_take (v := .tuple #[.agg cs, v1]) hmv hsel s1.2 s1.1 (putQ hQ _ _) (.inl ⟨wanted_none gmv, fun W _ => by rw [run_move omv, eval_put_same (by rw [size_put]; exact b1)]⟩) (hS _ hx) ?_
    rw [dmv]
    refine wpAnyH_take (v := .agg cs) hoe0 hsel s2.2 s2.1 (putQ hQ _ _) (.inl ⟨wanted_none ge0, fun W _ => run_extract oe0' (eval_put_same (by simp only [size_put]; exact b2)) rfl W⟩) (hS _ hx) ?_
    rw [de0]
    refine wpAnyH_take (v := v1) hoe1 hsel s3.2 s3.1 (putQ hQ _ _) (.inl ⟨wanted_none ge1, fun W _ => run_extract oe1' (by rw [eval_put_other (Ne.symm m1)]; exact eval_put_same (by simp only [size_put]; exact b2)) rfl W⟩) (hS _ hx) ?_
    rw [de1]
    refine ah_store (i := st) (b := w.heap.size) (cs := cs) L hos r6 (by rw [eval_put_other j1, eval_put_other k2, eval_put_other m3, eval_put_other n4]; exact eval_put_same b5) (by rw [eval_put_other (Ne.symm k1)]; exact eval_put_same (by simp only [size_put]; exact b3)) (inferInstance : Block m.val w.heap.size z) hzs hcs h1 (hS _ (hx.setRow (Nat.le_refl _) _)) ?_
    refine ah_one r7 ?_
    refine YieldsIf.wpOp (S := S) (v := v1) hoas (.inl ⟨wanted_none gas, fun W _ => by rw [run_assign oas']; rw [show ∀ (b : Act) x, (b.put none x) = b from fun _ _ => rfl]; rw [eval_put_same (by simp only [size_put]; exact b4)]⟩) (hS _ (hx.setRow (Nat.le_refl _) _)) ?_
    refine ⟨hS _ (hx.setRow (Nat.le_refl _) _), ?_⟩
    rw [das]
    refine wpAnyH_done r8 ?_ _
    have := hk (m.val.setRow w.heap.size cs) w.heap.size (hx.setRow (Nat.le_refl _) _) (Nat.le_refl _) inferInstance
    rw [put_comm' j1, put_comm' k2, put_comm' m3, put_comm' n4] at this
    exact this
end
end Go.Proofs.YtjflmmipjeangaaGreatDoor
end
/-
  A region that draws its order: 'x, e := f(..)', where x may hang on the memory that f makes.
-/
section
set_option linter.unusedVariables false
set_option linter.unusedSimpArgs false
namespace Go.Proofs.YtjflmmipjeangaaGreatDoor
open Go.RowKit
section
variable {P : Program} {ops : Array Oper} {Q : Exit → Act → World → Prop} {S : World → Prop} {listed : Array Bool} {fuel : Nat} {a : Act} {w : World}
set_option maxHeartbeats 1600000 in
/-- 'x, e := f(..)', where x may hang on the memory that f makes -/
theorem ah_pairX {c mv e0 e1 al st asg f T d1 dm d3 d4 d2 d5 n : Nat} {oc omv oe0 oe1 oas : Oper} {vals : Array Value} {ta ts : TypeId} {pa ps : String} {aa ea : Array Edge} {z : Array Value} {v1 : Value}
    (hoc : ops[c]? = some oc) (hgc : oc.guard = none) (hdc : oc.dst = some d1)
    (hmv : ops[mv]? = some omv) (hmv' : omv.dst = some dm ∧ omv.op = .move (.tmp d1) ∧ omv.guard = none)
    (hoe0 : ops[e0]? = some oe0) (hoe0' : oe0.dst = some d3 ∧ oe0.op = .extract (.tmp dm) 0 ∧ oe0.guard = none)
    (hoe1 : ops[e1]? = some oe1) (hoe1' : oe1.dst = some d4 ∧ oe1.op = .extract (.tmp dm) 1 ∧ oe1.guard = none)
    (hoa : ops[al]? = some ⟨some d2, .alloc T, ta, pa, aa, none⟩) (hos : ops[st]? = some ⟨none, .store T (.tmp d2) (.tmp d3), ts, ps, ea, none⟩)
    (hoas : ops[asg]? = some oas) (hoas' : oas.dst = some d5 ∧ oas.op = .assign (.tmp d4) ∧ oas.guard = none)
    (L : Whole P T n) (hz : ∀ W : World, (Instr.alloc T true (.tuple #[])).run P W = .ok (.pointer (some ⟨W.heap.size, 0, none⟩)) (W.alloc (.cells z T))) (hzs : z.size = n)
    (hd : noTwice [d1, dm, d3, d4, d2, d5] = true) (hb : [d1, dm, d3, d4, d2, d5].all (fun d => decide (d < a.tmps.size)) = true) (hB : pairB ops listed c mv e0 e1 al st asg = true)
    (hQ : ∀ c a (d : Tmp) v w, Q (.panic c) (a.put (some d) v) w → Q (.panic c) a w)
    (he : ∀ W : World, (execOp a.eval oc).run P W = .ok (.enter f vals) W) (he' : ∀ (W : World) (x : Value), (execOp (a.put (some d2) x).eval oc).run P W = .ok (.enter f vals) W)
    (hc : ∀ W : World, Ext w W → Calls P f vals W fun e w' => ∃ cs : Array Value, cs.size = n ∧ cs.all (·.oneCell') = true ∧ e = .returned (.tuple #[.agg cs, v1]) ∧ ∃ n : ExtOf W, w' = n.val) (hS : ∀ W : World, Ext w W → S W)
    (hk : ∀ (W : World) (g : Nat) (cs : Array Value), Ext w W → w.heap.size ≤ g → Block W g cs → Q .normal ((((((a.put (some d1) (.tuple #[.agg cs, v1])).put (some dm) (.tuple #[.agg cs, v1])).put (some d3) (.agg cs)).put (some d4) v1).put (some d2) (.pointer (some ⟨g, 0, none⟩))).put (some d5) v1) W) :
    wpAnyH P .any ops Q S (fuel + 7) listed a w := by
  have hnd := noTwice_nodup hd
  simp only [List.nodup_cons, List.mem_cons, List.not_mem_nil, or_false, not_or, not_false_eq_true, List.nodup_nil, and_true] at hnd
  obtain ⟨⟨n1, n2, n3, n4, n5⟩, ⟨m1, m2, m3, m4⟩, ⟨k1, k2, k3⟩, ⟨j1, j2⟩, i1⟩ := hnd
  simp only [List.all_cons, List.all_nil, Bool.and_eq_true, decide_eq_true_eq, and_true] at hb
  obtain ⟨b1, b2, b3, b4, b5, b6⟩ := hb
  simp only [pairB, Bool.and_eq_true, decide_eq_true_eq] at hB
  obtain ⟨⟨⟨⟨hsel, r0⟩, ⟨⟨⟨⟨⟨⟨t1, t2⟩, t3⟩, r1⟩, r2⟩, r3⟩, r4⟩⟩, r5⟩, ⟨⟨⟨⟨⟨s1, s2⟩, s3⟩, r6⟩, r7⟩, r8⟩⟩ := hB
  have hS0 := hS w (Ext.refl w)
  obtain ⟨dmv, omv, gmv⟩ := hmv'
  obtain ⟨de0, oe0', ge0⟩ := hoe0'
  obtain ⟨de1, oe1', ge1⟩ := hoe1'
  obtain ⟨das, oas', gas⟩ := hoas'
  refine wpAnyH_all r0 (by simp) ?_
  intro j hj
  rcases (by simpa using hj : j = c ∨ j = al) with rfl | rfl
  · refine wpOp_call hoc hgc (he w) ?_
    refine (hc w (Ext.refl w)).mono ?_
    rintro e w' ⟨cs, hcs, h1, rfl, m, rfl⟩
    refine ⟨_, rfl, hS _ m.ext, ?_⟩
    rw [hdc]
    refine wpAnyH_take (v := .tuple #[.agg cs, v1]) hmv hsel t1.2 t1.1 (putQ hQ _ _) (.inl ⟨wanted_none gmv, fun W _ => by rw [run_move omv, eval_put_same b1]⟩) (hS _ m.ext) ?_
    rw [dmv]
    refine wpAnyH_take (v := .agg cs) hoe0 hsel t2.2 t2.1 (putQ hQ _ _) (.inl ⟨wanted_none ge0, fun W _ => run_extract oe0' (eval_put_same (by rw [size_put]; exact b2)) rfl W⟩) (hS _ m.ext) ?_
    rw [de0]
    refine wpAnyH_take (v := v1) hoe1 hsel t3.2 t3.1 (putQ hQ _ _) (.inl ⟨wanted_none ge1, fun W _ => run_extract oe1' (by rw [eval_put_other (Ne.symm m1)]; exact eval_put_same (by rw [size_put]; exact b2)) rfl W⟩) (hS _ m.ext) ?_
    rw [de1]
    refine ah_one r1 (wpOp_alloc (b := m.val.heap.size) hoa rfl (hz _) ⟨hS _ (m.ext.alloc _), ?_⟩)
    refine ah_store (i := st) (b := m.val.heap.size) (cs := cs) L hos r2 (eval_put_same (by simp only [size_put]; exact b5)) (by rw [eval_put_other (Ne.symm k2), eval_put_other (Ne.symm k1)]; exact eval_put_same (by simp only [size_put]; exact b3)) (Block.new _ _ _) hzs hcs h1 (hS _ ((m.ext.alloc _).setRow m.ext.size _)) ?_
    refine ah_one r3 ?_
    refine YieldsIf.wpOp (S := S) (v := v1) hoas (.inl ⟨wanted_none gas, fun W _ => by rw [run_assign oas']; rw [show ∀ (b : Act) x, (b.put none x) = b from fun _ _ => rfl]; rw [eval_put_other (Ne.symm j1), eval_put_same (by simp only [size_put]; exact b4)]⟩) (hS _ ((m.ext.alloc _).setRow m.ext.size _)) ?_
    refine ⟨hS _ ((m.ext.alloc _).setRow m.ext.size _), ?_⟩
    rw [das]
    exact wpAnyH_done r4 (hk _ _ _ ((m.ext.alloc _).setRow m.ext.size _) m.ext.size inferInstance) _
  · refine wpOp_alloc (b := w.heap.size) hoa rfl (hz _) ⟨hS _ ((Ext.refl w).alloc _), ?_⟩
    refine ah_one r5 (wpOp_call hoc hgc (he' _ _) ?_)
    refine (hc _ ((Ext.refl w).alloc _)).mono ?_
    rintro e w' ⟨cs, hcs, h1, rfl, m, rfl⟩
    have hx : Ext w m.val := Ext.trans ((Ext.refl w).alloc _) m.ext
    refine ⟨_, rfl, hS _ hx, ?_⟩
    rw [hdc]
    refine wpAnyH_take (v := .tuple #[.agg cs, v1]) hmv hsel s1.2 s1.1 (putQ hQ _ _) (.inl ⟨wanted_none gmv, fun W _ => by rw [run_move omv, eval_put_same (by rw [size_put]; exact b1)]⟩) (hS _ hx) ?_
    rw [dmv]
    refine wpAnyH_take (v := .agg cs) hoe0 hsel s2.2 s2.1 (putQ hQ _ _) (.inl ⟨wanted_none ge0, fun W _ => run_extract oe0' (eval_put_same (by simp only [size_put]; exact b2)) rfl W⟩) (hS _ hx) ?_
    rw [de0]
    refine wpAnyH_take (v := v1) hoe1 hsel s3.2 s3.1 (putQ hQ _ _) (.inl ⟨wanted_none ge1, fun W _ => run_extract oe1' (by rw [eval_put_other (Ne.symm m1)]; exact eval_put_same (by simp only [size_put]; exact b2)) rfl W⟩) (hS _ hx) ?_
    rw [de1]
    refine ah_store (i := st) (b := w.heap.size) (cs := cs) L hos r6 (by rw [eval_put_other j1, eval_put_other k2, eval_put_other m3, eval_put_other n4]; exact eval_put_same b5) (by rw [eval_put_other (Ne.symm k1)]; exact eval_put_same (by simp only [size_put]; exact b3)) (inferInstance : Block m.val w.heap.size z) hzs hcs h1 (hS _ (hx.setRow (Nat.le_refl _) _)) ?_
    refine ah_one r7 ?_
    refine YieldsIf.wpOp (S := S) (v := v1) hoas (.inl ⟨wanted_none gas, fun W _ => by rw [run_assign oas']; rw [show ∀ (b : Act) x, (b.put none x) = b from fun _ _ => rfl]; rw [eval_put_same (by simp only [size_put]; exact b4)]⟩) (hS _ (hx.setRow (Nat.le_refl _) _)) ?_
    refine ⟨hS _ (hx.setRow (Nat.le_refl _) _), ?_⟩
    rw [das]
    refine wpAnyH_done r8 ?_ _
    have := hk (m.val.setRow w.heap.size cs) w.heap.size cs (hx.setRow (Nat.le_refl _) _) (Nat.le_refl _) inferInstance
    rw [put_comm' j1, put_comm' k2, put_comm' m3, put_comm' n4] at this
    exact this
end
end Go.Proofs.YtjflmmipjeangaaGreatDoor
end
/-
  Program-independent ground: parts of slices, slices of the call's own that are written in the midst.
-/
section
set_option linter.unusedVariables false
set_option linter.unusedSimpArgs false
namespace Go.Proofs.YtjflmmipjeangaaGreatDoor
open Go.RowKit

section
variable {α : Type} {enc : α → List Value} {k : Nat} {w : World}
theorem Own.lower {E base base' : Nat} {v : Value} {l : List α} (h : Own enc k E base w v l) (hb : base' ≤ base) : Own enc k E base' w v l := by
  obtain ⟨h1, hn | ⟨g, cap, cur, rfl, hg, r⟩⟩ := h
  · exact ⟨h1, .inl hn⟩
  · exact ⟨h1, .inr ⟨g, cap, cur, rfl, by omega, r⟩⟩
/-- '[]T{}' -/
theorem Own.empty {E base : Nat} (hb : base ≤ w.heap.size) : Own enc k E base (w.alloc (.cells #[] E)) (.slice (some ⟨w.heap.size, 0, none⟩) 0 0) ([] : List α) :=
  ⟨by simp, .inr ⟨w.heap.size, 0, #[], rfl, hb, (MapKept.heap_alloc w _).1, Nat.le_refl _, Nat.zero_le _, by simp, by simp⟩⟩
theorem SliceOf.take {p : Option Addr} {n cap j : Nat} {l : List α} (h : SliceOf enc k w (.slice p n cap) l) (hj : j ≤ l.length) : SliceOf enc k w (.slice p j cap) (l.take j) := by
  obtain ⟨p', cap', e, h1, h2, h3, h4⟩ := h
  simp only [Value.slice.injEq] at e
  obtain ⟨rfl, rfl, rfl⟩ := e
  refine ⟨p, cap, by simp; omega, by simp; omega, h2, h3, fun i x hi => ?_⟩
  rw [List.getElem?_take] at hi
  split at hi
  · exact h4 i x hi
  · cases hi
theorem SliceOf.drop {b off n cap j : Nat} {l : List α} (h : SliceOf enc k w (.slice (some ⟨b, off, none⟩) n cap) l) (hj : j ≤ l.length) : SliceOf enc k w (.slice (some ⟨b, off + j * k, none⟩) (n - j) (cap - j)) (l.drop j) := by
  obtain ⟨p', cap', e, h1, h2, h3, h4⟩ := h
  simp only [Value.slice.injEq] at e
  obtain ⟨rfl, rfl, rfl⟩ := e
  refine ⟨_, cap - j, by simp, by simp; omega, by omega, fun h => (by cases h), fun i x hi => ⟨b, off + j * k, rfl, fun q u hq => ?_⟩⟩
  rw [List.getElem?_drop] at hi
  obtain ⟨b', o', e, hc⟩ := h4 (j + i) x hi
  simp only [Option.some.injEq, Addr.mk.injEq, and_true] at e
  obtain ⟨rfl, rfl⟩ := e
  have := hc q u hq
  rw [Nat.add_mul] at this
  rw [show off + j * k + (i * k + q) = off + (j * k + i * k + q) by omega]
  exact this
theorem SliceOf.none_of_nil {p : Option Addr} : SliceOf enc k w (.slice p 0 0) ([] : List α) :=
  ⟨p, 0, rfl, Nat.le_refl _, Nat.zero_le _, fun _ => rfl, fun i x h => by simp at h⟩
end
end Go.Proofs.YtjflmmipjeangaaGreatDoor
end
