/-
  A region that draws its order and whose operations read, make memory, or call functions that leave old memory alone: one walk in the text's order, each operation's value known by a condition that later memory keeps.
-/
import Derived.Test.YtaflcbdbacogeaaDoorBase7
set_option linter.unusedVariables false
set_option linter.unusedSimpArgs false
namespace Go.Proofs.YtaflcbdbacogeaaDoor
open Go.RowKit Go.WideShapes Go.ChangeShapes

section
variable {P : Program} {ops : Array Oper} {w0 : World} {A : Nat → Value → Prop} {F : Nat → Value → World → Prop}
/-- an operation ends with a value and a world -/
def endsWith (P : Program) (R : Value → World → Prop) : Result Next → Prop
  | .ok (.value v) w' => R v w'
  | .ok .skip w' => R undef w'
  | .ok (.enter f args) w' => Calls P f args w' fun e w'' => ∃ v, e = .returned v ∧ R v w''
  | _ => False
/-- what is known of the temporary that is written -/
def okDst (A : Nat → Value → Prop) (F : Nat → Value → World → Prop) : Option Tmp → Value → World → Prop
  | some d, v, w => A d v ∧ F d v w
  | none, _, _ => True
def admDst (A : Nat → Value → Prop) : Option Tmp → Value → Prop
  | some d, v => A d v
  | none, v => v = undef
/-- what is known of those for whom operation o waits -/
def known (ops : Array Oper) (F : Nat → Value → World → Prop) (o : Oper) (a : Act) (w : World) : Prop :=
  ∀ e ∈ o.after, Region.binds .any e = true → ∀ oi d, ops[e.on]? = some oi → oi.dst = some d → F d (a.tmps.getD d undef) w
/-- the operation, in whatever world behind w0 in which its predecessors' values are as known -/
def SO (P : Program) (ops : Array Oper) (w0 : World) (A : Nat → Value → Prop) (F : Nat → Value → World → Prop) (o : Oper) (a : Act) : Prop :=
  if Region.wanted o (yielded ops a.tmps) = true then ∀ w, Ext w0 w → known ops F o a w → endsWith P (fun v w' => Ext w w' ∧ okDst A F o.dst v w') ((execOp a.eval o).run P w)
  else admDst A o.dst undef ∧ ∀ w, okDst A F o.dst undef w
def Adm (ops : Array Oper) (A : Nat → Value → Prop) (o : Oper) (a : Act) (v : Value) : Prop := if Region.wanted o (yielded ops a.tmps) = true then admDst A o.dst v else v = undef
def sOp (P : Program) (ops : Array Oper) (w0 : World) (A : Nat → Value → Prop) (F : Nat → Value → World → Prop) (i : Nat) (K : Act → Prop) (a : Act) : Prop :=
  match ops[i]? with
  | none => K a
  | some o => SO P ops w0 A F o a ∧ ∀ v, Adm ops A o a v → K (a.put o.dst v)
def wpSoft (P : Program) (ops : Array Oper) (w0 : World) (A : Nat → Value → Prop) (F : Nat → Value → World → Prop) (Q : Act → Prop) : List Oper → Act → Prop
  | [], a => Q a
  | o :: rest, a => SO P ops w0 A F o a ∧ ∀ v, Adm ops A o a v → wpSoft P ops w0 A F Q rest (a.put o.dst v)
def wpAnyS (P : Program) (ops : Array Oper) (w0 : World) (A : Nat → Value → Prop) (F : Nat → Value → World → Prop) (Q : Act → Prop) : Nat → Array Bool → Act → Prop
  | 0, listed, a => Region.ready .any ops listed = [] ∧ Q a
  | fuel + 1, listed, a => (Region.ready .any ops listed = [] → Q a) ∧ ∀ i ∈ Region.ready .any ops listed, sOp P ops w0 A F i (wpAnyS P ops w0 A F Q fuel (listed.setIfInBounds i true)) a

theorem sOp_mono {i : Nat} {a : Act} {K K' : Act → Prop} (h : ∀ a, K a → K' a) (hh : sOp P ops w0 A F i K a) : sOp P ops w0 A F i K' a := by
  unfold sOp at *
  split
  · rename_i ho; simp only [ho] at hh; exact h _ hh
  · rename_i o ho; simp only [ho] at hh; exact ⟨hh.1, fun v hv => h _ (hh.2 v hv)⟩

/-- no temporary is written twice -/
def oneWriter (ops : Array Oper) : Prop := ∀ (j k : Nat) (oj ok : Oper) (d : Tmp), ops[j]? = some oj → ops[k]? = some ok → oj.dst = some d → ok.dst = some d → j = k

theorem known_put {i : Nat} {oi oj : Oper} {v : Value} {a : Act} {w : World} (h1w : oneWriter ops) (hi : ops[i]? = some oi) (hn : ∀ e ∈ oj.after, Region.binds .any e = true → e.on ≠ i) : known ops F oj (a.put oi.dst v) w ↔ known ops F oj a w := by
  have key : ∀ e ∈ oj.after, Region.binds .any e = true → ∀ ok d, ops[e.on]? = some ok → ok.dst = some d → (a.put oi.dst v).tmps.getD d undef = a.tmps.getD d undef := by
    intro e he hb ok d hk hd
    cases hdi : oi.dst with
    | none => rfl
    | some di =>
      have hne : di ≠ d := fun hh => hn e he hb (h1w _ _ _ _ d hk hi hd (by rw [hdi, hh]))
      simp [Act.put, Array.getElem?_setIfInBounds_ne hne]
  constructor
  · intro h e he hb ok d hk hd; rw [← key e he hb ok d hk hd]; exact h e he hb ok d hk hd
  · intro h e he hb ok d hk hd; rw [key e he hb ok d hk hd]; exact h e he hb ok d hk hd

theorem SO_put {i : Nat} {oi oj : Oper} {v : Value} {a : Act} (h1w : oneWriter ops) (hi : ops[i]? = some oi) (hn : ∀ e ∈ oj.after, Region.binds .any e = true → e.on ≠ i) (hsj : ∀ cs b, oj.op ≠ .select cs b)
    (hl : ∀ d, oi.dst = some d → d ∉ oj.looksAt ops) : SO P ops w0 A F oj (a.put oi.dst v) ↔ SO P ops w0 A F oj a := by
  unfold SO
  rw [wanted_put oj a oi.dst v hl, execOp_put oj hsj a oi.dst v hl]
  simp only [known_put (F := F) h1w hi hn]
theorem Adm_put {oi oj : Oper} {v : Value} {a : Act} (hl : ∀ d, oi.dst = some d → d ∉ oj.looksAt ops) : Adm ops A oj (a.put oi.dst v) = Adm ops A oj a := by
  funext u
  unfold Adm
  rw [wanted_put oj a oi.dst v hl]
theorem Adm_some (hA : ∀ d, ∃ v, A d v) (o : Oper) (a : Act) : ∃ v, Adm ops A o a v := by
  unfold Adm
  split
  · cases h : o.dst with
    | none => exact ⟨undef, rfl⟩
    | some d => exact hA d
  · exact ⟨undef, rfl⟩

theorem wpAnyS_first {Q : Act → Prop} {i : Nat} {oi : Oper} (hi : ops[i]? = some oi) (hA : ∀ d, ∃ v, A d v) (h1w : oneWriter ops) (hsel : ∀ (j : Nat) (o : Oper) cs b, ops[j]? = some o → o.op ≠ .select cs b) :
    ∀ (fuel : Nat) (listed : Array Bool) (a : Act),
      (∀ j oj, ops[j]? = some oj → j ≠ i → listed.getD j true = false → (∀ e ∈ oj.after, Region.binds .any e = true → e.on ≠ i) → oi.apart ops oj = true) →
      i ∈ Region.ready .any ops listed → SO P ops w0 A F oi a → (∀ v, Adm ops A oi a v → wpAnyS P ops w0 A F Q fuel (listed.setIfInBounds i true) (a.put oi.dst v)) → wpAnyS P ops w0 A F Q (fuel + 1) listed a := by
  have here : ∀ {K : Act → Prop} {a : Act}, SO P ops w0 A F oi a → (∀ v, Adm ops A oi a v → K (a.put oi.dst v)) → sOp P ops w0 A F i K a := fun {K a} h1 h2 => by
    unfold sOp; rw [hi]; exact ⟨h1, h2⟩
  intro fuel
  induction fuel with
  | zero =>
    intro listed a _ hr hy H
    refine ⟨fun h => (by rw [h] at hr; cases hr), fun j hj => ?_⟩
    by_cases hji : j = i
    · subst hji; exact here hy H
    · obtain ⟨v, hv⟩ := Adm_some (ops := ops) hA oi a
      have := ready_mono hj hji
      rw [(H v hv).1] at this
      cases this
  | succ fuel ih =>
    intro listed a hfree hr hy H
    refine ⟨fun h => (by rw [h] at hr; cases hr), fun j hj => ?_⟩
    by_cases hji : j = i
    · subst hji; exact here hy H
    · obtain ⟨hjun, oj, hoj, hall⟩ := mem_ready.1 hj
      obtain ⟨hiun, oi', hoi', halli⟩ := mem_ready.1 hr
      obtain rfl : oi = oi' := by rw [hi] at hoi'; exact Option.some.inj hoi'
      have notwait : ∀ (k : Nat), listed.getD k true = false → ∀ (ok : Oper), (∀ e ∈ ok.after, Region.binds .any e = true → listed.getD e.on false = true) → ∀ e ∈ ok.after, Region.binds .any e = true → e.on ≠ k := fun k hk ok hok e he hb heq => by
        have h1 := hok e he hb
        rw [heq] at h1
        rcases Nat.lt_or_ge k listed.size with h' | h'
        · simp [h'] at hk h1; rw [hk] at h1; cases h1
        · simp [Array.getElem?_eq_none h'] at h1
      have hnot := notwait i hiun oj hall
      have hnoti := notwait j hjun oi halli
      obtain ⟨l1, l2, l3⟩ := Oper.apart_spec (hfree j oj hoj hji hjun hnot)
      have hfree' : ∀ k ok, ops[k]? = some ok → k ≠ i → (listed.setIfInBounds j true).getD k true = false →
          (∀ e ∈ ok.after, Region.binds .any e = true → e.on ≠ i) → oi.apart ops ok = true := fun k ok hk hki hun hno => by
        refine hfree k ok hk hki ?_ hno
        by_cases hjk : j = k
        · subst hjk; exact hjun
        · rw [getD_set_ne true hjk] at hun; exact hun
      have at1 : ∀ v, Adm ops A oi a v → SO P ops w0 A F oj (a.put oi.dst v) ∧ ∀ u, Adm ops A oj (a.put oi.dst v) u → wpAnyS P ops w0 A F Q fuel ((listed.setIfInBounds i true).setIfInBounds j true) ((a.put oi.dst v).put oj.dst u) := fun v hv => by
        have := (H v hv).2 j (ready_mono hj hji)
        unfold sOp at this
        rw [hoj] at this
        exact this
      obtain ⟨v0, hv0⟩ := Adm_some (ops := ops) hA oi a
      unfold sOp
      rw [hoj]
      refine ⟨(SO_put h1w hi hnot (fun cs b => hsel j oj cs b hoj) l1).1 (at1 v0 hv0).1, fun u hu => ?_⟩
      refine ih (listed.setIfInBounds j true) (a.put oj.dst u) hfree' (ready_mono hr (Ne.symm hji)) ((SO_put h1w hoj hnoti (fun cs b => hsel i oi cs b hi) l3).2 hy) (fun v hv => ?_)
      rw [Adm_put l3] at hv
      have := (at1 v hv).2 u (by rw [Adm_put l1]; exact hu)
      rw [Array.setIfInBounds_comm _ _ (Ne.symm hji), Act.put_comm a v u l2] at this
      exact this

theorem wpAnyS_lex {Q : Act → Prop} (hA : ∀ d, ∃ v, A d v) (h1w : oneWriter ops) (hs : Region.noSelect ops = true) : ∀ (l : List Oper) (k : Nat) (listed : Array Bool) (a : Act), (∀ j, l[j]? = ops[k + j]?) →
    Region.lexFrom .any ops l.length k listed = true → wpSoft P ops w0 A F Q l a → wpAnyS P ops w0 A F Q l.length listed a
  | [], _, _, _, _, hB, h => ⟨by simpa [Region.lexFrom] using hB, h⟩
  | o :: l, k, listed, a, hl, hB, h => by
    have h0 : ops[k]? = some o := by simpa using (hl 0).symm
    simp only [List.length_cons, Region.lexFrom, Bool.and_eq_true] at hB
    obtain ⟨⟨hr, hf⟩, hB'⟩ := hB
    exact wpAnyS_first h0 hA h1w (Region.noSelect_spec hs) l.length listed a (Region.free_spec h0 hf) (by simpa using hr) h.1
      (fun v hv => wpAnyS_lex hA h1w hs l (k + 1) _ _ (fun j => by have := hl (j + 1); simpa [Nat.add_assoc, Nat.add_comm 1 j] using this) hB' (h.2 v hv))

/-- what holds in the midst of the region -/
def mid (ops : Array Oper) (w0 : World) (F : Nat → Value → World → Prop) (listed : Array Bool) (a : Act) (w : World) : Prop :=
  Ext w0 w ∧ (∀ (i : Nat) (oi : Oper) (d : Tmp), ops[i]? = some oi → oi.dst = some d → d < a.tmps.size) ∧ ∀ (i : Nat) (oi : Oper) (d : Tmp), listed.getD i false = true → ops[i]? = some oi → oi.dst = some d → F d (a.tmps.getD d undef) w

theorem mid_put {listed : Array Bool} {a : Act} {w w' : World} {i : Nat} {o : Oper} {v : Value} (hst : ∀ d v w w', F d v w → Ext w w' → F d v w') (h1w : oneWriter ops) (hi : ops[i]? = some o) (hm : mid ops w0 F listed a w) (hx : Ext w w') (hv : okDst A F o.dst v w') :
    mid ops w0 F (listed.setIfInBounds i true) (a.put o.dst v) w' := by
  obtain ⟨h1, h2, h3⟩ := hm
  refine ⟨Ext.trans h1 hx, fun k ok d hk hd => by rw [size_put]; exact h2 k ok d hk hd, fun k ok d hl hk hd => ?_⟩
  by_cases hki : k = i
  · subst hki
    obtain rfl : o = ok := by rw [hi] at hk; exact Option.some.inj hk
    rw [hd] at hv ⊢
    have hlt := h2 k o d hi hd
    have : (a.put (some d) v).tmps.getD d undef = v := by simp [Act.put, Array.getElem?_setIfInBounds_self_of_lt hlt]
    rw [this]
    exact hv.2
  · have hl' : listed.getD k false = true := by rw [getD_set_ne false (Ne.symm hki)] at hl; exact hl
    have hf := hst _ _ _ _ (h3 k ok d hl' hk hd) hx
    cases hdi : o.dst with
    | none => exact hf
    | some di =>
      have hne : di ≠ d := fun hh => hki (h1w _ _ _ _ d hk hi hd (by rw [hdi, hh]))
      have : (a.put (some di) v).tmps.getD d undef = a.tmps.getD d undef := by simp [Act.put, Array.getElem?_setIfInBounds_ne hne]
      rw [this]
      exact hf

theorem wpAny_of_soft {Q : Act → Prop} {Q' : Exit → Act → World → Prop} (hst : ∀ d v w w', F d v w → Ext w w' → F d v w') (h1w : oneWriter ops) (hQ : ∀ a w, Ext w0 w → Q a → Q' .normal a w) : ∀ (fuel : Nat) (listed : Array Bool) (a : Act) (w : World), mid ops w0 F listed a w →
    wpAnyS P ops w0 A F Q fuel listed a → wpAny P .any ops Q' fuel listed a w
  | 0, _, _, _, hm, h => ⟨h.1, hQ _ _ hm.1 h.2⟩
  | fuel + 1, listed, a, w, hm, h => ⟨fun h0 => hQ _ _ hm.1 (h.1 h0), fun i hi => by
    have hs := h.2 i hi
    obtain ⟨_, o, ho, hall⟩ := mem_ready.1 hi
    unfold sOp at hs
    rw [ho] at hs
    unfold wpOp
    rw [ho]
    obtain ⟨h1, h2⟩ := hs
    unfold SO at h1
    unfold Adm at h2
    by_cases hw : Region.wanted o (yielded ops a.tmps) = true
    · simp only [hw, if_true] at h1 h2 ⊢
      refine .inl ?_
      have h3 := h1 w hm.1 (fun e he hb oi d hoi hd => hm.2.2 e.on oi d (hall e he hb) hoi hd)
      have fin : ∀ v w', Ext w w' ∧ okDst A F o.dst v w' → wpAny P .any ops Q' fuel (listed.setIfInBounds i true) (a.put o.dst v) w' := fun v w' ⟨hx, hv⟩ => by
        refine wpAny_of_soft hst h1w hQ fuel _ _ _ (mid_put hst h1w ho hm hx hv) ?_
        cases hd : o.dst with
        | none => have := h2 undef (by rw [hd]; rfl); rw [hd] at this; exact this
        | some d => rw [hd] at hv h2; exact h2 v hv.1
      unfold Oper.wp
      generalize (execOp a.eval o).run P w = r at *
      cases r with
      | ok n w' =>
        cases n <;> simp only [endsWith] at h3 <;> simp only [Oper.upon]
        case value u => exact fin _ _ h3
        case skip => exact fin _ _ h3
        case enter f args => exact Calls.mono h3 fun e w'' ⟨v, he, hv⟩ => by subst he; exact fin _ _ hv
      | halt x w' => simp only [endsWith] at h3
    · simp only [hw] at h1 h2 ⊢
      exact wpAny_of_soft hst h1w hQ fuel _ _ _ (mid_put hst h1w ho hm (Ext.refl w) (h1.2 w)) (h2 undef rfl)⟩

/-- no temporary is written twice, as a Bool -/
def noTwice : List Nat → Bool
  | [] => true
  | x :: l => l.all (fun y => !(Nat.beq x y)) && noTwice l
theorem noTwice_nodup : ∀ {l : List Nat}, noTwice l = true → l.Nodup
  | [], _ => List.Pairwise.nil
  | x :: l, h => by
    simp only [noTwice, Bool.and_eq_true, List.all_eq_true] at h
    refine List.nodup_cons.2 ⟨fun hm => ?_, noTwice_nodup h.2⟩
    have := h.1 x hm
    simp at this
def oneWriterB (ops : Array Oper) : Bool := noTwice (ops.toList.filterMap (·.dst))
theorem nodup_filterMap {l : List Oper} (h : (l.filterMap (·.dst)).Nodup) : ∀ (j k : Nat) (oj ok : Oper) (d : Tmp), l[j]? = some oj → l[k]? = some ok → oj.dst = some d → ok.dst = some d → j = k := by
  induction l with
  | nil => intro j k oj ok d h; simp at h
  | cons x l ih =>
    intro j k oj ok d hj hk hdj hdk
    have mem : ∀ (m : Nat) (o : Oper), l[m]? = some o → o.dst = some d → d ∈ l.filterMap (·.dst) := fun m o hm hd => List.mem_filterMap.2 ⟨o, List.mem_of_getElem? hm, hd⟩
    have hl : (l.filterMap (·.dst)).Nodup := by
      rw [List.filterMap_cons] at h
      split at h
      · exact h
      · exact (List.nodup_cons.1 h).2
    have hx : ∀ (o : Oper), o = x → o.dst = some d → d ∉ l.filterMap (·.dst) := fun o ho hd => by
      subst ho
      rw [List.filterMap_cons, hd] at h
      exact (List.nodup_cons.1 h).1
    cases j with
    | zero =>
      cases k with
      | zero => rfl
      | succ k =>
        simp at hj hk
        exact absurd (mem k ok hk hdk) (hx oj hj.symm hdj)
    | succ j =>
      cases k with
      | zero =>
        simp at hj hk
        exact absurd (mem j oj hj hdj) (hx ok hk.symm hdk)
      | succ k =>
        simp at hj hk
        rw [ih hl j k oj ok d hj hk hdj hdk]
theorem oneWriter_of (h : oneWriterB ops = true) : oneWriter ops := by
  intro j k oj ok d hj hk hdj hdk
  have h' : (ops.toList.filterMap (·.dst)).Nodup := noTwice_nodup h
  exact nodup_filterMap h' j k oj ok d (by simpa using hj) (by simpa using hk) hdj hdk

/-- THE REGION: one walk in the text's order -/
theorem wp_region_soft {id : Nat} {Q : Exit → Act → World → Prop} {a : Act} {w : World} {l : List Oper} (A : Nat → Value → Prop) (F : Nat → Value → World → Prop) (hm : P.follows .mixedOrders = true) (hB : Region.lexB .any l.toArray = true) (h1 : oneWriterB l.toArray = true)
    (hsz : l.all (fun o => match o.dst with | some d => Nat.blt d a.tmps.size | none => true) = true) (hA : ∀ d, ∃ v, A d v) (hst : ∀ d v w w', F d v w → Ext w w' → F d v w')
    (h : wpSoft P l.toArray w.drew A F (fun a' => ∀ w', Ext w.drew w' → Q .normal a' w') l a) : (Code.region id l.toArray true).wp P Q a w := by
  have h1w := oneWriter_of h1
  simp only [Region.lexB, Bool.and_eq_true] at hB
  refine wp_region_any hm (wpAny_of_soft (w0 := w.drew) (A := A) (F := F) (Q := fun a' => ∀ w', Ext w.drew w' → Q .normal a' w') hst h1w (fun _ w' hw' h => h w' hw') _ _ _ _ ?_ ?_)
  · refine ⟨Ext.refl _, fun i oi d hi hd => ?_, fun i oi d hl => ?_⟩
    · have hmem : oi ∈ l := List.mem_of_getElem? (by simpa using hi)
      have := List.all_eq_true.1 hsz oi hmem
      rw [hd] at this
      simpa [Nat.blt_eq] using this
    · rcases Nat.lt_or_ge i l.length with h' | h' <;> simp [h'] at hl
  · have := wpAnyS_lex (P := P) (w0 := w.drew) (A := A) (F := F) (Q := fun a' => ∀ w', Ext w.drew w' → Q .normal a' w') hA h1w hB.1 l 0 (Array.replicate l.toArray.size false) a (by simp) (by simpa using hB.2) h
    simpa using this

section
variable {Q : Act → Prop} {o : Oper} {rest : List Oper} {a : Act} {d : Nat} {V : Value}
theorem known_get {w : World} (hk : known ops F o a w) {n d : Nat} {v : Value} (he : o.after.toList.any (fun e => Nat.beq e.on n && Region.binds .any e) = true) (h1 : (ops[n]?).bind (·.dst) = some d) (hv : a.tmps.getD d undef = v) : F d v w := by
  rw [List.any_eq_true] at he
  obtain ⟨e, hm, he⟩ := he
  rw [Bool.and_eq_true] at he
  obtain rfl : e.on = n := by simpa using he.1
  cases ho : ops[e.on]? with
  | none => rw [ho] at h1; cases h1
  | some oi =>
    rw [ho] at h1
    rw [← hv]
    exact hk e (by simpa using hm) he.2 oi d ho h1
/-- an operation that yields one value, whatever the world -/
theorem soft_det (hd : o.dst = some d) (hw : Region.wanted o (yielded ops a.tmps) = true) (hA : ∀ v, A d v → v = V) (hAV : A d V) (hF : ∀ w, F d V w) (hrun : ∀ w, Ext w0 w → known ops F o a w → (execOp a.eval o).run P w = .ok (.value V) w)
    (h : wpSoft P ops w0 A F Q rest (a.put (some d) V)) : wpSoft P ops w0 A F Q (o :: rest) a := by
  refine ⟨?_, fun v hv => ?_⟩
  · unfold SO
    rw [if_pos hw]
    intro w hx hk
    rw [hrun w hx hk, hd]
    exact ⟨Ext.refl w, hAV, hF w⟩
  · unfold Adm at hv
    rw [if_pos hw, hd] at hv
    rw [hA v hv, hd]
    exact h
/-- an operation that makes memory -/
theorem soft_new (hd : o.dst = some d) (hw : Region.wanted o (yielded ops a.tmps) = true) (hA : ∀ v, A d v) (hrun : ∀ w, Ext w0 w → ∃ v w', (execOp a.eval o).run P w = .ok (.value v) w' ∧ Ext w w' ∧ F d v w')
    (h : ∀ v, wpSoft P ops w0 A F Q rest (a.put (some d) v)) : wpSoft P ops w0 A F Q (o :: rest) a := by
  refine ⟨?_, fun v _ => by rw [hd]; exact h v⟩
  unfold SO
  rw [if_pos hw]
  intro w hx _
  obtain ⟨v, w', e, h1, h2⟩ := hrun w hx
  rw [e, hd]
  exact ⟨h1, hA v, h2⟩
/-- a call that returns one value -/
theorem soft_call {f : FuncId} {vals : Array Value} (hd : o.dst = some d) (hw : Region.wanted o (yielded ops a.tmps) = true) (hA : ∀ v, A d v → v = V) (hAV : A d V) (hF : ∀ w, F d V w) (he : ∀ w, (execOp a.eval o).run P w = .ok (.enter f vals) w)
    (hc : ∀ w, Ext w0 w → known ops F o a w → Calls P f vals w fun e w' => e = .returned V ∧ ∃ n : ExtOf w, w' = n.val)
    (h : wpSoft P ops w0 A F Q rest (a.put (some d) V)) : wpSoft P ops w0 A F Q (o :: rest) a := by
  refine ⟨?_, fun v hv => ?_⟩
  · unfold SO
    rw [if_pos hw]
    intro w hx hk
    rw [he w, hd]
    exact (hc w hx hk).mono fun e w' ⟨h1, n, h2⟩ => ⟨V, h1, by rw [h2]; exact n.ext, hAV, hF w'⟩
  · unfold Adm at hv
    rw [if_pos hw, hd] at hv
    rw [hA v hv, hd]
    exact h
/-- a call whose value is known by a condition -/
theorem soft_callS {f : FuncId} {vals : Array Value} (hd : o.dst = some d) (hw : Region.wanted o (yielded ops a.tmps) = true) (hA : ∀ v, A d v) (he : ∀ w, (execOp a.eval o).run P w = .ok (.enter f vals) w)
    (hc : ∀ w, Ext w0 w → known ops F o a w → Calls P f vals w fun e w' => ∃ v, e = .returned v ∧ F d v w' ∧ ∃ n : ExtOf w, w' = n.val)
    (h : ∀ v, wpSoft P ops w0 A F Q rest (a.put (some d) v)) : wpSoft P ops w0 A F Q (o :: rest) a := by
  refine ⟨?_, fun v _ => by rw [hd]; exact h v⟩
  unfold SO
  rw [if_pos hw]
  intro w hx hk
  rw [he w, hd]
  exact (hc w hx hk).mono fun e w' ⟨v, h1, h2, n, h3⟩ => ⟨v, h1, by rw [h3]; exact n.ext, hA v, h2⟩
end
end
end Go.Proofs.YtaflcbdbacogeaaDoor
