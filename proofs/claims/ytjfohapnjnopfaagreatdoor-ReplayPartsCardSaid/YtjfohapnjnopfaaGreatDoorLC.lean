/-
  Chapter 61: several texts in one (InW, InS, Soft2, SMap, GMap, SRan, Marks, SoftG).
-/
import Derived.Test.YtjfohapnjnopfaaGreatDoorLB
import Derived.OwnWalkIn
import Derived.TacticsInMore
import Derived.OrdersIn
import Derived.RangeFuncCalls
import Derived.Maps.OwnSet
import Derived.Maps.OwnRows
import Derived.Maps.GroupsBeside
import Derived.Maps.Range
import Derived.Maps.RangeWalk
import Derived.RangeFuncLeaves
import Derived.RangeFuncNested
/-
  Program-independent ground: whole structs loaded and stored, and append, in a walk within a fence.
-/
section
set_option linter.unusedVariables false
set_option linter.unusedSimpArgs false
namespace Go.Proofs.YtjfohapnjnopfaaGreatDoor
open Go.RowKit Go.WideShapes Go.ChangeShapes

section
variable {F : Fence} {nF : Nat} {P : Program} {ops : Array Oper} {rest : List Oper} {a : Act} {Q : Exit → Act → World → Prop} {T n b : Nat} {x y : Operand} {dst : Option Tmp} {ty : TypeId} {pos : String} {aft : Array Edge} {w : World} {cs : Array Value}
theorem wlIn_load (L : Whole P T n) (hx : a.eval x = .pointer (some ⟨b, 0, none⟩)) (hc : Block w b cs) (hsz : cs.size = n) (hk : wpListIn F nF P ops Q rest (a.put dst (.agg cs)) w) :
    wpListIn F nF P ops Q (⟨dst, .load T x, ty, pos, aft, none⟩ :: rest) a w := by
  refine wpListIn_plain rfl fun K hK => ?_
  unfold Oper.wpIn
  refine ⟨by simp [Oper.about], ?_⟩
  rw [Oper.semAt_plain F _ _ (by intro c hc'; cases hc')]
  rw [run_load_op (o := ⟨dst, .load T x, ty, pos, aft, none⟩) L rfl hx hc hsz]
  exact hK _ _ hk
theorem wlIn_store {old : Array Value} (L : Whole P T n) (hx : a.eval x = .pointer (some ⟨b, 0, none⟩)) (hy : a.eval y = .agg cs) (hc : Block w b old) (hold : old.size = n) (hsz : cs.size = n) (h1 : cs.all (·.oneCell') = true)
    (hk : wpListIn F nF P ops Q rest (a.put dst undef) (w.setRow b cs)) : wpListIn F nF P ops Q (⟨dst, .store T x y, ty, pos, aft, none⟩ :: rest) a w := by
  refine wpListIn_plain rfl fun K hK => ?_
  unfold Oper.wpIn
  refine ⟨by simp [Oper.about], ?_⟩
  rw [Oper.semAt_plain F _ _ (by intro c hc'; cases hc')]
  unfold execOp
  simp only [hx, hy, Instr.storeAt, Instr.sureAddr, Sem.run_bind, Sem.run_pure, Result.andThen_ok, L.store w b old cs hc hold hsz h1]
  exact hK _ _ hk
theorem wlIn_loadM {off : Nat} {l : List Value} (L : Mid P T n) (hc : w.rangeAt b off l) (hsz : l.length = n) (hx : a.eval x = .pointer (some ⟨b, off, none⟩)) (hk : wpListIn F nF P ops Q rest (a.put dst (.agg l.toArray)) w) :
    wpListIn F nF P ops Q (⟨dst, .load T x, ty, pos, aft, none⟩ :: rest) a w := by
  refine wpListIn_plain rfl fun K hK => ?_
  unfold Oper.wpIn
  refine ⟨by simp [Oper.about], ?_⟩
  rw [Oper.semAt_plain F _ _ (by intro c hc'; cases hc')]
  unfold execOp
  simp only [hx, Instr.loadAt, Instr.sureAddr, Sem.run_bind, Sem.run_pure, Result.andThen_ok, L.load w b off l hsz hc]
  exact hK _ _ hk
end
section
variable {α : Type} {enc : α → List Value} {k : Nat}
theorem wlIn_append1g {F : Fence} {nF : Nat} {P : Program} {ops : Array Oper} {rest : List Oper} {a : Act} {Q : Exit → Act → World → Prop} {w : World} {dst : Option Tmp} {ty : TypeId} {pos : String} {aft : Array Edge} {s x : Operand} {t E : TypeId} {i : TypeInfo} {z : Value} {bytes base : Nat} {v : Value} {l : List α} {y : α} {b c : Nat} {cs : Array Value}
    (ht : P.underlying t = some (.slice E)) (hi : P.info? E = some i) (hz : i.zero = some z) (hsize : i.size = k) (hby : i.bytes = bytes) (hzs : z.cells.size = k) (hk0 : 0 < k) (hk : ∀ x, (enc x).length = k) (h1 : ∀ x, ∀ u ∈ enc x, u.oneCell' = true)
    (hs : a.eval s = v) (hx : a.eval x = .slice (some ⟨b, 0, none⟩) 1 c) (hown : Own enc k E base w v l) (hb : Block w b cs) (hcs : cs.toList = enc y) (h63 : l.length + 1 ≤ maxLen) (hbytes : (l.length + 1) * bytes ≤ 140737488355328) (hbase : base ≤ w.heap.size)
    (h : ∀ (v' : Value) (n : ExtB base w), Own enc k E base n.val v' (l ++ [y]) → Kept w v n.val v' → w.grownBy n.val v.ownBlock → wpListIn F nF P ops Q rest (a.put dst v') n.val) :
    wpListIn F nF P ops Q (⟨dst, .call { callee := .builtin .append, args := #[s, x], argTypes := #[t, t] }, ty, pos, aft, none⟩ :: rest) a w := by
  subst hsize
  subst hby
  have hnews : ∀ j u, (enc y)[j]? = some u → w.cell? ((⟨b, 0, none⟩ : Addr).add j) = some u := by
    intro j u hj
    have hadd : (⟨b, 0, none⟩ : Addr).add j = ⟨b, j, none⟩ := by unfold Addr.add; split <;> simp_all
    rw [hadd, Block.cell (h := hb), ← hj, ← hcs]
    simp
  have hnl : (enc y).length = 1 * i.size := by rw [hk, Nat.one_mul]
  obtain ⟨v', w', hr, ho, hg, _⟩ := run_append_own (P := P) w base t ty E i z i.size i.bytes ht hi hz rfl rfl hzs hk0 v l.length (l.flatMap enc) hown ⟨b, 0, none⟩ 1 c (enc y) hnl hnews (h1 y) h63 hbytes hbase
  have hblk := append_block ht hi hz hown hnl hnews (h1 y) h63 hbytes hr
  refine wpListIn_plain rfl fun K hK => ?_
  unfold Oper.wpIn
  refine ⟨by simp [Oper.about, resolve, Target.leads, Sem.run_pure], ?_⟩
  rw [Oper.semAt_plain F _ _ (by intro c hc'; cases hc')]
  unfold execOp
  simp only [resolve, invoke, builtin, Sem.run_bind, Sem.run_pure, Result.andThen_ok, List.map_toArray, List.map_cons, List.map_nil, hs, hx, hr]
  have hbl : Below base w w' := ⟨hg.os, hg.tape, hg.output, hg.size, fun q hq => hg.block q (by omega) (fun e => by have := (World.ownsRow.lt hown q e.symm).1; omega)⟩
  refine hK _ _ (h v' ⟨w', hbl⟩ ?_ ⟨fun q hq hne => hg.block q hq (Ne.symm hne), hblk, hg.size⟩ hg)
  show w'.ownsRow base E i.size v' (l ++ [y]).length ((l ++ [y]).flatMap enc)
  rw [List.flatMap_append, List.length_append]
  simpa using ho
end
end Go.Proofs.YtjfohapnjnopfaaGreatDoor
end
/-
  Program-independent ground: a region that draws its order, in a round of a loop over a function, from its walk outside.
-/
section
set_option linter.unusedVariables false
set_option linter.unusedSimpArgs false
namespace Go.Proofs.YtjfohapnjnopfaaGreatDoor
open Go.RowKit Go.WideShapes Go.ChangeShapes

section
variable {n : Nat} {P : Program} {ops : Array Oper} {a : Act} {Q : Exit → Act → World → Prop} {w : World} {l : Nat}
theorem rowsIn_round {row : String} {args : Array Value} {R : Value → World → Prop} (h : Rows P row args w R) : RowsIn (Fence.wide.inRound l) n P row args w R := by
  intro c cs _
  obtain ⟨v, w', r, s⟩ := h c cs
  exact ⟨v, w', r, stepsIn_wide.2 s⟩
theorem opIn_round {o : Oper} {K : Act → World → Prop} (hd : ∀ c, o.op ≠ .defer c) (h : o.wp P a w K Q) : o.wpIn (Fence.wide.inRound l) n P a w K Q := by
  unfold Oper.wpIn
  refine ⟨fun _ _ => trivial, ?_⟩
  rw [Oper.semAt_plain _ _ _ hd]
  unfold Oper.wp at h
  generalize (execOp a.eval o).run P w = r at *
  cases r with
  | ok n w' =>
    cases n <;> simp only [Oper.upon, Oper.uponIn] at h ⊢ <;>
      first
        | exact h
        | exact ⟨(fun e => by cases e), CallsIn.inRound l (callsIn_wide.2 h)⟩
        | exact ⟨(fun e => by cases e), rowsIn_round h⟩
  | halt x w' => cases x <;> simp only [Oper.upon, Oper.uponIn] at h ⊢ <;> exact h
def noDefer (o : Oper) : Bool := match o.op with
  | .defer _ => false
  | _ => true
theorem anyIn_round {md : Region.Mode} (hd : ∀ (i : Nat) (o : Oper), ops[i]? = some o → noDefer o = true) (hno : ¬ LetsOut Q) : ∀ (fuel : Nat) (listed : Array Bool) (a : Act) (w : World), wpAny P md ops Q fuel listed a w → wpAnyIn (Fence.wide.inRound l) n P md ops Q fuel listed a w
  | 0, _, _, _, h => h
  | fuel + 1, listed, a, w, h => by
    refine ⟨h.1, fun i hi => ?_⟩
    have h2 := h.2 i hi
    unfold wpOp at h2
    unfold wpOpIn
    cases ho : ops[i]? with
    | none => rw [ho] at h2; exact anyIn_round hd hno fuel _ _ _ h2
    | some o =>
      rw [ho] at h2
      simp only at h2 ⊢
      have hdo : ∀ c, o.op ≠ .defer c := fun c e => by have := hd i o ho; unfold noDefer at this; rw [e] at this; cases this
      split
      · rename_i hw
        rw [if_pos hw] at h2
        exact Oper.wpIn_mono (fun a w => anyIn_round hd hno fuel _ a w) (opIn_round hdo (h2.resolve_right fun e => hno e.2))
      · rename_i hw
        rw [if_neg hw] at h2
        exact ⟨fun _ _ => trivial, anyIn_round hd hno fuel _ _ _ h2⟩
theorem wpIn_region_round {id : Nat} (hm : P.follows .mixedOrders = true) (hd : ops.toList.all noDefer = true) (hno : ¬ LetsOut Q)
    (h : wpAny P .any ops Q ops.size (Array.replicate ops.size false) a { w with drawn := w.drawn + 1 }) : (Code.region id ops true).wpIn (Fence.wide.inRound l) n P Q a w :=
  wpIn_region_any hm (anyIn_round (fun i o hi => List.all_eq_true.1 hd o (by rw [← Array.getElem?_toList] at hi; exact List.mem_of_getElem? hi)) hno _ _ _ _ h)
theorem wpIn_region_soft {id : Nat} {l0 : List Oper} (A : Nat → Value → Prop) (F : Nat → Value → World → Prop) (hm : P.follows .mixedOrders = true) (hB : Region.lexB .any l0.toArray = true) (h1 : oneWriterB l0.toArray = true)
    (hsz : l0.all (fun o => match o.dst with | some d => Nat.blt d a.tmps.size | none => true) = true) (hdf : l0.all noDefer = true) (hno : ¬ LetsOut Q) (hA : ∀ d, ∃ v, A d v) (hst : ∀ d v w w', F d v w → Ext w w' → F d v w')
    (h : wpSoft P l0.toArray w.drew A F (fun a' => ∀ w', Ext w.drew w' → Q .normal a' w') l0 a) : (Code.region id l0.toArray true).wpIn (Fence.wide.inRound l) n P Q a w := by
  have h1w := oneWriter_of h1
  simp only [Region.lexB, Bool.and_eq_true] at hB
  refine wpIn_region_round hm (by simpa using hdf) hno (wpAny_of_soft (w0 := w.drew) (A := A) (F := F) (Q := fun a' => ∀ w', Ext w.drew w' → Q .normal a' w') hst h1w (fun _ w' hw' h => h w' hw') _ _ _ _ ?_ ?_)
  · refine ⟨Ext.refl _, fun i oi d hi hd => ?_, fun i oi d hl => ?_⟩
    · have hmem : oi ∈ l0 := List.mem_of_getElem? (by simpa using hi)
      have := List.all_eq_true.1 hsz oi hmem
      rw [hd] at this
      simpa [Nat.blt_eq] using this
    · rcases Nat.lt_or_ge i l0.length with h' | h' <;> simp [h'] at hl
  · have := wpAnyS_lex (P := P) (w0 := w.drew) (A := A) (F := F) (Q := fun a' => ∀ w', Ext w.drew w' → Q .normal a' w') hA h1w hB.1 l0 0 (Array.replicate l0.toArray.size false) a (by simp) (by simpa using hB.2) h
    simpa using this
end
section
variable {P : Program}
/-- THE REGION: a soft head, and a tail -/
theorem wpIn_region_softT {id : Nat} {Q : Exit → Act → World → Prop} {a : Act} {w : World} {l : List Oper} {lp n : Nat} (A : Nat → Value → Prop) (F : Nat → Value → World → Prop) (mh mt : List Bool) (t0 : Nat) (ts : List Nat) (hm : P.follows .mixedOrders = true)
    (hmt : idx 0 mt = t0 :: ts) (hlen : decide (mh.length ≤ l.length) && decide (mt.length ≤ l.length) = true) (hB : softTB l.toArray a.tmps.size (idx 0 mh) t0 ts = true) (hf : l.length = (idx 0 mh).length + (t0 :: ts).length)
    (hdf : l.all noDefer = true) (hno : ¬ LetsOut Q) (hA : ∀ d, ∃ v, A d v) (hst : ∀ d v w w', F d v w → Ext w w' → F d v w')
    (h : wpSoft P l.toArray w A F (fun a' => ∀ w', Ext w w' → (∀ (i : Nat) (oi : Oper) (d : Tmp), i ∈ idx 0 mh → l[i]? = some oi → oi.dst = some d → F d (a'.tmps.getD d undef) w') → wpList P l.toArray Q (part l mt) a' w') (part l mh) a) : (Code.region id l.toArray true).wpIn (Fence.wide.inRound lp) n P Q a w := by
  simp only [softTB, Bool.and_eq_true] at hB
  obtain ⟨⟨⟨hb1, hb2⟩, hb3⟩, hb6⟩ := hB
  simp only [Bool.and_eq_true, decide_eq_true_eq] at hlen
  have inv := mixB_inv hb1
  simp only [mixB, Bool.and_eq_true, decide_eq_true_eq, List.all_eq_true] at hb1
  obtain ⟨⟨⟨⟨⟨⟨⟨h1, h2⟩, h3⟩, h4⟩, h5⟩, h6⟩, h7⟩, h8⟩ := hb1
  have hs1 : ∀ i ∈ idx 0 mh, i < l.toArray.size := fun i hi => by
    have := List.all_eq_true.1 hb2 i hi
    simp only [Bool.and_eq_true, decide_eq_true_eq] at this
    exact this.1
  have hs2 : ∀ i ∈ idx 0 mh, i ∉ t0 :: ts := fun i hi => by
    have := List.all_eq_true.1 hb2 i hi
    simp only [Bool.and_eq_true, Bool.not_eq_true'] at this
    intro hmm
    have h9 := this.2
    rw [List.contains_iff_mem.2 hmm] at h9
    cases h9
  have h1w := oneWriter_of hb3
  have e1 := opsAt_part l mh l 0 hlen.1 (fun j => by simp)
  have e2 := opsAt_part l mt l 0 hlen.2 (fun j => by simp)
  rw [hmt] at e2
  have H := wpAnySL_lex (P := P) hA h1w h1 h6 h7 hs1 hs2 _ _ (Array.replicate l.toArray.size false) a e1 (fun i hi => hi) (fun i hi => .inl hi) inv h8 h
  refine wpIn_region_round hm (by simpa using hdf) hno ?_
  have hmid : mid l.toArray w F (Array.replicate l.toArray.size false) a w.drew := by
    refine ⟨Ext.drew (Ext.refl _), fun i oi d hi hd => ?_, fun i oi d hl => by rw [getD_replicate_false] at hl; cases hl⟩
    have hmem : oi ∈ l := List.mem_of_getElem? (by simpa using hi)
    have := List.all_eq_true.1 hb6 oi (by simpa using hmem)
    rw [hd] at this
    simpa [Nat.blt_eq] using this
  have := wpAny_of_softL (P := P) (Q' := Q) (g := (t0 :: ts).length) hst h1w (fun listed' a' W hmd hL => by
    obtain ⟨hseq, hq, hall⟩ := hL
    exact wpAny_of_seqL (t0 :: ts) (part l mt) listed' _ W e2 hseq (hq W hmd.1 (fun i oi d hi hoi hd => hmd.2.2 i oi d (hall i hi) (by simpa using hoi) hd))) (idx 0 mh).length _ _ _ hmid H
  have hfu : l.toArray.size = (idx 0 mh).length + (t0 :: ts).length := by simp at hf ⊢; omega
  rw [hfu]
  rw [← hfu] at this ⊢
  exact this
end
section
variable {α : Type} {enc : α → List Value} {k : Nat}
/-- append of several, within a fence -/
theorem wlIn_appendL {F : Fence} {nF : Nat} {P : Program} {ops : Array Oper} {rest : List Oper} {a : Act} {Q : Exit → Act → World → Prop} {w : World} {dst : Option Tmp} {ty : TypeId} {pos : String} {aft : Array Edge} {s x : Operand} {t E : TypeId} {i : TypeInfo} {z : Value} {bytes base : Nat} {v : Value} {l m : List α} {ad : Addr} {c : Nat}
    (ht : P.underlying t = some (.slice E)) (hi : P.info? E = some i) (hz : i.zero = some z) (hsize : i.size = k) (hby : i.bytes = bytes) (hzs : z.cells.size = k) (hk0 : 0 < k) (hk : ∀ x, (enc x).length = k) (h1 : ∀ x, ∀ u ∈ enc x, u.oneCell' = true)
    (hs : a.eval s = v) (hx : a.eval x = .slice (some ad) m.length c) (hown : Own enc k E base w v l) (hnews : ∀ j u, (m.flatMap enc)[j]? = some u → w.cell? (ad.add j) = some u) (h63 : l.length + m.length ≤ maxLen) (hbytes : (l.length + m.length) * bytes ≤ 140737488355328) (hbase : base ≤ w.heap.size)
    (h : ∀ (v' : Value) (n : ExtB base w), Own enc k E base n.val v' (l ++ m) → Kept w v n.val v' → wpListIn F nF P ops Q rest (a.put dst v') n.val) :
    wpListIn F nF P ops Q (⟨dst, .call { callee := .builtin .append, args := #[s, x], argTypes := #[t, t] }, ty, pos, aft, none⟩ :: rest) a w := by
  subst hsize
  subst hby
  have hnl : (m.flatMap enc).length = m.length * i.size := flatMap_len hk
  have h1' : ∀ u ∈ m.flatMap enc, u.oneCell' = true := fun u hu => by obtain ⟨y, _, hy⟩ := List.mem_flatMap.1 hu; exact h1 y u hy
  obtain ⟨v', w', hr, ho, hg, _⟩ := run_append_own (P := P) w base t ty E i z i.size i.bytes ht hi hz rfl rfl hzs hk0 v l.length (l.flatMap enc) hown ad m.length c (m.flatMap enc) hnl hnews h1' h63 hbytes hbase
  have hblk := append_block ht hi hz hown hnl hnews h1' h63 hbytes hr
  refine wpListIn_plain rfl fun K hK => ?_
  unfold Oper.wpIn
  refine ⟨by simp [Oper.about, resolve, Target.leads, Sem.run_pure], ?_⟩
  rw [Oper.semAt_plain F _ _ (by intro c hc'; cases hc')]
  unfold execOp
  simp only [resolve, invoke, builtin, Sem.run_bind, Sem.run_pure, Result.andThen_ok, List.map_toArray, List.map_cons, List.map_nil, hs, hx, hr]
  have hbl : Below base w w' := ⟨hg.os, hg.tape, hg.output, hg.size, fun q hq => hg.block q (by omega) (fun e => by have := (World.ownsRow.lt hown q e.symm).1; omega)⟩
  refine hK _ _ (h v' ⟨w', hbl⟩ ?_ ⟨fun q hq hne => hg.block q hq (Ne.symm hne), hblk, hg.size⟩)
  show w'.ownsRow base E i.size v' (l ++ m).length ((l ++ m).flatMap enc)
  rw [List.flatMap_append, List.length_append]
  exact ho
end
/-- numbers of the call's own, where no cells turn -/
theorem Own.grown {α : Type} {enc : α → List Value} {k E base : Nat} {w w' : World} {v : Value} {l : List α} {row : Option Nat} (h : Own enc k E base w v l) (hg : w.grownBy w' row) (hr : ∀ r, row = some r → ∃ o : Obj, w.heap[r]? = some o ∧ o.isCells = false) : Own enc k E base w' v l := by
  refine ⟨h.1, ?_⟩
  rcases h.2 with hn | ⟨g, cap, cur, rfl, hb, hgg, rest⟩
  · exact .inl hn
  · refine .inr ⟨g, cap, cur, rfl, hb, ?_, rest⟩
    rw [hg.block g (Array.getElem?_eq_some_iff.1 hgg).1 (fun e => by obtain ⟨o, ho, hc⟩ := hr g e.symm; rw [hgg] at ho; cases ho; cases hc)]
    exact hgg
end Go.Proofs.YtjfohapnjnopfaaGreatDoor
end
/-
  A region that draws its order: two moves that come whenever they like, a head of operations that read, call or make memory, and a tail that comes up one after the other.
-/
section
set_option linter.unusedVariables false
set_option linter.unusedSimpArgs false
namespace Go.Proofs.YtjfohapnjnopfaaGreatDoor
open Go.RowKit

section
variable {P : Program}
def softLB (ops : Array Oper) (n : Nat) (listed : Array Bool) (hs : List Nat) (t0 : Nat) (ts : List Nat) : Bool :=
  mixB ops listed hs t0 ts && (hs.all fun i => decide (i < ops.size) && !((t0 :: ts).contains i)) && oneWriterB ops && (ops.toList.all fun o => match o.dst with | some d => Nat.blt d n | none => true)
theorem any_softT {Q : Exit → Act → World → Prop} {a : Act} {w w1 : World} {l : List Oper} (listed : Array Bool) (A : Nat → Value → Prop) (F : Nat → Value → World → Prop) (mh mt : List Bool) (t0 : Nat) (ts : List Nat)
    (hmt : idx 0 mt = t0 :: ts) (hlen : decide (mh.length ≤ l.length) && decide (mt.length ≤ l.length) = true) (hB : softLB l.toArray a.tmps.size listed (idx 0 mh) t0 ts = true)
    (hA : ∀ d, ∃ v, A d v) (hst : ∀ d v w w', F d v w → Ext w w' → F d v w') (hx : Ext w w1)
    (hF0 : ∀ (i : Nat) (oi : Oper) (d : Tmp), listed.getD i false = true → l[i]? = some oi → oi.dst = some d → F d (a.tmps.getD d undef) w1)
    (h : wpSoft P l.toArray w A F (fun a' => ∀ w', Ext w w' → (∀ (i : Nat) (oi : Oper) (d : Tmp), i ∈ idx 0 mh → l[i]? = some oi → oi.dst = some d → F d (a'.tmps.getD d undef) w') → wpList P l.toArray Q (part l mt) a' w') (part l mh) a) : wpAny P .any l.toArray Q ((idx 0 mh).length + (t0 :: ts).length) listed a w1 := by
  simp only [softLB, Bool.and_eq_true] at hB
  obtain ⟨⟨⟨hb1, hb2⟩, hb3⟩, hb6⟩ := hB
  simp only [Bool.and_eq_true, decide_eq_true_eq] at hlen
  have inv := mixB_inv hb1
  simp only [mixB, Bool.and_eq_true, decide_eq_true_eq, List.all_eq_true] at hb1
  obtain ⟨⟨⟨⟨⟨⟨⟨h1, h2⟩, h3⟩, h4⟩, h5⟩, h6⟩, h7⟩, h8⟩ := hb1
  have hs1 : ∀ i ∈ idx 0 mh, i < l.toArray.size := fun i hi => by
    have := List.all_eq_true.1 hb2 i hi
    simp only [Bool.and_eq_true, decide_eq_true_eq] at this
    exact this.1
  have hs2 : ∀ i ∈ idx 0 mh, i ∉ t0 :: ts := fun i hi => by
    have := List.all_eq_true.1 hb2 i hi
    simp only [Bool.and_eq_true, Bool.not_eq_true'] at this
    intro hmm
    have h9 := this.2
    rw [List.contains_iff_mem.2 hmm] at h9
    cases h9
  have h1w := oneWriter_of hb3
  have e1 := opsAt_part l mh l 0 hlen.1 (fun j => by simp)
  have e2 := opsAt_part l mt l 0 hlen.2 (fun j => by simp)
  rw [hmt] at e2
  have H := wpAnySL_lex (P := P) hA h1w h1 h6 h7 hs1 hs2 _ _ listed a e1 (fun i hi => hi) (fun i hi => .inl hi) inv h8 h
  have hmid : mid l.toArray w F listed a w1 := by
    refine ⟨hx, fun i oi d hi hd => ?_, fun i oi d hl hi hd => hF0 i oi d hl (by simpa using hi) hd⟩
    have hmem : oi ∈ l := List.mem_of_getElem? (by simpa using hi)
    have := List.all_eq_true.1 hb6 oi (by simpa using hmem)
    rw [hd] at this
    simpa [Nat.blt_eq] using this
  exact wpAny_of_softL (P := P) (Q' := Q) (g := (t0 :: ts).length) hst h1w (fun listed' a' W hmd hL => by
    obtain ⟨hseq, hq, hall⟩ := hL
    exact wpAny_of_seqL (t0 :: ts) (part l mt) listed' _ W e2 hseq (hq W hmd.1 (fun i oi d hi hoi hd => hmd.2.2 i oi d (hall i hi) (by simpa using hoi) hd))) (idx 0 mh).length _ _ _ hmid H
def take2B (ops : Array Oper) (listed : Array Bool) (i : Nat) : Bool := Region.noSelect ops && Region.free .any ops listed i && (Region.ready .any ops listed).contains i
/-- THE REGION: two moves, a soft head, and a tail -/
theorem wp_region_soft2T {id : Nat} {Q : Exit → Act → World → Prop} {a : Act} {w : World} {l : List Oper} (i0 i1 : Nat) (o0 o1 : Oper) (v0 v1 : Value) (A : Nat → Value → Prop) (F : Nat → Value → World → Prop) (mh mt : List Bool) (t0 : Nat) (ts : List Nat) (hm : P.follows .mixedOrders = true)
    (h0 : l[i0]? = some o0) (h1 : l[i1]? = some o1) (ht : (take2B l.toArray (Array.replicate l.length false) i0 && take2B l.toArray ((Array.replicate l.length false).setIfInBounds i0 true) i1) = true)
    (hQ0 : ∀ c a w, Q (.panic c) (a.put o0.dst v0) w → Q (.panic c) a w) (hQ1 : ∀ c a w, Q (.panic c) (a.put o1.dst v1) w → Q (.panic c) a w) (hy0 : Yields P l.toArray o0 v0 a) (hy1 : Yields P l.toArray o1 v1 (a.put o0.dst v0))
    (hmt : idx 0 mt = t0 :: ts) (hlen : decide (mh.length ≤ l.length) && decide (mt.length ≤ l.length) = true) (hB : softLB l.toArray a.tmps.size (((Array.replicate l.length false).setIfInBounds i0 true).setIfInBounds i1 true) (idx 0 mh) t0 ts = true) (hf : l.length = (idx 0 mh).length + (t0 :: ts).length + 1 + 1)
    (hA : ∀ d, ∃ v, A d v) (hst : ∀ d v w w', F d v w → Ext w w' → F d v w') (hF0 : ∀ d, o0.dst = some d ∨ o1.dst = some d → ∀ v W, F d v W)
    (h : wpSoft P l.toArray w A F (fun a' => ∀ w', Ext w w' → (∀ (i : Nat) (oi : Oper) (d : Tmp), i ∈ idx 0 mh → l[i]? = some oi → oi.dst = some d → F d (a'.tmps.getD d undef) w') → wpList P l.toArray Q (part l mt) a' w') (part l mh) ((a.put o0.dst v0).put o1.dst v1)) : (Code.region id l.toArray true).wp P Q a w := by
  simp only [take2B, Bool.and_eq_true] at ht
  obtain ⟨⟨⟨a1, a2⟩, a3⟩, ⟨⟨b1, b2⟩, b3⟩⟩ := ht
  refine wp_region_any hm ?_
  have hfu : l.toArray.size = (idx 0 mh).length + (t0 :: ts).length + 1 + 1 := by simpa using hf
  have hrs : Array.replicate l.toArray.size false = Array.replicate l.length false := by simp
  rw [hrs, hfu]
  refine wpAny_take (by simpa using h0) a1 a2 a3 hQ0 hy0 ?_
  refine wpAny_take (by simpa using h1) b1 b2 b3 hQ1 hy1 ?_
  refine any_softT _ A F mh mt t0 ts hmt hlen (by simpa only [size_put] using hB) hA hst (Ext.drew (Ext.refl _)) (fun i oi d hl hi hd => ?_) h
  by_cases e1 : i1 = i
  · subst e1
    rw [h1] at hi
    cases hi
    exact hF0 d (.inr hd) _ _
  · rw [getD_set_ne false e1] at hl
    by_cases e0 : i0 = i
    · subst e0
      rw [h0] at hi
      cases hi
      exact hF0 d (.inl hd) _ _
    · rw [getD_set_ne false e0, getD_replicate_false] at hl
      cases hl
end
end Go.Proofs.YtjfohapnjnopfaaGreatDoor
end
/-
  Program-independent ground: a map of the call's own whose elements are Booleans: a set.
-/
section
set_option linter.unusedVariables false
set_option linter.unusedSimpArgs false
namespace Go.Proofs.YtjfohapnjnopfaaGreatDoor
open Go.RowKit Go.Maps

def boolElem : Value → Option (DataW Unit × List MemPlace)
  | .bool x => some (.lit (.bool x), [])
  | _ => none
theorem boolElem_inv {v : Value} {x : Bool} {ps : List MemPlace} (h : boolElem v = some (.lit (.bool x), ps)) : v = .bool x := by
  unfold boolElem at h
  split at h
  · simp only [Option.some.injEq, Prod.mk.injEq, DataW.lit.injEq, Lit.bool.injEq] at h
    rw [h.1]
  · cases h
section
variable {P : Program} {k : TypeId} {κ : Type} {kv : κ → Value} {W W' : World} {b n : Nat} {S : κ → Bool}
/-- block b is a map of at most n entries that leads the members of a set to true -/
def SMap (P : Program) (k : TypeId) (kv : κ → Value) (W : World) (b n : Nat) (S : κ → Bool) : Prop :=
  ∃ D, W.ownsMap P k boolElem b n D ∧ ∀ x l, keyOf P k (kv x) = some l → D.atKey l (.lit (.bool false)) = .lit (.bool (S x)) ∧ Maps.has D l = S x
theorem SMap.made (W : World) : SMap P k kv (W.alloc (.map #[] 0)) W.heap.size 0 (fun _ => false) :=
  ⟨.map [], World.ownsMap_made W P k boolElem, fun x l _ => ⟨rfl, rfl⟩⟩
theorem SMap.lt (h : SMap P k kv W b n S) : b < W.heap.size := by obtain ⟨D, h1, _⟩ := h; exact h1.lt
theorem SMap.kept {row : Option Nat} (h : SMap P k kv W b n S) (hg : W.grownBy W' row) (hne : some b ≠ row) : SMap P k kv W' b n S := by
  obtain ⟨D, h1, r⟩ := h; exact ⟨D, h1.kept hg hne, r⟩
theorem SMap.ext (h : SMap P k kv W b n S) (hx : Ext W W') : SMap P k kv W' b n S := h.kept (row := none) ⟨hx.os, hx.tape, hx.output, hx.size, fun q hq _ => hx.block q hq⟩ (by simp)
theorem SMap.heap (h : SMap P k kv W b n S) (hh : W'.heap[b]? = W.heap[b]?) : SMap P k kv W' b n S := by
  obtain ⟨D, ⟨es, clock, hbk, rest⟩, r⟩ := h
  exact ⟨D, ⟨es, clock, hh.trans hbk, rest⟩, r⟩
theorem SMap.below {B : Nat} (h : SMap P k kv W b n S) (hx : Below B W W') (hb : b < B) : SMap P k kv W' b n S := h.heap (hx.block b hb)
theorem SMap.setCell (h : SMap P k kv W b n S) {g i : Nat} (hne : b ≠ g) (u : Value) : SMap P k kv (W.setCell ⟨g, i, none⟩ u) b n S := by
  obtain ⟨D, h1, r⟩ := h; exact ⟨D, h1.setCell (a := ⟨g, i, none⟩) hne u, r⟩
theorem SMap.congr {S' : κ → Bool} (h : SMap P k kv W b n S) (he : ∀ x, S x = S' x) : SMap P k kv W b n S' := by
  obtain ⟨D, h1, r⟩ := h; exact ⟨D, h1, fun x l hl => by rw [← he x]; exact r x l hl⟩
theorem SMap.lookup (h : SMap P k kv W b n S) (K : Keyed P k) {t e : TypeId} (ht : P.underlying t = some (.map k e)) (hz : ∀ W : World, (zeroValue e).run P W = .ok (.bool false) W) {x : κ} (hx : ∃ l, keyOf P k (kv x) = some l) :
    (Instr.lookup t (.map (some b)) (kv x) false).run P W = .ok (.bool (S x)) W := by
  obtain ⟨D, h1, r⟩ := h
  obtain ⟨l, hl⟩ := hx
  obtain ⟨v, ps, hrun, hv⟩ := h1.lookup K ht (hz W) (zd := .lit (.bool false)) (zp := []) rfl hl
  rw [(r x l hl).1] at hv
  rw [hrun, boolElem_inv hv]
theorem SMap.store [DecidableEq κ] (h : SMap P k kv W b n S) (K : Keyed P k) (hkv : ∀ x y, kv x = kv y → x = y) {t e : TypeId} (ht : P.underlying t = some (.map k e)) (hn : n < maxLen) {x : κ} (hx : ∃ l, keyOf P k (kv x) = some l) :
    ∃ W', (Instr.mapUpdate t (.map (some b)) (kv x) (.bool true)).run P W = .ok () W' ∧ SMap P k kv W' b (n + 1) (fun y => decide (y = x) || S y) ∧ W.grownBy W' (some b) := by
  obtain ⟨D, h1, r⟩ := h
  obtain ⟨l, hl⟩ := hx
  obtain ⟨W', hrun, hown, hturn⟩ := h1.store K ht hn hl (show boolElem (.bool true) = some (.lit (.bool true), []) from rfl)
  refine ⟨W', hrun, ⟨_, hown, fun y l' hl' => ?_⟩, hturn.grown⟩
  by_cases e : y = x
  · subst e
    obtain rfl : l = l' := by rw [hl] at hl'; exact Option.some.inj hl'
    simp only [decide_true, Bool.true_or]
    rw [Maps.atKey_put_same h1.isMap (K.key hl)]
    exact ⟨rfl, Maps.has_put_same h1.isMap (K.key hl) _⟩
  · simp only [decide_eq_false e, Bool.false_or]
    have hne : l' ≠ l := fun e' => e (hkv _ _ (K.inj hl' (by rw [e']; exact hl)))
    rw [Maps.atKey_put_other hne]
    exact ⟨(r y l' hl').1, (Maps.has_put_other hne _).trans (r y l' hl').2⟩
end
end Go.Proofs.YtjfohapnjnopfaaGreatDoor
end
/-
  Program-independent ground: a map of the call's own that gathers numbers under numbers ('m[k] = append(m[k], i)').
-/
section
set_option linter.unusedVariables false
set_option linter.unusedSimpArgs false
namespace Go.Proofs.YtjfohapnjnopfaaGreatDoor
open Go.RowKit Go.Maps Go.ChangeMaps Go.ChangeShapes

def gdat : List Int → DataW Unit
  | [] => .nil
  | l => .slice (lits .i64 l) []
theorem gdat_ne {l : List Int} (h : l ≠ []) : gdat l = .slice (lits .i64 l) [] := by cases l with
  | nil => exact absurd rfl h
  | cons a l => rfl
theorem lits_inj {l m : List Int} (h : (lits .i64 l : List (DataW Unit)) = lits .i64 m) : l = m :=
  (List.map_inj_right (fun a b hab => by simpa using hab)).1 h
theorem gdat_row {v : Value} {zs l : List Int} {w : World} {base e : Nat} (ho : w.ownsInts base e .i64 v zs) (h : gdat l = rowDatum .i64 v zs) : zs = l := by
  by_cases hl : l = []
  · subst hl
    rcases ho.1.2 with ⟨rfl, h0⟩ | ⟨g, cap, cur, rfl, _⟩
    · exact List.length_eq_zero_iff.1 h0
    · simp [gdat, rowDatum] at h
  · rw [gdat_ne hl] at h
    rcases ho.1.2 with ⟨rfl, h0⟩ | ⟨g, cap, cur, rfl, _⟩
    · simp [rowDatum] at h
    · simp only [rowDatum, DataW.slice.injEq, and_true] at h
      exact (lits_inj h).symm
section
variable {P : Program} {k e : TypeId} {W W' : World} {base b n : Nat} {a : Int → List Int}
/-- block b is a map of at most n entries that leads each number to numbers, in rows from block base on -/
def GMap (P : Program) (k : TypeId) (base : Nat) (e : TypeId) (W : World) (b n : Nat) (a : Int → List Int) : Prop :=
  ∃ D : DataW Unit, W.ownsGroups P k base e .i64 b n D ∧ IsMap D ∧ ∀ x : Int, (Lit.int .i64 x).wf = true → D.atKey (.int .i64 x) .nil = gdat (a x)
theorem GMap.made (W : World) : GMap P k (W.heap.size + 1) e (W.alloc (.map #[] 0)) W.heap.size 0 (fun _ => []) :=
  ⟨.map [], World.ownsGroups_made W P k e .i64, by first | exact ⟨_, rfl⟩ | (unfold IsMap; simp) | trivial, fun x _ => rfl⟩
theorem GMap.kept {g : Nat} (h : GMap P k base e W b n a) (hg : W.grownBy W' (some g)) (hb : g < base) (hne : g ≠ b) : GMap P k base e W' b n a := by
  obtain ⟨D, h1, hD, r⟩ := h
  exact ⟨D, h1.kept hg (fun e => hne (Option.some.inj e).symm) (h1.rowsAbove (fun j e => by cases e; exact hb)), hD, r⟩
theorem GMap.ext (h : GMap P k base e W b n a) (hx : Ext W W') : GMap P k base e W' b n a := by
  obtain ⟨D, h1, hD, r⟩ := h
  exact ⟨D, h1.kept (row := none) ⟨hx.os, hx.tape, hx.output, hx.size, fun q hq _ => hx.block q hq⟩ (by simp) (h1.rowsAbove (fun j e => by cases e)), hD, r⟩
theorem GMap.lt (h : GMap P k base e W b n a) : b < base ∧ b < W.heap.size := by
  obtain ⟨D, ⟨es, clock, hb, _, _, _, hbb, _⟩, _⟩ := h
  exact ⟨hbb, (Array.getElem?_eq_some_iff.1 hb).1⟩
/-- a store into a map, by its run -/
theorem wl_mupd {ops : Array Oper} {rest : List Oper} {ac : Act} {Q : Exit → Act → World → Prop} {dst : Option Tmp} {t ty : TypeId} {pos : String} {aft : Array Edge} {m x y : Operand} {vm vx vy : Value} (hm : ac.eval m = vm) (hx : ac.eval x = vx) (hy : ac.eval y = vy)
    (hr : (Instr.mapUpdate t vm vx vy).run P W = .ok () W') (h : wpList P ops Q rest (ac.put dst undef) W') : wpList P ops Q (⟨dst, .mapUpdate t m x y, ty, pos, aft, none⟩ :: rest) ac W := by
  refine wpList_plain rfl fun K' hK' => ?_
  unfold Oper.wp
  simp [execOp, hm, hx, hy, hr, Result.andThen]
  exact hK' _ _ h
theorem GMap.look (h : GMap P k base e W b n a) {t E : TypeId} (hk : P.underlying k = some (.int .i64)) (ht : P.underlying t = some (.map k E)) (hz : ∀ W : World, (zeroValue E).run P W = .ok (.slice none 0 0) W) (hn : n < maxLen) {x : Int} (hx : (Lit.int .i64 x).wf = true) :
    ∃ v, (Instr.lookup t (.map (some b)) (.int .i64 x) false).run P W = .ok v W ∧ W.ownsInts base e .i64 v (a x) ∧ (a x).length ≤ n ∧
      ∀ (W1 : World) (v' : Value) (i : Int), W.grownBy W1 v.ownBlock → W1.ownsInts base e .i64 v' (a x ++ [i]) → (v'.ownBlock = v.ownBlock ∨ ∃ g, v'.ownBlock = some g ∧ W.heap.size ≤ g) →
        ∃ W2, (Instr.mapUpdate t (.map (some b)) (.int .i64 x) v').run P W1 = .ok () W2 ∧ GMap P k base e W2 b (n + 1) (fun y => if y = x then a x ++ [i] else a y) ∧ W1.grownBy W2 (some b) := by
  obtain ⟨D, h1, hD, r⟩ := h
  have hkey := keyOf_int_mk hk hx
  obtain ⟨v, zs, hrun, hat, hoi, hzl, hback⟩ := h1.at (int_keyed hk) ht (hz W) hn hkey
  rw [r x hx] at hat
  obtain rfl := gdat_row hoi hat
  refine ⟨v, hrun, hoi, hzl, fun W1 v' i hg ho hloc => ?_⟩
  obtain ⟨W2, hr2, ho2, hg2⟩ := hback W1 v' _ hg ho (by rw [List.length_append, List.length_singleton]; omega) hloc
  refine ⟨W2, hr2, ⟨_, ho2, hD.put _ _, fun y hy => ?_⟩, hg2⟩
  by_cases e' : y = x
  · subst e'
    simp only [if_true]
    rw [Maps.atKey_put_same hD ((int_keyed hk).key hkey), gdat_ne (by simp)]
    exact ho.datum_pos (by simp)
  · have hne : (Lit.int .i64 y) ≠ .int .i64 x := fun e2 => e' (by simpa using e2)
    simp only [if_neg e']
    rw [Maps.atKey_put_other hne, r y hy]
/-- what is found under a number, in this and in every later world that has left the map alone -/
theorem GMap.reads (h : GMap P k base e W b n a) {t E : TypeId} (hk : P.underlying k = some (.int .i64)) (ht : P.underlying t = some (.map k E)) (hz : ∀ W : World, (zeroValue E).run P W = .ok (.slice none 0 0) W) (hn : n < maxLen) {x : Int} (hx : (Lit.int .i64 x).wf = true) :
    ∃ v, W.ownsInts base e .i64 v (a x) ∧ (a x).length ≤ n ∧ ∀ W' : World, W'.heap[b]? = W.heap[b]? → (Instr.lookup t (.map (some b)) (.int .i64 x) false).run P W' = .ok v W' := by
  obtain ⟨D, h1, hD, r⟩ := h
  have hkey := keyOf_int_mk hk hx
  obtain ⟨v, zs, hrun, hat, hoi, hzl, _⟩ := h1.at (int_keyed hk) ht (hz W) hn hkey
  rw [r x hx] at hat
  obtain rfl := gdat_row hoi hat
  refine ⟨v, hoi, hzl, fun W' hb' => ?_⟩
  obtain ⟨es, clock, hb, F, _⟩ := h1
  rcases Maps.fit_look false (int_keyed hk) ht (hz W) hb F hkey with ⟨h2, hno, _⟩ | ⟨e0, y, hm, hk0, h2, _⟩
  · rcases Maps.fit_look false (int_keyed hk) ht (hz W') (hb'.trans hb) F hkey with ⟨h3, _, _⟩ | ⟨e1, y1, hm1, hk1, h3, _⟩
    · rw [hrun] at h2
      obtain rfl : v = .slice none 0 0 := by simpa using h2
      simpa using h3
    · exact absurd hk1 (hno e1 hm1)
  · rcases Maps.fit_look false (int_keyed hk) ht (hz W') (hb'.trans hb) F hkey with ⟨h3, hno, _⟩ | ⟨e1, y1, hm1, hk1, h3, _⟩
    · exact absurd hk0 (hno e0 hm)
    · obtain rfl := entry_eq_of_key ((Go.MapKept.stamped_iff es clock).1 F.stamped).2.2 hm hm1 (hk0.trans hk1.symm)
      rw [hrun] at h2
      obtain rfl : v = e0.val := by simpa using h2
      simpa using h3
end
end Go.Proofs.YtjfohapnjnopfaaGreatDoor
end
/-
  Program-independent ground: ranging over a set that is a map of Booleans.
-/
section
set_option linter.unusedVariables false
set_option linter.unusedSimpArgs false
namespace Go.Proofs.YtjfohapnjnopfaaGreatDoor
open Go.RowKit Go.Maps

section
variable {P : Program} {k : TypeId} {κ : Type} {kv : κ → Value} {W W' : World} {b r n cnt : Nat} {S L : κ → Bool}
/-- 'for x := range m' under way over the set S at block b; L: the members that are still to come -/
def SRan (P : Program) (k : TypeId) (kv : κ → Value) (W : World) (b r n : Nat) (S L : κ → Bool) (cnt : Nat) : Prop :=
  ∃ D left, W.ranges P k boolElem b r n D left cnt ∧ (∀ x l, keyOf P k (kv x) = some l → D.atKey l (.lit (.bool false)) = .lit (.bool (S x)) ∧ Maps.has D l = S x) ∧ ∀ x l, keyOf P k (kv x) = some l → left l = L x
theorem SRan.owns (h : SRan P k kv W b r n S L cnt) : SMap P k kv W b n S := by
  obtain ⟨D, left, h1, h2, _⟩ := h
  exact ⟨D, h1.owns, h2⟩
theorem SRan.left_eq (h : SRan P k kv W b r n S L cnt) : W.rangeLeft b r = cnt := by
  obtain ⟨D, left, h1, _⟩ := h; exact h1.left_eq
theorem SRan.cnt_le (h : SRan P k kv W b r n S L cnt) : cnt ≤ n := by
  obtain ⟨D, left, ⟨es, clock, since, seen, c0, _, _, hs, _, _, _, hc, _⟩, _⟩ := h
  have : (leftOf es seen).size ≤ es.size := by unfold leftOf; exact Array.size_filter_le
  omega
theorem SRan.ne (h : SRan P k kv W b r n S L cnt) : r ≠ b := by obtain ⟨D, left, h1, _⟩ := h; exact h1.ne
theorem SRan.lt (h : SRan P k kv W b r n S L cnt) : r < W.heap.size := by obtain ⟨D, left, h1, _⟩ := h; exact h1.lt
theorem SRan.kept {row : Option Nat} (h : SRan P k kv W b r n S L cnt) (hg : W.grownBy W' row) (hb : some b ≠ row) (hr : some r ≠ row) : SRan P k kv W' b r n S L cnt := by
  obtain ⟨D, left, h1, h2⟩ := h; exact ⟨D, left, h1.kept hg hb hr, h2⟩
theorem SRan.ext (h : SRan P k kv W b r n S L cnt) (hx : Ext W W') : SRan P k kv W' b r n S L cnt :=
  h.kept (row := none) ⟨hx.os, hx.tape, hx.output, hx.size, fun q hq _ => hx.block q hq⟩ (by simp) (by simp)
theorem boolElem_lit {v : Value} {y : DataW Unit × List MemPlace} (h : boolElem v = some y) : ∃ c, v = .bool c ∧ y = (.lit (.bool c), []) := by
  unfold boolElem at h
  split at h
  · exact ⟨_, rfl, by simpa using h.symm⟩
  · cases h
theorem wl_srange {ops : Array Oper} {rest : List Oper} {ac : Act} {Q : Exit → Act → World → Prop} {dst : Option Tmp} {t ty : TypeId} {pos : String} {aft : Array Edge} {m : Operand} {e : TypeId} (K : Keyed P k) (ht : P.underlying t = some (.map k e)) (hm : ac.eval m = .map (some b)) (h : SMap P k kv W b n S)
    (hK : ∀ (W' : World) (cnt : Nat), SRan P k kv W' b W.heap.size n S S cnt → Ext W W' → W'.heap.size = W.heap.size + 1 → wpList P ops Q rest (ac.put dst (.pointer (some ⟨W.heap.size, 0, none⟩))) W') :
    wpList P ops Q (⟨dst, .range t m, ty, pos, aft, none⟩ :: rest) ac W := by
  obtain ⟨D, h1, h2⟩ := h
  refine wpList_range_own W rfl m t rfl k e K ht boolElem b n D hm h1 fun W' hr hg hs => ?_
  exact hK W' _ ⟨D, _, hr, h2, fun x l hl => (h2 x l hl).2⟩ ⟨hg.os, hg.tape, hg.output, hg.size, fun q hq => hg.block q hq (by simp)⟩ hs
theorem wl_snext [DecidableEq κ] {ops : Array Oper} {rest : List Oper} {ac : Act} {Q : Exit → Act → World → Prop} {dst : Option Tmp} {ty : TypeId} {pos : String} {aft : Array Edge} {it : Operand} (K : Keyed P k) (hkv : ∀ x y, kv x = kv y → x = y) (invK : ∀ key kl, keyOf P k key = some kl → ∃ x, key = kv x) (hit : ac.eval it = .pointer (some ⟨r, 0, none⟩))
    (h : SRan P k kv W b r n S L cnt)
    (hDone : (∀ x l, keyOf P k (kv x) = some l → L x = false) → wpList P ops Q rest (ac.put dst (.tuple #[.bool false])) W)
    (hMore : ∀ (x : κ) (c : Bool) (W' : World) (cnt' : Nat), (∃ l, keyOf P k (kv x) = some l) → L x = true → S x = true → SRan P k kv W' b r n S (fun y => L y && !decide (y = x)) cnt' → cnt' < cnt → W.grownBy W' (some r) → W'.heap.size = W.heap.size →
      (Instr.entry (.pointer (some ⟨r, 0, none⟩))).run P W' = .ok (.tuple #[kv x, .bool c]) W' → wpList P ops Q rest (ac.put dst (.tuple #[.bool true, kv x, .bool c])) W') :
    wpList P ops Q (⟨dst, .next it false, ty, pos, aft, none⟩ :: rest) ac W := by
  obtain ⟨D, left, h1, h2, h3⟩ := h
  refine wpList_next_ranges (α := κ) (β := Bool) W rfl it rfl k K boolElem kv (fun c => .bool c) invK (fun v y hv => by obtain ⟨c, rfl, _⟩ := boolElem_lit hv; exact ⟨c, rfl⟩) b r n D left cnt hit h1 (fun _ hl => hDone fun x l hxl => by rw [← h3 x l hxl]; exact hl l) ?_
  intro x c kl y W' cnt' hkey hlk hv hat hrg hlt hg hs hen
  obtain ⟨c', ec, rfl⟩ := boolElem_lit hv
  have hS : S x = true := by
    rw [← (h2 x kl hkey).2]
    exact has_true_of_atKey hat
  refine hMore x c W' cnt' ⟨kl, hkey⟩ ((h3 x kl hkey).symm.trans hlk) hS ⟨D, _, hrg, h2, fun y l hl => ?_⟩ hlt hg hs hen
  simp only [h3 y l hl]
  congr 1
  congr 1
  by_cases e : y = x
  · subst e
    obtain rfl : kl = l := by rw [hkey] at hl; exact Option.some.inj hl
    rw [WideAt.sameKey_self (K.key hkey)]; simp
  · rw [decide_eq_false e]
    cases hs' : l.sameKey kl with
    | false => rfl
    | true =>
      have el := WideAt.sameKey_eq hs'
      subst el
      exact absurd (hkv _ _ (K.inj hl hkey)) e
end
end Go.Proofs.YtjfohapnjnopfaaGreatDoor
end
/-
  Program-independent ground: a plain loop in whose rounds a range over a function stands: the marks that such loops leave behind, taken at the function's end.
-/
section
set_option linter.unusedVariables false
set_option linter.unusedSimpArgs false
namespace Go.Proofs.YtjfohapnjnopfaaGreatDoor
open Go.RowKit

/-- marks of loops over functions, none of them taken yet -/
def Marks (base : Nat) (w : World) : List Deferred → Prop
  | [] => True
  | d :: ds => (∃ D, d = { target := .collected D, args := #[] } ∧ base ≤ D ∧ w.heap[D]? = some (.deferred (some [])) ∧ ∀ d' ∈ ds, d' ≠ { target := .collected D, args := #[] }) ∧ Marks base w ds
theorem Marks.keep {base : Nat} {w w' : World} (hh : ∀ D, base ≤ D → w.heap[D]? = some (.deferred (some [])) → w'.heap[D]? = some (.deferred (some []))) : ∀ {ds : List Deferred}, Marks base w ds → Marks base w' ds
  | [], _ => trivial
  | _ :: _, ⟨⟨D, e, hb, hd, hn⟩, h⟩ => ⟨⟨D, e, hb, hh D hb hd, hn⟩, Marks.keep hh h⟩
theorem Marks.lt {base : Nat} {w : World} : ∀ {ds : List Deferred}, Marks base w ds → ∀ d ∈ ds, ∃ D, d = { target := .collected D, args := #[] } ∧ base ≤ D ∧ D < w.heap.size ∧ w.heap[D]? = some (.deferred (some []))
  | [], _, d, h => by cases h
  | _ :: _, ⟨⟨D, e, hb, hd, hn⟩, h⟩, d, hm => by
    rcases List.mem_cons.1 hm with rfl | hm
    · exact ⟨D, e, hb, (Array.getElem?_eq_some_iff.1 hd).1, hd⟩
    · exact Marks.lt h d hm
theorem Marks.push {base D N : Nat} {w w' : World} {ds : List Deferred} (h : Marks base w ds) (hk : Marks base w' ds) (hN : w.heap.size ≤ D) (hb : base ≤ D) (hd : w'.heap[D]? = some (.deferred (some []))) : Marks base w' ({ target := .collected D, args := #[] } :: ds) :=
  ⟨⟨D, rfl, hb, hd, fun d' hd' e => by
    obtain ⟨D', e', _, hlt, _⟩ := h.lt d' hd'
    rw [e] at e'
    simp only [Deferred.mk.injEq, Target.collected.injEq, and_true] at e'
    omega⟩, hk⟩
/-- what the taking of marks leaves as it was -/
structure Took (base : Nat) (w w' : World) : Prop where
  os : w'.os = w.os
  tape : w'.tape = w.tape
  output : w'.output = w.output
  size : w.heap.size ≤ w'.heap.size
  low : ∀ q : Nat, q < base → w'.heap[q]? = w.heap[q]?
  same : ∀ (q : Nat) (o : Obj), w.heap[q]? = some o → (∀ l, o ≠ Obj.deferred l) → w'.heap[q]? = some o
theorem Took.refl (base : Nat) (w : World) : Took base w w := ⟨rfl, rfl, rfl, Nat.le_refl _, fun _ _ => rfl, fun _ _ h _ => h⟩
theorem Took.ext {base : Nat} {w0 w w' : World} (h : Took base w w') (hx : Ext w0 w) (hb : w0.heap.size ≤ base) : Ext w0 w' :=
  ⟨h.os.trans hx.os, h.tape.trans hx.tape, h.output.trans hx.output, Nat.le_trans hx.size h.size, fun q hq => (h.low q (by omega)).trans (hx.block q hq)⟩
theorem Took.block {base b : Nat} {w w' : World} {cs : Array Value} (h : Took base w w') (hB : Block w b cs) : Block w' b cs := by
  obtain ⟨t, e⟩ := hB.get
  exact ⟨⟨t, h.same b _ e (fun l e' => by cases e')⟩⟩
theorem leaves_marks {F : Fence} {n : Nat} {P : Program} {fn : Func} {tmps : Array Value} {R : Ending → World → Prop} {base : Nat} : ∀ (ds : List Deferred) (w : World), Marks base w ds →
    (∀ w', Took base w w' → LeavesIn F n P fn tmps R [] .returning w') → LeavesInM F n P fn tmps R ds .returning w
  | [], w, _, hK => hK w (Took.refl _ _)
  | d :: ds, w, ⟨⟨D, e, hb, hd, hn⟩, h⟩, hK => by
    subst e
    refine ⟨by simp, .inl ⟨_, _, rfl, run_takeDeferred hd, leaves_marks (base := base) ds _ ?_ (fun w' hw => hK w' ?_)⟩⟩
    · -- the other marks lie elsewhere
      have : ∀ {ds : List Deferred}, Marks base w ds → (∀ d' ∈ ds, d' ≠ { target := .collected D, args := #[] }) → Marks base (w.putObj D (.deferred none)) ds := by
        intro ds
        induction ds with
        | nil => intro _ _; trivial
        | cons d ds ih =>
          rintro ⟨⟨D', e', hb', hd', hn'⟩, h'⟩ hne
          refine ⟨⟨D', e', hb', ?_, hn'⟩, ih h' (fun d' hd' => hne d' (List.mem_cons_of_mem _ hd'))⟩
          rw [World.putObj_heap_other]
          · exact hd'
          · intro e2
            subst e2
            exact hne d List.mem_cons_self e'
      exact this h hn
    · have hg := grownBy_putObj' w D (.deferred none)
      refine ⟨hw.os.trans hg.os, hw.tape.trans hg.tape, hw.output.trans hg.output, Nat.le_trans hg.size hw.size, fun q hq => (hw.low q hq).trans (World.putObj_heap_other (by omega)), fun q o hq ho => hw.same q o ?_ ho⟩
      rw [World.putObj_heap_other]
      · exact hq
      · intro e2
        subst e2
        rw [hd] at hq
        exact ho _ (Option.some.inj hq).symm
theorem SMap.obj {P : Program} {k : TypeId} {κ : Type} {kv : κ → Value} {W : World} {b n : Nat} {S : κ → Bool} (h : SMap P k kv W b n S) : ∃ o : Obj, W.heap[b]? = some o ∧ o.isCells = false := by
  obtain ⟨D, ⟨es, clock, hb, _⟩, _⟩ := h
  exact ⟨_, hb, rfl⟩
theorem SRan.obj {P : Program} {k : TypeId} {κ : Type} {kv : κ → Value} {W : World} {b r n cnt : Nat} {S L : κ → Bool} (h : SRan P k kv W b r n S L cnt) : ∃ o : Obj, W.heap[r]? = some o ∧ o.isCells = false := by
  obtain ⟨D, left, ⟨es, clock, since, seen, c0, _, _, _, _, hr, _⟩, _⟩ := h
  exact ⟨_, hr, rfl⟩
end Go.Proofs.YtjfohapnjnopfaaGreatDoor
end
/-
  Regions that draw their order, as in SoftF: a value that is known by a condition on what went before; what is known of a value at the end. A row of the call's own, newly made.
-/
section
set_option linter.unusedVariables false
set_option linter.unusedSimpArgs false
namespace Go.Proofs.YtjfohapnjnopfaaGreatDoor
open Go.RowKit Go.WideShapes Go.ChangeShapes
section
variable {P : Program} {ops : Array Oper} {w0 : World} {A : Nat → Value → Prop} {F : Nat → Value → World → Prop} {Q : Act → Prop} {o : Oper} {rest : List Oper} {a : Act} {d : Nat}
theorem soft_some (hd : o.dst = some d) (hw : Region.wanted o (yielded ops a.tmps) = true) (hA : ∀ v, A d v) (hrun : ∀ w, Ext w0 w → known ops F o a w → ∃ v w', (execOp a.eval o).run P w = .ok (.value v) w' ∧ Ext w w' ∧ F d v w')
    (h : ∀ v, wpSoft P ops w0 A F Q rest (a.put (some d) v)) : wpSoft P ops w0 A F Q (o :: rest) a := by
  refine ⟨?_, fun v _ => by rw [hd]; exact h v⟩
  unfold SO
  rw [if_pos hw]
  intro w hx hk
  obtain ⟨v, w', e, h1, h2⟩ := hrun w hx hk
  rw [e, hd]
  exact ⟨h1, hA v, h2⟩
theorem known_end {l : List Oper} {w : World} (h : ∀ (i : Nat) (oi : Oper) (d : Tmp), l[i]? = some oi → oi.dst = some d → F d (a.tmps.getD d undef) w) {v : Value} (he : l.any (fun o => match o.dst with | some x => Nat.beq x d | none => false) = true) (hv : a.tmps.getD d undef = v) : F d v w := by
  obtain ⟨o, hm, ho⟩ := List.any_eq_true.1 he
  obtain ⟨i, hi⟩ := List.mem_iff_getElem?.1 hm
  cases hd : o.dst with
  | none => rw [hd] at ho; cases ho
  | some x =>
    rw [hd] at ho
    obtain rfl : x = d := by simpa using ho
    rw [← hv]
    exact h i o x hi hd
end
/-- a newly made row is the call's own -/
theorem Own.fresh {α : Type} {enc : α → List Value} {k E base n : Nat} {w : World} {cs : Array Value} {l : List α} (hk : ∀ x, (enc x).length = k) (hc : cs.toList = l.flatMap enc) (hn : n = l.length) (hb : base ≤ w.heap.size) (hm : n ≤ maxLen) :
    Own enc k E base (w.alloc (.cells cs E)) (.slice (some ⟨w.heap.size, 0, none⟩) n n) l := by
  subst hn
  have hfl : (l.flatMap enc).length = l.length * k := by
    clear hc hm
    induction l with
    | nil => simp
    | cons x l ih => rw [List.flatMap_cons, List.length_append, hk, ih, List.length_cons, Nat.succ_mul, Nat.add_comm]
  have hsz : cs.size = l.length * k := by rw [← hfl, ← hc]; simp
  refine ⟨hfl, .inr ⟨w.heap.size, l.length, cs, rfl, hb, (MapKept.heap_alloc w _).1, Nat.le_refl _, hm, hsz, ?_⟩⟩
  rw [hc, List.take_of_length_le (by omega)]
theorem Own.ne_lo {α : Type} {enc : α → List Value} {k E base b : Nat} {w : World} {v : Value} {l : List α} (h : Own enc k E base w v l) (hb : b < base) : v.ownBlock ≠ some b := by
  rcases h.2 with hn | ⟨g, cap, cur, rfl, hg, _⟩
  · rw [hn.1]; intro e; cases e
  · intro e
    have : g = b := by simpa [Value.ownBlock] using e
    omega
end Go.Proofs.YtjfohapnjnopfaaGreatDoor
end
