/-
  Chapter 61: several texts in one (R25, R26).
-/
import Derived.Test.YtjfohapnjnopfaaGreatDoorK23
import Derived.RegionIn
import Derived.Sort.BigQuietIn
import Derived.Test.YtjfohapnjnopfaaGreatDoorK20
import Derived.Test.YtjfohapnjnopfaaGreatDoorK14
import Derived.Test.YtjfohapnjnopfaaGreatDoorLC
/-
  Chapter 61: pairs one by one (slices.Chunk).
-/
section
set_option linter.unusedVariables false
set_option linter.unusedSimpArgs false
namespace Go.Proofs.YtjfohapnjnopfaaGreatDoor
open Go.RowKit RepM

attribute [local go_sem] ExtOf.cell ExtOf.frozen Block.cell Block.frozen ExtB.cell ExtB.frozen alloc_cell alloc_frozen
attribute [local go_sem] Oper.semAt_some
/-- what is yielded: the pairs of a slice of numbers -/
def encC (m b off : Nat) (k : Fin m) : Array Value := #[.slice (some ⟨b, off + 2 * k.val, none⟩) 2 2]
/-- two blocks lie as they lay -/
def Keep2 (a b : Nat) (W W' : World) : Prop := W'.heap[a]? = W.heap[a]? ∧ W'.heap[b]? = W.heap[b]?
theorem Keep2.trans {a b : Nat} {X Y Z : World} (h : Keep2 a b X Y) (k : Keep2 a b Y Z) : Keep2 a b X Z := ⟨k.1.trans h.1, k.2.trans h.2⟩
theorem cell_of_heap {W W' : World} {q : Nat} (h : W'.heap[q]? = W.heap[q]?) : W'.cell? ⟨q, 0, none⟩ = W.cell? ⟨q, 0, none⟩ := by
  unfold World.cell?
  rw [show (⟨q, 0, none⟩ : Addr).block = q from rfl, h]
theorem Keep2.putObj {a b : Nat} {w : World} (ha : a < w.heap.size) (hb : b < w.heap.size) (W : World) (l : Nat) (o o' : Obj) (hl : w.heap.size ≤ l) : Keep2 a b W (W.putObj l o') := by
  constructor
  · show (W.heap.setIfInBounds l o')[a]? = _
    rw [Array.getElem?_setIfInBounds_ne (by omega)]
  · show (W.heap.setIfInBounds l o')[b]? = _
    rw [Array.getElem?_setIfInBounds_ne (by omega)]
set_option maxRecDepth 100000 in
set_option maxHeartbeats 2000000 in
theorem chunk1_in (F : Fence) (n : Nat) (hf : F.fn 122) (hro : F.round = none) (hn : 1 ≤ n) (lp Bs Bn m b off : Nat) (p : Option Addr) (cap : Nat) (J Jx : List (Fin m) → World → Prop) (Ba : Nat) (hA : AbidesFrom Ba J)
    (hY : ∀ pre x W, J pre W → pre.length < m → YieldAt F (n - 1) Tryz.prog lp (encC m b off x) W fun e W' =>
      (e = .returned (.bool true) ∧ J (pre ++ [x]) W' ∧ Keep2 Bs Bn W W') ∨ (e = .returned (.bool false) ∧ Jx (pre ++ [x]) W'))
    (W : World) (hBs : W.cell? ⟨Bs, 0, none⟩ = some (.slice p (2 * m : Nat) cap)) (hBn : W.cell? ⟨Bn, 0, none⟩ = some (.int .i64 2)) (hcap : 2 * m ≤ cap) (hl : m ≤ 1000) (hp : 0 < m → p = some ⟨b, off, none⟩) (h0 : J [] W) :
    CallsIn F n Tryz.prog 122 #[.func (.yield lp) #[] #[], .pointer (some ⟨Bs, 0, none⟩), .pointer (some ⟨Bn, 0, none⟩)] W fun e W' => (∃ v, e = .returned v) ∧
      ((∃ ys, ys = List.finRange m ∧ J ys W') ∨ (∃ pre, (∃ k, k ≤ m ∧ pre = (List.finRange m).take k) ∧ Jx pre W')) := by
  obtain ⟨f1, f2, f3, f4⟩ := F
  simp only at hro
  subst hro
  have hro : (Fence.mk f1 f2 f3 none).round = none := rfl
  refine callsIn_of_wp Tryz.func122 rfl hf ?_ hro
  simp only [Tryz.ntmps122, List.size_toArray, List.length_cons, List.length_nil, Nat.reduceAdd, Nat.reduceSub, Array.replicate_succ, Array.replicate_zero, List.push_toArray, List.append_toArray, List.nil_append, List.cons_append]
  gi_wp2
  gi_loopw [4] (fun i wr => ∃ k : Nat, k ≤ m ∧ i = .int .i64 ((2 * k : Nat) : Int) ∧ J ((List.finRange m).take k) wr ∧ Keep2 Bs Bn W wr) (fun i _ => 2 * m - (intOf i).toNat)
  case atStart => exact ⟨0, Nat.zero_le _, by simp, by rw [List.take_zero]; exact h0, rfl, rfl⟩
  case round =>
    obtain ⟨k, hk, rfl, hJs, hnx⟩ := hrel
    have hbx : wr.cell? ⟨Bs, 0, none⟩ = some (.slice p (2 * m : Nat) cap) := (cell_of_heap hnx.1).trans hBs
    have hby : wr.cell? ⟨Bn, 0, none⟩ = some (.int .i64 2) := (cell_of_heap hnx.2).trans hBn
    by_cases hlt : k < m
    · obtain rfl := hp (by omega)
      have hkd : k < (List.finRange m).length := by rw [List.length_finRange]; exact hlt
      gi_wp2
      gi_big_quiet_th (fail)
      have hJd := hA _ _ (wr.drewN nq) none hJs ⟨rfl, rfl, rfl, Nat.le_refl _, fun _ _ _ => rfl⟩ (fun r e => by cases e)
      have hbd : (wr.drewN nq).cell? ⟨Bs, 0, none⟩ = some (.slice (some ⟨b, off, none⟩) (2 * m : Nat) cap) := hbx
      obtain ⟨fn, tmps, assign, body, hy, hR⟩ := hY _ (List.finRange m)[k] (wr.drewN nq) hJd (by rw [List.length_take, List.length_finRange]; omega)
      have hxv : encC m b off (List.finRange m)[k] = #[.slice (some ⟨b, off + 2 * k, none⟩) 2 2] := by unfold encC; rw [List.getElem_finRange]; rfl
      rw [hxv] at hy
      clear hxv
      have hmin : min (2 : Int) ((2 * m - 2 * k : Nat) : Int) = 2 := by omega
      rw [hmin]
      gi_wp2
      have hbb : Keep2 Bs Bn wr (wr.drewN nq) := ⟨rfl, rfl⟩
      refine hR.mono ?_
      have htk : (List.finRange m).take (k + 1) = (List.finRange m).take k ++ [(List.finRange m)[k]] := by rw [List.take_succ_eq_append_getElem hkd]
      rintro en W3 (⟨rfl, hJ3, hk3⟩ | ⟨rfl, hJx3⟩)
      · have hby3 : W3.cell? ⟨Bn, 0, none⟩ = some (.int .i64 2) := (cell_of_heap ((hnx.trans hbb).trans hk3).2).trans hBn
        gi_wp2
        go_roundw
        case rel => exact ⟨k + 1, by omega, by first | (congr 1; done) | (congr 1; omega), by rw [htk]; exact hJ3, (hnx.trans hbb).trans hk3⟩
        case measure => first | (simp [intOf]; done) | (simp [intOf]; omega)
      · gi_wp2
        refine bodyPost_ret (results_none rfl _ _ _) rfl ?_
        exact ⟨⟨_, rfl⟩, .inr ⟨_, ⟨k + 1, by omega, htk.symm⟩, hJx3⟩⟩
    · obtain rfl : k = m := by omega
      gi_wp2
      go_end0
      refine ⟨⟨_, rfl⟩, .inl ⟨_, rfl, ?_⟩⟩
      have := hJs
      rwa [List.take_of_length_le (by rw [List.length_finRange]; exact Nat.le_refl _)] at this
set_option maxHeartbeats 1000000 in
theorem chunk_in (F : Fence) (n : Nat) (hf : F.fn 100) (hro : F.round = none) (p : Option Addr) (len cap : Nat) (w : World) :
    CallsIn F n Tryz.prog 100 #[.slice p len cap, .int .i64 2] w fun e w' => e = .returned (.func (.func 122) #[] #[.pointer (some ⟨w.heap.size, 0, none⟩), .pointer (some ⟨w.heap.size + 1, 0, none⟩)]) ∧ w' = (w.alloc (.cells #[.slice p len cap] 32)).alloc (.cells #[.int .i64 2] 3) := by
  refine callsIn_of_wp Tryz.func100 rfl hf ?_ hro
  simp only [Tryz.ntmps100, List.size_toArray, List.length_cons, List.length_nil, Nat.reduceAdd, Nat.reduceSub, Array.replicate_succ, Array.replicate_zero, List.push_toArray, List.append_toArray, List.nil_append, List.cons_append]
  gi_wp2
  go_ret
  exact ⟨by simp, rfl⟩
/-- the library's pairs: all of them, or the first k -/
theorem chunk_stops (F : Fence) (n : Nat) (hf : F.fn 122) (hro : F.round = none) (hn : 1 ≤ n) (Bs Bn m b off : Nat) (p : Option Addr) (cap : Nat) (w : World) (hB : Bs < w.heap.size) (hB2 : Bn < w.heap.size)
    (hBs : w.cell? ⟨Bs, 0, none⟩ = some (.slice p (2 * m : Nat) cap)) (hBn : w.cell? ⟨Bn, 0, none⟩ = some (.int .i64 2)) (hcap : 2 * m ≤ cap) (hl : m ≤ 1000) (hp : 0 < m → p = some ⟨b, off, none⟩) :
    SeqStopsK F n Tryz.prog 122 #[.pointer (some ⟨Bs, 0, none⟩), .pointer (some ⟨Bn, 0, none⟩)] (encC m b off) (Keep2 Bs Bn) (fun ys => ys = List.finRange m) (fun pre => ∃ k, k ≤ m ∧ pre = (List.finRange m).take k) m w := fun lp J Jx W hW hA _ hY h0 =>
  chunk1_in F n hf hro hn lp Bs Bn m b off p cap J Jx _ hA hY W ((hW.cell (p := ⟨Bs, 0, none⟩) hB).trans hBs) ((hW.cell (p := ⟨Bn, 0, none⟩) hB2).trans hBn) hcap hl hp h0
end Go.Proofs.YtjfohapnjnopfaaGreatDoor
end
/-
  Chapter 61: the program's shipments.
-/
section
set_option linter.unusedVariables false
set_option linter.unusedSimpArgs false
namespace Go.Proofs.YtjfohapnjnopfaaGreatDoor
open Go.RowKit RepM

attribute [local go_sem] ExtOf.cell ExtOf.frozen Block.cell Block.frozen ExtB.cell ExtB.frozen alloc_cell alloc_frozen
attribute [local go_sem] Oper.semAt_some
theorem PastS.take {w : World} {p : Option Addr} {n cap : Nat} {l : List EvP} (h : PastS w (.slice p n cap) l) {j : Nat} (hj : j ≤ l.length) : PastS w (.slice p j cap) (l.take j) :=
  ⟨⟨SliceOf.take h.ev.1 hj, fun x hx => h.ev.2 x (List.mem_of_mem_take hx)⟩, fun x hx => h.ok x (List.mem_of_mem_take hx), by rw [List.length_take]; have := h.len; omega⟩
/-- what a pair adds -/
def pick (o : Int) (ns : List Int) (k : Nat) : List Int := if ns.getD (2 * k) 0 = o then [ns.getD (2 * k + 1) 0] else []
theorem pick_drop {o : Int} {ns : List Int} {m : Nat} (h : ns.length = 2 * m) : ∀ d j, j + d = m → ((List.finRange m).drop j).flatMap (fun k => pick o ns k.val) = ofO o (ns.drop (2 * j))
  | 0, j, hj => by
    rw [List.drop_of_length_le (by rw [List.length_finRange]; omega), ofO_end (by omega)]; rfl
  | d + 1, j, hj => by
    rw [List.drop_eq_getElem_cons (by rw [List.length_finRange]; omega), List.flatMap_cons, pick_drop h d (j + 1) (by omega), ofO_drop (by omega : 2 * j + 1 < ns.length)]
    congr 1
    unfold pick
    simp [List.getElem?_eq_getElem (by omega : 2 * j < ns.length), List.getElem?_eq_getElem (by omega : 2 * j + 1 < ns.length)]
theorem pick_all {o : Int} {ns : List Int} {m : Nat} (h : ns.length = 2 * m) : (List.finRange m).flatMap (fun k => pick o ns k.val) = ofO o ns := by
  have := pick_drop (o := o) h m 0 (by omega)
  simpa using this
theorem pick_len (o : Int) (ns : List Int) {m : Nat} : ∀ (pre : List (Fin m)), (pre.flatMap fun k => pick o ns k.val).length ≤ pre.length
  | [] => by simp
  | k :: pre => by
    rw [List.flatMap_cons, List.length_append, List.length_cons]
    have := pick_len o ns pre
    have : (pick o ns k.val).length ≤ 1 := by unfold pick; split <;> simp
    omega
/-- the loop has been left: the last of those that came assigns -/
def ShX (L : List EvP) (o : Int) (w : World) (pre : List (Fin L.length)) (W : World) : Prop :=
  ∃ pre' x v, pre = pre' ++ [x] ∧ (∀ y ∈ pre', (L[y]).1.kind ≠ 9) ∧ (L[x]).1.kind = 9 ∧ Block W w.heap.size #[v] ∧ Own encI 1 3 w.heap.size W v (ofO o (L[x]).1.n) ∧ Ext w W
theorem ShX.grown {L : List EvP} {o : Int} {w W W' : World} {pre : List (Fin L.length)} {row : Option Nat} (h : ShX L o w pre W) (hg : W.grownBy W' row) (h1 : ∀ r, row = some r → w.heap.size ≤ r) (hr : ∀ r, row = some r → ∃ o : Obj, W.heap[r]? = some o ∧ o.isCells = false) : ShX L o w pre W' := by
  obtain ⟨pre', x, v, a, b, c, d, e, f⟩ := h
  exact ⟨pre', x, v, a, b, c, block_grown d hg hr, Own.grown e hg hr, ext_grown f hg h1⟩
theorem lastO_eq (l : List Ev) (o : Int) {k : Nat} (h : k < l.length) (h9 : l[k].kind = 9) (hn : ∀ j, (hj : j < l.length) → k < j → l[j].kind ≠ 9) : lastO l o = ofO o l[k].n := by
  have h2 : ∀ d, k + 1 + d ≤ l.length → lastO (l.take (k + 1 + d)) o = ofO o l[k].n := by
    intro d
    induction d with
    | zero => intro _; rw [Nat.add_zero, lastO_take h, if_pos h9]
    | succ d ih => intro hd; rw [show k + 1 + (d + 1) = (k + 1 + d) + 1 by omega, lastO_take (by omega), if_neg (hn _ _ (by omega)), ih (by omega)]
  have := h2 (l.length - (k + 1)) (by omega)
  rwa [show k + 1 + (l.length - (k + 1)) = l.length by omega, List.take_length] at this
theorem lastO_nil (l : List Ev) (o : Int) (hn : ∀ e ∈ l, e.kind ≠ 9) : lastO l o = [] := by
  unfold lastO
  rw [show l.reverse.find? (fun e => decide (e.kind = 9)) = none from ?_]
  rw [List.find?_eq_none]
  intro e he
  simpa using hn e (List.mem_reverse.1 he)
theorem sh_none {L : List EvP} {o : Int} (h : ∀ y ∈ dn L.length, (L[y]).1.kind ≠ 9) : lastO (evs L) o = [] := by
  refine lastO_nil _ _ fun e he => ?_
  have hr : e ∈ (evs L).reverse := List.mem_reverse.2 he
  rw [← dn_map] at hr
  obtain ⟨y, hy, rfl⟩ := List.mem_map.1 hr
  exact h y hy
theorem sh_some {L : List EvP} {o : Int} {k : Nat} {pre' : List (Fin L.length)} {x : Fin L.length} (hpx : (dn L.length).take k = pre' ++ [x]) (hno : ∀ y ∈ pre', (L[y]).1.kind ≠ 9) (hyes : (L[x]).1.kind = 9) : lastO (evs L) o = ofO o (L[x]).1.n := by
  have hx : x.val < (evs L).length := by simp
  have hk : pre'.length < ((dn L.length).take k).length := by rw [hpx]; simp
  have hk2 : pre'.length < (dn L.length).length := by rw [List.length_take] at hk; omega
  have hgx : (dn L.length)[pre'.length] = x := by
    have : ((dn L.length).take k)[pre'.length] = x := by simp [hpx]
    rw [List.getElem_take] at this; exact this
  have hxv : x.val = L.length - 1 - pre'.length := by rw [← hgx]; exact dn_get hk2
  have := lastO_eq (evs L) o hx (by rw [evs_get hx]; exact hyes) (fun j hj hkj => by
    have hj' : j < L.length := by simpa using hj
    rw [evs_get hj]
    have hq : L.length - 1 - j < pre'.length := by omega
    have hq2 : L.length - 1 - j < (dn L.length).length := by rw [dn_len]; omega
    have hm : (⟨j, hj'⟩ : Fin L.length) ∈ pre' := by
      have e1 : ((dn L.length).take k)[L.length - 1 - j]'(by rw [hpx]; simp; omega) = pre'[L.length - 1 - j] := by
        simp only [hpx]; rw [List.getElem_append_left hq]
      rw [List.getElem_take] at e1
      have e2 : (dn L.length)[L.length - 1 - j] = ⟨j, hj'⟩ := Fin.ext (by rw [dn_get hq2]; show L.length - 1 - (L.length - 1 - j) = j; omega)
      rw [e2] at e1
      rw [e1]
      exact List.getElem_mem hq
    exact hno _ hm)
  rw [this, evs_get hx]; rfl
theorem keeps_kept {B base k E : Nat} {α : Type} {enc : α → List Value} {w w' : World} {v v' : Value} {l : List α} (ho : Own enc k E base w v l) (h : Kept w v w' v') : KeepsFrom B w w' := by
  refine ⟨h.size, fun i o _ hi hc => ?_⟩
  rw [h.heap i (Array.getElem?_eq_some_iff.1 hi).1 (fun e => ?_)]
  · exact hi
  · rcases ho.2 with hn | ⟨g, cap, cur, rfl, hb, hgg, _⟩
    · rw [hn.1] at e; cases e
    · have : g = i := by simpa [Value.ownBlock] using e
      subst this
      rw [hgg] at hi; cases hi; cases hc
theorem Own.other {α : Type} {enc : α → List Value} {k E base b i : Nat} {w : World} {v u : Value} {l : List α} (h : Own enc k E base w v l) (hb : b < base) : Own enc k E base (w.setCell ⟨b, i, none⟩ u) v l := by
  refine ⟨h.1, ?_⟩
  rcases h.2 with hn | ⟨g, cap, cur, rfl, hg, hgg, rest⟩
  · exact .inl hn
  · refine .inr ⟨g, cap, cur, rfl, hg, ?_, rest⟩
    simp only [World.setCell, Array.getElem?_modify]
    rw [if_neg (by omega)]
    exact hgg
theorem Own.ne_low {α : Type} {enc : α → List Value} {k E base b : Nat} {w : World} {v : Value} {l : List α} (h : Own enc k E base w v l) (hb : b < base) : v.ownBlock ≠ some b := by
  rcases h.2 with hn | ⟨g, cap, cur, rfl, hg, _⟩
  · rw [hn.1]; intro e; cases e
  · intro e
    have : g = b := by simpa [Value.ownBlock] using e
    omega
theorem ld_ints {w : World} {b : Nat} {v : Value} (h : Block w b #[v]) : (loadVar 32 ⟨b, 0, none⟩).run Tryz.prog w = .ok v w := by
  have hc := h.cell (i := 0)
  simp at hc
  simp [go_sem, hc]
theorem results_c {fn : Func} {p0 : Tmp} {b0 : Nat} {tmps : Array Value} {w : World} {v : Value} (h : fn.results = #[.cell p0 32]) (h0 : tmps.getD p0 undef = .pointer (some ⟨b0, 0, none⟩)) (B0 : Block w b0 #[v]) : (results fn tmps).run Tryz.prog w = .ok v w := by
  have g0 : tmps[p0]?.getD undef = .pointer (some ⟨b0, 0, none⟩) := by simpa using h0
  simp [results, h, g0, asAddr, ld_ints B0]
theorem sh_more {L : List EvP} {pre : List (Fin L.length)} {x : Fin L.length} {e : Ev} {sl : SlT} (h : ∀ y ∈ pre, (L[y]).1.kind ≠ 9) (he : L[x.val] = (e, sl)) (hm : e.kind ≠ 9) : ∀ y ∈ pre ++ [x], (L[y]).1.kind ≠ 9 := by
  intro y hy
  rcases List.mem_append.1 hy with hy | hy
  · exact h y hy
  · rw [List.mem_singleton] at hy
    subst hy
    show (L[y.val]).1.kind ≠ 9
    rw [he]; exact hm
/-- the values of the region that looks at a pair -/
def sh8V (b off : Nat) (o m0 : Int) : Nat → Value
  | 29 => .slice (some ⟨b, off, none⟩) 2 2
  | 30 => .pointer (some ⟨b, off, none⟩)
  | 31 => .int .i64 m0
  | 32 => .int .i64 o
  | 33 => .bool (m0 == o)
  | _ => undef
def sh8A (b off : Nat) (o m0 : Int) (d : Nat) (v : Value) : Prop := v = sh8V b off o m0 d
/-- the values of the region that appends -/
def sh9V (b off n : Nat) (m1 : Int) (qv : Option Addr) (cv : Nat) : Nat → Value
  | 34 => .slice qv n cv
  | 35 => .slice (some ⟨b, off, none⟩) 2 2
  | 36 => .pointer (some ⟨b, off + 1, none⟩)
  | 37 => .int .i64 m1
  | _ => undef
def sh9A (b off n : Nat) (m1 : Int) (qv : Option Addr) (cv : Nat) (d : Nat) (v : Value) : Prop := d = 38 ∨ v = sh9V b off n m1 qv cv d
def sh9F (m1 : Int) (d : Nat) (v : Value) (W : World) : Prop := d = 38 → ∃ g, v = .slice (some ⟨g, 0, none⟩) 1 1 ∧ Block W g #[.int .i64 m1]
theorem sh9A_some (b off n : Nat) (m1 : Int) (qv : Option Addr) (cv : Nat) (d : Nat) : ∃ v, sh9A b off n m1 qv cv d v := ⟨_, .inr rfl⟩
theorem sh9F_keep (m1 : Int) : ∀ d v w w', sh9F m1 d v w → Ext w w' → sh9F m1 d v w' := fun d v w w' h hx e => by obtain ⟨g, h1, h2⟩ := h e; exact ⟨g, h1, h2.ext hx⟩
set_option maxHeartbeats 3200000 in
set_option maxRecDepth 20000 in
theorem pshipped_any (l : List EvP) (v : Value) (at_ : Nat) (w : World) (h : PastS w v l) (ha : at_ < l.length) : Calls Tryz.prog 102 #[v, .int .i64 (at_ : Int)] w (IntsRet w (shipped (evs l) at_ (num (l[at_]).1.item))) := by
  obtain ⟨iE, hiE, hE0, hE1, hE2⟩ := info_parts infoInt
  obtain ⟨p, cap, rfl, hc1, hc2, hc3⟩ := EvsS.form h.ev
  unfold maxLen at hc2
  have hlen := h.len
  have H := Lib.hid h
  clear h
  obtain ⟨bz, oz, hpz, hrz, _⟩ := EvsS.elem H.out.ev ha
  obtain ⟨z, hz⟩ : ∃ z, z = (l[at_]).1.item := ⟨_, rfl⟩
  have hcz : w.cell? ⟨bz, oz + at_ * 6 + 2, none⟩ = some (.string z) := by rw [hz]; exact hrz 2 _ rfl
  rw [← hz, shipped_eq]
  have HE : Hid ((evs l).take at_ = evs (l.take at_)) := Lib.hid (List.map_take).symm
  rw [HE.out]
  have HL := Lib.hid (PastS.take H.out (j := at_) (by omega))
  obtain ⟨L, hLe⟩ : ∃ L, L = l.take at_ := ⟨_, rfl⟩
  have hLl : L.length = at_ := by rw [hLe, List.length_take]; omega
  rw [← hLe] at HL ⊢
  subst hpz
  have ob := Old.of_cell hcz
  clear hrz hz hLe HE
  subst hLl
  have hal : L.length < 1000 := by omega
  refine (callsIn_wide (n := 9)).1 ?_
  refine callsIn_of_wp_marks Tryz.func102 rfl trivial ?_ rfl
  simp only [Tryz.ntmps102, List.size_toArray, List.length_cons, List.length_nil, Nat.reduceAdd, Nat.reduceSub, Array.replicate_succ, Array.replicate_zero, List.push_toArray, List.append_toArray, List.nil_append, List.cons_append]
  gi_wp2_with (first | (refine ⟨trivial, ?_⟩; gi_at_call 42; refine (callsIn_wide.2 (pnum_any z _)).mono ?_; rintro en w' ⟨rfl, nn, rfl⟩) | (refine ⟨trivial, ?_⟩; gi_at_call 99; refine (back_in Fence.wide 8 trivial rfl _ _ _ _).mono ?_; rintro e w' ⟨rfl, rfl⟩))
  obtain ⟨o, ho⟩ : ∃ o, o = num z := ⟨_, rfl⟩
  rw [← ho]
  clear ho
  obtain ⟨B1, hB1⟩ : ∃ B1, B1 = nn.val.heap.size := ⟨_, rfl⟩
  have hB1w : w.heap.size + 1 ≤ B1 := by have := nn.size; simp at this; omega
  obtain ⟨W0, hW0⟩ : ∃ W0, W0 = (nn.val.alloc (.cells #[.int .i64 o] 3)).alloc (.cells #[.slice (some ⟨bz, oz, none⟩) L.length cap] 59) := ⟨_, rfl⟩
  have b0 : Block W0 w.heap.size #[.slice none 0 0] := by rw [hW0]; exact ((((Block.new w _ _).ext nn.ext).ext ((Ext.refl _).alloc _)).ext ((Ext.refl _).alloc _))
  have b1 : Block W0 B1 #[.int .i64 o] := by rw [hW0, hB1]; infer_instance
  have b2 : Block W0 (B1 + 1) #[.slice (some ⟨bz, oz, none⟩) L.length cap] := by rw [hW0, hB1]; exact Block.new_at (by simp)
  have hx0 : Ext w W0 := by rw [hW0]; exact Ext.alloc (Ext.alloc (((Ext.refl w).alloc _).trans nn.ext) _) _
  have hsz : W0.heap.size = B1 + 2 := by rw [hW0, hB1]; simp
  rw [← hB1, ← hW0]
  clear hW0 hB1 nn hcz ob
  have hcs : ∀ i (h : i < L.length), ∃ b off, (some ⟨bz, oz, none⟩ : Option Addr) = some ⟨b, off, none⟩ ∧ b < W0.heap.size ∧ W0.rangeAt b (off + i * 6) (encEv L[i]) := fun i h => by
    obtain ⟨b, off, e, hr, _⟩ := EvsS.elem (HL.out.ev.ext hx0) h
    have hc := hr 0 _ rfl
    exact ⟨b, off, e, World.block_lt_of_cell? W0 ⟨b, _, none⟩ hc, hr⟩
  refine wpIn_rangeFunc_ownH rfl (by decide) (gf := 121) (lb := #[.pointer (some ⟨B1 + 1, 0, none⟩)]) rfl trivial (enters_of Tryz.func121 (by kernel_rfl) rfl)
    (back_stops Fence.wide 8 trivial rfl (by decide) (B1 + 1) W0.heap.size L (some ⟨bz, oz, none⟩) cap W0 (by omega) (Nat.le_refl _) (Block.cell (h := b2) 0) (by omega) (by omega) hcs) belowK_t (belowK_b (Nat.le_refl _)) (Below.refl _ _) (fun _ => rfl)
    (fun pre W => (∀ x ∈ pre, (L[x]).1.kind ≠ 9) ∧ Below W0.heap.size W0 W)
    (fun c pre W => c = .ret ∧ ShX L o w pre W)
    (OwnFrom.and (ownFrom_pure _ _) (ownFrom_below (Nat.le_refl _) (Nat.le_refl _)))
    (fun c pre W W' row hs hg hr => ⟨hs.1, hs.2.grown hg (fun r e => by have := (hr r e).1; omega) (fun r e => (hr r e).2)⟩)
    ⟨fun x hx => by simp at hx, Below.refl _ _⟩
    (fun x a' W => ∃ Bx, W0.heap.size ≤ Bx ∧ Block W Bx (evC (L[x]).1 (L[x]).2.v) ∧ a' = { tmps := #[.slice (some ⟨bz, oz, none⟩) l.length cap, .int .i64 (L.length : Int), undef, undef, .pointer (some ⟨w.heap.size, 0, none⟩), .pointer (some ⟨B1, 0, none⟩), undef, .pointer (some ⟨Bx, 0, none⟩), undef, undef, .slice (some ⟨bz, oz, none⟩) l.length cap, .int .i64 (L.length : Int), .pointer (some ⟨bz, oz + L.length * 6, none⟩), .pointer (some ⟨bz, oz + L.length * 6 + 2, none⟩), .string z, .int .i64 o, .slice (some ⟨bz, oz, none⟩) l.length cap, .int .i64 (L.length : Int), .slice (some ⟨bz, oz, none⟩) L.length cap, .func (.func 121) #[] #[.pointer (some ⟨B1 + 1, 0, none⟩)], .int .i64 (x.val : Int), .agg (evC (L[x]).1 (L[x]).2.v), undef, undef, undef, undef, undef, undef, undef, undef, undef, undef, undef, undef, undef, undef, undef, undef, undef, undef, undef], defers := [] })
    (fun x a' _ X Y row hs hg hr => by obtain ⟨Bx, h1, h2, h3⟩ := hs; exact ⟨Bx, h1, block_grown h2 hg (fun r e => (hr r e).2), h3⟩)
    ?assign ?body ?done ?stop
  case assign =>
    rintro lp pre x W K ⟨hp, hb⟩ hK
    obtain ⟨⟨e, ⟨q, m, mc⟩⟩, hle⟩ : ∃ z, L[x] = z := ⟨_, rfl⟩
    unfold encD
    have hle' : L[x.val] = (e, ⟨q, m, mc⟩) := hle
    simp only [Fin.getElem_fin, hle', evC, SlT.v] at hK ⊢
    gi_wp2
    exact hK _ _ ((KeepsOthers.alloc _ _).from _) ((Below.refl _ W).alloc hb.size _) ⟨hp, hb.alloc hb.size _⟩ ⟨W.heap.size, hb.size, Block.new _ _ _, rfl⟩
  case body =>
    rintro lp pre x a' W hl ⟨r, hr⟩ ⟨hp, hb⟩ ⟨Bx, hBx, bX, rfl⟩ hlt
    have hok := HL.out.ok _ (List.getElem_mem x.isLt)
    have hin := HL.out.ev.2 _ (List.getElem_mem x.isLt)
    obtain ⟨⟨e, ⟨q, m, mc⟩⟩, hle⟩ : ∃ z, L[x] = z := ⟨_, rfl⟩
    have hle' : L[x.val] = (e, ⟨q, m, mc⟩) := hle
    rw [hle'] at hok hin
    simp only at hok hin
    simp only [Fin.getElem_fin, hle', evC, SlT.v] at bX ⊢
    have HIN : Hid (IntS w (SlT.v ⟨q, m, mc⟩) e.n) := Lib.hid hin
    have HOK := Lib.hid hok
    clear hok hin
    have hwW : Ext w W := Below.trans hx0 (Below.mono hb (by omega))
    have HX := Lib.hid hwW
    have c0 := bX.cell (i := 0)
    have c1 := bX.cell (i := 1)
    have c2 := bX.cell (i := 2)
    have c3 := bX.cell (i := 3)
    have c4 := bX.cell (i := 4)
    have c5 := bX.cell (i := 5)
    have HP := Lib.hid hp
    clear hp
    by_cases h9 : e.kind = 9
    · have q9 : (e.kind != 9) = false := bne_eq_false_iff_eq.2 h9
      have H9 := Lib.hid h9
      clear h9
      gi_wp2_with (refine ⟨trivial, ?_⟩; gi_at_call 100; refine (CallsIn.inRound lp (chunk_in Fence.wide _ trivial rfl _ _ _ _)).mono ?_; rintro en w' ⟨rfl, rfl⟩)
      obtain ⟨qn, cn, hvn, hcn1, hcn2, hcn3⟩ := IntS.form HIN.out
      unfold maxLen at hcn2
      obtain ⟨rfl, rfl, rfl⟩ : q = qn ∧ m = e.n.length ∧ mc = cn := by simpa [SlT.v] using hvn
      have hn6 := ok_len HOK.out
      have hev := ok_assign HOK.out H9.out
      obtain ⟨M, hM⟩ : ∃ M, e.n.length = 2 * M := ⟨e.n.length / 2, by omega⟩
      obtain ⟨b, off, hq⟩ : ∃ b off, 0 < M → q = some ⟨b, off, none⟩ := by
        by_cases h0 : 0 < M
        · obtain ⟨b, off, hq, _⟩ := IntS.elem HIN.out (i := 0) (by omega)
          exact ⟨b, off, fun _ => hq⟩
        · exact ⟨0, 0, fun h => absurd h h0⟩
      obtain ⟨W1, hW1⟩ : ∃ W1, W1 = ((W.alloc (.cells #[.slice none 0 0] 32)).alloc (.cells #[.slice q e.n.length mc] 32)).alloc (.cells #[.int .i64 2] 3) := ⟨_, rfl⟩
      have hsW : W1.heap.size = W.heap.size + 3 := by rw [hW1]; simp
      have d0 : Block W1 W.heap.size #[.slice none 0 0] := by rw [hW1]; infer_instance
      have d1 : Block W1 (W.heap.size + 1) #[.slice q e.n.length mc] := by rw [hW1]; exact Block.ext (Block.new_at (by simp)) ((Ext.refl _).alloc _)
      have d2 : Block W1 (W.heap.size + 1 + 1) #[.int .i64 2] := by rw [hW1]; exact Block.new_at (by simp)
      have hxW1 : Ext W W1 := by rw [hW1]; repeat' (first | (with_reducible exact Ext.refl _) | (with_reducible exact ExtOf.ext _) | (with_reducible refine Ext.trans ?_ (ExtOf.ext _)) | (with_reducible refine Ext.alloc ?_ _) | (with_reducible refine Ext.drew ?_) | (with_reducible refine Ext.setCell ?_ ?_ _) | (with_reducible refine Ext.setRow ?_ ?_ _) | (with_reducible exact HX.out) | (with_reducible refine Ext.trans ?_ HX.out) | (with_reducible refine Ext.below ?_ (Nat.le_refl _) _) | omega | (simp; done) | (simp; omega))
      have hr' : W1.heap[lp]? = some (.loop r) := (hxW1.block lp (Array.getElem?_eq_some_iff.1 hr).1).trans hr
      have hbs := hb.size
      rw [← hW1]
      clear hW1 hvn c0 c1 c2 c3 c4 c5
      refine wpIn_rangeFunc_ownN (l₀ := lp) (r₀ := r) rfl hr' (by decide) (gf := 122) (lb := #[.pointer (some ⟨W.heap.size + 1, 0, none⟩), .pointer (some ⟨W.heap.size + 1 + 1, 0, none⟩)]) rfl trivial (enters_of Tryz.func122 (by kernel_rfl) rfl)
        ((chunk_stops Fence.wide _ trivial rfl (by decide) (W.heap.size + 1) (W.heap.size + 1 + 1) M b off q mc W1 (by omega) (by omega) (by rw [← hM]; exact Block.cell (h := d1) 0) (Block.cell (h := d2) 0) (by omega) (by omega) hq).inRound lp) Keep2.trans (fun W2 l2 o2 o2' hl2 _ _ _ => Keep2.putObj (by omega) (by omega) W2 l2 o2 o2' hl2) (Below.refl _ _) (fun _ => rfl)
        (fun pre' W' => (∃ v, Block W' W.heap.size #[v] ∧ Own encI 1 3 (W.heap.size + 3) W' v (pre'.flatMap fun k => pick o e.n k.val)) ∧ Block W' B1 #[.int .i64 o] ∧ (Below W0.heap.size W W' ∧ KeepsFrom W0.heap.size W W' ∧ W.heap.size + 3 ≤ W'.heap.size))
        (fun _ _ _ => False)
        (fun pre' X Y row hs hg hr2 => ⟨by obtain ⟨v, h1, h2⟩ := hs.1; exact ⟨v, block_grown h1 hg (fun r e => (hr2 r e).2), Own.grown h2 hg (fun r e => (hr2 r e).2)⟩, block_grown hs.2.1 hg (fun r e => (hr2 r e).2), ownFrom_below (β := Unit) (n₀ := W0.heap.size) (w₀ := W) hbs (by omega) () X Y row hs.2.2.1 hg hr2, ownFrom_keepsFrom (β := Unit) (B := W0.heap.size) (w₀ := W) (by omega) () X Y row hs.2.2.2.1 hg hr2, Nat.le_trans hs.2.2.2.2 hg.size⟩)
        (fun _ _ _ _ _ hs _ _ => hs)
        ⟨⟨_, d0, Own.nil _⟩, (b1.below hb (by omega)).ext hxW1, Below.mono hxW1 hbs, keeps_ext hxW1, by omega⟩
        (fun k a'' _ => a'' = { tmps := #[.slice (some ⟨bz, oz, none⟩) l.length cap, .int .i64 (L.length : Int), undef, undef, .pointer (some ⟨w.heap.size, 0, none⟩), .pointer (some ⟨B1, 0, none⟩), undef, .pointer (some ⟨Bx, 0, none⟩), .pointer (some ⟨W.heap.size, 0, none⟩), .slice (some ⟨b, off + 2 * k.val, none⟩) 2 2, .slice (some ⟨bz, oz, none⟩) l.length cap, .int .i64 (L.length : Int), .pointer (some ⟨bz, oz + L.length * 6, none⟩), .pointer (some ⟨bz, oz + L.length * 6 + 2, none⟩), .string z, .int .i64 o, .slice (some ⟨bz, oz, none⟩) l.length cap, .int .i64 (L.length : Int), .slice (some ⟨bz, oz, none⟩) L.length cap, .func (.func 121) #[] #[.pointer (some ⟨B1 + 1, 0, none⟩)], .int .i64 (x.val : Int), .agg #[.int .i64 e.kind, .int .i64 e.at_, .string e.item, .string e.of, .slice q e.n.length mc, .string e.text], .pointer (some ⟨Bx, 0, none⟩), .int .i64 e.kind, .bool false, .pointer (some ⟨Bx, 4, none⟩), .slice q e.n.length mc, .func (.func 122) #[] #[.pointer (some ⟨W.heap.size + 1, 0, none⟩), .pointer (some ⟨W.heap.size + 1 + 1, 0, none⟩)], .slice (some ⟨b, off + 2 * k.val, none⟩) 2 2, undef, undef, undef, undef, undef, undef, undef, undef, undef, undef, undef, undef], defers := [] })
        (fun _ _ _ _ _ _ hs _ _ => hs)
        ?assign2 ?body2 ?done2 ?stop2
      case assign2 =>
        rintro l2 pre' k W' K hi hK
        unfold encC
        have HM := Lib.hid hM
        clear hM
        gi_wp2
        exact hK _ _ (KeepsFrom.refl _ _) ⟨rfl, rfl⟩ hi rfl
      case stop2 =>
        rintro c pre' W' _ h
        exact h.elim
      case done2 =>
        rintro xs W' rfl ⟨⟨v, g1, g2⟩, g3, hBW, hKF, hSW⟩
        have k0 : Block W' w.heap.size #[.slice none 0 0] := b0.below (hb.trans hBW) (by omega)
        have HBW := Lib.hid hBW
        have HKF := Lib.hid hKF
        have HM := Lib.hid hM
        clear hBW hKF hM
        rw [pick_all HM.out] at g2
        obtain ⟨acc, hacc⟩ : ∃ acc, ofO o e.n = acc := ⟨_, rfl⟩
        rw [hacc] at g2
        obtain ⟨qv, cv, rfl⟩ := Own.form2 g2
        have HACC := Lib.hid hacc
        clear hacc
        gi_wp2
        refine ⟨HKF.out.trans ((KeepsOthers.setCell _ _ _).from _), rfl, pre, x, _, rfl, HP.out, ?_, inferInstance, ?_, Ext.setCell (Below.trans HX.out (Below.mono HBW.out (by omega))) (by show w.heap.size ≤ w.heap.size; omega) _⟩
        · show (L[x.val]).1.kind = 9
          rw [hle']; exact H9.out
        · show Own _ _ _ _ _ _ (ofO o (L[x.val]).1.n)
          rw [hle', HACC.out]
          exact Own.lower (Own.other (b := w.heap.size) g2 (show w.heap.size < W.heap.size + 3 by omega)) (show w.heap.size ≤ W.heap.size + 3 by omega)
      case body2 =>
        rintro l2 pre' k a'' W' _ _ ⟨⟨v, g1, g2⟩, g3, hBW, hKF, hSW⟩ rfl hlt2
        have hkM := k.isLt
        obtain rfl := hq (by omega)
        have HIW := Lib.hid (IntS.ext HIN.out (Below.trans HX.out (Below.mono hBW (by omega))))
        obtain ⟨b', off', hbo, e0⟩ := IntS.elem HIW.out (i := 2 * k.val) (by omega)
        obtain ⟨rfl, rfl⟩ : b = b' ∧ off = off' := by simpa using hbo
        obtain ⟨b', off', hbo', e1⟩ := IntS.elem HIW.out (i := 2 * k.val + 1) (by omega)
        obtain ⟨rfl, rfl⟩ : b = b' ∧ off = off' := by simpa using hbo'
        have hpk : pick o e.n k.val = if e.n[2 * k.val]'(by omega) = o then [e.n[2 * k.val + 1]'(by omega)] else [] := by
          unfold pick
          simp [List.getElem?_eq_getElem (by omega : 2 * k.val < e.n.length), List.getElem?_eq_getElem (by omega : 2 * k.val + 1 < e.n.length)]
        generalize e.n[2 * k.val]'(by omega) = m0 at *
        generalize e.n[2 * k.val + 1]'(by omega) = m1 at *
        have hpl := pick_len o e.n pre'
        have HPK := Lib.hid hpk
        have HBW := Lib.hid hBW
        have HKF := Lib.hid hKF
        clear hpk hBW hKF hbo hbo'
        obtain ⟨acc, hacc⟩ : ∃ acc, (pre'.flatMap fun k => pick o e.n k.val) = acc := ⟨_, rfl⟩
        rw [hacc] at g2 hpl
        have HACC := Lib.hid hacc
        clear hacc
        have hal2 : acc.length < 600 := by omega
        have HM := Lib.hid hM
        clear hM
        obtain ⟨qv, cv, rfl⟩ := Own.form2 g2
        gi_wp2
        refine wpIn_region_soft (sh8A b (off + 2 * k.val) o m0) (fun _ _ _ => True) (by kernel_rfl) (by kernel_rfl) (by kernel_rfl) (by kernel_rfl) (by kernel_rfl) (fun h => by obtain ⟨_, _, h⟩ := h; exact h) (fun d => ⟨_, rfl⟩) (fun _ _ _ _ _ _ => trivial) ?_
        refine soft_det (d := 29) (V := .slice (some ⟨b, off + 2 * k.val, none⟩) 2 2) rfl (by kernel_rfl) (fun v h => h) rfl (fun _ => trivial) (fun W _ _ => by kernel_rfl) ?_
        refine soft_det (d := 30) (V := .pointer (some ⟨b, off + 2 * k.val, none⟩)) rfl (by kernel_rfl) (fun v h => h) rfl (fun _ => trivial) (fun W _ _ => by kernel_rfl) ?_
        refine soft_det (d := 31) (V := .int .i64 m0) rfl (by kernel_rfl) (fun v h => h) rfl (fun _ => trivial) (fun W hx _ => by have := hx.cell e0; simp [execOp, go_sem, this]) ?_
        refine soft_det (d := 32) (V := .int .i64 o) rfl (by kernel_rfl) (fun v h => h) rfl (fun _ => trivial) (fun W hx _ => by have := (g3.ext (Ext.trans ((Ext.refl _).drew) hx)).cell (i := 0); simp at this; simp [execOp, go_sem, this]) ?_
        refine soft_det (d := 33) (V := .bool (m0 == o)) rfl (by kernel_rfl) (fun v h => h) rfl (fun _ => trivial) (fun W _ _ => by kernel_rfl) ?_
        intro W2 hx2
        simp only [Act.put, List.setIfInBounds_toArray, List.set_cons_succ, List.set_cons_zero]
        have hxx : Ext W' W2 := Ext.trans ((Ext.refl _).drew) hx2
        have HX2 := Lib.hid hxx
        have y1 := g1.ext hxx
        have y3 := g3.ext hxx
        have y2 := Own.ext g2 hxx
        have e2 := hxx.cell e1
        have hsz2 := hxx.size
        have HPRE : Hid ((pre' ++ [k]).flatMap (fun k => pick o e.n k.val) = acc ++ if m0 = o then [m1] else []) := Lib.hid (by rw [List.flatMap_append, HACC.out, List.flatMap_cons, List.flatMap_nil, List.append_nil, HPK.out])
        clear hx2 hxx
        by_cases hm : m0 = o
        · have qm : (m0 == o) = true := beq_iff_eq.2 hm
          have HM2 := Lib.hid hm
          clear hm
          gi_wp2
          refine wpIn_region_softT (sh9A b (off + 2 * k.val) acc.length m1 qv cv) (sh9F m1) [true, true, true, true, true] [false, false, false, false, false, true, true] 5 [6] (by kernel_rfl) rfl (by kernel_rfl) (by kernel_rfl) rfl (by kernel_rfl) (fun h => by obtain ⟨_, _, h⟩ := h; exact h) (sh9A_some _ _ _ _ _ _) (sh9F_keep _) ?_
          simp only [part]
          refine soft_det (d := 34) (V := .slice qv acc.length cv) rfl (by kernel_rfl) (fun v h => h.resolve_left (by decide)) (.inr rfl) (fun _ e => by cases e) (fun W hx _ => by have := (y1.ext hx).cell (i := 0); simp at this; simp [execOp, go_sem, this]) ?_
          refine soft_det (d := 35) (V := .slice (some ⟨b, off + 2 * k.val, none⟩) 2 2) rfl (by kernel_rfl) (fun v h => h.resolve_left (by decide)) (.inr rfl) (fun _ e => by cases e) (fun W _ _ => by kernel_rfl) ?_
          refine soft_det (d := 36) (V := .pointer (some ⟨b, off + 2 * k.val + 1, none⟩)) rfl (by kernel_rfl) (fun v h => h.resolve_left (by decide)) (.inr rfl) (fun _ e => by cases e) (fun W _ _ => by kernel_rfl) ?_
          refine soft_det (d := 37) (V := .int .i64 m1) rfl (by kernel_rfl) (fun v h => h.resolve_left (by decide)) (.inr rfl) (fun _ e => by cases e) (fun W hx _ => by have := hx.cell e2; rw [← Nat.add_assoc] at this; simp [execOp, go_sem, this]) ?_
          refine soft_new (d := 38) rfl (by kernel_rfl) (fun v => .inl rfl) (fun W hx => ⟨.slice (some ⟨W.heap.size, 0, none⟩) 1 1, W.alloc (.cells #[.int .i64 m1] 3), by simp [go_sem, execOp], (Ext.refl _).alloc _, fun _ => ⟨W.heap.size, rfl, Block.new _ _ _⟩⟩) ?_
          intro v38 W3 hx3 hF3
          obtain ⟨g, hg38, hbg⟩ := hF3 4 _ 38 (by simp [idx]) rfl rfl rfl
          simp only [Act.put, List.setIfInBounds_toArray, List.set_cons_succ, List.set_cons_zero] at hg38 ⊢
          have hv38 : v38 = .slice (some ⟨g, 0, none⟩) 1 1 := hg38
          subst hv38
          have z1 := y1.ext hx3
          have z3 := y3.ext hx3
          have z2 := Own.ext y2 hx3
          have hsz3 := hx3.size
          have HX3 := Lib.hid hx3
          clear hx3 hF3 hg38
          refine wl_append1g (enc := encI) (k := 1) (E := 3) (base := W.heap.size + 3) (l := acc) (y := m1) Tryz.underlying32 hiE hE0 hE1 hE2 rfl (by decide) encI_len encI_one rfl rfl z2 hbg rfl (by unfold maxLen; omega) (by omega) (by omega) ?_
          intro v7 n7 ho7 hk7
          have hkeep := keeps_kept (B := W1.heap.size) z2 hk7
          have hkeep0 := keeps_kept (B := W0.heap.size) z2 hk7
          have u1 := Kept.block hk7 z1 (Own.ne_low z2 (by omega))
          have u3 := Kept.block hk7 z3 (Own.ne_low z2 (by omega))
          have hb7 := n7.below
          have hsz7 := hk7.size
          obtain ⟨q7, c7, rfl⟩ := Own.form2 ho7
          have hk2 : Keep2 (W.heap.size + 1) (W.heap.size + 1 + 1) W3 n7.val := ⟨hk7.heap _ (by omega) (Own.ne_low z2 (by omega)), hk7.heap _ (by omega) (Own.ne_low z2 (by omega))⟩
          clear hk7
          go_wp2_with fail
          haveI hap : Apart W.heap.size B1 := ⟨by omega⟩
          have hk3 : Keep2 (W.heap.size + 1) (W.heap.size + 1 + 1) n7.val (n7.val.setCell ⟨W.heap.size, 0, none⟩ (.slice q7 (acc.length + 1) c7)) := by
            constructor
            · simp only [World.setCell, Array.getElem?_modify]; rw [if_neg (by omega)]
            · simp only [World.setCell, Array.getElem?_modify]; rw [if_neg (by omega)]
          have hkk : Keep2 (W.heap.size + 1) (W.heap.size + 1 + 1) W' W3 := Keep2.trans ⟨HX2.out.block _ (by omega), HX2.out.block _ (by omega)⟩ ⟨HX3.out.block _ (by omega), HX3.out.block _ (by omega)⟩
          have hs7 : (n7.val.setCell ⟨W.heap.size, 0, none⟩ (.slice q7 (acc.length + 1) c7)).heap.size = n7.val.heap.size := by simp [World.setCell]
          refine ⟨(keeps_ext (HX2.out.trans HX3.out)).trans (hkeep.trans ((KeepsOthers.setCell _ _ _).from _)), (hkk.trans hk2).trans hk3, ⟨_, inferInstance, ?_⟩, inferInstance, ?_, HKF.out.trans ((keeps_ext (HX2.out.trans HX3.out)).trans (hkeep0.trans ((KeepsOthers.setCell _ _ _).from _))), by omega⟩
          · rw [HPRE.out, if_pos HM2.out]
            have := Own.other (b := W.heap.size) (i := 0) (u := .slice q7 (acc.length + 1) c7) ho7 (by omega)
            simpa using this
          · refine Below.setCell ?_ (by show W0.heap.size ≤ W.heap.size; omega) _
            exact (HBW.out.trans (Below.mono (HX2.out.trans HX3.out) (by omega))).trans (Below.mono hb7 (by omega))
        · have qm : (m0 == o) = false := beq_eq_false_iff_ne.2 hm
          have HM2 := Lib.hid hm
          clear hm
          gi_wp2
          exact ⟨keeps_ext HX2.out, ⟨HX2.out.block _ (by omega), HX2.out.block _ (by omega)⟩, ⟨_, y1, by rw [HPRE.out, if_neg HM2.out, List.append_nil]; exact y2⟩, y3, Below.trans HBW.out (Below.mono HX2.out (by omega)), HKF.out.trans (keeps_ext HX2.out), by omega⟩
    · have q9 : (e.kind != 9) = true := bne_iff_ne.2 h9
      have H9 := Lib.hid h9
      clear h9
      gi_wp2
      exact ⟨KeepsFrom.refl _ _, Below.refl _ _, sh_more HP.out hle' H9.out, hb⟩
  case done =>
    rintro D xs W hD rfl ⟨hp, hb⟩ hK
    have HP := Lib.hid hp
    have k0 := b0.below hb (by omega)
    clear hp
    gi_wp2
    have hkd := ((KeepsOthers.setCell W ⟨w.heap.size, 0, none⟩ (.slice none 0 0)).from W0.heap.size).same D _ hD hK rfl
    refine ⟨by simp, .inl ⟨_, _, rfl, run_takeDeferred hkd, ?_⟩⟩
    have hg := grownBy_putObj' (W.setCell ⟨w.heap.size, 0, none⟩ (.slice none 0 0)) D (.deferred none)
    have hrow : ∀ r, some D = some r → ∃ o : Obj, (W.setCell ⟨w.heap.size, 0, none⟩ (.slice none 0 0)).heap[r]? = some o ∧ o.isCells = false := fun r e => by cases e; exact ⟨_, hkd, rfl⟩
    have hxW : Ext w (W.setCell ⟨w.heap.size, 0, none⟩ (.slice none 0 0)) := Ext.setCell (show Ext w W from Below.trans hx0 (Below.mono hb (by omega))) (by show w.heap.size ≤ w.heap.size; omega) _
    refine ⟨_, results_c (v := .slice none 0 0) rfl rfl (block_grown (b := w.heap.size) (cs := #[.slice none 0 0]) inferInstance hg hrow), .slice none 0 0, rfl, ?_, ExtOf.of (ext_grown hxW hg (fun r e => by cases e; omega))⟩
    rw [sh_none HP.out]
    exact Own.nil _
  case stop =>
    rintro D c pre W hD ⟨k, hk, rfl⟩ ⟨rfl, hx⟩ hK
    gi_wp2
    have hg := grownBy_putObj' W D (.deferred none)
    have hrow : ∀ r, some D = some r → ∃ o : Obj, W.heap[r]? = some o ∧ o.isCells = false := fun r e => by cases e; exact ⟨_, hK, rfl⟩
    obtain ⟨pre', x, v, hpx, hno, hyes, k1, k2, hxW⟩ := hx
    refine ⟨by simp, .inl ⟨_, _, rfl, run_takeDeferred hK, ?_⟩⟩
    refine ⟨_, results_c rfl rfl (block_grown k1 hg hrow), v, rfl, ?_, ExtOf.of (ext_grown hxW hg (fun r e => by cases e; omega))⟩
    rw [sh_some hpx hno hyes]
    exact Own.grown k2 hg hrow
end Go.Proofs.YtjfohapnjnopfaaGreatDoor
end
