/-
  Chapter 61: the program's families.
-/
import Derived.Test.YtjfohapnjnopfaaGreatDoorR28
import Derived.Test.YtjfohapnjnopfaaGreatDoorLC
import Derived.Test.YtjfohapnjnopfaaGreatDoorMA
import Derived.Deep.DeepMust
import Derived.Deep.DeepCutAuto
set_option linter.unusedVariables false
set_option linter.unusedSimpArgs false
namespace Go.Proofs.YtjfohapnjnopfaaGreatDoor
open Go.RowKit RepM

attribute [local go_sem] ExtOf.cell ExtOf.frozen Block.cell Block.frozen ExtB.cell ExtB.frozen alloc_cell alloc_frozen
/-- which groups a number is in, as far as they have been gone through: the first i, and of the next one the first k members -/
def OfI (G : Nat → List Int) (i k : Nat) (a : Int → List Int) : Prop :=
  (∀ x, ∀ y ∈ a x, ∃ j : Nat, y = (j : Int) ∧ ((j < i ∧ x ∈ G j) ∨ (j = i ∧ x ∈ (G i).take k))) ∧ ∀ x j, ((j < i ∧ x ∈ G j) ∨ (j = i ∧ x ∈ (G i).take k)) → (j : Int) ∈ a x
theorem OfI.zero (G : Nat → List Int) : OfI G 0 0 (fun _ => []) := ⟨(fun x y hy => by simp at hy), (fun x j h => by rcases h with ⟨h, _⟩ | ⟨_, h⟩ <;> simp at h)⟩
theorem OfI.next {G : Nat → List Int} {i : Nat} {a : Int → List Int} {k : Nat} (h : OfI G i k a) (hk : (G i).length ≤ k) : OfI G (i + 1) 0 a := by
  have e : (G i).take k = G i := List.take_of_length_le hk
  refine ⟨fun x y hy => ?_, fun x j hj => ?_⟩
  · obtain ⟨j, rfl, h1⟩ := h.1 x y hy
    refine ⟨j, rfl, .inl ?_⟩
    rcases h1 with ⟨h1, h2⟩ | ⟨rfl, h2⟩
    · exact ⟨by omega, h2⟩
    · rw [e] at h2; exact ⟨by omega, h2⟩
  · refine h.2 x j ?_
    rcases hj with ⟨h1, h2⟩ | ⟨_, h2⟩
    · by_cases e1 : j = i
      · subst e1; right; rw [e]; exact ⟨rfl, h2⟩
      · left; exact ⟨by omega, h2⟩
    · simp at h2
theorem OfI.push {G : Nat → List Int} {i k : Nat} {a : Int → List Int} (h : OfI G i k a) (hk : k < (G i).length) : OfI G i (k + 1) (fun y => if y = (G i)[k] then a (G i)[k] ++ [(i : Int)] else a y) := by
  have e : (G i).take (k + 1) = (G i).take k ++ [(G i)[k]] := List.take_succ_eq_append_getElem hk
  refine ⟨fun x y hy => ?_, fun x j hj => ?_⟩
  · by_cases ex : x = (G i)[k]
    · simp only [if_pos ex] at hy
      rw [← ex] at hy
      rcases List.mem_append.1 hy with hy | hy
      · obtain ⟨j, rfl, h1⟩ := h.1 x y hy
        refine ⟨j, rfl, ?_⟩
        rcases h1 with h1 | ⟨h1, h2⟩
        · exact .inl h1
        · exact .inr ⟨h1, by rw [e]; exact List.mem_append.2 (.inl h2)⟩
      · rw [List.mem_singleton] at hy
        exact ⟨i, hy, .inr ⟨rfl, by rw [e]; exact List.mem_append.2 (.inr (List.mem_singleton.2 ex))⟩⟩
    · simp only [if_neg ex] at hy
      obtain ⟨j, rfl, h1⟩ := h.1 x y hy
      refine ⟨j, rfl, ?_⟩
      rcases h1 with h1 | ⟨h1, h2⟩
      · exact .inl h1
      · exact .inr ⟨h1, by rw [e]; exact List.mem_append.2 (.inl h2)⟩
  · by_cases ex : x = (G i)[k]
    · simp only [if_pos ex]
      rw [← ex]
      rcases hj with hj | ⟨rfl, h2⟩
      · exact List.mem_append.2 (.inl (h.2 x j (.inl hj)))
      · simp
    · simp only [if_neg ex]
      refine h.2 x j ?_
      rcases hj with hj | ⟨hj, h2⟩
      · exact .inl hj
      · rw [e] at h2
        rcases List.mem_append.1 h2 with h2 | h2
        · exact .inr ⟨hj, h2⟩
        · exact absurd (List.mem_singleton.1 h2) ex
/-- what a family's search hands back -/
def FamRet (w : World) (l : List Ev) (b : Int) (en : Ending) (w' : World) : Prop :=
  ∃ (fb : Nat) (F : List Int), en = .returned (.map (some fb)) ∧ w.heap.size ≤ fb ∧ FamS w' fb F.length (fun x => decide (x ∈ F)) ∧ FamP l b F ∧ (∀ n, n ∈ F ↔ Fam num l b n) ∧ ∃ m : ExtOf w, w' = m.val
theorem Own.pop {base : Nat} {w : World} {q : Option Addr} {c : Nat} {L1 : List Int} {n : Int} (h : Own encI 1 3 base w (.slice q (L1 ++ [n]).length c) (L1 ++ [n])) : ∃ gL, q = some ⟨gL, 0, none⟩ ∧ L1.length + 1 ≤ c ∧ Own encI 1 3 base w (.slice q L1.length c) L1 ∧ w.cell? ⟨gL, L1.length, none⟩ = some (.int .i64 n) := by
  have hs := Own.slice encI_len h
  have hfl : (L1.flatMap encI).length = L1.length * 1 := flatMap_len encI_len
  rcases h.2 with ⟨h1, _⟩ | ⟨g, cap, cur, he, hbg, hgg, hnc, hcm, hcs, htake⟩
  · simp at h1
  · simp only [Value.slice.injEq] at he
    obtain ⟨rfl, _, rfl⟩ := he
    refine ⟨g, rfl, by simpa using hnc, ⟨hfl, .inr ⟨g, _, cur, rfl, hbg, hgg, by simp at hnc; omega, hcm, hcs, ?_⟩⟩, ?_⟩
    · have := congrArg (List.take (L1.length * 1)) htake
      rw [List.take_take, List.flatMap_append, List.take_left' hfl, Nat.min_eq_left (by simp)] at this
      exact this
    · obtain ⟨b', off', e, hc⟩ := IntS.elem hs (i := L1.length) (by simp)
      simp only [Option.some.injEq, Addr.mk.injEq] at e
      obtain ⟨rfl, rfl, _⟩ := e
      simpa using hc
/-- the groups, as they were at w0 but for those that were struck: the block lies at w, the numbers at w0 -/
structure GrpsR (w0 w : World) (g : Nat) (gs : List SlT) (ll : Nat → List Int) (n : Nat) : Prop where
  blk : Block w g (gs.map SlT.v).toArray
  len : gs.length = n
  ints : ∀ i (h : i < gs.length), IntS w0 gs[i].v (ll i)
  apart : ∀ i (h : i < gs.length), ll i ≠ [] → ∀ q, gs[i].p = some q → q.block ≠ g
theorem GrpsR.of {w : World} {g : Nat} {gs : List SlT} {ll : Nat → List Int} {n : Nat} (h : GrpsS w g gs ll n) : GrpsR w w g gs ll n := ⟨h.blk, h.len, h.ints, h.apart⟩
theorem GrpsR.move {w0 w w' : World} {g : Nat} {gs : List SlT} {ll : Nat → List Int} {n : Nat} (h : GrpsR w0 w g gs ll n) (hb : Block w' g (gs.map SlT.v).toArray) : GrpsR w0 w' g gs ll n := ⟨hb, h.len, h.ints, h.apart⟩
theorem grow_of {w0 w : World} {g : Nat} (hg : w0.grownBy w (some g)) : Grow w0 (.slice (some ⟨g, 0, none⟩) 1 1) w (.slice (some ⟨g, 0, none⟩) 1 1) :=
  ⟨fun q hq hne => hg.block q hq (fun e => hne (by cases e; rfl)), .inl rfl, hg.size⟩
theorem GrpsR.to {w0 w : World} {g : Nat} {gs : List SlT} {ll : Nat → List Int} {n : Nat} (h : GrpsR w0 w g gs ll n) (hg : w0.grownBy w (some g)) {i : Nat} (hi : i < gs.length) : IntS w gs[i].v (ll i) :=
  IntS.keep (grow_of hg) (h.ints i hi) (fun hne q hq e' => h.apart i hi hne q hq (by have : g = q.block := by simpa [Value.ownBlock] using e'
                                                                                     omega))
theorem GrpsR.clear {w0 w W : World} {g j : Nat} {gs : List SlT} {ll : Nat → List Int} {n : Nat} (h : GrpsR w0 w g gs ll n) (hb : Block W g (gs.map SlT.v).toArray) : GrpsR w0 (W.setCell ⟨g, j, none⟩ (.slice none 0 0)) g (gs.set j nilT) (fun i => if i = j then [] else ll i) n := by
  refine ⟨blk_set (so := nilT) hb, by rw [List.length_set]; exact h.len, fun i hi' => ?_, fun i hi' => ?_⟩
  · rw [List.length_set] at hi'
    by_cases e : i = j
    · subst e
      simp only [List.getElem_set_self, if_true]; exact SliceOf.nil _
    · simp only [List.getElem_set_ne (Ne.symm e), if_neg e]; exact h.ints i hi'
  · rw [List.length_set] at hi'
    by_cases e : i = j
    · subst e
      simp only [if_true]; exact fun hne => absurd rfl hne
    · simp only [List.getElem_set_ne (Ne.symm e), if_neg e]; exact h.apart i hi'
theorem GrpsR.congr {w0 w : World} {g : Nat} {gs : List SlT} {ll ll' : Nat → List Int} {n : Nat} (h : GrpsR w0 w g gs ll n) (he : ∀ i, ll i = ll' i) : GrpsR w0 w g gs ll' n := by
  obtain rfl : ll = ll' := funext he
  exact h
theorem flat_encI (l : List Int) : l.flatMap encI = l.map (Value.int .i64) := by
  induction l with
  | nil => rfl
  | cons a l ih => rw [List.flatMap_cons, ih]; rfl
theorem row_own {base : Nat} {W : World} {v : Value} {l : List Int} (h : W.ownsInts base 3 .i64 v l) : Own encI 1 3 base W v l := by
  show W.ownsRow base 3 1 v l.length (l.flatMap encI)
  rw [flat_encI]; exact h.1
theorem Own.heap {α : Type} {enc : α → List Value} {k E base : Nat} {w w' : World} {v : Value} {l : List α} (h : Own enc k E base w v l) (hh : ∀ q, v.ownBlock = some q → w'.heap[q]? = w.heap[q]?) : Own enc k E base w' v l := by
  refine ⟨h.1, ?_⟩
  rcases h.2 with hn | ⟨g, cap, cur, rfl, hb, hgg, rest⟩
  · exact .inl hn
  · exact .inr ⟨g, cap, cur, rfl, hb, by rw [hh g rfl]; exact hgg, rest⟩
theorem grown_of_ext {w w' : World} {row : Option Nat} (h : Ext w w') : w.grownBy w' row := ⟨h.os, h.tape, h.output, h.size, fun q hq _ => h.block q hq⟩
theorem grown_put {S w2 W : World} {g j : Nat} {u : Value} (h : S.grownBy w2 (some g)) (hb : Below S.heap.size w2 W) : S.grownBy (W.setCell ⟨g, j, none⟩ u) (some g) :=
  ⟨hb.os.trans h.os, hb.tape.trans h.tape, hb.output.trans h.output, by have := h.size; have := hb.size; simp [World.setCell]; omega, fun q hq hne => (heap_step (Ext.refl _) (by have := h.size; have := hb.size; omega) (fun e => hne (by rw [e]))).trans ((hb.block q hq).trans (h.block q hq hne))⟩
theorem group_lt {l : List Ev} {i : Nat} {n : Int} (h : n ∈ group num l i) : i < l.length := by
  unfold group at h
  cases hi : l[i]? with
  | none => rw [hi] at h; cases h
  | some e => exact (List.getElem?_eq_some_iff.1 hi).1
/-- at its end the map leads a number to the groups that it is in -/
theorem OfI.all {l : List Ev} {a : Int → List Int} {N : Nat} (hN : N = l.length) (h : OfI (group num l) N 0 a) (x : Int) : (∀ i : Nat, (i : Int) ∈ a x ↔ x ∈ group num l i) ∧ ∀ y ∈ a x, ∃ j : Nat, y = (j : Int) ∧ j < l.length ∧ x ∈ group num l j := by
  subst hN
  refine ⟨fun i => ⟨fun hi => ?_, fun hi => h.2 x i (.inl ⟨group_lt hi, hi⟩)⟩, fun y hy => ?_⟩
  · obtain ⟨j, hj, h1⟩ := h.1 x _ hi
    obtain rfl : i = j := by omega
    rcases h1 with h1 | h1
    · exact h1.2
    · simp at h1
  · obtain ⟨j, hj, h1⟩ := h.1 x _ hy
    rcases h1 with h1 | h1
    · exact ⟨j, hj, h1.1, h1.2⟩
    · simp at h1
theorem grown_below {S w2 W : World} {B : Nat} {row : Option Nat} (h : S.grownBy w2 row) (hb : Below B w2 W) (hB : S.heap.size ≤ B) : S.grownBy W row :=
  ⟨hb.os.trans h.os, hb.tape.trans h.tape, hb.output.trans h.output, Nat.le_trans h.size hb.size, fun q hq hne => (hb.block q (by omega)).trans (h.block q hq hne)⟩
theorem dec_snoc {F : List Int} {m : Int} (x : Int) : (decide (x = m) || decide (x ∈ F)) = decide (x ∈ F ++ [m]) := by
  simp [Bool.decide_or, Bool.or_comm]
/-- the search for a family, in memory -/
structure DfsR (l : List EvP) (b : Int) (w Wf : World) (g fb LB : Nat) (F L : List Int) (gone : Nat → Bool) (gs : List SlT) (vl : Value) (wr : World) : Prop where
  own : Own encI 1 3 LB wr vl L
  fam : FamS wr fb F.length (fun x => decide (x ∈ F))
  dfs : DfsI (evs l) b F L gone
  grp : GrpsR Wf wr g gs (fun i => if gone i then [] else group num (evs l) i) l.length
  ext : Ext w wr
  same : Wf.grownBy wr (some g)
  len : L.length ≤ F.length
set_option maxHeartbeats 3200000 in
set_option maxRecDepth 20000 in
theorem pfamily_any (l : List EvP) (v : Value) (b : Int) (w : World) (h : PastS w v l) (ht : Tab w) (hb : -1099511627776 ≤ b ∧ b ≤ 1099511627776) : Calls Tryz.prog 45 #[v, .int .i64 b] w (FamRet w (evs l) b) := by
  obtain ⟨iE, hiE, hE0, hE1, hE2⟩ := info_parts infoInt
  obtain ⟨p, cap, rfl, hc1, hc2, hc3⟩ := EvsS.form h.ev
  unfold maxLen at hc2
  have hlen := h.len
  have H := Lib.hid h
  clear h
  have HT := Lib.hid ht
  have HB := Lib.hid hb
  clear ht hb
  have HPG := Lib.hid (pgroups_any l (.slice p l.length cap) w H.out HT.out)
  have hmm : ∀ W : World, (Instr.makeMap 121 none).run Tryz.prog W = .ok (.map (some W.heap.size)) (W.alloc (.map #[] 0)) := fun W => by kernel_rfl
  go_enter Tryz.func45, Tryz.ntmps45
  go_wp2_with (go_at_call 77; refine HPG.out.mono ?_; rintro en w' ⟨rfl, ⟨gs, hgs⟩, ng, rfl⟩)
  have hxw := ng.ext
  have HXW := Lib.hid hxw
  generalize ng.val = Wm at *
  clear hxw ng
  have HGS := Lib.hid hgs
  have HLG := Lib.hid (fun i => group_len (l := evs l) (evs_len H.out.ok) i)
  have HRG : Hid (∀ i n, n ∈ group num (evs l) i → -1099511627776 ≤ n ∧ n ≤ 1099511627776) := Lib.hid (fun i n hn => by
    obtain ⟨e, he, hen⟩ := group_mem hn
    obtain ⟨x, hx, rfl⟩ := List.mem_map.1 he
    obtain ⟨k, hk, rfl⟩ := List.getElem_of_mem hen
    exact ok_num (H.out.ok x hx) hk)
  obtain ⟨g, hg⟩ : ∃ g, g = w.heap.size := ⟨_, rfl⟩
  rw [← hg] at HGS ⊢
  have HGW : Hid (g = w.heap.size) := Lib.hid hg
  have hgm : g < Wm.heap.size := HGS.out.blk.lt
  clear hg hgs
  obtain ⟨mb, hmb⟩ : ∃ mb, mb = Wm.heap.size := ⟨_, rfl⟩
  have HM0 : Hid (GMap Tryz.prog 3 (mb + 1) 3 (Wm.alloc (.map #[] 0)) mb 0 (fun _ => [])) := Lib.hid (by rw [hmb]; exact GMap.made Wm)
  have HX0 : Hid (Ext Wm (Wm.alloc (.map #[] 0))) := Lib.hid ((Ext.refl _).alloc _)
  rw [← hmb]
  have HMB := Lib.hid hmb
  clear hmb
  go_loopw [28] (fun vi wr => ∃ (i N : Nat) (a : Int → List Int), i ≤ l.length ∧ vi = .int .i64 i ∧ GMap Tryz.prog 3 (mb + 1) 3 wr mb N a ∧ OfI (group num (evs l)) i 0 a ∧ N ≤ 360000 * i ∧ Ext Wm wr) (fun i _ => l.length - (intOf i).toNat)
  case atStart => exact ⟨0, 0, _, by omega, rfl, HM0.out, OfI.zero _, by omega, HX0.out⟩
  case round =>
    obtain ⟨i, N, a, hi, rfl, hgm1, hof, hN, hx⟩ := hrel
    have HGM := Lib.hid hgm1
    have HOF := Lib.hid hof
    have HX := Lib.hid hx
    clear hgm1 hof hx
    by_cases hlt : i < l.length
    · have hgl := HGS.out.len
      obtain ⟨⟨sp, sn, sc⟩, hsl⟩ : ∃ s, s = gs[i] := ⟨_, rfl⟩
      have hgi := HGS.out.ints i (by omega)
      rw [← hsl] at hgi
      obtain ⟨qn, cn, hv, hn1, hn2, hn3⟩ := IntS.form hgi
      obtain ⟨rfl, rfl, rfl⟩ : sp = qn ∧ sn = (group num (evs l) i).length ∧ sc = cn := by simpa [SlT.v] using hv
      have HGI := Lib.hid hgi
      have hbk : Block wr g (gs.map SlT.v).toArray := HGS.out.blk.ext HX.out
      have ck : wr.cell? ⟨g, i, none⟩ = some (.slice sp (group num (evs l) i).length sc) := by
        rw [Block.cell i]
        simp only [List.getElem?_toArray, List.getElem?_map]
        rw [List.getElem?_eq_getElem (by omega), ← hsl]; rfl
      have og := Old.of_cell ck
      have hgl2 := HLG.out i
      obtain ⟨G, hG⟩ : ∃ G, G = group num (evs l) i := ⟨_, rfl⟩
      rw [← hG] at ck HGI hn1 hgl2
      have HGE := Lib.hid hG
      clear hv hgi hsl hG
      go_wp2_with fail
      go_loopw [35] (fun vj wr => ∃ (k N2 : Nat) (a2 : Int → List Int), k ≤ G.length ∧ vj = .int .i64 k ∧ GMap Tryz.prog 3 (mb + 1) 3 wr mb N2 a2 ∧ OfI (group num (evs l)) i k a2 ∧ N2 ≤ 360000 * i + k ∧ Ext Wm wr) (fun j _ => G.length - (intOf j).toNat)
      case atStart => exact ⟨0, N, a, by omega, rfl, HGM.out, HOF.out, by omega, HX.out⟩
      case round =>
        obtain ⟨k, N2, a2, hk, rfl, hgm2, hof2, hN2, hx2⟩ := hrel
        have HX2 := Lib.hid hx2
        have HOF2 := Lib.hid hof2
        clear hof2
        by_cases hltk : k < G.length
        · obtain ⟨bb, off, rfl, hel⟩ := IntS.elem (IntS.ext HGI.out hx2) hltk
          have obb := Old.of_cell hel
          have hrk := HRG.out i G[k] (by rw [← HGE.out]; exact List.getElem_mem hltk)
          have HPU := Lib.hid (HOF2.out.push (by rw [← HGE.out]; exact hltk))
          simp only [← HGE.out] at HPU
          generalize hx3 : G[k] = x at *
          have hlk := GMap.look hgm2 Tryz.underlying3 Tryz.underlying121 (fun W => by kernel_rfl) (by unfold maxLen; omega) (x := x) (wf_small hrk)
          obtain ⟨v, hrun, hoi, hal, hback⟩ := hlk
          have HBK := Lib.hid hback
          have HOI := Lib.hid hoi
          have hmlt := hgm2.lt
          have hwi : (Lit.int .i64 (i : Int)).wf = true := wf_small (by omega)
          have HWI := Lib.hid hwi
          clear hback hoi hwi hrk hx3
          have HNW : Hid (∀ (j : Nat) (u : Value), ([Value.int .i64 (i : Int)] : List Value)[j]? = some u → (wr.alloc (.cells #[.int .i64 (i : Int)] 3)).cell? ((⟨wr.heap.size, 0, none⟩ : Addr).add j) = some u) := Lib.hid (by
            intro j u hj
            cases j with
            | zero =>
              simp at hj
              subst hj
              have := (Block.new wr #[.int .i64 (i : Int)] 3).cell (i := 0)
              simp [Addr.add]
            | succ j => simp at hj)
          have hone : ∀ u ∈ ([Value.int .i64 (i : Int)] : List Value), u.oneCell' = true := fun u hu => by rw [List.mem_singleton] at hu; subst hu; rfl
          go_wp2_with (first | (at_builtin; refine wpList_append_own_at _ rfl _ _ 32 rfl (mb + 1) 3 iE (.int .i64 0) 1 8 Tryz.underlying32 hiE hE0 hE1 hE2 rfl (by decide) v (a2 x).length ((a2 x).map (Value.int .i64)) rfl (HOI.out.alloc _).1 ⟨wr.heap.size, 0, none⟩ 1 1 [.int .i64 (i : Int)] rfl rfl HNW.out hone (by unfold maxLen; omega) (by omega) (by simp; omega) ?_; intro v7 w7 ho7 hg7 hnil7 hat7; (have HO7 := Lib.hid ho7); (have HG7 := Lib.hid hg7); (have HA7 := Lib.hid hat7); clear ho7 hg7 hat7 hnil7) | (at_mapUpdate; (obtain ⟨W2, hr2, hgm3, hg3⟩ := HBK.out w7 v7 i ((World.grownBy_alloc wr _ v.ownBlock).andThen HG7.out (fun j hj => .inr hj)) (World.ownsInts.appended HOI.out HO7.out HWI.out) (HA7.out.imp id (fun h => ⟨_, h, by simp⟩))); (refine wl_mupd rfl rfl rfl hr2 ?_); (have HG3 := Lib.hid hg3); (have HM3 := Lib.hid hgm3); clear hr2 hg3 hgm3))
          go_roundw
          case rel =>
            refine ⟨k + 1, N2 + 1, _, by omega, by first | rfl | go_num, HM3.out, HPU.out, by omega, ?_⟩
            have hmw := HMB.out
            refine ext_grown (ext_grown HX2.out ((World.grownBy_alloc wr _ v.ownBlock).andThen HG7.out (fun j hj => .inr hj)) (fun r e => ?_)) HG3.out (fun r e => by cases e; omega)
            have := (HOI.out.1.lt r e).1
            omega
          case measure => simp [intOf]; omega
        · obtain rfl : k = G.length := by omega
          go_wp2_with fail
          go_roundw
          case rel => exact ⟨i + 1, N2, a2, by omega, by first | rfl | go_num, hgm2, HOF2.out.next (by rw [← HGE.out]; omega), by omega, HX2.out⟩
          case measure => simp [intOf]; omega
    · obtain rfl : i = l.length := by omega
      obtain ⟨Wf, hWf⟩ : ∃ Wf, Wf = wr := ⟨_, rfl⟩
      have hmb2 : ∀ W : World, (Instr.makeMap 71 none).run Tryz.prog W = .ok (.map (some W.heap.size)) (W.alloc (.map #[] 0)) := fun W => by kernel_rfl
      obtain ⟨W2, hr2, hs2, hg2⟩ := SMap.store (kv := kvI) (SMap.made (P := Tryz.prog) (k := 3) wr) (Go.Maps.int_keyed Tryz.underlying3) kvI_inj Tryz.underlying71 (by unfold maxLen; omega) (x := b) (key_int HB.out)
      simp only [kvI] at hr2
      have HS2 := Lib.hid hs2
      have HG2 := Lib.hid hg2
      clear hs2 hg2 hWf Wf
      go_wp2_with fail
      have hW2s : wr.heap.size + 1 ≤ W2.heap.size := by have := HG2.out.size; simpa using this
      have hfb2 : wr.heap.size < W2.heap.size := by omega
      have HD0 : Hid (DfsR l b w wr g wr.heap.size W2.heap.size [b] [b] (fun _ => false) gs (.slice (some ⟨W2.heap.size, 0, none⟩) 1 1) (W2.alloc (.cells #[.int .i64 b] 3))) := Lib.hid (by
        have hx2 : Ext wr W2 := ⟨HG2.out.os, HG2.out.tape, HG2.out.output, by omega, fun q hq => (HG2.out.block q (by simp; omega) (by simp; omega)).trans (Below.heap_alloc wr _ q hq)⟩
        refine ⟨Own.made, ?_, DfsI.one _ _, ?_, ?_, ?_, ?_⟩
        · refine SMap.ext (SMap.congr HS2.out (fun x => by simp)) ((Ext.refl _).alloc _)
        · exact ((GrpsR.of (HGS.out.ext HX.out)).move (HGS.out.blk.ext ((HX.out.trans hx2).trans ((Ext.refl _).alloc _)))).congr (fun i => by simp)
        · exact HXW.out.trans (HX.out.trans (hx2.trans ((Ext.refl _).alloc _)))
        · have h3 := hx2.trans ((Ext.refl W2).alloc (.cells #[.int .i64 b] 3))
          exact ⟨h3.os, h3.tape, h3.output, h3.size, fun q hq _ => h3.block q hq⟩
        · simp)
      obtain ⟨fb, hfb⟩ : ∃ fb, fb = wr.heap.size := ⟨_, rfl⟩
      obtain ⟨LB, hLB⟩ : ∃ LB, LB = W2.heap.size := ⟨_, rfl⟩
      generalize wr = Wf at *
      rw [← hfb, ← hLB] at HD0
      rw [← hfb, ← hLB]
      have HFB := Lib.hid hfb
      have HLB := Lib.hid hLB
      clear hfb hLB hr2 hmb2 hmm
      go_loopw [12] (fun vl wr => ∃ (F L : List Int) (gone : Nat → Bool) (gs2 : List SlT), DfsR l b w Wf g fb LB F L gone gs2 vl wr) (fun vl wr => least fun m => ∃ (F L : List Int) (gone : Nat → Bool) (gs2 : List SlT), DfsR l b w Wf g fb LB F L gone gs2 vl wr ∧ 2 * (601001 - F.length) + L.length ≤ m)
      case atStart => exact ⟨_, _, _, _, HD0.out⟩
      case round =>
        have hls := least_spec (R := fun m => ∃ (F L : List Int) (gone : Nat → Bool) (gs2 : List SlT), DfsR l b w Wf g fb LB F L gone gs2 u12 wr ∧ 2 * (601001 - F.length) + L.length ≤ m) (by obtain ⟨F, L, gone, gs2, h⟩ := hrel; exact ⟨_, F, L, gone, gs2, h, Nat.le_refl _⟩)
        obtain ⟨F, L, gone, gs2, hR, hle⟩ := hls
        have HLE := Lib.hid hle
        have HR := Lib.hid hR
        obtain ⟨q, cL, rfl⟩ := Own.form2 hR.own
        clear hle hR hrel
        rcases List.eq_nil_or_concat L with rfl | ⟨L1, n, rfl⟩
        · go_wp2_with fail
          go_ret
          refine ⟨fb, F, rfl, ?_, HR.out.fam, HR.out.dfs.p, HR.out.dfs.done, ExtOf.of HR.out.ext⟩
          rw [HFB.out]
          exact Nat.le_trans HXW.out.size HX.out.size
        · rw [List.concat_eq_append] at *
          obtain ⟨gL, rfl, hcL1, hown1, hcl⟩ := Own.pop HR.out.own
          have hFl := FamP.len HR.out.dfs.p (evs_len H.out.ok)
          have hLl := HR.out.len
          simp only [List.length_map, List.length_append, List.length_singleton] at hFl hLl
          have hnF : n ∈ F := HR.out.dfs.left n (by simp)
          have hnw := univ_wide HB.out (evs_ok H.out.ok) (fam_univ (HR.out.dfs.p.mem n hnF))
          have HOW := Lib.hid hown1
          have HNW := Lib.hid hnw
          have ogl := Old.of_cell hcl
          clear hown1 hnw
          have hww : wideN n := by have := HNW.out; unfold wideN; omega
          have HLOG := Lib.hid (plog_any l (.slice p l.length cap) n wr (H.out.ext HR.out.ext) hww)
          clear hww
          obtain ⟨o, ho⟩ : ∃ o, o = log num (evs l) n := ⟨_, rfl⟩
          rw [← ho] at HLOG
          have HO := Lib.hid ho
          clear ho
          simp only [undV] at HLOG
          go_upto_if 74 with (go_at_call 43; refine HLOG.out.mono ?_; rintro en w' ⟨rfl, nl, rfl⟩)
          go_cut [14] (fun s14 wx => ∃ mo : List Int, (∀ m, m ∈ mo ↔ RepM.up num (evs l) n = some m) ∧ mo.length ≤ 1 ∧ Own encI 1 3 wr.heap.size wx s14 mo ∧ Ext wr wx)
          case first =>
            rcases o with _ | lg
            · have HU : Hid (RepM.up num (evs l) n = none) := Lib.hid (up_of_none HO.out.symm)
              go_wp2_with fail
              go_meet
              exact ⟨[], fun m => by rw [HU.out]; simp, by simp, Own.nil _, nl.ext⟩
            · obtain ⟨em, hmk⟩ := maker_of_log HO.out.symm
              have HMK := Lib.hid hmk
              have HPM := Lib.hid (pmaker_any l (.slice p l.length cap) n nl.val (H.out.ext (HR.out.ext.trans nl.ext)))
              by_cases h4 : em.kind = 4
              · have q4 : (em.kind != 4) = false := bne_eq_false_iff_eq.2 h4
                have HU : Hid (RepM.up num (evs l) n = none) := Lib.hid (up_of_saw hmk h4)
                clear h4 hmk
                go_wp2_with (first | ((with_reducible apply wl_store' lwEv); (· (first | exact wanted_none rfl | exact wanted_some rfl rfl rfl)); (· rfl); (· rfl); (· infer_instance); (· rfl); (· rfl); (· (simp [Value.oneCell', SlT.v])); try simp only [setRow_alloc, setRow_new, setRow_new1, setRow_new2, setRow_new11, setRow_new111]) | ((with_reducible apply wl_load' lwEv); (· (first | exact wanted_none rfl | exact wanted_some rfl rfl rfl)); (· rfl); (· infer_instance); (· rfl)) | (go_at_call 73; refine HPM.out.mono ?_; rintro en w' ⟨hmr, n2, rfl⟩; (obtain ⟨k, hk, hmk2, rfl⟩ := hmr.resolve_left (fun h => by have := HMK.out; rw [h.1] at this; cases this)); (obtain ⟨⟨e0, sl⟩, he⟩ : ∃ z, z = l[k] := ⟨_, rfl⟩); rw [← he] at hmk2 ⊢; (obtain rfl : e0 = em := by (have := HMK.out; rw [hmk2] at this; exact Option.some.inj this)); clear hmk2 he; obtain ⟨s1, s2, s3⟩ := sl; simp only [evC, SlT.v]))
                go_meet
                exact ⟨[], fun m => by rw [HU.out]; simp, by simp, Own.nil _, by repeat' (first | (with_reducible exact Ext.refl _) | (with_reducible exact ExtOf.ext _) | (with_reducible refine Ext.trans ?_ (ExtOf.ext _)) | (with_reducible refine Ext.alloc ?_ _) | (with_reducible refine Ext.drew ?_) | (with_reducible refine Ext.setCell ?_ ?_ _) | (with_reducible refine Ext.setRow ?_ ?_ _) | (with_reducible exact HX.out) | (with_reducible refine Ext.trans ?_ HX.out) | (with_reducible refine Ext.below ?_ (Nat.le_refl _) _) | omega | (simp; done) | (simp; omega))⟩
              · have q4 : (em.kind != 4) = true := bne_iff_ne.2 h4
                have HU0 := up_of HO.out.symm hmk h4
                obtain ⟨um, hum⟩ : ∃ um, um = num em.item := ⟨_, rfl⟩
                rw [← hum] at HU0
                have HU := Lib.hid HU0
                have HNU : Hid (∀ W : World, Calls Tryz.prog 42 #[.string em.item] W fun e w' => e = .returned (.int .i64 um) ∧ ∃ n : ExtOf W, w' = n.val) := Lib.hid (fun W => by have := pnum_any em.item W; rw [← hum] at this; exact this)
                clear h4 hmk hum HU0
                go_wp2_with (first | ((with_reducible apply wl_store' lwEv); (· (first | exact wanted_none rfl | exact wanted_some rfl rfl rfl)); (· rfl); (· rfl); (· infer_instance); (· rfl); (· rfl); (· (simp [Value.oneCell', SlT.v])); try simp only [setRow_alloc, setRow_new, setRow_new1, setRow_new2, setRow_new11, setRow_new111]) | ((with_reducible apply wl_load' lwEv); (· (first | exact wanted_none rfl | exact wanted_some rfl rfl rfl)); (· rfl); (· infer_instance); (· rfl)) | (go_at_call 73; refine HPM.out.mono ?_; rintro en w' ⟨hmr, n2, rfl⟩; (obtain ⟨k, hk, hmk2, rfl⟩ := hmr.resolve_left (fun h => by have := HMK.out; rw [h.1] at this; cases this)); (obtain ⟨⟨e0, sl⟩, he⟩ : ∃ z, z = l[k] := ⟨_, rfl⟩); rw [← he] at hmk2 ⊢; (obtain rfl : e0 = em := by (have := HMK.out; rw [hmk2] at this; exact Option.some.inj this)); clear hmk2 he; obtain ⟨s1, s2, s3⟩ := sl; simp only [evC, SlT.v]) | (go_at_call 42; refine (HNU.out _).mono ?_; rintro en w' ⟨rfl, n3, rfl⟩) | (at_builtin; refine wl_append1g (enc := encI) (k := 1) (E := 3) (base := wr.heap.size) (l := []) (y := um) Tryz.underlying32 hiE hE0 hE1 hE2 rfl (by decide) encI_len encI_one rfl rfl (Own.nil _) inferInstance rfl (by unfold maxLen; simp) (by simp) (by have := nl.size; have := n2.size; have := n3.size; simp at *; omega) ?_; intro v7 n7 ho7 hk7))
                go_meet
                exact ⟨[um], fun m => by rw [HU.out]; simp [eq_comm], by simp, ho7, Below.trans (show Ext wr _ by repeat' (first | (with_reducible exact Ext.refl _) | (with_reducible exact ExtOf.ext _) | (with_reducible refine Ext.trans ?_ (ExtOf.ext _)) | (with_reducible refine Ext.alloc ?_ _) | (with_reducible refine Ext.drew ?_) | (with_reducible refine Ext.setCell ?_ ?_ _) | (with_reducible refine Ext.setRow ?_ ?_ _) | (with_reducible exact HX.out) | (with_reducible refine Ext.trans ?_ HX.out) | (with_reducible refine Ext.below ?_ (Nat.le_refl _) _) | omega | (simp; done) | (simp; omega))) n7.below⟩
          case rest =>
            obtain ⟨mo, hmo, hml, hown, hxc⟩ := hcut
            have HXC := Lib.hid hxc
            have HOWN := Lib.hid hown
            have hnw2 := HNW.out
            have hgmb : g < mb := by have := HMB.out; omega
            obtain ⟨vj, hoi, hal, hrun⟩ := GMap.reads HGM.out Tryz.underlying3 Tryz.underlying121 (fun W => by kernel_rfl) (by unfold maxLen; omega) (x := n) (wf_small hnw2)
            have hmbf : mb < Wf.heap.size := HGM.out.lt.2
            have HSX : Hid (wr.grownBy wc (some g)) := Lib.hid (grown_of_ext hxc)
            have hrunx := hrun wc ((hxc.block mb (by have := HR.out.same.size; omega)).trans (HR.out.same.block mb hmbf (by simp; omega)))
            have hown2 := row_own hoi
            obtain ⟨hj1, hj2⟩ := OfI.all (N := l.length) (by simp) HOF.out n
            obtain ⟨js, hjs⟩ : ∃ js, js = a n := ⟨_, rfl⟩
            rw [← hjs] at hown2 hal hj1 hj2
            obtain ⟨qj, cj, rfl⟩ := Own.form2 hown2
            have HJ := Lib.hid hown2
            have HJ1 := Lib.hid hj1
            have HJ2 := Lib.hid hj2
            have hjs1 := (Own.slice encI_len hown2)
            clear hown2 hj1 hj2 hoi hrun hjs hxc hown hnw2
            obtain ⟨qm, cm, rfl⟩ := Own.form2 HOWN.out
            have HMO := Lib.hid hmo
            clear hmo hjs1
            obtain ⟨S, hS⟩ : ∃ S, S = wr := ⟨_, rfl⟩
            subst hS
            obtain ⟨B, hB⟩ : ∃ B, B = S.heap.size := ⟨_, rfl⟩
            have HB2 := Lib.hid hB
            rw [← hB] at HOWN
            have hgB : g < B := by have := HR.out.same.size; omega
            have hlenE : (evs l).length = l.length := by simp
            have HLE2 := Lib.hid hlenE
            have hrest := rest_le (evs l).length gone
            rw [hlenE] at hrest
            have hcol : ogl.lt = ogl.lt := rfl
            clear hB hlenE hcol hnF hFl
            go_wp2_with fail
            go_loopw [94, 14] (fun v94 v14 w2 => ∃ (k : Nat) (mo2 : List Int) (gone2 : Nat → Bool) (gs3 : List SlT), k ≤ js.length ∧ v94 = .int .i64 k ∧ MoreI (evs l) n gone js k mo2 gone2 ∧ Own encI 1 3 B w2 v14 mo2 ∧ GrpsR Wf w2 g gs3 (fun i => if gone2 i then [] else group num (evs l) i) l.length ∧ S.grownBy w2 (some g)) (fun v94 _ _ => js.length - (intOf v94).toNat)
            case atStart => exact ⟨0, mo, gone, gs2, by omega, rfl, MoreI.start HMO.out hml, HOWN.out, HR.out.grp.move (HR.out.grp.blk.ext HXC.out), HSX.out⟩
            case round =>
              obtain ⟨k, mo2, gone2, gs3, hk, rfl, hM, ho, hG, hS⟩ := hrel
              have HM := Lib.hid hM
              have HG := Lib.hid hG
              have HS := Lib.hid hS
              have HWS : Hid (Wf.grownBy wr (some g)) := Lib.hid (HR.out.same.andThen hS (fun j e => .inr e))
              have hmlen := hM.len
              rw [HLE2.out] at hmlen
              obtain ⟨q2, c2, rfl⟩ := Own.form2 ho
              have HO := Lib.hid ho
              clear hM hG hS ho
              by_cases hltk : k < js.length
              · obtain ⟨j, hjj, hjl, hjn⟩ := HJ2.out js[k] (List.getElem_mem hltk)
                rw [HLE2.out] at hjl
                have HST := Lib.hid (HM.out.step hltk hjj (by rw [HLE2.out]; exact hjl) hjn (HLG.out j))
                have hjw : IntS wr (.slice qj js.length cj) js := IntS.keep (grow_of HWS.out) (Own.slice encI_len HJ.out) (fun _ q hq e' => by
                  have := Own.base_le HJ.out q hq
                  have : g = q.block := by simpa [Value.ownBlock] using e'
                  omega)
                obtain ⟨bb, off, rfl, hel⟩ := IntS.elem hjw hltk
                rw [hjj] at hel
                have obb := Old.of_cell hel
                have hgl := HG.out.len
                obtain ⟨⟨p3, n3, c3⟩, h3⟩ : ∃ z, z = gs3[j] := ⟨_, rfl⟩
                have hgi : IntS wr gs3[j].v (if gone2 j = true then [] else group num (evs l) j) := HG.out.to HWS.out (i := j) (by omega)
                have hgl2 : (if gone2 j = true then [] else group num (evs l) j).length ≤ 360000 := by have := HLG.out j; split <;> simp_all
                rw [← h3] at hgi
                obtain ⟨G2, hG2⟩ : ∃ G2, G2 = if gone2 j = true then [] else group num (evs l) j := ⟨_, rfl⟩
                rw [← hG2] at hgi hgl2 HST
                obtain ⟨qn, cn, hv, hn1, hn2, hn3⟩ := IntS.form hgi
                unfold maxLen at hn2
                obtain ⟨rfl, rfl, rfl⟩ : p3 = qn ∧ n3 = G2.length ∧ c3 = cn := by simpa [SlT.v] using hv
                have hb := HG.out.blk
                have ck : wr.cell? ⟨g, j, none⟩ = some (.slice p3 G2.length c3) := by
                  rw [Block.cell j]
                  simp only [List.getElem?_toArray, List.getElem?_map]
                  rw [List.getElem?_eq_getElem (by omega), ← h3]; rfl
                have og := Old.of_cell ck
                have HGI := Lib.hid hgi
                have hBw : B ≤ wr.heap.size := by have := HS.out.size; have := HB2.out; omega
                clear hjj hjw hv hgi hG2 h3 hjn
                go_wp2_with (at_builtin; refine wl_appendS (enc := encI) (k := 1) (E := 3) (base := B) (l := mo2) (m := G2) Tryz.underlying32 hiE hE0 hE1 hE2 rfl (by decide) encI_len encI_one rfl rfl HO.out HGI.out (by unfold maxLen; omega) (by omega) hBw ?_; intro v7 n7 ho7; (have b7 : Block n7.val g (gs3.map SlT.v).toArray := hb.below n7.below hgB); (have HB7 := Lib.hid n7.below); (obtain ⟨q7, c7, rfl⟩ := Own.form2 ho7); (have HO7 := Lib.hid ho7); clear ho7)
                go_roundw
                case rel =>
                  refine ⟨k + 1, mo2 ++ G2, _, gs3.set j nilT, by omega, by first | rfl | go_num, HST.out, ?_, (HG.out.clear (j := j) b7).congr (fun i => ?_), grown_put HS.out (by rw [← HB2.out]; exact HB7.out)⟩
                  · have := Own.other (b := g) (i := j) (u := .slice none 0 0) HO7.out hgB
                    simpa using this
                  · by_cases e : i = j <;> simp [e]
                case measure => simp [intOf]; omega
              · obtain rfl : k = js.length := by omega
                have HD := Lib.hid (HM.out.next (Nat.le_refl _) HJ1.out HR.out.dfs)
                have hle5 := HR.out.len
                simp only [List.length_append, List.length_singleton] at hle5
                have HMR : Hid (∀ m ∈ mo2, -1099511627776 ≤ m ∧ m ≤ 1099511627776) := Lib.hid (fun m hm => univ_wide HB.out (evs_ok H.out.ok) (fam_univ (by
                  have hn : Fam num (evs l) b n := HR.out.dfs.p.mem n (HR.out.dfs.left n (by simp))
                  rcases HM.out.mem m hm with h1 | ⟨i, h1, h2⟩
                  · exact (fam_closed num (evs l) b).up n m hn h1
                  · exact (fam_closed num (evs l) b).group i n m hn h1 h2)))
                have hgf : g < fb := by have := HFB.out; omega
                have hfL : fb < LB := by have := HLB.out; have := HFB.out; omega
                have hgL := Own.base_le HOW.out _ rfl
                have hglt := ogl.lt
                simp only at hgL
                have HL0 : Hid (Own encI 1 3 LB wr (.slice (some ⟨gL, 0, none⟩) L1.length cL) L1) := Lib.hid (Own.heap HOW.out (fun q hq => by
                  obtain rfl : gL = q := by simpa [Value.ownBlock] using hq
                  exact HS.out.block gL hglt (by simp; omega)))
                have HF0 : Hid (FamS wr fb F.length (fun x => decide (x ∈ F))) := Lib.hid (SMap.kept HR.out.fam HS.out (by simp; omega))
                have HA0 : Hid (Apt (.slice (some ⟨gL, 0, none⟩) L1.length cL) (.slice q2 mo2.length c2)) := Lib.hid (fun q hq => by
                  obtain rfl : gL = q := by simpa [Value.ownBlock] using hq
                  exact Own.ne_low HO.out (by rw [HB2.out]; exact hglt))
                have HE0 : Hid (Ext w wr) := Lib.hid (ext_grown HR.out.ext HS.out (fun r e => by cases e; have := HGW.out; omega))
                have hFl := FamP.len HR.out.dfs.p (evs_len H.out.ok)
                rw [HLE2.out] at hFl
                have HLBS : Hid (LB ≤ S.heap.size) := Lib.hid (by omega)
                clear hgL hglt
                go_wp2_with fail
                go_loopw [110, 12] (fun v110 v12 w3 => ∃ k : Nat, k ≤ mo2.length ∧ v110 = .int .i64 k ∧ Own encI 1 3 LB w3 v12 (addAll F L1 (mo2.take k)).2 ∧ FamS w3 fb (addAll F L1 (mo2.take k)).1.length (fun x => decide (x ∈ (addAll F L1 (mo2.take k)).1)) ∧ Own encI 1 3 B w3 (.slice q2 mo2.length c2) mo2 ∧ Apt v12 (.slice q2 mo2.length c2) ∧ GrpsR Wf w3 g gs3 (fun i => if gone2 i then [] else group num (evs l) i) l.length ∧ Wf.grownBy w3 (some g) ∧ Ext w w3 ∧ LB ≤ w3.heap.size) (fun v110 _ _ => mo2.length - (intOf v110).toNat)
                case atStart => exact ⟨0, by omega, rfl, by rw [List.take_zero]; exact HL0.out, by rw [List.take_zero]; exact HF0.out, HO.out, HA0.out, HG.out, HWS.out, HE0.out, Nat.le_trans HLBS.out HS.out.size⟩
                case round =>
                  obtain ⟨k, hk, rfl, hl, hf, ho, ha, hG5, hW5, hE5, hsz5⟩ := hrel
                  have haln := addAll_len (mo2.take k) F L1
                  have hale := addAll_le (mo2.take k) F L1
                  have htk : (mo2.take k).length ≤ mo2.length := by rw [List.length_take]; omega
                  have HAT := Lib.hid (fun h => addAll_take (mo := mo2) (F := F) (L := L1) (k := k) h)
                  have HM5 := Lib.hid (fun (h : mo2.length ≤ k) => show mo2.take k = mo2 from List.take_of_length_le h)
                  obtain ⟨T, hT⟩ : ∃ T, T = mo2.take k := ⟨_, rfl⟩
                  rw [← hT] at haln hale hl hf HAT HM5 htk
                  clear hT
                  obtain ⟨⟨F2, L2⟩, hFL⟩ : ∃ z, z = addAll F L1 T := ⟨_, rfl⟩
                  rw [← hFL] at haln hale hl hf HAT
                  simp only at haln hale hl hf HAT
                  have HFLE := Lib.hid hFL
                  obtain ⟨qv, cv, rfl⟩ := Own.form2 hl
                  have HL5 := Lib.hid hl
                  have HF5 := Lib.hid hf
                  have HO5 := Lib.hid ho
                  have HA5 := Lib.hid ha
                  have HG5 := Lib.hid hG5
                  have HW5 := Lib.hid hW5
                  have HE5 := Lib.hid hE5
                  clear hFL hl hf ho ha hG5 hW5 hE5
                  by_cases hlt5 : k < mo2.length
                  · obtain ⟨bb, off, rfl, hel⟩ := IntS.elem (Own.slice encI_len HO5.out) hlt5
                    have obb := Old.of_cell hel
                    have hrm := HMR.out mo2[k] (List.getElem_mem hlt5)
                    have HAT2 := Lib.hid (HAT.out hlt5)
                    generalize mo2[k] = m at *
                    have hlook := fam_look HF5.out hrm
                    by_cases hm : m ∈ F2
                    · rw [decide_eq_true hm] at hlook
                      rw [if_pos hm] at HAT2
                      clear hm hrm
                      go_wp2_with fail
                      go_roundw
                      case rel => exact ⟨k + 1, by omega, by first | rfl | go_num, by rw [HAT2.out]; exact HL5.out, by rw [HAT2.out]; exact HF5.out, HO5.out, HA5.out, HG5.out, HW5.out, HE5.out, hsz5⟩
                      case measure => simp [intOf]; omega
                    · rw [decide_eq_false hm] at hlook
                      rw [if_neg hm] at HAT2
                      obtain ⟨W4, hr4, hs4, hg4⟩ := SMap.store (kv := kvI) HF5.out (Go.Maps.int_keyed Tryz.underlying3) kvI_inj Tryz.underlying71 (by unfold maxLen; omega) (x := m) (key_int hrm)
                      simp only [kvI] at hr4
                      have HS4 := Lib.hid hs4
                      have HG4 := Lib.hid hg4
                      have hsz4 := hg4.size
                      have HV4 : Hid (Own encI 1 3 LB W4 (.slice qv L2.length cv) L2) := Lib.hid (Own.grown HL5.out hg4 (fun r e => by cases e; exact SMap.obj HF5.out))
                      have HO4 : Hid (Own encI 1 3 B W4 (.slice (some ⟨bb, off, none⟩) mo2.length c2) mo2) := Lib.hid (Own.grown HO5.out hg4 (fun r e => by cases e; exact SMap.obj HF5.out))
                      have HB4 : Hid (Block W4 g (gs3.map SlT.v).toArray) := Lib.hid (block_grown HG5.out.blk hg4 (fun r e => by cases e; exact SMap.obj HF5.out))
                      have HWf4 : Hid (Wf.grownBy W4 (some g)) := Lib.hid (HW5.out.andThen hg4 (fun j e => by cases e; exact .inl (by have := HFB.out; omega)))
                      have HE4 : Hid (Ext w W4) := Lib.hid (ext_grown HE5.out hg4 (fun r e => by cases e; have := HGW.out; omega))
                      clear hs4 hg4 hm hrm
                      go_wp2_with (first | (at_mapUpdate; refine wl_mupd rfl rfl rfl hr4 ?_) | (at_builtin; refine wl_append1g (enc := encI) (k := 1) (E := 3) (base := LB) (l := L2) (y := m) Tryz.underlying32 hiE hE0 hE1 hE2 rfl (by decide) encI_len encI_one rfl rfl (Own.alloc HV4.out _) inferInstance rfl (by unfold maxLen; omega) (by omega) (by simp; omega) ?_; intro v7 n7 ho7 hk7))
                      have HK7 := Lib.hid hk7
                      obtain ⟨q7, c7, rfl⟩ := Own.form2 ho7
                      have HO7 := Lib.hid ho7
                      have HB7 : Hid (Below LB W4 n7.val) := Lib.hid (Below.trans (Below.mono ((Ext.refl W4).alloc _) (by omega)) n7.below)
                      clear hk7 ho7
                      go_roundw
                      case rel =>
                        refine ⟨k + 1, by omega, by first | rfl | go_num, by rw [HAT2.out]; exact HO7.out, ?_, HK7.out.other (HO4.out.alloc _) HA5.out, HK7.out.apt (HO4.out.alloc _) HA5.out, HG5.out.move (HK7.out.block (HB4.out.ext ((Ext.refl _).alloc _)) (Own.ne_low HV4.out (by omega))), grown_below HWf4.out HB7.out (by have := HFB.out; omega), Below.trans HE4.out (Below.mono HB7.out (by have := HGW.out; omega)), Nat.le_trans (by omega) HB7.out.size⟩
                        rw [HAT2.out, List.length_append, List.length_singleton]
                        have h1 := SMap.congr (SMap.ext HS4.out ((Ext.refl _).alloc (.cells #[.int .i64 m] 3))) dec_snoc
                        exact h1.heap (HK7.out.heap fb (by simp; omega) (Own.ne_low HV4.out hfL))
                      case measure => simp [intOf]; omega
                  · obtain rfl : k = mo2.length := by omega
                    have HDD : Hid (DfsI (evs l) b F2 L2 gone2) := Lib.hid (by
                      have := HD.out
                      rw [← HM5.out (Nat.le_refl _), ← HFLE.out] at this
                      exact this)
                    have HDR : Hid (DfsR l b w Wf g fb LB F2 L2 gone2 gs3 (.slice qv L2.length cv) wr) := Lib.hid ⟨HL5.out, HF5.out, HDD.out, HG5.out, HE5.out, HW5.out, by omega⟩
                    have hF2 := FamP.len HDD.out.p (evs_len H.out.ok)
                    rw [HLE2.out] at hF2
                    go_wp2_with fail
                    go_roundw
                    case rel => exact ⟨F2, L2, gone2, gs3, HDR.out⟩
                    case measure =>
                      refine Nat.lt_of_le_of_lt (least_le ⟨F2, L2, gone2, gs3, HDR.out, Nat.le_refl _⟩) (Nat.lt_of_lt_of_le ?_ HLE.out)
                      simp only [List.length_append, List.length_singleton]
                      omega
end Go.Proofs.YtjfohapnjnopfaaGreatDoor
