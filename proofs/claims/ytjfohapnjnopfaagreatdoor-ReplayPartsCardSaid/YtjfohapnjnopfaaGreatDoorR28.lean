/-
  Chapter 61: pairs whose second number is in a family.
-/
import Derived.Test.YtjfohapnjnopfaaGreatDoorR27
import Derived.Test.YtjfohapnjnopfaaGreatDoorLC
import Derived.Maps.OwnIn
set_option linter.unusedVariables false
set_option linter.unusedSimpArgs false
namespace Go.Proofs.YtjfohapnjnopfaaGreatDoor
open Go.RowKit RepM

attribute [local go_sem] ExtOf.cell ExtOf.frozen Block.cell Block.frozen ExtB.cell ExtB.frozen alloc_cell alloc_frozen
attribute [local go_sem] Oper.semAt_some
def kvI (x : Int) : Value := .int .i64 x
/-- the families -/
abbrev FamS (w : World) (b n : Nat) (S : Int → Bool) : Prop := SMap Tryz.prog 3 kvI w b n S
theorem wf_small {x : Int} (h : -1099511627776 ≤ x ∧ x ≤ 1099511627776) : (Lit.int .i64 x).wf = true := by
  simp [Lit.wf, IntKind.min, IntKind.max, IntKind.signed, IntKind.bits]; omega
theorem key_int {x : Int} (h : -1099511627776 ≤ x ∧ x ≤ 1099511627776) : ∃ l, keyOf Tryz.prog 3 (kvI x) = some l := ⟨_, Go.Maps.keyOf_int_mk Tryz.underlying3 (wf_small h)⟩
theorem zero_bool (W : World) : (zeroValue 4).run Tryz.prog W = .ok (.bool false) W := by kernel_rfl
theorem fam_look {w : World} {b N : Nat} {S : Int → Bool} (h : FamS w b N S) {x : Int} (hx : -1099511627776 ≤ x ∧ x ≤ 1099511627776) : (Instr.lookup 71 (.map (some b)) (.int .i64 x) false).run Tryz.prog w = .ok (.bool (S x)) w :=
  SMap.lookup h (Go.Maps.int_keyed Tryz.underlying3) Tryz.underlying71 zero_bool (x := x) (key_int hx)
theorem kvI_inj : ∀ x y : Int, kvI x = kvI y → x = y := fun x y h => by simpa [kvI] using h
def pairsS (S : Int → Bool) (n : List Int) : List Int := ((pairs n).filter fun q => S q.2).flatMap fun q => [q.1, q.2]
theorem pairsS_eq {S : Int → Bool} {s : List Int} (h : ∀ x, S x = decide (x ∈ s)) (n : List Int) : pairsS S n = pairsB s n := by
  unfold pairsS pairsB
  simp only [h]
def pickP (S : Int → Bool) (ns : List Int) (k : Nat) : List Int := if S (ns.getD (2 * k + 1) 0) then [ns.getD (2 * k) 0, ns.getD (2 * k + 1) 0] else []
theorem pairsS_drop {S : Int → Bool} {l : List Int} {k : Nat} (h : k + 1 < l.length) : pairsS S (l.drop k) = (if S l[k + 1] then [l[k], l[k + 1]] else []) ++ pairsS S (l.drop (k + 2)) := by
  unfold pairsS
  rw [pairs_drop h, List.filter_cons]
  by_cases c : S l[k + 1]
  · simp [c]
  · simp [c]
theorem pickP_drop {S : Int → Bool} {ns : List Int} {m : Nat} (h : ns.length = 2 * m) : ∀ d j, j + d = m → ((List.finRange m).drop j).flatMap (fun k => pickP S ns k.val) = pairsS S (ns.drop (2 * j))
  | 0, j, hj => by
    rw [List.drop_of_length_le (by rw [List.length_finRange]; omega)]
    unfold pairsS; rw [pairs_end (by omega)]; rfl
  | d + 1, j, hj => by
    rw [List.drop_eq_getElem_cons (by rw [List.length_finRange]; omega), List.flatMap_cons, pickP_drop h d (j + 1) (by omega), pairsS_drop (by omega : 2 * j + 1 < ns.length)]
    congr 1
    unfold pickP
    simp [List.getElem?_eq_getElem (by omega : 2 * j < ns.length), List.getElem?_eq_getElem (by omega : 2 * j + 1 < ns.length)]
theorem pickP_all {S : Int → Bool} {ns : List Int} {m : Nat} (h : ns.length = 2 * m) : (List.finRange m).flatMap (fun k => pickP S ns k.val) = pairsS S ns := by
  have := pickP_drop (S := S) h m 0 (by omega)
  simpa using this
theorem pickP_len (S : Int → Bool) (ns : List Int) {m : Nat} : ∀ (pre : List (Fin m)), (pre.flatMap fun k => pickP S ns k.val).length ≤ 2 * pre.length
  | [] => by simp
  | k :: pre => by
    rw [List.flatMap_cons, List.length_append, List.length_cons]
    have := pickP_len S ns pre
    have : (pickP S ns k.val).length ≤ 2 := by unfold pickP; split <;> simp
    omega
/-- the values of the region that looks at a pair -/
def poV (b bb off : Nat) (m1 : Int) (c : Bool) : Nat → Value
  | 10 => .map (some b)
  | 11 => .slice (some ⟨bb, off, none⟩) 2 2
  | 12 => .pointer (some ⟨bb, off + 1, none⟩)
  | 13 => .int .i64 m1
  | 14 => .bool c
  | _ => undef
def poA (b bb off : Nat) (m1 : Int) (c : Bool) (d : Nat) (v : Value) : Prop := v = poV b bb off m1 c d
set_option maxHeartbeats 3200000 in
set_option maxRecDepth 20000 in
theorem ppairsOf_any (ns : List Int) (vn : Value) (b N : Nat) (S : Int → Bool) (w : World) (hn : IntS w vn ns) (hl : ns.length ≤ 600) (hev : ns.length % 2 = 0) (hrg : ∀ i (h : i < ns.length), -1099511627776 ≤ ns[i] ∧ ns[i] ≤ 1099511627776) (hm : FamS w b N S) :
    Calls Tryz.prog 81 #[vn, .map (some b)] w (IntsRet w (pairsS S ns)) := by
  obtain ⟨iE, hiE, hE0, hE1, hE2⟩ := info_parts infoInt
  obtain ⟨q, mc, rfl, hcn1, hcn2, hcn3⟩ := IntS.form hn
  unfold maxLen at hcn2
  have HIN := Lib.hid hn
  have HM := Lib.hid hm
  have HRG := Lib.hid hrg
  clear hn hm hrg
  obtain ⟨M, hM⟩ : ∃ M, ns.length = 2 * M := ⟨ns.length / 2, by omega⟩
  obtain ⟨bb, off, hq⟩ : ∃ b off, 0 < M → q = some ⟨b, off, none⟩ := by
    by_cases h0 : 0 < M
    · obtain ⟨b, off, hq, _⟩ := IntS.elem HIN.out (i := 0) (by omega)
      exact ⟨b, off, fun _ => hq⟩
    · exact ⟨0, 0, fun h => absurd h h0⟩
  refine (callsIn_wide (n := 9)).1 ?_
  refine callsIn_of_wp_marks Tryz.func81 rfl trivial ?_ rfl
  simp only [Tryz.ntmps81, List.size_toArray, List.length_cons, List.length_nil, Nat.reduceAdd, Nat.reduceSub, Array.replicate_succ, Array.replicate_zero, List.push_toArray, List.append_toArray, List.nil_append, List.cons_append]
  have HMM := Lib.hid hM
  clear hM
  gi_wp2_with (refine ⟨trivial, ?_⟩; gi_at_call 100; refine (chunk_in Fence.wide 8 trivial rfl _ _ _ _).mono ?_; rintro e w' ⟨rfl, rfl⟩)
  obtain ⟨W0, hW0⟩ : ∃ W0, W0 = (((w.alloc (.cells #[.map (some b)] 71)).alloc (.cells #[.slice none 0 0] 32)).alloc (.cells #[.slice q ns.length mc] 32)).alloc (.cells #[.int .i64 2] 3) := ⟨_, rfl⟩
  have hsW : W0.heap.size = w.heap.size + 4 := by rw [hW0]; simp
  have b0 : Block W0 w.heap.size #[.map (some b)] := by rw [hW0]; infer_instance
  have b1 : Block W0 (w.heap.size + 1) #[.slice none 0 0] := by rw [hW0]; infer_instance
  have b2 : Block W0 (w.heap.size + 1 + 1) #[.slice q ns.length mc] := by rw [hW0]; infer_instance
  have b3 : Block W0 (w.heap.size + 1 + 1 + 1) #[.int .i64 2] := by rw [hW0]; infer_instance
  have hx0 : Ext w W0 := by rw [hW0]; repeat' (first | (with_reducible exact Ext.refl _) | (with_reducible exact ExtOf.ext _) | (with_reducible refine Ext.trans ?_ (ExtOf.ext _)) | (with_reducible refine Ext.alloc ?_ _) | (with_reducible refine Ext.drew ?_) | (with_reducible refine Ext.setCell ?_ ?_ _) | (with_reducible refine Ext.setRow ?_ ?_ _) | (with_reducible exact HX.out) | (with_reducible refine Ext.trans ?_ HX.out) | (with_reducible refine Ext.below ?_ (Nat.le_refl _) _) | omega | (simp; done) | (simp; omega))
  have hM := HMM.out
  rw [← hW0]
  clear hW0
  refine wpIn_rangeFunc_ownH rfl (by decide) (gf := 122) (lb := #[.pointer (some ⟨w.heap.size + 1 + 1, 0, none⟩), .pointer (some ⟨w.heap.size + 1 + 1 + 1, 0, none⟩)]) rfl trivial (enters_of Tryz.func122 (by kernel_rfl) rfl)
    (chunk_stops Fence.wide 8 trivial rfl (by decide) (w.heap.size + 1 + 1) (w.heap.size + 1 + 1 + 1) M bb off q mc W0 (by omega) (by omega) (by rw [← hM]; exact Block.cell (h := b2) 0) (Block.cell (h := b3) 0) (by omega) (by omega) hq) Keep2.trans (fun W2 l2 o2 o2' hl2 _ _ _ => Keep2.putObj (by omega) (by omega) W2 l2 o2 o2' hl2) (Below.refl _ _) (fun _ => rfl)
    (fun pre W => (∃ v, Block W (w.heap.size + 1) #[v] ∧ Own encI 1 3 (w.heap.size + 4) W v (pre.flatMap fun k => pickP S ns k.val)) ∧ Block W w.heap.size #[.map (some b)] ∧ Ext w W ∧ w.heap.size + 4 ≤ W.heap.size)
    (fun _ _ _ => False)
    (fun pre X Y row hs hg hr2 => ⟨by obtain ⟨v, h1, h2⟩ := hs.1; exact ⟨v, block_grown h1 hg (fun r e => (hr2 r e).2), Own.grown h2 hg (fun r e => (hr2 r e).2)⟩, block_grown hs.2.1 hg (fun r e => (hr2 r e).2), ext_grown hs.2.2.1 hg (fun r e => by have := (hr2 r e).1; omega), Nat.le_trans hs.2.2.2 hg.size⟩)
    (fun _ _ _ _ _ hs _ _ => hs)
    ⟨⟨_, b1, Own.nil _⟩, b0, hx0, by omega⟩
    (fun k a' _ => a' = { tmps := #[.slice q ns.length mc, .map (some b), undef, .pointer (some ⟨w.heap.size, 0, none⟩), .slice none 0 0, .pointer (some ⟨w.heap.size + 1, 0, none⟩), .slice (some ⟨bb, off + 2 * k.val, none⟩) 2 2, .slice q ns.length mc, .func (.func 122) #[] #[.pointer (some ⟨w.heap.size + 1 + 1, 0, none⟩), .pointer (some ⟨w.heap.size + 1 + 1 + 1, 0, none⟩)], .slice (some ⟨bb, off + 2 * k.val, none⟩) 2 2, undef, undef, undef, undef, undef, undef, undef, undef, undef], defers := [] })
    (fun _ _ _ _ _ _ hs _ _ => hs)
    ?assign ?body ?done ?stop
  case assign =>
    rintro lp pre k W K hi hK
    unfold encC
    clear hM
    gi_wp2
    exact hK _ _ (KeepsFrom.refl _ _) ⟨rfl, rfl⟩ hi rfl
  case stop =>
    rintro D c pre W _ _ h _
    exact h.elim
  case body =>
    rintro lp pre k a' W _ _ ⟨⟨v, g1, g2⟩, g0, hx, hsz⟩ rfl hlt
    have hkM := k.isLt
    obtain rfl := hq (by omega)
    have HX := Lib.hid hx
    have HIW := Lib.hid (IntS.ext HIN.out hx)
    obtain ⟨b', off', hbo, e0⟩ := IntS.elem HIW.out (i := 2 * k.val) (by omega)
    obtain ⟨rfl, rfl⟩ : bb = b' ∧ off = off' := by simpa using hbo
    obtain ⟨b', off', hbo', e1⟩ := IntS.elem HIW.out (i := 2 * k.val + 1) (by omega)
    obtain ⟨rfl, rfl⟩ : bb = b' ∧ off = off' := by simpa using hbo'
    have hpk : pickP S ns k.val = if S (ns[2 * k.val + 1]'(by omega)) then [ns[2 * k.val]'(by omega), ns[2 * k.val + 1]'(by omega)] else [] := by
      unfold pickP
      simp [List.getElem?_eq_getElem (by omega : 2 * k.val < ns.length), List.getElem?_eq_getElem (by omega : 2 * k.val + 1 < ns.length)]
    have hr1 := HRG.out (2 * k.val + 1) (by omega)
    generalize ns[2 * k.val]'(by omega) = m0 at *
    generalize ns[2 * k.val + 1]'(by omega) = m1 at *
    have hpl := pickP_len S ns pre
    have HPK := Lib.hid hpk
    obtain ⟨acc, hacc⟩ : ∃ acc, (pre.flatMap fun k => pickP S ns k.val) = acc := ⟨_, rfl⟩
    rw [hacc] at g2 hpl
    have HACC := Lib.hid hacc
    have hal2 : acc.length < 600 := by omega
    have HR1 := Lib.hid hr1
    clear hpk hbo hbo' hx hacc hM hr1
    obtain ⟨qv, cv, rfl⟩ := Own.form2 g2
    gi_wp2
    refine wpIn_region_soft (poA b bb (off + 2 * k.val) m1 (S m1)) (fun _ _ _ => True) (by kernel_rfl) (by kernel_rfl) (by kernel_rfl) (by kernel_rfl) (by kernel_rfl) (fun h => by obtain ⟨_, _, h⟩ := h; exact h) (fun d => ⟨_, rfl⟩) (fun _ _ _ _ _ _ => trivial) ?_
    refine soft_det (d := 10) (V := .map (some b)) rfl (by kernel_rfl) (fun v h => h) rfl (fun _ => trivial) (fun W hx _ => by have := (g0.ext (Ext.trans ((Ext.refl _).drew) hx)).cell (i := 0); simp at this; simp [execOp, go_sem, this]) ?_
    refine soft_det (d := 11) (V := .slice (some ⟨bb, off + 2 * k.val, none⟩) 2 2) rfl (by kernel_rfl) (fun v h => h) rfl (fun _ => trivial) (fun W _ _ => by kernel_rfl) ?_
    refine soft_det (d := 12) (V := .pointer (some ⟨bb, off + 2 * k.val + 1, none⟩)) rfl (by kernel_rfl) (fun v h => h) rfl (fun _ => trivial) (fun W _ _ => by kernel_rfl) ?_
    refine soft_det (d := 13) (V := .int .i64 m1) rfl (by kernel_rfl) (fun v h => h) rfl (fun _ => trivial) (fun W hx _ => by have := hx.cell (Ext.cell ((Ext.refl _).drew) e1); rw [← Nat.add_assoc] at this; simp [execOp, go_sem, this]) ?_
    refine soft_det (d := 14) (V := .bool (S m1)) rfl (by kernel_rfl) (fun v h => h) rfl (fun _ => trivial) (fun W hx _ => by have := fam_look (HM.out.ext (HX.out.trans (Ext.trans ((Ext.refl _).drew) hx))) HR1.out; simp [execOp, go_sem, this]) ?_
    intro W2 hx2
    simp only [Act.put, List.setIfInBounds_toArray, List.set_cons_succ, List.set_cons_zero]
    have hxx : Ext W W2 := Ext.trans ((Ext.refl _).drew) hx2
    have HX2 := Lib.hid hxx
    have y1 := g1.ext hxx
    have y0 := g0.ext hxx
    have y2 := Own.ext g2 hxx
    have f0 := hxx.cell e0
    have f1 := hxx.cell e1
    have hsz2 := hxx.size
    have HPRE : Hid ((pre ++ [k]).flatMap (fun k => pickP S ns k.val) = acc ++ if S m1 then [m0, m1] else []) := Lib.hid (by rw [List.flatMap_append, HACC.out, List.flatMap_cons, List.flatMap_nil, List.append_nil, HPK.out])
    have HNW : Hid (∀ j u, ([m0, m1].flatMap encI)[j]? = some u → W2.cell? ((⟨bb, off + 2 * k.val, none⟩ : Addr).add j) = some u) := Lib.hid (by
      intro j u hj
      have hadd : (⟨bb, off + 2 * k.val, none⟩ : Addr).add j = ⟨bb, off + 2 * k.val + j, none⟩ := by unfold Addr.add; split <;> simp_all
      rw [hadd]
      match j, hj with
      | 0, hj => rw [Nat.add_zero, f0]; simpa [encI] using hj
      | 1, hj => rw [Nat.add_assoc, f1]; simpa [encI] using hj
      | j + 2, hj => simp [encI] at hj)
    clear hx2 hxx
    rcases hS : S m1 with _ | _
    · rw [hS] at HPRE
      clear hS
      gi_wp2
      exact ⟨keeps_ext HX2.out, ⟨HX2.out.block _ (by omega), HX2.out.block _ (by omega)⟩, ⟨_, y1, by rw [HPRE.out, if_neg (by decide), List.append_nil]; exact y2⟩, y0, HX.out.trans HX2.out, by omega⟩
    · rw [hS] at HPRE
      clear hS
      gi_wp2_with (gi_at_builtin; refine wlIn_appendL (enc := encI) (k := 1) (E := 3) (base := w.heap.size + 4) (l := acc) (m := [m0, m1]) (ad := ⟨bb, off + 2 * k.val, none⟩) Tryz.underlying32 hiE hE0 hE1 hE2 rfl (by decide) encI_len encI_one rfl rfl y2 HNW.out (by unfold maxLen; simp; omega) (by simp; omega) (by omega) ?_; intro v7 n7 ho7 hk7; (obtain ⟨q7, c7, rfl⟩ := Own.form2 ho7); (have u1 := Kept.block hk7 y1 (Own.ne_low y2 (by omega))); (have u0 := Kept.block hk7 y0 (Own.ne_low y2 (by omega))); (have HK7 := Lib.hid hk7); (have HO7 := Lib.hid ho7); clear hk7 ho7)
      have hs7 : (n7.val.setCell ⟨w.heap.size + 1, 0, none⟩ (.slice q7 (acc.length + 2) c7)).heap.size = n7.val.heap.size := by simp [World.setCell]
      have hsz7 := HK7.out.size
      have hne : ∀ z : Nat, z < w.heap.size + 4 → (Value.slice qv acc.length cv).ownBlock ≠ some z := fun z hz => Own.ne_low y2 hz
      have hk2 : Keep2 (w.heap.size + 1 + 1) (w.heap.size + 1 + 1 + 1) W2 n7.val := ⟨HK7.out.heap _ (by omega) (hne _ (by omega)), HK7.out.heap _ (by omega) (hne _ (by omega))⟩
      have hk3 : Keep2 (w.heap.size + 1 + 1) (w.heap.size + 1 + 1 + 1) n7.val (n7.val.setCell ⟨w.heap.size + 1, 0, none⟩ (.slice q7 (acc.length + 2) c7)) := by
        constructor
        · simp only [World.setCell, Array.getElem?_modify]; rw [if_neg (by omega)]
        · simp only [World.setCell, Array.getElem?_modify]; rw [if_neg (by omega)]
      have hkk : Keep2 (w.heap.size + 1 + 1) (w.heap.size + 1 + 1 + 1) W W2 := ⟨HX2.out.block _ (by omega), HX2.out.block _ (by omega)⟩
      haveI hap : Apart (w.heap.size + 1) w.heap.size := ⟨by omega⟩
      have HY2 := Lib.hid y2
      refine ⟨(keeps_ext HX2.out).trans ((keeps_kept HY2.out HK7.out).trans ((KeepsOthers.setCell _ _ _).from _)), (hkk.trans hk2).trans hk3, ⟨_, inferInstance, ?_⟩, inferInstance, ?_, by omega⟩
      · rw [HPRE.out, if_pos trivial]
        have := Own.other (b := w.heap.size + 1) (i := 0) (u := .slice q7 (acc.length + 2) c7) HO7.out (by omega)
        simpa using this
      · exact Ext.setCell (Below.trans (HX.out.trans HX2.out) (Below.mono n7.below (by omega))) (by show w.heap.size ≤ w.heap.size + 1; omega) _
  case done =>
    rintro D xs W hD rfl ⟨⟨v, g1, g2⟩, g0, hx, hsz⟩ hK
    rw [pickP_all HMM.out] at g2
    have HX := Lib.hid hx
    have HK := Lib.hid hK
    obtain ⟨acc, hacc⟩ : ∃ acc, acc = pairsS S ns := ⟨_, rfl⟩
    rw [← hacc] at g2
    have HACC := Lib.hid hacc
    obtain ⟨qv, cv, rfl⟩ := Own.form2 g2
    have G2 := Lib.hid g2
    clear g2 hx hK hM hacc
    gi_wp2
    refine ⟨by simp, .inl ⟨_, _, rfl, run_takeDeferred HK.out, ?_⟩⟩
    have hg := grownBy_putObj' W D (.deferred none)
    have hrow : ∀ r, some D = some r → ∃ o : Obj, W.heap[r]? = some o ∧ o.isCells = false := fun r e => by cases e; exact ⟨_, HK.out, rfl⟩
    exact ⟨_, results_tmp rfl _ _ _, .slice qv acc.length cv, rfl, by rw [← HACC.out]; exact Own.lower (Own.grown G2.out hg hrow) (show w.heap.size ≤ w.heap.size + 4 by omega), ExtOf.of (ext_grown HX.out hg (fun r e => by cases e; omega))⟩
end Go.Proofs.YtjfohapnjnopfaaGreatDoor
