/-
  Chapter 61: the program's groups.
-/
import Derived.Test.YtjfohapnjnopfaaGreatDoorK25
import Derived.Test.YtjfohapnjnopfaaGreatDoorLC
set_option linter.unusedVariables false
set_option linter.unusedSimpArgs false
namespace Go.Proofs.YtjfohapnjnopfaaGreatDoor
open Go.RowKit RepM

attribute [local go_sem] ExtOf.cell ExtOf.frozen Block.cell Block.frozen ExtB.cell ExtB.frozen alloc_cell alloc_frozen
/-- a slice of slices of numbers in new memory -/
structure GrpsS (w : World) (g : Nat) (gs : List SlT) (ll : Nat → List Int) (n : Nat) : Prop where
  blk : Block w g (gs.map SlT.v).toArray
  len : gs.length = n
  ints : ∀ i (h : i < gs.length), IntS w gs[i].v (ll i)
  apart : ∀ i (h : i < gs.length), ll i ≠ [] → ∀ q, gs[i].p = some q → q.block ≠ g
def nilT : SlT := ⟨none, 0, 0⟩
theorem GrpsS.ext {w w' : World} {g : Nat} {gs : List SlT} {ll : Nat → List Int} {n : Nat} (h : GrpsS w g gs ll n) (hx : Ext w w') : GrpsS w' g gs ll n :=
  ⟨h.blk.ext hx, h.len, fun i hi => (h.ints i hi).ext hx, h.apart⟩
theorem GrpsS.congr {w : World} {g : Nat} {gs : List SlT} {ll ll' : Nat → List Int} {n : Nat} (h : GrpsS w g gs ll n) (he : ∀ i, i < n → ll i = ll' i) : GrpsS w g gs ll' n :=
  ⟨h.blk, h.len, fun i hi => by rw [← he i (by rw [← h.len]; exact hi)]; exact h.ints i hi, fun i hi => by rw [← he i (by rw [← h.len]; exact hi)]; exact h.apart i hi⟩
theorem GrpsS.step {w w2 : World} {g : Nat} {gs : List SlT} {ll : Nat → List Int} {n k : Nat} {so : SlT} {L : List Int} (h : GrpsS w g gs ll n) (hk : k < n) (hgr : ∀ q, q < w.heap.size → q ≠ g → w2.heap[q]? = w.heap[q]?) (hsz : w.heap.size ≤ w2.heap.size)
    (hb : Block w2 g ((gs.set k so).map SlT.v).toArray) (hi : IntS w2 so.v L) (ha : L ≠ [] → ∀ q, so.p = some q → q.block ≠ g) : GrpsS w2 g (gs.set k so) (fun j => if j = k then L else ll j) n := by
  have hg : Grow w (.slice (some ⟨g, 0, none⟩) 1 1) w2 (.slice (some ⟨g, 0, none⟩) 1 1) := ⟨fun q hq hne => hgr q hq (fun e => hne (by rw [e]; rfl)), .inl rfl, hsz⟩
  refine ⟨hb, by rw [List.length_set]; exact h.len, fun i hi' => ?_, fun i hi' => ?_⟩
  · rw [List.length_set] at hi'
    by_cases e : i = k
    · subst e
      simp only [List.getElem_set_self, if_true]; exact hi
    · simp only [List.getElem_set_ne (Ne.symm e), if_neg e]
      exact IntS.keep hg (h.ints i hi') (fun hne q hq e' => h.apart i hi' hne q hq (by have : g = q.block := by simpa [Value.ownBlock] using e'
                                                                                       omega))
  · rw [List.length_set] at hi'
    by_cases e : i = k
    · subst e
      simp only [List.getElem_set_self, if_true]; exact ha
    · simp only [List.getElem_set_ne (Ne.symm e), if_neg e]
      exact h.apart i hi'
theorem blk_set {W : World} {g k : Nat} {gs : List SlT} {so : SlT} (h : Block W g (gs.map SlT.v).toArray) : Block (W.setCell ⟨g, k, none⟩ so.v) g ((gs.set k so).map SlT.v).toArray := by
  have := (inferInstance : Block (W.setCell ⟨g, k, none⟩ so.v) g ((gs.map SlT.v).toArray.setIfInBounds k so.v))
  rw [List.setIfInBounds_toArray] at this
  rw [List.map_set]; exact this
theorem heap_step {w W : World} {g k q : Nat} {u : Value} (hx : Ext w W) (hq : q < w.heap.size) (hne : q ≠ g) : (W.setCell ⟨g, k, none⟩ u).heap[q]? = w.heap[q]? := by
  simp only [World.setCell, Array.getElem?_modify]
  rw [if_neg (fun e => hne e.symm)]
  exact hx.block q hq
theorem IntS.other {W : World} {g k : Nat} {u : Value} {so : SlT} {L : List Int} (hi : IntS W so.v L) (ha : L ≠ [] → ∀ q, so.p = some q → q.block ≠ g) : IntS (W.setCell ⟨g, k, none⟩ u) so.v L := by
  have hg : Grow W (.slice (some ⟨g, 0, none⟩) 1 1) (W.setCell ⟨g, k, none⟩ u) (.slice (some ⟨g, 0, none⟩) 1 1) := ⟨fun q hq hne => heap_step (Ext.refl _) hq (fun e => hne (by rw [e]; rfl)), .inl rfl, by simp [World.setCell]⟩
  exact IntS.keep hg hi (fun hne q hq e' => ha hne q hq (by have : g = q.block := by simpa [Value.ownBlock] using e'
                                                            omega))
theorem GrpsS.put {w W : World} {g : Nat} {gs : List SlT} {ll : Nat → List Int} {n k : Nat} {so : SlT} {L : List Int} (h : GrpsS w g gs ll n) (hk : k < n) (hx : Ext w W) (hi : IntS W so.v L) (ha : L ≠ [] → ∀ q, so.p = some q → q.block ≠ g) : GrpsS (W.setCell ⟨g, k, none⟩ so.v) g (gs.set k so) (fun j => if j = k then L else ll j) n :=
  h.step hk (fun q hq hne => heap_step hx hq hne) (by have := hx.size; simpa [World.setCell] using this) (blk_set (h.blk.ext hx)) (IntS.other hi ha) ha
theorem ll_next {G : Nat → List Int} {k i : Nat} : (if i = k then G k else if i < k then G i else []) = if i < k + 1 then G i else [] := by
  by_cases e : i = k
  · subst e; simp
  · rw [if_neg e]
    by_cases h : i < k
    · rw [if_pos h, if_pos (by omega)]
    · rw [if_neg h, if_neg (by omega)]
theorem nil_next {gs : List SlT} {k : Nat} {so : SlT} (h : ∀ i, k ≤ i → (h : i < gs.length) → gs[i] = nilT) : ∀ i, k + 1 ≤ i → (h : i < (gs.set k so).length) → (gs.set k so)[i] = nilT := by
  intro i hi h1
  rw [List.getElem_set_ne (by omega)]
  exact h i (by omega) _
theorem make_groups (N : Nat) (hN : N ≤ 100000) (w : World) : (Instr.makeSlice 116 (.int .i64 (N : Int)) (.int .i64 (N : Int))).run Tryz.prog w = .ok (.slice (some ⟨w.heap.size, 0, none⟩) N N) (w.alloc (.cells ((List.replicate N nilT).map SlT.v).toArray 32)) := by
  have hinfo : (Tryz.prog.info? 32).map (fun i => (i.zero, i.size, i.bytes)) = some (some (.slice none 0 0), 1, 24) := by kernel_rfl
  obtain ⟨i, hi, hzz⟩ := Option.map_eq_some_iff.1 hinfo
  simp only [Prod.mk.injEq] at hzz
  obtain ⟨hz, hs, hb⟩ := hzz
  have h := run_make (P := Tryz.prog) w 116 32 i _ Tryz.underlying116 hi hz .i64 .i64 (N : Int) (N : Int) (by omega) (by omega) (by rw [hb]; omega) (by omega)
  rw [hs, Int.toNat_natCast] at h
  rw [h]
  have e : madeCells (Value.slice none 0 0).cells (N * 1) = ((List.replicate N nilT).map SlT.v).toArray := by
    apply Array.ext_getElem?
    intro j
    by_cases hj : j < N
    · simp [madeCells, hj, Value.cells, Nat.mod_one, nilT, SlT.v]
    · simp [madeCells, hj]
  rw [e]
theorem known_endT {F : Nat → Value → World → Prop} {l : List Oper} {mh : List Bool} {a : Act} {w : World} (h : ∀ (i : Nat) (oi : Oper) (d : Tmp), i ∈ idx 0 mh → l[i]? = some oi → oi.dst = some d → F d (a.tmps.getD d undef) w) {d i : Nat} {v : Value} (hi : (idx 0 mh).contains i = true) (he : (match l[i]? with | some o => (match o.dst with | some x => Nat.beq x d | none => false) | none => false) = true) (hv : a.tmps.getD d undef = v) : F d v w := by
  cases ho : l[i]? with
  | none => rw [ho] at he; cases he
  | some o =>
    rw [ho] at he
    cases hd : o.dst with
    | none => simp only [hd] at he; cases he
    | some x =>
      simp only [hd] at he
      obtain rfl : x = d := by simpa using he
      rw [← hv]
      exact h i o x (List.contains_iff_mem.1 hi) ho hd
/-- the values of the region that gathers -/
def gdV (b off n cap g ng k : Nat) (m : Int) (q2 : Option Addr) (n2 c2 : Nat) : Nat → Value
  | 42 => .slice (some ⟨g, 0, none⟩) ng ng
  | 43 => .int .i64 k
  | 44 => .slice (some ⟨g, 0, none⟩) ng ng
  | 45 => .int .i64 k
  | 46 => .pointer (some ⟨g, k, none⟩)
  | 47 => .slice q2 n2 c2
  | 48 => .slice (some ⟨b, off, none⟩) n cap
  | 49 => .int .i64 m
  | _ => undef
def gdA (b off n cap g ng k : Nat) (m : Int) (q2 : Option Addr) (n2 c2 : Nat) (d : Nat) (v : Value) : Prop := d = 50 ∨ v = gdV b off n cap g ng k m q2 n2 c2 d
def gdF (L : List Int) (d : Nat) (v : Value) (W : World) : Prop := d = 50 → IntS W v L
theorem gdA_some (b off n cap g ng k : Nat) (m : Int) (q2 : Option Addr) (n2 c2 : Nat) (d : Nat) : ∃ v, gdA b off n cap g ng k m q2 n2 c2 d v := ⟨_, .inr rfl⟩
theorem gdF_keep (L : List Int) : ∀ d v w w', gdF L d v w → Ext w w' → gdF L d v w' := fun d v w w' h hx e => (h e).ext hx
set_option maxHeartbeats 3200000 in
set_option maxRecDepth 20000 in
theorem pgroups_any (l : List EvP) (v : Value) (w : World) (h : PastS w v l) (ht : Tab w) : Calls Tryz.prog 77 #[v] w fun en w' => en = .returned (.slice (some ⟨w.heap.size, 0, none⟩) l.length l.length) ∧ (∃ gs, GrpsS w' w.heap.size gs (group num (evs l)) l.length) ∧ ∃ m : ExtOf w, w' = m.val := by
  obtain ⟨iE, hiE, hE0, hE1, hE2⟩ := info_parts infoInt
  obtain ⟨p, cap, rfl, hc1, hc2, hc3⟩ := EvsS.form h.ev
  unfold maxLen at hc2
  have hlen := h.len
  have H := Lib.hid h
  clear h
  have HT := Lib.hid ht
  clear ht
  go_enter Tryz.func77, Tryz.ntmps77
  have hmk := make_groups l.length (by omega)
  obtain ⟨cs0, hcs0⟩ : ∃ cs0, cs0 = ((List.replicate l.length nilT).map SlT.v).toArray := ⟨_, rfl⟩
  rw [← hcs0] at hmk
  have HCS := Lib.hid hcs0
  clear hcs0
  go_wp2_with fail
  have HX0 : Hid (Ext w (w.alloc (.cells cs0 32))) := Lib.hid (by repeat' (first | (with_reducible exact Ext.refl _) | (with_reducible exact ExtOf.ext _) | (with_reducible refine Ext.trans ?_ (ExtOf.ext _)) | (with_reducible refine Ext.alloc ?_ _) | (with_reducible refine Ext.drew ?_) | (with_reducible refine Ext.setCell ?_ ?_ _) | (with_reducible refine Ext.setRow ?_ ?_ _) | (with_reducible exact HX.out) | (with_reducible refine Ext.trans ?_ HX.out) | (with_reducible refine Ext.below ?_ (Nat.le_refl _) _) | omega | (simp; done) | (simp; omega)))
  have HG0 : Hid (GrpsS (w.alloc (.cells cs0 32)) w.heap.size (List.replicate l.length nilT) (fun i => if i < 0 then group num (evs l) i else []) l.length) := Lib.hid ⟨by rw [← HCS.out]; exact Block.new _ _ _, by simp, fun i hi => by simp [nilT]; exact SliceOf.nil _, fun i hi hne => by simp at hne⟩
  obtain ⟨g, hg⟩ : ∃ g, g = w.heap.size := ⟨_, rfl⟩
  rw [← hg] at HG0 ⊢
  have HGL : Hid (g = w.heap.size) := Lib.hid hg
  clear hg
  go_loopw [13] (fun vi wr => ∃ (k : Nat) (gs : List SlT), k ≤ l.length ∧ vi = .int .i64 k ∧ GrpsS wr g gs (fun i => if i < k then group num (evs l) i else []) l.length ∧ (∀ i, k ≤ i → (h : i < gs.length) → gs[i] = nilT) ∧ Ext w wr) (fun i _ => l.length - (intOf i).toNat)
  case atStart => exact ⟨0, _, by omega, rfl, HG0.out, fun i _ h => by rw [List.getElem_replicate], HX0.out⟩
  case round =>
    obtain ⟨k, gs, hk, rfl, hgs, hni, hx⟩ := hrel
    have HG := Lib.hid hgs
    have HX := Lib.hid hx
    have HN := Lib.hid hni
    clear hgs hx hni
    by_cases hlt : k < l.length
    · have hiw := H.out.ev.2 _ (List.getElem_mem hlt)
      have HSHP := Lib.hid (fun W (hW : Ext w W) => pshipped_any l (.slice p l.length cap) k W (H.out.ext hW) hlt)
      have HGE : Hid (group num (evs l) k = (if (l[k]).1.kind = 5 then (l[k]).1.n else if (l[k]).1.kind = 6 then (dryL (l[k]).1.n).flatMap (packed num (evs l)) else if (l[k]).1.kind = 10 then shipped (evs l) k (num (l[k]).1.item) else [])) := Lib.hid (by
        unfold group
        rw [List.getElem?_map, List.getElem?_eq_getElem hlt]; rfl)
      obtain ⟨b, off, rfl, hr, hin⟩ := EvsS.elem (EvsS.ext H.out.ev HX.out) hlt
      have hok := H.out.ok _ (List.getElem_mem hlt)
      have hgi : (evs l)[k]'(by simpa using hlt) = (l[k]).1 := evs_get (by simpa using hlt)
      obtain ⟨⟨x, sl⟩, he⟩ : ∃ z, z = l[k] := ⟨_, rfl⟩
      have he' := he.symm
      rw [← he] at hr hin hok hgi
      simp only at hok hin hgi
      clear he
      have HIN := Lib.hid hin
      have HOK := Lib.hid hok
      clear hin hok
      rw [show l[k] = (x, sl) from he'] at HGE HSHP hiw
      have HIW := Lib.hid hiw
      have HR : Hid (wr.rangeAt b (off + k * 6) [.int .i64 x.kind, .int .i64 x.at_, .string x.item, .string x.of, sl.v, .string x.text]) := Lib.hid hr
      clear hr hgi he' hiw
      simp only at HGE HSHP
      obtain ⟨sp, sn, sc⟩ := sl
      simp only [SlT.v] at *
      have hb := HG.out.blk
      have hgl := HG.out.len
      have ck : wr.cell? ⟨g, k, none⟩ = some (.slice none 0 0) := by
        rw [Block.cell k]
        have := HN.out k (Nat.le_refl _) (by omega)
        simp [List.getElem?_eq_getElem (by omega : k < gs.length), this, nilT, SlT.v]
      have og := Old.of_cell ck
      have hgw1 : w.heap.size ≤ g := by have := HGL.out; omega
      have hgw2 : g ≤ w.heap.size := by have := HGL.out; omega
      by_cases h5 : x.kind = 5
      · have q5 : (x.kind == 5) = true := beq_iff_eq.2 h5
        rw [if_pos h5] at HGE
        clear h5
        go_wp2_with (first | ((with_reducible refine wl_loadM midEv (Ext.range ?_ (Hid.out HR)) ?_ ?_ ?_ ?_); (· repeat' (first | (with_reducible exact Ext.refl _) | (with_reducible exact ExtOf.ext _) | (with_reducible refine Ext.trans ?_ (ExtOf.ext _)) | (with_reducible refine Ext.alloc ?_ _) | (with_reducible refine Ext.drew ?_) | (with_reducible refine Ext.setCell ?_ ?_ _) | (with_reducible refine Ext.setRow ?_ ?_ _) | (with_reducible exact HX.out) | (with_reducible refine Ext.trans ?_ HX.out) | (with_reducible refine Ext.below ?_ (Nat.le_refl _) _) | omega | (simp; done) | (simp; omega))); (· rfl); (· (first | exact wanted_none rfl | exact wanted_some rfl rfl rfl)); (· rfl)) | ((with_reducible apply wl_store' lwEv); (· (first | exact wanted_none rfl | exact wanted_some rfl rfl rfl)); (· rfl); (· rfl); (· infer_instance); (· rfl); (· rfl); (· (simp [Value.oneCell', SlT.v])); try simp only [setRow_alloc, setRow_new, setRow_new1, setRow_new2, setRow_new11, setRow_new111]) | ((with_reducible apply wl_load' lwEv); (· (first | exact wanted_none rfl | exact wanted_some rfl rfl rfl)); (· rfl); (· infer_instance); (· rfl)))
        go_roundw
        case rel =>
          refine ⟨k + 1, gs.set k ⟨sp, sn, sc⟩, by omega, by first | rfl | go_num, ?_, nil_next HN.out, Ext.setCell (HX.out.trans (by repeat' (first | (with_reducible exact Ext.refl _) | (with_reducible exact ExtOf.ext _) | (with_reducible refine Ext.trans ?_ (ExtOf.ext _)) | (with_reducible refine Ext.alloc ?_ _) | (with_reducible refine Ext.drew ?_) | (with_reducible refine Ext.setCell ?_ ?_ _) | (with_reducible refine Ext.setRow ?_ ?_ _) | (with_reducible exact HX.out) | (with_reducible refine Ext.trans ?_ HX.out) | (with_reducible refine Ext.below ?_ (Nat.le_refl _) _) | omega | (simp; done) | (simp; omega)))) (by show w.heap.size ≤ g; omega) _⟩
          refine (HG.out.put (so := ⟨sp, sn, sc⟩) (L := group num (evs l) k) hlt (by repeat' (first | (with_reducible exact Ext.refl _) | (with_reducible exact ExtOf.ext _) | (with_reducible refine Ext.trans ?_ (ExtOf.ext _)) | (with_reducible refine Ext.alloc ?_ _) | (with_reducible refine Ext.drew ?_) | (with_reducible refine Ext.setCell ?_ ?_ _) | (with_reducible refine Ext.setRow ?_ ?_ _) | (with_reducible exact HX.out) | (with_reducible refine Ext.trans ?_ HX.out) | (with_reducible refine Ext.below ?_ (Nat.le_refl _) _) | omega | (simp; done) | (simp; omega))) (by rw [HGE.out]; exact HIW.out.ext (HX.out.trans (by repeat' (first | (with_reducible exact Ext.refl _) | (with_reducible exact ExtOf.ext _) | (with_reducible refine Ext.trans ?_ (ExtOf.ext _)) | (with_reducible refine Ext.alloc ?_ _) | (with_reducible refine Ext.drew ?_) | (with_reducible refine Ext.setCell ?_ ?_ _) | (with_reducible refine Ext.setRow ?_ ?_ _) | (with_reducible exact HX.out) | (with_reducible refine Ext.trans ?_ HX.out) | (with_reducible refine Ext.below ?_ (Nat.le_refl _) _) | omega | (simp; done) | (simp; omega))))) ?_).congr (fun i _ => ll_next)
          intro hne q hq
          have := IntS.lt (show IntS w (.slice (some q) sn sc) x.n by rw [← hq]; exact HIW.out) (by rw [← HGE.out]; exact hne)
          omega
        case measure => simp [intOf]; omega
      · have q5 : (x.kind == 5) = false := beq_eq_false_iff_ne.2 h5
        rw [if_neg h5] at HGE
        clear h5
        by_cases h6 : x.kind = 6
        · have q6 : (x.kind == 6) = true := beq_iff_eq.2 h6
          rw [if_pos h6] at HGE
          obtain ⟨hd2, hd0, hd1⟩ := ok_dry HOK.out h6
          obtain ⟨hdl, hdg⟩ := dryL_get hd2 hd0 hd1
          have HRNG := Lib.hid (fun i (hi : i < x.n.length) => ok_num HOK.out hi)
          have HPL := Lib.hid (packed_len (evs_len H.out.ok))
          have hl6 := ok_len HOK.out
          obtain ⟨pn, cn, hv, hn1, hn2, hn3⟩ := IntS.form HIN.out
          unfold maxLen at hn2
          obtain ⟨rfl, rfl, rfl⟩ : sp = pn ∧ sn = x.n.length ∧ sc = cn := by simpa using hv
          obtain ⟨b1, o1, rfl, e1⟩ := IntS.elem HIN.out (i := 1) (by omega)
          obtain ⟨c, hc⟩ : ∃ c : Nat, x.n.getD 1 0 = (c : Int) := ⟨(x.n.getD 1 0).toNat, by omega⟩
          rw [hc] at hd0 hd1 hdl
          have hx1 : x.n[1] = (c : Int) := by rw [← hc, List.getD_eq_getElem?_getD, List.getElem?_eq_getElem (by omega)]; rfl
          rw [hx1] at e1
          have hD : (dryL x.n).length = c := by rw [hdl]; simp
          have HDG := Lib.hid hdg
          obtain ⟨D, hDe⟩ : ∃ D, D = dryL x.n := ⟨_, rfl⟩
          rw [← hDe] at hD HGE HDG
          have ob1 := Old.of_cell e1
          clear h6 hv hdg hx1 hdl hc hDe
          go_wp2_with (first | ((with_reducible refine wl_loadM midEv (Ext.range ?_ (Hid.out HR)) ?_ ?_ ?_ ?_); (· repeat' (first | (with_reducible exact Ext.refl _) | (with_reducible exact ExtOf.ext _) | (with_reducible refine Ext.trans ?_ (ExtOf.ext _)) | (with_reducible refine Ext.alloc ?_ _) | (with_reducible refine Ext.drew ?_) | (with_reducible refine Ext.setCell ?_ ?_ _) | (with_reducible refine Ext.setRow ?_ ?_ _) | (with_reducible exact HX.out) | (with_reducible refine Ext.trans ?_ HX.out) | (with_reducible refine Ext.below ?_ (Nat.le_refl _) _) | omega | (simp; done) | (simp; omega))); (· rfl); (· (first | exact wanted_none rfl | exact wanted_some rfl rfl rfl)); (· rfl)) | ((with_reducible apply wl_store' lwEv); (· (first | exact wanted_none rfl | exact wanted_some rfl rfl rfl)); (· rfl); (· rfl); (· infer_instance); (· rfl); (· rfl); (· (simp [Value.oneCell', SlT.v])); try simp only [setRow_alloc, setRow_new, setRow_new1, setRow_new2, setRow_new11, setRow_new111]) | ((with_reducible apply wl_load' lwEv); (· (first | exact wanted_none rfl | exact wanted_some rfl rfl rfl)); (· rfl); (· infer_instance); (· rfl)))
          refine wp_region_ext (by kernel_rfl) (by kernel_rfl) ?_
          repeat (first | go_big_quiet_skip | go_big_quiet_step (fail))
          refine wpQuiet_nil ?_
          intro _ hw'
          obtain ⟨nq, hw''⟩ := hw'
          subst hw''
          rw [show 2 + c - 2 = c by omega]
          have HXW : Hid (Ext wr nq.val) := Lib.hid (by repeat' (first | (with_reducible exact Ext.refl _) | (with_reducible exact ExtOf.ext _) | (with_reducible refine Ext.trans ?_ (ExtOf.ext _)) | (with_reducible refine Ext.alloc ?_ _) | (with_reducible refine Ext.drew ?_) | (with_reducible refine Ext.setCell ?_ ?_ _) | (with_reducible refine Ext.setRow ?_ ?_ _) | (with_reducible exact HX.out) | (with_reducible refine Ext.trans ?_ HX.out) | (with_reducible refine Ext.below ?_ (Nat.le_refl _) _) | omega | (simp; done) | (simp; omega)))
          generalize nq.val = W0 at *
          generalize hP : (if sc = 2 then some ⟨b1, o1, none⟩ else some ⟨b1, o1 + 2, none⟩ : Option Addr) = P36 at *
          have HPP : Hid (0 < c → P36 = some ⟨b1, o1 + 2, none⟩) := Lib.hid (fun h => by rw [← hP, if_neg (by omega)])
          clear hP
          have hbg : Block W0 g (gs.map SlT.v).toArray := hb.ext HXW.out
          have HSN : Hid (gs.set k nilT = gs) := Lib.hid (by
            apply List.ext_getElem (by simp)
            intro j h1 h2
            by_cases e : j = k
            · subst e; simp [HN.out j (Nat.le_refl _) h2]
            · rw [List.getElem_set_ne (Ne.symm e)])
          have hgW0 : g < W0.heap.size := hbg.lt
          have hwr0 := HXW.out.size
          clear ck og hb
          go_wp2_with fail
          go_loopw [38] (fun vj w2 => ∃ (i : Nat) (so : SlT), i ≤ c ∧ vj = .int .i64 i ∧ Block w2 g ((gs.set k so).map SlT.v).toArray ∧ Own encI 1 3 W0.heap.size w2 so.v ((D.take i).flatMap (packed num (evs l))) ∧ ((D.take i).flatMap (packed num (evs l))).length ≤ 600 * i ∧ (∀ q, q < W0.heap.size → q ≠ g → w2.heap[q]? = W0.heap[q]?) ∧ Ext w w2 ∧ W0.heap.size ≤ w2.heap.size) (fun i _ => c - (intOf i).toNat)
          case atStart => exact ⟨0, nilT, by omega, rfl, by rw [HSN.out]; exact hbg, by rw [List.take_zero]; exact Own.nil _, by rw [List.take_zero]; simp, fun _ _ _ => rfl, HX.out.trans HXW.out, Nat.le_refl _⟩
          case round =>
            obtain ⟨i, so, hi, rfl, hb2, ho2, hal, hsm, hx2, hsz2⟩ := hrel
            have HO2 := Lib.hid ho2
            have HSM := Lib.hid hsm
            have HX2 := Lib.hid hx2
            clear hsm hx2
            obtain ⟨acc, hacc⟩ : ∃ acc, acc = (D.take i).flatMap (packed num (evs l)) := ⟨_, rfl⟩
            rw [← hacc] at ho2 hal HO2
            have HACC := Lib.hid hacc
            clear hacc
            have ck2 : wr.cell? ⟨g, k, none⟩ = some so.v := by
              rw [Block.cell k]
              simp only [List.getElem?_toArray, List.map_set]
              rw [List.getElem?_set_self (by simp; omega)]
            have og2 := Old.of_cell ck2
            by_cases hlt2 : i < c
            · obtain rfl := HPP.out (by omega)
              have hiD : i < D.length := by omega
              have HDS := Lib.hid (dried_step (l := evs l) hiD)
              have e2 := IntS.elem (IntS.ext HIW.out HX2.out) (i := 2 + i) (by omega)
              obtain ⟨b', o', e, h2⟩ := e2
              obtain ⟨rfl, rfl⟩ : b1 = b' ∧ o1 = o' := by simpa using e
              have hg2 := HDG.out i hiD (by omega)
              rw [← hg2] at h2
              generalize D[i] = m at *
              clear hg2 e
              rw [← Nat.add_assoc] at h2
              have ob2 := Old.of_cell h2
              obtain ⟨q2, n2, c2⟩ := so
              have hsn : n2 = acc.length := by
                obtain ⟨qq, cc, he⟩ := Own.form2 HO2.out
                simp only [SlT.v, Value.slice.injEq] at he
                exact he.2.1
              subst hsn
              simp only [SlT.v] at ck2 HO2 ho2
              have HPM := Lib.hid (HPL.out m)
              go_wp2_with fail
              refine wp_region_soft2T 0 1 _ _ (.slice (some ⟨g, 0, none⟩) l.length l.length) (.int .i64 k) (gdA b off l.length cap g l.length k m q2 acc.length c2) (gdF (packed num (evs l) m)) [false, false, true, true, true, true, true, true, true] [false, false, false, false, false, false, false, false, false, true, true, true] 9 [10, 11] (by kernel_rfl) rfl rfl (by kernel_rfl) (fun _ _ _ h => h) (fun _ _ _ h => h) (.inl ⟨by kernel_rfl, fun _ => by kernel_rfl⟩) (.inl ⟨by kernel_rfl, fun _ => by kernel_rfl⟩) rfl (by kernel_rfl) (by kernel_rfl) rfl (gdA_some _ _ _ _ _ _ _ _ _ _ _) (gdF_keep _) (by rintro d (e | e) <;> (cases e; intro _ _ e; cases e)) ?_
              simp only [part]
              refine soft_det (d := 44) (V := .slice (some ⟨g, 0, none⟩) l.length l.length) rfl (by kernel_rfl) (fun v h => h.resolve_left (by decide)) (.inr rfl) (fun _ e => by cases e) (fun W _ _ => by kernel_rfl) ?_
              refine soft_det (d := 45) (V := .int .i64 k) rfl (by kernel_rfl) (fun v h => h.resolve_left (by decide)) (.inr rfl) (fun _ e => by cases e) (fun W _ _ => by kernel_rfl) ?_
              refine soft_det (d := 46) (V := .pointer (some ⟨g, k, none⟩)) rfl (by kernel_rfl) (fun v h => h.resolve_left (by decide)) (.inr rfl) (fun _ e => by cases e) (fun W _ _ => by simp [execOp, go_sem]; intro h; omega) ?_
              refine soft_det (d := 47) (V := .slice q2 acc.length c2) rfl (by kernel_rfl) (fun v h => h.resolve_left (by decide)) (.inr rfl) (fun _ e => by cases e) (fun W hx _ => by have := hx.cell ck2; simp [execOp, go_sem, this]) ?_
              refine soft_det (d := 48) (V := .slice (some ⟨b, off, none⟩) l.length cap) rfl (by kernel_rfl) (fun v h => h.resolve_left (by decide)) (.inr rfl) (fun _ e => by cases e) (fun W _ _ => by kernel_rfl) ?_
              refine soft_det (d := 49) (V := .int .i64 m) rfl (by kernel_rfl) (fun v h => h.resolve_left (by decide)) (.inr rfl) (fun _ e => by cases e) (fun W _ _ => by kernel_rfl) ?_
              refine soft_callS (d := 50) (f := 101) (vals := #[.slice (some ⟨b, off, none⟩) l.length cap, .int .i64 m]) rfl (by kernel_rfl) (fun v => .inl rfl) (fun W => by kernel_rfl) (fun W hx _ => (ppacked_any l _ m W (H.out.ext (HX2.out.trans hx)) (HT.out.ext (HX2.out.trans hx))).mono fun e w' ⟨v', h1, h2, nn, h3⟩ => ⟨v', h1, fun _ => by rw [h3]; exact IntS.ext h2 nn.ext, nn, h3⟩) ?_
              intro v50 W3 hx3 hF3
              have hf50 : IntS W3 v50 (packed num (evs l) m) := known_endT (v := v50) (d := 50) (i := 8) hF3 (by kernel_rfl) (by kernel_rfl) (by kernel_rfl) rfl
              obtain ⟨pq, pc, rfl, hp1, hp2, hp3⟩ := IntS.form hf50
              simp only [Act.put, List.setIfInBounds_toArray, List.set_cons_succ, List.set_cons_zero, part]
              have hpm := HPM.out
              refine wl_appendS (enc := encI) (k := 1) (E := 3) (base := W0.heap.size) (l := acc) (m := packed num (evs l) m) Tryz.underlying32 hiE hE0 hE1 hE2 rfl (by decide) encI_len encI_one rfl rfl (Own.ext HO2.out hx3) hf50 (by unfold maxLen; omega) (by omega) (by have := hx3.size; omega) ?_
              intro v7 n7 ho7
              obtain ⟨q7, c7, rfl⟩ := Own.form2 ho7
              have b7 : Block n7.val g (((gs.set k ⟨q2, acc.length, c2⟩).map SlT.v).toArray) := (hb2.ext hx3).below n7.below hgW0
              have hgk : k < l.length := hlt
              have hb7s := n7.below
              have hsz7 := hb7s.size
              have hx3s := hx3.size
              have HX3 := Lib.hid hx3
              have HB7 := Lib.hid hb7s
              clear hx3 hF3 hb7s hf50
              have HB7B := Lib.hid b7
              have HO7 := Lib.hid ho7
              clear ho7
              go_wp2_with fail
              go_roundw
              case rel =>
                have hs7 : (n7.val.setCell ⟨g, k, none⟩ (.slice q7 (acc.length + (packed num (evs l) m).length) c7)).heap.size = n7.val.heap.size := by simp [World.setCell]
                refine ⟨i + 1, ⟨q7, acc.length + (packed num (evs l) m).length, c7⟩, by omega, by first | rfl | go_num, ?_, ?_, ?_, fun q hq hne => ?_, ?_, by omega⟩
                · have := blk_set (k := k) (so := ⟨q7, acc.length + (packed num (evs l) m).length, c7⟩) HB7B.out
                  rw [List.set_set] at this
                  exact this
                · rw [HDS.out, ← HACC.out]
                  have := Own.other (b := g) (i := k) (u := .slice q7 (acc.length + (packed num (evs l) m).length) c7) HO7.out hgW0
                  simpa [SlT.v] using this
                · rw [HDS.out, ← HACC.out, List.length_append]; omega
                · exact (heap_step (Ext.refl _) (by omega) hne).trans ((HB7.out.block q hq).trans ((HX3.out.block q (by omega)).trans (HSM.out q hq hne)))
                · exact Ext.setCell (Below.trans (HX2.out.trans HX3.out) (Below.mono HB7.out (by have := HX.out.size; omega))) (by show w.heap.size ≤ g; omega) _
              case measure => simp [intOf]; omega
            · obtain rfl : i = c := by omega
              go_wp2_with fail
              go_roundw
              case rel =>
                refine ⟨k + 1, gs.set k so, by omega, by first | rfl | go_num, ?_, nil_next HN.out, HX2.out⟩
                have hfin : acc = group num (evs l) k := by
                  rw [HGE.out, HACC.out, List.take_of_length_le (by omega)]
                refine (HG.out.step (so := so) (L := group num (evs l) k) hlt (fun q hq hne => (HSM.out q (by omega) hne).trans (HXW.out.block q hq)) (by omega) hb2 (by rw [← hfin]; exact Own.slice encI_len HO2.out) ?_).congr (fun i _ => ll_next)
                intro _ q hq
                have hq' : Own encI 1 3 W0.heap.size wr (.slice so.p so.n so.cap) acc := HO2.out
                have := Own.base_le (n := so.n) (c := so.cap) hq' q hq
                omega
              case measure => simp [intOf]; omega
        · have q6 : (x.kind == 6) = false := beq_eq_false_iff_ne.2 h6
          rw [if_neg h6] at HGE
          clear h6
          by_cases h10 : x.kind = 10
          · have q10 : (x.kind == 10) = true := beq_iff_eq.2 h10
            rw [if_pos h10] at HGE
            clear h10
            go_wp2_with (first | ((with_reducible refine wl_loadM midEv (Ext.range ?_ (Hid.out HR)) ?_ ?_ ?_ ?_); (· repeat' (first | (with_reducible exact Ext.refl _) | (with_reducible exact ExtOf.ext _) | (with_reducible refine Ext.trans ?_ (ExtOf.ext _)) | (with_reducible refine Ext.alloc ?_ _) | (with_reducible refine Ext.drew ?_) | (with_reducible refine Ext.setCell ?_ ?_ _) | (with_reducible refine Ext.setRow ?_ ?_ _) | (with_reducible exact HX.out) | (with_reducible refine Ext.trans ?_ HX.out) | (with_reducible refine Ext.below ?_ (Nat.le_refl _) _) | omega | (simp; done) | (simp; omega))); (· rfl); (· (first | exact wanted_none rfl | exact wanted_some rfl rfl rfl)); (· rfl)) | ((with_reducible apply wl_store' lwEv); (· (first | exact wanted_none rfl | exact wanted_some rfl rfl rfl)); (· rfl); (· rfl); (· infer_instance); (· rfl); (· rfl); (· (simp [Value.oneCell', SlT.v])); try simp only [setRow_alloc, setRow_new, setRow_new1, setRow_new2, setRow_new11, setRow_new111]) | ((with_reducible apply wl_load' lwEv); (· (first | exact wanted_none rfl | exact wanted_some rfl rfl rfl)); (· rfl); (· infer_instance); (· rfl)) | (go_at_call 102; refine (HSHP.out _ (HX.out.trans (by repeat' (first | (with_reducible exact Ext.refl _) | (with_reducible exact ExtOf.ext _) | (with_reducible refine Ext.trans ?_ (ExtOf.ext _)) | (with_reducible refine Ext.alloc ?_ _) | (with_reducible refine Ext.drew ?_) | (with_reducible refine Ext.setCell ?_ ?_ _) | (with_reducible refine Ext.setRow ?_ ?_ _) | (with_reducible exact HX.out) | (with_reducible refine Ext.trans ?_ HX.out) | (with_reducible refine Ext.below ?_ (Nat.le_refl _) _) | omega | (simp; done) | (simp; omega))))).mono ?_; rintro en w' ⟨v', rfl, hv', nd, rfl⟩; (obtain ⟨q7, c7, rfl⟩ := Own.form2 hv'); (have HV := Lib.hid hv'); clear hv'))
            go_roundw
            case rel =>
              have hge : ∀ q, q7 = some q → q.block ≠ g := fun q hq => by
                have := Own.base_le HV.out q hq
                have := HG.out.blk.lt
                simp at *
                omega
              refine ⟨k + 1, gs.set k ⟨q7, (shipped (evs l) k (num x.item)).length, c7⟩, by omega, by first | rfl | go_num, ?_, nil_next HN.out, Ext.setCell (HX.out.trans (by repeat' (first | (with_reducible exact Ext.refl _) | (with_reducible exact ExtOf.ext _) | (with_reducible refine Ext.trans ?_ (ExtOf.ext _)) | (with_reducible refine Ext.alloc ?_ _) | (with_reducible refine Ext.drew ?_) | (with_reducible refine Ext.setCell ?_ ?_ _) | (with_reducible refine Ext.setRow ?_ ?_ _) | (with_reducible exact HX.out) | (with_reducible refine Ext.trans ?_ HX.out) | (with_reducible refine Ext.below ?_ (Nat.le_refl _) _) | omega | (simp; done) | (simp; omega)))) (by show w.heap.size ≤ g; omega) _⟩
              exact (HG.out.put (so := ⟨q7, (shipped (evs l) k (num x.item)).length, c7⟩) (L := group num (evs l) k) hlt (by repeat' (first | (with_reducible exact Ext.refl _) | (with_reducible exact ExtOf.ext _) | (with_reducible refine Ext.trans ?_ (ExtOf.ext _)) | (with_reducible refine Ext.alloc ?_ _) | (with_reducible refine Ext.drew ?_) | (with_reducible refine Ext.setCell ?_ ?_ _) | (with_reducible refine Ext.setRow ?_ ?_ _) | (with_reducible exact HX.out) | (with_reducible refine Ext.trans ?_ HX.out) | (with_reducible refine Ext.below ?_ (Nat.le_refl _) _) | omega | (simp; done) | (simp; omega))) (by rw [HGE.out]; exact Own.slice encI_len HV.out) (fun _ => hge)).congr (fun i _ => ll_next)
            case measure => simp [intOf]; omega
          · have q10 : (x.kind == 10) = false := beq_eq_false_iff_ne.2 h10
            rw [if_neg h10] at HGE
            clear h10
            go_wp2_with (first | ((with_reducible refine wl_loadM midEv (Ext.range ?_ (Hid.out HR)) ?_ ?_ ?_ ?_); (· repeat' (first | (with_reducible exact Ext.refl _) | (with_reducible exact ExtOf.ext _) | (with_reducible refine Ext.trans ?_ (ExtOf.ext _)) | (with_reducible refine Ext.alloc ?_ _) | (with_reducible refine Ext.drew ?_) | (with_reducible refine Ext.setCell ?_ ?_ _) | (with_reducible refine Ext.setRow ?_ ?_ _) | (with_reducible exact HX.out) | (with_reducible refine Ext.trans ?_ HX.out) | (with_reducible refine Ext.below ?_ (Nat.le_refl _) _) | omega | (simp; done) | (simp; omega))); (· rfl); (· (first | exact wanted_none rfl | exact wanted_some rfl rfl rfl)); (· rfl)) | ((with_reducible apply wl_store' lwEv); (· (first | exact wanted_none rfl | exact wanted_some rfl rfl rfl)); (· rfl); (· rfl); (· infer_instance); (· rfl); (· rfl); (· (simp [Value.oneCell', SlT.v])); try simp only [setRow_alloc, setRow_new, setRow_new1, setRow_new2, setRow_new11, setRow_new111]) | ((with_reducible apply wl_load' lwEv); (· (first | exact wanted_none rfl | exact wanted_some rfl rfl rfl)); (· rfl); (· infer_instance); (· rfl)))
            go_roundw
            case rel =>
              refine ⟨k + 1, gs, by omega, by first | rfl | go_num, (HG.out.ext (by repeat' (first | (with_reducible exact Ext.refl _) | (with_reducible exact ExtOf.ext _) | (with_reducible refine Ext.trans ?_ (ExtOf.ext _)) | (with_reducible refine Ext.alloc ?_ _) | (with_reducible refine Ext.drew ?_) | (with_reducible refine Ext.setCell ?_ ?_ _) | (with_reducible refine Ext.setRow ?_ ?_ _) | (with_reducible exact HX.out) | (with_reducible refine Ext.trans ?_ HX.out) | (with_reducible refine Ext.below ?_ (Nat.le_refl _) _) | omega | (simp; done) | (simp; omega)))).congr (fun i _ => ?_), fun i hi h => HN.out i (by omega) h, HX.out.trans (by repeat' (first | (with_reducible exact Ext.refl _) | (with_reducible exact ExtOf.ext _) | (with_reducible refine Ext.trans ?_ (ExtOf.ext _)) | (with_reducible refine Ext.alloc ?_ _) | (with_reducible refine Ext.drew ?_) | (with_reducible refine Ext.setCell ?_ ?_ _) | (with_reducible refine Ext.setRow ?_ ?_ _) | (with_reducible exact HX.out) | (with_reducible refine Ext.trans ?_ HX.out) | (with_reducible refine Ext.below ?_ (Nat.le_refl _) _) | omega | (simp; done) | (simp; omega)))⟩
              by_cases e : i = k
              · subst e; simp [HGE.out]
              · by_cases h : i < k
                · rw [if_pos h, if_pos (by omega)]
                · rw [if_neg h, if_neg (by omega)]
            case measure => simp [intOf]; omega
    · obtain rfl : k = l.length := by omega
      go_wp2_with fail
      go_ret
      exact ⟨by rw [HGL.out]; rfl, ⟨gs, by rw [← HGL.out]; exact HG.out.congr (fun i hi => by simp [hi])⟩, ExtOf.of HX.out⟩
end Go.Proofs.YtjfohapnjnopfaaGreatDoor
