/-
  The tallies of a stock under construction.
-/
import Derived.Test.YtaflcbdbacogeaaDoorR7
set_option linter.unusedVariables false
set_option linter.unusedSimpArgs false
namespace Go.Proofs.YtaflcbdbacogeaaDoor
open Go.RowKit ReportM Go.Maps

def look (zs : List (Nat × Tal)) (k : Ky) : Option Nat := (zs.map fun z => (z.2.k, z.1)).lookup k
theorem look_split {zs : List (Nat × Tal)} {k : Ky} (h : k ∈ (zs.map (·.2)).map (·.k)) : ∃ l1 g t l2, zs = l1 ++ (g, t) :: l2 ∧ t.k = k ∧ look zs k = some g := by
  induction zs with
  | nil => cases h
  | cons z zs ih =>
    obtain ⟨g, t⟩ := z
    by_cases e : t.k = k
    · exact ⟨[], g, t, zs, rfl, e, by simp [look, List.lookup_cons, e]⟩
    · have h' : k ∈ (zs.map (·.2)).map (·.k) := by
        simp only [List.map_cons, List.mem_cons] at h
        exact h.resolve_left (fun h => e h.symm)
      obtain ⟨l1, g', t', l2, rfl, e2, e3⟩ := ih h'
      refine ⟨(g, t) :: l1, g', t', l2, rfl, e2, ?_⟩
      have hne : (k == t.k) = false := by simpa using (fun h : k = t.k => e h.symm)
      simp only [look, List.map_cons, List.lookup_cons, hne]
      exact e3
theorem look_none {zs : List (Nat × Tal)} {k : Ky} (h : k ∉ (zs.map (·.2)).map (·.k)) : look zs k = none := by
  induction zs with
  | nil => rfl
  | cons z zs ih =>
    simp only [List.map_cons, List.mem_cons, not_or] at h
    have hne : (k == z.2.k) = false := by simpa using h.1
    simp only [look, List.map_cons, List.lookup_cons, hne]
    exact ih h.2
/-- the state of the tallies: a map to blocks, the blocks, a slice of pointers to them -/
structure TS (B bm : Nat) (W : World) (v : Value) (zs : List (Nat × Tal)) : Prop where
  map : PMap Tryd.prog 123 kv W bm zs.length (look zs)
  blk : zipOk W zs
  nd : (zs.map (·.1)).Nodup
  own : Own encP 1 124 B W v (zs.map (·.1))
  low : ∀ z ∈ zs, B ≤ z.1
  ne : ∀ z ∈ zs, v.ownBlock ≠ some z.1 ∧ z.1 ≠ bm
  hbm : B ≤ bm ∧ v.ownBlock ≠ some bm
theorem TS.ext {B bm : Nat} {W W' : World} {v : Value} {zs : List (Nat × Tal)} (h : TS B bm W v zs) (hx : Ext W W') : TS B bm W' v zs :=
  ⟨h.map.ext hx, fun z hz => (h.blk z hz).ext hx, h.nd, h.own.ext hx, h.low, h.ne, h.hbm⟩
/-- a tally is changed -/
theorem TS.turn {B bm g : Nat} {W W' : World} {v : Value} {l1 l2 : List (Nat × Tal)} {t t' : Tal} (h : TS B bm W v (l1 ++ (g, t) :: l2)) (hg : W.grownBy W' (some g)) (hb : Block W' g (talC t')) (hk : t'.k = t.k) : TS B bm W' v (l1 ++ (g, t') :: l2) := by
  have hm : (l1 ++ (g, t') :: l2).map (·.1) = (l1 ++ (g, t) :: l2).map (·.1) := by simp
  have hl : look (l1 ++ (g, t') :: l2) = look (l1 ++ (g, t) :: l2) := by funext q; simp [look, hk]
  have hlen : (l1 ++ (g, t') :: l2).length = (l1 ++ (g, t) :: l2).length := by simp
  have hgn := h.ne (g, t) (by simp)
  have hnd := h.nd
  have hne : ∀ z ∈ l1 ++ l2, z.1 ≠ g := by
    intro z hz e
    rw [List.map_append, List.map_cons, List.nodup_append] at hnd
    obtain ⟨_, h2, h3⟩ := hnd
    rw [List.nodup_cons] at h2
    rcases List.mem_append.1 hz with hz | hz
    · exact h3 _ (List.mem_map.2 ⟨z, hz, rfl⟩) _ (List.mem_cons_self) e
    · exact h2.1 (List.mem_map.2 ⟨z, hz, e⟩)
  have hin : ∀ z ∈ l1 ++ (g, t') :: l2, z = (g, t') ∨ z ∈ l1 ++ l2 := by
    intro z hz
    rcases List.mem_append.1 hz with hz | hz
    · exact .inr (by simp [hz])
    · rcases List.mem_cons.1 hz with e | hz
      · exact .inl e
      · exact .inr (by simp [hz])
  have hold : ∀ z ∈ l1 ++ l2, z ∈ l1 ++ (g, t) :: l2 := by
    intro z hz
    rcases List.mem_append.1 hz with hz | hz <;> simp [hz]
  refine ⟨?_, fun z hz => ?_, by rw [hm]; exact h.nd, ?_, fun z hz => ?_, fun z hz => ?_, h.hbm⟩
  · rw [hl, hlen]; exact h.map.kept hg (fun e => hgn.2 (Option.some.inj e).symm)
  · rcases hin z hz with rfl | hz
    · exact hb
    · have := h.blk z (hold z hz)
      obtain ⟨ty, e⟩ := this.get
      exact ⟨⟨ty, by rw [hg.block z.1 this.lt (fun e => hne z hz (Option.some.inj e))]; exact e⟩⟩
  · rw [hm]
    obtain ⟨h1, hn | ⟨g', cap, cur, rfl, hb', hgg, rest⟩⟩ := h.own
    · exact ⟨h1, .inl hn⟩
    · refine ⟨h1, .inr ⟨g', cap, cur, rfl, hb', ?_, rest⟩⟩
      have hlt := (Array.getElem?_eq_some_iff.1 hgg).1
      have hne' : some g' ≠ some g := fun e => hgn.1 (by rw [← e]; rfl)
      rw [hg.block g' hlt hne']
      exact hgg
  · rcases hin z hz with rfl | hz
    · exact h.low (g, t) (by simp)
    · exact h.low z (hold z hz)
  · rcases hin z hz with rfl | hz
    · exact hgn
    · exact h.ne z (hold z hz)
/-- a new tally -/
theorem TS.new {B bm g : Nat} {W W1 W2 W2' W3 : World} {v v' : Value} {zs : List (Nat × Tal)} {k : Ky} (h : TS B bm W v zs) (hk : k ∉ (zs.map (·.2)).map (·.k)) (hg : g = W.heap.size) (hx1 : Ext W W1) (hb1 : Block W1 g (talC ⟨k, 0, 0⟩)) (hB : B ≤ W.heap.size)
    (hm : PMap Tryd.prog 123 kv W2 bm (zs.length + 1) (fun y => if y = k then some g else look zs y)) (hg2 : W1.grownBy W2 (some bm)) (hx2 : Ext W2 W2') (ho : Own encP 1 124 B W3 v' (zs.map (·.1) ++ [g])) (hkp : Kept W2' v W3 v') :
    TS B bm W3 v' (zs ++ [(g, ⟨k, 0, 0⟩)]) := by
  have hbm := h.map.lt
  have s1 := hx1.size
  have s2 := hg2.size
  have s3 := hx2.size
  have hkeep : ∀ q cs, Block W1 q cs → q ≠ bm → v.ownBlock ≠ some q → Block W3 q cs := fun q cs hb hq1 hq2 => by
    obtain ⟨ty, e⟩ := hb.get
    have e2 : W2.heap[q]? = some (.cells cs ty (0, 0)) := by rw [hg2.block q hb.lt (fun e => hq1 (Option.some.inj e))]; exact e
    have l2 : q < W2.heap.size := (Array.getElem?_eq_some_iff.1 e2).1
    have e3 : W2'.heap[q]? = some (.cells cs ty (0, 0)) := by rw [hx2.block q l2]; exact e2
    exact ⟨⟨ty, by rw [hkp.heap q (by omega) hq2]; exact e3⟩⟩
  have vold : ∀ q, v.ownBlock = some q → q < W.heap.size := fun q hq => by
    obtain ⟨_, hn | ⟨g', cap, cur, rfl, hb', hgg, rest⟩⟩ := h.own
    · rw [hn.1] at hq; cases hq
    · have := (Array.getElem?_eq_some_iff.1 hgg).1
      simp [Value.ownBlock] at hq
      omega
  have hgv : v.ownBlock ≠ some g := fun e => by have := vold g e; omega
  have hgb : g ≠ bm := by omega
  have hin : ∀ z ∈ zs ++ [(g, (⟨k, 0, 0⟩ : Tal))], z ∈ zs ∨ z = (g, ⟨k, 0, 0⟩) := by
    intro z hz
    rcases List.mem_append.1 hz with hz | hz
    · exact .inl hz
    · exact .inr (List.mem_singleton.1 hz)
  have lt1 : ∀ z ∈ zs, z.1 < W.heap.size := fun z hz => (h.blk z hz).lt
  have vne : ∀ q, q < W2'.heap.size → v.ownBlock ≠ some q → v'.ownBlock ≠ some q := fun q hq hne => hkp.ne hq hne
  refine ⟨?_, fun z hz => ?_, ?_, ?_, fun z hz => ?_, fun z hz => ?_, h.hbm.1, vne _ (by omega) h.hbm.2⟩
  · have hl : look (zs ++ [(g, ⟨k, 0, 0⟩)]) = fun y => if y = k then some g else look zs y := by
      funext y
      simp only [look, List.map_append, List.map_cons, List.map_nil]
      rw [List.lookup_append]
      by_cases e : y = k
      · subst e
        rw [if_pos rfl]
        have := look_none hk
        unfold look at this
        rw [this]
        simp [List.lookup_cons]
      · rw [if_neg e]
        have hne : (y == k) = false := by simpa using e
        simp [List.lookup_cons, hne]
    rw [hl, List.length_append]
    have hm2 := hm.ext hx2
    obtain ⟨D, h1, r⟩ := hm2
    refine ⟨D, ?_, r⟩
    obtain ⟨es, clock, hbk, F, hs, hD⟩ := h1
    refine ⟨es, clock, ?_, F, hs, hD⟩
    have hl2 : bm < W2'.heap.size := (Array.getElem?_eq_some_iff.1 hbk).1
    rw [hkp.heap bm hl2 h.hbm.2]
    exact hbk
  · rcases hin z hz with hz | rfl
    · exact hkeep _ _ ((h.blk z hz).ext hx1) (h.ne z hz).2 (h.ne z hz).1
    · exact hkeep _ _ hb1 hgb hgv
  · rw [List.map_append, List.map_cons, List.map_nil, List.nodup_append]
    refine ⟨h.nd, by simp, fun x hx y hy e => ?_⟩
    obtain ⟨z, hz, rfl⟩ := List.mem_map.1 hx
    have := lt1 z hz
    simp at hy
    omega
  · rw [List.map_append]; exact ho
  · rcases hin z hz with hz | rfl
    · exact h.low z hz
    · show B ≤ g; omega
  · rcases hin z hz with hz | rfl
    · exact ⟨vne _ (by have := lt1 z hz; omega) (h.ne z hz).1, (h.ne z hz).2⟩
    · exact ⟨vne _ (by have := hb1.lt; show g < _; omega) hgv, hgb⟩
theorem turn_two {W : World} {g i j : Nat} {x y : Value} (n : ExtOf (W.setCell ⟨g, i, none⟩ x)) : W.grownBy (n.val.setCell ⟨g, j, none⟩ y) (some g) := by
  have hx := n.ext
  refine ⟨?_, ?_, ?_, ?_, fun q hq hne => ?_⟩
  · have := hx.os; simpa [World.setCell] using this
  · have := hx.tape; simpa [World.setCell] using this
  · have := hx.output; simpa [World.setCell] using this
  · have := hx.size; simpa [World.setCell] using this
  · have hq' : q ≠ g := fun e => hne (by rw [e])
    rw [Below.heap_setCell _ _ _ _ hq', hx.block q (by simpa [World.setCell] using hq), Below.heap_setCell _ _ _ _ hq']
theorem TS.bump {B bm g : Nat} {W : World} {v : Value} {l1 l2 : List (Nat × Tal)} {t : Tal} (vo : Int) (h : TS B bm W v (l1 ++ (g, t) :: l2)) (n : ExtOf (W.setCell ⟨g, 3, none⟩ (.int .i64 (t.c + 1)))) :
    TS B bm (n.val.setCell ⟨g, 4, none⟩ (.int .i64 (t.v + vo))) v (l1 ++ (g, ⟨t.k, t.c + 1, t.v + vo⟩) :: l2) := by
  refine h.turn (turn_two n) ?_ rfl
  have hb := h.blk (g, t) (by simp)
  have h2 : Block (n.val.setCell ⟨g, 4, none⟩ (.int .i64 (t.v + vo))) g (((talC t).setIfInBounds 3 (.int .i64 (t.c + 1))).setIfInBounds 4 (.int .i64 (t.v + vo))) := by
    haveI := hb
    infer_instance
  exact h2
theorem TS.look1 {B bm : Nat} {W : World} {v : Value} {zs : List (Nat × Tal)} (h : TS B bm W v zs) {k : Ky} (hk : InR k.1 ∧ InR k.2.1 ∧ InR k.2.2) : (Instr.lookup 119 (.map (some bm)) (.agg #[.int .i64 k.1, .int .i64 k.2.1, .int .i64 k.2.2]) false).run Tryd.prog W = .ok (ptrV (look zs k)) W :=
  h.map.lookup keyLaw Tryd.underlying119 zeroPT (x := k) (kv_key k hk)
theorem TS.look_set {B bm g i : Nat} {W : World} {v x : Value} {l1 l2 : List (Nat × Tal)} {t : Tal} (h : TS B bm W v (l1 ++ (g, t) :: l2)) {k : Ky} (hk : InR k.1 ∧ InR k.2.1 ∧ InR k.2.2) (hl : look (l1 ++ (g, t) :: l2) k = some g) (n : ExtOf (W.setCell ⟨g, i, none⟩ x)) : (Instr.lookup 119 (.map (some bm)) (.agg #[.int .i64 k.1, .int .i64 k.2.1, .int .i64 k.2.2]) false).run Tryd.prog n.val = .ok (.pointer (some ⟨g, 0, none⟩)) n.val := by
  have hne := (h.ne (g, t) (by simp)).2
  have := (((h.map.setCell (g := g) (i := i) (Ne.symm hne) x).ext n.ext).lookup keyLaw Tryd.underlying119 zeroPT (x := k) (kv_key k hk))
  rw [hl] at this
  exact this
theorem look_snoc {zs : List (Nat × Tal)} {k : Ky} {g : Nat} {t : Tal} (h : k ∉ (zs.map (·.2)).map (·.k)) (ht : t.k = k) : look (zs ++ [(g, t)]) k = some g := by
  have h0 := look_none h
  unfold look at h0 ⊢
  rw [List.map_append, List.lookup_append, h0]
  simp [List.lookup_cons, ht]
theorem asc_of {xs : List (Ky × Int)} {zs' zs : List (Nat × Tal)} (ho : Ok xs (zs.map (·.2))) (hp : zs'.Perm zs) (h : zs'.Pairwise fun a b => ¬ ltK b.2.k a.2.k) : Ok xs (zs'.map (·.2)) ∧ Asc (zs'.map (·.2)) := by
  have h1 := ho.perm (hp.map (·.2))
  refine ⟨h1, ?_⟩
  have hnd := h1.nd
  rw [List.map_map] at hnd
  have h2 : zs'.Pairwise fun a b => a.2.k ≠ b.2.k := List.pairwise_map.1 hnd
  unfold Asc
  rw [List.pairwise_map]
  exact (h.and h2).imp fun ⟨h3, h4⟩ => by
    apply Classical.byContradiction
    intro h5
    exact h4 (ltK_total h5 h3)
theorem ext_kept {w wr w' : World} {v v' : Value} {l : List Nat} {E : TypeId} (hx : Ext w wr) (ho : Own encP 1 E w.heap.size wr v l) (hk : Kept wr v w' v') (h1 : w'.os = wr.os) (h2 : w'.tape = wr.tape) (h3 : w'.output = wr.output) : Ext w w' :=
  Below.trans hx ⟨h1, h2, h3, hk.size, fun q hq => hk.heap q (by have := hx.size; omega) (fun e => by have := (World.ownsRow.lt ho q e).1; omega)⟩
theorem TS.start {bm : Nat} {W : World} {B : Nat} (hB : B ≤ bm) (hm : PMap Tryd.prog 123 kv W bm 0 (fun _ => none)) : TS B bm W (.slice none 0 0) [] :=
  ⟨hm, fun z hz => absurd hz (by simp), by simp, Own.nil _, fun z hz => absurd hz (by simp), fun z hz => absurd hz (by simp), hB, by simp [Value.ownBlock]⟩
/-- what is known of an item -/
structure ItOk (x : It) : Prop where
  za : 0 ≤ x.za
  zb : x.za ≤ x.zb
  hi : x.zb ≤ 4294967296
  pr : InR x.pr
  gr : InR x.gr
  vo : 0 ≤ x.vo
  vh : x.vo < 4294967296
def rowOf (x : It) : Ky × Int := ((x.pr, x.zb - x.za, x.gr), x.vo)
def xsOf (l : List It) (pl : Int) : List (Ky × Int) := (l.filter fun x => decide (x.pl = pl)).map rowOf
theorem xsOf_snoc {l : List It} {x : It} {pl : Int} : xsOf (l ++ [x]) pl = if x.pl = pl then xsOf l pl ++ [rowOf x] else xsOf l pl := by
  unfold xsOf
  rw [List.filter_append]
  by_cases h : x.pl = pl <;> simp [h]
theorem xsOf_len (l : List It) (pl : Int) : (xsOf l pl).length ≤ l.length := by
  unfold xsOf; rw [List.length_map]; exact List.length_filter_le _ _
theorem xsOf_vo {l : List It} {pl : Int} (h : ∀ x ∈ l, ItOk x) : ∀ y ∈ xsOf l pl, 0 ≤ y.2 ∧ y.2 ≤ 4294967296 := fun y hy => by
  obtain ⟨x, hx, rfl⟩ := List.mem_map.1 hy
  have := h x (List.mem_filter.1 hx).1
  exact ⟨this.vo, by show x.vo ≤ _; have := this.vh; omega⟩
theorem tal_bounds {l : List It} {pl : Int} {ts : List Tal} (hl : l.length ≤ 1000) (h : ∀ x ∈ l, ItOk x) (ho : Ok (xsOf l pl) ts) : ∀ t ∈ ts, (1 ≤ t.c ∧ t.c ≤ 1000) ∧ (0 ≤ t.v ∧ t.v ≤ 4294967296000) := fun t ht => by
  have h1 := ho.val t ht
  have h2 := cntK_le (xsOf l pl) t.k
  have h3 := volK_bound (by omega) (xsOf_vo (pl := pl) h) t.k
  have h4 := xsOf_len l pl
  have h5 := cntK_pos ((ho.mem t.k).1 (List.mem_map.2 ⟨t, ht, rfl⟩))
  omega
end Go.Proofs.YtaflcbdbacogeaaDoor
