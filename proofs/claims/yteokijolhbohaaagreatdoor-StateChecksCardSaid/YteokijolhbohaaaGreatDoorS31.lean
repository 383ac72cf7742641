/-
  Chapter 59: the listed variables give what awake reads.
-/
import Derived.Test.YteokijolhbohaaaGreatDoorS30
import Derived.Lib.AppendIntMem
set_option linter.unusedVariables false
set_option linter.unusedSimpArgs false
namespace Go.Proofs.YteokijolhbohaaaGreatDoor
open Go.RowKit Go.Deep Go.ChangeShapes Go.WideShapes StM

set_option maxRecDepth 100000
theorem arr_parts {H : Type} {enc : TypeId × Value → H} {P : Program} {w : World} {base : Nat} {sp : Nat → Bool} {held : Bool} {fuel : Nat} {t e : TypeId} {n : Nat} {cs : List Value} {x : DataW H × List MemPlace} (ht : P.underlying t = some (.array n e)) (h : DataW.trod enc P w base sp held fuel t cs = some x) :
    ∃ (m : Nat) (xs : List (DataW H × List MemPlace)), cs.length = P.cellsOf t ∧ x.1 = .agg (xs.map (·.1)) ∧ xs.length = n ∧ ∀ i, i < n → ∃ b : DataW H × List MemPlace, xs[i]? = some b ∧ DataW.trod enc P w base sp held m e ((cs.drop (i * P.cellsOf e)).take (P.cellsOf e)) = some b := by
  cases fuel with
  | zero => simp [DataW.trod] at h
  | succ fuel =>
    simp only [DataW.trod, ht] at h
    split at h
    · rename_i hl
      obtain ⟨xs, hm, hx⟩ := Option.map_eq_some_iff.1 h
      refine ⟨fuel, xs, hl, by rw [← hx], by simpa using Lib.mapM_length hm, fun i hi => ?_⟩
      exact Lib.mapM_at hm i i (by simp [hi])
    · cases h
/-- what the four variables hold -/
def vsM : List (List Value) := [[.int .i64 (-1), .int .i64 1], Lib.pow10Tab.map fun n => .int .u64 n, [.bool false, .bool false, .bool true, .bool false], [.int .i64 1, .int .i64 0, .int .i64 0, .int .i64 1, .int .i64 (-1), .int .i64 0, .int .i64 0, .int .i64 (-1)]]
theorem vsM_gl : Sx.glM = vsM.map (·.map Sx.SVal.v) := by rfl
theorem VRs_v {ρ : Sx.Pl} : ∀ l : List Value, Sx.VRs ρ (l.map Sx.SVal.v) l
  | [] => .nil
  | x :: l => .cons (.v x) (VRs_v l)
theorem tabAw_of {W : World} (hW : ∀ (i : Nat) (l : List Value), vsM[i]? = some l → ∃ (C : Array Value) (t : TypeId) (fr : Nat × Nat), W.heap[i]? = some (Obj.cells C t fr) ∧ C.toList = l) : TabAw W := by
  have hlen : Sx.glM.length = 4 := rfl
  have hn : (Sx.fragH Sx.glM).next.nat = 4 := (Sx.fragH_next _).trans hlen
  refine ⟨fun b => if b.nat < 4 then some (b.nat, 0) else none, ⟨fun b hb => ?_, fun b r k e => ?_, fun b r k e => ?_, fun b b' r k r' k' hne e e' _ _ => ?_⟩, fun g b hgb => ?_⟩
  · rw [hn] at hb
    exact if_neg (by omega)
  · change (if b.nat < 4 then some (b.nat, 0) else none) = some (r, k) at e
    split at e
    · next hb =>
      simp only [Option.some.injEq, Prod.mk.injEq] at e
      obtain ⟨rfl, _⟩ := e
      have hl : b.nat < vsM.length := hb
      obtain ⟨C, t, fr, h1, _⟩ := hW b.nat vsM[b.nat] (List.getElem?_eq_getElem hl)
      exact (Array.getElem?_eq_some_iff.1 h1).1
    · cases e
  · change (if b.nat < 4 then some (b.nat, 0) else none) = some (r, k) at e
    split at e
    · next hb =>
      simp only [Option.some.injEq, Prod.mk.injEq] at e
      obtain ⟨rfl, _⟩ := e
      have hl : b.nat < vsM.length := hb
      obtain ⟨C, t, fr, h1, h2⟩ := hW b.nat vsM[b.nat] (List.getElem?_eq_getElem hl)
      have hc : Sx.glM[b.nat]? = some (vsM[b.nat].map Sx.SVal.v) := by rw [vsM_gl, List.getElem?_map, List.getElem?_eq_getElem hl]; rfl
      rw [Sx.fragH_at _ b _ hc]
      refine ⟨C, t, fr, h1, ?_, ?_⟩
      · rw [List.length_map, ← h2, Array.length_toList]; exact Nat.le_refl _
      · rw [List.length_map, ← h2, List.take_length]
        have := VRs_v (ρ := fun b => if b.nat < 4 then some (b.nat, 0) else none) C.toList
        exact this
    · cases e
  · change (if b.nat < 4 then some (b.nat, 0) else none) = some (r, k) at e
    change (if b'.nat < 4 then some (b'.nat, 0) else none) = some (r', k') at e'
    split at e
    · split at e'
      · simp only [Option.some.injEq, Prod.mk.injEq] at e e'
        intro hr
        exact hne (Sx.Pos.nat_inj (by omega))
      · cases e'
    · cases e
  · unfold Sx.gM at hgb
    split at hgb
    · next hb =>
      simp only [Option.some.injEq] at hgb
      subst hgb
      have h4 : g < 4 := Nat.blt_eq.mp hb
      refine ⟨by rw [hn, Sx.Pos.nat_of]; exact h4, 0, ?_⟩
      show (if (Sx.Pos.of g).nat < 4 then some ((Sx.Pos.of g).nat, 0) else none) = some (g, 0)
      rw [Sx.Pos.nat_of, if_pos h4]
    · cases hgb
theorem var_heap {P : Program} {W : World} {name : String} {g : Nat} {cs : Array Value} (hg : P.globalNamed name = some g) (h : W.var? P name = some cs) : ∃ (C : Array Value) (t : TypeId) (fr : Nat × Nat), W.heap[g]? = some (.cells C t fr) ∧ C.toList = cs.toList := by
  unfold World.var? at h
  rw [hg] at h
  simp only [Option.bind_some] at h
  split at h
  · next C t fr hC =>
    simp only [Option.some.injEq] at h
    exact ⟨C, t, fr, hC, by rw [h]⟩
  · cases h
section
variable {H : Type} {enc : TypeId × Value → H} {W : World} {base : Nat} {sp : Nat → Bool} {held : Bool} {fuel : Nat} {cs : List Value} {p : List MemPlace}
theorem cells_still (h : DataW.trod enc Tryz.prog W base sp held fuel 599 cs = some (.agg [.lit (.bool false), .lit (.bool false), .lit (.bool true), .lit (.bool false)], p)) : cs = [.bool false, .bool false, .bool true, .bool false] := by
  obtain ⟨m, xs, hl, hx, hxl, hat⟩ := arr_parts (n := 4) (e := 4) Tryz.underlying599 h
  have hce : Tryz.prog.cellsOf 4 = 1 := by kernel_rfl
  have hct : Tryz.prog.cellsOf 599 = 4 := by kernel_rfl
  rw [hct] at hl
  rw [hce] at hat
  obtain ⟨b0, e0, t0⟩ := hat 0 (by decide)
  obtain ⟨b1, e1, t1⟩ := hat 1 (by decide)
  obtain ⟨b2, e2, t2⟩ := hat 2 (by decide)
  obtain ⟨b3, e3, t3⟩ := hat 3 (by decide)
  obtain ⟨u0, u1, u2, u3, rfl⟩ : ∃ u0 u1 u2 u3, cs = [u0, u1, u2, u3] := match cs, hl with | [a, b, c, d], _ => ⟨a, b, c, d, rfl⟩
  obtain ⟨z0, c0, rfl⟩ := DataW.trod_bool Tryz.underlying4 t0
  obtain ⟨z1, c1, rfl⟩ := DataW.trod_bool Tryz.underlying4 t1
  obtain ⟨z2, c2, rfl⟩ := DataW.trod_bool Tryz.underlying4 t2
  obtain ⟨z3, c3, rfl⟩ := DataW.trod_bool Tryz.underlying4 t3
  obtain ⟨y0, y1, y2, y3, rfl⟩ : ∃ y0 y1 y2 y3, xs = [y0, y1, y2, y3] := match xs, hxl with | [a, b, c, d], _ => ⟨a, b, c, d, rfl⟩
  simp at e0 e1 e2 e3 c0 c1 c2 c3 hx
  subst e0 e1 e2 e3 c0 c1 c2 c3
  simp at hx
  simp [hx]
theorem point_of {n : Nat} {u v : Value} {b : DataW H × List MemPlace} (h : DataW.trod enc Tryz.prog W base sp held n 147 [u, v] = some b) : ∃ x y : Int, u = .int .i64 x ∧ v = .int .i64 y ∧ b.1 = .agg [.lit (.int .i64 x), .lit (.int .i64 y)] := by
  obtain ⟨y0, y1, m, hx, hl, h0, h1⟩ := trod_struct2 Tryz.underlying147 h
  obtain ⟨k0, e0, rfl, _⟩ := DataW.trod_int Tryz.underlying3 h0
  obtain ⟨k1, e1, rfl, _⟩ := DataW.trod_int Tryz.underlying3 h1
  have hc1 : Tryz.prog.cellsOf 3 = 1 := by kernel_rfl
  replace e0 : (([u, v] : List Value).drop 0).take (Tryz.prog.cellsOf 3) = [.int .i64 k0] := e0
  replace e1 : (([u, v] : List Value).drop 1).take (Tryz.prog.cellsOf 3) = [.int .i64 k1] := e1
  rw [hc1] at e0 e1
  exact ⟨k0, k1, by simpa using e0, by simpa using e1, by rw [hx]⟩
theorem cells_turns (h : DataW.trod enc Tryz.prog W base sp held fuel 617 cs = some (.agg [.agg [.lit (.int .i64 1), .lit (.int .i64 0)], .agg [.lit (.int .i64 0), .lit (.int .i64 1)], .agg [.lit (.int .i64 (-1)), .lit (.int .i64 0)], .agg [.lit (.int .i64 0), .lit (.int .i64 (-1))]], p)) :
    cs = [.int .i64 1, .int .i64 0, .int .i64 0, .int .i64 1, .int .i64 (-1), .int .i64 0, .int .i64 0, .int .i64 (-1)] := by
  obtain ⟨m, xs, hl, hx, hxl, hat⟩ := arr_parts (n := 4) (e := 147) Tryz.underlying617 h
  have hce : Tryz.prog.cellsOf 147 = 2 := by kernel_rfl
  have hct : Tryz.prog.cellsOf 617 = 8 := by kernel_rfl
  rw [hct] at hl
  rw [hce] at hat
  obtain ⟨b0, e0, t0⟩ := hat 0 (by decide)
  obtain ⟨b1, e1, t1⟩ := hat 1 (by decide)
  obtain ⟨b2, e2, t2⟩ := hat 2 (by decide)
  obtain ⟨b3, e3, t3⟩ := hat 3 (by decide)
  obtain ⟨u0, u1, u2, u3, u4, u5, u6, u7, rfl⟩ : ∃ u0 u1 u2 u3 u4 u5 u6 u7, cs = [u0, u1, u2, u3, u4, u5, u6, u7] := match cs, hl with | [a, b, c, d, e, f, g, i], _ => ⟨a, b, c, d, e, f, g, i, rfl⟩
  obtain ⟨x0, z0, rfl, rfl, c0⟩ := point_of t0
  obtain ⟨x1, z1, rfl, rfl, c1⟩ := point_of t1
  obtain ⟨x2, z2, rfl, rfl, c2⟩ := point_of t2
  obtain ⟨x3, z3, rfl, rfl, c3⟩ := point_of t3
  obtain ⟨y0, y1, y2, y3, rfl⟩ : ∃ y0 y1 y2 y3, xs = [y0, y1, y2, y3] := match xs, hxl with | [a, b, c, d], _ => ⟨a, b, c, d, rfl⟩
  simp only [List.getElem?_cons_zero, List.getElem?_cons_succ, Option.some.injEq] at e0 e1 e2 e3
  subst e0 e1 e2 e3
  simp only [List.map_cons, List.map_nil, c0, c1, c2, c3, DataW.agg.injEq, List.cons.injEq, DataW.lit.injEq, Lit.int.injEq, true_and, and_true] at hx
  obtain ⟨⟨h0, h1⟩, ⟨h2, h3⟩, ⟨h4, h5⟩, h6, h7⟩ := hx
  subst h0 h1 h2 h3 h4 h5 h6 h7
  rfl
end
theorem tab_of {W : World} (h : laidMetH Tryz.prog [("math/bits.deBruijn32tab", Rows.laid_math_bits_deBruijn32tab), ("math/bits.deBruijn64tab", Rows.laid_math_bits_deBruijn64tab), ("internal/strconv.uint64pow10", Rows.laid_internal_strconv_uint64pow10), ("sawmill/poly.turns", Rows.laid_sawmill_poly_turns), ("sawmill/ring.directions", Rows.laid_sawmill_ring_directions), ("sawmill/kiln.stillAir", Rows.laid_sawmill_kiln_stillAir)] W) : TabAw W := by
  rw [MakeChecks.laidMetH_plain _ _ _ (by kernel_rfl)] at h
  obtain ⟨ps, ⟨ga, ta, csa, fa, pa, qa, _, _, _, _, ⟨gb, tb, csb, fb, pb, qb, _, _, _, _, ⟨g1, t1, cs1, f1, p1, q1, hg1, hty1, hv1, hd1, ⟨g3, t3, cs3, f3, p3, q3, hg3, hty3, hv3, hd3, ⟨g0, t0, cs0, f0, p0, q0, hg0, hty0, hv0, hd0, ⟨g2, t2, cs2, f2, p2, q2, hg2, hty2, hv2, hd2, _, _⟩, _⟩, _⟩, _⟩, _⟩, _⟩, _, _⟩ := h
  have G0 : Tryz.prog.globalNamed "sawmill/ring.directions" = some 0 := by kernel_rfl
  have G1 : Tryz.prog.globalNamed "internal/strconv.uint64pow10" = some 1 := by kernel_rfl
  have G2 : Tryz.prog.globalNamed "sawmill/kiln.stillAir" = some 2 := by kernel_rfl
  have G3 : Tryz.prog.globalNamed "sawmill/poly.turns" = some 3 := by kernel_rfl
  obtain rfl := Option.some.inj (G0.symm.trans hg0)
  obtain rfl := Option.some.inj (G1.symm.trans hg1)
  obtain rfl := Option.some.inj (G2.symm.trans hg2)
  obtain rfl := Option.some.inj (G3.symm.trans hg3)
  have T0 : (Tryz.prog.globals[0]?).map (·.type) = some 185 := by kernel_rfl
  have T1 : (Tryz.prog.globals[1]?).map (·.type) = some 580 := by kernel_rfl
  have T2 : (Tryz.prog.globals[2]?).map (·.type) = some 599 := by kernel_rfl
  have T3 : (Tryz.prog.globals[3]?).map (·.type) = some 617 := by kernel_rfl
  obtain rfl := Option.some.inj (T0.symm.trans hty0)
  obtain rfl := Option.some.inj (T1.symm.trans hty1)
  obtain rfl := Option.some.inj (T2.symm.trans hty2)
  obtain rfl := Option.some.inj (T3.symm.trans hty3)
  have c0 := Lib.cells_of_tab (zs := [-1, 1]) (k := .i64) Tryz.underlying185 Tryz.underlying3 (by kernel_rfl) (by kernel_rfl) hd0
  have c1 := Lib.cells_of_tab (zs := Lib.pow10Tab) (k := .u64) Tryz.underlying580 Tryz.underlying177 (by kernel_rfl) (by kernel_rfl) hd1
  have c2 := cells_still hd2
  have c3 := cells_turns hd3
  obtain ⟨C0, s0, r0, h0, e0⟩ := var_heap hg0 hv0
  obtain ⟨C1, s1, r1, h1, e1⟩ := var_heap hg1 hv1
  obtain ⟨C2, s2, r2, h2, e2⟩ := var_heap hg2 hv2
  obtain ⟨C3, s3, r3, h3, e3⟩ := var_heap hg3 hv3
  refine tabAw_of fun i l hi => ?_
  match i, hi with
  | 0, hi => exact ⟨C0, s0, r0, h0, e0.trans (c0.trans (Option.some.inj hi))⟩
  | 1, hi => exact ⟨C1, s1, r1, h1, e1.trans (c1.trans (Option.some.inj hi))⟩
  | 2, hi => exact ⟨C2, s2, r2, h2, e2.trans (c2.trans (Option.some.inj hi))⟩
  | 3, hi => exact ⟨C3, s3, r3, h3, e3.trans (c3.trans (Option.some.inj hi))⟩
  | n + 4, hi => simp [vsM] at hi
end Go.Proofs.YteokijolhbohaaaGreatDoor
