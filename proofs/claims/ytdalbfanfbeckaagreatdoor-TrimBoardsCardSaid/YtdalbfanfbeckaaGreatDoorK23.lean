/-
  Chapter 26: several texts in one (R22, R23).
-/
import Derived.Test.YtdalbfanfbeckaaGreatDoorR21
/-
  Chapter 26: tables of choices.
-/
section
set_option linter.unusedVariables false
set_option linter.unusedSimpArgs false
namespace Go.Proofs.YtdalbfanfbeckaaGreatDoor
open Go.RowKit TrimM

/-- the cells of a choice -/
def tri (c : Int × Int × Int) : List Value := [.int .i64 c.1, .int .i64 c.2.1, .int .i64 c.2.2]
/-- the cells of a table of choices -/
def tbl : List (Int × Int × Int) → List Value
  | [] => []
  | c :: l => tri c ++ tbl l
theorem tri_len (c : Int × Int × Int) : (tri c).length = 3 := rfl
theorem tbl_len : ∀ l : List (Int × Int × Int), (tbl l).length = l.length * 3
  | [] => rfl
  | c :: l => by rw [tbl, List.length_append, tbl_len l, tri_len, List.length_cons]; omega
theorem tbl_set : ∀ (l : List (Int × Int × Int)) (p : Nat) (c : Int × Int × Int), p < l.length → (tbl l).take (p * 3) ++ tri c ++ (tbl l).drop (p * 3 + 3) = tbl (l.set p c)
  | d :: l, 0, c, _ => by
    rw [List.set_cons_zero, tbl, tbl]
    simp [tri]
  | d :: l, p + 1, c, h => by
    have ih := tbl_set l p c (by simpa using h)
    rw [List.set_cons_succ, tbl, tbl, ← ih]
    have e1 : (p + 1) * 3 = (tri d).length + p * 3 := by rw [tri_len]; omega
    have e2 : (p + 1) * 3 + 3 = (tri d).length + (p * 3 + 3) := by rw [tri_len]; omega
    rw [e1, List.take_length_add_append, show (tri d).length + p * 3 + 3 = (tri d).length + (p * 3 + 3) by omega, List.drop_length_add_append]
    simp
theorem tbl_get : ∀ (l : List (Int × Int × Int)) (p : Nat) (h : p < l.length), ((tbl l).drop (p * 3)).take 3 = tri l[p]
  | d :: l, 0, _ => by simp [tbl, tri]
  | d :: l, p + 1, h => by
    have ih := tbl_get l p (by simpa using h)
    have e1 : (p + 1) * 3 = (tri d).length + p * 3 := by rw [tri_len]; omega
    rw [tbl, e1, List.drop_length_add_append, ih]
    rfl
theorem tbl_zero : ∀ n : Nat, tbl (List.replicate n (0, 0, 0)) = List.replicate (n * 3) (.int .i64 0)
  | 0 => rfl
  | n + 1 => by
    rw [List.replicate_succ, tbl, tbl_zero n, show (n + 1) * 3 = 3 + n * 3 by omega, ← List.replicate_append_replicate]
    rfl
/-- a block that is a table of choices -/
abbrev Tbl (w : World) (g : Nat) (l : List (Int × Int × Int)) : Prop := Block w g (tbl l).toArray
theorem wl_loadT {ops : Array Oper} {rest : List Oper} {a : Act} {x : Operand} {dst : Option Tmp} {ty T : TypeId} {pos : String} {aft : Array Edge} {gu : Option (Tmp × Bool)} {w : World} {Q : Exit → Act → World → Prop} {g p : Nat} {l : List (Int × Int × Int)}
    (L : Mid Tryz.prog T 3) (hw : Region.wanted ⟨dst, .load T x, ty, pos, aft, gu⟩ (yielded ops a.tmps) = true) (hx : a.eval x = .pointer (some ⟨g, p * 3, none⟩)) (hb : Tbl w g l) (hp : p < l.length)
    (hk : wpList Tryz.prog ops Q rest (a.put dst (.agg #[.int .i64 (l[p]).1, .int .i64 (l[p]).2.1, .int .i64 (l[p]).2.2])) w) : wpList Tryz.prog ops Q (⟨dst, .load T x, ty, pos, aft, gu⟩ :: rest) a w := by
  refine wl_loadB L hw hx hb (l := tri l[p]) ?_ rfl hk
  rw [List.toList_toArray]; exact tbl_get l p hp
theorem wl_storeT {ops : Array Oper} {rest : List Oper} {a : Act} {x y : Operand} {dst : Option Tmp} {ty T : TypeId} {pos : String} {aft : Array Edge} {gu : Option (Tmp × Bool)} {w : World} {Q : Exit → Act → World → Prop} {g p : Nat} {l : List (Int × Int × Int)} {i b v : Int}
    (L : (Tryz.prog.info? T).map (·.size) = some 3) (hw : Region.wanted ⟨dst, .store T x y, ty, pos, aft, gu⟩ (yielded ops a.tmps) = true) (hx : a.eval x = .pointer (some ⟨g, p * 3, none⟩)) (hy : a.eval y = .agg #[.int .i64 i, .int .i64 b, .int .i64 v]) (hb : Tbl w g l) (hp : p < l.length)
    (hk : wpList Tryz.prog ops Q rest (a.put dst undef) (w.setRow g (tbl (l.set p (i, b, v))).toArray)) : wpList Tryz.prog ops Q (⟨dst, .store T x y, ty, pos, aft, gu⟩ :: rest) a w := by
  refine wpList_step fun K hK => ?_
  rw [if_pos hw]
  unfold Oper.wp execOp
  obtain ⟨t, hg⟩ := hb.get
  have hl := tbl_len l
  have h1 := run_storeCells_at (P := Tryz.prog) g (p * 3) t (tri (i, b, v)) 0 (tbl l).toArray w hg (by simp [tri_len, hl]; omega) (by simp [tri, Value.oneCell'])
  have h2 : (storeVar T ⟨g, p * 3, none⟩ (.agg #[.int .i64 i, .int .i64 b, .int .i64 v])).run Tryz.prog w = .ok () (w.setRow g (tbl (l.set p (i, b, v))).toArray) := by
    have h3 := tbl_set l p (i, b, v) hp
    rw [Nat.add_zero, tri_len, List.toList_toArray, h3] at h1
    cases hq : Tryz.prog.info? T with
    | none => simp [hq] at L
    | some d =>
      have hs : d.size = 3 := by simpa [hq] using L
      have h4 : (#[.int .i64 i, .int .i64 b, .int .i64 v] : Array Value).toList = tri (i, b, v) := rfl
      simp [storeVar, sizeOf, typeInfo, hq, Value.cells, hs]
      exact h1
  simp only [hx, hy, Instr.storeAt, Instr.sureAddr, Sem.run_bind, Sem.run_pure, Result.andThen_ok, h2]
  exact hK _ _ hk
/-- a choice with its worth, as the program holds it -/
def choE : Option (Nat × Nat) × Int → Int × Int × Int
  | (none, v) => (-1, -1, v)
  | (some (i, a), v) => ((i : Int), (a : Int), v)
end Go.Proofs.YtdalbfanfbeckaaGreatDoor
end
/-
  Chapter 26: the table of the best choices, in plain words; make([]choice, n).
-/
section
set_option linter.unusedVariables false
set_option linter.unusedSimpArgs false
namespace Go.Proofs.YtdalbfanfbeckaaGreatDoor
open Go.RowKit TrimM

/-- a table that holds f from p on, and nothing ahead of it -/
def tabF (f : Nat → Int × Int × Int) (n p : Nat) : List (Int × Int × Int) := (List.range n).map fun q => if p ≤ q then f q else (0, 0, 0)
theorem tabF_len (f : Nat → Int × Int × Int) (n p : Nat) : (tabF f n p).length = n := by simp [tabF]
theorem tabF_get (f : Nat → Int × Int × Int) {n p q : Nat} (hq : q < (tabF f n p).length) (h : p ≤ q) : (tabF f n p)[q] = f q := by simp [tabF, h]
theorem tabF_zero (f : Nat → Int × Int × Int) (n : Nat) : tabF f n n = List.replicate n (0, 0, 0) := by
  apply List.ext_getElem?
  intro j
  by_cases h : j < n
  · simp [tabF, h, Nat.not_le.2 h]
  · simp [tabF, h]
theorem tabF_set (f : Nat → Int × Int × Int) {n p : Nat} (hp : p < n) : (tabF f n (p + 1)).set p (f p) = tabF f n p := by
  apply List.ext_getElem?
  intro j
  rw [List.getElem?_set]
  by_cases h : p = j
  · subst h; rw [if_pos rfl]; simp [tabF, hp]
  · rw [if_neg h]
    by_cases hj : j < n
    · simp only [tabF, List.getElem?_map, List.getElem?_range hj, Option.map_some]
      by_cases h2 : p + 1 ≤ j
      · rw [if_pos h2, if_pos (by omega)]
      · rw [if_neg h2, if_neg (by omega)]
    · simp [tabF, hj]
/-- the worth of what lies behind a place -/
def EV (L : Ln) (q : Nat) : Int := if q ≤ L.n then (L.E q).2 else 0
/-- the best choice of the first m places -/
def bestTo (L : Ln) (p m : Nat) : Option (Nat × Nat) × Int := ((L.places p).take m).foldl (fun c a => take c (topOf L (EV L) (L.here a))) (none, 0)
theorem places_len (L : Ln) (p : Nat) : (L.places p).length = L.n - (p + L.k) + 1 := by simp [Ln.places]
theorem bestTo_all (L : Ln) (hL : L.Good) {p m : Nat} (hp : p ≤ L.n) (hm : L.n - (p + L.k) + 1 ≤ m) : bestTo L p m = L.E p := by
  unfold bestTo
  rw [List.take_of_length_le (by rw [places_len]; exact hm), ← bestAt_top, E_eq hL hp]
  exact bestAt_congr hL hp fun q h1 h2 => by unfold EV; rw [if_pos h2]
theorem bestTo_zero (L : Ln) (p : Nat) : bestTo L p 0 = (none, 0) := rfl
theorem bestTo_one (L : Ln) (p : Nat) : bestTo L p 1 = take (none, 0) (topOf L (EV L) (L.here p)) := rfl
theorem bestTo_succ (L : Ln) {p j : Nat} (h : p + 1 + L.k + j ≤ L.n) : bestTo L p (j + 1 + 1) = take (bestTo L p (j + 1)) (topOf L (EV L) (L.here (p + 1 + L.k + j))) := by
  unfold bestTo
  have hg : (L.places p)[j + 1]? = some (p + 1 + L.k + j) := by
    unfold Ln.places
    rw [List.getElem?_cons_succ, List.getElem?_range' (by omega)]
    simp
  rw [List.take_add_one, hg, Option.toList_some, List.foldl_append]
  rfl
theorem top_mem (L : Ln) (E : Nat → Int) : ∀ (l : List (Nat × Nat)) (o : Option ((Nat × Nat) × Int)), (∀ x v, o = some (x, v) → v = L.worth E x) → ∀ x v, l.foldl (topS L E) o = some (x, v) → v = L.worth E x
  | [], _, h, x, v, e => h x v e
  | y :: l, o, h, x, v, e => by
    refine top_mem L E l (topS L E o y) (fun x' v' e' => ?_) x v e
    unfold topS at e'
    cases o with
    | none => simp only [Option.some.injEq, Prod.mk.injEq] at e'; rw [← e'.1, ← e'.2]
    | some t =>
      simp only [Option.some.injEq] at e'
      split at e'
      · simp only [Prod.mk.injEq] at e'; rw [← e'.1, ← e'.2]
      · exact h x' v' (by rw [e'])
theorem gain_fine {L : Ln} (hL : L.Fine) (i a : Nat) : -1 ≤ L.gain i a ∧ L.gain i a ≤ 1000000 := by
  unfold Ln.gain
  rcases h : L.rows[i]? with _ | r
  · simp
  · simp only [Option.getD_some]
    rcases h2 : r[a]? with _ | x
    · simp
    · exact hL.vals r (List.mem_of_getElem? h) x (List.mem_of_getElem? h2)
theorem EV_bound {L : Ln} (hL : L.Fine) (hG : L.Good) (q : Nat) : 0 ≤ EV L q ∧ EV L q ≤ 2000000000 := by
  unfold EV
  by_cases h : q ≤ L.n
  · rw [if_pos h]
    refine ⟨(E_ge hG h).1, ?_⟩
    have h1 := E_le hG (M := 1000000) (by omega) (fun i a => (gain_fine hL i a).2) (L.n - q + 1) q h (by omega)
    have h2 := hL.n
    omega
  · rw [if_neg h]; omega
theorem top_bound {L : Ln} (hL : L.Fine) (hG : L.Good) {l : List (Nat × Nat)} {x : Nat × Nat} {v : Int} (h : topOf L (EV L) l = some (x, v)) : -1 ≤ v ∧ v ≤ 2001000000 := by
  have e := top_mem L (EV L) l none (by simp) x v h
  rw [e]
  unfold Ln.worth
  have h1 := gain_fine hL x.1 x.2
  split
  · omega
  · have h2 := EV_bound hL hG (L.next (x.2 + L.size x.1)); omega
theorem make_choices (N : Nat) (hN : N ≤ 100000) (w : World) : (Instr.makeSlice 108 (.int .i64 (N : Int)) (.int .i64 (N : Int))).run Tryz.prog w = .ok (.slice (some ⟨w.heap.size, 0, none⟩) N N) (w.alloc (.cells (tbl (List.replicate N (0, 0, 0))).toArray 111)) := by
  have hinfo : (Tryz.prog.info? 111).map (fun i => (i.zero, i.size, i.bytes)) = some (some (.agg #[.int .i64 0, .int .i64 0, .int .i64 0]), 3, 24) := by kernel_rfl
  obtain ⟨i, hi, hzz⟩ := Option.map_eq_some_iff.1 hinfo
  simp only [Prod.mk.injEq] at hzz
  obtain ⟨hz, hs, hb⟩ := hzz
  have h := run_make (P := Tryz.prog) w 108 111 i _ Tryz.underlying108 hi hz .i64 .i64 (N : Int) (N : Int) (by omega) (by omega) (by rw [hb]; omega) (by omega)
  rw [hs, Int.toNat_natCast] at h
  rw [h, tbl_zero]
  have e : madeCells (Value.agg #[.int .i64 0, .int .i64 0, .int .i64 0]).cells (N * 3) = (List.replicate (N * 3) (Value.int .i64 0)).toArray := by
    apply Array.ext_getElem?
    intro j
    by_cases hj : j < N * 3
    · have h3 : j % 3 < 3 := Nat.mod_lt _ (by omega)
      have h4 : j % 3 = 0 ∨ j % 3 = 1 ∨ j % 3 = 2 := by omega
      rcases h4 with h4 | h4 | h4 <;> simp [madeCells, hj, Value.cells, h4]
    · simp [madeCells, hj]
  rw [e]
end Go.Proofs.YtdalbfanfbeckaaGreatDoor
end
