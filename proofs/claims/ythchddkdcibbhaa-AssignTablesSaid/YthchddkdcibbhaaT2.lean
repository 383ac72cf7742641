/-
  Orders and boards as records; the table of an assignment.
-/
import Derived.Test.YthchddkdcibbhaaT1
import Derived.Test.YthchddkdcibbhaaOpen
import Derived.Test.YthchddkdcibbhaaC0
set_option linter.unusedVariables false
set_option linter.unusedSimpArgs false
namespace Go.Proofs.Ythchddkdcibbhaa
open Go.RowKit AssignM

attribute [local go_sem] ExtOf.cell ExtOf.frozen Block.cell Block.frozen ExtB.cell ExtB.frozen alloc_cell alloc_frozen

structure Ord where
  (id sp : ByteArray) (pr ln gr mo want minus plus price due : Int)
structure Brd where
  (id lg sp : ByteArray) (pr xa xb ya yb za zb vo : Int) (df : Value) (wa su co st : Int) (dr : Bool) (gr : Int)
def encO (o : Ord) : List Value := [.string o.id, .string o.sp, .int .i64 o.pr, .int .i64 o.ln, .int .i64 o.gr, .int .i64 o.mo, .int .i64 o.want, .int .i64 o.minus, .int .i64 o.plus, .int .i64 o.price, .int .i64 o.due]
def encD (b : Brd) : List Value := [.string b.id, .string b.lg, .string b.sp, .int .i64 b.pr, .int .i64 b.xa, .int .i64 b.xb, .int .i64 b.ya, .int .i64 b.yb, .int .i64 b.za, .int .i64 b.zb, .int .i64 b.vo, b.df, .int .i64 b.wa, .int .i64 b.su, .int .i64 b.co, .int .i64 b.st, .bool b.dr, .int .i64 b.gr]
theorem encO_len (o : Ord) : (encO o).length = 11 := rfl
theorem encD_len (b : Brd) : (encD b).length = 18 := rfl
def fitsO (o : Ord) (b : Brd) : Int := fitsS o.sp o.pr o.ln o.gr o.mo b.sp b.pr b.za b.zb b.su b.co b.st b.dr b.gr
theorem fitsO_any (o : Ord) (b : Brd) (w : World) : Calls Try.prog 23 #[.agg (encO o).toArray, .agg (encD b).toArray] w fun e w' => e = .returned (.int .i64 (fitsO o b)) ∧ ∃ n : ExtOf w, w' = n.val := fits_any _ _ _ _ _ _ _ _ _ _ _ _ _ _ _ _ _ _ _ _ _ _ _ _ _ _ _ _ _ w
theorem rfitsO_any (o : Ord) (b : Brd) (w : World) : Calls Try.prog 24 #[.agg (encO o).toArray, .agg (encD b).toArray] w fun e w' => e = .returned (.int .i64 (fitsO o b)) ∧ ∃ n : ExtOf w, w' = n.val := rfits_any _ _ _ _ _ _ _ _ _ _ _ _ _ _ _ _ _ _ _ _ _ _ _ _ _ _ _ _ _ w
section
variable {P : Program} {ops : Array Oper} {rest : List Oper} {a : Act} {x : Operand} {T b off : Nat} {cs : List Value} {dst : Option Tmp} {ty : TypeId} {pos : String} {aft : Array Edge} {g : Option (Nat × Bool)}
/-- type T is loaded whole, out of the midst of a block -/
structure Mid (P : Program) (T n : Nat) : Prop where
  load : ∀ (w : World) (b o : Nat) (cs : List Value), cs.length = n → w.rangeAt b o cs → (loadVar T ⟨b, o, none⟩).run P w = .ok (.agg cs.toArray) w
theorem mid_of {T n : Nat} {d : TypeDesc} (hu : P.underlying T = some d) (hd : d.isRow = true) (hi : (P.info? T).map (·.size) = some n) : Mid P T n := ⟨fun w b o cs hl hc => run_loadVar_mid w b o T cs d hc hu hd (by rw [hl]; exact hi)⟩
theorem Ext.range {w w' : World} (h : Ext w w') {b o : Nat} {cs : List Value} (hc : w.rangeAt b o cs) : w'.rangeAt b o cs := fun j v hj => h.cell (hc j v hj)
theorem q_loadM {n : Nat} {w : World} {Q : Act → Prop} (L : Mid P T n) (hc : w.rangeAt b off cs) (hsz : cs.length = n) (hw : Region.wanted ⟨dst, .load T x, ty, pos, aft, g⟩ (yielded ops a.tmps) = true) (hx : a.eval x = .pointer (some ⟨b, off, none⟩))
    (hk : wpQuiet P ops (fun w' => ∃ n : ExtOf w, w' = n.val) Q rest (a.put dst (.agg cs.toArray))) : wpQuiet P ops (fun w' => ∃ n : ExtOf w, w' = n.val) Q (⟨dst, .load T x, ty, pos, aft, g⟩ :: rest) a := by
  refine wpQuiet_step fun K hK => ?_
  rw [if_pos hw]
  refine ⟨.agg cs.toArray, ?_, hK _ hk⟩
  rintro w' ⟨m, rfl⟩
  unfold Oper.quietAt execOp
  simp only [hx, Instr.loadAt, Instr.sureAddr, Sem.run_bind, Sem.run_pure, Result.andThen_ok, L.load m.val b off cs hsz (m.ext.range hc)]
  exact ⟨rfl, rfl⟩
end
theorem SliceOf.elemK {α : Type} {enc : α → List Value} {k : Nat} {w : World} {p : Option Addr} {n cap : Nat} {l : List α} (h : SliceOf enc k w (.slice p n cap) l) {i : Nat} (hi : i < l.length) :
    ∃ b off, p = some ⟨b, off, none⟩ ∧ w.rangeAt b (off + i * k) (enc l[i]) := by
  obtain ⟨p', cap', e, h1, h2, h3, h4⟩ := h
  simp only [Value.slice.injEq] at e
  obtain ⟨rfl, _, _⟩ := e
  obtain ⟨b, off, hp, hc⟩ := h4 i l[i] (List.getElem?_eq_getElem hi)
  exact ⟨b, off, hp, fun j u hj => by rw [Nat.add_assoc]; exact hc j u hj⟩
theorem midO : Mid Try.prog 44 11 := mid_of Try.underlying44 rfl (by kernel_rfl)
theorem midD : Mid Try.prog 54 18 := mid_of Try.underlying54 rfl (by kernel_rfl)
abbrev OrdS (w : World) (v : Value) (l : List Ord) : Prop := SliceOf encO 11 w v l
abbrev BrdS (w : World) (v : Value) (l : List Brd) : Prop := SliceOf encD 18 w v l
def rowOf (L : List Brd) (o : Ord) : List Bool := L.map fun b => fitsO o b == 0
def tab (O : List Ord) (L : List Brd) : List (List Bool) := O.map (rowOf L)
/-- the row so far: k elements are known -/
def rowCells (L : List Brd) (o : Ord) (k : Nat) : Array Value := (((rowOf L o).take k).map Value.bool ++ List.replicate (L.length - k) (Value.bool false)).toArray
theorem rowCells_zero (L : List Brd) (o : Ord) : rowCells L o 0 = (List.replicate L.length (Value.bool false)).toArray := by simp [rowCells]
theorem rowCells_set {L : List Brd} {o : Ord} {k : Nat} (hk : k < L.length) : (rowCells L o k).setIfInBounds k (.bool (fitsO o L[k] == 0)) = rowCells L o (k + 1) := by
  have hl : (rowOf L o).length = L.length := by simp [rowOf]
  unfold rowCells
  rw [List.setIfInBounds_toArray]
  congr 1
  apply List.ext_getElem?
  intro j
  have h1 : ((List.take k (rowOf L o)).map Value.bool).length = k := by simp [hl]; omega
  have h2 : ((List.take (k + 1) (rowOf L o)).map Value.bool).length = k + 1 := by simp [hl]; omega
  rcases Nat.lt_trichotomy j k with h | h | h
  · rw [List.getElem?_set_ne (by omega), List.getElem?_append_left (by omega), List.getElem?_append_left (by omega), List.getElem?_map, List.getElem?_map, List.getElem?_take_of_lt h, List.getElem?_take_of_lt (by omega)]
  · subst h
    rw [List.getElem?_set_self (by simp [hl]; omega), List.getElem?_append_left (by omega), List.getElem?_map, List.getElem?_take_of_lt (by omega)]
    simp [rowOf, hk]
  · rw [List.getElem?_set_ne (by omega), List.getElem?_append_right (by omega), List.getElem?_append_right (by omega), h1, h2, List.getElem?_replicate, List.getElem?_replicate]
    by_cases h3 : j < L.length
    · rw [if_pos (by omega), if_pos (by omega)]
    · rw [if_neg (by omega), if_neg (by omega)]
theorem rowCells_full {L : List Brd} {o : Ord} : rowCells L o L.length = ((rowOf L o).map Value.bool).toArray := by
  have hl : (rowOf L o).length = L.length := by simp [rowOf]
  simp only [rowCells]
  rw [List.take_of_length_le (by omega)]
  simp
theorem rowCells_size {L : List Brd} {o : Ord} {k : Nat} (hk : k ≤ L.length) : (rowCells L o k).size = L.length := by simp [rowCells, rowOf]; omega
/-- the rows that are there: row i lies in block gs[i] -/
def RowsAt (G : List (List Bool)) (g0 n : Nat) (gs : List Nat) (w : World) : Prop := ∀ (i : Nat) (g : Nat), gs[i]? = some g → g0 < g ∧ ∃ row, G[i]? = some row ∧ row.length = n ∧ Block w g ((row.map Value.bool).toArray)
def gridCells (n : Nat) (gs : List Nat) (m : Nat) : Array Value := (gs.map (fun g => Value.slice (some ⟨g, 0, none⟩) n n) ++ List.replicate (m - gs.length) (Value.slice none 0 0)).toArray
theorem gridCells_set {n m : Nat} {gs : List Nat} {g : Nat} (h : gs.length < m) : (gridCells n gs m).setIfInBounds gs.length (.slice (some ⟨g, 0, none⟩) n n) = gridCells n (gs ++ [g]) m := by
  unfold gridCells
  rw [List.setIfInBounds_toArray]
  congr 1
  obtain ⟨q, hq⟩ : ∃ q, m - gs.length = q + 1 := ⟨m - gs.length - 1, by omega⟩
  have hq2 : m - (gs ++ [g]).length = q := by simp; omega
  rw [hq, hq2, List.replicate_succ, List.map_append, List.set_append_right _ _ (by simp)]
  simp
theorem RowsAt.ext {G : List (List Bool)} {g0 n : Nat} {gs : List Nat} {w w' : World} (h : RowsAt G g0 n gs w) (hx : Ext w w') : RowsAt G g0 n gs w' := fun i g hg => by
  obtain ⟨h1, row, h2, h3, h4⟩ := h i g hg
  exact ⟨h1, row, h2, h3, h4.ext hx⟩
theorem RowsAt.snoc {G : List (List Bool)} {g0 n : Nat} {gs : List Nat} {w : World} (h : RowsAt G g0 n gs w) {g : Nat} {row : List Bool} (h1 : g0 < g) (h2 : G[gs.length]? = some row) (h3 : row.length = n) (h4 : Block w g ((row.map Value.bool).toArray)) : RowsAt G g0 n (gs ++ [g]) w := fun i g' hg => by
  rcases Nat.lt_trichotomy i gs.length with hi | hi | hi
  · rw [List.getElem?_append_left hi] at hg
    exact h i g' hg
  · subst hi
    simp at hg
    subst hg
    exact ⟨h1, row, h2, h3, h4⟩
  · rw [List.getElem?_eq_none (by simp; omega)] at hg
    cases hg
theorem RowsAt.set {G : List (List Bool)} {g0 n : Nat} {gs : List Nat} {w : World} (h : RowsAt G g0 n gs w) {b i : Nat} (hne : ∀ (j g : Nat), gs[j]? = some g → g ≠ b) (v : Value) : RowsAt G g0 n gs (w.setCell ⟨b, i, none⟩ v) := fun j g hg => by
  obtain ⟨h1, row, h2, h3, h4⟩ := h j g hg
  have : Apart b g := ⟨(hne j g hg).symm⟩
  exact ⟨h1, row, h2, h3, inferInstance⟩
theorem RowsAt.grid {G : List (List Bool)} {g0 n : Nat} {gs : List Nat} {w : World} (h : RowsAt G g0 n gs w) (hl : gs.length = G.length) (hG : G.length ≤ maxLen) (hn : n ≤ maxLen) (hB : Block w g0 (gridCells n gs G.length)) : GridS w (.slice (some ⟨g0, 0, none⟩) G.length G.length) G := by
  refine ⟨gs.map fun g => Value.slice (some ⟨g, 0, none⟩) n n, ⟨_, _, by simp [hl], by simp [hl], hG, (fun h => by cases h), fun i x hi => ⟨g0, 0, rfl, fun j u hj => ?_⟩⟩, by simp [hl], fun i r l hr hg => ?_⟩
  · obtain ⟨rfl⟩ : j = 0 := by have := (List.getElem?_eq_some_iff.1 hj).1; simp [encV] at this; omega
    have hu : x = u := by simpa [encV] using hj
    have hlt : i < gs.length := by have := (List.getElem?_eq_some_iff.1 hi).1; simpa using this
    rw [Block.cell (h := hB), show 0 + (i * 1 + 0) = i by omega]
    simp only [gridCells, List.getElem?_toArray]
    rw [List.getElem?_append_left (by simpa using hlt), hi, hu]
  · rw [List.getElem?_map] at hr
    rcases hgs : gs[i]? with _ | g
    · rw [hgs] at hr; cases hr
    · rw [hgs] at hr
      obtain rfl : Value.slice (some ⟨g, 0, none⟩) n n = r := by simpa using hr
      obtain ⟨_, row, h2, h3, h4⟩ := h i g hgs
      rw [h2] at hg
      obtain rfl : row = l := by simpa using hg
      exact BoolS.ofBlock h4 h3 hn
end Go.Proofs.Ythchddkdcibbhaa
