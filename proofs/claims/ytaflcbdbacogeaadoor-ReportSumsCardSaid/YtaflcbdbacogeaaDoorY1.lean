/-
  ReportSums: the plain part.
-/
import Derived.Test.YtaflcbdbacogeaaDoorX1
import Derived.Test.YtaflcbdbacogeaaDoorW1
set_option linter.unusedVariables false
set_option linter.unusedSimpArgs false
namespace Go.Proofs.YtaflcbdbacogeaaDoor
open Go.RowKit ReportM

theorem xs_step {l : List Pl} {k : Nat} {pl : Int} (h : k < l.length) : xsOf (itsTo l (k + 1)) pl = if l[k].pl = pl then xsOf (itsTo l k) pl ++ [((l[k].pr, clampL l[k].ln, l[k].gr), l[k].vo)] else xsOf (itsTo l k) pl := by
  rw [itsTo_succ h, xsOf_snoc]
  have e : rowOf (itAt k l[k]) = ((l[k].pr, clampL l[k].ln, l[k].gr), l[k].vo) := by
    simp only [rowOf, itAt, Prod.mk.injEq, true_and, and_true]
    omega
  rw [e]
  rfl
theorem xs_mono {l : List Pl} {pl : Int} : ∀ {k m : Nat}, k ≤ m → m ≤ l.length → ∃ r, xsOf (itsTo l m) pl = xsOf (itsTo l k) pl ++ r
  | k, m, h, hm => by
    obtain ⟨d, rfl⟩ := Nat.le.dest h
    induction d with
    | zero => exact ⟨[], by simp⟩
    | succ d ih =>
      obtain ⟨r, hr⟩ := ih (by omega) (by omega)
      rw [← Nat.add_assoc, xs_step (by omega), hr]
      split
      · exact ⟨r ++ [_], by rw [List.append_assoc]⟩
      · exact ⟨r, rfl⟩
theorem xs_key {l : List Pl} {k : Nat} {pl : Int} (h : k < l.length) (hp : l[k].pl = pl) : ((l[k].pr, clampL l[k].ln, l[k].gr) : Ky) ∈ (xsOf (itsTo l l.length) pl).map (·.1) := by
  obtain ⟨r, hr⟩ := xs_mono (l := l) (pl := pl) (k := k + 1) (m := l.length) (by omega) (Nat.le_refl _)
  rw [hr, xs_step h, if_pos hp]
  simp
theorem nodup_count {k : Ky} : ∀ {l : List Ky}, l.Nodup → k ∈ l → l.count k = 1
  | [], _, h => by cases h
  | x :: l, hn, h => by
    obtain ⟨h1, h2⟩ := List.nodup_cons.1 hn
    by_cases e : x = k
    · subst e
      rw [List.count_cons_self, List.count_eq_zero.2 h1]
    · rw [List.count_cons_of_ne e]
      exact nodup_count h2 ((List.mem_cons.1 h).resolve_left fun e' => e e'.symm)
theorem key_once {xs : List (Ky × Int)} {ts : List Tal} (h : Ok xs ts) {k : Ky} (hk : k ∈ xs.map (·.1)) : (ts.map (·.k)).count k = 1 :=
  nodup_count h.nd ((h.mem k).2 hk)
def cTo (ts : List Tal) (k : Nat) : Int := ((ts.take k).map (·.c)).sum
def vTo (ts : List Tal) (k : Nat) : Int := ((ts.take k).map (·.v)).sum
theorem cTo_succ {ts : List Tal} {k : Nat} (h : k < ts.length) : cTo ts (k + 1) = cTo ts k + ts[k].c := by
  unfold cTo; rw [List.take_succ_eq_append_getElem h, List.map_append, List.sum_append]; simp only [List.map_cons, List.map_nil, List.sum_cons, List.sum_nil, Int.add_zero]
theorem vTo_succ {ts : List Tal} {k : Nat} (h : k < ts.length) : vTo ts (k + 1) = vTo ts k + ts[k].v := by
  unfold vTo; rw [List.take_succ_eq_append_getElem h, List.map_append, List.sum_append]; simp only [List.map_cons, List.map_nil, List.sum_cons, List.sum_nil, Int.add_zero]
theorem to_bounds {ts : List Tal} (h : ∀ t ∈ ts, (1 ≤ t.c ∧ t.c ≤ 1000) ∧ (0 ≤ t.v ∧ t.v ≤ 4294967296000)) : ∀ k, k ≤ ts.length → (0 ≤ cTo ts k ∧ cTo ts k ≤ 1000 * k) ∧ (0 ≤ vTo ts k ∧ vTo ts k ≤ 4294967296000 * k)
  | 0, _ => by simp [cTo, vTo]
  | k + 1, hk => by
    have ih := to_bounds h k (by omega)
    rw [cTo_succ (by omega), vTo_succ (by omega)]
    have := h _ (List.getElem_mem (show k < ts.length by omega))
    omega
def fTo (ts : List Tal) (y : Ky) (k : Nat) : Nat := ((ts.take k).map (·.k)).count y
theorem fTo_succ {ts : List Tal} {y : Ky} {k : Nat} (h : k < ts.length) : fTo ts y (k + 1) = fTo ts y k + if ts[k].k = y then 1 else 0 := by
  unfold fTo
  rw [List.take_succ_eq_append_getElem h, List.map_append, List.count_append]
  by_cases e : ts[k].k = y <;> simp [e, List.count_cons]
theorem fTo_le (ts : List Tal) (y : Ky) (k : Nat) : fTo ts y k ≤ k := by
  unfold fTo
  have := List.count_le_length (a := y) (l := (ts.take k).map (·.k))
  rw [List.length_map, List.length_take] at this
  omega
theorem vol_sum {l : List Pl} {pl : Int} (h : ∀ x ∈ l, PlOk x) : ∀ k, k ≤ l.length → 0 ≤ ((xsOf (itsTo l k) pl).map (·.2)).sum ∧ ((xsOf (itsTo l k) pl).map (·.2)).sum ≤ 4294967296 * k ∧ (xsOf (itsTo l k) pl).length ≤ k
  | 0, _ => by simp [itsTo, xsOf]
  | k + 1, hk => by
    have ih := vol_sum h k (by omega) (pl := pl)
    have := (h _ (List.getElem_mem (show k < l.length by omega))).2.2
    rw [xs_step (by omega)]
    split
    · simp only [List.map_append, List.sum_append, List.map_cons, List.map_nil, List.sum_cons, List.sum_nil, List.length_append, List.length_cons, List.length_nil]
      omega
    · omega
theorem dec_no10 {u : Nat} {x : UInt8} (h : x ∈ Lib.decDigits u) : x ≠ 10 := by
  rw [Lib.decDigits_eq] at h
  obtain ⟨t, _, rfl⟩ := List.mem_map.1 h
  unfold Lib.dg
  have : ∀ m, m < 10 → UInt8.ofNat (48 + m) ≠ 10 := by decide
  exact this _ (Nat.mod_lt _ (by decide))
theorem itoa_no10 {n : Int} {x : UInt8} (h : x ∈ Lib.itoa n) : x ≠ 10 := by
  unfold Lib.itoa at h
  split at h
  · rcases List.mem_cons.1 h with rfl | h
    · decide
    · exact dec_no10 h
  · exact dec_no10 h
theorem count_no {l : List UInt8} (h : ∀ x ∈ l, x ≠ 10) : l.count 10 = 0 := List.count_eq_zero.2 fun hm => h 10 hm rfl
theorem line_count (t : Tal) : (lineF [] t).count 10 = 1 := by
  have e : nameF [] t.k.1 = [45] := by unfold nameF; split <;> simp
  unfold lineF
  rw [e]
  simp only [List.count_append, List.count_cons, count_no (fun x h => itoa_no10 (n := t.k.2.1) h), count_no (fun x h => itoa_no10 (n := t.k.2.2) h), count_no (fun x h => itoa_no10 (n := t.c) h), count_no (fun x h => itoa_no10 (n := t.v) h)]
  decide
theorem text_count : ∀ ts : List Tal, (textF [] ts).count 10 = ts.length
  | [] => rfl
  | t :: ts => by
    have ih := text_count ts
    unfold textF at *
    rw [List.flatMap_cons, List.count_append, line_count, ih, List.length_cons]
    omega
theorem cTo_all {xs : List (Ky × Int)} {ts : List Tal} (h : Ok xs ts) : cTo ts ts.length = xs.length ∧ vTo ts ts.length = (xs.map (·.2)).sum := by
  unfold cTo vTo
  rw [List.take_of_length_le (Nat.le_refl _)]
  exact h.sums
theorem fTo_all {xs : List (Ky × Int)} {ts : List Tal} (h : Ok xs ts) {k : Ky} (hk : k ∈ xs.map (·.1)) : fTo ts k ts.length = 1 := by
  unfold fTo
  rw [List.take_of_length_le (Nat.le_refl _)]
  exact key_once h hk
theorem idx_str {k : Nat} (W : World) (tx : List UInt8) (h : k < tx.length) : (Instr.index 9 (.string ⟨tx.toArray⟩) (.int .i64 (k : Int))).run Tryd.prog W = .ok (.int .u8 (tx[k].toNat : Int)) W := by
  have hs : (⟨tx.toArray⟩ : ByteArray).size = tx.length := by simp [ByteArray.size]
  rw [run_index_string W 9 ⟨tx.toArray⟩ .i64 _ Tryd.underlying9, dif_pos ⟨by omega, by rw [hs]; omega⟩]
  have e : ((k : Int)).toNat = k := by omega
  simp only [e]
  rfl
theorem count_step {tx : List UInt8} {k : Nat} (h : k < tx.length) : (tx.take (k + 1)).count 10 = (tx.take k).count 10 + if tx[k] = 10 then 1 else 0 := by
  rw [List.take_succ_eq_append_getElem h, List.count_append]
  by_cases e : tx[k] = 10 <;> simp [e, List.count_cons]
theorem byte10 {x : UInt8} (h : (x.toNat : Int) = 10) : x = 10 := by
  apply UInt8.toNat_inj.1
  show x.toNat = 10
  omega
end Go.Proofs.YtaflcbdbacogeaaDoor
