/-
  Chapter 62: several texts in one (S12, S13).
-/
import Derived.Test.YtjflmmipjeangaaGreatDoorS11
import Derived.Test.YtjflmmipjeangaaGreatDoorSymLw
import Derived.LaidMore
import Derived.Lib.LaidTab
import Derived.ChangeSame
/-
  Chapter 62: the law ScriptRefuses, walked.
-/
section
set_option linter.unusedVariables false
set_option linter.unusedSimpArgs false
namespace Go.Proofs.YtjflmmipjeangaaGreatDoor
open Go.RowKit ScM

attribute [local go_sem] ExtOf.cell ExtOf.frozen Block.cell Block.frozen ExtB.cell ExtB.frozen alloc_cell alloc_frozen
/-- the world holds the laid variables that awake reads -/
def TabAw (W : World) : Prop := ∃ ρ, Sx.Held ρ (Sx.fragH Sx.glM) W ∧ Sx.GlobsH Sx.gM ρ (Sx.fragH Sx.glM)
theorem TabAw.ext {W W' : World} (h : TabAw W) (hx : Ext W W') : TabAw W' := by
  obtain ⟨ρ, hh, hg⟩ := h
  exact ⟨ρ, hh.below' hx, hg⟩
theorem awake_any (w : World) (h : TabAw w) : Calls Tryz.prog 4 #[] w fun e w' => e = .returned (.bool true) ∧ ∃ n : ExtOf w, w' = n.val := by
  obtain ⟨ρ, hh, hg⟩ := h
  exact (Sx.awake_of hh hg).mono fun e w' ⟨h1, h2⟩ => ⟨h1, ExtOf.of h2⟩
theorem errW_cases (l : List ByteArray) : errW l = 5 ∨ errW l = 9 ∨ errW l = 0 := by
  unfold errW
  split
  · exact .inl rfl
  · split
    · split
      · exact .inr (.inl rfl)
      · exact .inr (.inr rfl)
    · exact .inl rfl
theorem errL_cases (s : ByteArray) (he : errL s ≠ 0) : errL s = 4 ∨ errL s = 5 ∨ errL s = 9 := by
  have h := errL_P s
  rcases errP_cases s with h1 | h1 | h1
  · rw [h1, if_neg (by decide)] at h; exact .inl h
  · rw [h1, if_neg (by decide)] at h; exact .inr (.inl h)
  · rw [if_pos h1] at h
    rcases errW_cases (partsB s.data.toList) with h2 | h2 | h2
    · exact .inr (.inl (h.trans h2))
    · exact .inr (.inr (h.trans h2))
    · exact absurd (h.trans h2) he
theorem err_texts (s : ByteArray) (he : errL s ≠ 0) : ∃ o, (∀ w, Calls Tryz.prog 17 #[.int .i64 (errL s)] w fun e w' => e = .returned (.string o) ∧ ∃ n : ExtOf w, w' = n.val) ∧ ∀ w, Calls Tryz.prog 8 #[.int .i64 (errL s)] w fun e w' => e = .returned (.string o) ∧ ∃ n : ExtOf w, w' = n.val := by
  rcases errL_cases s he with h | h | h
  · rw [h]
    exact ⟨_, fun w => (Sx.fail_any Sx.failed4 w).mono fun e w' ⟨h1, h2⟩ => ⟨h1, ExtOf.of h2⟩, fun w => (Sx.fail_any Sx.rfail4 w).mono fun e w' ⟨h1, h2⟩ => ⟨h1, ExtOf.of h2⟩⟩
  · rw [h]
    exact ⟨_, fun w => (Sx.fail_any Sx.failed5 w).mono fun e w' ⟨h1, h2⟩ => ⟨h1, ExtOf.of h2⟩, fun w => (Sx.fail_any Sx.rfail5 w).mono fun e w' ⟨h1, h2⟩ => ⟨h1, ExtOf.of h2⟩⟩
  · rw [h]
    exact ⟨_, fun w => (Sx.fail_any Sx.failed9 w).mono fun e w' ⟨h1, h2⟩ => ⟨h1, ExtOf.of h2⟩, fun w => (Sx.fail_any Sx.rfail9 w).mono fun e w' ⟨h1, h2⟩ => ⟨h1, ExtOf.of h2⟩⟩
theorem new_run {B : Nat} {ρ : Sx.Pl} {W : World} {b : Sx.Pos} {H1 : Sx.Hp} (h : Sx.Keeps B ρ (Sx.fragH Sx.glM) W) (hr : Sx.awCl 5 [] (Sx.fragH Sx.glM) = some (.ptr b 0, H1)) :
    Calls Tryz.prog 5 #[] W fun e W' => ∃ r k σ, e = .returned (.pointer (some ⟨r, 0, none⟩)) ∧ σ b = some (r, k) ∧ Sx.Keeps B σ H1 W' ∧ Below B W W' := by
  refine (h.run hr .nil).mono ?_
  rintro e W' ⟨v, σ, rfl, hv, hk, hb, _⟩
  cases hv with
  | ptr hp => exact ⟨_, _, σ, rfl, hp, hk, hb⟩
theorem dig_run {B : Nat} {ρ : Sx.Pl} {W : World} {b : Sx.Pos} {H H' : Sx.Hp} {r k : Nat} {t : ByteArray} (h : Sx.Keeps B ρ H W) (hr : Sx.awCl 7 [.ptr b 0, Sx.dgS] H = some (.v (.string t), H')) (hp : ρ b = some (r, k)) :
    Calls Tryz.prog 7 #[.pointer (some ⟨r, 0, none⟩), .string ⟨#[100, 105, 103, 101, 115, 116]⟩] W fun e W' => e = .returned (.string t) ∧ ∃ σ, Sx.Keeps B σ H' W' ∧ Below B W W' ∧ σ b = some (r, k) := by
  refine (h.run hr (.cons (.ptr hp) (.cons (.v _) .nil))).mono ?_
  rintro e W' ⟨v, σ, rfl, hv, hk, hb, hkeep⟩
  cases hv
  exact ⟨rfl, σ, hk, hb, hkeep b _ hp⟩
set_option maxHeartbeats 1600000 in
set_option maxRecDepth 20000 in
theorem law_walk (s : ByteArray) (w : World) (ht : TabAw w) : Calls Tryz.prog 3 #[.string s] w fun e w' => e = .returned (.bool true) ∧ ∃ n : ExtOf w, w' = n.val := by
  have HT := Lib.hid ht
  by_cases hmid : 400 < s.size ∧ s.size ≤ 8000
  · have q1 : decide ((400 : Int) < (s.size : Int)) = true := decide_eq_true (by omega)
    have q2 : decide ((s.size : Int) ≤ (8000 : Int)) = true := decide_eq_true (by omega)
    clear ht
    go_enter Tryz.func3, Tryz.ntmps3
    go_wp2_with (go_at_call 4; refine (awake_any _ (HT.out.ext (by with_reducible repeat' (first | exact Ext.refl _ | exact ExtOf.ext _ | refine Ext.trans ?_ (ExtOf.ext _) | refine Ext.alloc ?_ _ | refine Ext.drew ?_ | refine Ext.setCell ?_ ?_ _ | refine Ext.setRow ?_ ?_ _ | exact HX.out | refine Ext.trans ?_ HX.out | omega | (simp; done) | (simp; omega))))).mono ?_; rintro e w' ⟨rfl, n2, rfl⟩)
    go_ret
    exact ⟨rfl, by exact ExtOf.of (by with_reducible repeat' (first | exact Ext.refl _ | exact ExtOf.ext _ | refine Ext.trans ?_ (ExtOf.ext _) | refine Ext.alloc ?_ _ | refine Ext.drew ?_ | refine Ext.setCell ?_ ?_ _ | refine Ext.setRow ?_ ?_ _ | exact HX.out | refine Ext.trans ?_ HX.out | omega | (simp; done) | (simp; omega)))⟩
  have hs : s.size ≤ 400 ∨ 8000 < s.size := by omega
  obtain ⟨b, H1, H2, H3, t, r1, r2, r3⟩ := Sx.lw_spec
  obtain ⟨ρ, hh, hg⟩ := ht
  have K0 := Lib.hid (Sx.Keeps.start hh hg)
  have HW := Lib.hid fun w => words_any s w hs
  have hs0 := hs
  have R1 := Lib.hid r1
  have R2 := Lib.hid r2
  have R3 := Lib.hid r3
  clear hh hg r1 r2 r3
  rcases hs with h | h
  · have q1 : decide ((400 : Int) < (s.size : Int)) = false := decide_eq_false (by omega)
    by_cases he : errL s = 0
    · rw [he] at HW
      clear he
      go_enter Tryz.func3, Tryz.ntmps3
      go_wp2_with (go_at_call 5; refine (new_run K0.out R1.out).mono ?_; rintro e w1 ⟨r, k, σ, rfl, hp, hk, hx⟩)
      have X1 := Lib.hid hx
      have K1 := Lib.hid hk
      have P1 := Lib.hid hp
      clear hx hk hp
      go_wp2_with (first | (go_at_call 6; refine (HW.out _).mono ?_; rintro e w' ⟨⟨v, rfl⟩, n2, rfl⟩) | (go_at_call 4; refine (awake_any _ (HT.out.ext (X1.out.trans (n2.ext.mono X1.out.size)))).mono ?_; rintro e w' ⟨rfl, n3, rfl⟩))
      go_ret
      exact ⟨rfl, ExtOf.of (X1.out.trans ((n2.ext.trans n3.ext).mono X1.out.size))⟩
    · have qe : (errL s == 0) = false := by simp [he]
      obtain ⟨o, ho1, ho2⟩ := err_texts s he
      have HO1 := Lib.hid fun p w => do_any s p w hs0 he o ho1
      have HO2 := Lib.hid ho2
      clear he ho1 ho2
      generalize errL s = er at *
      go_enter Tryz.func3, Tryz.ntmps3
      go_wp2_with (go_at_call 5; refine (new_run K0.out R1.out).mono ?_; rintro e w1 ⟨r, k, σ, rfl, hp, hk, hx⟩)
      have X1 := Lib.hid hx
      have K1 := Lib.hid hk
      have P1 := Lib.hid hp
      clear hx hk hp
      go_wp2_with (go_at_call 6; refine (HW.out _).mono ?_; rintro e w' ⟨⟨v, rfl⟩, n2, rfl⟩)
      refine (dig_run (K1.out.ext n2.ext) R2.out P1.out).mono ?_
      rintro e w3 ⟨rfl, σ2, hk, hx, hp⟩
      have X3 := Lib.hid ((X1.out.trans (n2.ext.mono X1.out.size)).trans hx)
      have K3 := Lib.hid hk
      have P3 := Lib.hid hp
      clear hx hk hp
      have qo : (o.toList == o.toList) = true := by simp
      have qt : (t.toList == t.toList) = true := by simp
      go_wp2_with (go_at_call 7; refine (HO1.out _ _).mono ?_; rintro e w' ⟨rfl, n4, rfl⟩; clear HO1)
      go_wp2_with (go_at_call 8; refine (HO2.out _).mono ?_; rintro e w' ⟨rfl, n5, rfl⟩; clear HO2)
      refine (dig_run ((K3.out.ext n4.ext).ext n5.ext) R3.out P3.out).mono ?_
      rintro e w6 ⟨rfl, σ3, hk, hx, hp⟩
      have X6 := Lib.hid ((X3.out.trans ((n4.ext.trans n5.ext).mono X3.out.size)).trans hx)
      clear hx hk hp
      go_wp2_with (go_at_call 4; refine (awake_any _ (HT.out.ext X6.out)).mono ?_; rintro e w' ⟨rfl, n7, rfl⟩)
      go_ret
      exact ⟨rfl, ExtOf.of (X6.out.trans (n7.ext.mono X6.out.size))⟩
  · have q1 : decide ((400 : Int) < (s.size : Int)) = true := decide_eq_true (by omega)
    have q2 : decide ((s.size : Int) ≤ (8000 : Int)) = false := decide_eq_false (by omega)
    by_cases he : errL s = 0
    · rw [he] at HW
      clear he
      go_enter Tryz.func3, Tryz.ntmps3
      go_wp2_with (go_at_call 5; refine (new_run K0.out R1.out).mono ?_; rintro e w1 ⟨r, k, σ, rfl, hp, hk, hx⟩)
      have X1 := Lib.hid hx
      have K1 := Lib.hid hk
      have P1 := Lib.hid hp
      clear hx hk hp
      go_wp2_with (first | (go_at_call 6; refine (HW.out _).mono ?_; rintro e w' ⟨⟨v, rfl⟩, n2, rfl⟩) | (go_at_call 4; refine (awake_any _ (HT.out.ext (X1.out.trans (n2.ext.mono X1.out.size)))).mono ?_; rintro e w' ⟨rfl, n3, rfl⟩))
      go_ret
      exact ⟨rfl, ExtOf.of (X1.out.trans ((n2.ext.trans n3.ext).mono X1.out.size))⟩
    · have qe : (errL s == 0) = false := by simp [he]
      obtain ⟨o, ho1, ho2⟩ := err_texts s he
      have HO1 := Lib.hid fun p w => do_any s p w hs0 he o ho1
      have HO2 := Lib.hid ho2
      clear he ho1 ho2
      generalize errL s = er at *
      go_enter Tryz.func3, Tryz.ntmps3
      go_wp2_with (go_at_call 5; refine (new_run K0.out R1.out).mono ?_; rintro e w1 ⟨r, k, σ, rfl, hp, hk, hx⟩)
      have X1 := Lib.hid hx
      have K1 := Lib.hid hk
      have P1 := Lib.hid hp
      clear hx hk hp
      go_wp2_with (go_at_call 6; refine (HW.out _).mono ?_; rintro e w' ⟨⟨v, rfl⟩, n2, rfl⟩)
      refine (dig_run (K1.out.ext n2.ext) R2.out P1.out).mono ?_
      rintro e w3 ⟨rfl, σ2, hk, hx, hp⟩
      have X3 := Lib.hid ((X1.out.trans (n2.ext.mono X1.out.size)).trans hx)
      have K3 := Lib.hid hk
      have P3 := Lib.hid hp
      clear hx hk hp
      have qo : (o.toList == o.toList) = true := by simp
      have qt : (t.toList == t.toList) = true := by simp
      go_wp2_with (go_at_call 7; refine (HO1.out _ _).mono ?_; rintro e w' ⟨rfl, n4, rfl⟩; clear HO1)
      go_wp2_with (go_at_call 8; refine (HO2.out _).mono ?_; rintro e w' ⟨rfl, n5, rfl⟩; clear HO2)
      refine (dig_run ((K3.out.ext n4.ext).ext n5.ext) R3.out P3.out).mono ?_
      rintro e w6 ⟨rfl, σ3, hk, hx, hp⟩
      have X6 := Lib.hid ((X3.out.trans ((n4.ext.trans n5.ext).mono X3.out.size)).trans hx)
      clear hx hk hp
      go_wp2_with (go_at_call 4; refine (awake_any _ (HT.out.ext X6.out)).mono ?_; rintro e w' ⟨rfl, n7, rfl⟩)
      go_ret
      exact ⟨rfl, ExtOf.of (X6.out.trans (n7.ext.mono X6.out.size))⟩
end Go.Proofs.YtjflmmipjeangaaGreatDoor
end
/-
  Chapter 62: the listed variables give what awake reads.
-/
section
set_option linter.unusedVariables false
set_option linter.unusedSimpArgs false
namespace Go.Proofs.YtjflmmipjeangaaGreatDoor
open Go.RowKit Go.Deep Go.ChangeShapes Go.WideShapes ScM

set_option maxRecDepth 100000
theorem cells_of_chunks (k : Nat) : ∀ (l : List (List Value)) (cs : List Value), cs.length = l.length * k → (∀ (i : Nat) x, l[i]? = some x → (cs.drop (i * k)).take k = x) → cs = l.flatten
  | [], cs, hl, _ => by
    rw [List.length_nil, Nat.zero_mul] at hl
    exact List.eq_nil_of_length_eq_zero hl
  | x :: l, cs, hl, h => by
    have h0 := h 0 x rfl
    rw [Nat.zero_mul, List.drop_zero] at h0
    have ih := cells_of_chunks k l (cs.drop k) (by rw [List.length_drop, hl, List.length_cons, Nat.add_mul]; omega) (fun i y hy => by
      have := h (i + 1) y hy
      rw [Nat.add_mul, Nat.one_mul, Nat.add_comm, ← List.drop_drop] at this
      exact this)
    rw [List.flatten_cons, ← ih, ← h0, List.take_append_drop]
theorem arr_parts {H : Type} {enc : TypeId × Value → H} {P : Program} {w : World} {base : Nat} {sp : Nat → Bool} {held : Bool} {fuel : Nat} {t e : TypeId} {n : Nat} {cs : List Value} {x : DataW H × List MemPlace} (ht : P.underlying t = some (.array n e)) (h : DataW.trod enc P w base sp held fuel t cs = some x) :
    ∃ (m : Nat) (xs : List (DataW H × List MemPlace)), cs.length = P.cellsOf t ∧ x.1 = .agg (xs.map (·.1)) ∧ xs.length = n ∧ ∀ i, i < n → ∃ b : DataW H × List MemPlace, xs[i]? = some b ∧ DataW.trod enc P w base sp held m e ((cs.drop (i * P.cellsOf e)).take (P.cellsOf e)) = some b := by
  cases fuel with
  | zero => simp [DataW.trod] at h
  | succ fuel =>
    simp only [DataW.trod, ht] at h
    split at h
    · rename_i hl
      obtain ⟨xs, hm, hx⟩ := Option.map_eq_some_iff.1 h
      refine ⟨fuel, xs, hl, by rw [← hx], by simpa using Lib.mapM_length hm, fun i hi => ?_⟩
      exact Lib.mapM_at hm i i (by simp [hi])
    · cases h
/-- the cells of a plain datum -/
def cell1 {H : Type} : DataW H → List Value
  | .lit (.int q z) => [.int q z]
  | .lit (.bool b) => [.bool b]
  | .lit (.string l) => [.string ⟨⟨l⟩⟩]
  | _ => []
def cell2 {H : Type} : DataW H → List Value
  | .agg [a, b] => cell1 a ++ cell1 b
  | _ => []
section
variable {H : Type} {enc : TypeId × Value → H} {P : Program} {w : World} {base : Nat} {sp : Nat → Bool} {held : Bool}
theorem arr_cells {fuel k n : Nat} {t e : TypeId} {cs : List Value} {cell : DataW H → List Value} {ds : List (DataW H)} {p : List MemPlace} (ht : P.underlying t = some (.array n e)) (hce : P.cellsOf e = k) (hct : P.cellsOf t = n * k)
    (hel : ∀ m c b, DataW.trod enc P w base sp held m e c = some b → c.length = k → c = cell b.1) (h : DataW.trod enc P w base sp held fuel t cs = some (.agg ds, p)) : cs = (ds.map cell).flatten := by
  obtain ⟨m, xs, hl, hx, hxl, hat⟩ := arr_parts ht h
  have hds : ds = xs.map (·.1) := by
    have hx2 : (DataW.agg ds : DataW H) = .agg (xs.map (·.1)) := hx
    simpa using hx2
  rw [hct] at hl
  rw [hce] at hat
  have hdl : ds.length = n := by rw [hds, List.length_map, hxl]
  refine cells_of_chunks k _ _ (by rw [List.length_map, hdl, hl]) fun i x hi => ?_
  have hin : i < n := by
    have := (List.getElem?_eq_some_iff.1 hi).1
    rw [List.length_map, hdl] at this
    exact this
  obtain ⟨b, hb, htr⟩ := hat i hin
  have hlen : ((cs.drop (i * k)).take k).length = k := by
    rw [List.length_take, List.length_drop, hl]
    have : (i + 1) * k ≤ n * k := Nat.mul_le_mul_right k hin
    rw [Nat.add_mul, Nat.one_mul] at this
    omega
  have hc := hel _ _ _ htr hlen
  rw [hds, List.map_map, List.getElem?_map, hb] at hi
  have hi2 : cell b.1 = x := by simpa using hi
  rw [hc, hi2]
theorem el_int {e : TypeId} {q : IntKind} (he : P.underlying e = some (.int q)) (m : Nat) (c : List Value) (b : DataW H × List MemPlace) (h : DataW.trod enc P w base sp held m e c = some b) : c = cell1 b.1 := by
  obtain ⟨k, rfl, rfl, _⟩ := DataW.trod_int he h
  rfl
theorem el_bool {e : TypeId} (he : P.underlying e = some .bool) (m : Nat) (c : List Value) (b : DataW H × List MemPlace) (h : DataW.trod enc P w base sp held m e c = some b) : c = cell1 b.1 := by
  obtain ⟨k, rfl, rfl⟩ := DataW.trod_bool he h
  rfl
theorem el_str {e : TypeId} (he : P.underlying e = some .string) (m : Nat) (c : List Value) (b : DataW H × List MemPlace) (h : DataW.trod enc P w base sp held m e c = some b) : c = cell1 b.1 := by
  obtain ⟨s, rfl, rfl, _⟩ := DataW.trod_string he h
  rfl
theorem el_pair {t t0 : TypeId} {f0 f1 : Field} (ht : P.underlying t = some (.struct #[f0, f1])) (h0 : f0.type = t0) (h1 : f1.type = t0) (o0 : f0.offset = 0) (o1 : f1.offset = 1) (hc : P.cellsOf t0 = 1)
    (hel : ∀ m c b, DataW.trod enc P w base sp held m t0 c = some b → c = cell1 b.1) (m : Nat) (c : List Value) (b : DataW H × List MemPlace) (h : DataW.trod enc P w base sp held m t c = some b) (hl : c.length = 2) : c = cell2 b.1 := by
  obtain ⟨y0, y1, n, rfl, _, e0, e1⟩ := trod_struct2 ht h
  rw [h0, o0, hc] at e0
  rw [h1, o1, hc] at e1
  obtain ⟨u, v, rfl⟩ : ∃ u v, c = [u, v] := match c, hl with | [a, b], _ => ⟨a, b, rfl⟩
  have c0 := hel _ _ _ e0
  have c1 := hel _ _ _ e1
  have c0' : [u] = cell1 y0.1 := c0
  have c1' : [v] = cell1 y1.1 := c1
  show [u, v] = cell1 y0.1 ++ cell1 y1.1
  rw [← c0', ← c1']
  rfl
end
/-- the blocks of the laid variables -/
def gls : List Nat := [0, 2, 4, 5, 6, 7, 8, 9, 10]
def unV : Sx.SVal → Value
  | .v x => x
  | _ => undef
/-- what the laid variables hold -/
def vsM : List (List Value) := Sx.glM.map (·.map unV)
theorem vsM_gl : Sx.glM = vsM.map (·.map Sx.SVal.v) := by rfl
theorem VRs_v {ρ : Sx.Pl} : ∀ l : List Value, Sx.VRs ρ (l.map Sx.SVal.v) l
  | [] => .nil
  | x :: l => .cons (.v x) (VRs_v l)
theorem tabAw_of {W : World} (hW : ∀ (i g : Nat) (l : List Value), gls[i]? = some g → vsM[i]? = some l → ∃ (C : Array Value) (t : TypeId) (fr : Nat × Nat), W.heap[g]? = some (Obj.cells C t fr) ∧ C.toList = l) : TabAw W := by
  have hlen : Sx.glM.length = 9 := rfl
  have hn : (Sx.fragH Sx.glM).next.nat = 9 := (Sx.fragH_next _).trans hlen
  have hgl : gls.length = 9 := rfl
  have hvl : vsM.length = 9 := rfl
  have key : ∀ (b : Sx.Pos) r k, (gls[b.nat]?).map (fun g => (g, 0)) = some (r, k) → gls[b.nat]? = some r ∧ k = 0 ∧ b.nat < 9 := fun b r k e => by
    obtain ⟨g, hg, he⟩ := Option.map_eq_some_iff.1 e
    simp only [Prod.mk.injEq] at he
    obtain ⟨rfl, rfl⟩ := he
    exact ⟨hg, rfl, by have := (List.getElem?_eq_some_iff.1 hg).1; omega⟩
  refine ⟨fun b => (gls[b.nat]?).map fun g => (g, 0), ⟨fun b hb => ?_, fun b r k e => ?_, fun b r k e => ?_, fun b b' r k r' k' hne e e' _ _ => ?_⟩, fun g b hgb => ?_⟩
  · rw [hn] at hb
    show (gls[b.nat]?).map _ = none
    rw [List.getElem?_eq_none (by omega)]
    rfl
  · obtain ⟨hg, rfl, hb⟩ := key b r k e
    obtain ⟨C, t, fr, h1, _⟩ := hW b.nat r vsM[b.nat] hg (List.getElem?_eq_getElem (by omega))
    exact (Array.getElem?_eq_some_iff.1 h1).1
  · obtain ⟨hg, rfl, hb⟩ := key b r k e
    have hl : b.nat < vsM.length := by omega
    obtain ⟨C, t, fr, h1, h2⟩ := hW b.nat r vsM[b.nat] hg (List.getElem?_eq_getElem hl)
    have hc : Sx.glM[b.nat]? = some (vsM[b.nat].map Sx.SVal.v) := by rw [vsM_gl, List.getElem?_map, List.getElem?_eq_getElem hl]; rfl
    rw [Sx.fragH_at _ b _ hc]
    refine ⟨C, t, fr, h1, ?_, ?_⟩
    · rw [List.length_map, ← h2, Array.length_toList]; exact Nat.le_refl _
    · rw [List.length_map, ← h2, List.take_length]
      exact VRs_v C.toList
  · obtain ⟨hg, _, hb⟩ := key b r k e
    obtain ⟨hg', _, hb'⟩ := key b' r' k' e'
    intro hr
    subst hr
    have hnd : gls.Nodup := by decide
    exact hne (Sx.Pos.nat_inj ((List.getElem?_inj (i := b.nat) (j := b'.nat) (by omega) hnd).1 (hg.trans hg'.symm)))
  · unfold Sx.gM at hgb
    split at hgb <;> first
      | (cases hgb; done)
      | (simp only [Option.some.injEq] at hgb
         subst hgb
         refine ⟨by rw [hn, Sx.Pos.nat_of]; decide, 0, ?_⟩
         show (gls[(Sx.Pos.of _).nat]?).map _ = some (_, 0)
         rw [Sx.Pos.nat_of]
         rfl)
theorem var_heap {P : Program} {W : World} {name : String} {g : Nat} {cs : Array Value} (hg : P.globalNamed name = some g) (h : W.var? P name = some cs) : ∃ (C : Array Value) (t : TypeId) (fr : Nat × Nat), W.heap[g]? = some (.cells C t fr) ∧ C.toList = cs.toList := by
  unfold World.var? at h
  rw [hg] at h
  simp only [Option.bind_some] at h
  split at h
  · next C t fr hC =>
    simp only [Option.some.injEq] at h
    exact ⟨C, t, fr, hC, by rw [h]⟩
  · cases h
theorem tab_of {W : World} (h : laidMetH Tryz.prog [("sawmill/schedule.words", Rows.laid_sawmill_schedule_words), ("sawmill/ring.directions", Rows.laid_sawmill_ring_directions), ("sawmill/poly.turns", Rows.laid_sawmill_poly_turns), ("internal/strconv.uint64pow10", Rows.laid_internal_strconv_uint64pow10), ("math/bits.deBruijn32tab", Rows.laid_math_bits_deBruijn32tab), ("math/bits.deBruijn64tab", Rows.laid_math_bits_deBruijn64tab), ("sawmill/kiln.stillAir", Rows.laid_sawmill_kiln_stillAir), ("unicode/utf8.first", Rows.laid_unicode_utf8_first), ("unicode/utf8.acceptRanges", Rows.laid_unicode_utf8_acceptRanges), ("sawmill/cutting.none", Rows.laid_sawmill_cutting_none)] W) : TabAw W := by
  rw [MakeChecks.laidMetH_plain _ _ _ (by kernel_rfl)] at h
  obtain ⟨ps, ⟨g0, t0, cs0, f0, p0, q0, hg0, hty0, hv0, hd0, ⟨g7, t7, cs7, f7, p7, q7, hg7, hty7, hv7, hd7, ⟨g9, t9, cs9, f9, p9, q9, hg9, hty9, hv9, hd9, ⟨g4, t4, cs4, f4, p4, q4, hg4, hty4, hv4, hd4, ⟨g5, t5, cs5, f5, p5, q5, hg5, hty5, hv5, hd5, ⟨g6, t6, cs6, f6, p6, q6, hg6, hty6, hv6, hd6, ⟨g8, t8, cs8, f8, p8, q8, hg8, hty8, hv8, hd8, ⟨gF, tF, csF, fF, pF, qF, _, _, _, _, ⟨g2, t2, cs2, f2, p2, q2, hg2, hty2, hv2, hd2, ⟨g10, t10, cs10, f10, p10, q10, hg10, hty10, hv10, hd10, _, _⟩, _⟩, _⟩, _⟩, _⟩, _⟩, _⟩, _⟩, _⟩, _⟩, _, _⟩ := h
  have G0 : Tryz.prog.globalNamed "sawmill/schedule.words" = some 0 := by kernel_rfl
  have G2 : Tryz.prog.globalNamed "unicode/utf8.acceptRanges" = some 2 := by kernel_rfl
  have G4 : Tryz.prog.globalNamed "internal/strconv.uint64pow10" = some 4 := by kernel_rfl
  have G5 : Tryz.prog.globalNamed "math/bits.deBruijn32tab" = some 5 := by kernel_rfl
  have G6 : Tryz.prog.globalNamed "math/bits.deBruijn64tab" = some 6 := by kernel_rfl
  have G7 : Tryz.prog.globalNamed "sawmill/ring.directions" = some 7 := by kernel_rfl
  have G8 : Tryz.prog.globalNamed "sawmill/kiln.stillAir" = some 8 := by kernel_rfl
  have G9 : Tryz.prog.globalNamed "sawmill/poly.turns" = some 9 := by kernel_rfl
  have G10 : Tryz.prog.globalNamed "sawmill/cutting.none" = some 10 := by kernel_rfl
  obtain rfl := Option.some.inj (G0.symm.trans hg0)
  obtain rfl := Option.some.inj (G2.symm.trans hg2)
  obtain rfl := Option.some.inj (G4.symm.trans hg4)
  obtain rfl := Option.some.inj (G5.symm.trans hg5)
  obtain rfl := Option.some.inj (G6.symm.trans hg6)
  obtain rfl := Option.some.inj (G7.symm.trans hg7)
  obtain rfl := Option.some.inj (G8.symm.trans hg8)
  obtain rfl := Option.some.inj (G9.symm.trans hg9)
  obtain rfl := Option.some.inj (G10.symm.trans hg10)
  have T0 : (Tryz.prog.globals[0]?).map (·.type) = some 306 := by kernel_rfl
  have T2 : (Tryz.prog.globals[2]?).map (·.type) = some 369 := by kernel_rfl
  have T4 : (Tryz.prog.globals[4]?).map (·.type) = some 470 := by kernel_rfl
  have T5 : (Tryz.prog.globals[5]?).map (·.type) = some 689 := by kernel_rfl
  have T6 : (Tryz.prog.globals[6]?).map (·.type) = some 690 := by kernel_rfl
  have T7 : (Tryz.prog.globals[7]?).map (·.type) = some 307 := by kernel_rfl
  have T8 : (Tryz.prog.globals[8]?).map (·.type) = some 771 := by kernel_rfl
  have T9 : (Tryz.prog.globals[9]?).map (·.type) = some 804 := by kernel_rfl
  have T10 : (Tryz.prog.globals[10]?).map (·.type) = some 557 := by kernel_rfl
  obtain rfl := Option.some.inj (T0.symm.trans hty0)
  obtain rfl := Option.some.inj (T2.symm.trans hty2)
  obtain rfl := Option.some.inj (T4.symm.trans hty4)
  obtain rfl := Option.some.inj (T5.symm.trans hty5)
  obtain rfl := Option.some.inj (T6.symm.trans hty6)
  obtain rfl := Option.some.inj (T7.symm.trans hty7)
  obtain rfl := Option.some.inj (T8.symm.trans hty8)
  obtain rfl := Option.some.inj (T9.symm.trans hty9)
  obtain rfl := Option.some.inj (T10.symm.trans hty10)
  have kI : Tryz.prog.cellsOf 3 = 1 := by kernel_rfl
  have kS : Tryz.prog.cellsOf 9 = 1 := by kernel_rfl
  have kU : Tryz.prog.cellsOf 5 = 1 := by kernel_rfl
  have kW : Tryz.prog.cellsOf 81 = 1 := by kernel_rfl
  have kB : Tryz.prog.cellsOf 4 = 1 := by kernel_rfl
  have kR : Tryz.prog.cellsOf 368 = 2 := by kernel_rfl
  have kP : Tryz.prog.cellsOf 329 = 2 := by kernel_rfl
  have kPc : Tryz.prog.cellsOf 557 = 2 := by kernel_rfl
  have c0 := arr_cells (cell := cell1) Tryz.underlying306 kS (by kernel_rfl) (fun m c b h _ => el_str Tryz.underlying9 m c b h) hd0
  have c2 := arr_cells (cell := cell2) Tryz.underlying369 kR (by kernel_rfl) (el_pair Tryz.underlying368 rfl rfl rfl rfl kU (el_int Tryz.underlying5)) hd2
  have c4 := arr_cells (cell := cell1) Tryz.underlying470 kW (by kernel_rfl) (fun m c b h _ => el_int Tryz.underlying81 m c b h) hd4
  have c5 := arr_cells (cell := cell1) Tryz.underlying689 kU (by kernel_rfl) (fun m c b h _ => el_int Tryz.underlying5 m c b h) hd5
  have c6 := arr_cells (cell := cell1) Tryz.underlying690 kU (by kernel_rfl) (fun m c b h _ => el_int Tryz.underlying5 m c b h) hd6
  have c7 := arr_cells (cell := cell1) Tryz.underlying307 kI (by kernel_rfl) (fun m c b h _ => el_int Tryz.underlying3 m c b h) hd7
  have c8 := arr_cells (cell := cell1) Tryz.underlying771 kB (by kernel_rfl) (fun m c b h _ => el_bool Tryz.underlying4 m c b h) hd8
  have c9 := arr_cells (cell := cell2) Tryz.underlying804 kP (by kernel_rfl) (el_pair Tryz.underlying329 rfl rfl rfl rfl kI (el_int Tryz.underlying3)) hd9
  have c10 := el_pair Tryz.underlying557 rfl rfl rfl rfl kI (el_int Tryz.underlying3) _ _ _ hd10 (by
    obtain ⟨_, _, _, _, hl, _⟩ := trod_struct2 Tryz.underlying557 hd10
    rw [hl, kPc])
  obtain ⟨C0, s0, r0, h0, e0⟩ := var_heap hg0 hv0
  obtain ⟨C2, s2, r2, h2, e2⟩ := var_heap hg2 hv2
  obtain ⟨C4, s4, r4, h4, e4⟩ := var_heap hg4 hv4
  obtain ⟨C5, s5, r5, h5, e5⟩ := var_heap hg5 hv5
  obtain ⟨C6, s6, r6, h6, e6⟩ := var_heap hg6 hv6
  obtain ⟨C7, s7, r7, h7, e7⟩ := var_heap hg7 hv7
  obtain ⟨C8, s8, r8, h8, e8⟩ := var_heap hg8 hv8
  obtain ⟨C9, s9, r9, h9, e9⟩ := var_heap hg9 hv9
  obtain ⟨C10, s10, r10, h10, e10⟩ := var_heap hg10 hv10
  refine tabAw_of fun i g l hg hi => ?_
  match i, hg, hi with
  | 0, hg, hi => obtain rfl := Option.some.inj hg; exact ⟨C0, s0, r0, h0, e0.trans (c0.trans (Option.some.inj hi))⟩
  | 1, hg, hi => obtain rfl := Option.some.inj hg; exact ⟨C2, s2, r2, h2, e2.trans (c2.trans (Option.some.inj hi))⟩
  | 2, hg, hi => obtain rfl := Option.some.inj hg; exact ⟨C4, s4, r4, h4, e4.trans (c4.trans (Option.some.inj hi))⟩
  | 3, hg, hi => obtain rfl := Option.some.inj hg; exact ⟨C5, s5, r5, h5, e5.trans (c5.trans (Option.some.inj hi))⟩
  | 4, hg, hi => obtain rfl := Option.some.inj hg; exact ⟨C6, s6, r6, h6, e6.trans (c6.trans (Option.some.inj hi))⟩
  | 5, hg, hi => obtain rfl := Option.some.inj hg; exact ⟨C7, s7, r7, h7, e7.trans (c7.trans (Option.some.inj hi))⟩
  | 6, hg, hi => obtain rfl := Option.some.inj hg; exact ⟨C8, s8, r8, h8, e8.trans (c8.trans (Option.some.inj hi))⟩
  | 7, hg, hi => obtain rfl := Option.some.inj hg; exact ⟨C9, s9, r9, h9, e9.trans (c9.trans (Option.some.inj hi))⟩
  | 8, hg, hi => obtain rfl := Option.some.inj hg; exact ⟨C10, s10, r10, h10, e10.trans (c10.trans (Option.some.inj hi))⟩
  | n + 9, hg, hi => simp [gls] at hg
end Go.Proofs.YtjflmmipjeangaaGreatDoor
end
