/- Chapter 26, the plain part: the best pieces; boards that are cut. -/
import Derived.Test.YtdalbfanfbeckaaDoorMM
set_option linter.unusedVariables false
/-
  Chapter 26, the plain part: the best pieces are accepted, and none are worth more; a greater deduction.
-/
namespace TrimM
theorem chk_fine {b : Bx} {ds : List Df} {p : Pdt} {step kerf fine f2 : Int} (h : chkE b ds p step kerf fine = 0) (h2 : 0 ≤ f2 ∧ f2 ≤ 1000000) : chkE b ds p step kerf f2 = 0 := by
  unfold chkE at h ⊢
  by_cases c1 : prodE p ≠ 0
  · rw [if_pos c1] at h; exact absurd h c1
  rw [if_neg c1] at h ⊢
  by_cases c2 : defsE ds ≠ 0
  · rw [if_pos c2] at h; exact absurd h c2
  rw [if_neg c2] at h ⊢
  by_cases c3 : step < 1 ∨ step > 20000 ∨ kerf < 0 ∨ kerf > 20 ∨ fine < 0 ∨ fine > 1000000
  · rw [if_pos c3] at h; cases h
  rw [if_neg c3] at h
  rw [if_neg (by omega)]
  exact h
theorem bestF_len (L : Ln) : ∀ (f p : Nat), (bestF L f p).length ≤ f
  | 0, p => by unfold bestF; simp
  | f + 1, p => by
    unfold bestF
    split
    · simp
    · rw [List.length_cons]
      split
      · simp
      · exact Nat.succ_le_succ (bestF_len L f _)
theorem best_len (L : Ln) : ((bestL L 0).map pc).length ≤ L.n + 1 := by
  rw [List.length_map]
  exact bestF_len L _ _
section
variable {b : Bx} {ds : List Df} {p : Pdt} {step kerf fine : Int}
/-- the best pieces are accepted -/
theorem best_ok (h : chkE b ds p step kerf fine = 0) : ((line b ds p step kerf 0).cuts 0 [] [] ((bestL (line b ds p step kerf fine) 0).map pc)).1 = 0 := by
  have hC := chkE_zero h
  have hC0 := chkE_zero (chk_fine h (f2 := 0) (by omega))
  have hg := (line_fine hC).good
  obtain ⟨c1, _⟩ := best_chain hg _ 0 (Nat.zero_le _) (Nat.lt_succ_self _)
  exact chain_cuts _ _ _ _ ((line_chain hC hC0 _ _ c1).1)
/-- no pieces that are accepted are worth more -/
theorem worth_le (h : chkE b ds p step kerf fine = 0) {P : List Sp} (hc : ((line b ds p step kerf 0).cuts 0 [] [] P).1 = 0) : (line b ds p step kerf fine).chain 0 P ∧ gains (line b ds p step kerf fine) P ≤ ((line b ds p step kerf fine).E 0).2 := by
  have hC := chkE_zero h
  have hC0 := chkE_zero (chk_fine h (f2 := 0) (by omega))
  have hch := (line_chain hC0 hC _ _ (cuts_chain P 0 [] [] hc)).1
  exact ⟨hch, chain_le (line_fine hC).good P 0 (Nat.zero_le _) hch⟩
/-- a greater deduction does not make the best greater -/
theorem more_le (h : chkE b ds p step kerf fine = 0) {more : Int} (hm : 0 ≤ more ∧ more ≤ 1000000 - fine) : chkE b ds p step kerf (fine + more) = 0 ∧ ((line b ds p step kerf (fine + more)).E 0).2 ≤ ((line b ds p step kerf fine).E 0).2 := by
  have hC := chkE_zero h
  have hf := hC.fin
  have h2 := chk_fine h (f2 := fine + more) (by omega)
  have hC2 := chkE_zero h2
  refine ⟨h2, ?_⟩
  obtain ⟨c1, c2⟩ := best_chain (line_fine hC2).good _ 0 (Nat.zero_le _) (Nat.lt_succ_self _)
  have c3 := (line_chain hC2 hC _ _ c1).1
  rw [← c2]
  exact Int.le_trans ((line_chain hC hC2 _ _ c3).2 (by omega)) (chain_le (line_fine hC).good _ 0 (Nat.zero_le _) c3)
/-- where the pieces of a line lie in its table -/
theorem chain_place {L : Ln} (hL : L.Fine) : ∀ (l : List Sp) (e : Int), L.chain e l → ∀ x ∈ l, 0 ≤ x.1 ∧ x.1 < L.rows.length ∧ 0 ≤ x.2 ∧ 0 ≤ L.gain x.1.toNat x.2.toNat ∧ ∃ r, L.rows[x.1.toNat]? = some r ∧ x.2 < r.length ∧ r[x.2.toNat]? = some (L.gain x.1.toNat x.2.toNat)
  | [], _, _, x, hx => by cases hx
  | y :: l, e, h, x, hx => by
    obtain ⟨h1, h2⟩ := h
    rcases List.mem_cons.1 hx with rfl | hx
    · obtain ⟨a1, a2, a3, a4, a5, a6, a7⟩ := pieceE_zero h1
      obtain ⟨r, hr1, hr2⟩ := hL.row x.1.toNat (by omega)
      refine ⟨a1, by rw [hL.rows]; exact a2, a3, a7, r, hr1, ?_, ?_⟩
      · unfold Ln.stop at a4; omega
      · have hlt : x.2.toNat < r.length := by unfold Ln.stop at a4; omega
        unfold Ln.gain
        rw [hr1]
        show r[x.2.toNat]? = some (r[x.2.toNat]?.getD (-1))
        rw [List.getElem?_eq_getElem hlt]; rfl
    · exact chain_place hL l _ h2 x hx
end
end TrimM
/-
  Chapter 26, the plain part: boards that are cut: their defects are those of the log, they have no rot and a length of the product.
-/
namespace TrimM
theorem chain_pieces {L : Ln} : ∀ (l : List Sp) (e : Int), L.chain e l → ∀ x ∈ l, 0 ≤ x.1 ∧ x.1 < L.sizes.length ∧ 0 ≤ x.2 ∧ L.stop x ≤ L.n ∧ 0 ≤ L.gain x.1.toNat x.2.toNat
  | [], _, _, x, hx => by cases hx
  | y :: l, e, h, x, hx => by
    obtain ⟨h1, h2⟩ := h
    rcases List.mem_cons.1 hx with rfl | hx
    · obtain ⟨a1, a2, a3, a4, a5, a6, a7⟩ := pieceE_zero h1
      exact ⟨a1, a2, a3, a4, a7⟩
    · exact chain_pieces l _ h2 x hx
/-- boards that are cut: their defects, their lengths -/
theorem defects_M {b : Bx} {ds d : List Df} {p : Pdt} {step kerf : Int} {P : List Sp} (h : chkE b ds p step kerf 0 = 0) (hds : ds = clip d b) (hc : (line b ds p step kerf 0).chain 0 P) :
    ∀ s ∈ boardsM (line b ds p step kerf 0) step P, clip ds (b.part s.1 s.2) = clip d (b.slab s.1 s.2) ∧ (∀ e ∈ clip ds (b.part s.1 s.2), e.k ≠ 3) ∧ (s.2 - s.1) ∈ p.ls ∧ 0 ≤ s.1 ∧ s.1 < s.2 ∧ s.2 ≤ b.zb - b.za := by
  intro s hs
  have hC := chkE_zero h
  have hst := hC.stp
  obtain ⟨x, hx, rfl⟩ := List.mem_map.1 hs
  obtain ⟨a1, a2, a3, a4, a5⟩ := chain_pieces P 0 hc x hx
  rw [line_sizes, List.length_map] at a2
  have hi : x.1.toNat < (kept p step).length := by omega
  obtain ⟨q1, q2, q3, q4, q5, q6, q7⟩ := kept_mem hC.prod (List.getElem_mem hi)
  have es : (line b ds p step kerf 0).size x.1.toNat = ((kept p step)[x.1.toNat].1 / step).toNat := line_size hi
  obtain ⟨q, hq⟩ : ∃ q, q = (kept p step)[x.1.toNat] := ⟨_, rfl⟩
  rw [← hq] at q1 q2 q3 q4 q5 q6 q7 es
  have hn : (line b ds p step kerf 0).n = ((b.zb - b.za) / step).toNat := rfl
  have hdiv : q.1 / step * step = q.1 := div_mul q6
  have hsz := size_of hst.1 q2 q6 q7
  have hstop : (line b ds p step kerf 0).stop x = x.2 + q.1 / step := by unfold Ln.stop; rw [es]; omega
  have e2 : (line b ds p step kerf 0).stop x * step = x.2 * step + q.1 := by rw [hstop, Int.add_mul, hdiv]
  have hu := (units_le hC).1
  have ha : x.2.toNat + ((kept p step)[x.1.toNat].1 / step).toNat ≤ ((b.zb - b.za) / step).toNat := by
    rw [← hq]
    rw [hstop, hn] at a4
    omega
  have hg := line_gain hC hi ha
  rw [← hq] at hg
  have h0 : 0 ≤ x.2 * step := Int.mul_nonneg a3 (by omega)
  have hle : (line b ds p step kerf 0).stop x * step ≤ b.zb - b.za := Int.le_trans (mul_le a4 (by omega)) hu
  have ex : (x.2.toNat : Int) = x.2 := by omega
  rw [ex] at hg
  show clip ds (b.part (x.2 * step) ((line b ds p step kerf 0).stop x * step)) = clip d (b.slab (x.2 * step) ((line b ds p step kerf 0).stop x * step)) ∧ (∀ e ∈ clip ds (b.part (x.2 * step) ((line b ds p step kerf 0).stop x * step)), e.k ≠ 3) ∧ ((line b ds p step kerf 0).stop x * step - x.2 * step) ∈ p.ls ∧ 0 ≤ x.2 * step ∧ x.2 * step < (line b ds p step kerf 0).stop x * step ∧ (line b ds p step kerf 0).stop x * step ≤ b.zb - b.za
  rw [e2] at hle ⊢
  refine ⟨?_, ?_, ?_, h0, by omega, hle⟩
  · rw [hds]
    exact clip_clip d b _ _ hC.x.1 hC.y.1 h0 (by omega) hle
  · refine clip_rot ?_
    rcases gain_neg (b.part (x.2 * step) (x.2 * step + q.1)) 0 ds q.2 with ⟨hm, _⟩ | ⟨_, hr⟩
    · rw [hg, hm] at a5
      omega
    · exact hr
  · rw [show x.2 * step + q.1 - x.2 * step = q.1 by omega]
    exact q1
end TrimM
