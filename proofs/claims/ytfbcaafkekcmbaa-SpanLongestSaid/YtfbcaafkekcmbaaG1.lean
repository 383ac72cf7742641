/-
  How a function returns a list of spans; slices of spans that are the call's own.
-/
import Derived.Test.YtfbcaafkekcmbaaW1
import Derived.Test.YtfbcaafkekcmbaaBase8
import Derived.Test.YtfbcaafkekcmbaaBase5
namespace Go.Proofs.Ytfbcaafkekcmbaa
open Go.RowKit SpanM

attribute [local go_sem] ExtOf.cell ExtOf.frozen Block.cell Block.frozen ExtB.cell ExtB.frozen alloc_cell alloc_frozen

/-- what a function that returns a list of spans leaves -/
def RetS (w : World) (l : List Sp) (e : Ending) (w' : World) : Prop := ∃ q cap, e = .returned (.slice q l.length cap) ∧ SpS w' (.slice q l.length cap) l ∧ (∀ a, q = some a → w.heap.size ≤ a.block) ∧ ∃ n : ExtOf w, w' = n.val
theorem Own.fresh {E base : Nat} {w : World} {q : Option Addr} {n cap : Nat} {r : List Sp} (h : Own encS 2 E base w (.slice q n cap) r) : ∀ a, q = some a → base ≤ a.block := by
  intro a ha
  subst ha
  exact (World.ownsRow.lt h a.block rfl).1
theorem infoS : (Try.prog.info? 23).map (fun i => (i.zero, i.size, i.bytes)) = some (some (.agg #[.int .i64 0, .int .i64 0]), 2, 16) := by kernel_rfl
theorem filter_step {l r : List Sp} {A B : Int} {k : Nat} (h : l.filter ne = r ++ (l.drop k).filter ne) (hd : l.drop k = (A, B) :: l.drop (k + 1)) :
    (A < B → l.filter ne = (r ++ [(A, B)]) ++ (l.drop (k + 1)).filter ne) ∧ (¬ A < B → l.filter ne = r ++ (l.drop (k + 1)).filter ne) := by
  rw [hd, List.filter_cons] at h
  constructor
  · intro c; rw [if_pos (by simpa [ne] using c)] at h; rw [h]; simp
  · intro c; rw [if_neg (by simpa [ne] using c)] at h; exact h

/-- the last element of a slice of the call's own: its cells, and how it is changed -/
theorem Own.last {E base : Nat} {w : World} {v : Value} {r : List Sp} {C D : Int} (h : Own encS 2 E base w v (r ++ [(C, D)])) :
    ∃ g cap, v = .slice (some ⟨g, 0, none⟩) (r.length + 1) cap ∧ base ≤ g ∧ Old g w ∧ w.cell? ⟨g, r.length * 2, none⟩ = some (.int .i64 C) ∧ w.cell? ⟨g, r.length * 2 + 1, none⟩ = some (.int .i64 D) ∧ w.frozen? ⟨g, r.length * 2 + 1, none⟩ = false ∧
      ∀ X : Int, Own encS 2 E base (w.setCell ⟨g, r.length * 2 + 1, none⟩ (.int .i64 X)) v (r ++ [(C, X)]) := by
  have hsl := Own.slice encS_len h
  obtain ⟨hl, hn | ⟨g, cap, cur, rfl, hb, hg, hn, hc, hs, ht⟩⟩ := h
  · obtain ⟨_, hn⟩ := hn
    simp at hn
  · rw [List.length_append, List.length_singleton] at *
    have hlt : r.length < (r ++ [(C, D)]).length := by simp
    have h2 : (r ++ [(C, D)])[r.length]? = some (C, D) := by simp
    obtain ⟨A, B, b, off, _, hm, hp, hold, c0, c1⟩ := SpS.elem hsl hlt
    obtain ⟨rfl, rfl⟩ : g = b ∧ 0 = off := by simpa using hp
    rw [h2] at hm
    obtain ⟨rfl, rfl⟩ : C = A ∧ D = B := by simpa using hm
    rw [Nat.zero_add] at c0 c1
    refine ⟨g, cap, rfl, hb, hold, c0, c1, by simp [World.frozen?, hg], fun X => ⟨by rw [flatMap_len encS_len], .inr ⟨g, cap, cur.setIfInBounds (r.length * 2 + 1) (.int .i64 X), by simp, hb, ?_, by simpa using hn, hc, by simpa using hs, ?_⟩⟩⟩
    · rw [setCell_eq_setRow w g (r.length * 2 + 1) cur _ (0, 0) _ hg]
      exact setRow_heap w g cur _ _ _ hg
    · rw [Array.toList_setIfInBounds, List.length_append, List.length_singleton, List.take_set, ht]
      simp only [List.flatMap_append, List.flatMap_cons, List.flatMap_nil, List.append_nil]
      rw [List.set_append_right _ _ (by rw [flatMap_len encS_len]; omega), flatMap_len encS_len]
      have e : r.length * 2 + 1 - r.length * 2 = 1 := by omega
      rw [e]
      rfl
theorem Own.setLast {E base g n cap : Nat} {w : World} {r : List Sp} {C D : Int} (h : Own encS 2 E base w (.slice (some ⟨g, 0, none⟩) n cap) (r ++ [(C, D)])) (X : Int) : Own encS 2 E base (w.setCell ⟨g, r.length * 2 + 1, none⟩ (.int .i64 X)) (.slice (some ⟨g, 0, none⟩) n cap) (r ++ [(C, X)]) := by
  obtain ⟨g', cap', e, _, _, _, _, _, hs⟩ := Own.last h
  obtain ⟨rfl, _, _⟩ : g = g' ∧ _ ∧ _ := by simpa using e
  exact hs X
theorem Own.form {E base : Nat} {w : World} {v : Value} {r : List Sp} (h : Own encS 2 E base w v r) : ∃ q cap, v = .slice q r.length cap := by
  obtain ⟨p, cap, e, _⟩ := Own.slice encS_len h
  exact ⟨p, cap, e⟩
theorem lwSp : Whole Try.prog 23 2 := whole_of Try.underlying23 rfl (by kernel_rfl)
theorem zeroSp (W : World) : (Instr.alloc 23 true (.tuple #[])).run Try.prog W = .ok (.pointer (some ⟨W.heap.size, 0, none⟩)) (W.alloc (.cells #[.int .i64 0, .int .i64 0] 23)) := by kernel_rfl
theorem opt_yes {M1 M2 : Int} (h : M1 < M2) : opt (M1, M2) = [(M1, M2)] := by simp [opt, ne, h]
theorem opt_no {M1 M2 : Int} (h : ¬ M1 < M2) : opt (M1, M2) = [] := by simp [opt, ne, h]

end Go.Proofs.Ytfbcaafkekcmbaa
