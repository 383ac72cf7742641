/-
  Plain facts on the two searches for one more board: the one by waiting orders, the one by recursion.
-/
import Derived.Test.YthchddkdcibbhaaA1
namespace AssignM
/-- what the search by waiting orders knows: vis: the order for which a board was visited; giv: the board that an order can give away -/
structure Bfs (F : List (List Bool)) (R C lo o : Nat) (a : Mat) (vis giv : Mat) (rk : Nat → Nat) : Prop where
  vis1 : ∀ k i, vis k = some i → lo ≤ k ∧ k < C ∧ i < R ∧ fit F i k = true ∧ (i = o ∨ giv i ≠ none)
  giv1 : ∀ j k, giv j = some k → j ≠ o ∧ j < R ∧ a k = some j ∧ ∃ i, vis k = some i ∧ rk i < rk j
  tak : ∀ k, vis k ≠ none → ∃ j, a k = some j ∧ (j = o ∨ giv j ≠ none)
/-- the boards of the orders that were reached and do not wait were visited -/
def Clo (F : List (List Bool)) (C lo o : Nat) (vis giv : Mat) (pend : Nat → Prop) : Prop :=
  ∀ j, (j = o ∨ giv j ≠ none) → ¬ pend j → ∀ k, lo ≤ k → k < C → fit F j k = true → vis k ≠ none

theorem Bfs.start {F : List (List Bool)} {R C lo o : Nat} {a : Mat} : Bfs F R C lo o a (fun _ => none) (fun _ => none) (fun _ => 0) :=
  ⟨(fun k i h => by cases h), (fun j k h => by cases h), fun k h => absurd rfl h⟩
/-- a board whose order was reached before -/
theorem Bfs.known {F : List (List Bool)} {R C lo o cur b j : Nat} {a vis giv : Mat} {rk : Nat → Nat} (h : Bfs F R C lo o a vis giv rk) (hb : lo ≤ b) (hbC : b < C) (hc : cur < R) (hf : fit F cur b = true) (hr : cur = o ∨ giv cur ≠ none) (hv : vis b = none)
    (ho : a b = some j) (hj : j = o ∨ giv j ≠ none) : Bfs F R C lo o a (upd vis b (some cur)) giv rk := by
  refine ⟨fun k i hk => ?_, fun j' k hk => ?_, fun k hk => ?_⟩
  · by_cases e : k = b
    · subst e
      rw [upd_same] at hk
      obtain rfl : cur = i := by simpa using hk
      exact ⟨hb, hbC, hc, hf, hr⟩
    · rw [upd_other e] at hk; exact h.vis1 k i hk
  · obtain ⟨h1, h2, h3, i, h4, h5⟩ := h.giv1 j' k hk
    refine ⟨h1, h2, h3, i, ?_, h5⟩
    rw [upd_other (fun e => by rw [e, hv] at h4; cases h4)]
    exact h4
  · by_cases e : k = b
    · subst e; exact ⟨j, ho, hj⟩
    · rw [upd_other e] at hk; exact h.tak k hk
/-- a board whose order was not reached before: it can give the board away -/
theorem Bfs.fresh {F : List (List Bool)} {R C lo o cur b j : Nat} {a vis giv : Mat} {rk : Nat → Nat} (h : Bfs F R C lo o a vis giv rk) (hb : lo ≤ b) (hbC : b < C) (hc : cur < R) (hf : fit F cur b = true) (hr : cur = o ∨ giv cur ≠ none) (hv : vis b = none)
    (ho : a b = some j) (hjR : j < R) (hj : j ≠ o) (hg : giv j = none) : Bfs F R C lo o a (upd vis b (some cur)) (upd giv j (some b)) (fun i => if i = j then rk cur + 1 else rk i) := by
  have hcj : cur ≠ j := fun e => by subst e; rcases hr with rfl | hr; exact hj rfl; exact hr hg
  have mono : ∀ i, (i = o ∨ giv i ≠ none) → (i = o ∨ upd giv j (some b) i ≠ none) := fun i hi => by
    rcases hi with hi | hi
    · exact .inl hi
    · right
      by_cases e : i = j
      · subst e; rw [upd_same]; simp
      · rw [upd_other e]; exact hi
  refine ⟨fun k i hk => ?_, fun j' k hk => ?_, fun k hk => ?_⟩
  · by_cases e : k = b
    · subst e
      rw [upd_same] at hk
      obtain rfl : cur = i := by simpa using hk
      exact ⟨hb, hbC, hc, hf, mono _ hr⟩
    · rw [upd_other e] at hk
      obtain ⟨h1, h2, h3, h4, h5⟩ := h.vis1 k i hk
      exact ⟨h1, h2, h3, h4, mono _ h5⟩
  · by_cases e : j' = j
    · subst e
      rw [upd_same] at hk
      obtain rfl : b = k := by simpa using hk
      exact ⟨hj, hjR, ho, cur, upd_same _ _ _, by simp [hcj]⟩
    · rw [upd_other e] at hk
      obtain ⟨h1, h2, h3, i, h4, h5⟩ := h.giv1 j' k hk
      have hij : i ≠ j := fun ei => by
        subst ei
        obtain ⟨_, _, _, _, h6⟩ := h.vis1 k i h4
        rcases h6 with h6 | h6
        · exact hj h6
        · exact h6 hg
      refine ⟨h1, h2, h3, i, ?_, by simp only [if_neg e, if_neg hij]; exact h5⟩
      rw [upd_other (fun ek => by rw [ek, hv] at h4; cases h4)]
      exact h4
  · by_cases e : k = b
    · subst e; exact ⟨j, ho, .inr (by rw [upd_same]; simp)⟩
    · rw [upd_other e] at hk
      obtain ⟨j', h1, h2⟩ := h.tak k hk
      exact ⟨j', h1, mono _ h2⟩
/-- nothing waits: one more board is not possible -/
theorem Bfs.fails {F : List (List Bool)} {R C lo o : Nat} {a vis giv : Mat} {rk : Nat → Nat} (h : Bfs F R C lo o a vis giv rk) (ha : Ok F R C a) (ho : o < R) (hc : Clo F C lo o vis giv (fun _ => False)) : ¬ Feas F R C lo (bump (cnt C a lo) o) := by
  refine stuck (O := fun j => decide (j = o) || (giv j).isSome) (V := fun k => (vis k).isSome) ha ho (by simp) (fun i k hi h1 h2 h3 => ?_) (fun k hk => ?_)
  · have hi' : i = o ∨ giv i ≠ none := by
      simp only [Bool.or_eq_true, decide_eq_true_eq] at hi
      exact hi.imp id (fun h e => by rw [e] at h; cases h)
    have := hc i hi' (fun h => h) k h1 h2 h3
    exact Option.isSome_iff_ne_none.2 this
  · have hk' : vis k ≠ none := Option.isSome_iff_ne_none.1 hk
    obtain ⟨j, h1, h2⟩ := h.tak k hk'
    obtain ⟨i, hi⟩ := Option.ne_none_iff_exists'.1 hk'
    refine ⟨(h.vis1 k i hi).1, j, h1, ?_⟩
    simp only [Bool.or_eq_true, decide_eq_true_eq]
    exact h2.imp id (fun h => Option.isSome_iff_ne_none.2 h)
/-- boards are handed on: board kb goes to order i next -/
structure Handing (F : List (List Bool)) (R C lo o : Nat) (a vis giv : Mat) (rk : Nat → Nat) (t : Mat) (kb i : Nat) : Prop where
  ok : Ok F R C t
  visk : vis kb = some i
  lo_ : lo ≤ kb
  hi_ : kb < C
  iR : i < R
  fitk : fit F i kb = true
  reach : i = o ∨ giv i ≠ none
  mod : ∀ m j, a m = some j → rk j ≤ rk i → t m = some j
  freed : ∀ x, cnt C (upd t kb none) lo x = cnt C a lo x
  low : ∀ m, m < lo → t m = a m
  kbo : ∀ j, a kb = some j → rk i < rk j
/-- the first one: a free board b, visited for cur -/
theorem Handing.first {F : List (List Bool)} {R C lo o cur b : Nat} {a vis giv : Mat} {rk : Nat → Nat} (ha : Ok F R C a) (hb : lo ≤ b) (hbC : b < C) (hc : cur < R) (hf : fit F cur b = true) (hr : cur = o ∨ giv cur ≠ none) (ho : a b = none) :
    Handing F R C lo o a (upd vis b (some cur)) giv rk a b cur :=
  ⟨ha, upd_same _ _ _, hb, hbC, hc, hf, hr, fun _ _ h _ => h, fun x => cnt_upd_other (by rw [ho]; simp) (by simp), fun _ _ => rfl, fun j hj => by rw [ho] at hj; cases hj⟩
theorem upd_upd (a : Mat) (k : Nat) (x y : Option Nat) : upd (upd a k x) k y = upd a k y := by
  funext m; unfold upd; split <;> rfl
theorem Handing.cnts {F : List (List Bool)} {R C lo o kb i : Nat} {a vis giv t : Mat} {rk : Nat → Nat} (h : Handing F R C lo o a vis giv rk t kb i) : ∀ x, cnt C (upd t kb (some i)) lo x = bump (cnt C a lo) i x := by
  intro x
  rw [← upd_upd t kb none (some i)]
  unfold bump
  by_cases e : x = i
  · subst e
    rw [if_pos rfl, cnt_upd_new h.hi_ h.lo_ (by rw [upd_same]; simp), h.freed]
  · rw [if_neg e, cnt_upd_other (by rw [upd_same]; simp) (by simp; exact fun h => e h.symm), h.freed]
theorem Handing.okn {F : List (List Bool)} {R C lo o kb i : Nat} {a vis giv t : Mat} {rk : Nat → Nat} (h : Handing F R C lo o a vis giv rk t kb i) : Ok F R C (upd t kb (some i)) :=
  h.ok.upd (fun j hj => by
    obtain rfl : i = j := by simpa using hj
    exact ⟨h.hi_, h.iR, h.fitk⟩)
theorem Handing.lown {F : List (List Bool)} {R C lo o kb i : Nat} {a vis giv t : Mat} {rk : Nat → Nat} (h : Handing F R C lo o a vis giv rk t kb i) : ∀ m, m < lo → upd t kb (some i) m = a m := fun m hm => by
  rw [upd_other (by have := h.lo_; omega)]; exact h.low m hm
/-- what the search knows where a free board was found: it does not say that this board is taken -/
structure Bfs' (F : List (List Bool)) (R C lo o : Nat) (a vis giv : Mat) (rk : Nat → Nat) : Prop where
  vis1 : ∀ k i, vis k = some i → lo ≤ k ∧ k < C ∧ i < R ∧ fit F i k = true ∧ (i = o ∨ giv i ≠ none)
  giv1 : ∀ j k, giv j = some k → j ≠ o ∧ j < R ∧ a k = some j ∧ ∃ i, vis k = some i ∧ rk i < rk j
theorem Bfs.found {F : List (List Bool)} {R C lo o cur b : Nat} {a vis giv : Mat} {rk : Nat → Nat} (h : Bfs F R C lo o a vis giv rk) (hb : lo ≤ b) (hbC : b < C) (hc : cur < R) (hf : fit F cur b = true) (hr : cur = o ∨ giv cur ≠ none) (hv : vis b = none) :
    Bfs' F R C lo o a (upd vis b (some cur)) giv rk := by
  refine ⟨fun k i hk => ?_, fun j' k hk => ?_⟩
  · by_cases e : k = b
    · subst e
      rw [upd_same] at hk
      obtain rfl : cur = i := by simpa using hk
      exact ⟨hb, hbC, hc, hf, hr⟩
    · rw [upd_other e] at hk; exact h.vis1 k i hk
  · obtain ⟨h1, h2, h3, i, h4, h5⟩ := h.giv1 j' k hk
    refine ⟨h1, h2, h3, i, ?_, h5⟩
    rw [upd_other (fun e => by rw [e, hv] at h4; cases h4)]
    exact h4
/-- the next one -/
theorem Handing.next {F : List (List Bool)} {R C lo o kb i : Nat} {a vis giv t : Mat} {rk : Nat → Nat} (hB : Bfs' F R C lo o a vis giv rk) (h : Handing F R C lo o a vis giv rk t kb i) (hio : i ≠ o) :
    ∃ kb' i', giv i = some kb' ∧ rk i' < rk i ∧ Handing F R C lo o a vis giv rk (upd t kb (some i)) kb' i' := by
  obtain ⟨kb', hk'⟩ := Option.ne_none_iff_exists'.1 (h.reach.resolve_left hio)
  obtain ⟨h1, h2, h3, i', h4, h5⟩ := hB.giv1 i kb' hk'
  obtain ⟨v1, v2, v3, v4, v5⟩ := hB.vis1 kb' i' h4
  have hne : kb' ≠ kb := fun e => by have := h.kbo i (by rw [← e]; exact h3); omega
  have ht : t kb' = some i := h.mod kb' i h3 (Nat.le_refl _)
  refine ⟨kb', i', hk', h5, ⟨h.okn, h4, v1, v2, v3, v4, v5, fun m j hm hj => ?_, fun x => ?_, h.lown, fun j hj => ?_⟩⟩
  · have : m ≠ kb := fun e => by have := h.kbo j (by rw [← e]; exact hm); omega
    rw [upd_other this]
    exact h.mod m j hm (by omega)
  · have hc := h.cnts x
    by_cases e : x = i
    · subst e
      have := cnt_upd_gone (x := none) v2 v1 (by rw [upd_other hne]; exact ht : upd t kb (some x) kb' = some x) (by simp)
      rw [hc] at this
      simp only [bump, if_pos] at this
      omega
    · rw [cnt_upd_other (by rw [upd_other hne, ht]; simp; exact fun h => e h.symm) (by simp), hc]
      simp [bump, e]
  · rw [h3] at hj
    obtain rfl : i = j := by simpa using hj
    exact h5

/-! ### the search by recursion -/
/-- it has failed for order o: seen became seen2 -/
structure Dead (F : List (List Bool)) (R C lo : Nat) (a : Mat) (seen seen2 : Nat → Bool) : Prop where
  more : ∀ k, seen k = true → seen2 k = true
  new : ∀ k, seen2 k = true → seen k = false → lo ≤ k ∧ k < C ∧ ∃ j, a k = some j ∧ ∀ k', lo ≤ k' → k' < C → fit F j k' = true → seen2 k' = true
def setB (s : Nat → Bool) (k : Nat) : Nat → Bool := fun m => if m = k then true else s m
theorem Dead.refl {F : List (List Bool)} {R C lo : Nat} {a : Mat} {seen : Nat → Bool} : Dead F R C lo a seen seen := ⟨fun _ h => h, fun k h1 h2 => by rw [h1] at h2; cases h2⟩
/-- board k was marked, and its order j searched in vain -/
theorem Dead.step {F : List (List Bool)} {R C lo k j : Nat} {a : Mat} {seen s1 s2 : Nat → Bool} (h : Dead F R C lo a seen s1) (hk : lo ≤ k) (hkC : k < C) (hj : a k = some j) (h2 : Dead F R C lo a (setB s1 k) s2) (hf : ∀ k', lo ≤ k' → k' < C → fit F j k' = true → s2 k' = true) : Dead F R C lo a seen s2 := by
  have m1 : ∀ m, s1 m = true → s2 m = true := fun m hm => h2.more m (by unfold setB; split <;> simp_all)
  refine ⟨fun m hm => m1 m (h.more m hm), fun m hm hs => ?_⟩
  cases hs1 : s1 m
  · by_cases e : m = k
    · subst e; exact ⟨hk, hkC, j, hj, hf⟩
    · exact h2.new m hm (by simp [setB, e, hs1])
  · obtain ⟨a1, a2, j', a3, a4⟩ := h.new m hs1 hs
    exact ⟨a1, a2, j', a3, fun k' b1 b2 b3 => m1 _ (a4 k' b1 b2 b3)⟩
theorem Dead.fails {F : List (List Bool)} {R C lo o : Nat} {a : Mat} {s : Nat → Bool} (h : Dead F R C lo a (fun _ => false) s) (ha : Ok F R C a) (ho : o < R) (hf : ∀ k, lo ≤ k → k < C → fit F o k = true → s k = true) : ¬ Feas F R C lo (bump (cnt C a lo) o) := by
  refine stuck (O := fun j => decide (j = o) || decide (0 < cntP (fun k => s k && decide (a k = some j)) C)) (V := s) ha ho (by simp) (fun i k hi h1 h2 h3 => ?_) (fun k hk => ?_)
  · simp only [Bool.or_eq_true, decide_eq_true_eq] at hi
    rcases hi with rfl | hi
    · exact hf k h1 h2 h3
    · obtain ⟨m, hm, hp⟩ := cntP_pos hi
      simp only [Bool.and_eq_true, decide_eq_true_eq] at hp
      obtain ⟨_, _, j, hj, hall⟩ := h.new m hp.1 rfl
      rw [hp.2] at hj
      obtain rfl : i = j := by simpa using hj
      exact hall k h1 h2 h3
  · obtain ⟨h1, h2, j, hj, _⟩ := h.new k hk rfl
    refine ⟨h1, j, hj, ?_⟩
    simp only [Bool.or_eq_true, decide_eq_true_eq]
    right
    rcases Nat.eq_zero_or_pos (cntP (fun k => s k && decide (a k = some j)) C) with e | e
    · have := cntP_none e k h2
      simp [hk, hj] at this
    · exact e
end AssignM
