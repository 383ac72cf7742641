/-
  The stable sort of the library: symMerge.
-/
import Derived.Test.YtaflcbdbacogeaaDoorP2
set_option linter.unusedVariables false
set_option linter.unusedSimpArgs false
namespace Go.Proofs.YtaflcbdbacogeaaDoor
open Go.RowKit ReportM Go.Shelf Go.Lib Go.Sort

section
variable {α : Type} [Inhabited α] {z : α → Int} {T : α → α → Bool}
theorem rot_triv {s m e : Nat} (d : Array α) (h : s = m ∨ m = e) (x : Nat) : d[x]! = rotG s m e d x := by
  unfold rotG
  rcases h with rfl | rfl
  · rw [Nat.sub_self]
    by_cases c : s ≤ x ∧ x < s + (e - s)
    · rw [if_pos c]; rfl
    · rw [if_neg c]
      by_cases c2 : s + (e - s) ≤ x ∧ x < e
      · omega
      · rw [if_neg c2]
  · rw [Nat.sub_self]
    rw [if_neg (by omega)]
    by_cases c2 : s + 0 ≤ x ∧ x < m
    · rw [if_pos c2]; rfl
    · rw [if_neg c2]
theorem or3 {p q1 q2 r : Prop} (h : p ∨ r) (f : p → q1 ∨ q2) : q1 ∨ q2 ∨ r := h.elim (fun h => (f h).elim Or.inl (fun x => Or.inr (Or.inl x))) (fun h => Or.inr (Or.inr h))
theorem step_l {mid m c pc : Nat} {d : Array α} (h : pc = mid + m - c - 1) (ht : T d[pc]! d[c]! = false) : T d[mid + m - (c + 1)]! d[c + 1 - 1]! = false := by
  rw [show mid + m - (c + 1) = pc by omega]; exact ht
theorem left_sorted {a s mid e b : Nat} {d : Array α} (h : Halves T a s mid e b d) (hh : a = s ∨ s = mid) : SortedIn T a mid d := by
  rcases hh with rfl | rfl
  · exact h.p2
  · exact h.p1
theorem right_sorted {a s mid e b : Nat} {d : Array α} (h : Halves T a s mid e b d) (hh : mid = e ∨ e = b) : SortedIn T mid b d := by
  rcases hh with rfl | rfl
  · exact h.p4
  · exact h.p3
theorem agree_left {lt : α → α → Bool} {a s m mid e b : Nat} {d d1 : Array α} (h : Agree lt T a m b d) (hr : ∀ x, d1[x]! = rotG s m e d x) (he : e = mid + m - s) (h1 : a ≤ s) (h2 : s ≤ m) (h3 : m ≤ e) (h4 : e ≤ b) (h5 : s ≤ mid) : Agree lt T a s mid d1 := by
  intro i j g1 g2 g3 g4
  have e1 : d1[i]! = d[i]! := by rw [hr]; unfold rotG; rw [if_neg (by omega), if_neg (by omega)]
  have e2 : d1[j]! = d[j + (m - s)]! := by rw [hr]; unfold rotG; rw [if_pos (by omega)]
  rw [e1, e2]
  exact h i _ g1 (by omega) (by omega) (by omega)
theorem agree_right {lt : α → α → Bool} {a s m mid e b : Nat} {d d1 : Array α} (h : Agree lt T a m b d) (hr : ∀ x, d1[x]! = rotG s m e d x) (he : e = mid + m - s) (h1 : a ≤ s) (h2 : s ≤ m) (h3 : m ≤ e) (h4 : e ≤ b) (h5 : s ≤ mid) : Agree lt T mid e b d1 := by
  intro i j g1 g2 g3 g4
  have e1 : d1[i]! = d[i - (e - m)]! := by rw [hr]; unfold rotG; rw [if_neg (by omega), if_pos (by omega)]
  have e2 : d1[j]! = d[j]! := by rw [hr]; unfold rotG; rw [if_neg (by omega), if_neg (by omega)]
  rw [e1, e2]
  exact h _ j (by omega) (by omega) (by omega) g4
theorem sorted_keep {lt : α → α → Bool} {a b : Nat} {d d' : Array α} (h : SortedIn lt a b d) (e : ∀ i, a ≤ i → d'[i]! = d[i]!) : SortedIn lt a b d' := fun i j h1 h2 h3 => by
  rw [e i h1, e j (by omega)]; exact h i j h1 h2 h3
theorem agree_keep {lt : α → α → Bool} {a m b : Nat} {d d' : Array α} (h : Agree lt T a m b d) (e : ∀ i, a ≤ i → d'[i]! = d[i]!) : Agree lt T a m b d' := fun i j h1 h2 h3 h4 => by
  rw [e i h1, e j (by omega)]; exact h i j h1 h2 h3 h4
/-- the contract of the merge, for parts of at most n elements -/
def SymOk (T : α → α → Bool) (z : α → Int) (cf : α → α → Int) (fg : Nat) (cb : Array Value) (blk cap : Nat) (d0 : Array α) (w0 : World) (n : Nat) : Prop :=
  ∀ (a m b : Nat) (d : Array α) (w : World), b - a ≤ n → a < m → m < b → b ≤ d.size → d.size = d0.size → Two T a m b d → Agree (ltOf cf) T a m b d → SW (eZ z) w0 blk 0 d w →
    Calls Tryd.prog 63 #[.slice (some ⟨blk, 0, none⟩) d0.size cap, .int .i64 (a : Int), .int .i64 (m : Int), .int .i64 (b : Int), .func (.func fg) #[] cb] w (SymPost T z w0 blk a b d)
set_option maxRecDepth 20000 in
set_option maxHeartbeats 12800000 in
theorem sym_step (hT : SWO T) (cf : α → α → Int) (fg : Nat) (cb : Array Value) (blk cap a m b n : Nat) (d0 d : Array α) (w0 w : World) (eg : ∀ args w, (callFunc fg args).run Tryd.prog w = .ok (.enter fg args) w) (hcmp : CmpLays1 Tryd.prog fg cb (eZ z) cf blk 0 d0.size w0)
    (R : Row1 (eZ z) w0 blk 0 d0) (hs : d.size = d0.size) (S : SW (eZ z) w0 blk 0 d w) (ham : a + 1 < m) (hmb : m + 1 < b) (hb : b ≤ d.size) (hsz : d0.size ≤ 1000000) (h2 : Two T a m b d) (hag : Agree (ltOf cf) T a m b d) (hn : b - a ≤ n + 1) (ih : SymOk T z cf fg cb blk cap d0 w0 n) :
    Calls Tryd.prog 63 #[.slice (some ⟨blk, 0, none⟩) d0.size cap, .int .i64 (a : Int), .int .i64 (m : Int), .int .i64 (b : Int), .func (.func fg) #[] cb] w (SymPost T z w0 blk a b d) := by
  have S0 := Lib.hid S
  have HR := Lib.hid R
  have HC := Lib.hid hcmp
  have H2 := Lib.hid h2
  have HA := Lib.hid hag
  have HTT := Lib.hid hT
  have IH := Lib.hid ih
  clear S R hcmp h2 hag hT ih
  obtain ⟨mid, hmid⟩ : ∃ x, x = (a + b) / 2 := ⟨_, rfl⟩
  have hmz : ((a : Int) + (b : Int)) / 2 = (mid : Int) := by omega
  have m1 : a < mid := by omega
  have m2 : mid < b := by omega
  have m3 : 2 * mid ≤ a + b := by omega
  have m4 : a + b ≤ 2 * mid + 1 := by omega
  clear hmid
  go_enter Tryd.func63, Tryd.ntmps63
  have q0 : ((m : Int) - (a : Int) == 1) = false := by simp; omega
  have q1 : ((b : Int) - (m : Int) == 1) = false := by simp; omega
  by_cases hmm : mid < m
  · have q2 : (mid : Int) + (m : Int) - (b : Int) = ((mid + m - b : Nat) : Int) := by omega
    go_wp2_with fail
    go_loopw [20, 21] (fun u v wr => ∃ s r : Nat, u = .int .i64 (s : Int) ∧ v = .int .i64 (r : Int) ∧ (mid + m - b) ≤ s ∧ s ≤ r ∧ r ≤ mid ∧ Hid (s = (mid + m - b) ∨ T d[mid + m - s]! d[s - 1]! = false) ∧ Hid (r = mid ∨ T d[mid + m - r - 1]! d[r]! = true) ∧ Hid (SW (eZ z) w0 blk 0 d wr)) (fun u v _ => (intOf v).toNat - (intOf u).toNat)
    case atStart => exact ⟨(mid + m - b), mid, by first | rfl | go_num, by first | rfl | go_num, Nat.le_refl _, by omega, Nat.le_refl _, Lib.hid (Or.inl rfl), Lib.hid (Or.inl rfl), S0⟩
    case round =>
      clear S0
      obtain ⟨s, r, rfl, rfl, hls, hsr, hrh, HL, HRR, S1⟩ := hrel
      by_cases hlt : s < r
      · obtain ⟨c, hc⟩ : ∃ c, c = (s + r) / 2 := ⟨_, rfl⟩
        have hcz : ((s : Int) + (r : Int)) / 2 = (c : Int) := by omega
        have hsc : s ≤ c := by omega
        have hcr : c < r := by omega
        clear hc
        obtain ⟨pc, hpc⟩ : ∃ p, p = mid + m - c - 1 := ⟨_, rfl⟩
        have hpz : (mid : Int) + (m : Int) - 1 - (c : Int) = (pc : Int) := by omega
        have hpb : pc < b := by omega
        have hpm : m ≤ pc := by omega
        have HAH := Lib.hid (HA.out c pc (by omega) (by omega) hpm hpb)
        have HPC := Lib.hid hpc
        clear hpc
        obtain ⟨x, hx⟩ : ∃ x, x = d[pc]! := ⟨_, rfl⟩
        obtain ⟨y, hy⟩ : ∃ y, y = d[c]! := ⟨_, rfl⟩
        have la : ∀ n os, (grow (wr.drewN n) os).cell? ⟨blk, pc, none⟩ = some (.int .i64 (z x)) := fun n os => by
          have := S1.out.cl HR.out (by omega) (pc) (by omega) n os
          rw [Nat.zero_add] at this
          rw [hx]; exact this
        have lb : ∀ n os, (grow (wr.drewN n) os).cell? ⟨blk, c, none⟩ = some (.int .i64 (z y)) := fun n os => by
          have := S1.out.cl HR.out (by omega) (c) (by omega) n os
          rw [Nat.zero_add] at this
          rw [hy]; exact this
        have hc : ∀ n os, Calls Tryd.prog fg (#[.int .i64 (z x), .int .i64 (z y)] ++ cb) (grow (wr.drewN n) os) fun e w' => e = .returned (.int .i64 (cf x y)) ∧ ∃ q os', w' = grow ((grow (wr.drewN n) os).drewN q) os' := fun n os => S1.out.cmp HC.out (by omega) x y n os
        have HXE := Lib.hid hx
        have HYE := Lib.hid hy
        clear hx hy
        cases hlv : ltOf cf x y with
        | true =>
          have hd1 : decide (cf x y < 0) = true := by unfold ltOf at hlv; simpa using hlv
          have hd2 : (!decide (cf x y < 0)) = false := by rw [hd1]; rfl
          have HTv : Hid (T d[pc]! d[c]! = true) := Lib.hid (by rw [← HAH.out, ← HXE.out, ← HYE.out]; exact hlv)
          go_wp2_with fail
          refine wp_region_quiet_grown (by kernel_rfl) (by kernel_rfl) ?_
          repeat (first | go_big_quiet_skip | go_big_quiet_step ((go_at_fn fg; refine Calls.grown_of (hc _ _))))
          refine wpQuiet_nil ?_
          intro _ hw'
          obtain ⟨⟨nq, osq⟩, hw''⟩ := hw'
          subst hw''
          have S2 : Hid (SW (eZ z) w0 blk 0 d (grow (wr.drewN nq) osq)) := Lib.hid (S1.out.grown nq osq)
          clear la lb hc S1
          generalize grow (wr.drewN nq) osq = w2 at S2 ⊢
          clear nq osq
          go_wp2_with fail
          go_roundw
          case rel => exact ⟨s, c, rfl, rfl, hls, hsc, by omega, HL, Lib.hid (Or.inr (by rw [← HPC.out]; exact HTv.out)), S2⟩
          case measure => simp [intOf]; omega
        | false =>
          have hd1 : decide (cf x y < 0) = false := by unfold ltOf at hlv; simpa using hlv
          have hd2 : (!decide (cf x y < 0)) = true := by rw [hd1]; rfl
          have HTv : Hid (T d[pc]! d[c]! = false) := Lib.hid (by rw [← HAH.out, ← HXE.out, ← HYE.out]; exact hlv)
          go_wp2_with fail
          refine wp_region_quiet_grown (by kernel_rfl) (by kernel_rfl) ?_
          repeat (first | go_big_quiet_skip | go_big_quiet_step ((go_at_fn fg; refine Calls.grown_of (hc _ _))))
          refine wpQuiet_nil ?_
          intro _ hw'
          obtain ⟨⟨nq, osq⟩, hw''⟩ := hw'
          subst hw''
          have S2 : Hid (SW (eZ z) w0 blk 0 d (grow (wr.drewN nq) osq)) := Lib.hid (S1.out.grown nq osq)
          clear la lb hc S1
          generalize grow (wr.drewN nq) osq = w2 at S2 ⊢
          clear nq osq
          go_wp2_with fail
          go_roundw
          case rel => exact ⟨c + 1, r, by first | rfl | go_num, rfl, by omega, by omega, hrh, Lib.hid (Or.inr (step_l HPC.out HTv.out)), HRR, S2⟩
          case measure => simp [intOf]; omega
      · obtain rfl : s = r := by omega
        have HCUT : Hid (Cut T a m b mid s d) := Lib.hid ⟨by omega, by omega, by omega, by omega, by omega, or3 HL.out (fun h => by omega), or3 HRR.out (fun h => by omega)⟩
        have ee : (mid : Int) + (m : Int) - (s : Int) = ((mid + m - s : Nat) : Int) := by omega
        have ham : a ≤ s := by omega
        have hsm : s ≤ m := by omega
        have hsd : s ≤ mid := by omega
        have heb : mid + m - s ≤ b := by omega
        have hme : m ≤ mid + m - s := by omega
        by_cases cr1 : s < m
        · by_cases cr2 : m < mid + m - s
          · by_cases cl1 : a < s
            · by_cases cl2 : s < mid
              · by_cases cq1 : mid < mid + m - s
                · by_cases cq2 : mid + m - s < b
                  · go_wp2_with fail
                    go_at_call 73
                    have hcall := rotate_w z (.func (.func fg) #[] cb) blk cap s m (mid + m - s) d0 d w0 wr HR.out hs.symm S1.out (by omega) (by omega) (by omega) (by omega)
                    rw [hs] at hcall
                    refine hcall.mono ?_
                    clear hcall
                    rintro e' w1 ⟨rfl, d1, hp1, hr1, hS1⟩
                    have S2 := Lib.hid hS1
                    clear hS1
                    have D1 := Lib.hid hp1
                    have HRT := Lib.hid hr1
                    have HHV := Lib.hid (Cut.halves HTT.out H2.out HCUT.out hr1)
                    have AL := Lib.hid (agree_left HA.out hr1 rfl (by omega) (by omega) (by omega) (by omega) (by omega))
                    have AR := Lib.hid (agree_right HA.out hr1 rfl (by omega) (by omega) (by omega) (by omega) (by omega))
                    have z1 : d1.size = d0.size := by rw [hp1.1, hs]
                    clear hp1 hr1
                    go_wp2_with fail
                    go_at_call 63
                    refine (IH.out a s mid d1 _ (by omega) (by omega) (by omega) (by omega) z1 ⟨HHV.out.p1, HHV.out.p2⟩ AL.out S2.out).mono ?_
                    rintro e' w2 ⟨rfl, d2, hp2, hs2, hS3⟩
                    have S3 := Lib.hid hS3
                    clear hS3
                    have P2 := Lib.hid hp2
                    have Q2 := Lib.hid hs2
                    have z2 : d2.size = d0.size := by rw [hp2.1, z1]
                    clear hp2 hs2
                    go_wp2_with fail
                    go_at_call 63
                    refine (IH.out mid (mid + m - s) b d2 _ (by omega) (by omega) (by omega) (by omega) z2 ⟨sorted_keep HHV.out.p3 (fun i hi => P2.out.2.1 i (Or.inr hi)), sorted_keep HHV.out.p4 (fun i hi => P2.out.2.1 i (Or.inr (by omega)))⟩ (agree_keep AR.out (fun i hi => P2.out.2.1 i (Or.inr hi))) S3.out).mono ?_
                    rintro e' w3 ⟨rfl, d3, hp3, hs3, hS4⟩
                    have S4 := Lib.hid hS4
                    have P3 := Lib.hid hp3
                    have Q3 := Lib.hid hs3
                    clear hS4 hp3 hs3
                    go_wp2_with fail
                    go_end0
                    exact ⟨rfl, d3, permIn_trans _ _ _ _ _ (permIn_trans _ _ _ _ _ (permIn_mono _ _ _ _ _ _ (by omega) (by omega) (by omega) D1.out) (permIn_mono _ _ _ _ _ _ (Nat.le_refl _) (by omega) (by omega) P2.out)) (permIn_mono _ _ _ _ _ _ (by omega) (Nat.le_refl _) (by omega) P3.out), Halves.join (s := s) (e := mid + m - s) HHV.out.cross (by omega) (by omega) (by omega) P2.out Q2.out P3.out Q3.out, S4.out⟩
                  · go_wp2_with fail
                    go_at_call 73
                    have hcall := rotate_w z (.func (.func fg) #[] cb) blk cap s m (mid + m - s) d0 d w0 wr HR.out hs.symm S1.out (by omega) (by omega) (by omega) (by omega)
                    rw [hs] at hcall
                    refine hcall.mono ?_
                    clear hcall
                    rintro e' w1 ⟨rfl, d1, hp1, hr1, hS1⟩
                    have S2 := Lib.hid hS1
                    clear hS1
                    have D1 := Lib.hid hp1
                    have HRT := Lib.hid hr1
                    have HHV := Lib.hid (Cut.halves HTT.out H2.out HCUT.out hr1)
                    have AL := Lib.hid (agree_left HA.out hr1 rfl (by omega) (by omega) (by omega) (by omega) (by omega))
                    have AR := Lib.hid (agree_right HA.out hr1 rfl (by omega) (by omega) (by omega) (by omega) (by omega))
                    have z1 : d1.size = d0.size := by rw [hp1.1, hs]
                    clear hp1 hr1
                    go_wp2_with fail
                    go_at_call 63
                    refine (IH.out a s mid d1 _ (by omega) (by omega) (by omega) (by omega) z1 ⟨HHV.out.p1, HHV.out.p2⟩ AL.out S2.out).mono ?_
                    rintro e' w2 ⟨rfl, d2, hp2, hs2, hS3⟩
                    have S3 := Lib.hid hS3
                    clear hS3
                    have P2 := Lib.hid hp2
                    have Q2 := Lib.hid hs2
                    have z2 : d2.size = d0.size := by rw [hp2.1, z1]
                    clear hp2 hs2
                    go_wp2_with fail
                    go_end0
                    exact ⟨rfl, d2, permIn_trans _ _ _ _ _ (permIn_mono _ _ _ _ _ _ (by omega) (by omega) (by omega) D1.out) (permIn_mono _ _ _ _ _ _ (Nat.le_refl _) (by omega) (by omega) P2.out), Halves.join (s := s) (e := mid + m - s) HHV.out.cross (by omega) (by omega) (by omega) P2.out Q2.out (permIn_refl _ _ _) (sorted_keep (d := d1) (right_sorted HHV.out (by omega)) (fun i hi => P2.out.2.1 i (Or.inr hi))), S3.out⟩
                · go_wp2_with fail
                  go_at_call 73
                  have hcall := rotate_w z (.func (.func fg) #[] cb) blk cap s m (mid + m - s) d0 d w0 wr HR.out hs.symm S1.out (by omega) (by omega) (by omega) (by omega)
                  rw [hs] at hcall
                  refine hcall.mono ?_
                  clear hcall
                  rintro e' w1 ⟨rfl, d1, hp1, hr1, hS1⟩
                  have S2 := Lib.hid hS1
                  clear hS1
                  have D1 := Lib.hid hp1
                  have HRT := Lib.hid hr1
                  have HHV := Lib.hid (Cut.halves HTT.out H2.out HCUT.out hr1)
                  have AL := Lib.hid (agree_left HA.out hr1 rfl (by omega) (by omega) (by omega) (by omega) (by omega))
                  have AR := Lib.hid (agree_right HA.out hr1 rfl (by omega) (by omega) (by omega) (by omega) (by omega))
                  have z1 : d1.size = d0.size := by rw [hp1.1, hs]
                  clear hp1 hr1
                  go_wp2_with fail
                  go_at_call 63
                  refine (IH.out a s mid d1 _ (by omega) (by omega) (by omega) (by omega) z1 ⟨HHV.out.p1, HHV.out.p2⟩ AL.out S2.out).mono ?_
                  rintro e' w2 ⟨rfl, d2, hp2, hs2, hS3⟩
                  have S3 := Lib.hid hS3
                  clear hS3
                  have P2 := Lib.hid hp2
                  have Q2 := Lib.hid hs2
                  have z2 : d2.size = d0.size := by rw [hp2.1, z1]
                  clear hp2 hs2
                  go_wp2_with fail
                  go_end0
                  exact ⟨rfl, d2, permIn_trans _ _ _ _ _ (permIn_mono _ _ _ _ _ _ (by omega) (by omega) (by omega) D1.out) (permIn_mono _ _ _ _ _ _ (Nat.le_refl _) (by omega) (by omega) P2.out), Halves.join (s := s) (e := mid + m - s) HHV.out.cross (by omega) (by omega) (by omega) P2.out Q2.out (permIn_refl _ _ _) (sorted_keep (d := d1) (right_sorted HHV.out (by omega)) (fun i hi => P2.out.2.1 i (Or.inr hi))), S3.out⟩
              · by_cases cq1 : mid < mid + m - s
                · by_cases cq2 : mid + m - s < b
                  · go_wp2_with fail
                    go_at_call 73
                    have hcall := rotate_w z (.func (.func fg) #[] cb) blk cap s m (mid + m - s) d0 d w0 wr HR.out hs.symm S1.out (by omega) (by omega) (by omega) (by omega)
                    rw [hs] at hcall
                    refine hcall.mono ?_
                    clear hcall
                    rintro e' w1 ⟨rfl, d1, hp1, hr1, hS1⟩
                    have S2 := Lib.hid hS1
                    clear hS1
                    have D1 := Lib.hid hp1
                    have HRT := Lib.hid hr1
                    have HHV := Lib.hid (Cut.halves HTT.out H2.out HCUT.out hr1)
                    have AL := Lib.hid (agree_left HA.out hr1 rfl (by omega) (by omega) (by omega) (by omega) (by omega))
                    have AR := Lib.hid (agree_right HA.out hr1 rfl (by omega) (by omega) (by omega) (by omega) (by omega))
                    have z1 : d1.size = d0.size := by rw [hp1.1, hs]
                    clear hp1 hr1
                    obtain ⟨d2, hp2, hs2, hS3⟩ : ∃ d2, PermIn a mid d1 d2 ∧ SortedIn T a mid d2 ∧ SW (eZ z) w0 blk 0 d2 w1 := ⟨d1, permIn_refl _ _ _, left_sorted HHV.out (by omega), S2.out⟩
                    have S3 := Lib.hid hS3
                    clear hS3
                    have P2 := Lib.hid hp2
                    have Q2 := Lib.hid hs2
                    have z2 : d2.size = d0.size := by rw [hp2.1, z1]
                    clear hp2 hs2
                    go_wp2_with fail
                    go_at_call 63
                    refine (IH.out mid (mid + m - s) b d2 _ (by omega) (by omega) (by omega) (by omega) z2 ⟨sorted_keep HHV.out.p3 (fun i hi => P2.out.2.1 i (Or.inr hi)), sorted_keep HHV.out.p4 (fun i hi => P2.out.2.1 i (Or.inr (by omega)))⟩ (agree_keep AR.out (fun i hi => P2.out.2.1 i (Or.inr hi))) S3.out).mono ?_
                    rintro e' w3 ⟨rfl, d3, hp3, hs3, hS4⟩
                    have S4 := Lib.hid hS4
                    have P3 := Lib.hid hp3
                    have Q3 := Lib.hid hs3
                    clear hS4 hp3 hs3
                    go_wp2_with fail
                    go_end0
                    exact ⟨rfl, d3, permIn_trans _ _ _ _ _ (permIn_trans _ _ _ _ _ (permIn_mono _ _ _ _ _ _ (by omega) (by omega) (by omega) D1.out) (permIn_mono _ _ _ _ _ _ (Nat.le_refl _) (by omega) (by omega) P2.out)) (permIn_mono _ _ _ _ _ _ (by omega) (Nat.le_refl _) (by omega) P3.out), Halves.join (s := s) (e := mid + m - s) HHV.out.cross (by omega) (by omega) (by omega) P2.out Q2.out P3.out Q3.out, S4.out⟩
                  · go_wp2_with fail
                    go_at_call 73
                    have hcall := rotate_w z (.func (.func fg) #[] cb) blk cap s m (mid + m - s) d0 d w0 wr HR.out hs.symm S1.out (by omega) (by omega) (by omega) (by omega)
                    rw [hs] at hcall
                    refine hcall.mono ?_
                    clear hcall
                    rintro e' w1 ⟨rfl, d1, hp1, hr1, hS1⟩
                    have S2 := Lib.hid hS1
                    clear hS1
                    have D1 := Lib.hid hp1
                    have HRT := Lib.hid hr1
                    have HHV := Lib.hid (Cut.halves HTT.out H2.out HCUT.out hr1)
                    have AL := Lib.hid (agree_left HA.out hr1 rfl (by omega) (by omega) (by omega) (by omega) (by omega))
                    have AR := Lib.hid (agree_right HA.out hr1 rfl (by omega) (by omega) (by omega) (by omega) (by omega))
                    have z1 : d1.size = d0.size := by rw [hp1.1, hs]
                    clear hp1 hr1
                    obtain ⟨d2, hp2, hs2, hS3⟩ : ∃ d2, PermIn a mid d1 d2 ∧ SortedIn T a mid d2 ∧ SW (eZ z) w0 blk 0 d2 w1 := ⟨d1, permIn_refl _ _ _, left_sorted HHV.out (by omega), S2.out⟩
                    have S3 := Lib.hid hS3
                    clear hS3
                    have P2 := Lib.hid hp2
                    have Q2 := Lib.hid hs2
                    have z2 : d2.size = d0.size := by rw [hp2.1, z1]
                    clear hp2 hs2
                    go_wp2_with fail
                    go_end0
                    exact ⟨rfl, d2, permIn_trans _ _ _ _ _ (permIn_mono _ _ _ _ _ _ (by omega) (by omega) (by omega) D1.out) (permIn_mono _ _ _ _ _ _ (Nat.le_refl _) (by omega) (by omega) P2.out), Halves.join (s := s) (e := mid + m - s) HHV.out.cross (by omega) (by omega) (by omega) P2.out Q2.out (permIn_refl _ _ _) (sorted_keep (d := d1) (right_sorted HHV.out (by omega)) (fun i hi => P2.out.2.1 i (Or.inr hi))), S3.out⟩
                · go_wp2_with fail
                  go_at_call 73
                  have hcall := rotate_w z (.func (.func fg) #[] cb) blk cap s m (mid + m - s) d0 d w0 wr HR.out hs.symm S1.out (by omega) (by omega) (by omega) (by omega)
                  rw [hs] at hcall
                  refine hcall.mono ?_
                  clear hcall
                  rintro e' w1 ⟨rfl, d1, hp1, hr1, hS1⟩
                  have S2 := Lib.hid hS1
                  clear hS1
                  have D1 := Lib.hid hp1
                  have HRT := Lib.hid hr1
                  have HHV := Lib.hid (Cut.halves HTT.out H2.out HCUT.out hr1)
                  have AL := Lib.hid (agree_left HA.out hr1 rfl (by omega) (by omega) (by omega) (by omega) (by omega))
                  have AR := Lib.hid (agree_right HA.out hr1 rfl (by omega) (by omega) (by omega) (by omega) (by omega))
                  have z1 : d1.size = d0.size := by rw [hp1.1, hs]
                  clear hp1 hr1
                  obtain ⟨d2, hp2, hs2, hS3⟩ : ∃ d2, PermIn a mid d1 d2 ∧ SortedIn T a mid d2 ∧ SW (eZ z) w0 blk 0 d2 w1 := ⟨d1, permIn_refl _ _ _, left_sorted HHV.out (by omega), S2.out⟩
                  have S3 := Lib.hid hS3
                  clear hS3
                  have P2 := Lib.hid hp2
                  have Q2 := Lib.hid hs2
                  have z2 : d2.size = d0.size := by rw [hp2.1, z1]
                  clear hp2 hs2
                  go_wp2_with fail
                  go_end0
                  exact ⟨rfl, d2, permIn_trans _ _ _ _ _ (permIn_mono _ _ _ _ _ _ (by omega) (by omega) (by omega) D1.out) (permIn_mono _ _ _ _ _ _ (Nat.le_refl _) (by omega) (by omega) P2.out), Halves.join (s := s) (e := mid + m - s) HHV.out.cross (by omega) (by omega) (by omega) P2.out Q2.out (permIn_refl _ _ _) (sorted_keep (d := d1) (right_sorted HHV.out (by omega)) (fun i hi => P2.out.2.1 i (Or.inr hi))), S3.out⟩
            · by_cases cq1 : mid < mid + m - s
              · by_cases cq2 : mid + m - s < b
                · go_wp2_with fail
                  go_at_call 73
                  have hcall := rotate_w z (.func (.func fg) #[] cb) blk cap s m (mid + m - s) d0 d w0 wr HR.out hs.symm S1.out (by omega) (by omega) (by omega) (by omega)
                  rw [hs] at hcall
                  refine hcall.mono ?_
                  clear hcall
                  rintro e' w1 ⟨rfl, d1, hp1, hr1, hS1⟩
                  have S2 := Lib.hid hS1
                  clear hS1
                  have D1 := Lib.hid hp1
                  have HRT := Lib.hid hr1
                  have HHV := Lib.hid (Cut.halves HTT.out H2.out HCUT.out hr1)
                  have AL := Lib.hid (agree_left HA.out hr1 rfl (by omega) (by omega) (by omega) (by omega) (by omega))
                  have AR := Lib.hid (agree_right HA.out hr1 rfl (by omega) (by omega) (by omega) (by omega) (by omega))
                  have z1 : d1.size = d0.size := by rw [hp1.1, hs]
                  clear hp1 hr1
                  obtain ⟨d2, hp2, hs2, hS3⟩ : ∃ d2, PermIn a mid d1 d2 ∧ SortedIn T a mid d2 ∧ SW (eZ z) w0 blk 0 d2 w1 := ⟨d1, permIn_refl _ _ _, left_sorted HHV.out (by omega), S2.out⟩
                  have S3 := Lib.hid hS3
                  clear hS3
                  have P2 := Lib.hid hp2
                  have Q2 := Lib.hid hs2
                  have z2 : d2.size = d0.size := by rw [hp2.1, z1]
                  clear hp2 hs2
                  go_wp2_with fail
                  go_at_call 63
                  refine (IH.out mid (mid + m - s) b d2 _ (by omega) (by omega) (by omega) (by omega) z2 ⟨sorted_keep HHV.out.p3 (fun i hi => P2.out.2.1 i (Or.inr hi)), sorted_keep HHV.out.p4 (fun i hi => P2.out.2.1 i (Or.inr (by omega)))⟩ (agree_keep AR.out (fun i hi => P2.out.2.1 i (Or.inr hi))) S3.out).mono ?_
                  rintro e' w3 ⟨rfl, d3, hp3, hs3, hS4⟩
                  have S4 := Lib.hid hS4
                  have P3 := Lib.hid hp3
                  have Q3 := Lib.hid hs3
                  clear hS4 hp3 hs3
                  go_wp2_with fail
                  go_end0
                  exact ⟨rfl, d3, permIn_trans _ _ _ _ _ (permIn_trans _ _ _ _ _ (permIn_mono _ _ _ _ _ _ (by omega) (by omega) (by omega) D1.out) (permIn_mono _ _ _ _ _ _ (Nat.le_refl _) (by omega) (by omega) P2.out)) (permIn_mono _ _ _ _ _ _ (by omega) (Nat.le_refl _) (by omega) P3.out), Halves.join (s := s) (e := mid + m - s) HHV.out.cross (by omega) (by omega) (by omega) P2.out Q2.out P3.out Q3.out, S4.out⟩
                · go_wp2_with fail
                  go_at_call 73
                  have hcall := rotate_w z (.func (.func fg) #[] cb) blk cap s m (mid + m - s) d0 d w0 wr HR.out hs.symm S1.out (by omega) (by omega) (by omega) (by omega)
                  rw [hs] at hcall
                  refine hcall.mono ?_
                  clear hcall
                  rintro e' w1 ⟨rfl, d1, hp1, hr1, hS1⟩
                  have S2 := Lib.hid hS1
                  clear hS1
                  have D1 := Lib.hid hp1
                  have HRT := Lib.hid hr1
                  have HHV := Lib.hid (Cut.halves HTT.out H2.out HCUT.out hr1)
                  have AL := Lib.hid (agree_left HA.out hr1 rfl (by omega) (by omega) (by omega) (by omega) (by omega))
                  have AR := Lib.hid (agree_right HA.out hr1 rfl (by omega) (by omega) (by omega) (by omega) (by omega))
                  have z1 : d1.size = d0.size := by rw [hp1.1, hs]
                  clear hp1 hr1
                  obtain ⟨d2, hp2, hs2, hS3⟩ : ∃ d2, PermIn a mid d1 d2 ∧ SortedIn T a mid d2 ∧ SW (eZ z) w0 blk 0 d2 w1 := ⟨d1, permIn_refl _ _ _, left_sorted HHV.out (by omega), S2.out⟩
                  have S3 := Lib.hid hS3
                  clear hS3
                  have P2 := Lib.hid hp2
                  have Q2 := Lib.hid hs2
                  have z2 : d2.size = d0.size := by rw [hp2.1, z1]
                  clear hp2 hs2
                  go_wp2_with fail
                  go_end0
                  exact ⟨rfl, d2, permIn_trans _ _ _ _ _ (permIn_mono _ _ _ _ _ _ (by omega) (by omega) (by omega) D1.out) (permIn_mono _ _ _ _ _ _ (Nat.le_refl _) (by omega) (by omega) P2.out), Halves.join (s := s) (e := mid + m - s) HHV.out.cross (by omega) (by omega) (by omega) P2.out Q2.out (permIn_refl _ _ _) (sorted_keep (d := d1) (right_sorted HHV.out (by omega)) (fun i hi => P2.out.2.1 i (Or.inr hi))), S3.out⟩
              · go_wp2_with fail
                go_at_call 73
                have hcall := rotate_w z (.func (.func fg) #[] cb) blk cap s m (mid + m - s) d0 d w0 wr HR.out hs.symm S1.out (by omega) (by omega) (by omega) (by omega)
                rw [hs] at hcall
                refine hcall.mono ?_
                clear hcall
                rintro e' w1 ⟨rfl, d1, hp1, hr1, hS1⟩
                have S2 := Lib.hid hS1
                clear hS1
                have D1 := Lib.hid hp1
                have HRT := Lib.hid hr1
                have HHV := Lib.hid (Cut.halves HTT.out H2.out HCUT.out hr1)
                have AL := Lib.hid (agree_left HA.out hr1 rfl (by omega) (by omega) (by omega) (by omega) (by omega))
                have AR := Lib.hid (agree_right HA.out hr1 rfl (by omega) (by omega) (by omega) (by omega) (by omega))
                have z1 : d1.size = d0.size := by rw [hp1.1, hs]
                clear hp1 hr1
                obtain ⟨d2, hp2, hs2, hS3⟩ : ∃ d2, PermIn a mid d1 d2 ∧ SortedIn T a mid d2 ∧ SW (eZ z) w0 blk 0 d2 w1 := ⟨d1, permIn_refl _ _ _, left_sorted HHV.out (by omega), S2.out⟩
                have S3 := Lib.hid hS3
                clear hS3
                have P2 := Lib.hid hp2
                have Q2 := Lib.hid hs2
                have z2 : d2.size = d0.size := by rw [hp2.1, z1]
                clear hp2 hs2
                go_wp2_with fail
                go_end0
                exact ⟨rfl, d2, permIn_trans _ _ _ _ _ (permIn_mono _ _ _ _ _ _ (by omega) (by omega) (by omega) D1.out) (permIn_mono _ _ _ _ _ _ (Nat.le_refl _) (by omega) (by omega) P2.out), Halves.join (s := s) (e := mid + m - s) HHV.out.cross (by omega) (by omega) (by omega) P2.out Q2.out (permIn_refl _ _ _) (sorted_keep (d := d1) (right_sorted HHV.out (by omega)) (fun i hi => P2.out.2.1 i (Or.inr hi))), S3.out⟩
          · by_cases cl1 : a < s
            · by_cases cl2 : s < mid
              · by_cases cq1 : mid < mid + m - s
                · by_cases cq2 : mid + m - s < b
                  · obtain ⟨d1, hp1, hr1, hS1⟩ : ∃ d1, PermIn s (mid + m - s) d d1 ∧ (∀ x, d1[x]! = rotG s m (mid + m - s) d x) ∧ SW (eZ z) w0 blk 0 d1 wr := ⟨d, permIn_refl _ _ _, rot_triv d (by omega), S1.out⟩
                    have S2 := Lib.hid hS1
                    clear hS1
                    have D1 := Lib.hid hp1
                    have HRT := Lib.hid hr1
                    have HHV := Lib.hid (Cut.halves HTT.out H2.out HCUT.out hr1)
                    have AL := Lib.hid (agree_left HA.out hr1 rfl (by omega) (by omega) (by omega) (by omega) (by omega))
                    have AR := Lib.hid (agree_right HA.out hr1 rfl (by omega) (by omega) (by omega) (by omega) (by omega))
                    have z1 : d1.size = d0.size := by rw [hp1.1, hs]
                    clear hp1 hr1
                    go_wp2_with fail
                    go_at_call 63
                    refine (IH.out a s mid d1 _ (by omega) (by omega) (by omega) (by omega) z1 ⟨HHV.out.p1, HHV.out.p2⟩ AL.out S2.out).mono ?_
                    rintro e' w2 ⟨rfl, d2, hp2, hs2, hS3⟩
                    have S3 := Lib.hid hS3
                    clear hS3
                    have P2 := Lib.hid hp2
                    have Q2 := Lib.hid hs2
                    have z2 : d2.size = d0.size := by rw [hp2.1, z1]
                    clear hp2 hs2
                    go_wp2_with fail
                    go_at_call 63
                    refine (IH.out mid (mid + m - s) b d2 _ (by omega) (by omega) (by omega) (by omega) z2 ⟨sorted_keep HHV.out.p3 (fun i hi => P2.out.2.1 i (Or.inr hi)), sorted_keep HHV.out.p4 (fun i hi => P2.out.2.1 i (Or.inr (by omega)))⟩ (agree_keep AR.out (fun i hi => P2.out.2.1 i (Or.inr hi))) S3.out).mono ?_
                    rintro e' w3 ⟨rfl, d3, hp3, hs3, hS4⟩
                    have S4 := Lib.hid hS4
                    have P3 := Lib.hid hp3
                    have Q3 := Lib.hid hs3
                    clear hS4 hp3 hs3
                    go_wp2_with fail
                    go_end0
                    exact ⟨rfl, d3, permIn_trans _ _ _ _ _ (permIn_trans _ _ _ _ _ (permIn_mono _ _ _ _ _ _ (by omega) (by omega) (by omega) D1.out) (permIn_mono _ _ _ _ _ _ (Nat.le_refl _) (by omega) (by omega) P2.out)) (permIn_mono _ _ _ _ _ _ (by omega) (Nat.le_refl _) (by omega) P3.out), Halves.join (s := s) (e := mid + m - s) HHV.out.cross (by omega) (by omega) (by omega) P2.out Q2.out P3.out Q3.out, S4.out⟩
                  · obtain ⟨d1, hp1, hr1, hS1⟩ : ∃ d1, PermIn s (mid + m - s) d d1 ∧ (∀ x, d1[x]! = rotG s m (mid + m - s) d x) ∧ SW (eZ z) w0 blk 0 d1 wr := ⟨d, permIn_refl _ _ _, rot_triv d (by omega), S1.out⟩
                    have S2 := Lib.hid hS1
                    clear hS1
                    have D1 := Lib.hid hp1
                    have HRT := Lib.hid hr1
                    have HHV := Lib.hid (Cut.halves HTT.out H2.out HCUT.out hr1)
                    have AL := Lib.hid (agree_left HA.out hr1 rfl (by omega) (by omega) (by omega) (by omega) (by omega))
                    have AR := Lib.hid (agree_right HA.out hr1 rfl (by omega) (by omega) (by omega) (by omega) (by omega))
                    have z1 : d1.size = d0.size := by rw [hp1.1, hs]
                    clear hp1 hr1
                    go_wp2_with fail
                    go_at_call 63
                    refine (IH.out a s mid d1 _ (by omega) (by omega) (by omega) (by omega) z1 ⟨HHV.out.p1, HHV.out.p2⟩ AL.out S2.out).mono ?_
                    rintro e' w2 ⟨rfl, d2, hp2, hs2, hS3⟩
                    have S3 := Lib.hid hS3
                    clear hS3
                    have P2 := Lib.hid hp2
                    have Q2 := Lib.hid hs2
                    have z2 : d2.size = d0.size := by rw [hp2.1, z1]
                    clear hp2 hs2
                    go_wp2_with fail
                    go_end0
                    exact ⟨rfl, d2, permIn_trans _ _ _ _ _ (permIn_mono _ _ _ _ _ _ (by omega) (by omega) (by omega) D1.out) (permIn_mono _ _ _ _ _ _ (Nat.le_refl _) (by omega) (by omega) P2.out), Halves.join (s := s) (e := mid + m - s) HHV.out.cross (by omega) (by omega) (by omega) P2.out Q2.out (permIn_refl _ _ _) (sorted_keep (d := d1) (right_sorted HHV.out (by omega)) (fun i hi => P2.out.2.1 i (Or.inr hi))), S3.out⟩
                · obtain ⟨d1, hp1, hr1, hS1⟩ : ∃ d1, PermIn s (mid + m - s) d d1 ∧ (∀ x, d1[x]! = rotG s m (mid + m - s) d x) ∧ SW (eZ z) w0 blk 0 d1 wr := ⟨d, permIn_refl _ _ _, rot_triv d (by omega), S1.out⟩
                  have S2 := Lib.hid hS1
                  clear hS1
                  have D1 := Lib.hid hp1
                  have HRT := Lib.hid hr1
                  have HHV := Lib.hid (Cut.halves HTT.out H2.out HCUT.out hr1)
                  have AL := Lib.hid (agree_left HA.out hr1 rfl (by omega) (by omega) (by omega) (by omega) (by omega))
                  have AR := Lib.hid (agree_right HA.out hr1 rfl (by omega) (by omega) (by omega) (by omega) (by omega))
                  have z1 : d1.size = d0.size := by rw [hp1.1, hs]
                  clear hp1 hr1
                  go_wp2_with fail
                  go_at_call 63
                  refine (IH.out a s mid d1 _ (by omega) (by omega) (by omega) (by omega) z1 ⟨HHV.out.p1, HHV.out.p2⟩ AL.out S2.out).mono ?_
                  rintro e' w2 ⟨rfl, d2, hp2, hs2, hS3⟩
                  have S3 := Lib.hid hS3
                  clear hS3
                  have P2 := Lib.hid hp2
                  have Q2 := Lib.hid hs2
                  have z2 : d2.size = d0.size := by rw [hp2.1, z1]
                  clear hp2 hs2
                  go_wp2_with fail
                  go_end0
                  exact ⟨rfl, d2, permIn_trans _ _ _ _ _ (permIn_mono _ _ _ _ _ _ (by omega) (by omega) (by omega) D1.out) (permIn_mono _ _ _ _ _ _ (Nat.le_refl _) (by omega) (by omega) P2.out), Halves.join (s := s) (e := mid + m - s) HHV.out.cross (by omega) (by omega) (by omega) P2.out Q2.out (permIn_refl _ _ _) (sorted_keep (d := d1) (right_sorted HHV.out (by omega)) (fun i hi => P2.out.2.1 i (Or.inr hi))), S3.out⟩
              · by_cases cq1 : mid < mid + m - s
                · by_cases cq2 : mid + m - s < b
                  · obtain ⟨d1, hp1, hr1, hS1⟩ : ∃ d1, PermIn s (mid + m - s) d d1 ∧ (∀ x, d1[x]! = rotG s m (mid + m - s) d x) ∧ SW (eZ z) w0 blk 0 d1 wr := ⟨d, permIn_refl _ _ _, rot_triv d (by omega), S1.out⟩
                    have S2 := Lib.hid hS1
                    clear hS1
                    have D1 := Lib.hid hp1
                    have HRT := Lib.hid hr1
                    have HHV := Lib.hid (Cut.halves HTT.out H2.out HCUT.out hr1)
                    have AL := Lib.hid (agree_left HA.out hr1 rfl (by omega) (by omega) (by omega) (by omega) (by omega))
                    have AR := Lib.hid (agree_right HA.out hr1 rfl (by omega) (by omega) (by omega) (by omega) (by omega))
                    have z1 : d1.size = d0.size := by rw [hp1.1, hs]
                    clear hp1 hr1
                    obtain ⟨d2, hp2, hs2, hS3⟩ : ∃ d2, PermIn a mid d1 d2 ∧ SortedIn T a mid d2 ∧ SW (eZ z) w0 blk 0 d2 wr := ⟨d1, permIn_refl _ _ _, left_sorted HHV.out (by omega), S2.out⟩
                    have S3 := Lib.hid hS3
                    clear hS3
                    have P2 := Lib.hid hp2
                    have Q2 := Lib.hid hs2
                    have z2 : d2.size = d0.size := by rw [hp2.1, z1]
                    clear hp2 hs2
                    go_wp2_with fail
                    go_at_call 63
                    refine (IH.out mid (mid + m - s) b d2 _ (by omega) (by omega) (by omega) (by omega) z2 ⟨sorted_keep HHV.out.p3 (fun i hi => P2.out.2.1 i (Or.inr hi)), sorted_keep HHV.out.p4 (fun i hi => P2.out.2.1 i (Or.inr (by omega)))⟩ (agree_keep AR.out (fun i hi => P2.out.2.1 i (Or.inr hi))) S3.out).mono ?_
                    rintro e' w3 ⟨rfl, d3, hp3, hs3, hS4⟩
                    have S4 := Lib.hid hS4
                    have P3 := Lib.hid hp3
                    have Q3 := Lib.hid hs3
                    clear hS4 hp3 hs3
                    go_wp2_with fail
                    go_end0
                    exact ⟨rfl, d3, permIn_trans _ _ _ _ _ (permIn_trans _ _ _ _ _ (permIn_mono _ _ _ _ _ _ (by omega) (by omega) (by omega) D1.out) (permIn_mono _ _ _ _ _ _ (Nat.le_refl _) (by omega) (by omega) P2.out)) (permIn_mono _ _ _ _ _ _ (by omega) (Nat.le_refl _) (by omega) P3.out), Halves.join (s := s) (e := mid + m - s) HHV.out.cross (by omega) (by omega) (by omega) P2.out Q2.out P3.out Q3.out, S4.out⟩
                  · obtain ⟨d1, hp1, hr1, hS1⟩ : ∃ d1, PermIn s (mid + m - s) d d1 ∧ (∀ x, d1[x]! = rotG s m (mid + m - s) d x) ∧ SW (eZ z) w0 blk 0 d1 wr := ⟨d, permIn_refl _ _ _, rot_triv d (by omega), S1.out⟩
                    have S2 := Lib.hid hS1
                    clear hS1
                    have D1 := Lib.hid hp1
                    have HRT := Lib.hid hr1
                    have HHV := Lib.hid (Cut.halves HTT.out H2.out HCUT.out hr1)
                    have AL := Lib.hid (agree_left HA.out hr1 rfl (by omega) (by omega) (by omega) (by omega) (by omega))
                    have AR := Lib.hid (agree_right HA.out hr1 rfl (by omega) (by omega) (by omega) (by omega) (by omega))
                    have z1 : d1.size = d0.size := by rw [hp1.1, hs]
                    clear hp1 hr1
                    obtain ⟨d2, hp2, hs2, hS3⟩ : ∃ d2, PermIn a mid d1 d2 ∧ SortedIn T a mid d2 ∧ SW (eZ z) w0 blk 0 d2 wr := ⟨d1, permIn_refl _ _ _, left_sorted HHV.out (by omega), S2.out⟩
                    have S3 := Lib.hid hS3
                    clear hS3
                    have P2 := Lib.hid hp2
                    have Q2 := Lib.hid hs2
                    have z2 : d2.size = d0.size := by rw [hp2.1, z1]
                    clear hp2 hs2
                    go_wp2_with fail
                    go_end0
                    exact ⟨rfl, d2, permIn_trans _ _ _ _ _ (permIn_mono _ _ _ _ _ _ (by omega) (by omega) (by omega) D1.out) (permIn_mono _ _ _ _ _ _ (Nat.le_refl _) (by omega) (by omega) P2.out), Halves.join (s := s) (e := mid + m - s) HHV.out.cross (by omega) (by omega) (by omega) P2.out Q2.out (permIn_refl _ _ _) (sorted_keep (d := d1) (right_sorted HHV.out (by omega)) (fun i hi => P2.out.2.1 i (Or.inr hi))), S3.out⟩
                · obtain ⟨d1, hp1, hr1, hS1⟩ : ∃ d1, PermIn s (mid + m - s) d d1 ∧ (∀ x, d1[x]! = rotG s m (mid + m - s) d x) ∧ SW (eZ z) w0 blk 0 d1 wr := ⟨d, permIn_refl _ _ _, rot_triv d (by omega), S1.out⟩
                  have S2 := Lib.hid hS1
                  clear hS1
                  have D1 := Lib.hid hp1
                  have HRT := Lib.hid hr1
                  have HHV := Lib.hid (Cut.halves HTT.out H2.out HCUT.out hr1)
                  have AL := Lib.hid (agree_left HA.out hr1 rfl (by omega) (by omega) (by omega) (by omega) (by omega))
                  have AR := Lib.hid (agree_right HA.out hr1 rfl (by omega) (by omega) (by omega) (by omega) (by omega))
                  have z1 : d1.size = d0.size := by rw [hp1.1, hs]
                  clear hp1 hr1
                  obtain ⟨d2, hp2, hs2, hS3⟩ : ∃ d2, PermIn a mid d1 d2 ∧ SortedIn T a mid d2 ∧ SW (eZ z) w0 blk 0 d2 wr := ⟨d1, permIn_refl _ _ _, left_sorted HHV.out (by omega), S2.out⟩
                  have S3 := Lib.hid hS3
                  clear hS3
                  have P2 := Lib.hid hp2
                  have Q2 := Lib.hid hs2
                  have z2 : d2.size = d0.size := by rw [hp2.1, z1]
                  clear hp2 hs2
                  go_wp2_with fail
                  go_end0
                  exact ⟨rfl, d2, permIn_trans _ _ _ _ _ (permIn_mono _ _ _ _ _ _ (by omega) (by omega) (by omega) D1.out) (permIn_mono _ _ _ _ _ _ (Nat.le_refl _) (by omega) (by omega) P2.out), Halves.join (s := s) (e := mid + m - s) HHV.out.cross (by omega) (by omega) (by omega) P2.out Q2.out (permIn_refl _ _ _) (sorted_keep (d := d1) (right_sorted HHV.out (by omega)) (fun i hi => P2.out.2.1 i (Or.inr hi))), S3.out⟩
            · by_cases cq1 : mid < mid + m - s
              · by_cases cq2 : mid + m - s < b
                · obtain ⟨d1, hp1, hr1, hS1⟩ : ∃ d1, PermIn s (mid + m - s) d d1 ∧ (∀ x, d1[x]! = rotG s m (mid + m - s) d x) ∧ SW (eZ z) w0 blk 0 d1 wr := ⟨d, permIn_refl _ _ _, rot_triv d (by omega), S1.out⟩
                  have S2 := Lib.hid hS1
                  clear hS1
                  have D1 := Lib.hid hp1
                  have HRT := Lib.hid hr1
                  have HHV := Lib.hid (Cut.halves HTT.out H2.out HCUT.out hr1)
                  have AL := Lib.hid (agree_left HA.out hr1 rfl (by omega) (by omega) (by omega) (by omega) (by omega))
                  have AR := Lib.hid (agree_right HA.out hr1 rfl (by omega) (by omega) (by omega) (by omega) (by omega))
                  have z1 : d1.size = d0.size := by rw [hp1.1, hs]
                  clear hp1 hr1
                  obtain ⟨d2, hp2, hs2, hS3⟩ : ∃ d2, PermIn a mid d1 d2 ∧ SortedIn T a mid d2 ∧ SW (eZ z) w0 blk 0 d2 wr := ⟨d1, permIn_refl _ _ _, left_sorted HHV.out (by omega), S2.out⟩
                  have S3 := Lib.hid hS3
                  clear hS3
                  have P2 := Lib.hid hp2
                  have Q2 := Lib.hid hs2
                  have z2 : d2.size = d0.size := by rw [hp2.1, z1]
                  clear hp2 hs2
                  go_wp2_with fail
                  go_at_call 63
                  refine (IH.out mid (mid + m - s) b d2 _ (by omega) (by omega) (by omega) (by omega) z2 ⟨sorted_keep HHV.out.p3 (fun i hi => P2.out.2.1 i (Or.inr hi)), sorted_keep HHV.out.p4 (fun i hi => P2.out.2.1 i (Or.inr (by omega)))⟩ (agree_keep AR.out (fun i hi => P2.out.2.1 i (Or.inr hi))) S3.out).mono ?_
                  rintro e' w3 ⟨rfl, d3, hp3, hs3, hS4⟩
                  have S4 := Lib.hid hS4
                  have P3 := Lib.hid hp3
                  have Q3 := Lib.hid hs3
                  clear hS4 hp3 hs3
                  go_wp2_with fail
                  go_end0
                  exact ⟨rfl, d3, permIn_trans _ _ _ _ _ (permIn_trans _ _ _ _ _ (permIn_mono _ _ _ _ _ _ (by omega) (by omega) (by omega) D1.out) (permIn_mono _ _ _ _ _ _ (Nat.le_refl _) (by omega) (by omega) P2.out)) (permIn_mono _ _ _ _ _ _ (by omega) (Nat.le_refl _) (by omega) P3.out), Halves.join (s := s) (e := mid + m - s) HHV.out.cross (by omega) (by omega) (by omega) P2.out Q2.out P3.out Q3.out, S4.out⟩
                · obtain ⟨d1, hp1, hr1, hS1⟩ : ∃ d1, PermIn s (mid + m - s) d d1 ∧ (∀ x, d1[x]! = rotG s m (mid + m - s) d x) ∧ SW (eZ z) w0 blk 0 d1 wr := ⟨d, permIn_refl _ _ _, rot_triv d (by omega), S1.out⟩
                  have S2 := Lib.hid hS1
                  clear hS1
                  have D1 := Lib.hid hp1
                  have HRT := Lib.hid hr1
                  have HHV := Lib.hid (Cut.halves HTT.out H2.out HCUT.out hr1)
                  have AL := Lib.hid (agree_left HA.out hr1 rfl (by omega) (by omega) (by omega) (by omega) (by omega))
                  have AR := Lib.hid (agree_right HA.out hr1 rfl (by omega) (by omega) (by omega) (by omega) (by omega))
                  have z1 : d1.size = d0.size := by rw [hp1.1, hs]
                  clear hp1 hr1
                  obtain ⟨d2, hp2, hs2, hS3⟩ : ∃ d2, PermIn a mid d1 d2 ∧ SortedIn T a mid d2 ∧ SW (eZ z) w0 blk 0 d2 wr := ⟨d1, permIn_refl _ _ _, left_sorted HHV.out (by omega), S2.out⟩
                  have S3 := Lib.hid hS3
                  clear hS3
                  have P2 := Lib.hid hp2
                  have Q2 := Lib.hid hs2
                  have z2 : d2.size = d0.size := by rw [hp2.1, z1]
                  clear hp2 hs2
                  go_wp2_with fail
                  go_end0
                  exact ⟨rfl, d2, permIn_trans _ _ _ _ _ (permIn_mono _ _ _ _ _ _ (by omega) (by omega) (by omega) D1.out) (permIn_mono _ _ _ _ _ _ (Nat.le_refl _) (by omega) (by omega) P2.out), Halves.join (s := s) (e := mid + m - s) HHV.out.cross (by omega) (by omega) (by omega) P2.out Q2.out (permIn_refl _ _ _) (sorted_keep (d := d1) (right_sorted HHV.out (by omega)) (fun i hi => P2.out.2.1 i (Or.inr hi))), S3.out⟩
              · obtain ⟨d1, hp1, hr1, hS1⟩ : ∃ d1, PermIn s (mid + m - s) d d1 ∧ (∀ x, d1[x]! = rotG s m (mid + m - s) d x) ∧ SW (eZ z) w0 blk 0 d1 wr := ⟨d, permIn_refl _ _ _, rot_triv d (by omega), S1.out⟩
                have S2 := Lib.hid hS1
                clear hS1
                have D1 := Lib.hid hp1
                have HRT := Lib.hid hr1
                have HHV := Lib.hid (Cut.halves HTT.out H2.out HCUT.out hr1)
                have AL := Lib.hid (agree_left HA.out hr1 rfl (by omega) (by omega) (by omega) (by omega) (by omega))
                have AR := Lib.hid (agree_right HA.out hr1 rfl (by omega) (by omega) (by omega) (by omega) (by omega))
                have z1 : d1.size = d0.size := by rw [hp1.1, hs]
                clear hp1 hr1
                obtain ⟨d2, hp2, hs2, hS3⟩ : ∃ d2, PermIn a mid d1 d2 ∧ SortedIn T a mid d2 ∧ SW (eZ z) w0 blk 0 d2 wr := ⟨d1, permIn_refl _ _ _, left_sorted HHV.out (by omega), S2.out⟩
                have S3 := Lib.hid hS3
                clear hS3
                have P2 := Lib.hid hp2
                have Q2 := Lib.hid hs2
                have z2 : d2.size = d0.size := by rw [hp2.1, z1]
                clear hp2 hs2
                go_wp2_with fail
                go_end0
                exact ⟨rfl, d2, permIn_trans _ _ _ _ _ (permIn_mono _ _ _ _ _ _ (by omega) (by omega) (by omega) D1.out) (permIn_mono _ _ _ _ _ _ (Nat.le_refl _) (by omega) (by omega) P2.out), Halves.join (s := s) (e := mid + m - s) HHV.out.cross (by omega) (by omega) (by omega) P2.out Q2.out (permIn_refl _ _ _) (sorted_keep (d := d1) (right_sorted HHV.out (by omega)) (fun i hi => P2.out.2.1 i (Or.inr hi))), S3.out⟩
        · by_cases cl1 : a < s
          · by_cases cl2 : s < mid
            · by_cases cq1 : mid < mid + m - s
              · by_cases cq2 : mid + m - s < b
                · obtain ⟨d1, hp1, hr1, hS1⟩ : ∃ d1, PermIn s (mid + m - s) d d1 ∧ (∀ x, d1[x]! = rotG s m (mid + m - s) d x) ∧ SW (eZ z) w0 blk 0 d1 wr := ⟨d, permIn_refl _ _ _, rot_triv d (by omega), S1.out⟩
                  have S2 := Lib.hid hS1
                  clear hS1
                  have D1 := Lib.hid hp1
                  have HRT := Lib.hid hr1
                  have HHV := Lib.hid (Cut.halves HTT.out H2.out HCUT.out hr1)
                  have AL := Lib.hid (agree_left HA.out hr1 rfl (by omega) (by omega) (by omega) (by omega) (by omega))
                  have AR := Lib.hid (agree_right HA.out hr1 rfl (by omega) (by omega) (by omega) (by omega) (by omega))
                  have z1 : d1.size = d0.size := by rw [hp1.1, hs]
                  clear hp1 hr1
                  go_wp2_with fail
                  go_at_call 63
                  refine (IH.out a s mid d1 _ (by omega) (by omega) (by omega) (by omega) z1 ⟨HHV.out.p1, HHV.out.p2⟩ AL.out S2.out).mono ?_
                  rintro e' w2 ⟨rfl, d2, hp2, hs2, hS3⟩
                  have S3 := Lib.hid hS3
                  clear hS3
                  have P2 := Lib.hid hp2
                  have Q2 := Lib.hid hs2
                  have z2 : d2.size = d0.size := by rw [hp2.1, z1]
                  clear hp2 hs2
                  go_wp2_with fail
                  go_at_call 63
                  refine (IH.out mid (mid + m - s) b d2 _ (by omega) (by omega) (by omega) (by omega) z2 ⟨sorted_keep HHV.out.p3 (fun i hi => P2.out.2.1 i (Or.inr hi)), sorted_keep HHV.out.p4 (fun i hi => P2.out.2.1 i (Or.inr (by omega)))⟩ (agree_keep AR.out (fun i hi => P2.out.2.1 i (Or.inr hi))) S3.out).mono ?_
                  rintro e' w3 ⟨rfl, d3, hp3, hs3, hS4⟩
                  have S4 := Lib.hid hS4
                  have P3 := Lib.hid hp3
                  have Q3 := Lib.hid hs3
                  clear hS4 hp3 hs3
                  go_wp2_with fail
                  go_end0
                  exact ⟨rfl, d3, permIn_trans _ _ _ _ _ (permIn_trans _ _ _ _ _ (permIn_mono _ _ _ _ _ _ (by omega) (by omega) (by omega) D1.out) (permIn_mono _ _ _ _ _ _ (Nat.le_refl _) (by omega) (by omega) P2.out)) (permIn_mono _ _ _ _ _ _ (by omega) (Nat.le_refl _) (by omega) P3.out), Halves.join (s := s) (e := mid + m - s) HHV.out.cross (by omega) (by omega) (by omega) P2.out Q2.out P3.out Q3.out, S4.out⟩
                · obtain ⟨d1, hp1, hr1, hS1⟩ : ∃ d1, PermIn s (mid + m - s) d d1 ∧ (∀ x, d1[x]! = rotG s m (mid + m - s) d x) ∧ SW (eZ z) w0 blk 0 d1 wr := ⟨d, permIn_refl _ _ _, rot_triv d (by omega), S1.out⟩
                  have S2 := Lib.hid hS1
                  clear hS1
                  have D1 := Lib.hid hp1
                  have HRT := Lib.hid hr1
                  have HHV := Lib.hid (Cut.halves HTT.out H2.out HCUT.out hr1)
                  have AL := Lib.hid (agree_left HA.out hr1 rfl (by omega) (by omega) (by omega) (by omega) (by omega))
                  have AR := Lib.hid (agree_right HA.out hr1 rfl (by omega) (by omega) (by omega) (by omega) (by omega))
                  have z1 : d1.size = d0.size := by rw [hp1.1, hs]
                  clear hp1 hr1
                  go_wp2_with fail
                  go_at_call 63
                  refine (IH.out a s mid d1 _ (by omega) (by omega) (by omega) (by omega) z1 ⟨HHV.out.p1, HHV.out.p2⟩ AL.out S2.out).mono ?_
                  rintro e' w2 ⟨rfl, d2, hp2, hs2, hS3⟩
                  have S3 := Lib.hid hS3
                  clear hS3
                  have P2 := Lib.hid hp2
                  have Q2 := Lib.hid hs2
                  have z2 : d2.size = d0.size := by rw [hp2.1, z1]
                  clear hp2 hs2
                  go_wp2_with fail
                  go_end0
                  exact ⟨rfl, d2, permIn_trans _ _ _ _ _ (permIn_mono _ _ _ _ _ _ (by omega) (by omega) (by omega) D1.out) (permIn_mono _ _ _ _ _ _ (Nat.le_refl _) (by omega) (by omega) P2.out), Halves.join (s := s) (e := mid + m - s) HHV.out.cross (by omega) (by omega) (by omega) P2.out Q2.out (permIn_refl _ _ _) (sorted_keep (d := d1) (right_sorted HHV.out (by omega)) (fun i hi => P2.out.2.1 i (Or.inr hi))), S3.out⟩
              · obtain ⟨d1, hp1, hr1, hS1⟩ : ∃ d1, PermIn s (mid + m - s) d d1 ∧ (∀ x, d1[x]! = rotG s m (mid + m - s) d x) ∧ SW (eZ z) w0 blk 0 d1 wr := ⟨d, permIn_refl _ _ _, rot_triv d (by omega), S1.out⟩
                have S2 := Lib.hid hS1
                clear hS1
                have D1 := Lib.hid hp1
                have HRT := Lib.hid hr1
                have HHV := Lib.hid (Cut.halves HTT.out H2.out HCUT.out hr1)
                have AL := Lib.hid (agree_left HA.out hr1 rfl (by omega) (by omega) (by omega) (by omega) (by omega))
                have AR := Lib.hid (agree_right HA.out hr1 rfl (by omega) (by omega) (by omega) (by omega) (by omega))
                have z1 : d1.size = d0.size := by rw [hp1.1, hs]
                clear hp1 hr1
                go_wp2_with fail
                go_at_call 63
                refine (IH.out a s mid d1 _ (by omega) (by omega) (by omega) (by omega) z1 ⟨HHV.out.p1, HHV.out.p2⟩ AL.out S2.out).mono ?_
                rintro e' w2 ⟨rfl, d2, hp2, hs2, hS3⟩
                have S3 := Lib.hid hS3
                clear hS3
                have P2 := Lib.hid hp2
                have Q2 := Lib.hid hs2
                have z2 : d2.size = d0.size := by rw [hp2.1, z1]
                clear hp2 hs2
                go_wp2_with fail
                go_end0
                exact ⟨rfl, d2, permIn_trans _ _ _ _ _ (permIn_mono _ _ _ _ _ _ (by omega) (by omega) (by omega) D1.out) (permIn_mono _ _ _ _ _ _ (Nat.le_refl _) (by omega) (by omega) P2.out), Halves.join (s := s) (e := mid + m - s) HHV.out.cross (by omega) (by omega) (by omega) P2.out Q2.out (permIn_refl _ _ _) (sorted_keep (d := d1) (right_sorted HHV.out (by omega)) (fun i hi => P2.out.2.1 i (Or.inr hi))), S3.out⟩
            · by_cases cq1 : mid < mid + m - s
              · by_cases cq2 : mid + m - s < b
                · obtain ⟨d1, hp1, hr1, hS1⟩ : ∃ d1, PermIn s (mid + m - s) d d1 ∧ (∀ x, d1[x]! = rotG s m (mid + m - s) d x) ∧ SW (eZ z) w0 blk 0 d1 wr := ⟨d, permIn_refl _ _ _, rot_triv d (by omega), S1.out⟩
                  have S2 := Lib.hid hS1
                  clear hS1
                  have D1 := Lib.hid hp1
                  have HRT := Lib.hid hr1
                  have HHV := Lib.hid (Cut.halves HTT.out H2.out HCUT.out hr1)
                  have AL := Lib.hid (agree_left HA.out hr1 rfl (by omega) (by omega) (by omega) (by omega) (by omega))
                  have AR := Lib.hid (agree_right HA.out hr1 rfl (by omega) (by omega) (by omega) (by omega) (by omega))
                  have z1 : d1.size = d0.size := by rw [hp1.1, hs]
                  clear hp1 hr1
                  obtain ⟨d2, hp2, hs2, hS3⟩ : ∃ d2, PermIn a mid d1 d2 ∧ SortedIn T a mid d2 ∧ SW (eZ z) w0 blk 0 d2 wr := ⟨d1, permIn_refl _ _ _, left_sorted HHV.out (by omega), S2.out⟩
                  have S3 := Lib.hid hS3
                  clear hS3
                  have P2 := Lib.hid hp2
                  have Q2 := Lib.hid hs2
                  have z2 : d2.size = d0.size := by rw [hp2.1, z1]
                  clear hp2 hs2
                  go_wp2_with fail
                  go_at_call 63
                  refine (IH.out mid (mid + m - s) b d2 _ (by omega) (by omega) (by omega) (by omega) z2 ⟨sorted_keep HHV.out.p3 (fun i hi => P2.out.2.1 i (Or.inr hi)), sorted_keep HHV.out.p4 (fun i hi => P2.out.2.1 i (Or.inr (by omega)))⟩ (agree_keep AR.out (fun i hi => P2.out.2.1 i (Or.inr hi))) S3.out).mono ?_
                  rintro e' w3 ⟨rfl, d3, hp3, hs3, hS4⟩
                  have S4 := Lib.hid hS4
                  have P3 := Lib.hid hp3
                  have Q3 := Lib.hid hs3
                  clear hS4 hp3 hs3
                  go_wp2_with fail
                  go_end0
                  exact ⟨rfl, d3, permIn_trans _ _ _ _ _ (permIn_trans _ _ _ _ _ (permIn_mono _ _ _ _ _ _ (by omega) (by omega) (by omega) D1.out) (permIn_mono _ _ _ _ _ _ (Nat.le_refl _) (by omega) (by omega) P2.out)) (permIn_mono _ _ _ _ _ _ (by omega) (Nat.le_refl _) (by omega) P3.out), Halves.join (s := s) (e := mid + m - s) HHV.out.cross (by omega) (by omega) (by omega) P2.out Q2.out P3.out Q3.out, S4.out⟩
                · obtain ⟨d1, hp1, hr1, hS1⟩ : ∃ d1, PermIn s (mid + m - s) d d1 ∧ (∀ x, d1[x]! = rotG s m (mid + m - s) d x) ∧ SW (eZ z) w0 blk 0 d1 wr := ⟨d, permIn_refl _ _ _, rot_triv d (by omega), S1.out⟩
                  have S2 := Lib.hid hS1
                  clear hS1
                  have D1 := Lib.hid hp1
                  have HRT := Lib.hid hr1
                  have HHV := Lib.hid (Cut.halves HTT.out H2.out HCUT.out hr1)
                  have AL := Lib.hid (agree_left HA.out hr1 rfl (by omega) (by omega) (by omega) (by omega) (by omega))
                  have AR := Lib.hid (agree_right HA.out hr1 rfl (by omega) (by omega) (by omega) (by omega) (by omega))
                  have z1 : d1.size = d0.size := by rw [hp1.1, hs]
                  clear hp1 hr1
                  obtain ⟨d2, hp2, hs2, hS3⟩ : ∃ d2, PermIn a mid d1 d2 ∧ SortedIn T a mid d2 ∧ SW (eZ z) w0 blk 0 d2 wr := ⟨d1, permIn_refl _ _ _, left_sorted HHV.out (by omega), S2.out⟩
                  have S3 := Lib.hid hS3
                  clear hS3
                  have P2 := Lib.hid hp2
                  have Q2 := Lib.hid hs2
                  have z2 : d2.size = d0.size := by rw [hp2.1, z1]
                  clear hp2 hs2
                  go_wp2_with fail
                  go_end0
                  exact ⟨rfl, d2, permIn_trans _ _ _ _ _ (permIn_mono _ _ _ _ _ _ (by omega) (by omega) (by omega) D1.out) (permIn_mono _ _ _ _ _ _ (Nat.le_refl _) (by omega) (by omega) P2.out), Halves.join (s := s) (e := mid + m - s) HHV.out.cross (by omega) (by omega) (by omega) P2.out Q2.out (permIn_refl _ _ _) (sorted_keep (d := d1) (right_sorted HHV.out (by omega)) (fun i hi => P2.out.2.1 i (Or.inr hi))), S3.out⟩
              · obtain ⟨d1, hp1, hr1, hS1⟩ : ∃ d1, PermIn s (mid + m - s) d d1 ∧ (∀ x, d1[x]! = rotG s m (mid + m - s) d x) ∧ SW (eZ z) w0 blk 0 d1 wr := ⟨d, permIn_refl _ _ _, rot_triv d (by omega), S1.out⟩
                have S2 := Lib.hid hS1
                clear hS1
                have D1 := Lib.hid hp1
                have HRT := Lib.hid hr1
                have HHV := Lib.hid (Cut.halves HTT.out H2.out HCUT.out hr1)
                have AL := Lib.hid (agree_left HA.out hr1 rfl (by omega) (by omega) (by omega) (by omega) (by omega))
                have AR := Lib.hid (agree_right HA.out hr1 rfl (by omega) (by omega) (by omega) (by omega) (by omega))
                have z1 : d1.size = d0.size := by rw [hp1.1, hs]
                clear hp1 hr1
                obtain ⟨d2, hp2, hs2, hS3⟩ : ∃ d2, PermIn a mid d1 d2 ∧ SortedIn T a mid d2 ∧ SW (eZ z) w0 blk 0 d2 wr := ⟨d1, permIn_refl _ _ _, left_sorted HHV.out (by omega), S2.out⟩
                have S3 := Lib.hid hS3
                clear hS3
                have P2 := Lib.hid hp2
                have Q2 := Lib.hid hs2
                have z2 : d2.size = d0.size := by rw [hp2.1, z1]
                clear hp2 hs2
                go_wp2_with fail
                go_end0
                exact ⟨rfl, d2, permIn_trans _ _ _ _ _ (permIn_mono _ _ _ _ _ _ (by omega) (by omega) (by omega) D1.out) (permIn_mono _ _ _ _ _ _ (Nat.le_refl _) (by omega) (by omega) P2.out), Halves.join (s := s) (e := mid + m - s) HHV.out.cross (by omega) (by omega) (by omega) P2.out Q2.out (permIn_refl _ _ _) (sorted_keep (d := d1) (right_sorted HHV.out (by omega)) (fun i hi => P2.out.2.1 i (Or.inr hi))), S3.out⟩
          · by_cases cq1 : mid < mid + m - s
            · by_cases cq2 : mid + m - s < b
              · obtain ⟨d1, hp1, hr1, hS1⟩ : ∃ d1, PermIn s (mid + m - s) d d1 ∧ (∀ x, d1[x]! = rotG s m (mid + m - s) d x) ∧ SW (eZ z) w0 blk 0 d1 wr := ⟨d, permIn_refl _ _ _, rot_triv d (by omega), S1.out⟩
                have S2 := Lib.hid hS1
                clear hS1
                have D1 := Lib.hid hp1
                have HRT := Lib.hid hr1
                have HHV := Lib.hid (Cut.halves HTT.out H2.out HCUT.out hr1)
                have AL := Lib.hid (agree_left HA.out hr1 rfl (by omega) (by omega) (by omega) (by omega) (by omega))
                have AR := Lib.hid (agree_right HA.out hr1 rfl (by omega) (by omega) (by omega) (by omega) (by omega))
                have z1 : d1.size = d0.size := by rw [hp1.1, hs]
                clear hp1 hr1
                obtain ⟨d2, hp2, hs2, hS3⟩ : ∃ d2, PermIn a mid d1 d2 ∧ SortedIn T a mid d2 ∧ SW (eZ z) w0 blk 0 d2 wr := ⟨d1, permIn_refl _ _ _, left_sorted HHV.out (by omega), S2.out⟩
                have S3 := Lib.hid hS3
                clear hS3
                have P2 := Lib.hid hp2
                have Q2 := Lib.hid hs2
                have z2 : d2.size = d0.size := by rw [hp2.1, z1]
                clear hp2 hs2
                go_wp2_with fail
                go_at_call 63
                refine (IH.out mid (mid + m - s) b d2 _ (by omega) (by omega) (by omega) (by omega) z2 ⟨sorted_keep HHV.out.p3 (fun i hi => P2.out.2.1 i (Or.inr hi)), sorted_keep HHV.out.p4 (fun i hi => P2.out.2.1 i (Or.inr (by omega)))⟩ (agree_keep AR.out (fun i hi => P2.out.2.1 i (Or.inr hi))) S3.out).mono ?_
                rintro e' w3 ⟨rfl, d3, hp3, hs3, hS4⟩
                have S4 := Lib.hid hS4
                have P3 := Lib.hid hp3
                have Q3 := Lib.hid hs3
                clear hS4 hp3 hs3
                go_wp2_with fail
                go_end0
                exact ⟨rfl, d3, permIn_trans _ _ _ _ _ (permIn_trans _ _ _ _ _ (permIn_mono _ _ _ _ _ _ (by omega) (by omega) (by omega) D1.out) (permIn_mono _ _ _ _ _ _ (Nat.le_refl _) (by omega) (by omega) P2.out)) (permIn_mono _ _ _ _ _ _ (by omega) (Nat.le_refl _) (by omega) P3.out), Halves.join (s := s) (e := mid + m - s) HHV.out.cross (by omega) (by omega) (by omega) P2.out Q2.out P3.out Q3.out, S4.out⟩
              · obtain ⟨d1, hp1, hr1, hS1⟩ : ∃ d1, PermIn s (mid + m - s) d d1 ∧ (∀ x, d1[x]! = rotG s m (mid + m - s) d x) ∧ SW (eZ z) w0 blk 0 d1 wr := ⟨d, permIn_refl _ _ _, rot_triv d (by omega), S1.out⟩
                have S2 := Lib.hid hS1
                clear hS1
                have D1 := Lib.hid hp1
                have HRT := Lib.hid hr1
                have HHV := Lib.hid (Cut.halves HTT.out H2.out HCUT.out hr1)
                have AL := Lib.hid (agree_left HA.out hr1 rfl (by omega) (by omega) (by omega) (by omega) (by omega))
                have AR := Lib.hid (agree_right HA.out hr1 rfl (by omega) (by omega) (by omega) (by omega) (by omega))
                have z1 : d1.size = d0.size := by rw [hp1.1, hs]
                clear hp1 hr1
                obtain ⟨d2, hp2, hs2, hS3⟩ : ∃ d2, PermIn a mid d1 d2 ∧ SortedIn T a mid d2 ∧ SW (eZ z) w0 blk 0 d2 wr := ⟨d1, permIn_refl _ _ _, left_sorted HHV.out (by omega), S2.out⟩
                have S3 := Lib.hid hS3
                clear hS3
                have P2 := Lib.hid hp2
                have Q2 := Lib.hid hs2
                have z2 : d2.size = d0.size := by rw [hp2.1, z1]
                clear hp2 hs2
                go_wp2_with fail
                go_end0
                exact ⟨rfl, d2, permIn_trans _ _ _ _ _ (permIn_mono _ _ _ _ _ _ (by omega) (by omega) (by omega) D1.out) (permIn_mono _ _ _ _ _ _ (Nat.le_refl _) (by omega) (by omega) P2.out), Halves.join (s := s) (e := mid + m - s) HHV.out.cross (by omega) (by omega) (by omega) P2.out Q2.out (permIn_refl _ _ _) (sorted_keep (d := d1) (right_sorted HHV.out (by omega)) (fun i hi => P2.out.2.1 i (Or.inr hi))), S3.out⟩
            · obtain ⟨d1, hp1, hr1, hS1⟩ : ∃ d1, PermIn s (mid + m - s) d d1 ∧ (∀ x, d1[x]! = rotG s m (mid + m - s) d x) ∧ SW (eZ z) w0 blk 0 d1 wr := ⟨d, permIn_refl _ _ _, rot_triv d (by omega), S1.out⟩
              have S2 := Lib.hid hS1
              clear hS1
              have D1 := Lib.hid hp1
              have HRT := Lib.hid hr1
              have HHV := Lib.hid (Cut.halves HTT.out H2.out HCUT.out hr1)
              have AL := Lib.hid (agree_left HA.out hr1 rfl (by omega) (by omega) (by omega) (by omega) (by omega))
              have AR := Lib.hid (agree_right HA.out hr1 rfl (by omega) (by omega) (by omega) (by omega) (by omega))
              have z1 : d1.size = d0.size := by rw [hp1.1, hs]
              clear hp1 hr1
              obtain ⟨d2, hp2, hs2, hS3⟩ : ∃ d2, PermIn a mid d1 d2 ∧ SortedIn T a mid d2 ∧ SW (eZ z) w0 blk 0 d2 wr := ⟨d1, permIn_refl _ _ _, left_sorted HHV.out (by omega), S2.out⟩
              have S3 := Lib.hid hS3
              clear hS3
              have P2 := Lib.hid hp2
              have Q2 := Lib.hid hs2
              have z2 : d2.size = d0.size := by rw [hp2.1, z1]
              clear hp2 hs2
              go_wp2_with fail
              go_end0
              exact ⟨rfl, d2, permIn_trans _ _ _ _ _ (permIn_mono _ _ _ _ _ _ (by omega) (by omega) (by omega) D1.out) (permIn_mono _ _ _ _ _ _ (Nat.le_refl _) (by omega) (by omega) P2.out), Halves.join (s := s) (e := mid + m - s) HHV.out.cross (by omega) (by omega) (by omega) P2.out Q2.out (permIn_refl _ _ _) (sorted_keep (d := d1) (right_sorted HHV.out (by omega)) (fun i hi => P2.out.2.1 i (Or.inr hi))), S3.out⟩
  · go_wp2_with fail
    go_loopw [20, 21] (fun u v wr => ∃ s r : Nat, u = .int .i64 (s : Int) ∧ v = .int .i64 (r : Int) ∧ a ≤ s ∧ s ≤ r ∧ r ≤ m ∧ Hid (s = a ∨ T d[mid + m - s]! d[s - 1]! = false) ∧ Hid (r = m ∨ T d[mid + m - r - 1]! d[r]! = true) ∧ Hid (SW (eZ z) w0 blk 0 d wr)) (fun u v _ => (intOf v).toNat - (intOf u).toNat)
    case atStart => exact ⟨a, m, by first | rfl | go_num, by first | rfl | go_num, Nat.le_refl _, by omega, Nat.le_refl _, Lib.hid (Or.inl rfl), Lib.hid (Or.inl rfl), S0⟩
    case round =>
      clear S0
      obtain ⟨s, r, rfl, rfl, hls, hsr, hrh, HL, HRR, S1⟩ := hrel
      by_cases hlt : s < r
      · obtain ⟨c, hc⟩ : ∃ c, c = (s + r) / 2 := ⟨_, rfl⟩
        have hcz : ((s : Int) + (r : Int)) / 2 = (c : Int) := by omega
        have hsc : s ≤ c := by omega
        have hcr : c < r := by omega
        clear hc
        obtain ⟨pc, hpc⟩ : ∃ p, p = mid + m - c - 1 := ⟨_, rfl⟩
        have hpz : (mid : Int) + (m : Int) - 1 - (c : Int) = (pc : Int) := by omega
        have hpb : pc < b := by omega
        have hpm : m ≤ pc := by omega
        have HAH := Lib.hid (HA.out c pc (by omega) (by omega) hpm hpb)
        have HPC := Lib.hid hpc
        clear hpc
        obtain ⟨x, hx⟩ : ∃ x, x = d[pc]! := ⟨_, rfl⟩
        obtain ⟨y, hy⟩ : ∃ y, y = d[c]! := ⟨_, rfl⟩
        have la : ∀ n os, (grow (wr.drewN n) os).cell? ⟨blk, pc, none⟩ = some (.int .i64 (z x)) := fun n os => by
          have := S1.out.cl HR.out (by omega) (pc) (by omega) n os
          rw [Nat.zero_add] at this
          rw [hx]; exact this
        have lb : ∀ n os, (grow (wr.drewN n) os).cell? ⟨blk, c, none⟩ = some (.int .i64 (z y)) := fun n os => by
          have := S1.out.cl HR.out (by omega) (c) (by omega) n os
          rw [Nat.zero_add] at this
          rw [hy]; exact this
        have hc : ∀ n os, Calls Tryd.prog fg (#[.int .i64 (z x), .int .i64 (z y)] ++ cb) (grow (wr.drewN n) os) fun e w' => e = .returned (.int .i64 (cf x y)) ∧ ∃ q os', w' = grow ((grow (wr.drewN n) os).drewN q) os' := fun n os => S1.out.cmp HC.out (by omega) x y n os
        have HXE := Lib.hid hx
        have HYE := Lib.hid hy
        clear hx hy
        cases hlv : ltOf cf x y with
        | true =>
          have hd1 : decide (cf x y < 0) = true := by unfold ltOf at hlv; simpa using hlv
          have hd2 : (!decide (cf x y < 0)) = false := by rw [hd1]; rfl
          have HTv : Hid (T d[pc]! d[c]! = true) := Lib.hid (by rw [← HAH.out, ← HXE.out, ← HYE.out]; exact hlv)
          go_wp2_with fail
          refine wp_region_quiet_grown (by kernel_rfl) (by kernel_rfl) ?_
          repeat (first | go_big_quiet_skip | go_big_quiet_step ((go_at_fn fg; refine Calls.grown_of (hc _ _))))
          refine wpQuiet_nil ?_
          intro _ hw'
          obtain ⟨⟨nq, osq⟩, hw''⟩ := hw'
          subst hw''
          have S2 : Hid (SW (eZ z) w0 blk 0 d (grow (wr.drewN nq) osq)) := Lib.hid (S1.out.grown nq osq)
          clear la lb hc S1
          generalize grow (wr.drewN nq) osq = w2 at S2 ⊢
          clear nq osq
          go_wp2_with fail
          go_roundw
          case rel => exact ⟨s, c, rfl, rfl, hls, hsc, by omega, HL, Lib.hid (Or.inr (by rw [← HPC.out]; exact HTv.out)), S2⟩
          case measure => simp [intOf]; omega
        | false =>
          have hd1 : decide (cf x y < 0) = false := by unfold ltOf at hlv; simpa using hlv
          have hd2 : (!decide (cf x y < 0)) = true := by rw [hd1]; rfl
          have HTv : Hid (T d[pc]! d[c]! = false) := Lib.hid (by rw [← HAH.out, ← HXE.out, ← HYE.out]; exact hlv)
          go_wp2_with fail
          refine wp_region_quiet_grown (by kernel_rfl) (by kernel_rfl) ?_
          repeat (first | go_big_quiet_skip | go_big_quiet_step ((go_at_fn fg; refine Calls.grown_of (hc _ _))))
          refine wpQuiet_nil ?_
          intro _ hw'
          obtain ⟨⟨nq, osq⟩, hw''⟩ := hw'
          subst hw''
          have S2 : Hid (SW (eZ z) w0 blk 0 d (grow (wr.drewN nq) osq)) := Lib.hid (S1.out.grown nq osq)
          clear la lb hc S1
          generalize grow (wr.drewN nq) osq = w2 at S2 ⊢
          clear nq osq
          go_wp2_with fail
          go_roundw
          case rel => exact ⟨c + 1, r, by first | rfl | go_num, rfl, by omega, by omega, hrh, Lib.hid (Or.inr (step_l HPC.out HTv.out)), HRR, S2⟩
          case measure => simp [intOf]; omega
      · obtain rfl : s = r := by omega
        have HCUT : Hid (Cut T a m b mid s d) := Lib.hid ⟨by omega, by omega, by omega, by omega, by omega, or3 HL.out (fun h => by omega), or3 HRR.out (fun h => by omega)⟩
        have ee : (mid : Int) + (m : Int) - (s : Int) = ((mid + m - s : Nat) : Int) := by omega
        have ham : a ≤ s := by omega
        have hsm : s ≤ m := by omega
        have hsd : s ≤ mid := by omega
        have heb : mid + m - s ≤ b := by omega
        have hme : m ≤ mid + m - s := by omega
        by_cases cr1 : s < m
        · by_cases cr2 : m < mid + m - s
          · by_cases cl1 : a < s
            · by_cases cl2 : s < mid
              · by_cases cq1 : mid < mid + m - s
                · by_cases cq2 : mid + m - s < b
                  · go_wp2_with fail
                    go_at_call 73
                    have hcall := rotate_w z (.func (.func fg) #[] cb) blk cap s m (mid + m - s) d0 d w0 wr HR.out hs.symm S1.out (by omega) (by omega) (by omega) (by omega)
                    rw [hs] at hcall
                    refine hcall.mono ?_
                    clear hcall
                    rintro e' w1 ⟨rfl, d1, hp1, hr1, hS1⟩
                    have S2 := Lib.hid hS1
                    clear hS1
                    have D1 := Lib.hid hp1
                    have HRT := Lib.hid hr1
                    have HHV := Lib.hid (Cut.halves HTT.out H2.out HCUT.out hr1)
                    have AL := Lib.hid (agree_left HA.out hr1 rfl (by omega) (by omega) (by omega) (by omega) (by omega))
                    have AR := Lib.hid (agree_right HA.out hr1 rfl (by omega) (by omega) (by omega) (by omega) (by omega))
                    have z1 : d1.size = d0.size := by rw [hp1.1, hs]
                    clear hp1 hr1
                    go_wp2_with fail
                    go_at_call 63
                    refine (IH.out a s mid d1 _ (by omega) (by omega) (by omega) (by omega) z1 ⟨HHV.out.p1, HHV.out.p2⟩ AL.out S2.out).mono ?_
                    rintro e' w2 ⟨rfl, d2, hp2, hs2, hS3⟩
                    have S3 := Lib.hid hS3
                    clear hS3
                    have P2 := Lib.hid hp2
                    have Q2 := Lib.hid hs2
                    have z2 : d2.size = d0.size := by rw [hp2.1, z1]
                    clear hp2 hs2
                    go_wp2_with fail
                    go_at_call 63
                    refine (IH.out mid (mid + m - s) b d2 _ (by omega) (by omega) (by omega) (by omega) z2 ⟨sorted_keep HHV.out.p3 (fun i hi => P2.out.2.1 i (Or.inr hi)), sorted_keep HHV.out.p4 (fun i hi => P2.out.2.1 i (Or.inr (by omega)))⟩ (agree_keep AR.out (fun i hi => P2.out.2.1 i (Or.inr hi))) S3.out).mono ?_
                    rintro e' w3 ⟨rfl, d3, hp3, hs3, hS4⟩
                    have S4 := Lib.hid hS4
                    have P3 := Lib.hid hp3
                    have Q3 := Lib.hid hs3
                    clear hS4 hp3 hs3
                    go_wp2_with fail
                    go_end0
                    exact ⟨rfl, d3, permIn_trans _ _ _ _ _ (permIn_trans _ _ _ _ _ (permIn_mono _ _ _ _ _ _ (by omega) (by omega) (by omega) D1.out) (permIn_mono _ _ _ _ _ _ (Nat.le_refl _) (by omega) (by omega) P2.out)) (permIn_mono _ _ _ _ _ _ (by omega) (Nat.le_refl _) (by omega) P3.out), Halves.join (s := s) (e := mid + m - s) HHV.out.cross (by omega) (by omega) (by omega) P2.out Q2.out P3.out Q3.out, S4.out⟩
                  · go_wp2_with fail
                    go_at_call 73
                    have hcall := rotate_w z (.func (.func fg) #[] cb) blk cap s m (mid + m - s) d0 d w0 wr HR.out hs.symm S1.out (by omega) (by omega) (by omega) (by omega)
                    rw [hs] at hcall
                    refine hcall.mono ?_
                    clear hcall
                    rintro e' w1 ⟨rfl, d1, hp1, hr1, hS1⟩
                    have S2 := Lib.hid hS1
                    clear hS1
                    have D1 := Lib.hid hp1
                    have HRT := Lib.hid hr1
                    have HHV := Lib.hid (Cut.halves HTT.out H2.out HCUT.out hr1)
                    have AL := Lib.hid (agree_left HA.out hr1 rfl (by omega) (by omega) (by omega) (by omega) (by omega))
                    have AR := Lib.hid (agree_right HA.out hr1 rfl (by omega) (by omega) (by omega) (by omega) (by omega))
                    have z1 : d1.size = d0.size := by rw [hp1.1, hs]
                    clear hp1 hr1
                    go_wp2_with fail
                    go_at_call 63
                    refine (IH.out a s mid d1 _ (by omega) (by omega) (by omega) (by omega) z1 ⟨HHV.out.p1, HHV.out.p2⟩ AL.out S2.out).mono ?_
                    rintro e' w2 ⟨rfl, d2, hp2, hs2, hS3⟩
                    have S3 := Lib.hid hS3
                    clear hS3
                    have P2 := Lib.hid hp2
                    have Q2 := Lib.hid hs2
                    have z2 : d2.size = d0.size := by rw [hp2.1, z1]
                    clear hp2 hs2
                    go_wp2_with fail
                    go_end0
                    exact ⟨rfl, d2, permIn_trans _ _ _ _ _ (permIn_mono _ _ _ _ _ _ (by omega) (by omega) (by omega) D1.out) (permIn_mono _ _ _ _ _ _ (Nat.le_refl _) (by omega) (by omega) P2.out), Halves.join (s := s) (e := mid + m - s) HHV.out.cross (by omega) (by omega) (by omega) P2.out Q2.out (permIn_refl _ _ _) (sorted_keep (d := d1) (right_sorted HHV.out (by omega)) (fun i hi => P2.out.2.1 i (Or.inr hi))), S3.out⟩
                · go_wp2_with fail
                  go_at_call 73
                  have hcall := rotate_w z (.func (.func fg) #[] cb) blk cap s m (mid + m - s) d0 d w0 wr HR.out hs.symm S1.out (by omega) (by omega) (by omega) (by omega)
                  rw [hs] at hcall
                  refine hcall.mono ?_
                  clear hcall
                  rintro e' w1 ⟨rfl, d1, hp1, hr1, hS1⟩
                  have S2 := Lib.hid hS1
                  clear hS1
                  have D1 := Lib.hid hp1
                  have HRT := Lib.hid hr1
                  have HHV := Lib.hid (Cut.halves HTT.out H2.out HCUT.out hr1)
                  have AL := Lib.hid (agree_left HA.out hr1 rfl (by omega) (by omega) (by omega) (by omega) (by omega))
                  have AR := Lib.hid (agree_right HA.out hr1 rfl (by omega) (by omega) (by omega) (by omega) (by omega))
                  have z1 : d1.size = d0.size := by rw [hp1.1, hs]
                  clear hp1 hr1
                  go_wp2_with fail
                  go_at_call 63
                  refine (IH.out a s mid d1 _ (by omega) (by omega) (by omega) (by omega) z1 ⟨HHV.out.p1, HHV.out.p2⟩ AL.out S2.out).mono ?_
                  rintro e' w2 ⟨rfl, d2, hp2, hs2, hS3⟩
                  have S3 := Lib.hid hS3
                  clear hS3
                  have P2 := Lib.hid hp2
                  have Q2 := Lib.hid hs2
                  have z2 : d2.size = d0.size := by rw [hp2.1, z1]
                  clear hp2 hs2
                  go_wp2_with fail
                  go_end0
                  exact ⟨rfl, d2, permIn_trans _ _ _ _ _ (permIn_mono _ _ _ _ _ _ (by omega) (by omega) (by omega) D1.out) (permIn_mono _ _ _ _ _ _ (Nat.le_refl _) (by omega) (by omega) P2.out), Halves.join (s := s) (e := mid + m - s) HHV.out.cross (by omega) (by omega) (by omega) P2.out Q2.out (permIn_refl _ _ _) (sorted_keep (d := d1) (right_sorted HHV.out (by omega)) (fun i hi => P2.out.2.1 i (Or.inr hi))), S3.out⟩
              · by_cases cq1 : mid < mid + m - s
                · by_cases cq2 : mid + m - s < b
                  · go_wp2_with fail
                    go_at_call 73
                    have hcall := rotate_w z (.func (.func fg) #[] cb) blk cap s m (mid + m - s) d0 d w0 wr HR.out hs.symm S1.out (by omega) (by omega) (by omega) (by omega)
                    rw [hs] at hcall
                    refine hcall.mono ?_
                    clear hcall
                    rintro e' w1 ⟨rfl, d1, hp1, hr1, hS1⟩
                    have S2 := Lib.hid hS1
                    clear hS1
                    have D1 := Lib.hid hp1
                    have HRT := Lib.hid hr1
                    have HHV := Lib.hid (Cut.halves HTT.out H2.out HCUT.out hr1)
                    have AL := Lib.hid (agree_left HA.out hr1 rfl (by omega) (by omega) (by omega) (by omega) (by omega))
                    have AR := Lib.hid (agree_right HA.out hr1 rfl (by omega) (by omega) (by omega) (by omega) (by omega))
                    have z1 : d1.size = d0.size := by rw [hp1.1, hs]
                    clear hp1 hr1
                    obtain ⟨d2, hp2, hs2, hS3⟩ : ∃ d2, PermIn a mid d1 d2 ∧ SortedIn T a mid d2 ∧ SW (eZ z) w0 blk 0 d2 w1 := ⟨d1, permIn_refl _ _ _, left_sorted HHV.out (by omega), S2.out⟩
                    have S3 := Lib.hid hS3
                    clear hS3
                    have P2 := Lib.hid hp2
                    have Q2 := Lib.hid hs2
                    have z2 : d2.size = d0.size := by rw [hp2.1, z1]
                    clear hp2 hs2
                    go_wp2_with fail
                    go_at_call 63
                    refine (IH.out mid (mid + m - s) b d2 _ (by omega) (by omega) (by omega) (by omega) z2 ⟨sorted_keep HHV.out.p3 (fun i hi => P2.out.2.1 i (Or.inr hi)), sorted_keep HHV.out.p4 (fun i hi => P2.out.2.1 i (Or.inr (by omega)))⟩ (agree_keep AR.out (fun i hi => P2.out.2.1 i (Or.inr hi))) S3.out).mono ?_
                    rintro e' w3 ⟨rfl, d3, hp3, hs3, hS4⟩
                    have S4 := Lib.hid hS4
                    have P3 := Lib.hid hp3
                    have Q3 := Lib.hid hs3
                    clear hS4 hp3 hs3
                    go_wp2_with fail
                    go_end0
                    exact ⟨rfl, d3, permIn_trans _ _ _ _ _ (permIn_trans _ _ _ _ _ (permIn_mono _ _ _ _ _ _ (by omega) (by omega) (by omega) D1.out) (permIn_mono _ _ _ _ _ _ (Nat.le_refl _) (by omega) (by omega) P2.out)) (permIn_mono _ _ _ _ _ _ (by omega) (Nat.le_refl _) (by omega) P3.out), Halves.join (s := s) (e := mid + m - s) HHV.out.cross (by omega) (by omega) (by omega) P2.out Q2.out P3.out Q3.out, S4.out⟩
                  · go_wp2_with fail
                    go_at_call 73
                    have hcall := rotate_w z (.func (.func fg) #[] cb) blk cap s m (mid + m - s) d0 d w0 wr HR.out hs.symm S1.out (by omega) (by omega) (by omega) (by omega)
                    rw [hs] at hcall
                    refine hcall.mono ?_
                    clear hcall
                    rintro e' w1 ⟨rfl, d1, hp1, hr1, hS1⟩
                    have S2 := Lib.hid hS1
                    clear hS1
                    have D1 := Lib.hid hp1
                    have HRT := Lib.hid hr1
                    have HHV := Lib.hid (Cut.halves HTT.out H2.out HCUT.out hr1)
                    have AL := Lib.hid (agree_left HA.out hr1 rfl (by omega) (by omega) (by omega) (by omega) (by omega))
                    have AR := Lib.hid (agree_right HA.out hr1 rfl (by omega) (by omega) (by omega) (by omega) (by omega))
                    have z1 : d1.size = d0.size := by rw [hp1.1, hs]
                    clear hp1 hr1
                    obtain ⟨d2, hp2, hs2, hS3⟩ : ∃ d2, PermIn a mid d1 d2 ∧ SortedIn T a mid d2 ∧ SW (eZ z) w0 blk 0 d2 w1 := ⟨d1, permIn_refl _ _ _, left_sorted HHV.out (by omega), S2.out⟩
                    have S3 := Lib.hid hS3
                    clear hS3
                    have P2 := Lib.hid hp2
                    have Q2 := Lib.hid hs2
                    have z2 : d2.size = d0.size := by rw [hp2.1, z1]
                    clear hp2 hs2
                    go_wp2_with fail
                    go_end0
                    exact ⟨rfl, d2, permIn_trans _ _ _ _ _ (permIn_mono _ _ _ _ _ _ (by omega) (by omega) (by omega) D1.out) (permIn_mono _ _ _ _ _ _ (Nat.le_refl _) (by omega) (by omega) P2.out), Halves.join (s := s) (e := mid + m - s) HHV.out.cross (by omega) (by omega) (by omega) P2.out Q2.out (permIn_refl _ _ _) (sorted_keep (d := d1) (right_sorted HHV.out (by omega)) (fun i hi => P2.out.2.1 i (Or.inr hi))), S3.out⟩
                · go_wp2_with fail
                  go_at_call 73
                  have hcall := rotate_w z (.func (.func fg) #[] cb) blk cap s m (mid + m - s) d0 d w0 wr HR.out hs.symm S1.out (by omega) (by omega) (by omega) (by omega)
                  rw [hs] at hcall
                  refine hcall.mono ?_
                  clear hcall
                  rintro e' w1 ⟨rfl, d1, hp1, hr1, hS1⟩
                  have S2 := Lib.hid hS1
                  clear hS1
                  have D1 := Lib.hid hp1
                  have HRT := Lib.hid hr1
                  have HHV := Lib.hid (Cut.halves HTT.out H2.out HCUT.out hr1)
                  have AL := Lib.hid (agree_left HA.out hr1 rfl (by omega) (by omega) (by omega) (by omega) (by omega))
                  have AR := Lib.hid (agree_right HA.out hr1 rfl (by omega) (by omega) (by omega) (by omega) (by omega))
                  have z1 : d1.size = d0.size := by rw [hp1.1, hs]
                  clear hp1 hr1
                  obtain ⟨d2, hp2, hs2, hS3⟩ : ∃ d2, PermIn a mid d1 d2 ∧ SortedIn T a mid d2 ∧ SW (eZ z) w0 blk 0 d2 w1 := ⟨d1, permIn_refl _ _ _, left_sorted HHV.out (by omega), S2.out⟩
                  have S3 := Lib.hid hS3
                  clear hS3
                  have P2 := Lib.hid hp2
                  have Q2 := Lib.hid hs2
                  have z2 : d2.size = d0.size := by rw [hp2.1, z1]
                  clear hp2 hs2
                  go_wp2_with fail
                  go_end0
                  exact ⟨rfl, d2, permIn_trans _ _ _ _ _ (permIn_mono _ _ _ _ _ _ (by omega) (by omega) (by omega) D1.out) (permIn_mono _ _ _ _ _ _ (Nat.le_refl _) (by omega) (by omega) P2.out), Halves.join (s := s) (e := mid + m - s) HHV.out.cross (by omega) (by omega) (by omega) P2.out Q2.out (permIn_refl _ _ _) (sorted_keep (d := d1) (right_sorted HHV.out (by omega)) (fun i hi => P2.out.2.1 i (Or.inr hi))), S3.out⟩
            · by_cases cq1 : mid < mid + m - s
              · by_cases cq2 : mid + m - s < b
                · go_wp2_with fail
                  go_at_call 73
                  have hcall := rotate_w z (.func (.func fg) #[] cb) blk cap s m (mid + m - s) d0 d w0 wr HR.out hs.symm S1.out (by omega) (by omega) (by omega) (by omega)
                  rw [hs] at hcall
                  refine hcall.mono ?_
                  clear hcall
                  rintro e' w1 ⟨rfl, d1, hp1, hr1, hS1⟩
                  have S2 := Lib.hid hS1
                  clear hS1
                  have D1 := Lib.hid hp1
                  have HRT := Lib.hid hr1
                  have HHV := Lib.hid (Cut.halves HTT.out H2.out HCUT.out hr1)
                  have AL := Lib.hid (agree_left HA.out hr1 rfl (by omega) (by omega) (by omega) (by omega) (by omega))
                  have AR := Lib.hid (agree_right HA.out hr1 rfl (by omega) (by omega) (by omega) (by omega) (by omega))
                  have z1 : d1.size = d0.size := by rw [hp1.1, hs]
                  clear hp1 hr1
                  obtain ⟨d2, hp2, hs2, hS3⟩ : ∃ d2, PermIn a mid d1 d2 ∧ SortedIn T a mid d2 ∧ SW (eZ z) w0 blk 0 d2 w1 := ⟨d1, permIn_refl _ _ _, left_sorted HHV.out (by omega), S2.out⟩
                  have S3 := Lib.hid hS3
                  clear hS3
                  have P2 := Lib.hid hp2
                  have Q2 := Lib.hid hs2
                  have z2 : d2.size = d0.size := by rw [hp2.1, z1]
                  clear hp2 hs2
                  go_wp2_with fail
                  go_at_call 63
                  refine (IH.out mid (mid + m - s) b d2 _ (by omega) (by omega) (by omega) (by omega) z2 ⟨sorted_keep HHV.out.p3 (fun i hi => P2.out.2.1 i (Or.inr hi)), sorted_keep HHV.out.p4 (fun i hi => P2.out.2.1 i (Or.inr (by omega)))⟩ (agree_keep AR.out (fun i hi => P2.out.2.1 i (Or.inr hi))) S3.out).mono ?_
                  rintro e' w3 ⟨rfl, d3, hp3, hs3, hS4⟩
                  have S4 := Lib.hid hS4
                  have P3 := Lib.hid hp3
                  have Q3 := Lib.hid hs3
                  clear hS4 hp3 hs3
                  go_wp2_with fail
                  go_end0
                  exact ⟨rfl, d3, permIn_trans _ _ _ _ _ (permIn_trans _ _ _ _ _ (permIn_mono _ _ _ _ _ _ (by omega) (by omega) (by omega) D1.out) (permIn_mono _ _ _ _ _ _ (Nat.le_refl _) (by omega) (by omega) P2.out)) (permIn_mono _ _ _ _ _ _ (by omega) (Nat.le_refl _) (by omega) P3.out), Halves.join (s := s) (e := mid + m - s) HHV.out.cross (by omega) (by omega) (by omega) P2.out Q2.out P3.out Q3.out, S4.out⟩
                · go_wp2_with fail
                  go_at_call 73
                  have hcall := rotate_w z (.func (.func fg) #[] cb) blk cap s m (mid + m - s) d0 d w0 wr HR.out hs.symm S1.out (by omega) (by omega) (by omega) (by omega)
                  rw [hs] at hcall
                  refine hcall.mono ?_
                  clear hcall
                  rintro e' w1 ⟨rfl, d1, hp1, hr1, hS1⟩
                  have S2 := Lib.hid hS1
                  clear hS1
                  have D1 := Lib.hid hp1
                  have HRT := Lib.hid hr1
                  have HHV := Lib.hid (Cut.halves HTT.out H2.out HCUT.out hr1)
                  have AL := Lib.hid (agree_left HA.out hr1 rfl (by omega) (by omega) (by omega) (by omega) (by omega))
                  have AR := Lib.hid (agree_right HA.out hr1 rfl (by omega) (by omega) (by omega) (by omega) (by omega))
                  have z1 : d1.size = d0.size := by rw [hp1.1, hs]
                  clear hp1 hr1
                  obtain ⟨d2, hp2, hs2, hS3⟩ : ∃ d2, PermIn a mid d1 d2 ∧ SortedIn T a mid d2 ∧ SW (eZ z) w0 blk 0 d2 w1 := ⟨d1, permIn_refl _ _ _, left_sorted HHV.out (by omega), S2.out⟩
                  have S3 := Lib.hid hS3
                  clear hS3
                  have P2 := Lib.hid hp2
                  have Q2 := Lib.hid hs2
                  have z2 : d2.size = d0.size := by rw [hp2.1, z1]
                  clear hp2 hs2
                  go_wp2_with fail
                  go_end0
                  exact ⟨rfl, d2, permIn_trans _ _ _ _ _ (permIn_mono _ _ _ _ _ _ (by omega) (by omega) (by omega) D1.out) (permIn_mono _ _ _ _ _ _ (Nat.le_refl _) (by omega) (by omega) P2.out), Halves.join (s := s) (e := mid + m - s) HHV.out.cross (by omega) (by omega) (by omega) P2.out Q2.out (permIn_refl _ _ _) (sorted_keep (d := d1) (right_sorted HHV.out (by omega)) (fun i hi => P2.out.2.1 i (Or.inr hi))), S3.out⟩
              · go_wp2_with fail
                go_at_call 73
                have hcall := rotate_w z (.func (.func fg) #[] cb) blk cap s m (mid + m - s) d0 d w0 wr HR.out hs.symm S1.out (by omega) (by omega) (by omega) (by omega)
                rw [hs] at hcall
                refine hcall.mono ?_
                clear hcall
                rintro e' w1 ⟨rfl, d1, hp1, hr1, hS1⟩
                have S2 := Lib.hid hS1
                clear hS1
                have D1 := Lib.hid hp1
                have HRT := Lib.hid hr1
                have HHV := Lib.hid (Cut.halves HTT.out H2.out HCUT.out hr1)
                have AL := Lib.hid (agree_left HA.out hr1 rfl (by omega) (by omega) (by omega) (by omega) (by omega))
                have AR := Lib.hid (agree_right HA.out hr1 rfl (by omega) (by omega) (by omega) (by omega) (by omega))
                have z1 : d1.size = d0.size := by rw [hp1.1, hs]
                clear hp1 hr1
                obtain ⟨d2, hp2, hs2, hS3⟩ : ∃ d2, PermIn a mid d1 d2 ∧ SortedIn T a mid d2 ∧ SW (eZ z) w0 blk 0 d2 w1 := ⟨d1, permIn_refl _ _ _, left_sorted HHV.out (by omega), S2.out⟩
                have S3 := Lib.hid hS3
                clear hS3
                have P2 := Lib.hid hp2
                have Q2 := Lib.hid hs2
                have z2 : d2.size = d0.size := by rw [hp2.1, z1]
                clear hp2 hs2
                go_wp2_with fail
                go_end0
                exact ⟨rfl, d2, permIn_trans _ _ _ _ _ (permIn_mono _ _ _ _ _ _ (by omega) (by omega) (by omega) D1.out) (permIn_mono _ _ _ _ _ _ (Nat.le_refl _) (by omega) (by omega) P2.out), Halves.join (s := s) (e := mid + m - s) HHV.out.cross (by omega) (by omega) (by omega) P2.out Q2.out (permIn_refl _ _ _) (sorted_keep (d := d1) (right_sorted HHV.out (by omega)) (fun i hi => P2.out.2.1 i (Or.inr hi))), S3.out⟩
          · by_cases cl1 : a < s
            · by_cases cl2 : s < mid
              · by_cases cq1 : mid < mid + m - s
                · by_cases cq2 : mid + m - s < b
                  · obtain ⟨d1, hp1, hr1, hS1⟩ : ∃ d1, PermIn s (mid + m - s) d d1 ∧ (∀ x, d1[x]! = rotG s m (mid + m - s) d x) ∧ SW (eZ z) w0 blk 0 d1 wr := ⟨d, permIn_refl _ _ _, rot_triv d (by omega), S1.out⟩
                    have S2 := Lib.hid hS1
                    clear hS1
                    have D1 := Lib.hid hp1
                    have HRT := Lib.hid hr1
                    have HHV := Lib.hid (Cut.halves HTT.out H2.out HCUT.out hr1)
                    have AL := Lib.hid (agree_left HA.out hr1 rfl (by omega) (by omega) (by omega) (by omega) (by omega))
                    have AR := Lib.hid (agree_right HA.out hr1 rfl (by omega) (by omega) (by omega) (by omega) (by omega))
                    have z1 : d1.size = d0.size := by rw [hp1.1, hs]
                    clear hp1 hr1
                    go_wp2_with fail
                    go_at_call 63
                    refine (IH.out a s mid d1 _ (by omega) (by omega) (by omega) (by omega) z1 ⟨HHV.out.p1, HHV.out.p2⟩ AL.out S2.out).mono ?_
                    rintro e' w2 ⟨rfl, d2, hp2, hs2, hS3⟩
                    have S3 := Lib.hid hS3
                    clear hS3
                    have P2 := Lib.hid hp2
                    have Q2 := Lib.hid hs2
                    have z2 : d2.size = d0.size := by rw [hp2.1, z1]
                    clear hp2 hs2
                    go_wp2_with fail
                    go_at_call 63
                    refine (IH.out mid (mid + m - s) b d2 _ (by omega) (by omega) (by omega) (by omega) z2 ⟨sorted_keep HHV.out.p3 (fun i hi => P2.out.2.1 i (Or.inr hi)), sorted_keep HHV.out.p4 (fun i hi => P2.out.2.1 i (Or.inr (by omega)))⟩ (agree_keep AR.out (fun i hi => P2.out.2.1 i (Or.inr hi))) S3.out).mono ?_
                    rintro e' w3 ⟨rfl, d3, hp3, hs3, hS4⟩
                    have S4 := Lib.hid hS4
                    have P3 := Lib.hid hp3
                    have Q3 := Lib.hid hs3
                    clear hS4 hp3 hs3
                    go_wp2_with fail
                    go_end0
                    exact ⟨rfl, d3, permIn_trans _ _ _ _ _ (permIn_trans _ _ _ _ _ (permIn_mono _ _ _ _ _ _ (by omega) (by omega) (by omega) D1.out) (permIn_mono _ _ _ _ _ _ (Nat.le_refl _) (by omega) (by omega) P2.out)) (permIn_mono _ _ _ _ _ _ (by omega) (Nat.le_refl _) (by omega) P3.out), Halves.join (s := s) (e := mid + m - s) HHV.out.cross (by omega) (by omega) (by omega) P2.out Q2.out P3.out Q3.out, S4.out⟩
                  · obtain ⟨d1, hp1, hr1, hS1⟩ : ∃ d1, PermIn s (mid + m - s) d d1 ∧ (∀ x, d1[x]! = rotG s m (mid + m - s) d x) ∧ SW (eZ z) w0 blk 0 d1 wr := ⟨d, permIn_refl _ _ _, rot_triv d (by omega), S1.out⟩
                    have S2 := Lib.hid hS1
                    clear hS1
                    have D1 := Lib.hid hp1
                    have HRT := Lib.hid hr1
                    have HHV := Lib.hid (Cut.halves HTT.out H2.out HCUT.out hr1)
                    have AL := Lib.hid (agree_left HA.out hr1 rfl (by omega) (by omega) (by omega) (by omega) (by omega))
                    have AR := Lib.hid (agree_right HA.out hr1 rfl (by omega) (by omega) (by omega) (by omega) (by omega))
                    have z1 : d1.size = d0.size := by rw [hp1.1, hs]
                    clear hp1 hr1
                    go_wp2_with fail
                    go_at_call 63
                    refine (IH.out a s mid d1 _ (by omega) (by omega) (by omega) (by omega) z1 ⟨HHV.out.p1, HHV.out.p2⟩ AL.out S2.out).mono ?_
                    rintro e' w2 ⟨rfl, d2, hp2, hs2, hS3⟩
                    have S3 := Lib.hid hS3
                    clear hS3
                    have P2 := Lib.hid hp2
                    have Q2 := Lib.hid hs2
                    have z2 : d2.size = d0.size := by rw [hp2.1, z1]
                    clear hp2 hs2
                    go_wp2_with fail
                    go_end0
                    exact ⟨rfl, d2, permIn_trans _ _ _ _ _ (permIn_mono _ _ _ _ _ _ (by omega) (by omega) (by omega) D1.out) (permIn_mono _ _ _ _ _ _ (Nat.le_refl _) (by omega) (by omega) P2.out), Halves.join (s := s) (e := mid + m - s) HHV.out.cross (by omega) (by omega) (by omega) P2.out Q2.out (permIn_refl _ _ _) (sorted_keep (d := d1) (right_sorted HHV.out (by omega)) (fun i hi => P2.out.2.1 i (Or.inr hi))), S3.out⟩
                · obtain ⟨d1, hp1, hr1, hS1⟩ : ∃ d1, PermIn s (mid + m - s) d d1 ∧ (∀ x, d1[x]! = rotG s m (mid + m - s) d x) ∧ SW (eZ z) w0 blk 0 d1 wr := ⟨d, permIn_refl _ _ _, rot_triv d (by omega), S1.out⟩
                  have S2 := Lib.hid hS1
                  clear hS1
                  have D1 := Lib.hid hp1
                  have HRT := Lib.hid hr1
                  have HHV := Lib.hid (Cut.halves HTT.out H2.out HCUT.out hr1)
                  have AL := Lib.hid (agree_left HA.out hr1 rfl (by omega) (by omega) (by omega) (by omega) (by omega))
                  have AR := Lib.hid (agree_right HA.out hr1 rfl (by omega) (by omega) (by omega) (by omega) (by omega))
                  have z1 : d1.size = d0.size := by rw [hp1.1, hs]
                  clear hp1 hr1
                  go_wp2_with fail
                  go_at_call 63
                  refine (IH.out a s mid d1 _ (by omega) (by omega) (by omega) (by omega) z1 ⟨HHV.out.p1, HHV.out.p2⟩ AL.out S2.out).mono ?_
                  rintro e' w2 ⟨rfl, d2, hp2, hs2, hS3⟩
                  have S3 := Lib.hid hS3
                  clear hS3
                  have P2 := Lib.hid hp2
                  have Q2 := Lib.hid hs2
                  have z2 : d2.size = d0.size := by rw [hp2.1, z1]
                  clear hp2 hs2
                  go_wp2_with fail
                  go_end0
                  exact ⟨rfl, d2, permIn_trans _ _ _ _ _ (permIn_mono _ _ _ _ _ _ (by omega) (by omega) (by omega) D1.out) (permIn_mono _ _ _ _ _ _ (Nat.le_refl _) (by omega) (by omega) P2.out), Halves.join (s := s) (e := mid + m - s) HHV.out.cross (by omega) (by omega) (by omega) P2.out Q2.out (permIn_refl _ _ _) (sorted_keep (d := d1) (right_sorted HHV.out (by omega)) (fun i hi => P2.out.2.1 i (Or.inr hi))), S3.out⟩
              · by_cases cq1 : mid < mid + m - s
                · by_cases cq2 : mid + m - s < b
                  · obtain ⟨d1, hp1, hr1, hS1⟩ : ∃ d1, PermIn s (mid + m - s) d d1 ∧ (∀ x, d1[x]! = rotG s m (mid + m - s) d x) ∧ SW (eZ z) w0 blk 0 d1 wr := ⟨d, permIn_refl _ _ _, rot_triv d (by omega), S1.out⟩
                    have S2 := Lib.hid hS1
                    clear hS1
                    have D1 := Lib.hid hp1
                    have HRT := Lib.hid hr1
                    have HHV := Lib.hid (Cut.halves HTT.out H2.out HCUT.out hr1)
                    have AL := Lib.hid (agree_left HA.out hr1 rfl (by omega) (by omega) (by omega) (by omega) (by omega))
                    have AR := Lib.hid (agree_right HA.out hr1 rfl (by omega) (by omega) (by omega) (by omega) (by omega))
                    have z1 : d1.size = d0.size := by rw [hp1.1, hs]
                    clear hp1 hr1
                    obtain ⟨d2, hp2, hs2, hS3⟩ : ∃ d2, PermIn a mid d1 d2 ∧ SortedIn T a mid d2 ∧ SW (eZ z) w0 blk 0 d2 wr := ⟨d1, permIn_refl _ _ _, left_sorted HHV.out (by omega), S2.out⟩
                    have S3 := Lib.hid hS3
                    clear hS3
                    have P2 := Lib.hid hp2
                    have Q2 := Lib.hid hs2
                    have z2 : d2.size = d0.size := by rw [hp2.1, z1]
                    clear hp2 hs2
                    go_wp2_with fail
                    go_at_call 63
                    refine (IH.out mid (mid + m - s) b d2 _ (by omega) (by omega) (by omega) (by omega) z2 ⟨sorted_keep HHV.out.p3 (fun i hi => P2.out.2.1 i (Or.inr hi)), sorted_keep HHV.out.p4 (fun i hi => P2.out.2.1 i (Or.inr (by omega)))⟩ (agree_keep AR.out (fun i hi => P2.out.2.1 i (Or.inr hi))) S3.out).mono ?_
                    rintro e' w3 ⟨rfl, d3, hp3, hs3, hS4⟩
                    have S4 := Lib.hid hS4
                    have P3 := Lib.hid hp3
                    have Q3 := Lib.hid hs3
                    clear hS4 hp3 hs3
                    go_wp2_with fail
                    go_end0
                    exact ⟨rfl, d3, permIn_trans _ _ _ _ _ (permIn_trans _ _ _ _ _ (permIn_mono _ _ _ _ _ _ (by omega) (by omega) (by omega) D1.out) (permIn_mono _ _ _ _ _ _ (Nat.le_refl _) (by omega) (by omega) P2.out)) (permIn_mono _ _ _ _ _ _ (by omega) (Nat.le_refl _) (by omega) P3.out), Halves.join (s := s) (e := mid + m - s) HHV.out.cross (by omega) (by omega) (by omega) P2.out Q2.out P3.out Q3.out, S4.out⟩
                  · obtain ⟨d1, hp1, hr1, hS1⟩ : ∃ d1, PermIn s (mid + m - s) d d1 ∧ (∀ x, d1[x]! = rotG s m (mid + m - s) d x) ∧ SW (eZ z) w0 blk 0 d1 wr := ⟨d, permIn_refl _ _ _, rot_triv d (by omega), S1.out⟩
                    have S2 := Lib.hid hS1
                    clear hS1
                    have D1 := Lib.hid hp1
                    have HRT := Lib.hid hr1
                    have HHV := Lib.hid (Cut.halves HTT.out H2.out HCUT.out hr1)
                    have AL := Lib.hid (agree_left HA.out hr1 rfl (by omega) (by omega) (by omega) (by omega) (by omega))
                    have AR := Lib.hid (agree_right HA.out hr1 rfl (by omega) (by omega) (by omega) (by omega) (by omega))
                    have z1 : d1.size = d0.size := by rw [hp1.1, hs]
                    clear hp1 hr1
                    obtain ⟨d2, hp2, hs2, hS3⟩ : ∃ d2, PermIn a mid d1 d2 ∧ SortedIn T a mid d2 ∧ SW (eZ z) w0 blk 0 d2 wr := ⟨d1, permIn_refl _ _ _, left_sorted HHV.out (by omega), S2.out⟩
                    have S3 := Lib.hid hS3
                    clear hS3
                    have P2 := Lib.hid hp2
                    have Q2 := Lib.hid hs2
                    have z2 : d2.size = d0.size := by rw [hp2.1, z1]
                    clear hp2 hs2
                    go_wp2_with fail
                    go_end0
                    exact ⟨rfl, d2, permIn_trans _ _ _ _ _ (permIn_mono _ _ _ _ _ _ (by omega) (by omega) (by omega) D1.out) (permIn_mono _ _ _ _ _ _ (Nat.le_refl _) (by omega) (by omega) P2.out), Halves.join (s := s) (e := mid + m - s) HHV.out.cross (by omega) (by omega) (by omega) P2.out Q2.out (permIn_refl _ _ _) (sorted_keep (d := d1) (right_sorted HHV.out (by omega)) (fun i hi => P2.out.2.1 i (Or.inr hi))), S3.out⟩
                · obtain ⟨d1, hp1, hr1, hS1⟩ : ∃ d1, PermIn s (mid + m - s) d d1 ∧ (∀ x, d1[x]! = rotG s m (mid + m - s) d x) ∧ SW (eZ z) w0 blk 0 d1 wr := ⟨d, permIn_refl _ _ _, rot_triv d (by omega), S1.out⟩
                  have S2 := Lib.hid hS1
                  clear hS1
                  have D1 := Lib.hid hp1
                  have HRT := Lib.hid hr1
                  have HHV := Lib.hid (Cut.halves HTT.out H2.out HCUT.out hr1)
                  have AL := Lib.hid (agree_left HA.out hr1 rfl (by omega) (by omega) (by omega) (by omega) (by omega))
                  have AR := Lib.hid (agree_right HA.out hr1 rfl (by omega) (by omega) (by omega) (by omega) (by omega))
                  have z1 : d1.size = d0.size := by rw [hp1.1, hs]
                  clear hp1 hr1
                  obtain ⟨d2, hp2, hs2, hS3⟩ : ∃ d2, PermIn a mid d1 d2 ∧ SortedIn T a mid d2 ∧ SW (eZ z) w0 blk 0 d2 wr := ⟨d1, permIn_refl _ _ _, left_sorted HHV.out (by omega), S2.out⟩
                  have S3 := Lib.hid hS3
                  clear hS3
                  have P2 := Lib.hid hp2
                  have Q2 := Lib.hid hs2
                  have z2 : d2.size = d0.size := by rw [hp2.1, z1]
                  clear hp2 hs2
                  go_wp2_with fail
                  go_end0
                  exact ⟨rfl, d2, permIn_trans _ _ _ _ _ (permIn_mono _ _ _ _ _ _ (by omega) (by omega) (by omega) D1.out) (permIn_mono _ _ _ _ _ _ (Nat.le_refl _) (by omega) (by omega) P2.out), Halves.join (s := s) (e := mid + m - s) HHV.out.cross (by omega) (by omega) (by omega) P2.out Q2.out (permIn_refl _ _ _) (sorted_keep (d := d1) (right_sorted HHV.out (by omega)) (fun i hi => P2.out.2.1 i (Or.inr hi))), S3.out⟩
            · by_cases cq1 : mid < mid + m - s
              · by_cases cq2 : mid + m - s < b
                · obtain ⟨d1, hp1, hr1, hS1⟩ : ∃ d1, PermIn s (mid + m - s) d d1 ∧ (∀ x, d1[x]! = rotG s m (mid + m - s) d x) ∧ SW (eZ z) w0 blk 0 d1 wr := ⟨d, permIn_refl _ _ _, rot_triv d (by omega), S1.out⟩
                  have S2 := Lib.hid hS1
                  clear hS1
                  have D1 := Lib.hid hp1
                  have HRT := Lib.hid hr1
                  have HHV := Lib.hid (Cut.halves HTT.out H2.out HCUT.out hr1)
                  have AL := Lib.hid (agree_left HA.out hr1 rfl (by omega) (by omega) (by omega) (by omega) (by omega))
                  have AR := Lib.hid (agree_right HA.out hr1 rfl (by omega) (by omega) (by omega) (by omega) (by omega))
                  have z1 : d1.size = d0.size := by rw [hp1.1, hs]
                  clear hp1 hr1
                  obtain ⟨d2, hp2, hs2, hS3⟩ : ∃ d2, PermIn a mid d1 d2 ∧ SortedIn T a mid d2 ∧ SW (eZ z) w0 blk 0 d2 wr := ⟨d1, permIn_refl _ _ _, left_sorted HHV.out (by omega), S2.out⟩
                  have S3 := Lib.hid hS3
                  clear hS3
                  have P2 := Lib.hid hp2
                  have Q2 := Lib.hid hs2
                  have z2 : d2.size = d0.size := by rw [hp2.1, z1]
                  clear hp2 hs2
                  go_wp2_with fail
                  go_at_call 63
                  refine (IH.out mid (mid + m - s) b d2 _ (by omega) (by omega) (by omega) (by omega) z2 ⟨sorted_keep HHV.out.p3 (fun i hi => P2.out.2.1 i (Or.inr hi)), sorted_keep HHV.out.p4 (fun i hi => P2.out.2.1 i (Or.inr (by omega)))⟩ (agree_keep AR.out (fun i hi => P2.out.2.1 i (Or.inr hi))) S3.out).mono ?_
                  rintro e' w3 ⟨rfl, d3, hp3, hs3, hS4⟩
                  have S4 := Lib.hid hS4
                  have P3 := Lib.hid hp3
                  have Q3 := Lib.hid hs3
                  clear hS4 hp3 hs3
                  go_wp2_with fail
                  go_end0
                  exact ⟨rfl, d3, permIn_trans _ _ _ _ _ (permIn_trans _ _ _ _ _ (permIn_mono _ _ _ _ _ _ (by omega) (by omega) (by omega) D1.out) (permIn_mono _ _ _ _ _ _ (Nat.le_refl _) (by omega) (by omega) P2.out)) (permIn_mono _ _ _ _ _ _ (by omega) (Nat.le_refl _) (by omega) P3.out), Halves.join (s := s) (e := mid + m - s) HHV.out.cross (by omega) (by omega) (by omega) P2.out Q2.out P3.out Q3.out, S4.out⟩
                · obtain ⟨d1, hp1, hr1, hS1⟩ : ∃ d1, PermIn s (mid + m - s) d d1 ∧ (∀ x, d1[x]! = rotG s m (mid + m - s) d x) ∧ SW (eZ z) w0 blk 0 d1 wr := ⟨d, permIn_refl _ _ _, rot_triv d (by omega), S1.out⟩
                  have S2 := Lib.hid hS1
                  clear hS1
                  have D1 := Lib.hid hp1
                  have HRT := Lib.hid hr1
                  have HHV := Lib.hid (Cut.halves HTT.out H2.out HCUT.out hr1)
                  have AL := Lib.hid (agree_left HA.out hr1 rfl (by omega) (by omega) (by omega) (by omega) (by omega))
                  have AR := Lib.hid (agree_right HA.out hr1 rfl (by omega) (by omega) (by omega) (by omega) (by omega))
                  have z1 : d1.size = d0.size := by rw [hp1.1, hs]
                  clear hp1 hr1
                  obtain ⟨d2, hp2, hs2, hS3⟩ : ∃ d2, PermIn a mid d1 d2 ∧ SortedIn T a mid d2 ∧ SW (eZ z) w0 blk 0 d2 wr := ⟨d1, permIn_refl _ _ _, left_sorted HHV.out (by omega), S2.out⟩
                  have S3 := Lib.hid hS3
                  clear hS3
                  have P2 := Lib.hid hp2
                  have Q2 := Lib.hid hs2
                  have z2 : d2.size = d0.size := by rw [hp2.1, z1]
                  clear hp2 hs2
                  go_wp2_with fail
                  go_end0
                  exact ⟨rfl, d2, permIn_trans _ _ _ _ _ (permIn_mono _ _ _ _ _ _ (by omega) (by omega) (by omega) D1.out) (permIn_mono _ _ _ _ _ _ (Nat.le_refl _) (by omega) (by omega) P2.out), Halves.join (s := s) (e := mid + m - s) HHV.out.cross (by omega) (by omega) (by omega) P2.out Q2.out (permIn_refl _ _ _) (sorted_keep (d := d1) (right_sorted HHV.out (by omega)) (fun i hi => P2.out.2.1 i (Or.inr hi))), S3.out⟩
              · obtain ⟨d1, hp1, hr1, hS1⟩ : ∃ d1, PermIn s (mid + m - s) d d1 ∧ (∀ x, d1[x]! = rotG s m (mid + m - s) d x) ∧ SW (eZ z) w0 blk 0 d1 wr := ⟨d, permIn_refl _ _ _, rot_triv d (by omega), S1.out⟩
                have S2 := Lib.hid hS1
                clear hS1
                have D1 := Lib.hid hp1
                have HRT := Lib.hid hr1
                have HHV := Lib.hid (Cut.halves HTT.out H2.out HCUT.out hr1)
                have AL := Lib.hid (agree_left HA.out hr1 rfl (by omega) (by omega) (by omega) (by omega) (by omega))
                have AR := Lib.hid (agree_right HA.out hr1 rfl (by omega) (by omega) (by omega) (by omega) (by omega))
                have z1 : d1.size = d0.size := by rw [hp1.1, hs]
                clear hp1 hr1
                obtain ⟨d2, hp2, hs2, hS3⟩ : ∃ d2, PermIn a mid d1 d2 ∧ SortedIn T a mid d2 ∧ SW (eZ z) w0 blk 0 d2 wr := ⟨d1, permIn_refl _ _ _, left_sorted HHV.out (by omega), S2.out⟩
                have S3 := Lib.hid hS3
                clear hS3
                have P2 := Lib.hid hp2
                have Q2 := Lib.hid hs2
                have z2 : d2.size = d0.size := by rw [hp2.1, z1]
                clear hp2 hs2
                go_wp2_with fail
                go_end0
                exact ⟨rfl, d2, permIn_trans _ _ _ _ _ (permIn_mono _ _ _ _ _ _ (by omega) (by omega) (by omega) D1.out) (permIn_mono _ _ _ _ _ _ (Nat.le_refl _) (by omega) (by omega) P2.out), Halves.join (s := s) (e := mid + m - s) HHV.out.cross (by omega) (by omega) (by omega) P2.out Q2.out (permIn_refl _ _ _) (sorted_keep (d := d1) (right_sorted HHV.out (by omega)) (fun i hi => P2.out.2.1 i (Or.inr hi))), S3.out⟩
        · by_cases cl1 : a < s
          · by_cases cl2 : s < mid
            · by_cases cq1 : mid < mid + m - s
              · by_cases cq2 : mid + m - s < b
                · obtain ⟨d1, hp1, hr1, hS1⟩ : ∃ d1, PermIn s (mid + m - s) d d1 ∧ (∀ x, d1[x]! = rotG s m (mid + m - s) d x) ∧ SW (eZ z) w0 blk 0 d1 wr := ⟨d, permIn_refl _ _ _, rot_triv d (by omega), S1.out⟩
                  have S2 := Lib.hid hS1
                  clear hS1
                  have D1 := Lib.hid hp1
                  have HRT := Lib.hid hr1
                  have HHV := Lib.hid (Cut.halves HTT.out H2.out HCUT.out hr1)
                  have AL := Lib.hid (agree_left HA.out hr1 rfl (by omega) (by omega) (by omega) (by omega) (by omega))
                  have AR := Lib.hid (agree_right HA.out hr1 rfl (by omega) (by omega) (by omega) (by omega) (by omega))
                  have z1 : d1.size = d0.size := by rw [hp1.1, hs]
                  clear hp1 hr1
                  go_wp2_with fail
                  go_at_call 63
                  refine (IH.out a s mid d1 _ (by omega) (by omega) (by omega) (by omega) z1 ⟨HHV.out.p1, HHV.out.p2⟩ AL.out S2.out).mono ?_
                  rintro e' w2 ⟨rfl, d2, hp2, hs2, hS3⟩
                  have S3 := Lib.hid hS3
                  clear hS3
                  have P2 := Lib.hid hp2
                  have Q2 := Lib.hid hs2
                  have z2 : d2.size = d0.size := by rw [hp2.1, z1]
                  clear hp2 hs2
                  go_wp2_with fail
                  go_at_call 63
                  refine (IH.out mid (mid + m - s) b d2 _ (by omega) (by omega) (by omega) (by omega) z2 ⟨sorted_keep HHV.out.p3 (fun i hi => P2.out.2.1 i (Or.inr hi)), sorted_keep HHV.out.p4 (fun i hi => P2.out.2.1 i (Or.inr (by omega)))⟩ (agree_keep AR.out (fun i hi => P2.out.2.1 i (Or.inr hi))) S3.out).mono ?_
                  rintro e' w3 ⟨rfl, d3, hp3, hs3, hS4⟩
                  have S4 := Lib.hid hS4
                  have P3 := Lib.hid hp3
                  have Q3 := Lib.hid hs3
                  clear hS4 hp3 hs3
                  go_wp2_with fail
                  go_end0
                  exact ⟨rfl, d3, permIn_trans _ _ _ _ _ (permIn_trans _ _ _ _ _ (permIn_mono _ _ _ _ _ _ (by omega) (by omega) (by omega) D1.out) (permIn_mono _ _ _ _ _ _ (Nat.le_refl _) (by omega) (by omega) P2.out)) (permIn_mono _ _ _ _ _ _ (by omega) (Nat.le_refl _) (by omega) P3.out), Halves.join (s := s) (e := mid + m - s) HHV.out.cross (by omega) (by omega) (by omega) P2.out Q2.out P3.out Q3.out, S4.out⟩
                · obtain ⟨d1, hp1, hr1, hS1⟩ : ∃ d1, PermIn s (mid + m - s) d d1 ∧ (∀ x, d1[x]! = rotG s m (mid + m - s) d x) ∧ SW (eZ z) w0 blk 0 d1 wr := ⟨d, permIn_refl _ _ _, rot_triv d (by omega), S1.out⟩
                  have S2 := Lib.hid hS1
                  clear hS1
                  have D1 := Lib.hid hp1
                  have HRT := Lib.hid hr1
                  have HHV := Lib.hid (Cut.halves HTT.out H2.out HCUT.out hr1)
                  have AL := Lib.hid (agree_left HA.out hr1 rfl (by omega) (by omega) (by omega) (by omega) (by omega))
                  have AR := Lib.hid (agree_right HA.out hr1 rfl (by omega) (by omega) (by omega) (by omega) (by omega))
                  have z1 : d1.size = d0.size := by rw [hp1.1, hs]
                  clear hp1 hr1
                  go_wp2_with fail
                  go_at_call 63
                  refine (IH.out a s mid d1 _ (by omega) (by omega) (by omega) (by omega) z1 ⟨HHV.out.p1, HHV.out.p2⟩ AL.out S2.out).mono ?_
                  rintro e' w2 ⟨rfl, d2, hp2, hs2, hS3⟩
                  have S3 := Lib.hid hS3
                  clear hS3
                  have P2 := Lib.hid hp2
                  have Q2 := Lib.hid hs2
                  have z2 : d2.size = d0.size := by rw [hp2.1, z1]
                  clear hp2 hs2
                  go_wp2_with fail
                  go_end0
                  exact ⟨rfl, d2, permIn_trans _ _ _ _ _ (permIn_mono _ _ _ _ _ _ (by omega) (by omega) (by omega) D1.out) (permIn_mono _ _ _ _ _ _ (Nat.le_refl _) (by omega) (by omega) P2.out), Halves.join (s := s) (e := mid + m - s) HHV.out.cross (by omega) (by omega) (by omega) P2.out Q2.out (permIn_refl _ _ _) (sorted_keep (d := d1) (right_sorted HHV.out (by omega)) (fun i hi => P2.out.2.1 i (Or.inr hi))), S3.out⟩
              · obtain ⟨d1, hp1, hr1, hS1⟩ : ∃ d1, PermIn s (mid + m - s) d d1 ∧ (∀ x, d1[x]! = rotG s m (mid + m - s) d x) ∧ SW (eZ z) w0 blk 0 d1 wr := ⟨d, permIn_refl _ _ _, rot_triv d (by omega), S1.out⟩
                have S2 := Lib.hid hS1
                clear hS1
                have D1 := Lib.hid hp1
                have HRT := Lib.hid hr1
                have HHV := Lib.hid (Cut.halves HTT.out H2.out HCUT.out hr1)
                have AL := Lib.hid (agree_left HA.out hr1 rfl (by omega) (by omega) (by omega) (by omega) (by omega))
                have AR := Lib.hid (agree_right HA.out hr1 rfl (by omega) (by omega) (by omega) (by omega) (by omega))
                have z1 : d1.size = d0.size := by rw [hp1.1, hs]
                clear hp1 hr1
                go_wp2_with fail
                go_at_call 63
                refine (IH.out a s mid d1 _ (by omega) (by omega) (by omega) (by omega) z1 ⟨HHV.out.p1, HHV.out.p2⟩ AL.out S2.out).mono ?_
                rintro e' w2 ⟨rfl, d2, hp2, hs2, hS3⟩
                have S3 := Lib.hid hS3
                clear hS3
                have P2 := Lib.hid hp2
                have Q2 := Lib.hid hs2
                have z2 : d2.size = d0.size := by rw [hp2.1, z1]
                clear hp2 hs2
                go_wp2_with fail
                go_end0
                exact ⟨rfl, d2, permIn_trans _ _ _ _ _ (permIn_mono _ _ _ _ _ _ (by omega) (by omega) (by omega) D1.out) (permIn_mono _ _ _ _ _ _ (Nat.le_refl _) (by omega) (by omega) P2.out), Halves.join (s := s) (e := mid + m - s) HHV.out.cross (by omega) (by omega) (by omega) P2.out Q2.out (permIn_refl _ _ _) (sorted_keep (d := d1) (right_sorted HHV.out (by omega)) (fun i hi => P2.out.2.1 i (Or.inr hi))), S3.out⟩
            · by_cases cq1 : mid < mid + m - s
              · by_cases cq2 : mid + m - s < b
                · obtain ⟨d1, hp1, hr1, hS1⟩ : ∃ d1, PermIn s (mid + m - s) d d1 ∧ (∀ x, d1[x]! = rotG s m (mid + m - s) d x) ∧ SW (eZ z) w0 blk 0 d1 wr := ⟨d, permIn_refl _ _ _, rot_triv d (by omega), S1.out⟩
                  have S2 := Lib.hid hS1
                  clear hS1
                  have D1 := Lib.hid hp1
                  have HRT := Lib.hid hr1
                  have HHV := Lib.hid (Cut.halves HTT.out H2.out HCUT.out hr1)
                  have AL := Lib.hid (agree_left HA.out hr1 rfl (by omega) (by omega) (by omega) (by omega) (by omega))
                  have AR := Lib.hid (agree_right HA.out hr1 rfl (by omega) (by omega) (by omega) (by omega) (by omega))
                  have z1 : d1.size = d0.size := by rw [hp1.1, hs]
                  clear hp1 hr1
                  obtain ⟨d2, hp2, hs2, hS3⟩ : ∃ d2, PermIn a mid d1 d2 ∧ SortedIn T a mid d2 ∧ SW (eZ z) w0 blk 0 d2 wr := ⟨d1, permIn_refl _ _ _, left_sorted HHV.out (by omega), S2.out⟩
                  have S3 := Lib.hid hS3
                  clear hS3
                  have P2 := Lib.hid hp2
                  have Q2 := Lib.hid hs2
                  have z2 : d2.size = d0.size := by rw [hp2.1, z1]
                  clear hp2 hs2
                  go_wp2_with fail
                  go_at_call 63
                  refine (IH.out mid (mid + m - s) b d2 _ (by omega) (by omega) (by omega) (by omega) z2 ⟨sorted_keep HHV.out.p3 (fun i hi => P2.out.2.1 i (Or.inr hi)), sorted_keep HHV.out.p4 (fun i hi => P2.out.2.1 i (Or.inr (by omega)))⟩ (agree_keep AR.out (fun i hi => P2.out.2.1 i (Or.inr hi))) S3.out).mono ?_
                  rintro e' w3 ⟨rfl, d3, hp3, hs3, hS4⟩
                  have S4 := Lib.hid hS4
                  have P3 := Lib.hid hp3
                  have Q3 := Lib.hid hs3
                  clear hS4 hp3 hs3
                  go_wp2_with fail
                  go_end0
                  exact ⟨rfl, d3, permIn_trans _ _ _ _ _ (permIn_trans _ _ _ _ _ (permIn_mono _ _ _ _ _ _ (by omega) (by omega) (by omega) D1.out) (permIn_mono _ _ _ _ _ _ (Nat.le_refl _) (by omega) (by omega) P2.out)) (permIn_mono _ _ _ _ _ _ (by omega) (Nat.le_refl _) (by omega) P3.out), Halves.join (s := s) (e := mid + m - s) HHV.out.cross (by omega) (by omega) (by omega) P2.out Q2.out P3.out Q3.out, S4.out⟩
                · obtain ⟨d1, hp1, hr1, hS1⟩ : ∃ d1, PermIn s (mid + m - s) d d1 ∧ (∀ x, d1[x]! = rotG s m (mid + m - s) d x) ∧ SW (eZ z) w0 blk 0 d1 wr := ⟨d, permIn_refl _ _ _, rot_triv d (by omega), S1.out⟩
                  have S2 := Lib.hid hS1
                  clear hS1
                  have D1 := Lib.hid hp1
                  have HRT := Lib.hid hr1
                  have HHV := Lib.hid (Cut.halves HTT.out H2.out HCUT.out hr1)
                  have AL := Lib.hid (agree_left HA.out hr1 rfl (by omega) (by omega) (by omega) (by omega) (by omega))
                  have AR := Lib.hid (agree_right HA.out hr1 rfl (by omega) (by omega) (by omega) (by omega) (by omega))
                  have z1 : d1.size = d0.size := by rw [hp1.1, hs]
                  clear hp1 hr1
                  obtain ⟨d2, hp2, hs2, hS3⟩ : ∃ d2, PermIn a mid d1 d2 ∧ SortedIn T a mid d2 ∧ SW (eZ z) w0 blk 0 d2 wr := ⟨d1, permIn_refl _ _ _, left_sorted HHV.out (by omega), S2.out⟩
                  have S3 := Lib.hid hS3
                  clear hS3
                  have P2 := Lib.hid hp2
                  have Q2 := Lib.hid hs2
                  have z2 : d2.size = d0.size := by rw [hp2.1, z1]
                  clear hp2 hs2
                  go_wp2_with fail
                  go_end0
                  exact ⟨rfl, d2, permIn_trans _ _ _ _ _ (permIn_mono _ _ _ _ _ _ (by omega) (by omega) (by omega) D1.out) (permIn_mono _ _ _ _ _ _ (Nat.le_refl _) (by omega) (by omega) P2.out), Halves.join (s := s) (e := mid + m - s) HHV.out.cross (by omega) (by omega) (by omega) P2.out Q2.out (permIn_refl _ _ _) (sorted_keep (d := d1) (right_sorted HHV.out (by omega)) (fun i hi => P2.out.2.1 i (Or.inr hi))), S3.out⟩
              · obtain ⟨d1, hp1, hr1, hS1⟩ : ∃ d1, PermIn s (mid + m - s) d d1 ∧ (∀ x, d1[x]! = rotG s m (mid + m - s) d x) ∧ SW (eZ z) w0 blk 0 d1 wr := ⟨d, permIn_refl _ _ _, rot_triv d (by omega), S1.out⟩
                have S2 := Lib.hid hS1
                clear hS1
                have D1 := Lib.hid hp1
                have HRT := Lib.hid hr1
                have HHV := Lib.hid (Cut.halves HTT.out H2.out HCUT.out hr1)
                have AL := Lib.hid (agree_left HA.out hr1 rfl (by omega) (by omega) (by omega) (by omega) (by omega))
                have AR := Lib.hid (agree_right HA.out hr1 rfl (by omega) (by omega) (by omega) (by omega) (by omega))
                have z1 : d1.size = d0.size := by rw [hp1.1, hs]
                clear hp1 hr1
                obtain ⟨d2, hp2, hs2, hS3⟩ : ∃ d2, PermIn a mid d1 d2 ∧ SortedIn T a mid d2 ∧ SW (eZ z) w0 blk 0 d2 wr := ⟨d1, permIn_refl _ _ _, left_sorted HHV.out (by omega), S2.out⟩
                have S3 := Lib.hid hS3
                clear hS3
                have P2 := Lib.hid hp2
                have Q2 := Lib.hid hs2
                have z2 : d2.size = d0.size := by rw [hp2.1, z1]
                clear hp2 hs2
                go_wp2_with fail
                go_end0
                exact ⟨rfl, d2, permIn_trans _ _ _ _ _ (permIn_mono _ _ _ _ _ _ (by omega) (by omega) (by omega) D1.out) (permIn_mono _ _ _ _ _ _ (Nat.le_refl _) (by omega) (by omega) P2.out), Halves.join (s := s) (e := mid + m - s) HHV.out.cross (by omega) (by omega) (by omega) P2.out Q2.out (permIn_refl _ _ _) (sorted_keep (d := d1) (right_sorted HHV.out (by omega)) (fun i hi => P2.out.2.1 i (Or.inr hi))), S3.out⟩
          · by_cases cq1 : mid < mid + m - s
            · by_cases cq2 : mid + m - s < b
              · obtain ⟨d1, hp1, hr1, hS1⟩ : ∃ d1, PermIn s (mid + m - s) d d1 ∧ (∀ x, d1[x]! = rotG s m (mid + m - s) d x) ∧ SW (eZ z) w0 blk 0 d1 wr := ⟨d, permIn_refl _ _ _, rot_triv d (by omega), S1.out⟩
                have S2 := Lib.hid hS1
                clear hS1
                have D1 := Lib.hid hp1
                have HRT := Lib.hid hr1
                have HHV := Lib.hid (Cut.halves HTT.out H2.out HCUT.out hr1)
                have AL := Lib.hid (agree_left HA.out hr1 rfl (by omega) (by omega) (by omega) (by omega) (by omega))
                have AR := Lib.hid (agree_right HA.out hr1 rfl (by omega) (by omega) (by omega) (by omega) (by omega))
                have z1 : d1.size = d0.size := by rw [hp1.1, hs]
                clear hp1 hr1
                obtain ⟨d2, hp2, hs2, hS3⟩ : ∃ d2, PermIn a mid d1 d2 ∧ SortedIn T a mid d2 ∧ SW (eZ z) w0 blk 0 d2 wr := ⟨d1, permIn_refl _ _ _, left_sorted HHV.out (by omega), S2.out⟩
                have S3 := Lib.hid hS3
                clear hS3
                have P2 := Lib.hid hp2
                have Q2 := Lib.hid hs2
                have z2 : d2.size = d0.size := by rw [hp2.1, z1]
                clear hp2 hs2
                go_wp2_with fail
                go_at_call 63
                refine (IH.out mid (mid + m - s) b d2 _ (by omega) (by omega) (by omega) (by omega) z2 ⟨sorted_keep HHV.out.p3 (fun i hi => P2.out.2.1 i (Or.inr hi)), sorted_keep HHV.out.p4 (fun i hi => P2.out.2.1 i (Or.inr (by omega)))⟩ (agree_keep AR.out (fun i hi => P2.out.2.1 i (Or.inr hi))) S3.out).mono ?_
                rintro e' w3 ⟨rfl, d3, hp3, hs3, hS4⟩
                have S4 := Lib.hid hS4
                have P3 := Lib.hid hp3
                have Q3 := Lib.hid hs3
                clear hS4 hp3 hs3
                go_wp2_with fail
                go_end0
                exact ⟨rfl, d3, permIn_trans _ _ _ _ _ (permIn_trans _ _ _ _ _ (permIn_mono _ _ _ _ _ _ (by omega) (by omega) (by omega) D1.out) (permIn_mono _ _ _ _ _ _ (Nat.le_refl _) (by omega) (by omega) P2.out)) (permIn_mono _ _ _ _ _ _ (by omega) (Nat.le_refl _) (by omega) P3.out), Halves.join (s := s) (e := mid + m - s) HHV.out.cross (by omega) (by omega) (by omega) P2.out Q2.out P3.out Q3.out, S4.out⟩
              · obtain ⟨d1, hp1, hr1, hS1⟩ : ∃ d1, PermIn s (mid + m - s) d d1 ∧ (∀ x, d1[x]! = rotG s m (mid + m - s) d x) ∧ SW (eZ z) w0 blk 0 d1 wr := ⟨d, permIn_refl _ _ _, rot_triv d (by omega), S1.out⟩
                have S2 := Lib.hid hS1
                clear hS1
                have D1 := Lib.hid hp1
                have HRT := Lib.hid hr1
                have HHV := Lib.hid (Cut.halves HTT.out H2.out HCUT.out hr1)
                have AL := Lib.hid (agree_left HA.out hr1 rfl (by omega) (by omega) (by omega) (by omega) (by omega))
                have AR := Lib.hid (agree_right HA.out hr1 rfl (by omega) (by omega) (by omega) (by omega) (by omega))
                have z1 : d1.size = d0.size := by rw [hp1.1, hs]
                clear hp1 hr1
                obtain ⟨d2, hp2, hs2, hS3⟩ : ∃ d2, PermIn a mid d1 d2 ∧ SortedIn T a mid d2 ∧ SW (eZ z) w0 blk 0 d2 wr := ⟨d1, permIn_refl _ _ _, left_sorted HHV.out (by omega), S2.out⟩
                have S3 := Lib.hid hS3
                clear hS3
                have P2 := Lib.hid hp2
                have Q2 := Lib.hid hs2
                have z2 : d2.size = d0.size := by rw [hp2.1, z1]
                clear hp2 hs2
                go_wp2_with fail
                go_end0
                exact ⟨rfl, d2, permIn_trans _ _ _ _ _ (permIn_mono _ _ _ _ _ _ (by omega) (by omega) (by omega) D1.out) (permIn_mono _ _ _ _ _ _ (Nat.le_refl _) (by omega) (by omega) P2.out), Halves.join (s := s) (e := mid + m - s) HHV.out.cross (by omega) (by omega) (by omega) P2.out Q2.out (permIn_refl _ _ _) (sorted_keep (d := d1) (right_sorted HHV.out (by omega)) (fun i hi => P2.out.2.1 i (Or.inr hi))), S3.out⟩
            · obtain ⟨d1, hp1, hr1, hS1⟩ : ∃ d1, PermIn s (mid + m - s) d d1 ∧ (∀ x, d1[x]! = rotG s m (mid + m - s) d x) ∧ SW (eZ z) w0 blk 0 d1 wr := ⟨d, permIn_refl _ _ _, rot_triv d (by omega), S1.out⟩
              have S2 := Lib.hid hS1
              clear hS1
              have D1 := Lib.hid hp1
              have HRT := Lib.hid hr1
              have HHV := Lib.hid (Cut.halves HTT.out H2.out HCUT.out hr1)
              have AL := Lib.hid (agree_left HA.out hr1 rfl (by omega) (by omega) (by omega) (by omega) (by omega))
              have AR := Lib.hid (agree_right HA.out hr1 rfl (by omega) (by omega) (by omega) (by omega) (by omega))
              have z1 : d1.size = d0.size := by rw [hp1.1, hs]
              clear hp1 hr1
              obtain ⟨d2, hp2, hs2, hS3⟩ : ∃ d2, PermIn a mid d1 d2 ∧ SortedIn T a mid d2 ∧ SW (eZ z) w0 blk 0 d2 wr := ⟨d1, permIn_refl _ _ _, left_sorted HHV.out (by omega), S2.out⟩
              have S3 := Lib.hid hS3
              clear hS3
              have P2 := Lib.hid hp2
              have Q2 := Lib.hid hs2
              have z2 : d2.size = d0.size := by rw [hp2.1, z1]
              clear hp2 hs2
              go_wp2_with fail
              go_end0
              exact ⟨rfl, d2, permIn_trans _ _ _ _ _ (permIn_mono _ _ _ _ _ _ (by omega) (by omega) (by omega) D1.out) (permIn_mono _ _ _ _ _ _ (Nat.le_refl _) (by omega) (by omega) P2.out), Halves.join (s := s) (e := mid + m - s) HHV.out.cross (by omega) (by omega) (by omega) P2.out Q2.out (permIn_refl _ _ _) (sorted_keep (d := d1) (right_sorted HHV.out (by omega)) (fun i hi => P2.out.2.1 i (Or.inr hi))), S3.out⟩
theorem sym_all (hT : SWO T) (cf : α → α → Int) (fg : Nat) (cb : Array Value) (blk cap : Nat) (d0 : Array α) (w0 : World) (eg : ∀ args w, (callFunc fg args).run Tryd.prog w = .ok (.enter fg args) w) (hcmp : CmpLays1 Tryd.prog fg cb (eZ z) cf blk 0 d0.size w0)
    (R : Row1 (eZ z) w0 blk 0 d0) (hsz : d0.size ≤ 1000000) : ∀ n, SymOk T z cf fg cb blk cap d0 w0 n
  | 0 => fun a m b d w hn h1 h2 _ _ _ _ _ => by omega
  | n + 1 => fun a m b d w hn h1 h2 hb hs h3 h4 S => by
    have ih := sym_all hT cf fg cb blk cap d0 w0 eg hcmp R hsz n
    by_cases c1 : m = a + 1
    · subst c1
      rw [← hs]
      exact sym_one hT cf fg cb blk cap a b d0 d w0 w eg hcmp R hs.symm S h2 hb (by omega) h3.hi h4
    by_cases c2 : b = m + 1
    · subst c2
      rw [← hs]
      exact sym_last hT cf fg cb blk cap a m d0 d w0 w eg hcmp R hs.symm S (by omega) hb (by omega) h3.lo h4
    exact sym_step hT cf fg cb blk cap a m b n d0 d w0 w eg hcmp R hs S (by omega) (by omega) hb hsz h3 h4 hn ih
end
end Go.Proofs.YtaflcbdbacogeaaDoor
