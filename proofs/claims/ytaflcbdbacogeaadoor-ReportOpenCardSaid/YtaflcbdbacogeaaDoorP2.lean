/-
  The stable sort of the library: symMerge where one part is a single element.
-/
import Derived.Test.YtaflcbdbacogeaaDoorP1
set_option linter.unusedVariables false
set_option linter.unusedSimpArgs false
namespace Go.Proofs.YtaflcbdbacogeaaDoor
open Go.RowKit ReportM Go.Shelf Go.Lib Go.Sort

section
variable {α : Type} [Inhabited α] {z : α → Int} {T : α → α → Bool}
/-- what is asked of the merge -/
def SymPost (T : α → α → Bool) (z : α → Int) (w0 : World) (blk a b : Nat) (d : Array α) (e : Ending) (w' : World) : Prop := e = .returned (.tuple #[]) ∧ ∃ d', PermIn a b d d' ∧ SortedIn T a b d' ∧ SW (eZ z) w0 blk 0 d' w'
theorem upG_start (a : Nat) (d : Array α) (x : Nat) : d[x]! = upG a a d x := by
  unfold upG
  rw [if_neg (by omega)]
  by_cases c : x = a
  · rw [if_pos c, c]
  · rw [if_neg c]
theorem dnG_start (m : Nat) (d : Array α) (x : Nat) : d[x]! = dnG m m d x := by
  unfold dnG
  rw [if_neg (by omega)]
  by_cases c : x = m
  · rw [if_pos c, c]
  · rw [if_neg c]
theorem half (i j : Nat) : ((i : Int) + (j : Int)) / 2 = (((i + j) / 2 : Nat) : Int) := by omega
set_option maxRecDepth 20000 in
set_option maxHeartbeats 1600000 in
theorem sym_one (hT : SWO T) (cf : α → α → Int) (fg : Nat) (cb : Array Value) (blk cap a b : Nat) (d0 d : Array α) (w0 w : World) (eg : ∀ args w, (callFunc fg args).run Tryd.prog w = .ok (.enter fg args) w) (hcmp : CmpLays1 Tryd.prog fg cb (eZ z) cf blk 0 d0.size w0)
    (R : Row1 (eZ z) w0 blk 0 d0) (hs : d0.size = d.size) (S : SW (eZ z) w0 blk 0 d w) (hab : a + 1 < b) (hb : b ≤ d.size) (hsz : d.size ≤ 1000000) (h2 : SortedIn T (a + 1) b d) (hag : Agree (ltOf cf) T a (a + 1) b d) :
    Calls Tryd.prog 63 #[.slice (some ⟨blk, 0, none⟩) d.size cap, .int .i64 (a : Int), .int .i64 ((a + 1 : Nat) : Int), .int .i64 (b : Int), .func (.func fg) #[] cb] w (SymPost T z w0 blk a b d) := by
  have S0 := Lib.hid S
  have HR := Lib.hid R
  have HC := Lib.hid hcmp
  have H2 := Lib.hid h2
  have HA := Lib.hid hag
  have HTT := Lib.hid hT
  clear S R hcmp h2 hag hT
  go_enter Tryd.func63, Tryd.ntmps63
  have q0 : ((a : Int) + 1 - (a : Int) == 1) = true := by simp; omega
  go_wp2_with fail
  go_loopw [10, 11] (fun u v wr => ∃ i j : Nat, u = .int .i64 (i : Int) ∧ v = .int .i64 (j : Int) ∧ a + 1 ≤ i ∧ i ≤ j ∧ j ≤ b ∧ Hid (∀ h, a < h → h < i → T d[h]! d[a]! = true) ∧ Hid (∀ h, j ≤ h → h < b → T d[h]! d[a]! = false) ∧ Hid (SW (eZ z) w0 blk 0 d wr)) (fun u v _ => (intOf v).toNat - (intOf u).toNat)
  case atStart => exact ⟨a + 1, b, by first | rfl | go_num, rfl, Nat.le_refl _, by omega, Nat.le_refl _, Lib.hid (fun h h1 h2 => by omega), Lib.hid (fun h h1 h2 => by omega), S0⟩
  case round =>
    clear S0
    obtain ⟨i, j, rfl, rfl, hi, hij, hjb, H3, H4, S1⟩ := hrel
    by_cases hlt : i < j
    · obtain ⟨h, hh⟩ : ∃ h, h = (i + j) / 2 := ⟨_, rfl⟩
      have hhz : ((i : Int) + (j : Int)) / 2 = (h : Int) := by omega
      have hih : i ≤ h := by omega
      have hhj : h < j := by omega
      clear hh
      have hmono : ∀ h', a < h' → h' ≤ h → T d[h]! d[a]! = true → T d[h']! d[a]! = true := fun h' g1 g2 ht => by
        by_cases e : h' = h
        · rw [e]; exact ht
        · by_cases c : T d[h']! d[a]! = true
          · exact c
          · have := HTT.out.ntrans _ _ _ (H2.out h' h (by omega) (by omega) (by omega)) (by simpa using c)
            rw [this] at ht; cases ht
      have hmono2 : ∀ h', h ≤ h' → h' < b → T d[h]! d[a]! = false → T d[h']! d[a]! = false := fun h' g1 g2 ht => by
        by_cases e : h' = h
        · rw [e]; exact ht
        · exact HTT.out.ntrans _ _ _ (H2.out h h' (by omega) (by omega) (by omega)) ht
      have HM := Lib.hid hmono
      have HM2 := Lib.hid hmono2
      have HAH := Lib.hid (HA.out a h (Nat.le_refl _) (by omega) (by omega) (by omega))
      clear hmono hmono2
      obtain ⟨x, hx⟩ : ∃ x, x = d[h]! := ⟨_, rfl⟩
      obtain ⟨y, hy⟩ : ∃ y, y = d[a]! := ⟨_, rfl⟩
      have la : ∀ n os, (grow (wr.drewN n) os).cell? ⟨blk, h, none⟩ = some (.int .i64 (z x)) := fun n os => by
        have := S1.out.cl HR.out (by omega) (h) (by omega) n os
        rw [Nat.zero_add] at this
        rw [hx]; exact this
      have lb : ∀ n os, (grow (wr.drewN n) os).cell? ⟨blk, a, none⟩ = some (.int .i64 (z y)) := fun n os => by
        have := S1.out.cl HR.out (by omega) (a) (by omega) n os
        rw [Nat.zero_add] at this
        rw [hy]; exact this
      have hc : ∀ n os, Calls Tryd.prog fg (#[.int .i64 (z x), .int .i64 (z y)] ++ cb) (grow (wr.drewN n) os) fun e w' => e = .returned (.int .i64 (cf x y)) ∧ ∃ q os', w' = grow ((grow (wr.drewN n) os).drewN q) os' := fun n os => S1.out.cmp HC.out (by omega) x y n os
      have HXE := Lib.hid hx
      have HYE := Lib.hid hy
      clear hx hy
      cases hlv : ltOf cf x y with
      | true =>
        have hd1 : decide (cf x y < 0) = true := by unfold ltOf at hlv; simpa using hlv
        have HTv : Hid (T d[h]! d[a]! = true) := Lib.hid (by rw [← HAH.out, ← HXE.out, ← HYE.out]; exact hlv)
        go_wp2_with fail
        refine wp_region_quiet_grown (by kernel_rfl) (by kernel_rfl) ?_
        repeat (first | go_big_quiet_skip | go_big_quiet_step ((go_at_fn fg; refine Calls.grown_of (hc _ _))))
        refine wpQuiet_nil ?_
        intro _ hw'
        obtain ⟨⟨nq, osq⟩, hw''⟩ := hw'
        subst hw''
        have S2 : Hid (SW (eZ z) w0 blk 0 d (grow (wr.drewN nq) osq)) := Lib.hid (S1.out.grown nq osq)
        clear la lb hc S1
        generalize grow (wr.drewN nq) osq = w2 at S2 ⊢
        clear nq osq
        go_wp2_with fail
        go_roundw
        case rel => exact ⟨h + 1, j, by first | rfl | go_num, rfl, by omega, by omega, hjb, Lib.hid (fun h' g1 g2 => HM.out h' g1 (by omega) HTv.out), H4, S2⟩
        case measure => simp [intOf]; omega
      | false =>
        have hd1 : decide (cf x y < 0) = false := by unfold ltOf at hlv; simpa using hlv
        have HTv : Hid (T d[h]! d[a]! = false) := Lib.hid (by rw [← HAH.out, ← HXE.out, ← HYE.out]; exact hlv)
        go_wp2_with fail
        refine wp_region_quiet_grown (by kernel_rfl) (by kernel_rfl) ?_
        repeat (first | go_big_quiet_skip | go_big_quiet_step ((go_at_fn fg; refine Calls.grown_of (hc _ _))))
        refine wpQuiet_nil ?_
        intro _ hw'
        obtain ⟨⟨nq, osq⟩, hw''⟩ := hw'
        subst hw''
        have S2 : Hid (SW (eZ z) w0 blk 0 d (grow (wr.drewN nq) osq)) := Lib.hid (S1.out.grown nq osq)
        clear la lb hc S1
        generalize grow (wr.drewN nq) osq = w2 at S2 ⊢
        clear nq osq
        go_wp2_with fail
        go_roundw
        case rel => exact ⟨i, h, rfl, rfl, hi, by omega, by omega, H3, Lib.hid (fun h' g1 g2 => HM2.out h' g1 g2 HTv.out), S2⟩
        case measure => simp [intOf]; omega
    · obtain rfl : i = j := by omega
      go_wp2_with fail
      go_loopw [13] (fun u wr => ∃ (k : Nat) (dk : Array α), u = .int .i64 (k : Int) ∧ a ≤ k ∧ k ≤ i - 1 ∧ dk.size = d.size ∧ Hid (∀ x, dk[x]! = upG a k d x) ∧ Hid (PermIn a b d dk) ∧ Hid (SW (eZ z) w0 blk 0 dk wr)) (fun u _ => i - (intOf u).toNat)
      case atStart => exact ⟨a, d, rfl, Nat.le_refl _, by omega, rfl, Lib.hid (upG_start a d), Lib.hid (permIn_refl d a b), S1⟩
      case round =>
        clear S1
        obtain ⟨k, dk, rfl, hak, hki, hds, HU, HP, S1⟩ := hrel
        have ez : (i : Int) - 1 = ((i - 1 : Nat) : Int) := by omega
        by_cases hlt : k < i - 1
        · have hlz : decide ((k : Int) < ((i - 1 : Nat) : Int)) = true := by simp; omega
          have c1 : wr.cell? ⟨blk, k, none⟩ = some (.int .i64 (z dk[k]!)) := by have := S1.out.c1 HR.out (by omega) (k) (by omega); rw [Nat.zero_add] at this; exact this
          have c2 : wr.cell? ⟨blk, (k + 1), none⟩ = some (.int .i64 (z dk[(k + 1)]!)) := by have := S1.out.c1 HR.out (by omega) ((k + 1)) (by omega); rw [Nat.zero_add] at this; exact this
          have f1 : wr.frozen? ⟨blk, k, none⟩ = false := by have := S1.out.f1 HR.out (by omega) (k) (by omega); rw [Nat.zero_add] at this; exact this
          have f2 : wr.frozen? ⟨blk, (k + 1), none⟩ = false := by have := S1.out.f1 HR.out (by omega) ((k + 1)) (by omega); rw [Nat.zero_add] at this; exact this
          have S2 : Hid (SW (eZ z) w0 blk 0 (swp dk (k) ((k + 1))) ((wr.setCell ⟨blk, k, none⟩ (.int .i64 (z dk[(k + 1)]!))).setCell ⟨blk, (k + 1), none⟩ (.int .i64 (z dk[k]!))).drew) := Lib.hid (by
            have := S1.out.swapped HR.out (k) ((k + 1)) (by omega) (by omega)
            rw [Nat.zero_add, Nat.zero_add] at this
            exact this)
          have HU2 : Hid (∀ x, (swp dk k (k + 1))[x]! = upG a (k + 1) d x) := Lib.hid (upG_step HU.out hak (by omega))
          have HP2 : Hid (PermIn a b d (swp dk k (k + 1))) := Lib.hid (permIn_trans _ _ _ _ _ HP.out (swp_permIn dk a b k (k + 1) (by omega) (by omega) (by omega) (by omega) (by omega)))
          clear HU HP S1
          go_wp2_with fail
          go_region
          go_wp2_with fail
          go_roundw
          case rel => exact ⟨k + 1, _, by first | rfl | go_num, by omega, by omega, by rw [size_swp]; exact hds, HU2, HP2, S2⟩
          case measure => simp [intOf]; omega
        · obtain rfl : k = i - 1 := by omega
          go_wp2_with fail
          go_end0
          exact ⟨rfl, dk, HP.out, up_sorted HTT.out H2.out (by omega) hjb H3.out H4.out HU.out, S1.out⟩
set_option maxRecDepth 20000 in
set_option maxHeartbeats 1600000 in
theorem sym_last (hT : SWO T) (cf : α → α → Int) (fg : Nat) (cb : Array Value) (blk cap a m : Nat) (d0 d : Array α) (w0 w : World) (eg : ∀ args w, (callFunc fg args).run Tryd.prog w = .ok (.enter fg args) w) (hcmp : CmpLays1 Tryd.prog fg cb (eZ z) cf blk 0 d0.size w0)
    (R : Row1 (eZ z) w0 blk 0 d0) (hs : d0.size = d.size) (S : SW (eZ z) w0 blk 0 d w) (hab : a + 1 < m) (hb : m + 1 ≤ d.size) (hsz : d.size ≤ 1000000) (h2 : SortedIn T a m d) (hag : Agree (ltOf cf) T a m (m + 1) d) :
    Calls Tryd.prog 63 #[.slice (some ⟨blk, 0, none⟩) d.size cap, .int .i64 (a : Int), .int .i64 (m : Int), .int .i64 ((m + 1 : Nat) : Int), .func (.func fg) #[] cb] w (SymPost T z w0 blk a (m + 1) d) := by
  have S0 := Lib.hid S
  have HR := Lib.hid R
  have HC := Lib.hid hcmp
  have H2 := Lib.hid h2
  have HA := Lib.hid hag
  have HTT := Lib.hid hT
  clear S R hcmp h2 hag hT
  go_enter Tryd.func63, Tryd.ntmps63
  have q0 : ((m : Int) - (a : Int) == 1) = false := by simp; omega
  have q1 : ((m : Int) + 1 - (m : Int) == 1) = true := by simp; omega
  go_wp2_with fail
  go_loopw [14, 15] (fun u v wr => ∃ i j : Nat, u = .int .i64 (i : Int) ∧ v = .int .i64 (j : Int) ∧ a ≤ i ∧ i ≤ j ∧ j ≤ m ∧ Hid (∀ h, a ≤ h → h < i → T d[m]! d[h]! = false) ∧ Hid (∀ h, j ≤ h → h < m → T d[m]! d[h]! = true) ∧ Hid (SW (eZ z) w0 blk 0 d wr)) (fun u v _ => (intOf v).toNat - (intOf u).toNat)
  case atStart => exact ⟨a, m, by first | rfl | go_num, rfl, Nat.le_refl _, by omega, Nat.le_refl _, Lib.hid (fun h h1 h2 => by omega), Lib.hid (fun h h1 h2 => by omega), S0⟩
  case round =>
    clear S0
    obtain ⟨i, j, rfl, rfl, hi, hij, hjb, H3, H4, S1⟩ := hrel
    by_cases hlt : i < j
    · obtain ⟨h, hh⟩ : ∃ h, h = (i + j) / 2 := ⟨_, rfl⟩
      have hhz : ((i : Int) + (j : Int)) / 2 = (h : Int) := by omega
      have hih : i ≤ h := by omega
      have hhj : h < j := by omega
      clear hh
      have hmono : ∀ h', a ≤ h' → h' ≤ h → T d[m]! d[h]! = false → T d[m]! d[h']! = false := fun h' g1 g2 ht => by
        by_cases e : h' = h
        · rw [e]; exact ht
        · exact HTT.out.ntrans _ _ _ ht (H2.out h' h (by omega) (by omega) (by omega))
      have hmono2 : ∀ h', h ≤ h' → h' < m → T d[m]! d[h]! = true → T d[m]! d[h']! = true := fun h' g1 g2 ht => by
        by_cases e : h' = h
        · rw [e]; exact ht
        · by_cases c : T d[m]! d[h']! = true
          · exact c
          · have := HTT.out.ntrans _ _ _ (by simpa using c) (H2.out h h' (by omega) (by omega) (by omega))
            rw [this] at ht; cases ht
      have HM := Lib.hid hmono
      have HM2 := Lib.hid hmono2
      have HAH := Lib.hid (HA.out h m (by omega) (by omega) (by omega) (by omega))
      clear hmono hmono2
      obtain ⟨x, hx⟩ : ∃ x, x = d[m]! := ⟨_, rfl⟩
      obtain ⟨y, hy⟩ : ∃ y, y = d[h]! := ⟨_, rfl⟩
      have la : ∀ n os, (grow (wr.drewN n) os).cell? ⟨blk, m, none⟩ = some (.int .i64 (z x)) := fun n os => by
        have := S1.out.cl HR.out (by omega) (m) (by omega) n os
        rw [Nat.zero_add] at this
        rw [hx]; exact this
      have lb : ∀ n os, (grow (wr.drewN n) os).cell? ⟨blk, h, none⟩ = some (.int .i64 (z y)) := fun n os => by
        have := S1.out.cl HR.out (by omega) (h) (by omega) n os
        rw [Nat.zero_add] at this
        rw [hy]; exact this
      have hc : ∀ n os, Calls Tryd.prog fg (#[.int .i64 (z x), .int .i64 (z y)] ++ cb) (grow (wr.drewN n) os) fun e w' => e = .returned (.int .i64 (cf x y)) ∧ ∃ q os', w' = grow ((grow (wr.drewN n) os).drewN q) os' := fun n os => S1.out.cmp HC.out (by omega) x y n os
      have HXE := Lib.hid hx
      have HYE := Lib.hid hy
      clear hx hy
      cases hlv : ltOf cf x y with
      | true =>
        have hd1 : decide (cf x y < 0) = true := by unfold ltOf at hlv; simpa using hlv
        have hd2 : (!decide (cf x y < 0)) = false := by rw [hd1]; rfl
        have HTv : Hid (T d[m]! d[h]! = true) := Lib.hid (by rw [← HAH.out, ← HXE.out, ← HYE.out]; exact hlv)
        go_wp2_with fail
        refine wp_region_quiet_grown (by kernel_rfl) (by kernel_rfl) ?_
        repeat (first | go_big_quiet_skip | go_big_quiet_step ((go_at_fn fg; refine Calls.grown_of (hc _ _))))
        refine wpQuiet_nil ?_
        intro _ hw'
        obtain ⟨⟨nq, osq⟩, hw''⟩ := hw'
        subst hw''
        have S2 : Hid (SW (eZ z) w0 blk 0 d (grow (wr.drewN nq) osq)) := Lib.hid (S1.out.grown nq osq)
        clear la lb hc S1
        generalize grow (wr.drewN nq) osq = w2 at S2 ⊢
        clear nq osq
        go_wp2_with fail
        go_roundw
        case rel => exact ⟨i, h, rfl, rfl, hi, by omega, by omega, H3, Lib.hid (fun h' g1 g2 => HM2.out h' g1 g2 HTv.out), S2⟩
        case measure => simp [intOf]; omega
      | false =>
        have hd1 : decide (cf x y < 0) = false := by unfold ltOf at hlv; simpa using hlv
        have hd2 : (!decide (cf x y < 0)) = true := by rw [hd1]; rfl
        have HTv : Hid (T d[m]! d[h]! = false) := Lib.hid (by rw [← HAH.out, ← HXE.out, ← HYE.out]; exact hlv)
        go_wp2_with fail
        refine wp_region_quiet_grown (by kernel_rfl) (by kernel_rfl) ?_
        repeat (first | go_big_quiet_skip | go_big_quiet_step ((go_at_fn fg; refine Calls.grown_of (hc _ _))))
        refine wpQuiet_nil ?_
        intro _ hw'
        obtain ⟨⟨nq, osq⟩, hw''⟩ := hw'
        subst hw''
        have S2 : Hid (SW (eZ z) w0 blk 0 d (grow (wr.drewN nq) osq)) := Lib.hid (S1.out.grown nq osq)
        clear la lb hc S1
        generalize grow (wr.drewN nq) osq = w2 at S2 ⊢
        clear nq osq
        go_wp2_with fail
        go_roundw
        case rel => exact ⟨h + 1, j, by first | rfl | go_num, rfl, by omega, by omega, hjb, Lib.hid (fun h' g1 g2 => HM.out h' g1 (by omega) HTv.out), H4, S2⟩
        case measure => simp [intOf]; omega
    · obtain rfl : i = j := by omega
      go_wp2_with fail
      go_loopw [17] (fun u wr => ∃ (k : Nat) (dk : Array α), u = .int .i64 (k : Int) ∧ i ≤ k ∧ k ≤ m ∧ dk.size = d.size ∧ Hid (∀ x, dk[x]! = dnG m k d x) ∧ Hid (PermIn a (m + 1) d dk) ∧ Hid (SW (eZ z) w0 blk 0 dk wr)) (fun u _ => (intOf u).toNat)
      case atStart => exact ⟨m, d, rfl, by omega, Nat.le_refl _, rfl, Lib.hid (dnG_start m d), Lib.hid (permIn_refl d a (m + 1)), S1⟩
      case round =>
        clear S1
        obtain ⟨k, dk, rfl, hik, hkm, hds, HU, HP, S1⟩ := hrel
        by_cases hlt : i < k
        · obtain ⟨k, rfl⟩ : ∃ k', k = k' + 1 := ⟨k - 1, by omega⟩
          have ez : ((k + 1 : Nat) : Int) - 1 = (k : Int) := by omega
          have ez2 : (k : Int) + 1 - 1 = (k : Int) := by omega
          have c1 : wr.cell? ⟨blk, (k + 1), none⟩ = some (.int .i64 (z dk[(k + 1)]!)) := by have := S1.out.c1 HR.out (by omega) ((k + 1)) (by omega); rw [Nat.zero_add] at this; exact this
          have c2 : wr.cell? ⟨blk, k, none⟩ = some (.int .i64 (z dk[k]!)) := by have := S1.out.c1 HR.out (by omega) (k) (by omega); rw [Nat.zero_add] at this; exact this
          have f1 : wr.frozen? ⟨blk, (k + 1), none⟩ = false := by have := S1.out.f1 HR.out (by omega) ((k + 1)) (by omega); rw [Nat.zero_add] at this; exact this
          have f2 : wr.frozen? ⟨blk, k, none⟩ = false := by have := S1.out.f1 HR.out (by omega) (k) (by omega); rw [Nat.zero_add] at this; exact this
          have S2 : Hid (SW (eZ z) w0 blk 0 (swp dk ((k + 1)) (k)) ((wr.setCell ⟨blk, (k + 1), none⟩ (.int .i64 (z dk[k]!))).setCell ⟨blk, k, none⟩ (.int .i64 (z dk[(k + 1)]!))).drew) := Lib.hid (by
            have := S1.out.swapped HR.out ((k + 1)) (k) (by omega) (by omega)
            rw [Nat.zero_add, Nat.zero_add] at this
            exact this)
          have HU2 : Hid (∀ x, (swp dk (k + 1) k)[x]! = dnG m k d x) := Lib.hid (dnG_step HU.out hkm (by omega))
          have HP2 : Hid (PermIn a (m + 1) d (swp dk (k + 1) k)) := Lib.hid (permIn_trans _ _ _ _ _ HP.out (swp_permIn dk a (m + 1) (k + 1) k (by omega) (by omega) (by omega) (by omega) (by omega)))
          clear HU HP S1
          go_wp2_with fail
          go_region
          go_wp2_with fail
          go_roundw
          case rel => exact ⟨k, _, by first | rfl | go_num, by omega, by omega, by rw [size_swp]; exact hds, HU2, HP2, S2⟩
          case measure => simp [intOf] <;> omega
        · obtain rfl : k = i := by omega
          go_wp2_with fail
          go_end0
          exact ⟨rfl, dk, HP.out, dn_sorted HTT.out H2.out hi hjb H3.out H4.out HU.out, S1.out⟩
end
end Go.Proofs.YtaflcbdbacogeaaDoor
