/-
  The contracts of ints and Valid.
-/
import Derived.Test.YthchddkdcibbhaaB8
namespace Go.Proofs.Ythchddkdcibbhaa
open Go.RowKit AssignM

attribute [local go_sem] ExtOf.cell ExtOf.frozen Block.cell Block.frozen ExtB.cell ExtB.frozen alloc_cell alloc_frozen

def sameI (a b : List Int) : Bool := decide (a = b)
theorem sameI_step {a b : List Int} {k : Nat} (h : sameI a b = sameI (a.drop k) (b.drop k)) (ha : k < a.length) (hb : k < b.length) : (a[k] ≠ b[k] → sameI a b = false) ∧ (a[k] = b[k] → sameI a b = sameI (a.drop (k + 1)) (b.drop (k + 1))) := by
  rw [List.drop_eq_getElem_cons ha, List.drop_eq_getElem_cons hb] at h
  unfold sameI at *
  exact ⟨fun c => by rw [h, decide_eq_false]; intro e; injection e with e1 _; exact c e1, fun c => by rw [h]; simp only [List.cons.injEq, c, true_and]⟩
set_option maxHeartbeats 800000 in
theorem ints_any (a b : List Int) (v0 v1 : Value) (w : World) (h0 : IntS w v0 a) (h1 : IntS w v1 b) (hla : a.length ≤ 1048576) (hlb : b.length ≤ 1048576) :
    Calls Try.prog 16 #[v0, v1] w fun e w' => e = .returned (.bool (sameI a b)) ∧ ∃ n : ExtOf w, w' = n.val := by
  obtain ⟨p0, cap0, rfl, hg1, hg2, hg3⟩ := SliceOf.form h0
  obtain ⟨p1, cap1, rfl, hg4, hg5, hg6⟩ := SliceOf.form h1
  have H0 := Lib.hid h0
  have H1 := Lib.hid h1
  clear h0 h1
  by_cases t0 : a.length = b.length
  · go_enter Try.func16, Try.ntmps16
    go_wp2
    go_loopw [5] (fun v wr => ∃ k : Nat, k ≤ a.length ∧ v = .int .i64 k ∧ sameI a b = sameI (a.drop k) (b.drop k) ∧ Ext w wr) (fun v _ => a.length - (intOf v).toNat)
    case atStart => exact ⟨0, by omega, rfl, rfl, Ext.refl _⟩
    case round =>
      obtain ⟨k, hk, rfl, hs, hx⟩ := hrel
      have HX := Lib.hid hx
      clear hx
      by_cases hlt : k < a.length
      · have hlt' : k < b.length := by omega
        have HB := Lib.hid (sameI_step hs hlt hlt')
        clear hs
        obtain ⟨b0, off0, rfl, o0, c0⟩ := SliceOf.elem1 (SliceOf.ext H0.out HX.out) hlt rfl
        obtain ⟨b1, off1, rfl, o1, c1⟩ := SliceOf.elem1 (SliceOf.ext H1.out HX.out) hlt' rfl
        obtain ⟨x, hx0⟩ : ∃ x : Int, x = a[k] := ⟨_, rfl⟩
        obtain ⟨y, hy0⟩ : ∃ y : Int, y = b[k] := ⟨_, rfl⟩
        rw [← hx0] at c0 HB
        rw [← hy0] at c1 HB
        clear hx0 hy0
        by_cases t1 : x = y
        · have HN := Lib.hid (HB.out.2 t1)
          subst t1
          clear HB
          go_wp2
          refine wp_region_ext (by kernel_rfl) (by kernel_rfl) ?_
          repeat (first | go_big_quiet_skip | go_big_quiet_step (fail))
          refine wpQuiet_nil ?_
          intro _ hw'
          obtain ⟨nq, hw''⟩ := hw'
          subst hw''
          go_wp2
          go_roundw
          case rel => exact ⟨k + 1, by omega, by go_num, HN.out, by repeat' (first | (with_reducible exact Ext.refl _) | (with_reducible exact ExtOf.ext _) | (with_reducible refine Ext.trans ?_ (ExtOf.ext _)) | (with_reducible refine Ext.alloc ?_ _) | (with_reducible refine Ext.drew ?_) | (with_reducible refine Ext.setCell ?_ ?_ _) | (with_reducible refine Ext.setRow ?_ ?_ _) | (with_reducible exact HX.out) | (with_reducible refine Ext.trans ?_ HX.out) | (with_reducible refine Ext.below ?_ (Nat.le_refl _) _) | (simp; done) | (simp; omega))⟩
          case measure => simp [intOf]; omega
        · have HN := Lib.hid (HB.out.1 t1)
          have hne : (x != y) = true := by simpa using t1
          clear HB
          go_wp2
          refine wp_region_ext (by kernel_rfl) (by kernel_rfl) ?_
          repeat (first | go_big_quiet_skip | go_big_quiet_step (fail))
          refine wpQuiet_nil ?_
          intro _ hw'
          obtain ⟨nq, hw''⟩ := hw'
          subst hw''
          go_wp2
          go_ret
          refine ⟨ret_bool HN.out.symm, ?_⟩
          exact ExtOf.of (by repeat' (first | (with_reducible exact Ext.refl _) | (with_reducible exact ExtOf.ext _) | (with_reducible refine Ext.trans ?_ (ExtOf.ext _)) | (with_reducible refine Ext.alloc ?_ _) | (with_reducible refine Ext.drew ?_) | (with_reducible refine Ext.setCell ?_ ?_ _) | (with_reducible refine Ext.setRow ?_ ?_ _) | (with_reducible exact HX.out) | (with_reducible refine Ext.trans ?_ HX.out) | (with_reducible refine Ext.below ?_ (Nat.le_refl _) _) | (simp; done) | (simp; omega)))
      · have hs0 : sameI a b = true := by rw [hs, List.drop_of_length_le (by omega), List.drop_of_length_le (by omega)]; rfl
        have HN := Lib.hid hs0
        clear hs hs0
        go_wp2
        go_ret
        refine ⟨ret_bool HN.out.symm, ?_⟩
        exact ExtOf.of (by repeat' (first | (with_reducible exact Ext.refl _) | (with_reducible exact ExtOf.ext _) | (with_reducible refine Ext.trans ?_ (ExtOf.ext _)) | (with_reducible refine Ext.alloc ?_ _) | (with_reducible refine Ext.drew ?_) | (with_reducible refine Ext.setCell ?_ ?_ _) | (with_reducible refine Ext.setRow ?_ ?_ _) | (with_reducible exact HX.out) | (with_reducible refine Ext.trans ?_ HX.out) | (with_reducible refine Ext.below ?_ (Nat.le_refl _) _) | (simp; done) | (simp; omega)))
  · have HN : Hid (sameI a b = false) := Lib.hid (by unfold sameI; rw [decide_eq_false]; exact fun h => t0 (by rw [h]))
    have hne : ((a.length : Int) != (b.length : Int)) = true := by simp; omega
    go_enter Try.func16, Try.ntmps16
    go_wp2
    go_ret
    refine ⟨ret_bool HN.out.symm, ?_⟩
    exact ExtOf.of (by repeat' (first | (with_reducible exact Ext.refl _) | (with_reducible exact ExtOf.ext _) | (with_reducible refine Ext.trans ?_ (ExtOf.ext _)) | (with_reducible refine Ext.alloc ?_ _) | (with_reducible refine Ext.drew ?_) | (with_reducible refine Ext.setCell ?_ ?_ _) | (with_reducible refine Ext.setRow ?_ ?_ _) | (with_reducible exact HX.out) | (with_reducible refine Ext.trans ?_ HX.out) | (with_reducible refine Ext.below ?_ (Nat.le_refl _) _) | (simp; done) | (simp; omega)))

def entOk (F : List (List Bool)) (k : Nat) (x : Int) : Bool := decide (x = -1) || (decide (0 ≤ x ∧ x < F.length) && fit F x.toNat k)
def entsOk (F : List (List Bool)) : Nat → List Int → Bool
  | _, [] => true
  | k, x :: l => entOk F k x && entsOk F (k + 1) l
def cntI (l : List Int) (i : Nat) : Nat := l.countP fun x => x == (i : Int)
def overB (R : Nat) (m : Nat → Nat) (to : List Int) : Bool := (List.range R).any fun i => decide (m i < cntI to i)
/-- what Valid returns -/
def validS (F : List (List Bool)) (m to : List Int) : Bool := decide (mostErr F m = 0) && decide (to.length = cols F) && entsOk F 0 to && !overB F.length (nth (toNats m)) to
theorem cntI_snoc (l : List Int) (x : Int) (i : Nat) : cntI (l ++ [x]) i = cntI l i + if x = (i : Int) then 1 else 0 := by
  unfold cntI
  rw [List.countP_append]
  by_cases h : x = (i : Int) <;> simp [h]
theorem cntI_take {to : List Int} {k : Nat} (hk : k < to.length) (i : Nat) : cntI (to.take (k + 1)) i = cntI (to.take k) i + if to[k] = (i : Int) then 1 else 0 := by
  rw [List.take_succ_eq_append_getElem hk, cntI_snoc]
theorem cntI_le (to : List Int) (k i : Nat) : cntI (to.take k) i ≤ cntI to i := by
  have : cntI to i = cntI (to.take k) i + cntI (to.drop k) i := by
    unfold cntI
    rw [← List.countP_append, List.take_append_drop]
  omega
theorem ents_step {F : List (List Bool)} {to : List Int} {k : Nat} (h : entsOk F 0 to = entsOk F k (to.drop k)) (hk : k < to.length) : (entOk F k to[k] = false → entsOk F 0 to = false) ∧ (entOk F k to[k] = true → entsOk F 0 to = entsOk F (k + 1) (to.drop (k + 1))) := by
  rw [List.drop_eq_getElem_cons hk, entsOk] at h
  exact ⟨fun c => by rw [h, c]; rfl, fun c => by rw [h, c]; rfl⟩
theorem over_of {R : Nat} {m : Nat → Nat} {to : List Int} {i k : Nat} (hi : i < R) (h : m i < cntI (to.take k) i) : overB R m to = true := by
  unfold overB
  rw [List.any_eq_true]
  exact ⟨i, List.mem_range.2 hi, by have := cntI_le to k i; simp; omega⟩
theorem over_not {R : Nat} {m : Nat → Nat} {to : List Int} (h : ∀ i, i < R → cntI to i ≤ m i) : overB R m to = false := by
  unfold overB
  rw [List.any_eq_false]
  intro i hi
  have := h i (List.mem_range.1 hi)
  simp; omega
set_option maxRecDepth 20000 in
set_option maxHeartbeats 1600000 in
theorem valid_any (F : List (List Bool)) (m to : List Int) (v0 v1 v2 : Value) (w : World) (hR : F.length ≤ 1048576) (hl : m.length ≤ 1048576) (ht : to.length ≤ 1048576) (hG : GridS w v0 F) (h1 : IntS w v1 m) (h2 : IntS w v2 to) :
    Calls Try.prog 19 #[v0, v1, v2] w fun e w' => e = .returned (.bool (validS F m to)) ∧ ∃ n : ExtOf w, w' = n.val := by
  obtain ⟨p0, cap0, rfl, hg1, hg2, hg3⟩ := hG.form
  obtain ⟨p1, cap1, rfl, hg4, hg5, hg6⟩ := SliceOf.form h1
  obtain ⟨p2, cap2, rfl, hg7, hg8, hg9⟩ := SliceOf.form h2
  have HG := Lib.hid hG
  have H1 := Lib.hid h1
  have H2 := Lib.hid h2
  clear hG h1 h2
  by_cases t0 : mostErr F m = 0
  · by_cases t1 : to.length = cols F
    · obtain ⟨e1, e2, e3⟩ := mostErr_ok t0
      obtain ⟨hrect, _, hc512⟩ := Rect.of e1
      have HRC := Lib.hid hrect
      have HE : Hid (validS F m to = (entsOk F 0 to && !overB F.length (nth (toNats m)) to)) := Lib.hid (by simp [validS, t0, t1])
      have hn1 := IntS.nats H1.out (fun x hx => (e3 x hx).1)
      have HN1 := Lib.hid hn1
      have HE2 := Lib.hid e2
      have T1 := Lib.hid t1
      have hneq : ((to.length : Int) != (cols F : Int)) = false := by simp; omega
      have hml : (toNats m).length = F.length := by simp [toNats, e2]
      have HMB : Hid (∀ i, nth (toNats m) i ≤ 200) := Lib.hid (fun i => by
        unfold nth toNats
        rcases hh : (m.map Int.toNat)[i]? with _ | y
        · simp
        · rw [List.getElem?_map] at hh
          obtain ⟨z, hz, rfl⟩ := Option.map_eq_some_iff.1 hh
          have := e3 z (List.mem_of_getElem? hz)
          simp; omega)
      have hmk := run_make_row' (P := Try.prog) 29 3 (.int .i64 0) 8 Try.underlying29 infoI rfl .i64 .i64 F.length (by omega) (by omega)
      rw [natCells_made] at hmk
      clear hn1 hrect e1 e3 e2 t1
      go_enter Try.func19, Try.ntmps19
      go_wp2_with fail
      refine (check_any F m _ _ _ hR HG.out H1.out hl).mono ?_
      rintro e w' ⟨rfl, n1, rfl⟩
      rw [t0]
      go_wp2_with fail
      refine (columns_any _ F _ (HG.out.ext n1.ext) (by omega)).mono ?_
      rintro e w' ⟨rfl, n2, rfl⟩
      have HX0 := Lib.hid (n1.ext.trans n2.ext)
      generalize n2.val = W0 at *
      clear n2 n1
      go_wp2
      have hB0 : Block (W0.alloc (.cells (natCells (fun _ => 0) F.length) 3)) W0.heap.size (natCells (cntI (to.take 0)) F.length) := by
        have : natCells (cntI (to.take 0)) F.length = natCells (fun _ => 0) F.length := natCells_congr fun i _ => by simp [cntI]
        rw [this]; infer_instance
      have HX1 := Lib.hid (HX0.out.alloc (.cells (natCells (fun _ => 0) F.length) 3))
      have hgc : w.heap.size ≤ W0.heap.size := HX0.out.size
      clear HX0 hmk
      generalize W0.alloc (.cells (natCells (fun _ => 0) F.length) 3) = W1 at *
      generalize W0.heap.size = gc at *
      clear W0
      go_loopw [26] (fun v wr => ∃ k : Nat, k ≤ to.length ∧ v = .int .i64 k ∧ entsOk F 0 to = entsOk F k (to.drop k) ∧ (∀ i, i < F.length → cntI (to.take k) i ≤ nth (toNats m) i) ∧ Block wr gc (natCells (cntI (to.take k)) F.length) ∧ Ext w wr) (fun v _ => to.length - (intOf v).toNat)
      case atStart => exact ⟨0, by omega, rfl, rfl, (fun i _ => by simp [cntI]), hB0, HX1.out⟩
      case round =>
        clear hB0 HX1
        obtain ⟨k, hk, rfl, hs, hle, hB, hx⟩ := hrel
        have HX := Lib.hid hx
        have HLE := Lib.hid hle
        have oc := hB.old
        clear hx hle
        by_cases hlt : k < to.length
        · have HS := Lib.hid (ents_step hs hlt)
          have HCT := Lib.hid (cntI_take hlt)
          clear hs
          obtain ⟨b2, off2, rfl, o2, c2⟩ := SliceOf.elem1 (SliceOf.ext H2.out HX.out) hlt rfl
          obtain ⟨x, hx0⟩ : ∃ x : Int, x = to[k] := ⟨_, rfl⟩
          rw [← hx0] at c2 HS HCT
          clear hx0
          by_cases u1 : x = -1
          · subst u1
            have HN := Lib.hid (HS.out.2 (by simp [entOk]))
            have HC : Hid (natCells (cntI (to.take (k + 1))) F.length = natCells (cntI (to.take k)) F.length) := Lib.hid (natCells_congr fun i _ => by rw [HCT.out i, if_neg (by omega), Nat.add_zero])
            have HL2 : Hid (∀ i, i < F.length → cntI (to.take (k + 1)) i ≤ nth (toNats m) i) := Lib.hid (fun i hi => by rw [HCT.out i, if_neg (by omega)]; exact HLE.out i hi)
            clear HS HCT
            go_wp2
            go_roundw
            case rel => exact ⟨k + 1, by omega, by go_num, HN.out, HL2.out, by rw [HC.out]; exact hB, by repeat' (first | (with_reducible exact Ext.refl _) | (with_reducible exact ExtOf.ext _) | (with_reducible refine Ext.trans ?_ (ExtOf.ext _)) | (with_reducible refine Ext.alloc ?_ _) | (with_reducible refine Ext.drew ?_) | (with_reducible refine Ext.setCell ?_ ?_ _) | (with_reducible refine Ext.setRow ?_ ?_ _) | (with_reducible exact HX.out) | (with_reducible refine Ext.trans ?_ HX.out) | (with_reducible refine Ext.below ?_ (Nat.le_refl _) _) | (simp; done) | (simp; omega))⟩
            case measure => simp [intOf]; omega
          · have u1' : (x == -1) = false := by rw [beq_eq_false_iff_ne]; exact u1
            by_cases u2 : 0 ≤ x ∧ x < F.length
            · obtain ⟨i, rfl⟩ : ∃ i : Nat, x = (i : Int) := ⟨x.toNat, by omega⟩
              have hi : i < F.length := by omega
              have hkc : k < cols F := by have := T1.out; omega
              have him : i < m.length := by rw [HE2.out]; exact hi
              obtain ⟨b0, off0, rp, rc, rfl, ho0, c0, hrow⟩ := (HG.out.ext HX.out).row hi
              obtain ⟨hk', hfit⟩ := HRC.out.get hi hkc
              obtain ⟨b3, off3, rfl, ho3, c3⟩ := SliceOf.elem1 hrow hk' rfl
              have hrl := HRC.out.wide _ (List.getElem_mem hi)
              rw [← hfit] at c3
              rw [hrl] at c0
              clear hrow hrl hfit hk'
              have hi' : i < (toNats m).length := by omega
              obtain ⟨b1, off1, rfl, o1w, c1w⟩ := SliceOf.elem1 HN1.out hi' rfl
              have hb1lt := o1w.lt
              have c1 := HX.out.cell c1w
              have o1 : Old b1 wr := Old.of_cell c1
              rw [← nth_eq hi'] at c1
              clear c1w o1w
              have d1 : decide ((i : Int) < 0) = false := by simp
              have d2 : decide ((F.length : Int) ≤ (i : Int)) = false := by simp; omega
              rcases t3 : fit F i k with _ | _
              · rw [t3] at c3
                have HN : Hid (validS F m to = false) := Lib.hid (by rw [HE.out, HS.out.1 (by first | (simp [entOk, t3]; done) | (simp [entOk, t3]; omega))]; rfl)
                clear HS HCT
                go_wp2
                go_ret
                refine ⟨ret_bool (HN.out).symm, ?_⟩
                exact ExtOf.of (by repeat' (first | (with_reducible exact Ext.refl _) | (with_reducible exact ExtOf.ext _) | (with_reducible refine Ext.trans ?_ (ExtOf.ext _)) | (with_reducible refine Ext.alloc ?_ _) | (with_reducible refine Ext.drew ?_) | (with_reducible refine Ext.setCell ?_ ?_ _) | (with_reducible refine Ext.setRow ?_ ?_ _) | (with_reducible exact HX.out) | (with_reducible refine Ext.trans ?_ HX.out) | (with_reducible refine Ext.below ?_ (Nat.le_refl _) _) | (simp; done) | (simp; omega)))
              · rw [t3] at c3
                have HN := Lib.hid (HS.out.2 (by first | (simp [entOk, t3]; done) | (simp [entOk, t3]; omega)))
                have hci := natCells_get (c := cntI (to.take k)) hi
                have hcb := HLE.out i hi
                have hmb := HMB.out i
                have HC1 : Hid (cntI (to.take (k + 1)) i = cntI (to.take k) i + 1) := Lib.hid (by rw [HCT.out i, if_pos rfl])
                have HCO : Hid (∀ j, j ≠ i → cntI (to.take (k + 1)) j = cntI (to.take k) j) := Lib.hid (fun j hj => by rw [HCT.out j, if_neg (by omega), Nat.add_zero])
                clear HS HCT
                have e9 : ((cntI (to.take k) i : Int) + 1) = ((cntI (to.take k) i + 1 : Nat) : Int) := by omega
                have HCS : Hid ((natCells (cntI (to.take k)) F.length).setIfInBounds i (.int .i64 ((cntI (to.take k) i : Int) + 1)) = natCells (cntI (to.take (k + 1))) F.length) := Lib.hid (by
                  rw [e9, natCells_set hi]
                  exact natCells_congr fun j _ => by by_cases e : j = i; (subst e; rw [if_pos rfl, HC1.out]); (rw [if_neg e, HCO.out j e]))
                have hcs : ((natCells (cntI (to.take k)) F.length).setIfInBounds i (.int .i64 ((cntI (to.take k) i : Int) + 1)))[i]? = some (.int .i64 ((cntI (to.take k) i : Int) + 1)) := by
                  rw [Array.getElem?_setIfInBounds_self_of_lt (by simpa [natCells] using hi)]
                have og1 : b1 ≠ gc := by omega
                have hap : Apart gc b1 := ⟨Ne.symm og1⟩
                clear e9
                rcases u5 : decide (nth (toNats m) i < cntI (to.take k) i + 1) with _ | _
                · have u5' : decide ((nth (toNats m) i : Int) < (cntI (to.take k) i : Int) + 1) = false := by simp at u5 ⊢; omega
                  have HL2 : Hid (∀ j, j < F.length → cntI (to.take (k + 1)) j ≤ nth (toNats m) j) := Lib.hid (fun j hj => by
                    by_cases e : j = i
                    · subst e; rw [HC1.out]; simp at u5; omega
                    · rw [HCO.out j e]; exact HLE.out j hj)
                  go_wp2
                  refine wp_region_ext (by kernel_rfl) (by kernel_rfl) ?_
                  repeat (first | go_big_quiet_skip | go_big_quiet_step (fail))
                  refine wpQuiet_nil ?_
                  intro _ hw'
                  obtain ⟨nq, hw''⟩ := hw'
                  subst hw''
                  go_wp2
                  go_roundw
                  case rel =>
                    have hB2 : Block (wr.setCell ⟨gc, i, none⟩ (.int .i64 ((cntI (to.take k) i : Int) + 1))) gc ((natCells (cntI (to.take k)) F.length).setIfInBounds i (.int .i64 ((cntI (to.take k) i : Int) + 1))) := inferInstance
                    rw [HCS.out] at hB2
                    exact ⟨k + 1, by omega, by go_num, HN.out, HL2.out, hB2.ext nq.ext, (Ext.setCell HX.out hgc _).trans nq.ext⟩
                  case measure => simp [intOf]; omega
                · have u5' : decide ((nth (toNats m) i : Int) < (cntI (to.take k) i : Int) + 1) = true := by simp at u5 ⊢; omega
                  have HF2 : Hid (validS F m to = false) := Lib.hid (by rw [HE.out, over_of (k := k + 1) hi (by rw [HC1.out]; simpa using u5)]; simp)
                  go_wp2
                  refine wp_region_ext (by kernel_rfl) (by kernel_rfl) ?_
                  repeat (first | go_big_quiet_skip | go_big_quiet_step (fail))
                  refine wpQuiet_nil ?_
                  intro _ hw'
                  obtain ⟨nq, hw''⟩ := hw'
                  subst hw''
                  go_wp2
                  go_ret
                  refine ⟨ret_bool HF2.out.symm, ?_⟩
                  exact ExtOf.of ((Ext.setCell HX.out hgc _).trans nq.ext)
            · have HN : Hid (validS F m to = false) := Lib.hid (by rw [HE.out, HS.out.1 (by unfold entOk; rw [decide_eq_false u1, decide_eq_false u2]; rfl)]; rfl)
              clear HS HCT
              rcases d1 : decide (x < 0) with _ | _
              · have d2 : decide ((F.length : Int) ≤ x) = true := by simp at d1 ⊢; omega
                go_wp2
                go_ret
                refine ⟨ret_bool (HN.out).symm, ?_⟩
                exact ExtOf.of (by repeat' (first | (with_reducible exact Ext.refl _) | (with_reducible exact ExtOf.ext _) | (with_reducible refine Ext.trans ?_ (ExtOf.ext _)) | (with_reducible refine Ext.alloc ?_ _) | (with_reducible refine Ext.drew ?_) | (with_reducible refine Ext.setCell ?_ ?_ _) | (with_reducible refine Ext.setRow ?_ ?_ _) | (with_reducible exact HX.out) | (with_reducible refine Ext.trans ?_ HX.out) | (with_reducible refine Ext.below ?_ (Nat.le_refl _) _) | (simp; done) | (simp; omega)))
              · go_wp2
                go_ret
                refine ⟨ret_bool (HN.out).symm, ?_⟩
                exact ExtOf.of (by repeat' (first | (with_reducible exact Ext.refl _) | (with_reducible exact ExtOf.ext _) | (with_reducible refine Ext.trans ?_ (ExtOf.ext _)) | (with_reducible refine Ext.alloc ?_ _) | (with_reducible refine Ext.drew ?_) | (with_reducible refine Ext.setCell ?_ ?_ _) | (with_reducible refine Ext.setRow ?_ ?_ _) | (with_reducible exact HX.out) | (with_reducible refine Ext.trans ?_ HX.out) | (with_reducible refine Ext.below ?_ (Nat.le_refl _) _) | (simp; done) | (simp; omega)))
        · have hs0 : entsOk F 0 to = true := by rw [hs, List.drop_of_length_le (by omega)]; rfl
          have ho : overB F.length (nth (toNats m)) to = false := over_not (fun i hi => by have := HLE.out i hi; rwa [List.take_of_length_le (by omega)] at this)
          have HN : Hid (validS F m to = true) := Lib.hid (by rw [HE.out, hs0, ho]; rfl)
          clear hs hs0 ho
          go_wp2
          go_ret
          refine ⟨ret_bool (HN.out).symm, ?_⟩
          exact ExtOf.of (by repeat' (first | (with_reducible exact Ext.refl _) | (with_reducible exact ExtOf.ext _) | (with_reducible refine Ext.trans ?_ (ExtOf.ext _)) | (with_reducible refine Ext.alloc ?_ _) | (with_reducible refine Ext.drew ?_) | (with_reducible refine Ext.setCell ?_ ?_ _) | (with_reducible refine Ext.setRow ?_ ?_ _) | (with_reducible exact HX.out) | (with_reducible refine Ext.trans ?_ HX.out) | (with_reducible refine Ext.below ?_ (Nat.le_refl _) _) | (simp; done) | (simp; omega)))
    · have HN : Hid (validS F m to = false) := Lib.hid (by simp [validS, t1])
      have hne : ((to.length : Int) != (cols F : Int)) = true := by simp; omega
      go_enter Try.func19, Try.ntmps19
      go_wp2_with fail
      refine (check_any F m _ _ _ hR HG.out H1.out hl).mono ?_
      rintro e w' ⟨rfl, n1, rfl⟩
      rw [t0]
      go_wp2_with fail
      refine (columns_any _ F _ (HG.out.ext n1.ext) (by omega)).mono ?_
      rintro e w' ⟨rfl, n2, rfl⟩
      go_wp2
      go_ret
      refine ⟨ret_bool (HN.out).symm, ?_⟩
      exact ExtOf.of (by repeat' (first | (with_reducible exact Ext.refl _) | (with_reducible exact ExtOf.ext _) | (with_reducible refine Ext.trans ?_ (ExtOf.ext _)) | (with_reducible refine Ext.alloc ?_ _) | (with_reducible refine Ext.drew ?_) | (with_reducible refine Ext.setCell ?_ ?_ _) | (with_reducible refine Ext.setRow ?_ ?_ _) | (with_reducible exact HX.out) | (with_reducible refine Ext.trans ?_ HX.out) | (with_reducible refine Ext.below ?_ (Nat.le_refl _) _) | (simp; done) | (simp; omega)))
  · have HN : Hid (validS F m to = false) := Lib.hid (by simp [validS, t0])
    have hne : (mostErr F m != 0) = true := by simpa using t0
    go_enter Try.func19, Try.ntmps19
    go_wp2_with fail
    refine (check_any F m _ _ _ hR HG.out H1.out hl).mono ?_
    rintro e w' ⟨rfl, n1, rfl⟩
    generalize mostErr F m = te at *
    go_wp2
    go_ret
    refine ⟨ret_bool (HN.out).symm, ?_⟩
    exact ExtOf.of (by repeat' (first | (with_reducible exact Ext.refl _) | (with_reducible exact ExtOf.ext _) | (with_reducible refine Ext.trans ?_ (ExtOf.ext _)) | (with_reducible refine Ext.alloc ?_ _) | (with_reducible refine Ext.drew ?_) | (with_reducible refine Ext.setCell ?_ ?_ _) | (with_reducible refine Ext.setRow ?_ ?_ _) | (with_reducible exact HX.out) | (with_reducible refine Ext.trans ?_ HX.out) | (with_reducible refine Ext.below ?_ (Nat.le_refl _) _) | (simp; done) | (simp; omega)))

end Go.Proofs.Ythchddkdcibbhaa
