/-
  Chapter 62: execute and Do of a line that is not as a command must be.
-/
import Derived.Test.YtjflmmipjeangaaGreatDoorK9
set_option linter.unusedVariables false
set_option linter.unusedSimpArgs false
namespace Go.Proofs.YtjflmmipjeangaaGreatDoor
open Go.RowKit ScM

attribute [local go_sem] ExtOf.cell ExtOf.frozen Block.cell Block.frozen ExtB.cell ExtB.frozen alloc_cell alloc_frozen
/-- numbers in a slice -/
def encI (x : Int) : List Value := [.int .i64 x]
theorem encI_len (x : Int) : (encI x).length = 1 := rfl
theorem encI_one : ∀ x : Int, ∀ u ∈ encI x, u.oneCell' = true := by
  intro x u hu
  simp [encI] at hu
  subst hu
  rfl
theorem infoIntX : (Tryz.prog.info? 3).map (fun i => (i.zero, i.size, i.bytes)) = some (some (.int .i64 0), 1, 8) := by kernel_rfl
theorem errP_cases (s : ByteArray) : errP s = 4 ∨ errP s = 5 ∨ errP s = 0 := by
  unfold errP
  split
  · exact .inl rfl
  · split
    · exact .inr (.inl rfl)
    · split
      · exact .inr (.inl rfl)
      · exact .inr (.inr rfl)
set_option maxRecDepth 20000 in
set_option maxHeartbeats 4000000 in
theorem execute_any (s : ByteArray) (p : Addr) (w : World) (hs : s.size ≤ 400 ∨ 8000 < s.size) (he : errL s ≠ 0) : Calls Tryz.prog 16 #[.pointer (some p), .string s] w fun e w' => e = .returned (.tuple #[.string ⟨#[]⟩, .int .i64 (errL s)]) ∧ ∃ n : ExtOf w, w' = n.val := by
  have HW := Lib.hid fun w => wordsOf_any s w hs
  have hLP := errL_P s
  obtain ⟨iS, hiS, hS0, hS1, hS2⟩ := info_parts infoIntX
  rcases errP_cases s with h | h | h
  · have HE : Hid (errL s = 4) := Lib.hid (by rw [hLP, h]; rfl)
    rw [h] at HW
    clear h hLP he
    go_enter Tryz.func16, Tryz.ntmps16
    go_wp2_with (go_at_call 33; refine (HW.out _).mono ?_; rintro e w' ⟨⟨v, rfl, _⟩, n, rfl⟩)
    go_ret2
    exact ⟨by rw [HE.out]; rfl, ExtOf.of (by with_reducible repeat' (first | exact Ext.refl _ | exact ExtOf.ext _ | refine Ext.trans ?_ (ExtOf.ext _) | refine Ext.alloc ?_ _ | refine Ext.drew ?_ | refine Ext.setCell ?_ ?_ _ | refine Ext.setRow ?_ ?_ _ | exact HX.out | refine Ext.trans ?_ HX.out | omega | (simp; done) | (simp; omega)))⟩
  · have HE : Hid (errL s = 5) := Lib.hid (by rw [hLP, h]; rfl)
    rw [h] at HW
    clear h hLP he
    go_enter Tryz.func16, Tryz.ntmps16
    go_wp2_with (go_at_call 33; refine (HW.out _).mono ?_; rintro e w' ⟨⟨v, rfl, _⟩, n, rfl⟩)
    go_ret2
    exact ⟨by rw [HE.out]; rfl, ExtOf.of (by with_reducible repeat' (first | exact Ext.refl _ | exact ExtOf.ext _ | refine Ext.trans ?_ (ExtOf.ext _) | refine Ext.alloc ?_ _ | refine Ext.drew ?_ | refine Ext.setCell ?_ ?_ _ | refine Ext.setRow ?_ ?_ _ | exact HX.out | refine Ext.trans ?_ HX.out | omega | (simp; done) | (simp; omega)))⟩
  · have hp := partsB_pos s.data.toList
    have hbig : s.size ≤ 400 := by
      rcases hs with h2 | h2
      · exact h2
      · unfold errP at h
        rw [if_pos h2] at h
        cases h
    have hle : (partsB s.data.toList).length ≤ 401 := by
      rw [partsB_len]
      refine Nat.le_trans (parts_len_le _) ?_
      rw [sizeL]; omega
    have HPS : Hid (∀ x ∈ partsB s.data.toList, x.size < 1000) := Lib.hid fun x hx => by
      have := partsB_size _ _ hx
      rw [sizeL] at this
      omega
    rw [if_pos h] at hLP
    have HL2 := Lib.hid hLP
    have HNE := Lib.hid he
    rw [h] at HW
    clear h hLP he
    generalize partsB s.data.toList = l at *
    have hhd : l.headD ⟨#[]⟩ = l[0] := by
      cases l with
      | nil => simp at hp
      | cons x r => rfl
    have HCM := Lib.hid fun w => command_any l[0] w
    cases hcm : cmdOf l[0] with
    | none =>
      have HE : Hid (errL s = 5) := Lib.hid (by rw [HL2.out, errW, hhd, hcm])
      rw [hcm] at HCM
      unfold commandV at HCM
      clear hcm hhd
      go_enter Tryz.func16, Tryz.ntmps16
      go_wp2_with (first | (go_at_call 33; refine (HW.out _).mono ?_; rintro e w' ⟨⟨v, rfl, hsl⟩, n, rfl⟩; have HSL := Lib.hid (hsl trivial); clear hsl; obtain ⟨p1, c1, rfl, hcc⟩ := SliceOf.form HSL.out; obtain ⟨b, off, rfl, hc0⟩ := S.elem HSL.out hp; rw [Nat.add_zero] at hc0) | (go_at_call 34; refine (HCM.out _).mono ?_; rintro e w' ⟨rfl, n2, rfl⟩) | ((with_reducible apply wl_store' lwCmd); (· (first | exact wanted_none rfl | exact wanted_some rfl rfl rfl)); (· rfl); (· rfl); (· infer_instance); (· rfl); (· rfl); (· (simp [Value.oneCell'])); try simp only [setRow_alloc, setRow_new, setRow_new1, setRow_new2, setRow_new11, setRow_new111]))
      go_ret2
      exact ⟨by rw [HE.out]; rfl, ExtOf.of (by with_reducible repeat' (first | exact Ext.refl _ | exact ExtOf.ext _ | refine Ext.trans ?_ (ExtOf.ext _) | refine Ext.alloc ?_ _ | refine Ext.drew ?_ | refine Ext.setCell ?_ ?_ _ | refine Ext.setRow ?_ ?_ _ | exact HX.out | refine Ext.trans ?_ HX.out | omega | (simp; done) | (simp; omega)))⟩
    | some cm =>
      have hcl := (cmdOf_some hcm).1
      rw [hcm] at HCM
      unfold commandV at HCM
      obtain ⟨hk0, hk1⟩ := cmds_kinds cm hcl
      have HL3 : Hid (errL s = if fits cm l.length then (if badFrom (isN cm.kinds) 1 (l.drop 1) then 9 else 0) else 5) := Lib.hid (by
        rw [HL2.out, errW, hhd, hcm]
        cases l with
        | nil => simp at hp
        | cons x r => rfl)
      obtain ⟨m, hm⟩ : ∃ m, l.length = m + 1 := ⟨l.length - 1, by omega⟩
      have HKI := Lib.hid fun w => kindsOf_any hcl m (by omega) w
      have hcs := kF_isN hcl
      clear hcm hhd hk0 hk1
      cases hft : fits cm (m + 1) with
      | false =>
        have HE : Hid (errL s = 5) := Lib.hid (by rw [HL3.out, hm, hft]; rfl)
        rw [hft] at HKI
        clear hft hcs
        go_enter Tryz.func16, Tryz.ntmps16
        go_wp2_with (first | (go_at_call 33; refine (HW.out _).mono ?_; rintro e w' ⟨⟨v, rfl, hsl⟩, n, rfl⟩; have HSL := Lib.hid (hsl trivial); clear hsl; obtain ⟨p1, c1, rfl, hcc⟩ := SliceOf.form HSL.out; obtain ⟨b, off, rfl, hc0⟩ := S.elem HSL.out hp; rw [Nat.add_zero] at hc0) | (go_at_call 34; refine (HCM.out _).mono ?_; rintro e w' ⟨rfl, n2, rfl⟩) | ((with_reducible apply wl_store' lwCmd); (· (first | exact wanted_none rfl | exact wanted_some rfl rfl rfl)); (· rfl); (· rfl); (· infer_instance); (· rfl); (· rfl); (· (simp [Value.oneCell'])); try simp only [setRow_alloc, setRow_new, setRow_new1, setRow_new2, setRow_new11, setRow_new111]) | (go_at_call 35; refine (HKI.out _).mono ?_; rintro e w' ⟨⟨kk, rfl, hkk⟩, n3, rfl⟩))
        all_goals (go_ret2; exact ⟨by rw [HE.out]; rfl, ExtOf.of (by with_reducible repeat' (first | exact Ext.refl _ | exact ExtOf.ext _ | refine Ext.trans ?_ (ExtOf.ext _) | refine Ext.alloc ?_ _ | refine Ext.drew ?_ | refine Ext.setCell ?_ ?_ _ | refine Ext.setRow ?_ ?_ _ | exact HX.out | refine Ext.trans ?_ HX.out | omega | (simp; done) | (simp; omega)))⟩)
      | true =>
        have HL4 : Hid (errL s = if badFrom (isN cm.kinds) 1 (l.drop 1) then 9 else 0) := Lib.hid (by rw [HL3.out, hm, hft]; rfl)
        have HFIX : Hid (∀ k, k < m → (cm.star = true ∨ k < cm.fixed.length)) := Lib.hid fun k hk => by
          unfold fits at hft
          cases hs : cm.star with
          | true => exact .inl rfl
          | false =>
            rw [hs] at hft
            have : m + 1 = cm.fixed.length + 1 := by simpa using hft
            exact .inr (by omega)
        have HKF : Hid (∀ k, k < m → (kF cm k == 110) = isN cm.kinds (k + 1)) := Lib.hid fun k hk => hcs k (HFIX.out k hk)
        have HKR : Hid (∀ kk, KindsR cm m kk → kk.size = m ∧ ∀ i (h : i < kk.size), kk[i] = kF cm i) := Lib.hid fun kk h => h hft
        rw [hft] at HKI
        have hm2 := Lib.hid hm
        clear hft hcs HL3 HL2
        go_enter Tryz.func16, Tryz.ntmps16
        go_wp2_with (first | (go_at_call 33; refine (HW.out _).mono ?_; rintro e w' ⟨⟨v, rfl, hsl⟩, n, rfl⟩; have HSL := Lib.hid (hsl trivial); clear hsl; obtain ⟨p1, c1, rfl, hcc⟩ := SliceOf.form HSL.out; obtain ⟨b, off, rfl, hc0⟩ := S.elem HSL.out hp; rw [Nat.add_zero] at hc0) | (go_at_call 34; refine (HCM.out _).mono ?_; rintro e w' ⟨rfl, n2, rfl⟩) | ((with_reducible apply wl_store' lwCmd); (· (first | exact wanted_none rfl | exact wanted_some rfl rfl rfl)); (· rfl); (· rfl); (· infer_instance); (· rfl); (· rfl); (· (simp [Value.oneCell'])); try simp only [setRow_alloc, setRow_new, setRow_new1, setRow_new2, setRow_new11, setRow_new111]) | (go_at_call 35; refine (HKI.out _).mono ?_; rintro e w' ⟨⟨kk, rfl, hkk⟩, n3, rfl⟩))
        · have HMS0 : SliceOf encS 1 n3.val (.slice (some ⟨b, off, none⟩) m 0) (l.drop 1) := by
            have hm0 : m = 0 := by have := hcc.1; have := hm2.out; omega
            rw [List.drop_of_length_le (by rw [hm2.out]; omega), hm0]
            exact SliceOf.none_of_nil
          have hm3 : m ≤ 400 := by omega
          clear hm hcc
          have HMS : Hid (SliceOf encS 1 n3.val (.slice (some ⟨b, off, none⟩) m 0) (l.drop 1)) := Lib.hid HMS0
          clear HMS0
          have HX3 : Hid (Ext w n3.val) := Lib.hid (by with_reducible repeat' (first | exact Ext.refl _ | exact ExtOf.ext _ | refine Ext.trans ?_ (ExtOf.ext _) | refine Ext.alloc ?_ _ | refine Ext.drew ?_ | refine Ext.setCell ?_ ?_ _ | refine Ext.setRow ?_ ?_ _ | exact HX.out | refine Ext.trans ?_ HX.out | omega | (simp; done) | (simp; omega)))
          obtain ⟨hks, hkf⟩ := HKR.out kk hkk
          have HKK := Lib.hid hkf
          have HKS := Lib.hid hks
          clear hkk hkf hc0
          generalize n3.val = W3 at *
          go_loopw [11, 47] (fun vo vi wr => ∃ (k : Nat) (zs : List Int), k ≤ m ∧ vi = .int .i64 k ∧ zs.length ≤ k ∧ Own encI 1 3 W3.heap.size wr vo zs ∧ Hid (badFrom (isN cm.kinds) 1 (l.drop 1) = badFrom (isN cm.kinds) (k + 1) (l.drop (k + 1))) ∧ Ext W3 wr) (fun _ vi _ => m - (intOf vi).toNat)
          case atStart => exact ⟨0, [], Nat.zero_le _, rfl, Nat.le_refl _, ⟨rfl, .inl ⟨rfl, rfl⟩⟩, Lib.hid rfl, Ext.refl _⟩
          case round =>
            obtain ⟨k, zs, hk, rfl, hzs, ho, HR, hx⟩ := hrel
            have HX4 := Lib.hid hx
            have HO := Lib.hid ho
            obtain ⟨q, cz, rfl⟩ := Own.form2 ho
            clear ho hx
            by_cases hlt : k < m
            · have q5 : decide ((k : Int) < m) = true := decide_eq_true (by omega)
              have q6 : decide (k < m) = true := decide_eq_true hlt
              have hl1 : k + 1 < l.length := by rw [hm2.out]; omega
              have hl2 : k < (l.drop 1).length := by rw [List.length_drop, hm2.out]; omega
              obtain ⟨x, ex⟩ : ∃ x, x = l[k + 1] := ⟨_, rfl⟩
              have HS := Lib.hid (bad_step (f := isN cm.kinds) hl1)
              rw [← ex] at HS
              obtain ⟨b', off', e', hc⟩ := S.elem (SliceOf.ext HMS.out HX4.out) hl2
              have e9 : (l.drop 1)[k] = x := by rw [ex, List.getElem_drop]; congr 1; omega
              rw [e9] at hc
              cases e'
              have HNUM := Lib.hid fun w => number_any x w (HPS.out _ (by rw [ex]; exact List.getElem_mem hl1))
              have hpk : k < kk.size := by rw [HKS.out]; exact hlt
              obtain ⟨y, ey⟩ : ∃ y, y = kk[k] := ⟨_, rfl⟩
              have HIN : Hid (isN cm.kinds (k + 1) = ((kk[k].toNat : Int) == 110)) := Lib.hid (by
                rw [← HKF.out k hlt, ← HKK.out k hpk]
                by_cases h : kk[k] = 110
                · rw [h]; rfl
                · have h2 : kk[k].toNat ≠ 110 := fun e => h (UInt8.toNat_inj.1 e)
                  rw [beq_eq_false_iff_ne.2 h]
                  symm
                  simp
                  omega)
              clear ex e9 ey hl1 hl2
              generalize numOk x.data.toList = ok at *
              cases hn : ((kk[k].toNat : Int) == 110) with
              | true =>
                rw [hn] at HIN
                have hn2 : ((kk[k].toNat : Int) != 110) = false := by simp only [bne, hn]; rfl
                cases ok with
                | true =>
                  have HE : Hid (badFrom (isN cm.kinds) 1 (l.drop 1) = badFrom (isN cm.kinds) (k + 1 + 1) (l.drop (k + 1 + 1))) := Lib.hid (by rw [HR.out, HS.out, HIN.out]; rfl)
                  go_wp2_with (first | (go_at_call 36; refine (HNUM.out _).mono ?_; rintro e w' ⟨⟨v, rfl⟩, h⟩; obtain rfl := h.symm) | (at_builtin; refine wl_append1g (enc := encI) (k := 1) (E := 3) (base := W3.heap.size) (l := zs) (y := v) Tryz.underlying104 hiS hS0 hS1 hS2 rfl (by decide) encI_len encI_one rfl rfl (Own.alloc HO.out _) inferInstance rfl (by unfold maxLen; omega) (by omega) (by have := HX4.out.size; simp; omega) ?_; intro v7 n7 ho7 hk7))
                  go_roundw
                  case rel => exact ⟨k + 1, zs ++ [v], by omega, by first | rfl | go_num, by simp; omega, ho7, HE, Below.trans (HX4.out.trans ((Ext.refl _).alloc _)) n7.below⟩
                  case measure => simp [intOf]; omega
                | false =>
                  have HE : Hid (errL s = 9) := Lib.hid (by rw [HL4.out, HR.out, HS.out, HIN.out]; rfl)
                  go_wp2_with (go_at_call 36; refine (HNUM.out _).mono ?_; rintro e w' ⟨⟨v, rfl⟩, h⟩; obtain rfl := h.symm)
                  go_ret2
                  exact ⟨by rw [HE.out]; rfl, ExtOf.of (HX3.out.trans HX4.out)⟩
              | false =>
                rw [hn] at HIN
                have hn2 : ((kk[k].toNat : Int) != 110) = true := by simp only [bne, hn]; rfl
                have HE : Hid (badFrom (isN cm.kinds) 1 (l.drop 1) = badFrom (isN cm.kinds) (k + 1 + 1) (l.drop (k + 1 + 1))) := Lib.hid (by rw [HR.out, HS.out, HIN.out]; rfl)
                go_wp2_with fail
                go_roundw
                case rel => exact ⟨k + 1, zs, by omega, by first | rfl | go_num, by omega, HO.out, HE, HX4.out⟩
                case measure => simp [intOf]; omega
            · have HE : errL s = 0 := by
                rw [HL4.out, HR.out, List.drop_of_length_le (by rw [hm2.out]; omega)]
                rfl
              exact absurd HE HNE.out
        · have HMS0 : SliceOf encS 1 n3.val (.slice (some ⟨b, off + 1, none⟩) m (c1 - 1)) (l.drop 1) := by
            have h9 := SliceOf.drop HSL.out (show 1 ≤ l.length by omega)
            rw [hm2.out, Nat.add_sub_cancel, Nat.one_mul] at h9
            exact SliceOf.ext h9 (by with_reducible repeat' (first | exact Ext.refl _ | exact ExtOf.ext _ | refine Ext.trans ?_ (ExtOf.ext _) | refine Ext.alloc ?_ _ | refine Ext.drew ?_ | refine Ext.setCell ?_ ?_ _ | refine Ext.setRow ?_ ?_ _ | exact HX.out | refine Ext.trans ?_ HX.out | omega | (simp; done) | (simp; omega)))
          have hm3 : m ≤ 400 := by omega
          clear hm hcc
          have HMS : Hid (SliceOf encS 1 n3.val (.slice (some ⟨b, off + 1, none⟩) m (c1 - 1)) (l.drop 1)) := Lib.hid HMS0
          clear HMS0
          have HX3 : Hid (Ext w n3.val) := Lib.hid (by with_reducible repeat' (first | exact Ext.refl _ | exact ExtOf.ext _ | refine Ext.trans ?_ (ExtOf.ext _) | refine Ext.alloc ?_ _ | refine Ext.drew ?_ | refine Ext.setCell ?_ ?_ _ | refine Ext.setRow ?_ ?_ _ | exact HX.out | refine Ext.trans ?_ HX.out | omega | (simp; done) | (simp; omega)))
          obtain ⟨hks, hkf⟩ := HKR.out kk hkk
          have HKK := Lib.hid hkf
          have HKS := Lib.hid hks
          clear hkk hkf hc0
          generalize n3.val = W3 at *
          go_loopw [11, 47] (fun vo vi wr => ∃ (k : Nat) (zs : List Int), k ≤ m ∧ vi = .int .i64 k ∧ zs.length ≤ k ∧ Own encI 1 3 W3.heap.size wr vo zs ∧ Hid (badFrom (isN cm.kinds) 1 (l.drop 1) = badFrom (isN cm.kinds) (k + 1) (l.drop (k + 1))) ∧ Ext W3 wr) (fun _ vi _ => m - (intOf vi).toNat)
          case atStart => exact ⟨0, [], Nat.zero_le _, rfl, Nat.le_refl _, ⟨rfl, .inl ⟨rfl, rfl⟩⟩, Lib.hid rfl, Ext.refl _⟩
          case round =>
            obtain ⟨k, zs, hk, rfl, hzs, ho, HR, hx⟩ := hrel
            have HX4 := Lib.hid hx
            have HO := Lib.hid ho
            obtain ⟨q, cz, rfl⟩ := Own.form2 ho
            clear ho hx
            by_cases hlt : k < m
            · have q5 : decide ((k : Int) < m) = true := decide_eq_true (by omega)
              have q6 : decide (k < m) = true := decide_eq_true hlt
              have hl1 : k + 1 < l.length := by rw [hm2.out]; omega
              have hl2 : k < (l.drop 1).length := by rw [List.length_drop, hm2.out]; omega
              obtain ⟨x, ex⟩ : ∃ x, x = l[k + 1] := ⟨_, rfl⟩
              have HS := Lib.hid (bad_step (f := isN cm.kinds) hl1)
              rw [← ex] at HS
              obtain ⟨b', off', e', hc⟩ := S.elem (SliceOf.ext HMS.out HX4.out) hl2
              have e9 : (l.drop 1)[k] = x := by rw [ex, List.getElem_drop]; congr 1; omega
              rw [e9] at hc
              cases e'
              have HNUM := Lib.hid fun w => number_any x w (HPS.out _ (by rw [ex]; exact List.getElem_mem hl1))
              have hpk : k < kk.size := by rw [HKS.out]; exact hlt
              obtain ⟨y, ey⟩ : ∃ y, y = kk[k] := ⟨_, rfl⟩
              have HIN : Hid (isN cm.kinds (k + 1) = ((kk[k].toNat : Int) == 110)) := Lib.hid (by
                rw [← HKF.out k hlt, ← HKK.out k hpk]
                by_cases h : kk[k] = 110
                · rw [h]; rfl
                · have h2 : kk[k].toNat ≠ 110 := fun e => h (UInt8.toNat_inj.1 e)
                  rw [beq_eq_false_iff_ne.2 h]
                  symm
                  simp
                  omega)
              clear ex e9 ey hl1 hl2
              generalize numOk x.data.toList = ok at *
              cases hn : ((kk[k].toNat : Int) == 110) with
              | true =>
                rw [hn] at HIN
                have hn2 : ((kk[k].toNat : Int) != 110) = false := by simp only [bne, hn]; rfl
                cases ok with
                | true =>
                  have HE : Hid (badFrom (isN cm.kinds) 1 (l.drop 1) = badFrom (isN cm.kinds) (k + 1 + 1) (l.drop (k + 1 + 1))) := Lib.hid (by rw [HR.out, HS.out, HIN.out]; rfl)
                  go_wp2_with (first | (go_at_call 36; refine (HNUM.out _).mono ?_; rintro e w' ⟨⟨v, rfl⟩, h⟩; obtain rfl := h.symm) | (at_builtin; refine wl_append1g (enc := encI) (k := 1) (E := 3) (base := W3.heap.size) (l := zs) (y := v) Tryz.underlying104 hiS hS0 hS1 hS2 rfl (by decide) encI_len encI_one rfl rfl (Own.alloc HO.out _) inferInstance rfl (by unfold maxLen; omega) (by omega) (by have := HX4.out.size; simp; omega) ?_; intro v7 n7 ho7 hk7))
                  go_roundw
                  case rel => exact ⟨k + 1, zs ++ [v], by omega, by first | rfl | go_num, by simp; omega, ho7, HE, Below.trans (HX4.out.trans ((Ext.refl _).alloc _)) n7.below⟩
                  case measure => simp [intOf]; omega
                | false =>
                  have HE : Hid (errL s = 9) := Lib.hid (by rw [HL4.out, HR.out, HS.out, HIN.out]; rfl)
                  go_wp2_with (go_at_call 36; refine (HNUM.out _).mono ?_; rintro e w' ⟨⟨v, rfl⟩, h⟩; obtain rfl := h.symm)
                  go_ret2
                  exact ⟨by rw [HE.out]; rfl, ExtOf.of (HX3.out.trans HX4.out)⟩
              | false =>
                rw [hn] at HIN
                have hn2 : ((kk[k].toNat : Int) != 110) = true := by simp only [bne, hn]; rfl
                have HE : Hid (badFrom (isN cm.kinds) 1 (l.drop 1) = badFrom (isN cm.kinds) (k + 1 + 1) (l.drop (k + 1 + 1))) := Lib.hid (by rw [HR.out, HS.out, HIN.out]; rfl)
                go_wp2_with fail
                go_roundw
                case rel => exact ⟨k + 1, zs, by omega, by first | rfl | go_num, by omega, HO.out, HE, HX4.out⟩
                case measure => simp [intOf]; omega
            · have HE : errL s = 0 := by
                rw [HL4.out, HR.out, List.drop_of_length_le (by rw [hm2.out]; omega)]
                rfl
              exact absurd HE HNE.out
set_option maxRecDepth 20000 in
set_option maxHeartbeats 1600000 in
/-- Do of a refused line, given what failed does -/
theorem do_any (s : ByteArray) (p : Addr) (w : World) (hs : s.size ≤ 400 ∨ 8000 < s.size) (he : errL s ≠ 0) (o : ByteArray) (hf : ∀ w, Calls Tryz.prog 17 #[.int .i64 (errL s)] w fun e w' => e = .returned (.string o) ∧ ∃ n : ExtOf w, w' = n.val) :
    Calls Tryz.prog 7 #[.pointer (some p), .string s] w fun e w' => e = .returned (.string o) ∧ ∃ n : ExtOf w, w' = n.val := by
  have HEX := Lib.hid fun w => execute_any s p w hs he
  have HF := Lib.hid hf
  have q1 : (errL s != 0) = true := by simp [he]
  have q2 : (errL s == 0) = false := by simp [he]
  clear hf he
  generalize errL s = er at *
  go_enter Tryz.func7, Tryz.ntmps7
  go_wp2_with (first | (go_at_call 16; refine (HEX.out _).mono ?_; rintro e w' ⟨rfl, n, rfl⟩) | (go_at_call 17; refine (HF.out _).mono ?_; rintro e w' ⟨rfl, n2, rfl⟩))
  go_ret
  exact ⟨rfl, ExtOf.of (by with_reducible repeat' (first | exact Ext.refl _ | exact ExtOf.ext _ | refine Ext.trans ?_ (ExtOf.ext _) | refine Ext.alloc ?_ _ | refine Ext.drew ?_ | refine Ext.setCell ?_ ?_ _ | refine Ext.setRow ?_ ?_ _ | exact HX.out | refine Ext.trans ?_ HX.out | omega | (simp; done) | (simp; omega)))⟩
end Go.Proofs.YtjflmmipjeangaaGreatDoor
