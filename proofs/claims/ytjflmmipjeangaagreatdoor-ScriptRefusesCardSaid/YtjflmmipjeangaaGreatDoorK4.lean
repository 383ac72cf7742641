/-
  Chapter 62: several texts in one (S4, S5).
-/
import Derived.Test.YtjflmmipjeangaaGreatDoorK1
import Derived.StillTail
/-
  Chapter 62: the reference's numbers.
-/
section
set_option linter.unusedVariables false
set_option linter.unusedSimpArgs false
namespace Go.Proofs.YtjflmmipjeangaaGreatDoor
open Go.RowKit ScM

attribute [local go_sem] ExtOf.cell ExtOf.frozen Block.cell Block.frozen ExtB.cell ExtB.frozen alloc_cell alloc_frozen
/-- bytes -/
def encU (c : UInt8) : List Value := [.int .u8 (c.toNat : Int)]
theorem encU_len (c : UInt8) : (encU c).length = 1 := rfl
theorem encU_one : ∀ x : UInt8, ∀ u ∈ encU x, u.oneCell' = true := by
  intro x u hu
  simp [encU] at hu
  subst hu
  rfl
theorem U.elem {w : World} {p : Option Addr} {n cap : Nat} {l : List UInt8} (h : SliceOf encU 1 w (.slice p n cap) l) {i : Nat} (hi : i < l.length) : ∃ b off, p = some ⟨b, off, none⟩ ∧ w.cell? ⟨b, off + i, none⟩ = some (.int .u8 (l[i].toNat : Int)) := by
  obtain ⟨b, off, rfl, hr⟩ := SliceOf.elemK h hi
  exact ⟨b, off, rfl, by have := hr 0 _ rfl; simpa using this⟩
theorem info_parts {P : Program} {T n b : Nat} {z : Value} (h : (P.info? T).map (fun i => (i.zero, i.size, i.bytes)) = some (some z, n, b)) : ∃ i, P.info? T = some i ∧ i.zero = some z ∧ i.size = n ∧ i.bytes = b := by
  cases hi : P.info? T with
  | none => rw [hi] at h; cases h
  | some i =>
    rw [hi] at h
    simp only [Option.map_some, Option.some.injEq, Prod.mk.injEq] at h
    exact ⟨i, rfl, h.1, h.2.1, h.2.2⟩
theorem infoU8 : (Tryz.prog.info? 5).map (fun i => (i.zero, i.size, i.bytes)) = some (some (.int .u8 0), 1, 1) := by kernel_rfl
theorem clamp0 (w : World) : Calls Tryz.prog 38 #[.int .i64 0, .int .i64 0, .int .i64 9] w fun e w' => e = .returned (.int .i64 0) ∧ ∃ n : ExtOf w, w' = n.val := by
  go_enter Tryz.func38, Tryz.ntmps38
  go_wp2_with fail
  go_ret
  exact ⟨rfl, ExtOf.of (Ext.refl _)⟩
theorem digit_any (c : UInt8) (w : World) : Calls Tryz.prog 143 #[.int .u8 (c.toNat : Int)] w fun e w' => e = .returned (.bool (dig c)) ∧ w' = w := by
  cases h1 : decide ((48 : Int) ≤ (c.toNat : Int)) with
  | false =>
    have hd : dig c = false := dig_low (by have := of_decide_eq_false h1; omega)
    go_enter Tryz.func143, Tryz.ntmps143
    go_wp2_with fail
    go_ret
    exact ⟨by rw [hd]; rfl, rfl⟩
  | true =>
    cases h2 : decide ((c.toNat : Int) ≤ 57) with
    | false =>
      have hd : dig c = false := dig_high (by have := of_decide_eq_false h2; omega)
      go_enter Tryz.func143, Tryz.ntmps143
      go_wp2_with fail
      go_ret
      exact ⟨by rw [hd]; rfl, rfl⟩
    | true =>
      have hd : dig c = true := dig_mid (by have := of_decide_eq_true h1; omega) (by have := of_decide_eq_true h2; omega)
      go_enter Tryz.func143, Tryz.ntmps143
      go_wp2_with fail
      go_ret
      exact ⟨by rw [hd]; rfl, rfl⟩
theorem Own.form2 {α : Type} {enc : α → List Value} {k E base : Nat} {w : World} {v : Value} {r : List α} (h : Own enc k E base w v r) : ∃ q cap, v = .slice q r.length cap := by
  obtain ⟨hl, h | ⟨g, cap, cur, rfl, hb, hg, hn, hc, hs, ht⟩⟩ := h
  · obtain ⟨rfl, hn⟩ := h
    exact ⟨none, 0, by rw [hn]⟩
  · exact ⟨_, _, rfl⟩
/-- the digits' values -/
def digs (s : ByteArray) : List UInt8 := s.data.toList.map (· - 48)
/-- what form returns -/
def FormR (s : ByteArray) (w : World) (e : Ending) (w' : World) : Prop :=
  ∃ v : Value, e = .returned (.tuple #[v, .bool (formOk s.data.toList)]) ∧ (formOk s.data.toList = true → Own encU 1 5 w.heap.size w' v (digs s)) ∧ ∃ n : ExtOf w, w' = n.val
theorem digs_step {s : ByteArray} {k : Nat} (h : k < s.size) : (digs s).take (k + 1) = (digs s).take k ++ [s[k] - 48] := by
  have hs := sizeL s
  have hl : k < (digs s).length := by rw [digs, List.length_map]; omega
  rw [List.take_succ_eq_append_getElem hl]
  simp [digs]
  rfl
theorem sub48 {c : UInt8} (h : 48 ≤ c.toNat) : ((c - 48).toNat : Int) = (c.toNat : Int) - 48 := by
  have : (c - 48).toNat = c.toNat - 48 := UInt8.toNat_sub_of_le _ _ (by show (48 : UInt8).toNat ≤ c.toNat; exact h)
  omega
set_option maxRecDepth 20000 in
theorem form_any (s : ByteArray) (w : World) (hs : s.size < 1000) : Calls Tryz.prog 77 #[.string s, .int .i64 0] w (FormR s w) := by
  obtain ⟨iU, hiU, hU0, hU1, hU2⟩ := info_parts infoU8
  by_cases h0 : s.size = 0
  · obtain rfl := zero_of h0
    go_enter Tryz.func77, Tryz.ntmps77
    go_wp2_with fail
    go_ret2
    exact ⟨_, rfl, (fun h => by cases h), ExtOf.of (Ext.refl _)⟩
  have q0 : decide ((s.size : Int) < 1) = false := decide_eq_false (by omega)
  cases hz : (((s[0]'(by omega)).toNat : Int) == 48) with
  | true =>
    by_cases h1 : s.size = 1
    · have HF := Lib.hid (wp_loop_facts s (by omega) (.inl h1))
      have q2 : decide ((1 : Int) < (s.size : Int)) = false := decide_eq_false (by omega)
      go_enter Tryz.func77, Tryz.ntmps77
      go_wp2_with fail
      go_loopw [7, 8] (fun vo vi wr => ∃ k : Nat, k ≤ s.size ∧ vi = .int .i64 k ∧ Own encU 1 5 w.heap.size wr vo ((digs s).take k) ∧ Hid (formOk s.data.toList = (s.data.toList.drop k).all dig) ∧ Ext w wr) (fun _ vi _ => s.size - (intOf vi).toNat)
      case atStart => exact ⟨0, Nat.zero_le _, rfl, Own.nil _, HF, Ext.refl _⟩
      case round =>
        obtain ⟨k, hk, rfl, ho, HR, hx⟩ := hrel
        have HX := Lib.hid hx
        have HO := Lib.hid ho
        have hlen : ((digs s).take k).length = k := by rw [List.length_take, digs, List.length_map, sizeL]; omega
        obtain ⟨q, c, rfl⟩ := Own.form2 ho
        rw [hlen] at HO ⊢
        clear ho hx
        by_cases hlt : k < s.size
        · have HS := Lib.hid (all_step hlt)
          have q1 : decide ((k : Int) < s.size) = true := decide_eq_true (by omega)
          have q2 : ((k : Int) == (s.size : Int)) = false := by simp; omega
          have q3 : decide ((k : Int) = (s.size : Int)) = false := by simp; omega
          cases hd : dig s[k] with
          | false =>
            have HD : Hid (formOk s.data.toList = false) := Lib.hid (by rw [HR.out, HS.out, hd]; rfl)
            go_wp2_with (go_at_call 143; refine (digit_any _ _).mono ?_; rintro en w' ⟨rfl, h⟩; obtain rfl := h.symm)
            go_ret2
            exact ⟨_, by rw [HD.out]; rfl, (fun h => by rw [HD.out] at h; cases h), ExtOf.of HX.out⟩
          | true =>
            have HD : Hid (formOk s.data.toList = (s.data.toList.drop (k + 1)).all dig) := Lib.hid (by rw [HR.out, HS.out, hd]; rfl)
            have HT := Lib.hid (digs_step hlt)
            obtain ⟨hd1, hd2⟩ := (dig_iff _).1 hd
            have e48 : (s[k].toNat : Int) - 48 = ((s[k] - 48).toNat : Int) := (sub48 hd1).symm
            have e8 : IntKind.u8.wrap ((s[k].toNat : Int) - 48) = ((s[k] - 48).toNat : Int) := by rw [← e48]; simp [IntKind.wrap, IntKind.signed, IntKind.bits]; omega
            go_wp2_with first | (go_at_call 143; refine (digit_any _ _).mono ?_; rintro en w' ⟨rfl, h⟩; obtain rfl := h.symm) | (at_builtin; refine wl_append1g (enc := encU) (k := 1) (E := 5) (base := w.heap.size) (l := (digs s).take k) (y := s[k] - 48) Tryz.underlying61 hiU hU0 hU1 hU2 rfl (by decide) encU_len encU_one rfl rfl (Own.alloc HO.out _) inferInstance (by first | rfl | simp [encU, e48]) (by rw [hlen]; unfold maxLen; omega) (by rw [hlen]; omega) (by have := HX.out.size; simp; omega) ?_; intro v7 n7 ho7 hk7)
            go_roundw
            case rel => exact ⟨k + 1, by omega, by first | rfl | go_num, by rw [HT.out]; exact ho7, HD, Below.trans (HX.out.trans ((Ext.refl _).alloc _)) n7.below⟩
            case measure => simp [intOf]; omega
        · have HE := Lib.hid (all_end (s := s) (k := k) (by omega))
          have q1 : decide ((k : Int) < s.size) = false := decide_eq_false (by omega)
          go_wp2_with fail
          go_ret2
          refine ⟨_, by rw [HR.out, HE.out]; rfl, (fun _ => ?_), ExtOf.of HX.out⟩
          have := HO.out
          rwa [List.take_of_length_le (by rw [digs, List.length_map, sizeL]; omega)] at this
    · have q2 : decide ((1 : Int) < (s.size : Int)) = true := decide_eq_true (by omega)
      have HF : Hid (formOk s.data.toList = false) := Lib.hid (by
        have : s[0] = 48 := UInt8.toNat_inj.1 (by simp at hz; show s[0].toNat = 48; omega)
        unfold formOk
        rw [head0 (by omega), sizeL, this]
        simp [(by omega : 1 < s.size)])
      go_enter Tryz.func77, Tryz.ntmps77
      go_wp2_with fail
      go_ret2
      exact ⟨_, by rw [HF.out]; rfl, (fun h => by rw [HF.out] at h; cases h), ExtOf.of (Ext.refl _)⟩
  | false =>
    have HF := Lib.hid (wp_loop_facts s (by omega) (.inr (by simp at hz; omega)))
    go_enter Tryz.func77, Tryz.ntmps77
    go_wp2_with fail
    go_loopw [7, 8] (fun vo vi wr => ∃ k : Nat, k ≤ s.size ∧ vi = .int .i64 k ∧ Own encU 1 5 w.heap.size wr vo ((digs s).take k) ∧ Hid (formOk s.data.toList = (s.data.toList.drop k).all dig) ∧ Ext w wr) (fun _ vi _ => s.size - (intOf vi).toNat)
    case atStart => exact ⟨0, Nat.zero_le _, rfl, Own.nil _, HF, Ext.refl _⟩
    case round =>
      obtain ⟨k, hk, rfl, ho, HR, hx⟩ := hrel
      have HX := Lib.hid hx
      have HO := Lib.hid ho
      have hlen : ((digs s).take k).length = k := by rw [List.length_take, digs, List.length_map, sizeL]; omega
      obtain ⟨q, c, rfl⟩ := Own.form2 ho
      rw [hlen] at HO ⊢
      clear ho hx
      by_cases hlt : k < s.size
      · have HS := Lib.hid (all_step hlt)
        have q1 : decide ((k : Int) < s.size) = true := decide_eq_true (by omega)
        have q2 : ((k : Int) == (s.size : Int)) = false := by simp; omega
        have q3 : decide ((k : Int) = (s.size : Int)) = false := by simp; omega
        cases hd : dig s[k] with
        | false =>
          have HD : Hid (formOk s.data.toList = false) := Lib.hid (by rw [HR.out, HS.out, hd]; rfl)
          go_wp2_with (go_at_call 143; refine (digit_any _ _).mono ?_; rintro en w' ⟨rfl, h⟩; obtain rfl := h.symm)
          go_ret2
          exact ⟨_, by rw [HD.out]; rfl, (fun h => by rw [HD.out] at h; cases h), ExtOf.of HX.out⟩
        | true =>
          have HD : Hid (formOk s.data.toList = (s.data.toList.drop (k + 1)).all dig) := Lib.hid (by rw [HR.out, HS.out, hd]; rfl)
          have HT := Lib.hid (digs_step hlt)
          obtain ⟨hd1, hd2⟩ := (dig_iff _).1 hd
          have e48 : (s[k].toNat : Int) - 48 = ((s[k] - 48).toNat : Int) := (sub48 hd1).symm
          have e8 : IntKind.u8.wrap ((s[k].toNat : Int) - 48) = ((s[k] - 48).toNat : Int) := by rw [← e48]; simp [IntKind.wrap, IntKind.signed, IntKind.bits]; omega
          go_wp2_with first | (go_at_call 143; refine (digit_any _ _).mono ?_; rintro en w' ⟨rfl, h⟩; obtain rfl := h.symm) | (at_builtin; refine wl_append1g (enc := encU) (k := 1) (E := 5) (base := w.heap.size) (l := (digs s).take k) (y := s[k] - 48) Tryz.underlying61 hiU hU0 hU1 hU2 rfl (by decide) encU_len encU_one rfl rfl (Own.alloc HO.out _) inferInstance (by first | rfl | simp [encU, e48]) (by rw [hlen]; unfold maxLen; omega) (by rw [hlen]; omega) (by have := HX.out.size; simp; omega) ?_; intro v7 n7 ho7 hk7)
          go_roundw
          case rel => exact ⟨k + 1, by omega, by first | rfl | go_num, by rw [HT.out]; exact ho7, HD, Below.trans (HX.out.trans ((Ext.refl _).alloc _)) n7.below⟩
          case measure => simp [intOf]; omega
      · have HE := Lib.hid (all_end (s := s) (k := k) (by omega))
        have q1 : decide ((k : Int) < s.size) = false := decide_eq_false (by omega)
        go_wp2_with fail
        go_ret2
        refine ⟨_, by rw [HR.out, HE.out]; rfl, (fun _ => ?_), ExtOf.of HX.out⟩
        have := HO.out
        rwa [List.take_of_length_le (by rw [digs, List.length_map, sizeL]; omega)] at this
/-- what the reference's Parse returns -/
def RParseR (s : ByteArray) (w : World) (e : Ending) (w' : World) : Prop := ∃ v er : Int, e = .returned (.tuple #[.int .i64 v, .int .i64 er]) ∧ numOk s.data.toList = okV v er ∧ ∃ n : ExtOf w, w' = n.val
theorem index_neg (s : ByteArray) (h : 0 < s.size) : neg s = ((s[0].toNat : Int) == 45) := by
  rw [neg, head0 h]
  by_cases hc : s[0] = 45
  · simp [hc]
  · have : s[0].toNat ≠ 45 := fun e => hc (UInt8.toNat_inj.1 e)
    simp [hc]
    omega
theorem digs_len (t : ByteArray) : (digs t).length = t.size := by rw [digs, List.length_map, sizeL]
theorem digs_at {t : ByteArray} {k : Nat} (hk : k < t.size) (h48 : 48 ≤ t[k].toNat) (hd : k < (digs t).length) : ((digs t)[k].toNat : Int) = (t[k].toNat : Int) - 48 := by
  have : (digs t)[k] = t[k] - 48 := by simp [digs]; rfl
  rw [this, sub48 h48]
/-- more than the greatest magnitude -/
def over (l : List UInt8) : Bool := decide (9223372036854775808 < val l)
/-- no value -/
def nought (l : List UInt8) : Bool := decide (val l = 0)
theorem over_step {t : ByteArray} {k n : Nat} {o : Bool} (hk : k < t.size) (h1 : 48 ≤ t[k].toNat) (ho : o = over (t.data.toList.take k)) (hn : o = false → n = val (t.data.toList.take k)) : over (t.data.toList.take (k + 1)) = (o || decide ((9223372036854775808 - ((t[k].toNat : Int) - 48)) / 10 < (n : Int))) := by
  have hv := val_at hk
  unfold over at *
  cases o with
  | true =>
    have h3 := of_decide_eq_true ho.symm
    rw [Bool.true_or]
    exact decide_eq_true (by omega)
  | false =>
    have h3 := hn rfl
    rw [Bool.false_or, hv]
    apply decide_eq_decide.2
    omega
theorem nought_step {t : ByteArray} {k : Nat} (hk : k < t.size) (h1 : 48 ≤ t[k].toNat) : nought (t.data.toList.take (k + 1)) = (nought (t.data.toList.take k) && ((t[k].toNat : Int) - 48 == 0)) := by
  have hv := val_at hk
  unfold nought
  rw [hv]
  by_cases h : t[k].toNat = 48
  · rw [h]; simp; omega
  · have : ((t[k].toNat : Int) - 48 == 0) = false := by simp; omega
    rw [this, Bool.and_false]
    exact decide_eq_false (by omega)
set_option maxRecDepth 20000 in
set_option maxHeartbeats 1600000 in
theorem rparse_any (s : ByteArray) (w : World) (hs : s.size < 1000) : Calls Tryz.prog 32 #[.string s, .int .i64 0] w (RParseR s w) := by
  by_cases h0 : s.size = 0
  · obtain rfl := zero_of h0
    go_enter Tryz.func32, Tryz.ntmps32
    go_wp2_with fail
    go_ret2
    exact ⟨0, 3, rfl, rfl, ExtOf.of (Ext.refl _)⟩
  have q0 := empty_eq s (by omega)
  have hp : 0 < s.size := by omega
  have HN := Lib.hid (numOk_eq s)
  have HF := Lib.hid fun w => form_any (bareB s) w (Nat.lt_of_le_of_lt (bareB_size s) hs)
  have hts : (bareB s).size < 1000 := Nat.lt_of_le_of_lt (bareB_size s) hs
  cases hn : neg s with
  | true =>
    obtain ⟨hb, _⟩ := bare_true hn
    have hi := index_neg s hp
    rw [hn] at hi HN
    have q1 := hi.symm
    obtain ⟨t, ht⟩ : ∃ t, t = bareB s := ⟨_, rfl⟩
    have HF : Hid (∀ w, Calls Tryz.prog 77 #[.string (s.extract 1 s.size), .int .i64 0] w (FormR t w)) := Lib.hid (by rw [← hb, ht]; exact HF.out)
    unfold FormR at HF
    rw [← ht] at HN hts
    cases hf : formOk t.data.toList with
    | false =>
      rw [hf] at HN HF
      clear ht hb hi hn
      go_enter Tryz.func32, Tryz.ntmps32
      go_wp2_with first | (go_at_call 38; refine (clamp0 _).mono ?_; rintro en w' ⟨rfl, n1, rfl⟩) | (go_at_call 77; refine (HF.out _).mono ?_; rintro en w' ⟨v, rfl, hown, n2, rfl⟩)
      go_ret2
      exact ⟨0, 5, rfl, by rw [HN.out]; rfl, ExtOf.of (by with_reducible repeat' (first | exact Ext.refl _ | exact ExtOf.ext _ | refine Ext.trans ?_ (ExtOf.ext _) | refine Ext.alloc ?_ _ | refine Ext.drew ?_ | refine Ext.setCell ?_ ?_ _ | refine Ext.setRow ?_ ?_ _ | exact HX.out | refine Ext.trans ?_ HX.out | omega | (simp; done) | (simp; omega)))⟩
    | true =>
      have HD := Lib.hid fun k (h : k < t.size) => dig_at hf h
      rw [hf] at HN HF
      clear ht hb hi hn hf
      go_enter Tryz.func32, Tryz.ntmps32
      go_wp2_with first | (go_at_call 38; refine (clamp0 _).mono ?_; rintro en w' ⟨rfl, n1, rfl⟩) | (go_at_call 77; refine (HF.out _).mono ?_; rintro en w' ⟨v, rfl, hown, n2, rfl⟩)
      have HX : Hid (Ext w n2.val) := Lib.hid (by with_reducible repeat' (first | exact Ext.refl _ | exact ExtOf.ext _ | refine Ext.trans ?_ (ExtOf.ext _) | refine Ext.alloc ?_ _ | refine Ext.drew ?_ | refine Ext.setCell ?_ ?_ _ | refine Ext.setRow ?_ ?_ _ | exact HX.out | refine Ext.trans ?_ HX.out | omega | (simp; done) | (simp; omega)))
      have HSL := Lib.hid (Own.slice encU_len (hown trivial))
      obtain ⟨q, c, rfl⟩ := Own.form2 (hown trivial)
      rw [digs_len] at HSL ⊢
      clear hown
      generalize n2.val = W0 at *
      go_loop [9, 10, 11, 12] (fun vu vo vz vi => ∃ (k n : Nat) (o z : Bool), k ≤ t.size ∧ vi = .int .i64 k ∧ vu = .int .u64 n ∧ vo = .bool o ∧ vz = .bool z ∧ n ≤ 9223372036854775808 ∧ Hid (o = over (t.data.toList.take k)) ∧ Hid (z = nought (t.data.toList.take k)) ∧ Hid (o = false → n = val (t.data.toList.take k))) (fun _ _ _ vi => t.size - (intOf vi).toNat)
      case atStart => exact ⟨0, 0, false, true, Nat.zero_le _, rfl, rfl, rfl, rfl, by omega, Lib.hid rfl, Lib.hid rfl, Lib.hid fun _ => rfl⟩
      case round =>
        obtain ⟨k, n, o, z, hk, rfl, rfl, rfl, rfl, hl, HO, HZ, HR⟩ := hrel
        by_cases hlt : k < t.size
        · have q3 : decide ((k : Int) < t.size) = true := decide_eq_true (by omega)
          obtain ⟨hd1, hd2⟩ := HD.out k hlt
          obtain ⟨b, off, rfl, hc⟩ := U.elem HSL.out (i := k) (by rw [digs_len]; exact hlt)
          rw [digs_at hlt hd1] at hc
          have HS := Lib.hid (over_step hlt hd1 HO.out HR.out)
          have HZS := Lib.hid (nought_step (t := t) hlt hd1)
          have HV1 := Lib.hid (val_at (t := t) hlt)
          cases z with
          | true =>
            cases o with
            | true =>
              go_wp2_with fail
              go_round
              case rel => exact ⟨k + 1, n, true, ((t[k].toNat : Int) - 48 == 0), by omega, by first | rfl | go_num, by first | rfl | (congr 1; omega), rfl, rfl, by omega, Lib.hid (by rw [HS.out]; first | rfl | simp [hB]), Lib.hid (by rw [HZS.out, ← HZ.out]; simp), Lib.hid (fun h => by first | exact Bool.noConfusion h | rw [HV1.out, ← HR.out rfl])⟩
              case measure => simp [intOf]; omega
            | false =>
              cases hB : decide ((9223372036854775808 - ((t[k].toNat : Int) - 48)) / 10 < (n : Int)) with
              | true =>
                go_wp2_with fail
                go_round
                case rel => exact ⟨k + 1, n, true, ((t[k].toNat : Int) - 48 == 0), by omega, by first | rfl | go_num, by first | rfl | (congr 1; omega), rfl, rfl, by omega, Lib.hid (by rw [HS.out]; first | rfl | simp [hB]), Lib.hid (by rw [HZS.out, ← HZ.out]; simp), Lib.hid (fun h => by first | exact Bool.noConfusion h | rw [HV1.out, ← HR.out rfl])⟩
                case measure => simp [intOf]; omega
              | false =>
                have hB2 := of_decide_eq_false hB
                have e1 : IntKind.u64.wrap (10 * (n : Int)) = 10 * n := by simp [IntKind.wrap, IntKind.signed, IntKind.bits]; omega
                have e2 : IntKind.u64.wrap (10 * (n : Int) + ((t[k].toNat : Int) - 48)) = 10 * n + ((t[k].toNat : Int) - 48) := by simp [IntKind.wrap, IntKind.signed, IntKind.bits]; omega
                go_wp2_with fail
                go_round
                case rel => exact ⟨k + 1, 10 * n + (t[k].toNat - 48), false, ((t[k].toNat : Int) - 48 == 0), by omega, by first | rfl | go_num, by first | rfl | (congr 1; omega), rfl, rfl, by omega, Lib.hid (by rw [HS.out]; first | rfl | simp [hB]), Lib.hid (by rw [HZS.out, ← HZ.out]; simp), Lib.hid (fun h => by first | exact Bool.noConfusion h | rw [HV1.out, ← HR.out rfl])⟩
                case measure => simp [intOf]; omega
          | false =>
            cases o with
            | true =>
              go_wp2_with fail
              go_round
              case rel => exact ⟨k + 1, n, true, false, by omega, by first | rfl | go_num, by first | rfl | (congr 1; omega), rfl, rfl, by omega, Lib.hid (by rw [HS.out]; first | rfl | simp [hB]), Lib.hid (by rw [HZS.out, ← HZ.out]; simp), Lib.hid (fun h => by first | exact Bool.noConfusion h | rw [HV1.out, ← HR.out rfl])⟩
              case measure => simp [intOf]; omega
            | false =>
              cases hB : decide ((9223372036854775808 - ((t[k].toNat : Int) - 48)) / 10 < (n : Int)) with
              | true =>
                go_wp2_with fail
                go_round
                case rel => exact ⟨k + 1, n, true, false, by omega, by first | rfl | go_num, by first | rfl | (congr 1; omega), rfl, rfl, by omega, Lib.hid (by rw [HS.out]; first | rfl | simp [hB]), Lib.hid (by rw [HZS.out, ← HZ.out]; simp), Lib.hid (fun h => by first | exact Bool.noConfusion h | rw [HV1.out, ← HR.out rfl])⟩
                case measure => simp [intOf]; omega
              | false =>
                have hB2 := of_decide_eq_false hB
                have e1 : IntKind.u64.wrap (10 * (n : Int)) = 10 * n := by simp [IntKind.wrap, IntKind.signed, IntKind.bits]; omega
                have e2 : IntKind.u64.wrap (10 * (n : Int) + ((t[k].toNat : Int) - 48)) = 10 * n + ((t[k].toNat : Int) - 48) := by simp [IntKind.wrap, IntKind.signed, IntKind.bits]; omega
                go_wp2_with fail
                go_round
                case rel => exact ⟨k + 1, 10 * n + (t[k].toNat - 48), false, false, by omega, by first | rfl | go_num, by first | rfl | (congr 1; omega), rfl, rfl, by omega, Lib.hid (by rw [HS.out]; first | rfl | simp [hB]), Lib.hid (by rw [HZS.out, ← HZ.out]; simp), Lib.hid (fun h => by first | exact Bool.noConfusion h | rw [HV1.out, ← HR.out rfl])⟩
                case measure => simp [intOf]; omega
        · have q3 : decide ((k : Int) < t.size) = false := decide_eq_false (by omega)
          have HE := Lib.hid (show t.data.toList.take k = t.data.toList from List.take_of_length_le (by rw [sizeL]; omega))
          rw [HE.out] at HO HZ HR
          cases z with
          | true =>
            have hv : val t.data.toList = 0 := of_decide_eq_true HZ.out.symm
            go_wp2_with fail
            go_ret2
            exact ⟨0, 5, rfl, by rw [HN.out, decide_eq_true hv]; rfl, ExtOf.of HX.out⟩
          | false =>
            have hv : ¬ val t.data.toList = 0 := of_decide_eq_false HZ.out.symm
            cases o with
            | true =>
              have hv2 : 9223372036854775808 < val t.data.toList := of_decide_eq_true HO.out.symm
              go_wp2_with fail
              go_ret2
              exact ⟨0, 9, rfl, by rw [HN.out, (decide_eq_false (by omega) : decide (val t.data.toList ≤ 1099511627776) = false), Bool.and_false]; rfl, ExtOf.of HX.out⟩
            | false =>
              have hn := Lib.hid (HR.out rfl)
              have hn1 : 1 ≤ n := by have := hn.out; omega
              have e1 : IntKind.u64.wrap ((n : Int) - 1) = n - 1 := by simp [IntKind.wrap, IntKind.signed, IntKind.bits]; omega
              have e3 : wrap64 ((n : Int) - 1) = n - 1 := by unfold wrap64; omega
              have e4 : wrap64 (-((n : Int) - 1)) = -((n : Int) - 1) := by unfold wrap64; omega
              have e5 : wrap64 (-((n : Int) - 1) - 1) = -((n : Int) - 1) - 1 := by unfold wrap64; omega
              have HK : Hid (numOk s.data.toList = okV (-((n : Int) - 1) - 1) 0) := Lib.hid (by
                rw [HN.out, ← hn.out, okV, decide_eq_true (rfl : (0 : Int) = 0), (decide_eq_true (by omega) : decide (-((n : Int) - 1) - 1 ≤ 1099511627776) = true), (decide_eq_false (by omega) : decide (n = 0) = false), Bool.and_true]
                show decide (n ≤ 1099511627776) = decide ((-1099511627776 : Int) ≤ -((n : Int) - 1) - 1)
                apply decide_eq_decide.2
                omega)
              cases hB : decide ((9223372036854775807 : Int) < (n : Int)) with
              | true =>
                go_wp2_with fail
                go_ret2
                exact ⟨_, 0, rfl, HK.out, ExtOf.of HX.out⟩
              | false =>
                go_wp2_with fail
                go_ret2
                exact ⟨_, 0, rfl, HK.out, ExtOf.of HX.out⟩
  | false =>
    have hb := bare_false hn
    have hi := index_neg s hp
    rw [hn] at hi HN
    have q1 := hi.symm
    rw [hb] at HN HF
    unfold FormR at HF
    obtain ⟨t, ht⟩ : ∃ t, t = s := ⟨_, rfl⟩
    subst ht
    cases hf : formOk t.data.toList with
    | false =>
      rw [hf] at HN HF
      clear hb hi hn
      go_enter Tryz.func32, Tryz.ntmps32
      go_wp2_with first | (go_at_call 38; refine (clamp0 _).mono ?_; rintro en w' ⟨rfl, n1, rfl⟩) | (go_at_call 77; refine (HF.out _).mono ?_; rintro en w' ⟨v, rfl, hown, n2, rfl⟩)
      go_ret2
      exact ⟨0, 5, rfl, by rw [HN.out]; rfl, ExtOf.of (by with_reducible repeat' (first | exact Ext.refl _ | exact ExtOf.ext _ | refine Ext.trans ?_ (ExtOf.ext _) | refine Ext.alloc ?_ _ | refine Ext.drew ?_ | refine Ext.setCell ?_ ?_ _ | refine Ext.setRow ?_ ?_ _ | exact HX.out | refine Ext.trans ?_ HX.out | omega | (simp; done) | (simp; omega)))⟩
    | true =>
      have HD := Lib.hid fun k (h : k < t.size) => dig_at hf h
      rw [hf] at HN HF
      clear hb hi hn hf
      have hts := hs
      go_enter Tryz.func32, Tryz.ntmps32
      go_wp2_with first | (go_at_call 38; refine (clamp0 _).mono ?_; rintro en w' ⟨rfl, n1, rfl⟩) | (go_at_call 77; refine (HF.out _).mono ?_; rintro en w' ⟨v, rfl, hown, n2, rfl⟩)
      have HX : Hid (Ext w n2.val) := Lib.hid (by with_reducible repeat' (first | exact Ext.refl _ | exact ExtOf.ext _ | refine Ext.trans ?_ (ExtOf.ext _) | refine Ext.alloc ?_ _ | refine Ext.drew ?_ | refine Ext.setCell ?_ ?_ _ | refine Ext.setRow ?_ ?_ _ | exact HX.out | refine Ext.trans ?_ HX.out | omega | (simp; done) | (simp; omega)))
      have HSL := Lib.hid (Own.slice encU_len (hown trivial))
      obtain ⟨q, c, rfl⟩ := Own.form2 (hown trivial)
      rw [digs_len] at HSL ⊢
      clear hown
      generalize n2.val = W0 at *
      go_loop [9, 10, 11, 12] (fun vu vo vz vi => ∃ (k n : Nat) (o z : Bool), k ≤ t.size ∧ vi = .int .i64 k ∧ vu = .int .u64 n ∧ vo = .bool o ∧ vz = .bool z ∧ n ≤ 9223372036854775808 ∧ Hid (o = over (t.data.toList.take k)) ∧ Hid (z = nought (t.data.toList.take k)) ∧ Hid (o = false → n = val (t.data.toList.take k))) (fun _ _ _ vi => t.size - (intOf vi).toNat)
      case atStart => exact ⟨0, 0, false, true, Nat.zero_le _, rfl, rfl, rfl, rfl, by omega, Lib.hid rfl, Lib.hid rfl, Lib.hid fun _ => rfl⟩
      case round =>
        obtain ⟨k, n, o, z, hk, rfl, rfl, rfl, rfl, hl, HO, HZ, HR⟩ := hrel
        by_cases hlt : k < t.size
        · have q3 : decide ((k : Int) < t.size) = true := decide_eq_true (by omega)
          obtain ⟨hd1, hd2⟩ := HD.out k hlt
          obtain ⟨b, off, rfl, hc⟩ := U.elem HSL.out (i := k) (by rw [digs_len]; exact hlt)
          rw [digs_at hlt hd1] at hc
          have HS := Lib.hid (over_step hlt hd1 HO.out HR.out)
          have HZS := Lib.hid (nought_step (t := t) hlt hd1)
          have HV1 := Lib.hid (val_at (t := t) hlt)
          cases z with
          | true =>
            cases o with
            | true =>
              go_wp2_with fail
              go_round
              case rel => exact ⟨k + 1, n, true, ((t[k].toNat : Int) - 48 == 0), by omega, by first | rfl | go_num, by first | rfl | (congr 1; omega), rfl, rfl, by omega, Lib.hid (by rw [HS.out]; first | rfl | simp [hB]), Lib.hid (by rw [HZS.out, ← HZ.out]; simp), Lib.hid (fun h => by first | exact Bool.noConfusion h | rw [HV1.out, ← HR.out rfl])⟩
              case measure => simp [intOf]; omega
            | false =>
              cases hB : decide ((9223372036854775808 - ((t[k].toNat : Int) - 48)) / 10 < (n : Int)) with
              | true =>
                go_wp2_with fail
                go_round
                case rel => exact ⟨k + 1, n, true, ((t[k].toNat : Int) - 48 == 0), by omega, by first | rfl | go_num, by first | rfl | (congr 1; omega), rfl, rfl, by omega, Lib.hid (by rw [HS.out]; first | rfl | simp [hB]), Lib.hid (by rw [HZS.out, ← HZ.out]; simp), Lib.hid (fun h => by first | exact Bool.noConfusion h | rw [HV1.out, ← HR.out rfl])⟩
                case measure => simp [intOf]; omega
              | false =>
                have hB2 := of_decide_eq_false hB
                have e1 : IntKind.u64.wrap (10 * (n : Int)) = 10 * n := by simp [IntKind.wrap, IntKind.signed, IntKind.bits]; omega
                have e2 : IntKind.u64.wrap (10 * (n : Int) + ((t[k].toNat : Int) - 48)) = 10 * n + ((t[k].toNat : Int) - 48) := by simp [IntKind.wrap, IntKind.signed, IntKind.bits]; omega
                go_wp2_with fail
                go_round
                case rel => exact ⟨k + 1, 10 * n + (t[k].toNat - 48), false, ((t[k].toNat : Int) - 48 == 0), by omega, by first | rfl | go_num, by first | rfl | (congr 1; omega), rfl, rfl, by omega, Lib.hid (by rw [HS.out]; first | rfl | simp [hB]), Lib.hid (by rw [HZS.out, ← HZ.out]; simp), Lib.hid (fun h => by first | exact Bool.noConfusion h | rw [HV1.out, ← HR.out rfl])⟩
                case measure => simp [intOf]; omega
          | false =>
            cases o with
            | true =>
              go_wp2_with fail
              go_round
              case rel => exact ⟨k + 1, n, true, false, by omega, by first | rfl | go_num, by first | rfl | (congr 1; omega), rfl, rfl, by omega, Lib.hid (by rw [HS.out]; first | rfl | simp [hB]), Lib.hid (by rw [HZS.out, ← HZ.out]; simp), Lib.hid (fun h => by first | exact Bool.noConfusion h | rw [HV1.out, ← HR.out rfl])⟩
              case measure => simp [intOf]; omega
            | false =>
              cases hB : decide ((9223372036854775808 - ((t[k].toNat : Int) - 48)) / 10 < (n : Int)) with
              | true =>
                go_wp2_with fail
                go_round
                case rel => exact ⟨k + 1, n, true, false, by omega, by first | rfl | go_num, by first | rfl | (congr 1; omega), rfl, rfl, by omega, Lib.hid (by rw [HS.out]; first | rfl | simp [hB]), Lib.hid (by rw [HZS.out, ← HZ.out]; simp), Lib.hid (fun h => by first | exact Bool.noConfusion h | rw [HV1.out, ← HR.out rfl])⟩
                case measure => simp [intOf]; omega
              | false =>
                have hB2 := of_decide_eq_false hB
                have e1 : IntKind.u64.wrap (10 * (n : Int)) = 10 * n := by simp [IntKind.wrap, IntKind.signed, IntKind.bits]; omega
                have e2 : IntKind.u64.wrap (10 * (n : Int) + ((t[k].toNat : Int) - 48)) = 10 * n + ((t[k].toNat : Int) - 48) := by simp [IntKind.wrap, IntKind.signed, IntKind.bits]; omega
                go_wp2_with fail
                go_round
                case rel => exact ⟨k + 1, 10 * n + (t[k].toNat - 48), false, false, by omega, by first | rfl | go_num, by first | rfl | (congr 1; omega), rfl, rfl, by omega, Lib.hid (by rw [HS.out]; first | rfl | simp [hB]), Lib.hid (by rw [HZS.out, ← HZ.out]; simp), Lib.hid (fun h => by first | exact Bool.noConfusion h | rw [HV1.out, ← HR.out rfl])⟩
                case measure => simp [intOf]; omega
        · have q3 : decide ((k : Int) < t.size) = false := decide_eq_false (by omega)
          have HE := Lib.hid (show t.data.toList.take k = t.data.toList from List.take_of_length_le (by rw [sizeL]; omega))
          rw [HE.out] at HO HZ HR
          cases o with
          | true =>
            have hv2 : 9223372036854775808 < val t.data.toList := of_decide_eq_true HO.out.symm
            go_wp2_with fail
            go_ret2
            exact ⟨0, 9, rfl, by rw [HN.out, (decide_eq_false (by omega) : decide (val t.data.toList ≤ 1099511627776) = false), Bool.and_false]; rfl, ExtOf.of HX.out⟩
          | false =>
            have hn := Lib.hid (HR.out rfl)
            cases hB : decide ((9223372036854775807 : Int) < (n : Int)) with
            | true =>
              have hB2 := of_decide_eq_true hB
              go_wp2_with fail
              go_ret2
              exact ⟨0, 9, rfl, by rw [HN.out, ← hn.out, (decide_eq_false (by omega) : decide (n ≤ 1099511627776) = false), Bool.and_false]; rfl, ExtOf.of HX.out⟩
            | false =>
              have hB2 := of_decide_eq_false hB
              have e1 : wrap64 (n : Int) = n := by unfold wrap64; omega
              go_wp2_with fail
              go_ret2
              refine ⟨n, 0, rfl, ?_, ExtOf.of HX.out⟩
              clear e1
              rw [HN.out, ← hn.out, okV, decide_eq_true (rfl : (0 : Int) = 0), (decide_eq_true (by omega) : decide ((-1099511627776 : Int) ≤ (n : Int)) = true)]
              show (true && true && decide (n ≤ 1099511627776)) = (true && true && decide ((n : Int) ≤ 1099511627776))
              rw [(decide_eq_decide.2 (by omega) : decide (n ≤ 1099511627776) = decide ((n : Int) ≤ 1099511627776))]
end Go.Proofs.YtjflmmipjeangaaGreatDoor
end
/-
  Chapter 62: the reference's Number and Cut.
-/
section
set_option linter.unusedVariables false
set_option linter.unusedSimpArgs false
namespace Go.Proofs.YtjflmmipjeangaaGreatDoor
open Go.RowKit ScM

attribute [local go_sem] ExtOf.cell ExtOf.frozen Block.cell Block.frozen ExtB.cell ExtB.frozen alloc_cell alloc_frozen
theorem okV_err {v er : Int} (h : okV v er = true) : er = 0 := by
  unfold okV at h
  simp only [Bool.and_eq_true, decide_eq_true_eq] at h
  exact h.1.1
theorem ret_nb {v : Int} {b c : Bool} (h : b = c) : Ending.returned (.tuple #[.int .i64 v, .bool b]) = .returned (.tuple #[.int .i64 v, .bool c]) := by rw [h]
theorem rnumber_any (s : ByteArray) (w : World) (hs : s.size < 1000) : Calls Tryz.prog 15 #[.string s] w fun e w' => (∃ v : Int, e = .returned (.tuple #[.int .i64 v, .bool (numOk s.data.toList)])) ∧ ∃ n : ExtOf w, w' = n.val := by
  have HP := Lib.hid fun w => rparse_any s w hs
  unfold RParseR at HP
  generalize numOk s.data.toList = b at *
  go_enter Tryz.func15, Tryz.ntmps15
  go_wp2_with (go_at_call 32; refine (HP.out _).mono ?_; rintro e w' ⟨v, er, rfl, rfl, n, rfl⟩)
  all_goals (go_ret2; exact ⟨⟨_, ret_nb (by rename_i h; unfold okV; simp at h ⊢; first | omega | (simp [*]; done) | (intros; omega))⟩, ExtOf.of (by with_reducible repeat' (first | exact Ext.refl _ | exact ExtOf.ext _ | refine Ext.trans ?_ (ExtOf.ext _) | refine Ext.alloc ?_ _ | refine Ext.drew ?_ | refine Ext.setCell ?_ ?_ _ | refine Ext.setRow ?_ ?_ _ | exact HX.out | refine Ext.trans ?_ HX.out | omega | (simp; done) | (simp; omega)))⟩)
/-- strings in a slice -/
def encS (s : ByteArray) : List Value := [.string s]
theorem encS_len (s : ByteArray) : (encS s).length = 1 := rfl
theorem encS_one : ∀ x : ByteArray, ∀ u ∈ encS x, u.oneCell' = true := by
  intro x u hu
  simp [encS] at hu
  subst hu
  rfl
theorem S.elem {w : World} {p : Option Addr} {n cap : Nat} {l : List ByteArray} (h : SliceOf encS 1 w (.slice p n cap) l) {i : Nat} (hi : i < l.length) : ∃ b off, p = some ⟨b, off, none⟩ ∧ w.cell? ⟨b, off + i, none⟩ = some (.string l[i]) := by
  obtain ⟨b, off, rfl, hr⟩ := SliceOf.elemK h hi
  exact ⟨b, off, rfl, by have := hr 0 _ rfl; simpa using this⟩
theorem Own.builtS (w : World) (s : ByteArray) : Own encS 1 9 w.heap.size (w.alloc (.cells #[.string s] 9)) (.slice (some ⟨w.heap.size, 0, none⟩) 1 1) [s] :=
  ⟨rfl, .inr ⟨w.heap.size, 1, #[.string s], rfl, Nat.le_refl _, (MapKept.heap_alloc w _).1, Nat.le_refl _, by decide, rfl, rfl⟩⟩
theorem Own.setS {E base : Nat} {w : World} {v : Value} {l : List ByteArray} (h : Own encS 1 E base w v l) {i : Nat} (hi : i < l.length) :
    ∃ g cap, v = .slice (some ⟨g, 0, none⟩) l.length cap ∧ base ≤ g ∧ Old g w ∧ w.cell? ⟨g, i, none⟩ = some (.string l[i]) ∧ w.frozen? ⟨g, i, none⟩ = false ∧
      ∀ X : ByteArray, Own encS 1 E base (w.setCell ⟨g, i, none⟩ (.string X)) v (l.set i X) := by
  have hsl := Own.slice encS_len h
  obtain ⟨hl, hn | ⟨g, cap, cur, rfl, hb, hg, hn, hc, hs, ht⟩⟩ := h
  · obtain ⟨_, hn⟩ := hn
    omega
  · obtain ⟨b, off, hp, hcell⟩ := S.elem hsl hi
    obtain ⟨rfl, rfl⟩ : g = b ∧ 0 = off := by simpa using hp
    rw [Nat.zero_add] at hcell
    refine ⟨g, cap, rfl, hb, ⟨(Array.getElem?_eq_some_iff.1 hg).1⟩, hcell, by simp [World.frozen?, hg], fun X => ⟨by rw [flatMap_len encS_len], .inr ⟨g, cap, cur.setIfInBounds i (.string X), by simp, hb, ?_, by simpa using hn, hc, by simpa using hs, ?_⟩⟩⟩
    · rw [setCell_eq_setRow w g i cur _ (0, 0) _ hg]
      exact setRow_heap w g cur _ _ _ hg
    · rw [Array.toList_setIfInBounds, List.length_set, List.take_set, ht]
      apply List.ext_getElem?
      intro j
      have hfm : ∀ (m : List ByteArray), m.flatMap encS = m.map (fun x : ByteArray => Value.string x) := fun m => by
        induction m with
        | nil => rfl
        | cons a m ih => simp [encS, ih]
      rw [hfm, hfm, List.map_set]
/-- bytes as a string -/
def bB (l : List UInt8) : ByteArray := ⟨l.toArray⟩
theorem bB_data (s : ByteArray) : bB s.data.toList = s := rfl
theorem bB_snoc {s : ByteArray} (l : List UInt8) {k : Nat} (h : k < s.size) : bB l ++ s.extract k (k + 1) = bB (l ++ [s[k]]) := by
  apply ByteArray.ext
  apply Array.ext'
  have hs := sizeL s
  rw [ByteArray.data_append, Array.toList_append, extract_data]
  show l ++ _ = l ++ [s[k]]
  rw [List.take_succ_eq_append_getElem (by omega), List.drop_append, List.drop_of_length_le (by rw [List.length_take]; omega)]
  rw [List.length_take, Nat.min_eq_left (show k ≤ s.data.toList.length by omega), Nat.sub_self]
  rfl
theorem infoStr : (Tryz.prog.info? 9).map (fun i => (i.zero, i.size, i.bytes)) = some (some (.string ⟨#[]⟩), 1, 16) := by kernel_rfl
theorem parts_len_le (l : List UInt8) : (parts l).length ≤ l.length + 1 := by
  induction l with
  | nil => decide
  | cons c l ih =>
    unfold parts
    split
    · simpa using ih
    · split
      · next h => rw [h] at ih; simpa using Nat.le_trans ih (Nat.le_succ _)
      · simp
theorem parts_step {s : ByteArray} {k : Nat} (h : k < s.size) : parts (s.data.toList.take (k + 1)) = if s[k] = 32 then parts (s.data.toList.take k) ++ [[]] else (parts (s.data.toList.take k)).dropLast ++ [(parts (s.data.toList.take k)).getLastD [] ++ [s[k]]] := by
  have hs := sizeL s
  rw [List.take_succ_eq_append_getElem (by omega)]
  exact parts_snoc _ _
theorem parts_mem_le : ∀ (l : List UInt8) (x : List UInt8), x ∈ parts l → x.length ≤ l.length
  | [], x, h => by simp [parts] at h; simp [h]
  | c :: l, x, h => by
    by_cases hc : c = 32
    · subst hc
      rw [parts_blank] at h
      rcases List.mem_cons.1 h with rfl | h
      · simp
      · have := parts_mem_le l x h
        simp; omega
    · obtain ⟨y, r, h1, h2⟩ := parts_char hc l
      rw [h2] at h
      rcases List.mem_cons.1 h with rfl | h
      · have := parts_mem_le l y (by rw [h1]; exact List.mem_cons_self)
        simp; omega
      · have := parts_mem_le l x (by rw [h1]; exact List.mem_cons_of_mem _ h)
        simp; omega
/-- the parts as strings -/
def partsB (l : List UInt8) : List ByteArray := (parts l).map bB
theorem partsB_len (l : List UInt8) : (partsB l).length = (parts l).length := List.length_map _
theorem partsB_size (l : List UInt8) (x : ByteArray) (h : x ∈ partsB l) : x.size ≤ l.length := by
  obtain ⟨y, hy, rfl⟩ := List.mem_map.1 h
  have := parts_mem_le l y hy
  rw [← sizeL]
  simpa [bB] using this
theorem partsB_pos (l : List UInt8) : 0 < (partsB l).length := by
  rw [partsB_len]
  exact List.length_pos_iff.2 (parts_ne l)
theorem partsB_blank {s : ByteArray} {k : Nat} (h : k < s.size) (hb : s[k] = 32) : partsB (s.data.toList.take (k + 1)) = partsB (s.data.toList.take k) ++ [⟨#[]⟩] := by
  unfold partsB
  rw [parts_step h, if_pos hb, List.map_append]
  rfl
theorem set_last {α : Type} (l : List α) (h : 0 < l.length) (x : α) : l.set (l.length - 1) x = l.dropLast ++ [x] := by
  rcases List.eq_nil_or_concat l with rfl | ⟨m, y, rfl⟩
  · simp at h
  · simp
theorem partsB_char {s : ByteArray} {k : Nat} (h : k < s.size) (hb : s[k] ≠ 32) {j : Nat} (hj : j = (partsB (s.data.toList.take k)).length - 1) (hl : j < (partsB (s.data.toList.take k)).length) :
    partsB (s.data.toList.take (k + 1)) = (partsB (s.data.toList.take k)).set j ((partsB (s.data.toList.take k))[j] ++ s.extract k (k + 1)) := by
  subst hj
  rw [set_last _ (partsB_pos _)]
  unfold partsB
  rw [parts_step h, if_neg hb, List.map_append, List.map_dropLast]
  congr 1
  show [bB _] = [_]
  congr 1
  have hne := parts_ne (s.data.toList.take k)
  simp only [List.getElem_map, List.length_map]
  rw [bB_snoc _ h]
  congr 2
  rw [List.getLastD_eq_getLast?, List.getLast?_eq_getElem?, List.getElem?_eq_getElem (by have := List.length_pos_iff.2 hne; omega)]
  rfl
set_option maxRecDepth 20000 in
set_option maxHeartbeats 1600000 in
theorem cut_any (s : ByteArray) (w : World) (hs : s.size ≤ 1000) : Calls Tryz.prog 13 #[.string s, .int .u8 32] w fun e w' => ∃ v, e = .returned v ∧ Own encS 1 9 w.heap.size w' v (partsB s.data.toList) ∧ ∃ n : ExtOf w, w' = n.val := by
  obtain ⟨iS, hiS, hS0, hS1, hS2⟩ := info_parts infoStr
  go_enter Tryz.func13, Tryz.ntmps13
  go_wp2_with fail
  go_loopw [5, 6] (fun vo vi wr => ∃ k : Nat, k ≤ s.size ∧ vi = .int .i64 k ∧ Own encS 1 9 w.heap.size wr vo (partsB (s.data.toList.take k)) ∧ Ext w wr) (fun _ vi _ => s.size - (intOf vi).toNat)
  case atStart => exact ⟨0, Nat.zero_le _, rfl, Own.builtS w _, (Ext.refl _).alloc _⟩
  case round =>
    obtain ⟨k, hk, rfl, ho, hx⟩ := hrel
    have HX := Lib.hid hx
    have HO := Lib.hid ho
    have hp := partsB_pos (s.data.toList.take k)
    have hle : (partsB (s.data.toList.take k)).length ≤ k + 1 := by
      rw [partsB_len]
      refine Nat.le_trans (parts_len_le _) ?_
      rw [List.length_take]; omega
    by_cases hlt : k < s.size
    · have q1 : decide ((k : Int) < s.size) = true := decide_eq_true (by omega)
      by_cases hb : s[k] = 32
      · have HB := Lib.hid (partsB_blank hlt hb)
        have q2 : ((s[k].toNat : Int) == 32) = true := by rw [hb]; rfl
        obtain ⟨q, c, rfl⟩ := Own.form2 ho
        clear ho hx
        generalize partsB (s.data.toList.take k) = l at *
        go_wp2_with (at_builtin; refine wl_append1g (enc := encS) (k := 1) (E := 9) (base := w.heap.size) (l := l) (y := ⟨#[]⟩) Tryz.underlying25 hiS hS0 hS1 hS2 rfl (by decide) encS_len encS_one rfl rfl (Own.alloc HO.out _) inferInstance rfl (by unfold maxLen; omega) (by omega) (by have := HX.out.size; simp; omega) ?_; intro v7 n7 ho7 hk7)
        go_roundw
        case rel => exact ⟨k + 1, by omega, by first | rfl | go_num, by rw [HB.out]; exact ho7, Below.trans (HX.out.trans ((Ext.refl _).alloc _)) n7.below⟩
        case measure => simp [intOf]; omega
      · have q2 : ((s[k].toNat : Int) == 32) = false := by
          have : s[k].toNat ≠ 32 := fun e => hb (UInt8.toNat_inj.1 e)
          simp; omega
        obtain ⟨j, hj⟩ : ∃ j, j = (partsB (s.data.toList.take k)).length - 1 := ⟨_, rfl⟩
        have hjl : j < (partsB (s.data.toList.take k)).length := by omega
        have HB := Lib.hid (partsB_char hlt hb hj hjl)
        have hpl : (partsB (s.data.toList.take k))[j].size ≤ k := by
          refine Nat.le_trans (partsB_size _ _ (List.getElem_mem hjl)) ?_
          rw [List.length_take]; omega
        obtain ⟨g, cap, rfl, hbg, og, hc, hfr, hset⟩ := Own.setS ho hjl
        have HSET := Lib.hid hset
        clear ho hx hset
        generalize partsB (s.data.toList.take k) = l at *
        have hl1 : l.length = j + 1 := by omega
        have hjj : (((j + 1 : Nat) : Int) - 1) = j := by omega
        have hjk : (((j : Int) + 1) - 1) = j := by omega
        have hwj : IntKind.i64.wrap (j : Int) = j := by simp [IntKind.wrap, IntKind.signed, IntKind.bits]; omega
        have hwk : IntKind.i64.wrap ((k : Int) + 1) = (k : Int) + 1 := by simp [IntKind.wrap, IntKind.signed, IntKind.bits]; omega
        have hcat : ¬ 9223372036854775807 < l[j].size + (min (k + 1) s.size - k) := by omega
        have hjlt : (j : Int) < (j : Int) + 1 := by omega
        have hk1 : (0 : Int) ≤ (k : Int) + 1 := by omega
        have hk2 : (k : Int) + 1 ≤ (s.size : Int) := by omega
        have hk3 : (k : Int) ≤ (k : Int) + 1 := by omega
        clear hj
        rw [hl1]
        go_wp2_with fail
        refine wp_region_still_tail 17 (by kernel_rfl) (by kernel_rfl) ?_
        simp only [List.take_succ_cons, List.take_zero, List.drop_succ_cons, List.drop_zero]
        change wpStill _ _ (World.drew _) _ _ _
        repeat still_step
        refine wpStill_nil ?_
        change wpList _ _ _ _ _ (World.drew _)
        go_wp2_with fail
        go_roundw
        case rel => exact ⟨k + 1, by omega, by first | rfl | go_num, by have := HSET.out (l[j] ++ s.extract k (k + 1)); rw [hl1] at this; rw [HB.out]; exact this.drew, Ext.drew (Ext.setCell HX.out hbg _)⟩
        case measure => simp [intOf]; omega
    · have q1 : decide ((k : Int) < s.size) = false := decide_eq_false (by omega)
      have HE : Hid (s.data.toList.take k = s.data.toList) := Lib.hid (List.take_of_length_le (by rw [sizeL]; omega))
      obtain ⟨q, c, rfl⟩ := Own.form2 ho
      rw [HE.out] at HO ⊢
      clear ho hx
      go_wp2_with fail
      go_ret
      exact ⟨_, rfl, HO.out, ExtOf.of HX.out⟩
end Go.Proofs.YtjflmmipjeangaaGreatDoor
end
