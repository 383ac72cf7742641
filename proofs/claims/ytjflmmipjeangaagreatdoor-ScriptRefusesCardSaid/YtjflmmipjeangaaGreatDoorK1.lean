/-
  Chapter 62: several texts in one (S1, S2, S3).
-/
import Derived.Test.YtjflmmipjeangaaGreatDoorRows
import Derived.Test.YtjflmmipjeangaaGreatDoorLB
import Derived.Test.YtjflmmipjeangaaGreatDoorMM
/-
  Chapter 62: numbers (the program's side).
-/
section
set_option linter.unusedVariables false
set_option linter.unusedSimpArgs false
namespace Go.Proofs.YtjflmmipjeangaaGreatDoor
open Go.RowKit ScM

attribute [local go_sem] ExtOf.cell ExtOf.frozen Block.cell Block.frozen ExtB.cell ExtB.frozen alloc_cell alloc_frozen
/-- the minus sign -/
def neg (s : ByteArray) : Bool := decide (s.data.toList.head? = some 45)
def bareB (s : ByteArray) : ByteArray := ⟨(bare s.data.toList).toArray⟩
theorem ret_b {b c : Bool} (h : b = c) : Ending.returned (.bool b) = .returned (.bool c) := by rw [h]
theorem extract_data (s : ByteArray) (a b : Nat) : (s.extract a b).data.toList = (s.data.toList.take b).drop a := by
  rw [ByteArray.data_extract, Array.toList_extract, List.extract_eq_take_drop, List.drop_take]
theorem neg_of (s : ByteArray) (h : 1 ≤ s.size) : ((s.extract 0 1).toList == [45]) = neg s := by
  rw [ByteArray.toList_eq, extract_data]
  unfold neg
  have hs : s.data.toList.length = s.size := Array.length_toList
  cases hl : s.data.toList with
  | nil => rw [hl] at hs; simp at hs; omega
  | cons c l => show (([c] : List UInt8) == [45]) = decide (some c = some 45); by_cases hc : c = 45 <;> simp [hc]
theorem neg_nil (s : ByteArray) (h : s.size = 0) : neg s = false := by
  have hs : s.data.toList.length = s.size := Array.length_toList
  unfold neg
  cases hl : s.data.toList with
  | nil => rfl
  | cons c l => rw [hl] at hs; simp at hs; omega
theorem hasPrefix_any (s : ByteArray) (w : World) : Calls Tryz.prog 229 #[.string s, .string ⟨#[45]⟩] w fun e w' => e = .returned (.bool (neg s)) ∧ w' = w := by
  cases hs : decide (1 ≤ s.size) with
  | false =>
    have h0 : s.size = 0 := by simpa using hs
    have q1 : decide ((1 : Int) ≤ (s.size : Int)) = false := by simp; omega
    go_enter Tryz.func229, Tryz.ntmps229
    go_wp2
    go_ret
    exact ⟨ret_b (neg_nil s h0).symm, rfl⟩
  | true =>
    have h0 : 1 ≤ s.size := by simpa using hs
    have q1 : decide ((1 : Int) ≤ (s.size : Int)) = true := by simp; omega
    go_enter Tryz.func229, Tryz.ntmps229
    go_wp2
    go_ret
    exact ⟨ret_b (neg_of s h0), rfl⟩
theorem bare_true {s : ByteArray} (h : neg s = true) : bareB s = s.extract 1 s.size ∧ 1 ≤ s.size := by
  have hn : s.data.toList.head? = some 45 := by simpa [neg] using h
  have hs : s.data.toList.length = s.size := Array.length_toList
  constructor
  · unfold bareB bare
    rw [if_pos hn]
    have := extract_data s 1 s.size
    apply ByteArray.ext
    apply Array.ext'
    rw [this, ← hs, List.take_length]
    simp
  · cases hl : s.data.toList with
    | nil => rw [hl] at hn; cases hn
    | cons c l => rw [hl] at hs; simp at hs; omega
theorem bare_false {s : ByteArray} (h : neg s = false) : bareB s = s := by
  have hn : ¬ s.data.toList.head? = some 45 := by simpa [neg] using h
  unfold bareB bare
  rw [if_neg hn]
theorem slCutPrefix_any (s : ByteArray) (w : World) : Calls Tryz.prog 231 #[.string s, .string ⟨#[45]⟩] w fun e w' => e = .returned (.tuple #[.string (bareB s), .bool (neg s)]) ∧ w' = w := by
  have HP := Lib.hid (hasPrefix_any s)
  cases hn : neg s with
  | false =>
    rw [bare_false hn]
    have HN := Lib.hid hn
    clear hn
    go_enter Tryz.func231, Tryz.ntmps231
    go_wp2_with (go_at_call 229; refine (HP.out _).mono ?_; rintro e w' ⟨rfl, h⟩; obtain rfl := h.symm; rw [HN.out])
    go_ret2
    exact ⟨rfl, rfl⟩
  | true =>
    obtain ⟨h1, h2⟩ := bare_true hn
    rw [h1]
    have HN := Lib.hid hn
    clear hn h1
    go_enter Tryz.func231, Tryz.ntmps231
    go_wp2_with (go_at_call 229; refine (HP.out _).mono ?_; rintro e w' ⟨rfl, h⟩; obtain rfl := h.symm; rw [HN.out])
    go_ret2
    exact ⟨rfl, rfl⟩
theorem cutPrefix_any (s : ByteArray) (w : World) : Calls Tryz.prog 167 #[.string s, .string ⟨#[45]⟩] w fun e w' => e = .returned (.tuple #[.string (bareB s), .bool (neg s)]) ∧ w' = w := by
  have HP := Lib.hid (slCutPrefix_any s)
  go_enter Tryz.func167, Tryz.ntmps167
  go_wp2_with (go_at_call 231; refine (HP.out _).mono ?_; rintro e w' ⟨rfl, h⟩; obtain rfl := h.symm)
  go_ret2
  exact ⟨rfl, rfl⟩
theorem uClamp_any (w : World) : Calls Tryz.prog 232 #[.int .i64 0, .int .i64 0, .int .i64 9] w fun e w' => e = .returned (.int .i64 0) ∧ w' = w := by
  go_enter Tryz.func232, Tryz.ntmps232
  go_wp2
  go_ret
  exact ⟨rfl, rfl⟩
theorem places_any (w : World) : Calls Tryz.prog 169 #[.int .i64 0] w fun e w' => e = .returned (.int .i64 0) ∧ w' = w := by
  go_enter Tryz.func169, Tryz.ntmps169
  go_wp2_with (go_at_call 232; refine (uClamp_any _).mono ?_; rintro e w' ⟨rfl, h⟩; obtain rfl := h.symm)
  go_ret
  exact ⟨rfl, rfl⟩
end Go.Proofs.YtjflmmipjeangaaGreatDoor
end
/-
  Chapter 62: numbers: withoutPoint and Parse at no decimals.
-/
section
set_option linter.unusedVariables false
set_option linter.unusedSimpArgs false
namespace Go.Proofs.YtjflmmipjeangaaGreatDoor
open Go.RowKit ScM

attribute [local go_sem] ExtOf.cell ExtOf.frozen Block.cell Block.frozen ExtB.cell ExtB.frozen alloc_cell alloc_frozen
theorem empty_eq (s : ByteArray) (h : 0 < s.size) : (s.toList == []) = false := by
  rw [ByteArray.toList_eq]
  have hs : s.data.toList.length = s.size := Array.length_toList
  cases hl : s.data.toList with
  | nil => rw [hl] at hs; simp at hs; omega
  | cons c l => rfl
theorem app_nil (s : ByteArray) : s ++ (⟨#[]⟩ : ByteArray) = s := by
  apply ByteArray.ext; apply Array.ext'; simp
theorem sizeL (s : ByteArray) : s.data.toList.length = s.size := Array.length_toList
theorem zero_of {s : ByteArray} (h : s.size = 0) : s = ⟨#[]⟩ := by
  apply ByteArray.ext; apply Array.ext'
  have := sizeL s
  rw [h] at this
  simpa using List.eq_nil_of_length_eq_zero this
theorem head0 {s : ByteArray} (h : 0 < s.size) : s.data.toList.head? = some s[0] := by
  have hs := sizeL s
  rw [List.head?_eq_getElem?, List.getElem?_eq_getElem (by omega)]
  rfl
theorem all_step {s : ByteArray} {k : Nat} (h : k < s.size) : (s.data.toList.drop k).all dig = (dig s[k] && (s.data.toList.drop (k + 1)).all dig) := by
  have hs := sizeL s
  rw [List.drop_eq_getElem_cons (by omega), List.all_cons]
  rfl
theorem all_end {s : ByteArray} {k : Nat} (h : s.size ≤ k) : (s.data.toList.drop k).all dig = true := by
  rw [List.drop_eq_nil_of_le (by rw [sizeL]; exact h)]
  rfl
theorem ret_sb {s t : ByteArray} {b c : Bool} (h : b = c) (h2 : s = t) : Ending.returned (.tuple #[.string s, .bool b]) = .returned (.tuple #[.string t, .bool c]) := by rw [h, h2]
/-- what withoutPoint returns -/
def wpV (s : ByteArray) : Value := if formOk s.data.toList then .tuple #[.string s, .bool true] else .tuple #[.string ⟨#[]⟩, .bool false]
theorem wpV_true {s : ByteArray} (h : formOk s.data.toList = true) : wpV s = .tuple #[.string s, .bool true] := by rw [wpV, if_pos h]
theorem wpV_false {s : ByteArray} (h : formOk s.data.toList = false) : wpV s = .tuple #[.string ⟨#[]⟩, .bool false] := by rw [wpV, h]; rfl
theorem wp_loop_facts (s : ByteArray) (h : 0 < s.size) (h2 : s.size = 1 ∨ s[0].toNat ≠ 48) : formOk s.data.toList = (s.data.toList.drop 0).all dig := by
  unfold formOk
  rw [head0 h, sizeL]
  have : s.data.toList.isEmpty = false := by
    have hs := sizeL s
    cases hl : s.data.toList with
    | nil => rw [hl] at hs; simp at hs; omega
    | cons c l => rfl
  rw [this]
  have : (decide (1 < s.size) && decide (some s[0] = some 48)) = false := by
    rcases h2 with h2 | h2
    · simp [h2]
    · have : ¬ s[0] = 48 := fun e => h2 (by rw [e]; rfl)
      simp [this]
  rw [this]
  simp
theorem dig_low {c : UInt8} (h : (c.toNat : Int) < 48) : dig c = false := by simp [dig]; omega
theorem dig_high {c : UInt8} (h : (57 : Int) < (c.toNat : Int)) : dig c = false := by simp [dig]; omega
theorem dig_mid {c : UInt8} (h : ¬ (c.toNat : Int) < 48) (h2 : ¬ (57 : Int) < (c.toNat : Int)) : dig c = true := by simp [dig]; omega
theorem withoutPoint_any (s : ByteArray) (w : World) (hs : s.size < 1000) : Calls Tryz.prog 168 #[.string s, .int .i64 0] w fun e w' => e = .returned (wpV s) ∧ w' = w := by
  by_cases h0 : s.size = 0
  · obtain rfl := zero_of h0
    go_enter Tryz.func168, Tryz.ntmps168
    go_wp2_with fail
    go_ret2
    exact ⟨rfl, rfl⟩
  have q0 := empty_eq s (by omega)
  have HA := Lib.hid (app_nil s)
  by_cases h1 : s.size = 1
  · have HF := Lib.hid (wp_loop_facts s (by omega) (.inl h1))
    have q2 : decide ((1 : Int) < (s.size : Int)) = false := decide_eq_false (by omega)
    go_enter Tryz.func168, Tryz.ntmps168
    go_wp2_with fail
    rw [HA.out]
    go_loop [10] (fun vi => ∃ k : Nat, k ≤ s.size ∧ vi = .int .i64 k ∧ Hid (formOk s.data.toList = (s.data.toList.drop k).all dig)) (fun vi => s.size - (intOf vi).toNat)
    case atStart => exact ⟨0, Nat.zero_le _, rfl, HF⟩
    case round =>
      obtain ⟨k, hk, rfl, HR⟩ := hrel
      by_cases hlt : k < s.size
      · have HS := Lib.hid (all_step hlt)
        have q1 : decide ((k : Int) < s.size) = true := decide_eq_true (by omega)
        cases hd : decide ((s[k].toNat : Int) < 48) with
        | true =>
          have HD : Hid (formOk s.data.toList = false) := Lib.hid (by rw [HR.out, HS.out, dig_low (of_decide_eq_true hd)]; rfl)
          go_wp2_with fail
          go_ret2
          exact ⟨by rw [wpV_false HD.out]; rfl, rfl⟩
        | false =>
          cases hd2 : decide ((57 : Int) < (s[k].toNat : Int)) with
          | true =>
            have HD : Hid (formOk s.data.toList = false) := Lib.hid (by rw [HR.out, HS.out, dig_high (of_decide_eq_true hd2)]; rfl)
            go_wp2_with fail
            go_ret2
            exact ⟨by rw [wpV_false HD.out]; rfl, rfl⟩
          | false =>
            have HD : Hid (formOk s.data.toList = (s.data.toList.drop (k + 1)).all dig) := Lib.hid (by rw [HR.out, HS.out, dig_mid (of_decide_eq_false hd) (of_decide_eq_false hd2)]; rfl)
            go_wp2_with fail
            go_round
            case rel => exact ⟨k + 1, by omega, by first | rfl | go_num, HD⟩
            case measure => simp [intOf]; omega
      · have HE := Lib.hid (all_end (s := s) (k := k) (by omega))
        have q1 : decide ((k : Int) < s.size) = false := decide_eq_false (by omega)
        go_wp2_with fail
        go_ret2
        refine ⟨?_, rfl⟩
        rw [wpV_true (by rw [HR.out, HE.out])]
        rfl
  have q2 : decide ((1 : Int) < (s.size : Int)) = true := decide_eq_true (by omega)
  cases hz : ((s[0].toNat : Int) == 48) with
  | true =>
    have HF : Hid (formOk s.data.toList = false) := Lib.hid (by
      have : s[0] = 48 := UInt8.toNat_inj.1 (by simp at hz; show s[0].toNat = 48; omega)
      unfold formOk
      rw [head0 (by omega), sizeL, this]
      simp [(by omega : 1 < s.size)])
    go_enter Tryz.func168, Tryz.ntmps168
    go_wp2_with fail
    go_ret2
    exact ⟨by rw [wpV_false HF.out]; rfl, rfl⟩
  | false =>
    have HF := Lib.hid (wp_loop_facts s (by omega) (.inr (by simp at hz; omega)))
    go_enter Tryz.func168, Tryz.ntmps168
    go_wp2_with fail
    rw [HA.out]
    go_loop [10] (fun vi => ∃ k : Nat, k ≤ s.size ∧ vi = .int .i64 k ∧ Hid (formOk s.data.toList = (s.data.toList.drop k).all dig)) (fun vi => s.size - (intOf vi).toNat)
    case atStart => exact ⟨0, Nat.zero_le _, rfl, HF⟩
    case round =>
      obtain ⟨k, hk, rfl, HR⟩ := hrel
      by_cases hlt : k < s.size
      · have HS := Lib.hid (all_step hlt)
        have q1 : decide ((k : Int) < s.size) = true := decide_eq_true (by omega)
        cases hd : decide ((s[k].toNat : Int) < 48) with
        | true =>
          have HD : Hid (formOk s.data.toList = false) := Lib.hid (by rw [HR.out, HS.out, dig_low (of_decide_eq_true hd)]; rfl)
          go_wp2_with fail
          go_ret2
          exact ⟨by rw [wpV_false HD.out]; rfl, rfl⟩
        | false =>
          cases hd2 : decide ((57 : Int) < (s[k].toNat : Int)) with
          | true =>
            have HD : Hid (formOk s.data.toList = false) := Lib.hid (by rw [HR.out, HS.out, dig_high (of_decide_eq_true hd2)]; rfl)
            go_wp2_with fail
            go_ret2
            exact ⟨by rw [wpV_false HD.out]; rfl, rfl⟩
          | false =>
            have HD : Hid (formOk s.data.toList = (s.data.toList.drop (k + 1)).all dig) := Lib.hid (by rw [HR.out, HS.out, dig_mid (of_decide_eq_false hd) (of_decide_eq_false hd2)]; rfl)
            go_wp2_with fail
            go_round
            case rel => exact ⟨k + 1, by omega, by first | rfl | go_num, HD⟩
            case measure => simp [intOf]; omega
      · have HE := Lib.hid (all_end (s := s) (k := k) (by omega))
        have q1 : decide ((k : Int) < s.size) = false := decide_eq_false (by omega)
        go_wp2_with fail
        go_ret2
        refine ⟨?_, rfl⟩
        rw [wpV_true (by rw [HR.out, HE.out])]
        rfl
end Go.Proofs.YtjflmmipjeangaaGreatDoor
end
/-
  Chapter 62: units.Parse at no decimals, number.
-/
section
set_option linter.unusedVariables false
set_option linter.unusedSimpArgs false
namespace Go.Proofs.YtjflmmipjeangaaGreatDoor
open Go.RowKit ScM

attribute [local go_sem] ExtOf.cell ExtOf.frozen Block.cell Block.frozen ExtB.cell ExtB.frozen alloc_cell alloc_frozen
/-- what says that a number is within its bounds -/
def okV (v er : Int) : Bool := decide (er = 0) && decide (-1099511627776 ≤ v) && decide (v ≤ 1099511627776)
def ParseR (s : ByteArray) (w : World) (e : Ending) (w' : World) : Prop := ∃ v er : Int, e = .returned (.tuple #[.int .i64 v, .int .i64 er]) ∧ numOk s.data.toList = okV v er ∧ w' = w
theorem bareB_data (s : ByteArray) : (bareB s).data.toList = bare s.data.toList := by simp [bareB]
theorem bareB_size (s : ByteArray) : (bareB s).size ≤ s.size := by
  rw [← sizeL, ← sizeL, bareB_data]
  unfold bare
  split
  · rw [List.length_tail]; omega
  · exact Nat.le_refl _
theorem numOk_eq (s : ByteArray) : numOk s.data.toList = (formOk (bareB s).data.toList && !(neg s && decide (val (bareB s).data.toList = 0)) && decide (val (bareB s).data.toList ≤ 1099511627776)) := by
  rw [numOk, bareB_data, neg]
theorem dig_at {t : ByteArray} {k : Nat} (h : formOk t.data.toList = true) (hk : k < t.size) : 48 ≤ t[k].toNat ∧ t[k].toNat ≤ 57 := by
  unfold formOk at h
  simp only [Bool.and_eq_true] at h
  have := List.all_eq_true.1 h.2 t[k] (by
    show t.data[k] ∈ t.data.toList
    exact Array.mem_toList_iff.2 (Array.getElem_mem _))
  exact (dig_iff _).1 this
theorem val_at {t : ByteArray} {k : Nat} (hk : k < t.size) : val (t.data.toList.take (k + 1)) = 10 * val (t.data.toList.take k) + (t[k].toNat - 48) :=
  val_take _ (by rw [sizeL]; exact hk)
theorem val_all {t : ByteArray} {k : Nat} (hk : t.size ≤ k) : val (t.data.toList.take k) = val t.data.toList := by
  rw [List.take_of_length_le (by rw [sizeL]; exact hk)]
theorem parse_any (s : ByteArray) (w : World) (hs : s.size < 1000) : Calls Tryz.prog 103 #[.string s, .int .i64 0] w (ParseR s w) := by
  by_cases h0 : s.size = 0
  · obtain rfl := zero_of h0
    go_enter Tryz.func103, Tryz.ntmps103
    go_wp2_with fail
    go_ret2
    exact ⟨0, 3, rfl, rfl, rfl⟩
  have q0 := empty_eq s (by omega)
  have HN := Lib.hid (numOk_eq s)
  have HC := Lib.hid fun w => cutPrefix_any s w
  have HW := Lib.hid fun w => withoutPoint_any (bareB s) w (Nat.lt_of_le_of_lt (bareB_size s) hs)
  have hts : (bareB s).size < 1000 := Nat.lt_of_le_of_lt (bareB_size s) hs
  generalize bareB s = t at *
  cases hf : formOk t.data.toList with
  | false =>
    rw [wpV_false hf] at HW
    rw [hf] at HN
    generalize neg s = b at *
    go_enter Tryz.func103, Tryz.ntmps103
    go_wp2_with first | (go_at_call 167; refine (HC.out _).mono ?_; rintro e w' ⟨rfl, h⟩; obtain rfl := h.symm) | (go_at_call 168; refine (HW.out _).mono ?_; rintro e w' ⟨rfl, h⟩; obtain rfl := h.symm) | (go_at_call 169; refine (places_any _).mono ?_; rintro e w' ⟨rfl, h⟩; obtain rfl := h.symm)
    go_ret2
    exact ⟨0, 5, rfl, by rw [HN.out]; rfl, rfl⟩
  | true =>
    rw [wpV_true hf] at HW
    have HD := Lib.hid fun k (h : k < t.size) => dig_at hf h
    rw [hf] at HN
    clear hf
    have HV := Lib.hid fun k (h : k < t.size) => val_at (t := t) h
    have HVA := Lib.hid fun k (h : t.size ≤ k) => val_all (t := t) h
    have HVL := Lib.hid fun k => val_le t.data.toList k
    cases hn : neg s with
    | false =>
      rw [hn] at HN HC
      clear hn
      go_enter Tryz.func103, Tryz.ntmps103
      go_wp2_with first | (go_at_call 167; refine (HC.out _).mono ?_; rintro e w' ⟨rfl, h⟩; obtain rfl := h.symm) | (go_at_call 168; refine (HW.out _).mono ?_; rintro e w' ⟨rfl, h⟩; obtain rfl := h.symm) | (go_at_call 169; refine (places_any _).mono ?_; rintro e w' ⟨rfl, h⟩; obtain rfl := h.symm)
      go_loop [10, 11] (fun vn vi => ∃ k n : Nat, k ≤ t.size ∧ vi = .int .i64 k ∧ vn = .int .u64 n ∧ n ≤ 9223372036854775807 ∧ Hid (n = val (t.data.toList.take k))) (fun _ vi => t.size - (intOf vi).toNat)
      case atStart => exact ⟨0, 0, Nat.zero_le _, rfl, rfl, by omega, Lib.hid rfl⟩
      case round =>
        obtain ⟨k, n, hk, rfl, rfl, hl, HR⟩ := hrel
        by_cases hlt : k < t.size
        · have q1 : decide ((k : Int) < t.size) = true := decide_eq_true (by omega)
          obtain ⟨hd1, hd2⟩ := HD.out k hlt
          have e8 : IntKind.u8.wrap ((t[k].toNat : Int) - 48) = ((t[k].toNat : Int) - 48) := by simp [IntKind.wrap, IntKind.signed, IntKind.bits]; omega
          have HV1 := Lib.hid (HV.out k hlt)
          have HV2 := Lib.hid (HVL.out (k + 1))
          go_wp2_with fail
          · rename_i hbig _
            go_ret2
            refine ⟨0, 9, rfl, ?_, rfl⟩
            have h1 := HV1.out
            have h2 := HV2.out
            have h3 := HR.out
            rw [HN.out, (decide_eq_false (by omega) : decide (val t.data.toList ≤ 1099511627776) = false), Bool.and_false]
            rfl
          · rename_i hsmall
            go_round
            case rel => exact ⟨k + 1, n * 10 + (t[k].toNat - 48), by omega, by first | rfl | go_num, by congr 1; omega, by omega, Lib.hid (by rw [HV1.out, ← HR.out]; omega)⟩
            case measure => simp [intOf]; omega
        · have q1 : decide ((k : Int) < t.size) = false := decide_eq_false (by omega)
          have HE := Lib.hid (HVA.out k (by omega))
          have e1 : IntKind.i64.wrap (n : Int) = n := by simp [IntKind.wrap, IntKind.signed, IntKind.bits]; omega
          go_wp2_with fail
          go_ret2
          refine ⟨n, 0, rfl, ?_, rfl⟩
          rw [HN.out, ← HE.out, ← HR.out]
          simp [okV]
          omega
    | true =>
      rw [hn] at HN HC
      clear hn
      go_enter Tryz.func103, Tryz.ntmps103
      go_wp2_with first | (go_at_call 167; refine (HC.out _).mono ?_; rintro e w' ⟨rfl, h⟩; obtain rfl := h.symm) | (go_at_call 168; refine (HW.out _).mono ?_; rintro e w' ⟨rfl, h⟩; obtain rfl := h.symm) | (go_at_call 169; refine (places_any _).mono ?_; rintro e w' ⟨rfl, h⟩; obtain rfl := h.symm)
      go_loop [10, 11] (fun vn vi => ∃ k n : Nat, k ≤ t.size ∧ vi = .int .i64 k ∧ vn = .int .u64 n ∧ n ≤ 9223372036854775808 ∧ Hid (n = val (t.data.toList.take k))) (fun _ vi => t.size - (intOf vi).toNat)
      case atStart => exact ⟨0, 0, Nat.zero_le _, rfl, rfl, by omega, Lib.hid rfl⟩
      case round =>
        obtain ⟨k, n, hk, rfl, rfl, hl, HR⟩ := hrel
        by_cases hlt : k < t.size
        · have q1 : decide ((k : Int) < t.size) = true := decide_eq_true (by omega)
          obtain ⟨hd1, hd2⟩ := HD.out k hlt
          have e8 : IntKind.u8.wrap ((t[k].toNat : Int) - 48) = ((t[k].toNat : Int) - 48) := by simp [IntKind.wrap, IntKind.signed, IntKind.bits]; omega
          have HV1 := Lib.hid (HV.out k hlt)
          have HV2 := Lib.hid (HVL.out (k + 1))
          go_wp2_with fail
          · rename_i hbig _
            go_ret2
            refine ⟨0, 9, rfl, ?_, rfl⟩
            have h1 := HV1.out
            have h2 := HV2.out
            have h3 := HR.out
            rw [HN.out, (decide_eq_false (by omega) : decide (val t.data.toList ≤ 1099511627776) = false), Bool.and_false]
            rfl
          · rename_i hsmall
            go_round
            case rel => exact ⟨k + 1, n * 10 + (t[k].toNat - 48), by omega, by first | rfl | go_num, by congr 1; omega, by omega, Lib.hid (by rw [HV1.out, ← HR.out]; omega)⟩
            case measure => simp [intOf]; omega
        · have q1 : decide ((k : Int) < t.size) = false := decide_eq_false (by omega)
          have HE := Lib.hid (HVA.out k (by omega))
          by_cases hz : n = 0
          · subst hz
            go_wp2_with fail
            go_ret2
            refine ⟨0, 5, rfl, ?_, rfl⟩
            rw [HN.out, ← HE.out, ← HR.out]
            rfl
          · have hz2 : decide ((n : Int) = 0) = false := decide_eq_false (by omega)
            have e1 : wrap64 (IntKind.u64.wrap (-(n : Int))) = -n := by simp only [IntKind.wrap, IntKind.signed, IntKind.bits]; unfold wrap64; simp; omega
            have hz3 : ((n : Int) == 0) = false := by simp; omega
            go_wp2_with fail
            go_ret2
            refine ⟨-n, 0, ?_, ?_, rfl⟩
            · rfl
            rw [HN.out, ← HE.out, ← HR.out]
            clear e1
            rw [okV, decide_eq_true (rfl : (0 : Int) = 0), (decide_eq_true (by omega) : decide (-(n : Int) ≤ 1099511627776) = true), decide_eq_false hz, Bool.and_true]
            show decide (n ≤ 1099511627776) = decide ((-1099511627776 : Int) ≤ -(n : Int))
            apply decide_eq_decide.2
            omega
/-- the error of a number -/
def numV (b : Bool) : Int := if b then 0 else 9
theorem ret_num {v er er' : Int} (h : er = er') : Ending.returned (.tuple #[.int .i64 v, .int .i64 er]) = .returned (.tuple #[.int .i64 v, .int .i64 er']) := by rw [h]
theorem number_any (s : ByteArray) (w : World) (hs : s.size < 1000) : Calls Tryz.prog 36 #[.string s] w fun e w' => (∃ v : Int, e = .returned (.tuple #[.int .i64 v, .int .i64 (numV (numOk s.data.toList))])) ∧ w' = w := by
  have HP := Lib.hid fun w => parse_any s w hs
  unfold ParseR at HP
  generalize numOk s.data.toList = b at *
  go_enter Tryz.func36, Tryz.ntmps36
  go_wp2_with (go_at_call 103; refine (HP.out _).mono ?_; rintro e w' ⟨v, er, rfl, rfl, h⟩; obtain rfl := h.symm)
  all_goals (try (go_ret2; refine ⟨⟨_, ret_num (by unfold numV okV; simp; omega)⟩, rfl⟩))
end Go.Proofs.YtjflmmipjeangaaGreatDoor
end
