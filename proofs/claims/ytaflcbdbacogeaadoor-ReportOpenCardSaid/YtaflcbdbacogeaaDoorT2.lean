/-
  Decimal numerals of the reference.
-/
import Derived.Test.YtaflcbdbacogeaaDoorT1
set_option linter.unusedVariables false
set_option linter.unusedSimpArgs false
namespace Go.Proofs.YtaflcbdbacogeaaDoor
open Go.RowKit ReportM

theorem ba_ext {a : ByteArray} {l : List UInt8} (h : a.data.toList = l) : a = ⟨l.toArray⟩ := by
  obtain ⟨⟨x⟩⟩ := a
  simp at h
  rw [h]
theorem ba_append (a b : ByteArray) : (a ++ b).data.toList = a.data.toList ++ b.data.toList := by
  rw [ByteArray.data_append, Array.toList_append]
theorem digit_cut : ∀ k : Fin 10, ((⟨#[48, 49, 50, 51, 52, 53, 54, 55, 56, 57]⟩ : ByteArray).extract k.val (k.val + 1)).data.toList = [UInt8.ofNat (48 + k.val)] := by decide
theorem ret_str {a b : ByteArray} (h : a = b) : Ending.returned (.string a) = .returned (.string b) := by rw [h]
theorem dec_len : ∀ (f n : Nat), n < 10 ^ (f + 1) → (Lib.decDigits n).length ≤ f + 1
  | 0, n, h => by rw [Lib.decDigits, dif_pos (by omega)]; simp
  | f + 1, n, h => by
    rw [Lib.decDigits]
    split
    · simp
    · rw [List.length_append]
      have := dec_len f (n / 10) (by rw [Nat.pow_succ] at h; omega)
      simp; omega
theorem dec_len20 {n : Nat} (h : n < 18446744073709551616) : (Lib.decDigits n).length ≤ 20 := dec_len 19 n (Nat.lt_of_lt_of_le h (by decide))
theorem itoa_len {n : Int} (h0 : -9223372036854775808 ≤ n) (h1 : n ≤ 9223372036854775807) : (Lib.itoa n).length ≤ 21 := by
  unfold Lib.itoa
  split
  · have := dec_len20 (n := n.natAbs) (by omega); simp; omega
  · have := dec_len20 (n := n.toNat) (by omega); omega
set_option maxHeartbeats 800000 in
theorem natural_any (f : Nat) : ∀ (n : Nat) (w : World), n < 10 ^ f → n < 18446744073709551616 →
    Calls Tryd.prog 45 #[.int .u64 (n : Int)] w fun e w' => e = .returned (.string ⟨(Lib.decDigits n).toArray⟩) ∧ w' = w := by
  induction f with
  | zero =>
    intro n w hn _
    obtain rfl : n = 0 := by simpa using hn
    go_enter Tryd.func45, Tryd.ntmps45
    go_wp2_with fail
    go_ret
    refine ⟨ret_str (ba_ext ?_), rfl⟩
    rw [Lib.decDigits, dif_pos (by omega)]
    decide
  | succ f ih =>
    intro n w hn h64
    by_cases h10 : n < 10
    · have hd : decide ((n : Int) < 10) = true := by simp; omega
      have HD : Hid (Lib.decDigits n = [UInt8.ofNat (48 + n)]) := Lib.hid (by rw [Lib.decDigits, dif_pos h10])
      have HC := Lib.hid (digit_cut ⟨n, h10⟩)
      go_enter Tryd.func45, Tryd.ntmps45
      go_wp2_with fail
      go_ret
      refine ⟨ret_str (ba_ext ?_), rfl⟩
      rw [HD.out]
      exact HC.out
    · have hd : decide ((n : Int) < 10) = false := by simp; omega
      have HD : Hid (Lib.decDigits n = Lib.decDigits (n / 10) ++ [UInt8.ofNat (48 + n % 10)]) := Lib.hid (by rw [Lib.decDigits, dif_neg h10])
      have HM : Hid (Lib.decDigits (n % 10) = [UInt8.ofNat (48 + n % 10)]) := Lib.hid (by rw [Lib.decDigits, dif_pos (by omega)])
      have hq : n / 10 < 10 ^ f := by rw [Nat.pow_succ] at hn; omega
      have hm0 : n % 10 < 10 ^ f := by
        cases f with
        | zero => simp at hn; omega
        | succ f => rw [Nat.pow_succ]; have : 0 < 10 ^ f := Nat.pow_pos (by omega); omega
      have H1 : Hid (Calls Tryd.prog 45 #[.int .u64 ((n : Int) / 10)] w fun e w' => e = .returned (.string ⟨(Lib.decDigits (n / 10)).toArray⟩) ∧ w' = w) := Lib.hid (by have := ih (n / 10) w hq (by omega); rwa [show ((n / 10 : Nat) : Int) = (n : Int) / 10 by omega] at this)
      have H2 : Hid (Calls Tryd.prog 45 #[.int .u64 ((n : Int) % 10)] w fun e w' => e = .returned (.string ⟨(Lib.decDigits (n % 10)).toArray⟩) ∧ w' = w) := Lib.hid (by have := ih (n % 10) w hm0 (by omega); rwa [show ((n % 10 : Nat) : Int) = (n : Int) % 10 by omega] at this)
      have hl1 := dec_len20 (n := n / 10) (by omega)
      have hl2 := dec_len20 (n := n % 10) (by omega)
      clear hn hq hm0 ih
      go_enter Tryd.func45, Tryd.ntmps45
      go_wp2_with (first | (go_at_call 45; (with_reducible refine H1.out.mono ?_); rintro e w' ⟨rfl, rfl⟩) | (go_at_call 45; (with_reducible refine H2.out.mono ?_); rintro e w' ⟨rfl, rfl⟩))
      go_ret
      refine ⟨ret_str (ba_ext ?_), rfl⟩
      rw [HD.out, ← HM.out, ba_append]
set_option maxHeartbeats 800000 in
theorem digits_any (n : Int) (w : World) (h0 : -9223372036854775808 ≤ n) (h1 : n ≤ 9223372036854775807) :
    Calls Tryd.prog 32 #[.int .i64 n] w fun e w' => e = .returned (.string ⟨(Lib.itoa n).toArray⟩) ∧ w' = w := by
  have big : ∀ m : Nat, m < 18446744073709551616 → m < 10 ^ 20 := fun m hm => Nat.lt_of_lt_of_le hm (by decide)
  by_cases hn : n < 0
  · have hd : decide (n < 0) = true := by simpa using hn
    have H1 : Hid (Calls Tryd.prog 45 #[.int .u64 (-(n + 1) + 1)] w fun e w' => e = .returned (.string ⟨(Lib.decDigits n.natAbs).toArray⟩) ∧ w' = w) := Lib.hid (by
      have := natural_any 20 n.natAbs w (big _ (by omega)) (by omega)
      rwa [show ((n.natAbs : Nat) : Int) = -(n + 1) + 1 by omega] at this)
    have HI : Hid (Lib.itoa n = 45 :: Lib.decDigits n.natAbs) := Lib.hid (by unfold Lib.itoa; rw [if_pos hn])
    have hl1 := dec_len20 (n := n.natAbs) (by omega)
    have e1 : IntKind.u64.wrap (-(n + 1)) = -(n + 1) := by simp [IntKind.wrap, IntKind.signed, IntKind.bits]; omega
    go_enter Tryd.func32, Tryd.ntmps32
    go_wp2_with (go_at_call 45; (refine H1.out.mono ?_); rintro e w' ⟨rfl, rfl⟩)
    go_ret
    refine ⟨ret_str (ba_ext ?_), rfl⟩
    rw [HI.out, ba_append]
    rfl
  · have hd : decide (n < 0) = false := by simpa using hn
    have H1 : Hid (Calls Tryd.prog 45 #[.int .u64 n] w fun e w' => e = .returned (.string ⟨(Lib.decDigits n.toNat).toArray⟩) ∧ w' = w) := Lib.hid (by
      have := natural_any 20 n.toNat w (big _ (by omega)) (by omega)
      rwa [show ((n.toNat : Nat) : Int) = n by omega] at this)
    have HI : Hid (Lib.itoa n = Lib.decDigits n.toNat) := Lib.hid (by unfold Lib.itoa; rw [if_neg hn])
    have e1 : IntKind.u64.wrap n = n := by simp [IntKind.wrap, IntKind.signed, IntKind.bits]; omega
    go_enter Tryd.func32, Tryd.ntmps32
    go_wp2_with (go_at_call 45; (refine H1.out.mono ?_); rintro e w' ⟨rfl, rfl⟩)
    go_ret
    exact ⟨ret_str (by rw [HI.out]), rfl⟩
end Go.Proofs.YtaflcbdbacogeaaDoor
