/-
  Chapter 61: several texts in one (R39, R40).
-/
import Derived.Test.YtjfohapnjnopfaaGreatDoorK35
import Derived.Test.YtjfohapnjnopfaaGreatDoorK10
import Derived.Test.YtjfohapnjnopfaaGreatDoorLB
import Derived.Test.YtjfohapnjnopfaaGreatDoorR19
import Derived.Laws.IdiomStrings
/-
  Decimal numerals of the reference.
-/
section
set_option linter.unusedVariables false
set_option linter.unusedSimpArgs false
namespace Go.Proofs.YtjfohapnjnopfaaGreatDoor
open Go.RowKit RepM

theorem ba_ext {a : ByteArray} {l : List UInt8} (h : a.data.toList = l) : a = ⟨l.toArray⟩ := by
  obtain ⟨⟨x⟩⟩ := a
  simp at h
  rw [h]
theorem ba_append (a b : ByteArray) : (a ++ b).data.toList = a.data.toList ++ b.data.toList := by
  rw [ByteArray.data_append, Array.toList_append]
theorem digit_cut : ∀ k : Fin 10, ((⟨#[48, 49, 50, 51, 52, 53, 54, 55, 56, 57]⟩ : ByteArray).extract k.val (k.val + 1)).data.toList = [UInt8.ofNat (48 + k.val)] := by decide
theorem ret_strB {a b : ByteArray} (h : a = b) : Ending.returned (.string a) = .returned (.string b) := by rw [h]
theorem dec_len20 {n : Nat} (h : n < 18446744073709551616) : (Lib.decDigits n).length ≤ 20 := dec_len 19 n (Nat.lt_of_lt_of_le h (by decide))
set_option maxHeartbeats 800000 in
theorem rnatural_any (f : Nat) : ∀ (n : Nat) (w : World), n < 10 ^ f → n < 18446744073709551616 →
    Calls Tryz.prog 92 #[.int .u64 (n : Int)] w fun e w' => e = .returned (.string ⟨(Lib.decDigits n).toArray⟩) ∧ w' = w := by
  induction f with
  | zero =>
    intro n w hn _
    obtain rfl : n = 0 := by simpa using hn
    go_enter Tryz.func92, Tryz.ntmps92
    go_wp2_with fail
    go_ret
    refine ⟨ret_strB (ba_ext ?_), rfl⟩
    rw [Lib.decDigits, dif_pos (by omega)]
    decide
  | succ f ih =>
    intro n w hn h64
    by_cases h10 : n < 10
    · have hd : decide ((n : Int) < 10) = true := by simp; omega
      have HD : Hid (Lib.decDigits n = [UInt8.ofNat (48 + n)]) := Lib.hid (by rw [Lib.decDigits, dif_pos h10])
      have HC := Lib.hid (digit_cut ⟨n, h10⟩)
      go_enter Tryz.func92, Tryz.ntmps92
      go_wp2_with fail
      go_ret
      refine ⟨ret_strB (ba_ext ?_), rfl⟩
      rw [HD.out]
      exact HC.out
    · have hd : decide ((n : Int) < 10) = false := by simp; omega
      have HD : Hid (Lib.decDigits n = Lib.decDigits (n / 10) ++ [UInt8.ofNat (48 + n % 10)]) := Lib.hid (by rw [Lib.decDigits, dif_neg h10])
      have HM : Hid (Lib.decDigits (n % 10) = [UInt8.ofNat (48 + n % 10)]) := Lib.hid (by rw [Lib.decDigits, dif_pos (by omega)])
      have hq : n / 10 < 10 ^ f := by rw [Nat.pow_succ] at hn; omega
      have hm0 : n % 10 < 10 ^ f := by
        cases f with
        | zero => simp at hn; omega
        | succ f => rw [Nat.pow_succ]; have : 0 < 10 ^ f := Nat.pow_pos (by omega); omega
      have H1 : Hid (Calls Tryz.prog 92 #[.int .u64 ((n : Int) / 10)] w fun e w' => e = .returned (.string ⟨(Lib.decDigits (n / 10)).toArray⟩) ∧ w' = w) := Lib.hid (by have := ih (n / 10) w hq (by omega); rwa [show ((n / 10 : Nat) : Int) = (n : Int) / 10 by omega] at this)
      have H2 : Hid (Calls Tryz.prog 92 #[.int .u64 ((n : Int) % 10)] w fun e w' => e = .returned (.string ⟨(Lib.decDigits (n % 10)).toArray⟩) ∧ w' = w) := Lib.hid (by have := ih (n % 10) w hm0 (by omega); rwa [show ((n % 10 : Nat) : Int) = (n : Int) % 10 by omega] at this)
      have hl1 := dec_len20 (n := n / 10) (by omega)
      have hl2 := dec_len20 (n := n % 10) (by omega)
      clear hn hq hm0 ih
      go_enter Tryz.func92, Tryz.ntmps92
      go_wp2_with (first | (go_at_call 92; (with_reducible refine H1.out.mono ?_); rintro e w' ⟨rfl, rfl⟩) | (go_at_call 92; (with_reducible refine H2.out.mono ?_); rintro e w' ⟨rfl, rfl⟩))
      go_ret
      refine ⟨ret_strB (ba_ext ?_), rfl⟩
      rw [HD.out, ← HM.out, ba_append]
set_option maxHeartbeats 800000 in
theorem rdigits_any (n : Int) (w : World) (h0 : -9223372036854775808 ≤ n) (h1 : n ≤ 9223372036854775807) :
    Calls Tryz.prog 62 #[.int .i64 n] w fun e w' => e = .returned (.string ⟨(Lib.itoa n).toArray⟩) ∧ w' = w := by
  have big : ∀ m : Nat, m < 18446744073709551616 → m < 10 ^ 20 := fun m hm => Nat.lt_of_lt_of_le hm (by decide)
  by_cases hn : n < 0
  · have hd : decide (n < 0) = true := by simpa using hn
    have H1 : Hid (Calls Tryz.prog 92 #[.int .u64 (-(n + 1) + 1)] w fun e w' => e = .returned (.string ⟨(Lib.decDigits n.natAbs).toArray⟩) ∧ w' = w) := Lib.hid (by
      have := rnatural_any 20 n.natAbs w (big _ (by omega)) (by omega)
      rwa [show ((n.natAbs : Nat) : Int) = -(n + 1) + 1 by omega] at this)
    have HI : Hid (Lib.itoa n = 45 :: Lib.decDigits n.natAbs) := Lib.hid (by unfold Lib.itoa; rw [if_pos hn])
    have hl1 := dec_len20 (n := n.natAbs) (by omega)
    have e1 : IntKind.u64.wrap (-(n + 1)) = -(n + 1) := by simp [IntKind.wrap, IntKind.signed, IntKind.bits]; omega
    go_enter Tryz.func62, Tryz.ntmps62
    go_wp2_with (go_at_call 92; (refine H1.out.mono ?_); rintro e w' ⟨rfl, rfl⟩)
    go_ret
    refine ⟨ret_strB (ba_ext ?_), rfl⟩
    rw [HI.out, ba_append]
    rfl
  · have hd : decide (n < 0) = false := by simpa using hn
    have H1 : Hid (Calls Tryz.prog 92 #[.int .u64 n] w fun e w' => e = .returned (.string ⟨(Lib.decDigits n.toNat).toArray⟩) ∧ w' = w) := Lib.hid (by
      have := rnatural_any 20 n.toNat w (big _ (by omega)) (by omega)
      rwa [show ((n.toNat : Nat) : Int) = n by omega] at this)
    have HI : Hid (Lib.itoa n = Lib.decDigits n.toNat) := Lib.hid (by unfold Lib.itoa; rw [if_neg hn])
    have e1 : IntKind.u64.wrap n = n := by simp [IntKind.wrap, IntKind.signed, IntKind.bits]; omega
    go_enter Tryz.func62, Tryz.ntmps62
    go_wp2_with (go_at_call 92; (refine H1.out.mono ?_); rintro e w' ⟨rfl, rfl⟩)
    go_ret
    exact ⟨ret_strB (by rw [HI.out]), rfl⟩
end Go.Proofs.YtjfohapnjnopfaaGreatDoor
end
/-
  Chapter 61: the reference's decimals, times, names.
-/
section
set_option linter.unusedVariables false
set_option linter.unusedSimpArgs false
namespace Go.Proofs.YtjfohapnjnopfaaGreatDoor
open Go.RowKit RepM

attribute [local go_sem] ExtOf.cell ExtOf.frozen Block.cell Block.frozen ExtB.cell ExtB.frozen alloc_cell alloc_frozen
/-- bytes -/
def encU (c : UInt8) : List Value := [.int .u8 (c.toNat : Int)]
theorem encU_len (c : UInt8) : (encU c).length = 1 := rfl
theorem encU_one : ∀ x : UInt8, ∀ u ∈ encU x, u.oneCell' = true := by
  intro x u hu
  simp [encU] at hu
  subst hu
  rfl
theorem U.elem {w : World} {p : Option Addr} {n cap : Nat} {l : List UInt8} (h : SliceOf encU 1 w (.slice p n cap) l) {i : Nat} (hi : i < l.length) : ∃ b off, p = some ⟨b, off, none⟩ ∧ w.cell? ⟨b, off + i, none⟩ = some (.int .u8 (l[i].toNat : Int)) := by
  obtain ⟨b, off, rfl, hr⟩ := SliceOf.elemK h hi
  exact ⟨b, off, rfl, by have := hr 0 _ rfl; simpa using this⟩
theorem conv_U {w : World} {p : Option Addr} {n cap : Nat} {l : List UInt8} (h : SliceOf encU 1 w (.slice p n cap) l) (hl : 0 < l.length) : (convert 51 9 (.slice p n cap)).run Tryz.prog w = .ok (.string (cB l)) w := by
  obtain ⟨p', cap', e, _⟩ := SliceOf.form h
  simp only [Value.slice.injEq] at e
  obtain ⟨rfl, rfl, rfl⟩ := e
  obtain ⟨b, off, rfl, _⟩ := U.elem h hl
  refine run_convert_bytes_back w 51 9 5 ⟨b, off, none⟩ _ l Tryz.underlying51 Tryz.underlying5 Tryz.underlying9 (fun j hj => ?_)
  obtain ⟨b', off', e, hc⟩ := U.elem h hj
  cases e
  have hadd : (⟨b, off, none⟩ : Addr).add j = ⟨b, off + j, none⟩ := by unfold Addr.add; split <;> simp_all
  rw [hadd]
  exact hc
theorem clamp0 (w : World) : Calls Tryz.prog 106 #[.int .i64 0, .int .i64 0, .int .i64 9] w fun e w' => e = .returned (.int .i64 0) ∧ ∃ n : ExtOf w, w' = n.val := by
  go_enter Tryz.func106, Tryz.ntmps106
  go_wp2_with fail
  go_ret
  exact ⟨rfl, ExtOf.of (Ext.refl _)⟩
theorem size_any (n : Nat) (w : World) (hn : n < 1000000000000) : Calls Tryz.prog 107 #[.int .i64 (n : Int)] w fun e w' => e = .returned (.int .u64 (n : Int)) ∧ ∃ n : ExtOf w, w' = n.val := by
  have hd : decide ((n : Int) < 0) = false := decide_eq_false (by omega)
  have e1 : IntKind.u64.wrap (n : Int) = n := by simp [IntKind.wrap, IntKind.signed, IntKind.bits]; omega
  go_enter Tryz.func107, Tryz.ntmps107
  go_wp2_with fail
  go_ret
  exact ⟨rfl, ExtOf.of (Ext.refl _)⟩
/-- what is left to write, ahead of the digits that have been written -/
def decR (m i : Nat) : List UInt8 := if i = 0 then Lib.decDigits m else if m = 0 then [] else Lib.decDigits m
theorem decR_step {m i : Nat} (h : 0 < m ∨ i = 0) : decR m i = decR (m / 10) (i + 1) ++ [UInt8.ofNat (48 + m % 10)] := by
  have h1 : decR m i = Lib.decDigits m := by
    unfold decR
    split
    · rfl
    · rw [if_neg (by omega)]
  rw [h1]
  unfold decR
  rw [if_neg (by omega), Lib.decDigits]
  split
  · rw [if_pos (by omega), show m % 10 = m by omega]; rfl
  · rw [if_neg (by omega)]
theorem byte_u8 (m : Nat) : ((UInt8.ofNat (48 + m % 10)).toNat : Int) = 48 + (m : Int) % 10 := by rw [UInt8.toNat_ofNat']; omega
theorem infoU8b : (Tryz.prog.info? 5).map (fun i => (i.zero, i.size, i.bytes)) = some (some (.int .u8 0), 1, 1) := infoU8
set_option maxHeartbeats 1600000 in
set_option maxRecDepth 20000 in
theorem decimal_any (n : Nat) (w : World) (hn : n < 100000000) : Calls Tryz.prog 90 #[.int .i64 (n : Int), .int .i64 0] w fun e w' => e = .returned (.string (cB (Lib.decDigits n))) ∧ ∃ n : ExtOf w, w' = n.val := by
  obtain ⟨iU, hiU, hU0, hU1, hU2⟩ := info_parts infoU8b
  have HSZ := Lib.hid (fun W => size_any n W (by omega))
  go_enter Tryz.func90, Tryz.ntmps90
  go_wp2_with (first | (go_at_call 106; refine (clamp0 _).mono ?_; rintro en w' ⟨rfl, n1, rfl⟩) | (go_at_call 107; refine (HSZ.out _).mono ?_; rintro en w' ⟨rfl, n2, rfl⟩))
  have HX0 : Hid (Ext w n2.val) := Lib.hid (by repeat' (first | (with_reducible exact Ext.refl _) | (with_reducible exact ExtOf.ext _) | (with_reducible refine Ext.trans ?_ (ExtOf.ext _)) | (with_reducible refine Ext.alloc ?_ _) | (with_reducible refine Ext.drew ?_) | (with_reducible refine Ext.setCell ?_ ?_ _) | (with_reducible refine Ext.setRow ?_ ?_ _) | (with_reducible exact HX.out) | (with_reducible refine Ext.trans ?_ HX.out) | (with_reducible refine Ext.below ?_ (Nat.le_refl _) _) | omega | (simp; done) | (simp; omega)))
  generalize n2.val = W0 at *
  go_loopw [7, 8, 6] (fun vl vi vm wr => ∃ (l : List UInt8) (i m : Nat), vi = .int .i64 i ∧ vm = .int .u64 m ∧ i ≤ 8 ∧ m < 10 ^ (8 - i) ∧ l.length = i ∧ Own encU 1 5 W0.heap.size wr vl l ∧ Lib.decDigits n = decR m i ++ l.reverse ∧ Ext W0 wr) (fun _ i m _ => (intOf m).toNat * 2 + (if (intOf i).toNat = 0 then 1 else 0))
  case atStart => exact ⟨[], 0, n, rfl, rfl, by omega, by simpa using hn, rfl, Own.nil _, by simp [decR], Ext.refl _⟩
  case round =>
    obtain ⟨l, i, m, rfl, rfl, hi, hm, hll, ho, hD, hx⟩ := hrel
    have HO := Lib.hid ho
    have HD := Lib.hid hD
    have HX := Lib.hid hx
    have hm8 : m < 100000000 := Nat.lt_of_lt_of_le hm (by have := Nat.pow_le_pow_right (show 0 < 10 by decide) (show 8 - i ≤ 8 by omega); simpa using this)
    obtain ⟨q, c, rfl⟩ := Own.form2 ho
    have HLL := Lib.hid hll
    have hl8 : l.length ≤ 8 := by omega
    have hlp0 : i ≠ 0 → 0 < l.length := by omega
    clear ho hD hx hll
    by_cases hgo : 0 < m ∨ i = 0
    · have HST := Lib.hid (decR_step hgo)
      have HM : Hid (i + 1 ≤ 8 ∧ m / 10 < 10 ^ (8 - (i + 1))) := Lib.hid (by
        by_cases h8 : i = 8
        · subst h8; simp at hm; omega
        · refine ⟨by omega, ?_⟩
          rw [show 8 - i = (8 - (i + 1)) + 1 by omega, Nat.pow_succ] at hm
          omega)
      have HME : Hid (m / 10 * 2 + 0 < m * 2 + (if i = 0 then 1 else 0)) := Lib.hid (by split <;> omega)
      have HB := Lib.hid (byte_u8 m)
      have H48 : Hid (m = 0 → UInt8.ofNat (48 + m % 10) = 48) := Lib.hid (fun h => by subst h; rfl)
      obtain ⟨by8, hby⟩ : ∃ by8, by8 = UInt8.ofNat (48 + m % 10) := ⟨_, rfl⟩
      rw [← hby] at HB HST H48
      have hw8 : IntKind.u8.wrap (48 + (m : Int) % 10) = (by8.toNat : Int) := by rw [HB.out]; simp [IntKind.wrap, IntKind.signed, IntKind.bits]; omega
      clear hby hm
      by_cases h0 : i = 0
      · subst h0
        by_cases hm0 : m = 0
        · subst hm0
          obtain rfl := H48.out rfl
          go_wp2_with (at_builtin; refine wl_append1g (enc := encU) (k := 1) (E := 5) (base := W0.heap.size) (l := l) (y := 48) Tryz.underlying51 hiU hU0 hU1 hU2 rfl (by decide) encU_len encU_one rfl rfl (Own.alloc HO.out _) inferInstance rfl (by unfold maxLen; omega) (by omega) (by have := HX.out.size; simp; omega) ?_; intro v7 n7 ho7 hk7)
          go_roundw
          case rel => exact ⟨l ++ [48], _, _, by first | rfl | go_num, by first | rfl | go_num, HM.out.1, HM.out.2, by rw [List.length_append, HLL.out]; rfl, ho7, by rw [HD.out, HST.out]; simp, Below.trans (HX.out.trans ((Ext.refl _).alloc _)) n7.below⟩
          case measure => first | (simp [intOf]; done) | (simp [intOf]; have := HME.out; omega)
        · have d1 : decide (0 < (m : Int)) = true := decide_eq_true (by omega)
          go_wp2_with (at_builtin; refine wl_append1g (enc := encU) (k := 1) (E := 5) (base := W0.heap.size) (l := l) (y := by8) Tryz.underlying51 hiU hU0 hU1 hU2 rfl (by decide) encU_len encU_one rfl rfl (Own.alloc HO.out _) inferInstance rfl (by unfold maxLen; omega) (by omega) (by have := HX.out.size; simp; omega) ?_; intro v7 n7 ho7 hk7)
          go_roundw
          case rel => exact ⟨l ++ [by8], _, _, by first | rfl | go_num, by first | rfl | go_num, HM.out.1, HM.out.2, by rw [List.length_append, HLL.out]; rfl, ho7, by rw [HD.out, HST.out]; simp, Below.trans (HX.out.trans ((Ext.refl _).alloc _)) n7.below⟩
          case measure => first | (simp [intOf]; done) | (simp [intOf]; have := HME.out; omega)
      · have hm0 : 0 < m := by omega
        have d1 : decide (0 < (m : Int)) = true := decide_eq_true (by omega)
        have d2 : ((i : Int) == 0) = false := beq_eq_false_iff_ne.2 (by omega)
        go_wp2_with (at_builtin; refine wl_append1g (enc := encU) (k := 1) (E := 5) (base := W0.heap.size) (l := l) (y := by8) Tryz.underlying51 hiU hU0 hU1 hU2 rfl (by decide) encU_len encU_one rfl rfl (Own.alloc HO.out _) inferInstance rfl (by unfold maxLen; omega) (by omega) (by have := HX.out.size; simp; omega) ?_; intro v7 n7 ho7 hk7)
        go_roundw
        case rel => exact ⟨l ++ [by8], _, _, by first | rfl | go_num, by first | rfl | go_num, HM.out.1, HM.out.2, by rw [List.length_append, HLL.out]; rfl, ho7, by rw [HD.out, HST.out]; simp, Below.trans (HX.out.trans ((Ext.refl _).alloc _)) n7.below⟩
        case measure => first | (simp [intOf]; done) | (simp [intOf]; have := HME.out; omega)
    · have hm0 : m = 0 := by omega
      have hi0 : 0 < i := by omega
      have d2 : decide ((i : Int) ≤ 0) = false := decide_eq_false (by omega)
      have d3 : decide (i = 0) = false := decide_eq_false (by omega)
      have HDD : Hid (Lib.decDigits n = l.reverse) := Lib.hid (by rw [HD.out]; unfold decR; rw [if_neg (by omega), if_pos hm0]; rfl)
      have hlp : 0 < l.length := hlp0 (by omega)
      have hnn : decide ((n : Int) < 0) = false := decide_eq_false (by omega)
      subst hm0
      rw [show ((0 : Nat) : Int) = 0 from rfl]
      clear hgo hm hm8 hi0
      go_wp2_with fail
      rename World => W1
      go_loopw [9, 10] (fun vo vi wr => ∃ r : Nat, r ≤ l.length ∧ vi = .int .i64 (if r = 0 then -1 else ((r - 1 : Nat) : Int)) ∧ Own encU 1 5 W1.heap.size wr vo (l.drop r).reverse ∧ Ext W1 wr) (fun _ i _ => (intOf i + 1).toNat)
      case atStart => exact ⟨l.length, by omega, by rw [if_neg (by omega)]; first | rfl | (congr 1; omega) | go_num, by rw [List.drop_length]; exact Own.nil _, Ext.refl _⟩
      case round =>
        obtain ⟨r, hr, rfl, ho, hx⟩ := hrel
        have HO2 := Lib.hid ho
        have HX2 := Lib.hid hx
        obtain ⟨q2, c2, rfl⟩ := Own.form2 ho
        clear ho hx
        cases r with
        | zero =>
          have hout : (l.drop 0).reverse = l.reverse := by rw [List.drop_zero]
          rw [hout] at HO2
          have hcv := conv_U (Own.slice encU_len HO2.out) (by simp; omega)
          rw [List.length_reverse] at hcv
          simp only [hout, if_true]
          go_wp2_with fail
          go_ret
          exact ⟨congrArg (fun s => Ending.returned (.string s)) (by rw [HDD.out]), ExtOf.of (HX0.out.trans (HX.out.trans HX2.out))⟩
        | succ r =>
          have hlt : r < l.length := by omega
          have HST : Hid ((l.drop r).reverse = (l.drop (r + 1)).reverse ++ [l[r]]) := Lib.hid (by rw [List.drop_eq_getElem_cons hlt, List.reverse_cons])
          obtain ⟨bb, off, rfl, hel⟩ := U.elem (SliceOf.ext (Own.slice encU_len HO.out) HX2.out) hlt
          have obb := Old.of_cell hel
          generalize l[r] = u at *
          have hol : ((l.drop (r + 1)).reverse).length = l.length - (r + 1) := by simp
          obtain ⟨out, hout⟩ : ∃ out, out = (l.drop (r + 1)).reverse := ⟨_, rfl⟩
          rw [← hout] at HO2 HST hol ⊢
          rw [if_neg (by omega)]
          simp only [Nat.add_sub_cancel]
          clear hout
          go_wp2_with (at_builtin; refine wl_append1g (enc := encU) (k := 1) (E := 5) (base := W1.heap.size) (l := out) (y := u) Tryz.underlying51 hiU hU0 hU1 hU2 rfl (by decide) encU_len encU_one rfl rfl (Own.alloc HO2.out _) inferInstance rfl (by unfold maxLen; omega) (by omega) (by have := HX2.out.size; simp; omega) ?_; intro v7 n7 ho7 hk7)
          go_roundw
          case rel => exact ⟨r, by omega, by (split <;> first | rfl | (congr 1; omega)), by rw [HST.out]; exact ho7, Below.trans (HX2.out.trans ((Ext.refl _).alloc _)) n7.below⟩
          case measure => first | (simp [intOf]; done) | (simp [intOf]; omega)
theorem byte_two {x : Int} (h0 : 0 ≤ x) (h1 : x < 10) : IntKind.u8.wrap (48 + x) = ((UInt8.ofNat (48 + x.toNat)).toNat : Int) := by
  rw [UInt8.toNat_ofNat']; simp [IntKind.wrap, IntKind.signed, IntKind.bits]; omega
set_option maxRecDepth 20000 in
theorem rtwo_any (n : Nat) (w : World) (h1 : n < 100) : Calls Tryz.prog 91 #[.int .i64 (n : Int)] w fun e w' => e = .returned (.string (cB (twoL n))) ∧ ∃ n : ExtOf w, w' = n.val := by
  obtain ⟨c1, hc1⟩ : ∃ c1, c1 = UInt8.ofNat (48 + n / 10) := ⟨_, rfl⟩
  obtain ⟨c2, hc2⟩ : ∃ c2, c2 = UInt8.ofNat (48 + n % 10) := ⟨_, rfl⟩
  have w1 : IntKind.u8.wrap (48 + (n : Int) / 10) = (c1.toNat : Int) := by rw [hc1, UInt8.toNat_ofNat']; simp [IntKind.wrap, IntKind.signed, IntKind.bits] <;> omega
  have w2 : IntKind.u8.wrap (48 + (n : Int) % 10) = (c2.toNat : Int) := by rw [hc2, UInt8.toNat_ofNat']; simp [IntKind.wrap, IntKind.signed, IntKind.bits] <;> omega
  have HL : Hid (twoL (n : Int) = [c1, c2]) := Lib.hid (by rw [hc1, hc2]; unfold twoL; simp)
  clear hc1 hc2
  have hcv : ∀ W : World, (convert 51 9 (.slice (some ⟨w.heap.size, 0, none⟩) 2 2)).run Tryz.prog (w.alloc (.cells #[.int .u8 (c1.toNat : Int), .int .u8 (c2.toNat : Int)] 5)) = .ok (.string (cB [c1, c2])) (w.alloc (.cells #[.int .u8 (c1.toNat : Int), .int .u8 (c2.toNat : Int)] 5)) := fun W =>
    conv_U (Own.slice encU_len (Own.fresh (base := w.heap.size) (l := [c1, c2]) encU_len rfl rfl (Nat.le_refl _) (by unfold maxLen; simp))) (by simp)
  go_enter Tryz.func91, Tryz.ntmps91
  go_wp2_with fail
  rw [hcv w]
  go_wp2_with fail
  go_ret
  exact ⟨congrArg (fun s => Ending.returned (.string s)) (by rw [HL.out]), by exact ExtOf.of (by repeat' (first | (with_reducible exact Ext.refl _) | (with_reducible exact ExtOf.ext _) | (with_reducible refine Ext.trans ?_ (ExtOf.ext _)) | (with_reducible refine Ext.alloc ?_ _) | (with_reducible refine Ext.drew ?_) | (with_reducible refine Ext.setCell ?_ ?_ _) | (with_reducible refine Ext.setRow ?_ ?_ _) | (with_reducible exact HX.out) | (with_reducible refine Ext.trans ?_ HX.out) | (with_reducible refine Ext.below ?_ (Nat.le_refl _) _) | omega | (simp; done) | (simp; omega)))⟩
theorem rformat_any (t : Int) (w : World) (h0 : 0 ≤ t) (h1 : t ≤ 10000000) : Calls Tryz.prog 60 #[.int .i64 t] w fun e w' => e = .returned (.string (cB (timeL t))) ∧ ∃ n : ExtOf w, w' = n.val := by
  obtain ⟨m, rfl⟩ : ∃ m : Nat, t = (m : Int) := ⟨t.toNat, by omega⟩
  have HI : Hid (Lib.itoa ((m : Int) / 1440) = Lib.decDigits (m / 1440)) := Lib.hid (by rw [show (m : Int) / 1440 = ((m / 1440 : Nat) : Int) by omega, itoa_nat])
  have HD : Hid (∀ W, Calls Tryz.prog 90 #[.int .i64 ((m : Int) / 1440), .int .i64 0] W fun e w' => e = .returned (.string (cB (Lib.itoa ((m : Int) / 1440)))) ∧ ∃ n : ExtOf W, w' = n.val) := Lib.hid (fun W => by
    have := decimal_any (m / 1440) W (by omega)
    rw [HI.out, show (m : Int) / 1440 = ((m / 1440 : Nat) : Int) by omega]; exact this)
  have HT1 : Hid (∀ W, Calls Tryz.prog 91 #[.int .i64 ((m : Int) % 1440 / 60)] W fun e w' => e = .returned (.string (cB (twoL ((m : Int) % 1440 / 60)))) ∧ ∃ n : ExtOf W, w' = n.val) := Lib.hid (fun W => by
    have := rtwo_any (m % 1440 / 60) W (by omega)
    rw [show (m : Int) % 1440 / 60 = ((m % 1440 / 60 : Nat) : Int) by omega]; exact this)
  have HT2 : Hid (∀ W, Calls Tryz.prog 91 #[.int .i64 ((m : Int) % 60)] W fun e w' => e = .returned (.string (cB (twoL ((m : Int) % 60)))) ∧ ∃ n : ExtOf W, w' = n.val) := Lib.hid (fun W => by
    have := rtwo_any (m % 60) W (by omega)
    rw [show (m : Int) % 60 = ((m % 60 : Nat) : Int) by omega]; exact this)
  have s1 := cB_small ((m : Int) / 1440) (by omega) (by omega)
  have s2 : (cB (twoL ((m : Int) % 1440 / 60))).size = 2 := rfl
  have s3 : (cB (twoL ((m : Int) % 60))).size = 2 := rfl
  have hb : timeB (m : Int) = true := by unfold timeB; simp; omega
  go_enter Tryz.func60, Tryz.ntmps60
  go_wp2_with (first | (go_at_call 86; refine (ristime_any _ _).mono ?_; rintro en w' ⟨rfl, n0, rfl⟩; rw [hb]) | (go_at_call 90; refine (HD.out _).mono ?_; rintro en w' ⟨rfl, n1, rfl⟩) | (go_at_call 91; (first | (with_reducible refine Calls.mono (HT1.out _) ?_) | (with_reducible refine Calls.mono (HT2.out _) ?_)); rintro en w' ⟨rfl, n2, rfl⟩))
  go_ret
  exact ⟨congrArg (fun s => Ending.returned (.string s)) (Go.WideShapes.bytes_inj (by simp [cB, timeL])), by exact ExtOf.of (by repeat' (first | (with_reducible exact Ext.refl _) | (with_reducible exact ExtOf.ext _) | (with_reducible refine Ext.trans ?_ (ExtOf.ext _)) | (with_reducible refine Ext.alloc ?_ _) | (with_reducible refine Ext.drew ?_) | (with_reducible refine Ext.setCell ?_ ?_ _) | (with_reducible refine Ext.setRow ?_ ?_ _) | (with_reducible exact HX.out) | (with_reducible refine Ext.trans ?_ HX.out) | (with_reducible refine Ext.below ?_ (Nat.le_refl _) _) | omega | (simp; done) | (simp; omega)))⟩
end Go.Proofs.YtjfohapnjnopfaaGreatDoor
end
