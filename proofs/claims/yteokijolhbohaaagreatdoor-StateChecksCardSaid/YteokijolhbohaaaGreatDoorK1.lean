/-
  Chapter 59: several texts in one (S1, S2, S3, S4).
-/
import Derived.Test.YteokijolhbohaaaGreatDoorRows
import Derived.Test.YteokijolhbohaaaGreatDoorLB
import Derived.Test.YteokijolhbohaaaGreatDoorMM
/-
  Chapter 59: names.
-/
section
set_option linter.unusedVariables false
set_option linter.unusedSimpArgs false
namespace Go.Proofs.YteokijolhbohaaaGreatDoor
open Go.RowKit StM

attribute [local go_sem] ExtOf.cell ExtOf.frozen Block.cell Block.frozen ExtB.cell ExtB.frozen alloc_cell alloc_frozen
theorem isSmall_any (c : UInt8) (w : World) : Calls Tryz.prog 78 #[.int .u8 (c.toNat : Int)] w fun e w' => e = .returned (.bool (StM.small c)) ∧ w' = w := by
  have hc := c.toNat_lt
  unfold StM.small
  by_cases h1 : 97 ≤ c.toNat
  · have q1 : decide ((97 : Int) ≤ (c.toNat : Int)) = true := by simp; omega
    go_enter Tryz.func78, Tryz.ntmps78
    go_wp2
    go_ret
    exact ⟨ret_bool (by simp [h1]; omega), rfl⟩
  · have q1 : decide ((97 : Int) ≤ (c.toNat : Int)) = false := by simp; omega
    go_enter Tryz.func78, Tryz.ntmps78
    go_wp2
    go_ret
    exact ⟨ret_bool (by simp [h1]), rfl⟩
theorem isDigit_any (c : UInt8) (w : World) : Calls Tryz.prog 79 #[.int .u8 (c.toNat : Int)] w fun e w' => e = .returned (.bool (digit c)) ∧ w' = w := by
  have hc := c.toNat_lt
  unfold digit
  by_cases h1 : 48 ≤ c.toNat
  · have q1 : decide ((48 : Int) ≤ (c.toNat : Int)) = true := by simp; omega
    go_enter Tryz.func79, Tryz.ntmps79
    go_wp2
    go_ret
    exact ⟨ret_bool (by simp [h1]; omega), rfl⟩
  · have q1 : decide ((48 : Int) ≤ (c.toNat : Int)) = false := by simp; omega
    go_enter Tryz.func79, Tryz.ntmps79
    go_wp2
    go_ret
    exact ⟨ret_bool (by simp [h1]), rfl⟩
theorem rdigit_any (c : UInt8) (w : World) : Calls Tryz.prog 84 #[.int .u8 (c.toNat : Int)] w fun e w' => e = .returned (.bool (digit c)) ∧ w' = w := by
  have hc := c.toNat_lt
  unfold digit
  by_cases h1 : 48 ≤ c.toNat
  · have q1 : decide ((48 : Int) ≤ (c.toNat : Int)) = true := by simp; omega
    go_enter Tryz.func84, Tryz.ntmps84
    go_wp2
    go_ret
    exact ⟨ret_bool (by simp [h1]; omega), rfl⟩
  · have q1 : decide ((48 : Int) ≤ (c.toNat : Int)) = false := by simp; omega
    go_enter Tryz.func84, Tryz.ntmps84
    go_wp2
    go_ret
    exact ⟨ret_bool (by simp [h1]), rfl⟩
theorem byte_drop (s : ByteArray) {k : Nat} (h : k < s.size) : s.data.toList.drop k = s[k] :: s.data.toList.drop (k + 1) := by
  rw [List.drop_eq_getElem_cons (by simpa using h)]; rfl
theorem nameL_eq (s : ByteArray) (h : 0 < s.size) : nameL s.data.toList = (decide (s.size ≤ 16) && StM.small s[0] && tailOk (s.data.toList.drop 1)) := by
  have e := byte_drop s h
  rw [List.drop_zero] at e
  rw [e, nameL, List.drop_succ_cons, List.drop_zero]
  congr 2
  have : (s.data.toList.drop 1).length + 1 = s.size := by rw [List.length_drop]; simp; omega
  rw [this]
theorem tail_step (s : ByteArray) {k : Nat} (h : k < s.size) : tailOk (s.data.toList.drop k) = ((StM.small s[k] || digit s[k] || s[k].toNat == 95) && tailOk (s.data.toList.drop (k + 1))) := by
  rw [byte_drop s h]; rfl
theorem tail_end (s : ByteArray) {k : Nat} (h : s.size ≤ k) : tailOk (s.data.toList.drop k) = true := by
  rw [List.drop_of_length_le (by simpa using h)]; rfl
set_option maxHeartbeats 800000 in
theorem isName_any (s : ByteArray) (w : World) : Calls Tryz.prog 39 #[.string s] w fun e w' => e = .returned (.bool (nameL s.data.toList)) ∧ w' = w := by
  by_cases h0 : 0 < s.size
  · have HN := Lib.hid (nameL_eq s h0)
    have q1 : decide (s.size < 1) = false := decide_eq_false (by omega)
    by_cases h16 : s.size ≤ 16
    · have q2 : decide (16 < s.size) = false := decide_eq_false (by omega)
      have q3 : decide (s.size ≤ 16) = true := decide_eq_true (by omega)
      rcases hs : StM.small s[0] with _ | _
      · go_enter Tryz.func39, Tryz.ntmps39
        go_wp2_with (first | (go_at_call 78; refine (isSmall_any _ _).mono ?_; rintro e w' ⟨rfl, rfl⟩) | (go_at_call 79; refine (isDigit_any _ _).mono ?_; rintro e w' ⟨rfl, rfl⟩) | (go_at_call 84; refine (rdigit_any _ _).mono ?_; rintro e w' ⟨rfl, rfl⟩))
        go_ret
        exact ⟨ret_bool (by rw [HN.out, hs]; simp), rfl⟩
      · go_enter Tryz.func39, Tryz.ntmps39
        go_wp2_with (first | (go_at_call 78; refine (isSmall_any _ _).mono ?_; rintro e w' ⟨rfl, rfl⟩) | (go_at_call 79; refine (isDigit_any _ _).mono ?_; rintro e w' ⟨rfl, rfl⟩) | (go_at_call 84; refine (rdigit_any _ _).mono ?_; rintro e w' ⟨rfl, rfl⟩))
        go_loop [3] (fun i => ∃ k : Nat, 1 ≤ k ∧ k ≤ s.size ∧ i = .int .i64 k ∧ tailOk (s.data.toList.drop 1) = tailOk (s.data.toList.drop k)) (fun i => s.size - (intOf i).toNat)
        case atStart => exact ⟨1, Nat.le_refl _, by omega, rfl, rfl⟩
        case round =>
          obtain ⟨k, hk1, hk, rfl, hr⟩ := hrel
          have HR := Lib.hid hr
          clear hr
          by_cases hlt : k < s.size
          · have HS := Lib.hid (tail_step s hlt)
            rcases g1 : StM.small s[k] with _ | _
            · rcases g2 : digit s[k] with _ | _
              · by_cases g3 : s[k].toNat = 95
                · have g4 : Hid ((s[k].toNat == 95) = true) := Lib.hid (by simpa using g3)
                  have g5 : ((s[k].toNat : Int) != 95) = false := bne_eq_false_iff_eq.2 (by omega)
                  clear g3
                  go_wp2_with (first | (go_at_call 78; refine (isSmall_any _ _).mono ?_; rintro e w' ⟨rfl, rfl⟩) | (go_at_call 79; refine (isDigit_any _ _).mono ?_; rintro e w' ⟨rfl, rfl⟩) | (go_at_call 84; refine (rdigit_any _ _).mono ?_; rintro e w' ⟨rfl, rfl⟩))
                  go_round
                  case rel => exact ⟨k + 1, by omega, by omega, by first | rfl | go_num, by rw [HR.out, HS.out, g1, g2, g4.out]; simp⟩
                  case measure => simp [intOf]; omega
                · have g4 : (s[k].toNat == 95) = false := by simpa using g3
                  have g5 : ((s[k].toNat : Int) != 95) = true := by simp; omega
                  go_wp2_with (first | (go_at_call 78; refine (isSmall_any _ _).mono ?_; rintro e w' ⟨rfl, rfl⟩) | (go_at_call 79; refine (isDigit_any _ _).mono ?_; rintro e w' ⟨rfl, rfl⟩) | (go_at_call 84; refine (rdigit_any _ _).mono ?_; rintro e w' ⟨rfl, rfl⟩))
                  go_ret
                  exact ⟨ret_bool (by rw [HN.out, HR.out, HS.out, g1, g2, g4]; simp), rfl⟩
              · go_wp2_with (first | (go_at_call 78; refine (isSmall_any _ _).mono ?_; rintro e w' ⟨rfl, rfl⟩) | (go_at_call 79; refine (isDigit_any _ _).mono ?_; rintro e w' ⟨rfl, rfl⟩) | (go_at_call 84; refine (rdigit_any _ _).mono ?_; rintro e w' ⟨rfl, rfl⟩))
                go_round
                case rel => exact ⟨k + 1, by omega, by omega, by first | rfl | go_num, by rw [HR.out, HS.out, g1, g2]; simp⟩
                case measure => simp [intOf]; omega
            · go_wp2_with (first | (go_at_call 78; refine (isSmall_any _ _).mono ?_; rintro e w' ⟨rfl, rfl⟩) | (go_at_call 79; refine (isDigit_any _ _).mono ?_; rintro e w' ⟨rfl, rfl⟩) | (go_at_call 84; refine (rdigit_any _ _).mono ?_; rintro e w' ⟨rfl, rfl⟩))
              go_round
              case rel => exact ⟨k + 1, by omega, by omega, by first | rfl | go_num, by rw [HR.out, HS.out, g1]; simp⟩
              case measure => simp [intOf]; omega
          · have HE := Lib.hid (tail_end s (k := k) (by omega))
            go_wp2_with fail
            go_ret
            exact ⟨ret_bool (by rw [HN.out, HR.out, HE.out, hs]; simp [q3]), rfl⟩
    · have q2 : decide (16 < s.size) = true := decide_eq_true (by omega)
      have q3 : decide (s.size ≤ 16) = false := decide_eq_false (by omega)
      go_enter Tryz.func39, Tryz.ntmps39
      go_wp2_with fail
      go_ret
      exact ⟨ret_bool (by rw [HN.out, q3]; simp), rfl⟩
  · have hn : nameL s.data.toList = false := by
      have : s.data.toList = [] := List.eq_nil_of_length_eq_zero (by have h8 := Array.length_toList (xs := s.data); have h9 : s.data.size = s.size := rfl; omega)
      rw [this]; rfl
    have HN := Lib.hid hn
    have q1 : decide (s.size < 1) = true := decide_eq_true (by omega)
    clear hn
    go_enter Tryz.func39, Tryz.ntmps39
    go_wp2_with fail
    go_ret
    exact ⟨ret_bool HN.out.symm, rfl⟩
def letK (c : UInt8) (k : Nat) : Bool := StM.small c || (k != 0 && (c.toNat == 95 || digit c))
/-- the reference's loop -/
def nameFrom (s : ByteArray) : Nat → List UInt8 → Bool
  | _, [] => true
  | k, c :: l => letK c k && nameFrom s (k + 1) l
theorem nameFrom_tail (s : ByteArray) : ∀ (l : List UInt8) (k : Nat), 0 < k → nameFrom s k l = tailOk l
  | [], _, _ => rfl
  | c :: l, k, h => by
    unfold nameFrom tailOk
    rw [nameFrom_tail s l (k + 1) (by omega), List.all_cons]
    congr 1
    unfold letK
    have : (k != 0) = true := by simp; omega
    rw [this, Bool.true_and]
    cases StM.small c <;> cases digit c <;> simp
theorem nameFrom_nameL (s : ByteArray) (h : 0 < s.size) (h2 : s.size ≤ 16) : nameL s.data.toList = nameFrom s 0 (s.data.toList.drop 0) := by
  rw [nameL_eq s h, byte_drop s h]
  unfold nameFrom
  rw [nameFrom_tail s _ _ (by omega), decide_eq_true h2]
  unfold letK
  simp
theorem from_step (s : ByteArray) {k : Nat} (h : k < s.size) : nameFrom s k (s.data.toList.drop k) = (letK s[k] k && nameFrom s (k + 1) (s.data.toList.drop (k + 1))) := by
  rw [byte_drop s h]; rfl
theorem from_end (s : ByteArray) {k : Nat} (h : s.size ≤ k) : nameFrom s k (s.data.toList.drop k) = true := by
  rw [List.drop_of_length_le (by simpa using h)]; rfl
set_option maxHeartbeats 1600000 in
theorem risName_any (s : ByteArray) (w : World) : Calls Tryz.prog 49 #[.string s] w fun e w' => e = .returned (.bool (nameL s.data.toList)) ∧ w' = w := by
  by_cases h0 : 0 < s.size
  · have q1 : decide (s.size < 1) = false := decide_eq_false (by omega)
    by_cases h16 : s.size ≤ 16
    · have HN := Lib.hid (nameFrom_nameL s h0 h16)
      have q2 : decide (16 < s.size) = false := decide_eq_false (by omega)
      go_enter Tryz.func49, Tryz.ntmps49
      go_wp2_with fail
      go_loop [3] (fun i => ∃ k : Nat, k ≤ s.size ∧ i = .int .i64 k ∧ nameFrom s 0 (s.data.toList.drop 0) = nameFrom s k (s.data.toList.drop k)) (fun i => s.size - (intOf i).toNat)
      case atStart => exact ⟨0, by omega, rfl, rfl⟩
      case round =>
        obtain ⟨k, hk, rfl, hr⟩ := hrel
        have HR := Lib.hid hr
        clear hr
        by_cases hlt : k < s.size
        · have HS := Lib.hid (from_step s hlt)
          by_cases g1 : 97 ≤ s[k].toNat
          · have p1 : decide ((97 : Int) ≤ (s[k].toNat : Int)) = true := decide_eq_true (by omega)
            by_cases g2 : s[k].toNat ≤ 122
            · have p2 : decide ((s[k].toNat : Int) ≤ 122) = true := decide_eq_true (by omega)
              go_wp2_with (first | (go_at_call 78; refine (isSmall_any _ _).mono ?_; rintro e w' ⟨rfl, rfl⟩) | (go_at_call 79; refine (isDigit_any _ _).mono ?_; rintro e w' ⟨rfl, rfl⟩) | (go_at_call 84; refine (rdigit_any _ _).mono ?_; rintro e w' ⟨rfl, rfl⟩))
              go_round
              case rel => exact ⟨k + 1, by omega, by first | rfl | go_num, by rw [HR.out, HS.out]; unfold letK; simp [*, StM.small]⟩
              case measure => simp [intOf]; omega
            · have p2 : decide ((s[k].toNat : Int) ≤ 122) = false := decide_eq_false (by omega)
              by_cases hz : k = 0
              · subst hz
                go_wp2_with (first | (go_at_call 78; refine (isSmall_any _ _).mono ?_; rintro e w' ⟨rfl, rfl⟩) | (go_at_call 79; refine (isDigit_any _ _).mono ?_; rintro e w' ⟨rfl, rfl⟩) | (go_at_call 84; refine (rdigit_any _ _).mono ?_; rintro e w' ⟨rfl, rfl⟩))
                go_ret
                exact ⟨ret_bool (by (first | rw [HN.out, HR.out, HS.out] | rw [HN.out, HS.out]); (unfold letK; simp [*, StM.small])), rfl⟩
              · have z1 : ((k : Int) == 0) = false := by rw [beq_eq_false_iff_ne]; omega
                have z2 : (k != 0) = true := by simp; omega
                by_cases g3 : s[k].toNat = 95
                · have g5 : ((s[k].toNat : Int) != 95) = false := bne_eq_false_iff_eq.2 (by omega)
                  go_wp2_with (first | (go_at_call 78; refine (isSmall_any _ _).mono ?_; rintro e w' ⟨rfl, rfl⟩) | (go_at_call 79; refine (isDigit_any _ _).mono ?_; rintro e w' ⟨rfl, rfl⟩) | (go_at_call 84; refine (rdigit_any _ _).mono ?_; rintro e w' ⟨rfl, rfl⟩))
                  go_round
                  case rel => exact ⟨k + 1, by omega, by first | rfl | go_num, by rw [HR.out, HS.out]; unfold letK; simp [*, StM.small]⟩
                  case measure => simp [intOf]; omega
                · have g5 : ((s[k].toNat : Int) != 95) = true := by simp; omega
                  rcases g2 : digit s[k] with _ | _
                  · go_wp2_with (first | (go_at_call 78; refine (isSmall_any _ _).mono ?_; rintro e w' ⟨rfl, rfl⟩) | (go_at_call 79; refine (isDigit_any _ _).mono ?_; rintro e w' ⟨rfl, rfl⟩) | (go_at_call 84; refine (rdigit_any _ _).mono ?_; rintro e w' ⟨rfl, rfl⟩))
                    go_ret
                    exact ⟨ret_bool (by (first | rw [HN.out, HR.out, HS.out] | rw [HN.out, HS.out]); (unfold letK; simp [*, StM.small])), rfl⟩
                  · go_wp2_with (first | (go_at_call 78; refine (isSmall_any _ _).mono ?_; rintro e w' ⟨rfl, rfl⟩) | (go_at_call 79; refine (isDigit_any _ _).mono ?_; rintro e w' ⟨rfl, rfl⟩) | (go_at_call 84; refine (rdigit_any _ _).mono ?_; rintro e w' ⟨rfl, rfl⟩))
                    go_round
                    case rel => exact ⟨k + 1, by omega, by first | rfl | go_num, by rw [HR.out, HS.out]; unfold letK; simp [*, StM.small]⟩
                    case measure => simp [intOf]; omega
          · have p1 : decide ((97 : Int) ≤ (s[k].toNat : Int)) = false := decide_eq_false (by omega)
            by_cases hz : k = 0
            · subst hz
              go_wp2_with (first | (go_at_call 78; refine (isSmall_any _ _).mono ?_; rintro e w' ⟨rfl, rfl⟩) | (go_at_call 79; refine (isDigit_any _ _).mono ?_; rintro e w' ⟨rfl, rfl⟩) | (go_at_call 84; refine (rdigit_any _ _).mono ?_; rintro e w' ⟨rfl, rfl⟩))
              go_ret
              exact ⟨ret_bool (by (first | rw [HN.out, HR.out, HS.out] | rw [HN.out, HS.out]); (unfold letK; simp [*, StM.small])), rfl⟩
            · have z1 : ((k : Int) == 0) = false := by rw [beq_eq_false_iff_ne]; omega
              have z2 : (k != 0) = true := by simp; omega
              by_cases g3 : s[k].toNat = 95
              · have g5 : ((s[k].toNat : Int) != 95) = false := bne_eq_false_iff_eq.2 (by omega)
                go_wp2_with (first | (go_at_call 78; refine (isSmall_any _ _).mono ?_; rintro e w' ⟨rfl, rfl⟩) | (go_at_call 79; refine (isDigit_any _ _).mono ?_; rintro e w' ⟨rfl, rfl⟩) | (go_at_call 84; refine (rdigit_any _ _).mono ?_; rintro e w' ⟨rfl, rfl⟩))
                go_round
                case rel => exact ⟨k + 1, by omega, by first | rfl | go_num, by rw [HR.out, HS.out]; unfold letK; simp [*, StM.small]⟩
                case measure => simp [intOf]; omega
              · have g5 : ((s[k].toNat : Int) != 95) = true := by simp; omega
                rcases g2 : digit s[k] with _ | _
                · go_wp2_with (first | (go_at_call 78; refine (isSmall_any _ _).mono ?_; rintro e w' ⟨rfl, rfl⟩) | (go_at_call 79; refine (isDigit_any _ _).mono ?_; rintro e w' ⟨rfl, rfl⟩) | (go_at_call 84; refine (rdigit_any _ _).mono ?_; rintro e w' ⟨rfl, rfl⟩))
                  go_ret
                  exact ⟨ret_bool (by (first | rw [HN.out, HR.out, HS.out] | rw [HN.out, HS.out]); (unfold letK; simp [*, StM.small])), rfl⟩
                · go_wp2_with (first | (go_at_call 78; refine (isSmall_any _ _).mono ?_; rintro e w' ⟨rfl, rfl⟩) | (go_at_call 79; refine (isDigit_any _ _).mono ?_; rintro e w' ⟨rfl, rfl⟩) | (go_at_call 84; refine (rdigit_any _ _).mono ?_; rintro e w' ⟨rfl, rfl⟩))
                  go_round
                  case rel => exact ⟨k + 1, by omega, by first | rfl | go_num, by rw [HR.out, HS.out]; unfold letK; simp [*, StM.small]⟩
                  case measure => simp [intOf]; omega
        · have HE := Lib.hid (from_end s (k := k) (by omega))
          go_wp2_with fail
          go_ret
          exact ⟨ret_bool (by rw [HN.out, HR.out, HE.out]), rfl⟩
    · have q2 : decide (16 < s.size) = true := decide_eq_true (by omega)
      have HN := Lib.hid (nameL_eq s h0)
      have q3 : decide (s.size ≤ 16) = false := decide_eq_false (by omega)
      go_enter Tryz.func49, Tryz.ntmps49
      go_wp2_with fail
      go_ret
      exact ⟨ret_bool (by rw [HN.out, q3]; simp), rfl⟩
  · have hn : nameL s.data.toList = false := by
      have : s.data.toList = [] := List.eq_nil_of_length_eq_zero (by have h8 := Array.length_toList (xs := s.data); have h9 : s.data.size = s.size := rfl; omega)
      rw [this]; rfl
    have HN := Lib.hid hn
    have q1 : decide (s.size < 1) = true := decide_eq_true (by omega)
    clear hn
    go_enter Tryz.func49, Tryz.ntmps49
    go_wp2_with fail
    go_ret
    exact ⟨ret_bool HN.out.symm, rfl⟩
end Go.Proofs.YteokijolhbohaaaGreatDoor
end
/-
  Chapter 59: how a setup lies in memory.
-/
section
set_option linter.unusedVariables false
set_option linter.unusedSimpArgs false
namespace Go.Proofs.YteokijolhbohaaaGreatDoor
open Go.RowKit StM

attribute [local go_sem] ExtOf.cell ExtOf.frozen Block.cell Block.frozen ExtB.cell ExtB.frozen alloc_cell alloc_frozen
/-- a slice's value -/
structure SlT where
  p : Option Addr
  n : Nat
  cap : Nat
def SlT.v (s : SlT) : Value := .slice s.p s.n s.cap
def encI (n : Int) : List Value := [.int .i64 n]
theorem encI_len (s : Int) : (encI s).length = 1 := rfl
abbrev IntS (w : World) (v : Value) (l : List Int) : Prop := SliceOf encI 1 w v l
def encB (s : ByteArray) : List Value := [.string s]
theorem encB_len (s : ByteArray) : (encB s).length = 1 := rfl
abbrev StrS (w : World) (v : Value) (l : List ByteArray) : Prop := SliceOf encB 1 w v l
def pdC (p : Pdt) (lv pv : Value) : Array Value := #[.string p.nm, .int .i64 p.th, .int .i64 p.wi, .int .i64 p.al, .int .i64 p.wa, lv, pv]
/-- a product and the values of its slices -/
abbrev PdP := Pdt × SlT × SlT
def encPd (x : PdP) : List Value := [.string x.1.nm, .int .i64 x.1.th, .int .i64 x.1.wi, .int .i64 x.1.al, .int .i64 x.1.wa, x.2.1.v, x.2.2.v]
theorem encPd_len (x : PdP) : (encPd x).length = 7 := rfl
def PdS (w : World) (v : Value) (l : List PdP) : Prop := SliceOf encPd 7 w v l ∧ ∀ x ∈ l, IntS w x.2.1.v x.1.ls ∧ IntS w x.2.2.v x.1.ps
def encSpc (s : Spc) : List Value := [.string s.nm, .int .i64 s.gr, .int .i64 s.fa, .int .i64 s.sl, .int .i64 s.sa, .int .i64 s.mg, .int .i64 s.cr, .int .i64 s.mt, .int .i64 s.md, .int .i64 s.de, .int .i64 s.st, .int .i64 s.kn, .int .i64 s.sh]
theorem encSpc_len (x : Spc) : (encSpc x).length = 13 := rfl
abbrev SpcS (w : World) (v : Value) (l : List Spc) : Prop := SliceOf encSpc 13 w v l
def encStg (s : Stg) : List Value := [.int .i64 s.be, .int .i64 s.ti, .int .i64 s.te, .int .i64 s.de]
theorem encStg_len (x : Stg) : (encStg x).length = 4 := rfl
theorem encStg_one (b : Stg) : ∀ u ∈ encStg b, u.oneCell' = true := by simp [encStg, Value.oneCell']
abbrev StgS (w : World) (v : Value) (l : List Stg) : Prop := SliceOf encStg 4 w v l
abbrev SchP := Sch × SlT
def encSch (x : SchP) : List Value := [.string x.1.nm, .int .i64 x.1.ramp, x.2.v]
theorem encSch_len (x : SchP) : (encSch x).length = 3 := rfl
def SchS (w : World) (v : Value) (l : List SchP) : Prop := SliceOf encSch 3 w v l ∧ ∀ x ∈ l, StgS w x.2.v x.1.st
/-- an expression, with the values of its slices -/
inductive EX where
  | mk (op n : Int) (nm : ByteArray) (hd : SlT) (args : List EX)
def EX.op : EX → Int
  | .mk op _ _ _ _ => op
def EX.num : EX → Int
  | .mk _ n _ _ _ => n
def EX.nm : EX → ByteArray
  | .mk _ _ nm _ _ => nm
def EX.hd : EX → SlT
  | .mk _ _ _ hd _ => hd
def EX.args : EX → List EX
  | .mk _ _ _ _ args => args
def encEX (x : EX) : List Value := [.int .i64 x.op, .int .i64 x.num, .string x.nm, x.hd.v]
theorem encEX_len (x : EX) : (encEX x).length = 4 := rfl
/-- the expression lies in memory, to a depth -/
def ExD : Nat → World → EX → Prop
  | 0, _, _ => True
  | d + 1, w, x => SliceOf encEX 4 w x.hd.v x.args ∧ ∀ a ∈ x.args, ExD d w a
theorem ExD.ext : ∀ {d : Nat} {w w' : World} {x : EX}, ExD d w x → Ext w w' → ExD d w' x
  | 0, _, _, _, _, _ => trivial
  | _ + 1, _, _, _, h, hx => ⟨SliceOf.ext h.1 hx, fun a ha => (h.2 a ha).ext hx⟩
theorem ExD.less : ∀ {d : Nat} {w : World} {x : EX}, ExD (d + 1) w x → ExD d w x
  | 0, _, _, _ => trivial
  | _ + 1, _, _, h => ⟨h.1, fun a ha => (h.2 a ha).less⟩
theorem ExD.le {d e : Nat} {w : World} {x : EX} (h : ExD e w x) (hd : d ≤ e) : ExD d w x := by
  obtain ⟨k, rfl⟩ := Nat.exists_eq_add_of_le hd
  clear hd
  induction k with
  | zero => exact h
  | succ k ih => exact ih (ExD.less h)
abbrev RuP := Int × EX
def encRu (x : RuP) : List Value := [.int .i64 x.1, .int .i64 x.2.op, .int .i64 x.2.num, .string x.2.nm, x.2.hd.v]
theorem encRu_len (x : RuP) : (encRu x).length = 5 := rfl
def RuS (w : World) (v : Value) (l : List RuP) : Prop := SliceOf encRu 5 w v l ∧ ∀ x ∈ l, ExD 210 w x.2
theorem PdS.ext {w w' : World} {v : Value} {l : List PdP} (h : PdS w v l) (hx : Ext w w') : PdS w' v l := ⟨SliceOf.ext h.1 hx, fun x hm => ⟨SliceOf.ext (h.2 x hm).1 hx, SliceOf.ext (h.2 x hm).2 hx⟩⟩
theorem SchS.ext {w w' : World} {v : Value} {l : List SchP} (h : SchS w v l) (hx : Ext w w') : SchS w' v l := ⟨SliceOf.ext h.1 hx, fun x hm => SliceOf.ext (h.2 x hm) hx⟩
theorem RuS.ext {w w' : World} {v : Value} {l : List RuP} (h : RuS w v l) (hx : Ext w w') : RuS w' v l := ⟨SliceOf.ext h.1 hx, fun x hm => (h.2 x hm).ext hx⟩
theorem PdS.take {w : World} {p : Option Addr} {n cap j : Nat} {l : List PdP} (h : PdS w (.slice p n cap) l) (hj : j ≤ l.length) : PdS w (.slice p j cap) (l.take j) := ⟨SliceOf.take h.1 hj, fun x hm => h.2 x (List.mem_of_mem_take hm)⟩
theorem SchS.take {w : World} {p : Option Addr} {n cap j : Nat} {l : List SchP} (h : SchS w (.slice p n cap) l) (hj : j ≤ l.length) : SchS w (.slice p j cap) (l.take j) := ⟨SliceOf.take h.1 hj, fun x hm => h.2 x (List.mem_of_mem_take hm)⟩
theorem lwPd : Whole Tryz.prog 40 7 := whole_of Tryz.underlying40 rfl (by kernel_rfl)
theorem lwSpc : Whole Tryz.prog 42 13 := whole_of Tryz.underlying42 rfl (by kernel_rfl)
theorem lwStg : Whole Tryz.prog 130 4 := whole_of Tryz.underlying130 rfl (by kernel_rfl)
theorem lwSch : Whole Tryz.prog 45 3 := whole_of Tryz.underlying45 rfl (by kernel_rfl)
theorem lwEx : Whole Tryz.prog 49 4 := whole_of Tryz.underlying49 rfl (by kernel_rfl)
theorem lwRu : Whole Tryz.prog 51 5 := whole_of Tryz.underlying51 rfl (by kernel_rfl)
theorem lwSaw : Whole Tryz.prog 27 4 := whole_of Tryz.underlying27 rfl (by kernel_rfl)
theorem lwRates : Whole Tryz.prog 29 3 := whole_of Tryz.underlying29 rfl (by kernel_rfl)
theorem lwSetup : Whole Tryz.prog 31 13 := whole_of Tryz.underlying31 rfl (by kernel_rfl)
theorem lwSetupR : Whole Tryz.prog 37 13 := whole_of Tryz.underlying37 rfl (by kernel_rfl)
theorem midPd : Mid Tryz.prog 40 7 := mid_of Tryz.underlying40 rfl (by kernel_rfl)
theorem midSpc : Mid Tryz.prog 42 13 := mid_of Tryz.underlying42 rfl (by kernel_rfl)
theorem midStg : Mid Tryz.prog 130 4 := mid_of Tryz.underlying130 rfl (by kernel_rfl)
theorem midSch : Mid Tryz.prog 45 3 := mid_of Tryz.underlying45 rfl (by kernel_rfl)
theorem midEx : Mid Tryz.prog 49 4 := mid_of Tryz.underlying49 rfl (by kernel_rfl)
theorem midRu : Mid Tryz.prog 51 5 := mid_of Tryz.underlying51 rfl (by kernel_rfl)
theorem midSaw : Mid Tryz.prog 27 4 := mid_of Tryz.underlying27 rfl (by kernel_rfl)
theorem midRates : Mid Tryz.prog 29 3 := mid_of Tryz.underlying29 rfl (by kernel_rfl)
/-- an element of a list, out of memory -/
theorem SliceOf.elemO {α : Type} {enc : α → List Value} {k : Nat} {w : World} {p : Option Addr} {n cap : Nat} {l : List α} (h : SliceOf enc k w (.slice p n cap) l) {i : Nat} (hi : i < l.length) (hk : 0 < k) (hl : (enc l[i]).length = k) :
    ∃ b off, p = some ⟨b, off, none⟩ ∧ Old b w ∧ w.rangeAt b (off + i * k) (enc l[i]) := by
  obtain ⟨b, off, h1, h2⟩ := SliceOf.elemK h hi
  refine ⟨b, off, h1, ?_, h2⟩
  obtain ⟨u, hu⟩ : ∃ u, (enc l[i])[0]? = some u := by
    rw [List.getElem?_eq_getElem (show 0 < (enc l[i]).length by omega)]
    exact ⟨_, rfl⟩
  exact Old.of_cell (h2 0 u hu)
end Go.Proofs.YteokijolhbohaaaGreatDoor
end
/-
  Chapter 59: the green size of a product.
-/
section
set_option linter.unusedVariables false
set_option linter.unusedSimpArgs false
namespace Go.Proofs.YteokijolhbohaaaGreatDoor
open Go.RowKit StM

attribute [local go_sem] ExtOf.cell ExtOf.frozen Block.cell Block.frozen ExtB.cell ExtB.frozen alloc_cell alloc_frozen
theorem ret_two {k : IntKind} {a b c d : Int} (h : a = b) (h' : c = d) : Ending.returned (.tuple #[.int k a, .int k c]) = .returned (.tuple #[.int k b, .int k d]) := by rw [h, h']
def isz (n : Int) : Bool := decide (1 ≤ n ∧ n ≤ 600)
def grw (n a : Int) : Int := (n * (1000 + a) + 999) / 1000
def szd (th wi : Int) : Bool := decide (1 ≤ th ∧ th ≤ 600 ∧ 1 ≤ wi ∧ wi ≤ 600)
def okG (th wi al : Int) : Bool := decide (1 ≤ th ∧ th ≤ 600 ∧ 1 ≤ wi ∧ wi ≤ 600 ∧ 0 ≤ al ∧ al ≤ 200)
def grT (th wi al : Int) : Int := if okG th wi al = true then grw th al else 0
def grW (th wi al : Int) : Int := if okG th wi al = true then grw wi al else 0

set_option maxHeartbeats 400000 in
theorem issize_any (n : Int) (w : World) :
    Calls Tryz.prog 130 #[.int .i64 n] w fun e w' => e = .returned (.bool (isz n)) ∧ ∃ n : ExtOf w, w' = n.val := by
  go_enter Tryz.func130, Tryz.ntmps130
  go_wp2
  all_goals
    go_ret
    refine ⟨ret_bool ?_, ?_⟩
    · simp [isz, *]; try omega
    · exact ExtOf.of (by with_reducible repeat' (first | exact Ext.refl _ | exact ExtOf.ext _ | refine Ext.trans ?_ (ExtOf.ext _) | refine Ext.alloc ?_ _ | refine Ext.drew ?_ | refine Ext.setCell ?_ ?_ _ | refine Ext.setRow ?_ ?_ _ | exact HX.out | refine Ext.trans ?_ HX.out | omega | (simp; done) | (simp; omega)))

set_option maxHeartbeats 400000 in
theorem rsized_any (nm : ByteArray) (th wi al wa : Int) (lv pv : Value) (w : World) :
    Calls Tryz.prog 85 #[.agg #[.string nm, .int .i64 th, .int .i64 wi, .int .i64 al, .int .i64 wa, lv, pv]] w fun e w' => e = .returned (.bool (szd th wi)) ∧ ∃ n : ExtOf w, w' = n.val := by
  go_enter Tryz.func85, Tryz.ntmps85
  go_wp2
  all_goals
    go_ret
    refine ⟨ret_bool ?_, ?_⟩
    · simp [szd, *]; try omega
    · exact ExtOf.of (by with_reducible repeat' (first | exact Ext.refl _ | exact ExtOf.ext _ | refine Ext.trans ?_ (ExtOf.ext _) | refine Ext.alloc ?_ _ | refine Ext.drew ?_ | refine Ext.setCell ?_ ?_ _ | refine Ext.setRow ?_ ?_ _ | exact HX.out | refine Ext.trans ?_ HX.out | omega | (simp; done) | (simp; omega)))

theorem grw_nn (n a : Int) (h1 : 1 ≤ n) (h2 : n ≤ 600) (h3 : 0 ≤ a) (h4 : a ≤ 200) : 0 ≤ n * (1000 + a) ∧ n * (1000 + a) ≤ 720000 := by
  have e1 : 0 ≤ n * (1000 + a) := Int.mul_nonneg (by omega) (by omega)
  have e2 : n * (1000 + a) ≤ 600 * 1200 := Int.mul_le_mul h2 (by omega) (by omega) (by omega)
  omega

set_option maxHeartbeats 400000 in
theorem grow_any (n a : Int) (w : World) (h1 : 1 ≤ n) (h2 : n ≤ 600) (h3 : 0 ≤ a) (h4 : a ≤ 200) :
    Calls Tryz.prog 131 #[.int .i64 n, .int .i64 a] w fun e w' => e = .returned (.int .i64 (grw n a)) ∧ ∃ n : ExtOf w, w' = n.val := by
  obtain ⟨g1, g2⟩ := grw_nn n a h1 h2 h3 h4
  go_enter Tryz.func131, Tryz.ntmps131
  go_wp2
  go_ret
  refine ⟨rfl, ?_⟩
  exact ExtOf.of (by with_reducible repeat' (first | exact Ext.refl _ | exact ExtOf.ext _ | refine Ext.trans ?_ (ExtOf.ext _) | refine Ext.alloc ?_ _ | refine Ext.drew ?_ | refine Ext.setCell ?_ ?_ _ | refine Ext.setRow ?_ ?_ _ | exact HX.out | refine Ext.trans ?_ HX.out | omega | (simp; done) | (simp; omega)))

set_option maxHeartbeats 800000 in
theorem green_any (nm : ByteArray) (th wi al wa : Int) (lv pv : Value) (w : World) :
    Calls Tryz.prog 80 #[.agg #[.string nm, .int .i64 th, .int .i64 wi, .int .i64 al, .int .i64 wa, lv, pv]] w fun e w' => e = .returned (.tuple #[.int .i64 (grT th wi al), .int .i64 (grW th wi al)]) ∧ ∃ n : ExtOf w, w' = n.val := by
  by_cases h : okG th wi al = true
  · have hz : 1 ≤ th ∧ th ≤ 600 ∧ 1 ≤ wi ∧ wi ≤ 600 ∧ 0 ≤ al ∧ al ≤ 200 := by simpa [okG] using h
    have eT : grT th wi al = grw th al := by simp [grT, h]
    have eW : grW th wi al = grw wi al := by simp [grW, h]
    obtain ⟨z1, z2, z3, z4, z5, z6⟩ := hz
    have i1 : isz th = true := by simp [isz]; omega
    have i2 : isz wi = true := by simp [isz]; omega
    rw [eT, eW]; clear eT eW h
    go_enter Tryz.func80, Tryz.ntmps80
    go_wp2_with (first | (go_at_call 130; refine (issize_any _ _).mono ?_; rintro e w' ⟨rfl, n, rfl⟩))
    refine wp_region_ext (by kernel_rfl) (by kernel_rfl) ?_
    repeat (first | go_big_quiet_skip | go_big_quiet_step ((go_at_call 131; exact ext_call (grow_any _ _ _ (by omega) (by omega) (by omega) (by omega)))))
    refine wpQuiet_nil ?_
    intro _ hw'
    obtain ⟨nq, hw''⟩ := hw'
    subst hw''
    go_wp2
    go_ret2
    refine ⟨ret_two rfl rfl, ?_⟩
    exact ExtOf.of (by with_reducible repeat' (first | exact Ext.refl _ | exact ExtOf.ext _ | refine Ext.trans ?_ (ExtOf.ext _) | refine Ext.alloc ?_ _ | refine Ext.drew ?_ | refine Ext.setCell ?_ ?_ _ | refine Ext.setRow ?_ ?_ _ | exact HX.out | refine Ext.trans ?_ HX.out | omega | (simp; done) | (simp; omega)))
  · have eT : grT th wi al = 0 := by simp [grT, h]
    have eW : grW th wi al = 0 := by simp [grW, h]
    rw [eT, eW]; clear eT eW
    have h' : ¬ (1 ≤ th ∧ th ≤ 600 ∧ 1 ≤ wi ∧ wi ≤ 600 ∧ 0 ≤ al ∧ al ≤ 200) := by simpa [okG] using h
    clear h
    rcases hi : isz th with _ | _
    · go_enter Tryz.func80, Tryz.ntmps80
      go_wp2_with (first | (go_at_call 130; refine (issize_any _ _).mono ?_; rintro e w' ⟨rfl, n, rfl⟩))
      go_ret2
      refine ⟨ret_two rfl rfl, ?_⟩
      exact ExtOf.of (by with_reducible repeat' (first | exact Ext.refl _ | exact ExtOf.ext _ | refine Ext.trans ?_ (ExtOf.ext _) | refine Ext.alloc ?_ _ | refine Ext.drew ?_ | refine Ext.setCell ?_ ?_ _ | refine Ext.setRow ?_ ?_ _ | exact HX.out | refine Ext.trans ?_ HX.out | omega | (simp; done) | (simp; omega)))
    · rcases hj : isz wi with _ | _
      · go_enter Tryz.func80, Tryz.ntmps80
        go_wp2_with (first | (go_at_call 130; refine (issize_any _ _).mono ?_; rintro e w' ⟨rfl, n, rfl⟩))
        go_ret2
        refine ⟨ret_two rfl rfl, ?_⟩
        exact ExtOf.of (by with_reducible repeat' (first | exact Ext.refl _ | exact ExtOf.ext _ | refine Ext.trans ?_ (ExtOf.ext _) | refine Ext.alloc ?_ _ | refine Ext.drew ?_ | refine Ext.setCell ?_ ?_ _ | refine Ext.setRow ?_ ?_ _ | exact HX.out | refine Ext.trans ?_ HX.out | omega | (simp; done) | (simp; omega)))
      · have hz : al < 0 ∨ 200 < al := by simp [isz] at hi hj; omega
        clear h'
        rcases hz with hz | hz
        · go_enter Tryz.func80, Tryz.ntmps80
          go_wp2_with (first | (go_at_call 130; refine (issize_any _ _).mono ?_; rintro e w' ⟨rfl, n, rfl⟩))
          go_ret2
          refine ⟨ret_two rfl rfl, ?_⟩
          exact ExtOf.of (by with_reducible repeat' (first | exact Ext.refl _ | exact ExtOf.ext _ | refine Ext.trans ?_ (ExtOf.ext _) | refine Ext.alloc ?_ _ | refine Ext.drew ?_ | refine Ext.setCell ?_ ?_ _ | refine Ext.setRow ?_ ?_ _ | exact HX.out | refine Ext.trans ?_ HX.out | omega | (simp; done) | (simp; omega)))
        · have hz' : decide (al < 0) = false := by simp; omega
          go_enter Tryz.func80, Tryz.ntmps80
          go_wp2_with (first | (go_at_call 130; refine (issize_any _ _).mono ?_; rintro e w' ⟨rfl, n, rfl⟩))
          go_ret2
          refine ⟨ret_two rfl rfl, ?_⟩
          exact ExtOf.of (by with_reducible repeat' (first | exact Ext.refl _ | exact ExtOf.ext _ | refine Ext.trans ?_ (ExtOf.ext _) | refine Ext.alloc ?_ _ | refine Ext.drew ?_ | refine Ext.setCell ?_ ?_ _ | refine Ext.setRow ?_ ?_ _ | exact HX.out | refine Ext.trans ?_ HX.out | omega | (simp; done) | (simp; omega)))

set_option maxHeartbeats 800000 in
theorem rgreen_any (nm : ByteArray) (th wi al wa : Int) (lv pv : Value) (w : World) :
    Calls Tryz.prog 50 #[.agg #[.string nm, .int .i64 th, .int .i64 wi, .int .i64 al, .int .i64 wa, lv, pv]] w fun e w' => e = .returned (.tuple #[.int .i64 (grT th wi al), .int .i64 (grW th wi al)]) ∧ ∃ n : ExtOf w, w' = n.val := by
  by_cases h : okG th wi al = true
  · have hz : 1 ≤ th ∧ th ≤ 600 ∧ 1 ≤ wi ∧ wi ≤ 600 ∧ 0 ≤ al ∧ al ≤ 200 := by simpa [okG] using h
    have eT : grT th wi al = grw th al := by simp [grT, h]
    have eW : grW th wi al = grw wi al := by simp [grW, h]
    obtain ⟨z1, z2, z3, z4, z5, z6⟩ := hz
    have i1 : szd th wi = true := by simp [szd]; omega
    obtain ⟨g1, g2⟩ := grw_nn th al z1 z2 z5 z6
    obtain ⟨g3, g4⟩ := grw_nn wi al z3 z4 z5 z6
    rw [eT, eW]; clear eT eW h
    go_enter Tryz.func50, Tryz.ntmps50
    go_wp2_with (first | ((with_reducible apply wl_load' lwPd); (· (first | exact wanted_none rfl | exact wanted_some rfl rfl rfl)); (· rfl); (· infer_instance); (· rfl)) | (go_at_call 85; refine (rsized_any _ _ _ _ _ _ _ _).mono ?_; rintro e w' ⟨rfl, n, rfl⟩))
    refine wp_region_ext (by kernel_rfl) (by kernel_rfl) ?_
    repeat (first | go_big_quiet_skip | go_big_quiet_step (fail))
    refine wpQuiet_nil ?_
    intro _ hw'
    obtain ⟨nq, hw''⟩ := hw'
    subst hw''
    go_wp2
    go_ret2
    refine ⟨ret_two rfl rfl, ?_⟩
    exact ExtOf.of (by with_reducible repeat' (first | exact Ext.refl _ | exact ExtOf.ext _ | refine Ext.trans ?_ (ExtOf.ext _) | refine Ext.alloc ?_ _ | refine Ext.drew ?_ | refine Ext.setCell ?_ ?_ _ | refine Ext.setRow ?_ ?_ _ | exact HX.out | refine Ext.trans ?_ HX.out | omega | (simp; done) | (simp; omega)))
  · have eT : grT th wi al = 0 := by simp [grT, h]
    have eW : grW th wi al = 0 := by simp [grW, h]
    rw [eT, eW]; clear eT eW
    have h' : ¬ (1 ≤ th ∧ th ≤ 600 ∧ 1 ≤ wi ∧ wi ≤ 600 ∧ 0 ≤ al ∧ al ≤ 200) := by simpa [okG] using h
    clear h
    rcases hi : szd th wi with _ | _
    · go_enter Tryz.func50, Tryz.ntmps50
      go_wp2_with (first | ((with_reducible apply wl_load' lwPd); (· (first | exact wanted_none rfl | exact wanted_some rfl rfl rfl)); (· rfl); (· infer_instance); (· rfl)) | (go_at_call 85; refine (rsized_any _ _ _ _ _ _ _ _).mono ?_; rintro e w' ⟨rfl, n, rfl⟩))
      go_ret2
      refine ⟨ret_two rfl rfl, ?_⟩
      exact ExtOf.of (by with_reducible repeat' (first | exact Ext.refl _ | exact ExtOf.ext _ | refine Ext.trans ?_ (ExtOf.ext _) | refine Ext.alloc ?_ _ | refine Ext.drew ?_ | refine Ext.setCell ?_ ?_ _ | refine Ext.setRow ?_ ?_ _ | exact HX.out | refine Ext.trans ?_ HX.out | omega | (simp; done) | (simp; omega)))
    · have hz : al < 0 ∨ 200 < al := by simp [szd] at hi; omega
      clear h'
      rcases hz with hz | hz
      · go_enter Tryz.func50, Tryz.ntmps50
        go_wp2_with (first | ((with_reducible apply wl_load' lwPd); (· (first | exact wanted_none rfl | exact wanted_some rfl rfl rfl)); (· rfl); (· infer_instance); (· rfl)) | (go_at_call 85; refine (rsized_any _ _ _ _ _ _ _ _).mono ?_; rintro e w' ⟨rfl, n, rfl⟩))
        go_ret2
        refine ⟨ret_two rfl rfl, ?_⟩
        exact ExtOf.of (by with_reducible repeat' (first | exact Ext.refl _ | exact ExtOf.ext _ | refine Ext.trans ?_ (ExtOf.ext _) | refine Ext.alloc ?_ _ | refine Ext.drew ?_ | refine Ext.setCell ?_ ?_ _ | refine Ext.setRow ?_ ?_ _ | exact HX.out | refine Ext.trans ?_ HX.out | omega | (simp; done) | (simp; omega)))
      · have hz' : decide (al < 0) = false := by simp; omega
        go_enter Tryz.func50, Tryz.ntmps50
        go_wp2_with (first | ((with_reducible apply wl_load' lwPd); (· (first | exact wanted_none rfl | exact wanted_some rfl rfl rfl)); (· rfl); (· infer_instance); (· rfl)) | (go_at_call 85; refine (rsized_any _ _ _ _ _ _ _ _).mono ?_; rintro e w' ⟨rfl, n, rfl⟩))
        go_ret2
        refine ⟨ret_two rfl rfl, ?_⟩
        exact ExtOf.of (by with_reducible repeat' (first | exact Ext.refl _ | exact ExtOf.ext _ | refine Ext.trans ?_ (ExtOf.ext _) | refine Ext.alloc ?_ _ | refine Ext.drew ?_ | refine Ext.setCell ?_ ?_ _ | refine Ext.setRow ?_ ?_ _ | exact HX.out | refine Ext.trans ?_ HX.out | omega | (simp; done) | (simp; omega)))
theorem isz_sized (n : Int) : isz n = sized n := rfl
theorem okG_eq (p : Pdt) : (grT p.th p.wi p.al, grW p.th p.wi p.al) = StM.green p.th p.wi p.al := by
  unfold StM.green grT grW
  by_cases h : okG p.th p.wi p.al = true
  · have hz : 1 ≤ p.th ∧ p.th ≤ 600 ∧ 1 ≤ p.wi ∧ p.wi ≤ 600 ∧ 0 ≤ p.al ∧ p.al ≤ 200 := by simpa [okG] using h
    rw [if_pos h, if_pos h, if_pos (by simp [sized]; omega)]
    rfl
  · have hz : ¬ (1 ≤ p.th ∧ p.th ≤ 600 ∧ 1 ≤ p.wi ∧ p.wi ≤ 600 ∧ 0 ≤ p.al ∧ p.al ≤ 200) := by simpa [okG] using h
    rw [if_neg h, if_neg h, if_neg (by simp [sized]; omega)]
theorem green_p (p : Pdt) (lv pv : Value) (w : World) : Calls Tryz.prog 80 #[.agg (pdC p lv pv)] w fun e w' => e = .returned (.tuple #[.int .i64 (StM.green p.th p.wi p.al).1, .int .i64 (StM.green p.th p.wi p.al).2]) ∧ ∃ n : ExtOf w, w' = n.val := by
  rw [← okG_eq]; exact green_any _ _ _ _ _ _ _ _
theorem rgreen_p (p : Pdt) (lv pv : Value) (w : World) : Calls Tryz.prog 50 #[.agg (pdC p lv pv)] w fun e w' => e = .returned (.tuple #[.int .i64 (StM.green p.th p.wi p.al).1, .int .i64 (StM.green p.th p.wi p.al).2]) ∧ ∃ n : ExtOf w, w' = n.val := by
  rw [← okG_eq]; exact rgreen_any _ _ _ _ _ _ _ _
end Go.Proofs.YteokijolhbohaaaGreatDoor
end
/-
  Chapter 59: the numbers of a product: checkNumbers, and the reference's checkLengths.
-/
section
set_option linter.unusedVariables false
set_option linter.unusedSimpArgs false
namespace Go.Proofs.YteokijolhbohaaaGreatDoor
open Go.RowKit StM

attribute [local go_sem] ExtOf.cell ExtOf.frozen Block.cell Block.frozen ExtB.cell ExtB.frozen alloc_cell alloc_frozen
theorem SliceOf.elem1 {α : Type} {enc : α → List Value} {w : World} {p : Option Addr} {n cap : Nat} {l : List α} (h : SliceOf enc 1 w (.slice p n cap) l) {i : Nat} (hi : i < l.length) {u : Value} (hu : enc l[i] = [u]) :
    ∃ b off, p = some ⟨b, off, none⟩ ∧ Old b w ∧ w.cell? ⟨b, off + i, none⟩ = some u := by
  obtain ⟨p', cap', e, h1, h2, h3, h4⟩ := h
  simp only [Value.slice.injEq] at e
  obtain ⟨rfl, _, _⟩ := e
  obtain ⟨b, off, hp, hc⟩ := h4 i l[i] (List.getElem?_eq_getElem hi)
  have c0 := hc 0 u (by rw [hu]; rfl)
  exact ⟨b, off, hp, Old.of_cell c0, by simpa using c0⟩
def lensAt (ls : List Int) (k : Nat) : Int := lensE (if k = 0 then none else ls[k - 1]?) (ls.drop k)
theorem lensAt_zero (ls : List Int) : lensE none ls = lensAt ls 0 := rfl
theorem lensAt_end (ls : List Int) {k : Nat} (h : ls.length ≤ k) : lensAt ls k = 0 := by
  unfold lensAt; rw [List.drop_of_length_le h]; rfl
theorem lensAt_bad {ls : List Int} {k : Nat} (h : k < ls.length) (hb : ls[k] < 100 ∨ 20000 < ls[k]) : lensAt ls k = 9 := by
  unfold lensAt; rw [List.drop_eq_getElem_cons h]; unfold lensE; rw [if_pos (by omega)]
theorem lensAt_first {ls : List Int} (h : 0 < ls.length) (hb : ¬ (ls[0] < 100 ∨ 20000 < ls[0])) : lensAt ls 0 = lensAt ls 1 := by
  unfold lensAt
  rw [List.drop_eq_getElem_cons h]
  show lensE none (ls[0] :: ls.drop 1) = lensE (ls[0]?) (ls.drop 1)
  conv => lhs; unfold lensE
  rw [if_neg (by omega), List.getElem?_eq_getElem h]
theorem lensAt_ord {ls : List Int} {m : Nat} (h : m + 1 < ls.length) (hb : ¬ (ls[m + 1] < 100 ∨ 20000 < ls[m + 1])) (ho : ls[m + 1] ≤ ls[m]) : lensAt ls (m + 1) = 11 := by
  unfold lensAt
  rw [List.drop_eq_getElem_cons h, if_neg (by omega), Nat.add_sub_cancel, List.getElem?_eq_getElem (show m < ls.length by omega)]
  unfold lensE
  rw [if_neg (by omega)]
  simp only
  rw [if_pos ho]
theorem lensAt_next {ls : List Int} {m : Nat} (h : m + 1 < ls.length) (hb : ¬ (ls[m + 1] < 100 ∨ 20000 < ls[m + 1])) (ho : ¬ ls[m + 1] ≤ ls[m]) : lensAt ls (m + 1) = lensAt ls (m + 2) := by
  unfold lensAt
  rw [List.drop_eq_getElem_cons h, if_neg (by omega), Nat.add_sub_cancel, List.getElem?_eq_getElem (show m < ls.length by omega)]
  conv => lhs; unfold lensE
  rw [if_neg (by omega)]
  simp only
  rw [if_neg ho, if_neg (by omega)]
  simp [List.getElem?_eq_getElem h]
def priceAt (ps : List Int) (k : Nat) : Int := pricesE (ps.drop k)
theorem priceAt_end (ps : List Int) {k : Nat} (h : ps.length ≤ k) : priceAt ps k = 0 := by
  unfold priceAt; rw [List.drop_of_length_le h]; rfl
theorem priceAt_bad {ps : List Int} {k : Nat} (h : k < ps.length) (hb : ps[k] < 0 ∨ 1000000 < ps[k]) : priceAt ps k = 9 := by
  unfold priceAt; rw [List.drop_eq_getElem_cons h]; unfold pricesE; rw [if_pos (by omega)]
theorem priceAt_next {ps : List Int} {k : Nat} (h : k < ps.length) (hb : ¬ (ps[k] < 0 ∨ 1000000 < ps[k])) : priceAt ps k = priceAt ps (k + 1) := by
  unfold priceAt; rw [List.drop_eq_getElem_cons h]; conv => lhs; unfold pricesE
  rw [if_neg (by omega)]
theorem listsE_eq (ls ps : List Int) (h1 : ls.length ≠ 0) (h2 : ls.length ≤ 8) (h3 : ps.length = ls.length) : listsE ls ps = if lensAt ls 0 ≠ 0 then lensAt ls 0 else priceAt ps 0 := by
  unfold listsE
  rw [if_neg h1, if_neg (by omega), if_neg (by omega), lensAt_zero]
  rfl
set_option maxHeartbeats 1600000 in
theorem checkNumbers_any (p : Pdt) (lv pv : Value) (w : World) (hl : IntS w lv p.ls) (hp : IntS w pv p.ps) :
    Calls Tryz.prog 41 #[.agg (pdC p lv pv)] w fun e w' => e = .returned (.int .i64 (numE p)) ∧ ∃ n : ExtOf w, w' = n.val := by
  obtain ⟨nm, th, wi, al, wa, ls, ps⟩ := p
  obtain ⟨lq, lcap, rfl, hl1, hl2, hl3⟩ := SliceOf.form hl
  obtain ⟨pq, pcap, rfl, hp1, hp2, hp3⟩ := SliceOf.form hp
  have HL := Lib.hid hl
  have HP := Lib.hid hp
  clear hl hp
  unfold maxLen at hl2 hp2
  try unfold pdC
  have hgr := okG_eq ⟨nm, th, wi, al, wa, ls, ps⟩
  simp only at hgr
  have HG2 : Hid ((StM.green th wi al).2 = grW th wi al) := Lib.hid (by rw [← hgr])
  clear hgr
  by_cases a1 : th < 5
  · have HE : Hid (numE ⟨nm, th, wi, al, wa, ls, ps⟩ = 9) := Lib.hid (by unfold numE; rw [if_pos (by simp only; omega)])
    clear HL HP
    go_enter Tryz.func41, Tryz.ntmps41
    go_wp2_with (first | ((with_reducible apply wl_load' lwPd); (· (first | exact wanted_none rfl | exact wanted_some rfl rfl rfl)); (· rfl); (· infer_instance); (· rfl)) | (go_at_call 80; refine (green_any _ _ _ _ _ _ _ _).mono ?_; rintro e w' ⟨rfl, n, rfl⟩))
    go_ret
    exact ⟨ret_int HE.out.symm, by exact ExtOf.of (by with_reducible repeat' (first | exact Ext.refl _ | exact ExtOf.ext _ | refine Ext.trans ?_ (ExtOf.ext _) | refine Ext.alloc ?_ _ | refine Ext.drew ?_ | refine Ext.setCell ?_ ?_ _ | refine Ext.setRow ?_ ?_ _ | exact HX.out | refine Ext.trans ?_ HX.out | omega | (simp; done) | (simp; omega)))⟩
  have q1 : decide (th < 5) = false := decide_eq_false a1
  by_cases a2 : 300 < th
  · have HE : Hid (numE ⟨nm, th, wi, al, wa, ls, ps⟩ = 9) := Lib.hid (by unfold numE; rw [if_pos (by simp only; omega)])
    clear HL HP
    go_enter Tryz.func41, Tryz.ntmps41
    go_wp2_with (first | ((with_reducible apply wl_load' lwPd); (· (first | exact wanted_none rfl | exact wanted_some rfl rfl rfl)); (· rfl); (· infer_instance); (· rfl)) | (go_at_call 80; refine (green_any _ _ _ _ _ _ _ _).mono ?_; rintro e w' ⟨rfl, n, rfl⟩))
    go_ret
    exact ⟨ret_int HE.out.symm, by exact ExtOf.of (by with_reducible repeat' (first | exact Ext.refl _ | exact ExtOf.ext _ | refine Ext.trans ?_ (ExtOf.ext _) | refine Ext.alloc ?_ _ | refine Ext.drew ?_ | refine Ext.setCell ?_ ?_ _ | refine Ext.setRow ?_ ?_ _ | exact HX.out | refine Ext.trans ?_ HX.out | omega | (simp; done) | (simp; omega)))⟩
  have q2 : decide (300 < th) = false := decide_eq_false a2
  by_cases a3 : wi < th
  · have HE : Hid (numE ⟨nm, th, wi, al, wa, ls, ps⟩ = 9) := Lib.hid (by unfold numE; rw [if_pos (by simp only; omega)])
    clear HL HP
    go_enter Tryz.func41, Tryz.ntmps41
    go_wp2_with (first | ((with_reducible apply wl_load' lwPd); (· (first | exact wanted_none rfl | exact wanted_some rfl rfl rfl)); (· rfl); (· infer_instance); (· rfl)) | (go_at_call 80; refine (green_any _ _ _ _ _ _ _ _).mono ?_; rintro e w' ⟨rfl, n, rfl⟩))
    go_ret
    exact ⟨ret_int HE.out.symm, by exact ExtOf.of (by with_reducible repeat' (first | exact Ext.refl _ | exact ExtOf.ext _ | refine Ext.trans ?_ (ExtOf.ext _) | refine Ext.alloc ?_ _ | refine Ext.drew ?_ | refine Ext.setCell ?_ ?_ _ | refine Ext.setRow ?_ ?_ _ | exact HX.out | refine Ext.trans ?_ HX.out | omega | (simp; done) | (simp; omega)))⟩
  have q3 : decide (wi < th) = false := decide_eq_false a3
  by_cases a4 : 600 < wi
  · have HE : Hid (numE ⟨nm, th, wi, al, wa, ls, ps⟩ = 9) := Lib.hid (by unfold numE; rw [if_pos (by simp only; omega)])
    clear HL HP
    go_enter Tryz.func41, Tryz.ntmps41
    go_wp2_with (first | ((with_reducible apply wl_load' lwPd); (· (first | exact wanted_none rfl | exact wanted_some rfl rfl rfl)); (· rfl); (· infer_instance); (· rfl)) | (go_at_call 80; refine (green_any _ _ _ _ _ _ _ _).mono ?_; rintro e w' ⟨rfl, n, rfl⟩))
    go_ret
    exact ⟨ret_int HE.out.symm, by exact ExtOf.of (by with_reducible repeat' (first | exact Ext.refl _ | exact ExtOf.ext _ | refine Ext.trans ?_ (ExtOf.ext _) | refine Ext.alloc ?_ _ | refine Ext.drew ?_ | refine Ext.setCell ?_ ?_ _ | refine Ext.setRow ?_ ?_ _ | exact HX.out | refine Ext.trans ?_ HX.out | omega | (simp; done) | (simp; omega)))⟩
  have q4 : decide (600 < wi) = false := decide_eq_false a4
  by_cases a5 : al < 0
  · have HE : Hid (numE ⟨nm, th, wi, al, wa, ls, ps⟩ = 9) := Lib.hid (by unfold numE; rw [if_neg (by simp only; omega), if_pos (by simp only; omega)])
    clear HL HP
    go_enter Tryz.func41, Tryz.ntmps41
    go_wp2_with (first | ((with_reducible apply wl_load' lwPd); (· (first | exact wanted_none rfl | exact wanted_some rfl rfl rfl)); (· rfl); (· infer_instance); (· rfl)) | (go_at_call 80; refine (green_any _ _ _ _ _ _ _ _).mono ?_; rintro e w' ⟨rfl, n, rfl⟩))
    go_ret
    exact ⟨ret_int HE.out.symm, by exact ExtOf.of (by with_reducible repeat' (first | exact Ext.refl _ | exact ExtOf.ext _ | refine Ext.trans ?_ (ExtOf.ext _) | refine Ext.alloc ?_ _ | refine Ext.drew ?_ | refine Ext.setCell ?_ ?_ _ | refine Ext.setRow ?_ ?_ _ | exact HX.out | refine Ext.trans ?_ HX.out | omega | (simp; done) | (simp; omega)))⟩
  have q5 : decide (al < 0) = false := decide_eq_false a5
  by_cases a6 : 200 < al
  · have HE : Hid (numE ⟨nm, th, wi, al, wa, ls, ps⟩ = 9) := Lib.hid (by unfold numE; rw [if_neg (by simp only; omega), if_pos (by simp only; omega)])
    clear HL HP
    go_enter Tryz.func41, Tryz.ntmps41
    go_wp2_with (first | ((with_reducible apply wl_load' lwPd); (· (first | exact wanted_none rfl | exact wanted_some rfl rfl rfl)); (· rfl); (· infer_instance); (· rfl)) | (go_at_call 80; refine (green_any _ _ _ _ _ _ _ _).mono ?_; rintro e w' ⟨rfl, n, rfl⟩))
    go_ret
    exact ⟨ret_int HE.out.symm, by exact ExtOf.of (by with_reducible repeat' (first | exact Ext.refl _ | exact ExtOf.ext _ | refine Ext.trans ?_ (ExtOf.ext _) | refine Ext.alloc ?_ _ | refine Ext.drew ?_ | refine Ext.setCell ?_ ?_ _ | refine Ext.setRow ?_ ?_ _ | exact HX.out | refine Ext.trans ?_ HX.out | omega | (simp; done) | (simp; omega)))⟩
  have q6 : decide (200 < al) = false := decide_eq_false a6
  by_cases a7 : wa < 0
  · have HE : Hid (numE ⟨nm, th, wi, al, wa, ls, ps⟩ = 9) := Lib.hid (by unfold numE; rw [if_neg (by simp only; omega), if_pos (by simp only; omega)])
    clear HL HP
    go_enter Tryz.func41, Tryz.ntmps41
    go_wp2_with (first | ((with_reducible apply wl_load' lwPd); (· (first | exact wanted_none rfl | exact wanted_some rfl rfl rfl)); (· rfl); (· infer_instance); (· rfl)) | (go_at_call 80; refine (green_any _ _ _ _ _ _ _ _).mono ?_; rintro e w' ⟨rfl, n, rfl⟩))
    go_ret
    exact ⟨ret_int HE.out.symm, by exact ExtOf.of (by with_reducible repeat' (first | exact Ext.refl _ | exact ExtOf.ext _ | refine Ext.trans ?_ (ExtOf.ext _) | refine Ext.alloc ?_ _ | refine Ext.drew ?_ | refine Ext.setCell ?_ ?_ _ | refine Ext.setRow ?_ ?_ _ | exact HX.out | refine Ext.trans ?_ HX.out | omega | (simp; done) | (simp; omega)))⟩
  have q7 : decide (wa < 0) = false := decide_eq_false a7
  by_cases a8 : 1000 < wa
  · have HE : Hid (numE ⟨nm, th, wi, al, wa, ls, ps⟩ = 9) := Lib.hid (by unfold numE; rw [if_neg (by simp only; omega), if_pos (by simp only; omega)])
    clear HL HP
    go_enter Tryz.func41, Tryz.ntmps41
    go_wp2_with (first | ((with_reducible apply wl_load' lwPd); (· (first | exact wanted_none rfl | exact wanted_some rfl rfl rfl)); (· rfl); (· infer_instance); (· rfl)) | (go_at_call 80; refine (green_any _ _ _ _ _ _ _ _).mono ?_; rintro e w' ⟨rfl, n, rfl⟩))
    go_ret
    exact ⟨ret_int HE.out.symm, by exact ExtOf.of (by with_reducible repeat' (first | exact Ext.refl _ | exact ExtOf.ext _ | refine Ext.trans ?_ (ExtOf.ext _) | refine Ext.alloc ?_ _ | refine Ext.drew ?_ | refine Ext.setCell ?_ ?_ _ | refine Ext.setRow ?_ ?_ _ | exact HX.out | refine Ext.trans ?_ HX.out | omega | (simp; done) | (simp; omega)))⟩
  have q8 : decide (1000 < wa) = false := decide_eq_false a8
  have HN : Hid (numE ⟨nm, th, wi, al, wa, ls, ps⟩ = if grW th wi al > 600 then 9 else listsE ls ps) := Lib.hid (by unfold numE; rw [if_neg (by simp only; omega), if_neg (by simp only; omega)]; simp only [HG2.out])
  clear a1 a2 a3 a4 a5 a6 a7 a8
  by_cases a9 : 600 < grW th wi al
  · have HE : Hid (numE ⟨nm, th, wi, al, wa, ls, ps⟩ = 9) := Lib.hid (by rw [HN.out, if_pos (by omega)])
    clear HL HP
    go_enter Tryz.func41, Tryz.ntmps41
    go_wp2_with (first | ((with_reducible apply wl_load' lwPd); (· (first | exact wanted_none rfl | exact wanted_some rfl rfl rfl)); (· rfl); (· infer_instance); (· rfl)) | (go_at_call 80; refine (green_any _ _ _ _ _ _ _ _).mono ?_; rintro e w' ⟨rfl, n, rfl⟩))
    go_ret
    exact ⟨ret_int HE.out.symm, by exact ExtOf.of (by with_reducible repeat' (first | exact Ext.refl _ | exact ExtOf.ext _ | refine Ext.trans ?_ (ExtOf.ext _) | refine Ext.alloc ?_ _ | refine Ext.drew ?_ | refine Ext.setCell ?_ ?_ _ | refine Ext.setRow ?_ ?_ _ | exact HX.out | refine Ext.trans ?_ HX.out | omega | (simp; done) | (simp; omega)))⟩
  have HN2 : Hid (numE ⟨nm, th, wi, al, wa, ls, ps⟩ = listsE ls ps) := Lib.hid (by rw [HN.out, if_neg (by omega)])
  clear HN
  by_cases b1 : ls.length = 0
  · have HE : Hid (numE ⟨nm, th, wi, al, wa, ls, ps⟩ = 3) := Lib.hid (by rw [HN2.out]; unfold listsE; rw [if_pos b1])
    have b2 : ((ls.length : Int) == 0) = true := by simp [b1]
    rw [b1]
    clear HL HP
    go_enter Tryz.func41, Tryz.ntmps41
    go_wp2_with (first | ((with_reducible apply wl_load' lwPd); (· (first | exact wanted_none rfl | exact wanted_some rfl rfl rfl)); (· rfl); (· infer_instance); (· rfl)) | (go_at_call 80; refine (green_any _ _ _ _ _ _ _ _).mono ?_; rintro e w' ⟨rfl, n, rfl⟩))
    go_ret
    exact ⟨ret_int HE.out.symm, by exact ExtOf.of (by with_reducible repeat' (first | exact Ext.refl _ | exact ExtOf.ext _ | refine Ext.trans ?_ (ExtOf.ext _) | refine Ext.alloc ?_ _ | refine Ext.drew ?_ | refine Ext.setCell ?_ ?_ _ | refine Ext.setRow ?_ ?_ _ | exact HX.out | refine Ext.trans ?_ HX.out | omega | (simp; done) | (simp; omega)))⟩
  have b2 : ((ls.length : Int) == 0) = false := by rw [beq_eq_false_iff_ne]; omega
  by_cases c1 : 8 < ls.length
  · have HE : Hid (numE ⟨nm, th, wi, al, wa, ls, ps⟩ = 4) := Lib.hid (by rw [HN2.out]; unfold listsE; rw [if_neg b1, if_pos (by omega)])
    clear HL HP
    go_enter Tryz.func41, Tryz.ntmps41
    go_wp2_with (first | ((with_reducible apply wl_load' lwPd); (· (first | exact wanted_none rfl | exact wanted_some rfl rfl rfl)); (· rfl); (· infer_instance); (· rfl)) | (go_at_call 80; refine (green_any _ _ _ _ _ _ _ _).mono ?_; rintro e w' ⟨rfl, n, rfl⟩))
    go_ret
    exact ⟨ret_int HE.out.symm, by exact ExtOf.of (by with_reducible repeat' (first | exact Ext.refl _ | exact ExtOf.ext _ | refine Ext.trans ?_ (ExtOf.ext _) | refine Ext.alloc ?_ _ | refine Ext.drew ?_ | refine Ext.setCell ?_ ?_ _ | refine Ext.setRow ?_ ?_ _ | exact HX.out | refine Ext.trans ?_ HX.out | omega | (simp; done) | (simp; omega)))⟩
  by_cases d1 : ps.length = ls.length
  · have HR : Hid (numE ⟨nm, th, wi, al, wa, ls, ps⟩ = if lensAt ls 0 ≠ 0 then lensAt ls 0 else priceAt ps 0) := Lib.hid (by rw [HN2.out, listsE_eq ls ps b1 (by omega) d1])
    have d2 : ((ps.length : Int) != (ls.length : Int)) = false := bne_eq_false_iff_eq.2 (by omega)
    clear d1
    go_enter Tryz.func41, Tryz.ntmps41
    go_wp2_with (first | ((with_reducible apply wl_load' lwPd); (· (first | exact wanted_none rfl | exact wanted_some rfl rfl rfl)); (· rfl); (· infer_instance); (· rfl)) | (go_at_call 80; refine (green_any _ _ _ _ _ _ _ _).mono ?_; rintro e w' ⟨rfl, n, rfl⟩))
    clear HN2 HG2
    go_loopw [72] (fun v wr => ∃ k : Nat, k ≤ ls.length ∧ v = .int .i64 k ∧ Block wr w.heap.size #[.string nm, .int .i64 th, .int .i64 wi, .int .i64 al, .int .i64 wa, .slice lq ls.length lcap, .slice pq ps.length pcap] ∧ Ext w wr ∧ lensAt ls 0 = lensAt ls k) (fun v _ => ls.length - (intOf v).toNat)
    case atStart => exact ⟨0, by omega, rfl, inferInstance, by with_reducible repeat' (first | exact Ext.refl _ | exact ExtOf.ext _ | refine Ext.trans ?_ (ExtOf.ext _) | refine Ext.alloc ?_ _ | refine Ext.drew ?_ | refine Ext.setCell ?_ ?_ _ | refine Ext.setRow ?_ ?_ _ | exact HX.out | refine Ext.trans ?_ HX.out | omega | (simp; done) | (simp; omega)), rfl⟩
    case round =>
      obtain ⟨k, hk, rfl, hB, hx, hla⟩ := hrel
      have HX := Lib.hid hx
      have HLA := Lib.hid hla
      have ob := hB.old
      clear hx hla
      by_cases hlt : k < ls.length
      · obtain ⟨bl, ol, hbl, o1, c0⟩ := SliceOf.elem1 (SliceOf.ext HL.out HX.out) hlt rfl
        subst hbl
        obtain ⟨x, hx⟩ : ∃ x, x = ls[k] := ⟨_, rfl⟩
        rw [← hx] at c0
        have HXE := Lib.hid hx
        clear hx
        by_cases t1 : x < 100
        · have HB9 : Hid (lensAt ls k = 9) := Lib.hid (lensAt_bad hlt (by rw [← HXE.out]; omega))
          go_wp2_with fail
          skip
          go_ret
          exact ⟨ret_int (by (rw [HR.out, HLA.out, HB9.out]; rfl)), by exact ExtOf.of (by with_reducible repeat' (first | exact Ext.refl _ | exact ExtOf.ext _ | refine Ext.trans ?_ (ExtOf.ext _) | refine Ext.alloc ?_ _ | refine Ext.drew ?_ | refine Ext.setCell ?_ ?_ _ | refine Ext.setRow ?_ ?_ _ | exact HX.out | refine Ext.trans ?_ HX.out | omega | (simp; done) | (simp; omega)))⟩
        have t2 : decide (x < 100) = false := decide_eq_false t1
        by_cases t3 : 20000 < x
        · have HB9 : Hid (lensAt ls k = 9) := Lib.hid (lensAt_bad hlt (by rw [← HXE.out]; omega))
          go_wp2_with fail
          skip
          go_ret
          exact ⟨ret_int (by (rw [HR.out, HLA.out, HB9.out]; rfl)), by exact ExtOf.of (by with_reducible repeat' (first | exact Ext.refl _ | exact ExtOf.ext _ | refine Ext.trans ?_ (ExtOf.ext _) | refine Ext.alloc ?_ _ | refine Ext.drew ?_ | refine Ext.setCell ?_ ?_ _ | refine Ext.setRow ?_ ?_ _ | exact HX.out | refine Ext.trans ?_ HX.out | omega | (simp; done) | (simp; omega)))⟩
        have t4 : decide (20000 < x) = false := decide_eq_false t3
        rcases Nat.eq_zero_or_pos k with hk0 | hk0
        · have HNX : Hid (lensAt ls 0 = lensAt ls (k + 1)) := Lib.hid (by subst hk0; exact lensAt_first hlt (by rw [← HXE.out]; omega))
          have q1 : decide (0 < k) = false := by simp [hk0]
          have ci0 : wr.cell? ⟨bl, ol, none⟩ = some (.int .i64 x) := by rw [hk0] at c0; simpa using c0
          have hki : (k : Int) = 0 := by omega
          have q2 : decide ((0 : Int) < (k : Int)) = false := by simp [hk0]
          clear hk0
          go_wp2_with fail
          skip
          go_roundw
          case rel => exact ⟨k + 1, by omega, by first | rfl | go_num, inferInstance, by with_reducible repeat' (first | exact Ext.refl _ | exact ExtOf.ext _ | refine Ext.trans ?_ (ExtOf.ext _) | refine Ext.alloc ?_ _ | refine Ext.drew ?_ | refine Ext.setCell ?_ ?_ _ | refine Ext.setRow ?_ ?_ _ | exact HX.out | refine Ext.trans ?_ HX.out | omega | (simp; done) | (simp; omega)), HNX.out⟩
          case measure => simp [intOf]; omega
        · obtain ⟨m, hm1, hm2⟩ : ∃ m, m + 1 ≤ k ∧ k ≤ m + 1 := ⟨k - 1, by omega, by omega⟩
          have hmz : (k : Int) - 1 = (m : Int) := by omega
          have hml : m < ls.length := by omega
          obtain ⟨b', o', e', o2, c1⟩ := SliceOf.elem1 (SliceOf.ext HL.out HX.out) hml rfl
          simp only [Option.some.injEq, Addr.mk.injEq, and_true] at e'
          obtain ⟨rfl, rfl⟩ := e'
          obtain ⟨y, hy⟩ : ∃ y, y = ls[m] := ⟨_, rfl⟩
          rw [← hy] at c1
          have HYE := Lib.hid hy
          have HKM : Hid (k = m + 1) := Lib.hid (by omega)
          have q1 : decide (0 < k) = true := by simpa using hk0
          clear hy
          by_cases t5 : x ≤ y
          · have HB9 : Hid (lensAt ls k = 11) := Lib.hid (by
              have e := HKM.out
              subst e
              exact lensAt_ord hlt (by rw [← HXE.out]; omega) (by rw [← HXE.out, ← HYE.out]; exact t5))
            go_wp2_with fail
            skip
            go_ret
            exact ⟨ret_int (by (rw [HR.out, HLA.out, HB9.out]; rfl)), by exact ExtOf.of (by with_reducible repeat' (first | exact Ext.refl _ | exact ExtOf.ext _ | refine Ext.trans ?_ (ExtOf.ext _) | refine Ext.alloc ?_ _ | refine Ext.drew ?_ | refine Ext.setCell ?_ ?_ _ | refine Ext.setRow ?_ ?_ _ | exact HX.out | refine Ext.trans ?_ HX.out | omega | (simp; done) | (simp; omega)))⟩
          · have HNX : Hid (lensAt ls k = lensAt ls (k + 1)) := Lib.hid (by
              have e := HKM.out
              subst e
              exact lensAt_next hlt (by rw [← HXE.out]; omega) (by rw [← HXE.out, ← HYE.out]; exact t5))
            go_wp2_with fail
            skip
            go_roundw
            case rel => exact ⟨k + 1, by omega, by first | rfl | go_num, inferInstance, by with_reducible repeat' (first | exact Ext.refl _ | exact ExtOf.ext _ | refine Ext.trans ?_ (ExtOf.ext _) | refine Ext.alloc ?_ _ | refine Ext.drew ?_ | refine Ext.setCell ?_ ?_ _ | refine Ext.setRow ?_ ?_ _ | exact HX.out | refine Ext.trans ?_ HX.out | omega | (simp; done) | (simp; omega)), HLA.out.trans HNX.out⟩
            case measure => simp [intOf]; omega
      · have HL0 : Hid (lensAt ls 0 = 0) := Lib.hid (by rw [HLA.out, lensAt_end ls (by omega)])
        have HR2 : Hid (numE ⟨nm, th, wi, al, wa, ls, ps⟩ = priceAt ps 0) := Lib.hid (by rw [HR.out, if_neg (by simp [HL0.out])])
        clear HR HLA HL0
        go_wp2_with fail
        skip
        go_loopw [99] (fun v wz => ∃ k : Nat, k ≤ ps.length ∧ v = .int .i64 k ∧ Block wz w.heap.size #[.string nm, .int .i64 th, .int .i64 wi, .int .i64 al, .int .i64 wa, .slice lq ls.length lcap, .slice pq ps.length pcap] ∧ Ext w wz ∧ priceAt ps 0 = priceAt ps k) (fun v _ => ps.length - (intOf v).toNat)
        case atStart => exact ⟨0, by omega, rfl, inferInstance, HX.out, rfl⟩
        case round =>
          clear hB HX ob hlt hk
          obtain ⟨k, hk, rfl, hB, hx, hla⟩ := hrel
          have HX := Lib.hid hx
          have HLA := Lib.hid hla
          have ob := hB.old
          clear hx hla
          by_cases hlt : k < ps.length
          · obtain ⟨bl, ol, hbl, o1, c0⟩ := SliceOf.elem1 (SliceOf.ext HP.out HX.out) hlt rfl
            subst hbl
            obtain ⟨x, hx⟩ : ∃ x, x = ps[k] := ⟨_, rfl⟩
            rw [← hx] at c0
            have HXE := Lib.hid hx
            clear hx
            by_cases t1 : x < 0
            · have HB9 : Hid (priceAt ps k = 9) := Lib.hid (priceAt_bad hlt (by rw [← HXE.out]; omega))
              go_wp2_with fail
              skip
              go_ret
              exact ⟨ret_int (by rw [HR2.out, HLA.out, HB9.out]), by exact ExtOf.of (by with_reducible repeat' (first | exact Ext.refl _ | exact ExtOf.ext _ | refine Ext.trans ?_ (ExtOf.ext _) | refine Ext.alloc ?_ _ | refine Ext.drew ?_ | refine Ext.setCell ?_ ?_ _ | refine Ext.setRow ?_ ?_ _ | exact HX.out | refine Ext.trans ?_ HX.out | omega | (simp; done) | (simp; omega)))⟩
            have t2 : decide (x < 0) = false := decide_eq_false t1
            by_cases t3 : 1000000 < x
            · have HB9 : Hid (priceAt ps k = 9) := Lib.hid (priceAt_bad hlt (by rw [← HXE.out]; omega))
              go_wp2_with fail
              skip
              go_ret
              exact ⟨ret_int (by rw [HR2.out, HLA.out, HB9.out]), by exact ExtOf.of (by with_reducible repeat' (first | exact Ext.refl _ | exact ExtOf.ext _ | refine Ext.trans ?_ (ExtOf.ext _) | refine Ext.alloc ?_ _ | refine Ext.drew ?_ | refine Ext.setCell ?_ ?_ _ | refine Ext.setRow ?_ ?_ _ | exact HX.out | refine Ext.trans ?_ HX.out | omega | (simp; done) | (simp; omega)))⟩
            have t4 : decide (1000000 < x) = false := decide_eq_false t3
            have HNX : Hid (priceAt ps k = priceAt ps (k + 1)) := Lib.hid (priceAt_next hlt (by rw [← HXE.out]; omega))
            go_wp2_with fail
            skip
            go_roundw
            case rel => exact ⟨k + 1, by omega, by first | rfl | go_num, inferInstance, by with_reducible repeat' (first | exact Ext.refl _ | exact ExtOf.ext _ | refine Ext.trans ?_ (ExtOf.ext _) | refine Ext.alloc ?_ _ | refine Ext.drew ?_ | refine Ext.setCell ?_ ?_ _ | refine Ext.setRow ?_ ?_ _ | exact HX.out | refine Ext.trans ?_ HX.out | omega | (simp; done) | (simp; omega)), HLA.out.trans HNX.out⟩
            case measure => simp [intOf]; omega
          · have HL0 : Hid (priceAt ps k = 0) := Lib.hid (priceAt_end ps (by omega))
            go_wp2_with fail
            skip
            go_ret
            exact ⟨ret_int (by rw [HR2.out, HLA.out, HL0.out]), by exact ExtOf.of (by with_reducible repeat' (first | exact Ext.refl _ | exact ExtOf.ext _ | refine Ext.trans ?_ (ExtOf.ext _) | refine Ext.alloc ?_ _ | refine Ext.drew ?_ | refine Ext.setCell ?_ ?_ _ | refine Ext.setRow ?_ ?_ _ | exact HX.out | refine Ext.trans ?_ HX.out | omega | (simp; done) | (simp; omega)))⟩
  · have HE : Hid (numE ⟨nm, th, wi, al, wa, ls, ps⟩ = 19) := Lib.hid (by rw [HN2.out]; unfold listsE; rw [if_neg b1, if_neg (by omega), if_pos d1])
    have d2 : ((ps.length : Int) != (ls.length : Int)) = true := bne_iff_ne.2 (by omega)
    clear HL HP
    go_enter Tryz.func41, Tryz.ntmps41
    go_wp2_with (first | ((with_reducible apply wl_load' lwPd); (· (first | exact wanted_none rfl | exact wanted_some rfl rfl rfl)); (· rfl); (· infer_instance); (· rfl)) | (go_at_call 80; refine (green_any _ _ _ _ _ _ _ _).mono ?_; rintro e w' ⟨rfl, n, rfl⟩))
    go_ret
    exact ⟨ret_int HE.out.symm, by exact ExtOf.of (by with_reducible repeat' (first | exact Ext.refl _ | exact ExtOf.ext _ | refine Ext.trans ?_ (ExtOf.ext _) | refine Ext.alloc ?_ _ | refine Ext.drew ?_ | refine Ext.setCell ?_ ?_ _ | refine Ext.setRow ?_ ?_ _ | exact HX.out | refine Ext.trans ?_ HX.out | omega | (simp; done) | (simp; omega)))⟩
set_option maxHeartbeats 1600000 in
theorem rLengths_any (p : Pdt) (lv pv : Value) (w : World) (hl : IntS w lv p.ls) (hp : IntS w pv p.ps) :
    Calls Tryz.prog 51 #[.agg (pdC p lv pv)] w fun e w' => e = .returned (.int .i64 (listsE p.ls p.ps)) ∧ ∃ n : ExtOf w, w' = n.val := by
  obtain ⟨nm, th, wi, al, wa, ls, ps⟩ := p
  obtain ⟨lq, lcap, rfl, hl1, hl2, hl3⟩ := SliceOf.form hl
  obtain ⟨pq, pcap, rfl, hp1, hp2, hp3⟩ := SliceOf.form hp
  have HL := Lib.hid hl
  have HP := Lib.hid hp
  clear hl hp
  unfold maxLen at hl2 hp2
  try unfold pdC
  simp only
  by_cases b1 : ls.length = 0
  · have HE : Hid (listsE ls ps = 3) := Lib.hid (by unfold listsE; rw [if_pos b1])
    have b2 : ((ls.length : Int) == 0) = true := by simp [b1]
    rw [b1]
    clear HL HP
    go_enter Tryz.func51, Tryz.ntmps51
    go_wp2_with (first | ((with_reducible apply wl_load' lwPd); (· (first | exact wanted_none rfl | exact wanted_some rfl rfl rfl)); (· rfl); (· infer_instance); (· rfl)) | (go_at_call 80; refine (green_any _ _ _ _ _ _ _ _).mono ?_; rintro e w' ⟨rfl, n, rfl⟩))
    go_ret
    exact ⟨ret_int HE.out.symm, by exact ExtOf.of (by with_reducible repeat' (first | exact Ext.refl _ | exact ExtOf.ext _ | refine Ext.trans ?_ (ExtOf.ext _) | refine Ext.alloc ?_ _ | refine Ext.drew ?_ | refine Ext.setCell ?_ ?_ _ | refine Ext.setRow ?_ ?_ _ | exact HX.out | refine Ext.trans ?_ HX.out | omega | (simp; done) | (simp; omega)))⟩
  have b2 : ((ls.length : Int) == 0) = false := by rw [beq_eq_false_iff_ne]; omega
  by_cases c1 : 8 < ls.length
  · have HE : Hid (listsE ls ps = 4) := Lib.hid (by unfold listsE; rw [if_neg b1, if_pos (by omega)])
    clear HL HP
    go_enter Tryz.func51, Tryz.ntmps51
    go_wp2_with (first | ((with_reducible apply wl_load' lwPd); (· (first | exact wanted_none rfl | exact wanted_some rfl rfl rfl)); (· rfl); (· infer_instance); (· rfl)) | (go_at_call 80; refine (green_any _ _ _ _ _ _ _ _).mono ?_; rintro e w' ⟨rfl, n, rfl⟩))
    go_ret
    exact ⟨ret_int HE.out.symm, by exact ExtOf.of (by with_reducible repeat' (first | exact Ext.refl _ | exact ExtOf.ext _ | refine Ext.trans ?_ (ExtOf.ext _) | refine Ext.alloc ?_ _ | refine Ext.drew ?_ | refine Ext.setCell ?_ ?_ _ | refine Ext.setRow ?_ ?_ _ | exact HX.out | refine Ext.trans ?_ HX.out | omega | (simp; done) | (simp; omega)))⟩
  by_cases d1 : ps.length = ls.length
  · have HR : Hid (listsE ls ps = if lensAt ls 0 ≠ 0 then lensAt ls 0 else priceAt ps 0) := Lib.hid (listsE_eq ls ps b1 (by omega) d1)
    have d2 : ((ps.length : Int) != (ls.length : Int)) = false := bne_eq_false_iff_eq.2 (by omega)
    clear d1
    go_enter Tryz.func51, Tryz.ntmps51
    go_wp2_with (first | ((with_reducible apply wl_load' lwPd); (· (first | exact wanted_none rfl | exact wanted_some rfl rfl rfl)); (· rfl); (· infer_instance); (· rfl)) | (go_at_call 80; refine (green_any _ _ _ _ _ _ _ _).mono ?_; rintro e w' ⟨rfl, n, rfl⟩))
    go_loopw [3] (fun v wr => ∃ k : Nat, k ≤ ls.length ∧ v = .int .i64 k ∧ Block wr w.heap.size #[.string nm, .int .i64 th, .int .i64 wi, .int .i64 al, .int .i64 wa, .slice lq ls.length lcap, .slice pq ps.length pcap] ∧ Ext w wr ∧ lensAt ls 0 = lensAt ls k) (fun v _ => ls.length - (intOf v).toNat)
    case atStart => exact ⟨0, by omega, rfl, inferInstance, by with_reducible repeat' (first | exact Ext.refl _ | exact ExtOf.ext _ | refine Ext.trans ?_ (ExtOf.ext _) | refine Ext.alloc ?_ _ | refine Ext.drew ?_ | refine Ext.setCell ?_ ?_ _ | refine Ext.setRow ?_ ?_ _ | exact HX.out | refine Ext.trans ?_ HX.out | omega | (simp; done) | (simp; omega)), rfl⟩
    case round =>
      obtain ⟨k, hk, rfl, hB, hx, hla⟩ := hrel
      have HX := Lib.hid hx
      have HLA := Lib.hid hla
      have ob := hB.old
      clear hx hla
      by_cases hlt : k < ls.length
      · obtain ⟨bl, ol, hbl, o1, c0⟩ := SliceOf.elem1 (SliceOf.ext HL.out HX.out) hlt rfl
        subst hbl
        obtain ⟨x, hx⟩ : ∃ x, x = ls[k] := ⟨_, rfl⟩
        rw [← hx] at c0
        have HXE := Lib.hid hx
        clear hx
        by_cases t1 : x < 100
        · have HB9 : Hid (lensAt ls k = 9) := Lib.hid (lensAt_bad hlt (by rw [← HXE.out]; omega))
          go_wp2_with fail
          skip
          go_ret
          exact ⟨ret_int (by (rw [HR.out, HLA.out, HB9.out]; rfl)), by exact ExtOf.of (by with_reducible repeat' (first | exact Ext.refl _ | exact ExtOf.ext _ | refine Ext.trans ?_ (ExtOf.ext _) | refine Ext.alloc ?_ _ | refine Ext.drew ?_ | refine Ext.setCell ?_ ?_ _ | refine Ext.setRow ?_ ?_ _ | exact HX.out | refine Ext.trans ?_ HX.out | omega | (simp; done) | (simp; omega)))⟩
        have t2 : decide (x < 100) = false := decide_eq_false t1
        by_cases t3 : 20000 < x
        · have HB9 : Hid (lensAt ls k = 9) := Lib.hid (lensAt_bad hlt (by rw [← HXE.out]; omega))
          go_wp2_with fail
          skip
          go_ret
          exact ⟨ret_int (by (rw [HR.out, HLA.out, HB9.out]; rfl)), by exact ExtOf.of (by with_reducible repeat' (first | exact Ext.refl _ | exact ExtOf.ext _ | refine Ext.trans ?_ (ExtOf.ext _) | refine Ext.alloc ?_ _ | refine Ext.drew ?_ | refine Ext.setCell ?_ ?_ _ | refine Ext.setRow ?_ ?_ _ | exact HX.out | refine Ext.trans ?_ HX.out | omega | (simp; done) | (simp; omega)))⟩
        have t4 : decide (20000 < x) = false := decide_eq_false t3
        rcases Nat.eq_zero_or_pos k with hk0 | hk0
        · have HNX : Hid (lensAt ls 0 = lensAt ls (k + 1)) := Lib.hid (by subst hk0; exact lensAt_first hlt (by rw [← HXE.out]; omega))
          have q1 : decide (0 < k) = false := by simp [hk0]
          have ci0 : wr.cell? ⟨bl, ol, none⟩ = some (.int .i64 x) := by rw [hk0] at c0; simpa using c0
          have hki : (k : Int) = 0 := by omega
          have q2 : decide ((0 : Int) < (k : Int)) = false := by simp [hk0]
          clear hk0
          go_wp2_with fail
          refine wp_region_ext (by kernel_rfl) (by kernel_rfl) ?_
          repeat (first | go_big_quiet_skip | go_big_quiet_step (fail))
          refine wpQuiet_nil ?_
          intro _ hw'
          obtain ⟨nq, hw''⟩ := hw'
          subst hw''
          go_wp2_with fail
          go_roundw
          case rel => exact ⟨k + 1, by omega, by first | rfl | go_num, inferInstance, by with_reducible repeat' (first | exact Ext.refl _ | exact ExtOf.ext _ | refine Ext.trans ?_ (ExtOf.ext _) | refine Ext.alloc ?_ _ | refine Ext.drew ?_ | refine Ext.setCell ?_ ?_ _ | refine Ext.setRow ?_ ?_ _ | exact HX.out | refine Ext.trans ?_ HX.out | omega | (simp; done) | (simp; omega)), HNX.out⟩
          case measure => simp [intOf]; omega
        · obtain ⟨m, hm1, hm2⟩ : ∃ m, m + 1 ≤ k ∧ k ≤ m + 1 := ⟨k - 1, by omega, by omega⟩
          have hmz : (k : Int) - 1 = (m : Int) := by omega
          have hml : m < ls.length := by omega
          obtain ⟨b', o', e', o2, c1⟩ := SliceOf.elem1 (SliceOf.ext HL.out HX.out) hml rfl
          simp only [Option.some.injEq, Addr.mk.injEq, and_true] at e'
          obtain ⟨rfl, rfl⟩ := e'
          obtain ⟨y, hy⟩ : ∃ y, y = ls[m] := ⟨_, rfl⟩
          rw [← hy] at c1
          have HYE := Lib.hid hy
          have HKM : Hid (k = m + 1) := Lib.hid (by omega)
          have q1 : decide (0 < k) = true := by simpa using hk0
          clear hy
          by_cases t5 : x ≤ y
          · have HB9 : Hid (lensAt ls k = 11) := Lib.hid (by
              have e := HKM.out
              subst e
              exact lensAt_ord hlt (by rw [← HXE.out]; omega) (by rw [← HXE.out, ← HYE.out]; exact t5))
            go_wp2_with fail
            refine wp_region_ext (by kernel_rfl) (by kernel_rfl) ?_
            repeat (first | go_big_quiet_skip | go_big_quiet_step (fail))
            refine wpQuiet_nil ?_
            intro _ hw'
            obtain ⟨nq, hw''⟩ := hw'
            subst hw''
            go_wp2_with fail
            go_ret
            exact ⟨ret_int (by (rw [HR.out, HLA.out, HB9.out]; rfl)), by exact ExtOf.of (by with_reducible repeat' (first | exact Ext.refl _ | exact ExtOf.ext _ | refine Ext.trans ?_ (ExtOf.ext _) | refine Ext.alloc ?_ _ | refine Ext.drew ?_ | refine Ext.setCell ?_ ?_ _ | refine Ext.setRow ?_ ?_ _ | exact HX.out | refine Ext.trans ?_ HX.out | omega | (simp; done) | (simp; omega)))⟩
          · have HNX : Hid (lensAt ls k = lensAt ls (k + 1)) := Lib.hid (by
              have e := HKM.out
              subst e
              exact lensAt_next hlt (by rw [← HXE.out]; omega) (by rw [← HXE.out, ← HYE.out]; exact t5))
            go_wp2_with fail
            refine wp_region_ext (by kernel_rfl) (by kernel_rfl) ?_
            repeat (first | go_big_quiet_skip | go_big_quiet_step (fail))
            refine wpQuiet_nil ?_
            intro _ hw'
            obtain ⟨nq, hw''⟩ := hw'
            subst hw''
            go_wp2_with fail
            go_roundw
            case rel => exact ⟨k + 1, by omega, by first | rfl | go_num, inferInstance, by with_reducible repeat' (first | exact Ext.refl _ | exact ExtOf.ext _ | refine Ext.trans ?_ (ExtOf.ext _) | refine Ext.alloc ?_ _ | refine Ext.drew ?_ | refine Ext.setCell ?_ ?_ _ | refine Ext.setRow ?_ ?_ _ | exact HX.out | refine Ext.trans ?_ HX.out | omega | (simp; done) | (simp; omega)), HLA.out.trans HNX.out⟩
            case measure => simp [intOf]; omega
      · have HL0 : Hid (lensAt ls 0 = 0) := Lib.hid (by rw [HLA.out, lensAt_end ls (by omega)])
        have HR2 : Hid (listsE ls ps = priceAt ps 0) := Lib.hid (by rw [HR.out, if_neg (by simp [HL0.out])])
        clear HR HLA HL0
        go_wp2_with fail
        skip
        go_loopw [4] (fun v wz => ∃ k : Nat, k ≤ ps.length ∧ v = .int .i64 k ∧ Block wz w.heap.size #[.string nm, .int .i64 th, .int .i64 wi, .int .i64 al, .int .i64 wa, .slice lq ls.length lcap, .slice pq ps.length pcap] ∧ Ext w wz ∧ priceAt ps 0 = priceAt ps k) (fun v _ => ps.length - (intOf v).toNat)
        case atStart => exact ⟨0, by omega, rfl, inferInstance, HX.out, rfl⟩
        case round =>
          clear hB HX ob hlt hk
          obtain ⟨k, hk, rfl, hB, hx, hla⟩ := hrel
          have HX := Lib.hid hx
          have HLA := Lib.hid hla
          have ob := hB.old
          clear hx hla
          by_cases hlt : k < ps.length
          · obtain ⟨bl, ol, hbl, o1, c0⟩ := SliceOf.elem1 (SliceOf.ext HP.out HX.out) hlt rfl
            subst hbl
            obtain ⟨x, hx⟩ : ∃ x, x = ps[k] := ⟨_, rfl⟩
            rw [← hx] at c0
            have HXE := Lib.hid hx
            clear hx
            by_cases t1 : x < 0
            · have HB9 : Hid (priceAt ps k = 9) := Lib.hid (priceAt_bad hlt (by rw [← HXE.out]; omega))
              go_wp2_with fail
              skip
              go_ret
              exact ⟨ret_int (by rw [HR2.out, HLA.out, HB9.out]), by exact ExtOf.of (by with_reducible repeat' (first | exact Ext.refl _ | exact ExtOf.ext _ | refine Ext.trans ?_ (ExtOf.ext _) | refine Ext.alloc ?_ _ | refine Ext.drew ?_ | refine Ext.setCell ?_ ?_ _ | refine Ext.setRow ?_ ?_ _ | exact HX.out | refine Ext.trans ?_ HX.out | omega | (simp; done) | (simp; omega)))⟩
            have t2 : decide (x < 0) = false := decide_eq_false t1
            by_cases t3 : 1000000 < x
            · have HB9 : Hid (priceAt ps k = 9) := Lib.hid (priceAt_bad hlt (by rw [← HXE.out]; omega))
              go_wp2_with fail
              skip
              go_ret
              exact ⟨ret_int (by rw [HR2.out, HLA.out, HB9.out]), by exact ExtOf.of (by with_reducible repeat' (first | exact Ext.refl _ | exact ExtOf.ext _ | refine Ext.trans ?_ (ExtOf.ext _) | refine Ext.alloc ?_ _ | refine Ext.drew ?_ | refine Ext.setCell ?_ ?_ _ | refine Ext.setRow ?_ ?_ _ | exact HX.out | refine Ext.trans ?_ HX.out | omega | (simp; done) | (simp; omega)))⟩
            have t4 : decide (1000000 < x) = false := decide_eq_false t3
            have HNX : Hid (priceAt ps k = priceAt ps (k + 1)) := Lib.hid (priceAt_next hlt (by rw [← HXE.out]; omega))
            go_wp2_with fail
            skip
            go_roundw
            case rel => exact ⟨k + 1, by omega, by first | rfl | go_num, inferInstance, by with_reducible repeat' (first | exact Ext.refl _ | exact ExtOf.ext _ | refine Ext.trans ?_ (ExtOf.ext _) | refine Ext.alloc ?_ _ | refine Ext.drew ?_ | refine Ext.setCell ?_ ?_ _ | refine Ext.setRow ?_ ?_ _ | exact HX.out | refine Ext.trans ?_ HX.out | omega | (simp; done) | (simp; omega)), HLA.out.trans HNX.out⟩
            case measure => simp [intOf]; omega
          · have HL0 : Hid (priceAt ps k = 0) := Lib.hid (priceAt_end ps (by omega))
            go_wp2_with fail
            skip
            go_ret
            exact ⟨ret_int (by rw [HR2.out, HLA.out, HL0.out]), by exact ExtOf.of (by with_reducible repeat' (first | exact Ext.refl _ | exact ExtOf.ext _ | refine Ext.trans ?_ (ExtOf.ext _) | refine Ext.alloc ?_ _ | refine Ext.drew ?_ | refine Ext.setCell ?_ ?_ _ | refine Ext.setRow ?_ ?_ _ | exact HX.out | refine Ext.trans ?_ HX.out | omega | (simp; done) | (simp; omega)))⟩
  · have HE : Hid (listsE ls ps = 19) := Lib.hid (by unfold listsE; rw [if_neg b1, if_neg (by omega), if_pos d1])
    have d2 : ((ps.length : Int) != (ls.length : Int)) = true := bne_iff_ne.2 (by omega)
    clear HL HP
    go_enter Tryz.func51, Tryz.ntmps51
    go_wp2_with (first | ((with_reducible apply wl_load' lwPd); (· (first | exact wanted_none rfl | exact wanted_some rfl rfl rfl)); (· rfl); (· infer_instance); (· rfl)) | (go_at_call 80; refine (green_any _ _ _ _ _ _ _ _).mono ?_; rintro e w' ⟨rfl, n, rfl⟩))
    go_ret
    exact ⟨ret_int HE.out.symm, by exact ExtOf.of (by with_reducible repeat' (first | exact Ext.refl _ | exact ExtOf.ext _ | refine Ext.trans ?_ (ExtOf.ext _) | refine Ext.alloc ?_ _ | refine Ext.drew ?_ | refine Ext.setCell ?_ ?_ _ | refine Ext.setRow ?_ ?_ _ | exact HX.out | refine Ext.trans ?_ HX.out | omega | (simp; done) | (simp; omega)))⟩
end Go.Proofs.YteokijolhbohaaaGreatDoor
end
