/-
  Chapter 26: several texts in one (R1, R2).
-/
import Derived.Test.YtdalbfanfbeckaaGreatDoorRows
import Derived.Test.YtdalbfanfbeckaaGreatDoorLB
import Derived.Test.YtdalbfanfbeckaaGreatDoorMM
/-
  Chapter 26: how boards, products, defects and lines lie in memory; names.
-/
section
set_option linter.unusedVariables false
set_option linter.unusedSimpArgs false
namespace Go.Proofs.YtdalbfanfbeckaaGreatDoor
open Go.RowKit TrimM

attribute [local go_sem] ExtOf.cell ExtOf.frozen Block.cell Block.frozen ExtB.cell ExtB.frozen alloc_cell alloc_frozen
def encI (n : Int) : List Value := [.int .i64 n]
theorem encI_len (s : Int) : (encI s).length = 1 := rfl
theorem encI_one (b : Int) : ∀ u ∈ encI b, u.oneCell' = true := by intro u hu; simp [encI] at hu; subst hu; rfl
def encSp (s : Sp) : List Value := [.int .i64 s.1, .int .i64 s.2]
theorem encSp_len (s : Sp) : (encSp s).length = 2 := rfl
theorem encSp_one (s : Sp) : ∀ u ∈ encSp s, u.oneCell' = true := by simp [encSp, Value.oneCell']
def encBx (b : Bx) : List Value := [.int .i64 b.xa, .int .i64 b.xb, .int .i64 b.ya, .int .i64 b.yb, .int .i64 b.za, .int .i64 b.zb]
theorem encBx_len (s : Bx) : (encBx s).length = 6 := rfl
theorem encBx_one (s : Bx) : ∀ u ∈ encBx s, u.oneCell' = true := by simp [encBx, Value.oneCell']
def encDf (d : Df) : List Value := [.int .i64 d.k, .int .i64 d.b.xa, .int .i64 d.b.xb, .int .i64 d.b.ya, .int .i64 d.b.yb, .int .i64 d.b.za, .int .i64 d.b.zb]
theorem encDf_len (s : Df) : (encDf s).length = 7 := rfl
theorem encDf_one (s : Df) : ∀ u ∈ encDf s, u.oneCell' = true := by simp [encDf, Value.oneCell']
/-- a board, but for its defects -/
structure Bd where
  (id lg sp : ByteArray) (pr : Int) (b : Bx) (vol wa su co st : Int) (dr : Bool) (gr : Int)
def bdC (x : Bd) (dv : Value) : Array Value := #[.string x.id, .string x.lg, .string x.sp, .int .i64 x.pr, .int .i64 x.b.xa, .int .i64 x.b.xb, .int .i64 x.b.ya, .int .i64 x.b.yb, .int .i64 x.b.za, .int .i64 x.b.zb, .int .i64 x.vol, dv, .int .i64 x.wa, .int .i64 x.su, .int .i64 x.co, .int .i64 x.st, .bool x.dr, .int .i64 x.gr]
def pdC (p : Pdt) (lv pv : Value) : Array Value := #[.string p.nm, .int .i64 p.th, .int .i64 p.wi, .int .i64 p.al, .int .i64 p.wa, lv, pv]
abbrev IntS (w : World) (v : Value) (l : List Int) : Prop := SliceOf encI 1 w v l
abbrev DfS (w : World) (v : Value) (l : List Df) : Prop := SliceOf encDf 7 w v l
abbrev SpS (w : World) (v : Value) (l : List Sp) : Prop := SliceOf encSp 2 w v l
theorem lwSpan : Whole Tryz.prog 23 2 := whole_of Tryz.underlying23 rfl (by kernel_rfl)
theorem lwBox : Whole Tryz.prog 25 6 := whole_of Tryz.underlying25 rfl (by kernel_rfl)
theorem lwDf : Whole Tryz.prog 53 7 := whole_of Tryz.underlying53 rfl (by kernel_rfl)
theorem lwBd : Whole Tryz.prog 30 18 := whole_of Tryz.underlying30 rfl (by kernel_rfl)
theorem lwPd : Whole Tryz.prog 33 7 := whole_of Tryz.underlying33 rfl (by kernel_rfl)
theorem lwGiven : Whole Tryz.prog 35 28 := whole_of Tryz.underlying35 rfl (by kernel_rfl)
theorem lwLine : Whole Tryz.prog 58 7 := whole_of Tryz.underlying58 rfl (by kernel_rfl)
theorem lwPiece : Whole Tryz.prog 55 2 := whole_of Tryz.underlying55 rfl (by kernel_rfl)
theorem midSpan : Mid Tryz.prog 23 2 := mid_of Tryz.underlying23 rfl (by kernel_rfl)
theorem midBox : Mid Tryz.prog 25 6 := mid_of Tryz.underlying25 rfl (by kernel_rfl)
theorem midDf : Mid Tryz.prog 53 7 := mid_of Tryz.underlying53 rfl (by kernel_rfl)
theorem midBd : Mid Tryz.prog 30 18 := mid_of Tryz.underlying30 rfl (by kernel_rfl)
theorem midPd : Mid Tryz.prog 33 7 := mid_of Tryz.underlying33 rfl (by kernel_rfl)
theorem midPiece : Mid Tryz.prog 55 2 := mid_of Tryz.underlying55 rfl (by kernel_rfl)
def Inn (n : Int) : Prop := -9223372036854775808 ≤ n ∧ n ≤ 9223372036854775807

theorem isSmall_any (c : UInt8) (w : World) : Calls Tryz.prog 95 #[.int .u8 (c.toNat : Int)] w fun e w' => e = .returned (.bool (TrimM.small c)) ∧ w' = w := by
  have hc := c.toNat_lt
  unfold TrimM.small
  by_cases h1 : 97 ≤ c.toNat
  · have q1 : decide ((97 : Int) ≤ (c.toNat : Int)) = true := by simp; omega
    go_enter Tryz.func95, Tryz.ntmps95
    go_wp2
    go_ret
    exact ⟨ret_bool (by simp [h1]; omega), rfl⟩
  · have q1 : decide ((97 : Int) ≤ (c.toNat : Int)) = false := by simp; omega
    go_enter Tryz.func95, Tryz.ntmps95
    go_wp2
    go_ret
    exact ⟨ret_bool (by simp [h1]), rfl⟩
theorem isDigit_any (c : UInt8) (w : World) : Calls Tryz.prog 96 #[.int .u8 (c.toNat : Int)] w fun e w' => e = .returned (.bool (digit c)) ∧ w' = w := by
  have hc := c.toNat_lt
  unfold digit
  by_cases h1 : 48 ≤ c.toNat
  · have q1 : decide ((48 : Int) ≤ (c.toNat : Int)) = true := by simp; omega
    go_enter Tryz.func96, Tryz.ntmps96
    go_wp2
    go_ret
    exact ⟨ret_bool (by simp [h1]; omega), rfl⟩
  · have q1 : decide ((48 : Int) ≤ (c.toNat : Int)) = false := by simp; omega
    go_enter Tryz.func96, Tryz.ntmps96
    go_wp2
    go_ret
    exact ⟨ret_bool (by simp [h1]), rfl⟩
theorem rdigit_any (c : UInt8) (w : World) : Calls Tryz.prog 102 #[.int .u8 (c.toNat : Int)] w fun e w' => e = .returned (.bool (digit c)) ∧ w' = w := by
  have hc := c.toNat_lt
  unfold digit
  by_cases h1 : 48 ≤ c.toNat
  · have q1 : decide ((48 : Int) ≤ (c.toNat : Int)) = true := by simp; omega
    go_enter Tryz.func102, Tryz.ntmps102
    go_wp2
    go_ret
    exact ⟨ret_bool (by simp [h1]; omega), rfl⟩
  · have q1 : decide ((48 : Int) ≤ (c.toNat : Int)) = false := by simp; omega
    go_enter Tryz.func102, Tryz.ntmps102
    go_wp2
    go_ret
    exact ⟨ret_bool (by simp [h1]), rfl⟩
theorem byte_drop (s : ByteArray) {k : Nat} (h : k < s.size) : s.data.toList.drop k = s[k] :: s.data.toList.drop (k + 1) := by
  rw [List.drop_eq_getElem_cons (by simpa using h)]; rfl
theorem nameL_eq (s : ByteArray) (h : 0 < s.size) : nameL s.data.toList = (decide (s.size ≤ 16) && TrimM.small s[0] && tailOk (s.data.toList.drop 1)) := by
  have e := byte_drop s h
  rw [List.drop_zero] at e
  rw [e, nameL, List.drop_succ_cons, List.drop_zero]
  congr 2
  have : (s.data.toList.drop 1).length + 1 = s.size := by rw [List.length_drop]; simp; omega
  rw [this]
theorem tail_step (s : ByteArray) {k : Nat} (h : k < s.size) : tailOk (s.data.toList.drop k) = ((TrimM.small s[k] || digit s[k] || s[k].toNat == 95) && tailOk (s.data.toList.drop (k + 1))) := by
  rw [byte_drop s h]; rfl
theorem tail_end (s : ByteArray) {k : Nat} (h : s.size ≤ k) : tailOk (s.data.toList.drop k) = true := by
  rw [List.drop_of_length_le (by simpa using h)]; rfl
set_option maxHeartbeats 800000 in
theorem isName_any (s : ByteArray) (w : World) : Calls Tryz.prog 74 #[.string s] w fun e w' => e = .returned (.bool (nameL s.data.toList)) ∧ w' = w := by
  by_cases h0 : 0 < s.size
  · have HN := Lib.hid (nameL_eq s h0)
    have q1 : decide (s.size < 1) = false := decide_eq_false (by omega)
    by_cases h16 : s.size ≤ 16
    · have q2 : decide (16 < s.size) = false := decide_eq_false (by omega)
      have q3 : decide (s.size ≤ 16) = true := decide_eq_true (by omega)
      rcases hs : TrimM.small s[0] with _ | _
      · go_enter Tryz.func74, Tryz.ntmps74
        go_wp2_with (first | (go_at_call 95; refine (isSmall_any _ _).mono ?_; rintro e w' ⟨rfl, rfl⟩) | (go_at_call 96; refine (isDigit_any _ _).mono ?_; rintro e w' ⟨rfl, rfl⟩) | (go_at_call 102; refine (rdigit_any _ _).mono ?_; rintro e w' ⟨rfl, rfl⟩))
        go_ret
        exact ⟨ret_bool (by rw [HN.out, hs]; simp), rfl⟩
      · go_enter Tryz.func74, Tryz.ntmps74
        go_wp2_with (first | (go_at_call 95; refine (isSmall_any _ _).mono ?_; rintro e w' ⟨rfl, rfl⟩) | (go_at_call 96; refine (isDigit_any _ _).mono ?_; rintro e w' ⟨rfl, rfl⟩) | (go_at_call 102; refine (rdigit_any _ _).mono ?_; rintro e w' ⟨rfl, rfl⟩))
        go_loop [3] (fun i => ∃ k : Nat, 1 ≤ k ∧ k ≤ s.size ∧ i = .int .i64 k ∧ tailOk (s.data.toList.drop 1) = tailOk (s.data.toList.drop k)) (fun i => s.size - (intOf i).toNat)
        case atStart => exact ⟨1, Nat.le_refl _, by omega, rfl, rfl⟩
        case round =>
          obtain ⟨k, hk1, hk, rfl, hr⟩ := hrel
          have HR := Lib.hid hr
          clear hr
          by_cases hlt : k < s.size
          · have HS := Lib.hid (tail_step s hlt)
            rcases g1 : TrimM.small s[k] with _ | _
            · rcases g2 : digit s[k] with _ | _
              · by_cases g3 : s[k].toNat = 95
                · have g4 : Hid ((s[k].toNat == 95) = true) := Lib.hid (by simpa using g3)
                  have g5 : ((s[k].toNat : Int) != 95) = false := bne_eq_false_iff_eq.2 (by omega)
                  clear g3
                  go_wp2_with (first | (go_at_call 95; refine (isSmall_any _ _).mono ?_; rintro e w' ⟨rfl, rfl⟩) | (go_at_call 96; refine (isDigit_any _ _).mono ?_; rintro e w' ⟨rfl, rfl⟩) | (go_at_call 102; refine (rdigit_any _ _).mono ?_; rintro e w' ⟨rfl, rfl⟩))
                  go_round
                  case rel => exact ⟨k + 1, by omega, by omega, by first | rfl | go_num, by rw [HR.out, HS.out, g1, g2, g4.out]; simp⟩
                  case measure => simp [intOf]; omega
                · have g4 : (s[k].toNat == 95) = false := by simpa using g3
                  have g5 : ((s[k].toNat : Int) != 95) = true := by simp; omega
                  go_wp2_with (first | (go_at_call 95; refine (isSmall_any _ _).mono ?_; rintro e w' ⟨rfl, rfl⟩) | (go_at_call 96; refine (isDigit_any _ _).mono ?_; rintro e w' ⟨rfl, rfl⟩) | (go_at_call 102; refine (rdigit_any _ _).mono ?_; rintro e w' ⟨rfl, rfl⟩))
                  go_ret
                  exact ⟨ret_bool (by rw [HN.out, HR.out, HS.out, g1, g2, g4]; simp), rfl⟩
              · go_wp2_with (first | (go_at_call 95; refine (isSmall_any _ _).mono ?_; rintro e w' ⟨rfl, rfl⟩) | (go_at_call 96; refine (isDigit_any _ _).mono ?_; rintro e w' ⟨rfl, rfl⟩) | (go_at_call 102; refine (rdigit_any _ _).mono ?_; rintro e w' ⟨rfl, rfl⟩))
                go_round
                case rel => exact ⟨k + 1, by omega, by omega, by first | rfl | go_num, by rw [HR.out, HS.out, g1, g2]; simp⟩
                case measure => simp [intOf]; omega
            · go_wp2_with (first | (go_at_call 95; refine (isSmall_any _ _).mono ?_; rintro e w' ⟨rfl, rfl⟩) | (go_at_call 96; refine (isDigit_any _ _).mono ?_; rintro e w' ⟨rfl, rfl⟩) | (go_at_call 102; refine (rdigit_any _ _).mono ?_; rintro e w' ⟨rfl, rfl⟩))
              go_round
              case rel => exact ⟨k + 1, by omega, by omega, by first | rfl | go_num, by rw [HR.out, HS.out, g1]; simp⟩
              case measure => simp [intOf]; omega
          · have HE := Lib.hid (tail_end s (k := k) (by omega))
            go_wp2_with fail
            go_ret
            exact ⟨ret_bool (by rw [HN.out, HR.out, HE.out, hs]; simp [q3]), rfl⟩
    · have q2 : decide (16 < s.size) = true := decide_eq_true (by omega)
      have q3 : decide (s.size ≤ 16) = false := decide_eq_false (by omega)
      go_enter Tryz.func74, Tryz.ntmps74
      go_wp2_with fail
      go_ret
      exact ⟨ret_bool (by rw [HN.out, q3]; simp), rfl⟩
  · have hn : nameL s.data.toList = false := by
      have : s.data.toList = [] := List.eq_nil_of_length_eq_zero (by have h8 := Array.length_toList (xs := s.data); have h9 : s.data.size = s.size := rfl; omega)
      rw [this]; rfl
    have HN := Lib.hid hn
    have q1 : decide (s.size < 1) = true := decide_eq_true (by omega)
    clear hn
    go_enter Tryz.func74, Tryz.ntmps74
    go_wp2_with fail
    go_ret
    exact ⟨ret_bool HN.out.symm, rfl⟩
def letK (c : UInt8) (k : Nat) : Bool := TrimM.small c || (k != 0 && (c.toNat == 95 || digit c))
/-- the reference's loop -/
def nameFrom (s : ByteArray) : Nat → List UInt8 → Bool
  | _, [] => true
  | k, c :: l => letK c k && nameFrom s (k + 1) l
theorem nameFrom_tail (s : ByteArray) : ∀ (l : List UInt8) (k : Nat), 0 < k → nameFrom s k l = tailOk l
  | [], _, _ => rfl
  | c :: l, k, h => by
    unfold nameFrom tailOk
    rw [nameFrom_tail s l (k + 1) (by omega), List.all_cons]
    congr 1
    unfold letK
    have : (k != 0) = true := by simp; omega
    rw [this, Bool.true_and]
    cases TrimM.small c <;> cases digit c <;> simp
theorem nameFrom_nameL (s : ByteArray) (h : 0 < s.size) (h2 : s.size ≤ 16) : nameL s.data.toList = nameFrom s 0 (s.data.toList.drop 0) := by
  rw [nameL_eq s h, byte_drop s h]
  unfold nameFrom
  rw [nameFrom_tail s _ _ (by omega), decide_eq_true h2]
  unfold letK
  simp
theorem from_step (s : ByteArray) {k : Nat} (h : k < s.size) : nameFrom s k (s.data.toList.drop k) = (letK s[k] k && nameFrom s (k + 1) (s.data.toList.drop (k + 1))) := by
  rw [byte_drop s h]; rfl
theorem from_end (s : ByteArray) {k : Nat} (h : s.size ≤ k) : nameFrom s k (s.data.toList.drop k) = true := by
  rw [List.drop_of_length_le (by simpa using h)]; rfl
set_option maxHeartbeats 1600000 in
theorem risName_any (s : ByteArray) (w : World) : Calls Tryz.prog 89 #[.string s] w fun e w' => e = .returned (.bool (nameL s.data.toList)) ∧ w' = w := by
  by_cases h0 : 0 < s.size
  · have q1 : decide (s.size < 1) = false := decide_eq_false (by omega)
    by_cases h16 : s.size ≤ 16
    · have HN := Lib.hid (nameFrom_nameL s h0 h16)
      have q2 : decide (16 < s.size) = false := decide_eq_false (by omega)
      go_enter Tryz.func89, Tryz.ntmps89
      go_wp2_with fail
      go_loop [3] (fun i => ∃ k : Nat, k ≤ s.size ∧ i = .int .i64 k ∧ nameFrom s 0 (s.data.toList.drop 0) = nameFrom s k (s.data.toList.drop k)) (fun i => s.size - (intOf i).toNat)
      case atStart => exact ⟨0, by omega, rfl, rfl⟩
      case round =>
        obtain ⟨k, hk, rfl, hr⟩ := hrel
        have HR := Lib.hid hr
        clear hr
        by_cases hlt : k < s.size
        · have HS := Lib.hid (from_step s hlt)
          by_cases g1 : 97 ≤ s[k].toNat
          · have p1 : decide ((97 : Int) ≤ (s[k].toNat : Int)) = true := decide_eq_true (by omega)
            by_cases g2 : s[k].toNat ≤ 122
            · have p2 : decide ((s[k].toNat : Int) ≤ 122) = true := decide_eq_true (by omega)
              go_wp2_with (first | (go_at_call 95; refine (isSmall_any _ _).mono ?_; rintro e w' ⟨rfl, rfl⟩) | (go_at_call 96; refine (isDigit_any _ _).mono ?_; rintro e w' ⟨rfl, rfl⟩) | (go_at_call 102; refine (rdigit_any _ _).mono ?_; rintro e w' ⟨rfl, rfl⟩))
              go_round
              case rel => exact ⟨k + 1, by omega, by first | rfl | go_num, by rw [HR.out, HS.out]; unfold letK; simp [*, TrimM.small]⟩
              case measure => simp [intOf]; omega
            · have p2 : decide ((s[k].toNat : Int) ≤ 122) = false := decide_eq_false (by omega)
              by_cases hz : k = 0
              · subst hz
                go_wp2_with (first | (go_at_call 95; refine (isSmall_any _ _).mono ?_; rintro e w' ⟨rfl, rfl⟩) | (go_at_call 96; refine (isDigit_any _ _).mono ?_; rintro e w' ⟨rfl, rfl⟩) | (go_at_call 102; refine (rdigit_any _ _).mono ?_; rintro e w' ⟨rfl, rfl⟩))
                go_ret
                exact ⟨ret_bool (by (first | rw [HN.out, HR.out, HS.out] | rw [HN.out, HS.out]); (unfold letK; simp [*, TrimM.small])), rfl⟩
              · have z1 : ((k : Int) == 0) = false := by rw [beq_eq_false_iff_ne]; omega
                have z2 : (k != 0) = true := by simp; omega
                by_cases g3 : s[k].toNat = 95
                · have g5 : ((s[k].toNat : Int) != 95) = false := bne_eq_false_iff_eq.2 (by omega)
                  go_wp2_with (first | (go_at_call 95; refine (isSmall_any _ _).mono ?_; rintro e w' ⟨rfl, rfl⟩) | (go_at_call 96; refine (isDigit_any _ _).mono ?_; rintro e w' ⟨rfl, rfl⟩) | (go_at_call 102; refine (rdigit_any _ _).mono ?_; rintro e w' ⟨rfl, rfl⟩))
                  go_round
                  case rel => exact ⟨k + 1, by omega, by first | rfl | go_num, by rw [HR.out, HS.out]; unfold letK; simp [*, TrimM.small]⟩
                  case measure => simp [intOf]; omega
                · have g5 : ((s[k].toNat : Int) != 95) = true := by simp; omega
                  rcases g2 : digit s[k] with _ | _
                  · go_wp2_with (first | (go_at_call 95; refine (isSmall_any _ _).mono ?_; rintro e w' ⟨rfl, rfl⟩) | (go_at_call 96; refine (isDigit_any _ _).mono ?_; rintro e w' ⟨rfl, rfl⟩) | (go_at_call 102; refine (rdigit_any _ _).mono ?_; rintro e w' ⟨rfl, rfl⟩))
                    go_ret
                    exact ⟨ret_bool (by (first | rw [HN.out, HR.out, HS.out] | rw [HN.out, HS.out]); (unfold letK; simp [*, TrimM.small])), rfl⟩
                  · go_wp2_with (first | (go_at_call 95; refine (isSmall_any _ _).mono ?_; rintro e w' ⟨rfl, rfl⟩) | (go_at_call 96; refine (isDigit_any _ _).mono ?_; rintro e w' ⟨rfl, rfl⟩) | (go_at_call 102; refine (rdigit_any _ _).mono ?_; rintro e w' ⟨rfl, rfl⟩))
                    go_round
                    case rel => exact ⟨k + 1, by omega, by first | rfl | go_num, by rw [HR.out, HS.out]; unfold letK; simp [*, TrimM.small]⟩
                    case measure => simp [intOf]; omega
          · have p1 : decide ((97 : Int) ≤ (s[k].toNat : Int)) = false := decide_eq_false (by omega)
            by_cases hz : k = 0
            · subst hz
              go_wp2_with (first | (go_at_call 95; refine (isSmall_any _ _).mono ?_; rintro e w' ⟨rfl, rfl⟩) | (go_at_call 96; refine (isDigit_any _ _).mono ?_; rintro e w' ⟨rfl, rfl⟩) | (go_at_call 102; refine (rdigit_any _ _).mono ?_; rintro e w' ⟨rfl, rfl⟩))
              go_ret
              exact ⟨ret_bool (by (first | rw [HN.out, HR.out, HS.out] | rw [HN.out, HS.out]); (unfold letK; simp [*, TrimM.small])), rfl⟩
            · have z1 : ((k : Int) == 0) = false := by rw [beq_eq_false_iff_ne]; omega
              have z2 : (k != 0) = true := by simp; omega
              by_cases g3 : s[k].toNat = 95
              · have g5 : ((s[k].toNat : Int) != 95) = false := bne_eq_false_iff_eq.2 (by omega)
                go_wp2_with (first | (go_at_call 95; refine (isSmall_any _ _).mono ?_; rintro e w' ⟨rfl, rfl⟩) | (go_at_call 96; refine (isDigit_any _ _).mono ?_; rintro e w' ⟨rfl, rfl⟩) | (go_at_call 102; refine (rdigit_any _ _).mono ?_; rintro e w' ⟨rfl, rfl⟩))
                go_round
                case rel => exact ⟨k + 1, by omega, by first | rfl | go_num, by rw [HR.out, HS.out]; unfold letK; simp [*, TrimM.small]⟩
                case measure => simp [intOf]; omega
              · have g5 : ((s[k].toNat : Int) != 95) = true := by simp; omega
                rcases g2 : digit s[k] with _ | _
                · go_wp2_with (first | (go_at_call 95; refine (isSmall_any _ _).mono ?_; rintro e w' ⟨rfl, rfl⟩) | (go_at_call 96; refine (isDigit_any _ _).mono ?_; rintro e w' ⟨rfl, rfl⟩) | (go_at_call 102; refine (rdigit_any _ _).mono ?_; rintro e w' ⟨rfl, rfl⟩))
                  go_ret
                  exact ⟨ret_bool (by (first | rw [HN.out, HR.out, HS.out] | rw [HN.out, HS.out]); (unfold letK; simp [*, TrimM.small])), rfl⟩
                · go_wp2_with (first | (go_at_call 95; refine (isSmall_any _ _).mono ?_; rintro e w' ⟨rfl, rfl⟩) | (go_at_call 96; refine (isDigit_any _ _).mono ?_; rintro e w' ⟨rfl, rfl⟩) | (go_at_call 102; refine (rdigit_any _ _).mono ?_; rintro e w' ⟨rfl, rfl⟩))
                  go_round
                  case rel => exact ⟨k + 1, by omega, by first | rfl | go_num, by rw [HR.out, HS.out]; unfold letK; simp [*, TrimM.small]⟩
                  case measure => simp [intOf]; omega
        · have HE := Lib.hid (from_end s (k := k) (by omega))
          go_wp2_with fail
          go_ret
          exact ⟨ret_bool (by rw [HN.out, HR.out, HE.out]), rfl⟩
    · have q2 : decide (16 < s.size) = true := decide_eq_true (by omega)
      have HN := Lib.hid (nameL_eq s h0)
      have q3 : decide (s.size ≤ 16) = false := decide_eq_false (by omega)
      go_enter Tryz.func89, Tryz.ntmps89
      go_wp2_with fail
      go_ret
      exact ⟨ret_bool (by rw [HN.out, q3]; simp), rfl⟩
  · have hn : nameL s.data.toList = false := by
      have : s.data.toList = [] := List.eq_nil_of_length_eq_zero (by have h8 := Array.length_toList (xs := s.data); have h9 : s.data.size = s.size := rfl; omega)
      rw [this]; rfl
    have HN := Lib.hid hn
    have q1 : decide (s.size < 1) = true := decide_eq_true (by omega)
    clear hn
    go_enter Tryz.func89, Tryz.ntmps89
    go_wp2_with fail
    go_ret
    exact ⟨ret_bool HN.out.symm, rfl⟩
end Go.Proofs.YtdalbfanfbeckaaGreatDoor
end
/-
  Chapter 26: the green size of a product.
-/
section
set_option linter.unusedVariables false
set_option linter.unusedSimpArgs false
namespace Go.Proofs.YtdalbfanfbeckaaGreatDoor
open Go.RowKit TrimM

attribute [local go_sem] ExtOf.cell ExtOf.frozen Block.cell Block.frozen ExtB.cell ExtB.frozen alloc_cell alloc_frozen
theorem ret_two {k : IntKind} {a b c d : Int} (h : a = b) (h' : c = d) : Ending.returned (.tuple #[.int k a, .int k c]) = .returned (.tuple #[.int k b, .int k d]) := by rw [h, h']
def isz (n : Int) : Bool := decide (1 ≤ n ∧ n ≤ 600)
def grw (n a : Int) : Int := (n * (1000 + a) + 999) / 1000
def szd (th wi : Int) : Bool := decide (1 ≤ th ∧ th ≤ 600 ∧ 1 ≤ wi ∧ wi ≤ 600)
def okG (th wi al : Int) : Bool := decide (1 ≤ th ∧ th ≤ 600 ∧ 1 ≤ wi ∧ wi ≤ 600 ∧ 0 ≤ al ∧ al ≤ 200)
def grT (th wi al : Int) : Int := if okG th wi al = true then grw th al else 0
def grW (th wi al : Int) : Int := if okG th wi al = true then grw wi al else 0

set_option maxHeartbeats 400000 in
theorem issize_any (n : Int) (w : World) :
    Calls Tryz.prog 77 #[.int .i64 n] w fun e w' => e = .returned (.bool (isz n)) ∧ ∃ n : ExtOf w, w' = n.val := by
  go_enter Tryz.func77, Tryz.ntmps77
  go_wp2
  all_goals
    go_ret
    refine ⟨ret_bool ?_, ?_⟩
    · simp [isz, *]; try omega
    · exact ExtOf.of (by repeat' (first | (with_reducible exact Ext.refl _) | (with_reducible exact ExtOf.ext _) | (with_reducible refine Ext.trans ?_ (ExtOf.ext _)) | (with_reducible refine Ext.alloc ?_ _) | (with_reducible refine Ext.drew ?_) | (with_reducible refine Ext.setCell ?_ ?_ _) | (with_reducible refine Ext.setRow ?_ ?_ _) | (with_reducible exact HX.out) | (with_reducible refine Ext.trans ?_ HX.out) | (with_reducible refine Ext.below ?_ (Nat.le_refl _) _) | omega | (simp; done) | (simp; omega)))

set_option maxHeartbeats 400000 in
theorem rsized_any (nm : ByteArray) (th wi al wa : Int) (lv pv : Value) (w : World) :
    Calls Tryz.prog 103 #[.agg #[.string nm, .int .i64 th, .int .i64 wi, .int .i64 al, .int .i64 wa, lv, pv]] w fun e w' => e = .returned (.bool (szd th wi)) ∧ ∃ n : ExtOf w, w' = n.val := by
  go_enter Tryz.func103, Tryz.ntmps103
  go_wp2
  all_goals
    go_ret
    refine ⟨ret_bool ?_, ?_⟩
    · simp [szd, *]; try omega
    · exact ExtOf.of (by repeat' (first | (with_reducible exact Ext.refl _) | (with_reducible exact ExtOf.ext _) | (with_reducible refine Ext.trans ?_ (ExtOf.ext _)) | (with_reducible refine Ext.alloc ?_ _) | (with_reducible refine Ext.drew ?_) | (with_reducible refine Ext.setCell ?_ ?_ _) | (with_reducible refine Ext.setRow ?_ ?_ _) | (with_reducible exact HX.out) | (with_reducible refine Ext.trans ?_ HX.out) | (with_reducible refine Ext.below ?_ (Nat.le_refl _) _) | omega | (simp; done) | (simp; omega)))

theorem grw_nn (n a : Int) (h1 : 1 ≤ n) (h2 : n ≤ 600) (h3 : 0 ≤ a) (h4 : a ≤ 200) : 0 ≤ n * (1000 + a) ∧ n * (1000 + a) ≤ 720000 := by
  have e1 : 0 ≤ n * (1000 + a) := Int.mul_nonneg (by omega) (by omega)
  have e2 : n * (1000 + a) ≤ 600 * 1200 := Int.mul_le_mul h2 (by omega) (by omega) (by omega)
  omega

set_option maxHeartbeats 400000 in
theorem grow_any (n a : Int) (w : World) (h1 : 1 ≤ n) (h2 : n ≤ 600) (h3 : 0 ≤ a) (h4 : a ≤ 200) :
    Calls Tryz.prog 78 #[.int .i64 n, .int .i64 a] w fun e w' => e = .returned (.int .i64 (grw n a)) ∧ ∃ n : ExtOf w, w' = n.val := by
  obtain ⟨g1, g2⟩ := grw_nn n a h1 h2 h3 h4
  go_enter Tryz.func78, Tryz.ntmps78
  go_wp2
  go_ret
  refine ⟨rfl, ?_⟩
  exact ExtOf.of (by repeat' (first | (with_reducible exact Ext.refl _) | (with_reducible exact ExtOf.ext _) | (with_reducible refine Ext.trans ?_ (ExtOf.ext _)) | (with_reducible refine Ext.alloc ?_ _) | (with_reducible refine Ext.drew ?_) | (with_reducible refine Ext.setCell ?_ ?_ _) | (with_reducible refine Ext.setRow ?_ ?_ _) | (with_reducible exact HX.out) | (with_reducible refine Ext.trans ?_ HX.out) | (with_reducible refine Ext.below ?_ (Nat.le_refl _) _) | omega | (simp; done) | (simp; omega)))

set_option maxHeartbeats 800000 in
theorem green_any (nm : ByteArray) (th wi al wa : Int) (lv pv : Value) (w : World) :
    Calls Tryz.prog 54 #[.agg #[.string nm, .int .i64 th, .int .i64 wi, .int .i64 al, .int .i64 wa, lv, pv]] w fun e w' => e = .returned (.tuple #[.int .i64 (grT th wi al), .int .i64 (grW th wi al)]) ∧ ∃ n : ExtOf w, w' = n.val := by
  by_cases h : okG th wi al = true
  · have hz : 1 ≤ th ∧ th ≤ 600 ∧ 1 ≤ wi ∧ wi ≤ 600 ∧ 0 ≤ al ∧ al ≤ 200 := by simpa [okG] using h
    have eT : grT th wi al = grw th al := by simp [grT, h]
    have eW : grW th wi al = grw wi al := by simp [grW, h]
    obtain ⟨z1, z2, z3, z4, z5, z6⟩ := hz
    have i1 : isz th = true := by simp [isz]; omega
    have i2 : isz wi = true := by simp [isz]; omega
    rw [eT, eW]; clear eT eW h
    go_enter Tryz.func54, Tryz.ntmps54
    go_wp2_with (first | (go_at_call 77; refine (issize_any _ _).mono ?_; rintro e w' ⟨rfl, n, rfl⟩))
    refine wp_region_ext (by kernel_rfl) (by kernel_rfl) ?_
    repeat (first | go_big_quiet_skip | go_big_quiet_step ((go_at_call 78; exact ext_call (grow_any _ _ _ (by omega) (by omega) (by omega) (by omega)))))
    refine wpQuiet_nil ?_
    intro _ hw'
    obtain ⟨nq, hw''⟩ := hw'
    subst hw''
    go_wp2
    go_ret2
    refine ⟨ret_two rfl rfl, ?_⟩
    exact ExtOf.of (by repeat' (first | (with_reducible exact Ext.refl _) | (with_reducible exact ExtOf.ext _) | (with_reducible refine Ext.trans ?_ (ExtOf.ext _)) | (with_reducible refine Ext.alloc ?_ _) | (with_reducible refine Ext.drew ?_) | (with_reducible refine Ext.setCell ?_ ?_ _) | (with_reducible refine Ext.setRow ?_ ?_ _) | (with_reducible exact HX.out) | (with_reducible refine Ext.trans ?_ HX.out) | (with_reducible refine Ext.below ?_ (Nat.le_refl _) _) | omega | (simp; done) | (simp; omega)))
  · have eT : grT th wi al = 0 := by simp [grT, h]
    have eW : grW th wi al = 0 := by simp [grW, h]
    rw [eT, eW]; clear eT eW
    have h' : ¬ (1 ≤ th ∧ th ≤ 600 ∧ 1 ≤ wi ∧ wi ≤ 600 ∧ 0 ≤ al ∧ al ≤ 200) := by simpa [okG] using h
    clear h
    rcases hi : isz th with _ | _
    · go_enter Tryz.func54, Tryz.ntmps54
      go_wp2_with (first | (go_at_call 77; refine (issize_any _ _).mono ?_; rintro e w' ⟨rfl, n, rfl⟩))
      go_ret2
      refine ⟨ret_two rfl rfl, ?_⟩
      exact ExtOf.of (by repeat' (first | (with_reducible exact Ext.refl _) | (with_reducible exact ExtOf.ext _) | (with_reducible refine Ext.trans ?_ (ExtOf.ext _)) | (with_reducible refine Ext.alloc ?_ _) | (with_reducible refine Ext.drew ?_) | (with_reducible refine Ext.setCell ?_ ?_ _) | (with_reducible refine Ext.setRow ?_ ?_ _) | (with_reducible exact HX.out) | (with_reducible refine Ext.trans ?_ HX.out) | (with_reducible refine Ext.below ?_ (Nat.le_refl _) _) | omega | (simp; done) | (simp; omega)))
    · rcases hj : isz wi with _ | _
      · go_enter Tryz.func54, Tryz.ntmps54
        go_wp2_with (first | (go_at_call 77; refine (issize_any _ _).mono ?_; rintro e w' ⟨rfl, n, rfl⟩))
        go_ret2
        refine ⟨ret_two rfl rfl, ?_⟩
        exact ExtOf.of (by repeat' (first | (with_reducible exact Ext.refl _) | (with_reducible exact ExtOf.ext _) | (with_reducible refine Ext.trans ?_ (ExtOf.ext _)) | (with_reducible refine Ext.alloc ?_ _) | (with_reducible refine Ext.drew ?_) | (with_reducible refine Ext.setCell ?_ ?_ _) | (with_reducible refine Ext.setRow ?_ ?_ _) | (with_reducible exact HX.out) | (with_reducible refine Ext.trans ?_ HX.out) | (with_reducible refine Ext.below ?_ (Nat.le_refl _) _) | omega | (simp; done) | (simp; omega)))
      · have hz : al < 0 ∨ 200 < al := by simp [isz] at hi hj; omega
        clear h'
        rcases hz with hz | hz
        · go_enter Tryz.func54, Tryz.ntmps54
          go_wp2_with (first | (go_at_call 77; refine (issize_any _ _).mono ?_; rintro e w' ⟨rfl, n, rfl⟩))
          go_ret2
          refine ⟨ret_two rfl rfl, ?_⟩
          exact ExtOf.of (by repeat' (first | (with_reducible exact Ext.refl _) | (with_reducible exact ExtOf.ext _) | (with_reducible refine Ext.trans ?_ (ExtOf.ext _)) | (with_reducible refine Ext.alloc ?_ _) | (with_reducible refine Ext.drew ?_) | (with_reducible refine Ext.setCell ?_ ?_ _) | (with_reducible refine Ext.setRow ?_ ?_ _) | (with_reducible exact HX.out) | (with_reducible refine Ext.trans ?_ HX.out) | (with_reducible refine Ext.below ?_ (Nat.le_refl _) _) | omega | (simp; done) | (simp; omega)))
        · have hz' : decide (al < 0) = false := by simp; omega
          go_enter Tryz.func54, Tryz.ntmps54
          go_wp2_with (first | (go_at_call 77; refine (issize_any _ _).mono ?_; rintro e w' ⟨rfl, n, rfl⟩))
          go_ret2
          refine ⟨ret_two rfl rfl, ?_⟩
          exact ExtOf.of (by repeat' (first | (with_reducible exact Ext.refl _) | (with_reducible exact ExtOf.ext _) | (with_reducible refine Ext.trans ?_ (ExtOf.ext _)) | (with_reducible refine Ext.alloc ?_ _) | (with_reducible refine Ext.drew ?_) | (with_reducible refine Ext.setCell ?_ ?_ _) | (with_reducible refine Ext.setRow ?_ ?_ _) | (with_reducible exact HX.out) | (with_reducible refine Ext.trans ?_ HX.out) | (with_reducible refine Ext.below ?_ (Nat.le_refl _) _) | omega | (simp; done) | (simp; omega)))

set_option maxHeartbeats 800000 in
theorem rgreen_any (nm : ByteArray) (th wi al wa : Int) (lv pv : Value) (w : World) :
    Calls Tryz.prog 90 #[.agg #[.string nm, .int .i64 th, .int .i64 wi, .int .i64 al, .int .i64 wa, lv, pv]] w fun e w' => e = .returned (.tuple #[.int .i64 (grT th wi al), .int .i64 (grW th wi al)]) ∧ ∃ n : ExtOf w, w' = n.val := by
  by_cases h : okG th wi al = true
  · have hz : 1 ≤ th ∧ th ≤ 600 ∧ 1 ≤ wi ∧ wi ≤ 600 ∧ 0 ≤ al ∧ al ≤ 200 := by simpa [okG] using h
    have eT : grT th wi al = grw th al := by simp [grT, h]
    have eW : grW th wi al = grw wi al := by simp [grW, h]
    obtain ⟨z1, z2, z3, z4, z5, z6⟩ := hz
    have i1 : szd th wi = true := by simp [szd]; omega
    obtain ⟨g1, g2⟩ := grw_nn th al z1 z2 z5 z6
    obtain ⟨g3, g4⟩ := grw_nn wi al z3 z4 z5 z6
    rw [eT, eW]; clear eT eW h
    go_enter Tryz.func90, Tryz.ntmps90
    go_wp2_with (first | ((with_reducible apply wl_load' lwPd); (· (first | exact wanted_none rfl | exact wanted_some rfl rfl rfl)); (· rfl); (· infer_instance); (· rfl)) | (go_at_call 103; refine (rsized_any _ _ _ _ _ _ _ _).mono ?_; rintro e w' ⟨rfl, n, rfl⟩))
    refine wp_region_ext (by kernel_rfl) (by kernel_rfl) ?_
    repeat (first | go_big_quiet_skip | go_big_quiet_step (fail))
    refine wpQuiet_nil ?_
    intro _ hw'
    obtain ⟨nq, hw''⟩ := hw'
    subst hw''
    go_wp2
    go_ret2
    refine ⟨ret_two rfl rfl, ?_⟩
    exact ExtOf.of (by repeat' (first | (with_reducible exact Ext.refl _) | (with_reducible exact ExtOf.ext _) | (with_reducible refine Ext.trans ?_ (ExtOf.ext _)) | (with_reducible refine Ext.alloc ?_ _) | (with_reducible refine Ext.drew ?_) | (with_reducible refine Ext.setCell ?_ ?_ _) | (with_reducible refine Ext.setRow ?_ ?_ _) | (with_reducible exact HX.out) | (with_reducible refine Ext.trans ?_ HX.out) | (with_reducible refine Ext.below ?_ (Nat.le_refl _) _) | omega | (simp; done) | (simp; omega)))
  · have eT : grT th wi al = 0 := by simp [grT, h]
    have eW : grW th wi al = 0 := by simp [grW, h]
    rw [eT, eW]; clear eT eW
    have h' : ¬ (1 ≤ th ∧ th ≤ 600 ∧ 1 ≤ wi ∧ wi ≤ 600 ∧ 0 ≤ al ∧ al ≤ 200) := by simpa [okG] using h
    clear h
    rcases hi : szd th wi with _ | _
    · go_enter Tryz.func90, Tryz.ntmps90
      go_wp2_with (first | ((with_reducible apply wl_load' lwPd); (· (first | exact wanted_none rfl | exact wanted_some rfl rfl rfl)); (· rfl); (· infer_instance); (· rfl)) | (go_at_call 103; refine (rsized_any _ _ _ _ _ _ _ _).mono ?_; rintro e w' ⟨rfl, n, rfl⟩))
      go_ret2
      refine ⟨ret_two rfl rfl, ?_⟩
      exact ExtOf.of (by repeat' (first | (with_reducible exact Ext.refl _) | (with_reducible exact ExtOf.ext _) | (with_reducible refine Ext.trans ?_ (ExtOf.ext _)) | (with_reducible refine Ext.alloc ?_ _) | (with_reducible refine Ext.drew ?_) | (with_reducible refine Ext.setCell ?_ ?_ _) | (with_reducible refine Ext.setRow ?_ ?_ _) | (with_reducible exact HX.out) | (with_reducible refine Ext.trans ?_ HX.out) | (with_reducible refine Ext.below ?_ (Nat.le_refl _) _) | omega | (simp; done) | (simp; omega)))
    · have hz : al < 0 ∨ 200 < al := by simp [szd] at hi; omega
      clear h'
      rcases hz with hz | hz
      · go_enter Tryz.func90, Tryz.ntmps90
        go_wp2_with (first | ((with_reducible apply wl_load' lwPd); (· (first | exact wanted_none rfl | exact wanted_some rfl rfl rfl)); (· rfl); (· infer_instance); (· rfl)) | (go_at_call 103; refine (rsized_any _ _ _ _ _ _ _ _).mono ?_; rintro e w' ⟨rfl, n, rfl⟩))
        go_ret2
        refine ⟨ret_two rfl rfl, ?_⟩
        exact ExtOf.of (by repeat' (first | (with_reducible exact Ext.refl _) | (with_reducible exact ExtOf.ext _) | (with_reducible refine Ext.trans ?_ (ExtOf.ext _)) | (with_reducible refine Ext.alloc ?_ _) | (with_reducible refine Ext.drew ?_) | (with_reducible refine Ext.setCell ?_ ?_ _) | (with_reducible refine Ext.setRow ?_ ?_ _) | (with_reducible exact HX.out) | (with_reducible refine Ext.trans ?_ HX.out) | (with_reducible refine Ext.below ?_ (Nat.le_refl _) _) | omega | (simp; done) | (simp; omega)))
      · have hz' : decide (al < 0) = false := by simp; omega
        go_enter Tryz.func90, Tryz.ntmps90
        go_wp2_with (first | ((with_reducible apply wl_load' lwPd); (· (first | exact wanted_none rfl | exact wanted_some rfl rfl rfl)); (· rfl); (· infer_instance); (· rfl)) | (go_at_call 103; refine (rsized_any _ _ _ _ _ _ _ _).mono ?_; rintro e w' ⟨rfl, n, rfl⟩))
        go_ret2
        refine ⟨ret_two rfl rfl, ?_⟩
        exact ExtOf.of (by repeat' (first | (with_reducible exact Ext.refl _) | (with_reducible exact ExtOf.ext _) | (with_reducible refine Ext.trans ?_ (ExtOf.ext _)) | (with_reducible refine Ext.alloc ?_ _) | (with_reducible refine Ext.drew ?_) | (with_reducible refine Ext.setCell ?_ ?_ _) | (with_reducible refine Ext.setRow ?_ ?_ _) | (with_reducible exact HX.out) | (with_reducible refine Ext.trans ?_ HX.out) | (with_reducible refine Ext.below ?_ (Nat.le_refl _) _) | omega | (simp; done) | (simp; omega)))
theorem isz_sized (n : Int) : isz n = sized n := rfl
theorem okG_eq (p : Pdt) : (grT p.th p.wi p.al, grW p.th p.wi p.al) = TrimM.green p.th p.wi p.al := by
  unfold TrimM.green grT grW
  by_cases h : okG p.th p.wi p.al = true
  · have hz : 1 ≤ p.th ∧ p.th ≤ 600 ∧ 1 ≤ p.wi ∧ p.wi ≤ 600 ∧ 0 ≤ p.al ∧ p.al ≤ 200 := by simpa [okG] using h
    rw [if_pos h, if_pos h, if_pos (by simp [sized]; omega)]
    rfl
  · have hz : ¬ (1 ≤ p.th ∧ p.th ≤ 600 ∧ 1 ≤ p.wi ∧ p.wi ≤ 600 ∧ 0 ≤ p.al ∧ p.al ≤ 200) := by simpa [okG] using h
    rw [if_neg h, if_neg h, if_neg (by simp [sized]; omega)]
theorem green_p (p : Pdt) (lv pv : Value) (w : World) : Calls Tryz.prog 54 #[.agg (pdC p lv pv)] w fun e w' => e = .returned (.tuple #[.int .i64 (TrimM.green p.th p.wi p.al).1, .int .i64 (TrimM.green p.th p.wi p.al).2]) ∧ ∃ n : ExtOf w, w' = n.val := by
  rw [← okG_eq]; exact green_any _ _ _ _ _ _ _ _
theorem rgreen_p (p : Pdt) (lv pv : Value) (w : World) : Calls Tryz.prog 90 #[.agg (pdC p lv pv)] w fun e w' => e = .returned (.tuple #[.int .i64 (TrimM.green p.th p.wi p.al).1, .int .i64 (TrimM.green p.th p.wi p.al).2]) ∧ ∃ n : ExtOf w, w' = n.val := by
  rw [← okG_eq]; exact rgreen_any _ _ _ _ _ _ _ _
end Go.Proofs.YtdalbfanfbeckaaGreatDoor
end
