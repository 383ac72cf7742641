/-
  Chapter 61: several texts in one (MM, MN, MO, MP, MQ, MR, MS, MT, MU, MV, MW).
-/
import Derived.Test.YtjfohapnjnopfaaGreatDoorRows
import Derived.Lib.ItoaNum
import Derived.Lib.Repeat
/- Chapter 61, the plain part. -/
section
set_option linter.unusedVariables false
/-
  Chapter 61, the plain part: events, makers, families, histories.
-/
namespace RepM
structure Ev where
  kind : Int
  at_ : Int
  item : ByteArray
  of : ByteArray
  n : List Int
  text : ByteArray
/-- the first number of an event that makes boards -/
def first (e : Ev) : Option Int := if e.kind = 4 then some (e.n.getD 1 0) else if e.kind = 13 ∨ e.kind = 14 then some (e.n.getD 0 0) else none
def made (e : Ev) : Int := if e.kind = 13 then ((e.n.length : Int) - 1) / 2 else (e.n.length : Int) - 1
def makes (n : Int) (e : Ev) : Bool := match first e with
  | some f => decide (f ≤ n)
  | none => false
/-- the last event that makes a board -/
def maker (l : List Ev) (n : Int) : Option Ev := l.reverse.find? (makes n)
theorem maker_some {l : List Ev} {n : Int} {e : Ev} (h : maker l n = some e) : e ∈ l ∧ ∃ f, first e = some f ∧ f ≤ n := by
  unfold maker at h
  have h1 := List.find?_some h
  have h2 := List.mem_of_find?_eq_some h
  refine ⟨List.mem_reverse.1 h2, ?_⟩
  unfold makes at h1
  split at h1
  · rename_i f hf
    exact ⟨f, hf, of_decide_eq_true h1⟩
  · cases h1
section
variable (num : ByteArray → Int)
/-- the log of a board: the steps from a board to the one from which it was made -/
def logF (l : List Ev) : Nat → Int → Option ByteArray
  | 0, _ => none
  | k + 1, n => match maker l n with
    | none => none
    | some e => if e.kind = 4 then some e.item else if (first e).getD 0 + made e ≤ n ∨ (first e).getD 0 ≤ num e.item then none else logF l k (num e.item)
def log (l : List Ev) (n : Int) : Option ByteArray := logF num l (n.toNat + 1) n
theorem logF_stable (hn : ∀ s, 0 ≤ num s) (l : List Ev) : ∀ (k j : Nat) (n : Int), n.toNat < k → n.toNat < j → logF num l k n = logF num l j n
  | 0, _, _, h, _ => absurd h (Nat.not_lt_zero _)
  | _, 0, _, _, h => absurd h (Nat.not_lt_zero _)
  | k + 1, j + 1, n, h1, h2 => by
    unfold logF
    cases hm : maker l n with
    | none => rfl
    | some e =>
      simp only
      obtain ⟨_, f, hf, hfn⟩ := maker_some hm
      split
      · rfl
      · split
        · rfl
        · rename_i h4 h5
          rw [hf] at h5
          simp only [Option.getD_some, not_or, Int.not_le] at h5
          have := hn e.item
          exact logF_stable hn l k j (num e.item) (by omega) (by omega)
/-- one step of the way to the log -/
theorem log_step (hn : ∀ s, 0 ≤ num s) (l : List Ev) (n : Int) : log num l n = match maker l n with
    | none => none
    | some e => if e.kind = 4 then some e.item else if (first e).getD 0 + made e ≤ n ∨ (first e).getD 0 ≤ num e.item then none else log num l (num e.item) := by
  unfold log
  rw [logF]
  cases hm : maker l n with
  | none => rfl
  | some e =>
    simp only
    obtain ⟨_, f, hf, hfn⟩ := maker_some hm
    split
    · rfl
    · split
      · rfl
      · rename_i h4 h5
        rw [hf] at h5
        simp only [Option.getD_some, not_or, Int.not_le] at h5
        have := hn e.item
        exact logF_stable num hn l _ _ (num e.item) (by omega) (by omega)
/-- the board from which a board was made -/
def up (l : List Ev) (n : Int) : Option Int := match log num l n, maker l n with
  | some _, some e => if e.kind = 4 then none else some (num e.item)
  | _, _ => none
/-- pairs of numbers -/
def pairs : List Int → List (Int × Int)
  | a :: b :: l => (a, b) :: pairs l
  | _ => []
def packed (l : List Ev) (k : Int) : List Int := match l.find? fun e => decide (e.kind = 5) && decide (num e.item = k) with
  | some e => e.n
  | none => []
def shipped (l : List Ev) (i : Nat) (order : Int) : List Int := match (l.take i).reverse.find? fun e => decide (e.kind = 9) with
  | some e => ((pairs e.n).filter fun q => decide (q.1 = order)).map (·.2)
  | none => []
/-- the boards that an event packs, dries or ships together -/
def group (l : List Ev) (i : Nat) : List Int := match l[i]? with
  | none => []
  | some e => if e.kind = 5 then e.n
    else if e.kind = 6 then ((e.n.drop 2).take (e.n.getD 1 0).toNat).flatMap (packed num l)
    else if e.kind = 10 then shipped l i (num e.item)
    else []
/-- a set of numbers that holds a board and whatever hangs together with one of its boards -/
structure Closed (l : List Ev) (b : Int) (S : Int → Prop) : Prop where
  board : S b
  up : ∀ n m, S n → up num l n = some m → S m
  group : ∀ (i : Nat) (n m : Int), S n → n ∈ group num l i → m ∈ group num l i → S m
/-- the family: the least such set -/
def Fam (l : List Ev) (b : Int) (n : Int) : Prop := ∀ S, Closed num l b S → S n
theorem fam_closed (l : List Ev) (b : Int) : Closed num l b (Fam num l b) :=
  ⟨fun _ h => h.board, fun _ _ hn hu S h => h.up _ _ (hn S h) hu, fun _ _ _ hn h1 h2 S h => h.group _ _ _ (hn S h) h1 h2⟩
/-- whoever finds a closed set of members of the family has found the family -/
theorem fam_unique {l : List Ev} {b : Int} {S : Int → Prop} (hc : Closed num l b S) (hs : ∀ n, S n → Fam num l b n) (n : Int) : S n ↔ Fam num l b n := ⟨hs n, fun h => h S hc⟩
/-- the log's felling permit: the first felling of a log -/
def under (l : List Ev) (s : ByteArray) : Option ByteArray := (l.find? fun e => decide (e.kind = 2) && decide (e.item = s)).map (·.of)
def Logs (l : List Ev) (S : Int → Prop) (s : ByteArray) : Prop := ∃ n, S n ∧ log num l n = some s
def Permits (l : List Ev) (S : Int → Prop) (p : ByteArray) : Prop := ∃ s, Logs num l S s ∧ under l s = some p
def Orders (l : List Ev) (S : Int → Prop) (o : Int) : Prop := ∃ e ∈ l, e.kind = 9 ∧ ∃ q ∈ pairs e.n, S q.2 ∧ q.1 = o
/-- does an event, which assigns nothing, belong to the history? -/
def Keep (l : List Ev) (S : Int → Prop) (i : Nat) (e : Ev) : Prop :=
  (e.kind = 1 ∧ Permits num l S e.item) ∨ ((e.kind = 2 ∨ e.kind = 3 ∨ e.kind = 4) ∧ Logs num l S e.item) ∨ ((e.kind = 5 ∨ e.kind = 6 ∨ e.kind = 10) ∧ ∃ n ∈ group num l i, S n)
    ∨ ((e.kind = 7 ∨ e.kind = 13 ∨ e.kind = 14) ∧ S (num e.item)) ∨ (e.kind = 8 ∧ Orders l S (num e.item))
open Classical in
/-- the pairs of an assignment whose boards are in a set -/
noncomputable def pairsIn (S : Int → Prop) (n : List Int) : List Int := ((pairs n).filter fun q => decide (S q.2)).flatMap fun q => [q.1, q.2]
open Classical in
/-- the history, from the i-th event on; 'begun': an assignment has been kept -/
noncomputable def histF (l : List Ev) (S : Int → Prop) : Nat → Bool → List Ev → List Ev
  | _, _, [] => []
  | i, begun, e :: m =>
    if e.kind = 9 then
      (if begun || !(pairsIn S e.n).isEmpty then [{ e with n := pairsIn S e.n }] else []) ++ histF l S (i + 1) (begun || !(pairsIn S e.n).isEmpty) m
    else (if Keep num l S i e then [e] else []) ++ histF l S (i + 1) begun m
noncomputable def hist (l : List Ev) (b : Int) : List Ev := histF num l (Fam num l b) 0 false l
end
end RepM
namespace RepM
def capital (c : UInt8) : Bool := decide (65 ≤ c.toNat) && decide (c.toNat ≤ 90)
def digit (c : UInt8) : Bool := decide (48 ≤ c.toNat) && decide (c.toNat ≤ 57)
/-- the sum of the check letter -/
def sumF : Nat → Nat → List UInt8 → Nat
  | _, m, [] => m
  | i, m, c :: l => sumF (i + 1) ((m + (i + 1) * c.toNat) % 23) l
theorem sumF_lt : ∀ (l : List UInt8) (i m : Nat), m < 23 → sumF i m l < 23
  | [], _, _, h => h
  | c :: l, i, m, _ => by rw [sumF]; exact sumF_lt l _ _ (Nat.mod_lt _ (by omega))
def letter (l : List UInt8) : Nat := 65 + sumF 0 0 l
def valF : Int → List UInt8 → Int
  | n, [] => n
  | n, c :: l => valF (10 * n + ((c.toNat : Int) - 48)) l
/-- a code: a kind, six digits, a check letter -/
def okCode (l : List UInt8) : Bool := (l.take 1).all capital && ((l.drop 1).take 6).all digit && decide ((l.drop 7).map (·.toNat) = [letter (l.take 7)])
def codeOf (s : ByteArray) : Option (UInt8 × Int) :=
  if okCode s.data.toList then some ((s.data.toList)[0]?.getD 0, valF 0 ((s.data.toList.drop 1).take 6)) else none
def num (s : ByteArray) : Int := match codeOf s with
  | some q => q.2
  | none => 0
def isC (s : ByteArray) (k : UInt8) : Bool := match codeOf s with
  | some q => q.1 == k
  | none => false
theorem valF_range : ∀ (l : List UInt8) (n : Int) (k : Nat), l.all digit = true → 0 ≤ n → n < 10 ^ k → 0 ≤ valF n l ∧ valF n l < 10 ^ (k + l.length)
  | [], n, k, _, h0, h1 => ⟨h0, h1⟩
  | c :: l, n, k, h, h0, h1 => by
    simp only [List.all_cons, Bool.and_eq_true] at h
    have hd : 48 ≤ c.toNat ∧ c.toNat ≤ 57 := by simpa [digit] using h.1
    have e : (10 : Int) ^ (k + 1) = 10 ^ k * 10 := Int.pow_succ ..
    have := valF_range l (10 * n + ((c.toNat : Int) - 48)) (k + 1) h.2 (by omega) (by omega)
    rw [valF, List.length_cons, show k + (l.length + 1) = k + 1 + l.length by omega]
    exact this
theorem num_range (s : ByteArray) : 0 ≤ num s ∧ num s < 1000000 := by
  unfold num codeOf
  by_cases h : okCode s.data.toList = true
  · rw [if_pos h]
    simp only [okCode, Bool.and_eq_true] at h
    have := valF_range ((s.data.toList.drop 1).take 6) 0 0 h.1.2 (by omega) (by simp)
    have hl : ((s.data.toList.drop 1).take 6).length ≤ 6 := by rw [List.length_take]; omega
    refine ⟨this.1, ?_⟩
    have h2 : (10 : Int) ^ (0 + ((s.data.toList.drop 1).take 6).length) ≤ 1000000 := by
      generalize ((s.data.toList.drop 1).take 6).length = q at hl
      have : q = 0 ∨ q = 1 ∨ q = 2 ∨ q = 3 ∨ q = 4 ∨ q = 5 ∨ q = 6 := by omega
      rcases this with rfl | rfl | rfl | rfl | rfl | rfl | rfl <;> simp
    exact Int.lt_of_lt_of_le this.2 h2
  · rw [if_neg h]; simp
theorem num_nonneg (s : ByteArray) : 0 ≤ num s := (num_range s).1
end RepM
namespace RepM
/-- the letters of an event's two codes, 0 where there is none -/
def lettersOf (k : Int) : Nat × Nat :=
  if k = 1 then (80, 0) else if k = 2 then (76, 80) else if k = 3 then (76, 0) else if k = 4 then (76, 0) else if k = 5 then (75, 0) else if k = 6 then (67, 0) else if k = 7 then (66, 0)
  else if k = 8 then (79, 0) else if k = 10 then (79, 0) else if k = 13 then (66, 0) else if k = 14 then (66, 0) else (0, 0)
def isK (s : ByteArray) (k : Nat) : Bool := match codeOf s with
  | some q => decide (q.1.toNat = k)
  | none => false
def named (s : ByteArray) (k : Nat) : Bool := if k = 0 then decide (s.size = 0) else isK s k
def inNum (n : Int) : Bool := decide (-1099511627776 ≤ n) && decide (n ≤ 1099511627776)
def shapedF (k : Int) (n : List Int) : Bool :=
  if k = 1 then decide (n.length = 3) else if k = 4 then decide (2 ≤ n.length) else if k = 5 then true
  else if k = 6 then decide (2 ≤ n.length) && (decide (0 ≤ n.getD 1 0) && (decide (n.getD 1 0 ≤ (n.length : Int) - 2) && decide (((n.length : Int) - 2 - n.getD 1 0) % 3 = 0)))
  else if k = 7 then decide (n.length = 1) else if k = 9 then decide (n.length % 2 = 0) else if k = 11 then decide (n.length = 2) else if k = 13 then decide (n.length % 2 = 1) else if k = 14 then decide (1 ≤ n.length) else decide (n.length = 0)
/-- is it an event? -/
def okEv (e : Ev) : Bool := (decide (1 ≤ e.kind) && decide (e.kind ≤ 14)) && ((decide (0 ≤ e.at_) && decide (e.at_ ≤ 10000000)) && ((named e.item (lettersOf e.kind).1 && named e.of (lettersOf e.kind).2)
  && ((decide (e.n.length ≤ 600) && decide (e.text.size ≤ 16384)) && (e.n.all inNum && shapedF e.kind e.n))))
def counted (l : List Ev) : List Ev := l.filter okEv
end RepM
namespace RepM
/-- which numbers of elements fit a kind of events -/
inductive Shp where
  | ex (n : Int)
  | atl (n : Int)
  | odd (b : Bool)
  | dry
def Shp.ok : Shp → List Int → Bool
  | .ex k, n => decide ((n.length : Int) = k)
  | .atl k, n => decide (k ≤ (n.length : Int))
  | .odd b, n => decide ((n.length % 2 = 1) = (b = true))
  | .dry, n => decide (2 ≤ n.length) && (decide (0 ≤ n.getD 1 0) && (decide (n.getD 1 0 ≤ (n.length : Int) - 2) && decide (((n.length : Int) - 2 - n.getD 1 0) % 3 = 0)))
def shpOf (k : Int) : Shp :=
  if k = 1 then .ex 3 else if k = 4 then .atl 2 else if k = 5 then .atl 0 else if k = 6 then .dry else if k = 7 then .ex 1 else if k = 9 then .odd false else if k = 11 then .ex 2 else if k = 13 then .odd true else if k = 14 then .atl 1 else .ex 0
theorem shp_ok (k : Int) (n : List Int) : (shpOf k).ok n = shapedF k n := by
  unfold shpOf shapedF
  repeat' split
  all_goals first
    | rfl
    | (simp only [Shp.ok]; congr 1; apply propext; constructor <;> intro h <;> omega)
    | (simp only [Shp.ok]; simp; try omega)
/-- the names of the kinds -/
def nameOf (k : Int) : ByteArray :=
  if k = 1 then ⟨#[112, 101, 114, 109, 105, 116]⟩ else if k = 2 then ⟨#[102, 101, 108, 108]⟩ else if k = 3 then ⟨#[115, 99, 97, 110]⟩ else if k = 4 then ⟨#[115, 97, 119]⟩ else if k = 5 then ⟨#[112, 97, 99, 107]⟩
  else if k = 6 then ⟨#[100, 114, 121]⟩ else if k = 7 then ⟨#[103, 114, 97, 100, 101]⟩ else if k = 8 then ⟨#[111, 114, 100, 101, 114]⟩ else if k = 9 then ⟨#[97, 115, 115, 105, 103, 110]⟩ else if k = 10 then ⟨#[115, 104, 105, 112]⟩
  else if k = 11 then ⟨#[115, 101, 108, 108]⟩ else if k = 12 then ⟨#[102, 97, 105, 108]⟩ else if k = 13 then ⟨#[116, 114, 105, 109]⟩ else if k = 14 then ⟨#[114, 101, 115, 97, 119]⟩ else ⟨#[]⟩
end RepM
end
/- Chapter 61, the plain part. -/
section
set_option linter.unusedVariables false
namespace RepM
/-! what okEv says of an event -/
theorem ok_parts {e : Ev} (h : okEv e = true) : (1 ≤ e.kind ∧ e.kind ≤ 14) ∧ (0 ≤ e.at_ ∧ e.at_ ≤ 10000000) ∧ (named e.item (lettersOf e.kind).1 = true ∧ named e.of (lettersOf e.kind).2 = true) ∧ (e.n.length ≤ 600 ∧ e.text.size ≤ 16384) ∧ e.n.all inNum = true ∧ shapedF e.kind e.n = true := by
  simp only [okEv, Bool.and_eq_true, decide_eq_true_eq] at h
  exact ⟨h.1, h.2.1, h.2.2.1, h.2.2.2.1, h.2.2.2.2.1, h.2.2.2.2.2⟩
theorem ok_num {e : Ev} (h : okEv e = true) {i : Nat} (hi : i < e.n.length) : -1099511627776 ≤ e.n[i] ∧ e.n[i] ≤ 1099511627776 := by
  have := List.all_eq_true.1 (ok_parts h).2.2.2.2.1 e.n[i] (List.getElem_mem hi)
  simpa [inNum] using this
theorem ok_len {e : Ev} (h : okEv e = true) : e.n.length ≤ 600 := (ok_parts h).2.2.2.1.1
theorem ok_saw {e : Ev} (h : okEv e = true) (hk : e.kind = 4) : 2 ≤ e.n.length := by
  have := (ok_parts h).2.2.2.2.2
  rw [hk] at this
  simpa [shapedF] using this
theorem ok_trim {e : Ev} (h : okEv e = true) (hk : e.kind = 13) : e.n.length % 2 = 1 := by
  have := (ok_parts h).2.2.2.2.2
  rw [hk] at this
  simpa [shapedF] using this
theorem ok_resaw {e : Ev} (h : okEv e = true) (hk : e.kind = 14) : 1 ≤ e.n.length := by
  have := (ok_parts h).2.2.2.2.2
  rw [hk] at this
  simpa [shapedF] using this
theorem ok_assign {e : Ev} (h : okEv e = true) (hk : e.kind = 9) : e.n.length % 2 = 0 := by
  have := (ok_parts h).2.2.2.2.2
  rw [hk] at this
  simpa [shapedF] using this
theorem ok_dry {e : Ev} (h : okEv e = true) (hk : e.kind = 6) : 2 ≤ e.n.length ∧ 0 ≤ e.n.getD 1 0 ∧ e.n.getD 1 0 ≤ (e.n.length : Int) - 2 := by
  have := (ok_parts h).2.2.2.2.2
  rw [hk] at this
  simp [shapedF] at this
  exact ⟨this.1, this.2.1, by simpa using this.2.2.1⟩
theorem ok_pack {e : Ev} (h : okEv e = true) (hk : e.kind = 5) : isK e.item 75 = true := by
  have := (ok_parts h).2.2.1.1
  rw [hk] at this
  simpa [lettersOf, named] using this
/-- what a maker says -/
def mkT (e : Ev) : Int × Int × Bool := if e.kind = 4 then (e.n.getD 1 0, -1, true) else if e.kind = 13 then (e.n.getD 0 0, ((e.n.length : Int) - 1) / 2, true) else if e.kind = 14 then (e.n.getD 0 0, (e.n.length : Int) - 1, true) else (0, 0, false)
theorem mkT_first (e : Ev) : first e = if (mkT e).2.2 then some (mkT e).1 else none := by
  unfold first mkT
  by_cases h4 : e.kind = 4
  · simp [h4]
  · by_cases h13 : e.kind = 13
    · simp [h13]
    · by_cases h14 : e.kind = 14
      · simp [h14]
      · simp [h4, h13, h14]
theorem mkT_makes (e : Ev) (n : Int) : makes n e = ((mkT e).2.2 && decide ((mkT e).1 ≤ n)) := by
  unfold makes
  rw [mkT_first]
  cases h : (mkT e).2.2 <;> simp
theorem mkT_made {e : Ev} (h : (mkT e).2.2 = true) (h4 : e.kind ≠ 4) : (mkT e).2.1 = made e := by
  unfold mkT at h ⊢
  unfold made
  rw [if_neg h4] at h ⊢
  by_cases h13 : e.kind = 13
  · rw [if_pos h13, if_pos h13]
  · rw [if_neg h13] at h ⊢
    rw [if_neg h13]
    by_cases h14 : e.kind = 14
    · rw [if_pos h14]
    · rw [if_neg h14] at h; cases h
theorem mkT_range {e : Ev} (h : okEv e = true) : -1099511627776 ≤ (mkT e).1 ∧ (mkT e).1 ≤ 1099511627776 ∧ -1 ≤ (mkT e).2.1 ∧ (mkT e).2.1 ≤ 600 := by
  have hl := ok_len h
  unfold mkT
  by_cases h4 : e.kind = 4
  · have h2 := ok_saw h h4
    have := ok_num h (i := 1) (by omega)
    rw [if_pos h4]
    simp only [List.getD_eq_getElem?_getD, List.getElem?_eq_getElem (show 1 < e.n.length by omega), Option.getD_some]
    omega
  · rw [if_neg h4]
    by_cases h13 : e.kind = 13
    · have h2 := ok_trim h h13
      have := ok_num h (i := 0) (by omega)
      rw [if_pos h13]
      simp only [List.getD_eq_getElem?_getD, List.getElem?_eq_getElem (show 0 < e.n.length by omega), Option.getD_some]
      omega
    · rw [if_neg h13]
      by_cases h14 : e.kind = 14
      · have h2 := ok_resaw h h14
        have := ok_num h (i := 0) (by omega)
        rw [if_pos h14]
        simp only [List.getD_eq_getElem?_getD, List.getElem?_eq_getElem (show 0 < e.n.length by omega), Option.getD_some]
        omega
      · rw [if_neg h14]; simp
theorem maker_take {l : List Ev} {n : Int} {k : Nat} (h : k < l.length) : maker (l.take (k + 1)) n = if makes n l[k] then some l[k] else maker (l.take k) n := by
  unfold maker
  rw [List.take_succ_eq_append_getElem h, List.reverse_append, List.reverse_cons, List.reverse_nil, List.nil_append, List.singleton_append, List.find?_cons]
  cases makes n l[k] <;> rfl
/-- an index that stands for the maker -/
def MakR (l : List Ev) (n : Int) (k : Int) : Prop := (k = -1 ∧ maker l n = none) ∨ ∃ (i : Nat) (h : i < l.length), k = i ∧ maker l n = some l[i]
/-- an index that stands for the log -/
def OrgR (l : List Ev) (n : Int) (k : Int) : Prop := (k = -1 ∧ log num l n = none) ∨ ∃ (i : Nat) (h : i < l.length), k = i ∧ l[i].kind = 4 ∧ log num l n = some l[i].item
theorem log_none {l : List Ev} {n : Int} (h : maker l n = none) : log num l n = none := by rw [log_step num num_nonneg, h]
theorem log_saw {l : List Ev} {n : Int} {e : Ev} (h : maker l n = some e) (h4 : e.kind = 4) : log num l n = some e.item := by rw [log_step num num_nonneg, h]; simp only; rw [if_pos h4]
theorem log_stop {l : List Ev} {n : Int} {e : Ev} (h : maker l n = some e) (h4 : e.kind ≠ 4) (hs : (mkT e).2.1 ≤ n - (mkT e).1 ∨ (mkT e).1 ≤ num e.item) : log num l n = none := by
  rw [log_step num num_nonneg, h]
  simp only
  rw [if_neg h4, if_pos]
  obtain ⟨_, f, hf, _⟩ := maker_some h
  rw [mkT_first] at hf
  cases hc : (mkT e).2.2 with
  | false => rw [hc] at hf; cases hf
  | true =>
    rw [mkT_first, hc, ← mkT_made hc h4]
    simp only [if_true, Option.getD_some]
    omega
theorem log_next {l : List Ev} {n : Int} {e : Ev} (h : maker l n = some e) (h4 : e.kind ≠ 4) (h1 : ¬ (mkT e).2.1 ≤ n - (mkT e).1) (h2 : ¬ (mkT e).1 ≤ num e.item) : log num l n = log num l (num e.item) := by
  rw [log_step num num_nonneg, h]
  simp only
  rw [if_neg h4, if_neg]
  obtain ⟨_, f, hf, _⟩ := maker_some h
  rw [mkT_first] at hf
  cases hc : (mkT e).2.2 with
  | false => rw [hc] at hf; cases hf
  | true =>
    rw [mkT_first, hc, ← mkT_made hc h4]
    simp only [if_true, Option.getD_some]
    omega
theorem maker_mk {l : List Ev} {n : Int} {e : Ev} (h : maker l n = some e) : (mkT e).2.2 = true ∧ (mkT e).1 ≤ n := by
  obtain ⟨_, f, hf, hn⟩ := maker_some h
  rw [mkT_first] at hf
  cases hc : (mkT e).2.2 with
  | false => rw [hc] at hf; cases hf
  | true => rw [hc] at hf; simp at hf; exact ⟨rfl, by omega⟩
end RepM
end
/- Chapter 61, the plain part. -/
section
set_option linter.unusedVariables false
namespace RepM
theorem pairs_drop {l : List Int} {k : Nat} (h : k + 1 < l.length) : pairs (l.drop k) = (l[k], l[k + 1]) :: pairs (l.drop (k + 2)) := by
  rw [List.drop_eq_getElem_cons (by omega : k < l.length), List.drop_eq_getElem_cons h]
  rfl
theorem pairs_end {l : List Int} {k : Nat} (h : l.length ≤ k + 1) : pairs (l.drop k) = [] := by
  match hd : l.drop k with
  | [] => rfl
  | [a] => rfl
  | a :: b :: r =>
    have := congrArg List.length hd
    simp at this
    omega
/-- the pairs whose second numbers are in a list -/
def pairsB (s : List Int) (n : List Int) : List Int := ((pairs n).filter fun q => decide (q.2 ∈ s)).flatMap fun q => [q.1, q.2]
theorem pairsB_drop {s l : List Int} {k : Nat} (h : k + 1 < l.length) : pairsB s (l.drop k) = (if l[k + 1] ∈ s then [l[k], l[k + 1]] else []) ++ pairsB s (l.drop (k + 2)) := by
  unfold pairsB
  rw [pairs_drop h, List.filter_cons]
  by_cases c : l[k + 1] ∈ s
  · simp [c]
  · simp [c]
theorem pairsB_end {s l : List Int} {k : Nat} (h : l.length ≤ k + 1) : pairsB s (l.drop k) = [] := by unfold pairsB; rw [pairs_end h]; rfl
/-- the second numbers of the pairs whose first number is o -/
def ofO (o : Int) (n : List Int) : List Int := ((pairs n).filter fun q => decide (q.1 = o)).map (·.2)
theorem ofO_drop {o : Int} {l : List Int} {k : Nat} (h : k + 1 < l.length) : ofO o (l.drop k) = (if l[k] = o then [l[k + 1]] else []) ++ ofO o (l.drop (k + 2)) := by
  unfold ofO
  rw [pairs_drop h, List.filter_cons]
  by_cases c : l[k] = o
  · simp [c]
  · simp [c]
theorem ofO_end {o : Int} {l : List Int} {k : Nat} (h : l.length ≤ k + 1) : ofO o (l.drop k) = [] := by unfold ofO; rw [pairs_end h]; rfl
theorem pairs_len (l : List Int) : 2 * (pairs l).length ≤ l.length := by
  match l with
  | [] => simp [pairs]
  | [a] => simp [pairs]
  | a :: b :: r =>
    have := pairs_len r
    simp only [pairs, List.length_cons]
    omega
theorem ofO_len (o : Int) (l : List Int) : (ofO o l).length ≤ l.length := by
  unfold ofO
  rw [List.length_map]
  have := pairs_len l
  have := List.length_filter_le (fun q => decide (q.1 = o)) (pairs l)
  omega
theorem pairsB_len (s l : List Int) : (pairsB s l).length ≤ l.length := by
  have h : ∀ r : List (Int × Int), (r.flatMap fun q => [q.1, q.2]).length = 2 * r.length := by
    intro r
    induction r with
    | nil => rfl
    | cons a r ih => rw [List.flatMap_cons, List.length_append, ih]; simp; omega
  unfold pairsB
  rw [h]
  have := pairs_len l
  have := List.length_filter_le (fun q => decide (q.2 ∈ s)) (pairs l)
  omega
end RepM
namespace RepM
theorem packed_len {l : List Ev} (h : ∀ e ∈ l, e.n.length ≤ 600) (k : Int) : (packed num l k).length ≤ 600 := by
  unfold packed
  split
  · rename_i e he
    exact h e (List.mem_of_find?_eq_some he)
  · simp
/-- the packages that a drying names -/
def dryL (n : List Int) : List Int := (n.drop 2).take (n.getD 1 0).toNat
theorem dryL_get {n : List Int} (h2 : 2 ≤ n.length) (h0 : 0 ≤ n.getD 1 0) (h1 : n.getD 1 0 ≤ (n.length : Int) - 2) : (dryL n).length = (n.getD 1 0).toNat ∧ ∀ i (hi : i < (dryL n).length) (hj : 2 + i < n.length), (dryL n)[i] = n[2 + i] := by
  have e : (dryL n).length = (n.getD 1 0).toNat := by
    unfold dryL
    rw [List.length_take, List.length_drop]
    omega
  refine ⟨e, fun i hi hj => ?_⟩
  have h3 : (dryL n)[i]? = n[2 + i]? := by
    rw [e] at hi
    unfold dryL
    rw [List.getElem?_take_of_lt hi, List.getElem?_drop]
  rw [List.getElem?_eq_getElem hi, List.getElem?_eq_getElem hj] at h3
  exact Option.some.inj h3
theorem dried_step {l : List Ev} {d : List Int} {i : Nat} (h : i < d.length) : (d.take (i + 1)).flatMap (packed num l) = (d.take i).flatMap (packed num l) ++ packed num l d[i] := by
  rw [List.take_succ_eq_append_getElem h, List.flatMap_append]
  simp
theorem dried_len {l : List Ev} (h : ∀ e ∈ l, e.n.length ≤ 600) (d : List Int) : (d.flatMap (packed num l)).length ≤ 600 * d.length := by
  induction d with
  | nil => simp
  | cons a d ih =>
    rw [List.flatMap_cons, List.length_append, List.length_cons]
    have := packed_len h a
    omega
/-- the boards that the last assignment of a list gives to an order -/
def lastO (l : List Ev) (o : Int) : List Int := match l.reverse.find? fun e => decide (e.kind = 9) with
  | some e => ofO o e.n
  | none => []
theorem shipped_eq (l : List Ev) (i : Nat) (o : Int) : shipped l i o = lastO (l.take i) o := rfl
theorem lastO_take {l : List Ev} {o : Int} {k : Nat} (h : k < l.length) : lastO (l.take (k + 1)) o = if l[k].kind = 9 then ofO o l[k].n else lastO (l.take k) o := by
  unfold lastO
  rw [List.take_succ_eq_append_getElem h, List.reverse_append, List.reverse_cons, List.reverse_nil, List.nil_append, List.singleton_append, List.find?_cons]
  by_cases h9 : l[k].kind = 9
  · simp [h9]
  · simp [h9]
theorem lastO_len {l : List Ev} (h : ∀ e ∈ l, e.n.length ≤ 600) (o : Int) : (lastO l o).length ≤ 600 := by
  unfold lastO
  split
  · rename_i e he
    exact Nat.le_trans (ofO_len o e.n) (h e (List.mem_reverse.1 (List.mem_of_find?_eq_some he)))
  · simp
theorem group_len {l : List Ev} (h : ∀ e ∈ l, e.n.length ≤ 600) (i : Nat) : (group num l i).length ≤ 360000 := by
  unfold group
  split
  · simp
  · rename_i e he
    have hm := List.mem_of_getElem? he
    have := h e hm
    split
    · omega
    · split
      · have h2 := dried_len h (dryL e.n)
        have h3 : (dryL e.n).length ≤ 600 := by unfold dryL; rw [List.length_take, List.length_drop]; omega
        unfold dryL at h2 h3
        omega
      · split
        · rw [shipped_eq]
          have := lastO_len (l := l.take i) (fun e he => h e (List.mem_of_mem_take he)) (num e.item)
          omega
        · simp
end RepM
namespace RepM
theorem flat2_get (F : List (Int × Int)) : ∀ j : Nat, (F.flatMap fun q => [q.1, q.2])[2 * j]? = F[j]?.map (·.1) := by
  induction F with
  | nil => intro j; simp
  | cons a F ih =>
    intro j
    cases j with
    | zero => simp
    | succ j =>
      rw [List.flatMap_cons, show 2 * (j + 1) = 2 * j + 2 by omega]
      simp only [List.getElem?_cons_succ, List.cons_append, List.nil_append]
      exact ih j
theorem flat2_len (F : List (Int × Int)) : (F.flatMap fun q => [q.1, q.2]).length = 2 * F.length := by
  induction F with
  | nil => rfl
  | cons a F ih => rw [List.flatMap_cons, List.length_append, ih]; simp; omega
/-- the pairs of an event whose boards are in a list -/
def pairsF (s : List Int) (n : List Int) : List (Int × Int) := (pairs n).filter fun q => decide (q.2 ∈ s)
theorem pairsB_F (s n : List Int) : pairsB s n = (pairsF s n).flatMap fun q => [q.1, q.2] := rfl
/-- does an event assign a board of a list to an order? -/
def ordE (s : List Int) (o : Int) (e : Ev) : Bool := decide (e.kind = 9) && (pairsF s e.n).any fun q => decide (q.1 = o)
def orderedB (l : List Ev) (s : List Int) (o : Int) : Bool := l.any (ordE s o)
theorem orderedB_drop {l : List Ev} {s : List Int} {o : Int} {k : Nat} (h : k < l.length) : orderedB (l.drop k) s o = (ordE s o l[k] || orderedB (l.drop (k + 1)) s o) := by
  unfold orderedB
  rw [List.drop_eq_getElem_cons h, List.any_cons]
theorem anyF_drop {F : List (Int × Int)} {o : Int} {k : Nat} (h : k < F.length) : ((F.drop k).any fun q => decide (q.1 = o)) = (decide (F[k].1 = o) || (F.drop (k + 1)).any fun q => decide (q.1 = o)) := by
  rw [List.drop_eq_getElem_cons h, List.any_cons]
end RepM
namespace RepM
/-- does an event, which assigns nothing, belong to a history? -/
def partB (l : List Ev) (i : Nat) (s : List Int) (logs permits : List ByteArray → ByteArray → Bool) (L P : List ByteArray) (e : Ev) : Bool :=
  if e.kind = 1 then permits P e.item else if e.kind = 2 ∨ e.kind = 3 ∨ e.kind = 4 then logs L e.item
  else if e.kind = 5 ∨ e.kind = 6 ∨ e.kind = 10 then (group num l i).any fun n => decide (n ∈ s)
  else if e.kind = 7 ∨ e.kind = 13 ∨ e.kind = 14 then decide (num e.item ∈ s) else decide (e.kind = 8) && orderedB l s (num e.item)
end RepM
namespace RepM
/-- a list with those numbers of another one that it has not yet -/
def withL (a : List Int) : List Int → List Int
  | [] => a
  | n :: b => withL (if n ∈ a then a else a ++ [n]) b
theorem withL_step {a b : List Int} {k : Nat} (h : k < b.length) : withL a (b.drop k) = withL (if b[k] ∈ a then a else a ++ [b[k]]) (b.drop (k + 1)) := by
  rw [List.drop_eq_getElem_cons h]; rfl
theorem withL_len (b : List Int) : ∀ a : List Int, (withL a b).length ≤ a.length + b.length := by
  induction b with
  | nil => intro a; simp [withL]
  | cons n b ih =>
    intro a
    rw [withL]
    refine Nat.le_trans (ih _) ?_
    split
    · simp only [List.length_cons]; omega
    · simp only [List.length_append, List.length_cons, List.length_nil]; omega
theorem withL_mem {n : Int} (b : List Int) : ∀ a : List Int, n ∈ withL a b ↔ n ∈ a ∨ n ∈ b := by
  induction b with
  | nil => intro a; simp [withL]
  | cons x b ih =>
    intro a
    rw [withL, ih]
    by_cases h : x ∈ a
    · rw [if_pos h, List.mem_cons]
      exact ⟨fun h' => h'.elim .inl (fun h'' => .inr (.inr h'')), fun h' => h'.elim .inl (fun h'' => h''.elim (fun e => .inl (e ▸ h)) .inr)⟩
    · rw [if_neg h, List.mem_append, List.mem_cons, List.mem_cons]
      constructor
      · rintro ((h1 | h1 | h1) | h1)
        · exact .inl h1
        · exact .inr (.inl h1)
        · cases h1
        · exact .inr (.inr h1)
      · rintro (h1 | h1 | h1)
        · exact .inl (.inl h1)
        · exact .inl (.inr (.inl h1))
        · exact .inr h1
theorem withL_nodup (b : List Int) : ∀ a : List Int, a.Nodup → (withL a b).Nodup := by
  induction b with
  | nil => intro a h; exact h
  | cons x b ih =>
    intro a h
    rw [withL]
    refine ih _ ?_
    split
    · exact h
    · rename_i hx
      rw [List.nodup_append]
      refine ⟨h, by simp, fun y hy z hz => ?_⟩
      rw [List.mem_singleton] at hz
      subst hz
      exact fun e => hx (e ▸ hy)
theorem withL_prefix (b : List Int) : ∀ a : List Int, a <+: withL a b := by
  induction b with
  | nil => intro a; exact List.prefix_refl _
  | cons x b ih =>
    intro a
    rw [withL]
    split
    · exact ih _
    · exact List.IsPrefix.trans (List.prefix_append _ _) (ih _)
theorem nodup_le {l m : List Int} (h : l.Nodup) (hs : ∀ x ∈ l, x ∈ m) : l.length ≤ m.length := by
  induction l generalizing m with
  | nil => simp
  | cons a l ih =>
    rw [List.nodup_cons] at h
    have ha := hs a (List.mem_cons_self)
    have := ih (m := m.erase a) h.2 (fun x hx => by
      have hxa : x ≠ a := fun e => h.1 (e ▸ hx)
      exact (List.mem_erase_of_ne hxa).2 (hs x (List.mem_cons_of_mem _ hx)))
    rw [List.length_erase_of_mem ha] at this
    have hp : 0 < m.length := List.length_pos_of_mem ha
    rw [List.length_cons]; omega
end RepM
end
/- Chapter 61, the plain part. -/
section
set_option linter.unusedVariables false
namespace RepM
/-- all the numbers that a family can hold -/
def univ (l : List Ev) (b : Int) : List Int := b :: l.flatMap fun e => num e.item :: e.n
theorem univ_item {l : List Ev} {b : Int} {e : Ev} (h : e ∈ l) : num e.item ∈ univ l b := List.mem_cons_of_mem _ (List.mem_flatMap.2 ⟨e, h, List.mem_cons_self⟩)
theorem univ_n {l : List Ev} {b : Int} {e : Ev} (h : e ∈ l) {n : Int} (hn : n ∈ e.n) : n ∈ univ l b := List.mem_cons_of_mem _ (List.mem_flatMap.2 ⟨e, h, List.mem_cons_of_mem _ hn⟩)
theorem univ_len {l : List Ev} {b : Int} (h : ∀ e ∈ l, e.n.length ≤ 600) : (univ l b).length ≤ 1 + 601 * l.length := by
  unfold univ
  rw [List.length_cons]
  have : (l.flatMap fun e => num e.item :: e.n).length ≤ 601 * l.length := by
    induction l with
    | nil => simp
    | cons a l ih =>
      rw [List.flatMap_cons, List.length_append, List.length_cons, List.length_cons]
      have h1 := h a List.mem_cons_self
      have h2 := ih (fun e he => h e (List.mem_cons_of_mem _ he))
      omega
  omega
theorem pairs_mem {l : List Int} {q : Int × Int} (h : q ∈ pairs l) : q.1 ∈ l ∧ q.2 ∈ l := by
  match l with
  | [] => simp [pairs] at h
  | [a] => simp [pairs] at h
  | a :: b :: r =>
    rw [pairs, List.mem_cons] at h
    rcases h with rfl | h
    · simp
    · have := pairs_mem h
      exact ⟨by simp [this.1], by simp [this.2]⟩
theorem packed_mem {l : List Ev} {k n : Int} (h : n ∈ packed num l k) : ∃ e ∈ l, n ∈ e.n := by
  unfold packed at h
  split at h
  · rename_i e he
    exact ⟨e, List.mem_of_find?_eq_some he, h⟩
  · cases h
theorem group_mem {l : List Ev} {i : Nat} {n : Int} (h : n ∈ group num l i) : ∃ e ∈ l, n ∈ e.n := by
  unfold group at h
  split at h
  · cases h
  · rename_i e he
    have hm := List.mem_of_getElem? he
    split at h
    · exact ⟨e, hm, h⟩
    · split at h
      · obtain ⟨k, _, hk⟩ := List.mem_flatMap.1 h
        exact packed_mem hk
      · split at h
        · rw [shipped_eq] at h
          unfold lastO at h
          split at h
          · rename_i e' he'
            unfold ofO at h
            obtain ⟨q, hq, rfl⟩ := List.mem_map.1 h
            exact ⟨e', List.mem_of_mem_take (List.mem_reverse.1 (List.mem_of_find?_eq_some he')), (pairs_mem (List.mem_filter.1 hq).1).2⟩
          · cases h
        · cases h
theorem up_item {l : List Ev} {n m : Int} (h : up num l n = some m) : ∃ e ∈ l, m = num e.item := by
  unfold up at h
  split at h
  · rename_i e _ he
    split at h
    · cases h
    · exact ⟨e, (maker_some he).1, (Option.some.inj h).symm⟩
  · cases h
theorem univ_closed (l : List Ev) (b : Int) : Closed num l b (· ∈ univ l b) :=
  ⟨List.mem_cons_self, fun _ _ _ hu => by obtain ⟨e, he, rfl⟩ := up_item hu; exact univ_item he, fun _ _ _ _ _ hm => by obtain ⟨e, he, hn⟩ := group_mem hm; exact univ_n he hn⟩
theorem fam_univ {l : List Ev} {b n : Int} (h : Fam num l b n) : n ∈ univ l b := h _ (univ_closed l b)
theorem univ_wide {l : List Ev} {b : Int} (hb : -1099511627776 ≤ b ∧ b ≤ 1099511627776) (h : ∀ e ∈ l, okEv e = true) {n : Int} (hn : n ∈ univ l b) : -1099511627776 ≤ n ∧ n ≤ 1099511627776 := by
  rcases List.mem_cons.1 hn with rfl | hn
  · exact hb
  · obtain ⟨e, he, hn⟩ := List.mem_flatMap.1 hn
    rcases List.mem_cons.1 hn with rfl | hn
    · have := num_range e.item; omega
    · obtain ⟨i, hi, rfl⟩ := List.getElem_of_mem hn
      exact ok_num (h e he) hi
/-- what one step up is, by the indices of a maker and of an origin -/
theorem up_of_none {l : List Ev} {n : Int} (h : log num l n = none) : up num l n = none := by unfold up; rw [h]
theorem up_of_saw {l : List Ev} {n : Int} {e : Ev} (h : maker l n = some e) (h4 : e.kind = 4) : up num l n = none := by
  unfold up
  rw [h]
  cases log num l n with
  | none => rfl
  | some s => simp only; rw [if_pos h4]
theorem up_of {l : List Ev} {n : Int} {e : Ev} {s : ByteArray} (hl : log num l n = some s) (h : maker l n = some e) (h4 : e.kind ≠ 4) : up num l n = some (num e.item) := by
  unfold up
  rw [hl, h]
  simp only
  rw [if_neg h4]
theorem maker_of_log {l : List Ev} {n : Int} {s : ByteArray} (h : log num l n = some s) : ∃ e, maker l n = some e := by
  cases hm : maker l n with
  | none => rw [log_none hm] at h; cases h
  | some e => exact ⟨e, rfl⟩
/-- what is known of a part of a family -/
structure FamP (l : List Ev) (b : Int) (S : List Int) : Prop where
  nodup : S.Nodup
  mem : ∀ n ∈ S, Fam num l b n
  board : b ∈ S
theorem FamP.len {l : List Ev} {b : Int} {S : List Int} (h : FamP l b S) (hl : ∀ e ∈ l, e.n.length ≤ 600) : S.length ≤ 1 + 601 * l.length :=
  Nat.le_trans (nodup_le h.nodup (fun n hn => fam_univ (h.mem n hn))) (univ_len hl)
theorem FamP.one (l : List Ev) (b : Int) : FamP l b [b] := ⟨by simp, fun n hn => by rw [List.mem_singleton] at hn; subst hn; exact (fam_closed num l n).board, by simp⟩
theorem FamP.up {l : List Ev} {b : Int} {S : List Int} (h : FamP l b S) {n m : Int} (hn : n ∈ S) (hu : up num l n = some m) : FamP l b (withL S [m]) :=
  ⟨withL_nodup _ _ h.nodup, fun k hk => by
    rcases (withL_mem _ _).1 hk with hk | hk
    · exact h.mem k hk
    · rw [List.mem_singleton] at hk; subst hk; exact (fam_closed num l b).up _ _ (h.mem n hn) hu, (withL_mem _ _).2 (.inl h.board)⟩
theorem FamP.grp {l : List Ev} {b : Int} {S : List Int} (h : FamP l b S) {i : Nat} {n : Int} (hn : n ∈ S) (hg : n ∈ group num l i) : FamP l b (withL S (group num l i)) :=
  ⟨withL_nodup _ _ h.nodup, fun k hk => by
    rcases (withL_mem _ _).1 hk with hk | hk
    · exact h.mem k hk
    · exact (fam_closed num l b).group i _ _ (h.mem n hn) hg hk, (withL_mem _ _).2 (.inl h.board)⟩
theorem prefix_eq {a b : List Int} (h : a <+: b) (hl : b.length ≤ a.length) : a = b := List.IsPrefix.eq_of_length h (Nat.le_antisymm (List.IsPrefix.length_le h) hl)
end RepM
end
/- Chapter 61, the plain part. -/
section
set_option linter.unusedVariables false
namespace RepM
/-- the history, by lists of numbers, logs and permits -/
def histB (l : List Ev) (S : List Int) (part : Nat → Ev → Bool) : Nat → Bool → List Ev → List Ev
  | _, _, [] => []
  | i, begun, e :: m =>
    if e.kind = 9 then
      (if begun || !(pairsB S e.n).isEmpty then [{ e with n := pairsB S e.n }] else []) ++ histB l S part (i + 1) (begun || !(pairsB S e.n).isEmpty) m
    else (if part i e then [e] else []) ++ histB l S part (i + 1) begun m
theorem pairsIn_eq {S : List Int} {F : Int → Prop} (h : ∀ n, n ∈ S ↔ F n) (n : List Int) : pairsIn F n = pairsB S n := by
  unfold pairsIn pairsB
  congr 1
  apply List.filter_congr
  intro q _
  rw [decide_eq_decide]
  exact (h _).symm
theorem orders_eq {l : List Ev} {S : List Int} {F : Int → Prop} (h : ∀ n, n ∈ S ↔ F n) (o : Int) : orderedB l S o = true ↔ Orders l F o := by
  unfold orderedB Orders
  rw [List.any_eq_true]
  constructor
  · rintro ⟨e, he, ho⟩
    simp only [ordE, Bool.and_eq_true, decide_eq_true_eq, List.any_eq_true, pairsF, List.mem_filter] at ho
    obtain ⟨h9, q, ⟨hq, hs⟩, hqo⟩ := ho
    exact ⟨e, he, h9, q, hq, (h _).1 hs, hqo⟩
  · rintro ⟨e, he, h9, q, hq, hs, hqo⟩
    refine ⟨e, he, ?_⟩
    simp only [ordE, Bool.and_eq_true, decide_eq_true_eq, List.any_eq_true, pairsF, List.mem_filter]
    exact ⟨h9, q, ⟨hq, (h _).2 hs⟩, hqo⟩
theorem part_keep {l : List Ev} {S : List Int} {F : Int → Prop} {L P : List ByteArray} {mem : List ByteArray → ByteArray → Bool} (hm : ∀ a b, mem a b = true ↔ b ∈ a) (h : ∀ n, n ∈ S ↔ F n) (hL : ∀ s, s ∈ L ↔ Logs num l F s) (hP : ∀ s, s ∈ P ↔ Permits num l F s)
    (i : Nat) (e : Ev) : partB l i S mem mem L P e = true ↔ Keep num l F i e := by
  unfold partB Keep
  by_cases k1 : e.kind = 1
  · rw [if_pos k1, hm, hP]; simp [k1]
  · rw [if_neg k1]
    by_cases k2 : e.kind = 2 ∨ e.kind = 3 ∨ e.kind = 4
    · rw [if_pos k2, hm, hL]
      have n5 : ¬ (e.kind = 5 ∨ e.kind = 6 ∨ e.kind = 10) := by omega
      have n7 : ¬ (e.kind = 7 ∨ e.kind = 13 ∨ e.kind = 14) := by omega
      have n8 : ¬ e.kind = 8 := by omega
      simp only [k1, k2, n5, n7, n8, false_and, true_and, false_or, or_false]
    · rw [if_neg k2]
      by_cases k5 : e.kind = 5 ∨ e.kind = 6 ∨ e.kind = 10
      · rw [if_pos k5]
        have n7 : ¬ (e.kind = 7 ∨ e.kind = 13 ∨ e.kind = 14) := by omega
        have n8 : ¬ e.kind = 8 := by omega
        simp only [k1, k2, k5, n7, n8, false_and, true_and, false_or, or_false, List.any_eq_true, decide_eq_true_eq]
        constructor
        · rintro ⟨n, h1, h2⟩; exact ⟨n, h1, (h _).1 h2⟩
        · rintro ⟨n, h1, h2⟩; exact ⟨n, h1, (h _).2 h2⟩
      · rw [if_neg k5]
        by_cases k7 : e.kind = 7 ∨ e.kind = 13 ∨ e.kind = 14
        · rw [if_pos k7]
          have n8 : ¬ e.kind = 8 := by omega
          simp only [k1, k2, k5, k7, n8, false_and, true_and, false_or, or_false, decide_eq_true_eq, h]
        · rw [if_neg k7]
          simp only [k1, k2, k5, k7, false_and, false_or, Bool.and_eq_true, decide_eq_true_eq, orders_eq h]
theorem histB_eq {l : List Ev} {S : List Int} {F : Int → Prop} {part : Nat → Ev → Bool} (h : ∀ n, n ∈ S ↔ F n) (hp : ∀ i e, part i e = true ↔ Keep num l F i e) : ∀ (m : List Ev) (i : Nat) (bg : Bool), histB l S part i bg m = histF num l F i bg m
  | [], _, _ => rfl
  | e :: m, i, bg => by
    unfold histB histF
    rw [pairsIn_eq h]
    split
    · rw [histB_eq h hp m]
    · rw [histB_eq h hp m]
      congr 1
      by_cases c : part i e = true
      · rw [if_pos c, if_pos ((hp i e).1 c)]
      · rw [if_neg c, if_neg (fun d => c ((hp i e).2 d))]
/-- the error: no code of a board, no such board -/
def errOf (l : List Ev) (s : ByteArray) : Int := if isK s 66 then (if (log num (counted l) (num s)).isNone then 8 else 0) else 6
theorem errOf_zero {l : List Ev} {s : ByteArray} (h : errOf l s = 0) : isK s 66 = true ∧ ∃ g, log num (counted l) (num s) = some g := by
  unfold errOf at h
  split at h
  · rename_i hk
    split at h
    · cases h
    · rename_i hn
      refine ⟨hk, ?_⟩
      cases hg : log num (counted l) (num s) with
      | none => rw [hg] at hn; exact absurd rfl hn
      | some g => exact ⟨g, rfl⟩
  · cases h
/-- the history of a board -/
noncomputable def histOf (l : List Ev) (s : ByteArray) : List Ev := if errOf l s = 0 then hist num (counted l) (num s) else []
/-- the logs of a family, in a list -/
def logsL (l : List Ev) (S : List Int) : List ByteArray := S.filterMap (log num l)
def permL (l : List Ev) (L : List ByteArray) : List ByteArray := L.filterMap (under l)
theorem logsL_iff {l : List Ev} {S : List Int} {F : Int → Prop} (h : ∀ n, n ∈ S ↔ F n) (s : ByteArray) : s ∈ logsL l S ↔ Logs num l F s := by
  unfold logsL Logs
  rw [List.mem_filterMap]
  exact ⟨fun ⟨n, h1, h2⟩ => ⟨n, (h _).1 h1, h2⟩, fun ⟨n, h1, h2⟩ => ⟨n, (h _).2 h1, h2⟩⟩
theorem permL_iff {l : List Ev} {S : List Int} {F : Int → Prop} (h : ∀ n, n ∈ S ↔ F n) (s : ByteArray) : s ∈ permL l (logsL l S) ↔ Permits num l F s := by
  unfold permL Permits
  rw [List.mem_filterMap]
  exact ⟨fun ⟨n, h1, h2⟩ => ⟨n, (logsL_iff h n).1 h1, h2⟩, fun ⟨n, h1, h2⟩ => ⟨n, (logsL_iff h n).2 h1, h2⟩⟩
theorem logsL_take {l : List Ev} {S : List Int} {i : Nat} (h : i < S.length) : logsL l (S.take (i + 1)) = logsL l (S.take i) ++ (log num l S[i]).toList := by
  unfold logsL
  rw [List.take_succ_eq_append_getElem h, List.filterMap_append]
  congr 1
theorem permL_take {l : List Ev} {L : List ByteArray} {i : Nat} (h : i < L.length) : permL l (L.take (i + 1)) = permL l (L.take i) ++ (under l L[i]).toList := by
  unfold permL
  rw [List.take_succ_eq_append_getElem h, List.filterMap_append]
  congr 1
theorem logsL_len (l : List Ev) (S : List Int) : (logsL l S).length ≤ S.length := List.length_filterMap_le _ _
theorem permL_len (l : List Ev) (L : List ByteArray) : (permL l L).length ≤ L.length := List.length_filterMap_le _ _
theorem histB_drop {l : List Ev} {S : List Int} {part : Nat → Ev → Bool} {i : Nat} {bg : Bool} {m : List Ev} (h : i < m.length) : histB l S part i bg (m.drop i) = if m[i].kind = 9 then
      (if bg || !(pairsB S m[i].n).isEmpty then [{ m[i] with n := pairsB S m[i].n }] else []) ++ histB l S part (i + 1) (bg || !(pairsB S m[i].n).isEmpty) (m.drop (i + 1))
    else (if part i m[i] then [m[i]] else []) ++ histB l S part (i + 1) bg (m.drop (i + 1)) := by
  rw [List.drop_eq_getElem_cons h]; rfl
end RepM
end
/- Chapter 61, the plain part. -/
section
set_option linter.unusedVariables false
namespace RepM
theorem valF_append (l m : List UInt8) : ∀ a : Int, valF a (l ++ m) = valF (valF a l) m := by
  induction l with
  | nil => intro a; rfl
  | cons c l ih => intro a; rw [List.cons_append, valF, valF, ih]
theorem valF_pad (k : Nat) (l : List UInt8) : valF 0 (List.replicate k 48 ++ l) = valF 0 l := by
  induction k with
  | zero => rfl
  | succ k ih =>
    rw [List.replicate_succ, List.cons_append, valF]
    exact ih
theorem dig_ofNat : ∀ k : Fin 10, digit (UInt8.ofNat (48 + k.val)) = true ∧ (UInt8.ofNat (48 + k.val)).toNat = 48 + k.val := by decide
theorem dec_val (n : Nat) : valF 0 (Go.Lib.decDigits n) = n ∧ (Go.Lib.decDigits n).all digit = true := by
  induction n using Nat.strongRecOn with
  | _ n ih =>
    rw [Go.Lib.decDigits]
    split
    · rename_i h
      have := dig_ofNat ⟨n, h⟩
      simp only at this
      refine ⟨?_, ?_⟩
      · simp only [valF, this.2]; omega
      · simp only [List.all_cons, List.all_nil, this.1]; rfl
    · rename_i h
      have h1 := ih (n / 10) (by omega)
      have h2 := dig_ofNat ⟨n % 10, by omega⟩
      simp only at h2
      refine ⟨?_, ?_⟩
      · rw [valF_append, h1.1]
        simp only [valF, h2.2]
        omega
      · rw [List.all_append, h1.2]
        simp only [List.all_cons, List.all_nil, h2.1]; rfl
theorem dec_len : ∀ (f n : Nat), n < 10 ^ (f + 1) → (Go.Lib.decDigits n).length ≤ f + 1
  | 0, n, h => by rw [Go.Lib.decDigits, dif_pos (by omega)]; simp
  | f + 1, n, h => by
    rw [Go.Lib.decDigits]
    split
    · simp
    · rw [List.length_append]
      have := dec_len f (n / 10) (by rw [Nat.pow_succ] at h; omega)
      simp; omega
/-- six digits -/
def six (n : Nat) : List UInt8 := List.replicate (6 - (Go.Lib.decDigits n).length) 48 ++ Go.Lib.decDigits n
theorem six_ok {n : Nat} (h : n < 1000000) : (six n).length = 6 ∧ (six n).all digit = true ∧ valF 0 (six n) = n := by
  have hl := dec_len 5 n (by simpa using h)
  refine ⟨?_, ?_, ?_⟩
  · unfold six; rw [List.length_append, List.length_replicate]; omega
  · unfold six
    rw [List.all_append, (dec_val n).2, Bool.and_true]
    rw [List.all_eq_true]
    intro x hx
    rw [List.mem_replicate] at hx
    rw [hx.2]; rfl
  · unfold six; rw [valF_pad, (dec_val n).1]
/-- the code of an item -/
def mkL (k : UInt8) (n : Nat) : List UInt8 := (k :: six n) ++ [UInt8.ofNat (letter (k :: six n))]
def mkC (k : UInt8) (n : Nat) : ByteArray := ⟨(mkL k n).toArray⟩
theorem letter_range (l : List UInt8) : 65 ≤ letter l ∧ letter l < 88 := by
  have := sumF_lt l 0 0 (by omega)
  unfold letter; omega
theorem mkC_code {k : UInt8} {n : Nat} (hk : capital k = true) (h : n < 1000000) : codeOf (mkC k n) = some (k, (n : Int)) := by
  obtain ⟨h1, h2, h3⟩ := six_ok h
  have hlr := letter_range (k :: six n)
  have hlt : (UInt8.ofNat (letter (k :: six n))).toNat = letter (k :: six n) := by
    rw [UInt8.toNat_ofNat']; omega
  have hd : (mkC k n).data.toList = k :: (six n ++ [UInt8.ofNat (letter (k :: six n))]) := by
    unfold mkC mkL; simp
  have t1 : (k :: (six n ++ [UInt8.ofNat (letter (k :: six n))])).take 1 = [k] := by simp
  have t2 : ((k :: (six n ++ [UInt8.ofNat (letter (k :: six n))])).drop 1).take 6 = six n := by
    rw [List.drop_succ_cons, List.drop_zero, List.take_left' h1]
  have t3 : (k :: (six n ++ [UInt8.ofNat (letter (k :: six n))])).take 7 = k :: six n := by
    rw [show 7 = 6 + 1 from rfl, List.take_succ_cons, List.take_left' h1]
  have t4 : (k :: (six n ++ [UInt8.ofNat (letter (k :: six n))])).drop 7 = [UInt8.ofNat (letter (k :: six n))] := by
    rw [show 7 = 6 + 1 from rfl, List.drop_succ_cons, List.drop_left' h1]
  have hok : okCode (mkC k n).data.toList = true := by
    unfold okCode
    rw [hd, t1, t2, t3, t4, h2]
    simp [hk, hlt]
  unfold codeOf
  rw [if_pos hok, hd, t2, h3]
  rfl
theorem valF_inj : ∀ (l m : List UInt8) (a b : Int), l.length = m.length → l.all digit = true → m.all digit = true → valF a l = valF b m → a = b ∧ l = m
  | [], [], a, b, _, _, _, h => ⟨h, rfl⟩
  | c :: l, d :: m, a, b, hl, h1, h2, h => by
    simp only [List.all_cons, Bool.and_eq_true] at h1 h2
    rw [valF, valF] at h
    obtain ⟨e1, e2⟩ := valF_inj l m _ _ (by simpa using hl) h1.2 h2.2 h
    have hc : 48 ≤ c.toNat ∧ c.toNat ≤ 57 := by simpa [digit] using h1.1
    have hd : 48 ≤ d.toNat ∧ d.toNat ≤ 57 := by simpa [digit] using h2.1
    have e3 : c.toNat = d.toNat := by omega
    refine ⟨by omega, ?_⟩
    rw [e2, UInt8.toNat_inj.1 e3]
  | [], d :: m, _, _, hl, _, _, _ => by simp at hl
  | c :: l, [], _, _, hl, _, _, _ => by simp at hl
theorem okCode_parts {l : List UInt8} (h : okCode l = true) : l.length = 8 ∧ (l.take 1).all capital = true ∧ ((l.drop 1).take 6).all digit = true ∧ (l.drop 7).map (·.toNat) = [letter (l.take 7)] := by
  simp only [okCode, Bool.and_eq_true, decide_eq_true_eq] at h
  refine ⟨?_, h.1.1, h.1.2, h.2⟩
  have := congrArg List.length h.2
  simp at this
  omega
/-- kind and number determine a code -/
theorem code_inj {s t : ByteArray} {q : UInt8 × Int} (hs : codeOf s = some q) (ht : codeOf t = some q) : s = t := by
  have h1 : ∀ u : ByteArray, codeOf u = some q → okCode u.data.toList = true ∧ q = ((u.data.toList)[0]?.getD 0, valF 0 ((u.data.toList.drop 1).take 6)) := by
    intro u hu
    unfold codeOf at hu
    split at hu
    · rename_i hok
      exact ⟨hok, (Option.some.inj hu).symm⟩
    · cases hu
  obtain ⟨o1, e1⟩ := h1 s hs
  obtain ⟨o2, e2⟩ := h1 t ht
  obtain ⟨l1, _, d1, c1⟩ := okCode_parts o1
  obtain ⟨l2, _, d2, c2⟩ := okCode_parts o2
  rw [e1] at e2
  have hk := congrArg Prod.fst e2
  have hv := congrArg Prod.snd e2
  simp only at hk hv
  have hd := (valF_inj _ _ 0 0 (by simp [l1, l2]) d1 d2 hv).2
  have key : s.data.toList = t.data.toList := by
    generalize s.data.toList = a at *
    generalize t.data.toList = b at *
    match a, b, l1, l2 with
    | x0 :: a', y0 :: b', l1, l2 =>
      simp only [List.getElem?_cons_zero, Option.getD_some] at hk
      subst hk
      simp only [List.drop_succ_cons, List.drop_zero] at hd
      have t7 : (x0 :: a').take 7 = (x0 :: b').take 7 := by
        rw [show 7 = 6 + 1 from rfl, List.take_succ_cons, List.take_succ_cons, hd]
      have d7 : (x0 :: a').drop 7 = (x0 :: b').drop 7 := by
        rw [t7, ← c2] at c1
        exact (List.map_inj_right (fun _ _ h => UInt8.toNat_inj.1 h)).1 c1
      rw [← List.take_append_drop 7 (x0 :: a'), t7, d7, List.take_append_drop]
  obtain ⟨⟨a⟩⟩ := s
  obtain ⟨⟨b⟩⟩ := t
  simp at key
  rw [key]
theorem isK_codeOf {s : ByteArray} {k : UInt8} (h : isK s k.toNat = true) : codeOf s = some (k, num s) := by
  unfold isK at h
  unfold num
  cases hc : codeOf s with
  | none => rw [hc] at h; cases h
  | some q =>
    rw [hc] at h
    simp only [decide_eq_true_eq] at h
    rw [← UInt8.toNat_inj.1 h]
/-- an item of a kind is the code of its number -/
theorem code_iff {s : ByteArray} {k : UInt8} {n : Nat} (h : isK s k.toNat = true) (hk : capital k = true) (hn : n < 1000000) : s = mkC k n ↔ num s = n := by
  constructor
  · intro e
    rw [e]; unfold num; rw [mkC_code hk hn]
  · intro e
    refine code_inj (isK_codeOf h) ?_
    rw [mkC_code hk hn, e]
end RepM
end
/- Chapter 61, the plain part. -/
section
set_option linter.unusedVariables false
namespace RepM
/-- whoever is not yet known is added, and laid down -/
def addAll (F L : List Int) : List Int → List Int × List Int
  | [] => (F, L)
  | m :: r => if m ∈ F then addAll F L r else addAll (F ++ [m]) (L ++ [m]) r
theorem addAll_mem : ∀ (r F L : List Int) (x : Int), x ∈ (addAll F L r).1 ↔ x ∈ F ∨ x ∈ r
  | [], F, L, x => by simp [addAll]
  | m :: r, F, L, x => by
    unfold addAll
    by_cases h : m ∈ F
    · rw [if_pos h, addAll_mem r F L x]
      constructor
      · rintro (h1 | h1)
        · exact .inl h1
        · exact .inr (List.mem_cons_of_mem _ h1)
      · rintro (h1 | h1)
        · exact .inl h1
        · rcases List.mem_cons.1 h1 with rfl | h1
          · exact .inl h
          · exact .inr h1
    · rw [if_neg h, addAll_mem r _ _ x, List.mem_append, List.mem_singleton, List.mem_cons, or_assoc]
theorem addAll_left : ∀ (r F L : List Int) (x : Int), x ∈ (addAll F L r).1 → x ∈ F ∨ x ∈ (addAll F L r).2
  | [], F, L, x, h => .inl h
  | m :: r, F, L, x, h => by
    unfold addAll at h ⊢
    by_cases hm : m ∈ F
    · rw [if_pos hm] at h ⊢
      exact addAll_left r F L x h
    · rw [if_neg hm] at h ⊢
      rcases addAll_left r _ _ x h with h1 | h1
      · rcases List.mem_append.1 h1 with h1 | h1
        · exact .inl h1
        · right
          rw [List.mem_singleton] at h1
          subst h1
          exact addAll_keep r _ _ _ (by simp)
      · exact .inr h1
where
  addAll_keep : ∀ (r F L : List Int) (x : Int), x ∈ L → x ∈ (addAll F L r).2
    | [], F, L, x, h => h
    | m :: r, F, L, x, h => by
      unfold addAll
      by_cases hm : m ∈ F
      · rw [if_pos hm]; exact addAll_keep r F L x h
      · rw [if_neg hm]; exact addAll_keep r _ _ x (by simp [h])
theorem addAll_sub : ∀ (r F L : List Int) (x : Int), x ∈ (addAll F L r).2 → x ∈ L ∨ x ∈ (addAll F L r).1
  | [], F, L, x, h => .inl h
  | m :: r, F, L, x, h => by
    unfold addAll at h ⊢
    by_cases hm : m ∈ F
    · rw [if_pos hm] at h ⊢
      exact addAll_sub r F L x h
    · rw [if_neg hm] at h ⊢
      rcases addAll_sub r _ _ x h with h1 | h1
      · rcases List.mem_append.1 h1 with h1 | h1
        · exact .inl h1
        · right
          rw [List.mem_singleton] at h1
          subst h1
          rw [addAll_mem]
          exact .inl (by simp)
      · exact .inr h1
theorem addAll_nodup : ∀ (r F L : List Int), F.Nodup → (addAll F L r).1.Nodup
  | [], F, L, h => h
  | m :: r, F, L, h => by
    unfold addAll
    by_cases hm : m ∈ F
    · rw [if_pos hm]; exact addAll_nodup r F L h
    · rw [if_neg hm]
      refine addAll_nodup r _ _ ?_
      rw [List.nodup_append]
      refine ⟨h, by simp, fun a ha b hb => ?_⟩
      rw [List.mem_singleton] at hb
      subst hb
      intro e; subst e; exact hm ha
theorem addAll_len : ∀ (r F L : List Int), (addAll F L r).1.length + L.length = (addAll F L r).2.length + F.length
  | [], F, L => by simp [addAll]; omega
  | m :: r, F, L => by
    unfold addAll
    by_cases hm : m ∈ F
    · rw [if_pos hm]; exact addAll_len r F L
    · rw [if_neg hm]
      have := addAll_len r (F ++ [m]) (L ++ [m])
      simp only [List.length_append, List.length_singleton] at this
      omega
/-- the search for a family: what it has found, what it has still to look at, which groups it has seen -/
structure DfsI (l : List Ev) (b : Int) (F L : List Int) (gone : Nat → Bool) : Prop where
  p : FamP l b F
  left : ∀ n ∈ L, n ∈ F
  up : ∀ n ∈ F, n ∉ L → ∀ m, up num l n = some m → m ∈ F
  grp : ∀ n ∈ F, n ∉ L → ∀ i, n ∈ group num l i → gone i = true
  gone : ∀ i, gone i = true → ∀ m ∈ group num l i, m ∈ F
theorem DfsI.one (l : List Ev) (b : Int) : DfsI l b [b] [b] (fun _ => false) :=
  ⟨FamP.one l b, fun n h => h, fun n h h1 => absurd h h1, fun n h h1 => absurd h h1, fun i h => by cases h⟩
/-- what a board brings along: the board from which it was made, and the groups not yet seen that it is in -/
theorem DfsI.round {l : List Ev} {b : Int} {F L : List Int} {n : Int} {gone gone' : Nat → Bool} {more : List Int} (h : DfsI l b F (L ++ [n]) gone)
    (hu : ∀ m, RepM.up num l n = some m → m ∈ more) (hg : ∀ i, n ∈ group num l i → gone i = false → ∀ m ∈ group num l i, m ∈ more)
    (hm : ∀ m ∈ more, RepM.up num l n = some m ∨ ∃ i, n ∈ group num l i ∧ m ∈ group num l i) (hn : ∀ i, gone' i = true ↔ gone i = true ∨ n ∈ group num l i) :
    DfsI l b (addAll F L more).1 (addAll F L more).2 gone' := by
  have hnF : n ∈ F := h.left n (by simp)
  have hmem : ∀ x, x ∈ (addAll F L more).1 ↔ x ∈ F ∨ x ∈ more := addAll_mem more F L
  have hold : ∀ x ∈ (addAll F L more).1, x ∉ (addAll F L more).2 → x ∈ F ∧ (x = n ∨ x ∉ L ++ [n]) := by
    intro x hx hxl
    rcases addAll_left more F L x hx with h1 | h1
    · refine ⟨h1, ?_⟩
      by_cases e : x = n
      · exact .inl e
      · right
        intro h2
        rcases List.mem_append.1 h2 with h2 | h2
        · exact hxl (addAll_left.addAll_keep more F L x h2)
        · exact e (by simpa using h2)
    · exact absurd h1 hxl
  refine ⟨⟨addAll_nodup more F L h.p.nodup, fun x hx => ?_, (hmem b).2 (.inl h.p.board)⟩, fun x hx => ?_, fun x hx hxl m hu' => ?_, fun x hx hxl i hi => ?_, fun i hi m hmi => ?_⟩
  · rcases (hmem x).1 hx with h1 | h1
    · exact h.p.mem x h1
    · rcases hm x h1 with h2 | ⟨i, h2, h3⟩
      · exact (fam_closed num l b).up _ _ (h.p.mem n hnF) h2
      · exact (fam_closed num l b).group i _ _ (h.p.mem n hnF) h2 h3
  · rcases addAll_sub more F L x hx with h1 | h1
    · exact (hmem x).2 (.inl (h.left x (by simp [h1])))
    · exact h1
  · obtain ⟨h1, h2⟩ := hold x hx hxl
    rcases h2 with rfl | h2
    · exact (hmem m).2 (.inr (hu m hu'))
    · exact (hmem m).2 (.inl (h.up x h1 h2 m hu'))
  · obtain ⟨h1, h2⟩ := hold x hx hxl
    rcases h2 with rfl | h2
    · exact (hn i).2 (.inr hi)
    · exact (hn i).2 (.inl (h.grp x h1 h2 i hi))
  · rcases (hn i).1 hi with h1 | h1
    · exact (hmem m).2 (.inl (h.gone i h1 m hmi))
    · cases hgi : gone i with
      | true => exact (hmem m).2 (.inl (h.gone i hgi m hmi))
      | false => exact (hmem m).2 (.inr (hg i h1 hgi m hmi))
/-- nothing is left: the family has been found -/
theorem DfsI.done {l : List Ev} {b : Int} {F : List Int} {gone : Nat → Bool} (h : DfsI l b F [] gone) (n : Int) : n ∈ F ↔ Fam num l b n :=
  fam_unique num ⟨h.p.board, fun n m hn hu => h.up n hn (by simp) m hu, fun i n m hn hi hm => h.gone i (h.grp n hn (by simp) i hi) m hm⟩ h.p.mem n
theorem addAll_snoc : ∀ (r F L : List Int) (m : Int), addAll F L (r ++ [m]) = if m ∈ (addAll F L r).1 then addAll F L r else ((addAll F L r).1 ++ [m], (addAll F L r).2 ++ [m])
  | [], F, L, m => by
    show addAll F L [m] = _
    simp only [addAll]
    rfl
  | x :: r, F, L, m => by
    rw [List.cons_append]
    unfold addAll
    by_cases h : x ∈ F
    · rw [if_pos h, if_pos h]; exact addAll_snoc r F L m
    · rw [if_neg h, if_neg h]; exact addAll_snoc r _ _ m
/-- how much the groups not yet seen may still bring -/
def rest (n : Nat) (gone : Nat → Bool) : Nat := ((List.range n).map fun j => if gone j then 0 else 360000).sum
theorem rest_le (n : Nat) (gone : Nat → Bool) : rest n gone ≤ 360000 * n := by
  induction n with
  | zero => simp [rest]
  | succ n ih =>
    unfold rest at ih ⊢
    rw [List.range_succ, List.map_append, List.sum_append]
    simp only [List.map_cons, List.map_nil, List.sum_cons, List.sum_nil]
    split <;> omega
theorem rest_congr {n : Nat} {g g' : Nat → Bool} (h : ∀ j, j < n → g j = g' j) : rest n g = rest n g' := by
  unfold rest
  congr 1
  refine List.map_congr_left fun j hj => ?_
  rw [h j (List.mem_range.1 hj)]
theorem rest_set {n i : Nat} {g : Nat → Bool} (hi : i < n) (h : g i = false) : rest n (fun j => decide (j = i) || g j) + 360000 = rest n g := by
  induction n with
  | zero => omega
  | succ n ih =>
    have e : ∀ f : Nat → Bool, rest (n + 1) f = rest n f + if f n then 0 else 360000 := fun f => by
      unfold rest
      rw [List.range_succ, List.map_append, List.sum_append]
      simp
    rw [e, e]
    by_cases h1 : i = n
    · subst h1
      have := rest_congr (n := i) (g := fun j => decide (j = i) || g j) (g' := g) (fun j hj => by simp [Nat.ne_of_lt hj])
      rw [this]
      simp [h]
    · have := ih (by omega)
      have hn : (decide (n = i) || g n) = g n := by rw [decide_eq_false (fun e => h1 (Eq.symm e)), Bool.false_or]
      simp only [hn]
      omega
theorem rest_same {n i : Nat} {g : Nat → Bool} (h : g i = true) : rest n (fun j => decide (j = i) || g j) = rest n g :=
  rest_congr (fun j _ => by by_cases e : j = i <;> simp [e, h])
theorem least_ex {R : Nat → Prop} (h : ∃ k, R k) : ∃ k, R k ∧ ∀ j, R j → k ≤ j := by
  obtain ⟨k, hk⟩ := h
  induction k using Nat.strongRecOn with
  | _ k ih =>
    by_cases h : ∃ j, j < k ∧ R j
    · obtain ⟨j, hj, hr⟩ := h
      exact ih j hj hr
    · exact ⟨k, hk, fun j hj => Nat.le_of_not_lt fun hlt => h ⟨j, hlt, hj⟩⟩
open Classical in
/-- the least number of which a condition holds -/
noncomputable def least (R : Nat → Prop) : Nat := if h : ∃ k, R k then Classical.choose (least_ex h) else 0
theorem least_spec {R : Nat → Prop} (h : ∃ k, R k) : R (least R) := by
  unfold least
  rw [dif_pos h]
  exact (Classical.choose_spec (least_ex h)).1
theorem least_le {R : Nat → Prop} {k : Nat} (h : R k) : least R ≤ k := by
  unfold least
  rw [dif_pos ⟨k, h⟩]
  exact (Classical.choose_spec (least_ex ⟨k, h⟩)).2 k h
/-- what has been gathered for a board, when the first k of its groups have been looked at -/
structure MoreI (l : List Ev) (n : Int) (gone : Nat → Bool) (js : List Int) (k : Nat) (mo : List Int) (gone2 : Nat → Bool) : Prop where
  mem : ∀ m ∈ mo, RepM.up num l n = some m ∨ ∃ i, n ∈ group num l i ∧ m ∈ group num l i
  up : ∀ m, RepM.up num l n = some m → m ∈ mo
  seen : ∀ i, gone2 i = true ↔ gone i = true ∨ (i : Int) ∈ js.take k
  grp : ∀ i, gone i = false → (i : Int) ∈ js.take k → ∀ m ∈ group num l i, m ∈ mo
  len : mo.length + rest l.length gone2 ≤ 1 + rest l.length gone
theorem MoreI.start {l : List Ev} {n : Int} {gone : Nat → Bool} {js mo : List Int} (h : ∀ m, m ∈ mo ↔ RepM.up num l n = some m) (hl : mo.length ≤ 1) : MoreI l n gone js 0 mo gone :=
  ⟨fun m hm => .inl ((h m).1 hm), fun m hm => (h m).2 hm, fun i => by simp, fun i _ h => by simp at h, by omega⟩
theorem MoreI.step {l : List Ev} {n : Int} {gone gone2 : Nat → Bool} {js mo : List Int} {k j : Nat} (h : MoreI l n gone js k mo gone2) (hk : k < js.length) (hj : js[k] = (j : Int)) (hjl : j < l.length) (hn : n ∈ group num l j) (hgl : (group num l j).length ≤ 360000) :
    MoreI l n gone js (k + 1) (mo ++ if gone2 j then [] else group num l j) (fun i => decide (i = j) || gone2 i) := by
  have e : js.take (k + 1) = js.take k ++ [(j : Int)] := by rw [List.take_succ_eq_append_getElem hk, hj]
  refine ⟨fun m hm => ?_, fun m hm => List.mem_append.2 (.inl (h.up m hm)), fun i => ?_, fun i hg hi m hm => ?_, ?_⟩
  · rcases List.mem_append.1 hm with hm | hm
    · exact h.mem m hm
    · split at hm
      · cases hm
      · exact .inr ⟨j, hn, hm⟩
  · rw [e, List.mem_append, List.mem_singleton, Bool.or_eq_true, decide_eq_true_eq, h.seen i]
    constructor
    · rintro (rfl | h1 | h1)
      · exact .inr (.inr rfl)
      · exact .inl h1
      · exact .inr (.inl h1)
    · rintro (h1 | h1 | h1)
      · exact .inr (.inl h1)
      · exact .inr (.inr h1)
      · exact .inl (by omega)
  · rw [e, List.mem_append, List.mem_singleton] at hi
    rcases hi with hi | hi
    · exact List.mem_append.2 (.inl (h.grp i hg hi m hm))
    · obtain rfl : i = j := by omega
      by_cases h2 : gone2 i = true
      · rcases (h.seen i).1 h2 with h3 | h3
        · rw [hg] at h3; cases h3
        · exact List.mem_append.2 (.inl (h.grp i hg h3 m hm))
      · rw [if_neg h2]; exact List.mem_append.2 (.inr hm)
  · have hl := h.len
    rw [List.length_append]
    by_cases h2 : gone2 j = true
    · have := rest_same (n := l.length) h2
      rw [if_pos h2, List.length_nil]; omega
    · have := rest_set (n := l.length) hjl (Bool.eq_false_iff.2 h2)
      rw [if_neg h2]; omega
theorem MoreI.next {l : List Ev} {b : Int} {F L : List Int} {n : Int} {gone gone' : Nat → Bool} {js mo : List Int} {k : Nat} (h : MoreI l n gone js k mo gone') (hk : js.length ≤ k) (hjs : ∀ i : Nat, (i : Int) ∈ js ↔ n ∈ group num l i) (hd : DfsI l b F (L ++ [n]) gone) : DfsI l b (addAll F L mo).1 (addAll F L mo).2 gone' := by
  have e : js.take k = js := List.take_of_length_le hk
  refine hd.round h.up (fun i hi hg => h.grp i hg (by rw [e]; exact (hjs i).2 hi)) h.mem (fun i => ?_)
  rw [h.seen i, e, hjs i]
theorem addAll_take {mo F L : List Int} {k : Nat} (hk : k < mo.length) : addAll F L (mo.take (k + 1)) = if mo[k] ∈ (addAll F L (mo.take k)).1 then addAll F L (mo.take k) else ((addAll F L (mo.take k)).1 ++ [mo[k]], (addAll F L (mo.take k)).2 ++ [mo[k]]) := by
  rw [List.take_succ_eq_append_getElem hk, addAll_snoc]
theorem addAll_le : ∀ (r F L : List Int), F.length ≤ (addAll F L r).1.length ∧ (addAll F L r).1.length ≤ F.length + r.length
  | [], F, L => by simp [addAll]
  | m :: r, F, L => by
    unfold addAll
    by_cases hm : m ∈ F
    · rw [if_pos hm]; have := addAll_le r F L; simp only [List.length_cons]; omega
    · rw [if_neg hm]
      obtain ⟨h1, h2⟩ := addAll_le r (F ++ [m]) (L ++ [m])
      rw [List.length_append, List.length_singleton] at h1 h2
      rw [List.length_cons]
      omega
end RepM
end
/- Chapter 61, the plain part. -/
section
set_option linter.unusedVariables false
namespace RepM
/-- the permit to which a board leads, or the error -/
def permOf (l : List Ev) (s : ByteArray) : ByteArray × Int :=
  if errOf l s = 0 then (match under (counted l) ((log num (counted l) (num s)).getD ⟨#[]⟩) with | some p => (p, 0) | none => (⟨#[]⟩, 8)) else (⟨#[]⟩, errOf l s)
theorem err_ok {l : List Ev} {s : ByteArray} (h : errOf l s = 0) : ∃ g, log num (counted l) (num s) = some g := by
  unfold errOf at h
  split at h
  · cases hl : log num (counted l) (num s) with
    | some g => exact ⟨g, rfl⟩
    | none => rw [hl] at h; simp at h
  · simp at h
/-- the logs of the members of a family that have been gone through -/
def LogI (F : List Int) (lg : Int → Option ByteArray) (L : Int → Bool) (LL : List ByteArray) : Prop := ∀ s, s ∈ LL ↔ ∃ n ∈ F, L n = false ∧ lg n = some s
theorem LogI.start (F : List Int) (lg : Int → Option ByteArray) : LogI F lg (fun x => decide (x ∈ F)) [] := fun s => ⟨fun h => (by cases h), fun ⟨n, h1, h2, _⟩ => by simp [h1] at h2⟩
theorem LogI.skip {F : List Int} {lg : Int → Option ByteArray} {L : Int → Bool} {LL : List ByteArray} {x : Int} (h : LogI F lg L LL) (hx : lg x = none) : LogI F lg (fun y => L y && !decide (y = x)) LL := fun s => by
  rw [h s]
  constructor
  · rintro ⟨n, h1, h2, h3⟩; exact ⟨n, h1, by simp [h2], h3⟩
  · rintro ⟨n, h1, h2, h3⟩
    refine ⟨n, h1, ?_, h3⟩
    by_cases e : n = x
    · subst e; rw [hx] at h3; cases h3
    · simpa [e] using h2
theorem LogI.push {F : List Int} {lg : Int → Option ByteArray} {L : Int → Bool} {LL : List ByteArray} {x : Int} {g : ByteArray} (h : LogI F lg L LL) (hF : x ∈ F) (hx : lg x = some g) : LogI F lg (fun y => L y && !decide (y = x)) (g :: LL) := fun s => by
  rw [List.mem_cons, h s]
  constructor
  · rintro (rfl | ⟨n, h1, h2, h3⟩)
    · exact ⟨x, hF, by simp, hx⟩
    · exact ⟨n, h1, by simp [h2], h3⟩
  · rintro ⟨n, h1, h2, h3⟩
    by_cases e : n = x
    · subst e; rw [hx] at h3; exact .inl (Option.some.inj h3).symm
    · exact .inr ⟨n, h1, by simpa [e] using h2, h3⟩
theorem LogI.done {F : List Int} {lg : Int → Option ByteArray} {L : Int → Bool} {LL : List ByteArray} (h : LogI F lg L LL) (hL : ∀ n ∈ F, L n = false) (s : ByteArray) : s ∈ LL ↔ ∃ n, n ∈ F ∧ lg n = some s := by
  rw [h s]
  exact ⟨fun ⟨n, h1, _, h3⟩ => ⟨n, h1, h3⟩, fun ⟨n, h1, h3⟩ => ⟨n, h1, hL n h1, h3⟩⟩
theorem under_take {l : List Ev} {s : ByteArray} {k : Nat} (h : k < l.length) : under (l.take (k + 1)) s = (under (l.take k) s).or (if l[k].kind = 2 ∧ l[k].item = s then some l[k].of else none) := by
  unfold under
  rw [List.take_succ_eq_append_getElem h, List.find?_append, Option.map_or]
  congr 1
  rw [List.find?_cons]
  by_cases c : l[k].kind = 2 ∧ l[k].item = s
  · simp [c]
  · rw [if_neg c]
    have : (decide (l[k].kind = 2) && decide (l[k].item = s)) = false := by
      rw [Bool.and_eq_false_iff]
      by_cases c1 : l[k].kind = 2
      · right; exact decide_eq_false (fun c2 => c ⟨c1, c2⟩)
      · left; exact decide_eq_false c1
    rw [this]; rfl
/-- the felled logs and the permits, when the first k events have been gone through -/
structure UndI (l : List Ev) (LL : List ByteArray) (k : Nat) (FE PL : List ByteArray) : Prop where
  fe : ∀ s, s ∈ FE ↔ (under (l.take k) s).isSome = true
  pl : ∀ p, p ∈ PL ↔ ∃ s ∈ LL, under (l.take k) s = some p
theorem UndI.start (l : List Ev) (LL : List ByteArray) : UndI l LL 0 [] [] := ⟨fun s => by simp [under], fun p => by simp [under]⟩
theorem UndI.skip {l : List Ev} {LL FE PL : List ByteArray} {k : Nat} (h : UndI l LL k FE PL) (hk : k < l.length) (h2 : l[k].kind ≠ 2) : UndI l LL (k + 1) FE PL := by
  have e : ∀ s, under (l.take (k + 1)) s = under (l.take k) s := fun s => by
    rw [under_take hk, if_neg (fun c => h2 c.1), Option.or_none]
  exact ⟨fun s => by rw [e s]; exact h.fe s, fun p => by simp only [e]; exact h.pl p⟩
theorem UndI.old {l : List Ev} {LL FE PL : List ByteArray} {k : Nat} (h : UndI l LL k FE PL) (hk : k < l.length) (h2 : l[k].kind = 2) (hl : l[k].item ∉ LL ∨ l[k].item ∈ FE) : UndI l LL (k + 1) (l[k].item :: FE) PL := by
  refine ⟨fun s => ?_, fun p => ?_⟩
  · rw [List.mem_cons, h.fe s, under_take hk]
    by_cases c : l[k].item = s
    · simp [h2, c]
    · rw [if_neg (fun q => c q.2), Option.or_none]
      exact ⟨fun h => h.elim (fun e => absurd e.symm c) id, .inr⟩
  · rw [h.pl p]
    constructor
    · rintro ⟨s, h1, h3⟩; exact ⟨s, h1, by rw [under_take hk, h3]; rfl⟩
    · rintro ⟨s, h1, h3⟩
      refine ⟨s, h1, ?_⟩
      rw [under_take hk] at h3
      cases hu : under (l.take k) s with
      | some q => rw [hu] at h3; exact h3
      | none =>
        rw [hu, Option.none_or] at h3
        split at h3
        · rename_i c
          rcases hl with hl | hl
          · exact absurd (c.2 ▸ h1) hl
          · have := (h.fe _).1 hl
            rw [c.2, hu] at this; cases this
        · cases h3
theorem UndI.new {l : List Ev} {LL FE PL : List ByteArray} {k : Nat} (h : UndI l LL k FE PL) (hk : k < l.length) (h2 : l[k].kind = 2) (hl : l[k].item ∈ LL) (hf : l[k].item ∉ FE) : UndI l LL (k + 1) (l[k].item :: FE) (l[k].of :: PL) := by
  have hn : under (l.take k) l[k].item = none := by
    cases hu : under (l.take k) l[k].item with
    | none => rfl
    | some q => exact absurd ((h.fe _).2 (by rw [hu]; rfl)) hf
  refine ⟨fun s => ?_, fun p => ?_⟩
  · rw [List.mem_cons, h.fe s, under_take hk]
    by_cases c : l[k].item = s
    · simp [h2, c]
    · rw [if_neg (fun q => c q.2), Option.or_none]
      exact ⟨fun h => h.elim (fun e => absurd e.symm c) id, .inr⟩
  · rw [List.mem_cons, h.pl p]
    constructor
    · rintro (rfl | ⟨s, h1, h3⟩)
      · exact ⟨_, hl, by rw [under_take hk, hn, if_pos ⟨h2, rfl⟩]; rfl⟩
      · exact ⟨s, h1, by rw [under_take hk, h3]; rfl⟩
    · rintro ⟨s, h1, h3⟩
      rw [under_take hk] at h3
      cases hu : under (l.take k) s with
      | some q => rw [hu] at h3; exact .inr ⟨s, h1, by rw [hu]; exact h3⟩
      | none =>
        rw [hu, Option.none_or] at h3
        split at h3
        · exact .inl (Option.some.inj h3).symm
        · cases h3
/-- the orders, when the first k events have been gone through -/
def OrdI (l : List Ev) (F : List Int) (k : Nat) (OL : List Int) : Prop := ∀ o, o ∈ OL ↔ Orders (l.take k) (· ∈ F) o
theorem OrdI.start (l : List Ev) (F : List Int) : OrdI l F 0 [] := fun o => ⟨fun h => (by cases h), fun ⟨e, he, _⟩ => by simp at he⟩
theorem OrdI.skip {l : List Ev} {F OL : List Int} {k : Nat} (h : OrdI l F k OL) (hk : k < l.length) (h9 : l[k].kind ≠ 9) : OrdI l F (k + 1) OL := fun o => by
  rw [h o]
  unfold Orders
  rw [List.take_succ_eq_append_getElem hk]
  constructor
  · rintro ⟨e, he, r⟩; exact ⟨e, List.mem_append.2 (.inl he), r⟩
  · rintro ⟨e, he, h1, r⟩
    rcases List.mem_append.1 he with he | he
    · exact ⟨e, he, h1, r⟩
    · rw [List.mem_singleton] at he; subst he; exact absurd h1 h9
theorem OrdI.step {l : List Ev} {F OL OL' : List Int} {k : Nat} (h : OrdI l F k OL) (hk : k < l.length) (h9 : l[k].kind = 9) (ho : ∀ o, o ∈ OL' ↔ o ∈ OL ∨ ∃ q ∈ pairs l[k].n, q.2 ∈ F ∧ q.1 = o) : OrdI l F (k + 1) OL' := fun o => by
  rw [ho o, h o]
  unfold Orders
  rw [List.take_succ_eq_append_getElem hk]
  constructor
  · rintro (⟨e, he, r⟩ | r)
    · exact ⟨e, List.mem_append.2 (.inl he), r⟩
    · exact ⟨_, List.mem_append.2 (.inr (List.mem_singleton.2 rfl)), h9, r⟩
  · rintro ⟨e, he, h1, r⟩
    rcases List.mem_append.1 he with he | he
    · exact .inl ⟨e, he, h1, r⟩
    · rw [List.mem_singleton] at he; subst he; exact .inr r
theorem pairs_iff {ns : List Int} {M : Nat} (h : ns.length = 2 * M) (q : Int × Int) : q ∈ pairs ns ↔ ∃ j : Fin M, q = (ns.getD (2 * j.val) 0, ns.getD (2 * j.val + 1) 0) := by
  have key : ∀ d j, j + d = M → (q ∈ pairs (ns.drop (2 * j)) ↔ ∃ i : Fin M, j ≤ i.val ∧ q = (ns.getD (2 * i.val) 0, ns.getD (2 * i.val + 1) 0)) := by
    intro d
    induction d with
    | zero =>
      intro j hj
      rw [pairs_end (by omega)]
      exact ⟨fun h => (by cases h), fun ⟨i, h1, _⟩ => by have := i.isLt; omega⟩
    | succ d ih =>
      intro j hj
      rw [pairs_drop (by omega : 2 * j + 1 < ns.length), List.mem_cons, show 2 * j + 2 = 2 * (j + 1) by omega, ih (j + 1) (by omega)]
      have e : ∀ i : Nat, (h : i < ns.length) → ns.getD i 0 = ns[i] := fun i h => by rw [List.getD_eq_getElem?_getD, List.getElem?_eq_getElem h]; rfl
      constructor
      · rintro (rfl | ⟨i, h1, h2⟩)
        · exact ⟨⟨j, by omega⟩, Nat.le_refl _, by simp only [e _ (by omega : 2 * j < ns.length), e _ (by omega : 2 * j + 1 < ns.length)]⟩
        · exact ⟨i, by omega, h2⟩
      · rintro ⟨i, h1, h2⟩
        by_cases c : i.val = j
        · left
          rw [h2, c, e _ (by omega), e _ (by omega)]
        · exact .inr ⟨i, by omega, h2⟩
  have := key M 0 (by omega)
  simpa using this
/-- items and permits are short -/
theorem named_len {s : ByteArray} {k : Nat} (h : named s k = true) : s.size ≤ 8 := by
  unfold named at h
  split at h
  · have := of_decide_eq_true h; omega
  · unfold isK codeOf at h
    split at h
    · rename_i hq
      split at hq
      · rename_i hok
        have := (okCode_parts hok).1
        have e : s.data.toList.length = s.size := by simp
        omega
      · cases hq
    · cases h
theorem ok_item {e : Ev} (h : okEv e = true) : e.item.size ≤ 8 ∧ e.of.size ≤ 8 := ⟨named_len (ok_parts h).2.2.1.1, named_len (ok_parts h).2.2.1.2⟩
theorem log_item {l : List Ev} {g : ByteArray} : ∀ (k : Nat) (n : Int), logF num l k n = some g → ∃ e ∈ l, e.item = g
  | 0, n, h => by cases h
  | k + 1, n, h => by
    rw [logF] at h
    cases hm : maker l n with
    | none => rw [hm] at h; cases h
    | some e =>
      rw [hm] at h
      simp only at h
      split at h
      · exact ⟨e, (maker_some hm).1, Option.some.inj h⟩
      · split at h
        · cases h
        · exact log_item k _ h
theorem log_len {l : List Ev} (hok : ∀ e ∈ l, okEv e = true) {n : Int} {g : ByteArray} (h : log num l n = some g) : g.size ≤ 8 := by
  obtain ⟨e, he, rfl⟩ := log_item _ _ h
  exact (ok_item (hok e he)).1
end RepM
end
/- Chapter 61, the plain part. -/
section
set_option linter.unusedVariables false
namespace RepM
open Go.Lib
/-- the name of a kind of events -/
def nameB (k : Int) : ByteArray :=
  if k = 1 then ⟨#[112, 101, 114, 109, 105, 116]⟩ else if k = 2 then ⟨#[102, 101, 108, 108]⟩ else if k = 3 then ⟨#[115, 99, 97, 110]⟩ else 
  if k = 4 then ⟨#[115, 97, 119]⟩ else if k = 5 then ⟨#[112, 97, 99, 107]⟩ else if k = 6 then ⟨#[100, 114, 121]⟩ else 
  if k = 7 then ⟨#[103, 114, 97, 100, 101]⟩ else if k = 8 then ⟨#[111, 114, 100, 101, 114]⟩ else if k = 9 then ⟨#[97, 115, 115, 105, 103, 110]⟩ else 
  if k = 10 then ⟨#[115, 104, 105, 112]⟩ else if k = 11 then ⟨#[115, 101, 108, 108]⟩ else if k = 12 then ⟨#[102, 97, 105, 108]⟩ else 
  if k = 13 then ⟨#[116, 114, 105, 109]⟩ else if k = 14 then ⟨#[114, 101, 115, 97, 119]⟩ else ⟨#[]⟩
/-- two digits -/
def twoL (n : Int) : List UInt8 := [UInt8.ofNat (48 + n.toNat / 10), UInt8.ofNat (48 + n.toNat % 10)]
/-- a time as day, hour and minute -/
def timeL (t : Int) : List UInt8 := 100 :: itoa (t / 1440) ++ 32 :: twoL (t % 1440 / 60) ++ 58 :: twoL (t % 60)
def wordL (s : ByteArray) : List UInt8 := if s.size = 0 then [] else 32 :: s.data.toList
def numsL (l : List Int) : List UInt8 := l.flatMap fun n => 32 :: itoa n
/-- the line that describes an event -/
def lineL (e : Ev) : List UInt8 := if okEv e then timeL e.at_ ++ 32 :: (nameB e.kind).data.toList ++ wordL e.item ++ wordL e.of ++ numsL e.n ++ [10] else []
def storyL (l : List Ev) : List UInt8 := l.flatMap lineL
theorem two_small {n : Int} (h0 : 0 ≤ n) (h1 : n < 100) : itoa (n / 10) ++ itoa (n % 10) = twoL n := by
  obtain ⟨m, rfl⟩ : ∃ m : Nat, n = (m : Int) := ⟨n.toNat, by omega⟩
  rw [show (m : Int) / 10 = ((m / 10 : Nat) : Int) by omega, show (m : Int) % 10 = ((m % 10 : Nat) : Int) by omega]
  unfold itoa twoL
  rw [if_neg (by omega), if_neg (by omega)]
  simp only [Int.toNat_natCast]
  rw [decDigits_one (by omega), decDigits_one (by omega)]
  rfl
theorem numsL_take {l : List Int} {k : Nat} (h : k < l.length) : numsL (l.take (k + 1)) = numsL (l.take k) ++ (32 :: itoa l[k]) := by
  unfold numsL
  rw [List.take_succ_eq_append_getElem h, List.flatMap_append]
  simp
theorem storyL_take {l : List Ev} {k : Nat} (h : k < l.length) : storyL (l.take (k + 1)) = storyL (l.take k) ++ lineL l[k] := by
  unfold storyL
  rw [List.take_succ_eq_append_getElem h, List.flatMap_append]
  simp
theorem storyL_drop {l : List Ev} {k : Nat} (h : k < l.length) : storyL (l.drop k) = lineL l[k] ++ storyL (l.drop (k + 1)) := by
  unfold storyL
  rw [List.drop_eq_getElem_cons h, List.flatMap_cons]
theorem dig_len : ∀ (f n : Nat), n < 10 ^ (f + 1) → (decDigits n).length ≤ f + 1
  | 0, n, h => by rw [decDigits, dif_pos (by omega)]; simp
  | f + 1, n, h => by
    rw [decDigits]
    split
    · simp
    · rw [List.length_append]
      have := dig_len f (n / 10) (by rw [Nat.pow_succ] at h; omega)
      simp; omega
theorem itoa_len {n : Int} (h : -1099511627776 ≤ n ∧ n ≤ 1099511627776) : (itoa n).length ≤ 14 := by
  unfold itoa
  split
  · have := dig_len 12 n.natAbs (by omega); simp; omega
  · have := dig_len 12 n.toNat (by omega); omega
theorem numsL_len {l : List Int} (h : ∀ n ∈ l, -1099511627776 ≤ n ∧ n ≤ 1099511627776) : (numsL l).length ≤ 15 * l.length := by
  induction l with
  | nil => simp [numsL]
  | cons a l ih =>
    have h1 := itoa_len (h a (by simp))
    have h2 := ih (fun n hn => h n (by simp [hn]))
    unfold numsL at h2 ⊢
    rw [List.flatMap_cons, List.length_append, List.length_cons, List.length_cons]
    omega
theorem two_len (n : Int) : (twoL n).length = 2 := rfl
theorem time_len {t : Int} (h : 0 ≤ t ∧ t ≤ 10000000) : (timeL t).length ≤ 21 := by
  have := itoa_len (n := t / 1440) (by omega)
  unfold timeL
  simp only [List.length_append, List.length_cons, two_len]
  omega
theorem ite_size {c : Prop} [Decidable c] {a b : ByteArray} (h1 : a.size ≤ 6) (h2 : b.size ≤ 6) : (if c then a else b).size ≤ 6 := by split <;> assumption
theorem name_len (k : Int) : (nameB k).size ≤ 6 := by
  unfold nameB
  repeat (refine ite_size (by decide) ?_)
  decide
theorem word_len (s : ByteArray) : (wordL s).length ≤ s.size + 1 := by
  unfold wordL
  split
  · simp
  · have : s.data.toList.length = s.size := by simp
    rw [List.length_cons]; omega
end RepM
end
/- Chapter 61, the plain part. -/
section
set_option linter.unusedVariables false
namespace RepM
/-- equality of events -/
def sameE (a b : Ev) : Bool := decide (a.kind = b.kind) && (decide (a.at_ = b.at_) && (decide (a.item = b.item) && (decide (a.of = b.of) && (decide (a.n = b.n) && decide (a.text = b.text)))))
theorem sameE_self (a : Ev) : sameE a a = true := by simp [sameE]
def sameL : List Ev → List Ev → Bool
  | [], [] => true
  | x :: a, y :: b => sameE x y && sameL a b
  | _, _ => false
theorem sameL_self : ∀ a : List Ev, sameL a a = true
  | [] => rfl
  | x :: a => by rw [sameL, sameE_self, sameL_self a]; rfl
theorem sameL_drop {a b : List Ev} {k : Nat} (ha : k < a.length) (hb : k < b.length) : sameL (a.drop k) (b.drop k) = (sameE a[k] b[k] && sameL (a.drop (k + 1)) (b.drop (k + 1))) := by
  rw [List.drop_eq_getElem_cons ha, List.drop_eq_getElem_cons hb, sameL]
theorem sameL_len : ∀ {a b : List Ev}, sameL a b = true → a.length = b.length
  | [], [], _ => rfl
  | x :: a, y :: b, h => by
    rw [sameL, Bool.and_eq_true] at h
    rw [List.length_cons, List.length_cons, sameL_len h.2]
  | [], _ :: _, h => by cases h
  | _ :: _, [], h => by cases h
theorem sameL_ne {a b : List Ev} (h : ¬ a.length = b.length) : sameL a b = false := by
  cases hs : sameL a b with
  | false => rfl
  | true => exact absurd (sameL_len hs) h
/-- are the pairs of a list among those of another one, in order? -/
def withB : List Int → List Int → Bool
  | a0 :: a1 :: a, b0 :: b1 :: b => if a0 = b0 ∧ a1 = b1 then withB a b else withB (a0 :: a1 :: a) b
  | a, _ => a.isEmpty
termination_by _ b => b.length
theorem withB_short {a b : List Int} (h : a.length ≤ 1 ∨ b.length ≤ 1) : withB a b = a.isEmpty := by
  rcases a with _ | ⟨a0, _ | ⟨a1, a⟩⟩
  · unfold withB; rfl
  · unfold withB; rfl
  · rcases b with _ | ⟨b0, _ | ⟨b1, b⟩⟩
    · unfold withB; rfl
    · unfold withB; rfl
    · simp at h
theorem withB_drop {a b : List Int} {k i : Nat} (ha : k + 1 < a.length) (hb : i + 1 < b.length) : withB (a.drop k) (b.drop i) = if a[k] = b[i] ∧ a[k + 1] = b[i + 1] then withB (a.drop (k + 2)) (b.drop (i + 2)) else withB (a.drop k) (b.drop (i + 2)) := by
  have e1 : a.drop k = a[k] :: a[k + 1] :: a.drop (k + 2) := by rw [List.drop_eq_getElem_cons (by omega), List.drop_eq_getElem_cons ha]
  have e2 : b.drop i = b[i] :: b[i + 1] :: b.drop (i + 2) := by rw [List.drop_eq_getElem_cons (by omega), List.drop_eq_getElem_cons hb]
  rw [e1, e2, withB]
theorem withB_tail : ∀ (b : List Int) (a0 a1 : Int) (a : List Int), withB (a0 :: a1 :: a) b = true → withB a b = true
  | [], _, _, _, h => by rw [withB_short (.inr (by simp))] at h; cases h
  | [_], _, _, _, h => by rw [withB_short (.inr (by simp))] at h; cases h
  | b0 :: b1 :: b, a0, a1, a, h => by
    rw [withB] at h
    have key : withB a b = true := by
      split at h
      · exact h
      · exact withB_tail b _ _ _ h
    rcases a with _ | ⟨c0, _ | ⟨c1, a⟩⟩
    · rw [withB_short (.inl (by simp))]; rfl
    · rw [withB_short (.inl (by simp))] at key; cases key
    · rw [withB]
      split
      · exact withB_tail b _ _ _ key
      · exact key
theorem withB_skip {a b : List Int} {b0 b1 : Int} (h : withB a b = true) : withB a (b0 :: b1 :: b) = true := by
  rcases a with _ | ⟨c0, _ | ⟨c1, a⟩⟩
  · rw [withB_short (.inl (by simp))]; rfl
  · rw [withB_short (.inl (by simp))] at h; cases h
  · rw [withB]
    split
    · exact withB_tail b _ _ _ h
    · exact h
theorem withB_filter (p : Int × Int → Bool) : ∀ n : List Int, withB (((pairs n).filter p).flatMap fun q => [q.1, q.2]) n = true
  | [] => by rw [withB_short (.inr (by simp))]; rfl
  | [_] => by rw [withB_short (.inr (by simp))]; rfl
  | a :: b :: n => by
    have ih := withB_filter p n
    unfold pairs
    rw [List.filter_cons]
    split
    · rw [List.flatMap_cons]
      show withB (a :: b :: _) (a :: b :: n) = true
      rw [withB, if_pos ⟨rfl, rfl⟩]
      exact ih
    · exact withB_skip ih
/-- is an event of a history one of the list? -/
def matchE (h e : Ev) : Bool := if h.kind = 9 ∧ e.kind = 9 ∧ withB h.n e.n = true then sameE { h with n := e.n } e else sameE h e
theorem matchE_self (e : Ev) : matchE e e = true := by
  unfold matchE
  split
  · exact sameE_self _
  · exact sameE_self _
/-- the events of a history are matched as early as can be -/
def greedB : List Ev → List Ev → Bool
  | [], _ => true
  | _ :: _, [] => false
  | h :: hs, e :: l => if matchE h e then greedB hs l else greedB (h :: hs) l
termination_by _ l => l.length
inductive Emb : List Ev → List Ev → Prop
  | nil (l : List Ev) : Emb [] l
  | skip {h l : List Ev} {e : Ev} : Emb h l → Emb h (e :: l)
  | take {h l : List Ev} {x e : Ev} : matchE x e = true → Emb h l → Emb (x :: h) (e :: l)
theorem Emb.tail {l : List Ev} : ∀ {x : Ev} {h : List Ev}, Emb (x :: h) l → Emb h l := by
  induction l with
  | nil => intro x h he; cases he
  | cons e l ih =>
    intro x h he
    cases he with
    | skip he => exact .skip (ih he)
    | take _ he => exact .skip he
theorem Emb.greed : ∀ {l h : List Ev}, Emb h l → greedB h l = true := by
  intro l
  induction l with
  | nil => intro h he; cases he; unfold greedB; rfl
  | cons e l ih =>
    intro h he
    rcases h with _ | ⟨x, h⟩
    · unfold greedB; rfl
    · rw [greedB]
      by_cases hm : matchE x e = true
      · rw [if_pos hm]
        cases he with
        | skip he => exact ih he.tail
        | take _ he => exact ih he
      · rw [if_neg hm]
        cases he with
        | skip he => exact ih he
        | take h1 _ => exact absurd h1 hm
theorem Emb.filter (p : Ev → Bool) : ∀ {l h : List Ev}, Emb h (l.filter p) → Emb h l := by
  intro l
  induction l with
  | nil => intro h he; exact he
  | cons e l ih =>
    intro h he
    rw [List.filter_cons] at he
    split at he
    · cases he with
      | nil => exact .nil _
      | skip he => exact .skip (ih he)
      | take hm he => exact .take hm (ih he)
    · exact .skip (ih he)
theorem hist_emb (l : List Ev) (S : Int → Prop) : ∀ (m : List Ev) (i : Nat) (bg : Bool), Emb (histF num l S i bg m) m
  | [], _, _ => .nil _
  | e :: m, i, bg => by
    unfold histF
    split
    · rename_i h9
      split
      · refine .take ?_ (hist_emb l S m _ _)
        unfold matchE
        rw [if_pos ⟨h9, h9, by unfold pairsIn; exact withB_filter _ _⟩]
        exact sameE_self _
      · exact .skip (hist_emb l S m _ _)
    · split
      · exact .take (matchE_self e) (hist_emb l S m _ _)
      · exact .skip (hist_emb l S m _ _)
theorem histOf_greed (l : List Ev) (s : ByteArray) : greedB (histOf l s) l = true := by
  refine Emb.greed ?_
  unfold histOf
  split
  · unfold hist counted
    exact Emb.filter okEv (hist_emb _ _ _ _ _)
  · exact .nil _
theorem greedB_drop {h l : List Ev} {k i : Nat} (hk : k < h.length) (hi : i < l.length) : greedB (h.drop k) (l.drop i) = if matchE h[k] l[i] then greedB (h.drop (k + 1)) (l.drop (i + 1)) else greedB (h.drop k) (l.drop (i + 1)) := by
  rw [List.drop_eq_getElem_cons hk, List.drop_eq_getElem_cons hi, greedB]
theorem greedB_end {h l : List Ev} {k i : Nat} (hi : l.length ≤ i) (hg : greedB (h.drop k) (l.drop i) = true) : h.length ≤ k := by
  rw [List.drop_of_length_le hi] at hg
  rcases hd : h.drop k with _ | ⟨x, r⟩
  · exact List.drop_eq_nil_iff.1 hd
  · rw [hd, greedB] at hg; cases hg
theorem histOf_len (l : List Ev) (s : ByteArray) : (histOf l s).length ≤ l.length := by
  have key : ∀ {l h : List Ev}, Emb h l → h.length ≤ l.length := by
    intro l h he
    induction he with
    | nil => simp
    | skip _ ih => simp; omega
    | take _ _ ih => simp; omega
  unfold histOf
  split
  · unfold hist counted
    exact key (Emb.filter okEv (hist_emb _ _ _ _ _))
  · simp
end RepM
end
/- Chapter 61, the plain part. -/
section
set_option linter.unusedVariables false
namespace RepM
def cP1 : ByteArray := ⟨#[80, 48, 48, 48, 48, 48, 49, 68]⟩
def cL1 : ByteArray := ⟨#[76, 48, 48, 48, 48, 48, 49, 87]⟩
def cL2 : ByteArray := ⟨#[76, 48, 48, 48, 48, 48, 50, 71]⟩
def cK1 : ByteArray := ⟨#[75, 48, 48, 48, 48, 48, 49, 86]⟩
def cB0 : ByteArray := ⟨#[66, 48, 48, 48, 48, 48, 48, 70]⟩
def cB1 : ByteArray := ⟨#[66, 48, 48, 48, 48, 48, 49, 77]⟩
def cB2 : ByteArray := ⟨#[66, 48, 48, 48, 48, 48, 50, 84]⟩
def cB6 : ByteArray := ⟨#[66, 48, 48, 48, 48, 48, 54, 66]⟩
/-- the examples' events -/
def smp : List Ev := [
  ⟨1, 0, cP1, ⟨#[]⟩, [0, 1000, 5], ⟨#[112, 105, 110, 101]⟩⟩,
  ⟨2, 1, cL1, cP1, [], ⟨#[]⟩⟩,
  ⟨2, 1, cL2, cP1, [], ⟨#[]⟩⟩,
  ⟨3, 2, cL1, ⟨#[]⟩, [], ⟨#[]⟩⟩,
  ⟨3, 2, cL2, ⟨#[]⟩, [], ⟨#[]⟩⟩,
  ⟨4, 3, cL1, ⟨#[]⟩, [0, 1], ⟨#[]⟩⟩,
  ⟨4, 3, cL2, ⟨#[]⟩, [0, 5], ⟨#[]⟩⟩,
  ⟨5, 4, cK1, ⟨#[]⟩, [2, 6], ⟨#[]⟩⟩,
  ⟨7, 5, cB1, ⟨#[]⟩, [3], ⟨#[]⟩⟩,
  ⟨11, 6, ⟨#[]⟩, ⟨#[]⟩, [0, 0], ⟨#[]⟩⟩]
def memL (l : List ByteArray) (s : ByteArray) : Bool := l.any fun m => decide (m = s)
theorem memL_iff (l : List ByteArray) (s : ByteArray) : memL l s = true ↔ s ∈ l := by
  unfold memL
  rw [List.any_eq_true]
  exact ⟨fun ⟨x, h1, h2⟩ => by rw [← of_decide_eq_true h2]; exact h1, fun h => ⟨s, h, decide_eq_true rfl⟩⟩
def closedB (l : List Ev) (b : Int) (S : List Int) : Bool :=
  decide (b ∈ S) && (S.all (fun n => match up num l n with | none => true | some m => decide (m ∈ S)) && (List.range l.length).all fun i => !((group num l i).any fun n => decide (n ∈ S)) || (group num l i).all fun n => decide (n ∈ S))
theorem grp_lt {l : List Ev} {i : Nat} {n : Int} (h : n ∈ group num l i) : i < l.length := by
  unfold group at h
  split at h
  · cases h
  · rename_i e he
    exact (List.getElem?_eq_some_iff.1 he).1
theorem closed_of {l : List Ev} {b : Int} {S : List Int} (h : closedB l b S = true) : Closed num l b (· ∈ S) := by
  unfold closedB at h
  simp only [Bool.and_eq_true, decide_eq_true_eq, List.all_eq_true] at h
  obtain ⟨h1, h2, h3⟩ := h
  refine ⟨h1, fun n m hn hu => ?_, fun i n m hn hg hm => ?_⟩
  · have := h2 n hn
    rw [hu] at this
    exact of_decide_eq_true this
  · have h4 := h3 i (List.mem_range.2 (grp_lt hg))
    rw [Bool.or_eq_true] at h4
    rcases h4 with h4 | h4
    · rw [Bool.not_eq_true', List.any_eq_false] at h4
      exact absurd (decide_eq_true hn) (h4 n hg)
    · exact of_decide_eq_true (List.all_eq_true.1 h4 m hm)
def histC (l : List Ev) (S : List Int) : List Ev := histB l S (fun i e => partB l i S memL memL (logsL l S) (permL l (logsL l S)) e) 0 false l
theorem hist_by {l : List Ev} {b : Int} {S : List Int} (hc : closedB l b S = true) (hf : ∀ n ∈ S, Fam num l b n) : hist num l b = histC l S := by
  have hS : ∀ n, n ∈ S ↔ Fam num l b n := fun n => fam_unique num (closed_of hc) hf n
  unfold hist histC
  exact (histB_eq hS (fun i e => part_keep memL_iff hS (logsL_iff hS) (permL_iff hS) i e) l 0 false).symm
theorem smp_counted : counted smp = smp := by
  unfold counted
  exact List.filter_eq_self.2 (List.all_eq_true.1 (by decide +kernel : smp.all okEv = true))
theorem smp6_counted : counted (smp.take 6) = smp.take 6 := by
  unfold counted
  exact List.filter_eq_self.2 (List.all_eq_true.1 (by decide +kernel : (smp.take 6).all okEv = true))
theorem smp_err1 : errOf smp cB1 = 0 := by decide +kernel
theorem smp_err2 : errOf smp cB2 = 0 := by decide +kernel
theorem smp_err0 : errOf smp cB0 = 8 := by decide +kernel
theorem smp6_err1 : errOf (smp.take 6) cB1 = 0 := by decide +kernel
theorem smp_perm6 : permOf smp cB6 = (cP1, 0) := by decide +kernel
theorem num_B1 : num cB1 = 1 := by decide +kernel
theorem num_B2 : num cB2 = 2 := by decide +kernel
theorem fam1 {l : List Ev} {b : Int} : ∀ n ∈ [b], Fam num l b n := fun n hn => by
  rw [List.mem_singleton] at hn
  subst hn
  exact fun S h => h.board
theorem smp_hist1 : histOf smp cB1 = histC smp [1] := by
  unfold histOf
  rw [if_pos smp_err1, smp_counted, num_B1]
  exact hist_by (by decide +kernel) fam1
theorem smp6_hist1 : histOf (smp.take 6) cB1 = histC (smp.take 6) [1] := by
  unfold histOf
  rw [if_pos smp6_err1, smp6_counted, num_B1]
  exact hist_by (by decide +kernel) fam1
theorem smp_hist2 : histOf smp cB2 = histC smp [2, 6] := by
  unfold histOf
  rw [if_pos smp_err2, smp_counted, num_B2]
  refine hist_by (by decide +kernel) (fun n hn => ?_)
  simp only [List.mem_cons, List.not_mem_nil, or_false] at hn
  rcases hn with rfl | rfl
  · exact fun S h => h.board
  · exact fun S h => h.group 7 2 6 h.board (by decide +kernel) (by decide +kernel)
theorem smp_kinds1 : (histC smp [1]).map (·.kind) = [1, 2, 3, 4, 7] := by decide +kernel
theorem smp_kinds2 : (histC smp [2, 6]).map (·.kind) = [1, 2, 2, 3, 3, 4, 4, 5] := by decide +kernel
end RepM
end
