/- Chapter 59, the plain part. -/
import Derived.Test.YteokijolhbohaaaGreatDoorRows
set_option linter.unusedVariables false
set_option linter.unusedSimpArgs false
/-
  Chapter 59, the plain part: what the check of a setup says.
-/
namespace StM

structure Pdt where
  nm : ByteArray
  th : Int
  wi : Int
  al : Int
  wa : Int
  ls : List Int
  ps : List Int

def small (c : UInt8) : Bool := decide (97 ≤ c.toNat ∧ c.toNat ≤ 122)
def digit (c : UInt8) : Bool := decide (48 ≤ c.toNat ∧ c.toNat ≤ 57)
def tailOk (l : List UInt8) : Bool := l.all fun c => small c || digit c || c.toNat == 95
def nameL : List UInt8 → Bool
  | [] => false
  | c :: l => decide (l.length + 1 ≤ 16) && small c && tailOk l

def sized (n : Int) : Bool := decide (1 ≤ n ∧ n ≤ 600)
def grow (n al : Int) : Int := (n * (1000 + al) + 999) / 1000
def green (th wi al : Int) : Int × Int := if sized th && sized wi && decide (0 ≤ al ∧ al ≤ 200) then (grow th al, grow wi al) else (0, 0)

/-- the error of lengths, behind a length that may be there -/
def lensE : Option Int → List Int → Int
  | _, [] => 0
  | o, n :: l => if n < 100 ∨ n > 20000 then 9 else match o with
    | none => lensE (some n) l
    | some m => if n ≤ m then 11 else lensE (some n) l
def pricesE : List Int → Int
  | [] => 0
  | n :: l => if n < 0 ∨ n > 1000000 then 9 else pricesE l
def listsE (ls ps : List Int) : Int :=
  if ls.length = 0 then 3 else if ls.length > 8 then 4 else if ps.length ≠ ls.length then 19
  else if lensE none ls ≠ 0 then lensE none ls else pricesE ps
def numE (p : Pdt) : Int :=
  if p.th < 5 ∨ p.th > 300 ∨ p.wi < p.th ∨ p.wi > 600 then 9
  else if p.al < 0 ∨ p.al > 200 ∨ p.wa < 0 ∨ p.wa > 1000 then 9
  else if (green p.th p.wi p.al).2 > 600 then 9 else listsE p.ls p.ps

/-- the first error of elements, each with those ahead of it -/
def scanE {α : Type} (f : List α → α → Int) : List α → List α → Int
  | _, [] => 0
  | a, x :: l => if f a x = 0 then scanE f (a ++ [x]) l else f a x
def scanAt {α : Type} (f : List α → α → Int) (l : List α) (k : Nat) : Int := scanE f (l.take k) (l.drop k)
theorem scanAt_zero {α : Type} (f : List α → α → Int) (l : List α) : scanAt f l 0 = scanE f [] l := rfl
theorem scanAt_end {α : Type} (f : List α → α → Int) (l : List α) {k : Nat} (h : l.length ≤ k) : scanAt f l k = 0 := by
  unfold scanAt; rw [List.drop_of_length_le h]; rfl
theorem scanAt_step {α : Type} (f : List α → α → Int) (l : List α) {k : Nat} (h : k < l.length) : scanAt f l k = if f (l.take k) l[k] = 0 then scanAt f l (k + 1) else f (l.take k) l[k] := by
  unfold scanAt
  rw [List.drop_eq_getElem_cons h, scanE, List.take_succ_eq_append_getElem h]
theorem scanAt_bad {α : Type} (f : List α → α → Int) (l : List α) {k : Nat} (h : k < l.length) {e : Int} (he : f (l.take k) l[k] = e) (h0 : e ≠ 0) : scanAt f l k = e := by
  rw [scanAt_step f l h, if_neg (by rw [he]; exact h0), he]
theorem scanAt_ok {α : Type} (f : List α → α → Int) (l : List α) {k : Nat} (h : k < l.length) (he : f (l.take k) l[k] = 0) : scanAt f l k = scanAt f l (k + 1) := by
  rw [scanAt_step f l h, if_pos he]
/-- the same string -/
def eqS (a b : ByteArray) : Bool := a.toList == b.toList
/-- is there an element with a name? -/
def hasN {α : Type} (nm : α → ByteArray) (s : ByteArray) (l : List α) : Bool := l.any fun x => eqS (nm x) s
theorem hasN_nil {α : Type} (nm : α → ByteArray) (s : ByteArray) : hasN nm s [] = false := rfl
theorem hasN_take {α : Type} (nm : α → ByteArray) (s : ByteArray) (l : List α) {k : Nat} (h : k < l.length) : hasN nm s (l.take (k + 1)) = (hasN nm s (l.take k) || eqS (nm l[k]) s) := by
  unfold hasN
  rw [List.take_succ_eq_append_getElem h, List.any_append]
  simp
theorem hasN_of {α : Type} (nm : α → ByteArray) (s : ByteArray) (l : List α) {k : Nat} (h : k < l.length) (e : eqS (nm l[k]) s = true) : hasN nm s l = true := by
  unfold hasN
  exact List.any_eq_true.2 ⟨l[k], List.getElem_mem h, e⟩

/-! ## species -/
structure Spc where
  nm : ByteArray
  (gr fa sl sa mg cr mt md de st kn sh : Int)
def betw (n lo hi : Int) : Bool := decide (lo ≤ n) && decide (n ≤ hi)
def Spc.ok (s : Spc) : Bool :=
  betw s.gr 3000 20000 && (betw s.fa 1 10000 && (betw s.sl 1 s.fa && (betw s.sa 0 s.mg && (betw s.mg 1 20000 && (betw s.cr 1 1000000 && (betw s.mt 200 1200 && (betw s.md 100 400 && (betw s.de 200 1500 && (betw s.st 1000 30000 && (betw s.kn 0 1000 && betw s.sh 0 200))))))))))
def spcE (a : List Spc) (s : Spc) : Int := if nameL s.nm.data.toList = false then 6 else if hasN Spc.nm s.nm a = true then 7 else if s.ok = true then 0 else 9
def speciesE (l : List Spc) : Int := if 8 < l.length then 4 else scanAt spcE l 0

/-! ## schedules -/
structure Stg where
  (be ti te de : Int)
def Stg.ok (x : Stg) : Bool := betw x.be 0 20000 && (betw x.ti 0 10000 && (!(decide (x.be = 0) && decide (x.ti = 0)) && (betw x.te 200 1200 && betw x.de 0 400)))
def stgE (_ : List Stg) (x : Stg) : Int := if x.ok = true then 0 else 9
structure Sch where
  nm : ByteArray
  ramp : Int
  st : List Stg
def Sch.err (s : Sch) : Int :=
  if nameL s.nm.data.toList = false then 6 else if betw s.ramp 1 1200 = false then 9 else if s.st.length = 0 then 3 else if 12 < s.st.length then 4 else scanAt stgE s.st 0
/-! ## expressions, rules -/
def takes (op : Int) : Int := if op = 1 ∨ op = 2 then 0 else if op = 9 then 1 else 2
def isCond (op : Int) : Bool := decide (6 ≤ op) && decide (op ≤ 11)
def wants (op : Int) : Bool := decide (op = 9) || decide (op = 10) || decide (op = 11)
end StM
