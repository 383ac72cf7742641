/-
  Open: how two orders compare; the sort of indices as a stable sort.
-/
import Derived.Test.YtaflcbdbacogeaaDoorT4
import Derived.Test.YtaflcbdbacogeaaDoorQ2
set_option linter.unusedVariables false
set_option linter.unusedSimpArgs false
namespace Go.Proofs.YtaflcbdbacogeaaDoor
open Go.RowKit ReportM Go.Shelf Go.Lib Go.Sort

attribute [local go_sem] ExtOf.cell ExtOf.frozen ExtS.cell ExtS.frozen Block.cell Block.frozen ExtB.cell ExtB.frozen alloc_cell alloc_frozen
def dueOf (d : List Du) (i : Nat) : Int := (d[i]?.map (·.due)).getD 0
def shOf (d : List Du) (i : Nat) : Bool := (d[i]?.map (·.sh)).getD true
def ltO (d : List Du) (a b : Nat) : Prop := dueOf d a < dueOf d b ∨ dueOf d a = dueOf d b ∧ a < b
instance (d : List Du) (a b : Nat) : Decidable (ltO d a b) := by unfold ltO; infer_instance
/-- the open orders, in order -/
structure OpenOk (d : List Du) (L : List Nat) : Prop where
  mem : ∀ i, i ∈ L ↔ i < d.length ∧ shOf d i = false
  asc : L.Pairwise (ltO d)
theorem OpenOk.unique {d : List Du} {L M : List Nat} (h : OpenOk d L) (g : OpenOk d M) : L = M :=
  sorted_unique (r := ltO d) (fun a h => by unfold ltO at h; omega) (fun a b h k => by unfold ltO at h k; omega) h.asc g.asc (fun x => by rw [h.mem, g.mem])
set_option maxHeartbeats 800000 in
theorem opencmp_any (d : List Du) (b1 a b : Nat) (vl vi : Value) (po : Option Addr) (co : Nat) (w : World) (hb : Block w b1 #[.int .i64 0, .slice none 0 0, vl, vi, .slice none 0 0, .slice po d.length co, .int .i64 0, .int .i64 0, .slice none 0 0, .slice none 0 0]) (ho : SliceOf encDm 12 w (.slice po d.length co) d) (ha : a < d.length) (hb' : b < d.length) :
    Calls Tryd.prog 35 #[.int .i64 (a : Int), .int .i64 (b : Int), .pointer (some ⟨b1, 0, none⟩)] w fun e w' => e = .returned (.int .i64 (Lib.compareInt (dueOf d a) (dueOf d b))) ∧ ∃ q, w' = w.drewN q := by
  have hlen : d.length ≤ 9223372036854775807 := by
    obtain ⟨_, _, _, h2, h3, _⟩ := ho
    unfold maxLen at h3; omega
  obtain ⟨bo, oo, rfl, ra⟩ := SliceOf.elemK ho ha
  obtain ⟨b', o', e', rb⟩ := SliceOf.elemK ho hb'
  simp only [Option.some.injEq, Addr.mk.injEq, and_true] at e'
  obtain ⟨rfl, rfl⟩ := e'
  have ca : w.cell? ⟨bo, oo + a * 12 + 10, none⟩ = some (.int .i64 (dueOf d a)) := by
    have := ra 10 _ rfl
    simpa [dueOf, ha] using this
  have cb : w.cell? ⟨bo, oo + b * 12 + 10, none⟩ = some (.int .i64 (dueOf d b)) := by
    have := rb 10 _ rfl
    simpa [dueOf, hb'] using this
  have c5 : w.cell? ⟨b1, 5, none⟩ = some (.slice (some ⟨bo, oo, none⟩) d.length co) := Block.cell (h := hb) 5
  clear ra rb ho hb
  go_enter Tryd.func35, Tryd.ntmps35
  go_wp2
  go_quiet ((go_at_call 36; exact Calls.quiet_of_same (Tryd.cmp_Compare_int _ _ _)))
  go_wp2
  go_ret
  exact ⟨rfl, _, rfl⟩
section
variable (d : List Du) (op : List Nat)
def encI (i : Fin op.length) : Value := .int .i64 ((op[i] : Nat) : Int)
def cmpI (i j : Fin op.length) : Int := Lib.compareInt (dueOf d op[i]) (dueOf d op[j])
def TI (i j : Fin op.length) : Bool := decide (dueOf d op[i] < dueOf d op[j] ∨ dueOf d op[i] = dueOf d op[j] ∧ i.val < j.val)
theorem encI_one : OneCell (encI op) := fun i => by simp [encI, Value.oneCell']
theorem ltI (i j : Fin op.length) : ltOf (cmpI d op) i j = decide (dueOf d op[i] < dueOf d op[j]) := by
  unfold ltOf cmpI Lib.compareInt
  rw [decide_eq_decide]
  repeat' split <;> omega
theorem swoT : SWO (TI d op) where
  irrefl x := by simp [TI]
  trans x y z h1 h2 := by simp only [TI, decide_eq_true_eq] at *; omega
  ntrans x y z h1 h2 := by simp only [TI, decide_eq_false_iff_not] at *; omega
theorem agreeI {i j : Fin op.length} (h : i.val < j.val) : ltOf (cmpI d op) j i = TI d op j i := by
  rw [ltI]
  unfold TI
  rw [decide_eq_decide]
  omega
def dI : Array (Fin op.length) := (List.finRange op.length).toArray
theorem dI_size : (dI op).size = op.length := by simp [dI]
theorem dI_get [ih : Inhabited (Fin op.length)] (j : Nat) (hj : j < op.length) : (dI op)[j]! = ⟨j, hj⟩ := by
  have h2 : j < (dI op).size := by rw [dI_size]; exact hj
  rw [getElem!_pos (dI op) j h2]
  simp [dI]
/-- what is asked of the sort: the row holds the indices in the order of T -/
def SortOk (m : Nat) : Prop := ∀ (d : List Du) (op : List Nat) [Inhabited (Fin op.length)] (g cap b1 : Nat) (w : World) (cb : Array Value), op.length ≤ m →
  CmpLays1 Tryd.prog 35 cb (encI op) (cmpI d op) g 0 op.length w → Holds (encI op) w g 0 (dI op) → g < w.heap.size →
  Calls Tryd.prog 34 #[.slice (some ⟨g, 0, none⟩) op.length cap, .func (.func 35) #[] cb] w fun e w' => e = .returned (.tuple #[]) ∧ ∃ d' : Array (Fin op.length), PermIn 0 op.length (dI op) d' ∧ SortedIn (TI d op) 0 op.length d' ∧ SW (encI op) w g 0 d' w'
end
end Go.Proofs.YtaflcbdbacogeaaDoor
