/-
  Records of the chapter on reports: how boards, logs and orders of a mill lie in memory.
-/
import Derived.Test.YtaflcbdbacogeaaDoorRows
import Derived.Test.YtaflcbdbacogeaaDoorStr
set_option linter.unusedVariables false
set_option linter.unusedSimpArgs false
namespace Go.Proofs.YtaflcbdbacogeaaDoor
open Go.RowKit

attribute [local go_sem] ExtOf.cell ExtOf.frozen Block.cell Block.frozen
structure Y5 where
  (lg bo ch du va : Int)
structure Pl where
  (pr ln gr vo pl : Int)
structure Sw where
  (sp : ByteArray) (sn : Bool) (y : Y5)
structure Du where
  (due : Int) (sh : Bool)
structure It where
  (pr za zb gr vo pl : Int)
def encY (y : Y5) : List Value := [.int .i64 y.lg, .int .i64 y.bo, .int .i64 y.ch, .int .i64 y.du, .int .i64 y.va]
def encPl (x : Pl) : List Value := [.int .i64 x.pr, .int .i64 x.ln, .int .i64 x.gr, .int .u32 x.vo, .int .i64 x.pl]
def encSw (x : Sw) : List Value := [.string x.sp, .bool x.sn, .int .i64 x.y.lg, .int .i64 x.y.bo, .int .i64 x.y.ch, .int .i64 x.y.du, .int .i64 x.y.va]
def encDu (x : Du) : List Value := [.int .i64 x.due, .bool x.sh]
def encIt (x : It) : List Value := [.string ⟨#[]⟩, .string ⟨#[]⟩, .string ⟨#[]⟩, .int .i64 x.pr, .int .i64 0, .int .i64 0, .int .i64 0, .int .i64 0, .int .i64 x.za, .int .i64 x.zb, .int .i64 x.vo, .slice none 0 0, .int .i64 0, .int .i64 0, .int .i64 0, .int .i64 0, .bool false, .int .i64 x.gr, .int .i64 x.pl, .string ⟨#[]⟩, .string ⟨#[]⟩, .string ⟨#[]⟩]
def encLg (x : Sw) : List Value := [.string ⟨#[]⟩, .string ⟨#[]⟩, .string x.sp, .int .i64 0, .bool false, .bool x.sn, .slice none 0 0, .slice none 0 0, .int .i64 0, .int .i64 0, .int .i64 0, .int .i64 0, .int .i64 0, .slice none 0 0, .int .i64 x.y.lg, .int .i64 x.y.bo, .int .i64 x.y.ch, .int .i64 x.y.du, .int .i64 x.y.va]
def encDm (x : Du) : List Value := [.string ⟨#[]⟩, .string ⟨#[]⟩, .int .i64 0, .int .i64 0, .int .i64 0, .int .i64 0, .int .i64 0, .int .i64 0, .int .i64 0, .int .i64 0, .int .i64 x.due, .bool x.sh]
theorem encPl_len (x : Pl) : (encPl x).length = 5 := rfl
theorem encSw_len (x : Sw) : (encSw x).length = 7 := rfl
theorem encDu_len (x : Du) : (encDu x).length = 2 := rfl
theorem encIt_len (x : It) : (encIt x).length = 22 := rfl
theorem encLg_len (x : Sw) : (encLg x).length = 19 := rfl
theorem encDm_len (x : Du) : (encDm x).length = 12 := rfl
theorem encIt_one (x : It) : ∀ u ∈ encIt x, u.oneCell' = true := by simp [encIt, Value.oneCell']
theorem encLg_one (x : Sw) : ∀ u ∈ encLg x, u.oneCell' = true := by simp [encLg, Value.oneCell']
theorem encDm_one (x : Du) : ∀ u ∈ encDm x, u.oneCell' = true := by simp [encDm, Value.oneCell']
def clampL (n : Int) : Int := max 0 (min n 1073741824)
theorem lwB : Whole Tryd.prog 97 18 := whole_of Tryd.underlying97 rfl (by kernel_rfl)
theorem lwSt : Whole Tryd.prog 36 10 := whole_of Tryd.underlying36 rfl (by kernel_rfl)
theorem lwRSt : Whole Tryd.prog 42 10 := whole_of Tryd.underlying42 rfl (by kernel_rfl)
theorem lwIt : Whole Tryd.prog 100 22 := whole_of Tryd.underlying100 rfl (by kernel_rfl)
theorem lwRIt : Whole Tryd.prog 101 22 := whole_of Tryd.underlying101 rfl (by kernel_rfl)
theorem lwLg : Whole Tryd.prog 111 19 := whole_of Tryd.underlying111 rfl (by kernel_rfl)
theorem lwDm : Whole Tryd.prog 116 12 := whole_of Tryd.underlying116 rfl (by kernel_rfl)
theorem lwY : Whole Tryd.prog 65 5 := whole_of Tryd.underlying65 rfl (by kernel_rfl)
theorem midPl : Mid Tryd.prog 80 5 := mid_of Tryd.underlying80 rfl (by kernel_rfl)
theorem midY : Mid Tryd.prog 65 5 := mid_of Tryd.underlying65 rfl (by kernel_rfl)
theorem midIt : Mid Tryd.prog 100 22 := mid_of Tryd.underlying100 rfl (by kernel_rfl)
theorem midRIt : Mid Tryd.prog 101 22 := mid_of Tryd.underlying101 rfl (by kernel_rfl)
theorem midLg : Mid Tryd.prog 111 19 := mid_of Tryd.underlying111 rfl (by kernel_rfl)
theorem midRLg : Mid Tryd.prog 112 19 := mid_of Tryd.underlying112 rfl (by kernel_rfl)
theorem midDm : Mid Tryd.prog 116 12 := mid_of Tryd.underlying116 rfl (by kernel_rfl)
theorem midRDm : Mid Tryd.prog 117 12 := mid_of Tryd.underlying117 rfl (by kernel_rfl)
set_option maxHeartbeats 800000 in
theorem board_any (pr ln gr vo pl : Int) (z : Nat) (w : World) (hz : z ≤ 1048576) (h0 : 0 ≤ vo) (h1 : vo < 4294967296) :
    Calls Tryd.prog 23 #[.agg #[.int .i64 pr, .int .i64 ln, .int .i64 gr, .int .u32 vo, .int .i64 pl], .int .i64 (z : Int)] w fun e w' => e = .returned (.agg #[.string ⟨#[]⟩, .string ⟨#[]⟩, .string ⟨#[]⟩, .int .i64 pr, .int .i64 0, .int .i64 0, .int .i64 0, .int .i64 0, .int .i64 (z : Int), .int .i64 ((z + clampL ln)), .int .i64 vo, .slice none 0 0, .int .i64 0, .int .i64 0, .int .i64 0, .int .i64 0, .bool false, .int .i64 gr]) ∧ ∃ n : ExtOf w, w' = n.val := by
  go_enter Tryd.func23, Tryd.ntmps23
  go_wp2_with (first | ((with_reducible apply wl_store' lwB); (· (first | exact wanted_none rfl | exact wanted_some rfl rfl rfl)); (· rfl); (· rfl); (· infer_instance); (· rfl); (· rfl); (· (simp [Value.oneCell'])); try simp only [setRow_alloc, setRow_new, setRow_new1, setRow_new2, setRow_new11, setRow_new111]))
  all_goals
    refine bodyPost_ret (results_c1 (b0 := w.heap.size + 1) rfl lwB rfl inferInstance rfl) rfl ⟨?_, ?_⟩
    · simp [clampL]; omega
    · exact ExtOf.of (by repeat' (first | (with_reducible exact Ext.refl _) | (with_reducible exact ExtOf.ext _) | (with_reducible refine Ext.trans ?_ (ExtOf.ext _)) | (with_reducible refine Ext.alloc ?_ _) | (with_reducible refine Ext.drew ?_) | (with_reducible refine Ext.setCell ?_ ?_ _) | (with_reducible refine Ext.setRow ?_ ?_ _) | (with_reducible exact HX.out) | (with_reducible refine Ext.trans ?_ HX.out) | (with_reducible refine Ext.below ?_ (Nat.le_refl _) _) | omega | (simp; done) | (simp; omega)))
theorem board_pl (x : Pl) (z : Nat) (w : World) (hz : z ≤ 1048576) (h : 0 ≤ x.vo ∧ x.vo < 4294967296) :
    Calls Tryd.prog 23 #[.agg (encPl x).toArray, .int .i64 (z : Int)] w fun e w' => e = .returned (.agg #[.string ⟨#[]⟩, .string ⟨#[]⟩, .string ⟨#[]⟩, .int .i64 x.pr, .int .i64 0, .int .i64 0, .int .i64 0, .int .i64 0, .int .i64 (z : Int), .int .i64 ((z + clampL x.ln)), .int .i64 x.vo, .slice none 0 0, .int .i64 0, .int .i64 0, .int .i64 0, .int .i64 0, .bool false, .int .i64 x.gr]) ∧ ∃ n : ExtOf w, w' = n.val := board_any x.pr x.ln x.gr x.vo x.pl z w hz h.1 h.2
/-- w' is w but for block b and what lies from block B on -/
structure Keep (w w' : World) (B b : Nat) : Prop where
  heap : ∀ q, q < B → q ≠ b → w'.heap[q]? = w.heap[q]?
  size : w.heap.size ≤ w'.heap.size
  rest : w'.os = w.os ∧ w'.tape = w.tape ∧ w'.output = w.output
theorem Keep.block {w w' : World} {B b q : Nat} {cs : Array Value} (h : Keep w w' B b) (hB : Block w q cs) (h1 : q < B) (h2 : q ≠ b) : Block w' q cs := by
  obtain ⟨t, e⟩ := hB.get
  exact ⟨⟨t, by rw [h.heap q h1 h2]; exact e⟩⟩
theorem Keep.slice {α : Type} {enc : α → List Value} {k : Nat} {w w' : World} {B b : Nat} {p : Option Addr} {n cap : Nat} {l : List α} (h : Keep w w' B b) (hs : SliceOf enc k w (.slice p n cap) l) (hne : ∀ a, p = some a → a.block < B ∧ a.block ≠ b) : SliceOf enc k w' (.slice p n cap) l := by
  obtain ⟨p', cap', e, h1, h2, h3, h4⟩ := hs
  refine ⟨p', cap', e, h1, h2, h3, fun i x hi => ?_⟩
  obtain ⟨b', off, hp, hc⟩ := h4 i x hi
  simp only [Value.slice.injEq] at e
  obtain ⟨rfl, _, _⟩ := e
  obtain ⟨g1, g2⟩ := hne _ hp
  refine ⟨b', off, hp, fun j u hj => ?_⟩
  have := hc j u hj
  rw [← this]
  simp only [World.cell?]
  rw [h.heap b' g1 g2]
theorem Keep.ext {w0 w w' : World} {B b : Nat} (h : Keep w w' B b) (hx : Ext w0 w) (h1 : w0.heap.size ≤ b) (h2 : w0.heap.size ≤ B) : Ext w0 w' :=
  Below.trans hx ⟨h.rest.1, h.rest.2.1, h.rest.2.2, h.size, fun q hq => h.heap q (by omega) (by omega)⟩
theorem Keep.of {w w1 : World} {B b i : Nat} {v : Value} (h1 : Ext w w1) (n : ExtB B w1) (hB : B ≤ w.heap.size) : Keep w (n.val.setCell ⟨b, i, none⟩ v) B b := by
  have h2 := n.below
  refine ⟨fun q hq hne => ?_, ?_, ?_⟩
  · rw [Below.heap_setCell _ _ _ _ hne, h2.block q hq, h1.block q (by omega)]
  · have := h1.size; have := h2.size; simp [World.setCell]; omega
  · have e1 := h1.os; have e2 := h1.tape; have e3 := h1.output
    exact ⟨by simp [World.setCell, h2.os, h1.os], by simp [World.setCell, h2.tape, h1.tape], by simp [World.setCell, h2.output, h1.output]⟩
theorem Own.set_low {α : Type} {enc : α → List Value} {k E base g i : Nat} {w : World} {v : Value} {r : List α} (h : Own enc k E base w v r) (hg : g < base) (x : Value) : Own enc k E base (w.setCell ⟨g, i, none⟩ x) v r := by
  refine ⟨h.1, ?_⟩
  rcases h.2 with hn | ⟨g', cap, cur, rfl, hb, hgg, rest⟩
  · exact .inl hn
  · refine .inr ⟨g', cap, cur, rfl, hb, ?_, rest⟩
    rw [Below.heap_setCell _ _ _ _ (show g' ≠ g by omega)]
    exact hgg
theorem Own.formS {α : Type} {enc : α → List Value} {k E base : Nat} {w : World} {v : Value} {l : List α} {y : α} (h : Own enc k E base w v (l ++ [y])) : ∃ g cap, v = .slice (some ⟨g, 0, none⟩) (l.length + 1) cap ∧ base ≤ g ∧ g < w.heap.size := by
  obtain ⟨hl, hn | ⟨g, cap, cur, rfl, hb, hg, _⟩⟩ := h
  · obtain ⟨_, hn⟩ := hn
    simp at hn
  · exact ⟨g, cap, by simp, hb, (Array.getElem?_eq_some_iff.1 hg).1⟩
/-- where a slice of the call's own lies -/
theorem Own.low {α : Type} {enc : α → List Value} {k E base : Nat} {w : World} {v : Value} {l : List α} (h : Own enc k E base w v l) : ∃ p n cap, v = .slice p n cap ∧ n = l.length ∧ ∀ a, p = some a → base ≤ a.block ∧ a.block < w.heap.size := by
  obtain ⟨hl, ⟨rfl, hn⟩ | ⟨g, cap, cur, rfl, hb, hg, _⟩⟩ := h
  · exact ⟨none, 0, 0, rfl, hn.symm, fun a h => by cases h⟩
  · exact ⟨_, _, cap, rfl, rfl, fun a h => by obtain rfl := Option.some.inj h; exact ⟨hb, (Array.getElem?_eq_some_iff.1 hg).1⟩⟩
end Go.Proofs.YtaflcbdbacogeaaDoor
