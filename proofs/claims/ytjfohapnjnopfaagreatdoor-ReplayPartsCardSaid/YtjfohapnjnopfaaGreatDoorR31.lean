/-
  Chapter 61: the program's links.
-/
import Derived.Test.YtjfohapnjnopfaaGreatDoorR29
import Derived.Test.YtjfohapnjnopfaaGreatDoorLC
import Derived.Test.YtjfohapnjnopfaaGreatDoorMA
set_option linter.unusedVariables false
set_option linter.unusedSimpArgs false
namespace Go.Proofs.YtjfohapnjnopfaaGreatDoor
open Go.RowKit RepM

attribute [local go_sem] ExtOf.cell ExtOf.frozen Block.cell Block.frozen ExtB.cell ExtB.frozen alloc_cell alloc_frozen
attribute [local go_sem] Oper.semAt_some
theorem lwLk : Whole Tryz.prog 114 3 := whole_of Tryz.underlying114 rfl (by kernel_rfl)
def kvS (s : ByteArray) : Value := .string s
/-- sets of strings -/
abbrev StrM (w : World) (b n : Nat) (S : ByteArray → Bool) : Prop := SMap Tryz.prog 9 kvS w b n S
theorem kvS_inj : ∀ x y : ByteArray, kvS x = kvS y → x = y := fun x y h => by simpa [kvS] using h
theorem key_str {s : ByteArray} (h : s.size ≤ 8) : ∃ l, keyOf Tryz.prog 9 (kvS s) = some l := ⟨_, Go.WideMaps.keyOf_string_mk Tryz.underlying9 (by unfold maxLen; omega)⟩
theorem str_look {w : World} {b N : Nat} {S : ByteArray → Bool} (h : StrM w b N S) {s : ByteArray} (hs : s.size ≤ 8) : (Instr.lookup 112 (.map (some b)) (.string s) false).run Tryz.prog w = .ok (.bool (S s)) w :=
  SMap.lookup h (Go.Maps.string_keyed Tryz.underlying9) Tryz.underlying112 zero_bool (x := s) (key_str hs)
theorem str_store {w : World} {b N : Nat} {LL : List ByteArray} (h : StrM w b N (fun x => memB x LL)) (hN : N ≤ 100000000) {s : ByteArray} (hs : s.size ≤ 8) : ∃ W', (Instr.mapUpdate 112 (.map (some b)) (.string s) (.bool true)).run Tryz.prog w = .ok () W' ∧ StrM W' b (N + 1) (fun x => memB x (s :: LL)) ∧ w.grownBy W' (some b) := by
  obtain ⟨W', h1, h2, h3⟩ := SMap.store (kv := kvS) h (Go.Maps.string_keyed Tryz.underlying9) kvS_inj Tryz.underlying112 (by unfold maxLen; omega) (x := s) (key_str hs)
  exact ⟨W', h1, h2.congr (fun x => by simp only [memB, List.any_cons, eq_comm]), h3⟩
/-- what is handed back of links -/
def LnkR (w : World) (l : List Ev) (F : List Int) (en : Ending) (w' : World) : Prop :=
  ∃ (b1 b2 b3 n1 n2 n3 : Nat) (LL PL : List ByteArray) (OL : List Int), en = .returned (.agg #[.map (some b1), .map (some b2), .map (some b3)]) ∧ StrM w' b1 n1 (fun x => memB x LL) ∧ StrM w' b2 n2 (fun x => memB x PL) ∧ FamS w' b3 n3 (fun x => decide (x ∈ OL)) ∧
    (∀ s, s ∈ LL ↔ Logs num l (· ∈ F) s) ∧ (∀ p, p ∈ PL ↔ Permits num l (· ∈ F) p) ∧ (∀ o, o ∈ OL ↔ Orders l (· ∈ F) o) ∧ ∃ m : ExtOf w, w' = m.val
theorem SMap.same {P : Program} {k : TypeId} {κ : Type} {kv : κ → Value} {W W' : World} {b n : Nat} {S : κ → Bool} (h : SMap P k kv W b n S) (hh : ∀ (q : Nat) (o : Obj), W.heap[q]? = some o → o.isCells = false → (∀ l, o ≠ Obj.deferred l) → W'.heap[q]? = some o) : SMap P k kv W' b n S := by
  obtain ⟨D, ⟨es, clock, hb, rest⟩, r⟩ := h
  exact ⟨D, ⟨es, clock, hh b _ hb rfl (fun l e => by cases e), rest⟩, r⟩
theorem Marks.later {base : Nat} {w w' : World} {ds : List Deferred} (h : Marks base w ds) (hx : Ext w w') : Marks base w' ds := h.keep (fun D _ hD => (hx.block D (Array.getElem?_eq_some_iff.1 hD).1).trans hD)
theorem Marks.grown {P : Program} {k : TypeId} {κ : Type} {kv : κ → Value} {base b n : Nat} {w w' : World} {S : κ → Bool} {ds : List Deferred} (h : Marks base w ds) (hg : w.grownBy w' (some b)) (hm : SMap P k kv w b n S) : Marks base w' ds := h.keep (fun D _ hD => by
  refine (hg.block D (Array.getElem?_eq_some_iff.1 hD).1 (fun e => ?_)).trans hD
  cases e
  obtain ⟨D', ⟨es, clock, hb, _⟩, _⟩ := hm
  rw [hb] at hD
  cases hD)
theorem fam_store {w : World} {b N : Nat} {OL : List Int} (h : FamS w b N (fun x => decide (x ∈ OL))) (hN : N ≤ 100000000) {x : Int} (hx : -1099511627776 ≤ x ∧ x ≤ 1099511627776) : ∃ W', (Instr.mapUpdate 71 (.map (some b)) (.int .i64 x) (.bool true)).run Tryz.prog w = .ok () W' ∧ FamS W' b (N + 1) (fun y => decide (y ∈ x :: OL)) ∧ w.grownBy W' (some b) := by
  obtain ⟨W', h1, h2, h3⟩ := SMap.store (kv := kvI) h (Go.Maps.int_keyed Tryz.underlying3) kvI_inj Tryz.underlying71 (by unfold maxLen; omega) (x := x) (key_int hx)
  exact ⟨W', h1, h2.congr (fun y => by simp [Bool.decide_or]), h3⟩
theorem keeps_grown {B b : Nat} {W W' : World} (hg : W.grownBy W' (some b)) (hb : b < B) : KeepsFrom B W W' := ⟨hg.size, fun k o hk h0 _ => (hg.block k (Array.getElem?_eq_some_iff.1 h0).1 (fun e => by cases e; omega)).trans h0⟩
/-- the values of the regions that look at a pair -/
def lkV (fb W0 bb off : Nat) (m0 m1 : Int) (c : Bool) : Nat → Value
  | 69 => .map (some fb)
  | 70 => .slice (some ⟨bb, off, none⟩) 2 2
  | 71 => .pointer (some ⟨bb, off + 1, none⟩)
  | 72 => .int .i64 m1
  | 73 => .bool c
  | 74 => .pointer (some ⟨W0 + 1 + 1 + 1, 2, none⟩)
  | 75 => .map (some (W0 + 1 + 1))
  | 76 => .slice (some ⟨bb, off, none⟩) 2 2
  | 77 => .pointer (some ⟨bb, off, none⟩)
  | 78 => .int .i64 m0
  | _ => undef
def lkW (fb W0 bb off : Nat) (m0 m1 : Int) (c : Bool) (d : Nat) (v : Value) : Prop := v = lkV fb W0 bb off m0 m1 c d
/-- the links under way: what does not turn -/
structure LkA (B W0 : Nat) (w : World) (fb : Nat) (wr : World) : Prop where
  box : Block wr B #[.map (some fb)]
  res : Block wr (B + 1) #[.map none, .map none, .map none]
  lnk : Block wr (W0 + 1 + 1 + 1) #[.map (some W0), .map (some (W0 + 1)), .map (some (W0 + 1 + 1))]
  ext : Ext w wr
  size : W0 + 4 ≤ wr.heap.size
theorem LkA.later {B W0 fb : Nat} {w wr w' : World} (h : LkA B W0 w fb wr) (hx : Ext wr w') : LkA B W0 w fb w' := ⟨h.box.ext hx, h.res.ext hx, h.lnk.ext hx, h.ext.trans hx, Nat.le_trans h.size hx.size⟩
theorem LkA.grown {B W0 fb : Nat} {w wr w' : World} {row : Option Nat} (h : LkA B W0 w fb wr) (hg : wr.grownBy w' row) (hr : ∀ r, row = some r → w.heap.size ≤ r ∧ ∃ o : Obj, wr.heap[r]? = some o ∧ o.isCells = false) : LkA B W0 w fb w' :=
  ⟨block_grown h.box hg (fun r e => (hr r e).2), block_grown h.res hg (fun r e => (hr r e).2), block_grown h.lnk hg (fun r e => (hr r e).2), ext_grown h.ext hg (fun r e => (hr r e).1), Nat.le_trans h.size hg.size⟩
/-- the links under way, in the second loop -/
structure LkB (l : List Ev) (F : List Int) (LL : List ByteArray) (B W0 fe : Nat) (w : World) (fb N n1 k : Nat) (FE PL : List ByteArray) (OL : List Int) (n3 : Nat) (ds : List Deferred) (wr : World) : Prop where
  a : LkA B W0 w fb wr
  fam : FamS wr fb N (fun x => decide (x ∈ F))
  logs : StrM wr W0 n1 (fun x => memB x LL)
  perm : StrM wr (W0 + 1) PL.length (fun x => memB x PL)
  ords : FamS wr (W0 + 1 + 1) n3 (fun x => decide (x ∈ OL))
  fell : StrM wr fe FE.length (fun x => memB x FE)
  und : UndI l LL k FE PL
  ord : OrdI l F k OL
  cnt : FE.length ≤ k ∧ PL.length ≤ k ∧ n3 ≤ 1000 * k
  mks : Marks w.heap.size wr ds
set_option maxHeartbeats 3200000 in
set_option maxRecDepth 20000 in
theorem plinks_any (l : List EvP) (v : Value) (fb N : Nat) (F : List Int) (w : World) (h : PastS w v l) (hF : FamS w fb N (fun x => decide (x ∈ F))) (hN : N ≤ 1000000) (hw : ∀ n ∈ F, -1099511627776 ≤ n ∧ n ≤ 1099511627776) : Calls Tryz.prog 76 #[v, .map (some fb)] w (LnkR w (evs l) F) := by
  obtain ⟨p, cap, rfl, hc1, hc2, hc3⟩ := EvsS.form h.ev
  unfold maxLen at hc2
  have hlen := h.len
  have H := Lib.hid h
  have HF := Lib.hid hF
  have HW := Lib.hid hw
  clear h hF hw
  have hmm : ∀ W : World, (Instr.makeMap 112 none).run Tryz.prog W = .ok (.map (some W.heap.size)) (W.alloc (.map #[] 0)) := fun W => by kernel_rfl
  have hmb : ∀ W : World, (Instr.makeMap 71 none).run Tryz.prog W = .ok (.map (some W.heap.size)) (W.alloc (.map #[] 0)) := fun W => by kernel_rfl
  refine (callsIn_wide (n := 9)).1 ?_
  refine callsIn_of_wp_marks Tryz.func76 rfl trivial ?_ rfl
  simp only [Tryz.ntmps76, List.size_toArray, List.length_cons, List.length_nil, Nat.reduceAdd, Nat.reduceSub, Array.replicate_succ, Array.replicate_zero, List.push_toArray, List.append_toArray, List.nil_append, List.cons_append]
  refine wpIn_wide.2 ?_
  go_upto_region 1 with fail
  obtain ⟨B, hB⟩ : ∃ B, B = w.heap.size := ⟨_, rfl⟩
  obtain ⟨Wa, hWa⟩ : ∃ Wa, Wa = (w.alloc (.cells #[.map (some fb)] 71)).alloc (.cells #[.map none, .map none, .map none] 114) := ⟨_, rfl⟩
  have ha0 : Block Wa B #[.map (some fb)] := by rw [hWa, hB]; infer_instance
  have ha1 : Block Wa (B + 1) #[.map none, .map none, .map none] := by rw [hWa, hB]; infer_instance
  have hax : Ext w Wa := by rw [hWa]; repeat' (first | (with_reducible exact Ext.refl _) | (with_reducible exact ExtOf.ext _) | (with_reducible refine Ext.trans ?_ (ExtOf.ext _)) | (with_reducible refine Ext.alloc ?_ _) | (with_reducible refine Ext.drew ?_) | (with_reducible refine Ext.setCell ?_ ?_ _) | (with_reducible refine Ext.setRow ?_ ?_ _) | (with_reducible exact HX.out) | (with_reducible refine Ext.trans ?_ HX.out) | (with_reducible refine Ext.below ?_ (Nat.le_refl _) _) | omega | (simp; done) | (simp; omega))
  have has : Wa.heap.size = B + 2 := by rw [hWa, hB]; simp
  rw [← hWa, ← hB]
  obtain ⟨W0, hW0⟩ : ∃ W0, Wa.heap.size = W0 := ⟨_, rfl⟩
  have HB := Lib.hid hB
  have hBW1 : B + 2 ≤ W0 := by omega
  have hBW2 : W0 ≤ B + 2 := by omega
  have HAX := Lib.hid hax
  have hfb : fb < B := by have := HF.out.lt; omega
  clear hWa hB hax has
  have hm1 : StrM (Wa.alloc (.map #[] 0)) W0 0 (fun _ => false) := by rw [← hW0]; exact SMap.made Wa
  have hm2 : StrM ((Wa.alloc (.map #[] 0)).alloc (.map #[] 0)) (W0 + 1) 0 (fun _ => false) := by have := SMap.made (P := Tryz.prog) (k := 9) (kv := kvS) (Wa.alloc (.map #[] 0)); simpa [hW0] using this
  have hm3 : FamS (((Wa.alloc (.map #[] 0)).alloc (.map #[] 0)).alloc (.map #[] 0)) (W0 + 1 + 1) 0 (fun _ => false) := by have := SMap.made (P := Tryz.prog) (k := 3) (kv := kvI) ((Wa.alloc (.map #[] 0)).alloc (.map #[] 0)); simpa [hW0] using this
  have hb4 : Block ((((Wa.alloc (.map #[] 0)).alloc (.map #[] 0)).alloc (.map #[] 0)).alloc (.cells #[.map (some W0), .map (some (W0 + 1)), .map (some (W0 + 1 + 1))] 114)) (W0 + 1 + 1 + 1) #[.map (some W0), .map (some (W0 + 1)), .map (some (W0 + 1 + 1))] := by
    have := (inferInstance : Block ((((Wa.alloc (.map #[] 0)).alloc (.map #[] 0)).alloc (.map #[] 0)).alloc (.cells #[.map (some W0), .map (some (W0 + 1)), .map (some (W0 + 1 + 1))] 114)) (Wa.heap.size + 1 + 1 + 1) #[.map (some W0), .map (some (W0 + 1)), .map (some (W0 + 1 + 1))])
    rwa [hW0] at this
  have HM1 := Lib.hid hm1
  have HM2 := Lib.hid hm2
  have HM3 := Lib.hid hm3
  have HB4 := Lib.hid hb4
  clear hm1 hm2 hm3 hb4
  go_wp2_with (first | ((with_reducible apply wl_store' lwLk); (· (first | exact wanted_none rfl | exact wanted_some rfl rfl rfl)); (· rfl); (· rfl); (· infer_instance); (· rfl); (· rfl); (· (simp [Value.oneCell', SlT.v])); try simp only [setRow_alloc, setRow_new, setRow_new1, setRow_new2, setRow_new11, setRow_new111]) | ((with_reducible apply wl_load' lwLk); (· (first | exact wanted_none rfl | exact wanted_some rfl rfl rfl)); (· rfl); (· infer_instance); (· rfl)) | (at_range; refine wl_srange (n := N) (S := fun x => decide (x ∈ F)) (Go.Maps.int_keyed Tryz.underlying3) Tryz.underlying71 rfl (SMap.ext HF.out (HAX.out.trans (by repeat' (first | (with_reducible exact Ext.refl _) | (with_reducible exact ExtOf.ext _) | (with_reducible refine Ext.trans ?_ (ExtOf.ext _)) | (with_reducible refine Ext.alloc ?_ _) | (with_reducible refine Ext.drew ?_) | (with_reducible refine Ext.setCell ?_ ?_ _) | (with_reducible refine Ext.setRow ?_ ?_ _) | (with_reducible exact HX.out) | (with_reducible refine Ext.trans ?_ HX.out) | (with_reducible refine Ext.below ?_ (Nat.le_refl _) _) | omega | (simp; done) | (simp; omega))))) ?_; intro W1 cnt hran hx1 hs1; go_frame))
  have HX1 := Lib.hid hx1
  clear hx1
  simp only [World.size_alloc, hW0] at hran hs1 ⊢
  have hcle := hran.cnt_le
  have HR1 := Lib.hid hran
  have HL1 : Hid (LkA B W0 w fb W1) := Lib.hid ⟨(ha0.ext (by repeat' (first | (with_reducible exact Ext.refl _) | (with_reducible exact ExtOf.ext _) | (with_reducible refine Ext.trans ?_ (ExtOf.ext _)) | (with_reducible refine Ext.alloc ?_ _) | (with_reducible refine Ext.drew ?_) | (with_reducible refine Ext.setCell ?_ ?_ _) | (with_reducible refine Ext.setRow ?_ ?_ _) | (with_reducible exact HX.out) | (with_reducible refine Ext.trans ?_ HX.out) | (with_reducible refine Ext.below ?_ (Nat.le_refl _) _) | omega | (simp; done) | (simp; omega)))).ext HX1.out, (ha1.ext (by repeat' (first | (with_reducible exact Ext.refl _) | (with_reducible exact ExtOf.ext _) | (with_reducible refine Ext.trans ?_ (ExtOf.ext _)) | (with_reducible refine Ext.alloc ?_ _) | (with_reducible refine Ext.drew ?_) | (with_reducible refine Ext.setCell ?_ ?_ _) | (with_reducible refine Ext.setRow ?_ ?_ _) | (with_reducible exact HX.out) | (with_reducible refine Ext.trans ?_ HX.out) | (with_reducible refine Ext.below ?_ (Nat.le_refl _) _) | omega | (simp; done) | (simp; omega)))).ext HX1.out, HB4.out.ext HX1.out, HAX.out.trans (Ext.trans (by repeat' (first | (with_reducible exact Ext.refl _) | (with_reducible exact ExtOf.ext _) | (with_reducible refine Ext.trans ?_ (ExtOf.ext _)) | (with_reducible refine Ext.alloc ?_ _) | (with_reducible refine Ext.drew ?_) | (with_reducible refine Ext.setCell ?_ ?_ _) | (with_reducible refine Ext.setRow ?_ ?_ _) | (with_reducible exact HX.out) | (with_reducible refine Ext.trans ?_ HX.out) | (with_reducible refine Ext.below ?_ (Nat.le_refl _) _) | omega | (simp; done) | (simp; omega))) HX1.out), by omega⟩
  have HMA : Hid (StrM W1 W0 0 (fun x => memB x []) ∧ StrM W1 (W0 + 1) 0 (fun x => memB x []) ∧ FamS W1 (W0 + 1 + 1) 0 (fun x => decide (x ∈ ([] : List Int)))) := Lib.hid ⟨(SMap.ext HM1.out (Ext.trans (by repeat' (first | (with_reducible exact Ext.refl _) | (with_reducible exact ExtOf.ext _) | (with_reducible refine Ext.trans ?_ (ExtOf.ext _)) | (with_reducible refine Ext.alloc ?_ _) | (with_reducible refine Ext.drew ?_) | (with_reducible refine Ext.setCell ?_ ?_ _) | (with_reducible refine Ext.setRow ?_ ?_ _) | (with_reducible exact HX.out) | (with_reducible refine Ext.trans ?_ HX.out) | (with_reducible refine Ext.below ?_ (Nat.le_refl _) _) | omega | (simp; done) | (simp; omega))) HX1.out)).congr (fun _ => rfl), (SMap.ext HM2.out (Ext.trans (by repeat' (first | (with_reducible exact Ext.refl _) | (with_reducible exact ExtOf.ext _) | (with_reducible refine Ext.trans ?_ (ExtOf.ext _)) | (with_reducible refine Ext.alloc ?_ _) | (with_reducible refine Ext.drew ?_) | (with_reducible refine Ext.setCell ?_ ?_ _) | (with_reducible refine Ext.setRow ?_ ?_ _) | (with_reducible exact HX.out) | (with_reducible refine Ext.trans ?_ HX.out) | (with_reducible refine Ext.below ?_ (Nat.le_refl _) _) | omega | (simp; done) | (simp; omega))) HX1.out)).congr (fun _ => rfl), (SMap.ext HM3.out (Ext.trans (by repeat' (first | (with_reducible exact Ext.refl _) | (with_reducible exact ExtOf.ext _) | (with_reducible refine Ext.trans ?_ (ExtOf.ext _)) | (with_reducible refine Ext.alloc ?_ _) | (with_reducible refine Ext.drew ?_) | (with_reducible refine Ext.setCell ?_ ?_ _) | (with_reducible refine Ext.setRow ?_ ?_ _) | (with_reducible exact HX.out) | (with_reducible refine Ext.trans ?_ HX.out) | (with_reducible refine Ext.below ?_ (Nat.le_refl _) _) | omega | (simp; done) | (simp; omega))) HX1.out)).congr (fun _ => by simp)⟩
  clear hran
  go_loopw [19] (fun _ wr => ∃ (L : Int → Bool) (c : Nat) (LL : List ByteArray), SRan Tryz.prog 3 kvI wr fb (W0 + 1 + 1 + 1 + 1) N (fun x => decide (x ∈ F)) L c ∧ StrM wr W0 LL.length (fun x => memB x LL) ∧ StrM wr (W0 + 1) 0 (fun x => memB x []) ∧ FamS wr (W0 + 1 + 1) 0 (fun x => decide (x ∈ ([] : List Int))) ∧ LogI F (log num (evs l)) L LL ∧ LL.length + c ≤ N ∧ LkA B W0 w fb wr) (fun _ wr => wr.rangeLeft fb (W0 + 1 + 1 + 1 + 1))
  case atStart => exact ⟨_, cnt, [], HR1.out, HMA.out.1, HMA.out.2.1, HMA.out.2.2, LogI.start _ _, by simpa using hcle, HL1.out⟩
  case round =>
    obtain ⟨L, c, LL, hrg, hs1, hs2, hs3, hlg, hcn, hlk⟩ := hrel
    have HRG := Lib.hid hrg
    have HS1 := Lib.hid hs1
    have HS2 := Lib.hid hs2
    have HS3 := Lib.hid hs3
    have HLG := Lib.hid hlg
    have HLK := Lib.hid hlk
    clear hrg hs1 hs2 hs3 hlg hlk
    go_wp2_with ((at_next; refine wl_snext (Go.Maps.int_keyed Tryz.underlying3) kvI_inj (fun key kl hk => by obtain ⟨x, rfl, _⟩ := Go.Maps.keyOf_int_inv Tryz.underlying3 hk; exact ⟨x, rfl⟩) rfl HRG.out ?_ ?_))
    · intro hdone
      have HLL : Hid (∀ s, s ∈ LL ↔ Logs num (evs l) (· ∈ F) s) := Lib.hid (fun s => HLG.out.done (fun n hn => by obtain ⟨k, hk⟩ := key_int (HW.out n hn); exact hdone n k hk) s)
      clear hdone
      have hlk1 := HLK.out.lnk
      go_frame
      go_wp2_with fail
      have HSA : Hid (LkB (evs l) F LL B W0 wr.heap.size w fb N LL.length 0 [] [] [] 0 [] (wr.alloc (.map #[] 0))) := Lib.hid ⟨HLK.out.later (by repeat' (first | (with_reducible exact Ext.refl _) | (with_reducible exact ExtOf.ext _) | (with_reducible refine Ext.trans ?_ (ExtOf.ext _)) | (with_reducible refine Ext.alloc ?_ _) | (with_reducible refine Ext.drew ?_) | (with_reducible refine Ext.setCell ?_ ?_ _) | (with_reducible refine Ext.setRow ?_ ?_ _) | (with_reducible exact HX.out) | (with_reducible refine Ext.trans ?_ HX.out) | (with_reducible refine Ext.below ?_ (Nat.le_refl _) _) | omega | (simp; done) | (simp; omega))), HRG.out.owns.ext (by repeat' (first | (with_reducible exact Ext.refl _) | (with_reducible exact ExtOf.ext _) | (with_reducible refine Ext.trans ?_ (ExtOf.ext _)) | (with_reducible refine Ext.alloc ?_ _) | (with_reducible refine Ext.drew ?_) | (with_reducible refine Ext.setCell ?_ ?_ _) | (with_reducible refine Ext.setRow ?_ ?_ _) | (with_reducible exact HX.out) | (with_reducible refine Ext.trans ?_ HX.out) | (with_reducible refine Ext.below ?_ (Nat.le_refl _) _) | omega | (simp; done) | (simp; omega))), HS1.out.ext (by repeat' (first | (with_reducible exact Ext.refl _) | (with_reducible exact ExtOf.ext _) | (with_reducible refine Ext.trans ?_ (ExtOf.ext _)) | (with_reducible refine Ext.alloc ?_ _) | (with_reducible refine Ext.drew ?_) | (with_reducible refine Ext.setCell ?_ ?_ _) | (with_reducible refine Ext.setRow ?_ ?_ _) | (with_reducible exact HX.out) | (with_reducible refine Ext.trans ?_ HX.out) | (with_reducible refine Ext.below ?_ (Nat.le_refl _) _) | omega | (simp; done) | (simp; omega))), HS2.out.ext (by repeat' (first | (with_reducible exact Ext.refl _) | (with_reducible exact ExtOf.ext _) | (with_reducible refine Ext.trans ?_ (ExtOf.ext _)) | (with_reducible refine Ext.alloc ?_ _) | (with_reducible refine Ext.drew ?_) | (with_reducible refine Ext.setCell ?_ ?_ _) | (with_reducible refine Ext.setRow ?_ ?_ _) | (with_reducible exact HX.out) | (with_reducible refine Ext.trans ?_ HX.out) | (with_reducible refine Ext.below ?_ (Nat.le_refl _) _) | omega | (simp; done) | (simp; omega))), HS3.out.ext (by repeat' (first | (with_reducible exact Ext.refl _) | (with_reducible exact ExtOf.ext _) | (with_reducible refine Ext.trans ?_ (ExtOf.ext _)) | (with_reducible refine Ext.alloc ?_ _) | (with_reducible refine Ext.drew ?_) | (with_reducible refine Ext.setCell ?_ ?_ _) | (with_reducible refine Ext.setRow ?_ ?_ _) | (with_reducible exact HX.out) | (with_reducible refine Ext.trans ?_ HX.out) | (with_reducible refine Ext.below ?_ (Nat.le_refl _) _) | omega | (simp; done) | (simp; omega))), (SMap.made wr).congr (fun _ => rfl), UndI.start _ _, OrdI.start _ _, by simp, trivial⟩
      have hfe0 : W0 + 4 ≤ wr.heap.size := HLK.out.size
      obtain ⟨fe, hfe⟩ : ∃ fe, fe = wr.heap.size := ⟨_, rfl⟩
      rw [← hfe] at HSA hfe0 ⊢
      clear hfe hlk1
      obtain ⟨I, hI⟩ : ∃ I : Act → World → Prop, I = fun a' w' => ∃ u11 u12 u36 u37 u38 u39 u40 u41 u42 u43 u44 u45 u46 u47 u48 u49 u50 u51 u52 u53 u54 u55 u56 u57 u58 u59 u60 u61 u62 u63 u64 u65 u66 u67 u68 u69 u70 u71 u72 u73 u74 u75 u76 u77 u78 u79 ds, (∃ (k : Nat) (FE PL : List ByteArray) (OL : List Int) (n3 : Nat), k ≤ l.length ∧ u36 = .int .i64 k ∧ LkB (evs l) F LL B W0 fe w fb N LL.length k FE PL OL n3 ds w') ∧ a' = { tmps := #[.slice p l.length cap, .map (some fb), undef, .pointer (some ⟨B, 0, none⟩), .pointer (some ⟨B + 1, 0, none⟩), .pointer (some ⟨W0 + 1 + 1 + 1, 0, none⟩), u6, u7, u8, .map (some fe), undef, u11, u12, .map (some W0), .map (some (W0 + 1)), .map (some (W0 + 1 + 1)), .agg #[.map (some W0), .map (some (W0 + 1)), .map (some (W0 + 1 + 1))], .map (some fb), .pointer (some ⟨W0 + 1 + 1 + 1 + 1, 0, none⟩), .tuple #[.bool false], .bool false, u21, u22, u23, u24, u25, u26, u27, u28, u29, u30, u31, u32, .map (some fe), .slice p l.length cap, .int .i64 l.length, u36, u37, u38, u39, u40, u41, u42, u43, u44, u45, u46, u47, u48, u49, u50, u51, u52, u53, u54, u55, u56, u57, u58, u59, u60, u61, u62, u63, u64, u65, u66, u67, u68, u69, u70, u71, u72, u73, u74, u75, u76, u77, u78, u79, undef], defers := ds } := ⟨_, rfl⟩
      obtain ⟨μ, hμ⟩ : ∃ μ : Act → World → Nat, μ = fun a' _ => l.length - (intOf (a'.tmps.getD 36 undef)).toNat := ⟨_, rfl⟩
      have HI := Lib.hid hI
      have HMU := Lib.hid hμ
      clear hI hμ
      refine wp_loop I μ ?start2 ?round2
      case start2 =>
        rw [HI.out]
        (repeat apply Exists.intro)
        refine ⟨?_, rfl⟩
        exact ⟨0, [], [], [], 0, by omega, rfl, HSA.out⟩
      case round2 =>
        intro a' wr hinv
        rw [HI.out] at hinv
        obtain ⟨u11, u12, u36, u37, u38, u39, u40, u41, u42, u43, u44, u45, u46, u47, u48, u49, u50, u51, u52, u53, u54, u55, u56, u57, u58, u59, u60, u61, u62, u63, u64, u65, u66, u67, u68, u69, u70, u71, u72, u73, u74, u75, u76, u77, u78, u79, ds, hrel, ha'⟩ := hinv
        subst ha'
        try dsimp only
        obtain ⟨k, FE, PL, OL, n3, hk, rfl, hR⟩ := hrel
        have HR := Lib.hid hR
        obtain ⟨S1, hS1⟩ : ∃ S1, S1 = wr := ⟨_, rfl⟩
        subst hS1
        clear hR
        by_cases hlt : k < l.length
        · have HKE : Hid (k < (evs l).length) := Lib.hid (by simpa using hlt)
          have hiw := H.out.ev.2 _ (List.getElem_mem hlt)
          obtain ⟨b, off, rfl, hr, hin⟩ := EvsS.elem (EvsS.ext H.out.ev HR.out.a.ext) hlt
          have hok := H.out.ok _ (List.getElem_mem hlt)
          have hgi : (evs l)[k]'(by simpa using hlt) = (l[k]).1 := evs_get (by simpa using hlt)
          obtain ⟨⟨x, sl⟩, he⟩ : ∃ z, z = l[k] := ⟨_, rfl⟩
          have he' := he.symm
          rw [← he] at hr hin hok hgi
          simp only at hok hin hgi
          clear he
          have HIN := Lib.hid hin
          have HOK := Lib.hid hok
          clear hin hok
          rw [show l[k] = (x, sl) from he'] at hiw
          have HIW0 := Lib.hid hiw
          clear hiw
          have HGI : Hid (∀ h : k < (evs l).length, (evs l)[k] = x) := Lib.hid (fun _ => hgi)
          have HRG2 : Hid (S1.rangeAt b (off + k * 6) [.int .i64 x.kind, .int .i64 x.at_, .string x.item, .string x.of, sl.v, .string x.text]) := Lib.hid hr
          clear hr hgi he'
          obtain ⟨q, nn, mc⟩ := sl
          simp only [SlT.v] at *
          obtain ⟨hit, hof⟩ := ok_item HOK.out
          have hlk3 := HR.out.a.lnk
          have hcnt := HR.out.cnt
          have hc1 : FE.length ≤ k := hcnt.1
          have hc2 : PL.length ≤ k := hcnt.2.1
          go_upto_region 12 with (first | ((with_reducible refine wl_loadM midEv (Ext.range ?_ (Hid.out HRG2)) ?_ ?_ ?_ ?_); (· repeat' (first | (with_reducible exact Ext.refl _) | (with_reducible exact ExtOf.ext _) | (with_reducible refine Ext.trans ?_ (ExtOf.ext _)) | (with_reducible refine Ext.alloc ?_ _) | (with_reducible refine Ext.drew ?_) | (with_reducible refine Ext.setCell ?_ ?_ _) | (with_reducible refine Ext.setRow ?_ ?_ _) | (with_reducible exact HX.out) | (with_reducible refine Ext.trans ?_ HX.out) | (with_reducible refine Ext.below ?_ (Nat.le_refl _) _) | omega | (simp; done) | (simp; omega))); (· rfl); (· (first | exact wanted_none rfl | exact wanted_some rfl rfl rfl)); (· rfl)) | ((with_reducible apply wl_store' lwEv); (· (first | exact wanted_none rfl | exact wanted_some rfl rfl rfl)); (· rfl); (· rfl); (· infer_instance); (· rfl); (· rfl); (· (simp [Value.oneCell', SlT.v])); try simp only [setRow_alloc, setRow_new, setRow_new1, setRow_new2, setRow_new11, setRow_new111]) | ((with_reducible apply wl_load' lwEv); (· (first | exact wanted_none rfl | exact wanted_some rfl rfl rfl)); (· rfl); (· infer_instance); (· rfl)))
          obtain ⟨Wx, hWx⟩ : ∃ Wx, Wx = S1.alloc (.cells #[.int .i64 x.kind, .int .i64 x.at_, .string x.item, .string x.of, .slice q nn mc, .string x.text] 34) := ⟨_, rfl⟩
          rw [← hWx]
          have HXW : Hid (Ext S1 Wx) := Lib.hid (by rw [hWx]; repeat' (first | (with_reducible exact Ext.refl _) | (with_reducible exact ExtOf.ext _) | (with_reducible refine Ext.trans ?_ (ExtOf.ext _)) | (with_reducible refine Ext.alloc ?_ _) | (with_reducible refine Ext.drew ?_) | (with_reducible refine Ext.setCell ?_ ?_ _) | (with_reducible refine Ext.setRow ?_ ?_ _) | (with_reducible exact HX.out) | (with_reducible refine Ext.trans ?_ HX.out) | (with_reducible refine Ext.below ?_ (Nat.le_refl _) _) | omega | (simp; done) | (simp; omega)))
          have hbx : Block Wx S1.heap.size #[.int .i64 x.kind, .int .i64 x.at_, .string x.item, .string x.of, .slice q nn mc, .string x.text] := by rw [hWx]; exact Block.new _ _ _
          have HAX2 : Hid (LkA B W0 w fb Wx) := Lib.hid (HR.out.a.later HXW.out)
          have hlkx := HAX2.out.lnk
          have hsx : S1.heap.size + 1 = Wx.heap.size := by rw [hWx]; simp
          have hS1 := HR.out.a.size
          have hfeS := HR.out.fell.lt
          clear hWx hlk3
          by_cases h2 : x.kind = 2
          · have q2 : (x.kind == 2) = true := beq_iff_eq.2 h2
            have HU := Lib.hid HR.out.und
            have HORD : Hid (OrdI (evs l) F (k + 1) OL) := Lib.hid (HR.out.ord.skip HKE.out (by rw [HGI.out HKE.out, h2]; decide))
            have hl1 := str_look (HR.out.logs.ext HXW.out) hit
            have hl2 := str_look (HR.out.fell.ext HXW.out) hit
            have HK2 := Lib.hid h2
            clear h2
            by_cases hm : memB x.item LL = true ∧ memB x.item FE = false
            · obtain ⟨hm1, hm2⟩ := hm
              rw [hm1] at hl1
              rw [hm2] at hl2
              have HUN : Hid (UndI (evs l) LL (k + 1) (x.item :: FE) (x.of :: PL)) := Lib.hid (by
                have h := HGI.out HKE.out
                have := HU.out.new HKE.out (by rw [h]; exact HK2.out) (by rw [h]; exact memB_iff.1 hm1) (by rw [h]; exact fun h3 => by rw [memB_iff.2 h3] at hm2; cases hm2)
                rw [h] at this; exact this)
              obtain ⟨W4, hr4, hs4, hg4⟩ := str_store (HR.out.perm.ext HXW.out) (by omega) hof
              have hf4 : StrM W4 fe FE.length (fun x => memB x FE) := SMap.kept (HR.out.fell.ext HXW.out) hg4 (by simp <;> omega)
              have hb4 : Block W4 S1.heap.size #[.int .i64 x.kind, .int .i64 x.at_, .string x.item, .string x.of, .slice q nn mc, .string x.text] := block_grown hbx hg4 (fun r e => by cases e; exact (HR.out.perm.ext HXW.out).obj)
              obtain ⟨W5, hr5, hs5, hg5⟩ := str_store hf4 (by omega) hit
              have HR5 : Hid (LkB (evs l) F LL B W0 fe w fb N LL.length (k + 1) (x.item :: FE) (x.of :: PL) OL n3 ds W5) := Lib.hid (by
                have ho4 := (HR.out.perm.ext HXW.out).obj
                have ho5 := hf4.obj
                refine ⟨(HAX2.out.grown hg4 (fun r e => by cases e; exact ⟨by have := HB.out; omega, ho4⟩)).grown hg5 (fun r e => by cases e; exact ⟨by have := HB.out; omega, ho5⟩),
                  SMap.kept (SMap.kept (HR.out.fam.ext HXW.out) hg4 (by simp <;> omega)) hg5 (by simp <;> omega), SMap.kept (SMap.kept (HR.out.logs.ext HXW.out) hg4 (by simp <;> omega)) hg5 (by simp <;> omega), SMap.kept hs4 hg5 (by simp <;> omega), SMap.kept (SMap.kept (HR.out.ords.ext HXW.out) hg4 (by simp <;> omega)) hg5 (by simp <;> omega), hs5, HUN.out, HORD.out, ⟨by simp; omega, by simp; omega, by omega⟩, ?_⟩
                exact ((HR.out.mks.later HXW.out).grown hg4 (HR.out.perm.ext HXW.out)).grown hg5 hf4)
              clear hg4 hg5 hs4 hs5 hf4 hm1 hm2 hsx hcnt
              go_wp2_with fail
              refine ⟨?rel, ?measure⟩
              case rel =>
                rw [HI.out]
                (repeat apply Exists.intro)
                refine ⟨?_, rfl⟩
                exact ⟨k + 1, _, _, _, _, by omega, by first | rfl | go_num, HR5.out⟩
              case measure => rw [HMU.out]; simp [intOf]; omega
            · have HUN : Hid (UndI (evs l) LL (k + 1) (x.item :: FE) PL) := Lib.hid (by
                have h := HGI.out HKE.out
                have := HU.out.old HKE.out (by rw [h]; exact HK2.out) (by
                  rw [h]
                  by_cases hm1 : x.item ∈ LL
                  · right
                    by_cases hm2 : x.item ∈ FE
                    · exact hm2
                    · exact absurd ⟨memB_iff.2 hm1, by rw [Bool.eq_false_iff]; exact fun h3 => hm2 (memB_iff.1 h3)⟩ hm
                  · exact .inl hm1)
                rw [h] at this; exact this)
              have hm' : (memB x.item LL && !memB x.item FE) = false := by
                cases h1 : memB x.item LL <;> cases h3 : memB x.item FE <;> simp_all
              obtain ⟨W5, hr5, hs5, hg5⟩ := str_store (HR.out.fell.ext HXW.out) (by omega) hit
              have HR5 : Hid (LkB (evs l) F LL B W0 fe w fb N LL.length (k + 1) (x.item :: FE) PL OL n3 ds W5) := Lib.hid (by
                have ho5 := (HR.out.fell.ext HXW.out).obj
                refine ⟨HAX2.out.grown hg5 (fun r e => by cases e; exact ⟨by have := HB.out; omega, ho5⟩),
                  SMap.kept (HR.out.fam.ext HXW.out) hg5 (by simp <;> omega), SMap.kept (HR.out.logs.ext HXW.out) hg5 (by simp <;> omega), SMap.kept (HR.out.perm.ext HXW.out) hg5 (by simp <;> omega), SMap.kept (HR.out.ords.ext HXW.out) hg5 (by simp <;> omega), hs5, HUN.out, HORD.out, ⟨by simp; omega, by omega, by omega⟩, ?_⟩
                exact (HR.out.mks.later HXW.out).grown hg5 (HR.out.fell.ext HXW.out))
              clear hg5 hs5 hm hsx hcnt
              rcases h1 : memB x.item LL with _ | _
              · rw [h1] at hl1
                clear h1 hm'
                go_wp2_with fail
                refine ⟨?rel, ?measure⟩
                case rel =>
                  rw [HI.out]
                  (repeat apply Exists.intro)
                  refine ⟨?_, rfl⟩
                  exact ⟨k + 1, _, _, _, _, by omega, by first | rfl | go_num, HR5.out⟩
                case measure => rw [HMU.out]; simp [intOf]; omega
              · have h3 : memB x.item FE = true := by rw [h1] at hm'; simpa using hm'
                rw [h1] at hl1
                rw [h3] at hl2
                clear h1 h3 hm'
                go_wp2_with fail
                refine ⟨?rel, ?measure⟩
                case rel =>
                  rw [HI.out]
                  (repeat apply Exists.intro)
                  refine ⟨?_, rfl⟩
                  exact ⟨k + 1, _, _, _, _, by omega, by first | rfl | go_num, HR5.out⟩
                case measure => rw [HMU.out]; simp [intOf]; omega
          · have q2 : (x.kind == 2) = false := beq_eq_false_iff_ne.2 h2
            have HUN : Hid (UndI (evs l) LL (k + 1) FE PL) := Lib.hid (HR.out.und.skip HKE.out (by rw [HGI.out HKE.out]; exact h2))
            clear h2
            by_cases h9 : x.kind = 9
            · have q9 : (x.kind == 9) = true := beq_iff_eq.2 h9
              have H9 := Lib.hid h9
              clear h9
              obtain ⟨ns, hns⟩ : ∃ ns, ns = x.n := ⟨_, rfl⟩
              rw [← hns] at HIN
              rw [← hns] at HIW0
              obtain ⟨q0, mc0, hv, hn1, hn2, hn3⟩ := IntS.form HIN.out
              unfold maxLen at hn2
              obtain ⟨rfl, rfl, rfl⟩ : q = q0 ∧ nn = ns.length ∧ mc = mc0 := by simpa using hv
              have hl6 := ok_len HOK.out
              have hev := ok_assign HOK.out H9.out
              have HRNG : Hid (∀ i (h : i < ns.length), -1099511627776 ≤ ns[i] ∧ ns[i] ≤ 1099511627776) := Lib.hid (by subst hns; exact fun i hi => ok_num HOK.out hi)
              rw [← hns] at hl6 hev
              have HNS := Lib.hid hns
              clear hv hns
              obtain ⟨M, hM⟩ : ∃ M, ns.length = 2 * M := ⟨ns.length / 2, by omega⟩
              obtain ⟨bb, off2, hq⟩ : ∃ b off, 0 < M → q = some ⟨b, off, none⟩ := by
                by_cases h0 : 0 < M
                · obtain ⟨b, off, hq, _⟩ := IntS.elem HIN.out (i := 0) (by omega)
                  exact ⟨b, off, fun _ => hq⟩
                · exact ⟨0, 0, fun h => absurd h h0⟩
              obtain ⟨c0, hc0⟩ : ∃ c0, Wx.heap.size = c0 := ⟨_, rfl⟩
              have HMM := Lib.hid hM
              have HQ := Lib.hid hq
              obtain ⟨Wc, hWc⟩ : ∃ Wc, Wc = (Wx.alloc (.cells #[.slice q ns.length mc] 32)).alloc (.cells #[.int .i64 2] 3) := ⟨_, rfl⟩
              have hxc : Ext Wx Wc := by rw [hWc]; repeat' (first | (with_reducible exact Ext.refl _) | (with_reducible exact ExtOf.ext _) | (with_reducible refine Ext.trans ?_ (ExtOf.ext _)) | (with_reducible refine Ext.alloc ?_ _) | (with_reducible refine Ext.drew ?_) | (with_reducible refine Ext.setCell ?_ ?_ _) | (with_reducible refine Ext.setRow ?_ ?_ _) | (with_reducible exact HX.out) | (with_reducible refine Ext.trans ?_ HX.out) | (with_reducible refine Ext.below ?_ (Nat.le_refl _) _) | omega | (simp; done) | (simp; omega))
              have hszc : Wc.heap.size = c0 + 2 := by rw [hWc]; simp [hc0]
              have e0 : Block Wc c0 #[.slice q ns.length mc] := by rw [hWc, ← hc0]; infer_instance
              have e1 : Block Wc (c0 + 1) #[.int .i64 2] := by rw [hWc, ← hc0]; infer_instance
              have HXC : Hid (Ext S1 Wc) := Lib.hid (HXW.out.trans hxc)
              have HAC : Hid (LkA B W0 w fb Wc) := Lib.hid (HAX2.out.later hxc)
              have hmc : ∃ OLp n4, (∀ o, o ∈ OLp ↔ o ∈ OL ∨ ∃ j ∈ ([] : List (Fin M)), ns.getD (2 * j.val + 1) 0 ∈ F ∧ ns.getD (2 * j.val) 0 = o) ∧ FamS Wc (W0 + 1 + 1) n4 (fun x => decide (x ∈ OLp)) ∧ n4 ≤ n3 + ([] : List (Fin M)).length := ⟨OL, n3, fun o => by simp, HR.out.ords.ext HXC.out, by simp⟩
              have hob := (HR.out.ords.ext HXC.out).obj
              have HWC := Lib.hid hWc
              have hcap : S1.heap.size < c0 := by omega
              clear hM hq hev hWc hxc hsx
              go_wp2_with (go_at_call 100; refine ((callsIn_wide (n := 8)).1 (chunk_in Fence.wide 8 trivial rfl _ _ _ _)).mono ?_; rintro e w' ⟨rfl, rfl⟩; rw [← HWC.out])
              refine (wpIn_wide (n := 9)).1 ?_
              refine wpIn_rangeFunc_ownH rfl (by decide) (gf := 122) (lb := #[.pointer (some ⟨c0, 0, none⟩), .pointer (some ⟨c0 + 1, 0, none⟩)]) rfl trivial (enters_of Tryz.func122 (by kernel_rfl) rfl)
                (chunk_stops Fence.wide 8 trivial rfl (by decide) c0 (c0 + 1) M bb off2 q mc Wc (by omega) (by omega) (by rw [← HMM.out]; exact Block.cell (h := e0) 0) (Block.cell (h := e1) 0) (by have := HMM.out; omega) (by have := HMM.out; omega) HQ.out) Keep2.trans (fun W2 l2 o2 o2' hl2 _ _ _ => Keep2.putObj (by omega) (by omega) W2 l2 o2 o2' hl2) (Below.refl _ _) (fun _ => rfl)
                (fun pre W => (∃ OLp n4, (∀ o, o ∈ OLp ↔ o ∈ OL ∨ ∃ j ∈ pre, ns.getD (2 * j.val + 1) 0 ∈ F ∧ ns.getD (2 * j.val) 0 = o) ∧ FamS W (W0 + 1 + 1) n4 (fun x => decide (x ∈ OLp)) ∧ n4 ≤ n3 + pre.length) ∧ Wc.grownBy W (some (W0 + 1 + 1)))
                (fun _ _ _ => False)
                (fun pre X Y row hs hg hr2 => ⟨by obtain ⟨OLp, n4, h1, h2, h3⟩ := hs.1; exact ⟨OLp, n4, h1, SMap.kept h2 hg (fun e => by have := (hr2 _ e.symm).1; omega), h3⟩, hs.2.andThen hg (fun j e => .inl (hr2 j e).1)⟩)
                (fun _ _ _ _ _ hs _ _ => hs)
                ⟨hmc, grown_of_ext (Ext.refl _)⟩
                (fun j a' _ => a' = { tmps := #[.slice (some ⟨b, off, none⟩) l.length cap, .map (some fb), undef, .pointer (some ⟨B, 0, none⟩), .pointer (some ⟨B + 1, 0, none⟩), .pointer (some ⟨W0 + 1 + 1 + 1, 0, none⟩), u6, u7, u8, .map (some fe), undef, .pointer (some ⟨S1.heap.size, 0, none⟩), .slice (some ⟨bb, off2 + 2 * j.val, none⟩) 2 2, .map (some W0), .map (some (W0 + 1)), .map (some (W0 + 1 + 1)), .agg #[.map (some W0), .map (some (W0 + 1)), .map (some (W0 + 1 + 1))], .map (some fb), .pointer (some ⟨W0 + 1 + 1 + 1 + 1, 0, none⟩), .tuple #[.bool false], .bool false, u21, u22, u23, u24, u25, u26, u27, u28, u29, u30, u31, u32, .map (some fe), .slice (some ⟨b, off, none⟩) l.length cap, .int .i64 l.length, .int .i64 k, .bool true, .pointer (some ⟨b, off + k * 6, none⟩), .agg #[.int .i64 x.kind, .int .i64 x.at_, .string x.item, .string x.of, .slice q ns.length mc, .string x.text], .pointer (some ⟨S1.heap.size, 0, none⟩), .int .i64 x.kind, .bool false, .bool false, u44, u45, u46, u47, u48, u49, u50, u51, u52, u53, u54, u55, u56, u57, u58, u59, u60, u61, u62, .bool true, .bool true, .pointer (some ⟨S1.heap.size, 4, none⟩), .slice q ns.length mc, .func (.func 122) #[] #[.pointer (some ⟨c0, 0, none⟩), .pointer (some ⟨c0 + 1, 0, none⟩)], .slice (some ⟨bb, off2 + 2 * j.val, none⟩) 2 2, u69, u70, u71, u72, u73, u74, u75, u76, u77, u78, u79, undef], defers := [] })
                (fun _ _ _ _ _ _ hs _ _ => hs)
                ?assign ?body ?done ?stop
              case assign =>
                rintro lp pre j W K hi hK
                unfold encC
                gi_wp2
                exact hK _ _ (KeepsFrom.refl _ _) ⟨rfl, rfl⟩ hi rfl
              case stop =>
                rintro D c pre W _ _ h _
                exact h.elim
              case body =>
                rintro lp pre j a' W _ _ ⟨⟨OLp, n4, hO, hfo, hn4⟩, hgW⟩ rfl hlt2
                have hjM := j.isLt
                have hM := HMM.out
                obtain rfl := HQ.out (by omega)
                have HGW := Lib.hid hgW
                have hgwS := hgW.size
                have HEW : Hid (Ext w W) := Lib.hid (ext_grown HAC.out.ext hgW (fun r e => by cases e; have := HB.out; omega))
                have HFW : Hid (FamS W fb N (fun x => decide (x ∈ F))) := Lib.hid (SMap.kept (HR.out.fam.ext HXC.out) hgW (by simp <;> omega))
                have hbB : Block W B #[.map (some fb)] := block_grown HAC.out.box hgW (fun r e => by cases e; exact hob)
                have hbL : Block W (W0 + 1 + 1 + 1) #[.map (some W0), .map (some (W0 + 1)), .map (some (W0 + 1 + 1))] := block_grown HAC.out.lnk hgW (fun r e => by cases e; exact hob)
                have HIW := Lib.hid (IntS.ext HIW0.out HEW.out)
                obtain ⟨b', off', hbo, p0⟩ := IntS.elem HIW.out (i := 2 * j.val) (by omega)
                obtain ⟨rfl, rfl⟩ : bb = b' ∧ off2 = off' := by simpa using hbo
                obtain ⟨b', off', hbo', p1⟩ := IntS.elem HIW.out (i := 2 * j.val + 1) (by omega)
                obtain ⟨rfl, rfl⟩ : bb = b' ∧ off2 = off' := by simpa using hbo'
                have hr0 := HRNG.out (2 * j.val) (by omega)
                have hr1 := HRNG.out (2 * j.val + 1) (by omega)
                have HG0 : Hid (ns.getD (2 * j.val) 0 = ns[2 * j.val]'(by omega)) := Lib.hid (by rw [List.getD_eq_getElem?_getD, List.getElem?_eq_getElem (by omega)]; rfl)
                have HG1 : Hid (ns.getD (2 * j.val + 1) 0 = ns[2 * j.val + 1]'(by omega)) := Lib.hid (by rw [List.getD_eq_getElem?_getD, List.getElem?_eq_getElem (by omega)]; rfl)
                generalize ns[2 * j.val]'(by omega) = m0 at *
                generalize ns[2 * j.val + 1]'(by omega) = m1 at *
                have HO2 : Hid (∀ OL2 : List Int, (∀ o, o ∈ OL2 ↔ o ∈ OLp ∨ (m1 ∈ F ∧ m0 = o)) → ∀ o, o ∈ OL2 ↔ o ∈ OL ∨ ∃ i ∈ pre ++ [j], ns.getD (2 * i.val + 1) 0 ∈ F ∧ ns.getD (2 * i.val) 0 = o) := Lib.hid (fun OL2 h2 o => by
                  rw [h2 o, hO o]
                  constructor
                  · rintro ((h3 | ⟨i, h3, h4⟩) | h3)
                    · exact .inl h3
                    · exact .inr ⟨i, List.mem_append.2 (.inl h3), h4⟩
                    · exact .inr ⟨j, by simp, by rw [HG0.out, HG1.out]; exact h3⟩
                  · rintro (h3 | ⟨i, h3, h4⟩)
                    · exact .inl (.inl h3)
                    · rcases List.mem_append.1 h3 with h3 | h3
                      · exact .inl (.inr ⟨i, h3, h4⟩)
                      · rw [List.mem_singleton] at h3
                        subst h3
                        rw [HG0.out, HG1.out] at h4
                        exact .inr h4)
                have HR0 := Lib.hid hr0
                have HR1 := Lib.hid hr1
                have HFO := Lib.hid hfo
                have hlen2 : (pre ++ [j]).length = pre.length + 1 := by simp
                have HPL := Lib.hid hlen2
                clear hO hfo hbo hbo' hr0 hr1 hM hgW hlen2
                gi_wp2
                refine wpIn_region_soft (lkW fb W0 bb (off2 + 2 * j.val) m0 m1 (decide (m1 ∈ F))) (fun _ _ _ => True) (by kernel_rfl) (by kernel_rfl) (by kernel_rfl) (by kernel_rfl) (by kernel_rfl) (fun h => by obtain ⟨_, _, h⟩ := h; exact h) (fun d => ⟨_, rfl⟩) (fun _ _ _ _ _ _ => trivial) ?_
                refine soft_det (d := 69) (V := .map (some fb)) rfl (by kernel_rfl) (fun v h => h) rfl (fun _ => trivial) (fun W' hx _ => by have := (hbB.ext (Ext.trans ((Ext.refl _).drew) hx)).cell (i := 0); simp at this; simp [execOp, go_sem, this]) ?_
                refine soft_det (d := 70) (V := .slice (some ⟨bb, off2 + 2 * j.val, none⟩) 2 2) rfl (by kernel_rfl) (fun v h => h) rfl (fun _ => trivial) (fun W _ _ => by kernel_rfl) ?_
                refine soft_det (d := 71) (V := .pointer (some ⟨bb, off2 + 2 * j.val + 1, none⟩)) rfl (by kernel_rfl) (fun v h => h) rfl (fun _ => trivial) (fun W _ _ => by kernel_rfl) ?_
                refine soft_det (d := 72) (V := .int .i64 m1) rfl (by kernel_rfl) (fun v h => h) rfl (fun _ => trivial) (fun W' hx _ => by have := hx.cell (Ext.cell ((Ext.refl _).drew) p1); rw [← Nat.add_assoc] at this; simp [execOp, go_sem, this]) ?_
                refine soft_det (d := 73) (V := .bool (decide (m1 ∈ F))) rfl (by kernel_rfl) (fun v h => h) rfl (fun _ => trivial) (fun W' hx _ => by have := fam_look (HFW.out.ext (Ext.trans ((Ext.refl _).drew) hx)) HR1.out; simp [execOp, go_sem, this]) ?_
                intro W2 hx2
                simp only [Act.put, List.setIfInBounds_toArray, List.set_cons_succ, List.set_cons_zero]
                have HX2 : Hid (Ext W W2) := Lib.hid (Ext.trans ((Ext.refl _).drew) hx2)
                have hsz2 := HX2.out.size
                have hbL2 := hbL.ext HX2.out
                have p02 := HX2.out.cell p0
                clear hx2
                by_cases hm : m1 ∈ F
                · rw [decide_eq_true hm]
                  have HM2 := Lib.hid hm
                  clear hm
                  gi_wp2
                  refine wpIn_region_softT (lkW fb W0 bb (off2 + 2 * j.val) m0 m1 true) (fun _ _ _ => True) [true, true, true, true, true] [false, false, false, false, false, true] 5 [] (by kernel_rfl) rfl (by kernel_rfl) (by kernel_rfl) rfl (by kernel_rfl) (fun h => by obtain ⟨_, _, h⟩ := h; exact h) (fun d => ⟨_, rfl⟩) (fun _ _ _ _ _ _ => trivial) ?_
                  simp only [part]
                  refine soft_det (d := 74) (V := .pointer (some ⟨W0 + 1 + 1 + 1, 2, none⟩)) rfl (by kernel_rfl) (fun v h => h) rfl (fun _ => trivial) (fun W _ _ => by kernel_rfl) ?_
                  refine soft_det (d := 75) (V := .map (some (W0 + 1 + 1))) rfl (by kernel_rfl) (fun v h => h) rfl (fun _ => trivial) (fun W' hx _ => by have := (hbL2.ext hx).cell (i := 2); simp at this; simp [execOp, go_sem, this]) ?_
                  refine soft_det (d := 76) (V := .slice (some ⟨bb, off2 + 2 * j.val, none⟩) 2 2) rfl (by kernel_rfl) (fun v h => h) rfl (fun _ => trivial) (fun W _ _ => by kernel_rfl) ?_
                  refine soft_det (d := 77) (V := .pointer (some ⟨bb, off2 + 2 * j.val, none⟩)) rfl (by kernel_rfl) (fun v h => h) rfl (fun _ => trivial) (fun W _ _ => by kernel_rfl) ?_
                  refine soft_det (d := 78) (V := .int .i64 m0) rfl (by kernel_rfl) (fun v h => h) rfl (fun _ => trivial) (fun W' hx _ => by have := hx.cell p02; simp [execOp, go_sem, this]) ?_
                  intro W3 hx3 _
                  simp only [Act.put, List.setIfInBounds_toArray, List.set_cons_succ, List.set_cons_zero]
                  have hsz3 := hx3.size
                  have hM := HMM.out
                  obtain ⟨W4, hr4, hs4, hg4⟩ := fam_store (HFO.out.ext (HX2.out.trans hx3)) (by omega) HR0.out
                  refine wl_mupd rfl rfl rfl hr4 ?_
                  have hxx := HX2.out.trans hx3
                  go_wp2_with fail
                  refine ⟨(keeps_ext hxx).trans (keeps_grown hg4 (by omega)), ⟨(hg4.block _ (by omega) (by simp <;> omega)).trans (hxx.block _ (by omega)), (hg4.block _ (by omega) (by simp <;> omega)).trans (hxx.block _ (by omega))⟩, ⟨m0 :: OLp, n4 + 1, HO2.out _ (fun o => ?_), hs4, by rw [HPL.out]; omega⟩, (HGW.out.andThen (grown_of_ext (row := none) hxx) (by simp)).andThen hg4 (fun j e => .inr e)⟩
                  rw [List.mem_cons]
                  exact ⟨fun h => h.elim (fun e => .inr ⟨HM2.out, e.symm⟩) .inl, fun h => h.elim .inr (fun e => .inl e.2.symm)⟩
                · rw [decide_eq_false hm]
                  have HM2 := Lib.hid hm
                  clear hm
                  gi_wp2
                  exact ⟨keeps_ext HX2.out, ⟨HX2.out.block _ (by omega), HX2.out.block _ (by omega)⟩, ⟨OLp, n4, HO2.out _ (fun o => ⟨.inl, fun h => h.elim id (fun e => absurd e.1 HM2.out)⟩), HFO.out.ext HX2.out, by rw [HPL.out]; omega⟩, HGW.out.andThen (grown_of_ext (row := none) HX2.out) (by simp)⟩
              case done =>
                rintro D xs W hD rfl ⟨⟨OLp, n4, hO, hfo, hn4⟩, hgW⟩ hK
                have hM := HMM.out
                have hmk := HR.out.mks.later HXC.out
                have hA5 : LkA B W0 w fb W := HAC.out.grown hgW (fun r e => by cases e; exact ⟨by have := HB.out; omega, hob⟩)
                have hM5 : Marks w.heap.size W ({ target := .collected D, args := #[] } :: ds) := hmk.push (N := 0) (hmk.grown hgW (HR.out.ords.ext HXC.out)) hD (by have := HB.out; omega) hK
                have hF5 := SMap.kept (HR.out.fam.ext HXC.out) hgW (by simp <;> omega)
                have hL5 := SMap.kept (HR.out.logs.ext HXC.out) hgW (by simp <;> omega)
                have hP5 := SMap.kept (HR.out.perm.ext HXC.out) hgW (by simp <;> omega)
                have hE5 := SMap.kept (HR.out.fell.ext HXC.out) hgW (by simp <;> omega)
                have HR5 : Hid (LkB (evs l) F LL B W0 fe w fb N LL.length (k + 1) FE PL OLp n4 ({ target := .collected D, args := #[] } :: ds) W) := Lib.hid (by
                  refine ⟨hA5, hF5, hL5, hP5, hfo, hE5, HUN.out, ?_, ⟨by omega, by omega, ?_⟩, hM5⟩
                  · refine HR.out.ord.step HKE.out (by rw [HGI.out HKE.out]; exact H9.out) (fun o => ?_)
                    rw [hO o, HGI.out HKE.out, ← HNS.out]
                    constructor
                    · rintro (h1 | ⟨j, _, h2, h3⟩)
                      · exact .inl h1
                      · exact .inr ⟨_, (pairs_iff hM _).2 ⟨j, rfl⟩, h2, h3⟩
                    · rintro (h1 | ⟨z, h1, h2, h3⟩)
                      · exact .inl h1
                      · obtain ⟨j, rfl⟩ := (pairs_iff hM z).1 h1
                        exact .inr ⟨j, List.mem_finRange j, h2, h3⟩
                  · rw [List.length_finRange] at hn4; omega)
                clear hO hfo hgW hK hM hn4 hmk hA5 hM5 hF5 hL5 hP5 hE5
                go_wp2_with fail
                refine ⟨?rel, ?measure⟩
                case rel =>
                  rw [HI.out]
                  (repeat apply Exists.intro)
                  refine ⟨?_, rfl⟩
                  exact ⟨k + 1, _, _, _, _, by omega, by first | rfl | go_num, HR5.out⟩
                case measure => rw [HMU.out]; simp [intOf]; omega
            · have q9 : (x.kind == 9) = false := beq_eq_false_iff_ne.2 h9
              have HR5 : Hid (LkB (evs l) F LL B W0 fe w fb N LL.length (k + 1) FE PL OL n3 ds Wx) := Lib.hid
                ⟨HAX2.out, HR.out.fam.ext HXW.out, HR.out.logs.ext HXW.out, HR.out.perm.ext HXW.out, HR.out.ords.ext HXW.out, HR.out.fell.ext HXW.out, HUN.out, HR.out.ord.skip HKE.out (by rw [HGI.out HKE.out]; exact h9), ⟨by omega, by omega, by omega⟩, HR.out.mks.later HXW.out⟩
              clear h9 hsx hcnt
              go_wp2_with fail
              refine ⟨?rel, ?measure⟩
              case rel =>
                rw [HI.out]
                (repeat apply Exists.intro)
                refine ⟨?_, rfl⟩
                exact ⟨k + 1, _, _, _, _, by omega, by first | rfl | go_num, HR5.out⟩
              case measure => rw [HMU.out]; simp [intOf]; omega
        · obtain rfl : k = l.length := by omega
          have hlk2 := HR.out.a.lnk
          have hres := HR.out.a.res
          go_wp2_with (first | ((with_reducible apply wl_store' lwLk); (· (first | exact wanted_none rfl | exact wanted_some rfl rfl rfl)); (· rfl); (· rfl); (· infer_instance); (· rfl); (· rfl); (· (simp [Value.oneCell', SlT.v])); try simp only [setRow_alloc, setRow_new, setRow_new1, setRow_new2, setRow_new11, setRow_new111]) | ((with_reducible apply wl_load' lwLk); (· (first | exact wanted_none rfl | exact wanted_some rfl rfl rfl)); (· rfl); (· infer_instance); (· rfl)))
          try simp only [Act.put, List.setIfInBounds_toArray, List.set_cons_succ, List.set_cons_zero]
          show LeavesInM _ _ _ _ _ _ ds .returning _
          have hkr := keeps_setRow (B := 0) (cs' := #[.map (some W0), .map (some (W0 + 1)), .map (some (W0 + 1 + 1))]) hres
          refine leaves_marks (base := w.heap.size) ds _ (HR.out.mks.keep (fun D _ hD => hkr.same D _ (by omega) hD rfl)) (fun w' ht => ?_)
          have hb9 := ht.block (inferInstance : Block (S1.setRow (B + 1) #[.map (some W0), .map (some (W0 + 1)), .map (some (W0 + 1 + 1))]) (B + 1) #[.map (some W0), .map (some (W0 + 1)), .map (some (W0 + 1 + 1))])
          have hsm : ∀ (q : Nat) (o : Obj), S1.heap[q]? = some o → o.isCells = false → (∀ l, o ≠ Obj.deferred l) → w'.heap[q]? = some o := fun q o h1 h2 h3 => ht.same q o (hkr.same q o (by omega) h1 h2) h3
          refine ⟨_, results_c1 rfl lwLk rfl hb9 rfl, W0, W0 + 1, W0 + 1 + 1, _, _, _, LL, PL, OL, rfl, HR.out.logs.same hsm, HR.out.perm.same hsm, HR.out.ords.same hsm, HLL.out, fun p => ?_, fun o => ?_, ExtOf.of (ht.ext (Ext.setRow HR.out.a.ext (by have := HB.out; omega) _) (Nat.le_refl _))⟩
          · have := HR.out.und.pl p
            rw [List.take_of_length_le (by simp)] at this
            rw [this]
            unfold Permits
            exact ⟨fun ⟨s, h1, h2⟩ => ⟨s, (HLL.out s).1 h1, h2⟩, fun ⟨s, h1, h2⟩ => ⟨s, (HLL.out s).2 h1, h2⟩⟩
          · have := HR.out.ord o
            rw [List.take_of_length_le (by simp)] at this
            exact this
    · intro x cb w1 cnt1 hk1 hLx hSx hrg1 hlt1 hg1 hz1 hen
      have hxF := of_decide_eq_true hSx
      have hxw := HW.out x hxF
      have hww : wideN x := by unfold wideN; omega
      have HXF := Lib.hid hxF
      have HLK1 : Hid (LkA B W0 w fb w1) := Lib.hid (HLK.out.grown hg1 (fun r e => by cases e; exact ⟨by have := HB.out; omega, HRG.out.obj⟩))
      have HT1 : Hid (StrM w1 W0 LL.length (fun x => memB x LL)) := Lib.hid (SMap.kept HS1.out hg1 (by simp <;> omega))
      have HT2 : Hid (StrM w1 (W0 + 1) 0 (fun x => memB x [])) := Lib.hid (SMap.kept HS2.out hg1 (by simp))
      have HT3 : Hid (FamS w1 (W0 + 1 + 1) 0 (fun x => decide (x ∈ ([] : List Int)))) := Lib.hid (SMap.kept HS3.out hg1 (by simp))
      have HLOG := Lib.hid (plog_any l (.slice p l.length cap) x w1 (H.out.ext HLK1.out.ext) hww)
      have HRG1 := Lib.hid hrg1
      have hlk1 := HLK1.out.lnk
      clear hxF hxw hww hk1 hLx hSx hrg1 hg1 hz1
      obtain ⟨o, ho⟩ : ∃ o, o = log num (evs l) x := ⟨_, rfl⟩
      rw [← ho] at HLOG
      have HO := Lib.hid ho
      clear ho
      simp only [undV] at HLOG
      rcases o with _ | g
      · go_wp2_with (go_at_call 43; refine HLOG.out.mono ?_; rintro en w' ⟨rfl, nl, rfl⟩)
        go_roundw
        case rel => exact ⟨_, cnt1, LL, HRG1.out.ext nl.ext, HT1.out.ext nl.ext, HT2.out.ext nl.ext, HT3.out.ext nl.ext, HLG.out.skip HO.out.symm, by omega, HLK1.out.later nl.ext⟩
        case measure => rw [(HRG1.out.ext nl.ext).left_eq, HRG.out.left_eq]; exact hlt1
      · have hgl := log_len (evs_ok H.out.ok) HO.out.symm
        have HST := Lib.hid (fun (W : World) (hx : Ext w1 W) => str_store (HT1.out.ext hx) (by omega) (s := g) hgl)
        clear hgl
        go_wp2_with (first | (go_at_call 43; refine HLOG.out.mono ?_; rintro en w' ⟨rfl, nl, rfl⟩) | (at_mapUpdate; (obtain ⟨W4, hr4, hs4, hg4⟩ := HST.out _ nl.ext); refine wl_mupd rfl rfl rfl hr4 ?_; (try simp only [Act.put]); (have HS4 := Lib.hid hs4); (have HG4 := Lib.hid hg4); clear hr4 hs4 hg4))
        go_roundw
        case rel =>
          have hob := (HT1.out.ext nl.ext).obj
          refine ⟨_, cnt1, g :: LL, (HRG1.out.ext nl.ext).kept HG4.out (by simp <;> omega) (by simp <;> omega), HS4.out, SMap.kept (HT2.out.ext nl.ext) HG4.out (by simp <;> omega), SMap.kept (HT3.out.ext nl.ext) HG4.out (by simp <;> omega), HLG.out.push HXF.out HO.out.symm, by simp; omega, (HLK1.out.later nl.ext).grown HG4.out (fun r e => by cases e; exact ⟨by have := HB.out; omega, hob⟩)⟩
        case measure => rw [((HRG1.out.ext nl.ext).kept HG4.out (by simp <;> omega) (by simp <;> omega)).left_eq, HRG.out.left_eq]; exact hlt1
end Go.Proofs.YtjfohapnjnopfaaGreatDoor
