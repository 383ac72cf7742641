/-
  Text of the program.
-/
import Derived.Test.YtaflcbdbacogeaaDoorT3
import Derived.Lib.AppendIntMem
set_option linter.unusedVariables false
set_option linter.unusedSimpArgs false
namespace Go.Proofs.YtaflcbdbacogeaaDoor
open Go.RowKit ReportM

attribute [local go_sem] ExtOf.cell ExtOf.frozen ExtS.cell ExtS.frozen Block.cell Block.frozen ExtB.cell ExtB.frozen alloc_cell alloc_frozen
def Tab (w : World) : Prop := Lib.TabIs Tryd.prog w "internal/strconv.uint64pow10" .u64 Lib.pow10Tab
theorem Tab.ext {w w' : World} (h : Tab w) (hx : Ext w w') : Tab w' := Lib.tabBelow_of_tabIs h w' hx
theorem grow_ext {w : World} {k : Nat} {os : Array Obj} : Ext w (Sort.grow (w.drewN k) os) := by
  refine ⟨rfl, rfl, rfl, ?_, fun q hq => ?_⟩
  · simp [Sort.grow]
  · show ((w.heap) ++ os)[q]? = _
    rw [Array.getElem?_append_left hq]
theorem itoa_e (n : Int) (w : World) (h : InR n) (ht : Tab w) : Calls Tryd.prog 30 #[.int .i64 n] w fun e w' => e = .returned (.string ⟨(Lib.itoa n).toArray⟩) ∧ ∃ n : ExtOf w, w' = n.val :=
  (Tryd.strconv_Itoa n h.1 h.2 w ht).mono fun _ _ ⟨he, k, os, hw⟩ => ⟨he, hw ▸ ExtOf.of grow_ext⟩
theorem lwRow : Whole Tryd.prog 77 5 := whole_of Tryd.underlying77 rfl (by kernel_rfl)
theorem midRow : Mid Tryd.prog 77 5 := mid_of Tryd.underlying77 rfl (by kernel_rfl)
theorem Keep.range {w w' : World} {B b q o : Nat} {l : List Value} (h : Keep w w' B b) (hl : w.rangeAt q o l) (hq : q < B) (hne : q ≠ b) : w'.rangeAt q o l := fun j u hj => by
  have := hl j u hj
  rw [← this]
  simp only [World.cell?]
  rw [h.heap q hq hne]
def part4 (l : List Int) : List UInt8 := l.flatMap fun n => 32 :: Lib.itoa n
theorem ba_len (x : ByteArray) : x.data.toList.length = x.size := by simp
theorem cat_size {n : Int} (h : (Lib.itoa n).length ≤ 21) : ((⟨#[32]⟩ : ByteArray) ++ ⟨(Lib.itoa n).toArray⟩).size ≤ 22 := by
  rw [← ba_len, ba_append, List.length_append]
  simp; omega
theorem part4_len {a b c d : Int} (h1 : InR a) (h2 : InR b) (h3 : InR c) (h4 : InR d) (j : Nat) : (part4 ([a, b, c, d].take j)).length ≤ 100 := by
  have l1 := itoa_len h1.1 h1.2
  have l2 := itoa_len h2.1 h2.2
  have l3 := itoa_len h3.1 h3.2
  have l4 := itoa_len h4.1 h4.2
  match j with
  | 0 => simp [part4]
  | 1 => simp [part4]; omega
  | 2 => simp [part4]; omega
  | 3 => simp [part4]; omega
  | j + 4 => simp [part4]; omega
set_option maxRecDepth 20000 in
set_option maxHeartbeats 3200000 in
theorem text_walk (its : List It) (c : List Pd) (vc vl vi vo : Value) (pl : Int) (w : World) (h1 : SliceOf encIt 22 w vi its) (h2 : SliceOf encPd 7 w vc c) (hl : its.length ≤ 1000) (hI : ∀ x ∈ its, ItOk x) (hc : ∀ q ∈ c, q.nm.size ≤ 100) (hcl : c.length ≤ 1000) (htab : Tab w) :
    Calls Tryd.prog 14 #[.agg (suCells vc), .agg (stCells vl vi vo), .int .i64 pl] w fun e w' => ∃ ts, e = .returned (.string ⟨(textF c ts).toArray⟩) ∧ Ok (xsOf its pl) ts ∧ Asc ts ∧ ∃ n : ExtOf w, w' = n.val := by
  have iy0 : ∀ (W : World) (n0 n1 n2 n3 : Value), (Instr.index 139 (.agg #[n0, n1, n2, n3]) (.int .i64 0)).run Tryd.prog W = .ok n0 W := fun W n0 n1 n2 n3 => by kernel_rfl
  have iy1 : ∀ (W : World) (n0 n1 n2 n3 : Value), (Instr.index 139 (.agg #[n0, n1, n2, n3]) (.int .i64 1)).run Tryd.prog W = .ok n1 W := fun W n0 n1 n2 n3 => by kernel_rfl
  have iy2 : ∀ (W : World) (n0 n1 n2 n3 : Value), (Instr.index 139 (.agg #[n0, n1, n2, n3]) (.int .i64 2)).run Tryd.prog W = .ok n2 W := fun W n0 n1 n2 n3 => by kernel_rfl
  have iy3 : ∀ (W : World) (n0 n1 n2 n3 : Value), (Instr.index 139 (.agg #[n0, n1, n2, n3]) (.int .i64 3)).run Tryd.prog W = .ok n3 W := fun W n0 n1 n2 n3 => by kernel_rfl
  obtain ⟨pc, cc, rfl, hg4, hg5, hg6⟩ := SliceOf.form h2
  have H1 := Lib.hid h1
  have H2 := Lib.hid h2
  have HI := Lib.hid hI
  have HC := Lib.hid hc
  have HT := Lib.hid htab
  clear h1 h2 hI hc htab
  unfold suCells stCells
  go_enter Tryd.func14, Tryd.ntmps14
  go_wp2_with (first | ((with_reducible apply wl_load' lwSt); (· (first | exact wanted_none rfl | exact wanted_some rfl rfl rfl)); (· rfl); (· infer_instance); (· rfl)) | (go_at_call 12; refine (stock_walk its vl vi vo pl _ (SliceOf.ext H1.out ((((Ext.refl _).alloc _).alloc _).alloc _)) hl HI.out).mono ?_; rintro e W0 ⟨v, ts, rfl, hok, has, hsl, n, rfl⟩; have HOK := Lib.hid hok; have HAS := Lib.hid has; have HSL := Lib.hid hsl; clear hok has hsl; obtain ⟨pv, cv, rfl, hv1, hv2, hv3⟩ := SliceOf.form HSL.out))
  obtain ⟨b3, hb3⟩ : ∃ b, b = w.heap.size := ⟨_, rfl⟩
  obtain ⟨b7, hb7⟩ : ∃ b, b = w.heap.size + 1 + 1 := ⟨_, rfl⟩
  rw [← hb7, ← hb3]
  have kb3 : Block n.val b3 #[.slice pc c.length cc, .slice none 0 0, .slice none 0 0, .slice none 0 0, .int .i64 0, .int .i64 0, .int .i64 0, .int .i64 0, .int .i64 0, .int .i64 0, .int .i64 0, .int .i64 0, .int .i64 0] := by rw [hb3]; infer_instance
  have KX : Hid (Ext w n.val) := Lib.hid (by repeat' (first | (with_reducible exact Ext.refl _) | (with_reducible exact ExtOf.ext _) | (with_reducible refine Ext.trans ?_ (ExtOf.ext _)) | (with_reducible refine Ext.alloc ?_ _) | (with_reducible refine Ext.drew ?_) | (with_reducible refine Ext.setCell ?_ ?_ _) | (with_reducible refine Ext.setRow ?_ ?_ _) | (with_reducible exact HX.out) | (with_reducible refine Ext.trans ?_ HX.out) | (with_reducible refine Ext.below ?_ (Nat.le_refl _) _) | omega | (simp; done) | (simp; omega)))
  have K7 : Hid (n.val.heap[b7]? = some (.cells #[.pointer none, .slice none 0 0] 134 (0, 0))) := Lib.hid (by
    rw [n.ext.block b7 (by simp [hb7])]
    have := (MapKept.heap_alloc ((w.alloc (.cells #[.slice pc c.length cc, .slice none 0 0, .slice none 0 0, .slice none 0 0, .int .i64 0, .int .i64 0, .int .i64 0, .int .i64 0, .int .i64 0, .int .i64 0, .int .i64 0, .int .i64 0, .int .i64 0] 59)).alloc (.cells #[.int .i64 0, .slice none 0 0, vl, vi, .slice none 0 0, vo, .int .i64 0, .int .i64 0, .slice none 0 0, .slice none 0 0] 36)) (.cells #[.pointer none, .slice none 0 0] 134)).1
    rw [show ((w.alloc (.cells #[.slice pc c.length cc, .slice none 0 0, .slice none 0 0, .slice none 0 0, .int .i64 0, .int .i64 0, .int .i64 0, .int .i64 0, .int .i64 0, .int .i64 0, .int .i64 0, .int .i64 0, .int .i64 0] 59)).alloc (.cells #[.int .i64 0, .slice none 0 0, vl, vi, .slice none 0 0, vo, .int .i64 0, .int .i64 0, .slice none 0 0, .slice none 0 0] 36)).heap.size = b7 by simp [hb7]] at this
    exact this)
  have l73 : b7 ≠ b3 := by omega
  have lw7 : w.heap.size ≤ b7 := by omega
  have htl : ts.length ≤ 1000 := ok_len hl HI.out HOK.out
  have HTR := Lib.hid (tal_inR hl HI.out HOK.out)
  generalize n.val = W0 at *
  have HB0 : Hid (Bld W0 b7 W0 []) := Lib.hid (Bld.start K7.out)
  have l3 : b3 < W0.heap.size := kb3.lt
  clear hb3 hb7
  go_loopw [17] (fun i wr => ∃ k : Nat, k ≤ ts.length ∧ i = .int .i64 k ∧ Bld W0 b7 wr (textF c (tk ts k))) (fun i _ => ts.length - (intOf i).toNat)
  case atStart => exact ⟨0, by omega, rfl, HB0.out⟩
  case round =>
    obtain ⟨k, hk, rfl, hbl⟩ := hrel
    have HBL := Lib.hid hbl
    have h3 := hbl.2.1.block kb3 l3 (Ne.symm l73)
    clear hbl
    by_cases hlt : k < ts.length
    · obtain ⟨bt, ot, rfl, rt0⟩ := SliceOf.elemK HSL.out hlt
      obtain ⟨t, ht⟩ : ∃ t, t = ts[k] := ⟨_, rfl⟩
      have HR := Lib.hid (HTR.out t (by rw [ht]; exact List.getElem_mem hlt))
      have HSU : Hid (tk ts (k + 1) = tk ts k ++ [t]) := Lib.hid (by rw [ht]; exact tk_succ hlt)
      rw [← ht] at rt0
      clear ht
      obtain ⟨⟨t1, t2, t3⟩, t4, t5⟩ := t
      obtain ⟨r1, r2, r3, r4, r5⟩ := HR.out
      simp only at r1 r2 r3 r4 r5
      have hbt : bt < W0.heap.size := (Old.of_cell (rt0 0 _ rfl)).lt
      have hbt7 : bt ≠ b7 := fun e => by
        have h9 := rt0 0 _ rfl
        rw [e, Lib.cell_of_heap K7.out] at h9
        rcases ho : ot + k * 5 + 0 with _ | _ | m <;> rw [ho] at h9 <;> simp at h9
      have rt : World.rangeAt wr bt (ot + k * 5) [.int .i64 t1, .int .i64 t2, .int .i64 t3, .int .i64 t4, .int .i64 t5] := HBL.out.2.1.range rt0 hbt hbt7
      have ob : Old bt wr := Old.of_cell (rt 0 _ rfl)
      have htx : (textF c (tk ts k)).length ≤ 200000 := by
        have h9 := text_len HC.out (ts := tk ts k) (fun t ht => HTR.out t (List.mem_of_mem_take ht))
        rw [tk_len hk] at h9
        omega
      have HTX := Lib.hid htx
      clear rt0 htx
      have l2 := itoa_len r2.1 r2.2
      have l3 := itoa_len r3.1 r3.2
      have l4 := itoa_len r4.1 r4.2
      have l5 := itoa_len r5.1 r5.2
      by_cases hn : t1 < 0
      · have q1 : decide (0 ≤ t1) = false := by simp; omega
        have HNM : Hid (nameF c t1 = [45]) := Lib.hid (by unfold nameF; rw [if_neg (by omega)])
        have lnm : (⟨#[45]⟩ : ByteArray).size ≤ 100 := by decide
        go_wp2_with (first | ((with_reducible apply wl_loadM midRow rt); (· rfl); (· (first | exact wanted_none rfl | exact wanted_some rfl rfl rfl)); (· rfl)) | ((with_reducible apply wl_store' lwRow); (· (first | exact wanted_none rfl | exact wanted_some rfl rfl rfl)); (· rfl); (· rfl); (· infer_instance); (· rfl); (· rfl); (· (simp [Value.oneCell'])); try simp only [setRow_alloc, setRow_new, setRow_new1, setRow_new2, setRow_new11, setRow_new111]) | (go_at_call 29; (refine (wstr_any ⟨#[45]⟩ (HBL.out.ext ((Ext.refl _).alloc _)) (by have := HTX.out; have := lnm; omega)).mono ?_); rintro e W1 ⟨rfl, hb1, hok1⟩; have HB1 := Lib.hid hb1; have k9 : Block W1 wr.heap.size #[.int .i64 t1, .int .i64 t2, .int .i64 t3, .int .i64 t4, .int .i64 t5] := ⟨⟨_, hok1 _ _ (MapKept.heap_alloc wr (.cells #[.int .i64 t1, .int .i64 t2, .int .i64 t3, .int .i64 t4, .int .i64 t5] 77)).1 (fun e => by have := HBL.out.lt; injection e with e; omega) (fun _ _ e => by cases e)⟩⟩; clear hb1 hok1))
        go_loopw [50] (fun i wz => ∃ j : Int, (0 ≤ j ∧ j ≤ 4) ∧ i = .int .i64 j ∧ Bld W0 b7 wz (textF c (tk ts k) ++ (⟨#[45]⟩ : ByteArray).data.toList ++ part4 ([t2, t3, t4, t5].take j.toNat))) (fun i _ => (4 - intOf i).toNat)
        case atStart => exact ⟨0, by omega, rfl, by simpa [part4] using HB1.out⟩
        case round =>
          obtain ⟨j, hj, rfl, hbj⟩ := hrel
          have HBJ := Lib.hid hbj
          have HTL : Hid ((textF c (tk ts k) ++ (⟨#[45]⟩ : ByteArray).data.toList ++ part4 ([t2, t3, t4, t5].take j.toNat)).length ≤ 200300) := Lib.hid (by
            have h9 := HTX.out
            have h8 := part4_len r2 r3 r4 r5 j.toNat
            rw [List.length_append, List.length_append]
            have e8 := ba_len (⟨#[45]⟩ : ByteArray)
            omega)
          clear hbj
          rcases (show j = 0 ∨ j = 1 ∨ j = 2 ∨ j = 3 ∨ j = 4 by omega) with rfl | rfl | rfl | rfl | rfl
          · have hq : IntKind.i64.wrap 0 = 0 := rfl
            clear hq
            go_wp2_with (first | (go_at_call 30; (refine (itoa_e t2 _ r2 (HT.out.ext (HBJ.out.extw KX.out lw7))).mono ?_); rintro e w' ⟨rfl, nI, rfl⟩) | (go_at_call 29; (refine (wstr_any _ (HBJ.out.ext nI.ext) (Nat.le_trans (Nat.add_le_add HTL.out (cat_size l2)) (by decide))).mono ?_); rintro e W2 ⟨rfl, hb2, _⟩; have HB2 := Lib.hid hb2; clear hb2))
            go_roundw
            case rel => exact ⟨0 + 1, by omega, by first | rfl | go_num, by
              have h9 := HB2.out
              rw [ba_append] at h9
              have e9 : part4 ([t2, t3, t4, t5].take (0 + 1 : Int).toNat) = part4 ([t2, t3, t4, t5].take (0 : Int).toNat) ++ (32 :: Lib.itoa t2) := by simp [part4]
              rw [e9, ← List.append_assoc]
              exact h9⟩
            case measure => first | decide | (simp [intOf]; done) | (simp [intOf]; omega)
          · have hq : IntKind.i64.wrap 0 = 0 := rfl
            clear hq
            go_wp2_with (first | (go_at_call 30; (refine (itoa_e t3 _ r3 (HT.out.ext (HBJ.out.extw KX.out lw7))).mono ?_); rintro e w' ⟨rfl, nI, rfl⟩) | (go_at_call 29; (refine (wstr_any _ (HBJ.out.ext nI.ext) (Nat.le_trans (Nat.add_le_add HTL.out (cat_size l3)) (by decide))).mono ?_); rintro e W2 ⟨rfl, hb2, _⟩; have HB2 := Lib.hid hb2; clear hb2))
            go_roundw
            case rel => exact ⟨1 + 1, by omega, by first | rfl | go_num, by
              have h9 := HB2.out
              rw [ba_append] at h9
              have e9 : part4 ([t2, t3, t4, t5].take (1 + 1 : Int).toNat) = part4 ([t2, t3, t4, t5].take (1 : Int).toNat) ++ (32 :: Lib.itoa t3) := by simp [part4]
              rw [e9, ← List.append_assoc]
              exact h9⟩
            case measure => first | decide | (simp [intOf]; done) | (simp [intOf]; omega)
          · have hq : IntKind.i64.wrap 0 = 0 := rfl
            clear hq
            go_wp2_with (first | (go_at_call 30; (refine (itoa_e t4 _ r4 (HT.out.ext (HBJ.out.extw KX.out lw7))).mono ?_); rintro e w' ⟨rfl, nI, rfl⟩) | (go_at_call 29; (refine (wstr_any _ (HBJ.out.ext nI.ext) (Nat.le_trans (Nat.add_le_add HTL.out (cat_size l4)) (by decide))).mono ?_); rintro e W2 ⟨rfl, hb2, _⟩; have HB2 := Lib.hid hb2; clear hb2))
            go_roundw
            case rel => exact ⟨2 + 1, by omega, by first | rfl | go_num, by
              have h9 := HB2.out
              rw [ba_append] at h9
              have e9 : part4 ([t2, t3, t4, t5].take (2 + 1 : Int).toNat) = part4 ([t2, t3, t4, t5].take (2 : Int).toNat) ++ (32 :: Lib.itoa t4) := by simp [part4]
              rw [e9, ← List.append_assoc]
              exact h9⟩
            case measure => first | decide | (simp [intOf]; done) | (simp [intOf]; omega)
          · have hq : IntKind.i64.wrap 0 = 0 := rfl
            clear hq
            go_wp2_with (first | (go_at_call 30; (refine (itoa_e t5 _ r5 (HT.out.ext (HBJ.out.extw KX.out lw7))).mono ?_); rintro e w' ⟨rfl, nI, rfl⟩) | (go_at_call 29; (refine (wstr_any _ (HBJ.out.ext nI.ext) (Nat.le_trans (Nat.add_le_add HTL.out (cat_size l5)) (by decide))).mono ?_); rintro e W2 ⟨rfl, hb2, _⟩; have HB2 := Lib.hid hb2; clear hb2))
            go_roundw
            case rel => exact ⟨3 + 1, by omega, by first | rfl | go_num, by
              have h9 := HB2.out
              rw [ba_append] at h9
              have e9 : part4 ([t2, t3, t4, t5].take (3 + 1 : Int).toNat) = part4 ([t2, t3, t4, t5].take (3 : Int).toNat) ++ (32 :: Lib.itoa t5) := by simp [part4]
              rw [e9, ← List.append_assoc]
              exact h9⟩
            case measure => first | decide | (simp [intOf]; done) | (simp [intOf]; omega)
          · go_wp2_with (go_at_call 29; (refine (wstr_any ⟨#[10]⟩ HBJ.out (Nat.le_trans (Nat.add_le_add HTL.out (show (⟨#[10]⟩ : ByteArray).size ≤ 1 by decide)) (by decide))).mono ?_); rintro e W2 ⟨rfl, hb2, _⟩; have HB2 := Lib.hid hb2; clear hb2)
            go_roundw
            case rel => exact ⟨k + 1, by omega, by first | rfl | go_num, by
              have h9 := HB2.out
              rw [HSU.out, text_snoc]
              have e9 : lineF c ⟨(t1, t2, t3), t4, t5⟩ = (⟨#[45]⟩ : ByteArray).data.toList ++ part4 ([t2, t3, t4, t5].take (4 : Int).toNat) ++ [10] := by simp [lineF, HNM.out, part4]
              rw [e9, ← List.append_assoc, ← List.append_assoc]
              exact h9⟩
            case measure => simp [intOf]; omega
      · obtain ⟨p, rfl⟩ : ∃ p : Nat, t1 = (p : Int) := ⟨t1.toNat, by omega⟩
        have q1 : decide (0 ≤ (p : Int)) = true := by simp
        by_cases hpc : p < c.length
        · have q2 : decide (p < c.length) = true := by simpa using hpc
          obtain ⟨bc, oc, rfl, rc0⟩ := SliceOf.elemK (SliceOf.ext H2.out (HBL.out.extw KX.out lw7)) hpc
          obtain ⟨q, hq⟩ : ∃ q, q = c[p] := ⟨_, rfl⟩
          rw [← hq] at rc0
          have y0 : wr.cell? ⟨bc, oc + p * 7, none⟩ = some (.string q.nm) := rc0 0 _ rfl
          have oc0 : Old bc wr := Old.of_cell y0
          have lnm : q.nm.size ≤ 100 := HC.out q (by rw [hq]; exact List.getElem_mem hpc)
          have HNM : Hid (nameF c (p : Int) = q.nm.data.toList) := Lib.hid (by unfold nameF; rw [if_pos (by omega)]; simp [hq, hpc])
          clear hq rc0
          go_wp2_with (first | ((with_reducible apply wl_loadM midRow rt); (· rfl); (· (first | exact wanted_none rfl | exact wanted_some rfl rfl rfl)); (· rfl)) | ((with_reducible apply wl_store' lwRow); (· (first | exact wanted_none rfl | exact wanted_some rfl rfl rfl)); (· rfl); (· rfl); (· infer_instance); (· rfl); (· rfl); (· (simp [Value.oneCell'])); try simp only [setRow_alloc, setRow_new, setRow_new1, setRow_new2, setRow_new11, setRow_new111]) | (go_at_call 29; (refine (wstr_any q.nm (HBL.out.ext ((Ext.refl _).alloc _)) (by have := HTX.out; have := lnm; omega)).mono ?_); rintro e W1 ⟨rfl, hb1, hok1⟩; have HB1 := Lib.hid hb1; have k9 : Block W1 wr.heap.size #[.int .i64 (p : Int), .int .i64 t2, .int .i64 t3, .int .i64 t4, .int .i64 t5] := ⟨⟨_, hok1 _ _ (MapKept.heap_alloc wr (.cells #[.int .i64 (p : Int), .int .i64 t2, .int .i64 t3, .int .i64 t4, .int .i64 t5] 77)).1 (fun e => by have := HBL.out.lt; injection e with e; omega) (fun _ _ e => by cases e)⟩⟩; clear hb1 hok1))
          go_loopw [50] (fun i wz => ∃ j : Int, (0 ≤ j ∧ j ≤ 4) ∧ i = .int .i64 j ∧ Bld W0 b7 wz (textF c (tk ts k) ++ (q.nm : ByteArray).data.toList ++ part4 ([t2, t3, t4, t5].take j.toNat))) (fun i _ => (4 - intOf i).toNat)
          case atStart => exact ⟨0, by omega, rfl, by simpa [part4] using HB1.out⟩
          case round =>
            obtain ⟨j, hj, rfl, hbj⟩ := hrel
            have HBJ := Lib.hid hbj
            have HTL : Hid ((textF c (tk ts k) ++ (q.nm : ByteArray).data.toList ++ part4 ([t2, t3, t4, t5].take j.toNat)).length ≤ 200300) := Lib.hid (by
              have h9 := HTX.out
              have h8 := part4_len r2 r3 r4 r5 j.toNat
              rw [List.length_append, List.length_append]
              have e8 := ba_len (q.nm : ByteArray)
              omega)
            clear hbj
            rcases (show j = 0 ∨ j = 1 ∨ j = 2 ∨ j = 3 ∨ j = 4 by omega) with rfl | rfl | rfl | rfl | rfl
            · have hq : IntKind.i64.wrap 0 = 0 := rfl
              clear hq
              go_wp2_with (first | (go_at_call 30; (refine (itoa_e t2 _ r2 (HT.out.ext (HBJ.out.extw KX.out lw7))).mono ?_); rintro e w' ⟨rfl, nI, rfl⟩) | (go_at_call 29; (refine (wstr_any _ (HBJ.out.ext nI.ext) (Nat.le_trans (Nat.add_le_add HTL.out (cat_size l2)) (by decide))).mono ?_); rintro e W2 ⟨rfl, hb2, _⟩; have HB2 := Lib.hid hb2; clear hb2))
              go_roundw
              case rel => exact ⟨0 + 1, by omega, by first | rfl | go_num, by
                have h9 := HB2.out
                rw [ba_append] at h9
                have e9 : part4 ([t2, t3, t4, t5].take (0 + 1 : Int).toNat) = part4 ([t2, t3, t4, t5].take (0 : Int).toNat) ++ (32 :: Lib.itoa t2) := by simp [part4]
                rw [e9, ← List.append_assoc]
                exact h9⟩
              case measure => first | decide | (simp [intOf]; done) | (simp [intOf]; omega)
            · have hq : IntKind.i64.wrap 0 = 0 := rfl
              clear hq
              go_wp2_with (first | (go_at_call 30; (refine (itoa_e t3 _ r3 (HT.out.ext (HBJ.out.extw KX.out lw7))).mono ?_); rintro e w' ⟨rfl, nI, rfl⟩) | (go_at_call 29; (refine (wstr_any _ (HBJ.out.ext nI.ext) (Nat.le_trans (Nat.add_le_add HTL.out (cat_size l3)) (by decide))).mono ?_); rintro e W2 ⟨rfl, hb2, _⟩; have HB2 := Lib.hid hb2; clear hb2))
              go_roundw
              case rel => exact ⟨1 + 1, by omega, by first | rfl | go_num, by
                have h9 := HB2.out
                rw [ba_append] at h9
                have e9 : part4 ([t2, t3, t4, t5].take (1 + 1 : Int).toNat) = part4 ([t2, t3, t4, t5].take (1 : Int).toNat) ++ (32 :: Lib.itoa t3) := by simp [part4]
                rw [e9, ← List.append_assoc]
                exact h9⟩
              case measure => first | decide | (simp [intOf]; done) | (simp [intOf]; omega)
            · have hq : IntKind.i64.wrap 0 = 0 := rfl
              clear hq
              go_wp2_with (first | (go_at_call 30; (refine (itoa_e t4 _ r4 (HT.out.ext (HBJ.out.extw KX.out lw7))).mono ?_); rintro e w' ⟨rfl, nI, rfl⟩) | (go_at_call 29; (refine (wstr_any _ (HBJ.out.ext nI.ext) (Nat.le_trans (Nat.add_le_add HTL.out (cat_size l4)) (by decide))).mono ?_); rintro e W2 ⟨rfl, hb2, _⟩; have HB2 := Lib.hid hb2; clear hb2))
              go_roundw
              case rel => exact ⟨2 + 1, by omega, by first | rfl | go_num, by
                have h9 := HB2.out
                rw [ba_append] at h9
                have e9 : part4 ([t2, t3, t4, t5].take (2 + 1 : Int).toNat) = part4 ([t2, t3, t4, t5].take (2 : Int).toNat) ++ (32 :: Lib.itoa t4) := by simp [part4]
                rw [e9, ← List.append_assoc]
                exact h9⟩
              case measure => first | decide | (simp [intOf]; done) | (simp [intOf]; omega)
            · have hq : IntKind.i64.wrap 0 = 0 := rfl
              clear hq
              go_wp2_with (first | (go_at_call 30; (refine (itoa_e t5 _ r5 (HT.out.ext (HBJ.out.extw KX.out lw7))).mono ?_); rintro e w' ⟨rfl, nI, rfl⟩) | (go_at_call 29; (refine (wstr_any _ (HBJ.out.ext nI.ext) (Nat.le_trans (Nat.add_le_add HTL.out (cat_size l5)) (by decide))).mono ?_); rintro e W2 ⟨rfl, hb2, _⟩; have HB2 := Lib.hid hb2; clear hb2))
              go_roundw
              case rel => exact ⟨3 + 1, by omega, by first | rfl | go_num, by
                have h9 := HB2.out
                rw [ba_append] at h9
                have e9 : part4 ([t2, t3, t4, t5].take (3 + 1 : Int).toNat) = part4 ([t2, t3, t4, t5].take (3 : Int).toNat) ++ (32 :: Lib.itoa t5) := by simp [part4]
                rw [e9, ← List.append_assoc]
                exact h9⟩
              case measure => first | decide | (simp [intOf]; done) | (simp [intOf]; omega)
            · go_wp2_with (go_at_call 29; (refine (wstr_any ⟨#[10]⟩ HBJ.out (Nat.le_trans (Nat.add_le_add HTL.out (show (⟨#[10]⟩ : ByteArray).size ≤ 1 by decide)) (by decide))).mono ?_); rintro e W2 ⟨rfl, hb2, _⟩; have HB2 := Lib.hid hb2; clear hb2)
              go_roundw
              case rel => exact ⟨k + 1, by omega, by first | rfl | go_num, by
                have h9 := HB2.out
                rw [HSU.out, text_snoc]
                have e9 : lineF c ⟨((p : Int), t2, t3), t4, t5⟩ = (q.nm : ByteArray).data.toList ++ part4 ([t2, t3, t4, t5].take (4 : Int).toNat) ++ [10] := by simp [lineF, HNM.out, part4]
                rw [e9, ← List.append_assoc, ← List.append_assoc]
                exact h9⟩
              case measure => simp [intOf]; omega
        · have q2 : decide (p < c.length) = false := by simpa using hpc
          have HNM : Hid (nameF c (p : Int) = [45]) := Lib.hid (by unfold nameF; rw [if_pos (by omega)]; simp [hpc])
          have lnm : (⟨#[45]⟩ : ByteArray).size ≤ 100 := by decide
          go_wp2_with (first | ((with_reducible apply wl_loadM midRow rt); (· rfl); (· (first | exact wanted_none rfl | exact wanted_some rfl rfl rfl)); (· rfl)) | ((with_reducible apply wl_store' lwRow); (· (first | exact wanted_none rfl | exact wanted_some rfl rfl rfl)); (· rfl); (· rfl); (· infer_instance); (· rfl); (· rfl); (· (simp [Value.oneCell'])); try simp only [setRow_alloc, setRow_new, setRow_new1, setRow_new2, setRow_new11, setRow_new111]) | (go_at_call 29; (refine (wstr_any ⟨#[45]⟩ (HBL.out.ext ((Ext.refl _).alloc _)) (by have := HTX.out; have := lnm; omega)).mono ?_); rintro e W1 ⟨rfl, hb1, hok1⟩; have HB1 := Lib.hid hb1; have k9 : Block W1 wr.heap.size #[.int .i64 (p : Int), .int .i64 t2, .int .i64 t3, .int .i64 t4, .int .i64 t5] := ⟨⟨_, hok1 _ _ (MapKept.heap_alloc wr (.cells #[.int .i64 (p : Int), .int .i64 t2, .int .i64 t3, .int .i64 t4, .int .i64 t5] 77)).1 (fun e => by have := HBL.out.lt; injection e with e; omega) (fun _ _ e => by cases e)⟩⟩; clear hb1 hok1))
          go_loopw [50] (fun i wz => ∃ j : Int, (0 ≤ j ∧ j ≤ 4) ∧ i = .int .i64 j ∧ Bld W0 b7 wz (textF c (tk ts k) ++ (⟨#[45]⟩ : ByteArray).data.toList ++ part4 ([t2, t3, t4, t5].take j.toNat))) (fun i _ => (4 - intOf i).toNat)
          case atStart => exact ⟨0, by omega, rfl, by simpa [part4] using HB1.out⟩
          case round =>
            obtain ⟨j, hj, rfl, hbj⟩ := hrel
            have HBJ := Lib.hid hbj
            have HTL : Hid ((textF c (tk ts k) ++ (⟨#[45]⟩ : ByteArray).data.toList ++ part4 ([t2, t3, t4, t5].take j.toNat)).length ≤ 200300) := Lib.hid (by
              have h9 := HTX.out
              have h8 := part4_len r2 r3 r4 r5 j.toNat
              rw [List.length_append, List.length_append]
              have e8 := ba_len (⟨#[45]⟩ : ByteArray)
              omega)
            clear hbj
            rcases (show j = 0 ∨ j = 1 ∨ j = 2 ∨ j = 3 ∨ j = 4 by omega) with rfl | rfl | rfl | rfl | rfl
            · have hq : IntKind.i64.wrap 0 = 0 := rfl
              clear hq
              go_wp2_with (first | (go_at_call 30; (refine (itoa_e t2 _ r2 (HT.out.ext (HBJ.out.extw KX.out lw7))).mono ?_); rintro e w' ⟨rfl, nI, rfl⟩) | (go_at_call 29; (refine (wstr_any _ (HBJ.out.ext nI.ext) (Nat.le_trans (Nat.add_le_add HTL.out (cat_size l2)) (by decide))).mono ?_); rintro e W2 ⟨rfl, hb2, _⟩; have HB2 := Lib.hid hb2; clear hb2))
              go_roundw
              case rel => exact ⟨0 + 1, by omega, by first | rfl | go_num, by
                have h9 := HB2.out
                rw [ba_append] at h9
                have e9 : part4 ([t2, t3, t4, t5].take (0 + 1 : Int).toNat) = part4 ([t2, t3, t4, t5].take (0 : Int).toNat) ++ (32 :: Lib.itoa t2) := by simp [part4]
                rw [e9, ← List.append_assoc]
                exact h9⟩
              case measure => first | decide | (simp [intOf]; done) | (simp [intOf]; omega)
            · have hq : IntKind.i64.wrap 0 = 0 := rfl
              clear hq
              go_wp2_with (first | (go_at_call 30; (refine (itoa_e t3 _ r3 (HT.out.ext (HBJ.out.extw KX.out lw7))).mono ?_); rintro e w' ⟨rfl, nI, rfl⟩) | (go_at_call 29; (refine (wstr_any _ (HBJ.out.ext nI.ext) (Nat.le_trans (Nat.add_le_add HTL.out (cat_size l3)) (by decide))).mono ?_); rintro e W2 ⟨rfl, hb2, _⟩; have HB2 := Lib.hid hb2; clear hb2))
              go_roundw
              case rel => exact ⟨1 + 1, by omega, by first | rfl | go_num, by
                have h9 := HB2.out
                rw [ba_append] at h9
                have e9 : part4 ([t2, t3, t4, t5].take (1 + 1 : Int).toNat) = part4 ([t2, t3, t4, t5].take (1 : Int).toNat) ++ (32 :: Lib.itoa t3) := by simp [part4]
                rw [e9, ← List.append_assoc]
                exact h9⟩
              case measure => first | decide | (simp [intOf]; done) | (simp [intOf]; omega)
            · have hq : IntKind.i64.wrap 0 = 0 := rfl
              clear hq
              go_wp2_with (first | (go_at_call 30; (refine (itoa_e t4 _ r4 (HT.out.ext (HBJ.out.extw KX.out lw7))).mono ?_); rintro e w' ⟨rfl, nI, rfl⟩) | (go_at_call 29; (refine (wstr_any _ (HBJ.out.ext nI.ext) (Nat.le_trans (Nat.add_le_add HTL.out (cat_size l4)) (by decide))).mono ?_); rintro e W2 ⟨rfl, hb2, _⟩; have HB2 := Lib.hid hb2; clear hb2))
              go_roundw
              case rel => exact ⟨2 + 1, by omega, by first | rfl | go_num, by
                have h9 := HB2.out
                rw [ba_append] at h9
                have e9 : part4 ([t2, t3, t4, t5].take (2 + 1 : Int).toNat) = part4 ([t2, t3, t4, t5].take (2 : Int).toNat) ++ (32 :: Lib.itoa t4) := by simp [part4]
                rw [e9, ← List.append_assoc]
                exact h9⟩
              case measure => first | decide | (simp [intOf]; done) | (simp [intOf]; omega)
            · have hq : IntKind.i64.wrap 0 = 0 := rfl
              clear hq
              go_wp2_with (first | (go_at_call 30; (refine (itoa_e t5 _ r5 (HT.out.ext (HBJ.out.extw KX.out lw7))).mono ?_); rintro e w' ⟨rfl, nI, rfl⟩) | (go_at_call 29; (refine (wstr_any _ (HBJ.out.ext nI.ext) (Nat.le_trans (Nat.add_le_add HTL.out (cat_size l5)) (by decide))).mono ?_); rintro e W2 ⟨rfl, hb2, _⟩; have HB2 := Lib.hid hb2; clear hb2))
              go_roundw
              case rel => exact ⟨3 + 1, by omega, by first | rfl | go_num, by
                have h9 := HB2.out
                rw [ba_append] at h9
                have e9 : part4 ([t2, t3, t4, t5].take (3 + 1 : Int).toNat) = part4 ([t2, t3, t4, t5].take (3 : Int).toNat) ++ (32 :: Lib.itoa t5) := by simp [part4]
                rw [e9, ← List.append_assoc]
                exact h9⟩
              case measure => first | decide | (simp [intOf]; done) | (simp [intOf]; omega)
            · go_wp2_with (go_at_call 29; (refine (wstr_any ⟨#[10]⟩ HBJ.out (Nat.le_trans (Nat.add_le_add HTL.out (show (⟨#[10]⟩ : ByteArray).size ≤ 1 by decide)) (by decide))).mono ?_); rintro e W2 ⟨rfl, hb2, _⟩; have HB2 := Lib.hid hb2; clear hb2)
              go_roundw
              case rel => exact ⟨k + 1, by omega, by first | rfl | go_num, by
                have h9 := HB2.out
                rw [HSU.out, text_snoc]
                have e9 : lineF c ⟨((p : Int), t2, t3), t4, t5⟩ = (⟨#[45]⟩ : ByteArray).data.toList ++ part4 ([t2, t3, t4, t5].take (4 : Int).toNat) ++ [10] := by simp [lineF, HNM.out, part4]
                rw [e9, ← List.append_assoc, ← List.append_assoc]
                exact h9⟩
              case measure => simp [intOf]; omega
    · go_wp2_with (go_at_call 31; (refine (Tryd.Builder_String_any_k b7 b7 (textF c (tk ts k)) _ HBL.out.isb (by have := HBL.out.lt; omega)).mono ?_); rintro e W2 ⟨rfl, _, hb2, _⟩; have HB2 := Lib.hid hb2; clear hb2)
      have hkk : k = ts.length := by omega
      have HE : Hid (tk ts k = ts) := Lib.hid (by rw [hkk]; exact tk_all ts)
      clear hkk
      go_ret
      exact ⟨ts, ret_str (by rw [HE.out]), HOK.out, HAS.out, ExtOf.of (Below.trans (HBL.out.extw KX.out lw7) (Below.mono HB2.out lw7))⟩
end Go.Proofs.YtaflcbdbacogeaaDoor
