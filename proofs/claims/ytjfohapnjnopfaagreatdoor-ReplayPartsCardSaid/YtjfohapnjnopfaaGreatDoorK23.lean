/-
  Chapter 61: several texts in one (R23, R24).
-/
import Derived.Test.YtjfohapnjnopfaaGreatDoorK1
import Derived.Test.YtjfohapnjnopfaaGreatDoorMA
import Derived.Test.YtjfohapnjnopfaaGreatDoorShelf
import Derived.Lib.AppendIntMem
import Derived.Laws.IdiomStrings
import Derived.Test.YtjfohapnjnopfaaGreatDoorK20
/-
  Chapter 61: codes are made.
-/
section
set_option linter.unusedVariables false
set_option linter.unusedSimpArgs false
namespace Go.Proofs.YtjfohapnjnopfaaGreatDoor
open Go.RowKit RepM

attribute [local go_sem] ExtOf.cell ExtOf.frozen Block.cell Block.frozen ExtB.cell ExtB.frozen alloc_cell alloc_frozen
def Tab (w : World) : Prop := Lib.TabIs Tryz.prog w "internal/strconv.uint64pow10" .u64 Lib.pow10Tab
theorem Tab.ext {w w' : World} (h : Tab w) (hx : Ext w w') : Tab w' := Lib.tabBelow_of_tabIs h w' hx
theorem grow_ext {w : World} {k : Nat} {os : Array Obj} : Ext w (Sort.grow (w.drewN k) os) := by
  refine ⟨rfl, rfl, rfl, ?_, fun q hq => ?_⟩
  · simp [Sort.grow]
  · show ((w.heap) ++ os)[q]? = _
    rw [Array.getElem?_append_left hq]
theorem itoa_e (n : Int) (w : World) (h0 : -9223372036854775808 ≤ n) (h1 : n ≤ 9223372036854775807) (ht : Tab w) : Calls Tryz.prog 37 #[.int .i64 n] w fun e w' => e = .returned (.string ⟨(Lib.itoa n).toArray⟩) ∧ ∃ n : ExtOf w, w' = n.val :=
  (Tryz.strconv_Itoa n h0 h1 w ht).mono fun _ _ ⟨he, k, os, hw⟩ => ⟨he, hw ▸ ExtOf.of grow_ext⟩
theorem repeat_e (s : ByteArray) (c : Nat) (w : World) (hc : c ≤ 1000) (hs : s.size ≤ 1000) : Calls Tryz.prog 136 #[.string s, .int .i64 c] w fun e w' => e = .returned (.string ⟨(Lib.repeatL s.data.toList c).toArray⟩) ∧ ∃ n : ExtOf w, w' = n.val :=
  (Tryz.strings_Repeat s c w (by omega) (by have := Nat.mul_le_mul hs hc; omega)).mono fun _ _ ⟨he, hw⟩ => ⟨he, ExtOf.of hw⟩
theorem conv_one {k : UInt8} {g : Nat} {W : World} (hb : Block W g #[.int .u8 (k.toNat : Int)]) : (convert 51 9 (.slice (some ⟨g, 0, none⟩) 1 1)).run Tryz.prog W = .ok (.string ⟨#[k]⟩) W :=
  run_convert_bytes_back W 51 9 5 ⟨g, 0, none⟩ 1 [k] Tryz.underlying51 Tryz.underlying5 Tryz.underlying9 (fun j hj => by
    have hj0 : j = 0 := by simpa using hj
    subst hj0
    have := hb.cell (i := 0)
    simp at this
    rw [show (⟨g, 0, none⟩ : Addr).add 0 = ⟨g, 0, none⟩ from rfl, this]; rfl)
/-- the values of the region that makes a code -/
def cdV (k : UInt8) (D R : ByteArray) : Nat → Value
  | 19 => .int .u8 (k.toNat : Int)
  | 21 => .string ⟨#[k]⟩
  | 22 => .string D
  | 23 => .int .i64 D.size
  | 24 => .int .i64 (6 - D.size)
  | 25 => .string R
  | 26 => .string (⟨#[k]⟩ ++ R)
  | 27 => .string D
  | 28 => .string (⟨#[k]⟩ ++ R ++ D)
  | 7 => .string (⟨#[k]⟩ ++ R ++ D)
  | _ => undef
def cdA (k : UInt8) (D R : ByteArray) (d : Nat) (v : Value) : Prop := d = 20 ∨ v = cdV k D R d
def cdF (k : UInt8) (d : Nat) (v : Value) (W : World) : Prop := d = 20 → ∃ g, v = .slice (some ⟨g, 0, none⟩) 1 1 ∧ Block W g #[.int .u8 (k.toNat : Int)]
theorem cdA_some (k : UInt8) (D R : ByteArray) (d : Nat) : ∃ v, cdA k D R d v := ⟨cdV k D R d, .inr rfl⟩
theorem cdF_keep (k : UInt8) : ∀ d v w w', cdF k d v w → Ext w w' → cdF k d v w' := fun d v w w' h hx e => by obtain ⟨g, h1, h2⟩ := h e; exact ⟨g, h1, h2.ext hx⟩
theorem wrap_small {x : Int} (h0 : -1000000 ≤ x) (h1 : x ≤ 1000000) : IntKind.i64.wrap x = x := IntWalk.i64_in _ (by omega)
theorem repeat_eq (c : Nat) : Lib.repeatL [48] c = List.replicate c 48 := by
  induction c with
  | zero => rfl
  | succ c ih => rw [Lib.repeatL, ih]; rfl
theorem itoa_nat (n : Nat) : Lib.itoa (n : Int) = Lib.decDigits n := by unfold Lib.itoa; rw [if_neg (by omega)]; rfl
set_option maxHeartbeats 1600000 in
set_option maxRecDepth 20000 in
theorem icode_any (k : UInt8) (n : Nat) (w : World) (hk : capital k = true) (hn : n < 1000000) (ht : Tab w) : Calls Tryz.prog 123 #[.int .u8 (k.toNat : Int), .int .i64 (n : Int)] w fun e w' => e = .returned (.tuple #[.string (mkC k n), .int .i64 0]) ∧ ∃ n : ExtOf w, w' = n.val := by
  have q1 : decide ((n : Int) < 0) = false := decide_eq_false (by omega)
  have q2 : decide (999999 < (n : Int)) = false := decide_eq_false (by omega)
  have HT := Lib.hid ht
  obtain ⟨D, hD⟩ : ∃ D : ByteArray, D = ⟨(Lib.itoa n).toArray⟩ := ⟨_, rfl⟩
  obtain ⟨R, hR⟩ : ∃ R : ByteArray, R = ⟨(Lib.repeatL [48] (6 - (Lib.itoa n).length)).toArray⟩ := ⟨_, rfl⟩
  obtain ⟨B, hB⟩ : ∃ B : ByteArray, B = ⟨(k :: six n).toArray⟩ := ⟨_, rfl⟩
  have hsz : D.size = (Lib.itoa n).length := by rw [hD]; simp [ByteArray.size]
  have hlen : (Lib.itoa n).length ≤ 6 := by rw [itoa_nat]; exact dec_len 5 n (by simpa using hn)
  have hrl : R.size ≤ 6 := by rw [hR]; show (Lib.repeatL [48] (6 - (Lib.itoa n).length)).toArray.size ≤ 6; rw [List.size_toArray, repeat_eq, List.length_replicate]; omega
  have HREP : Hid (∀ W, Calls Tryz.prog 136 #[.string ⟨#[48]⟩, .int .i64 (6 - D.size)] W fun e w' => e = .returned (.string R) ∧ ∃ n : ExtOf W, w' = n.val) := Lib.hid (fun W => by
    have := repeat_e ⟨#[48]⟩ (6 - (Lib.itoa n).length) W (by omega) (by decide)
    rw [show ((6 - (Lib.itoa n).length : Nat) : Int) = 6 - D.size by omega] at this
    rw [hR]
    exact this)
  have HIT : Hid (∀ W, Tab W → Calls Tryz.prog 37 #[.int .i64 (n : Int)] W fun e w' => e = .returned (.string D) ∧ ∃ n : ExtOf W, w' = n.val) := Lib.hid (fun W hW => by rw [hD]; exact itoa_e n W (by omega) (by omega) hW)
  have hbody : (⟨#[k]⟩ : ByteArray) ++ R ++ D = B := by
    rw [hR, hD, hB]
    unfold six
    rw [repeat_eq, itoa_nat]
    refine Go.WideShapes.bytes_inj ?_
    simp
  have h7 : B.size = 7 := by rw [hB]; show (k :: six n).toArray.size = 7; rw [List.size_toArray, List.length_cons, (six_ok hn).1]
  have HBL : Hid (B.data.toList = k :: six n) := Lib.hid (by rw [hB])
  have HBD := Lib.hid hbody
  clear ht hD hR hB hbody
  go_enter Tryz.func123, Tryz.ntmps123
  go_wp2_with (first | (go_at_call 119; refine (icap_any k _).mono ?_; rintro e w' ⟨rfl, rfl⟩; rw [hk]) | (go_at_call 37; refine (HIT.out _ (HT.out.ext (by repeat' (first | (with_reducible exact Ext.refl _) | (with_reducible exact ExtOf.ext _) | (with_reducible refine Ext.trans ?_ (ExtOf.ext _)) | (with_reducible refine Ext.alloc ?_ _) | (with_reducible refine Ext.drew ?_) | (with_reducible refine Ext.setCell ?_ ?_ _) | (with_reducible refine Ext.setRow ?_ ?_ _) | (with_reducible exact HX.out) | (with_reducible refine Ext.trans ?_ HX.out) | (with_reducible refine Ext.below ?_ (Nat.le_refl _) _) | omega | (simp; done) | (simp; omega))))).mono ?_; rintro e w' ⟨rfl, n1, rfl⟩))
  refine wp_region_soft (cdA k D R) (cdF k) (by kernel_rfl) (by kernel_rfl) (by kernel_rfl) (by kernel_rfl) (cdA_some _ _ _) (cdF_keep _) ?_
  refine soft_det (d := 19) (V := .int .u8 (k.toNat : Int)) rfl (by kernel_rfl) (fun v h => h.resolve_left (by decide)) (.inr rfl) (fun _ e => by cases e) (fun W _ _ => by kernel_rfl) ?_
  refine soft_new (d := 20) rfl (by kernel_rfl) (fun v => .inl rfl) (fun W hx => ⟨.slice (some ⟨W.heap.size, 0, none⟩) 1 1, W.alloc (.cells #[.int .u8 (k.toNat : Int)] 5), by simp [go_sem, execOp], (Ext.refl _).alloc _, fun _ => ⟨W.heap.size, rfl, Block.new _ _ _⟩⟩) ?_
  intro v20
  refine soft_det (d := 21) (V := .string ⟨#[k]⟩) rfl (by kernel_rfl) (fun v h => h.resolve_left (by decide)) (.inr rfl) (fun _ e => by cases e) (fun W hx hk => by
    obtain ⟨g, hg, hb⟩ := known_get (d := 20) (v := v20) (n := 1) hk (by kernel_rfl) (by kernel_rfl) (by kernel_rfl) rfl
    subst hg
    simp [execOp, go_sem, conv_one hb]) ?_
  refine soft_det (d := 22) (V := .string D) rfl (by kernel_rfl) (fun v h => h.resolve_left (by decide)) (.inr rfl) (fun _ e => by cases e) (fun W _ _ => by kernel_rfl) ?_
  refine soft_det (d := 23) (V := .int .i64 D.size) rfl (by kernel_rfl) (fun v h => h.resolve_left (by decide)) (.inr rfl) (fun _ e => by cases e) (fun W _ _ => by kernel_rfl) ?_
  refine soft_det (d := 24) (V := .int .i64 (6 - D.size)) rfl (by kernel_rfl) (fun v h => h.resolve_left (by decide)) (.inr rfl) (fun _ e => by cases e) (fun W _ _ => by simp [execOp, go_sem]; exact wrap_small (by omega) (by omega)) ?_
  refine soft_call (d := 25) (V := .string R) (f := 136) (vals := #[.string ⟨#[48]⟩, .int .i64 (6 - D.size)]) rfl (by kernel_rfl) (fun v h => h.resolve_left (by decide)) (.inr rfl) (fun _ e => by cases e) (fun W => by kernel_rfl) (fun W hx _ => HREP.out W) ?_
  refine soft_det (d := 26) (V := .string ((⟨#[k]⟩ : ByteArray) ++ R)) rfl (by kernel_rfl) (fun v h => h.resolve_left (by decide)) (.inr rfl) (fun _ e => by cases e) (fun W _ _ => by simp [execOp, go_sem]; omega) ?_
  refine soft_det (d := 27) (V := .string D) rfl (by kernel_rfl) (fun v h => h.resolve_left (by decide)) (.inr rfl) (fun _ e => by cases e) (fun W _ _ => by kernel_rfl) ?_
  refine soft_det (d := 28) (V := .string ((⟨#[k]⟩ : ByteArray) ++ R ++ D)) rfl (by kernel_rfl) (fun v h => h.resolve_left (by decide)) (.inr rfl) (fun _ e => by cases e) (fun W _ _ => by simp [execOp, go_sem]; omega) ?_
  refine soft_det (d := 7) (V := .string ((⟨#[k]⟩ : ByteArray) ++ R ++ D)) rfl (by kernel_rfl) (fun v h => h.resolve_left (by decide)) (.inr rfl) (fun _ e => by cases e) (fun W _ _ => by kernel_rfl) ?_
  intro W1 hx1
  simp only [Act.put, List.setIfInBounds_toArray, List.set_cons_succ, List.set_cons_zero]
  rw [HBD.out]
  have HX1 := Lib.hid (n1.ext.trans (Ext.trans ((Ext.refl _).drew) hx1))
  obtain ⟨L, hL⟩ : ∃ L : UInt8, L = UInt8.ofNat (letter B.data.toList) := ⟨_, rfl⟩
  have hL2 : (letter B.data.toList : Int) = (L.toNat : Int) := by
    have := letter_range B.data.toList
    rw [hL, UInt8.toNat_ofNat']; omega
  have hfin : B ++ (⟨#[L]⟩ : ByteArray) = mkC k n := by
    refine Go.WideShapes.bytes_inj ?_
    rw [hL, HBL.out]
    simp [mkC, mkL, HBL.out]
  have HFIN := Lib.hid hfin
  clear hfin hL
  have h8 : (B ++ (⟨#[L]⟩ : ByteArray)).size = 8 := by rw [ByteArray.size_append, h7]; rfl
  go_wp2_with (go_at_call 98; refine (iletter_any B _ (by omega)).mono ?_; rintro e w' ⟨rfl, rfl⟩; rw [hL2])
  rw [conv_one (k := L) (Block.new _ _ _)]
  go_wp2
  rw [HFIN.out]
  simp [bodyPost, go_sem]
  exact ⟨.tuple #[.string (mkC k n), .int .i64 0], by kernel_rfl, rfl, ExtOf.of (HX1.out.alloc _)⟩
set_option maxHeartbeats 1600000 in
theorem icode_out (k : UInt8) (n : Int) (w : World) (hk : capital k = true) (hn : n < 0 ∨ 999999 < n) : ∃ c : Int, c ≠ 0 ∧ Calls Tryz.prog 123 #[.int .u8 (k.toNat : Int), .int .i64 n] w fun e w' => e = .returned (.tuple #[.string ⟨#[]⟩, .int .i64 c]) ∧ ∃ n : ExtOf w, w' = n.val := by
  refine ⟨9, by decide, ?_⟩
  rcases Int.lt_or_le n 0 with h | h
  · have q1 : decide (n < 0) = true := decide_eq_true h
    go_enter Tryz.func123, Tryz.ntmps123
    go_wp2_with (go_at_call 119; refine (icap_any k _).mono ?_; rintro e w' ⟨rfl, rfl⟩; rw [hk])
    simp [bodyPost, go_sem]
    exact ⟨.tuple #[.string ⟨#[]⟩, .int .i64 9], by kernel_rfl, rfl, ExtOf.of (Ext.refl _)⟩
  · have q1 : decide (n < 0) = false := decide_eq_false (by omega)
    have q2 : decide (999999 < n) = true := decide_eq_true (by omega)
    go_enter Tryz.func123, Tryz.ntmps123
    go_wp2_with (go_at_call 119; refine (icap_any k _).mono ?_; rintro e w' ⟨rfl, rfl⟩; rw [hk])
    simp [bodyPost, go_sem]
    exact ⟨.tuple #[.string ⟨#[]⟩, .int .i64 9], by kernel_rfl, rfl, ExtOf.of (Ext.refl _)⟩
end Go.Proofs.YtjfohapnjnopfaaGreatDoor
end
/-
  Chapter 61: the program's packages.
-/
section
set_option linter.unusedVariables false
set_option linter.unusedSimpArgs false
namespace Go.Proofs.YtjfohapnjnopfaaGreatDoor
open Go.RowKit RepM

attribute [local go_sem] ExtOf.cell ExtOf.frozen Block.cell Block.frozen ExtB.cell ExtB.frozen alloc_cell alloc_frozen
theorem packed_out {l : List EvP} {n : Int} (hok : ∀ x ∈ l, okEv x.1 = true) (hn : n < 0 ∨ 999999 < n) : packed num (evs l) n = [] := by
  unfold packed
  rw [show (evs l).find? (fun e => decide (e.kind = 5) && decide (num e.item = n)) = none from ?_]
  rw [List.find?_eq_none]
  intro e he
  obtain ⟨x, hx, rfl⟩ := List.mem_map.1 he
  have := num_range x.1.item
  simp only [Bool.and_eq_true, decide_eq_true_eq, not_and]
  intro _ h; omega
set_option maxHeartbeats 1600000 in
theorem ppacked_any (l : List EvP) (v : Value) (n : Int) (w : World) (h : PastS w v l) (ht : Tab w) : Calls Tryz.prog 101 #[v, .int .i64 n] w fun en w' => ∃ v', en = .returned v' ∧ IntS w v' (packed num (evs l) n) ∧ ∃ m : ExtOf w, w' = m.val := by
  obtain ⟨p, cap, rfl, hc1, hc2, hc3⟩ := EvsS.form h.ev
  unfold maxLen at hc2
  have hlen := h.len
  have H := Lib.hid h
  clear h
  rcases (if h : n < 0 ∨ 999999 < n then .inl h else .inr ⟨n.toNat, by omega, by omega⟩ : (n < 0 ∨ 999999 < n) ∨ ∃ m : Nat, m < 1000000 ∧ n = (m : Int)) with hn | ⟨m, hm, rfl⟩
  · obtain ⟨c, hc0, hc⟩ := icode_out 75 n w (by decide) hn
    have qc : (c != 0) = true := bne_iff_ne.2 hc0
    have HP := Lib.hid (packed_out H.out.ok hn)
    have HC := Lib.hid hc
    clear hc hc0 hn
    go_enter Tryz.func101, Tryz.ntmps101
    go_wp2_with (go_at_call 123; refine (HC.out).mono ?_; rintro en w' ⟨rfl, n1, rfl⟩)
    simp [bodyPost, go_sem]
    exact ⟨.slice none 0 0, by kernel_rfl, by rw [HP.out]; exact SliceOf.nil w, n1, rfl⟩
  · have HC := Lib.hid (icode_any 75 m w (by decide) hm ht)
    obtain ⟨C, hC⟩ : ∃ C, C = mkC 75 m := ⟨_, rfl⟩
    rw [← hC] at HC
    have HIF : Hid (∀ x ∈ l, x.1.kind = 5 → (x.1.item = C ↔ num x.1.item = (m : Int))) := Lib.hid (fun x hx h5 => by rw [hC]; exact code_iff (ok_pack (H.out.ok x hx) h5) (by decide) hm)
    clear hC
    go_enter Tryz.func101, Tryz.ntmps101
    go_wp2_with (go_at_call 123; refine (HC.out).mono ?_; rintro en w' ⟨rfl, n1, rfl⟩)
    have HN1 := Lib.hid n1.ext
    go_loopw [18] (fun vi wr => ∃ k : Nat, k ≤ l.length ∧ vi = .int .i64 k ∧ packed num (evs l) m = packed num ((evs l).drop k) m ∧ Ext w wr) (fun i _ => l.length - (intOf i).toNat)
    case atStart => exact ⟨0, by omega, rfl, by rw [List.drop_zero], HN1.out⟩
    case round =>
      obtain ⟨i, hk, rfl, hd, hx⟩ := hrel
      have HD := Lib.hid hd
      have HX := Lib.hid hx
      clear hd hx
      by_cases hlt : i < l.length
      · have HS := Lib.hid (packed_step (l := evs l) (n := (m : Int)) (k := i) (by simpa using hlt))
        obtain ⟨b, off, rfl, hr, hin⟩ := EvsS.elem (EvsS.ext H.out.ev HX.out) hlt
        have hok := H.out.ok _ (List.getElem_mem hlt)
        have hgi : (evs l)[i]'(by simpa using hlt) = (l[i]).1 := evs_get (by simpa using hlt)
        have hiw := H.out.ev.2 _ (List.getElem_mem hlt)
        obtain ⟨⟨x, sl⟩, he⟩ : ∃ z, z = l[i] := ⟨_, rfl⟩
        rw [← he] at hr hin hok hgi hiw
        simp only at hok hin hgi hiw
        have he2 := he
        clear he
        have HIW := Lib.hid hiw
        clear hiw
        have HIN := Lib.hid hin
        have HOK := Lib.hid hok
        clear hin hok
        rw [hgi] at HS
        have HIF2 := Lib.hid (HIF.out _ (List.getElem_mem hlt))
        rw [← he2] at HIF2
        simp only at HIF2
        have HR : Hid (wr.rangeAt b (off + i * 6) [.int .i64 x.kind, .int .i64 x.at_, .string x.item, .string x.of, sl.v, .string x.text]) := Lib.hid hr
        clear hr hgi he2
        by_cases h5 : x.kind = 5
        · have q5 : (x.kind == 5) = true := beq_iff_eq.2 h5
          by_cases hs : x.item = C
          · have qs : (x.item.toList == C.toList) = true := str_eq hs
            have HH := Lib.hid ((HIF2.out h5).1 hs)
            have H5 := Lib.hid h5
            clear hs h5
            go_wp2_with (first | ((with_reducible refine wl_loadM midEv (Ext.range ?_ (Hid.out HR)) ?_ ?_ ?_ ?_); (· repeat' (first | (with_reducible exact Ext.refl _) | (with_reducible exact ExtOf.ext _) | (with_reducible refine Ext.trans ?_ (ExtOf.ext _)) | (with_reducible refine Ext.alloc ?_ _) | (with_reducible refine Ext.drew ?_) | (with_reducible refine Ext.setCell ?_ ?_ _) | (with_reducible refine Ext.setRow ?_ ?_ _) | (with_reducible exact HX.out) | (with_reducible refine Ext.trans ?_ HX.out) | (with_reducible refine Ext.below ?_ (Nat.le_refl _) _) | omega | (simp; done) | (simp; omega))); (· rfl); (· (first | exact wanted_none rfl | exact wanted_some rfl rfl rfl)); (· rfl)) | ((with_reducible apply wl_store' lwEv); (· (first | exact wanted_none rfl | exact wanted_some rfl rfl rfl)); (· rfl); (· rfl); (· infer_instance); (· rfl); (· rfl); (· (simp [Value.oneCell', SlT.v])); try simp only [setRow_alloc, setRow_new, setRow_new1, setRow_new2, setRow_new11, setRow_new111]) | ((with_reducible apply wl_load' lwEv); (· (first | exact wanted_none rfl | exact wanted_some rfl rfl rfl)); (· rfl); (· infer_instance); (· rfl)))
            go_ret
            exact ⟨sl.v, rfl, by rw [HD.out, HS.out, if_pos ⟨H5.out, HH.out⟩]; exact HIW.out, ExtOf.of (HX.out.trans (by repeat' (first | (with_reducible exact Ext.refl _) | (with_reducible exact ExtOf.ext _) | (with_reducible refine Ext.trans ?_ (ExtOf.ext _)) | (with_reducible refine Ext.alloc ?_ _) | (with_reducible refine Ext.drew ?_) | (with_reducible refine Ext.setCell ?_ ?_ _) | (with_reducible refine Ext.setRow ?_ ?_ _) | (with_reducible exact HX.out) | (with_reducible refine Ext.trans ?_ HX.out) | (with_reducible refine Ext.below ?_ (Nat.le_refl _) _) | omega | (simp; done) | (simp; omega))))⟩
          · have qs : (x.item.toList == C.toList) = false := str_ne hs
            have HH := Lib.hid (fun e => hs ((HIF2.out h5).2 e))
            clear hs h5
            go_wp2_with (first | ((with_reducible refine wl_loadM midEv (Ext.range ?_ (Hid.out HR)) ?_ ?_ ?_ ?_); (· repeat' (first | (with_reducible exact Ext.refl _) | (with_reducible exact ExtOf.ext _) | (with_reducible refine Ext.trans ?_ (ExtOf.ext _)) | (with_reducible refine Ext.alloc ?_ _) | (with_reducible refine Ext.drew ?_) | (with_reducible refine Ext.setCell ?_ ?_ _) | (with_reducible refine Ext.setRow ?_ ?_ _) | (with_reducible exact HX.out) | (with_reducible refine Ext.trans ?_ HX.out) | (with_reducible refine Ext.below ?_ (Nat.le_refl _) _) | omega | (simp; done) | (simp; omega))); (· rfl); (· (first | exact wanted_none rfl | exact wanted_some rfl rfl rfl)); (· rfl)) | ((with_reducible apply wl_store' lwEv); (· (first | exact wanted_none rfl | exact wanted_some rfl rfl rfl)); (· rfl); (· rfl); (· infer_instance); (· rfl); (· rfl); (· (simp [Value.oneCell', SlT.v])); try simp only [setRow_alloc, setRow_new, setRow_new1, setRow_new2, setRow_new11, setRow_new111]) | ((with_reducible apply wl_load' lwEv); (· (first | exact wanted_none rfl | exact wanted_some rfl rfl rfl)); (· rfl); (· infer_instance); (· rfl)))
            go_roundw
            case rel => exact ⟨i + 1, by omega, by first | rfl | go_num, by rw [HD.out, HS.out, if_neg (fun h => HH.out h.2)], HX.out.trans (by repeat' (first | (with_reducible exact Ext.refl _) | (with_reducible exact ExtOf.ext _) | (with_reducible refine Ext.trans ?_ (ExtOf.ext _)) | (with_reducible refine Ext.alloc ?_ _) | (with_reducible refine Ext.drew ?_) | (with_reducible refine Ext.setCell ?_ ?_ _) | (with_reducible refine Ext.setRow ?_ ?_ _) | (with_reducible exact HX.out) | (with_reducible refine Ext.trans ?_ HX.out) | (with_reducible refine Ext.below ?_ (Nat.le_refl _) _) | omega | (simp; done) | (simp; omega)))⟩
            case measure => simp [intOf]; omega
        · have q5 : (x.kind == 5) = false := beq_eq_false_iff_ne.2 h5
          have HH := Lib.hid h5
          clear h5
          go_wp2_with (first | ((with_reducible refine wl_loadM midEv (Ext.range ?_ (Hid.out HR)) ?_ ?_ ?_ ?_); (· repeat' (first | (with_reducible exact Ext.refl _) | (with_reducible exact ExtOf.ext _) | (with_reducible refine Ext.trans ?_ (ExtOf.ext _)) | (with_reducible refine Ext.alloc ?_ _) | (with_reducible refine Ext.drew ?_) | (with_reducible refine Ext.setCell ?_ ?_ _) | (with_reducible refine Ext.setRow ?_ ?_ _) | (with_reducible exact HX.out) | (with_reducible refine Ext.trans ?_ HX.out) | (with_reducible refine Ext.below ?_ (Nat.le_refl _) _) | omega | (simp; done) | (simp; omega))); (· rfl); (· (first | exact wanted_none rfl | exact wanted_some rfl rfl rfl)); (· rfl)) | ((with_reducible apply wl_store' lwEv); (· (first | exact wanted_none rfl | exact wanted_some rfl rfl rfl)); (· rfl); (· rfl); (· infer_instance); (· rfl); (· rfl); (· (simp [Value.oneCell', SlT.v])); try simp only [setRow_alloc, setRow_new, setRow_new1, setRow_new2, setRow_new11, setRow_new111]) | ((with_reducible apply wl_load' lwEv); (· (first | exact wanted_none rfl | exact wanted_some rfl rfl rfl)); (· rfl); (· infer_instance); (· rfl)))
          go_roundw
          case rel => exact ⟨i + 1, by omega, by first | rfl | go_num, by rw [HD.out, HS.out, if_neg (fun h => HH.out h.1)], HX.out.trans (by repeat' (first | (with_reducible exact Ext.refl _) | (with_reducible exact ExtOf.ext _) | (with_reducible refine Ext.trans ?_ (ExtOf.ext _)) | (with_reducible refine Ext.alloc ?_ _) | (with_reducible refine Ext.drew ?_) | (with_reducible refine Ext.setCell ?_ ?_ _) | (with_reducible refine Ext.setRow ?_ ?_ _) | (with_reducible exact HX.out) | (with_reducible refine Ext.trans ?_ HX.out) | (with_reducible refine Ext.below ?_ (Nat.le_refl _) _) | omega | (simp; done) | (simp; omega)))⟩
          case measure => simp [intOf]; omega
      · have HE : Hid (packed num ((evs l).drop i) m = []) := Lib.hid (by rw [List.drop_of_length_le (by simp; omega)]; rfl)
        go_wp2_with fail
        go_ret
        exact ⟨_, rfl, by rw [HD.out, HE.out]; exact SliceOf.nil w, ExtOf.of HX.out⟩
end Go.Proofs.YtjfohapnjnopfaaGreatDoor
end
