/-
  Chapter 61: several texts in one (R35, R36, R37).
-/
import Derived.Test.YtjfohapnjnopfaaGreatDoorK5
import Derived.Test.YtjfohapnjnopfaaGreatDoorK7
import Derived.Test.YtjfohapnjnopfaaGreatDoorK23
import Derived.Test.YtjfohapnjnopfaaGreatDoorMA
import Derived.Test.YtjfohapnjnopfaaGreatDoorLC
import Derived.Test.YtjfohapnjnopfaaGreatDoorK10
import Derived.Test.YtjfohapnjnopfaaGreatDoorLB
import Derived.Deep.DeepCutAuto
import Derived.Shelf.Strings.BuilderK
/-
  Chapter 61: the program's line of an event.
-/
section
set_option linter.unusedVariables false
set_option linter.unusedSimpArgs false
namespace Go.Proofs.YtjfohapnjnopfaaGreatDoor
open Go.RowKit RepM

attribute [local go_sem] ExtOf.cell ExtOf.frozen Block.cell Block.frozen ExtB.cell ExtB.frozen alloc_cell alloc_frozen
def cB (l : List UInt8) : ByteArray := ⟨l.toArray⟩
theorem cB_append (a b : List UInt8) : cB a ++ cB b = cB (a ++ b) := Go.WideShapes.bytes_inj (by simp [cB])
theorem cB_size (l : List UInt8) : (cB l).size = l.length := by simp [cB, ByteArray.size]
theorem cB_data (l : List UInt8) : (cB l).data.toList = l := rfl
theorem itoa_c (n : Int) (w : World) (h0 : -1099511627776 ≤ n) (h1 : n ≤ 1099511627776) (ht : Tab w) : Calls Tryz.prog 37 #[.int .i64 n] w fun e w' => e = .returned (.string (cB (Lib.itoa n))) ∧ ∃ n : ExtOf w, w' = n.val := itoa_e n w (by omega) (by omega) ht
theorem cB_small (n : Int) (h0 : -1099511627776 ≤ n) (h1 : n ≤ 1099511627776) : (cB (Lib.itoa n)).size ≤ 14 := by rw [cB_size]; exact itoa_len ⟨h0, h1⟩
theorem two_any (n : Int) (w : World) (h0 : 0 ≤ n) (h1 : n < 100) (ht : Tab w) : Calls Tryz.prog 66 #[.int .i64 n] w fun e w' => e = .returned (.string (cB (twoL n))) ∧ ∃ n : ExtOf w, w' = n.val := by
  have HT := Lib.hid ht
  have HI := Lib.hid (two_small h0 h1)
  obtain ⟨m, rfl⟩ : ∃ m : Nat, n = (m : Int) := ⟨n.toNat, by omega⟩
  have s1 := cB_small ((m : Int) / 10) (by omega) (by omega)
  have s2 := cB_small ((m : Int) % 10) (by omega) (by omega)
  clear ht
  go_enter Tryz.func66, Tryz.ntmps66
  go_wp2_with (go_at_call 37; refine (itoa_c _ _ (by omega) (by omega) (HT.out.ext (by repeat' (first | (with_reducible exact Ext.refl _) | (with_reducible exact ExtOf.ext _) | (with_reducible refine Ext.trans ?_ (ExtOf.ext _)) | (with_reducible refine Ext.alloc ?_ _) | (with_reducible refine Ext.drew ?_) | (with_reducible refine Ext.setCell ?_ ?_ _) | (with_reducible refine Ext.setRow ?_ ?_ _) | (with_reducible exact HX.out) | (with_reducible refine Ext.trans ?_ HX.out) | (with_reducible refine Ext.below ?_ (Nat.le_refl _) _) | omega | (simp; done) | (simp; omega))))).mono ?_; rintro en w' ⟨rfl, n1, rfl⟩)
  go_ret
  exact ⟨by rw [cB_append, HI.out]; rfl, by exact ExtOf.of (by repeat' (first | (with_reducible exact Ext.refl _) | (with_reducible exact ExtOf.ext _) | (with_reducible refine Ext.trans ?_ (ExtOf.ext _)) | (with_reducible refine Ext.alloc ?_ _) | (with_reducible refine Ext.drew ?_) | (with_reducible refine Ext.setCell ?_ ?_ _) | (with_reducible refine Ext.setRow ?_ ?_ _) | (with_reducible exact HX.out) | (with_reducible refine Ext.trans ?_ HX.out) | (with_reducible refine Ext.below ?_ (Nat.le_refl _) _) | omega | (simp; done) | (simp; omega)))⟩
theorem format_any (t : Int) (w : World) (h0 : 0 ≤ t) (h1 : t ≤ 10000000) (ht : Tab w) : Calls Tryz.prog 35 #[.int .i64 t] w fun e w' => e = .returned (.string (cB (timeL t))) ∧ ∃ n : ExtOf w, w' = n.val := by
  have HT := Lib.hid ht
  obtain ⟨m, rfl⟩ : ∃ m : Nat, t = (m : Int) := ⟨t.toNat, by omega⟩
  have s1 := cB_small ((m : Int) / 1440) (by omega) (by omega)
  have s2 : (cB (twoL ((m : Int) % 1440 / 60))).size = 2 := rfl
  have s3 : (cB (twoL ((m : Int) % 60))).size = 2 := rfl
  have hb : timeB (m : Int) = true := by unfold timeB; simp; omega
  clear ht
  go_enter Tryz.func35, Tryz.ntmps35
  go_wp2_with (first | (go_at_call 65; refine (pistime_any _ _).mono ?_; rintro en w' ⟨rfl, n0, rfl⟩; rw [hb]) | (go_at_call 37; refine (itoa_c _ _ (by omega) (by omega) (HT.out.ext (by repeat' (first | (with_reducible exact Ext.refl _) | (with_reducible exact ExtOf.ext _) | (with_reducible refine Ext.trans ?_ (ExtOf.ext _)) | (with_reducible refine Ext.alloc ?_ _) | (with_reducible refine Ext.drew ?_) | (with_reducible refine Ext.setCell ?_ ?_ _) | (with_reducible refine Ext.setRow ?_ ?_ _) | (with_reducible exact HX.out) | (with_reducible refine Ext.trans ?_ HX.out) | (with_reducible refine Ext.below ?_ (Nat.le_refl _) _) | omega | (simp; done) | (simp; omega))))).mono ?_; rintro en w' ⟨rfl, n1, rfl⟩) | (go_at_call 66; refine (two_any _ _ (by omega) (by omega) (HT.out.ext (by repeat' (first | (with_reducible exact Ext.refl _) | (with_reducible exact ExtOf.ext _) | (with_reducible refine Ext.trans ?_ (ExtOf.ext _)) | (with_reducible refine Ext.alloc ?_ _) | (with_reducible refine Ext.drew ?_) | (with_reducible refine Ext.setCell ?_ ?_ _) | (with_reducible refine Ext.setRow ?_ ?_ _) | (with_reducible exact HX.out) | (with_reducible refine Ext.trans ?_ HX.out) | (with_reducible refine Ext.below ?_ (Nat.le_refl _) _) | omega | (simp; done) | (simp; omega))))).mono ?_; rintro en w' ⟨rfl, n2, rfl⟩))
  go_ret
  exact ⟨congrArg (fun s => Ending.returned (.string s)) (Go.WideShapes.bytes_inj (by simp [cB, timeL])), by exact ExtOf.of (by repeat' (first | (with_reducible exact Ext.refl _) | (with_reducible exact ExtOf.ext _) | (with_reducible refine Ext.trans ?_ (ExtOf.ext _)) | (with_reducible refine Ext.alloc ?_ _) | (with_reducible refine Ext.drew ?_) | (with_reducible refine Ext.setCell ?_ ?_ _) | (with_reducible refine Ext.setRow ?_ ?_ _) | (with_reducible exact HX.out) | (with_reducible refine Ext.trans ?_ HX.out) | (with_reducible refine Ext.below ?_ (Nat.le_refl _) _) | omega | (simp; done) | (simp; omega)))⟩
theorem ename_any (k : Int) (h1 : 1 ≤ k) (h2 : k ≤ 14) (w : World) : Calls Tryz.prog 36 #[.int .i64 k] w fun e w' => e = .returned (.string (nameB k)) ∧ ∃ n : ExtOf w, w' = n.val := by
  obtain ⟨T, v, hT⟩ : ∃ T v, shpV (shpOf k) = .iface T v := by cases shpOf k <;> exact ⟨_, _, rfl⟩
  have HT := Lib.hid hT
  clear hT
  go_enter Tryz.func36, Tryz.ntmps36
  go_wp2_with (first | (go_at_call 63; refine (form_ok k h1 h2 _).mono ?_; rintro en w' ⟨rfl, n0, rfl⟩; unfold formV; rw [HT.out]) | ((with_reducible apply wl_store' lwForm); (· (first | exact wanted_none rfl | exact wanted_some rfl rfl rfl)); (· rfl); (· rfl); (· infer_instance); (· rfl); (· rfl); (· (simp [Value.oneCell', SlT.v])); try simp only [setRow_alloc, setRow_new, setRow_new1, setRow_new2, setRow_new11, setRow_new111]) | ((with_reducible apply wl_load' lwForm); (· (first | exact wanted_none rfl | exact wanted_some rfl rfl rfl)); (· rfl); (· infer_instance); (· rfl)))
  go_ret
  exact ⟨rfl, by exact ExtOf.of (by repeat' (first | (with_reducible exact Ext.refl _) | (with_reducible exact ExtOf.ext _) | (with_reducible refine Ext.trans ?_ (ExtOf.ext _)) | (with_reducible refine Ext.alloc ?_ _) | (with_reducible refine Ext.drew ?_) | (with_reducible refine Ext.setCell ?_ ?_ _) | (with_reducible refine Ext.setRow ?_ ?_ _) | (with_reducible exact HX.out) | (with_reducible refine Ext.trans ?_ HX.out) | (with_reducible refine Ext.below ?_ (Nat.le_refl _) _) | omega | (simp; done) | (simp; omega)))⟩
/-- the words of a line, with the first k numbers -/
def wordsL (e : Ev) (k : Nat) : List ByteArray := [cB (timeL e.at_), nameB e.kind] ++ (if e.item.size = 0 then [] else [e.item]) ++ (if e.of.size = 0 then [] else [e.of]) ++ (e.n.take k).map (fun n => cB (Lib.itoa n))
theorem words_take {e : Ev} {k : Nat} (h : k < e.n.length) : wordsL e (k + 1) = wordsL e k ++ [cB (Lib.itoa e.n[k])] := by
  unfold wordsL
  rw [List.take_succ_eq_append_getElem h, List.map_append, ← List.append_assoc]
  rfl
theorem words_len {e : Ev} {k : Nat} : (wordsL e k).length ≤ 4 + k := by
  unfold wordsL
  simp only [List.length_append, List.length_map, List.length_take, List.length_cons, List.length_nil]
  have h1 : (if e.item.size = 0 then [] else [e.item]).length ≤ 1 := by split <;> simp
  have h2 : (if e.of.size = 0 then [] else [e.of]).length ≤ 1 := by split <;> simp
  omega
theorem wordL_tail (s : ByteArray) : Lib.joinTail [32] ((if s.size = 0 then [] else [s]).map (·.data.toList)) = wordL s := by
  unfold wordL
  split
  · rfl
  · simp [Lib.joinTail]
theorem joinTail_append (sep : List UInt8) (a b : List (List UInt8)) : Lib.joinTail sep (a ++ b) = Lib.joinTail sep a ++ Lib.joinTail sep b := by simp [Lib.joinTail]
theorem words_join {e : Ev} (h : okEv e = true) : Lib.join ((wordsL e e.n.length).map (·.data.toList)) [32] ++ [10] = lineL e := by
  unfold lineL wordsL
  rw [if_pos h, List.take_length]
  simp only [List.map_append, List.map_cons, List.map_nil, List.cons_append, List.nil_append, List.append_assoc]
  rw [Lib.join_cons]
  rw [show ∀ r : List (List UInt8), Lib.joinTail [32] ((nameB e.kind).data.toList :: r) = 32 :: ((nameB e.kind).data.toList ++ Lib.joinTail [32] r) from fun r => by simp [Lib.joinTail]]
  rw [joinTail_append, joinTail_append, wordL_tail, wordL_tail]
  rw [show Lib.joinTail [32] ((e.n.map fun n => cB (Lib.itoa n)).map (·.data.toList)) = numsL e.n from by simp [Lib.joinTail, numsL, cB, List.flatMap_def, Function.comp_def]]
  simp [cB]
theorem line_len {e : Ev} (h : okEv e = true) : (lineL e).length ≤ 10000 := by
  unfold lineL
  rw [if_pos h]
  have h1 := time_len (ok_parts h).2.1
  have h2 := name_len e.kind
  have h3 := word_len e.item
  have h4 := word_len e.of
  have h5 := numsL_len (l := e.n) (fun n hn => by obtain ⟨i, hi, rfl⟩ := List.getElem_of_mem hn; exact ok_num h hi)
  have h6 := ok_item h
  have h7 := ok_len h
  have h8 : (nameB e.kind).data.toList.length = (nameB e.kind).size := by simp
  simp only [List.length_append, List.length_cons, List.length_nil]
  omega
end Go.Proofs.YtjfohapnjnopfaaGreatDoor
end
/-
  Chapter 61: the program's line of an event: the walk.
-/
section
set_option linter.unusedVariables false
set_option linter.unusedSimpArgs false
namespace Go.Proofs.YtjfohapnjnopfaaGreatDoor
open Go.RowKit RepM

attribute [local go_sem] ExtOf.cell ExtOf.frozen Block.cell Block.frozen ExtB.cell ExtB.frozen alloc_cell alloc_frozen
/-- the values of the region that makes the first two words -/
def lnA (g : Nat) (e : Ev) (d : Nat) (v : Value) : Prop := match d with
  | 9 => v = .pointer (some ⟨g, 1, none⟩)
  | 10 => v = .int .i64 e.at_
  | 11 => v = .string (cB (timeL e.at_))
  | 12 => v = .pointer (some ⟨g, 0, none⟩)
  | 13 => v = .int .i64 e.kind
  | 14 => v = .string (nameB e.kind)
  | _ => True
def lnF (base : Nat) (e : Ev) (d : Nat) (v : Value) (w : World) : Prop := match d with
  | 15 => Own encB 1 9 base w v [cB (timeL e.at_), nameB e.kind]
  | 3 => Own encB 1 9 base w v [cB (timeL e.at_), nameB e.kind]
  | _ => True
theorem lnA_some (g : Nat) (e : Ev) (d : Nat) : ∃ v, lnA g e d v := by
  unfold lnA; split <;> first | exact ⟨_, rfl⟩ | exact ⟨undef, trivial⟩
theorem lnF_keep (base : Nat) (e : Ev) (d : Nat) (v : Value) (w w' : World) (h : lnF base e d v w) (hx : Ext w w') : lnF base e d v w' := by
  unfold lnF at *; split <;> first | exact Own.ext h hx | trivial
set_option maxHeartbeats 1600000 in
set_option maxRecDepth 20000 in
theorem pline_any (x : Ev) (nv : Value) (w : World) (hn : IntS w nv x.n) (ht : Tab w) : Calls Tryz.prog 16 #[.agg (evC x nv)] w fun e w' => e = .returned (.string (cB (lineL x))) ∧ ∃ n : ExtOf w, w' = n.val := by
  obtain ⟨iS, hiS, hS0, hS1, hS2⟩ := info_parts infoStr
  obtain ⟨q, c, rfl, hq1, hq2, hq3⟩ := IntS.form hn
  unfold maxLen at hq2
  have HN := Lib.hid hn
  have HT := Lib.hid ht
  have HCK := Lib.hid (fun W (hx : Ext w W) => pcheck_any x (.slice q x.n.length c) W (hn.ext hx))
  clear hn ht
  unfold evC at *
  by_cases hok : okEv x = true
  case neg =>
    have HL : Hid (lineL x = []) := Lib.hid (by unfold lineL; rw [if_neg hok])
    have HNK := Lib.hid hok
    clear hok
    go_enter Tryz.func16, Tryz.ntmps16
    go_wp2_with (first | ((with_reducible apply wl_store' lwEv); (· (first | exact wanted_none rfl | exact wanted_some rfl rfl rfl)); (· rfl); (· rfl); (· infer_instance); (· rfl); (· rfl); (· (simp [Value.oneCell', SlT.v])); try simp only [setRow_alloc, setRow_new, setRow_new1, setRow_new2, setRow_new11, setRow_new111]) | ((with_reducible apply wl_load' lwEv); (· (first | exact wanted_none rfl | exact wanted_some rfl rfl rfl)); (· rfl); (· infer_instance); (· rfl)) | (go_at_call 34; refine (HCK.out _ (by repeat' (first | (with_reducible exact Ext.refl _) | (with_reducible exact ExtOf.ext _) | (with_reducible refine Ext.trans ?_ (ExtOf.ext _)) | (with_reducible refine Ext.alloc ?_ _) | (with_reducible refine Ext.drew ?_) | (with_reducible refine Ext.setCell ?_ ?_ _) | (with_reducible refine Ext.setRow ?_ ?_ _) | (with_reducible exact HX.out) | (with_reducible refine Ext.trans ?_ HX.out) | (with_reducible refine Ext.below ?_ (Nat.le_refl _) _) | omega | (simp; done) | (simp; omega)))).mono ?_; rintro en w' ⟨⟨er, rfl, her⟩, n1, rfl⟩; (have q0 : (er != 0) = true := bne_iff_ne.2 (fun h => HNK.out (her.1 h))); clear her))
    go_ret
    exact ⟨by rw [HL.out]; rfl, by exact ExtOf.of (by repeat' (first | (with_reducible exact Ext.refl _) | (with_reducible exact ExtOf.ext _) | (with_reducible refine Ext.trans ?_ (ExtOf.ext _)) | (with_reducible refine Ext.alloc ?_ _) | (with_reducible refine Ext.drew ?_) | (with_reducible refine Ext.setCell ?_ ?_ _) | (with_reducible refine Ext.setRow ?_ ?_ _) | (with_reducible exact HX.out) | (with_reducible refine Ext.trans ?_ HX.out) | (with_reducible refine Ext.below ?_ (Nat.le_refl _) _) | omega | (simp; done) | (simp; omega)))⟩
  have HOK := Lib.hid hok
  clear hok
  have hkd := (ok_parts HOK.out).1
  have hat := (ok_parts HOK.out).2.1
  have hln := ok_len HOK.out
  have HKD := Lib.hid hkd
  have HAT := Lib.hid hat
  clear hkd hat
  go_enter Tryz.func16, Tryz.ntmps16
  go_wp2_with (first | ((with_reducible apply wl_store' lwEv); (· (first | exact wanted_none rfl | exact wanted_some rfl rfl rfl)); (· rfl); (· rfl); (· infer_instance); (· rfl); (· rfl); (· (simp [Value.oneCell', SlT.v])); try simp only [setRow_alloc, setRow_new, setRow_new1, setRow_new2, setRow_new11, setRow_new111]) | ((with_reducible apply wl_load' lwEv); (· (first | exact wanted_none rfl | exact wanted_some rfl rfl rfl)); (· rfl); (· infer_instance); (· rfl)) | (go_at_call 34; refine (HCK.out _ (by repeat' (first | (with_reducible exact Ext.refl _) | (with_reducible exact ExtOf.ext _) | (with_reducible refine Ext.trans ?_ (ExtOf.ext _)) | (with_reducible refine Ext.alloc ?_ _) | (with_reducible refine Ext.drew ?_) | (with_reducible refine Ext.setCell ?_ ?_ _) | (with_reducible refine Ext.setRow ?_ ?_ _) | (with_reducible exact HX.out) | (with_reducible refine Ext.trans ?_ HX.out) | (with_reducible refine Ext.below ?_ (Nat.le_refl _) _) | omega | (simp; done) | (simp; omega)))).mono ?_; rintro en w' ⟨⟨er, rfl, her⟩, n1, rfl⟩; (obtain rfl := her.2 HOK.out); clear her))
  obtain ⟨g, hg⟩ : ∃ g, g = w.heap.size := ⟨_, rfl⟩
  have hb1 : Block n1.val g #[.int .i64 x.kind, .int .i64 x.at_, .string x.item, .string x.of, .slice q x.n.length c, .string x.text] := by rw [hg]; infer_instance
  rw [← hg]
  have HX1 : Hid (Ext w n1.val) := Lib.hid (by repeat' (first | (with_reducible exact Ext.refl _) | (with_reducible exact ExtOf.ext _) | (with_reducible refine Ext.trans ?_ (ExtOf.ext _)) | (with_reducible refine Ext.alloc ?_ _) | (with_reducible refine Ext.drew ?_) | (with_reducible refine Ext.setCell ?_ ?_ _) | (with_reducible refine Ext.setRow ?_ ?_ _) | (with_reducible exact HX.out) | (with_reducible refine Ext.trans ?_ HX.out) | (with_reducible refine Ext.below ?_ (Nat.le_refl _) _) | omega | (simp; done) | (simp; omega)))
  have hs1 : g < n1.val.heap.size := hb1.lt
  have HG := Lib.hid hg
  clear hg
  refine wp_region_softF (lnA g x) (lnF (g + 1) x) (by kernel_rfl) (by kernel_rfl) (by kernel_rfl) (by kernel_rfl) (by kernel_rfl) (lnA_some _ _) (lnF_keep _ _) ?_
  refine soft_det (d := 9) (V := .pointer (some ⟨g, 1, none⟩)) rfl (by kernel_rfl) (fun v h => h) rfl (fun _ => trivial) (fun W _ _ => by kernel_rfl) ?_
  refine soft_det (d := 10) (V := .int .i64 x.at_) rfl (by kernel_rfl) (fun v h => h) rfl (fun _ => trivial) (fun W hx _ => by have := (hb1.ext (Ext.trans ((Ext.refl _).drew) hx)).cell (i := 1); simp at this; simp [execOp, go_sem, this]) ?_
  refine soft_call (d := 11) (V := .string (cB (timeL x.at_))) (f := 35) (vals := #[.int .i64 x.at_]) rfl (by kernel_rfl) (fun v h => h) rfl (fun _ => trivial) (fun W => by kernel_rfl) (fun W hx _ => format_any x.at_ W HAT.out.1 HAT.out.2 (HT.out.ext (HX1.out.trans (Ext.trans ((Ext.refl _).drew) hx)))) ?_
  refine soft_det (d := 12) (V := .pointer (some ⟨g, 0, none⟩)) rfl (by kernel_rfl) (fun v h => h) rfl (fun _ => trivial) (fun W _ _ => by kernel_rfl) ?_
  refine soft_det (d := 13) (V := .int .i64 x.kind) rfl (by kernel_rfl) (fun v h => h) rfl (fun _ => trivial) (fun W hx _ => by have := (hb1.ext (Ext.trans ((Ext.refl _).drew) hx)).cell (i := 0); simp at this; simp [execOp, go_sem, this]) ?_
  refine soft_call (d := 14) (V := .string (nameB x.kind)) (f := 36) (vals := #[.int .i64 x.kind]) rfl (by kernel_rfl) (fun v h => h) rfl (fun _ => trivial) (fun W => by kernel_rfl) (fun W hx _ => ename_any x.kind HKD.out.1 HKD.out.2 W) ?_
  refine soft_new (d := 15) rfl (by kernel_rfl) (fun v => trivial) (fun W hx => ⟨.slice (some ⟨W.heap.size, 0, none⟩) 2 2, W.alloc (.cells #[.string (cB (timeL x.at_)), .string (nameB x.kind)] 9), by simp [go_sem, execOp], (Ext.refl _).alloc _, Own.fresh encB_len rfl rfl (by have := hx.size; simp at this; omega) (by unfold maxLen; simp)⟩) ?_
  intro v15
  refine soft_some (d := 3) rfl (by kernel_rfl) (fun v => trivial) (fun W hx hk => ⟨v15, W, by kernel_rfl, Ext.refl _, known_get (d := 15) (v := v15) (n := 6) hk (by kernel_rfl) (by kernel_rfl) (by kernel_rfl)⟩) ?_
  intro v3 W2 hx2 hF2
  have ho2 : Own encB 1 9 (g + 1) W2 v3 [cB (timeL x.at_), nameB x.kind] := known_end (d := 3) (v := v3) hF2 (by kernel_rfl) (by kernel_rfl)
  have hb2 : Block W2 g #[.int .i64 x.kind, .int .i64 x.at_, .string x.item, .string x.of, .slice q x.n.length c, .string x.text] := hb1.ext (Ext.trans ((Ext.refl _).drew) hx2)
  have HX2 : Hid (Ext w W2) := Lib.hid (HX1.out.trans (Ext.trans ((Ext.refl _).drew) hx2))
  simp only [Act.put, List.setIfInBounds_toArray, List.set_cons_succ, List.set_cons_zero]
  have hgw : g < W2.heap.size := hb2.lt
  obtain ⟨q3, c3, rfl⟩ := Own.form2 ho2
  have HO2 := Lib.hid ho2
  clear hF2 hx2 hb1 hs1 ho2
  go_upto_if 18 with (first | ((with_reducible apply wl_load' lwEv); (· (first | exact wanted_none rfl | exact wanted_some rfl rfl rfl)); (· rfl); (· infer_instance); (· rfl)))
  go_cut [3] (fun s3 wx => Own encB 1 9 (g + 1) wx s3 ([cB (timeL x.at_), nameB x.kind] ++ (if x.item.size = 0 then [] else [x.item])) ∧ Block wx g #[.int .i64 x.kind, .int .i64 x.at_, .string x.item, .string x.of, .slice q x.n.length c, .string x.text] ∧ Ext w wx)
  case first =>
    by_cases h0 : x.item.size = 0
    · have H0 := Lib.hid h0
      rw [show (!x.item.toList.isEmpty) = false from by rw [size_beq, decide_eq_true h0]; rfl]
      clear h0
      go_wp2_with (first | ((with_reducible apply wl_load' lwEv); (· (first | exact wanted_none rfl | exact wanted_some rfl rfl rfl)); (· rfl); (· infer_instance); (· rfl)))
      go_meet
      exact ⟨by rw [if_pos H0.out, List.append_nil]; exact HO2.out, hb2, HX2.out⟩
    · have H0 := Lib.hid h0
      rw [show (!x.item.toList.isEmpty) = true from by rw [size_beq, decide_eq_false h0]; rfl]
      clear h0
      go_wp2_with (first | ((with_reducible apply wl_load' lwEv); (· (first | exact wanted_none rfl | exact wanted_some rfl rfl rfl)); (· rfl); (· infer_instance); (· rfl)) | (at_builtin; refine wl_append1g (enc := encB) (k := 1) (E := 9) (base := g + 1) (l := [cB (timeL x.at_), nameB x.kind]) (y := x.item) Tryz.underlying44 hiS hS0 hS1 hS2 rfl (by decide) encB_len encB_one rfl rfl (Own.alloc HO2.out _) inferInstance rfl (by unfold maxLen; simp) (by simp) (by simp; omega) ?_; intro v7 n7 ho7 hk7))
      go_meet
      exact ⟨by rw [if_neg H0.out]; exact ho7, hk7.block (hb2.ext ((Ext.refl _).alloc _)) (Own.ne_lo HO2.out (Nat.lt_succ_self _)), Below.trans (HX2.out.trans ((Ext.refl _).alloc _)) (Below.mono n7.below (by have := HG.out; omega))⟩
  obtain ⟨ho4, hb4, hx4⟩ := hcut
  obtain ⟨L4, hL4⟩ : ∃ L4, L4 = [cB (timeL x.at_), nameB x.kind] ++ (if x.item.size = 0 then [] else [x.item]) := ⟨_, rfl⟩
  have hl4 : L4.length ≤ 3 := by rw [hL4]; split <;> simp
  rw [← hL4] at ho4
  have HL4 := Lib.hid hL4
  have HX4 := Lib.hid hx4
  obtain ⟨q4, c4, rfl⟩ := Own.form2 ho4
  have HO4 := Lib.hid ho4
  have hgw4 := hb4.lt
  clear hL4 ho4 hx4 HO2 hb2
  go_upto_if 26 with (first | ((with_reducible apply wl_load' lwEv); (· (first | exact wanted_none rfl | exact wanted_some rfl rfl rfl)); (· rfl); (· infer_instance); (· rfl)))
  go_cut [3] (fun s3 wx => Own encB 1 9 (g + 1) wx s3 (L4 ++ (if x.of.size = 0 then [] else [x.of])) ∧ Block wx g #[.int .i64 x.kind, .int .i64 x.at_, .string x.item, .string x.of, .slice q x.n.length c, .string x.text] ∧ Ext w wx)
  case first =>
    by_cases h0 : x.of.size = 0
    · have H0 := Lib.hid h0
      rw [show (!x.of.toList.isEmpty) = false from by rw [size_beq, decide_eq_true h0]; rfl]
      clear h0
      go_wp2_with (first | ((with_reducible apply wl_load' lwEv); (· (first | exact wanted_none rfl | exact wanted_some rfl rfl rfl)); (· rfl); (· infer_instance); (· rfl)))
      go_meet
      exact ⟨by rw [if_pos H0.out, List.append_nil]; exact HO4.out, hb4, HX4.out⟩
    · have H0 := Lib.hid h0
      rw [show (!x.of.toList.isEmpty) = true from by rw [size_beq, decide_eq_false h0]; rfl]
      clear h0
      go_wp2_with (first | ((with_reducible apply wl_load' lwEv); (· (first | exact wanted_none rfl | exact wanted_some rfl rfl rfl)); (· rfl); (· infer_instance); (· rfl)) | (at_builtin; refine wl_append1g (enc := encB) (k := 1) (E := 9) (base := g + 1) (l := L4) (y := x.of) Tryz.underlying44 hiS hS0 hS1 hS2 rfl (by decide) encB_len encB_one rfl rfl (Own.alloc HO4.out _) inferInstance rfl (by unfold maxLen; omega) (by omega) (by simp; omega) ?_; intro v7 n7 ho7 hk7))
      go_meet
      exact ⟨by rw [if_neg H0.out]; exact ho7, hk7.block (hb4.ext ((Ext.refl _).alloc _)) (Own.ne_lo HO4.out (Nat.lt_succ_self _)), Below.trans (HX4.out.trans ((Ext.refl _).alloc _)) (Below.mono n7.below (by have := HG.out; omega))⟩
  obtain ⟨ho6, hb6, hx6⟩ := hcut
  have hw0 : L4 ++ (if x.of.size = 0 then [] else [x.of]) = wordsL x 0 := by rw [HL4.out]; unfold wordsL; rw [List.take_zero, List.map_nil, List.append_nil]
  rw [hw0] at ho6
  have HX6 := Lib.hid hx6
  have HO6 := Lib.hid ho6
  have HB6 := Lib.hid hb6
  clear hw0 ho6 hx6 HO4 hb4 HL4 hl4
  go_wp2_with (first | ((with_reducible apply wl_load' lwEv); (· (first | exact wanted_none rfl | exact wanted_some rfl rfl rfl)); (· rfl); (· infer_instance); (· rfl)))
  go_loopw [3, 35] (fun v3 vi wr => ∃ k : Nat, k ≤ x.n.length ∧ vi = .int .i64 k ∧ Own encB 1 9 (g + 1) wr v3 (wordsL x k) ∧ Ext w wr ∧ g < wr.heap.size) (fun _ i _ => x.n.length - (intOf i).toNat)
  case atStart => exact ⟨0, by omega, rfl, HO6.out, HX6.out, HB6.out.lt⟩
  case round =>
    obtain ⟨k, hk, rfl, ho, hx, hsz⟩ := hrel
    have HO := Lib.hid ho
    have HX := Lib.hid hx
    have hwl := words_len (e := x) (k := k)
    obtain ⟨q7, c7, rfl⟩ := Own.form2 ho
    clear ho hx
    by_cases hlt : k < x.n.length
    · have HWT := Lib.hid (words_take (e := x) hlt)
      obtain ⟨bb, off, rfl, hel⟩ := IntS.elem (IntS.ext HN.out HX.out) hlt
      have obb := Old.of_cell hel
      have hrg := ok_num HOK.out hlt
      generalize x.n[k] = m at *
      obtain ⟨L, hL⟩ : ∃ L, L = wordsL x k := ⟨_, rfl⟩
      rw [← hL] at HO hwl HWT ⊢
      clear hL
      have HIT := Lib.hid (fun W (hx : Ext w W) => itoa_c m W hrg.1 hrg.2 (HT.out.ext hx))
      clear hrg
      go_wp2_with (first | (go_at_call 37; refine (HIT.out _ (HX.out.trans (by repeat' (first | (with_reducible exact Ext.refl _) | (with_reducible exact ExtOf.ext _) | (with_reducible refine Ext.trans ?_ (ExtOf.ext _)) | (with_reducible refine Ext.alloc ?_ _) | (with_reducible refine Ext.drew ?_) | (with_reducible refine Ext.setCell ?_ ?_ _) | (with_reducible refine Ext.setRow ?_ ?_ _) | (with_reducible exact HX.out) | (with_reducible refine Ext.trans ?_ HX.out) | (with_reducible refine Ext.below ?_ (Nat.le_refl _) _) | omega | (simp; done) | (simp; omega))))).mono ?_; rintro en w' ⟨rfl, n2, rfl⟩) | (at_builtin; refine wl_append1g (enc := encB) (k := 1) (E := 9) (base := g + 1) (l := L) (y := cB (Lib.itoa m)) Tryz.underlying44 hiS hS0 hS1 hS2 rfl (by decide) encB_len encB_one rfl rfl (Own.alloc (Own.ext HO.out n2.ext) _) inferInstance rfl (by unfold maxLen; omega) (by omega) (by have := n2.ext.size; simp; omega) ?_; intro v7 n7 ho7 hk7))
      go_roundw
      case rel => exact ⟨k + 1, by omega, by first | rfl | go_num, by rw [HWT.out]; exact ho7, Below.trans (HX.out.trans (n2.ext.trans ((Ext.refl _).alloc _))) (Below.mono n7.below (by have := HG.out; omega)), by have h1 := n7.below.size; have h2 := n2.ext.size; simp only [World.size_alloc] at h1; omega⟩
      case measure => simp [intOf]; omega
    · obtain rfl : k = x.n.length := by omega
      have HWJ := Lib.hid (words_join HOK.out)
      have HLL := Lib.hid (line_len HOK.out)
      obtain ⟨L, hL⟩ : ∃ L, L = wordsL x x.n.length := ⟨_, rfl⟩
      rw [← hL] at HO hwl HWJ ⊢
      have hjl : (Lib.join (L.map (·.data.toList)) [32]).length ≤ 10000 := by have := HLL.out; rw [← HWJ.out, List.length_append] at this; simp at this; omega
      have hpos : 0 < L.length := by rw [hL]; simp [wordsL]
      have hst := Own.slice encB_len HO.out
      obtain ⟨q8, c8, hv8, hd1, hd2, hd3⟩ := SliceOf.form hst
      obtain ⟨rfl, rfl⟩ : q7 = q8 ∧ c7 = c8 := by simpa using hv8
      obtain ⟨bb, off, rfl, hc0⟩ := StrS.elem hst hpos
      have HJ : Hid (Calls Tryz.prog 38 #[.slice (some ⟨bb, off, none⟩) L.length c7, .string ⟨#[32]⟩] wr fun e w' => e = .returned (.string (cB (Lib.join (L.map (·.data.toList)) [32]))) ∧ ∃ n : ExtOf wr, w' = n.val) := Lib.hid ((Tryz.strings_Join bb off c7 L ⟨#[32]⟩ wr (fun j x hj => by
        obtain ⟨hjl, rfl⟩ := List.getElem?_eq_some_iff.1 hj
        obtain ⟨b', o', e1, e2⟩ := StrS.elem hst hjl
        cases e1
        exact e2) (World.block_lt_of_cell? wr ⟨bb, off + 0, none⟩ hc0) (by omega) hd1 (by show (Lib.join _ [32]).length ≤ _; omega)).mono fun e w' ⟨h1, h2⟩ => ⟨h1, ExtOf.of h2⟩)
      have hsz2 : (cB (Lib.join (L.map (·.data.toList)) [32])).size ≤ 10000 := by rw [cB_size]; exact hjl
      clear hst hv8 hc0 hL hjl
      go_wp2_with (go_at_call 38; refine HJ.out.mono ?_; rintro en w' ⟨rfl, n2, rfl⟩)
      go_ret
      exact ⟨congrArg (fun s => Ending.returned (.string s)) (by rw [← HWJ.out]; exact cB_append _ [10]), ExtOf.of (HX.out.trans n2.ext)⟩
end Go.Proofs.YtjfohapnjnopfaaGreatDoor
end
/-
  (*strings.Builder).WriteString, of a builder of the call's own: every block but the builder's own is as it was.
-/
section
set_option linter.unusedVariables false
set_option linter.unusedSimpArgs false
namespace Go.Proofs.YtjfohapnjnopfaaGreatDoor
open Go.RowKit RepM Go.Shelf

structure Keep (w w' : World) (B b : Nat) : Prop where
  heap : ∀ q, q < B → q ≠ b → w'.heap[q]? = w.heap[q]?
  size : w.heap.size ≤ w'.heap.size
  rest : w'.os = w.os ∧ w'.tape = w.tape ∧ w'.output = w.output
theorem Keep.block {w w' : World} {B b q : Nat} {cs : Array Value} (h : Keep w w' B b) (hB : Block w q cs) (h1 : q < B) (h2 : q ≠ b) : Block w' q cs := by
  obtain ⟨t, e⟩ := hB.get
  exact ⟨⟨t, by rw [h.heap q h1 h2]; exact e⟩⟩
theorem Keep.slice {α : Type} {enc : α → List Value} {k : Nat} {w w' : World} {B b : Nat} {p : Option Addr} {n cap : Nat} {l : List α} (h : Keep w w' B b) (hs : SliceOf enc k w (.slice p n cap) l) (hne : ∀ a, p = some a → a.block < B ∧ a.block ≠ b) : SliceOf enc k w' (.slice p n cap) l := by
  obtain ⟨p', cap', e, h1, h2, h3, h4⟩ := hs
  refine ⟨p', cap', e, h1, h2, h3, fun i x hi => ?_⟩
  obtain ⟨b', off, hp, hc⟩ := h4 i x hi
  simp only [Value.slice.injEq] at e
  obtain ⟨rfl, _, _⟩ := e
  obtain ⟨g1, g2⟩ := hne _ hp
  refine ⟨b', off, hp, fun j u hj => ?_⟩
  have := hc j u hj
  rw [← this]
  simp only [World.cell?]
  rw [h.heap b' g1 g2]
theorem Keep.ext {w0 w w' : World} {B b : Nat} (h : Keep w w' B b) (hx : Ext w0 w) (h1 : w0.heap.size ≤ b) (h2 : w0.heap.size ≤ B) : Ext w0 w' :=
  Below.trans hx ⟨h.rest.1, h.rest.2.1, h.rest.2.2, h.size, fun q hq => h.heap q (by omega) (by omega)⟩
theorem Keep.of {w w1 : World} {B b i : Nat} {v : Value} (h1 : Ext w w1) (n : ExtB B w1) (hB : B ≤ w.heap.size) : Keep w (n.val.setCell ⟨b, i, none⟩ v) B b := by
  have h2 := n.below
  refine ⟨fun q hq hne => ?_, ?_, ?_⟩
  · rw [Below.heap_setCell _ _ _ _ hne, h2.block q hq, h1.block q (by omega)]
  · have := h1.size; have := h2.size; simp [World.setCell]; omega
  · have e1 := h1.os; have e2 := h1.tape; have e3 := h1.output
    exact ⟨by simp [World.setCell, h2.os, h1.os], by simp [World.setCell, h2.tape, h1.tape], by simp [World.setCell, h2.output, h1.output]⟩

theorem infoBld : (Tryz.prog.info? 53).map (·.size) = some 2 := by kernel_rfl
theorem liesBld : liesAt Tryz.prog Tryz.prog.depth 53 (2 / Tryz.prog.cellsOf 53) 0 53 1 = true := by kernel_rfl
theorem infoU8 : (Tryz.prog.info? 5).map (fun i => (i.zero, i.size, i.bytes)) = some (some (.int .u8 0), 1, 1) := by kernel_rfl
set_option maxRecDepth 20000 in
set_option maxHeartbeats 1000000 in
theorem ccheck_used (b : Nat) (w : World) (h0 : w.cell? ⟨b, 0, none⟩ = some (.pointer (some ⟨b, 0, none⟩))) :
    Calls Tryz.prog 58 #[.pointer (some ⟨b, 0, none⟩)] w fun e w' => e = .returned (.tuple #[]) ∧ w' = w := by
  obtain ⟨j, hj, _⟩ := Option.map_eq_some_iff.1 infoBld
  go_enter Tryz.func58, Tryz.ntmps58
  go_wp2
  try rw [Lib.run_neq_ptr_same w _ Tryz.underlying50 hj]
  try go_wp2
  go_end0
  exact ⟨rfl, rfl⟩
set_option maxRecDepth 20000 in
set_option maxHeartbeats 1000000 in
theorem ccheck_fresh (b : Nat) (w : World) (h0 : w.cell? ⟨b, 0, none⟩ = some (.pointer none)) (hsh : w.shape? b = some (53, 2)) (hfz : w.frozen? ⟨b, 0, none⟩ = false) :
    Calls Tryz.prog 58 #[.pointer (some ⟨b, 0, none⟩)] w fun e w' => e = .returned (.tuple #[]) ∧ w' = w.setCell ⟨b, 0, none⟩ (.pointer (some ⟨b, 0, none⟩)) := by
  obtain ⟨j, hj, hjs⟩ := Option.map_eq_some_iff.1 infoBld
  have e1 := Lib.run_to_unsafe (P := Tryz.prog) w ⟨b, 0, none⟩ Tryz.underlying50 Tryz.underlying123 hj (by rw [hjs]; decide) hsh (Nat.zero_lt_succ 1)
  have e2 := Lib.run_from_unsafe (P := Tryz.prog) w ⟨b, 0, none⟩ Tryz.underlying123 Tryz.underlying50 hj hsh liesBld
  go_enter Tryz.func58, Tryz.ntmps58
  go_wp2
  try rw [run_callFunc_extern Tryz.func85 (by kernel_rfl) (by kernel_rfl) (by kernel_rfl) (e := Extern.AbiNoEscape.same) (by kernel_rfl)]
  try rw [Lib.run_noEscape]
  try simp only [Result.andThen]
  try rw [Oper.upon_value]
  try go_wp2
  go_end0
  exact ⟨rfl, rfl⟩
/-- w is w0 but for the builder in block b, which holds bs, and new blocks -/
def Bld (w0 : World) (b : Nat) (w : World) (bs : List UInt8) : Prop :=
  b < w0.heap.size ∧ Keep w0 w w0.heap.size b ∧ ∃ p v, (p = .pointer none ∨ p = .pointer (some ⟨b, 0, none⟩)) ∧ w.heap[b]? = some (.cells #[p, v] 53 (0, 0)) ∧ w.ownsRowF w0.heap.size 5 1 v bs.length (Lib.byteCells bs)
theorem Bld.ext {w0 w w' : World} {b : Nat} {bs : List UInt8} (h : Bld w0 b w bs) (hx : Ext w w') : Bld w0 b w' bs := by
  obtain ⟨h1, h2, p, v, h3, h4, h5⟩ := h
  have hb : b < w.heap.size := (Array.getElem?_eq_some_iff.1 h4).1
  refine ⟨h1, ⟨fun q hq hne => ?_, Nat.le_trans h2.size hx.size, ?_⟩, p, v, h3, ?_, ?_⟩
  · rw [hx.block q (by have := h2.size; omega)]; exact h2.heap q hq hne
  · obtain ⟨e1, e2, e3⟩ := h2.rest
    exact ⟨hx.os.trans e1, hx.tape.trans e2, hx.output.trans e3⟩
  · rw [hx.block b hb]; exact h4
  · exact World.ownsRowF.kept (row := none) h5 ⟨hx.os, hx.tape, hx.output, hx.size, fun q hq _ => hx.block q hq⟩ (by cases v.ownBlock <;> simp)
theorem Bld.start {w : World} {b : Nat} (h : w.heap[b]? = some (.cells #[.pointer none, .slice none 0 0] 53 (0, 0))) : Bld w b w [] :=
  ⟨(Array.getElem?_eq_some_iff.1 h).1, ⟨fun _ _ _ => rfl, Nat.le_refl _, rfl, rfl, rfl⟩, _, _, .inl rfl, h, World.ownsRowF_nil _ _ _ _⟩
theorem bld_set {w0 w w' : World} {b i : Nat} {u : Value} {row : Option Nat} (h : Keep w0 w w0.heap.size b) (hg : w.grownBy w' row) (hr : ∀ q, row = some q → w0.heap.size ≤ q) : Keep w0 (w'.setCell ⟨b, i, none⟩ u) w0.heap.size b := by
  refine ⟨fun q hq hne => ?_, ?_, ?_⟩
  · rw [Below.heap_setCell _ _ _ _ hne, hg.block q (by have := h.size; omega) (fun e => by have := hr q e.symm; omega)]; exact h.heap q hq hne
  · have := h.size; have := hg.size; simp [World.setCell]; omega
  · obtain ⟨e1, e2, e3⟩ := h.rest
    refine ⟨?_, ?_, ?_⟩
    · simpa [World.setCell] using hg.os.trans e1
    · simpa [World.setCell] using hg.tape.trans e2
    · simpa [World.setCell] using hg.output.trans e3
theorem grownBy_self (w : World) : w.grownBy w none := ⟨rfl, rfl, rfl, Nat.le_refl _, fun _ _ _ => rfl⟩
theorem ccheck_any {w0 w : World} {b : Nat} {bs : List UInt8} (h : Bld w0 b w bs) :
    Calls Tryz.prog 58 #[.pointer (some ⟨b, 0, none⟩)] w fun e w' => e = .returned (.tuple #[]) ∧ Lib.OthersKept 5 (some b) w w' ∧ b < w0.heap.size ∧ Keep w0 w' w0.heap.size b ∧ ∃ v, w'.heap[b]? = some (.cells #[.pointer (some ⟨b, 0, none⟩), v] 53 (0, 0)) ∧ w'.ownsRowF w0.heap.size 5 1 v bs.length (Lib.byteCells bs) := by
  obtain ⟨h1, h2, p, v, rfl | rfl, h4, h5⟩ := h
  · refine (ccheck_fresh b w (by simp [World.cell?, h4]) (by simp [World.shape?, h4]) (by simp [World.frozen?, h4])).mono ?_
    rintro e w' ⟨rfl, rfl⟩
    refine ⟨rfl, (Lib.OthersKept.refl _ _ w).setCell ⟨b, 0, none⟩ rfl _, h1, bld_set h2 (grownBy_self w) (fun q e => by cases e), v, ?_, ?_⟩
    · simp [World.setCell, Array.getElem?_modify, h4]
    · exact h5.kept (row := some b) ⟨rfl, rfl, rfl, by simp [World.setCell], fun k _ hk => Below.heap_setCell _ _ _ _ (fun e => hk (by simp [e]))⟩ (Or.inr (fun e => by have := (World.ownsRowF.lt h5 b e).1; omega))
  · refine (ccheck_used b w (by simp [World.cell?, h4])).mono ?_
    rintro e w' ⟨rfl, rfl⟩
    exact ⟨rfl, Lib.OthersKept.refl _ _ _, h1, h2, v, h4, h5⟩
set_option maxRecDepth 20000 in
set_option maxHeartbeats 2000000 in
theorem wstr_any {w0 w : World} {b : Nat} {bs : List UInt8} (s : ByteArray) (h : Bld w0 b w bs) (hlen : bs.length + s.size ≤ 1099511627776) :
    Calls Tryz.prog 30 #[.pointer (some ⟨b, 0, none⟩), .string s] w fun e w' => e = .returned (.tuple #[.int .i64 s.size, .nilIface]) ∧ Bld w0 b w' (bs ++ s.data.toList) ∧ Lib.OthersKept 5 (some b) w w' := by
  obtain ⟨i0, hi, hz0, hz1, hz2⟩ := info_parts infoU8
  have H := Lib.hid h
  clear h
  go_enter Tryz.func30, Tryz.ntmps30
  go_wp2_with (go_at_call 58; refine (ccheck_any H.out).mono ?_)
  rintro e w1 ⟨rfl, hok1, hb0, hkp, v, hbk, hown⟩
  have HOK1 := Lib.hid hok1
  clear hok1
  have c0 : w1.cell? ⟨b, 0, none⟩ = some (.pointer (some ⟨b, 0, none⟩)) := by rw [Lib.cell_of_heap hbk]; rfl
  have c1 : w1.cell? ⟨b, 1, none⟩ = some v := by rw [Lib.cell_of_heap hbk]; rfl
  have hks := hkp.size
  have HOWN := Lib.hid hown
  have HKP := Lib.hid hkp
  have HBK := Lib.hid hbk
  clear hown hkp hbk
  go_wp2_with (at_builtin; refine Lib.wpList_append_own_stringF _ rfl _ _ 51 9 rfl w0.heap.size 5 i0 Tryz.underlying51 Tryz.underlying9 hi hz0 hz1 hz2 _ _ _ rfl HOWN.out s rfl ?c3 ?c4 ?c5 ?_)
  case c3 => unfold maxLen; omega
  case c4 => omega
  case c5 => omega
  intro v' w2 hown' hgrow _
  have hlt : b < w1.heap.size := (Array.getElem?_eq_some_iff.1 HBK.out).1
  have hne : v.ownBlock ≠ some b := fun e => by have := (World.ownsRowF.lt HOWN.out b e).1; omega
  have hb2 : w2.heap[b]? = some (.cells #[.pointer (some ⟨b, 0, none⟩), v] 53 (0, 0)) := by
    rw [hgrow.block b hlt (fun e => hne e.symm)]; exact HBK.out
  have d0 : w2.cell? ⟨b, 0, none⟩ = some (.pointer (some ⟨b, 0, none⟩)) := by rw [Lib.cell_of_heap hb2]; rfl
  have d1 : w2.cell? ⟨b, 1, none⟩ = some v := by rw [Lib.cell_of_heap hb2]; rfl
  have f1 : w2.frozen? ⟨b, 1, none⟩ = false := Lib.frozen_of_heap hb2 1
  obtain ⟨ao, n', cap, rfl⟩ : ∃ ao n' cap, v' = .slice ao n' cap := by
    rcases hown'.2 with ⟨hv, _⟩ | ⟨g, cap, cur, fz, hv, _⟩
    · exact ⟨_, _, _, hv⟩
    · exact ⟨_, _, _, hv⟩
  have HO2 := Lib.hid hown'
  have HG2 := Lib.hid hgrow
  have HB2 := Lib.hid hb2
  clear hown' hgrow hb2
  go_wp2
  go_ret2
  refine ⟨rfl, ⟨hb0, bld_set HKP.out HG2.out (fun q e => (World.ownsRowF.lt HOWN.out q e).1), .pointer (some ⟨b, 0, none⟩), .slice ao n' cap, .inr rfl, ?_, ?_⟩, (HOK1.out.grown HG2.out (Lib.ownsRowF_kind HOWN.out)).setCell ⟨b, 1, none⟩ rfl _⟩
  · simp [World.setCell, Array.getElem?_modify, HB2.out]
  · have h9 := HO2.out
    rw [Lib.strCells_eq] at h9
    rw [Lib.byteCells_append, List.length_append]
    refine World.ownsRowF.kept (row := some b) h9 ⟨rfl, rfl, rfl, by simp [World.setCell], fun k _ hk => Below.heap_setCell _ _ _ _ (fun e => hk (by simp [e]))⟩ (Or.inr (fun e => by have := (World.ownsRowF.lt h9 b e).1; omega))
theorem Bld.extw {w w0 W : World} {b : Nat} {bs : List UInt8} (h : Bld w0 b W bs) (hx : Ext w w0) (hb : w.heap.size ≤ b) : Ext w W := h.2.1.ext hx hb hx.size
theorem Bld.isb {w0 W : World} {b : Nat} {bs : List UInt8} (h : Bld w0 b W bs) : Lib.IsBuilderF 53 5 b b (Lib.byteCells bs) W := by
  obtain ⟨h1, h2, p, v, h3, h4, h5⟩ := h
  have hne : v.ownBlock ≠ some b := fun e => by have := (World.ownsRowF.lt h5 b e).1; omega
  have h6 : W.ownsRowF b 5 1 v (Lib.byteCells bs).length (Lib.byteCells bs) := by
    rw [Lib.byteCells_length]
    obtain ⟨e1, hn | ⟨g, cap, cur, fz, rfl, hg, r⟩⟩ := h5
    · exact ⟨e1, .inl hn⟩
    · exact ⟨e1, .inr ⟨g, cap, cur, fz, rfl, by omega, r⟩⟩
  rcases h3 with rfl | rfl
  · exact .inl ⟨Nat.le_refl _, v, h4, h6, hne⟩
  · exact .inr ⟨Nat.le_refl _, v, h4, h6, hne⟩
theorem Bld.lt {w0 W : World} {b : Nat} {bs : List UInt8} (h : Bld w0 b W bs) : b < W.heap.size := by
  obtain ⟨_, _, p, v, _, h4, _⟩ := h
  exact (Array.getElem?_eq_some_iff.1 h4).1
end Go.Proofs.YtjfohapnjnopfaaGreatDoor
end
