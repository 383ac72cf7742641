/-
  Chapter 62: several texts in one (S9, S10).
-/
import Derived.Test.YtjflmmipjeangaaGreatDoorK6
import Derived.Test.YtjflmmipjeangaaGreatDoorShelf
import Derived.Lib.SplitLaws
import Derived.Shelf.Strings.SplitCore
import Derived.Shelf.Strings.Search3
import Derived.Shelf.Strings.Count
import Derived.Shelf.Strings.Repeat
import Derived.Shelf.Small.Wraps
/-
  Chapter 62: strings.Split at blanks, wordsOf.
-/
section
set_option linter.unusedVariables false
set_option linter.unusedSimpArgs false
namespace Go.Proofs.YtjflmmipjeangaaGreatDoor
open Go.RowKit ScM

attribute [local go_sem] ExtOf.cell ExtOf.frozen Block.cell Block.frozen ExtB.cell ExtB.frozen alloc_cell alloc_frozen
theorem index_ne {c : UInt8} (h : c ≠ 32) (l : List UInt8) : Lib.index (c :: l) [32] = if Lib.index l [32] == -1 then -1 else Lib.index l [32] + 1 := by
  rw [Lib.index_one, Lib.index_one]
  rw [Lib.indexByte, if_neg (by simpa using h)]
theorem split_parts : ∀ l : List UInt8, Lib.splitK [32] 0 (l.count 32) l = parts l
  | [] => rfl
  | c :: l => by
    have ih := split_parts l
    by_cases h : c = 32
    · subst h
      have h0 : Lib.index (32 :: l) [32] = 0 := by rw [Lib.index_one]; rfl
      rw [List.count_cons_self, Lib.splitK, h0, parts_blank, ← ih]
      simp
    · obtain ⟨x, r, h1, h2⟩ := parts_char h l
      rw [List.count_cons_of_ne h, h2]
      rw [h1] at ih
      generalize hk : l.count 32 = k at ih
      cases k with
      | zero =>
        simp only [Lib.splitK, List.cons.injEq] at ih ⊢
        obtain ⟨rfl, rfl⟩ := ih
        simp
      | succ k =>
        have hi := Lib.indexByte_ge l 32
        rw [← Lib.index_one] at hi
        rw [Lib.splitK, index_ne h]
        rw [Lib.splitK] at ih
        by_cases hm : Lib.index l [32] = -1
        · rw [hm] at ih ⊢
          simp only [List.cons.injEq, beq_self_eq_true, if_true] at ih ⊢
          obtain ⟨rfl, rfl⟩ := ih
          simp
        · have e1 : (Lib.index l [32] == -1) = false := by simpa using hm
          have e2 : ((Lib.index l [32] + 1) == -1) = false := by simp; omega
          obtain ⟨j, hj⟩ : ∃ j : Nat, Lib.index l [32] = j := ⟨(Lib.index l [32]).toNat, by omega⟩
          rw [e1] at ih
          simp only [e1, Bool.false_eq_true, if_false, e2]
          simp only [Bool.false_eq_true, if_false] at ih
          rw [hj] at ih ⊢
          have e3 : ((j : Int) + 1).toNat = j + 1 := by omega
          rw [e3]
          have e4 : (j : Int).toNat = j := by omega
          rw [e4] at ih
          rw [← (List.cons.inj ih).1, ← (List.cons.inj ih).2]
          simp
theorem split_partsB (s : ByteArray) : Lib.splitB ⟨#[32]⟩ 0 (Lib.countB s ⟨#[32]⟩) s = partsB s.data.toList := by
  have h := Lib.splitB_data ⟨#[32]⟩ 0 (Lib.countB s ⟨#[32]⟩) s
  have hc : Lib.countB s ⟨#[32]⟩ = s.data.toList.count 32 := Lib.count_one 32 _
  rw [hc] at h ⊢
  have h2 := h.trans (split_parts s.data.toList)
  unfold partsB
  rw [← h2, List.map_map]
  symm
  exact List.map_id' _
theorem countB_parts (s : ByteArray) : Lib.countB s ⟨#[32]⟩ + 1 = (partsB s.data.toList).length := by
  rw [← split_partsB, Lib.splitB_all _ (by decide) 0 _ s rfl]
theorem gensplit_any (s : ByteArray) (w : World) (hs : s.size ≤ 8000) : Calls Tryz.prog 144 #[.string s, .string ⟨#[32]⟩, .int .i64 0, .int .i64 (-1)] w fun e w' =>
    e = .returned (.slice (some ⟨w.heap.size, 0, none⟩) (partsB s.data.toList).length (partsB s.data.toList).length) ∧ w' = w.alloc (.cells ((partsB s.data.toList).map Value.string).toArray 9) := by
  have hle := Lib.countB_le ⟨#[32]⟩ (by decide) s.size s (Nat.le_refl _)
  have hlen := countB_parts s
  have c := Any.strings_genSplit_core Tryz.lays221 infoStr s ⟨#[32]⟩ 0 (-1) (Lib.countB s ⟨#[32]⟩ + 1) w (by omega) (by decide) (Nat.zero_le _)
    (fun x c _ => by
      have h := Any.strings_Index_one { Tryz.lays221 with } x 32 (w.alloc (.cells c 9))
      rw [← Lib.index_one] at h
      exact h)
    (by
      have h := Any.strings_Count_one { Tryz.lays221 with } s 32 w
      have e : Lib.countByte s.data.toList 32 = Lib.countB s ⟨#[32]⟩ := (Lib.count_one 32 _).symm
      rw [e] at h
      exact h) (by decide) (by decide) (by rw [if_pos (by decide)]; omega)
  rw [Nat.add_sub_cancel, split_partsB, hlen, Lib.cellsOf_full] at c
  exact c
set_option maxRecDepth 20000 in
set_option maxHeartbeats 1600000 in
theorem split_any (s : ByteArray) (w : World) (hs : s.size ≤ 8000) : Calls Tryz.prog 78 #[.string s, .string ⟨#[32]⟩] w fun e w' =>
    e = .returned (.slice (some ⟨w.heap.size, 0, none⟩) (partsB s.data.toList).length (partsB s.data.toList).length) ∧ w' = w.alloc (.cells ((partsB s.data.toList).map Value.string).toArray 9) := by
  have HC := Lib.hid (gensplit_any s w hs)
  generalize partsB s.data.toList = l at *
  go_enter Tryz.func78, Tryz.ntmps78
  go_wp2_with (go_at_call 144; refine HC.out.mono ?_; rintro e w' ⟨rfl, rfl⟩)
  go_ret
  exact ⟨rfl, rfl⟩
/-- a new block of strings, as a list -/
theorem strs_slice (w : World) (l : List ByteArray) (hl : l.length ≤ 100000) : SliceOf encS 1 (w.alloc (.cells (l.map Value.string).toArray 9)) (.slice (some ⟨w.heap.size, 0, none⟩) l.length l.length) l := by
  refine ⟨_, _, rfl, Nat.le_refl _, by unfold maxLen; omega, (fun h => by cases h), fun i x hi => ⟨_, _, rfl, fun j u hj => ?_⟩⟩
  have h1 := (MapKept.heap_alloc w (.cells (l.map Value.string).toArray 9)).1
  cases j with
  | zero =>
    have hj2 : some (Value.string x) = some u := hj
    rw [← hj2]
    simp only [World.cell?, h1]
    simp [hi]
  | succ j => exact absurd hj (by simp [encS])
/-- the error of a line's words -/
def errP (s : ByteArray) : Int := if 8000 < s.size then 4 else if low s.data.toList then 5 else if void (partsB s.data.toList) then 5 else 0
theorem errL_P (s : ByteArray) : errL s = if errP s = 0 then errW (partsB s.data.toList) else errP s := by
  unfold errL errP
  split
  · rfl
  · split
    · rfl
    · split <;> rfl
set_option maxRecDepth 20000 in
set_option maxHeartbeats 4000000 in
theorem wordsOf_any (s : ByteArray) (w : World) (hs : s.size ≤ 400 ∨ 8000 < s.size) : Calls Tryz.prog 33 #[.string s] w fun e w' => (∃ v, e = .returned (.tuple #[v, .int .i64 (errP s)]) ∧ (errP s = 0 → SliceOf encS 1 w' v (partsB s.data.toList))) ∧ ∃ n : ExtOf w, w' = n.val := by
  by_cases hbig : 8000 < s.size
  · have q1 : decide ((8000 : Int) < (s.size : Int)) = true := decide_eq_true (by omega)
    have HE : Hid (errP s = 4) := Lib.hid (by rw [errP, if_pos hbig])
    go_enter Tryz.func33, Tryz.ntmps33
    go_wp2_with fail
    go_ret2
    exact ⟨⟨_, by rw [HE.out]; rfl, fun h => by rw [HE.out] at h; cases h⟩, ExtOf.of (Ext.refl _)⟩
  have hs4 : s.size ≤ 400 := by omega
  have q1 : decide ((8000 : Int) < (s.size : Int)) = false := decide_eq_false (by omega)
  have HC := Lib.hid fun w => split_any s w (by omega)
  have hnL : ¬ 8000 < s.size := hbig
  go_enter Tryz.func33, Tryz.ntmps33
  go_wp2_with fail
  go_loop [13] (fun vi => ∃ k : Nat, k ≤ s.size ∧ vi = .int .i64 k ∧ Hid (low s.data.toList = low (s.data.toList.drop k))) (fun vi => s.size - (intOf vi).toNat)
  case atStart => exact ⟨0, Nat.zero_le _, rfl, Lib.hid rfl⟩
  case round =>
    obtain ⟨k, hk, rfl, HR⟩ := hrel
    by_cases hlt : k < s.size
    · have HS := Lib.hid (low_step hlt)
      have q2 : decide ((k : Int) < s.size) = true := decide_eq_true (by omega)
      cases hd : decide ((s[k].toNat : Int) < 32) with
      | true =>
        have HE : Hid (errP s = 5) := Lib.hid (by rw [errP, if_neg hnL, HR.out, HS.out, hd]; rfl)
        go_wp2_with fail
        go_ret2
        exact ⟨⟨_, by rw [HE.out]; rfl, fun h => by rw [HE.out] at h; cases h⟩, ExtOf.of (Ext.refl _)⟩
      | false =>
        have HE : Hid (low s.data.toList = low (s.data.toList.drop (k + 1))) := Lib.hid (by rw [HR.out, HS.out, hd]; rfl)
        go_wp2_with fail
        go_round
        case rel => exact ⟨k + 1, by omega, by first | rfl | go_num, HE⟩
        case measure => simp [intOf]; omega
    · have q2 : decide ((k : Int) < s.size) = false := decide_eq_false (by omega)
      have HL : Hid (errP s = if void (partsB s.data.toList) then 5 else 0) := Lib.hid (by
        rw [errP, if_neg hnL, HR.out, List.drop_of_length_le (by rw [sizeL]; omega)]
        rfl)
      have hle : (partsB s.data.toList).length ≤ 401 := by
        rw [partsB_len]
        refine Nat.le_trans (parts_len_le _) ?_
        rw [sizeL]; omega
      clear HR
      obtain ⟨l, el⟩ : ∃ l, partsB s.data.toList = l := ⟨_, rfl⟩
      have HEL := Lib.hid el
      rw [el] at hle HL HC
      clear el
      go_wp2_with (go_at_call 78; refine (HC.out _).mono ?_; rintro e w' ⟨rfl, rfl⟩)
      have HX : Hid (Ext w (w.alloc (.cells (l.map Value.string).toArray 9))) := Lib.hid (by with_reducible repeat' (first | exact Ext.refl _ | exact ExtOf.ext _ | refine Ext.trans ?_ (ExtOf.ext _) | refine Ext.alloc ?_ _ | refine Ext.drew ?_ | refine Ext.setCell ?_ ?_ _ | refine Ext.setRow ?_ ?_ _ | exact HX.out | refine Ext.trans ?_ HX.out | omega | (simp; done) | (simp; omega)))
      have HSL := Lib.hid (strs_slice w l (by omega))
      generalize (w.alloc (.cells (l.map Value.string).toArray 9)) = W0 at *
      go_loop [25] (fun vi => ∃ k : Nat, k ≤ l.length ∧ vi = .int .i64 k ∧ Hid (void l = void (l.drop k))) (fun vi => l.length - (intOf vi).toNat)
      case atStart => exact ⟨0, Nat.zero_le _, rfl, Lib.hid rfl⟩
      case round =>
        obtain ⟨j, hj, rfl, HR⟩ := hrel
        by_cases hlt2 : j < l.length
        · have HS := Lib.hid (void_step hlt2)
          have q3 : decide ((j : Int) < l.length) = true := decide_eq_true (by omega)
          obtain ⟨b', off', e', hc⟩ := S.elem HSL.out hlt2
          cases e'
          rw [Nat.zero_add] at hc
          have hz := empty_bool l[j]
          cases hd : decide (l[j].size = 0) with
          | true =>
            rw [hd] at hz
            have HE : Hid (errP s = 5) := Lib.hid (by rw [HL.out, HR.out, HS.out, hd]; rfl)
            go_wp2_with fail
            go_ret2
            exact ⟨⟨_, by rw [HE.out]; rfl, fun h => by rw [HE.out] at h; cases h⟩, ExtOf.of HX.out⟩
          | false =>
            rw [hd] at hz
            have HE : Hid (void l = void (l.drop (j + 1))) := Lib.hid (by rw [HR.out, HS.out, hd]; rfl)
            go_wp2_with fail
            go_round
            case rel => exact ⟨j + 1, by omega, by first | rfl | go_num, HE⟩
            case measure => simp [intOf]; omega
        · have q3 : decide ((j : Int) < l.length) = false := decide_eq_false (by omega)
          have HL2 : Hid (errP s = 0) := Lib.hid (by
            rw [HL.out, HR.out, List.drop_of_length_le (by omega)]
            rfl)
          clear HR
          go_wp2_with fail
          go_ret2
          exact ⟨⟨.slice (some ⟨w.heap.size, 0, none⟩) l.length l.length, by rw [HL2.out]; rfl, fun _ => by rw [HEL.out]; exact HSL.out⟩, ExtOf.of HX.out⟩
end Go.Proofs.YtjflmmipjeangaaGreatDoor
end
/-
  Chapter 62: kindsOf.
-/
section
set_option linter.unusedVariables false
set_option linter.unusedSimpArgs false
namespace Go.Proofs.YtjflmmipjeangaaGreatDoor
open Go.RowKit ScM

attribute [local go_sem] ExtOf.cell ExtOf.frozen Block.cell Block.frozen ExtB.cell ExtB.frozen alloc_cell alloc_frozen
/-- the letter of the place i -/
def kF (c : Cmd) (i : Nat) : UInt8 := if c.star then c.fixed.getD (min i (c.fixed.length - 1)) 0 else c.fixed.getD i 0
theorem kF_some : ∀ c ∈ cmds, ∀ i, i < 13 → (c.star = true ∨ i < c.fixed.length) → (kF c i == 110) = isN c.kinds (i + 1) := by decide
theorem cmds_short : ∀ c ∈ cmds, c.kinds.length ≤ 12 ∧ c.fixed.length ≤ 12 := by decide
theorem cmds_star : ∀ c ∈ cmds, c.star = true → 1 ≤ c.fixed.length := by decide
theorem kF_isN {c : Cmd} (hc : c ∈ cmds) (i : Nat) (h : c.star = true ∨ i < c.fixed.length) : (kF c i == 110) = isN c.kinds (i + 1) := by
  obtain ⟨h1, h2⟩ := cmds_short c hc
  by_cases hi : i < 13
  · exact kF_some c hc i hi h
  · rcases h with h | h
    · have := kF_some c hc 12 (by omega) (.inl h)
      unfold kF isN at this ⊢
      rw [if_pos h] at this ⊢
      rw [show min i (c.fixed.length - 1) = min 12 (c.fixed.length - 1) by omega, this, show min (i + 1) c.kinds.length - 1 = min (12 + 1) c.kinds.length - 1 by omega]
    · omega
theorem cut_trim : ∀ c ∈ cmds, Lib.trimSuffix (formC c) [42] = c.fixed := by decide
theorem cut_has : ∀ c ∈ cmds, Lib.hasSuffix (formC c) [42] = c.star := by decide
theorem cutform_any {c : Cmd} (hc : c ∈ cmds) (w : World) : Calls Tryz.prog 101 #[.string (bB (formC c)), .string ⟨#[42]⟩] w fun e w' => e = .returned (.tuple #[.string (bB c.fixed), .bool c.star]) ∧ w' = w := by
  have h := Tryz.strings_CutSuffix (bB (formC c)) ⟨#[42]⟩ w (by
    have := (cmds_short c hc).2
    rw [← sizeL]
    show (formC c).length ≤ _
    unfold formC
    split <;> first | omega | (simp; omega))
  have e1 : Lib.trimSuffix (bB (formC c)).data.toList [42] = c.fixed := cut_trim c hc
  have e2 : Lib.hasSuffix (bB (formC c)).data.toList [42] = c.star := cut_has c hc
  have e3 : (⟨#[42]⟩ : ByteArray).data.toList = [42] := rfl
  rw [e3, e1, e2] at h
  exact h
/-- what kindsOf says -/
def KindsR (c : Cmd) (n : Nat) (kk : ByteArray) : Prop := fits c (n + 1) = true → kk.size = n ∧ ∀ i (h : i < kk.size), kk[i] = kF c i
theorem kinds_plain {c : Cmd} (hs : c.star = false) (n : Nat) : KindsR c n (bB (formC c)) := by
  intro h
  unfold fits at h
  rw [hs] at h
  have h2 : n + 1 = c.fixed.length + 1 := by simpa using h
  have e : formC c = c.fixed := by unfold formC; rw [hs]; rfl
  rw [e]
  refine ⟨by rw [← sizeL]; show c.fixed.length = n; omega, fun i hi => ?_⟩
  have hi2 : i < c.fixed.length := by rw [← sizeL] at hi; exact hi
  unfold kF
  rw [hs]
  simp only [Bool.false_eq_true, if_false]
  rw [List.getD_eq_getElem?_getD, List.getElem?_eq_getElem hi2]
  rfl
theorem last_one {f : List UInt8} {k : Nat} (hf : f.length = k + 1) : ((bB f).extract k (k + 1)).data.toList = [f.getD k 0] := by
  rw [extract_data]
  show (f.take (k + 1)).drop k = _
  rw [← hf, List.take_length, List.drop_eq_getElem_cons (by omega), List.drop_of_length_le (by omega), List.getD_eq_getElem?_getD, List.getElem?_eq_getElem (by omega)]
  rfl
theorem kinds_star {c : Cmd} (hs : c.star = true) {k n : Nat} (hf : c.fixed.length = k + 1) (hn : k ≤ n) :
    KindsR c n ((bB c.fixed).extract 0 k ++ ⟨(Lib.repeatL ((bB c.fixed).extract k (k + 1)).data.toList (n - k)).toArray⟩) := by
  intro _
  have hrep : Lib.repeatL [c.fixed.getD k 0] (n - k) = List.replicate (n - k) (c.fixed.getD k 0) := by
    have := Lib.repeatL_replicate (c.fixed.getD k 0) 1 (n - k)
    rw [Nat.mul_one] at this
    exact this
  rw [last_one hf, hrep]
  have hd : ((bB c.fixed).extract 0 k ++ (⟨(List.replicate (n - k) (c.fixed.getD k 0)).toArray⟩ : ByteArray)).data.toList = c.fixed.take k ++ List.replicate (n - k) (c.fixed.getD k 0) := by
    rw [ByteArray.data_append, Array.toList_append, extract_data]
    rfl
  generalize (bB c.fixed).extract 0 k ++ (⟨(List.replicate (n - k) (c.fixed.getD k 0)).toArray⟩ : ByteArray) = kk at *
  have hsz : kk.size = n := by
    rw [← sizeL, hd]
    simp
    omega
  refine ⟨hsz, fun i hi => ?_⟩
  have gl : kk[i] = kk.data.toList.getD i 0 := by
    rw [List.getD_eq_getElem?_getD, List.getElem?_eq_getElem (by rw [sizeL]; exact hi)]
    rfl
  rw [gl, hd]
  unfold kF
  rw [if_pos hs, hf, Nat.add_sub_cancel, List.getD_eq_getElem?_getD]
  by_cases hik : i < k
  · rw [List.getElem?_append_left (by simp; omega), List.getElem?_take_of_lt hik, Nat.min_eq_left (by omega), List.getD_eq_getElem?_getD]
  · rw [List.getElem?_append_right (by simp; omega), List.getElem?_replicate, if_pos (by simp; omega), Nat.min_eq_right (by omega)]
    rfl
set_option maxRecDepth 20000 in
set_option maxHeartbeats 4000000 in
theorem kindsOf_any {c : Cmd} (hc : c ∈ cmds) (n : Nat) (hn : n ≤ 400) (w : World) : Calls Tryz.prog 35 #[.string (bB (formC c)), .int .i64 n] w fun e w' => (∃ kk, e = .returned (.tuple #[.string kk, .bool (fits c (n + 1))]) ∧ KindsR c n kk) ∧ ∃ m : ExtOf w, w' = m.val := by
  have HC := Lib.hid fun w => cutform_any hc w
  obtain ⟨h1, h2⟩ := cmds_short c hc
  have h3 := cmds_star c hc
  cases hs : c.star with
  | false =>
    have HK := Lib.hid (kinds_plain hs n)
    have HF : Hid (fits c (n + 1) = ((n : Int) == ((bB (formC c)).size : Int))) := Lib.hid (by
      have e : (bB (formC c)).size = c.fixed.length := by
        rw [← sizeL]
        show (formC c).length = _
        unfold formC; rw [hs]; rfl
      rw [e]
      unfold fits
      rw [hs]
      rw [Bool.eq_iff_iff]
      simp
      omega)
    rw [hs] at HC
    generalize bB c.fixed = fx at *
    generalize bB (formC c) = f at *
    clear h1 h2 h3 hs
    go_enter Tryz.func35, Tryz.ntmps35
    go_wp2_with (go_at_call 101; refine (HC.out _).mono ?_; rintro e w' ⟨rfl, h⟩; obtain rfl := h.symm)
    go_ret2
    exact ⟨⟨f, by rw [HF.out]; rfl, HK.out⟩, ExtOf.of (Ext.refl _)⟩
  | true =>
    have hf0 := h3 hs
    obtain ⟨k, hf⟩ : ∃ k, c.fixed.length = k + 1 := ⟨c.fixed.length - 1, by omega⟩
    have hk : k ≤ 12 := by omega
    have hsz : (bB c.fixed).size = k + 1 := by rw [← sizeL]; exact hf
    have HF : Hid (fits c (n + 1) = decide (k ≤ n)) := Lib.hid (by
      unfold fits
      rw [hs, hf]
      simp)
    rw [hs] at HC
    have hjj : (((k + 1 : Nat) : Int) - 1) = k := by omega
    have hjk : (((k : Int) + 1) - 1) = k := by omega
    have hwk : IntKind.i64.wrap (k : Int) = k := by simp [IntKind.wrap, IntKind.signed, IntKind.bits]; omega
    by_cases hlt : n < k
    · have q1 : decide ((n : Int) < (k : Int)) = true := decide_eq_true (by omega)
      have hv : KindsR c n ⟨#[]⟩ := fun h => by
        rw [HF.out, decide_eq_false (by omega)] at h
        cases h
      have HV := Lib.hid hv
      have HF2 : Hid (fits c (n + 1) = false) := Lib.hid (by rw [HF.out]; exact decide_eq_false (by omega))
      generalize bB c.fixed = fx at *
      generalize bB (formC c) = f at *
      have q3 : decide (n < k) = true := decide_eq_true hlt
      clear h1 h2 h3 hs hf hf0 hv HF
      go_enter Tryz.func35, Tryz.ntmps35
      go_wp2_with (first | (go_at_call 101; refine (HC.out _).mono ?_; rintro e w' ⟨rfl, h⟩; obtain rfl := h.symm) | (rw [hsz]))
      go_ret2
      exact ⟨⟨⟨#[]⟩, by rw [HF2.out]; rfl, HV.out⟩, ExtOf.of (Ext.refl _)⟩
    · have q1 : decide ((n : Int) < (k : Int)) = false := decide_eq_false (by omega)
      obtain ⟨d, hd⟩ : ∃ d, d = n - k := ⟨_, rfl⟩
      have hdi : (n : Int) - (k : Int) = (d : Int) := by omega
      have hwd : IntKind.i64.wrap (d : Int) = d := by simp [IntKind.wrap, IntKind.signed, IntKind.bits]; omega
      have HV := Lib.hid (kinds_star hs hf (show k ≤ n by omega))
      rw [← hd] at HV
      have HF2 : Hid (fits c (n + 1) = true) := Lib.hid (by rw [HF.out]; exact decide_eq_true (by omega))
      have hxs : ((bB c.fixed).extract k (k + 1)).size = 1 := by rw [← sizeL, last_one hf]; rfl
      have HR := Lib.hid fun w : World => (Tryz.strings_Repeat ((bB c.fixed).extract k (k + 1)) d w (by omega) (by rw [hxs]; omega)).mono (R' := fun e w' => e = .returned (.string ⟨(Lib.repeatL ((bB c.fixed).extract k (k + 1)).data.toList d).toArray⟩) ∧ ∃ n : ExtOf w, w' = n.val) fun e w' h => ⟨h.1, ExtOf.of h.2⟩
      have hrp : (⟨(Lib.repeatL ((bB c.fixed).extract k (k + 1)).data.toList d).toArray⟩ : ByteArray).size ≤ 400 := by
        rw [← sizeL]
        show (Lib.repeatL _ d).length ≤ 400
        rw [Lib.repeatL_length, sizeL, hxs]
        omega
      generalize (⟨(Lib.repeatL ((bB c.fixed).extract k (k + 1)).data.toList d).toArray⟩ : ByteArray) = rp at *
      generalize bB c.fixed = fx at *
      generalize bB (formC c) = f at *
      have hk1 : (k : Int) ≤ (fx.size : Int) := by omega
      have hk2 : (0 : Int) ≤ (k : Int) := by omega
      have q3 : decide (n < k) = false := decide_eq_false hlt
      have hk3 : (k : Int) ≤ (k : Int) + 1 := by omega
      have hk4 : k ≤ k + 1 := by omega
      have hcat1 : ¬ 9223372036854775807 < min k (k + 1) + rp.size := by omega
      have hcat2 : ¬ 9223372036854775807 < k + rp.size := by omega
      have hcat3 : ¬ 9223372036854775807 < min k fx.size + rp.size := by omega
      clear h1 h2 h3 hs hf hf0 HF hd hxs
      go_enter Tryz.func35, Tryz.ntmps35
      go_wp2_with (go_at_call 101; refine (HC.out _).mono ?_; rintro e w' ⟨rfl, h⟩; obtain rfl := h.symm)
      refine wp_region_ext (by kernel_rfl) (by kernel_rfl) ?_
      repeat (first | go_big_quiet_skip | go_big_quiet_step ((go_at_call 102; exact ext_call (HR.out _))))
      refine wpQuiet_nil ?_
      intro _ hw'
      obtain ⟨nq, hw''⟩ := hw'
      subst hw''
      go_wp2_with fail
      go_ret2
      exact ⟨⟨_, by rw [HF2.out]; rfl, HV.out⟩, ExtOf.of (by with_reducible repeat' (first | exact Ext.refl _ | exact ExtOf.ext _ | refine Ext.trans ?_ (ExtOf.ext _) | refine Ext.alloc ?_ _ | refine Ext.drew ?_ | refine Ext.setCell ?_ ?_ _ | refine Ext.setRow ?_ ?_ _ | exact HX.out | refine Ext.trans ?_ HX.out | omega | (simp; done) | (simp; omega)))⟩
end Go.Proofs.YtjflmmipjeangaaGreatDoor
end
