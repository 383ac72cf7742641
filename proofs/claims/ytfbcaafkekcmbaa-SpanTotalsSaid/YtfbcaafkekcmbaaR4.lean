/-
  The contract of the reference's Minus.
-/
import Derived.Test.YtfbcaafkekcmbaaR2
import Derived.Test.YtfbcaafkekcmbaaBase9
namespace Go.Proofs.Ytfbcaafkekcmbaa
open Go.RowKit SpanM

attribute [local go_sem] ExtOf.cell ExtOf.frozen Block.cell Block.frozen ExtB.cell ExtB.frozen alloc_cell alloc_frozen

theorem rm_take {X Y : List Sp} {y : Sp} {k : Nat} (h : Y[k]? = some y) : rminusFrom X (Y.take (k + 1)) = (rminusFrom X (Y.take k)).flatMap (cut y) := by
  unfold rminusFrom
  rw [List.take_add_one, h, Option.toList_some, List.foldl_append]
  rfl
theorem Can_take {Y : List Sp} (h : SpanM.Can Y) (k : Nat) : SpanM.Can (Y.take k) := ⟨fun s hs => h.1 s (List.mem_of_mem_take hs), h.2.sublist (List.take_sublist k Y)⟩
theorem rm_len {X Y : List Sp} (hX : SpanM.Can X) (hY : SpanM.Can Y) (k : Nat) (h1 : X.length ≤ 1024) (h2 : Y.length ≤ 1024) : (rminusFrom X (Y.take k)).length ≤ 1049600 := by
  have hT := Can_take hY k
  obtain ⟨a1, a2⟩ := rminusFrom_ok hX hT.1
  obtain ⟨b1, b2, _⟩ := minusFrom_ok hX hT
  rw [can_unique a1 b1 (fun n => by rw [a2, b2])]
  have h3 := minusFrom_len X (Y.take k)
  have h4 : (Y.take k).length ≤ 1024 := by rw [List.length_take]; omega
  have h5 : X.length * ((Y.take k).length + 1) ≤ 1024 * 1025 := Nat.mul_le_mul h1 (by omega)
  omega
theorem cut_step {o r z : List Sp} {y : Sp} {A B : Int} {i : Nat} (h : z = r ++ (o.drop i).flatMap (cut y)) (hd : o.drop i = (A, B) :: o.drop (i + 1)) :
    z = r ++ opt (A, min B y.1) ++ opt (max A y.2, B) ++ (o.drop (i + 1)).flatMap (cut y) := by
  rw [h, hd, List.flatMap_cons, cut]
  simp only [List.append_assoc]
set_option maxRecDepth 20000 in
set_option maxHeartbeats 1600000 in
theorem rminus_any (p p' : Option Addr) (cap cap' : Nat) (a b : List Sp) (w : World) (ha : SpS w (.slice p a.length cap) a) (hb : SpS w (.slice p' b.length cap') b) (hla : a.length ≤ 1024) (hlb : b.length ≤ 1024) :
    Calls Try.prog 27 #[.slice p a.length cap, .slice p' b.length cap'] w (RetS w (SpanM.minus a b)) := by
  obtain ⟨i0, hi, hz0, hz1, hz2⟩ := info_parts infoS
  have hca := canon_len a
  have hcb := canon_len b
  have HA := Lib.hid ha
  have HB := Lib.hid hb
  have HLN : Hid (∀ k, (rminusFrom (SpanM.canon a) ((SpanM.canon b).take k)).length ≤ 1049600) := Lib.hid (fun k => rm_len (canon_ok a).1 (canon_ok b).1 k (by omega) (by omega))
  clear ha hb
  rw [← rminus_eq]
  go_enter Try.func27, Try.ntmps27
  go_wp2_with fail
  refine (rcanon_any _ _ a _ HA.out (by omega)).mono ?_
  rintro e w' ⟨q1, c1, rfl, hs1, hfr1, n1, rfl⟩
  have HS1 := Lib.hid hs1
  have HFR1 := Lib.hid hfr1
  clear hs1 hfr1
  go_wp2_with fail
  refine (rcanon_any _ _ b _ (SliceOf.ext HB.out n1.ext) (by omega)).mono ?_
  rintro e w' ⟨q2, c2, rfl, hs2, hfr2, n2, rfl⟩
  have HS1' := Lib.hid (SliceOf.ext HS1.out n2.ext)
  have HS2 := Lib.hid hs2
  have HXW : Hid (Ext w n2.val) := Lib.hid (Ext.trans n1.ext n2.ext)
  clear hs2 hfr2 HA HB HS1
  generalize n2.val = W at HS1' HS2 HXW ⊢
  clear n2 n1
  go_wp2_with fail
  go_loopw [5, 7] (fun v5 v wr => ∃ (k : Nat) (o : List Sp) (q : Option Addr) (c : Nat), k ≤ (SpanM.canon b).length ∧ v = .int .i64 k ∧ o = rminusFrom (SpanM.canon a) ((SpanM.canon b).take k) ∧ v5 = .slice q o.length c ∧ SpS wr (.slice q o.length c) o ∧ (∀ a, q = some a → w.heap.size ≤ a.block) ∧ Ext W wr) (fun _ v _ => (SpanM.canon b).length - (intOf v).toNat)
  case atStart => exact ⟨0, (SpanM.canon a), q1, c1, by omega, rfl, rfl, rfl, HS1'.out, HFR1.out, Ext.refl _⟩
  case round =>
    obtain ⟨k, o, q, c, hk, rfl, ho, rfl, hs, hfr, hx⟩ := hrel
    have hol : o.length ≤ 1049600 := by rw [ho]; exact HLN.out k
    have HX := Lib.hid hx
    have HS := Lib.hid hs
    have HO := Lib.hid ho
    have HFR := Lib.hid hfr
    clear hx hs ho hfr
    by_cases hlt : k < (SpanM.canon b).length
    · obtain ⟨C, D, b1, off1, hd, hm, rfl, hold1, c2', c3'⟩ := SpS.elem (SliceOf.ext HS2.out HX.out) hlt
      have HM : Hid (rminusFrom (SpanM.canon a) ((SpanM.canon b).take (k + 1)) = o.flatMap (cut (C, D))) := Lib.hid (by rw [rm_take hm, HO.out])
      clear hd hm HO
      go_wp2
      obtain ⟨W2, rfl⟩ : ∃ W2, W2 = wr := ⟨_, rfl⟩
      go_loopw [8, 9] (fun v8 v wr => ∃ (i : Nat) (r : List Sp), i ≤ o.length ∧ v = .int .i64 i ∧ r.length ≤ 2 * i ∧ o.flatMap (cut (C, D)) = r ++ (o.drop i).flatMap (cut (C, D)) ∧ Own encS 2 23 W2.heap.size wr v8 r ∧ Ext W2 wr) (fun _ v _ => o.length - (intOf v).toNat)
      case atStart => exact ⟨0, [], by omega, rfl, by simp, rfl, Own.nil _, Ext.refl _⟩
      case round =>
        obtain ⟨i, r, hi2, rfl, hr, hf, ho, hx⟩ := hrel
        have hsz := hx.size
        have HX2 := Lib.hid hx
        have HF := Lib.hid hf
        have HO := Lib.hid ho
        clear hx hf ho
        by_cases hlt2 : i < o.length
        · obtain ⟨A, B, b0, off0, hd, hm, rfl, hold0, c0, c1'⟩ := SpS.elem HS.out hlt2
          have HD := Lib.hid (cut_step HF.out hd)
          clear hd hm HF
          have d0 := HX2.out.cell c0
          have d1 := HX2.out.cell c1'
          have d2 := HX2.out.cell c2'
          have d3 := HX2.out.cell c3'
          have mn : (if C < B then C else B) = min B C := by split <;> omega
          have mx : (if A < D then D else A) = max A D := by split <;> omega
          go_wp2
          refine region_held (S := fun W' => Ext wr W') (by kernel_rfl) ?_
          refine wpAnyH_take (i := 0) (v := .slice (some ⟨b0, off0, none⟩) o.length c) rfl (by kernel_rfl) (by kernel_rfl) (by kernel_rfl) (fun _ _ _ h => h) (.inl ⟨rfl, fun w' hb => rfl⟩) (Ext.drew (Ext.refl _)) ?_
          simp only [List.getElem_toArray, List.getElem_cons_succ, List.getElem_cons_zero, Act.put, List.setIfInBounds_toArray, List.set_cons_succ, List.set_cons_zero]
          refine wpAnyH_take (i := 1) (v := .int .i64 i) rfl (by kernel_rfl) (by kernel_rfl) (by kernel_rfl) (fun _ _ _ h => h) (.inl ⟨rfl, fun w' hb => rfl⟩) (Ext.drew (Ext.refl _)) ?_
          simp only [List.getElem_toArray, List.getElem_cons_succ, List.getElem_cons_zero, Act.put, List.setIfInBounds_toArray, List.set_cons_succ, List.set_cons_zero]
          refine wpAnyH_take (i := 2) (v := .pointer (some ⟨b0, off0 + i * 2, none⟩)) rfl (by kernel_rfl) (by kernel_rfl) (by kernel_rfl) (fun _ _ _ h => h) (.inl ⟨rfl, fun w' hb => (by simp [go_sem, hlt2])⟩) (Ext.drew (Ext.refl _)) ?_
          simp only [List.getElem_toArray, List.getElem_cons_succ, List.getElem_cons_zero, Act.put, List.setIfInBounds_toArray, List.set_cons_succ, List.set_cons_zero]
          refine wpAnyH_take (i := 3) (v := .pointer (some ⟨b0, off0 + i * 2, none⟩)) rfl (by kernel_rfl) (by kernel_rfl) (by kernel_rfl) (fun _ _ _ h => h) (.inl ⟨rfl, fun w' hb => (by simp [go_sem])⟩) (Ext.drew (Ext.refl _)) ?_
          simp only [List.getElem_toArray, List.getElem_cons_succ, List.getElem_cons_zero, Act.put, List.setIfInBounds_toArray, List.set_cons_succ, List.set_cons_zero]
          refine wpAnyH_take (i := 4) (v := .int .i64 A) rfl (by kernel_rfl) (by kernel_rfl) (by kernel_rfl) (fun _ _ _ h => h) (.inl ⟨rfl, fun w' hb => (by have e0 := hb.cell d0; simp [go_sem, e0])⟩) (Ext.drew (Ext.refl _)) ?_
          simp only [List.getElem_toArray, List.getElem_cons_succ, List.getElem_cons_zero, Act.put, List.setIfInBounds_toArray, List.set_cons_succ, List.set_cons_zero]
          refine wpAnyH_take (i := 5) (v := .slice (some ⟨b0, off0, none⟩) o.length c) rfl (by kernel_rfl) (by kernel_rfl) (by kernel_rfl) (fun _ _ _ h => h) (.inl ⟨rfl, fun w' hb => rfl⟩) (Ext.drew (Ext.refl _)) ?_
          simp only [List.getElem_toArray, List.getElem_cons_succ, List.getElem_cons_zero, Act.put, List.setIfInBounds_toArray, List.set_cons_succ, List.set_cons_zero]
          refine wpAnyH_take (i := 6) (v := .int .i64 i) rfl (by kernel_rfl) (by kernel_rfl) (by kernel_rfl) (fun _ _ _ h => h) (.inl ⟨rfl, fun w' hb => rfl⟩) (Ext.drew (Ext.refl _)) ?_
          simp only [List.getElem_toArray, List.getElem_cons_succ, List.getElem_cons_zero, Act.put, List.setIfInBounds_toArray, List.set_cons_succ, List.set_cons_zero]
          refine wpAnyH_take (i := 7) (v := .pointer (some ⟨b0, off0 + i * 2, none⟩)) rfl (by kernel_rfl) (by kernel_rfl) (by kernel_rfl) (fun _ _ _ h => h) (.inl ⟨rfl, fun w' hb => (by simp [go_sem, hlt2])⟩) (Ext.drew (Ext.refl _)) ?_
          simp only [List.getElem_toArray, List.getElem_cons_succ, List.getElem_cons_zero, Act.put, List.setIfInBounds_toArray, List.set_cons_succ, List.set_cons_zero]
          refine wpAnyH_take (i := 8) (v := .pointer (some ⟨b0, off0 + i * 2 + 1, none⟩)) rfl (by kernel_rfl) (by kernel_rfl) (by kernel_rfl) (fun _ _ _ h => h) (.inl ⟨rfl, fun w' hb => (by simp [go_sem])⟩) (Ext.drew (Ext.refl _)) ?_
          simp only [List.getElem_toArray, List.getElem_cons_succ, List.getElem_cons_zero, Act.put, List.setIfInBounds_toArray, List.set_cons_succ, List.set_cons_zero]
          refine wpAnyH_take (i := 9) (v := .int .i64 B) rfl (by kernel_rfl) (by kernel_rfl) (by kernel_rfl) (fun _ _ _ h => h) (.inl ⟨rfl, fun w' hb => (by have e0 := hb.cell d1; simp [go_sem, e0])⟩) (Ext.drew (Ext.refl _)) ?_
          simp only [List.getElem_toArray, List.getElem_cons_succ, List.getElem_cons_zero, Act.put, List.setIfInBounds_toArray, List.set_cons_succ, List.set_cons_zero]
          refine wpAnyH_take (i := 10) (v := .slice (some ⟨b1, off1, none⟩) (SpanM.canon b).length c2) rfl (by kernel_rfl) (by kernel_rfl) (by kernel_rfl) (fun _ _ _ h => h) (.inl ⟨rfl, fun w' hb => rfl⟩) (Ext.drew (Ext.refl _)) ?_
          simp only [List.getElem_toArray, List.getElem_cons_succ, List.getElem_cons_zero, Act.put, List.setIfInBounds_toArray, List.set_cons_succ, List.set_cons_zero]
          refine wpAnyH_take (i := 11) (v := .int .i64 k) rfl (by kernel_rfl) (by kernel_rfl) (by kernel_rfl) (fun _ _ _ h => h) (.inl ⟨rfl, fun w' hb => rfl⟩) (Ext.drew (Ext.refl _)) ?_
          simp only [List.getElem_toArray, List.getElem_cons_succ, List.getElem_cons_zero, Act.put, List.setIfInBounds_toArray, List.set_cons_succ, List.set_cons_zero]
          refine wpAnyH_take (i := 12) (v := .pointer (some ⟨b1, off1 + k * 2, none⟩)) rfl (by kernel_rfl) (by kernel_rfl) (by kernel_rfl) (fun _ _ _ h => h) (.inl ⟨rfl, fun w' hb => (by simp [go_sem, hlt])⟩) (Ext.drew (Ext.refl _)) ?_
          simp only [List.getElem_toArray, List.getElem_cons_succ, List.getElem_cons_zero, Act.put, List.setIfInBounds_toArray, List.set_cons_succ, List.set_cons_zero]
          refine wpAnyH_take (i := 13) (v := .pointer (some ⟨b1, off1 + k * 2, none⟩)) rfl (by kernel_rfl) (by kernel_rfl) (by kernel_rfl) (fun _ _ _ h => h) (.inl ⟨rfl, fun w' hb => (by simp [go_sem])⟩) (Ext.drew (Ext.refl _)) ?_
          simp only [List.getElem_toArray, List.getElem_cons_succ, List.getElem_cons_zero, Act.put, List.setIfInBounds_toArray, List.set_cons_succ, List.set_cons_zero]
          refine wpAnyH_take (i := 14) (v := .int .i64 C) rfl (by kernel_rfl) (by kernel_rfl) (by kernel_rfl) (fun _ _ _ h => h) (.inl ⟨rfl, fun w' hb => (by have e0 := hb.cell d2; simp [go_sem, e0])⟩) (Ext.drew (Ext.refl _)) ?_
          simp only [List.getElem_toArray, List.getElem_cons_succ, List.getElem_cons_zero, Act.put, List.setIfInBounds_toArray, List.set_cons_succ, List.set_cons_zero]
          refine wpAnyH_take (i := 15) (v := .int .i64 (min B C)) rfl (by kernel_rfl) (by kernel_rfl) (by kernel_rfl) (fun _ _ _ h => h) (.inl ⟨rfl, fun w' hb => (by simp [go_sem, mn])⟩) (Ext.drew (Ext.refl _)) ?_
          simp only [List.getElem_toArray, List.getElem_cons_succ, List.getElem_cons_zero, Act.put, List.setIfInBounds_toArray, List.set_cons_succ, List.set_cons_zero]
          refine wpAnyH_take (i := 16) (v := .agg #[.int .i64 A, .int .i64 (min B C)]) rfl (by kernel_rfl) (by kernel_rfl) (by kernel_rfl) (fun _ _ _ h => h) (.inl ⟨rfl, fun w' hb => (by simp [go_sem])⟩) (Ext.drew (Ext.refl _)) ?_
          simp only [List.getElem_toArray, List.getElem_cons_succ, List.getElem_cons_zero, Act.put, List.setIfInBounds_toArray, List.set_cons_succ, List.set_cons_zero]
          refine ah_new (al := 17) (st := 18) (d1 := 44) (d2 := 10) (cs := #[.int .i64 (A), .int .i64 (min B C)]) rfl rfl lwSp rfl (by simp [Value.oneCell']) zeroSp rfl (by decide) (by simp [Act.put]) rfl (by kernel_rfl) (by kernel_rfl) (by kernel_rfl) (fun W h => Ext.trans (Ext.drew (Ext.refl _)) h) ?_
          intro Wa ga hxa hg hBa
          simp only [List.getElem_toArray, List.getElem_cons_succ, List.getElem_cons_zero, Act.put, List.setIfInBounds_toArray, List.set_cons_succ, List.set_cons_zero]
          have hxA : Ext wr Wa := Ext.trans (Ext.drew (Ext.refl _)) hxa
          have hna : ga < Wa.heap.size := hBa.lt
          have hga : wr.heap.size ≤ ga := hg
          have e0 := hxA.cell d0
          have e1 := hxA.cell d1
          have e2 := hxA.cell d2
          have e3 := hxA.cell d3
          have HXA := Lib.hid hxA
          clear hxA hxa hg
          go_wp2
          refine region_held (S := fun W' => Ext Wa W') (by kernel_rfl) ?_
          refine wpAnyH_take (i := 0) (v := .slice (some ⟨b0, off0, none⟩) o.length c) rfl (by kernel_rfl) (by kernel_rfl) (by kernel_rfl) (fun _ _ _ h => h) (.inl ⟨rfl, fun w' hb => rfl⟩) (Ext.drew (Ext.refl _)) ?_
          simp only [List.getElem_toArray, List.getElem_cons_succ, List.getElem_cons_zero, Act.put, List.setIfInBounds_toArray, List.set_cons_succ, List.set_cons_zero]
          refine wpAnyH_take (i := 1) (v := .int .i64 i) rfl (by kernel_rfl) (by kernel_rfl) (by kernel_rfl) (fun _ _ _ h => h) (.inl ⟨rfl, fun w' hb => rfl⟩) (Ext.drew (Ext.refl _)) ?_
          simp only [List.getElem_toArray, List.getElem_cons_succ, List.getElem_cons_zero, Act.put, List.setIfInBounds_toArray, List.set_cons_succ, List.set_cons_zero]
          refine wpAnyH_take (i := 2) (v := .pointer (some ⟨b0, off0 + i * 2, none⟩)) rfl (by kernel_rfl) (by kernel_rfl) (by kernel_rfl) (fun _ _ _ h => h) (.inl ⟨rfl, fun w' hb => (by simp [go_sem, hlt2])⟩) (Ext.drew (Ext.refl _)) ?_
          simp only [List.getElem_toArray, List.getElem_cons_succ, List.getElem_cons_zero, Act.put, List.setIfInBounds_toArray, List.set_cons_succ, List.set_cons_zero]
          refine wpAnyH_take (i := 3) (v := .pointer (some ⟨b0, off0 + i * 2, none⟩)) rfl (by kernel_rfl) (by kernel_rfl) (by kernel_rfl) (fun _ _ _ h => h) (.inl ⟨rfl, fun w' hb => (by simp [go_sem])⟩) (Ext.drew (Ext.refl _)) ?_
          simp only [List.getElem_toArray, List.getElem_cons_succ, List.getElem_cons_zero, Act.put, List.setIfInBounds_toArray, List.set_cons_succ, List.set_cons_zero]
          refine wpAnyH_take (i := 4) (v := .int .i64 A) rfl (by kernel_rfl) (by kernel_rfl) (by kernel_rfl) (fun _ _ _ h => h) (.inl ⟨rfl, fun w' hb => (by have e0 := hb.cell e0; simp [go_sem, e0])⟩) (Ext.drew (Ext.refl _)) ?_
          simp only [List.getElem_toArray, List.getElem_cons_succ, List.getElem_cons_zero, Act.put, List.setIfInBounds_toArray, List.set_cons_succ, List.set_cons_zero]
          refine wpAnyH_take (i := 5) (v := .slice (some ⟨b1, off1, none⟩) (SpanM.canon b).length c2) rfl (by kernel_rfl) (by kernel_rfl) (by kernel_rfl) (fun _ _ _ h => h) (.inl ⟨rfl, fun w' hb => rfl⟩) (Ext.drew (Ext.refl _)) ?_
          simp only [List.getElem_toArray, List.getElem_cons_succ, List.getElem_cons_zero, Act.put, List.setIfInBounds_toArray, List.set_cons_succ, List.set_cons_zero]
          refine wpAnyH_take (i := 6) (v := .int .i64 k) rfl (by kernel_rfl) (by kernel_rfl) (by kernel_rfl) (fun _ _ _ h => h) (.inl ⟨rfl, fun w' hb => rfl⟩) (Ext.drew (Ext.refl _)) ?_
          simp only [List.getElem_toArray, List.getElem_cons_succ, List.getElem_cons_zero, Act.put, List.setIfInBounds_toArray, List.set_cons_succ, List.set_cons_zero]
          refine wpAnyH_take (i := 7) (v := .pointer (some ⟨b1, off1 + k * 2, none⟩)) rfl (by kernel_rfl) (by kernel_rfl) (by kernel_rfl) (fun _ _ _ h => h) (.inl ⟨rfl, fun w' hb => (by simp [go_sem, hlt])⟩) (Ext.drew (Ext.refl _)) ?_
          simp only [List.getElem_toArray, List.getElem_cons_succ, List.getElem_cons_zero, Act.put, List.setIfInBounds_toArray, List.set_cons_succ, List.set_cons_zero]
          refine wpAnyH_take (i := 8) (v := .pointer (some ⟨b1, off1 + k * 2 + 1, none⟩)) rfl (by kernel_rfl) (by kernel_rfl) (by kernel_rfl) (fun _ _ _ h => h) (.inl ⟨rfl, fun w' hb => (by simp [go_sem])⟩) (Ext.drew (Ext.refl _)) ?_
          simp only [List.getElem_toArray, List.getElem_cons_succ, List.getElem_cons_zero, Act.put, List.setIfInBounds_toArray, List.set_cons_succ, List.set_cons_zero]
          refine wpAnyH_take (i := 9) (v := .int .i64 D) rfl (by kernel_rfl) (by kernel_rfl) (by kernel_rfl) (fun _ _ _ h => h) (.inl ⟨rfl, fun w' hb => (by have e0 := hb.cell e3; simp [go_sem, e0])⟩) (Ext.drew (Ext.refl _)) ?_
          simp only [List.getElem_toArray, List.getElem_cons_succ, List.getElem_cons_zero, Act.put, List.setIfInBounds_toArray, List.set_cons_succ, List.set_cons_zero]
          refine wpAnyH_take (i := 10) (v := .int .i64 (max A D)) rfl (by kernel_rfl) (by kernel_rfl) (by kernel_rfl) (fun _ _ _ h => h) (.inl ⟨rfl, fun w' hb => (by simp [go_sem, mx])⟩) (Ext.drew (Ext.refl _)) ?_
          simp only [List.getElem_toArray, List.getElem_cons_succ, List.getElem_cons_zero, Act.put, List.setIfInBounds_toArray, List.set_cons_succ, List.set_cons_zero]
          refine wpAnyH_take (i := 11) (v := .slice (some ⟨b0, off0, none⟩) o.length c) rfl (by kernel_rfl) (by kernel_rfl) (by kernel_rfl) (fun _ _ _ h => h) (.inl ⟨rfl, fun w' hb => rfl⟩) (Ext.drew (Ext.refl _)) ?_
          simp only [List.getElem_toArray, List.getElem_cons_succ, List.getElem_cons_zero, Act.put, List.setIfInBounds_toArray, List.set_cons_succ, List.set_cons_zero]
          refine wpAnyH_take (i := 12) (v := .int .i64 i) rfl (by kernel_rfl) (by kernel_rfl) (by kernel_rfl) (fun _ _ _ h => h) (.inl ⟨rfl, fun w' hb => rfl⟩) (Ext.drew (Ext.refl _)) ?_
          simp only [List.getElem_toArray, List.getElem_cons_succ, List.getElem_cons_zero, Act.put, List.setIfInBounds_toArray, List.set_cons_succ, List.set_cons_zero]
          refine wpAnyH_take (i := 13) (v := .pointer (some ⟨b0, off0 + i * 2, none⟩)) rfl (by kernel_rfl) (by kernel_rfl) (by kernel_rfl) (fun _ _ _ h => h) (.inl ⟨rfl, fun w' hb => (by simp [go_sem, hlt2])⟩) (Ext.drew (Ext.refl _)) ?_
          simp only [List.getElem_toArray, List.getElem_cons_succ, List.getElem_cons_zero, Act.put, List.setIfInBounds_toArray, List.set_cons_succ, List.set_cons_zero]
          refine wpAnyH_take (i := 14) (v := .pointer (some ⟨b0, off0 + i * 2 + 1, none⟩)) rfl (by kernel_rfl) (by kernel_rfl) (by kernel_rfl) (fun _ _ _ h => h) (.inl ⟨rfl, fun w' hb => (by simp [go_sem])⟩) (Ext.drew (Ext.refl _)) ?_
          simp only [List.getElem_toArray, List.getElem_cons_succ, List.getElem_cons_zero, Act.put, List.setIfInBounds_toArray, List.set_cons_succ, List.set_cons_zero]
          refine wpAnyH_take (i := 15) (v := .int .i64 B) rfl (by kernel_rfl) (by kernel_rfl) (by kernel_rfl) (fun _ _ _ h => h) (.inl ⟨rfl, fun w' hb => (by have e0 := hb.cell e1; simp [go_sem, e0])⟩) (Ext.drew (Ext.refl _)) ?_
          simp only [List.getElem_toArray, List.getElem_cons_succ, List.getElem_cons_zero, Act.put, List.setIfInBounds_toArray, List.set_cons_succ, List.set_cons_zero]
          refine wpAnyH_take (i := 16) (v := .agg #[.int .i64 (max A D), .int .i64 B]) rfl (by kernel_rfl) (by kernel_rfl) (by kernel_rfl) (fun _ _ _ h => h) (.inl ⟨rfl, fun w' hb => (by simp [go_sem])⟩) (Ext.drew (Ext.refl _)) ?_
          simp only [List.getElem_toArray, List.getElem_cons_succ, List.getElem_cons_zero, Act.put, List.setIfInBounds_toArray, List.set_cons_succ, List.set_cons_zero]
          refine ah_new (al := 17) (st := 18) (d1 := 61) (d2 := 11) (cs := #[.int .i64 (max A D), .int .i64 (B)]) rfl rfl lwSp rfl (by simp [Value.oneCell']) zeroSp rfl (by decide) (by simp [Act.put]) rfl (by kernel_rfl) (by kernel_rfl) (by kernel_rfl) (fun W h => Ext.trans (Ext.drew (Ext.refl _)) h) ?_
          intro Wb gb hxb hg hBb
          simp only [List.getElem_toArray, List.getElem_cons_succ, List.getElem_cons_zero, Act.put, List.setIfInBounds_toArray, List.set_cons_succ, List.set_cons_zero]
          have hxB : Ext Wa Wb := Ext.trans (Ext.drew (Ext.refl _)) hxb
          have hnb : gb < Wb.heap.size := hBb.lt
          have hgb : Wa.heap.size ≤ gb := hg
          have hBa2 : Block Wb ga #[.int .i64 A, .int .i64 (min B C)] := hBa.ext hxB
          have oga := hBa2.old
          have ogb := hBb.old
          have HXB : Hid (Ext W2 Wb) := Lib.hid (Ext.trans HX2.out (Ext.trans HXA.out hxB))
          have hszb := HXB.out.size
          have hne1 : Value.ownBlock _ ≠ some ga := Own.block_lt HO.out hga
          have hne2 : Value.ownBlock _ ≠ some gb := Own.block_lt HO.out (by omega)
          have HOB := Lib.hid (Own.ext (Own.ext HO.out HXA.out) hxB)
          clear hxB hxb hg e0 e1 e2 e3 d0 d1 d2 d3 hBa HO HXA hsz
          rcases t1 : decide (A < min B C) with _ | _
          · have HC : Hid (o.flatMap (cut (C, D)) = r ++ opt (max A D, B) ++ (o.drop (i + 1)).flatMap (cut (C, D))) := Lib.hid (by have := HD.out; rwa [opt_no (by simpa using t1), List.append_nil] at this)
            rcases t2 : decide (max A D < B) with _ | _
            · have HE : Hid (o.flatMap (cut (C, D)) = r ++ (o.drop (i + 1)).flatMap (cut (C, D))) := Lib.hid (by have := HC.out; rwa [opt_no (by simpa using t2), List.append_nil] at this)
              go_wp2
              go_roundw
              case rel => exact ⟨i + 1, r, by omega, by go_num, by omega, HE.out, HOB.out, HXB.out⟩
              case measure => simp [intOf]; omega
            · have HE : Hid (o.flatMap (cut (C, D)) = (r ++ [(max A D, B)]) ++ (o.drop (i + 1)).flatMap (cut (C, D))) := Lib.hid (by have := HC.out; rwa [opt_yes (by simpa using t2)] at this)
              go_wp2_with (at_builtin; refine wl_append1 (enc := encS) (k := 2) (E := 23) (base := W2.heap.size) (l := r) (y := (max A D, B)) Try.underlying28 hi hz0 hz1 hz2 rfl (by decide) encS_len encS_one rfl rfl (HOB.out.alloc _) inferInstance rfl (by unfold maxLen; omega) (by omega) (by simp; omega) ?_; intro v' nb hown')
              go_roundw
              case rel => exact ⟨i + 1, r ++ [(max A D, B)], by omega, by go_num, by simp; omega, HE.out, hown', Ext.below (HXB.out.alloc _) (Nat.le_refl _) _⟩
              case measure => simp [intOf]; omega
          · have HC : Hid (o.flatMap (cut (C, D)) = (r ++ [(A, min B C)]) ++ opt (max A D, B) ++ (o.drop (i + 1)).flatMap (cut (C, D))) := Lib.hid (by have := HD.out; rwa [opt_yes (by simpa using t1)] at this)
            have hrl : (r ++ [(A, min B C)]).length = r.length + 1 := by simp
            rcases t2 : decide (max A D < B) with _ | _
            · have HE : Hid (o.flatMap (cut (C, D)) = (r ++ [(A, min B C)]) ++ (o.drop (i + 1)).flatMap (cut (C, D))) := Lib.hid (by have := HC.out; rwa [opt_no (by simpa using t2), List.append_nil] at this)
              go_wp2_with ((at_builtin; refine wl_append1g (enc := encS) (k := 2) (E := 23) (base := W2.heap.size) (l := r) (y := (A, min B C)) Try.underlying28 hi hz0 hz1 hz2 rfl (by decide) encS_len encS_one rfl rfl (HOB.out.alloc _) inferInstance rfl (by unfold maxLen; omega) (by omega) (by first | omega | (simp; omega)) ?_; intro v' nb hown' hkeep); have hB3 : Block nb.val gb #[.int .i64 (max A D), .int .i64 B] := hkeep.block inferInstance hne2; have og3 := hB3.old; clear hkeep)
              go_roundw
              case rel => exact ⟨i + 1, r ++ [(A, min B C)], by omega, by go_num, by omega, HE.out, hown', Ext.below (HXB.out.alloc _) (Nat.le_refl _) _⟩
              case measure => simp [intOf]; omega
            · have HE : Hid (o.flatMap (cut (C, D)) = (r ++ [(A, min B C)] ++ [(max A D, B)]) ++ (o.drop (i + 1)).flatMap (cut (C, D))) := Lib.hid (by have := HC.out; rwa [opt_yes (by simpa using t2)] at this)
              go_wp2_with (first | ((at_builtin; refine wl_append1g (enc := encS) (k := 2) (E := 23) (base := W2.heap.size) (l := r) (y := (A, min B C)) Try.underlying28 hi hz0 hz1 hz2 rfl (by decide) encS_len encS_one rfl rfl (HOB.out.alloc _) inferInstance rfl (by unfold maxLen; omega) (by omega) (by first | omega | (simp; omega)) ?_; intro v' nb hown' hkeep); have hB3 : Block nb.val gb #[.int .i64 (max A D), .int .i64 B] := hkeep.block inferInstance hne2; have og3 := hB3.old; have hs3 : Wb.heap.size ≤ nb.val.heap.size := (by have := hkeep.size; simp at this; omega); have HOC := Lib.hid hown'; have HXC : Hid (Ext W2 nb.val) := Lib.hid (Ext.below (HXB.out.alloc _) (Nat.le_refl _) _); clear hkeep hown') | (at_builtin; refine wl_append1 (enc := encS) (k := 2) (E := 23) (base := W2.heap.size) (l := (r ++ [(A, min B C)])) (y := (max A D, B)) Try.underlying28 hi hz0 hz1 hz2 rfl (by decide) encS_len encS_one rfl rfl (HOC.out.alloc _) inferInstance rfl (by unfold maxLen; omega) (by omega) (by simp; omega) ?_; intro v' nb hown'))
              go_roundw
              case rel => exact ⟨i + 1, r ++ [(A, min B C)] ++ [(max A D, B)], by omega, by go_num, by simp; omega, HE.out, hown', Ext.below (HXC.out.alloc _) (Nat.le_refl _) _⟩
              case measure => simp [intOf]; omega
        · have HC : Hid (rminusFrom (SpanM.canon a) ((SpanM.canon b).take (k + 1)) = r) := Lib.hid (by rw [HM.out, HF.out, List.drop_of_length_le (show o.length ≤ i by omega)]; simp)
          obtain ⟨q6, c6, rfl⟩ := Own.form HO.out
          go_wp2
          go_roundw
          case rel => exact ⟨k + 1, r, q6, c6, by omega, by go_num, HC.out.symm, rfl, Own.slice encS_len HO.out, (fun a ha => Nat.le_trans (Nat.le_trans HXW.out.size HX.out.size) (Own.fresh HO.out a ha)), Ext.trans HX.out HX2.out⟩
          case measure => simp [intOf]; omega
    · have HC : Hid (rminusFrom (SpanM.canon a) (SpanM.canon b) = o) := Lib.hid (by rw [HO.out, List.take_of_length_le (by omega)])
      go_wp2
      go_ret
      rw [HC.out]
      exact ⟨_, _, rfl, HS.out, HFR.out, ExtOf.of (Ext.trans HXW.out HX.out)⟩

end Go.Proofs.Ytfbcaafkekcmbaa
