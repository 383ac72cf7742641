/-
  The reference's Open: insertion, one order after the other.
-/
import Derived.Test.YtaflcbdbacogeaaDoorU3
import Derived.Test.YtaflcbdbacogeaaDoorS2
set_option linter.unusedVariables false
set_option linter.unusedSimpArgs false
namespace Go.Proofs.YtaflcbdbacogeaaDoor
open Go.RowKit ReportM

attribute [local go_sem] ExtOf.cell ExtOf.frozen ExtS.cell ExtS.frozen Block.cell Block.frozen ExtB.cell ExtB.frozen alloc_cell alloc_frozen
/-- the open orders below k, in order -/
structure OpenTo (d : List Du) (k : Nat) (L : List Nat) : Prop where
  mem : ∀ i, i ∈ L ↔ i < k ∧ shOf d i = false
  asc : L.Pairwise (ltO d)
  len : L.length ≤ k
theorem OpenTo.nil (d : List Du) : OpenTo d 0 [] := ⟨fun i => by simp, List.Pairwise.nil, by simp⟩
theorem OpenTo.ok {d : List Du} {L : List Nat} (h : OpenTo d d.length L) : OpenOk d L := ⟨h.mem, h.asc⟩
theorem OpenTo.skip {d : List Du} {k : Nat} {L : List Nat} (h : OpenTo d k L) (hs : shOf d k = true) : OpenTo d (k + 1) L := by
  refine ⟨fun i => ?_, h.asc, by have := h.len; omega⟩
  rw [h.mem]
  constructor
  · rintro ⟨h1, h2⟩; exact ⟨by omega, h2⟩
  · rintro ⟨h1, h2⟩
    refine ⟨?_, h2⟩
    rcases Nat.lt_or_ge i k with c | c
    · exact c
    · obtain rfl : i = k := by omega
      rw [hs] at h2; cases h2
theorem OpenTo.ins {d : List Du} {k : Nat} {l1 l2 : List Nat} (h : OpenTo d k (l1 ++ l2)) (hs : shOf d k = false) (h1 : ∀ s ∈ l1, dueOf d s ≤ dueOf d k) (h2 : ∀ s ∈ l2, dueOf d k < dueOf d s) : OpenTo d (k + 1) (l1 ++ [k] ++ l2) := by
  have lt : ∀ s ∈ l1 ++ l2, s < k := fun s hs => ((h.mem s).1 hs).1
  refine ⟨?_, ?_, by have := h.len; simp at this ⊢; omega⟩
  · intro i
    have := h.mem i
    simp only [List.mem_append, List.mem_singleton] at this ⊢
    constructor
    · rintro ((c | c) | c)
      · have := this.1 (Or.inl c); exact ⟨by omega, this.2⟩
      · subst c; exact ⟨by omega, hs⟩
      · have := this.1 (Or.inr c); exact ⟨by omega, this.2⟩
    · rintro ⟨c1, c2⟩
      by_cases c : i = k
      · exact Or.inl (Or.inr c)
      · rcases this.2 ⟨by omega, c2⟩ with g | g
        · exact Or.inl (Or.inl g)
        · exact Or.inr g
  · have ha := h.asc
    rw [List.append_assoc, List.pairwise_append]
    rw [List.pairwise_append] at ha
    obtain ⟨a1, a2, a3⟩ := ha
    refine ⟨a1, List.pairwise_cons.2 ⟨fun s hs => Or.inl (h2 s hs), a2⟩, fun a ha b hb => ?_⟩
    rcases List.mem_cons.1 hb with rfl | hb
    · have := h1 a ha
      have := lt a (List.mem_append_left _ ha)
      unfold ltO; omega
    · exact a3 a ha b hb
theorem due_rest {d : List Du} {L : List Nat} {s k j : Nat} (ha : L.Pairwise (ltO d)) (h : L = tk L j ++ s :: L.drop (j + 1)) (hj : j ≤ L.length) (hs : dueOf d k < dueOf d s) : ∀ x ∈ L.drop j, dueOf d k < dueOf d x := by
  have e : L.drop j = s :: L.drop (j + 1) := by
    have h1 := List.take_append_drop j L
    have h2 : L.take j ++ L.drop j = L.take j ++ (s :: L.drop (j + 1)) := h1.trans h
    exact List.append_cancel_left h2
  intro x hx
  rw [e] at hx
  rcases List.mem_cons.1 hx with rfl | hx
  · exact hs
  · rw [h, List.pairwise_append, List.pairwise_cons] at ha
    have := ha.2.1.1 x hx
    unfold ltO at this; omega
set_option maxRecDepth 20000 in
set_option maxHeartbeats 3200000 in
theorem ropen_walk (d : List Du) (vl vi vo : Value) (w : World) (h1 : SliceOf encDm 12 w vo d) (hl : d.length ≤ 1000) :
    Calls Tryd.prog 20 #[.agg (stCells vl vi vo)] w fun e w' => ∃ v L, e = .returned v ∧ OpenOk d L ∧ SliceOf encN 1 w' v L ∧ ∃ n : ExtOf w, w' = n.val := by
  obtain ⟨iI, hiI, hI0, hI1, hI2⟩ := info_parts infoInt
  obtain ⟨po, co, rfl, hg4, hg5, hg6⟩ := SliceOf.form h1
  have H1 := Lib.hid h1
  clear h1
  unfold stCells
  go_enter Tryd.func20, Tryd.ntmps20
  go_wp2_with fail
  obtain ⟨b2, hb2⟩ : ∃ x, x = w.heap.size := ⟨_, rfl⟩
  obtain ⟨W0, hW0, k2, kx⟩ : ∃ W0, W0 = (w.alloc (.cells #[.int .i64 0, .slice none 0 0, vl, vi, .slice none 0 0, .slice po d.length co, .int .i64 0, .int .i64 0, .slice none 0 0, .slice none 0 0] 42)) ∧ Block W0 b2 #[.int .i64 0, .slice none 0 0, vl, vi, .slice none 0 0, .slice po d.length co, .int .i64 0, .int .i64 0, .slice none 0 0, .slice none 0 0] ∧ Ext w W0 := ⟨_, rfl, by rw [hb2]; infer_instance, by repeat' (first | (with_reducible exact Ext.refl _) | (with_reducible exact ExtOf.ext _) | (with_reducible refine Ext.trans ?_ (ExtOf.ext _)) | (with_reducible refine Ext.alloc ?_ _) | (with_reducible refine Ext.drew ?_) | (with_reducible refine Ext.setCell ?_ ?_ _) | (with_reducible refine Ext.setRow ?_ ?_ _) | (with_reducible exact HX.out) | (with_reducible refine Ext.trans ?_ HX.out) | (with_reducible refine Ext.below ?_ (Nat.le_refl _) _) | omega | (simp; done) | (simp; omega))⟩
  rw [← hW0, ← hb2]
  have K2 := Lib.hid k2
  have KX := Lib.hid kx
  obtain ⟨B, hB⟩ : ∃ B, B = b2 + 1 := ⟨_, rfl⟩
  have lwB : w.heap.size ≤ B := by omega
  have lb2 : b2 < B := by omega
  have hBW : B ≤ W0.heap.size := by rw [hW0, hB, hb2]; simp
  clear hW0 k2 kx hb2 hB
  go_loopw [3, 4] (fun v i wr => ∃ (k : Nat) (L : List Nat), k ≤ d.length ∧ i = .int .i64 k ∧ Own encN 1 3 B wr v L ∧ OpenTo d k L ∧ (L = [] → v = .slice none 0 0) ∧ Block wr b2 #[.int .i64 0, .slice none 0 0, vl, vi, .slice none 0 0, .slice po d.length co, .int .i64 0, .int .i64 0, .slice none 0 0, .slice none 0 0] ∧ Ext w wr ∧ B ≤ wr.heap.size) (fun _ i _ => d.length - (intOf i).toNat)
  case atStart => exact ⟨0, [], by omega, rfl, Own.nil _, OpenTo.nil d, fun _ => rfl, K2.out, KX.out, hBW⟩
  case round =>
    clear K2 KX hBW
    obtain ⟨k, L, hk, rfl, how, hok, hnil, h2, hx, hBW⟩ := hrel
    have HX := Lib.hid hx
    have HW := Lib.hid how
    have HO := Lib.hid hok
    have HN := Lib.hid hnil
    have hLl := hok.len
    clear hx how hok hnil
    by_cases hlt : k < d.length
    · obtain ⟨bo, oo, rfl, rw0⟩ := SliceOf.elemK H1.out hlt
      have c10 : wr.cell? ⟨bo, oo + k * 12 + 10, none⟩ = some (.int .i64 (dueOf d k)) := by
        have := HX.out.cell (rw0 10 _ rfl)
        simpa [dueOf, hlt] using this
      have c11 : wr.cell? ⟨bo, oo + k * 12 + 11, none⟩ = some (.bool (shOf d k)) := by
        have := HX.out.cell (rw0 11 _ rfl)
        simpa [shOf, hlt] using this
      have o1 : Old bo wr := Old.of_cell c10
      clear rw0
      rcases hsh : shOf d k with _ | _
      · rw [hsh] at c11
        have HSH := Lib.hid hsh
        clear hsh
        go_wp2_with fail
        obtain ⟨dk, hdk⟩ : ∃ x, x = dueOf d k := ⟨_, rfl⟩
        rw [← hdk] at c10
        by_cases hts : L = []
        · obtain rfl := HN.out hts
          subst hts
          go_loopw [5] (fun v wz => v = .int .i64 0 ∧ Ext wr wz) (fun _ _ => 0)
          case atStart => exact ⟨rfl, Ext.refl _⟩
          case round =>
            obtain ⟨rfl, hx1⟩ := hrel
            replace h2 := h2.ext hx1
            replace HX := Lib.hid (HX.out.trans hx1)
            replace hBW : B ≤ wr.heap.size := by have := hx1.size; omega
            clear hx1 HW HN c10 c11 o1
            have q1 : decide ((0 : Nat) < 0) = false := rfl
            go_wp2_with fail
            refine wp_region_ext (by kernel_rfl) (by kernel_rfl) ?_
            repeat (first | go_big_quiet_skip | go_big_quiet_step (fail))
            refine wpQuiet_nil ?_
            intro _ hw'
            obtain ⟨na, hw''⟩ := hw'
            subst hw''
            have hx3 : Ext wr na.val := na.ext
            have HX3 := Lib.hid (HX.out.trans hx3)
            replace h2 := h2.ext hx3
            have hBW3 : B ≤ na.val.heap.size := by have := hx3.size; omega
            obtain ⟨L, hts⟩ : ∃ L : List Nat, L = [] := ⟨_, rfl⟩
            have HTK : Hid (SliceOf encN 1 na.val (.slice none 0 0) (L.take 0)) := Lib.hid (by rw [hts]; exact SliceOf.nil _)
            have HDR : Hid (SliceOf encN 1 na.val (.slice none 0 0) (L.drop 0)) := Lib.hid (by rw [hts]; exact SliceOf.nil _)
            have htl2 : L.length ≤ 1000 := by rw [hts]; simp
            have HTS := Lib.hid hts
            clear hts
            have hBn : na.val.heap.size ≤ na.val.heap.size := Nat.le_refl _
            go_wp2_with (first | (at_builtin; refine wl_appendS (dst := some 50) (enc := encN) (k := 1) (E := 3) (base := na.val.heap.size) (l := []) (m := L.take 0) Tryd.underlying25 hiI hI0 hI1 hI2 rfl (by decide) encN_len encN_one rfl rfl (Own.empty (Nat.le_refl _)) (SliceOf.ext HTK.out ((Ext.refl _).alloc _)) (by simp <;> (unfold maxLen; omega)) (by simp <;> omega) (by simp) ?_; intro v1 n1 ho1; have HO1 : Hid (Own encN 1 3 na.val.heap.size n1.val v1 (L.take 0)) := Lib.hid (by simpa using ho1); have HE1 : Hid (Ext na.val n1.val) := Lib.hid (Below.trans ((Ext.refl _).alloc _) n1.below); clear ho1) | (at_builtin; refine wl_append1g (dst := some 54) (enc := encN) (k := 1) (E := 3) (base := na.val.heap.size) (l := L.take 0) (y := k) Tryd.underlying25 hiI hI0 hI1 hI2 rfl (by decide) encN_len encN_one rfl rfl (Own.alloc HO1.out _) inferInstance rfl (by simp <;> (unfold maxLen; omega)) (by simp <;> omega) (by have := HE1.out.size; simp <;> omega) ?_; intro v2 n2 ho2 hk2; have HO2 := Lib.hid ho2; have HE2 : Hid (Ext na.val n2.val) := Lib.hid (Below.trans (HE1.out.alloc _) n2.below); clear ho2 hk2) | (at_builtin; refine wl_appendS (dst := some 59) (enc := encN) (k := 1) (E := 3) (base := na.val.heap.size) (l := L.take 0 ++ [k]) (m := L.drop 0) Tryd.underlying25 hiI hI0 hI1 hI2 rfl (by decide) encN_len encN_one rfl rfl HO2.out (SliceOf.ext HDR.out HE2.out) (by simp <;> (unfold maxLen; omega)) (by simp <;> omega) (by have := HE2.out.size; omega) ?_; intro v3 n3 ho3; have HO3 := Lib.hid ho3; have HE3 : Hid (Ext na.val n3.val) := Lib.hid (Below.trans HE2.out n3.below); clear ho3))
            go_roundw
            case rel => exact ⟨k + 1, [] ++ [k] ++ [], by omega, by first | rfl | go_num, by have := HO3.out; rw [HTS.out] at this; exact Own.lower this hBW3, OpenTo.ins (l1 := []) (l2 := []) HO.out HSH.out (by simp) (by simp), by simp, h2.ext HE3.out, HX3.out.trans HE3.out, by have := HE3.out.size; omega⟩
            case measure => simp [intOf]; omega
        · obtain ⟨g, cc, hu3⟩ : ∃ g cc, u3 = .slice (some ⟨g, 0, none⟩) L.length cc := by
            obtain ⟨_, ⟨_, hn⟩ | ⟨g, cap, cur, e, _⟩⟩ := HW.out
            · exact absurd (List.eq_nil_of_length_eq_zero hn) hts
            · exact ⟨g, cap, e⟩
          subst hu3
          clear hts HN c11
          obtain ⟨hc1, hc2⟩ : L.length ≤ cc ∧ cc ≤ maxLen := by
            obtain ⟨p', c', e, h1, h2, _⟩ := Own.slice encN_len HW.out
            simp only [Value.slice.injEq] at e
            obtain ⟨_, _, rfl⟩ := e
            exact ⟨h1, h2⟩
          go_loopw [5] (fun v wz => ∃ j : Nat, j ≤ L.length ∧ v = .int .i64 j ∧ (∀ s ∈ tk L j, dueOf d s ≤ dueOf d k) ∧ Ext wr wz) (fun v _ => L.length - (intOf v).toNat)
          case atStart => exact ⟨0, by omega, rfl, by simp [tk], Ext.refl _⟩
          case round =>
            obtain ⟨j, hj, rfl, hlo, hx1⟩ := hrel
            have HLO := Lib.hid hlo
            have HX1 := Lib.hid hx1
            replace h2 := h2.ext hx1
            replace c10 := hx1.cell c10
            replace o1 : Old bo _ := Old.of_cell c10
            replace HX := Lib.hid (HX.out.trans hx1)
            replace HW := Lib.hid (HW.out.ext hx1)
            replace hBW : B ≤ wr.heap.size := by have := hx1.size; omega
            clear hx1 hlo
            by_cases hjl : j < L.length
            · have q1 : decide (j < L.length) = true := by simpa using hjl
              obtain ⟨b', off', e', rT0⟩ := SliceOf.elemK (Own.slice encN_len HW.out) hjl
              simp only [Option.some.injEq, Addr.mk.injEq, and_true] at e'
              obtain ⟨rfl, rfl⟩ := e'
              obtain ⟨s, hs⟩ : ∃ s, s = L[j] := ⟨_, rfl⟩
              have HSP : Hid (L = tk L j ++ s :: L.drop (j + 1)) := Lib.hid (by rw [hs]; unfold tk; rw [← List.drop_eq_getElem_cons hjl, List.take_append_drop])
              have HSU : Hid (tk L (j + 1) = tk L j ++ [s]) := Lib.hid (by rw [hs]; exact tk_succ hjl)
              have hsk : s < k := ((HO.out.mem s).1 (by rw [hs]; exact List.getElem_mem hjl)).1
              have cT : wr.cell? ⟨g, j, none⟩ = some (.int .i64 (s : Int)) := by have := rT0 0 _ rfl; rw [← hs] at this; simpa using this
              have og : Old g wr := Old.of_cell cT
              have hsd : s < d.length := by omega
              obtain ⟨b', off', e', rS⟩ := SliceOf.elemK H1.out hsd
              simp only [Option.some.injEq, Addr.mk.injEq, and_true] at e'
              obtain ⟨rfl, rfl⟩ := e'
              obtain ⟨ds, hds⟩ : ∃ x, x = dueOf d s := ⟨_, rfl⟩
              have cS : wr.cell? ⟨bo, oo + s * 12 + 10, none⟩ = some (.int .i64 ds) := by
                have := HX.out.cell (rS 10 _ rfl)
                rw [hds]
                simpa [dueOf, hsd] using this
              clear hs rT0 rS
              by_cases hle : ds ≤ dk
              · have q2 : decide (ds ≤ dk) = true := by simpa using hle
                go_wp2_with fail
                refine wp_region_ext (by kernel_rfl) (by kernel_rfl) ?_
                repeat (first | go_big_quiet_skip | go_big_quiet_step (fail))
                refine wpQuiet_nil ?_
                intro _ hw'
                obtain ⟨na, hw''⟩ := hw'
                subst hw''
                go_wp2_with fail
                go_roundw
                case rel => exact ⟨j + 1, by omega, by first | rfl | go_num, by
                  rw [HSU.out]
                  intro x hx
                  rcases List.mem_append.1 hx with hx | hx
                  · exact HLO.out x hx
                  · rw [List.mem_singleton.1 hx, ← hds, ← hdk]; exact hle, HX1.out.trans na.ext⟩
                case measure => simp [intOf]; omega
              · have q2 : decide (ds ≤ dk) = false := by simpa using hle
                have GT : Hid (∀ x ∈ L.drop j, dueOf d k < dueOf d x) := Lib.hid (due_rest HO.out.asc HSP.out hj (by rw [← hds, ← hdk]; omega))
                go_wp2_with fail
                refine wp_region_ext (by kernel_rfl) (by kernel_rfl) ?_
                repeat (first | go_big_quiet_skip | go_big_quiet_step (fail))
                refine wpQuiet_nil ?_
                intro _ hw'
                obtain ⟨na, hw''⟩ := hw'
                subst hw''
                have hcj : ¬ cc = j := by omega
                have hx3 : Ext wr na.val := na.ext
                clear cT cS c10
                have HX3 := Lib.hid (HX.out.trans hx3)
                have HW3 := Lib.hid (HW.out.ext hx3)
                replace h2 := h2.ext hx3
                have hBW3 : B ≤ na.val.heap.size := by have := hx3.size; omega
                have HTK : Hid (SliceOf encN 1 na.val (.slice (some ⟨g, 0, none⟩) j cc) (L.take j)) := Lib.hid (SliceOf.take (Own.slice encN_len HW3.out) hj)
                clear hx3
                have HDR : Hid (SliceOf encN 1 na.val (.slice (some ⟨g, j, none⟩) (L.length - j) (cc - j)) (L.drop j)) := Lib.hid (by have := SliceOf.drop (j := j) (Own.slice encN_len HW3.out) hj; rw [Nat.zero_add, Nat.mul_one] at this; exact this)
                have hBn : na.val.heap.size ≤ na.val.heap.size := Nat.le_refl _
                go_wp2_with (first | (at_builtin; refine wl_appendS (dst := some 50) (enc := encN) (k := 1) (E := 3) (base := na.val.heap.size) (l := []) (m := L.take j) Tryd.underlying25 hiI hI0 hI1 hI2 rfl (by decide) encN_len encN_one rfl rfl (Own.empty (Nat.le_refl _)) (SliceOf.ext HTK.out ((Ext.refl _).alloc _)) (by simp <;> (unfold maxLen; omega)) (by simp <;> omega) (by simp) ?_; intro v1 n1 ho1; have HO1 : Hid (Own encN 1 3 na.val.heap.size n1.val v1 (L.take j)) := Lib.hid (by simpa using ho1); have HE1 : Hid (Ext na.val n1.val) := Lib.hid (Below.trans ((Ext.refl _).alloc _) n1.below); clear ho1) | (at_builtin; refine wl_append1g (dst := some 54) (enc := encN) (k := 1) (E := 3) (base := na.val.heap.size) (l := L.take j) (y := k) Tryd.underlying25 hiI hI0 hI1 hI2 rfl (by decide) encN_len encN_one rfl rfl (Own.alloc HO1.out _) inferInstance rfl (by simp <;> (unfold maxLen; omega)) (by simp <;> omega) (by have := HE1.out.size; simp <;> omega) ?_; intro v2 n2 ho2 hk2; have HO2 := Lib.hid ho2; have HE2 : Hid (Ext na.val n2.val) := Lib.hid (Below.trans (HE1.out.alloc _) n2.below); clear ho2 hk2) | (at_builtin; refine wl_appendS (dst := some 59) (enc := encN) (k := 1) (E := 3) (base := na.val.heap.size) (l := L.take j ++ [k]) (m := L.drop j) Tryd.underlying25 hiI hI0 hI1 hI2 rfl (by decide) encN_len encN_one rfl rfl HO2.out (SliceOf.ext HDR.out HE2.out) (by simp <;> (unfold maxLen; omega)) (by simp <;> omega) (by have := HE2.out.size; omega) ?_; intro v3 n3 ho3; have HO3 := Lib.hid ho3; have HE3 : Hid (Ext na.val n3.val) := Lib.hid (Below.trans HE2.out n3.below); clear ho3))
                go_roundw
                case rel => exact ⟨k + 1, L.take j ++ [k] ++ L.drop j, by omega, by first | rfl | go_num, Own.lower HO3.out hBW3, OpenTo.ins (l1 := L.take j) (l2 := L.drop j) (by rw [List.take_append_drop]; exact HO.out) HSH.out HLO.out GT.out, by simp, h2.ext HE3.out, HX3.out.trans HE3.out, by have := HE3.out.size; omega⟩
                case measure => simp [intOf]; omega
            · have q1 : decide (j < L.length) = false := by simpa using hjl
              have hjj : j = L.length := by omega
              have HJ := Lib.hid hjj
              clear hjj
              have GT : Hid (∀ x ∈ L.drop j, dueOf d k < dueOf d x) := Lib.hid (fun s hs => by rw [HJ.out, List.drop_length] at hs; cases hs)
              go_wp2_with fail
              refine wp_region_ext (by kernel_rfl) (by kernel_rfl) ?_
              repeat (first | go_big_quiet_skip | go_big_quiet_step (fail))
              refine wpQuiet_nil ?_
              intro _ hw'
              obtain ⟨na, hw''⟩ := hw'
              subst hw''
              have hx3 : Ext wr na.val := na.ext
              clear c10
              by_cases hcj : cc = j
              · have hcj' := hcj.symm
                subst hcj'
                have HX3 := Lib.hid (HX.out.trans hx3)
                have HW3 := Lib.hid (HW.out.ext hx3)
                replace h2 := h2.ext hx3
                have hBW3 : B ≤ na.val.heap.size := by have := hx3.size; omega
                have HTK : Hid (SliceOf encN 1 na.val (.slice (some ⟨g, 0, none⟩) j j) (L.take j)) := Lib.hid (SliceOf.take (Own.slice encN_len HW3.out) hj)
                clear hx3
                have HDR : Hid (SliceOf encN 1 na.val (.slice (some ⟨g, 0, none⟩) 0 0) (L.drop j)) := Lib.hid (by rw [HJ.out, List.drop_length]; exact SliceOf.none_of_nil)
                have hBn : na.val.heap.size ≤ na.val.heap.size := Nat.le_refl _
                go_wp2_with (first | (at_builtin; refine wl_appendS (dst := some 50) (enc := encN) (k := 1) (E := 3) (base := na.val.heap.size) (l := []) (m := L.take j) Tryd.underlying25 hiI hI0 hI1 hI2 rfl (by decide) encN_len encN_one rfl rfl (Own.empty (Nat.le_refl _)) (SliceOf.ext HTK.out ((Ext.refl _).alloc _)) (by simp <;> (unfold maxLen; omega)) (by simp <;> omega) (by simp) ?_; intro v1 n1 ho1; have HO1 : Hid (Own encN 1 3 na.val.heap.size n1.val v1 (L.take j)) := Lib.hid (by simpa using ho1); have HE1 : Hid (Ext na.val n1.val) := Lib.hid (Below.trans ((Ext.refl _).alloc _) n1.below); clear ho1) | (at_builtin; refine wl_append1g (dst := some 54) (enc := encN) (k := 1) (E := 3) (base := na.val.heap.size) (l := L.take j) (y := k) Tryd.underlying25 hiI hI0 hI1 hI2 rfl (by decide) encN_len encN_one rfl rfl (Own.alloc HO1.out _) inferInstance rfl (by simp <;> (unfold maxLen; omega)) (by simp <;> omega) (by have := HE1.out.size; simp <;> omega) ?_; intro v2 n2 ho2 hk2; have HO2 := Lib.hid ho2; have HE2 : Hid (Ext na.val n2.val) := Lib.hid (Below.trans (HE1.out.alloc _) n2.below); clear ho2 hk2) | (at_builtin; refine wl_appendS (dst := some 59) (enc := encN) (k := 1) (E := 3) (base := na.val.heap.size) (l := L.take j ++ [k]) (m := L.drop j) Tryd.underlying25 hiI hI0 hI1 hI2 rfl (by decide) encN_len encN_one rfl rfl HO2.out (SliceOf.ext HDR.out HE2.out) (by simp <;> (unfold maxLen; omega)) (by simp <;> omega) (by have := HE2.out.size; omega) ?_; intro v3 n3 ho3; have HO3 := Lib.hid ho3; have HE3 : Hid (Ext na.val n3.val) := Lib.hid (Below.trans HE2.out n3.below); clear ho3))
                go_roundw
                case rel => exact ⟨k + 1, L.take j ++ [k] ++ L.drop j, by omega, by first | rfl | go_num, Own.lower HO3.out hBW3, OpenTo.ins (l1 := L.take j) (l2 := L.drop j) (by rw [List.take_append_drop]; exact HO.out) HSH.out HLO.out GT.out, by simp, h2.ext HE3.out, HX3.out.trans HE3.out, by have := HE3.out.size; omega⟩
                case measure => simp [intOf]; omega
              · have HX3 := Lib.hid (HX.out.trans hx3)
                have HW3 := Lib.hid (HW.out.ext hx3)
                replace h2 := h2.ext hx3
                have hBW3 : B ≤ na.val.heap.size := by have := hx3.size; omega
                have HTK : Hid (SliceOf encN 1 na.val (.slice (some ⟨g, 0, none⟩) j cc) (L.take j)) := Lib.hid (SliceOf.take (Own.slice encN_len HW3.out) hj)
                clear hx3
                have HDR : Hid (SliceOf encN 1 na.val (.slice (some ⟨g, j, none⟩) (L.length - j) (cc - j)) (L.drop j)) := Lib.hid (by have := SliceOf.drop (j := j) (Own.slice encN_len HW3.out) hj; rw [Nat.zero_add, Nat.mul_one] at this; exact this)
                have hBn : na.val.heap.size ≤ na.val.heap.size := Nat.le_refl _
                go_wp2_with (first | (at_builtin; refine wl_appendS (dst := some 50) (enc := encN) (k := 1) (E := 3) (base := na.val.heap.size) (l := []) (m := L.take j) Tryd.underlying25 hiI hI0 hI1 hI2 rfl (by decide) encN_len encN_one rfl rfl (Own.empty (Nat.le_refl _)) (SliceOf.ext HTK.out ((Ext.refl _).alloc _)) (by simp <;> (unfold maxLen; omega)) (by simp <;> omega) (by simp) ?_; intro v1 n1 ho1; have HO1 : Hid (Own encN 1 3 na.val.heap.size n1.val v1 (L.take j)) := Lib.hid (by simpa using ho1); have HE1 : Hid (Ext na.val n1.val) := Lib.hid (Below.trans ((Ext.refl _).alloc _) n1.below); clear ho1) | (at_builtin; refine wl_append1g (dst := some 54) (enc := encN) (k := 1) (E := 3) (base := na.val.heap.size) (l := L.take j) (y := k) Tryd.underlying25 hiI hI0 hI1 hI2 rfl (by decide) encN_len encN_one rfl rfl (Own.alloc HO1.out _) inferInstance rfl (by simp <;> (unfold maxLen; omega)) (by simp <;> omega) (by have := HE1.out.size; simp <;> omega) ?_; intro v2 n2 ho2 hk2; have HO2 := Lib.hid ho2; have HE2 : Hid (Ext na.val n2.val) := Lib.hid (Below.trans (HE1.out.alloc _) n2.below); clear ho2 hk2) | (at_builtin; refine wl_appendS (dst := some 59) (enc := encN) (k := 1) (E := 3) (base := na.val.heap.size) (l := L.take j ++ [k]) (m := L.drop j) Tryd.underlying25 hiI hI0 hI1 hI2 rfl (by decide) encN_len encN_one rfl rfl HO2.out (SliceOf.ext HDR.out HE2.out) (by simp <;> (unfold maxLen; omega)) (by simp <;> omega) (by have := HE2.out.size; omega) ?_; intro v3 n3 ho3; have HO3 := Lib.hid ho3; have HE3 : Hid (Ext na.val n3.val) := Lib.hid (Below.trans HE2.out n3.below); clear ho3))
                go_roundw
                case rel => exact ⟨k + 1, L.take j ++ [k] ++ L.drop j, by omega, by first | rfl | go_num, Own.lower HO3.out hBW3, OpenTo.ins (l1 := L.take j) (l2 := L.drop j) (by rw [List.take_append_drop]; exact HO.out) HSH.out HLO.out GT.out, by simp, h2.ext HE3.out, HX3.out.trans HE3.out, by have := HE3.out.size; omega⟩
                case measure => simp [intOf]; omega
      · rw [hsh] at c11
        have HSH := Lib.hid hsh
        clear hsh
        go_wp2_with fail
        go_roundw
        case rel => exact ⟨k + 1, L, by omega, by first | rfl | go_num, HW.out, HO.out.skip HSH.out, HN.out, h2, HX.out, hBW⟩
        case measure => simp [intOf]; omega
    · have hkk : k = d.length := by omega
      have HOK : Hid (OpenOk d L) := Lib.hid (by have := HO.out; rw [hkk] at this; exact this.ok)
      clear hkk
      go_wp2_with fail
      go_ret
      exact ⟨_, _, rfl, HOK.out, Own.slice encN_len HW.out, ExtOf.of HX.out⟩
end Go.Proofs.YtaflcbdbacogeaaDoor
