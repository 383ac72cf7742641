/-
  Chapter 61: several texts in one (R14, R15).
-/
import Derived.Test.YtjfohapnjnopfaaGreatDoorK10
import Derived.Test.YtjfohapnjnopfaaGreatDoorMA
/-
  Chapter 61: the reference's pairs.
-/
section
set_option linter.unusedVariables false
set_option linter.unusedSimpArgs false
namespace Go.Proofs.YtjfohapnjnopfaaGreatDoor
open Go.RowKit Go.WideShapes RepM

attribute [local go_sem] ExtOf.cell ExtOf.frozen ExtS.cell ExtS.frozen Block.cell Block.frozen ExtB.cell ExtB.frozen alloc_cell alloc_frozen
theorem Block.below {B : Nat} {w w' : World} {b : Nat} {cs : Array Value} (h : Block w b cs) (hx : Below B w w') (hb : b < B) : Block w' b cs := ⟨by obtain ⟨t, e⟩ := h.get; exact ⟨t, by rw [hx.block b hb]; exact e⟩⟩
/-- a new block that holds cs: of a slice of n elements -/
def MadeK (n : Nat) (w : World) (cs : Array Value) (v : Value) (W : World) : Prop := ∃ g, v = .slice (some ⟨g, 0, none⟩) n n ∧ w.heap.size ≤ g ∧ Block W g cs
theorem MadeK.keep {n : Nat} {w : World} {cs : Array Value} : ∀ v W W', MadeK n w cs v W → Ext W W' → MadeK n w cs v W' := fun v W W' ⟨g, h1, h2, h3⟩ hx => ⟨g, h1, h2, h3.ext hx⟩
theorem MadeK.new {n : Nat} {w W : World} {cs : Array Value} {T : TypeId} (hx : Ext w W) : MadeK n w cs (.slice (some ⟨W.heap.size, 0, none⟩) n n) (W.alloc (.cells cs T)) := ⟨W.heap.size, rfl, hx.size, Block.new _ _ _⟩
theorem Block.ints {w : World} {g : Nat} {cs : Array Value} {l : List Int} (h : Block w g cs) (hc : cs.toList = l.map fun n => .int .i64 n) (hl : l.length ≤ maxLen) : IntS w (.slice (some ⟨g, 0, none⟩) l.length l.length) l := by
  refine ⟨_, _, rfl, Nat.le_refl _, hl, (fun h => by cases h), fun i x hi => ⟨g, 0, rfl, fun j u hj => ?_⟩⟩
  have hj0 : j = 0 := by have := (List.getElem?_eq_some_iff.1 hj).1; simpa [encI] using this
  subst hj0
  have hu : u = .int .i64 x := by simpa [encI] using hj.symm
  rw [Block.cell (h := h), hu, ← Array.getElem?_toList, hc]
  simp [hi]
set_option maxHeartbeats 3200000 in
set_option maxRecDepth 20000 in
theorem rpairs_any (x : Ev) (sl : SlT) (s : List Int) (vs : Value) (w : World) (hn : IntS w sl.v x.n) (hl : x.n.length ≤ 600) (hs : IntS w vs s) : Calls Tryz.prog 25 #[.agg #[.int .i64 x.kind, .int .i64 x.at_, .string x.item, .string x.of, sl.v, .string x.text], vs] w (IntsRet w (pairsB s x.n)) := by
  obtain ⟨iE, hiE, hE0, hE1, hE2⟩ := info_parts infoInt
  obtain ⟨p, cap, hv, hc1, hc2, hc3⟩ := IntS.form hn
  obtain ⟨ps, cs, rfl, hs1, hs2, hs3⟩ := IntS.form hs
  unfold maxLen at hc2 hs2
  rw [hv] at hn ⊢
  have HN := Lib.hid hn
  have HS := Lib.hid hs
  clear hn hs hv
  obtain ⟨kind, at_, item, of, ns, text⟩ := x
  simp only at *
  go_enter Tryz.func25, Tryz.ntmps25
  go_wp2_with fail
  refine nameW (R := fun W => Code.wp _ _ _ _ W) (fun W => Hid (Ext w W) ∧ Block W w.heap.size #[.int .i64 kind, .int .i64 at_, .string item, .string of, .slice p ns.length cap, .string text] ∧ w.heap.size + 1 ≤ W.heap.size) ⟨Lib.hid (by repeat' (first | (with_reducible exact Ext.refl _) | (with_reducible exact ExtOf.ext _) | (with_reducible refine Ext.trans ?_ (ExtOf.ext _)) | (with_reducible refine Ext.alloc ?_ _) | (with_reducible refine Ext.drew ?_) | (with_reducible refine Ext.setCell ?_ ?_ _) | (with_reducible refine Ext.setRow ?_ ?_ _) | (with_reducible exact HX.out) | (with_reducible refine Ext.trans ?_ HX.out) | (with_reducible refine Ext.below ?_ (Nat.le_refl _) _) | omega | (simp; done) | (simp; omega))), inferInstance, by simp⟩ ?_
  intro W0 ⟨HX0, hB0, hsz0⟩
  generalize hge : w.heap.size = ge at *
  go_loopw [5, 6] (fun vo vi wr => ∃ (k : Nat) (acc : List Int), k ≤ ns.length + 1 ∧ vi = .int .i64 k ∧ acc.length ≤ k ∧ Own encI 1 3 (ge + 1) wr vo acc ∧ acc ++ pairsB s (ns.drop k) = pairsB s ns ∧ Below (ge + 1) W0 wr) (fun _ i _ => ns.length + 1 - (intOf i).toNat)
  case atStart => exact ⟨0, [], by omega, rfl, by simp, Own.nil _, by rw [List.drop_zero]; rfl, Below.refl _ _⟩
  case round =>
    obtain ⟨k, acc, hk, rfl, hal, ho, hac, hbl⟩ := hrel
    have hB := hB0.below hbl (Nat.lt_succ_self _)
    have ob := hB.old
    have hsz := hbl.size
    have HX : Hid (Ext w wr) := Lib.hid (Below.trans HX0.out (Below.mono hbl (by omega)))
    have HO := Lib.hid ho
    have HAC := Lib.hid hac
    have HBL := Lib.hid hbl
    obtain ⟨qa, ca, rfl⟩ := Own.form2 ho
    clear ho hac hbl
    by_cases hlt : k + 1 < ns.length
    · have HPD := Lib.hid (pairsB_drop (s := s) hlt)
      have HI := Lib.hid (IntS.ext HN.out HX.out)
      obtain ⟨b, off, rfl, h0⟩ := IntS.elem HI.out (i := k) (by omega)
      obtain ⟨b', off', e, h1⟩ := IntS.elem HI.out (i := k + 1) (by omega)
      obtain ⟨rfl, rfl⟩ : b = b' ∧ off = off' := by simpa using e
      have ob2 := Old.of_cell h0
      generalize ns[k] = m0 at *
      generalize ns[k + 1] = m1 at *
      rcases hm : decide (m1 ∈ s) with _ | _
      · have HM := Lib.hid (of_decide_eq_false hm)
        have HMB := Lib.hid hm
        clear hm
        go_wp2_with (first | (go_at_call 54; refine (rhas_any s _ m1 _ (IntS.ext HS.out HX.out)).mono ?_; rintro en w' ⟨rfl, nh, rfl⟩; simp only [HMB.out]))
        go_roundw
        case rel => exact ⟨k + 2, acc, by omega, by first | rfl | go_num, by omega, Own.of_ext HO.out nh, by have := HPD.out; rw [if_neg HM.out, List.nil_append] at this; rw [← this]; exact HAC.out, Below.trans HBL.out (Below.mono nh.ext (by omega))⟩
        case measure => simp [intOf]; omega
      · have HM := Lib.hid (of_decide_eq_true hm)
        have HMB := Lib.hid hm
        clear hm
        go_wp2_with (first | (go_at_call 54; refine (rhas_any s _ m1 _ (IntS.ext HS.out HX.out)).mono ?_; rintro en w' ⟨rfl, nh, rfl⟩; simp only [HMB.out]))
        apply wp_region_maker [true, true, true, true, true, true, true, true, true, true, true, true] 12 [false, false, false, false, false, false, false, false, false, false, false, false, false, true, true] _ 35 (MadeK 2 nh.val #[.int .i64 m0, .int .i64 m1]) 13 [14] (by kernel_rfl) rfl rfl (by kernel_rfl) (by kernel_rfl) (by kernel_rfl) (by kernel_rfl) MadeK.keep
        · intro S hS hN R hR
          simp only [part]
          repeat (first | go_big_quiet_skip | go_big_quiet_step (fail))
          with_reducible refine wpQuiet_nil ?_
          exact hR
        · refine ⟨wanted_none rfl, fun W' hx' => ⟨.slice (some ⟨W'.heap.size, 0, none⟩) 2 2, W'.alloc (.cells #[.int .i64 m0, .int .i64 m1] 3), ?_, (Ext.refl _).alloc _, MadeK.new hx'⟩⟩
          simp [go_sem]
        intro v' W' hx' hmade
        obtain ⟨gn, rfl, hgn, hbn⟩ := hmade
        simp only [part, Act.put, List.setIfInBounds_toArray, List.set_cons_succ, List.set_cons_zero]
        have oW : Own encI 1 3 (ge + 1) W' (.slice qa acc.length ca) acc := Own.ext (Own.of_ext HO.out nh) hx'
        have hbW : Below (ge + 1) W0 W' := Below.trans HBL.out (Below.mono (nh.ext.trans hx') (by omega))
        have sW := Block.ints (l := [m0, m1]) hbn rfl (by simp [maxLen])
        have HOW := Lib.hid oW
        have HSW := Lib.hid sW
        have HBW := Lib.hid hbW
        have hszW := hbW.size
        clear oW sW hbW
        go_wp2_with (at_builtin; refine wl_appendS (enc := encI) (k := 1) (E := 3) (base := ge + 1) (l := acc) (m := [m0, m1]) Tryz.underlying32 hiE hE0 hE1 hE2 rfl (by decide) encI_len encI_one rfl rfl HOW.out HSW.out (by simp [maxLen]; omega) (by simp; omega) (by omega) ?_; intro v7 n7 ho7)
        go_roundw
        case rel => exact ⟨k + 2, acc ++ [m0, m1], by omega, by first | rfl | go_num, by simp; omega, ho7, by have := HPD.out; rw [if_pos HM.out] at this; rw [List.append_assoc, ← this]; exact HAC.out, Below.trans HBW.out n7.below⟩
        case measure => simp [intOf]; omega
    · have HE := Lib.hid (pairsB_end (s := s) (l := ns) (k := k) (by omega))
      go_wp2_with fail
      go_ret
      refine ⟨_, rfl, ?_, ExtOf.of HX.out⟩
      have := HAC.out
      rw [HE.out, List.append_nil] at this
      rw [← this]
      exact Own.lower HO.out (by omega)
end Go.Proofs.YtjfohapnjnopfaaGreatDoor
end
/-
  Chapter 61: the reference's boards that are shipped or dried together.
-/
section
set_option linter.unusedVariables false
set_option linter.unusedSimpArgs false
namespace Go.Proofs.YtjfohapnjnopfaaGreatDoor
open Go.RowKit Go.WideShapes RepM

attribute [local go_sem] ExtOf.cell ExtOf.frozen ExtS.cell ExtS.frozen Block.cell Block.frozen ExtB.cell ExtB.frozen alloc_cell alloc_frozen
theorem evs_len {l : List EvP} (h : ∀ x ∈ l, okEv x.1 = true) : ∀ e ∈ evs l, e.n.length ≤ 600 := by
  intro e he
  obtain ⟨x, hx, rfl⟩ := List.mem_map.1 he
  exact ok_len (h x hx)
set_option maxHeartbeats 3200000 in
set_option maxRecDepth 20000 in
theorem rshipped_any (l : List EvP) (v : Value) (at_ : Nat) (w : World) (h : PastS w v l) (ha : at_ < l.length) : Calls Tryz.prog 84 #[v, .int .i64 (at_ : Int)] w (IntsRet w (shipped (evs l) at_ (num (l[at_]).1.item))) := by
  obtain ⟨iE, hiE, hE0, hE1, hE2⟩ := info_parts infoInt
  obtain ⟨p, cap, rfl, hc1, hc2, hc3⟩ := EvsS.form h.ev
  unfold maxLen at hc2
  have hlen := h.len
  have H := Lib.hid h
  clear h
  obtain ⟨bz, oz, hpz, hrz, _⟩ := EvsS.elem H.out.ev ha
  obtain ⟨z, hz⟩ : ∃ z, z = (l[at_]).1.item := ⟨_, rfl⟩
  have hcz : w.cell? ⟨bz, oz + at_ * 6 + 2, none⟩ = some (.string z) := by rw [hz]; exact hrz 2 _ rfl
  rw [← hz]
  clear hrz hz
  go_enter Tryz.func84, Tryz.ntmps84
  go_wp2_with fail
  go_loopw [5, 6] (fun vo vi wr => ∃ (i : Int), -1 ≤ i ∧ i < at_ ∧ vi = .int .i64 i ∧ vo = .slice none 0 0 ∧ shipped (evs l) at_ (num z) = lastO ((evs l).take (i + 1).toNat) (num z) ∧ Ext w wr) (fun _ i _ => (intOf i + 1).toNat)
  case atStart => exact ⟨(at_ : Int) - 1, by omega, by omega, by first | rfl | go_num, rfl, by rw [show ((at_ : Int) - 1 + 1).toNat = at_ by omega]; rfl, Ext.refl _⟩
  case round =>
    obtain ⟨i, hi1, hi2, rfl, rfl, hsh, hx⟩ := hrel
    have HSH := Lib.hid hsh
    have HX := Lib.hid hx
    clear hsh hx
    by_cases hi0 : 0 ≤ i
    · obtain ⟨j, rfl⟩ : ∃ j : Nat, i = (j : Int) := ⟨i.toNat, by omega⟩
      have q0 : decide (0 ≤ (j : Int)) = true := decide_eq_true hi0
      have hlt : j < l.length := by omega
      have HLT := Lib.hid (lastO_take (l := evs l) (o := num z) (k := j) (by simpa using hlt))
      obtain ⟨b, off, rfl, hr, hin⟩ := EvsS.elem (EvsS.ext H.out.ev HX.out) hlt
      have hok := H.out.ok _ (List.getElem_mem hlt)
      have hgi : (evs l)[j]'(by simpa using hlt) = (l[j]).1 := evs_get (by simpa using hlt)
      obtain ⟨⟨x, sl⟩, he⟩ : ∃ z, z = l[j] := ⟨_, rfl⟩
      have he' := he.symm
      rw [← he] at hr hin hok hgi
      simp only at hok hin hgi
      clear he
      have HIN := Lib.hid hin
      have HOK := Lib.hid hok
      clear hin hok
      clear he'
      obtain ⟨rfl, rfl⟩ : b = bz ∧ off = oz := by simpa using hpz
      rw [hgi] at HLT
      have hc0 : wr.cell? ⟨b, off + j * 6, none⟩ = some (.int .i64 x.kind) := by have := hr 0 _ rfl; simpa using this
      have hc4 : wr.cell? ⟨b, off + j * 6 + 4, none⟩ = some sl.v := hr 4 _ rfl
      have hcz' : wr.cell? ⟨b, off + at_ * 6 + 2, none⟩ = some (.string z) := HX.out.cell hcz
      have ob := Old.of_cell hc0
      clear hr hgi
      by_cases h9 : x.kind = 9
      · have q9 : (x.kind != 9) = false := bne_eq_false_iff_eq.2 h9
        have HF : Hid (shipped (evs l) at_ (num z) = ofO (num z) x.n) := Lib.hid (by rw [HSH.out, show ((j : Int) + 1).toNat = j + 1 by omega, HLT.out, if_pos h9])
        obtain ⟨pn, cn, hvn, hcn1, hcn2, hcn3⟩ := IntS.form HIN.out
        unfold maxLen at hcn2
        have hn6 := ok_len HOK.out
        have HNS : Hid (IntS wr (.slice pn x.n.length cn) x.n) := Lib.hid (by rw [← hvn]; exact HIN.out)
        rw [hvn] at hc4
        clear HIN hvn
        generalize x.n = ns at *
        go_wp2_with fail
        rename World => W1
        go_loopw [5, 7] (fun vo vk w2 => ∃ (k : Nat) (acc : List Int), k ≤ ns.length + 1 ∧ vk = .int .i64 k ∧ acc.length ≤ k ∧ Own encI 1 3 W1.heap.size w2 vo acc ∧ acc ++ ofO (num z) (ns.drop k) = ofO (num z) ns ∧ Ext W1 w2) (fun _ k _ => ns.length + 1 - (intOf k).toNat)
        case atStart => exact ⟨0, [], by omega, rfl, by simp, Own.nil _, by rw [List.drop_zero]; rfl, Ext.refl _⟩
        case round =>
          obtain ⟨k, acc, hk, rfl, hal, ho, hac, hx2⟩ := hrel
          have HX2 := Lib.hid hx2
          have HO := Lib.hid ho
          have HAC := Lib.hid hac
          obtain ⟨qa, ca, rfl⟩ := Own.form2 ho
          clear ho hac hx2
          have ob1 : Old b wr := ⟨Nat.lt_of_lt_of_le ob.lt HX2.out.size⟩
          replace hc0 := HX2.out.cell hc0
          replace hc4 := HX2.out.cell hc4
          replace hcz' := HX2.out.cell hcz'
          by_cases hlk : k + 1 < ns.length
          · have HPD := Lib.hid (ofO_drop (o := num z) hlk)
            have HI := Lib.hid (IntS.ext HNS.out HX2.out)
            obtain ⟨b2, o2, rfl, h0⟩ := IntS.elem HI.out (i := k) (by omega)
            obtain ⟨b', off', e, h1⟩ := IntS.elem HI.out (i := k + 1) (by omega)
            obtain ⟨rfl, rfl⟩ : b2 = b' ∧ o2 = off' := by simpa using e
            have ob2 := Old.of_cell h0
            generalize ns[k] = m0 at *
            generalize ns[k + 1] = m1 at *
            go_wp2_with fail
            refine wp_region_ext (by kernel_rfl) (by kernel_rfl) ?_
            repeat (first | go_big_quiet_skip | go_big_quiet_step ((go_at_call 48; exact ext_call (rnum_any z _))))
            refine wpQuiet_nil ?_
            intro _ hw'
            obtain ⟨nq, hw''⟩ := hw'
            subst hw''
            by_cases hm : m0 = num z
            · have qm : (m0 == num z) = true := beq_iff_eq.2 hm
              have HM := Lib.hid hm
              clear hm
              go_wp2_with (at_builtin; refine wl_append1g (enc := encI) (k := 1) (E := 3) (base := W1.heap.size) (l := acc) (y := m1) Tryz.underlying32 hiE hE0 hE1 hE2 rfl (by decide) encI_len encI_one rfl rfl (Own.alloc (Own.ext HO.out (by repeat' (first | (with_reducible exact Ext.refl _) | (with_reducible exact ExtOf.ext _) | (with_reducible refine Ext.trans ?_ (ExtOf.ext _)) | (with_reducible refine Ext.alloc ?_ _) | (with_reducible refine Ext.drew ?_) | (with_reducible refine Ext.setCell ?_ ?_ _) | (with_reducible refine Ext.setRow ?_ ?_ _) | (with_reducible exact HX.out) | (with_reducible refine Ext.trans ?_ HX.out) | (with_reducible refine Ext.below ?_ (Nat.le_refl _) _) | omega | (simp; done) | (simp; omega)))) _) inferInstance rfl (by unfold maxLen; omega) (by omega) (by have := HX2.out.size; have := nq.size; simp; omega) ?_; intro v7 n7 ho7 hk7)
              have hb7 : Ext W1 n7.val := Below.trans (HX2.out.trans (nq.ext.trans ((Ext.refl _).alloc _))) n7.below
              go_roundw
              case rel => exact ⟨k + 2, acc ++ [m1], by omega, by first | rfl | go_num, by simp; omega, ho7, by have := HPD.out; rw [if_pos HM.out] at this; rw [List.append_assoc, ← this]; exact HAC.out, hb7⟩
              case measure => simp [intOf]; omega
            · have qm : (m0 == num z) = false := beq_eq_false_iff_ne.2 hm
              have HM := Lib.hid hm
              clear hm
              go_wp2_with fail
              go_roundw
              case rel => exact ⟨k + 2, acc, by omega, by first | rfl | go_num, by omega, Own.ext HO.out (by repeat' (first | (with_reducible exact Ext.refl _) | (with_reducible exact ExtOf.ext _) | (with_reducible refine Ext.trans ?_ (ExtOf.ext _)) | (with_reducible refine Ext.alloc ?_ _) | (with_reducible refine Ext.drew ?_) | (with_reducible refine Ext.setCell ?_ ?_ _) | (with_reducible refine Ext.setRow ?_ ?_ _) | (with_reducible exact HX.out) | (with_reducible refine Ext.trans ?_ HX.out) | (with_reducible refine Ext.below ?_ (Nat.le_refl _) _) | omega | (simp; done) | (simp; omega))), by have := HPD.out; rw [if_neg HM.out, List.nil_append] at this; rw [← this]; exact HAC.out, HX2.out.trans (by repeat' (first | (with_reducible exact Ext.refl _) | (with_reducible exact ExtOf.ext _) | (with_reducible refine Ext.trans ?_ (ExtOf.ext _)) | (with_reducible refine Ext.alloc ?_ _) | (with_reducible refine Ext.drew ?_) | (with_reducible refine Ext.setCell ?_ ?_ _) | (with_reducible refine Ext.setRow ?_ ?_ _) | (with_reducible exact HX.out) | (with_reducible refine Ext.trans ?_ HX.out) | (with_reducible refine Ext.below ?_ (Nat.le_refl _) _) | omega | (simp; done) | (simp; omega)))⟩
              case measure => simp [intOf]; omega
          · have HE := Lib.hid (ofO_end (o := num z) (l := ns) (k := k) (by omega))
            go_wp2_with fail
            go_ret
            refine ⟨_, rfl, ?_, ExtOf.of (HX.out.trans HX2.out)⟩
            have := HAC.out
            rw [HE.out, List.append_nil] at this
            rw [HF.out, ← this]
            exact Own.lower HO.out HX.out.size
      · have q9 : (x.kind != 9) = true := bne_iff_ne.2 h9
        go_wp2_with fail
        go_roundw
        case rel => exact ⟨(j : Int) - 1, by omega, by omega, by first | rfl | go_num, rfl, by rw [HSH.out, show ((j : Int) + 1).toNat = j + 1 by omega, HLT.out, if_neg h9, show ((j : Int) - 1 + 1).toNat = j by omega], HX.out⟩
        case measure => first | (simp [intOf]; done) | (simp [intOf]; omega)
    · obtain rfl : i = -1 := by omega
      go_wp2_with fail
      go_ret
      exact ⟨_, rfl, by rw [HSH.out]; exact Own.nil _, ExtOf.of HX.out⟩
set_option maxHeartbeats 3200000 in
set_option maxRecDepth 20000 in
theorem rdried_any (l : List EvP) (v : Value) (x : Ev) (sl : SlT) (w : World) (h : PastS w v l) (hok : okEv x = true) (h6 : x.kind = 6) (hn : IntS w sl.v x.n) :
    Calls Tryz.prog 83 #[v, .agg #[.int .i64 x.kind, .int .i64 x.at_, .string x.item, .string x.of, sl.v, .string x.text]] w (IntsRet w ((dryL x.n).flatMap (packed num (evs l)))) := by
  obtain ⟨iE, hiE, hE0, hE1, hE2⟩ := info_parts infoInt
  obtain ⟨p, cap, rfl, hc1, hc2, hc3⟩ := EvsS.form h.ev
  unfold maxLen at hc2
  have hlen := h.len
  have H := Lib.hid h
  clear h
  obtain ⟨hd2, hd0, hd1⟩ := ok_dry hok h6
  obtain ⟨hdl, hdg⟩ := dryL_get hd2 hd0 hd1
  obtain ⟨pn, cn, hv, hn1, hn2, hn3⟩ := IntS.form hn
  unfold maxLen at hn2
  have hl6 := ok_len hok
  have HRNG := Lib.hid (fun i (hi : i < x.n.length) => ok_num hok hi)
  rw [hv] at hn ⊢
  have HN := Lib.hid hn
  obtain ⟨b1, o1, rfl, h1⟩ := IntS.elem hn (i := 1) (by omega)
  obtain ⟨c, hc⟩ : ∃ c : Nat, x.n.getD 1 0 = (c : Int) := ⟨(x.n.getD 1 0).toNat, by omega⟩
  rw [hc] at hd0 hd1 hdl
  have hx1 : x.n[1] = (c : Int) := by rw [← hc, List.getD_eq_getElem?_getD, List.getElem?_eq_getElem (by omega)]; rfl
  rw [hx1] at h1
  have hD : (dryL x.n).length = c := by rw [hdl]; simp
  have HDG := Lib.hid hdg
  have HPL := Lib.hid (packed_len (evs_len H.out.ok))
  clear hn hv hdg hx1 hdl hc hok h6
  obtain ⟨kind, at_, item, of, ns, text⟩ := x
  simp only at *
  generalize dryL ns = D at *
  go_enter Tryz.func83, Tryz.ntmps83
  go_wp2_with fail
  refine nameW (R := fun W => Code.wp _ _ _ _ W) (fun W => Hid (Ext w W) ∧ Block W w.heap.size #[.int .i64 kind, .int .i64 at_, .string item, .string of, .slice (some ⟨b1, o1, none⟩) ns.length cn, .string text] ∧ w.heap.size + 1 ≤ W.heap.size) ⟨Lib.hid (by repeat' (first | (with_reducible exact Ext.refl _) | (with_reducible exact ExtOf.ext _) | (with_reducible refine Ext.trans ?_ (ExtOf.ext _)) | (with_reducible refine Ext.alloc ?_ _) | (with_reducible refine Ext.drew ?_) | (with_reducible refine Ext.setCell ?_ ?_ _) | (with_reducible refine Ext.setRow ?_ ?_ _) | (with_reducible exact HX.out) | (with_reducible refine Ext.trans ?_ HX.out) | (with_reducible refine Ext.below ?_ (Nat.le_refl _) _) | omega | (simp; done) | (simp; omega))), inferInstance, by simp⟩ ?_
  intro W0 ⟨HX0, hB0, hsz0⟩
  generalize hge : w.heap.size = ge at *
  go_loopw [5, 6] (fun vo vi wr => ∃ (i : Nat), i ≤ c ∧ vi = .int .i64 i ∧ Own encI 1 3 (ge + 1) wr vo ((D.take i).flatMap (packed num (evs l))) ∧ ((D.take i).flatMap (packed num (evs l))).length ≤ 600 * i ∧ Below (ge + 1) W0 wr) (fun _ i _ => c - (intOf i).toNat)
  case atStart => exact ⟨0, by omega, rfl, by rw [List.take_zero]; exact Own.nil _, by rw [List.take_zero]; simp, Below.refl _ _⟩
  case round =>
    obtain ⟨i, hi, rfl, ho, hal, hbl⟩ := hrel
    have hB := hB0.below hbl (Nat.lt_succ_self _)
    have ob := hB.old
    have hsz := hbl.size
    have HX : Hid (Ext w wr) := Lib.hid (Below.trans HX0.out (Below.mono hbl (by omega)))
    have h1' := HX.out.cell h1
    have ob1 := Old.of_cell h1'
    have HBL := Lib.hid hbl
    obtain ⟨acc, hacc⟩ : ∃ acc, acc = (D.take i).flatMap (packed num (evs l)) := ⟨_, rfl⟩
    rw [← hacc] at ho hal
    have HACC := Lib.hid hacc
    have HO := Lib.hid ho
    obtain ⟨qa, ca, rfl⟩ := Own.form2 ho
    clear ho hbl hacc
    by_cases hlt : i < c
    · have hiD : i < D.length := by omega
      have HDS := Lib.hid (dried_step (l := evs l) hiD)
      obtain ⟨b', o', e, h2⟩ := IntS.elem (IntS.ext HN.out HX.out) (i := 2 + i) (by omega)
      obtain ⟨rfl, rfl⟩ : b1 = b' ∧ o1 = o' := by simpa using e
      have hg := HDG.out i hiD (by omega)
      rw [← hg] at h2
      generalize D[i] = m at *
      clear hg e
      have HL := Lib.hid (HPL.out m)
      go_wp2_with (first | (go_at_call 105; refine (rpack_any l _ m _ (H.out.ext HX.out)).mono ?_; rintro en w' ⟨pv, rfl, hpv, np, rfl⟩; (obtain ⟨pq, pc, rfl, hp1, hp2, hp3⟩ := IntS.form hpv); (have HPV := Lib.hid hpv); clear hpv; (have hpl := HL.out)) | (at_builtin; refine wl_appendS (enc := encI) (k := 1) (E := 3) (base := ge + 1) (l := acc) (m := packed num (evs l) m) Tryz.underlying32 hiE hE0 hE1 hE2 rfl (by decide) encI_len encI_one rfl rfl (Own.of_ext HO.out np) (SliceOf.ext HPV.out np.ext) (by unfold maxLen; omega) (by omega) (by have := np.size; omega) ?_; intro v7 n7 ho7))
      go_roundw
      case rel => exact ⟨i + 1, by omega, by first | rfl | go_num, by rw [HDS.out, ← HACC.out]; exact ho7, by rw [HDS.out, ← HACC.out, List.length_append]; have := HL.out; omega, Below.trans HBL.out (Below.trans (Below.mono np.ext (by omega)) n7.below)⟩
      case measure => simp [intOf]; omega
    · obtain rfl : i = c := by omega
      go_wp2_with fail
      go_ret
      refine ⟨_, rfl, ?_, ExtOf.of HX.out⟩
      have := HACC.out
      rw [List.take_of_length_le (by omega)] at this
      rw [← this]
      exact Own.lower HO.out (by omega)
/-- numbers that lie in old memory, or in new -/
def GrpS (w0 w w' : World) (v : Value) (l : List Int) : Prop := IntS w0 v l ∨ Own encI 1 3 w.heap.size w' v l
set_option maxHeartbeats 1600000 in
set_option maxRecDepth 20000 in
theorem rgroup_any (l : List EvP) (v : Value) (i : Nat) (w0 w : World) (h : PastS w0 v l) (hx : Ext w0 w) (hlt : i < l.length) : Calls Tryz.prog 51 #[v, .int .i64 (i : Int)] w fun en w' => ∃ v', en = .returned v' ∧ GrpS w0 w w' v' (group num (evs l) i) ∧ ∃ n : ExtOf w, w' = n.val := by
  obtain ⟨p, cap, rfl, hc1, hc2, hc3⟩ := EvsS.form h.ev
  unfold maxLen at hc2
  have hlen := h.len
  have H := Lib.hid h
  clear h
  have HX := Lib.hid hx
  clear hx
  have hiw := H.out.ev.2 _ (List.getElem_mem hlt)
  have HSHP := Lib.hid (rshipped_any l (.slice p l.length cap) i w (H.out.ext HX.out) hlt)
  have HGE : Hid (group num (evs l) i = (if (l[i]).1.kind = 5 then (l[i]).1.n else if (l[i]).1.kind = 6 then (dryL (l[i]).1.n).flatMap (packed num (evs l)) else if (l[i]).1.kind = 10 then shipped (evs l) i (num (l[i]).1.item) else [])) := Lib.hid (by
    unfold group
    rw [List.getElem?_map, List.getElem?_eq_getElem hlt]; rfl)
  obtain ⟨b, off, rfl, hr, hin⟩ := EvsS.elem (EvsS.ext H.out.ev HX.out) hlt
  have hok := H.out.ok _ (List.getElem_mem hlt)
  have hgi : (evs l)[i]'(by simpa using hlt) = (l[i]).1 := evs_get (by simpa using hlt)
  obtain ⟨⟨x, sl⟩, he⟩ : ∃ z, z = l[i] := ⟨_, rfl⟩
  have he' := he.symm
  rw [← he] at hr hin hok hgi
  simp only at hok hin hgi
  clear he
  have HIN := Lib.hid hin
  have HOK := Lib.hid hok
  clear hin hok
  rw [show l[i] = (x, sl) from he'] at HGE HSHP hiw
  have HIW := Lib.hid hiw
  have hc0 : w.cell? ⟨b, off + i * 6, none⟩ = some (.int .i64 x.kind) := by have := hr 0 _ rfl; simpa using this
  have hc4 : w.cell? ⟨b, off + i * 6 + 4, none⟩ = some sl.v := hr 4 _ rfl
  have HR : Hid (w.rangeAt b (off + i * 6) [.int .i64 x.kind, .int .i64 x.at_, .string x.item, .string x.of, sl.v, .string x.text]) := Lib.hid hr
  clear hr hgi he' hiw
  simp only at HGE HSHP
  by_cases h5 : x.kind = 5
  · have q5 : (x.kind == 5) = true := beq_iff_eq.2 h5
    rw [if_pos h5] at HGE
    go_enter Tryz.func51, Tryz.ntmps51
    go_wp2_with fail
    go_ret
    exact ⟨sl.v, rfl, by rw [HGE.out]; exact .inl HIW.out, by exact ExtOf.of (by repeat' (first | (with_reducible exact Ext.refl _) | (with_reducible exact ExtOf.ext _) | (with_reducible refine Ext.trans ?_ (ExtOf.ext _)) | (with_reducible refine Ext.alloc ?_ _) | (with_reducible refine Ext.drew ?_) | (with_reducible refine Ext.setCell ?_ ?_ _) | (with_reducible refine Ext.setRow ?_ ?_ _) | (with_reducible exact HX.out) | (with_reducible refine Ext.trans ?_ HX.out) | (with_reducible refine Ext.below ?_ (Nat.le_refl _) _) | omega | (simp; done) | (simp; omega)))⟩
  · have q5 : (x.kind == 5) = false := beq_eq_false_iff_ne.2 h5
    rw [if_neg h5] at HGE
    by_cases h6 : x.kind = 6
    · have q6 : (x.kind == 6) = true := beq_iff_eq.2 h6
      rw [if_pos h6] at HGE
      have H6 := Lib.hid h6
      clear h6 h5
      go_enter Tryz.func51, Tryz.ntmps51
      go_wp2_with (first | ((with_reducible refine wl_loadM midEv (Ext.range ?_ (Hid.out HR)) ?_ ?_ ?_ ?_); (· repeat' (first | (with_reducible exact Ext.refl _) | (with_reducible exact ExtOf.ext _) | (with_reducible refine Ext.trans ?_ (ExtOf.ext _)) | (with_reducible refine Ext.alloc ?_ _) | (with_reducible refine Ext.drew ?_) | (with_reducible refine Ext.setCell ?_ ?_ _) | (with_reducible refine Ext.setRow ?_ ?_ _) | (with_reducible exact HX.out) | (with_reducible refine Ext.trans ?_ HX.out) | (with_reducible refine Ext.below ?_ (Nat.le_refl _) _) | omega | (simp; done) | (simp; omega))); (· rfl); (· (first | exact wanted_none rfl | exact wanted_some rfl rfl rfl)); (· rfl)) | (go_at_call 83; refine (rdried_any l _ x sl _ (H.out.ext HX.out) HOK.out H6.out HIN.out).mono ?_; rintro en w' ⟨v', rfl, hv', nd, rfl⟩))
      go_ret
      exact ⟨_, rfl, by rw [HGE.out]; exact .inr hv', ExtOf.of nd.ext⟩
    · have q6 : (x.kind == 6) = false := beq_eq_false_iff_ne.2 h6
      rw [if_neg h6] at HGE
      by_cases h10 : x.kind = 10
      · have q10 : (x.kind == 10) = true := beq_iff_eq.2 h10
        rw [if_pos h10] at HGE
        go_enter Tryz.func51, Tryz.ntmps51
        go_wp2_with (first | (go_at_call 84; refine HSHP.out.mono ?_; rintro en w' ⟨v', rfl, hv', nd, rfl⟩))
        go_ret
        exact ⟨_, rfl, by rw [HGE.out]; exact .inr hv', ExtOf.of nd.ext⟩
      · have q10 : (x.kind == 10) = false := beq_eq_false_iff_ne.2 h10
        rw [if_neg h10] at HGE
        go_enter Tryz.func51, Tryz.ntmps51
        go_wp2_with fail
        go_ret
        exact ⟨_, rfl, by rw [HGE.out]; exact .inl (SliceOf.nil _), by exact ExtOf.of (by repeat' (first | (with_reducible exact Ext.refl _) | (with_reducible exact ExtOf.ext _) | (with_reducible refine Ext.trans ?_ (ExtOf.ext _)) | (with_reducible refine Ext.alloc ?_ _) | (with_reducible refine Ext.drew ?_) | (with_reducible refine Ext.setCell ?_ ?_ _) | (with_reducible refine Ext.setRow ?_ ?_ _) | (with_reducible exact HX.out) | (with_reducible refine Ext.trans ?_ HX.out) | (with_reducible refine Ext.below ?_ (Nat.le_refl _) _) | omega | (simp; done) | (simp; omega)))⟩
end Go.Proofs.YtjfohapnjnopfaaGreatDoor
end
