/-
  Chapter 61: the reference's history.
-/
import Derived.Test.YtjfohapnjnopfaaGreatDoorK17
set_option linter.unusedVariables false
set_option linter.unusedSimpArgs false
namespace Go.Proofs.YtjfohapnjnopfaaGreatDoor
open Go.RowKit Go.WideShapes RepM

attribute [local go_sem] ExtOf.cell ExtOf.frozen ExtS.cell ExtS.frozen Block.cell Block.frozen ExtB.cell ExtB.frozen alloc_cell alloc_frozen
theorem IntS.keep {w w' : World} {v v' : Value} {p : Option Addr} {n cap : Nat} {l : List Int} (k : Grow w v w' v') (h : IntS w (.slice p n cap) l) (hne : l ≠ [] → ∀ q, p = some q → v.ownBlock ≠ some q.block) : IntS w' (.slice p n cap) l := by
  by_cases hl : l = []
  · subst hl
    obtain ⟨p', cap', e, h1, h2, h3, h4⟩ := h
    exact ⟨p', cap', e, h1, h2, h3, fun i x hi => by simp at hi⟩
  · exact k.slice h (hne hl)
/-- events in a slice of the call's own, whose numbers lie elsewhere -/
structure OutS (base : Nat) (w : World) (v : Value) (l : List EvP) : Prop where
  own : Own encEv 6 34 base w v l
  ints : ∀ x ∈ l, IntS w x.2.v x.1.n
  apart : ∀ x ∈ l, x.1.n ≠ [] → ∀ q, x.2.p = some q → v.ownBlock ≠ some q.block
theorem OutS.nil {base : Nat} {w : World} : OutS base w (.slice none 0 0) [] := ⟨Own.nil _, fun x h => by simp at h, fun x h => by simp at h⟩
theorem OutS.ext {base : Nat} {w w' : World} {v : Value} {l : List EvP} (h : OutS base w v l) (hx : Ext w w') : OutS base w' v l := ⟨h.own.ext hx, fun x hm => (h.ints x hm).ext hx, h.apart⟩
theorem OutS.evs {base : Nat} {w : World} {v : Value} {l : List EvP} (h : OutS base w v l) : EvsS w v l := ⟨Own.slice encEv_len h.own, h.ints⟩
theorem IntS.lt {w : World} {q : Addr} {n cap : Nat} {l : List Int} (h : IntS w (.slice (some q) n cap) l) (hl : l ≠ []) : q.block < w.heap.size := by
  obtain ⟨b, off, e, hc⟩ := IntS.elem h (List.length_pos_iff.2 hl)
  have := World.block_lt_of_cell? w ⟨b, off + 0, none⟩ hc
  cases e
  exact this
theorem OutS.push {base : Nat} {w w' : World} {v v' : Value} {l : List EvP} {x : EvP} (h : OutS base w v l) (k : Kept w v w' v') (ho : Own encEv 6 34 base w' v' (l ++ [x])) (hi : IntS w x.2.v x.1.n) (ha : x.1.n ≠ [] → ∀ q, x.2.p = some q → v.ownBlock ≠ some q.block) : OutS base w' v' (l ++ [x]) := by
  have hall : ∀ y ∈ l ++ [x], IntS w y.2.v y.1.n ∧ (y.1.n ≠ [] → ∀ q, y.2.p = some q → v.ownBlock ≠ some q.block) := by
    intro y hy
    rcases List.mem_append.1 hy with hy | hy
    · exact ⟨h.ints y hy, h.apart y hy⟩
    · rw [List.mem_singleton] at hy
      subst hy
      exact ⟨hi, ha⟩
  refine ⟨ho, fun y hy => IntS.keep k.grow (hall y hy).1 (hall y hy).2, fun y hy hne q hq => ?_⟩
  have h1 := (hall y hy).1
  have h2 := (hall y hy).2 hne q hq
  have h3 : q.block < w.heap.size := by
    unfold SlT.v at h1
    rw [hq] at h1
    exact h1.lt hne
  exact k.ne h3 h2
theorem Block.new_at {w : World} {b : Nat} {cs : Array Value} {t : TypeId} (h : b = w.heap.size) : Block (w.alloc (.cells cs t)) b cs := by rw [h]; exact Block.new _ _ _
theorem Own.base_le {base : Nat} {w : World} {q : Option Addr} {n c : Nat} {l : List Int} (h : Own encI 1 3 base w (.slice q n c) l) : ∀ a, q = some a → base ≤ a.block := by
  intro a ha
  subst ha
  rcases h.2 with ⟨e, _⟩ | ⟨g, cap, cur, e, hb, _⟩
  · cases e
  · simp only [Value.slice.injEq, Option.some.injEq] at e
    obtain ⟨rfl, _, _⟩ := e
    exact hb
theorem Own.ints_set {base g i : Nat} {u : Value} {w : World} {q : Option Addr} {n c : Nat} {l : List Int} (h : Own encI 1 3 base w (.slice q n c) l) (hg : g < base) : IntS (w.setCell ⟨g, i, none⟩ u) (.slice q n c) l :=
  SliceOf.setCell (Own.slice encI_len h) (fun a ha => by have := Own.base_le h a ha; omega) u
/-- what is handed back of a history -/
def HisR (w : World) (l : List EvP) (s : ByteArray) (en : Ending) (w' : World) : Prop :=
  ∃ v hs, en = .returned (.tuple #[v, .int .i64 (errOf (evs l) s)]) ∧ EvsS w' v hs ∧ evs hs = histOf (evs l) s ∧ ∃ m : ExtOf w, w' = m.val
theorem hist_next {acc : List EvP} {A B R : List Ev} {e : Ev} {sl : SlT} (h : evs acc ++ A = R) (hs : A = [e] ++ B) : evs (acc ++ [(e, sl)]) ++ B = R := by
  rw [← h, hs]; simp
set_option maxHeartbeats 3200000 in
set_option maxRecDepth 20000 in
theorem rhistory_any (l : List EvP) (v : Value) (s : ByteArray) (w : World) (h : EvsS w v l) (hl : l.length ≤ 1000) : Calls Tryz.prog 9 #[v, .string s] w (HisR w l s) := by
  obtain ⟨iS, hiS, hS0, hS1, hS2⟩ := info_parts infoStr
  obtain ⟨iE, hiE, hE0, hE1, hE2⟩ := info_parts infoEv
  have H := Lib.hid h
  clear h
  by_cases he : errOf (evs l) s = 0
  case neg =>
    have q0 : (errOf (evs l) s != 0) = true := bne_iff_ne.2 he
    have HE := Lib.hid he
    go_enter Tryz.func9, Tryz.ntmps9
    go_wp2_with (go_at_call 21; refine (rchk_any l v s _ H.out hl).mono ?_; rintro en w' ⟨cv, n, rfl, _, m, rfl⟩)
    go_ret2
    exact ⟨_, [], rfl, ⟨SliceOf.nil _, fun x h => (by simp at h)⟩, by unfold histOf; rw [if_neg HE.out]; rfl, ExtOf.of m.ext⟩
  have q0 : (errOf (evs l) s != 0) = false := bne_eq_false_iff_eq.2 he
  have HE := Lib.hid he
  clear he
  go_enter Tryz.func9, Tryz.ntmps9
  go_wp2_with (go_at_call 21; refine (rchk_any l v s _ H.out hl).mono ?_; rintro en w' ⟨cv, n, rfl, hpc, m, rfl⟩; (obtain ⟨hn, hpc2⟩ := hpc HE.out); subst hn; (have HPC := Lib.hid hpc2); clear hpc hpc2)
  have hpc := HPC.out
  clear HPC
  have hcl : evs (l.filter okP) = counted (evs l) := evs_counted l
  have hfl : (l.filter okP).length ≤ 1000 := hpc.len
  generalize l.filter okP = cl at *
  have HC := Lib.hid hcl
  have HHO : Hid (histOf (evs l) s = hist num (evs cl) (num s)) := Lib.hid (by unfold histOf; rw [if_pos HE.out, HC.out])
  clear hcl q0
  obtain ⟨cq, cc, rfl, hq1, hq2, hq3⟩ := EvsS.form hpc.ev
  unfold maxLen at hq2
  have HP := Lib.hid hpc
  clear hpc
  refine (rfamily_any cl _ (num s) _ HP.out (num_wide s)).mono ?_
  rintro en w' ⟨fv, S, rfl, ho, ⟨hfp, hfm⟩, n2, rfl⟩
  have hwd := fam_wd HP.out (num_wide s) hfp
  have hSl := hwd.2
  have HWD := Lib.hid hwd.1
  have HFM := Lib.hid hfm
  have hsi := Own.slice encI_len ho
  obtain ⟨fq, fc, rfl⟩ := Own.form2 ho
  have HS := Lib.hid (show IntS n2.val _ S from hsi)
  have HX2 : Hid (Ext w n2.val) := Lib.hid (m.ext.trans n2.ext)
  have HP2 := Lib.hid (HP.out.ext n2.ext)
  clear ho hfp hfm hwd hsi HP
  generalize n2.val = W1 at *
  clear n2
  obtain ⟨C, hC⟩ : ∃ C, C = evs cl := ⟨_, rfl⟩
  have hCl : C.length = cl.length := by rw [hC]; simp
  have HCC := Lib.hid hC
  go_wp2_with fail
  go_loopw [10, 12] (fun vo vi wr => ∃ (i : Nat), i ≤ S.length ∧ vi = .int .i64 i ∧ Own encB 1 9 W1.heap.size wr vo (logsL C (S.take i)) ∧ Ext W1 wr) (fun _ i _ => S.length - (intOf i).toNat)
  case atStart => exact ⟨0, by omega, rfl, Own.nil _, Ext.refl _⟩
  case round =>
    obtain ⟨i, hi, rfl, ho, hx⟩ := hrel
    have HX := Lib.hid hx
    have hal := logsL_len C (S.take i)
    rw [List.length_take] at hal
    by_cases hlt : i < S.length
    · have HLT := Lib.hid (logsL_take (l := C) hlt)
      obtain ⟨acc, hacc⟩ : ∃ acc, acc = logsL C (S.take i) := ⟨_, rfl⟩
      rw [← hacc] at ho hal HLT
      have HO := Lib.hid ho
      obtain ⟨qa, ca, rfl⟩ := Own.form2 ho
      clear ho hx hacc
      obtain ⟨bq, oq, rfl, hcq⟩ := IntS.elem (IntS.ext HS.out HX.out) hlt
      have obq := Old.of_cell hcq
      have hwn := HWD.out _ (List.getElem_mem hlt)
      generalize S[i] = n at *
      go_wp2_with fail
      refine (rorigin_any cl _ n _ (HP2.out.ext HX.out) hwn).mono ?_
      rintro en w' ⟨⟨ko, rfl, hko⟩, n1, rfl⟩
      rw [← HCC.out] at hko
      rcases hko with ⟨rfl, hnone⟩ | ⟨io, hio, rfl, h4o, hsome⟩
      · have HN := Lib.hid hnone
        clear hnone
        go_wp2_with fail
        go_roundw
        case rel => exact ⟨i + 1, by omega, by first | rfl | go_num, by rw [HLT.out, HN.out]; simp only [Option.toList_none, List.append_nil]; exact Own.ext HO.out n1.ext, HX.out.trans n1.ext⟩
        case measure => simp [intOf]; omega
      · have qo : decide (0 ≤ (io : Int)) = true := decide_eq_true (by omega)
        have hltm : io < cl.length := by omega
        obtain ⟨bx, ox, rfl, hr, _⟩ := EvsS.elem (EvsS.ext HP2.out.ev HX.out) hltm
        have hit : C[io].item = (cl[io]).1.item := by subst hC; rw [evs_get]
        rw [hit] at hsome
        have HN := Lib.hid hsome
        have hc2 : wr.cell? ⟨bx, ox + io * 6 + 2, none⟩ = some (.string (cl[io]).1.item) := hr 2 _ rfl
        have obx := Old.of_cell hc2
        clear hr hsome hit h4o
        generalize (cl[io]).1.item = g at *
        go_wp2_with (at_builtin; refine wl_append1g (enc := encB) (k := 1) (E := 9) (base := W1.heap.size) (l := acc) (y := g) Tryz.underlying44 hiS hS0 hS1 hS2 rfl (by decide) encB_len encB_one rfl rfl (Own.alloc (Own.ext HO.out (by repeat' (first | (with_reducible exact Ext.refl _) | (with_reducible exact ExtOf.ext _) | (with_reducible refine Ext.trans ?_ (ExtOf.ext _)) | (with_reducible refine Ext.alloc ?_ _) | (with_reducible refine Ext.drew ?_) | (with_reducible refine Ext.setCell ?_ ?_ _) | (with_reducible refine Ext.setRow ?_ ?_ _) | (with_reducible exact HX.out) | (with_reducible refine Ext.trans ?_ HX.out) | (with_reducible refine Ext.below ?_ (Nat.le_refl _) _) | omega | (simp; done) | (simp; omega)))) _) inferInstance rfl (by unfold maxLen; omega) (by omega) (by have := HX.out.size; have := n1.size; simp; omega) ?_; intro v7 n7 ho7 hk7)
        have hb7 : Ext W1 n7.val := Below.trans (HX.out.trans (n1.ext.trans ((Ext.refl _).alloc _))) n7.below
        go_roundw
        case rel => exact ⟨i + 1, by omega, by first | rfl | go_num, by rw [HLT.out, HN.out]; exact ho7, hb7⟩
        case measure => simp [intOf]; omega
    · obtain rfl : i = S.length := by omega
      rw [List.take_length] at ho hal
      have hlf := HFM.out
      rw [← HCC.out] at hlf
      have HLF := Lib.hid hlf
      obtain ⟨L, hL⟩ : ∃ L, L = logsL C S := ⟨_, rfl⟩
      have HLL := Lib.hid hL
      rw [← hL] at ho hal
      have hls := Own.slice encB_len ho
      obtain ⟨lq, lc, rfl⟩ := Own.form2 ho
      have hLS : StrS wr _ L := hls
      have HLS := Lib.hid hLS
      have HP3 := Lib.hid (HP2.out.ext HX.out)
      have HS3 := Lib.hid (IntS.ext HS.out HX.out)
      have HX3 : Hid (Ext w wr) := Lib.hid (HX2.out.trans HX.out)
      clear hlf ho hx hL hls hLS HX HP2 HS HX2
      go_wp2_with fail
      rename World => W2
      go_loopw [11, 14] (fun vo vi wr => ∃ (i : Nat), i ≤ L.length ∧ vi = .int .i64 i ∧ Own encB 1 9 W2.heap.size wr vo (permL C (L.take i)) ∧ Ext W2 wr) (fun _ i _ => L.length - (intOf i).toNat)
      case atStart => exact ⟨0, by omega, rfl, Own.nil _, Ext.refl _⟩
      case round =>
        obtain ⟨i, hi, rfl, ho, hx⟩ := hrel
        have HX := Lib.hid hx
        have hal2 := permL_len C (L.take i)
        rw [List.length_take] at hal2
        by_cases hlt : i < L.length
        · have HLT := Lib.hid (permL_take (l := C) hlt)
          obtain ⟨acc, hacc⟩ : ∃ acc, acc = permL C (L.take i) := ⟨_, rfl⟩
          rw [← hacc] at ho hal2 HLT
          have HO := Lib.hid ho
          obtain ⟨qa, ca, rfl⟩ := Own.form2 ho
          clear ho hx hacc
          obtain ⟨bq, oq, rfl, hcq⟩ := StrS.elem (StrS.ext HLS.out HX.out) hlt
          have obq := Old.of_cell hcq
          generalize L[i] = g at *
          rcases hu : under C g with _ | u
          · have HU := Lib.hid hu
            clear hu
            go_wp2_with (go_at_call 24; refine (runder_any cl _ g _ (HP3.out.ext HX.out)).mono ?_; rintro en w' ⟨rfl, n1, rfl⟩; rw [← HCC.out, HU.out]; simp only [undV, Option.getD_none, Option.isSome_none])
            go_roundw
            case rel => exact ⟨i + 1, by omega, by first | rfl | go_num, by rw [HLT.out, HU.out]; simp only [Option.toList_none, List.append_nil]; exact Own.ext HO.out n1.ext, HX.out.trans n1.ext⟩
            case measure => simp [intOf]; omega
          · have HU := Lib.hid hu
            clear hu
            go_wp2_with (first | (go_at_call 24; refine (runder_any cl _ g _ (HP3.out.ext HX.out)).mono ?_; rintro en w' ⟨rfl, n1, rfl⟩; rw [← HCC.out, HU.out]; simp only [undV, Option.getD_some, Option.isSome_some]) | (at_builtin; refine wl_append1g (enc := encB) (k := 1) (E := 9) (base := W2.heap.size) (l := acc) (y := u) Tryz.underlying44 hiS hS0 hS1 hS2 rfl (by decide) encB_len encB_one rfl rfl (Own.alloc (Own.ext HO.out (by repeat' (first | (with_reducible exact Ext.refl _) | (with_reducible exact ExtOf.ext _) | (with_reducible refine Ext.trans ?_ (ExtOf.ext _)) | (with_reducible refine Ext.alloc ?_ _) | (with_reducible refine Ext.drew ?_) | (with_reducible refine Ext.setCell ?_ ?_ _) | (with_reducible refine Ext.setRow ?_ ?_ _) | (with_reducible exact HX.out) | (with_reducible refine Ext.trans ?_ HX.out) | (with_reducible refine Ext.below ?_ (Nat.le_refl _) _) | omega | (simp; done) | (simp; omega)))) _) inferInstance rfl (by unfold maxLen; omega) (by omega) (by have := HX.out.size; have := n1.size; simp; omega) ?_; intro v7 n7 ho7 hk7))
            have hb7 : Ext W2 n7.val := Below.trans (HX.out.trans (n1.ext.trans ((Ext.refl _).alloc _))) n7.below
            go_roundw
            case rel => exact ⟨i + 1, by omega, by first | rfl | go_num, by rw [HLT.out, HU.out]; exact ho7, hb7⟩
            case measure => simp [intOf]; omega
        · obtain rfl : i = L.length := by omega
          rw [List.take_length] at ho hal2
          obtain ⟨P, hP⟩ : ∃ P, P = permL C L := ⟨_, rfl⟩
          have HPP := Lib.hid hP
          rw [← hP] at ho hal2
          have hps := Own.slice encB_len ho
          obtain ⟨pq, pc, rfl⟩ := Own.form2 ho
          have hPS : StrS wr _ P := hps
          have HPS := Lib.hid hPS
          have HP4 := Lib.hid (HP3.out.ext HX.out)
          have HS4 := Lib.hid (IntS.ext HS3.out HX.out)
          have HL4 := Lib.hid (StrS.ext HLS.out HX.out)
          have HX4 : Hid (Ext w wr) := Lib.hid (HX3.out.trans HX.out)
          clear ho hx hP hps hPS HX HP3 HS3 HLS HX3
          go_wp2_with fail
          rename World => W3
          obtain ⟨part, hpart⟩ : ∃ part : Nat → Ev → Bool, part = fun i e => partV C i S L P e := ⟨_, rfl⟩
          have HPT := Lib.hid hpart
          clear hpart
          go_loopw [17, 18, 19] (fun vo vb vi wr => ∃ (acc : List EvP) (i : Nat) (bg : Bool), i ≤ cl.length ∧ vi = .int .i64 i ∧ vb = .bool bg ∧ acc.length ≤ i ∧ OutS W3.heap.size wr vo acc ∧ evs acc ++ histB C S part i bg (C.drop i) = histB C S part 0 false C ∧ Ext W3 wr) (fun _ _ i _ => cl.length - (intOf i).toNat)
          case atStart => exact ⟨[], 0, false, by omega, rfl, rfl, by simp, OutS.nil, by rw [List.drop_zero]; rfl, Ext.refl _⟩
          case round =>
            obtain ⟨acc, i, bg, hi, rfl, rfl, hai, ho, hac, hx⟩ := hrel
            have HX := Lib.hid hx
            have HO := Lib.hid ho
            have HAC := Lib.hid hac
            obtain ⟨qa, ca, rfl⟩ := Own.form2 ho.own
            clear ho hac hx
            by_cases hlt : i < cl.length
            · have HST := Lib.hid (histB_drop (l := C) (S := S) (part := part) (bg := bg) (m := C) (i := i) (by omega))
              have hgi : C[i]'(by omega) = (cl[i]).1 := by subst hC; rw [evs_get]
              rw [hgi] at HST
              obtain ⟨bx, ox, rfl, hr, hin⟩ := EvsS.elem (EvsS.ext HP4.out.ev HX.out) hlt
              have hin0 := HP4.out.ev.2 _ (List.getElem_mem hlt)
              have hok := HP4.out.ok _ (List.getElem_mem hlt)
              obtain ⟨⟨x, sl⟩, hxe⟩ : ∃ z, z = cl[i] := ⟨_, rfl⟩
              have HXE := Lib.hid hxe
              rw [← hxe] at hr hin hok hin0 HST
              simp only at hin hok hin0 HST
              clear hgi hxe
              have HR : Hid (wr.rangeAt bx (ox + i * 6) [.int .i64 x.kind, .int .i64 x.at_, .string x.item, .string x.of, sl.v, .string x.text]) := Lib.hid hr
              have HI := Lib.hid hin
              have HI0 := Lib.hid hin0
              have hl6 := ok_len hok
              clear hr hin hin0 hok
              by_cases h9 : x.kind = 9
              · have q9 : (x.kind == 9) = true := beq_iff_eq.2 h9
                rw [if_pos h9] at HST
                clear h9
                have hpbl := pairsB_len S x.n
                go_wp2_with (first | ((with_reducible refine wl_loadM midEv (Ext.range ?_ (Hid.out HR)) ?_ ?_ ?_ ?_); (· repeat' (first | (with_reducible exact Ext.refl _) | (with_reducible exact ExtOf.ext _) | (with_reducible refine Ext.trans ?_ (ExtOf.ext _)) | (with_reducible refine Ext.alloc ?_ _) | (with_reducible refine Ext.drew ?_) | (with_reducible refine Ext.setCell ?_ ?_ _) | (with_reducible refine Ext.setRow ?_ ?_ _) | (with_reducible exact HX.out) | (with_reducible refine Ext.trans ?_ HX.out) | (with_reducible refine Ext.below ?_ (Nat.le_refl _) _) | omega | (simp; done) | (simp; omega))); (· rfl); (· (first | exact wanted_none rfl | exact wanted_some rfl rfl rfl)); (· rfl)) | ((with_reducible apply wl_store' lwEv); (· (first | exact wanted_none rfl | exact wanted_some rfl rfl rfl)); (· rfl); (· rfl); (· infer_instance); (· rfl); (· rfl); (· (simp [Value.oneCell', SlT.v])); try simp only [setRow_alloc, setRow_new, setRow_new1, setRow_new2, setRow_new11, setRow_new111]) | ((with_reducible apply wl_load' lwEv); (· (first | exact wanted_none rfl | exact wanted_some rfl rfl rfl)); (· rfl); (· infer_instance); (· rfl)))
                refine (rpairs_any x sl S _ _ (IntS.ext HI.out (by repeat' (first | (with_reducible exact Ext.refl _) | (with_reducible exact ExtOf.ext _) | (with_reducible refine Ext.trans ?_ (ExtOf.ext _)) | (with_reducible refine Ext.alloc ?_ _) | (with_reducible refine Ext.drew ?_) | (with_reducible refine Ext.setCell ?_ ?_ _) | (with_reducible refine Ext.setRow ?_ ?_ _) | (with_reducible exact HX.out) | (with_reducible refine Ext.trans ?_ HX.out) | (with_reducible refine Ext.below ?_ (Nat.le_refl _) _) | omega | (simp; done) | (simp; omega)))) hl6 (IntS.ext HS4.out (HX.out.trans (by repeat' (first | (with_reducible exact Ext.refl _) | (with_reducible exact ExtOf.ext _) | (with_reducible refine Ext.trans ?_ (ExtOf.ext _)) | (with_reducible refine Ext.alloc ?_ _) | (with_reducible refine Ext.drew ?_) | (with_reducible refine Ext.setCell ?_ ?_ _) | (with_reducible refine Ext.setRow ?_ ?_ _) | (with_reducible exact HX.out) | (with_reducible refine Ext.trans ?_ HX.out) | (with_reducible refine Ext.below ?_ (Nat.le_refl _) _) | omega | (simp; done) | (simp; omega)))))).mono ?_
                rintro en w' ⟨pv, rfl, hpv, np, rfl⟩
                obtain ⟨pq2, pc2, rfl⟩ := Own.form2 hpv
                have hset := Own.ints_set (g := wr.heap.size) (i := 4) (u := .slice pq2 (pairsB S x.n).length pc2) hpv (by simp)
                have hpb := Own.base_le hpv
                have HSET := Lib.hid hset
                have HPB := Lib.hid hpb
                clear hpv hset hpb
                have hxp : Ext wr (np.val.setCell ⟨wr.heap.size, 4, none⟩ (.slice pq2 (pairsB S x.n).length pc2)) := by repeat' (first | (with_reducible exact Ext.refl _) | (with_reducible exact ExtOf.ext _) | (with_reducible refine Ext.trans ?_ (ExtOf.ext _)) | (with_reducible refine Ext.alloc ?_ _) | (with_reducible refine Ext.drew ?_) | (with_reducible refine Ext.setCell ?_ ?_ _) | (with_reducible refine Ext.setRow ?_ ?_ _) | (with_reducible exact HX.out) | (with_reducible refine Ext.trans ?_ HX.out) | (with_reducible refine Ext.below ?_ (Nat.le_refl _) _) | omega | (simp; done) | (simp; omega))
                have HXP := Lib.hid hxp
                clear hxp
                obtain ⟨ps, hps⟩ : ∃ ps, ps = pairsB S x.n := ⟨_, rfl⟩
                rw [← hps] at HSET HXP hpbl HST ⊢
                have HPSE := Lib.hid hps
                clear hps
                cases bg
                · by_cases hpe : ps = []
                  · subst hpe
                    go_wp2_with (first | ((with_reducible apply wl_store' lwEv); (· (first | exact wanted_none rfl | exact wanted_some rfl rfl rfl)); (· rfl); (· rfl); (· infer_instance); (· rfl); (· rfl); (· (simp [Value.oneCell', SlT.v])); try simp only [setRow_alloc, setRow_new, setRow_new1, setRow_new2, setRow_new11, setRow_new111]) | ((with_reducible apply wl_load' lwEv); (· (first | exact wanted_none rfl | exact wanted_some rfl rfl rfl)); (· rfl); (· infer_instance); (· rfl)))
                    go_roundw
                    case rel => exact ⟨acc, i + 1, false, by omega, by first | rfl | go_num, rfl, by omega, HO.out.ext HXP.out, by rw [← HAC.out, HST.out]; simp, HX.out.trans HXP.out⟩
                    case measure => simp [intOf]; omega
                  · have hpos : 0 < ps.length := List.length_pos_iff.2 hpe
                    have HNE : Hid (ps.isEmpty = false) := Lib.hid (by cases ps with | nil => exact absurd rfl hpe | cons _ _ => rfl)
                    clear hpe
                    go_wp2_with (first | ((with_reducible apply wl_store' lwEv); (· (first | exact wanted_none rfl | exact wanted_some rfl rfl rfl)); (· rfl); (· rfl); (· infer_instance); (· rfl); (· rfl); (· (simp [Value.oneCell', SlT.v])); try simp only [setRow_alloc, setRow_new, setRow_new1, setRow_new2, setRow_new11, setRow_new111]) | ((with_reducible apply wl_load' lwEv); (· (first | exact wanted_none rfl | exact wanted_some rfl rfl rfl)); (· rfl); (· infer_instance); (· rfl)) | (at_builtin; refine wl_append1g (enc := encEv) (k := 6) (E := 34) (base := W3.heap.size) (l := acc) (y := (⟨x.kind, x.at_, x.item, x.of, ps, x.text⟩, ⟨pq2, ps.length, pc2⟩)) Tryz.underlying22 hiE hE0 hE1 hE2 rfl (by decide) encEv_len encEv_one rfl rfl (Own.alloc (HO.out.own.ext HXP.out) _) (Block.new_at (by simp [World.setCell])) rfl (by unfold maxLen; omega) (by omega) (by have := HX.out.size; have := HXP.out.size; simp at this ⊢; omega) ?_; intro v7 n7 ho7 hk7))
                    have hp7 := OutS.push (x := (⟨x.kind, x.at_, x.item, x.of, ps, x.text⟩, ⟨pq2, ps.length, pc2⟩)) ((HO.out.ext HXP.out).ext ((Ext.refl _).alloc _)) hk7 ho7 (IntS.ext HSET.out ((Ext.refl _).alloc _)) (fun _ q hq => Own.block_lt HO.out.own (by have := HPB.out q hq; simp at this; omega))
                    have hb7 : Ext W3 n7.val := Below.trans ((HX.out.trans HXP.out).trans ((Ext.refl _).alloc _)) n7.below
                    go_roundw
                    case rel => exact ⟨_, i + 1, true, by omega, by first | rfl | go_num, rfl, by simp; omega, hp7, hist_next HAC.out (by rw [HST.out, HNE.out]; rfl), hb7⟩
                    case measure => simp [intOf]; omega
                · go_wp2_with (first | ((with_reducible apply wl_store' lwEv); (· (first | exact wanted_none rfl | exact wanted_some rfl rfl rfl)); (· rfl); (· rfl); (· infer_instance); (· rfl); (· rfl); (· (simp [Value.oneCell', SlT.v])); try simp only [setRow_alloc, setRow_new, setRow_new1, setRow_new2, setRow_new11, setRow_new111]) | ((with_reducible apply wl_load' lwEv); (· (first | exact wanted_none rfl | exact wanted_some rfl rfl rfl)); (· rfl); (· infer_instance); (· rfl)) | (at_builtin; refine wl_append1g (enc := encEv) (k := 6) (E := 34) (base := W3.heap.size) (l := acc) (y := (⟨x.kind, x.at_, x.item, x.of, ps, x.text⟩, ⟨pq2, ps.length, pc2⟩)) Tryz.underlying22 hiE hE0 hE1 hE2 rfl (by decide) encEv_len encEv_one rfl rfl (Own.alloc (HO.out.own.ext HXP.out) _) (Block.new_at (by simp [World.setCell])) rfl (by unfold maxLen; omega) (by omega) (by have := HX.out.size; have := HXP.out.size; simp at this ⊢; omega) ?_; intro v7 n7 ho7 hk7))
                  have hp7 := OutS.push (x := (⟨x.kind, x.at_, x.item, x.of, ps, x.text⟩, ⟨pq2, ps.length, pc2⟩)) ((HO.out.ext HXP.out).ext ((Ext.refl _).alloc _)) hk7 ho7 (IntS.ext HSET.out ((Ext.refl _).alloc _)) (fun _ q hq => Own.block_lt HO.out.own (by have := HPB.out q hq; simp at this; omega))
                  have hb7 : Ext W3 n7.val := Below.trans ((HX.out.trans HXP.out).trans ((Ext.refl _).alloc _)) n7.below
                  go_roundw
                  case rel => exact ⟨_, i + 1, true, by omega, by first | rfl | go_num, rfl, by simp; omega, hp7, hist_next HAC.out (by rw [HST.out]; rfl), hb7⟩
                  case measure => simp [intOf]; omega
              · have q9 : (x.kind == 9) = false := beq_eq_false_iff_ne.2 h9
                rw [if_neg h9] at HST
                clear h9
                have HPX : Hid (partV (evs cl) i S L P (cl[i]).1 = part i x) := Lib.hid (by rw [HPT.out, ← HXE.out, HCC.out])
                have HIS0 : Hid (x.n ≠ [] → ∀ q, sl.p = some q → (Value.slice qa acc.length ca).ownBlock ≠ some q.block) := Lib.hid (fun hne q hq => by
                  have h1 := HI0.out
                  unfold SlT.v at h1
                  rw [hq] at h1
                  have h2 := h1.lt hne
                  intro e
                  have h3 := (World.ownsRow.lt HO.out.own q.block e).1
                  omega)
                rcases hpx : part i x with _ | _
                · rw [hpx] at HST HPX
                  clear hpx
                  go_wp2_with (first | ((with_reducible refine wl_loadM midEv (Ext.range ?_ (Hid.out HR)) ?_ ?_ ?_ ?_); (· repeat' (first | (with_reducible exact Ext.refl _) | (with_reducible exact ExtOf.ext _) | (with_reducible refine Ext.trans ?_ (ExtOf.ext _)) | (with_reducible refine Ext.alloc ?_ _) | (with_reducible refine Ext.drew ?_) | (with_reducible refine Ext.setCell ?_ ?_ _) | (with_reducible refine Ext.setRow ?_ ?_ _) | (with_reducible exact HX.out) | (with_reducible refine Ext.trans ?_ HX.out) | (with_reducible refine Ext.below ?_ (Nat.le_refl _) _) | omega | (simp; done) | (simp; omega))); (· rfl); (· (first | exact wanted_none rfl | exact wanted_some rfl rfl rfl)); (· rfl)) | ((with_reducible apply wl_store' lwEv); (· (first | exact wanted_none rfl | exact wanted_some rfl rfl rfl)); (· rfl); (· rfl); (· infer_instance); (· rfl); (· rfl); (· (simp [Value.oneCell', SlT.v])); try simp only [setRow_alloc, setRow_new, setRow_new1, setRow_new2, setRow_new11, setRow_new111]) | ((with_reducible apply wl_load' lwEv); (· (first | exact wanted_none rfl | exact wanted_some rfl rfl rfl)); (· rfl); (· infer_instance); (· rfl)) | (go_at_call 26; refine (rpart_any cl _ i S _ L P _ _ _ (HP4.out.ext (HX.out.trans (by repeat' (first | (with_reducible exact Ext.refl _) | (with_reducible exact ExtOf.ext _) | (with_reducible refine Ext.trans ?_ (ExtOf.ext _)) | (with_reducible refine Ext.alloc ?_ _) | (with_reducible refine Ext.drew ?_) | (with_reducible refine Ext.setCell ?_ ?_ _) | (with_reducible refine Ext.setRow ?_ ?_ _) | (with_reducible exact HX.out) | (with_reducible refine Ext.trans ?_ HX.out) | (with_reducible refine Ext.below ?_ (Nat.le_refl _) _) | omega | (simp; done) | (simp; omega))))) hlt (IntS.ext HS4.out (HX.out.trans (by repeat' (first | (with_reducible exact Ext.refl _) | (with_reducible exact ExtOf.ext _) | (with_reducible refine Ext.trans ?_ (ExtOf.ext _)) | (with_reducible refine Ext.alloc ?_ _) | (with_reducible refine Ext.drew ?_) | (with_reducible refine Ext.setCell ?_ ?_ _) | (with_reducible refine Ext.setRow ?_ ?_ _) | (with_reducible exact HX.out) | (with_reducible refine Ext.trans ?_ HX.out) | (with_reducible refine Ext.below ?_ (Nat.le_refl _) _) | omega | (simp; done) | (simp; omega))))) (StrS.ext HL4.out (HX.out.trans (by repeat' (first | (with_reducible exact Ext.refl _) | (with_reducible exact ExtOf.ext _) | (with_reducible refine Ext.trans ?_ (ExtOf.ext _)) | (with_reducible refine Ext.alloc ?_ _) | (with_reducible refine Ext.drew ?_) | (with_reducible refine Ext.setCell ?_ ?_ _) | (with_reducible refine Ext.setRow ?_ ?_ _) | (with_reducible exact HX.out) | (with_reducible refine Ext.trans ?_ HX.out) | (with_reducible refine Ext.below ?_ (Nat.le_refl _) _) | omega | (simp; done) | (simp; omega))))) (StrS.ext HPS.out (HX.out.trans (by repeat' (first | (with_reducible exact Ext.refl _) | (with_reducible exact ExtOf.ext _) | (with_reducible refine Ext.trans ?_ (ExtOf.ext _)) | (with_reducible refine Ext.alloc ?_ _) | (with_reducible refine Ext.drew ?_) | (with_reducible refine Ext.setCell ?_ ?_ _) | (with_reducible refine Ext.setRow ?_ ?_ _) | (with_reducible exact HX.out) | (with_reducible refine Ext.trans ?_ HX.out) | (with_reducible refine Ext.below ?_ (Nat.le_refl _) _) | omega | (simp; done) | (simp; omega)))))).mono ?_; rintro en w' ⟨rfl, n5, rfl⟩; rw [HPX.out]))
                  go_roundw
                  case rel => exact ⟨acc, i + 1, bg, by omega, by first | rfl | go_num, rfl, by omega, HO.out.ext (by repeat' (first | (with_reducible exact Ext.refl _) | (with_reducible exact ExtOf.ext _) | (with_reducible refine Ext.trans ?_ (ExtOf.ext _)) | (with_reducible refine Ext.alloc ?_ _) | (with_reducible refine Ext.drew ?_) | (with_reducible refine Ext.setCell ?_ ?_ _) | (with_reducible refine Ext.setRow ?_ ?_ _) | (with_reducible exact HX.out) | (with_reducible refine Ext.trans ?_ HX.out) | (with_reducible refine Ext.below ?_ (Nat.le_refl _) _) | omega | (simp; done) | (simp; omega))), by rw [← HAC.out, HST.out]; rfl, HX.out.trans (by repeat' (first | (with_reducible exact Ext.refl _) | (with_reducible exact ExtOf.ext _) | (with_reducible refine Ext.trans ?_ (ExtOf.ext _)) | (with_reducible refine Ext.alloc ?_ _) | (with_reducible refine Ext.drew ?_) | (with_reducible refine Ext.setCell ?_ ?_ _) | (with_reducible refine Ext.setRow ?_ ?_ _) | (with_reducible exact HX.out) | (with_reducible refine Ext.trans ?_ HX.out) | (with_reducible refine Ext.below ?_ (Nat.le_refl _) _) | omega | (simp; done) | (simp; omega)))⟩
                  case measure => simp [intOf]; omega
                · rw [hpx] at HST HPX
                  clear hpx
                  go_wp2_with (first | ((with_reducible refine wl_loadM midEv (Ext.range ?_ (Hid.out HR)) ?_ ?_ ?_ ?_); (· repeat' (first | (with_reducible exact Ext.refl _) | (with_reducible exact ExtOf.ext _) | (with_reducible refine Ext.trans ?_ (ExtOf.ext _)) | (with_reducible refine Ext.alloc ?_ _) | (with_reducible refine Ext.drew ?_) | (with_reducible refine Ext.setCell ?_ ?_ _) | (with_reducible refine Ext.setRow ?_ ?_ _) | (with_reducible exact HX.out) | (with_reducible refine Ext.trans ?_ HX.out) | (with_reducible refine Ext.below ?_ (Nat.le_refl _) _) | omega | (simp; done) | (simp; omega))); (· rfl); (· (first | exact wanted_none rfl | exact wanted_some rfl rfl rfl)); (· rfl)) | ((with_reducible apply wl_store' lwEv); (· (first | exact wanted_none rfl | exact wanted_some rfl rfl rfl)); (· rfl); (· rfl); (· infer_instance); (· rfl); (· rfl); (· (simp [Value.oneCell', SlT.v])); try simp only [setRow_alloc, setRow_new, setRow_new1, setRow_new2, setRow_new11, setRow_new111]) | ((with_reducible apply wl_load' lwEv); (· (first | exact wanted_none rfl | exact wanted_some rfl rfl rfl)); (· rfl); (· infer_instance); (· rfl)) | (go_at_call 26; refine (rpart_any cl _ i S _ L P _ _ _ (HP4.out.ext (HX.out.trans (by repeat' (first | (with_reducible exact Ext.refl _) | (with_reducible exact ExtOf.ext _) | (with_reducible refine Ext.trans ?_ (ExtOf.ext _)) | (with_reducible refine Ext.alloc ?_ _) | (with_reducible refine Ext.drew ?_) | (with_reducible refine Ext.setCell ?_ ?_ _) | (with_reducible refine Ext.setRow ?_ ?_ _) | (with_reducible exact HX.out) | (with_reducible refine Ext.trans ?_ HX.out) | (with_reducible refine Ext.below ?_ (Nat.le_refl _) _) | omega | (simp; done) | (simp; omega))))) hlt (IntS.ext HS4.out (HX.out.trans (by repeat' (first | (with_reducible exact Ext.refl _) | (with_reducible exact ExtOf.ext _) | (with_reducible refine Ext.trans ?_ (ExtOf.ext _)) | (with_reducible refine Ext.alloc ?_ _) | (with_reducible refine Ext.drew ?_) | (with_reducible refine Ext.setCell ?_ ?_ _) | (with_reducible refine Ext.setRow ?_ ?_ _) | (with_reducible exact HX.out) | (with_reducible refine Ext.trans ?_ HX.out) | (with_reducible refine Ext.below ?_ (Nat.le_refl _) _) | omega | (simp; done) | (simp; omega))))) (StrS.ext HL4.out (HX.out.trans (by repeat' (first | (with_reducible exact Ext.refl _) | (with_reducible exact ExtOf.ext _) | (with_reducible refine Ext.trans ?_ (ExtOf.ext _)) | (with_reducible refine Ext.alloc ?_ _) | (with_reducible refine Ext.drew ?_) | (with_reducible refine Ext.setCell ?_ ?_ _) | (with_reducible refine Ext.setRow ?_ ?_ _) | (with_reducible exact HX.out) | (with_reducible refine Ext.trans ?_ HX.out) | (with_reducible refine Ext.below ?_ (Nat.le_refl _) _) | omega | (simp; done) | (simp; omega))))) (StrS.ext HPS.out (HX.out.trans (by repeat' (first | (with_reducible exact Ext.refl _) | (with_reducible exact ExtOf.ext _) | (with_reducible refine Ext.trans ?_ (ExtOf.ext _)) | (with_reducible refine Ext.alloc ?_ _) | (with_reducible refine Ext.drew ?_) | (with_reducible refine Ext.setCell ?_ ?_ _) | (with_reducible refine Ext.setRow ?_ ?_ _) | (with_reducible exact HX.out) | (with_reducible refine Ext.trans ?_ HX.out) | (with_reducible refine Ext.below ?_ (Nat.le_refl _) _) | omega | (simp; done) | (simp; omega)))))).mono ?_; rintro en w' ⟨rfl, n5, rfl⟩; rw [HPX.out]) | (at_builtin; refine wl_append1g (enc := encEv) (k := 6) (E := 34) (base := W3.heap.size) (l := acc) (y := (x, sl)) Tryz.underlying22 hiE hE0 hE1 hE2 rfl (by decide) encEv_len encEv_one rfl rfl (Own.alloc (HO.out.own.ext (by repeat' (first | (with_reducible exact Ext.refl _) | (with_reducible exact ExtOf.ext _) | (with_reducible refine Ext.trans ?_ (ExtOf.ext _)) | (with_reducible refine Ext.alloc ?_ _) | (with_reducible refine Ext.drew ?_) | (with_reducible refine Ext.setCell ?_ ?_ _) | (with_reducible refine Ext.setRow ?_ ?_ _) | (with_reducible exact HX.out) | (with_reducible refine Ext.trans ?_ HX.out) | (with_reducible refine Ext.below ?_ (Nat.le_refl _) _) | omega | (simp; done) | (simp; omega)))) _) inferInstance rfl (by unfold maxLen; omega) (by omega) (by have := HX.out.size; have := n5.size; simp at this ⊢; omega) ?_; intro v7 n7 ho7 hk7))
                  have hp7 := OutS.push (x := (x, sl)) ((HO.out.ext (by repeat' (first | (with_reducible exact Ext.refl _) | (with_reducible exact ExtOf.ext _) | (with_reducible refine Ext.trans ?_ (ExtOf.ext _)) | (with_reducible refine Ext.alloc ?_ _) | (with_reducible refine Ext.drew ?_) | (with_reducible refine Ext.setCell ?_ ?_ _) | (with_reducible refine Ext.setRow ?_ ?_ _) | (with_reducible exact HX.out) | (with_reducible refine Ext.trans ?_ HX.out) | (with_reducible refine Ext.below ?_ (Nat.le_refl _) _) | omega | (simp; done) | (simp; omega)))).ext ((Ext.refl _).alloc _)) hk7 ho7 (IntS.ext HI.out (by repeat' (first | (with_reducible exact Ext.refl _) | (with_reducible exact ExtOf.ext _) | (with_reducible refine Ext.trans ?_ (ExtOf.ext _)) | (with_reducible refine Ext.alloc ?_ _) | (with_reducible refine Ext.drew ?_) | (with_reducible refine Ext.setCell ?_ ?_ _) | (with_reducible refine Ext.setRow ?_ ?_ _) | (with_reducible exact HX.out) | (with_reducible refine Ext.trans ?_ HX.out) | (with_reducible refine Ext.below ?_ (Nat.le_refl _) _) | omega | (simp; done) | (simp; omega)))) HIS0.out
                  have hb7 : Ext W3 n7.val := Below.trans (HX.out.trans (by repeat' (first | (with_reducible exact Ext.refl _) | (with_reducible exact ExtOf.ext _) | (with_reducible refine Ext.trans ?_ (ExtOf.ext _)) | (with_reducible refine Ext.alloc ?_ _) | (with_reducible refine Ext.drew ?_) | (with_reducible refine Ext.setCell ?_ ?_ _) | (with_reducible refine Ext.setRow ?_ ?_ _) | (with_reducible exact HX.out) | (with_reducible refine Ext.trans ?_ HX.out) | (with_reducible refine Ext.below ?_ (Nat.le_refl _) _) | omega | (simp; done) | (simp; omega)))) n7.below
                  go_roundw
                  case rel => exact ⟨_, i + 1, bg, by omega, by first | rfl | go_num, rfl, by simp; omega, hp7, hist_next HAC.out (by rw [HST.out]; rfl), hb7⟩
                  case measure => simp [intOf]; omega
            · obtain rfl : i = cl.length := by omega
              have hfin : evs acc = histB C S part 0 false C := by
                have := HAC.out
                rw [List.drop_of_length_le (by omega)] at this
                rw [← this]
                show _ = _ ++ []
                rw [List.append_nil]
              have HFIN := Lib.hid hfin
              clear hfin
              go_wp2_with fail
              go_ret2
              refine ⟨_, acc, by rw [HE.out]; rfl, HO.out.evs, ?_, ExtOf.of (HX4.out.trans HX.out)⟩
              rw [HFIN.out, HHO.out, ← HCC.out]
              unfold hist
              rw [HPT.out]
              refine histB_eq HLF.out (fun i e => ?_) C 0 false
              unfold partV
              exact part_keep (fun a b => memB_iff) HLF.out (fun g => by rw [HLL.out]; exact logsL_iff HLF.out g) (fun g => by rw [HPP.out, HLL.out]; exact permL_iff HLF.out g) i e
end Go.Proofs.YtjfohapnjnopfaaGreatDoor
