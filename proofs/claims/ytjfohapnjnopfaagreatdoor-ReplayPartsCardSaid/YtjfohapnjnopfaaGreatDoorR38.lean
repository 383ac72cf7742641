/-
  Chapter 61: the program's story.
-/
import Derived.Test.YtjfohapnjnopfaaGreatDoorK35
import Derived.Test.YtjfohapnjnopfaaGreatDoorR34
import Derived.Test.YtjfohapnjnopfaaGreatDoorMA
import Derived.Defers
import Derived.Recover
set_option linter.unusedVariables false
set_option linter.unusedSimpArgs false
namespace Go.Proofs.YtjfohapnjnopfaaGreatDoor
open Go.RowKit RepM Go.Shelf

attribute [local go_sem] ExtOf.cell ExtOf.frozen Block.cell Block.frozen ExtB.cell ExtB.frozen alloc_cell alloc_frozen
/-- the deferred function: the story is what the builder holds, if there is no error -/
theorem storyC_no (es bs ss : Nat) (er : Int) (u : FrameMode) (w : World) (hb : Block w es #[.int .i64 er]) (h0 : ¬ er = 0) :
    CallsD Tryz.prog 28 #[.pointer (some ⟨es, 0, none⟩), .pointer (some ⟨bs, 0, none⟩), .pointer (some ⟨ss, 0, none⟩)] u w fun e u' w' => u' = u ∧ (e = .returned (.tuple #[]) ∧ w' = w) := by
  have q : (er == 0) = false := beq_eq_false_iff_ne.2 h0
  go_enter_d Tryz.func28, Tryz.ntmps28
  go_wp2_with fail
  go_end0
  exact ⟨rfl, rfl⟩
theorem storyC_yes (es bs ss : Nat) (s0 : ByteArray) (l : List UInt8) (u : FrameMode) (w0 w : World) (hb : Block w es #[.int .i64 0]) (hs : Block w ss #[.string s0]) (hB : Bld w0 bs w l) (h1 : es < bs) (h2 : ss < bs) (h3 : ss ≠ es) :
    CallsD Tryz.prog 28 #[.pointer (some ⟨es, 0, none⟩), .pointer (some ⟨bs, 0, none⟩), .pointer (some ⟨ss, 0, none⟩)] u w fun e u' w' => u' = u ∧ (e = .returned (.tuple #[]) ∧ Block w' es #[.int .i64 0] ∧ Block w' ss #[.string (cB l)] ∧ ∃ w1, Below bs w w1 ∧ w' = w1.setCell ⟨ss, 0, none⟩ (.string (cB l))) := by
  have HS := Lib.hid (Tryz.Builder_String_any_k bs bs l w hB.isb (Nat.le_of_lt hB.lt))
  have HB := Lib.hid hB
  haveI : Apart ss es := ⟨h3⟩
  clear hB
  go_enter_d Tryz.func28, Tryz.ntmps28
  go_wp2_with (go_at_call 29; refine HS.out.mono ?_; rintro en w1 ⟨rfl, _, hbl, _⟩; (have k1 := hb.below hbl h1); (have k2 := hs.below hbl h2); (have HBL := Lib.hid hbl); clear hbl)
  go_end0
  exact ⟨rfl, inferInstance, inferInstance, w1, HBL.out, rfl⟩
theorem SliceOf.bld {α : Type} {enc : α → List Value} {k : Nat} {w0 W : World} {b : Nat} {bs : List UInt8} {v : Value} {l : List α} (h : Bld w0 b W bs) (hb : w0.heap[b]? = some (.cells #[.pointer none, .slice none 0 0] 53 (0, 0))) (hE : ∀ x, ∃ m, (enc x)[0]? = some (.int .i64 m)) (hs : SliceOf enc k w0 v l) : SliceOf enc k W v l := by
  obtain ⟨p, cap, e, h1, h2, h3, h4⟩ := hs
  refine ⟨p, cap, e, h1, h2, h3, fun i x hi => ?_⟩
  obtain ⟨b', off, hp, hc⟩ := h4 i x hi
  obtain ⟨m, hm⟩ := hE x
  have hc0 := hc 0 _ hm
  have hne : b' ≠ b := by
    rintro rfl
    rw [Lib.cell_of_heap hb] at hc0
    rcases hq : off + (i * k + 0) with _ | _ | n
    · rw [hq] at hc0; simp at hc0
    · rw [hq] at hc0; simp at hc0
    · rw [hq] at hc0; simp at hc0
  have hlt := World.block_lt_of_cell? w0 _ hc0
  refine ⟨b', off, hp, fun j u hj => ?_⟩
  rw [← hc j u hj]
  simp only [World.cell?]
  rw [h.2.1.heap b' hlt hne]
theorem EvsS.bld {w0 W : World} {b : Nat} {bs : List UInt8} {v : Value} {l : List EvP} (h : Bld w0 b W bs) (hb : w0.heap[b]? = some (.cells #[.pointer none, .slice none 0 0] 53 (0, 0))) (hs : EvsS w0 v l) : EvsS W v l :=
  ⟨SliceOf.bld h hb (fun x => ⟨_, rfl⟩) hs.1, fun x hx => SliceOf.bld h hb (fun m => ⟨_, rfl⟩) (hs.2 x hx)⟩
theorem line_le (e : Ev) : (lineL e).length ≤ 10000 := by
  by_cases h : okEv e = true
  · exact line_len h
  · unfold lineL; rw [if_neg h]; simp
theorem story_le : ∀ l : List Ev, (storyL l).length ≤ 10000 * l.length
  | [] => by simp [storyL]
  | e :: l => by
    have h1 := story_le l
    have h2 := line_le e
    unfold storyL at h1 ⊢
    rw [List.flatMap_cons, List.length_append, List.length_cons]
    omega
theorem setCell_same {w : World} {b i : Nat} {v : Value} (h : w.cell? ⟨b, i, none⟩ = some v) : w.setCell ⟨b, i, none⟩ v = w := by
  have hh : (w.setCell ⟨b, i, none⟩ v).heap = w.heap := by
    unfold World.setCell
    simp only
    apply Array.ext
    · simp
    · intro k h1 h2
      simp only [Array.getElem_modify]
      split
      · rename_i e
        subst e
        unfold World.cell? at h
        simp only [Array.getElem?_eq_getElem h2] at h
        cases ho : w.heap[b] with
        | cells c elem fz =>
          rw [ho] at h
          simp only [Option.isSome_none, Bool.false_eq_true, if_false] at h ⊢
          obtain ⟨hi, rfl⟩ := Array.getElem?_eq_some_iff.1 h
          congr 1
          apply Array.ext
          · simp
          · intro j h3 h4
            rw [Array.getElem_setIfInBounds]
            split
            · rename_i e; subst e; rfl
            · rfl
        | _ => rw [ho] at h
      · rfl
  unfold World.setCell at hh ⊢
  simp only at hh
  rw [hh]
/-- the story, with the error -/
noncomputable def storyV (l : List Ev) (s : ByteArray) : Value := .tuple #[.string (cB (storyL (histOf l s))), .int .i64 (errOf l s)]
set_option maxHeartbeats 3200000 in
set_option maxRecDepth 20000 in
theorem pstory_any (l : List EvP) (v : Value) (s : ByteArray) (w : World) (h : EvsS w v l) (hl : l.length ≤ 1000) (ht : Tab w) : Calls Tryz.prog 11 #[v, .string s] w fun e w' => e = .returned (storyV (evs l) s) ∧ ∃ n : ExtOf w, w' = n.val := by
  have HH := Lib.hid (fun W (hx : Ext w W) => phistory_any l v s W (h.ext hx) hl (ht.ext hx))
  have HT := Lib.hid ht
  have hlen := histOf_len (evs l) s
  have hel : (evs l).length = l.length := by simp
  clear h ht
  have hmf : ∀ (fn : Fn) (first cap : Array Value) (w : World), (Instr.makeFunc fn first cap).run Tryz.prog w = .ok (.func fn first cap) w := fun _ _ _ _ => rfl
  go_enter_defers Tryz.func11, Tryz.ntmps11
  go_wp2_with (go_at_call 8; refine (HH.out _ (by repeat' (first | (with_reducible exact Ext.refl _) | (with_reducible exact ExtOf.ext _) | (with_reducible refine Ext.trans ?_ (ExtOf.ext _)) | (with_reducible refine Ext.alloc ?_ _) | (with_reducible refine Ext.drew ?_) | (with_reducible refine Ext.setCell ?_ ?_ _) | (with_reducible refine Ext.setRow ?_ ?_ _) | (with_reducible exact HX.out) | (with_reducible refine Ext.trans ?_ HX.out) | (with_reducible refine Ext.below ?_ (Nat.le_refl _) _) | omega | (simp; done) | (simp; omega)))).mono ?_; rintro en w' ⟨hv, hs, rfl, hes, heq, n1, rfl⟩; (have HES := Lib.hid hes); (have HEQ := Lib.hid heq); (obtain ⟨hq, hc, rfl, hd1, hd2, hd3⟩ := EvsS.form hes); clear hes heq)
  obtain ⟨E, hE⟩ : ∃ E, E = errOf (evs l) s := ⟨_, rfl⟩
  rw [← hE]
  have HE := Lib.hid hE
  clear hE
  have hbk : n1.val.heap[w.heap.size + 1 + 1]? = some (.cells #[.pointer none, .slice none 0 0] 53 (0, 0)) := (n1.ext.block _ (by simp)).trans (by
    have := (MapKept.heap_alloc ((w.alloc (.cells #[.string ⟨#[]⟩] 9)).alloc (.cells #[.int .i64 0] 25)) (.cells #[.pointer none, .slice none 0 0] 53)).1
    simpa using this)
  have hbs : Block (n1.val.setCell ⟨w.heap.size + 1, 0, none⟩ (.int .i64 E)) w.heap.size #[.string ⟨#[]⟩] := inferInstance
  have hbe : Block (n1.val.setCell ⟨w.heap.size + 1, 0, none⟩ (.int .i64 E)) (w.heap.size + 1) #[.int .i64 E] := inferInstance
  have hx0 : Ext w (n1.val.setCell ⟨w.heap.size + 1, 0, none⟩ (.int .i64 E)) := by repeat' (first | (with_reducible exact Ext.refl _) | (with_reducible exact ExtOf.ext _) | (with_reducible refine Ext.trans ?_ (ExtOf.ext _)) | (with_reducible refine Ext.alloc ?_ _) | (with_reducible refine Ext.drew ?_) | (with_reducible refine Ext.setCell ?_ ?_ _) | (with_reducible refine Ext.setRow ?_ ?_ _) | (with_reducible exact HX.out) | (with_reducible refine Ext.trans ?_ HX.out) | (with_reducible refine Ext.below ?_ (Nat.le_refl _) _) | omega | (simp; done) | (simp; omega))
  obtain ⟨ss, hss⟩ : ∃ ss, ss = w.heap.size := ⟨_, rfl⟩
  have HSS := Lib.hid hss
  rw [← hss] at hbk hbs hbe hx0 ⊢
  have hbk0 : (n1.val.setCell ⟨ss + 1, 0, none⟩ (.int .i64 E)).heap[ss + 1 + 1]? = some (.cells #[.pointer none, .slice none 0 0] 53 (0, 0)) := by
    rw [Below.heap_setCell _ _ _ _ (by show ss + 1 + 1 ≠ ss + 1; omega)]; exact hbk
  obtain ⟨W0, hW0⟩ : ∃ W0, W0 = n1.val.setCell ⟨ss + 1, 0, none⟩ (.int .i64 E) := ⟨_, rfl⟩
  have hev0 : EvsS (n1.val.setCell ⟨ss + 1, 0, none⟩ (.int .i64 E)) (.slice hq hs.length hc) hs := by
    by_cases he : E = 0
    · subst he
      rw [setCell_same]
      · exact HES.out
      · rw [hss]
        have : Block n1.val (w.heap.size + 1) #[.int .i64 0] := inferInstance
        have := this.cell (i := 0)
        simpa using this
    · have h0 : hs = [] := by
        have h1 : evs hs = [] := by rw [HEQ.out]; unfold histOf; rw [if_neg (by rw [← HE.out]; exact he)]
        cases hs with
        | nil => rfl
        | cons a b => cases h1
      subst h0
      exact ⟨⟨hq, hc, rfl, hd1, hd2, hd3, fun i x hi => by simp at hi⟩, fun x hx => by cases hx⟩
  rw [← hW0] at hbs hbe hx0 hbk0 hev0 ⊢
  clear hW0 hbk
  have HB0 : Hid (Bld W0 (ss + 1 + 1) W0 []) := Lib.hid (Bld.start hbk0)
  have HEV := Lib.hid hev0
  have HBK := Lib.hid hbk0
  have HX0 := Lib.hid hx0
  have hsz0 : ss + 1 + 1 < W0.heap.size := HB0.out.lt
  have hhl : hs.length ≤ 1000 := by
    have h1 : (evs hs).length = hs.length := by simp
    rw [HEQ.out] at h1; omega
  clear hev0 hbk0 hx0 hel hlen hss
  go_loopw [19] (fun vi wr => ∃ k : Nat, k ≤ hs.length ∧ vi = .int .i64 k ∧ Bld W0 (ss + 1 + 1) wr (storyL ((evs hs).take k))) (fun i _ => hs.length - (intOf i).toNat)
  case atStart => exact ⟨0, by omega, rfl, by simpa [storyL] using HB0.out⟩
  case round =>
    obtain ⟨k, hk, rfl, hb⟩ := hrel
    have HB := Lib.hid hb
    have hsl := story_le ((evs hs).take k)
    have htk : ((evs hs).take k).length ≤ 1000 := by rw [List.length_take]; simp; omega
    have hsl2 : (storyL ((evs hs).take k)).length ≤ 10000000 := by omega
    clear hb hsl htk
    by_cases hlt : k < hs.length
    · have hev := EvsS.bld HB.out HBK.out HEV.out
      obtain ⟨b, off, rfl, hr, hin⟩ := EvsS.elem hev hlt
      have HST := Lib.hid (storyL_take (l := evs hs) (k := k) (by simpa using hlt))
      have hgi : (evs hs)[k]'(by simpa using hlt) = (hs[k]).1 := evs_get (by simpa using hlt)
      rw [hgi] at HST
      obtain ⟨⟨x, sl⟩, he⟩ : ∃ z, z = hs[k] := ⟨_, rfl⟩
      rw [← he] at hr hin HST
      simp only at hin HST
      have HPL := Lib.hid (fun W (hx : Ext wr W) => pline_any x sl.v W (IntS.ext hin hx) (HT.out.ext ((HB.out.extw HX0.out (by have := HSS.out; omega)).trans hx)))
      have HR : Hid (wr.rangeAt b (off + k * 6) [.int .i64 x.kind, .int .i64 x.at_, .string x.item, .string x.of, sl.v, .string x.text]) := Lib.hid hr
      unfold evC at HPL
      obtain ⟨sp, sn, sc⟩ := sl
      simp only [SlT.v] at *
      have hls : (cB (lineL x)).size ≤ 10000 := by rw [cB_size]; exact line_le x
      have HLS : Hid ((storyL ((evs hs).take k)).length + (cB (lineL x)).size ≤ 1099511627776) := Lib.hid (by omega)
      obtain ⟨bs, hbs2⟩ : ∃ bs, bs = storyL ((evs hs).take k) := ⟨_, rfl⟩
      rw [← hbs2] at HB HST HLS hsl2
      have HWS := Lib.hid (fun W (hx : Ext wr W) => wstr_any (cB (lineL x)) (HB.out.ext hx) HLS.out)
      obtain ⟨LS, hLS⟩ : ∃ LS, LS = cB (lineL x) := ⟨_, rfl⟩
      have HLD : Hid (LS.data.toList = lineL x) := Lib.hid (by rw [hLS, cB_data])
      rw [← hLS] at HWS HPL
      rw [← HLD.out] at HST
      clear hr hin he hgi hev hbs2 hls hLS
      go_wp2_with (first | ((with_reducible refine wl_loadM midEv (Ext.range ?_ (Hid.out HR)) ?_ ?_ ?_ ?_); (· repeat' (first | (with_reducible exact Ext.refl _) | (with_reducible exact ExtOf.ext _) | (with_reducible refine Ext.trans ?_ (ExtOf.ext _)) | (with_reducible refine Ext.alloc ?_ _) | (with_reducible refine Ext.drew ?_) | (with_reducible refine Ext.setCell ?_ ?_ _) | (with_reducible refine Ext.setRow ?_ ?_ _) | (with_reducible exact HX.out) | (with_reducible refine Ext.trans ?_ HX.out) | (with_reducible refine Ext.below ?_ (Nat.le_refl _) _) | omega | (simp; done) | (simp; omega))); (· rfl); (· (first | exact wanted_none rfl | exact wanted_some rfl rfl rfl)); (· rfl)) | ((with_reducible apply wl_store' lwEv); (· (first | exact wanted_none rfl | exact wanted_some rfl rfl rfl)); (· rfl); (· rfl); (· infer_instance); (· rfl); (· rfl); (· (simp [Value.oneCell', SlT.v])); try simp only [setRow_alloc, setRow_new, setRow_new1, setRow_new2, setRow_new11, setRow_new111]) | ((with_reducible apply wl_load' lwEv); (· (first | exact wanted_none rfl | exact wanted_some rfl rfl rfl)); (· rfl); (· infer_instance); (· rfl)) | (go_at_call 16; with_reducible refine Calls.mono (HPL.out _ (by repeat' (first | (with_reducible exact Ext.refl _) | (with_reducible exact ExtOf.ext _) | (with_reducible refine Ext.trans ?_ (ExtOf.ext _)) | (with_reducible refine Ext.alloc ?_ _) | (with_reducible refine Ext.drew ?_) | (with_reducible refine Ext.setCell ?_ ?_ _) | (with_reducible refine Ext.setRow ?_ ?_ _) | (with_reducible exact HX.out) | (with_reducible refine Ext.trans ?_ HX.out) | (with_reducible refine Ext.below ?_ (Nat.le_refl _) _) | omega | (simp; done) | (simp; omega)))) ?_; rintro en w' ⟨rfl, n2, rfl⟩) | (go_at_call 30; with_reducible refine Calls.mono (HWS.out _ (by repeat' (first | (with_reducible exact Ext.refl _) | (with_reducible exact ExtOf.ext _) | (with_reducible refine Ext.trans ?_ (ExtOf.ext _)) | (with_reducible refine Ext.alloc ?_ _) | (with_reducible refine Ext.drew ?_) | (with_reducible refine Ext.setCell ?_ ?_ _) | (with_reducible refine Ext.setRow ?_ ?_ _) | (with_reducible exact HX.out) | (with_reducible refine Ext.trans ?_ HX.out) | (with_reducible refine Ext.below ?_ (Nat.le_refl _) _) | omega | (simp; done) | (simp; omega)))) ?_; rintro en W2 ⟨rfl, hb2, _⟩; (have HB2 := Lib.hid hb2); clear hb2))
      go_roundw
      case rel => exact ⟨k + 1, by omega, by first | rfl | go_num, by rw [HST.out]; exact HB2.out⟩
      case measure => simp [intOf]; omega
    · obtain rfl : k = hs.length := by omega
      rw [List.take_of_length_le (by simp)] at HB
      have k1 : Block wr ss #[.string ⟨#[]⟩] := HB.out.2.1.block hbs (by omega) (by omega)
      have k2 : Block wr (ss + 1) #[.int .i64 E] := HB.out.2.1.block hbe (by omega) (by omega)
      go_wp2_with fail
      go_region
      go_wp2_with fail
      have c1 : wr.cell? ⟨ss, 0, none⟩ = some (.string ⟨#[]⟩) := by have := k1.cell (i := 0); simpa using this
      have c2 : wr.cell? ⟨ss + 1, 0, none⟩ = some (.int .i64 E) := by have := k2.cell (i := 0); simpa using this
      rw [setCell_same c1, setCell_same c2]
      have HBd : Hid (Bld W0 (ss + 1 + 1) wr.drew (storyL (evs hs))) := Lib.hid (HB.out.ext ((Ext.refl _).drew))
      have k3 : Block wr.drew ss #[.string ⟨#[]⟩] := k1.ext ((Ext.refl _).drew)
      have k4 : Block wr.drew (ss + 1) #[.int .i64 E] := k2.ext ((Ext.refl _).drew)
      have hxd : Ext w wr.drew := HBd.out.extw HX0.out (by have := HSS.out; omega)
      refine leaves_cons (f := 28) (args := #[.pointer (some ⟨ss + 1, 0, none⟩), .pointer (some ⟨ss + 1 + 1, 0, none⟩), .pointer (some ⟨ss, 0, none⟩)]) (by simp) (by simp [go_sem]) ?_
      by_cases he : E = 0
      · subst he
        refine (storyC_yes (ss + 1) (ss + 1 + 1) ss ⟨#[]⟩ (storyL (evs hs)) .returning W0 wr.drew k4 k3 HBd.out (by omega) (by omega) (by omega)).mono ?_
        rintro e u' w'' ⟨rfl, rfl, j1, j2, w1, hbl, hw⟩
        refine ⟨_, by simp [results, Tryz.results11, go_sem]; exact rfl, ?_, ?_⟩
        · unfold storyV
          rw [HEQ.out, ← HE.out]
        · rw [hw]
          exact ExtOf.of (Ext.setCell (Below.trans hxd (Below.mono hbl (by have := HSS.out; omega))) (by have := HSS.out; show w.heap.size ≤ ss; omega) _)
      · refine (storyC_no (ss + 1) (ss + 1 + 1) ss E .returning wr.drew k4 he).mono ?_
        rintro e u' w'' ⟨rfl, rfl, rfl⟩
        refine ⟨_, by simp [results, Tryz.results11, go_sem]; exact rfl, ?_, ?_⟩
        · unfold storyV histOf
          rw [← HE.out, if_neg he]
          rfl
        · exact ExtOf.of hxd
end Go.Proofs.YtjfohapnjnopfaaGreatDoor
