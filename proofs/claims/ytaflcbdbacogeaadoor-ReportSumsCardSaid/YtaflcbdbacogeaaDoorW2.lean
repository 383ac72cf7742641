/-
  ReportStocks: the walk.
-/
import Derived.Test.YtaflcbdbacogeaaDoorW1
import Derived.Test.YtaflcbdbacogeaaDoorX1
import Derived.Test.YtaflcbdbacogeaaDoorSoft
set_option linter.unusedVariables false
set_option linter.unusedSimpArgs false
namespace Go.Proofs.YtaflcbdbacogeaaDoor
open Go.RowKit ReportM

attribute [local go_sem] ExtOf.cell ExtOf.frozen ExtS.cell ExtS.frozen Block.cell Block.frozen ExtB.cell ExtB.frozen alloc_cell alloc_frozen eqRw eqYd eqgRw eqgYd
attribute [local simp] stCells
theorem its_ok {l : List Pl} (hl : l.length ≤ 1000) (h : ∀ x ∈ l, PlOk x) : ∀ y ∈ itsTo l l.length, ItOk y := by
  intro y hy
  obtain ⟨i, hi, he⟩ := List.mem_filterMap.1 hy
  obtain ⟨x, hx, rfl⟩ := Option.map_eq_some_iff.1 he
  obtain ⟨hlt, rfl⟩ := List.getElem?_eq_some_iff.1 hx
  obtain ⟨h1, h2, h3, h4⟩ := h _ (List.getElem_mem hlt)
  have hc : 0 ≤ clampL l[i].ln ∧ clampL l[i].ln ≤ 1073741824 := by unfold clampL; omega
  exact ⟨by simp [itAt], by simp [itAt]; omega, by simp [itAt]; omega, h1, h2, h3, h4⟩
def skT (st rst : Array Value) (pl : Int) (vc : Value) : Nat → Option Value
  | 38 => some (.agg st)
  | 39 => some (.int .i64 pl)
  | 41 => some (.agg rst)
  | 42 => some (.int .i64 pl)
  | 44 => some (.bool true)
  | 45 => some (.bool true)
  | 46 => some (vc)
  | 47 => some (.agg (suCells vc))
  | 48 => some (.agg st)
  | 49 => some (.int .i64 pl)
  | 51 => some (vc)
  | 52 => some (.agg (suCells vc))
  | 53 => some (.agg rst)
  | 54 => some (.int .i64 pl)
  | 56 => some (.bool true)
  | 57 => some (.bool true)
  | 58 => some (.bool true)
  | 59 => some (.bool true)
  | 60 => some (.bool true)
  | 6 => some (.bool true)
  | _ => none
def skA (st rst : Array Value) (pl : Int) (vc : Value) (d : Nat) (v : Value) : Prop := match skT st rst pl vc d with | some V => v = V | none => True
def skF (st rst : Array Value) (pl : Int) (vc : Value) (its : List It) (c : List Pd) : Nat → Value → World → Prop
  | 40, v, w => ∃ ts, Ok (xsOf its pl) ts ∧ Asc ts ∧ SliceOf encT 5 w v ts
  | 43, v, w => ∃ ts, Ok (xsOf its pl) ts ∧ Asc ts ∧ SliceOf encT 5 w v ts
  | 50, v, _ => ∃ ts, Ok (xsOf its pl) ts ∧ Asc ts ∧ v = .string ⟨(textF c ts).toArray⟩
  | 55, v, _ => ∃ ts, Ok (xsOf its pl) ts ∧ Asc ts ∧ v = .string ⟨(textF c ts).toArray⟩
  | d, v, _ => skA st rst pl vc d v
theorem skA_some (st rst : Array Value) (pl : Int) (vc : Value) (d : Nat) : ∃ v, skA st rst pl vc d v := by
  unfold skA
  cases skT st rst pl vc d with
  | none => exact ⟨undef, trivial⟩
  | some V => exact ⟨V, rfl⟩
theorem skF_keep (st rst : Array Value) (pl : Int) (vc : Value) (its : List It) (c : List Pd) (d : Nat) (v : Value) (w w' : World) (h : skF st rst pl vc its c d v w) (hx : Ext w w') : skF st rst pl vc its c d v w' := by
  unfold skF at *
  split at h
  · obtain ⟨ts, h1, h2, h3⟩ := h; exact ⟨ts, h1, h2, SliceOf.ext h3 hx⟩
  · obtain ⟨ts, h1, h2, h3⟩ := h; exact ⟨ts, h1, h2, SliceOf.ext h3 hx⟩
  · exact h
  · exact h
  · exact h
theorem stocks_same {its : List It} {pl : Int} {v40 v43 : Value} {W : World} (hl : its.length ≤ 1000) (hI : ∀ x ∈ its, ItOk x) (h1 : ∃ ts, Ok (xsOf its pl) ts ∧ Asc ts ∧ SliceOf encT 5 W v40 ts) (h2 : ∃ ts, Ok (xsOf its pl) ts ∧ Asc ts ∧ SliceOf encT 5 W v43 ts) :
    Calls Tryd.prog 11 #[v40, v43] W fun e w' => e = .returned (.bool true) ∧ ∃ n : ExtOf W, w' = n.val := by
  obtain ⟨ts, a1, a2, a3⟩ := h1
  obtain ⟨ts', b1, b2, b3⟩ := h2
  obtain rfl := Ok.unique a1 b1 a2 b2
  exact same_eq ts v40 v43 W a3 b3 (ok_len hl hI a1)
theorem fresh2 {R : World → Prop} {w w0 : World} (b0 b1 : Nat) {c0 c1 : Array Value} (h0 : Block w b0 c0) (h1 : Block w b1 c1) (hx : Ext w0 w) (h : ∀ W, Block W b0 c0 → Block W b1 c1 → Hid (Ext w0 W) → R W) : R w := h w h0 h1 hx
theorem str_eqop {W : World} {a : Act} {o : Oper} {x y : Operand} {s : ByteArray} (ho : o.op = .binOp .eql 9 x y 9) (hx : a.eval x = .string s) (hy : a.eval y = .string s) : (execOp a.eval o).run Tryd.prog W = .ok (.value (.bool true)) W := by
  unfold execOp
  simp only [ho, hx, hy]
  simp [go_sem]
theorem stocks_text {its : List It} {pl : Int} {c : List Pd} {v50 v55 : Value} {W : World} {a : Act} {o : Oper} {x y : Operand} (h1 : ∃ ts, Ok (xsOf its pl) ts ∧ Asc ts ∧ v50 = .string ⟨(textF c ts).toArray⟩) (h2 : ∃ ts, Ok (xsOf its pl) ts ∧ Asc ts ∧ v55 = .string ⟨(textF c ts).toArray⟩)
    (ho : o.op = .binOp .eql 9 x y 9) (hx : a.eval x = v50) (hy : a.eval y = v55) : (execOp a.eval o).run Tryd.prog W = .ok (.value (.bool true)) W := by
  obtain ⟨ts, a1, a2, rfl⟩ := h1
  obtain ⟨ts', b1, b2, rfl⟩ := h2
  obtain rfl := Ok.unique a1 b1 a2 b2
  exact str_eqop ho hx hy
set_option maxRecDepth 100000 in
set_option maxHeartbeats 3200000 in
theorem stocks_walk (l : List Pl) (c : List Pd) (pl : Int) (v0 v1 : Value) (w : World) (h0 : SliceOf encPl 5 w v0 l) (h1 : SliceOf encPd 7 w v1 c) (hP : ∀ x ∈ l, PlOk x) (htab : Tab w) : Calls Tryd.prog 3 #[v0, v1, .int .i64 pl] w fun e w' => e = .returned (.bool true) ∧ ∃ n : ExtOf w, w' = n.val := by
  obtain ⟨pv, cv, rfl, _, _, _⟩ := SliceOf.form h0
  obtain ⟨pc, cc, rfl, _, _, _⟩ := SliceOf.form h1
  have HT := Lib.hid htab
  have H0 := Lib.hid h0
  have HC := Lib.hid h1
  have HP := Lib.hid hP
  clear htab h0 h1 hP
  go_enter Tryd.func3, Tryd.ntmps3
  by_cases hlen : l.length ≤ 100
  · by_cases hclen : c.length ≤ 30
    · go_wp2_with fail
      go_loopw [7] (fun i wr => ∃ k : Nat, k ≤ c.length ∧ i = .int .i64 k ∧ (∀ j (hj : j < c.length), j < k → c[j].nm.size ≤ 100) ∧ Ext w wr) (fun i _ => c.length - (intOf i).toNat)
      case atStart => exact ⟨0, by omega, rfl, fun j _ hj => by omega, Ext.refl _⟩
      case round =>
        obtain ⟨k, hk, rfl, hall, hx⟩ := hrel
        have HX := Lib.hid hx
        have HA := Lib.hid hall
        clear hx hall
        by_cases hlt : k < c.length
        · obtain ⟨b, o, rfl, r0⟩ := SliceOf.elemK HC.out hlt
          have c0 : wr.cell? ⟨b, o + k * 7, none⟩ = some (.string c[k].nm) := (HX.out.range r0) 0 _ rfl
          have o2 : Old b wr := Old.of_cell c0
          clear r0
          by_cases hs : c[k].nm.size ≤ 100
          · go_wp2_with fail
            go_roundw
            case rel => exact ⟨k + 1, by omega, by first | rfl | go_num, fun j hj hjk => by
              rcases Nat.lt_or_ge j k with h | h
              · exact HA.out j hj h
              · obtain rfl : j = k := by omega
                exact hs, HX.out⟩
            case measure => simp [intOf]; omega
          · go_wp2_with (go_at_call 9; refine (awake_any _ (HT.out.ext HX.out)).mono ?_; rintro e W ⟨rfl, na, rfl⟩)
            go_ret
            exact ⟨rfl, ExtOf.of (HX.out.trans na.ext)⟩
        · have hc : ∀ q ∈ c, q.nm.size ≤ 100 := fun q hq => by
            obtain ⟨j, hj, rfl⟩ := List.getElem_of_mem hq
            exact HA.out j hj (by omega)
          have hok := its_ok (l := l) (by omega) HP.out
          have hl1 : (itsTo l l.length).length ≤ 1000 := by rw [itsTo_len (Nat.le_refl _)]; omega
          have HTr := Lib.hid (HT.out.ext HX.out)
          have H0r := Lib.hid (SliceOf.ext H0.out HX.out)
          have HCr := Lib.hid (SliceOf.ext HC.out HX.out)
          go_wp2_with (first | ((with_reducible apply wl_load' lwSt); (· (first | exact wanted_none rfl | exact wanted_some rfl rfl rfl)); (· rfl); (· infer_instance); (· rfl)) | ((with_reducible apply wl_load' lwRSt); (· (first | exact wanted_none rfl | exact wanted_some rfl rfl rfl)); (· rfl); (· infer_instance); (· rfl)) | ((with_reducible apply wl_store' lwSt); (· (first | exact wanted_none rfl | exact wanted_some rfl rfl rfl)); (· rfl); (· rfl); (· infer_instance); (· rfl); (· rfl); (· (simp [Value.oneCell'])); try simp only [setRow_alloc, setRow_new, setRow_new1, setRow_new2, setRow_new11, setRow_new111]) | ((with_reducible apply wl_store' lwRSt); (· (first | exact wanted_none rfl | exact wanted_some rfl rfl rfl)); (· rfl); (· rfl); (· infer_instance); (· rfl); (· rfl); (· (simp [Value.oneCell'])); try simp only [setRow_alloc, setRow_new, setRow_new1, setRow_new2, setRow_new11, setRow_new111]) | (go_at_call 10; refine (mill_any l [] [] _ _ _ _ H0r.out (SliceOf.nil _) (SliceOf.nil _) (by omega) (by decide) (by decide) (fun x hx => (HP.out x hx).2.2)).mono ?_; rintro e W ⟨vi, vri, vl, vrl, vo, vro, rfl, hi, hri, hl, hrl, ho, hro, nm, rfl⟩; obtain ⟨q1, k1, rfl, _, _, _⟩ := SliceOf.form hi; obtain ⟨q2, k2, rfl, _, _, _⟩ := SliceOf.form hri; obtain ⟨q3, k3, rfl, _, _, _⟩ := SliceOf.form hl; obtain ⟨q4, k4, rfl, _, _, _⟩ := SliceOf.form hrl; obtain ⟨q5, k5, rfl, _, _, _⟩ := SliceOf.form ho; obtain ⟨q6, k6, rfl, _, _, _⟩ := SliceOf.form hro; have HI := Lib.hid hi; have HL := Lib.hid hl; have HO := Lib.hid ho; have HRI := Lib.hid hri; have HRL := Lib.hid hrl; have HRO := Lib.hid hro; clear hi hri hl hrl ho hro))
          refine fresh2 (R := fun W => Code.wp _ _ _ _ W) (w0 := nm.val) nm.val.heap.size (nm.val.heap.size + 1) inferInstance inferInstance (by repeat' (first | (with_reducible exact Ext.refl _) | (with_reducible exact ExtOf.ext _) | (with_reducible refine Ext.trans ?_ (ExtOf.ext _)) | (with_reducible refine Ext.alloc ?_ _) | (with_reducible refine Ext.drew ?_) | (with_reducible refine Ext.setCell ?_ ?_ _) | (with_reducible refine Ext.setRow ?_ ?_ _) | (with_reducible exact HX.out) | (with_reducible refine Ext.trans ?_ HX.out) | (with_reducible refine Ext.below ?_ (Nat.le_refl _) _) | omega | (simp; done) | (simp; omega))) ?_
          intro W0 hB8 hB9 HXm
          have HXd : Hid (Ext nm.val W0.drew) := Lib.hid (Ext.drew HXm.out)
          have HB8 : Hid (Block W0.drew nm.val.heap.size (stCells (.slice q3 0 k3) (.slice q1 (itsTo l l.length).length k1) (.slice q5 0 k5))) := Lib.hid (Block.ext hB8 (Ext.drew (Ext.refl _)))
          have HB9 : Hid (Block W0.drew (nm.val.heap.size + 1) (stCells (.slice q4 0 k4) (.slice q2 (itsTo l l.length).length k2) (.slice q6 0 k6))) := Lib.hid (Block.ext hB9 (Ext.drew (Ext.refl _)))
          replace HI := Lib.hid (SliceOf.ext HI.out HXd.out)
          replace HRI := Lib.hid (SliceOf.ext HRI.out HXd.out)
          replace HC := Lib.hid (SliceOf.ext HCr.out (nm.ext.trans HXd.out))
          replace HT := Lib.hid (HTr.out.ext (nm.ext.trans HXd.out))
          have HXe : Hid (Ext w W0.drew) := Lib.hid (HX.out.trans (nm.ext.trans HXd.out))
          clear hB8 hB9
          refine wp_region_soft (skA (stCells (.slice q3 0 k3) (.slice q1 (itsTo l l.length).length k1) (.slice q5 0 k5)) (stCells (.slice q4 0 k4) (.slice q2 (itsTo l l.length).length k2) (.slice q6 0 k6)) pl (.slice pc c.length cc)) (skF (stCells (.slice q3 0 k3) (.slice q1 (itsTo l l.length).length k1) (.slice q5 0 k5)) (stCells (.slice q4 0 k4) (.slice q2 (itsTo l l.length).length k2) (.slice q6 0 k6)) pl (.slice pc c.length cc) (itsTo l l.length) c) (by kernel_rfl) (by kernel_rfl) (by kernel_rfl) (by kernel_rfl) (skA_some _ _ _ _) (skF_keep _ _ _ _ _ _) ?_
          refine soft_det (d := 38) (V := .agg (stCells (.slice q3 0 k3) (.slice q1 (itsTo l l.length).length k1) (.slice q5 0 k5))) rfl (by kernel_rfl) (fun v h => h) rfl (fun _ => rfl) (fun W hx _ => run_load_op lwSt rfl (by kernel_rfl) (Block.ext HB8.out hx) rfl) ?_
          refine soft_det (d := 39) (V := .int .i64 pl) rfl (by kernel_rfl) (fun v h => h) rfl (fun _ => rfl) (fun W _ _ => by kernel_rfl) ?_
          refine soft_callS (d := 40) (f := 12) (vals := #[.agg (stCells (.slice q3 0 k3) (.slice q1 (itsTo l l.length).length k1) (.slice q5 0 k5)), .int .i64 pl]) rfl (by kernel_rfl) (fun v => trivial) (fun W => by kernel_rfl) (fun W hx _ => (stock_walk (itsTo l l.length) _ _ _ pl W (SliceOf.ext HI.out hx) hl1 hok).mono fun e w' ⟨v, ts, he, h1, h2, h3, hn⟩ => ⟨v, he, ⟨ts, h1, h2, h3⟩, hn⟩) ?_
          intro v40
          refine soft_det (d := 41) (V := .agg (stCells (.slice q4 0 k4) (.slice q2 (itsTo l l.length).length k2) (.slice q6 0 k6))) rfl (by kernel_rfl) (fun v h => h) rfl (fun _ => rfl) (fun W hx _ => run_load_op lwRSt rfl (by kernel_rfl) (Block.ext HB9.out hx) rfl) ?_
          refine soft_det (d := 42) (V := .int .i64 pl) rfl (by kernel_rfl) (fun v h => h) rfl (fun _ => rfl) (fun W _ _ => by kernel_rfl) ?_
          refine soft_callS (d := 43) (f := 13) (vals := #[.agg (stCells (.slice q4 0 k4) (.slice q2 (itsTo l l.length).length k2) (.slice q6 0 k6)), .int .i64 pl]) rfl (by kernel_rfl) (fun v => trivial) (fun W => by kernel_rfl) (fun W hx _ => (rstock_walk (itsTo l l.length) _ _ _ pl W (SliceOf.ext HRI.out hx) hl1 hok).mono fun e w' ⟨v, ts, he, h1, h2, h3, hn⟩ => ⟨v, he, ⟨ts, h1, h2, h3⟩, hn⟩) ?_
          intro v43
          refine soft_call (d := 44) (V := .bool true) (f := 11) (vals := #[v40, v43]) rfl (by kernel_rfl) (fun v h => h) rfl (fun _ => rfl) (fun W => by kernel_rfl) (fun W hx hk => stocks_same hl1 hok (known_get (F := skF (stCells (.slice q3 0 k3) (.slice q1 (itsTo l l.length).length k1) (.slice q5 0 k5)) (stCells (.slice q4 0 k4) (.slice q2 (itsTo l l.length).length k2) (.slice q6 0 k6)) pl (.slice pc c.length cc) (itsTo l l.length) c) (d := 40) (v := v40) (n := 2) hk (by kernel_rfl) (by kernel_rfl) (by kernel_rfl)) (known_get (d := 43) (v := v43) (n := 5) hk (by kernel_rfl) (by kernel_rfl) (by kernel_rfl))) ?_
          refine soft_det (d := 45) (V := .bool true) rfl (by kernel_rfl) (fun v h => h) rfl (fun _ => rfl) (fun W _ _ => by kernel_rfl) ?_
          refine soft_det (d := 46) (V := (.slice pc c.length cc)) rfl (by kernel_rfl) (fun v h => h) rfl (fun _ => rfl) (fun W _ _ => by kernel_rfl) ?_
          refine soft_det (d := 47) (V := .agg (suCells (.slice pc c.length cc))) rfl (by kernel_rfl) (fun v h => h) rfl (fun _ => rfl) (fun W _ _ => by kernel_rfl) ?_
          refine soft_det (d := 48) (V := .agg (stCells (.slice q3 0 k3) (.slice q1 (itsTo l l.length).length k1) (.slice q5 0 k5))) rfl (by kernel_rfl) (fun v h => h) rfl (fun _ => rfl) (fun W hx _ => run_load_op lwSt rfl (by kernel_rfl) (Block.ext HB8.out hx) rfl) ?_
          refine soft_det (d := 49) (V := .int .i64 pl) rfl (by kernel_rfl) (fun v h => h) rfl (fun _ => rfl) (fun W _ _ => by kernel_rfl) ?_
          refine soft_callS (d := 50) (f := 14) (vals := #[.agg (suCells (.slice pc c.length cc)), .agg (stCells (.slice q3 0 k3) (.slice q1 (itsTo l l.length).length k1) (.slice q5 0 k5)), .int .i64 pl]) rfl (by kernel_rfl) (fun v => trivial) (fun W => by kernel_rfl) (fun W hx _ => (text_walk (itsTo l l.length) c _ _ _ _ pl W (SliceOf.ext HI.out hx) (SliceOf.ext HC.out hx) hl1 hok hc (by omega) (HT.out.ext hx)).mono fun e w' ⟨ts, he, h1, h2, hn⟩ => ⟨_, he, ⟨ts, h1, h2, rfl⟩, hn⟩) ?_
          intro v50
          refine soft_det (d := 51) (V := (.slice pc c.length cc)) rfl (by kernel_rfl) (fun v h => h) rfl (fun _ => rfl) (fun W _ _ => by kernel_rfl) ?_
          refine soft_det (d := 52) (V := .agg (suCells (.slice pc c.length cc))) rfl (by kernel_rfl) (fun v h => h) rfl (fun _ => rfl) (fun W _ _ => by kernel_rfl) ?_
          refine soft_det (d := 53) (V := .agg (stCells (.slice q4 0 k4) (.slice q2 (itsTo l l.length).length k2) (.slice q6 0 k6))) rfl (by kernel_rfl) (fun v h => h) rfl (fun _ => rfl) (fun W hx _ => run_load_op lwRSt rfl (by kernel_rfl) (Block.ext HB9.out hx) rfl) ?_
          refine soft_det (d := 54) (V := .int .i64 pl) rfl (by kernel_rfl) (fun v h => h) rfl (fun _ => rfl) (fun W _ _ => by kernel_rfl) ?_
          refine soft_callS (d := 55) (f := 15) (vals := #[.agg (suCells (.slice pc c.length cc)), .agg (stCells (.slice q4 0 k4) (.slice q2 (itsTo l l.length).length k2) (.slice q6 0 k6)), .int .i64 pl]) rfl (by kernel_rfl) (fun v => trivial) (fun W => by kernel_rfl) (fun W hx _ => (rtext_walk (itsTo l l.length) c _ _ _ _ pl W (SliceOf.ext HRI.out hx) (SliceOf.ext HC.out hx) hl1 hok hc (by omega)).mono fun e w' ⟨ts, he, h1, h2, hn⟩ => ⟨_, he, ⟨ts, h1, h2, rfl⟩, hn⟩) ?_
          intro v55
          refine soft_det (d := 56) (V := .bool true) rfl (by kernel_rfl) (fun v h => h) rfl (fun _ => rfl) (fun W hx hk => stocks_text (known_get (F := skF (stCells (.slice q3 0 k3) (.slice q1 (itsTo l l.length).length k1) (.slice q5 0 k5)) (stCells (.slice q4 0 k4) (.slice q2 (itsTo l l.length).length k2) (.slice q6 0 k6)) pl (.slice pc c.length cc) (itsTo l l.length) c) (d := 50) (v := v50) (n := 12) hk (by kernel_rfl) (by kernel_rfl) (by kernel_rfl)) (known_get (F := skF (stCells (.slice q3 0 k3) (.slice q1 (itsTo l l.length).length k1) (.slice q5 0 k5)) (stCells (.slice q4 0 k4) (.slice q2 (itsTo l l.length).length k2) (.slice q6 0 k6)) pl (.slice pc c.length cc) (itsTo l l.length) c) (d := 55) (v := v55) (n := 17) hk (by kernel_rfl) (by kernel_rfl) (by kernel_rfl)) rfl (by kernel_rfl) (by kernel_rfl)) ?_
          refine soft_det (d := 57) (V := .bool true) rfl (by kernel_rfl) (fun v h => h) rfl (fun _ => rfl) (fun W _ _ => by kernel_rfl) ?_
          refine soft_det (d := 58) (V := .bool true) rfl (by kernel_rfl) (fun v h => h) rfl (fun _ => rfl) (fun W _ _ => by kernel_rfl) ?_
          refine soft_call (d := 59) (V := .bool true) (f := 9) (vals := #[]) rfl (by kernel_rfl) (fun v h => h) rfl (fun _ => rfl) (fun W => by kernel_rfl) (fun W hx hk => awake_any W (HT.out.ext hx)) ?_
          refine soft_det (d := 60) (V := .bool true) rfl (by kernel_rfl) (fun v h => h) rfl (fun _ => rfl) (fun W _ _ => by kernel_rfl) ?_
          refine soft_det (d := 6) (V := .bool true) rfl (by kernel_rfl) (fun v h => h) rfl (fun _ => rfl) (fun W _ _ => by kernel_rfl) ?_
          intro W' hx'
          have HX2 : Hid (Ext w W') := Lib.hid (HXe.out.trans hx')
          simp only [Act.put, List.setIfInBounds_toArray, List.set_cons_succ, List.set_cons_zero]
          go_wp2
          go_ret
          exact ⟨rfl, ExtOf.of HX2.out⟩
    · go_wp2_with (go_at_call 9; refine (awake_any _ (HT.out.ext (by repeat' (first | (with_reducible exact Ext.refl _) | (with_reducible exact ExtOf.ext _) | (with_reducible refine Ext.trans ?_ (ExtOf.ext _)) | (with_reducible refine Ext.alloc ?_ _) | (with_reducible refine Ext.drew ?_) | (with_reducible refine Ext.setCell ?_ ?_ _) | (with_reducible refine Ext.setRow ?_ ?_ _) | (with_reducible exact HX.out) | (with_reducible refine Ext.trans ?_ HX.out) | (with_reducible refine Ext.below ?_ (Nat.le_refl _) _) | omega | (simp; done) | (simp; omega))))).mono ?_; rintro e W ⟨rfl, na, rfl⟩)
      go_ret
      exact ⟨rfl, by exact ExtOf.of (by repeat' (first | (with_reducible exact Ext.refl _) | (with_reducible exact ExtOf.ext _) | (with_reducible refine Ext.trans ?_ (ExtOf.ext _)) | (with_reducible refine Ext.alloc ?_ _) | (with_reducible refine Ext.drew ?_) | (with_reducible refine Ext.setCell ?_ ?_ _) | (with_reducible refine Ext.setRow ?_ ?_ _) | (with_reducible exact HX.out) | (with_reducible refine Ext.trans ?_ HX.out) | (with_reducible refine Ext.below ?_ (Nat.le_refl _) _) | omega | (simp; done) | (simp; omega)))⟩
  · go_wp2_with (go_at_call 9; refine (awake_any _ (HT.out.ext (by repeat' (first | (with_reducible exact Ext.refl _) | (with_reducible exact ExtOf.ext _) | (with_reducible refine Ext.trans ?_ (ExtOf.ext _)) | (with_reducible refine Ext.alloc ?_ _) | (with_reducible refine Ext.drew ?_) | (with_reducible refine Ext.setCell ?_ ?_ _) | (with_reducible refine Ext.setRow ?_ ?_ _) | (with_reducible exact HX.out) | (with_reducible refine Ext.trans ?_ HX.out) | (with_reducible refine Ext.below ?_ (Nat.le_refl _) _) | omega | (simp; done) | (simp; omega))))).mono ?_; rintro e W ⟨rfl, na, rfl⟩)
    go_ret
    exact ⟨rfl, by exact ExtOf.of (by repeat' (first | (with_reducible exact Ext.refl _) | (with_reducible exact ExtOf.ext _) | (with_reducible refine Ext.trans ?_ (ExtOf.ext _)) | (with_reducible refine Ext.alloc ?_ _) | (with_reducible refine Ext.drew ?_) | (with_reducible refine Ext.setCell ?_ ?_ _) | (with_reducible refine Ext.setRow ?_ ?_ _) | (with_reducible exact HX.out) | (with_reducible refine Ext.trans ?_ HX.out) | (with_reducible refine Ext.below ?_ (Nat.le_refl _) _) | omega | (simp; done) | (simp; omega)))⟩
end Go.Proofs.YtaflcbdbacogeaaDoor
