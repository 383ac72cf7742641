/-
  Chapter 59: whether a setup is small.
-/
import Derived.Test.YteokijolhbohaaaGreatDoorK21
set_option linter.unusedVariables false
set_option linter.unusedSimpArgs false
namespace Go.Proofs.YteokijolhbohaaaGreatDoor
open Go.RowKit StM

attribute [local go_sem] ExtOf.cell ExtOf.frozen Block.cell Block.frozen ExtB.cell ExtB.frozen alloc_cell alloc_frozen
/-- what is handed back: some Boolean -/
def BoolRet (w : World) (e : Ending) (w' : World) : Prop := ∃ c : Bool, e = .returned (.bool c) ∧ ∃ n : ExtOf w, w' = n.val
/-- the lists of a setup -/
structure SuL where
  ps : List PdP
  ss : List Spc
  rs : List RuP
  cs : List SchP
/-- a setup lies in memory -/
structure SuI (w : World) (l : SuL) (vp vs vr vc : Value) : Prop where
  p : PdS w vp l.ps
  s : SpcS w vs l.ss
  r : RuS w vr l.rs
  c : SchS w vc l.cs
theorem SuI.ext {w w' : World} {l : SuL} {vp vs vr vc : Value} (h : SuI w l vp vs vr vc) (hx : Ext w w') : SuI w' l vp vs vr vc := ⟨h.p.ext hx, SliceOf.ext h.s hx, h.r.ext hx, h.c.ext hx⟩
set_option maxHeartbeats 3200000 in
set_option maxRecDepth 20000 in
theorem small_any (l : SuL) (vp vs vr vc : Value) (ke tr pi st ch du fi li ga : Int) (w : World) (h : SuI w l vp vs vr vc) :
    Calls Tryz.prog 4 #[.agg #[vp, vs, vr, vc, .int .i64 ke, .int .i64 tr, .int .i64 pi, .int .i64 st, .int .i64 ch, .int .i64 du, .int .i64 fi, .int .i64 li, .int .i64 ga]] w (BoolRet w) := by
  obtain ⟨ps, ss, rs, cs⟩ := l
  obtain ⟨hp, hs, hr, hc⟩ := h
  obtain ⟨pp, pc, rfl, p1, p2, p3⟩ := SliceOf.form hp.1
  obtain ⟨sp, sc, rfl, s1, s2, s3⟩ := SliceOf.form hs
  obtain ⟨rp, rc, rfl, r1, r2, r3⟩ := SliceOf.form hr.1
  obtain ⟨cp, cc, rfl, c1, c2, c3⟩ := SliceOf.form hc.1
  simp only at p1 s1 r1 c1 hp hs hr hc ⊢
  unfold maxLen at p2 s2 r2 c2
  have HP := Lib.hid hp.1
  have HSS := Lib.hid hs
  have HRR := Lib.hid hr.1
  have HRD := Lib.hid hr.2
  have HC := Lib.hid hc.1
  clear hp hs hr hc
  have HX0 : Hid (Ext w w) := Lib.hid (Ext.refl w)
  rcases t1 : decide (20 < (ps.length : Int)) with _ | _
  case true =>
    go_enter Tryz.func4, Tryz.ntmps4
    go_wp2_with fail
    go_ret
    exact ⟨_, rfl, by first | exact ExtOf.of (by with_reducible repeat' (first | exact Ext.refl _ | exact ExtOf.ext _ | refine Ext.trans ?_ (ExtOf.ext _) | refine Ext.alloc ?_ _ | refine Ext.drew ?_ | refine Ext.setCell ?_ ?_ _ | refine Ext.setRow ?_ ?_ _ | exact HX.out | refine Ext.trans ?_ HX.out | omega | (simp; done) | (simp; omega))) | exact ExtOf.of HX.out⟩
  rcases t2 : decide (10 < (ss.length : Int)) with _ | _
  case true =>
    go_enter Tryz.func4, Tryz.ntmps4
    go_wp2_with fail
    go_ret
    exact ⟨_, rfl, by first | exact ExtOf.of (by with_reducible repeat' (first | exact Ext.refl _ | exact ExtOf.ext _ | refine Ext.trans ?_ (ExtOf.ext _) | refine Ext.alloc ?_ _ | refine Ext.drew ?_ | refine Ext.setCell ?_ ?_ _ | refine Ext.setRow ?_ ?_ _ | exact HX.out | refine Ext.trans ?_ HX.out | omega | (simp; done) | (simp; omega))) | exact ExtOf.of HX.out⟩
  rcases t3 : decide (40 < (rs.length : Int)) with _ | _
  case true =>
    go_enter Tryz.func4, Tryz.ntmps4
    go_wp2_with fail
    go_ret
    exact ⟨_, rfl, by first | exact ExtOf.of (by with_reducible repeat' (first | exact Ext.refl _ | exact ExtOf.ext _ | refine Ext.trans ?_ (ExtOf.ext _) | refine Ext.alloc ?_ _ | refine Ext.drew ?_ | refine Ext.setCell ?_ ?_ _ | refine Ext.setRow ?_ ?_ _ | exact HX.out | refine Ext.trans ?_ HX.out | omega | (simp; done) | (simp; omega))) | exact ExtOf.of HX.out⟩
  rcases t4 : decide (10 < (cs.length : Int)) with _ | _
  case true =>
    go_enter Tryz.func4, Tryz.ntmps4
    go_wp2_with fail
    go_ret
    exact ⟨_, rfl, by first | exact ExtOf.of (by with_reducible repeat' (first | exact Ext.refl _ | exact ExtOf.ext _ | refine Ext.trans ?_ (ExtOf.ext _) | refine Ext.alloc ?_ _ | refine Ext.drew ?_ | refine Ext.setCell ?_ ?_ _ | refine Ext.setRow ?_ ?_ _ | exact HX.out | refine Ext.trans ?_ HX.out | omega | (simp; done) | (simp; omega))) | exact ExtOf.of HX.out⟩
  rcases t5 : decide (0 < st) with _ | _
  · go_enter Tryz.func4, Tryz.ntmps4
    go_wp2_with fail
    have hb0 : Block (w.alloc (.cells #[.slice pp ps.length pc, .slice sp ss.length sc, .slice rp rs.length rc, .slice cp cs.length cc, .int .i64 ke, .int .i64 tr, .int .i64 pi, .int .i64 st, .int .i64 ch, .int .i64 du, .int .i64 fi, .int .i64 li, .int .i64 ga] 31)) w.heap.size #[.slice pp ps.length pc, .slice sp ss.length sc, .slice rp rs.length rc, .slice cp cs.length cc, .int .i64 ke, .int .i64 tr, .int .i64 pi, .int .i64 st, .int .i64 ch, .int .i64 du, .int .i64 fi, .int .i64 li, .int .i64 ga] := inferInstance
    obtain ⟨g, hg⟩ : ∃ g, g = w.heap.size := ⟨_, rfl⟩
    rw [← hg] at hb0 ⊢
    clear hg
    go_loopw [4] (fun vi wr => ∃ k : Nat, k ≤ ps.length ∧ vi = .int .i64 k ∧ Ext w wr ∧ Block wr g #[.slice pp ps.length pc, .slice sp ss.length sc, .slice rp rs.length rc, .slice cp cs.length cc, .int .i64 ke, .int .i64 tr, .int .i64 pi, .int .i64 st, .int .i64 ch, .int .i64 du, .int .i64 fi, .int .i64 li, .int .i64 ga]) (fun i _ => ps.length - (intOf i).toNat)
    case atStart => exact ⟨0, by omega, rfl, by with_reducible repeat' (first | exact Ext.refl _ | exact ExtOf.ext _ | refine Ext.trans ?_ (ExtOf.ext _) | refine Ext.alloc ?_ _ | refine Ext.drew ?_ | refine Ext.setCell ?_ ?_ _ | refine Ext.setRow ?_ ?_ _ | exact HX.out | refine Ext.trans ?_ HX.out | omega | (simp; done) | (simp; omega)), hb0⟩
    case round =>
      clear hb0
      obtain ⟨k, hk, rfl, hx, hbk⟩ := hrel
      have HX := Lib.hid hx
      have obk := hbk.old
      clear hx
      by_cases hlt : k < ps.length
      · have qk : decide ((k : Int) < (ps.length : Int)) = true := decide_eq_true (by omega)
        obtain ⟨b, off, rfl, ob, hr⟩ := SliceOf.elemO (SliceOf.ext HP.out HX.out) hlt (by decide) (encPd_len _)
        obtain ⟨⟨⟨nm, th, wi, al, wa, ls, pl⟩, ⟨q1, n1, c1'⟩, ⟨q2, n2, c2'⟩⟩, he⟩ : ∃ z, z = ps[k] := ⟨_, rfl⟩
        rw [← he] at hr
        clear he
        have h0 : wr.cell? ⟨b, off + k * 7, none⟩ = some (.string nm) := by simpa using hr 0 (.string nm) rfl
        have h5 : wr.cell? ⟨b, off + k * 7 + 5, none⟩ = some (.slice q1 n1 c1') := hr 5 (.slice q1 n1 c1') rfl
        have h6 : wr.cell? ⟨b, off + k * 7 + 6, none⟩ = some (.slice q2 n2 c2') := hr 6 (.slice q2 n2 c2') rfl
        clear hr
        rcases u1 : decide (100 < (nm.size : Int)) with _ | _
        case true =>
          go_wp2_with fail
          go_ret
          exact ⟨_, rfl, by first | exact ExtOf.of (by with_reducible repeat' (first | exact Ext.refl _ | exact ExtOf.ext _ | refine Ext.trans ?_ (ExtOf.ext _) | refine Ext.alloc ?_ _ | refine Ext.drew ?_ | refine Ext.setCell ?_ ?_ _ | refine Ext.setRow ?_ ?_ _ | exact HX.out | refine Ext.trans ?_ HX.out | omega | (simp; done) | (simp; omega))) | exact ExtOf.of HX.out⟩
        rcases u2 : decide (10 < (n1 : Int)) with _ | _
        case true =>
          go_wp2_with fail
          go_ret
          exact ⟨_, rfl, by first | exact ExtOf.of (by with_reducible repeat' (first | exact Ext.refl _ | exact ExtOf.ext _ | refine Ext.trans ?_ (ExtOf.ext _) | refine Ext.alloc ?_ _ | refine Ext.drew ?_ | refine Ext.setCell ?_ ?_ _ | refine Ext.setRow ?_ ?_ _ | exact HX.out | refine Ext.trans ?_ HX.out | omega | (simp; done) | (simp; omega))) | exact ExtOf.of HX.out⟩
        rcases u3 : decide (10 < (n2 : Int)) with _ | _
        case true =>
          go_wp2_with fail
          go_ret
          exact ⟨_, rfl, by first | exact ExtOf.of (by with_reducible repeat' (first | exact Ext.refl _ | exact ExtOf.ext _ | refine Ext.trans ?_ (ExtOf.ext _) | refine Ext.alloc ?_ _ | refine Ext.drew ?_ | refine Ext.setCell ?_ ?_ _ | refine Ext.setRow ?_ ?_ _ | exact HX.out | refine Ext.trans ?_ HX.out | omega | (simp; done) | (simp; omega))) | exact ExtOf.of HX.out⟩
        go_wp2_with fail
        go_roundw
        case rel => exact ⟨k + 1, by omega, by first | rfl | go_num, HX.out.trans (by with_reducible repeat' (first | exact Ext.refl _ | exact ExtOf.ext _ | refine Ext.trans ?_ (ExtOf.ext _) | refine Ext.alloc ?_ _ | refine Ext.drew ?_ | refine Ext.setCell ?_ ?_ _ | refine Ext.setRow ?_ ?_ _ | exact HX.out | refine Ext.trans ?_ HX.out | omega | (simp; done) | (simp; omega))), inferInstance⟩
        case measure => simp [intOf]; omega
      obtain rfl : k = ps.length := by omega
      have qk : decide ((ps.length : Int) < (ps.length : Int)) = false := decide_eq_false (by omega)
      clear hlt hk
      go_wp2_with fail
      go_loopw [3, 5] (fun vn vi wr => ∃ (k : Nat) (r : Int), k ≤ ss.length ∧ vi = .int .i64 k ∧ vn = .int .i64 r ∧ Ext w wr ∧ Block wr g #[.slice pp ps.length pc, .slice sp ss.length sc, .slice rp rs.length rc, .slice cp cs.length cc, .int .i64 ke, .int .i64 tr, .int .i64 pi, .int .i64 st, .int .i64 ch, .int .i64 du, .int .i64 fi, .int .i64 li, .int .i64 ga]) (fun _ i _ => ss.length - (intOf i).toNat)
      case atStart => exact ⟨0, 0, by omega, rfl, rfl, HX.out.trans (by with_reducible repeat' (first | exact Ext.refl _ | exact ExtOf.ext _ | refine Ext.trans ?_ (ExtOf.ext _) | refine Ext.alloc ?_ _ | refine Ext.drew ?_ | refine Ext.setCell ?_ ?_ _ | refine Ext.setRow ?_ ?_ _ | exact HX.out | refine Ext.trans ?_ HX.out | omega | (simp; done) | (simp; omega))), inferInstance⟩
      case round =>
        clear hbk HX obk
        obtain ⟨k, r, hk, rfl, rfl, hx, hbk⟩ := hrel
        have HX := Lib.hid hx
        have obk := hbk.old
        clear hx
        by_cases hlt : k < ss.length
        · have qk : decide ((k : Int) < (ss.length : Int)) = true := decide_eq_true (by omega)
          obtain ⟨b, off, rfl, ob, hr⟩ := SliceOf.elemO (SliceOf.ext HSS.out HX.out) hlt (by decide) (encSpc_len _)
          obtain ⟨nm, he⟩ : ∃ z, z = (ss[k]).nm := ⟨_, rfl⟩
          have h0 : wr.cell? ⟨b, off + k * 13, none⟩ = some (.string nm) := by rw [he]; simpa using hr 0 (.string (ss[k]).nm) rfl
          clear hr he
          go_wp2_with fail
          go_roundw
          case rel => exact ⟨k + 1, _, by omega, by first | rfl | go_num, rfl, HX.out.trans (by with_reducible repeat' (first | exact Ext.refl _ | exact ExtOf.ext _ | refine Ext.trans ?_ (ExtOf.ext _) | refine Ext.alloc ?_ _ | refine Ext.drew ?_ | refine Ext.setCell ?_ ?_ _ | refine Ext.setRow ?_ ?_ _ | exact HX.out | refine Ext.trans ?_ HX.out | omega | (simp; done) | (simp; omega))), inferInstance⟩
          case measure => simp [intOf]; omega
        obtain rfl : k = ss.length := by omega
        have qk : decide ((ss.length : Int) < (ss.length : Int)) = false := decide_eq_false (by omega)
        clear hlt hk
        go_wp2_with fail
        go_loopw [3, 6] (fun vn vi wr => ∃ (k : Nat) (r : Int), k ≤ cs.length ∧ vi = .int .i64 k ∧ vn = .int .i64 r ∧ Ext w wr ∧ Block wr g #[.slice pp ps.length pc, .slice sp ss.length sc, .slice rp rs.length rc, .slice cp cs.length cc, .int .i64 ke, .int .i64 tr, .int .i64 pi, .int .i64 st, .int .i64 ch, .int .i64 du, .int .i64 fi, .int .i64 li, .int .i64 ga]) (fun _ i _ => cs.length - (intOf i).toNat)
        case atStart => exact ⟨0, r, by omega, rfl, rfl, HX.out.trans (by with_reducible repeat' (first | exact Ext.refl _ | exact ExtOf.ext _ | refine Ext.trans ?_ (ExtOf.ext _) | refine Ext.alloc ?_ _ | refine Ext.drew ?_ | refine Ext.setCell ?_ ?_ _ | refine Ext.setRow ?_ ?_ _ | exact HX.out | refine Ext.trans ?_ HX.out | omega | (simp; done) | (simp; omega))), inferInstance⟩
        case round =>
          clear hbk HX obk
          obtain ⟨k, r, hk, rfl, rfl, hx, hbk⟩ := hrel
          have HX := Lib.hid hx
          have obk := hbk.old
          clear hx
          by_cases hlt : k < cs.length
          · have qk : decide ((k : Int) < (cs.length : Int)) = true := decide_eq_true (by omega)
            obtain ⟨b, off, rfl, ob, hr⟩ := SliceOf.elemO (SliceOf.ext HC.out HX.out) hlt (by decide) (encSch_len _)
            obtain ⟨⟨⟨nm, ramp, sts⟩, ⟨q1, n1, c1'⟩⟩, he⟩ : ∃ z, z = cs[k] := ⟨_, rfl⟩
            rw [← he] at hr
            have h0 : wr.cell? ⟨b, off + k * 3, none⟩ = some (.string nm) := by simpa using hr 0 (.string nm) rfl
            have h2 : wr.cell? ⟨b, off + k * 3 + 2, none⟩ = some (.slice q1 n1 c1') := hr 2 (.slice q1 n1 c1') rfl
            clear hr he
            go_wp2_with fail
            refine wp_region_ext (by kernel_rfl) (by kernel_rfl) ?_
            repeat (first | go_big_quiet_skip | go_big_quiet_step (fail))
            refine wpQuiet_nil ?_
            intro _ hw'
            obtain ⟨nq, hw''⟩ := hw'
            subst hw''
            go_wp2_with fail
            go_roundw
            case rel => exact ⟨k + 1, _, by omega, by first | rfl | go_num, rfl, HX.out.trans (by with_reducible repeat' (first | exact Ext.refl _ | exact ExtOf.ext _ | refine Ext.trans ?_ (ExtOf.ext _) | refine Ext.alloc ?_ _ | refine Ext.drew ?_ | refine Ext.setCell ?_ ?_ _ | refine Ext.setRow ?_ ?_ _ | exact HX.out | refine Ext.trans ?_ HX.out | omega | (simp; done) | (simp; omega))), inferInstance⟩
            case measure => simp [intOf]; omega
          obtain rfl : k = cs.length := by omega
          have qk : decide ((cs.length : Int) < (cs.length : Int)) = false := decide_eq_false (by omega)
          clear hlt hk
          go_wp2_with fail
          go_loopw [7, 8] (fun vn vi wr => ∃ k m : Nat, k ≤ rs.length ∧ vi = .int .i64 k ∧ vn = .int .i64 m ∧ m ≤ 401 ∧ Ext w wr ∧ Block wr g #[.slice pp ps.length pc, .slice sp ss.length sc, .slice rp rs.length rc, .slice cp cs.length cc, .int .i64 ke, .int .i64 tr, .int .i64 pi, .int .i64 st, .int .i64 ch, .int .i64 du, .int .i64 fi, .int .i64 li, .int .i64 ga]) (fun _ i _ => rs.length - (intOf i).toNat)
          case atStart => exact ⟨0, 0, by omega, rfl, rfl, by omega, HX.out.trans (by with_reducible repeat' (first | exact Ext.refl _ | exact ExtOf.ext _ | refine Ext.trans ?_ (ExtOf.ext _) | refine Ext.alloc ?_ _ | refine Ext.drew ?_ | refine Ext.setCell ?_ ?_ _ | refine Ext.setRow ?_ ?_ _ | exact HX.out | refine Ext.trans ?_ HX.out | omega | (simp; done) | (simp; omega))), inferInstance⟩
          case round =>
            clear hbk HX obk
            obtain ⟨k, m, hk, rfl, rfl, hm, hx, hbk⟩ := hrel
            have HX := Lib.hid hx
            have obk := hbk.old
            clear hx
            by_cases hlt : k < rs.length
            · have qk : decide ((k : Int) < (rs.length : Int)) = true := decide_eq_true (by omega)
              by_cases hm2 : m ≤ 200
              · have qm : decide ((m : Int) ≤ 200) = true := decide_eq_true (by omega)
                obtain ⟨b, off, rfl, ob, hr⟩ := SliceOf.elemO (SliceOf.ext HRR.out HX.out) hlt (by decide) (encRu_len _)
                have hda := HRD.out _ (List.getElem_mem hlt)
                obtain ⟨⟨gr, ⟨op, num, nm, hd, args⟩⟩, he⟩ : ∃ z, z = rs[k] := ⟨_, rfl⟩
                rw [← he] at hr hda
                have HDA : Hid (ExD 210 wr ⟨op, num, nm, hd, args⟩) := Lib.hid (hda.ext HX.out)
                have HR2 : Hid (wr.rangeAt b (off + k * 5 + 1) [.int .i64 op, .int .i64 num, .string nm, hd.v]) := Lib.hid fun j u hj => by
                  have := hr (j + 1) u hj
                  rw [show off + k * 5 + 1 + j = off + k * 5 + (j + 1) by omega]
                  exact this
                clear hr he hda
                have HC2 : Hid (∀ W, Ext wr W → Calls Tryz.prog 8 #[.agg #[.int .i64 op, .int .i64 num, .string nm, hd.v], .int .i64 201] W (SizeRet 201 W)) := Lib.hid fun W hW => size_any 210 (by decide) 201 (by decide) (by decide) ⟨op, num, nm, hd, args⟩ W (HDA.out.ext hW)
                go_wp2_with (first | ((with_reducible refine wl_loadM midEx (Ext.range ?_ (Hid.out HR2)) ?_ ?_ ?_ ?_); (· with_reducible repeat' (first | exact Ext.refl _ | exact ExtOf.ext _ | refine Ext.trans ?_ (ExtOf.ext _) | refine Ext.alloc ?_ _ | refine Ext.drew ?_ | refine Ext.setCell ?_ ?_ _ | refine Ext.setRow ?_ ?_ _ | exact HX.out | refine Ext.trans ?_ HX.out | omega | (simp; done) | (simp; omega))); (· rfl); (· (first | exact wanted_none rfl | exact wanted_some rfl rfl rfl)); (· rfl)) | (go_at_call 8; refine (HC2.out _ (by with_reducible repeat' (first | exact Ext.refl _ | exact ExtOf.ext _ | refine Ext.trans ?_ (ExtOf.ext _) | refine Ext.alloc ?_ _ | refine Ext.drew ?_ | refine Ext.setCell ?_ ?_ _ | refine Ext.setRow ?_ ?_ _ | exact HX.out | refine Ext.trans ?_ HX.out | omega | (simp; done) | (simp; omega)))).mono ?_; rintro e w' ⟨u, rfl, hu1, hu2, nn, rfl⟩; obtain ⟨t, rfl⟩ : ∃ t : Nat, u = (t : Int) := ⟨u.toNat, by omega⟩))
                go_roundw
                case rel => exact ⟨k + 1, m + t, by omega, by first | rfl | go_num, by first | rfl | go_num, by omega, HX.out.trans (by with_reducible repeat' (first | exact Ext.refl _ | exact ExtOf.ext _ | refine Ext.trans ?_ (ExtOf.ext _) | refine Ext.alloc ?_ _ | refine Ext.drew ?_ | refine Ext.setCell ?_ ?_ _ | refine Ext.setRow ?_ ?_ _ | exact HX.out | refine Ext.trans ?_ HX.out | omega | (simp; done) | (simp; omega))), inferInstance⟩
                case measure => simp [intOf]; omega
              · have qm : decide ((m : Int) ≤ 200) = false := decide_eq_false (by omega)
                rcases qr : decide (r ≤ 100) with _ | _
                · go_wp2_with fail
                  go_ret
                  exact ⟨_, rfl, by first | exact ExtOf.of (by with_reducible repeat' (first | exact Ext.refl _ | exact ExtOf.ext _ | refine Ext.trans ?_ (ExtOf.ext _) | refine Ext.alloc ?_ _ | refine Ext.drew ?_ | refine Ext.setCell ?_ ?_ _ | refine Ext.setRow ?_ ?_ _ | exact HX.out | refine Ext.trans ?_ HX.out | omega | (simp; done) | (simp; omega))) | exact ExtOf.of HX.out⟩
                · go_wp2_with fail
                  go_ret
                  exact ⟨_, rfl, by first | exact ExtOf.of (by with_reducible repeat' (first | exact Ext.refl _ | exact ExtOf.ext _ | refine Ext.trans ?_ (ExtOf.ext _) | refine Ext.alloc ?_ _ | refine Ext.drew ?_ | refine Ext.setCell ?_ ?_ _ | refine Ext.setRow ?_ ?_ _ | exact HX.out | refine Ext.trans ?_ HX.out | omega | (simp; done) | (simp; omega))) | exact ExtOf.of HX.out⟩
            · have qk : decide ((k : Int) < (rs.length : Int)) = false := decide_eq_false (by omega)
              rcases qr : decide (r ≤ 100) with _ | _
              · go_wp2_with fail
                go_ret
                exact ⟨_, rfl, by first | exact ExtOf.of (by with_reducible repeat' (first | exact Ext.refl _ | exact ExtOf.ext _ | refine Ext.trans ?_ (ExtOf.ext _) | refine Ext.alloc ?_ _ | refine Ext.drew ?_ | refine Ext.setCell ?_ ?_ _ | refine Ext.setRow ?_ ?_ _ | exact HX.out | refine Ext.trans ?_ HX.out | omega | (simp; done) | (simp; omega))) | exact ExtOf.of HX.out⟩
              · rcases qm : decide ((m : Int) ≤ 200) with _ | _
                · go_wp2_with fail
                  go_ret
                  exact ⟨_, rfl, by first | exact ExtOf.of (by with_reducible repeat' (first | exact Ext.refl _ | exact ExtOf.ext _ | refine Ext.trans ?_ (ExtOf.ext _) | refine Ext.alloc ?_ _ | refine Ext.drew ?_ | refine Ext.setCell ?_ ?_ _ | refine Ext.setRow ?_ ?_ _ | exact HX.out | refine Ext.trans ?_ HX.out | omega | (simp; done) | (simp; omega))) | exact ExtOf.of HX.out⟩
                · go_wp2_with fail
                  go_ret
                  exact ⟨_, rfl, by first | exact ExtOf.of (by with_reducible repeat' (first | exact Ext.refl _ | exact ExtOf.ext _ | refine Ext.trans ?_ (ExtOf.ext _) | refine Ext.alloc ?_ _ | refine Ext.drew ?_ | refine Ext.setCell ?_ ?_ _ | refine Ext.setRow ?_ ?_ _ | exact HX.out | refine Ext.trans ?_ HX.out | omega | (simp; done) | (simp; omega))) | exact ExtOf.of HX.out⟩
  rcases t6 : decide (st < 50) with _ | _
  · go_enter Tryz.func4, Tryz.ntmps4
    go_wp2_with fail
    have hb0 : Block (w.alloc (.cells #[.slice pp ps.length pc, .slice sp ss.length sc, .slice rp rs.length rc, .slice cp cs.length cc, .int .i64 ke, .int .i64 tr, .int .i64 pi, .int .i64 st, .int .i64 ch, .int .i64 du, .int .i64 fi, .int .i64 li, .int .i64 ga] 31)) w.heap.size #[.slice pp ps.length pc, .slice sp ss.length sc, .slice rp rs.length rc, .slice cp cs.length cc, .int .i64 ke, .int .i64 tr, .int .i64 pi, .int .i64 st, .int .i64 ch, .int .i64 du, .int .i64 fi, .int .i64 li, .int .i64 ga] := inferInstance
    obtain ⟨g, hg⟩ : ∃ g, g = w.heap.size := ⟨_, rfl⟩
    rw [← hg] at hb0 ⊢
    clear hg
    go_loopw [4] (fun vi wr => ∃ k : Nat, k ≤ ps.length ∧ vi = .int .i64 k ∧ Ext w wr ∧ Block wr g #[.slice pp ps.length pc, .slice sp ss.length sc, .slice rp rs.length rc, .slice cp cs.length cc, .int .i64 ke, .int .i64 tr, .int .i64 pi, .int .i64 st, .int .i64 ch, .int .i64 du, .int .i64 fi, .int .i64 li, .int .i64 ga]) (fun i _ => ps.length - (intOf i).toNat)
    case atStart => exact ⟨0, by omega, rfl, by with_reducible repeat' (first | exact Ext.refl _ | exact ExtOf.ext _ | refine Ext.trans ?_ (ExtOf.ext _) | refine Ext.alloc ?_ _ | refine Ext.drew ?_ | refine Ext.setCell ?_ ?_ _ | refine Ext.setRow ?_ ?_ _ | exact HX.out | refine Ext.trans ?_ HX.out | omega | (simp; done) | (simp; omega)), hb0⟩
    case round =>
      clear hb0
      obtain ⟨k, hk, rfl, hx, hbk⟩ := hrel
      have HX := Lib.hid hx
      have obk := hbk.old
      clear hx
      by_cases hlt : k < ps.length
      · have qk : decide ((k : Int) < (ps.length : Int)) = true := decide_eq_true (by omega)
        obtain ⟨b, off, rfl, ob, hr⟩ := SliceOf.elemO (SliceOf.ext HP.out HX.out) hlt (by decide) (encPd_len _)
        obtain ⟨⟨⟨nm, th, wi, al, wa, ls, pl⟩, ⟨q1, n1, c1'⟩, ⟨q2, n2, c2'⟩⟩, he⟩ : ∃ z, z = ps[k] := ⟨_, rfl⟩
        rw [← he] at hr
        clear he
        have h0 : wr.cell? ⟨b, off + k * 7, none⟩ = some (.string nm) := by simpa using hr 0 (.string nm) rfl
        have h5 : wr.cell? ⟨b, off + k * 7 + 5, none⟩ = some (.slice q1 n1 c1') := hr 5 (.slice q1 n1 c1') rfl
        have h6 : wr.cell? ⟨b, off + k * 7 + 6, none⟩ = some (.slice q2 n2 c2') := hr 6 (.slice q2 n2 c2') rfl
        clear hr
        rcases u1 : decide (100 < (nm.size : Int)) with _ | _
        case true =>
          go_wp2_with fail
          go_ret
          exact ⟨_, rfl, by first | exact ExtOf.of (by with_reducible repeat' (first | exact Ext.refl _ | exact ExtOf.ext _ | refine Ext.trans ?_ (ExtOf.ext _) | refine Ext.alloc ?_ _ | refine Ext.drew ?_ | refine Ext.setCell ?_ ?_ _ | refine Ext.setRow ?_ ?_ _ | exact HX.out | refine Ext.trans ?_ HX.out | omega | (simp; done) | (simp; omega))) | exact ExtOf.of HX.out⟩
        rcases u2 : decide (10 < (n1 : Int)) with _ | _
        case true =>
          go_wp2_with fail
          go_ret
          exact ⟨_, rfl, by first | exact ExtOf.of (by with_reducible repeat' (first | exact Ext.refl _ | exact ExtOf.ext _ | refine Ext.trans ?_ (ExtOf.ext _) | refine Ext.alloc ?_ _ | refine Ext.drew ?_ | refine Ext.setCell ?_ ?_ _ | refine Ext.setRow ?_ ?_ _ | exact HX.out | refine Ext.trans ?_ HX.out | omega | (simp; done) | (simp; omega))) | exact ExtOf.of HX.out⟩
        rcases u3 : decide (10 < (n2 : Int)) with _ | _
        case true =>
          go_wp2_with fail
          go_ret
          exact ⟨_, rfl, by first | exact ExtOf.of (by with_reducible repeat' (first | exact Ext.refl _ | exact ExtOf.ext _ | refine Ext.trans ?_ (ExtOf.ext _) | refine Ext.alloc ?_ _ | refine Ext.drew ?_ | refine Ext.setCell ?_ ?_ _ | refine Ext.setRow ?_ ?_ _ | exact HX.out | refine Ext.trans ?_ HX.out | omega | (simp; done) | (simp; omega))) | exact ExtOf.of HX.out⟩
        go_wp2_with fail
        go_roundw
        case rel => exact ⟨k + 1, by omega, by first | rfl | go_num, HX.out.trans (by with_reducible repeat' (first | exact Ext.refl _ | exact ExtOf.ext _ | refine Ext.trans ?_ (ExtOf.ext _) | refine Ext.alloc ?_ _ | refine Ext.drew ?_ | refine Ext.setCell ?_ ?_ _ | refine Ext.setRow ?_ ?_ _ | exact HX.out | refine Ext.trans ?_ HX.out | omega | (simp; done) | (simp; omega))), inferInstance⟩
        case measure => simp [intOf]; omega
      obtain rfl : k = ps.length := by omega
      have qk : decide ((ps.length : Int) < (ps.length : Int)) = false := decide_eq_false (by omega)
      clear hlt hk
      go_wp2_with fail
      go_loopw [3, 5] (fun vn vi wr => ∃ (k : Nat) (r : Int), k ≤ ss.length ∧ vi = .int .i64 k ∧ vn = .int .i64 r ∧ Ext w wr ∧ Block wr g #[.slice pp ps.length pc, .slice sp ss.length sc, .slice rp rs.length rc, .slice cp cs.length cc, .int .i64 ke, .int .i64 tr, .int .i64 pi, .int .i64 st, .int .i64 ch, .int .i64 du, .int .i64 fi, .int .i64 li, .int .i64 ga]) (fun _ i _ => ss.length - (intOf i).toNat)
      case atStart => exact ⟨0, 0, by omega, rfl, rfl, HX.out.trans (by with_reducible repeat' (first | exact Ext.refl _ | exact ExtOf.ext _ | refine Ext.trans ?_ (ExtOf.ext _) | refine Ext.alloc ?_ _ | refine Ext.drew ?_ | refine Ext.setCell ?_ ?_ _ | refine Ext.setRow ?_ ?_ _ | exact HX.out | refine Ext.trans ?_ HX.out | omega | (simp; done) | (simp; omega))), inferInstance⟩
      case round =>
        clear hbk HX obk
        obtain ⟨k, r, hk, rfl, rfl, hx, hbk⟩ := hrel
        have HX := Lib.hid hx
        have obk := hbk.old
        clear hx
        by_cases hlt : k < ss.length
        · have qk : decide ((k : Int) < (ss.length : Int)) = true := decide_eq_true (by omega)
          obtain ⟨b, off, rfl, ob, hr⟩ := SliceOf.elemO (SliceOf.ext HSS.out HX.out) hlt (by decide) (encSpc_len _)
          obtain ⟨nm, he⟩ : ∃ z, z = (ss[k]).nm := ⟨_, rfl⟩
          have h0 : wr.cell? ⟨b, off + k * 13, none⟩ = some (.string nm) := by rw [he]; simpa using hr 0 (.string (ss[k]).nm) rfl
          clear hr he
          go_wp2_with fail
          go_roundw
          case rel => exact ⟨k + 1, _, by omega, by first | rfl | go_num, rfl, HX.out.trans (by with_reducible repeat' (first | exact Ext.refl _ | exact ExtOf.ext _ | refine Ext.trans ?_ (ExtOf.ext _) | refine Ext.alloc ?_ _ | refine Ext.drew ?_ | refine Ext.setCell ?_ ?_ _ | refine Ext.setRow ?_ ?_ _ | exact HX.out | refine Ext.trans ?_ HX.out | omega | (simp; done) | (simp; omega))), inferInstance⟩
          case measure => simp [intOf]; omega
        obtain rfl : k = ss.length := by omega
        have qk : decide ((ss.length : Int) < (ss.length : Int)) = false := decide_eq_false (by omega)
        clear hlt hk
        go_wp2_with fail
        go_loopw [3, 6] (fun vn vi wr => ∃ (k : Nat) (r : Int), k ≤ cs.length ∧ vi = .int .i64 k ∧ vn = .int .i64 r ∧ Ext w wr ∧ Block wr g #[.slice pp ps.length pc, .slice sp ss.length sc, .slice rp rs.length rc, .slice cp cs.length cc, .int .i64 ke, .int .i64 tr, .int .i64 pi, .int .i64 st, .int .i64 ch, .int .i64 du, .int .i64 fi, .int .i64 li, .int .i64 ga]) (fun _ i _ => cs.length - (intOf i).toNat)
        case atStart => exact ⟨0, r, by omega, rfl, rfl, HX.out.trans (by with_reducible repeat' (first | exact Ext.refl _ | exact ExtOf.ext _ | refine Ext.trans ?_ (ExtOf.ext _) | refine Ext.alloc ?_ _ | refine Ext.drew ?_ | refine Ext.setCell ?_ ?_ _ | refine Ext.setRow ?_ ?_ _ | exact HX.out | refine Ext.trans ?_ HX.out | omega | (simp; done) | (simp; omega))), inferInstance⟩
        case round =>
          clear hbk HX obk
          obtain ⟨k, r, hk, rfl, rfl, hx, hbk⟩ := hrel
          have HX := Lib.hid hx
          have obk := hbk.old
          clear hx
          by_cases hlt : k < cs.length
          · have qk : decide ((k : Int) < (cs.length : Int)) = true := decide_eq_true (by omega)
            obtain ⟨b, off, rfl, ob, hr⟩ := SliceOf.elemO (SliceOf.ext HC.out HX.out) hlt (by decide) (encSch_len _)
            obtain ⟨⟨⟨nm, ramp, sts⟩, ⟨q1, n1, c1'⟩⟩, he⟩ : ∃ z, z = cs[k] := ⟨_, rfl⟩
            rw [← he] at hr
            have h0 : wr.cell? ⟨b, off + k * 3, none⟩ = some (.string nm) := by simpa using hr 0 (.string nm) rfl
            have h2 : wr.cell? ⟨b, off + k * 3 + 2, none⟩ = some (.slice q1 n1 c1') := hr 2 (.slice q1 n1 c1') rfl
            clear hr he
            go_wp2_with fail
            refine wp_region_ext (by kernel_rfl) (by kernel_rfl) ?_
            repeat (first | go_big_quiet_skip | go_big_quiet_step (fail))
            refine wpQuiet_nil ?_
            intro _ hw'
            obtain ⟨nq, hw''⟩ := hw'
            subst hw''
            go_wp2_with fail
            go_roundw
            case rel => exact ⟨k + 1, _, by omega, by first | rfl | go_num, rfl, HX.out.trans (by with_reducible repeat' (first | exact Ext.refl _ | exact ExtOf.ext _ | refine Ext.trans ?_ (ExtOf.ext _) | refine Ext.alloc ?_ _ | refine Ext.drew ?_ | refine Ext.setCell ?_ ?_ _ | refine Ext.setRow ?_ ?_ _ | exact HX.out | refine Ext.trans ?_ HX.out | omega | (simp; done) | (simp; omega))), inferInstance⟩
            case measure => simp [intOf]; omega
          obtain rfl : k = cs.length := by omega
          have qk : decide ((cs.length : Int) < (cs.length : Int)) = false := decide_eq_false (by omega)
          clear hlt hk
          go_wp2_with fail
          go_loopw [7, 8] (fun vn vi wr => ∃ k m : Nat, k ≤ rs.length ∧ vi = .int .i64 k ∧ vn = .int .i64 m ∧ m ≤ 401 ∧ Ext w wr ∧ Block wr g #[.slice pp ps.length pc, .slice sp ss.length sc, .slice rp rs.length rc, .slice cp cs.length cc, .int .i64 ke, .int .i64 tr, .int .i64 pi, .int .i64 st, .int .i64 ch, .int .i64 du, .int .i64 fi, .int .i64 li, .int .i64 ga]) (fun _ i _ => rs.length - (intOf i).toNat)
          case atStart => exact ⟨0, 0, by omega, rfl, rfl, by omega, HX.out.trans (by with_reducible repeat' (first | exact Ext.refl _ | exact ExtOf.ext _ | refine Ext.trans ?_ (ExtOf.ext _) | refine Ext.alloc ?_ _ | refine Ext.drew ?_ | refine Ext.setCell ?_ ?_ _ | refine Ext.setRow ?_ ?_ _ | exact HX.out | refine Ext.trans ?_ HX.out | omega | (simp; done) | (simp; omega))), inferInstance⟩
          case round =>
            clear hbk HX obk
            obtain ⟨k, m, hk, rfl, rfl, hm, hx, hbk⟩ := hrel
            have HX := Lib.hid hx
            have obk := hbk.old
            clear hx
            by_cases hlt : k < rs.length
            · have qk : decide ((k : Int) < (rs.length : Int)) = true := decide_eq_true (by omega)
              by_cases hm2 : m ≤ 200
              · have qm : decide ((m : Int) ≤ 200) = true := decide_eq_true (by omega)
                obtain ⟨b, off, rfl, ob, hr⟩ := SliceOf.elemO (SliceOf.ext HRR.out HX.out) hlt (by decide) (encRu_len _)
                have hda := HRD.out _ (List.getElem_mem hlt)
                obtain ⟨⟨gr, ⟨op, num, nm, hd, args⟩⟩, he⟩ : ∃ z, z = rs[k] := ⟨_, rfl⟩
                rw [← he] at hr hda
                have HDA : Hid (ExD 210 wr ⟨op, num, nm, hd, args⟩) := Lib.hid (hda.ext HX.out)
                have HR2 : Hid (wr.rangeAt b (off + k * 5 + 1) [.int .i64 op, .int .i64 num, .string nm, hd.v]) := Lib.hid fun j u hj => by
                  have := hr (j + 1) u hj
                  rw [show off + k * 5 + 1 + j = off + k * 5 + (j + 1) by omega]
                  exact this
                clear hr he hda
                have HC2 : Hid (∀ W, Ext wr W → Calls Tryz.prog 8 #[.agg #[.int .i64 op, .int .i64 num, .string nm, hd.v], .int .i64 201] W (SizeRet 201 W)) := Lib.hid fun W hW => size_any 210 (by decide) 201 (by decide) (by decide) ⟨op, num, nm, hd, args⟩ W (HDA.out.ext hW)
                go_wp2_with (first | ((with_reducible refine wl_loadM midEx (Ext.range ?_ (Hid.out HR2)) ?_ ?_ ?_ ?_); (· with_reducible repeat' (first | exact Ext.refl _ | exact ExtOf.ext _ | refine Ext.trans ?_ (ExtOf.ext _) | refine Ext.alloc ?_ _ | refine Ext.drew ?_ | refine Ext.setCell ?_ ?_ _ | refine Ext.setRow ?_ ?_ _ | exact HX.out | refine Ext.trans ?_ HX.out | omega | (simp; done) | (simp; omega))); (· rfl); (· (first | exact wanted_none rfl | exact wanted_some rfl rfl rfl)); (· rfl)) | (go_at_call 8; refine (HC2.out _ (by with_reducible repeat' (first | exact Ext.refl _ | exact ExtOf.ext _ | refine Ext.trans ?_ (ExtOf.ext _) | refine Ext.alloc ?_ _ | refine Ext.drew ?_ | refine Ext.setCell ?_ ?_ _ | refine Ext.setRow ?_ ?_ _ | exact HX.out | refine Ext.trans ?_ HX.out | omega | (simp; done) | (simp; omega)))).mono ?_; rintro e w' ⟨u, rfl, hu1, hu2, nn, rfl⟩; obtain ⟨t, rfl⟩ : ∃ t : Nat, u = (t : Int) := ⟨u.toNat, by omega⟩))
                go_roundw
                case rel => exact ⟨k + 1, m + t, by omega, by first | rfl | go_num, by first | rfl | go_num, by omega, HX.out.trans (by with_reducible repeat' (first | exact Ext.refl _ | exact ExtOf.ext _ | refine Ext.trans ?_ (ExtOf.ext _) | refine Ext.alloc ?_ _ | refine Ext.drew ?_ | refine Ext.setCell ?_ ?_ _ | refine Ext.setRow ?_ ?_ _ | exact HX.out | refine Ext.trans ?_ HX.out | omega | (simp; done) | (simp; omega))), inferInstance⟩
                case measure => simp [intOf]; omega
              · have qm : decide ((m : Int) ≤ 200) = false := decide_eq_false (by omega)
                rcases qr : decide (r ≤ 100) with _ | _
                · go_wp2_with fail
                  go_ret
                  exact ⟨_, rfl, by first | exact ExtOf.of (by with_reducible repeat' (first | exact Ext.refl _ | exact ExtOf.ext _ | refine Ext.trans ?_ (ExtOf.ext _) | refine Ext.alloc ?_ _ | refine Ext.drew ?_ | refine Ext.setCell ?_ ?_ _ | refine Ext.setRow ?_ ?_ _ | exact HX.out | refine Ext.trans ?_ HX.out | omega | (simp; done) | (simp; omega))) | exact ExtOf.of HX.out⟩
                · go_wp2_with fail
                  go_ret
                  exact ⟨_, rfl, by first | exact ExtOf.of (by with_reducible repeat' (first | exact Ext.refl _ | exact ExtOf.ext _ | refine Ext.trans ?_ (ExtOf.ext _) | refine Ext.alloc ?_ _ | refine Ext.drew ?_ | refine Ext.setCell ?_ ?_ _ | refine Ext.setRow ?_ ?_ _ | exact HX.out | refine Ext.trans ?_ HX.out | omega | (simp; done) | (simp; omega))) | exact ExtOf.of HX.out⟩
            · have qk : decide ((k : Int) < (rs.length : Int)) = false := decide_eq_false (by omega)
              rcases qr : decide (r ≤ 100) with _ | _
              · go_wp2_with fail
                go_ret
                exact ⟨_, rfl, by first | exact ExtOf.of (by with_reducible repeat' (first | exact Ext.refl _ | exact ExtOf.ext _ | refine Ext.trans ?_ (ExtOf.ext _) | refine Ext.alloc ?_ _ | refine Ext.drew ?_ | refine Ext.setCell ?_ ?_ _ | refine Ext.setRow ?_ ?_ _ | exact HX.out | refine Ext.trans ?_ HX.out | omega | (simp; done) | (simp; omega))) | exact ExtOf.of HX.out⟩
              · rcases qm : decide ((m : Int) ≤ 200) with _ | _
                · go_wp2_with fail
                  go_ret
                  exact ⟨_, rfl, by first | exact ExtOf.of (by with_reducible repeat' (first | exact Ext.refl _ | exact ExtOf.ext _ | refine Ext.trans ?_ (ExtOf.ext _) | refine Ext.alloc ?_ _ | refine Ext.drew ?_ | refine Ext.setCell ?_ ?_ _ | refine Ext.setRow ?_ ?_ _ | exact HX.out | refine Ext.trans ?_ HX.out | omega | (simp; done) | (simp; omega))) | exact ExtOf.of HX.out⟩
                · go_wp2_with fail
                  go_ret
                  exact ⟨_, rfl, by first | exact ExtOf.of (by with_reducible repeat' (first | exact Ext.refl _ | exact ExtOf.ext _ | refine Ext.trans ?_ (ExtOf.ext _) | refine Ext.alloc ?_ _ | refine Ext.drew ?_ | refine Ext.setCell ?_ ?_ _ | refine Ext.setRow ?_ ?_ _ | exact HX.out | refine Ext.trans ?_ HX.out | omega | (simp; done) | (simp; omega))) | exact ExtOf.of HX.out⟩
  go_enter Tryz.func4, Tryz.ntmps4
  go_wp2_with fail
  go_ret
  exact ⟨_, rfl, by first | exact ExtOf.of (by with_reducible repeat' (first | exact Ext.refl _ | exact ExtOf.ext _ | refine Ext.trans ?_ (ExtOf.ext _) | refine Ext.alloc ?_ _ | refine Ext.drew ?_ | refine Ext.setCell ?_ ?_ _ | refine Ext.setRow ?_ ?_ _ | exact HX.out | refine Ext.trans ?_ HX.out | omega | (simp; done) | (simp; omega))) | exact ExtOf.of HX.out⟩
end Go.Proofs.YteokijolhbohaaaGreatDoor
