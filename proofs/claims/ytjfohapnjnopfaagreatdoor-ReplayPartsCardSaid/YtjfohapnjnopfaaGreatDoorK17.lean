/-
  Chapter 61: several texts in one (R17, R18).
-/
import Derived.Test.YtjfohapnjnopfaaGreatDoorR16
import Derived.Test.YtjfohapnjnopfaaGreatDoorMA
/-
  Chapter 61: the reference's families.
-/
section
set_option linter.unusedVariables false
set_option linter.unusedSimpArgs false
namespace Go.Proofs.YtjfohapnjnopfaaGreatDoor
open Go.RowKit Go.WideShapes RepM

attribute [local go_sem] ExtOf.cell ExtOf.frozen ExtS.cell ExtS.frozen Block.cell Block.frozen ExtB.cell ExtB.frozen alloc_cell alloc_frozen
def famM (o w : Nat) : Nat := 2 * (700000 - o) + (if w = o then 0 else 1)
def lenV : Value → Nat
  | .slice _ n _ => n
  | _ => 0
theorem evs_ok {l : List EvP} (h : ∀ x ∈ l, okEv x.1 = true) : ∀ e ∈ evs l, okEv e = true := by
  intro e he
  obtain ⟨x, hx, rfl⟩ := List.mem_map.1 he
  exact h x hx
/-- a slice of the call's own of one number that is built -/
theorem Own.made {w : World} {n : Int} : Own encI 1 3 w.heap.size (w.alloc (.cells #[.int .i64 n] 3)) (.slice (some ⟨w.heap.size, 0, none⟩) 1 1) [n] := by
  exact ⟨rfl, .inr ⟨w.heap.size, 1, #[.int .i64 n], rfl, Nat.le_refl _, (MapKept.heap_alloc w _).1, Nat.le_refl _, by decide, rfl, by simp [encI]⟩⟩
theorem fam_wd {l : List EvP} {b : Int} {w : World} {v : Value} (h : PastS w v l) (hb : wideN b) {S : List Int} (hS : FamP (evs l) b S) : (∀ n ∈ S, wideN n) ∧ S.length ≤ 601001 := by
  refine ⟨fun n hn => univ_wide hb (evs_ok h.ok) (fam_univ (hS.mem n hn)), ?_⟩
  have h1 := hS.len (evs_len h.ok)
  have h2 : (evs l).length = l.length := by simp
  have h3 := h.len
  omega
theorem group_out {l : List Ev} {i : Nat} (h : l.length ≤ i) : group num l i = [] := by
  unfold group
  rw [List.getElem?_eq_none h]
theorem up_more {l : List Ev} {S2 : List Int} {i : Nat} {n : Int} (h : ∀ j n m, j < i → S2[j]? = some n → up num l n = some m → m ∈ S2) (hg : S2[i]? = some n) (hn : ∀ m, up num l n = some m → m ∈ S2) : ∀ j n m, j < i + 1 → S2[j]? = some n → up num l n = some m → m ∈ S2 := by
  intro j k m hj hk hm
  by_cases e : j = i
  · subst e
    rw [hg] at hk
    cases hk
    exact hn m hm
  · exact h j k m (by omega) hk hm
theorem up_more2 {l : List Ev} {S2 : List Int} {i : Nat} {n q : Int} (h : ∀ j n m, j < i → S2[j]? = some n → up num l n = some m → m ∈ S2) (hg : S2[i]? = some n) (hn : up num l n = some q) : ∀ j n m, j < i + 1 → (withL S2 [q])[j]? = some n → up num l n = some m → m ∈ withL S2 [q] := by
  intro j k m hj hk hm
  have hi : i < S2.length := (List.getElem?_eq_some_iff.1 hg).1
  have hjl : j < S2.length := by omega
  obtain ⟨r, hr⟩ := withL_prefix [q] S2
  have hk' : S2[j]? = some k := by
    rw [← hr, List.getElem?_append_left hjl] at hk
    exact hk
  by_cases e : j = i
  · subst e
    rw [hg] at hk'
    cases hk'
    rw [hn] at hm
    cases hm
    exact (withL_mem _ _).2 (.inr (by simp))
  · exact (withL_mem _ _).2 (.inl (h j k m (by omega) hk' hm))
theorem grp_more {l : List Ev} {S2 S3 : List Int} {i : Nat} (h : ∀ j n m, j < i → n ∈ S2 → n ∈ group num l j → m ∈ group num l j → m ∈ S3) (hn : ∀ n m, n ∈ S2 → n ∈ group num l i → m ∈ group num l i → m ∈ S3) : ∀ j n m, j < i + 1 → n ∈ S2 → n ∈ group num l j → m ∈ group num l j → m ∈ S3 := by
  intro j n m hj h1 h2 h3
  by_cases e : j = i
  · subst e; exact hn n m h1 h2 h3
  · exact h j n m (by omega) h1 h2 h3
theorem meet_true {a b : List Int} {n : Int} (ha : n ∈ a) (hb : n ∈ b) : meetB a b = true := List.any_eq_true.2 ⟨n, hb, decide_eq_true ha⟩
theorem meet_ex {a b : List Int} (h : meetB a b = true) : ∃ n, n ∈ a ∧ n ∈ b := by
  obtain ⟨n, h1, h2⟩ := List.any_eq_true.1 h
  exact ⟨n, of_decide_eq_true h2, h1⟩
/-- a group does not lie where the call's own list lies -/
theorem grp_apart {w W W' : World} {qa : Option Addr} {n ca : Nat} {S G : List Int} {gq : Option Addr} {gn gc : Nat} (ho : Own encI 1 3 w.heap.size W (.slice qa n ca) S) (hg : GrpS w W W' (.slice gq gn gc) G) : G ≠ [] → ∀ q, gq = some q → (Value.slice qa n ca).ownBlock ≠ some q.block := by
  intro hne q hq e
  have h1 := World.ownsRow.lt ho q.block e
  rcases hg with hg | hg
  · have hl : 0 < G.length := List.length_pos_iff.2 hne
    obtain ⟨b, off, e2, hc⟩ := IntS.elem hg hl
    have := World.block_lt_of_cell? w ⟨b, off + 0, none⟩ hc
    rw [e2] at hq
    cases hq
    simp at this h1
    omega
  · subst hq
    rcases hg.2 with ⟨h2, _⟩ | ⟨g, cap, cur, h2, hb, _⟩
    · cases h2
    · simp only [Value.slice.injEq, Option.some.injEq] at h2
      obtain ⟨rfl, _, _⟩ := h2
      simp at h1
      omega
set_option maxHeartbeats 3200000 in
set_option maxRecDepth 20000 in
theorem rfamily_any (l : List EvP) (v : Value) (b : Int) (w : World) (h : PastS w v l) (hb : wideN b) :
    Calls Tryz.prog 22 #[v, .int .i64 b] w fun en w' => ∃ v' S, en = .returned v' ∧ Own encI 1 3 w.heap.size w' v' S ∧ (FamP (evs l) b S ∧ ∀ n, n ∈ S ↔ Fam num (evs l) b n) ∧ ∃ n : ExtOf w, w' = n.val := by
  obtain ⟨p, cap, rfl, hc1, hc2, hc3⟩ := EvsS.form h.ev
  unfold maxLen at hc2
  have hlen := h.len
  have H := Lib.hid h
  clear h
  have HWD : Hid (∀ S, FamP (evs l) b S → (∀ n ∈ S, wideN n) ∧ S.length ≤ 601001) := Lib.hid (fun S hS => fam_wd H.out hb hS)
  have HGL : Hid (∀ i, (group num (evs l) i).length ≤ 360000) := Lib.hid (fun i => group_len (evs_len H.out.ok) i)
  go_enter Tryz.func22, Tryz.ntmps22
  go_wp2_with fail
  go_loopw [5, 6] (fun vo vw wr => ∃ (S : List Int) (k : Nat), vw = .int .i64 k ∧ Own encI 1 3 w.heap.size wr vo S ∧ FamP (evs l) b S ∧ k ≤ S.length ∧ (k = S.length → Closed num (evs l) b (· ∈ S)) ∧ Ext w wr) (fun vo vw _ => famM (lenV vo) (intOf vw).toNat)
  case atStart => exact ⟨[b], 0, rfl, Own.made, FamP.one _ _, by simp, by simp, (Ext.refl _).alloc _⟩
  case round =>
    obtain ⟨S, k, rfl, ho, hf, hk, hcl, hx⟩ := hrel
    have HX := Lib.hid hx
    have HO := Lib.hid ho
    have HF := Lib.hid hf
    have HCL := Lib.hid hcl
    have hSl := (HWD.out S hf).2
    obtain ⟨qa, ca, rfl⟩ := Own.form2 ho
    clear hx ho hf hcl
    by_cases hlt : k < S.length
    · go_wp2_with fail
      rename World => W1
      go_loopw [5, 7] (fun vo vi wr => ∃ (S2 : List Int) (i : Nat), vi = .int .i64 i ∧ Own encI 1 3 w.heap.size wr vo S2 ∧ FamP (evs l) b S2 ∧ S <+: S2 ∧ i ≤ S2.length ∧ (∀ j n m, j < i → S2[j]? = some n → up num (evs l) n = some m → m ∈ S2) ∧ Ext w wr) (fun _ vi _ => 700000 - (intOf vi).toNat)
      case atStart => exact ⟨S, 0, rfl, HO.out, HF.out, List.prefix_refl _, by omega, fun j n m hj => absurd hj (Nat.not_lt_zero _), HX.out⟩
      case round =>
        obtain ⟨S2, i, rfl, ho2, hf2, hp2, hi2, hu2, hx2⟩ := hrel
        have HX2 := Lib.hid hx2
        have HO2 := Lib.hid ho2
        have HF2 := Lib.hid hf2
        have HP2 := Lib.hid hp2
        have HU2 := Lib.hid hu2
        have hS2l := (HWD.out S2 hf2).2
        obtain ⟨qa2, ca2, rfl⟩ := Own.form2 ho2
        clear hx2 ho2 hf2 hp2 hu2
        by_cases hi : i < S2.length
        · obtain ⟨bq, oq, rfl, hcq⟩ := IntS.elem (Own.slice encI_len HO2.out) hi
          have obq := Old.of_cell hcq
          have hmem := List.getElem_mem hi
          have hwn := (HWD.out S2 HF2.out).1 _ hmem
          have HMEM := Lib.hid hmem
          have hgn : S2[i]? = some S2[i] := List.getElem?_eq_getElem hi
          have HGN := Lib.hid hgn
          generalize S2[i] = n at *
          clear hmem hgn
          go_wp2_with fail
          refine (rmaker_any l _ n wr (H.out.ext HX2.out)).mono ?_
          rintro en w' ⟨⟨km, rfl, hkm⟩, n1, rfl⟩
          have HKM := Lib.hid hkm
          clear hkm
          go_wp2_with fail
          refine (rorigin_any l _ n _ (H.out.ext (HX2.out.trans n1.ext)) hwn).mono ?_
          rintro en w' ⟨⟨ko, rfl, hko⟩, n2, rfl⟩
          have HKO := Lib.hid hko
          clear hko
          rcases HKO.out with ⟨rfl, hnone⟩ | ⟨io, hio, rfl, h4o, hsome⟩
          · have HN := Lib.hid (up_of_none hnone)
            clear hnone
            go_wp2_with fail
            go_roundw
            case rel => exact ⟨S2, i + 1, by first | rfl | go_num, Own.ext HO2.out (by repeat' (first | (with_reducible exact Ext.refl _) | (with_reducible exact ExtOf.ext _) | (with_reducible refine Ext.trans ?_ (ExtOf.ext _)) | (with_reducible refine Ext.alloc ?_ _) | (with_reducible refine Ext.drew ?_) | (with_reducible refine Ext.setCell ?_ ?_ _) | (with_reducible refine Ext.setRow ?_ ?_ _) | (with_reducible exact HX.out) | (with_reducible refine Ext.trans ?_ HX.out) | (with_reducible refine Ext.below ?_ (Nat.le_refl _) _) | omega | (simp; done) | (simp; omega))), HF2.out, HP2.out, by omega, up_more HU2.out HGN.out (fun m hm => by rw [HN.out] at hm; cases hm), HX2.out.trans (by repeat' (first | (with_reducible exact Ext.refl _) | (with_reducible exact ExtOf.ext _) | (with_reducible refine Ext.trans ?_ (ExtOf.ext _)) | (with_reducible refine Ext.alloc ?_ _) | (with_reducible refine Ext.drew ?_) | (with_reducible refine Ext.setCell ?_ ?_ _) | (with_reducible refine Ext.setRow ?_ ?_ _) | (with_reducible exact HX.out) | (with_reducible refine Ext.trans ?_ HX.out) | (with_reducible refine Ext.below ?_ (Nat.le_refl _) _) | omega | (simp; done) | (simp; omega)))⟩
            case measure => simp [intOf]; omega
          · have qo : decide (0 ≤ (io : Int)) = true := decide_eq_true (by omega)
            obtain ⟨x0, hx0⟩ := maker_of_log hsome
            rcases HKM.out with ⟨rfl, hmn⟩ | ⟨im, him, rfl, hms⟩
            · rw [hmn] at hx0; cases hx0
            clear hx0
            have hltm : im < l.length := by simpa using him
            have HMS : Hid (maker (evs l) n = some (l[im]).1) := Lib.hid (by rw [hms, evs_get him])
            have HSM := Lib.hid hsome
            clear hms hsome h4o
            obtain ⟨bx, ox, rfl, hr, _⟩ := EvsS.elem (EvsS.ext H.out.ev HX2.out) hltm
            obtain ⟨⟨x, sl⟩, he⟩ : ∃ z, z = l[im] := ⟨_, rfl⟩
            rw [← he] at hr HMS
            simp only at HMS
            clear he
            have hc0 : wr.cell? ⟨bx, ox + im * 6, none⟩ = some (.int .i64 x.kind) := by have := hr 0 _ rfl; simpa using this
            have hc2 : wr.cell? ⟨bx, ox + im * 6 + 2, none⟩ = some (.string x.item) := hr 2 _ rfl
            have obx := Old.of_cell hc0
            clear hr
            by_cases h4 : x.kind = 4
            · have q4 : (x.kind != 4) = false := bne_eq_false_iff_eq.2 h4
              have HN := Lib.hid (up_of_saw HMS.out h4)
              clear h4
              go_wp2_with fail
              go_roundw
              case rel => exact ⟨S2, i + 1, by first | rfl | go_num, Own.ext HO2.out (by repeat' (first | (with_reducible exact Ext.refl _) | (with_reducible exact ExtOf.ext _) | (with_reducible refine Ext.trans ?_ (ExtOf.ext _)) | (with_reducible refine Ext.alloc ?_ _) | (with_reducible refine Ext.drew ?_) | (with_reducible refine Ext.setCell ?_ ?_ _) | (with_reducible refine Ext.setRow ?_ ?_ _) | (with_reducible exact HX.out) | (with_reducible refine Ext.trans ?_ HX.out) | (with_reducible refine Ext.below ?_ (Nat.le_refl _) _) | omega | (simp; done) | (simp; omega))), HF2.out, HP2.out, by omega, up_more HU2.out HGN.out (fun m hm => by rw [HN.out] at hm; cases hm), HX2.out.trans (by repeat' (first | (with_reducible exact Ext.refl _) | (with_reducible exact ExtOf.ext _) | (with_reducible refine Ext.trans ?_ (ExtOf.ext _)) | (with_reducible refine Ext.alloc ?_ _) | (with_reducible refine Ext.drew ?_) | (with_reducible refine Ext.setCell ?_ ?_ _) | (with_reducible refine Ext.setRow ?_ ?_ _) | (with_reducible exact HX.out) | (with_reducible refine Ext.trans ?_ HX.out) | (with_reducible refine Ext.below ?_ (Nat.le_refl _) _) | omega | (simp; done) | (simp; omega)))⟩
              case measure => simp [intOf]; omega
            · have q4 : (x.kind != 4) = true := bne_iff_ne.2 h4
              have HN := Lib.hid (up_of HSM.out HMS.out h4)
              clear h4
              go_wp2_with (first | (go_at_call 48; refine (rnum_any x.item _).mono ?_; rintro en w' ⟨rfl, n3, rfl⟩) | (go_at_call 50; refine (rwith_any w.heap.size S2 [num x.item] _ _ 1 _ (Own.alloc (Own.ext HO2.out (by repeat' (first | (with_reducible exact Ext.refl _) | (with_reducible exact ExtOf.ext _) | (with_reducible refine Ext.trans ?_ (ExtOf.ext _)) | (with_reducible refine Ext.alloc ?_ _) | (with_reducible refine Ext.drew ?_) | (with_reducible refine Ext.setCell ?_ ?_ _) | (with_reducible refine Ext.setRow ?_ ?_ _) | (with_reducible exact HX.out) | (with_reducible refine Ext.trans ?_ HX.out) | (with_reducible refine Ext.below ?_ (Nat.le_refl _) _) | omega | (simp; done) | (simp; omega)))) _) (Block.ints (l := [num x.item]) inferInstance rfl (by simp [maxLen])) (fun _ q e => by cases e; exact Own.block_lt (Own.ext HO2.out (by repeat' (first | (with_reducible exact Ext.refl _) | (with_reducible exact ExtOf.ext _) | (with_reducible refine Ext.trans ?_ (ExtOf.ext _)) | (with_reducible refine Ext.alloc ?_ _) | (with_reducible refine Ext.drew ?_) | (with_reducible refine Ext.setCell ?_ ?_ _) | (with_reducible refine Ext.setRow ?_ ?_ _) | (with_reducible exact HX.out) | (with_reducible refine Ext.trans ?_ HX.out) | (with_reducible refine Ext.below ?_ (Nat.le_refl _) _) | omega | (simp; done) | (simp; omega)))) (Nat.le_refl _)) (by have := HX2.out.size; have := n1.size; have := n2.size; have := n3.size; simp; omega) (by simp; omega)).mono ?_; rintro en w' ⟨v3, rfl, ho3, hg3, hb3⟩))
              have hx3 : Ext w w' := Below.trans (HX2.out.trans (show Ext wr (n3.val.alloc (.cells #[.int .i64 (num x.item)] 3)) by repeat' (first | (with_reducible exact Ext.refl _) | (with_reducible exact ExtOf.ext _) | (with_reducible refine Ext.trans ?_ (ExtOf.ext _)) | (with_reducible refine Ext.alloc ?_ _) | (with_reducible refine Ext.drew ?_) | (with_reducible refine Ext.setCell ?_ ?_ _) | (with_reducible refine Ext.setRow ?_ ?_ _) | (with_reducible exact HX.out) | (with_reducible refine Ext.trans ?_ HX.out) | (with_reducible refine Ext.below ?_ (Nat.le_refl _) _) | omega | (simp; done) | (simp; omega)))) hb3
              go_roundw
              case rel => exact ⟨withL S2 [num x.item], i + 1, by first | rfl | go_num, ho3, HF2.out.up HMEM.out HN.out, List.IsPrefix.trans HP2.out (withL_prefix _ _), by have := List.IsPrefix.length_le (withL_prefix [num x.item] S2); omega, up_more2 HU2.out HGN.out HN.out, hx3⟩
              case measure => simp [intOf]; omega
        · obtain rfl : i = S2.length := by omega
          have HUP : Hid (∀ n m, n ∈ S2 → up num (evs l) n = some m → m ∈ S2) := Lib.hid (fun n m hn hm => by obtain ⟨j, hj, rfl⟩ := List.getElem_of_mem hn; exact HU2.out j _ m hj (List.getElem?_eq_getElem hj) hm)
          clear HU2
          go_wp2_with fail
          rename World => W2
          go_loopw [5, 9] (fun vo vi wr => ∃ (S3 : List Int) (i : Nat), vi = .int .i64 i ∧ Own encI 1 3 w.heap.size wr vo S3 ∧ FamP (evs l) b S3 ∧ S2 <+: S3 ∧ i ≤ l.length ∧ (∀ j n m, j < i → n ∈ S2 → n ∈ group num (evs l) j → m ∈ group num (evs l) j → m ∈ S3) ∧ Ext w wr) (fun _ vi _ => l.length - (intOf vi).toNat)
          case atStart => exact ⟨S2, 0, rfl, HO2.out, HF2.out, List.prefix_refl _, by omega, fun j n m hj => absurd hj (Nat.not_lt_zero _), HX2.out⟩
          case round =>
            obtain ⟨S3, i, rfl, ho3, hf3, hp3, hi3, hu3, hx3⟩ := hrel
            have HX3 := Lib.hid hx3
            have HO3 := Lib.hid ho3
            have HF3 := Lib.hid hf3
            have HP3 := Lib.hid hp3
            have HU3 := Lib.hid hu3
            have hS3l := (HWD.out S3 hf3).2
            obtain ⟨qa3, ca3, rfl⟩ := Own.form2 ho3
            clear hx3 ho3 hf3 hp3 hu3
            by_cases hi : i < l.length
            · go_wp2_with fail
              refine (rgroup_any l _ i w wr H.out HX3.out hi).mono ?_
              rintro en w' ⟨gv, rfl, hgv, n1, rfl⟩
              have hgi := GrpS.ints hgv (HX3.out.trans n1.ext)
              obtain ⟨gq, gc, rfl, hg1, hg2, hg3⟩ := IntS.form hgi
              have HGI := Lib.hid hgi
              have hne := grp_apart HO3.out hgv
              have HNE := Lib.hid hne
              have hgl := HGL.out i
              obtain ⟨G, hG⟩ : ∃ G, G = group num (evs l) i := ⟨_, rfl⟩
              rw [← hG] at HGI HNE hgl hg1 ⊢
              have HG := Lib.hid hG
              clear hgi hne hgv hG
              rcases hm : meetB S3 G with _ | _
              · have HM := Lib.hid hm
                clear hm
                go_wp2_with (go_at_call 52; refine (rmeets_any S3 G _ _ _ (Own.slice encI_len (Own.of_ext HO3.out n1)) HGI.out).mono ?_; rintro en w' ⟨rfl, n2, rfl⟩; simp only [HM.out])
                go_roundw
                case rel => exact ⟨S3, i + 1, by first | rfl | go_num, Own.ext HO3.out (by repeat' (first | (with_reducible exact Ext.refl _) | (with_reducible exact ExtOf.ext _) | (with_reducible refine Ext.trans ?_ (ExtOf.ext _)) | (with_reducible refine Ext.alloc ?_ _) | (with_reducible refine Ext.drew ?_) | (with_reducible refine Ext.setCell ?_ ?_ _) | (with_reducible refine Ext.setRow ?_ ?_ _) | (with_reducible exact HX.out) | (with_reducible refine Ext.trans ?_ HX.out) | (with_reducible refine Ext.below ?_ (Nat.le_refl _) _) | omega | (simp; done) | (simp; omega))), HF3.out, HP3.out, by omega, grp_more HU3.out (fun n m hn hg hm => absurd (meet_true (a := S3) (b := G) (HP3.out.subset hn) (by rw [HG.out]; exact hg)) (by rw [HM.out]; decide)), HX3.out.trans (by repeat' (first | (with_reducible exact Ext.refl _) | (with_reducible exact ExtOf.ext _) | (with_reducible refine Ext.trans ?_ (ExtOf.ext _)) | (with_reducible refine Ext.alloc ?_ _) | (with_reducible refine Ext.drew ?_) | (with_reducible refine Ext.setCell ?_ ?_ _) | (with_reducible refine Ext.setRow ?_ ?_ _) | (with_reducible exact HX.out) | (with_reducible refine Ext.trans ?_ HX.out) | (with_reducible refine Ext.below ?_ (Nat.le_refl _) _) | omega | (simp; done) | (simp; omega)))⟩
                case measure => simp [intOf]; omega
              · have HM := Lib.hid hm
                clear hm
                go_wp2_with (first | (go_at_call 52; refine (rmeets_any S3 G _ _ _ (Own.slice encI_len (Own.of_ext HO3.out n1)) HGI.out).mono ?_; rintro en w' ⟨rfl, n2, rfl⟩; simp only [HM.out]) | (go_at_call 50; refine (rwith_any w.heap.size S3 G _ _ _ _ (Own.ext HO3.out (by repeat' (first | (with_reducible exact Ext.refl _) | (with_reducible exact ExtOf.ext _) | (with_reducible refine Ext.trans ?_ (ExtOf.ext _)) | (with_reducible refine Ext.alloc ?_ _) | (with_reducible refine Ext.drew ?_) | (with_reducible refine Ext.setCell ?_ ?_ _) | (with_reducible refine Ext.setRow ?_ ?_ _) | (with_reducible exact HX.out) | (with_reducible refine Ext.trans ?_ HX.out) | (with_reducible refine Ext.below ?_ (Nat.le_refl _) _) | omega | (simp; done) | (simp; omega)))) (IntS.ext HGI.out (by repeat' (first | (with_reducible exact Ext.refl _) | (with_reducible exact ExtOf.ext _) | (with_reducible refine Ext.trans ?_ (ExtOf.ext _)) | (with_reducible refine Ext.alloc ?_ _) | (with_reducible refine Ext.drew ?_) | (with_reducible refine Ext.setCell ?_ ?_ _) | (with_reducible refine Ext.setRow ?_ ?_ _) | (with_reducible exact HX.out) | (with_reducible refine Ext.trans ?_ HX.out) | (with_reducible refine Ext.below ?_ (Nat.le_refl _) _) | omega | (simp; done) | (simp; omega)))) HNE.out (by have := HX3.out.size; have := n1.size; have := n2.size; omega) (by omega)).mono ?_; rintro en w' ⟨v4, rfl, ho4, hg4, hb4⟩))
                have hx4 : Ext w w' := Below.trans (HX3.out.trans (n1.ext.trans n2.ext)) hb4
                obtain ⟨n0, hn0, hn1⟩ := meet_ex HM.out
                go_roundw
                case rel => exact ⟨withL S3 G, i + 1, by first | rfl | go_num, ho4, by rw [HG.out]; exact HF3.out.grp hn0 (by rw [← HG.out]; exact hn1), List.IsPrefix.trans HP3.out (withL_prefix _ _), by omega, grp_more (fun j n m hj hn hg hm => (withL_mem _ _).2 (.inl (HU3.out j n m hj hn hg hm))) (fun n m hn hg hm => (withL_mem _ _).2 (.inr (by rw [HG.out]; exact hm))), hx4⟩
                case measure => simp [intOf]; omega
            · obtain rfl : i = l.length := by omega
              go_wp2_with fail
              have hlen3 := List.IsPrefix.length_le (List.IsPrefix.trans HP2.out HP3.out)
              go_roundw
              case rel =>
                refine ⟨S3, S.length, rfl, HO3.out, HF3.out, hlen3, fun he => ?_, HX3.out⟩
                have e1 : S = S2 := prefix_eq HP2.out (by have := List.IsPrefix.length_le HP3.out; omega)
                have e2 : S2 = S3 := prefix_eq HP3.out (by have := List.IsPrefix.length_le HP2.out; omega)
                refine ⟨HF3.out.board, fun n m hn hu => by rw [← e2] at hn ⊢; exact HUP.out n m hn hu, fun j n m hn hg hm => ?_⟩
                by_cases hj : j < l.length
                · exact HU3.out j n m hj (by rw [e2]; exact hn) hg hm
                · rw [group_out (by simp; omega)] at hg; cases hg
              case measure =>
                show famM S3.length S.length < famM S.length k
                unfold famM
                rw [if_neg (show ¬ k = S.length by omega)]
                split <;> omega
    · obtain rfl : k = S.length := by omega
      have hc := HCL.out rfl
      go_wp2_with fail
      go_ret
      exact ⟨_, rfl, S, HO.out, ⟨HF.out, fun n => fam_unique num hc HF.out.mem n⟩, ExtOf.of HX.out⟩
end Go.Proofs.YtjfohapnjnopfaaGreatDoor
end
/-
  Chapter 61: the reference's check and history.
-/
section
set_option linter.unusedVariables false
set_option linter.unusedSimpArgs false
namespace Go.Proofs.YtjfohapnjnopfaaGreatDoor
open Go.RowKit Go.WideShapes RepM

attribute [local go_sem] ExtOf.cell ExtOf.frozen ExtS.cell ExtS.frozen Block.cell Block.frozen ExtB.cell ExtB.frozen alloc_cell alloc_frozen
theorem evs_counted (l : List EvP) : evs (l.filter okP) = counted (evs l) := by
  unfold counted evs
  rw [List.filter_map]
  rfl
theorem past_filter {w : World} {v : Value} {l : List EvP} (h : EvsS w v (l.filter okP)) (hl : l.length ≤ 1000) : PastS w v (l.filter okP) :=
  ⟨h, fun x hx => (List.mem_filter.1 hx).2, Nat.le_trans (List.length_filter_le _ _) hl⟩
/-- what the check answers -/
def ChR (w : World) (l : List EvP) (s : ByteArray) (en : Ending) (w' : World) : Prop :=
  ∃ v n, en = .returned (.tuple #[v, .int .i64 n, .int .i64 (errOf (evs l) s)]) ∧ (errOf (evs l) s = 0 → n = num s ∧ PastS w' v (l.filter okP)) ∧ ∃ m : ExtOf w, w' = m.val
set_option maxHeartbeats 1600000 in
theorem rchk_any (l : List EvP) (v : Value) (s : ByteArray) (w : World) (h : EvsS w v l) (hl : l.length ≤ 1000) : Calls Tryz.prog 21 #[v, .string s] w (ChR w l s) := by
  obtain ⟨p, cap, rfl, hc1, hc2, hc3⟩ := EvsS.form h
  unfold maxLen at hc2
  have H := Lib.hid h
  clear h
  rcases hk : isK s 66 with _ | _
  · have HE : Hid (errOf (evs l) s = 6) := Lib.hid (by unfold errOf; rw [hk]; rfl)
    go_enter Tryz.func21, Tryz.ntmps21
    go_wp2_with (go_at_call 46; refine (ris_any s 66 _).mono ?_; rintro en w' ⟨rfl, n1, rfl⟩; simp only [hk])
    go_ret3
    exact ⟨_, _, by rw [HE.out]; rfl, fun h0 => (by rw [HE.out] at h0; cases h0), ExtOf.of n1.ext⟩
  · have HK := Lib.hid hk
    clear hk
    go_enter Tryz.func21, Tryz.ntmps21
    go_wp2_with (go_at_call 46; refine (ris_any s 66 _).mono ?_; rintro en w' ⟨rfl, n1, rfl⟩; simp only [HK.out])
    refine (rcounted_any l _ _ (H.out.ext n1.ext) hl).mono ?_
    rintro en w' ⟨cv, rfl, hcv, n2, rfl⟩
    have hp := past_filter hcv hl
    obtain ⟨cq, cc, rfl, hq1, hq2, hq3⟩ := EvsS.form hcv
    have HP := Lib.hid hp
    clear hcv hp
    have HO := Lib.hid (fun W (hx : Ext n2.val W) => rorigin_any (l.filter okP) _ (num s) W (PastS.ext HP.out hx) (num_wide s))
    rw [evs_counted] at HO
    go_wp2_with (go_at_call 48; refine (rnum_any s _).mono ?_; rintro en w' ⟨rfl, n3, rfl⟩)
    refine (HO.out _ n3.ext).mono ?_
    rintro en w' ⟨⟨k, rfl, hko⟩, n4, rfl⟩
    rcases hko with ⟨rfl, hnone⟩ | ⟨i, hi, rfl, h4, hsome⟩
    · have HE : Hid (errOf (evs l) s = 8) := Lib.hid (by unfold errOf; rw [HK.out, hnone]; rfl)
      go_wp2_with fail
      go_ret3
      exact ⟨_, _, by rw [HE.out]; rfl, fun h0 => (by rw [HE.out] at h0; cases h0), ExtOf.of (by repeat' (first | (with_reducible exact Ext.refl _) | (with_reducible exact ExtOf.ext _) | (with_reducible refine Ext.trans ?_ (ExtOf.ext _)) | (with_reducible refine Ext.alloc ?_ _) | (with_reducible refine Ext.drew ?_) | (with_reducible refine Ext.setCell ?_ ?_ _) | (with_reducible refine Ext.setRow ?_ ?_ _) | (with_reducible exact HX.out) | (with_reducible refine Ext.trans ?_ HX.out) | (with_reducible refine Ext.below ?_ (Nat.le_refl _) _) | omega | (simp; done) | (simp; omega)))⟩
    · have HE : Hid (errOf (evs l) s = 0) := Lib.hid (by unfold errOf; rw [HK.out, hsome]; rfl)
      have q0 : decide ((i : Int) < 0) = false := decide_eq_false (by omega)
      clear h4 hsome
      go_wp2_with fail
      go_ret3
      exact ⟨_, _, by rw [HE.out]; rfl, fun _ => ⟨rfl, HP.out.ext (n3.ext.trans n4.ext)⟩, ExtOf.of (by repeat' (first | (with_reducible exact Ext.refl _) | (with_reducible exact ExtOf.ext _) | (with_reducible refine Ext.trans ?_ (ExtOf.ext _)) | (with_reducible refine Ext.alloc ?_ _) | (with_reducible refine Ext.drew ?_) | (with_reducible refine Ext.setCell ?_ ?_ _) | (with_reducible refine Ext.setRow ?_ ?_ _) | (with_reducible exact HX.out) | (with_reducible refine Ext.trans ?_ HX.out) | (with_reducible refine Ext.below ?_ (Nat.le_refl _) _) | omega | (simp; done) | (simp; omega)))⟩
end Go.Proofs.YtjfohapnjnopfaaGreatDoor
end
