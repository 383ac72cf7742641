/-
  The stable sort of the library: the walk of stableCmpFunc.
-/
import Derived.Test.YtaflcbdbacogeaaDoorP5
set_option linter.unusedVariables false
set_option linter.unusedSimpArgs false
namespace Go.Proofs.YtaflcbdbacogeaaDoor
open Go.RowKit ReportM Go.Shelf Go.Lib Go.Sort

def zI (op : List Nat) (i : Fin op.length) : Int := ((op[i] : Nat) : Int)
theorem encI_eZ (op : List Nat) : encI op = eZ (zI op) := rfl
theorem sym_op (d : List Du) (op : List Nat) [Inhabited (Fin op.length)] (g cap : Nat) (w : World) (cb : Array Value) (hn : op.length ≤ 1000)
    (hc : CmpLays1 Tryd.prog 35 cb (encI op) (cmpI d op) g 0 op.length w) (hH : Holds (encI op) w g 0 (dI op)) (hg : g < w.heap.size)
    (a m b : Nat) (dk : Array (Fin op.length)) (wr : World) (h1 : a < m) (h2 : m < b) (h3 : b ≤ op.length) (h4 : dk.size = op.length) (r1 : Run (TI d op) a m dk) (r2 : Run (TI d op) m b dk) (S : SW (encI op) w g 0 dk wr) :
    Calls Tryd.prog 63 #[.slice (some ⟨g, 0, none⟩) op.length cap, .int .i64 (a : Int), .int .i64 (m : Int), .int .i64 (b : Int), .func (.func 35) #[] cb] wr fun e w' => e = .returned (.tuple #[]) ∧ ∃ d', d'.size = op.length ∧ PermIn a b dk d' ∧ Run (TI d op) a b d' ∧ SW (encI op) w g 0 d' w' := by
  have h := sym_all (z := zI op) (T := TI d op) (swoT d op) (cmpI d op) 35 cb g cap (dI op) w egO (by rw [dI_size]; exact hc) ⟨encI_one op, hH, hg⟩ (by rw [dI_size]; omega) (b - a) a m b dk wr (Nat.le_refl _) h1 h2 (by omega) (by rw [dI_size]; exact h4) ⟨r1.ord, r2.ord⟩ (Run.agree (fun i j h => agreeI d op h) r1 r2) S
  rw [dI_size] at h
  refine h.mono ?_
  rintro e w' ⟨rfl, d', hp, hs, hS⟩
  exact ⟨rfl, d', by rw [hp.1, h4], hp, Run.merge r1 r2 (by omega) (by omega) (by omega) hp hs, hS⟩
set_option maxRecDepth 20000 in
set_option maxHeartbeats 3200000 in
theorem stable_w (d : List Du) (op : List Nat) [Inhabited (Fin op.length)] (g cap : Nat) (w : World) (cb : Array Value) (hn : op.length ≤ 1000)
    (hc : CmpLays1 Tryd.prog 35 cb (encI op) (cmpI d op) g 0 op.length w) (hH : Holds (encI op) w g 0 (dI op)) (hg : g < w.heap.size) :
    Calls Tryd.prog 47 #[.slice (some ⟨g, 0, none⟩) op.length cap, .int .i64 (op.length : Int), .func (.func 35) #[] cb] w fun e w' => e = .returned (.tuple #[]) ∧ ∃ d' : Array (Fin op.length), PermIn 0 op.length (dI op) d' ∧ SortedIn (TI d op) 0 op.length d' ∧ SW (encI op) w g 0 d' w' := by
  have HC : Hid (CmpLays1 Tryd.prog 35 cb (encI op) (cmpI d op) g 0 (dI op).size w) := Lib.hid (by rw [dI_size]; exact hc)
  have HR : Hid (Row1 (encI op) w g 0 (dI op)) := Lib.hid ⟨encI_one op, hH, hg⟩
  have HSY := Lib.hid (sym_op d op g cap w cb hn hc hH hg)
  have S0 := Lib.hid (SW.start hH)
  have HFR : Hid (∀ (a b : Nat) (dk : Array (Fin op.length)), dk.size = op.length → Fst (TI d op) 20 a op.length dk → a ≤ b → b ≤ op.length → (insertionSort (ltOf (cmpI d op)) dk a b).size = op.length ∧ PermIn a b dk (insertionSort (ltOf (cmpI d op)) dk a b) ∧ Run (TI d op) a b (insertionSort (ltOf (cmpI d op)) dk a b)) := Lib.hid (fun a b dk hs hf h1 h2 => by
    have h := Fst.run (swoT d op) (fun i j h => agreeI d op h) hf h1 h2 (by omega)
    exact ⟨by rw [h.1.1, hs], h⟩)
  have HIN : Hid (∀ (a b : Nat) (dk : Array (Fin op.length)) (wr : World), dk.size = op.length → a ≤ b → b ≤ op.length → SW (encI op) w g 0 dk wr → Calls Tryd.prog 62 #[.slice (some ⟨g, 0, none⟩) op.length cap, .int .i64 (a : Int), .int .i64 (b : Int), .func (.func 35) #[] cb] wr fun e w' => e = .returned (.tuple #[]) ∧ SW (encI op) w g 0 (insertionSort (ltOf (cmpI d op)) dk a b) w') := Lib.hid (fun a b dk wr hs h1 h2 S => by
    have h := Tryd.insertionSortCmpFunc_s (encI op) (cmpI d op) 35 cb g 0 cap a b (dI op) dk w wr egO HC.out HR.out (by rw [dI_size]; omega) S (by omega) (by omega) (by omega)
    rw [hs] at h
    exact h)
  clear hc hH hg HC HR
  go_enter Tryd.func47, Tryd.ntmps47
  go_wp2_with fail
  go_loopw [7, 8] (fun u v wr => ∃ (a : Nat) (dk : Array (Fin op.length)), u = .int .i64 (a : Int) ∧ v = .int .i64 ((a : Int) + 20) ∧ a ≤ op.length ∧ dk.size = op.length ∧ Hid (Fst (TI d op) 20 a op.length dk) ∧ Hid (PermIn 0 op.length (dI op) dk) ∧ Hid (SW (encI op) w g 0 dk wr)) (fun u _ _ => op.length - (intOf u).toNat)
  case atStart => exact ⟨0, dI op, rfl, by first | rfl | go_num, by omega, dI_size op, Lib.hid ⟨⟨0, rfl⟩, fun x _ hx => by omega, fun i _ hi => by rw [dI_get op i hi]⟩, Lib.hid (permIn_refl _ _ _), S0⟩
  case round =>
    clear S0
    obtain ⟨a, dk, rfl, rfl, han, hds, HF, HP, S1⟩ := hrel
    by_cases hle : a + 20 ≤ op.length
    · obtain ⟨e, he1, he2⟩ : ∃ e, e ≤ a + 20 ∧ a + 20 ≤ e := ⟨a + 20, by omega, by omega⟩
      have ez : (a : Int) + 20 = (e : Int) := by omega
      have hle2 : e ≤ op.length := by omega
      obtain ⟨z2, hp2, hr2⟩ := HFR.out a e dk hds HF.out (by omega) hle2
      have P2 := Lib.hid hp2
      have R2 := Lib.hid hr2
      clear hp2 hr2
      go_wp2_with (go_at_call 62; refine (HIN.out a e dk _ hds (by omega) hle2 S1.out).mono ?_; rintro ee w' ⟨rfl, hS2⟩; have S2 := Lib.hid hS2; clear hS2)
      go_roundw
      case rel => exact ⟨e, _, by first | rfl | go_num, by first | rfl | go_num, hle2, z2, Lib.hid (by have p := P2.out; have r := R2.out; rw [show e = a + 20 by omega] at p r ⊢; exact HF.out.step hle (by omega) p r), Lib.hid (permIn_trans _ _ _ _ _ HP.out (permIn_mono _ _ _ _ _ _ (by omega) hle2 (by omega) P2.out)), S2⟩
      case measure => simp [intOf]; omega
    · obtain ⟨z2, hp2, hr2⟩ := HFR.out a op.length dk hds HF.out han (Nat.le_refl _)
      have HB := Lib.hid (HF.out.done han (by omega) hp2 hr2)
      have HP2 : Hid (PermIn 0 op.length (dI op) (insertionSort (ltOf (cmpI d op)) dk a op.length)) := Lib.hid (permIn_trans _ _ _ _ _ HP.out (permIn_mono _ _ _ _ _ _ (by omega) (Nat.le_refl _) (by omega) hp2))
      clear hp2 hr2
      go_wp2_with (go_at_call 62; refine (HIN.out a op.length dk _ hds (by omega) (Nat.le_refl _) S1.out).mono ?_; rintro e w' ⟨rfl, hS2⟩; have S2 := Lib.hid hS2; clear hS2)
      generalize insertionSort (ltOf (cmpI d op)) dk a op.length = d1 at *
      clear S1 HF HP HFR HIN
      have hn0 : 0 < op.length := Fin.pos default
      go_loopw [6, 7, 8] (fun u _ _ wr => ∃ (bs : Nat) (dk : Array (Fin op.length)), u = .int .i64 (bs : Int) ∧ 0 < bs ∧ bs ≤ 2000 ∧ dk.size = op.length ∧ Hid (Blocks (TI d op) bs op.length dk) ∧ Hid (PermIn 0 op.length (dI op) dk) ∧ Hid (SW (encI op) w g 0 dk wr)) (fun u _ _ _ => op.length - (intOf u).toNat)
      case atStart => exact ⟨20, d1, by first | rfl | go_num, by omega, by omega, z2, HB, HP2, S2⟩
      case round =>
        clear S2 HB HP2 z2 hds
        obtain ⟨bs, dk, rfl, hb0, hb1, hds, HB, HP, S1⟩ := hrel
        by_cases hbn : bs < op.length
        · go_wp2_with fail
          go_loopw [7, 8] (fun u v wr => ∃ (a : Nat) (dk : Array (Fin op.length)), u = .int .i64 (a : Int) ∧ v = .int .i64 ((a : Int) + 2 * (bs : Int)) ∧ a ≤ op.length ∧ dk.size = op.length ∧ Hid (Pass (TI d op) bs a op.length dk) ∧ Hid (PermIn 0 op.length (dI op) dk) ∧ Hid (SW (encI op) w g 0 dk wr)) (fun u _ _ => op.length - (intOf u).toNat)
          case atStart => exact ⟨0, dk, by first | rfl | go_num, by first | rfl | go_num, by omega, hds, Lib.hid (Pass.start HB.out), HP, S1⟩
          case round =>
            clear S1 HB HP hds dk
            obtain ⟨a, dk, rfl, rfl, han, hds, HF, HP, S1⟩ := hrel
            obtain ⟨e, he1, he2⟩ : ∃ e, e ≤ a + 2 * bs ∧ a + 2 * bs ≤ e := ⟨a + 2 * bs, by omega, by omega⟩
            obtain ⟨m, hm1, hm2⟩ : ∃ m, m ≤ a + bs ∧ a + bs ≤ m := ⟨a + bs, by omega, by omega⟩
            have ez : (a : Int) + 2 * (bs : Int) = (e : Int) := by omega
            have ey : (a : Int) + (bs : Int) = (m : Int) := by omega
            have hem : e = a + 2 * bs := by omega
            have hmm : m = a + bs := by omega
            have HEM := Lib.hid hem
            have HMM := Lib.hid hmm
            clear hem hmm
            by_cases hle : e ≤ op.length
            · have R1 : Hid (Run (TI d op) a m dk) := Lib.hid (by rw [HMM.out]; have := HF.out.hi a (Nat.dvd_trans ⟨2, by omega⟩ HF.out.div) (Nat.le_refl _) (by omega); rwa [Nat.min_eq_left (by omega)] at this)
              have R2 : Hid (Run (TI d op) m e dk) := Lib.hid (by rw [HMM.out, HEM.out]; have := HF.out.hi (a + bs) (Nat.dvd_add (Nat.dvd_trans ⟨2, by omega⟩ HF.out.div) ⟨1, by omega⟩) (by omega) (by omega); rwa [Nat.min_eq_left (by omega), show a + bs + bs = a + 2 * bs by omega] at this)
              go_wp2_with (go_at_call 63; refine (HSY.out (a) (m) (e) dk _ (by omega) (by omega) (by omega) hds R1.out R2.out S1.out).mono ?_; rintro ee w' ⟨rfl, d2, hz2, hp2, hr2, hS2⟩; have S2 := Lib.hid hS2; have P2 := Lib.hid hp2; have R3 := Lib.hid hr2; clear hS2 hp2 hr2)
              go_roundw
              case rel => exact ⟨e, d2, by first | rfl | go_num, by first | rfl | go_num, hle, hz2, Lib.hid (by have p := P2.out; have r := R3.out; rw [HEM.out] at p r ⊢; exact HF.out.step (by omega) hb0 p r), Lib.hid (permIn_trans _ _ _ _ _ HP.out (permIn_mono _ _ _ _ _ _ (by omega) hle (by omega) P2.out)), S2⟩
              case measure => simp [intOf]; omega
            · by_cases hmn : m < op.length
              · have R1 : Hid (Run (TI d op) a m dk) := Lib.hid (by rw [HMM.out]; have := HF.out.hi a (Nat.dvd_trans ⟨2, by omega⟩ HF.out.div) (Nat.le_refl _) (by omega); rwa [Nat.min_eq_left (by omega)] at this)
                have R2 : Hid (Run (TI d op) m op.length dk) := Lib.hid (by rw [HMM.out]; have := HF.out.hi (a + bs) (Nat.dvd_add (Nat.dvd_trans ⟨2, by omega⟩ HF.out.div) ⟨1, by omega⟩) (by omega) (by omega); rwa [Nat.min_eq_right (by omega)] at this)
                go_wp2_with (go_at_call 63; refine (HSY.out (a) (m) (op.length) dk _ (by omega) (by omega) (by omega) hds R1.out R2.out S1.out).mono ?_; rintro ee w' ⟨rfl, d2, hz2, hp2, hr2, hS2⟩; have S2 := Lib.hid hS2; have P2 := Lib.hid hp2; have R3 := Lib.hid hr2; clear hS2 hp2 hr2)
                go_roundw
                case rel => exact ⟨2 * bs, d2, by first | rfl | go_num, by omega, by omega, hz2, Lib.hid (HF.out.done han (by omega) P2.out (fun _ => R3.out)), Lib.hid (permIn_trans _ _ _ _ _ HP.out (permIn_mono _ _ _ _ _ _ (by omega) (Nat.le_refl _) (by omega) P2.out)), S2⟩
                case measure => simp [intOf]; omega
              · have HB2 : Hid (Blocks (TI d op) (2 * bs) op.length dk) := Lib.hid (HF.out.done han (by omega) (permIn_refl _ _ _) (fun ha => by have := HF.out.hi a (Nat.dvd_trans ⟨2, by omega⟩ HF.out.div) (Nat.le_refl _) ha; rwa [Nat.min_eq_right (by omega)] at this))
                go_wp2_with fail
                go_roundw
                case rel => exact ⟨2 * bs, dk, by first | rfl | go_num, by omega, by omega, hds, HB2, HP, S1⟩
                case measure => simp [intOf]; omega
        · have HS : Hid (SortedIn (TI d op) 0 op.length dk) := Lib.hid (by have := HB.out 0 ⟨0, by omega⟩ hn0; rw [Nat.zero_add, Nat.min_eq_right (by omega)] at this; exact this.ord)
          go_wp2_with fail
          go_end0
          exact ⟨rfl, dk, HP.out, HS.out, S1.out⟩
theorem sort_all : SortOk 1000 := sortst_of fun d op _ g cap w cb hm hc hH hg => stable_w d op g cap w cb hm hc hH hg
end Go.Proofs.YtaflcbdbacogeaaDoor
