/-
  What the executor shows for the law: failed and Fail at the three errors; New, Do("digest") twice.
-/
import Derived.Test.YtjflmmipjeangaaGreatDoorSymTAw
set_option linter.unusedSimpArgs false
set_option linter.unusedVariables false
set_option maxRecDepth 1000000
namespace Go.Proofs.YtjflmmipjeangaaGreatDoor.Sx
open Go Go.RowKit
noncomputable def flCl : FuncId → List SVal → Hp → Out := clD Tryz.prog (fun _ => none) (fun _ _ _ => none) 2000 60
def isText (o : Out) (l : List UInt8) : Bool := match o with
  | some (.v (.string t), _) => t.data.toList == l
  | _ => false
theorem isText_spec {o : Out} {l : List UInt8} (h : isText o l = true) : ∃ H, o = some (.v (.string ⟨l.toArray⟩), H) := by
  unfold isText at h
  split at h
  · next t H =>
    refine ⟨H, ?_⟩
    have h2 : t.data.toList = l := by simpa using h
    subst h2
    rfl
  · cases h
theorem fail_any {f : FuncId} {e : Int} {l : List UInt8} (h : isText (flCl f [.v (.int .i64 e)] (fragH [])) l = true) (w : World) : Calls Tryz.prog f #[.int .i64 e] w fun e' w' => e' = .returned (.string ⟨l.toArray⟩) ∧ Below w.heap.size w w' := by
  obtain ⟨H', hr⟩ := isText_spec h
  have hc : ClOk Tryz.prog (fun _ => none) flCl := clD_run orc_none (by decide +kernel) 2000 60
  refine Calls.mono (hc _ _ _ _ _ hr (fun _ => none) w [.int .i64 e] (fragH_tidy _) (fun g b h => by cases h) ⟨fun _ _ => rfl, fun _ _ _ h => (by cases h), fun _ _ _ h => (by cases h), fun _ _ _ _ _ _ _ h => (by cases h)⟩ (.cons (.v _) .nil)) ?_
  rintro e' W' ⟨v, rfl, σ, hs, hv, _⟩
  cases hv
  exact ⟨rfl, hs.os, hs.tape, hs.output, hs.size, fun r hlt => hs.frame r hlt fun b k e hl => by cases e⟩
def errT (d : UInt8) : List UInt8 := [101, 114, 114, 111, 114, 32, d, 10]
theorem failed4 : isText (flCl 17 [.v (.int .i64 4)] (fragH [])) (errT 52) = true := by kernel_rfl
theorem failed5 : isText (flCl 17 [.v (.int .i64 5)] (fragH [])) (errT 53) = true := by kernel_rfl
theorem failed9 : isText (flCl 17 [.v (.int .i64 9)] (fragH [])) (errT 57) = true := by kernel_rfl
theorem rfail4 : isText (flCl 8 [.v (.int .i64 4)] (fragH [])) (errT 52) = true := by kernel_rfl
theorem rfail5 : isText (flCl 8 [.v (.int .i64 5)] (fragH [])) (errT 53) = true := by kernel_rfl
theorem rfail9 : isText (flCl 8 [.v (.int .i64 9)] (fragH [])) (errT 57) = true := by kernel_rfl
/-- the digest's line -/
def dgS : SVal := .v (.string ⟨⟨[100, 105, 103, 101, 115, 116]⟩⟩)
noncomputable def lwB (o o' : Out) : Bool := match o, o' with
  | some (.v (.string t), _), some (.v (.string t'), _) => t.data.toList == t'.data.toList
  | _, _ => false
noncomputable def lw3 (s : SVal) (o : Out) : Bool := match o with
  | some (.v (.string t), H2) => lwB o (awCl 7 [s, dgS] H2)
  | _ => false
noncomputable def lw2 (o : Out) : Bool := match o with
  | some (.ptr b 0, H1) => lw3 (.ptr b 0) (awCl 7 [.ptr b 0, dgS] H1)
  | _ => false
theorem lw_runs : lw2 (awCl 5 [] (fragH glM)) = true := by kernel_rfl
/-- what stays from run to run; B: the end of the heap ahead of all -/
structure Keeps (B : Nat) (ρ : Pl) (H : Hp) (W : World) : Prop where
  held : Held ρ H W
  glob : GlobsH gM ρ H
  tidy : H.Tidy
  far : ∀ b r k, H.low ≤ b.nat → ρ b = some (r, k) → B ≤ r
  size : B ≤ W.heap.size
theorem Held.below' {ρ : Pl} {H : Hp} {W W' : World} (h : Held ρ H W) (hb : Below W.heap.size W W') : Held ρ H W' :=
  ⟨h.fresh, fun b r k e => Nat.lt_of_lt_of_le (h.lt b r k e) hb.size, fun b r k e => (h.obj b r k e).world (hb.block r (h.lt b r k e)), h.apart⟩
theorem Keeps.ext {B : Nat} {ρ : Pl} {H : Hp} {W W' : World} (h : Keeps B ρ H W) (hb : Below W.heap.size W W') : Keeps B ρ H W' :=
  ⟨h.held.below' hb, h.glob, h.tidy, h.far, Nat.le_trans h.size hb.size⟩
theorem Keeps.start {ρ : Pl} {W : World} (hh : Held ρ (fragH glM) W) (hg : GlobsH gM ρ (fragH glM)) : Keeps W.heap.size ρ (fragH glM) W := by
  refine ⟨hh, hg, fragH_tidy _, fun b r k hl e => ?_, Nat.le_refl _⟩
  have h1 : ¬ (fragH glM).next.nat ≤ b.nat := fun h => by rw [hh.fresh b h] at e; cases e
  rw [fragH_next] at h1
  have h2 : lenR glM ≤ b.nat := hl
  rw [lenR_eq] at h2
  omega
theorem Keeps.run {B : Nat} {ρ : Pl} {H H' : Hp} {W : World} (h : Keeps B ρ H W) {f : FuncId} {args : List SVal} {s : SVal} (hr : awCl f args H = some (s, H')) {vs : List Value} (hv : VRs ρ args vs) :
    Calls Tryz.prog f vs.toArray W fun e W' => ∃ v σ, e = .returned v ∧ VR σ s v ∧ Keeps B σ H' W' ∧ Below B W W' ∧ ∀ b x, ρ b = some x → σ b = some x := by
  have hc : ClOk Tryz.prog gM awCl := clD_run (orcA_ok awD awD_ok) (by decide +kernel) 2000 60
  have hsub : Sub H H' := clD_sub (orcA_ok awD awD_ok) 2000 60 _ _ _ _ _ hr
  refine Calls.mono (hc _ _ _ _ _ hr ρ W vs h.tidy h.glob h.held hv) ?_
  rintro e W' ⟨v, rfl, σ, hs, hv, hh⟩
  have safe : ∀ r, r < B → Safe ρ H r := fun r hlt b k e hl => by have := h.far b r k hl e; omega
  refine ⟨v, σ, rfl, hv, ⟨hh, h.glob.step hs, hsub.tidy h.tidy, fun b r k hl e => ?_, Nat.le_trans h.size hs.size⟩, ⟨hs.os, hs.tape, hs.output, hs.size, fun r hlt => hs.frame r (Nat.lt_of_lt_of_le hlt h.size) (safe r hlt)⟩, fun b x e => ?_⟩
  · rw [hs.low] at hl
    by_cases hb : b.nat < H.next.nat
    · rw [hs.agree b hb] at e
      exact h.far b r k hl e
    · rcases hs.born b r k (by omega) e with h1 | h1
      · exact Nat.le_trans h.size h1
      · by_cases hlt : r < B
        · exact absurd (safe r hlt) h1
        · omega
  · have hb : b.nat < H.next.nat := by
      by_cases hb : b.nat < H.next.nat
      · exact hb
      · rw [h.held.fresh b (by omega)] at e
        cases e
    rw [hs.agree b hb]
    exact e
/-- New and the two digests -/
theorem lw_spec : ∃ (b : Pos) (H1 H2 H3 : Hp) (t : ByteArray), awCl 5 [] (fragH glM) = some (.ptr b 0, H1) ∧ awCl 7 [.ptr b 0, dgS] H1 = some (.v (.string t), H2) ∧ awCl 7 [.ptr b 0, dgS] H2 = some (.v (.string t), H3) := by
  have h := lw_runs
  generalize awCl 5 [] (fragH glM) = o1 at h
  unfold lw2 at h
  split at h <;> try (cases h; done)
  next b H1 =>
  generalize h2 : awCl 7 [.ptr b 0, dgS] H1 = o2 at h
  unfold lw3 at h
  split at h <;> try (cases h; done)
  next t H2 =>
  generalize h3 : awCl 7 [.ptr b 0, dgS] H2 = o3 at h
  unfold lwB at h
  split at h <;> try (cases h; done)
  next t1 H4 t' H3 e =>
  simp only [Option.some.injEq, Prod.mk.injEq, SVal.v.injEq, Value.string.injEq] at e
  obtain ⟨rfl, rfl⟩ := e
  have ht : t.data.toList = t'.data.toList := by simpa using h
  have ht2 : t = t' := ByteArray.ext (Array.ext' ht)
  subst ht2
  exact ⟨b, H1, H2, H3, t, rfl, h2, h3⟩
end Go.Proofs.YtjflmmipjeangaaGreatDoor.Sx
