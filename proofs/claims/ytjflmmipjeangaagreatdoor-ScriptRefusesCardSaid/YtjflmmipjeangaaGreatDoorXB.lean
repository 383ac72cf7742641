/-
  Chapter 62: several texts in one (SymJ, SymK, SymL, SymZ, SymLI, SymX, SymY, SymS).
-/
import Derived.Test.YtjflmmipjeangaaGreatDoorXA
import Derived.Laws.BytesString
import GoSem.Core.Utf8
/-
  The executor, one operation: append.
-/
section
set_option linter.unusedVariables false
set_option linter.unusedSimpArgs false
namespace Go.Proofs.YtjflmmipjeangaaGreatDoor.Sx
open Go.RowKit

section
variable {P : Program} {G : Gl} {ρ : Pl} {H H' : Hp} {W : World} {t : Sl} {a : Act} {o : Oper} {s : SVal}
/-- what is appended: how many elements, of z cells each, and their cells -/
noncomputable def srcOf (P : Program) (H : Hp) (tx : TypeId) (z : Nat) (x : SVal) : Option (Nat × List SVal) :=
  match x with
  | .slice b off len _ => match P.underlying tx with
    | some (.slice _) => match cellsAt H b off (len * z) with
      | some l => match oneAll l with
        | true => some (len, l)
        | false => none
      | none => none
    | _ => none
  | _ => none
theorem srcOf_run {tx z n : Nat} {l : List SVal} {x : SVal} {v : Value} (h : Held ρ H W) (hx : VR ρ x v) (hs : srcOf P H tx z x = some (n, l)) (hn : n ≠ 0) : ∃ news, VRs ρ l news ∧ Src P z tx v n news W := by
  unfold srcOf at hs
  split at hs <;> try (cases hs; done)
  next b off len c =>
  split at hs <;> try (cases hs; done)
  next e hu =>
  split at hs <;> try (cases hs; done)
  next l' hc =>
  split at hs <;> try (cases hs; done)
  next h1 =>
  simp only [Option.some.injEq, Prod.mk.injEq] at hs
  obtain ⟨rfl, rfl⟩ := hs
  obtain ⟨c', e1, e2, rfl⟩ := cellsAt_spec hc
  cases hx with
  | @slice _ _ off' _ r k _ hr hcap ha =>
    have ha' : off' = off := ha.resolve_left (by omega)
    subst ha'
    obtain ⟨vs, hv, hl, hcell⟩ := h.range hr e1 off' (len * z) e2
    exact ⟨vs, hv, Src.ofSlice W hu ⟨r, off', none⟩ len _ vs hl (fun j u hj => by rw [add_zero_spot]; exact hcell j u hj) (hv.one h1)⟩
theorem nat_cast_of {n : Nat} {l : List SVal} (h : l = []) : l.length = 0 := by rw [h]; rfl
/-- nothing is appended -/
theorem d_app_none {T tx e : TypeId} {x y : Operand} {i : TypeInfo} {n : Nat} (ho : o.op = .call { callee := .builtin .append, args := #[x, y], argTypes := #[T, tx] }) (h : Held ρ H W) (hu : P.underlying T = some (.slice e)) (hi : P.info? e = some i) (hut : ∃ d, P.underlying tx = some (.slice d))
    (hx : VR ρ s (a.eval x)) (hs : (∃ b off len c, s = .slice b off len c) ∨ s = .v (.slice none 0 0)) (hy : (∃ ad m, a.eval y = .slice ad 0 m)) : Does P ρ H W s H a o := by
  obtain ⟨ad, m, hy⟩ := hy
  obtain ⟨d, hut⟩ := hut
  have key : ∀ base len cap, len ≤ cap → (Builtin.append_ #[T, tx] o.type #[.slice base len cap, .slice ad 0 m]).run P W = .ok (.slice base len cap) W := fun base len cap hle => by
    have hl0 : ∀ ad : Addr, (loadCells ad 0).run P W = .ok #[] W := fun ad => run_loadCells_list (P := P) W ad [] (by simp)
    cases ad <;> cases base <;> simp [Builtin.append_, run_underlying hu, run_underlying hut, sizeOf, typeInfo, hi, Builtin.lenOf, Builtin.firstCells, hle, storeCells, hl0]
  generalize hev : a.eval x = v at hx
  refine Does.value (v := v) (W' := W) ?_ (Good.same h hx)
  rcases hs with ⟨b, off, len, c, rfl⟩ | rfl
  · cases hx with
    | slice hr hcap ha =>
      unfold execOp
      simp [ho, hev, hy, resolve, invoke, builtin, Sem.run_bind, Sem.run, Sem.run_pure, Result.andThen_ok, key _ _ _ hcap]
  · cases hx
    unfold execOp
    simp [ho, hev, hy, resolve, invoke, builtin, Sem.run_bind, Sem.run, Sem.run_pure, Result.andThen_ok, key none 0 0 (Nat.le_refl _)]
/-- an empty string is appended -/
theorem d_app_str0 {T tx e : TypeId} {x y : Operand} {i : TypeInfo} {u : ByteArray} (ho : o.op = .call { callee := .builtin .append, args := #[x, y], argTypes := #[T, tx] }) (h : Held ρ H W) (hu : P.underlying T = some (.slice e)) (hi : P.info? e = some i) (hut : P.underlying tx = some .string) (h1 : i.size = 1)
    (hx : VR ρ s (a.eval x)) (hs : (∃ b off len c, s = .slice b off len c) ∨ s = .v (.slice none 0 0)) (hy : a.eval y = .string u) (hz : u.size = 0) : Does P ρ H W s H a o := by
  have hsrc := Src.ofString W hut u
  have hnew : byteCells u = [] := by
    have := hsrc.newsLen
    rw [hz] at this
    exact List.eq_nil_of_length_eq_zero (by omega)
  have hcells := hsrc.cells
  rw [hnew, hz] at hcells
  have hlen := hsrc.len W
  rw [hz] at hlen
  have key : ∀ base len cap, len ≤ cap → (Builtin.append_ #[T, tx] o.type #[.slice base len cap, .string u]).run P W = .ok (.slice base len cap) W := fun base len cap hle => by
    cases base <;> simp [Builtin.append_, run_underlying hu, run_underlying hut, sizeOf, typeInfo, hi, h1, hlen, hcells, hle, storeCells, Sem.run_bind, Sem.run, Sem.run_pure, Result.andThen_ok]
  generalize hev : a.eval x = v at hx
  refine Does.value (v := v) (W' := W) ?_ (Good.same h hx)
  rcases hs with ⟨b, off, len, c, rfl⟩ | rfl
  · cases hx with
    | slice hr hcap ha =>
      unfold execOp
      simp [ho, hev, hy, resolve, invoke, builtin, Sem.run_bind, Sem.run, Sem.run_pure, Result.andThen_ok, key _ _ _ hcap]
  · cases hx
    unfold execOp
    simp [ho, hev, hy, resolve, invoke, builtin, Sem.run_bind, Sem.run, Sem.run_pure, Result.andThen_ok, key none 0 0 (Nat.le_refl _)]
theorem str_src {tx : TypeId} {z : Nat} (hut : P.underlying tx = some .string) (hz : z = 1) {v : Value} {u : ByteArray} (hv : v = .string u) : ∃ news, VRs ρ ((byteCells u).map .v) news ∧ Src P z tx v u.size news W := by
  subst hz hv
  refine ⟨byteCells u, ?_, Src.ofString W hut u⟩
  exact VRs.of_map ρ _
/-- there is room within the block's known cells -/
theorem d_app_room {T tx e : TypeId} {x y : Operand} {i : TypeInfo} {b : Pos} {off len n : Nat} {c : Cap} {l : List SVal} (ho : o.op = .call { callee := .builtin .append, args := #[x, y], argTypes := #[T, tx] }) (h : Held ρ H W)
    (hu : P.underlying T = some (.slice e)) (hi : P.info? e = some i) (hx : VR ρ (.slice b off len c) (a.eval x)) (hsr : ∃ news, VRs ρ l news ∧ Src P i.size tx (a.eval y) n news W) (hn : n ≠ 0)
    (hroom : ∀ r k, ρ b = some (r, k) → len + n ≤ c.real k) (hp : putAt H b (off + len * i.size) l = some H') : Does P ρ H W (.slice b off (len + n) c) H' a o := by
  obtain ⟨news, hv, hsrc⟩ := hsr
  generalize hev : a.eval x = v at hx
  cases hx with
  | @slice _ _ off' _ r k _ hr hcap ha =>
    have hrm := hroom r k hr
    have ha' : off' = off := ha.resolve_left (by omega)
    subst ha'
    obtain ⟨W', hrun, hst, hheld, _⟩ := putAt_run (P := P) h hr hv hsrc.one hp
    obtain ⟨C, E, g, hb, hle, hlow, _⟩ := putAt_spec hp
    obtain ⟨D, e2, e3, e4, e5⟩ := (by have := h.obj b r k hr; rw [hb] at this; exact this : Has ρ W r k (.cells C E g))
    rw [hv.length] at hle
    have hc : ∀ j, j < news.length → (W.cell? ⟨r, off' + len * i.size + j, none⟩).isSome = true := fun j hj => by
      have hlt : off' + len * i.size + j < D.size := by omega
      simp [World.cell?, e2, hlt]
    have hf : ∀ j, j < news.length → W.frozen? ⟨r, off' + len * i.size + j, none⟩ = false := fun j hj => by simp [World.frozen?, e2]
    have hra := run_append_room_src (P := P) W T tx o.type e i hu hi r off' len (c.real k) (a.eval y) n news hsrc hrm hc hf
    have hst' := run_storeCells_cells (P := P) r (off' + len * i.size) news 0 W (by simpa using hc) (by simpa using hf) hsrc.one
    simp only [Nat.add_zero] at hst'
    rw [hst'] at hrun
    simp only [Result.ok.injEq, true_and] at hrun
    refine Does.value (v := .slice (some ⟨r, off', none⟩) (len + n) (c.real k)) (W' := W') ?_ ⟨ρ, hst, .slice hr hrm (.inr rfl), hheld⟩
    unfold execOp
    simp [ho, hev, resolve, invoke, builtin, Sem.run_bind, Sem.run, Sem.run_pure, Result.andThen_ok, hra, hrun]
/-- the row that append makes -/
theorem grown_has {e : TypeId} {need k : Nat} {z : Value} {l : List SVal} {vs : List Value} {n : Nat} (W' : World) (r : Nat) (σ : Pl) (hv : VRs σ l vs) (hl : l.length = need * n) (hz : z.cells.size = n) (hk : need ≤ k)
    (hW : W'.heap[r]? = some (.cells (vs.toArray ++ Builtin.zeroCells z.cells (k - need)) e (0, 0))) : Has σ W' r k (.cells l e (some n)) := by
  have hsz : (Builtin.zeroCells z.cells (k - need)).size = (k - need) * n := by simp [Builtin.zeroCells, hz]
  have hvl : vs.length = need * n := by rw [← hv.length]; exact hl
  refine ⟨_, hW, ?_, ?_, ?_⟩
  · simp only [Array.size_append, List.size_toArray, hsz]; omega
  · rw [Array.toList_append, hl, ← hvl, List.take_append_of_le_length (by simp)]
    simpa using hv
  · show (vs.toArray ++ Builtin.zeroCells z.cells (k - need)).size = k * n
    rw [Array.size_append, hsz, List.size_toArray, hvl, ← Nat.add_mul]
    congr 1; omega
/-- a new row: what was there lies in a block that stays, or nothing was there -/
theorem d_app_grow {T tx e : TypeId} {x y : Operand} {i : TypeInfo} {z : Value} {len cap n : Nat} {base : Option Addr} {lo l : List SVal} {olds news : List Value} (ho : o.op = .call { callee := .builtin .append, args := #[x, y], argTypes := #[T, tx] }) (h : Held ρ H W)
    (hu : P.underlying T = some (.slice e)) (hi : P.info? e = some i) (hz : i.zero = some z) (hzn : z.cells.size = i.size) (hx : a.eval x = .slice base len cap) (hsrc : Src P i.size tx (a.eval y) n news W) (hv : VRs ρ l news)
    (hold : (Builtin.firstCells i.size len (.slice base len cap)).run P W.drew = .ok olds.toArray W.drew) (hvo : VRs ρ lo olds) (hlo : lo.length = len * i.size)
    (hg : cap < len + n) (h63 : len + n ≤ 9223372036854775807) (hb : (len + n) * i.bytes ≤ 140737488355328) :
    ∃ k, len + n ≤ k ∧ (execOp a.eval o).run P W = .ok (.value (.slice (some ⟨W.heap.size, 0, none⟩) (len + n) k)) (W.drew.alloc (.cells ((olds ++ news).toArray ++ Builtin.zeroCells z.cells (k - (len + n))) e)) := by
  have hra := run_append_grow_src (P := P) W T tx o.type e i z hu hi hz base len cap olds hold (a.eval y) n news hsrc hg (by omega) (growslice_fits hg hb)
  refine ⟨grownCap W (len + n) cap e, ?_, ?_⟩
  · unfold grownCap Question.cut
    exact Nat.le_add_right _ _
  · unfold execOp
    simp [ho, hx, resolve, invoke, builtin, Sem.run_bind, Sem.run, Sem.run_pure, Result.andThen_ok, hra]
theorem app_len {l news : List Value} {n z : Nat} {y : Value} {tx : TypeId} (hs : Src P z tx y n news W) : news.length = n * z := hs.newsLen
theorem d_app_nil {T tx e : TypeId} {x y : Operand} {i : TypeInfo} {z : Value} {n : Nat} {l : List SVal} (ho : o.op = .call { callee := .builtin .append, args := #[x, y], argTypes := #[T, tx] }) (h : Held ρ H W)
    (hu : P.underlying T = some (.slice e)) (hi : P.info? e = some i) (hz : i.zero = some z) (hzn : z.cells.size = i.size) (hx : VR ρ (.v (.slice none 0 0)) (a.eval x)) (hsr : ∃ news, VRs ρ l news ∧ Src P i.size tx (a.eval y) n news W) (hn : n ≠ 0)
    (h63 : n ≤ 9223372036854775807) (hb : n * i.bytes ≤ 140737488355328) : Does P ρ H W (.slice H.next 0 n (.upto 0)) (H.more (.cells l e (some i.size))) a o := by
  obtain ⟨news, hv, hsrc⟩ := hsr
  generalize hev : a.eval x = v at hx
  cases hx
  obtain ⟨k, hk, hrun⟩ := d_app_grow (lo := []) (olds := []) ho h hu hi hz hzn hev hsrc hv (by simp [Builtin.firstCells, Sem.run_pure]) .nil (by simp) (by omega) (by omega) (by simpa using hb)
  simp only [Nat.zero_add, List.nil_append] at hk hrun
  have hl : l.length = n * i.size := by rw [hv.length]; exact hsrc.newsLen
  obtain ⟨hst, hh⟩ := h.drew.grow (W' := W.drew.alloc (.cells (news.toArray ++ Builtin.zeroCells z.cells (k - n)) e)) (r := W.heap.size) (k := k) (.cells l e (some i.size)) (by simp) (.inl (by simp))
    (fun σ hσ => grown_has _ _ σ (hv.mono hσ) hl hzn hk (MapKept.heap_alloc W.drew _).1) rfl rfl rfl (by simp) (fun r hr => Go.RowKit.Below.heap_alloc _ _ _ hr)
  exact Does.value hrun ⟨_, hst.drew, VR.slice (c := .upto 0) (Pl.put_same _ _ _) (by simpa [Cap.real] using hk) (.inr rfl), hh⟩
theorem cells_first {b : Pos} {off len z r k : Nat} {lo : List SVal} (h : Held ρ H W) (hr : ρ b = some (r, k)) (hc : cellsAt H b off (len * z) = some lo) (cap : Nat) :
    ∃ olds, VRs ρ lo olds ∧ (Builtin.firstCells z len (.slice (some ⟨r, off, none⟩) len cap)).run P W = .ok olds.toArray W ∧ lo.length = len * z := by
  obtain ⟨c', e1, e2, rfl⟩ := cellsAt_spec hc
  obtain ⟨vs, hv, hl, hcell⟩ := h.range hr e1 off (len * z) e2
  exact ⟨vs, hv, run_firstCells_some W z len ⟨r, off, none⟩ len cap vs hl (fun j u hj => by rw [add_zero_spot]; exact hcell j u hj), by rw [hv.length, hl]⟩
theorem d_app_known {T tx e : TypeId} {x y : Operand} {i : TypeInfo} {z : Value} {b : Pos} {off len cap n : Nat} {lo l : List SVal} (ho : o.op = .call { callee := .builtin .append, args := #[x, y], argTypes := #[T, tx] }) (h : Held ρ H W)
    (hu : P.underlying T = some (.slice e)) (hi : P.info? e = some i) (hz : i.zero = some z) (hzn : z.cells.size = i.size) (hx : VR ρ (.slice b off len (.known cap)) (a.eval x)) (hsr : ∃ news, VRs ρ l news ∧ Src P i.size tx (a.eval y) n news W) (hn : n ≠ 0)
    (hlo : cellsAt H b off (len * i.size) = some lo) (hg : cap < len + n) (h63 : len + n ≤ 9223372036854775807) (hb : (len + n) * i.bytes ≤ 140737488355328) :
    Does P ρ H W (.slice H.next 0 (len + n) (.upto 0)) (H.more (.cells (lo ++ l) e (some i.size))) a o := by
  obtain ⟨news, hv, hsrc⟩ := hsr
  generalize hev : a.eval x = v at hx
  cases hx with
  | @slice _ _ off' _ r k _ hr hcap ha =>
    obtain ⟨olds, hvo, hold, hlol⟩ : ∃ olds, VRs ρ lo olds ∧ (Builtin.firstCells i.size len (.slice (some ⟨r, off', none⟩) len ((Cap.known cap).real k))).run P W.drew = .ok olds.toArray W.drew ∧ lo.length = len * i.size := by
      rcases ha with ha | ha
      · simp only [Cap.real] at ha hcap
        have hl0 : len = 0 := by omega
        subst hl0
        obtain ⟨c', e1, e2, rfl⟩ := cellsAt_spec hlo
        have hl0 : ∀ ad : Addr, (loadCells ad 0).run P W.drew = .ok #[] W.drew := fun ad => run_loadCells_list (P := P) W.drew ad [] (by simp)
        refine ⟨[], by simpa using VRs.nil, ?_, by simp⟩
        simp [Builtin.firstCells, hl0]
      · subst ha
        exact cells_first h.drew hr hlo _
    obtain ⟨kk, hk, hrun⟩ := d_app_grow ho h hu hi hz hzn hev hsrc hv hold hvo hlol (by simpa [Cap.real] using hg) h63 hb
    have hl : (lo ++ l).length = (len + n) * i.size := by rw [List.length_append, hlol, hv.length, hsrc.newsLen, Nat.add_mul]
    obtain ⟨hst, hh⟩ := h.drew.grow (W' := W.drew.alloc (.cells ((olds ++ news).toArray ++ Builtin.zeroCells z.cells (kk - (len + n))) e)) (r := W.heap.size) (k := kk) (.cells (lo ++ l) e (some i.size)) (by simp) (.inl (by simp))
      (fun σ hσ => grown_has _ _ σ ((hvo.append hv).mono hσ) hl hzn hk (MapKept.heap_alloc W.drew _).1) rfl rfl rfl (by simp) (fun r hr => Go.RowKit.Below.heap_alloc _ _ _ hr)
    exact Does.value hrun ⟨_, hst.drew, VR.slice (c := .upto 0) (Pl.put_same _ _ _) (by simpa [Cap.real] using hk) (.inr rfl), hh⟩
theorem d_app_upto {T tx e : TypeId} {x y : Operand} {i : TypeInfo} {z : Value} {b : Pos} {len n : Nat} {C l : List SVal} (ho : o.op = .call { callee := .builtin .append, args := #[x, y], argTypes := #[T, tx] }) (h : Held ρ H W)
    (hu : P.underlying T = some (.slice e)) (hi : P.info? e = some i) (hz : i.zero = some z) (hzn : z.cells.size = i.size) (hx : VR ρ (.slice b 0 len (.upto 0)) (a.eval x)) (hsr : ∃ news, VRs ρ l news ∧ Src P i.size tx (a.eval y) n news W) (hn : n ≠ 0)
    (hC : H.at b = .cells C e (some i.size)) (hle : len * i.size ≤ C.length) (hlow : H.low ≤ b.nat) (h63 : len + n ≤ 9223372036854775807) (hb : (len + n) * i.bytes ≤ 140737488355328) :
    Does P ρ H W (.slice H.next 0 (len + n) (.upto 0)) ((H.set b .gone).more (.cells (C.take (len * i.size) ++ l) e (some i.size))) a o := by
  obtain ⟨news, hv, hsrc⟩ := hsr
  have halive : (H.at b).still = false := by rw [hC]; rfl
  generalize hev : a.eval x = v at hx
  cases hx with
  | @slice _ _ off' _ r k _ hr hcap ha =>
    simp only [Cap.real, Nat.sub_zero] at hcap ha
    obtain ⟨D, e2, e3, e4, e5⟩ := (by have := h.obj b r k hr; rw [hC] at this; exact this : Has ρ W r k (.cells C e (some i.size)))
    have e5' : D.size = k * i.size := e5
    have hvl : news.length = n * i.size := hsrc.newsLen
    have hll : l.length = n * i.size := by rw [hv.length, hvl]
    have hlen : (C.take (len * i.size) ++ l).length = (len + n) * i.size := by rw [List.length_append, List.length_take, hll, Nat.add_mul]; omega
    have hD : VRs ρ (C.take (len * i.size)) (D.toList.take (len * i.size)) := by
      have := e4.take (len * i.size)
      rwa [List.take_take, Nat.min_eq_left hle] at this
    by_cases hroom : len + n ≤ k
    · have ha' : off' = 0 := ha.resolve_left (by omega)
      subst ha'
      have hfit : (len + n) * i.size ≤ D.size := by rw [e5']; exact Nat.mul_le_mul_right _ hroom
      rw [Nat.add_mul] at hfit
      have hc : ∀ j, j < news.length → (W.cell? ⟨r, 0 + len * i.size + j, none⟩).isSome = true := fun j hj => by
        have hlt : 0 + len * i.size + j < D.size := by omega
        simp [World.cell?, e2]; omega
      have hf : ∀ j, j < news.length → W.frozen? ⟨r, 0 + len * i.size + j, none⟩ = false := fun j hj => by simp [World.frozen?, e2]
      have hra := run_append_room_src (P := P) W T tx o.type e i hu hi r 0 len k (a.eval y) n news hsrc hroom hc hf
      have hst' := run_storeCells_cells (P := P) r (0 + len * i.size) news 0 W (by simpa using hc) (by simpa using hf) hsrc.one
      have hst2 := run_storeCells_at (P := P) r (0 + len * i.size) e news 0 D W e2 (by omega) hsrc.one
      simp only [Nat.add_zero] at hst' hst2
      rw [hst'] at hst2
      simp only [Result.ok.injEq, true_and] at hst2
      rw [hst2] at hra
      have hrow := setRow_heap W r D (D.toList.take (0 + len * i.size) ++ news ++ D.toList.drop (0 + len * i.size + news.length)).toArray e (0, 0) e2
      have hhas : ∀ σ : Pl, ρ.le σ → Has σ (W.setRow r (D.toList.take (0 + len * i.size) ++ news ++ D.toList.drop (0 + len * i.size + news.length)).toArray) r k (.cells (C.take (len * i.size) ++ l) e (some i.size)) := by
        intro σ hσ
        refine ⟨_, hrow, ?_, ?_, ?_⟩
        · rw [hlen, Nat.add_mul]
          simp only [List.size_toArray, List.length_append, List.length_take, List.length_drop, Array.length_toList]
          omega
        · rw [hlen, Nat.add_mul]
          have : ((D.toList.take (0 + len * i.size) ++ news ++ D.toList.drop (0 + len * i.size + news.length)).toArray.toList.take (len * i.size + n * i.size)) = D.toList.take (len * i.size) ++ news := by
            simp only [Nat.zero_add]
            rw [List.take_append_of_le_length (by simp; omega), List.take_of_length_le (by simp; omega)]
          rw [this]
          exact (hD.append hv).mono hσ
        · show (D.toList.take (0 + len * i.size) ++ news ++ D.toList.drop (0 + len * i.size + news.length)).toArray.size = k * i.size
          simp only [List.size_toArray, List.length_append, List.length_take, List.length_drop, Array.length_toList]
          omega
      obtain ⟨hstp, hh⟩ := h.swap (W' := W.setRow r (D.toList.take (0 + len * i.size) ++ news ++ D.toList.drop (0 + len * i.size + news.length)).toArray) hr hlow halive (.cells (C.take (len * i.size) ++ l) e (some i.size)) (r2 := r) (k2 := k) (.inl rfl)
        (by rw [setRow_size]; exact h.lt b r k hr) hhas rfl rfl rfl (by rw [setRow_size]; exact Nat.le_refl _) (fun r' _ hr' => setRow_other _ _ _ _ hr')
      refine Does.value (v := .slice (some ⟨r, 0, none⟩) (len + n) k) (W' := W.setRow r (D.toList.take (0 + len * i.size) ++ news ++ D.toList.drop (0 + len * i.size + news.length)).toArray) ?_ ⟨_, hstp, ?_, hh⟩
      · unfold execOp
        simp only [Cap.real, Nat.sub_zero] at hev
        simp [ho, hev, resolve, invoke, builtin, Sem.run_bind, Sem.run, Sem.run_pure, Result.andThen_ok, hra]
      · exact VR.slice (c := .upto 0) (Pl.put_same _ _ _) (by simpa [Cap.real] using hroom) (.inr rfl)
    · have hold : (Builtin.firstCells i.size len (.slice (some ⟨r, off', none⟩) len k)).run P W.drew = .ok (D.toList.take (len * i.size)).toArray W.drew := by
        rcases ha with ha | ha
        · have hl0 : len = 0 := by omega
          subst hl0
          have hl0 : ∀ ad : Addr, (loadCells ad 0).run P W.drew = .ok #[] W.drew := fun ad => run_loadCells_list (P := P) W.drew ad [] (by simp)
          simp [Builtin.firstCells, hl0]
        · subst ha
          refine run_firstCells_some W.drew i.size len ⟨r, 0, none⟩ len k (D.toList.take (len * i.size)) (by simp; omega) (fun j u hj => ?_)
          have hj' : j < len * i.size := by have := (List.getElem?_eq_some_iff.1 hj).1; simp at this; omega
          rw [add_zero_spot]
          rw [List.getElem?_take_of_lt hj'] at hj
          have e2' : W.drew.heap[r]? = some (.cells D e (0, 0)) := e2
          simp only [World.cell?, e2', Nat.zero_add]
          simpa using hj
      have hev' : a.eval x = .slice (some ⟨r, off', none⟩) len k := by simpa [Cap.real] using hev
      obtain ⟨kk, hk, hrun⟩ := d_app_grow ho h hu hi hz hzn hev' hsrc hv hold hD (by rw [List.length_take]; omega) (by omega) h63 hb
      obtain ⟨hstp, hh⟩ := h.drew.swap (W' := W.drew.alloc (.cells ((D.toList.take (len * i.size) ++ news).toArray ++ Builtin.zeroCells z.cells (kk - (len + n))) e)) hr hlow halive (.cells (C.take (len * i.size) ++ l) e (some i.size)) (r2 := W.heap.size) (k2 := kk) (.inr (by simp))
        (by simp) (fun σ hσ => grown_has _ _ σ ((hD.append hv).mono hσ) hlen hzn hk (MapKept.heap_alloc W.drew _).1) rfl rfl rfl (by simp) (fun r' hr' _ => Go.RowKit.Below.heap_alloc _ _ _ hr')
      exact Does.value hrun ⟨_, hstp.drew, VR.slice (c := .upto 0) (Pl.put_same _ _ _) (by simpa [Cap.real] using hk) (.inr rfl), hh⟩
end
end Go.Proofs.YtjflmmipjeangaaGreatDoor.Sx
end
/-
  The executor, one operation: bytes and strings, maps from strings, ranging over a string, comparisons with nil, calls.
-/
section
set_option linter.unusedVariables false
set_option linter.unusedSimpArgs false
namespace Go.Proofs.YtjflmmipjeangaaGreatDoor.Sx
open Go.RowKit

section
variable {P : Program} {G : Gl} {ρ : Pl} {H H' : Hp} {W : World} {t : Sl} {a : Act} {o : Oper} {s : SVal}
/-- the number of a byte -/
def byteOf : SVal → Option Int
  | .v (.int .u8 n) => some n
  | _ => none
theorem byteOf_read {v : Value} {n : Int} (h : VR ρ s v) (hn : byteOf s = some n) : v = .int .u8 n := by
  unfold byteOf at hn
  split at hn <;> try (cases hn; done)
  simp only [Option.some.injEq] at hn
  subst hn
  cases h
  rfl
/-- the numbers of bytes -/
noncomputable def bytesOf (l : List SVal) : Option (List Int) := List.rec (some []) (fun s _ ih => match byteOf s, ih with
  | some n, some ns => some (n :: ns)
  | _, _ => none) l
theorem bytesOf_read : ∀ {l : List SVal} {vs : List Value} {ns : List Int}, VRs ρ l vs → bytesOf l = some ns → vs = ns.map (Value.int .u8)
  | [], _, ns, .nil, h => by
    have h' : some [] = some ns := h
    simp only [Option.some.injEq] at h'
    subst h'; rfl
  | s :: l, v :: vs, ns, .cons hs ht, h => by
    have h' : (match byteOf s, bytesOf l with
      | some n, some ns => some (n :: ns)
      | _, _ => none) = some ns := h
    cases hb : byteOf s with
    | none => rw [hb] at h'; cases h'
    | some n =>
      cases hm : bytesOf l with
      | none => rw [hb, hm] at h'; cases h'
      | some ms =>
        rw [hb, hm] at h'
        simp only [Option.some.injEq] at h'
        subst h'
        rw [bytesOf_read ht hm, byteOf_read hs hb]
        rfl
def stringOf (ns : List Int) : ByteArray := ns.foldl (fun r n => r.push (UInt8.ofNat n.toNat)) ByteArray.empty
theorem d_string {src dst e : TypeId} {x : Operand} {b : Pos} {off len : Nat} {c : Cap} {l : List SVal} {ns : List Int} (ho : o.op = .convert src dst x) (h : Held ρ H W) (hx : VR ρ (.slice b off len c) (a.eval x)) (hs : P.underlying src = some (.slice e))
    (he : P.underlying e = some (.int .u8)) (hd : P.underlying dst = some .string) (hc : cellsAt H b off len = some l) (hn : bytesOf l = some ns) : Does P ρ H W (.v (.string (stringOf ns))) H a o := by
  generalize hev : a.eval x = v at hx
  cases hx with
  | @slice _ _ off' _ r k _ hr hcap ha =>
    have hload : (loadCells ⟨r, off', none⟩ len).run P W = .ok (ns.map (Value.int .u8)).toArray W := by
      obtain ⟨c', e1, e2, rfl⟩ := cellsAt_spec hc
      obtain ⟨vs, hv, hl, hcell⟩ := h.range hr e1 off len e2
      have hvs := bytesOf_read hv hn
      subst hvs
      rcases ha with ha | ha
      · have hl0 : len = 0 := by omega
        subst hl0
        have : ns = [] := by simpa using hl
        subst this
        exact run_loadCells_list (P := P) W _ [] (by simp)
      · subst ha
        have := run_loadCells_list (P := P) W ⟨r, off', none⟩ (ns.map (Value.int .u8)) (fun j v hj => by rw [add_zero_spot]; exact hcell j v hj)
        rwa [hl] at this
    refine Does.value (v := .string (stringOf ns)) (W' := W) ?_ (Good.same h (.v _))
    unfold execOp
    simp only [ho, hev, Sem.run_bind, run_convert_bytes_string W src dst e _ _ _ hs he hd, run_bytesToString W _ _ _ ns hload, Result.andThen_ok, Sem.run_pure]
    rfl
/-- the bytes of a string as cells -/
def bytesS (s : ByteArray) : List SVal := s.data.toList.map fun b => .v (.int .u8 b.toNat)
theorem d_bytes {src dst e : TypeId} {x : Operand} {u : ByteArray} (ho : o.op = .convert src dst x) (h : Held ρ H W) (hx : VR ρ (.v (.string u)) (a.eval x)) (hs : P.underlying src = some .string)
    (hd : P.underlying dst = some (.slice e)) (he : P.underlying e = some (.int .u8)) : Does P ρ H W (.slice H.next 0 u.size (.upto 0)) (H.more (.ro (bytesS u))) a o := by
  generalize hev : a.eval x = v at hx
  cases hx
  let k := (Question.appendCap u.size 0 e).cut (W.tape W.drawn (.appendCap u.size 0 e))
  have hk : u.size ≤ k := by show u.size ≤ _; simp only [k, Question.cut]; exact Nat.le_add_right _ _
  let C : Array Value := (u.data.map fun b => Value.int .u8 b.toNat) ++ Array.replicate (k - u.size) (.int .u8 0)
  let W1 : World := W.drew.alloc (.cells C e)
  have hCs : C.size = k := by simp only [C, Array.size_append, Array.size_map, Array.size_replicate]; show u.size + _ = k; omega
  have hat : W1.heap[W.heap.size]? = some (.cells C e (0, 0)) := (MapKept.heap_alloc W.drew _).1
  have hsh : W1.shape? W.heap.size = some (e, k) := by simp only [World.shape?, hat, hCs]
  let W2 : World := W1.freeze ⟨W.heap.size, k, none⟩ 1
  have hrun : (Conv.stringToBytes e u).run P W = .ok (.slice (some ⟨W.heap.size, 0, none⟩) u.size k) W2 := by
    unfold Conv.stringToBytes
    simp only [choose, Sem.run_bind, Sem.run, Question.forced, Bool.false_eq_true, if_false, Result.andThen_ok, Sem.run_pure, newRow, newObj]
    show Result.andThen (Sem.run P (markStringish ⟨W.heap.size, 0, none⟩) W1) _ = _
    unfold markStringish
    simp only [shape, Sem.run_bind, Sem.run, Result.andThen_ok, Sem.run_pure, hsh, run_freeze]
    rfl
  have hW2 : W2.heap[W.heap.size]? = some (.cells C e (k, k + 1)) := by
    show (W1.heap.modify W.heap.size _)[W.heap.size]? = _
    rw [Array.getElem?_modify, if_pos rfl, hat]
    rfl
  have hsz2 : W2.heap.size = W.heap.size + 1 := by
    show (W1.heap.modify W.heap.size _).size = _
    rw [Array.size_modify]; show W1.heap.size = _; simp [W1]
  have hframe : ∀ r, r < W.heap.size → W2.heap[r]? = W.heap[r]? := fun r hr => by
    show (W1.heap.modify W.heap.size _)[r]? = _
    rw [Array.getElem?_modify, if_neg (by omega)]
    exact Go.RowKit.Below.heap_alloc W.drew _ _ hr
  have hbl : (bytesS u).length = u.size := by unfold bytesS; rw [List.length_map, Array.length_toList]; rfl
  have hread : ∀ σ : Pl, VRs σ (bytesS u) (C.toList.take (bytesS u).length) := fun σ => by
    have : C.toList.take (bytesS u).length = u.data.toList.map fun b => Value.int .u8 b.toNat := by
      rw [hbl]
      simp only [C, Array.toList_append, Array.toList_map]
      rw [List.take_append_of_le_length (by rw [List.length_map, Array.length_toList]; exact Nat.le_refl _), List.take_of_length_le (by rw [List.length_map, Array.length_toList]; exact Nat.le_refl _)]
    rw [this]
    unfold bytesS
    have := VRs.of_map σ (u.data.toList.map fun b => Value.int .u8 b.toNat)
    rwa [List.map_map] at this
  obtain ⟨hst, hh⟩ := h.grow (W' := W2) (.ro (bytesS u)) (r := W.heap.size) (k := k) (by omega) (.inl (Nat.le_refl _)) (fun σ _ => ⟨C, e, _, hW2, by rw [hbl, hCs]; exact hk, hread σ⟩) rfl rfl rfl (by omega) hframe
  refine Does.value (v := .slice (some ⟨W.heap.size, 0, none⟩) u.size k) (W' := W2) ?_ ⟨_, hst, VR.slice (c := .upto 0) (Pl.put_same _ _ _) (by simp only [Cap.real]; exact hk) (.inr rfl), hh⟩
  unfold execOp
  simp [ho, hev, convert, run_underlying hs, run_underlying hd, run_underlying he, Sem.run_bind, hrun, Result.andThen_ok, Sem.run_pure]

/-- ranging over a string -/
theorem d_range {T : TypeId} {x : Operand} {u : ByteArray} (ho : o.op = .range T x) (h : Held ρ H W) (hu : P.underlying T = some .string) (hx : VR ρ (.v (.string u)) (a.eval x)) : Does P ρ H W (.ptr H.next 0) (H.more (.siter u 0)) a o := by
  generalize hev : a.eval x = v at hx
  cases hx
  obtain ⟨hst, hh⟩ := h.grow (W' := W.alloc (.stringIter u 0)) (.siter u 0) (r := W.heap.size) (k := 0) (by simp) (.inl (Nat.le_refl _)) (fun σ _ => (MapKept.heap_alloc W _).1) rfl rfl rfl (by simp) (fun r hr => Go.RowKit.Below.heap_alloc _ _ _ hr)
  refine Does.value (v := .pointer (some ⟨W.heap.size, 0, none⟩)) ?_ ⟨_, hst, .ptr (Pl.put_same _ _ _), hh⟩
  unfold execOp
  simp [ho, hev, Instr.range, run_underlying hu, newObj, Sem.run_bind, Sem.run, Sem.run_pure, Result.andThen_ok]
theorem d_next {x : Operand} {b : Pos} {u : ByteArray} {pos : Nat} (ho : o.op = .next x true) (h : Held ρ H W) (hx : VR ρ (.ptr b 0) (a.eval x)) (hb : H.at b = .siter u pos) (hlow : H.low ≤ b.nat) (hp : pos < u.size) :
    Does P ρ H W (.v (.tuple #[.bool true, .int .i64 pos, .int .i32 (Utf8.decode u pos).1])) (H.set b (.siter u (pos + (Utf8.decode u pos).2))) a o := by
  generalize hev : a.eval x = v at hx
  cases hx with
  | @ptr _ _ r k hr =>
    have hw : W.heap[r]? = some (.stringIter u pos) := (by have := h.obj b r k hr; rw [hb] at this; exact this : Has ρ W r k (.siter u pos))
    have hlt := h.lt b r k hr
    obtain ⟨hst, hh⟩ := h.alter (W' := { W with heap := W.heap.setIfInBounds r (.stringIter u (pos + (Utf8.decode u pos).2)) }) hr hlow (by rw [hb]; rfl) (.siter u (pos + (Utf8.decode u pos).2)) (by
      show (W.heap.setIfInBounds r _)[r]? = _
      simp [hlt]) rfl rfl rfl (by simp) (fun r' hr' => by
      show (W.heap.setIfInBounds r _)[r']? = _
      rw [Array.getElem?_setIfInBounds_ne (Ne.symm hr')])
    refine Does.value (v := .tuple #[.bool true, .int .i64 pos, .int .i32 (Utf8.decode u pos).1]) (W' := { W with heap := W.heap.setIfInBounds r (.stringIter u (pos + (Utf8.decode u pos).2)) }) ?_ ⟨_, hst, .v _, hh⟩
    unfold execOp
    simp [ho, hev, Instr.next, getObj, setObj, goInt, hw, hp, Sem.run_bind, Sem.run, Sem.run_pure, Result.andThen_ok]
theorem d_over {x : Operand} {b : Pos} {u : ByteArray} {pos : Nat} (ho : o.op = .next x true) (h : Held ρ H W) (hx : VR ρ (.ptr b 0) (a.eval x)) (hb : H.at b = .siter u pos) (hp : ¬ pos < u.size) : Does P ρ H W (.v (.tuple #[.bool false])) H a o := by
  generalize hev : a.eval x = v at hx
  cases hx with
  | @ptr _ _ r k hr =>
    have hw : W.heap[r]? = some (.stringIter u pos) := (by have := h.obj b r k hr; rw [hb] at this; exact this : Has ρ W r k (.siter u pos))
    refine Does.value (v := .tuple #[.bool false]) (W' := W) ?_ (Good.same h (.v _))
    unfold execOp
    simp [ho, hev, Instr.next, getObj, hw, hp, Sem.run_bind, Sem.run, Sem.run_pure, Result.andThen_ok]

theorem equal_step (T : TypeId) (v w : Value) : Op.equal T v w = Op.equalIn (9999 + 1) T v w := rfl
theorem eq_ptr {T e : TypeId} (hu : P.underlying T = some (.pointer e)) (ad : Addr) : (Op.equal T (.pointer (some ad)) (.pointer none)).run P W = .ok false W := by
  rw [equal_step]; unfold Op.equalIn
  simp [run_underlying hu, Sem.run_bind, Sem.run_pure, Result.andThen_ok]
theorem eq_slice {T e : TypeId} (hu : P.underlying T = some (.slice e)) (ad : Addr) (n c m d : Nat) : (Op.equal T (.slice (some ad) n c) (.slice none m d)).run P W = .ok false W := by
  rw [equal_step]; unfold Op.equalIn
  cases m <;> simp [run_underlying hu, Sem.run_bind, Sem.run_pure, Result.andThen_ok]
theorem d_nil_ptr {op : BinOp} {T ty e : TypeId} {x y : Operand} {b : Pos} {off : Nat} {r : Bool} (ho : o.op = .binOp op T x y ty) (hop : op = .eql ∧ r = false ∨ op = .neq ∧ r = true) (h : Held ρ H W) (hu : P.underlying T = some (.pointer e))
    (hx : VR ρ (.ptr b off) (a.eval x)) (hy : VR ρ (.v (.pointer none)) (a.eval y)) : Does P ρ H W (.v (.bool r)) H a o := by
  generalize hev : a.eval x = v at hx
  generalize hew : a.eval y = w at hy
  cases hy
  cases hx with
  | @ptr _ _ q k hr =>
    have he := eq_ptr (P := P) (W := W) hu ⟨q, off, none⟩
    refine Does.value (v := .bool r) (W' := W) ?_ (Good.same h (.v _))
    unfold execOp
    rcases hop with ⟨rfl, rfl⟩ | ⟨rfl, rfl⟩ <;> simp [ho, hev, hew, eqGuard, binOp, he, Sem.run_bind, Sem.run_pure, Result.andThen_ok]
theorem d_nil_slice {op : BinOp} {T ty e : TypeId} {x y : Operand} {b : Pos} {off len m d : Nat} {c : Cap} {r : Bool} (ho : o.op = .binOp op T x y ty) (hop : op = .eql ∧ r = false ∨ op = .neq ∧ r = true) (h : Held ρ H W) (hu : P.underlying T = some (.slice e))
    (hx : VR ρ (.slice b off len c) (a.eval x)) (hy : VR ρ (.v (.slice none m d)) (a.eval y)) : Does P ρ H W (.v (.bool r)) H a o := by
  generalize hev : a.eval x = v at hx
  generalize hew : a.eval y = w at hy
  cases hy
  cases hx with
  | @slice _ _ off' _ q k _ hr hcap ha =>
    have he := eq_slice (P := P) (W := W) hu ⟨q, off', none⟩ len (c.real k) m d
    refine Does.value (v := .bool r) (W' := W) ?_ (Good.same h (.v _))
    unfold execOp
    rcases hop with ⟨rfl, rfl⟩ | ⟨rfl, rfl⟩ <;> simp [ho, hev, hew, eqGuard, binOp, he, Sem.run_bind, Sem.run_pure, Result.andThen_ok]

/-- a function that has a body and is not met by name -/
def enters (P : Program) (f : FuncId) : Bool :=
  match P.funcs[f]? with
  | some fn => fn.body.isSome && !(fn.name == "runtime.NumGoroutine")
  | none => false
theorem enters_run {f : FuncId} (hf : enters P f = true) (args : Array Value) : (callFunc f args).run P W = .ok (.enter f args) W := by
  unfold enters at hf
  cases hq : P.funcs[f]? with
  | none => rw [hq] at hf; cases hf
  | some fn =>
    rw [hq] at hf
    simp only [Bool.and_eq_true, Bool.not_eq_true'] at hf
    have hb : fn.body ≠ none := by have := hf.1; intro e; rw [e] at this; cases this
    have hn : fn.name ≠ "runtime.NumGoroutine" := fun e => by have := hf.2; rw [e] at this; revert this; decide
    simp [callFunc, program, hq, hn, hb, Sem.run_bind, Sem.run, Sem.run_pure, Result.andThen_ok]
theorem call_mem {callee : Callee} {xs : Array Operand} {ts : Array TypeId} (ho : o.op = .call { callee := callee, args := xs, argTypes := ts }) : ∀ x ∈ xs.toList, x ∈ o.op.operands := fun x hx => by
  rw [ho]; simp only [Op.operands, Call.operands, Array.mem_append]; exact .inr (by simpa using hx)
theorem d_call {f : FuncId} {x : Operand} {xs : Array Operand} {ts : Array TypeId} (ho : o.op = .call { callee := .value x, args := xs, argTypes := ts }) (h : Opnds G ρ t a o) (hx : a.eval x = .func (.func f) #[] #[]) (hf : enters P f = true)
    (hc : ∀ vs, VRs ρ (xs.toList.map (ev G t)) vs → Calls P f vs.toArray W fun e W' => ∃ v, e = .returned v ∧ Good ρ H W s H' v W') : Does P ρ H W s H' a o := by
  have hr : (execOp a.eval o).run P W = .ok (.enter f (xs.toList.map a.eval).toArray) W := by
    unfold execOp
    simp [ho, hx, resolve, Deferred.ofValue, invoke, Sem.run_bind, Sem.run, Sem.run_pure, Result.andThen_ok, enters_run hf]
    apply Array.ext'; simp
  unfold Does
  rw [hr]
  exact hc _ (VRs.of_evals h xs.toList (call_mem ho))
theorem d_callv {f : FuncId} {x : Operand} {xs : Array Operand} {ts : Array TypeId} {m l : List SVal} (ho : o.op = .call { callee := .value x, args := xs, argTypes := ts }) (h : Opnds G ρ t a o) (hx : VR ρ (.func (.func f) m l) (a.eval x)) (hf : enters P f = true)
    (hc : ∀ vs, VRs ρ (m ++ xs.toList.map (ev G t) ++ l) vs → Calls P f vs.toArray W fun e W' => ∃ v, e = .returned v ∧ Good ρ H W s H' v W') : Does P ρ H W s H' a o := by
  generalize hev : a.eval x = v at hx
  cases hx with
  | @func _ _ _ us cs hm hl =>
    have hr : (execOp a.eval o).run P W = .ok (.enter f (us ++ xs.toList.map a.eval ++ cs).toArray) W := by
      unfold execOp
      simp [ho, hev, resolve, Deferred.ofValue, invoke, Sem.run_bind, Sem.run, Sem.run_pure, Result.andThen_ok, enters_run hf]
    unfold Does
    rw [hr]
    exact hc _ ((hm.append (VRs.of_evals h xs.toList (call_mem ho))).append hl)
/-- a method of an interface's value, by the model's own search -/
theorem d_invoke {f : FuncId} {x : Operand} {xs : Array Operand} {ts : Array TypeId} {T : TypeId} {y : SVal} {u v : Value} {name : String} (ho : o.op = .call { callee := .invoke x name, args := xs, argTypes := ts }) (h : Opnds G ρ t a o) (hx : VR ρ (.iface T y) (a.eval x)) (hy : y.pure? = some u)
    (hm : Sem.calm P (method (P.types.size + Made.depth) T u name) = some (f, v)) (hf : enters P f = true)
    (hc : ∀ vs, VRs ρ (.v v :: xs.toList.map (ev G t)) vs → Calls P f vs.toArray W fun e W' => ∃ v, e = .returned v ∧ Good ρ H W s H' v W') : Does P ρ H W s H' a o := by
  generalize hev : a.eval x = w at hx
  cases hx with
  | iface hz =>
    rw [hz.pure hy] at hev
    have hr : (execOp a.eval o).run P W = .ok (.enter f (v :: xs.toList.map a.eval).toArray) W := by
      have h0 : (#[Value.iface T u] ++ Array.map a.eval xs)[0]? = some (Value.iface T u) := by rw [Array.getElem?_append_left (by simp)]; rfl
      have h1 : #[v] ++ (Array.map a.eval xs).extract 0 xs.size = (v :: xs.toList.map a.eval).toArray := by
        apply Array.ext'; simp
        exact List.take_of_length_le (by simp)
      unfold execOp
      simp [h0, h1, ho, hev, resolve, invoke, callMethod, program, Sem.run_bind, Sem.run, Sem.run_pure, Result.andThen_ok, calm_run hm, enters_run hf]
    unfold Does
    rw [hr]
    exact hc _ (.cons (.v v) (VRs.of_evals h xs.toList (call_mem ho)))
/-- a method with a pointer receiver, of the pointer's own type -/
def methOf (P : Program) (T : TypeId) (name : String) : Option FuncId :=
  match P.underlying T, P.info? T with
  | some (.pointer _), some i => match i.methods.find? (·.name == name) with
    | some m => match m.path, m.func with
      | ⟨[]⟩, some (f, true) => some f
      | _, _ => none
    | none => none
  | _, _ => none
theorem methOf_run {T : TypeId} {name : String} {f : FuncId} (h : methOf P T name = some f) (n : Nat) (v : Value) (W : World) : (method (n + 1) T v name).run P W = .ok (f, v) W := by
  unfold methOf at h
  split at h <;> try (cases h; done)
  next e i hu hi =>
  split at h <;> try (cases h; done)
  next m hm =>
  split at h <;> try (cases h; done)
  next f' hp hf =>
  simp only [Option.some.injEq] at h
  subst h
  unfold method
  simp [typeInfo, program, hi, hm, hp, hf, follow, receiverAt, run_underlying hu, Place.get, Sem.run_bind, Sem.run, Sem.run_pure, Result.andThen_ok]
theorem d_invokep {f : FuncId} {x : Operand} {xs : Array Operand} {ts : Array TypeId} {T : TypeId} {b : Pos} {off : Nat} {name : String} (ho : o.op = .call { callee := .invoke x name, args := xs, argTypes := ts }) (h : Opnds G ρ t a o) (hx : VR ρ (.iface T (.ptr b off)) (a.eval x))
    (hm : methOf P T name = some f) (hf : enters P f = true)
    (hc : ∀ vs, VRs ρ (.ptr b off :: xs.toList.map (ev G t)) vs → Calls P f vs.toArray W fun e W' => ∃ v, e = .returned v ∧ Good ρ H W s H' v W') : Does P ρ H W s H' a o := by
  generalize hev : a.eval x = w at hx
  cases hx with
  | @iface _ _ u hz =>
    have hmr : (method (P.types.size + Made.depth) T u name).run P W = .ok (f, u) W := methOf_run hm (P.types.size + (Made.depth - 1)) u W
    have hr : (execOp a.eval o).run P W = .ok (.enter f (u :: xs.toList.map a.eval).toArray) W := by
      have h0 : (#[Value.iface T u] ++ Array.map a.eval xs)[0]? = some (Value.iface T u) := by rw [Array.getElem?_append_left (by simp)]; rfl
      have h1 : #[u] ++ (Array.map a.eval xs).extract 0 xs.size = (u :: xs.toList.map a.eval).toArray := by
        apply Array.ext'; simp
        exact List.take_of_length_le (by simp)
      unfold execOp
      simp [h0, h1, ho, hev, resolve, invoke, callMethod, program, Sem.run_bind, Sem.run, Sem.run_pure, Result.andThen_ok, hmr, enters_run hf]
    unfold Does
    rw [hr]
    exact hc _ (.cons hz (VRs.of_evals h xs.toList (call_mem ho)))
theorem d_nilCheck_iface {x : Operand} {T : TypeId} {y : SVal} (ho : o.op = .nilCheck x) (h : Held ρ H W) (hx : VR ρ (.iface T y) (a.eval x)) : Does P ρ H W (.iface T y) H a o := by
  generalize hev : a.eval x = v at hx
  cases hx with
  | @iface _ _ u hz =>
    refine Does.value (v := .iface T u) ?_ (Good.same h (.iface hz))
    unfold execOp
    simp [ho, hev, Sem.run_pure]
end
end Go.Proofs.YtjflmmipjeangaaGreatDoor.Sx
end
/-
  The executor, one operation: maps from strings to plain values.
-/
section
set_option linter.unusedVariables false
set_option linter.unusedSimpArgs false
namespace Go.Proofs.YtjflmmipjeangaaGreatDoor.Sx
open Go.RowKit

section
variable {P : Program} {G : Gl} {ρ : Pl} {H H' : Hp} {W : World} {t : Sl} {a : Act} {o : Oper} {s : SVal}
/-- where a key stands, and its value -/
def mapFind (k : ByteArray) : List (ByteArray × Value) → Nat → Option (Nat × Value)
  | [], _ => none
  | p :: l, i => if k == p.1 then some (i, p.2) else mapFind k l (i + 1)
theorem findNow_map (k : ByteArray) : ∀ (es : List MapEntry) (l : List (ByteArray × Value)) (i : Nat), es.map (fun x => (x.key, x.val)) = l.map (fun x => (Value.string x.1, x.2)) → Instr.findNow .string (.string k) es i = some (mapFind k l i)
  | [], [], i, _ => rfl
  | [], _ :: _, _, h => by cases h
  | _ :: _, [], _, h => by cases h
  | e :: es, p :: l, i, h => by
    simp only [List.map_cons, List.cons.injEq, Prod.mk.injEq] at h
    obtain ⟨⟨h1, h2⟩, h3⟩ := h
    unfold Instr.findNow mapFind
    rw [h1]
    have hs : Instr.sameNow .string (.string k) (.string p.1) = some (k == p.1) := rfl
    rw [hs]
    cases hk : (k == p.1) with
    | true => simp [h2]
    | false => simp; exact findNow_map k es l (i + 1) h3
theorem findKey_run {kt : TypeId} (hk : P.underlying kt = some .string) (k : ByteArray) {es : List MapEntry} {l : List (ByteArray × Value)} (h : es.map (fun x => (x.key, x.val)) = l.map (fun x => (Value.string x.1, x.2))) (w : World) :
    (Instr.findKey kt (.string k) es).run P w = .ok (mapFind k l 0) w := by
  unfold Instr.findKey
  simp [run_underlying hk, findNow_map k es l 0 h, Sem.run_bind, Sem.run_pure, Result.andThen_ok]
theorem checkKey_string {kt : TypeId} (hk : P.underlying kt = some .string) (k : ByteArray) (b : Bool) (w : World) : (Instr.checkKey b 10000 kt (.string k)).run P w = .ok () w := by
  show (Instr.checkKey b (9999 + 1) kt (.string k)).run P w = .ok () w
  unfold Instr.checkKey
  simp [run_underlying hk, Sem.run_bind, Sem.run_pure, Result.andThen_ok]
theorem mapFind_at {k : ByteArray} : ∀ {l : List (ByteArray × Value)} {i j : Nat} {v : Value}, mapFind k l i = some (j, v) → i ≤ j ∧ l[j - i]? = some (k, v)
  | [], i, j, v, h => by cases h
  | p :: l, i, j, v, h => by
    unfold mapFind at h
    cases hk : (k == p.1) with
    | true =>
      rw [hk] at h
      simp only [if_true, Option.some.injEq, Prod.mk.injEq] at h
      obtain ⟨rfl, rfl⟩ := h
      have : k = p.1 := (MapKept.bytes_beq k p.1).1 hk
      subst this
      exact ⟨Nat.le_refl _, by simp⟩
    | false =>
      rw [hk] at h
      simp only [Bool.false_eq_true, if_false] at h
      obtain ⟨h1, h2⟩ := mapFind_at h
      refine ⟨by omega, ?_⟩
      have : j - i = (j - (i + 1)) + 1 := by omega
      rw [this, List.getElem?_cons_succ]; exact h2
/-- the map with a value at a key -/
def mapPut (k : ByteArray) (v : Value) (l : List (ByteArray × Value)) : List (ByteArray × Value) :=
  match mapFind k l 0 with
  | some (i, _) => l.set i (k, v)
  | none => l ++ [(k, v)]
/-- a map type from strings: its element type -/
def mapOf (P : Program) (T : TypeId) : Option TypeId :=
  match P.underlying T with
  | some (.map kt e) => match P.underlying kt with
    | some .string => some e
    | _ => none
  | _ => none
theorem mapOf_spec {T e : TypeId} (h : mapOf P T = some e) : ∃ kt, P.underlying T = some (.map kt e) ∧ P.underlying kt = some .string := by
  unfold mapOf at h
  split at h <;> try (cases h; done)
  next kt e' hu =>
  split at h <;> try (cases h; done)
  next hk =>
  simp only [Option.some.injEq] at h
  subst h
  exact ⟨kt, hu, hk⟩
theorem d_makeMap {T : TypeId} (ho : o.op = .makeMap T none) (h : Held ρ H W) : Does P ρ H W (.map H.next) (H.more (.map [])) a o := by
  obtain ⟨hst, hh⟩ := h.grow (W' := W.alloc (.map #[] 0)) (.map []) (r := W.heap.size) (k := 0) (by simp) (.inl (Nat.le_refl _)) (fun σ _ => ⟨#[], 0, (MapKept.heap_alloc W _).1, rfl⟩) rfl rfl rfl (by simp) (fun r hr => Go.RowKit.Below.heap_alloc _ _ _ hr)
  refine Does.value (v := .map (some W.heap.size)) ?_ ⟨_, hst, .map (Pl.put_same _ _ _), hh⟩
  unfold execOp
  simp [ho, Instr.makeMap, newObj, Sem.run_bind, Sem.run, Sem.run_pure, Result.andThen_ok]
/-- what a lookup yields -/
def lookS (P : Program) (e : TypeId) (l : List (ByteArray × Value)) (k : ByteArray) (ok : Bool) : Option Value :=
  match mapFind k l 0 with
  | some (_, v) => some (if ok then .tuple #[v, .bool true] else v)
  | none => match P.info? e with
    | some i => match i.zero with
      | some z => some (if ok then .tuple #[z, .bool false] else z)
      | none => none
    | none => none
theorem d_lookup {T e : TypeId} {x y : Operand} {ok : Bool} {b : Pos} {k : ByteArray} {l : List (ByteArray × Value)} {v : Value} (ho : o.op = .lookup T x y ok) (h : Held ρ H W) (hT : mapOf P T = some e) (hx : VR ρ (.map b) (a.eval x)) (hy : VR ρ (.v (.string k)) (a.eval y))
    (hb : H.at b = .map l) (hl : lookS P e l k ok = some v) : Does P ρ H W (.v v) H a o := by
  obtain ⟨kt, hu, hk⟩ := mapOf_spec hT
  generalize hev : a.eval x = w at hx
  generalize hew : a.eval y = u at hy
  cases hy
  cases hx with
  | @map _ r n hr =>
    obtain ⟨es, clock, hw, hes⟩ := (by have := h.obj b r n hr; rw [hb] at this; exact this : Has ρ W r n (.map l))
    refine Does.value (v := v) (W' := W) ?_ (Good.same h (.v _))
    have hf := findKey_run (P := P) hk k hes W
    unfold lookS at hl
    unfold execOp
    cases hm : mapFind k l 0 with
    | some p =>
      rw [hm] at hl hf
      simp only [Option.some.injEq] at hl
      subst hl
      cases ok <;> simp [ho, hev, hew, Instr.lookup, run_underlying hu, getObj, hw, checkKey_string hk, hf, Sem.run_bind, Sem.run, Sem.run_pure, Result.andThen_ok]
    | none =>
      rw [hm] at hl hf
      simp only at hl
      split at hl <;> try (cases hl; done)
      next i hi =>
      split at hl <;> try (cases hl; done)
      next z hz =>
      simp only [Option.some.injEq] at hl
      subst hl
      cases ok <;> simp [ho, hev, hew, Instr.lookup, run_underlying hu, getObj, hw, checkKey_string hk, hf, zeroValue, typeInfo, program, hi, hz, Sem.run_bind, Sem.run, Sem.run_pure, Result.andThen_ok]
theorem d_update {T e : TypeId} {m x y : Operand} {b : Pos} {k : ByteArray} {l : List (ByteArray × Value)} {v : Value} (ho : o.op = .mapUpdate T m x y) (h : Held ρ H W) (hT : mapOf P T = some e) (hm : VR ρ (.map b) (a.eval m)) (hx : VR ρ (.v (.string k)) (a.eval x)) (hy : VR ρ (.v v) (a.eval y))
    (hb : H.at b = .map l) (hlow : H.low ≤ b.nat) : Does P ρ H W unset (H.set b (.map (mapPut k v l))) a o := by
  obtain ⟨kt, hu, hk⟩ := mapOf_spec hT
  generalize hev : a.eval m = w at hm
  generalize hew : a.eval x = u at hx
  generalize hez : a.eval y = z at hy
  cases hx
  cases hy
  cases hm with
  | @map _ r n hr =>
    obtain ⟨es, clock, hw, hes⟩ := (by have := h.obj b r n hr; rw [hb] at this; exact this : Has ρ W r n (.map l))
    have hlt := h.lt b r n hr
    have hf := findKey_run (P := P) hk k hes W
    have halt : ∀ (es' : Array MapEntry) (c : Nat), es'.toList.map (fun x => (x.key, x.val)) = (mapPut k v l).map (fun x => (Value.string x.1, x.2)) →
        Stp ρ ρ H (H.set b (.map (mapPut k v l))) W { W with heap := W.heap.setIfInBounds r (.map es' c) } ∧ Held ρ (H.set b (.map (mapPut k v l))) { W with heap := W.heap.setIfInBounds r (.map es' c) } := fun es' c he =>
      h.alter (W' := { W with heap := W.heap.setIfInBounds r (.map es' c) }) hr hlow (by rw [hb]; rfl) _ ⟨es', c, by
        show (W.heap.setIfInBounds r _)[r]? = _
        simp [hlt], he⟩ rfl rfl rfl (by simp) (fun r' hr' => by
        show (W.heap.setIfInBounds r _)[r']? = _
        rw [Array.getElem?_setIfInBounds_ne (Ne.symm hr')])
    cases hq : mapFind k l 0 with
    | none =>
      rw [hq] at hf
      have hp : mapPut k v l = l ++ [(k, v)] := by unfold mapPut; rw [hq]
      obtain ⟨hst, hh⟩ := halt (es.push { key := .string k, val := v, born := clock }) (clock + 1) (by rw [hp]; simp [hes])
      refine Does.skip (W' := { W with heap := W.heap.setIfInBounds r (.map (es.push { key := .string k, val := v, born := clock }) (clock + 1)) }) ?_ ⟨ρ, hst, .v _, hh⟩
      unfold execOp
      simp [ho, hev, hew, hez, Instr.mapUpdate, run_underlying hu, getObj, setObj, hw, checkKey_string hk, hf, Sem.run_bind, Sem.run, Sem.run_pure, Result.andThen_ok]
    | some p =>
      obtain ⟨i, v0⟩ := p
      rw [hq] at hf
      obtain ⟨_, hli⟩ := mapFind_at hq
      simp only [Nat.sub_zero] at hli
      have hp : mapPut k v l = l.set i (k, v) := by unfold mapPut; rw [hq]
      have hkey : ∃ e0, es[i]? = some e0 ∧ e0.key = .string k := by
        have := congrArg (fun m => m[i]?) hes
        simp only [List.getElem?_map, hli, Option.map_some] at this
        cases hei : es.toList[i]? with
        | none => rw [hei] at this; cases this
        | some e0 =>
          rw [hei] at this
          simp only [Option.map_some, Option.some.injEq, Prod.mk.injEq] at this
          exact ⟨e0, by rw [← Array.getElem?_toList]; exact hei, this.1⟩
      obtain ⟨e0, he0, hk0⟩ := hkey
      obtain ⟨hst, hh⟩ := halt (es.modify i fun e => { e with key := .string k, val := v }) clock (by
        rw [hp, List.map_set, ← hes]
        apply List.ext_getElem?
        intro j
        rw [List.getElem?_map, List.getElem?_set, Array.getElem?_toList, Array.getElem?_modify]
        by_cases hj : i = j
        · subst hj
          rw [if_pos rfl, if_pos rfl, he0]
          have : i < (es.toList.map fun x => (x.key, x.val)).length := by
            have := (Array.getElem?_eq_some_iff.1 he0).1
            simpa using this
          rw [if_pos this]
          rfl
        · rw [if_neg hj, if_neg hj]
          simp)
      refine Does.skip (W' := { W with heap := W.heap.setIfInBounds r (.map (es.modify i fun e => { e with key := .string k, val := v }) clock) }) ?_ ⟨ρ, hst, .v _, hh⟩
      have hsame : (Instr.keyThatStays (.string k) (.string k)).run P W = .ok (.string k) W := by
        have hkk : (k == k) = true := (MapKept.bytes_beq k k).2 rfl
        unfold Instr.keyThatStays Instr.sameBits
        simp [Sem.run_pure, hkk]
      unfold execOp
      simp [ho, hev, hew, hez, Instr.mapUpdate, run_underlying hu, getObj, setObj, hw, checkKey_string hk, hf, he0, hk0, hsame, Sem.run_bind, Sem.run, Sem.run_pure, Result.andThen_ok]
end
end Go.Proofs.YtjflmmipjeangaaGreatDoor.Sx
end
/-
  The executor, one operation: whole numbers, by a short road.
-/
section
set_option linter.unusedVariables false
set_option linter.unusedSimpArgs false
namespace Go.Proofs.YtjflmmipjeangaaGreatDoor.Sx

def wrapF (n : Int) : Int :=
  match n with
  | .ofNat a => match Nat.ble a 9223372036854775807 with
    | true => .ofNat a
    | false => IntKind.i64.wrap n
  | .negSucc a => match Nat.ble a 9223372036854775807 with
    | true => .negSucc a
    | false => IntKind.i64.wrap n
theorem wrapF_eq (n : Int) : wrapF n = IntKind.i64.wrap n := by
  cases n with
  | ofNat a =>
    unfold wrapF
    simp only
    split
    · next h =>
      have := Nat.le_of_ble_eq_true h
      rw [IntKind.wrap_i64]
      simp only [Int.ofNat_eq_natCast]; omega
    · rfl
  | negSucc a =>
    unfold wrapF
    simp only
    split
    · next h =>
      have := Nat.le_of_ble_eq_true h
      rw [IntKind.wrap_i64]
      rw [Int.negSucc_eq]; omega
    · rfl
def addF (x y : Int) : Int :=
  match x, y with
  | .ofNat a, .ofNat b => .ofNat (Nat.add a b)
  | x, y => Int.add x y
theorem addF_eq (x y : Int) : addF x y = x + y := by cases x <;> cases y <;> rfl
def subF (x y : Int) : Int :=
  match x, y with
  | .ofNat a, .ofNat b => match Nat.ble b a with
    | true => .ofNat (Nat.sub a b)
    | false => .negSucc (Nat.sub (Nat.sub b a) 1)
  | x, y => Int.sub x y
theorem subF_eq (x y : Int) : subF x y = x - y := by
  cases x <;> cases y <;> try rfl
  next a b =>
  unfold subF
  simp only
  split
  · next h =>
    have := Nat.le_of_ble_eq_true h
    show ((a - b : Nat) : Int) = (a : Int) - (b : Int)
    omega
  · next h =>
    have hlt : a < b := Nat.lt_of_not_le fun hle => by rw [Nat.ble_eq_true_of_le hle] at h; cases h
    show Int.negSucc (b - a - 1) = (a : Int) - (b : Int)
    rw [Int.negSucc_eq]; omega
def mulF (x y : Int) : Int :=
  match x, y with
  | .ofNat a, .ofNat b => .ofNat (Nat.mul a b)
  | x, y => Int.mul x y
theorem mulF_eq (x y : Int) : mulF x y = x * y := by cases x <;> cases y <;> rfl
def leF (x y : Int) : Bool :=
  match x, y with
  | .ofNat a, .ofNat b => Nat.ble a b
  | .negSucc _, .ofNat _ => true
  | .ofNat _, .negSucc _ => false
  | .negSucc a, .negSucc b => Nat.ble b a
theorem leF_iff (x y : Int) : leF x y = true ↔ x ≤ y := by
  cases x <;> cases y <;> simp only [leF, Nat.ble_eq, Int.ofNat_eq_natCast, Int.negSucc_eq, Bool.false_eq_true, true_iff, false_iff] <;> omega
def eqF (x y : Int) : Bool :=
  match x, y with
  | .ofNat a, .ofNat b => Nat.beq a b
  | .negSucc a, .negSucc b => Nat.beq a b
  | _, _ => false
theorem eqF_iff (x y : Int) : eqF x y = true ↔ x = y := by
  cases x <;> cases y <;> simp only [eqF, Nat.beq_eq, Int.ofNat_eq_natCast, Int.negSucc_eq, Bool.false_eq_true, false_iff] <;> omega
def intF (op : BinOp) (x y : Int) : Option Value :=
  match op with
  | .add => some (.int .i64 (wrapF (addF x y)))
  | .sub => some (.int .i64 (wrapF (subF x y)))
  | .mul => some (.int .i64 (wrapF (mulF x y)))
  | .eql => some (.bool (eqF x y))
  | .neq => some (.bool (!eqF x y))
  | .lss => some (.bool (!leF y x))
  | .leq => some (.bool (leF x y))
  | .gtr => some (.bool (!leF x y))
  | .geq => some (.bool (leF y x))
  | .quo => match eqF y 0 with
    | false => some (.int .i64 (wrapF (Int.tdiv x y)))
    | true => none
  | .rem => match eqF y 0 with
    | false => some (.int .i64 (Int.tmod x y))
    | true => none
  | _ => none
theorem bool_of {b : Bool} {p : Prop} [Decidable p] (h : b = true ↔ p) : decide p = b := by
  cases b with
  | true => simpa using h.1 rfl
  | false => simp only [decide_eq_false_iff_not]; exact fun hp => by simpa using h.2 hp
theorem nbool_of {b : Bool} {p : Prop} [Decidable p] (h : b = true ↔ ¬ p) : decide p = !b := by
  cases b with
  | true => simp only [Bool.not_true, decide_eq_false_iff_not]; exact h.1 rfl
  | false => simp only [Bool.not_false, decide_eq_true_eq]; exact Classical.byContradiction fun hp => by simpa using h.2 hp
section
variable {P : Program} {ρ : Pl} {H : Hp} {W : World} {a : Act} {o : Oper}
theorem d_int {op : BinOp} {T ty : TypeId} {x y : Operand} {m n : Int} {v : Value} (ho : o.op = .binOp op T x y ty) (h : Held ρ H W) (hx : VR ρ (.v (.int .i64 m)) (a.eval x)) (hy : VR ρ (.v (.int .i64 n)) (a.eval y)) (hv : intF op m n = some v) : Does P ρ H W (.v v) H a o := by
  generalize hev : a.eval x = u at hx
  generalize hew : a.eval y = w at hy
  cases hx
  cases hy
  refine Does.value (v := v) (W' := W) ?_ (Good.same h (.v _))
  unfold execOp
  have hdiv : ∀ u, (op = .quo ∨ op = .rem) → intF op m n = some u → (Op.intDiv op .i64 m n).run P W = .ok u W := fun u hop hu => by
    have hy : eqF n 0 = false := by
      rcases hop with rfl | rfl <;> (unfold intF at hu; simp only at hu; split at hu <;> first | assumption | (cases hu; done))
    have hy0 : ¬ n = 0 := fun e => by rw [(eqF_iff n 0).2 e] at hy; cases hy
    unfold Op.intDiv
    rw [if_neg hy0]
    rcases hop with rfl | rfl <;> (simp only [intF, hy, Option.some.injEq] at hu; subst hu; simp only [wrapF_eq, Sem.run_pure])
  by_cases hq : op = .quo ∨ op = .rem
  · have := hdiv v hq hv
    rcases hq with rfl | rfl <;> simp [ho, hev, hew, eqGuard, binOp, this, Sem.run_bind, Sem.run_pure, Result.andThen_ok]
  cases op <;> simp only [intF, Option.some.injEq] at hv <;> try (cases hv; done)
  all_goals first | exact absurd (Or.inl rfl) hq | exact absurd (Or.inr rfl) hq | skip
  all_goals subst hv
  all_goals simp only [ho, hev, hew, eqGuard, binOp, ne_eq, not_true_eq_false, if_false, Op.intArith, Op.intCmp, wrapF_eq, addF_eq, subF_eq, mulF_eq, Sem.run_bind, Sem.run_pure, Result.andThen_ok]
  all_goals first
    | (simp [Sem.run_bind, Sem.run_pure, Result.andThen_ok]; done)
    | skip
  all_goals simp [Sem.run_bind, Sem.run_pure, Result.andThen_ok]
  all_goals first
    | exact bool_of (leF_iff _ _)
    | exact bool_of (eqF_iff _ _)
    | exact nbool_of (by rw [leF_iff]; omega)
    | exact congrArg (! ·) (bool_of (eqF_iff _ _))
    | skip
theorem d_min {x y : Operand} {m n : Int} {ts : Array TypeId} (ho : o.op = .call { callee := .builtin .min, args := #[x, y], argTypes := ts }) (h : Held ρ H W) (hx : VR ρ (.v (.int .i64 m)) (a.eval x)) (hy : VR ρ (.v (.int .i64 n)) (a.eval y)) :
    Does P ρ H W (.v (.int .i64 (match leF m n with | true => m | false => n))) H a o := by
  generalize hev : a.eval x = u at hx
  generalize hew : a.eval y = w at hy
  cases hx
  cases hy
  refine Does.value (W' := W) (v := .int .i64 (match leF m n with | true => m | false => n)) ?_ (Good.same h (.v _))
  have he : (match leF m n with | true => m | false => n) = if n < m then n else m := by
    cases hl : leF m n with
    | true => have := (leF_iff m n).1 hl; rw [if_neg (by omega)]
    | false => have : ¬ m ≤ n := fun e => by rw [(leF_iff m n).2 e] at hl; cases hl
               rw [if_pos (by omega)]
  rw [he]
  unfold execOp
  simp [ho, hev, hew, resolve, invoke, builtin, Builtin.min_, Builtin.min2, Sem.run_bind, Sem.run_pure, Result.andThen_ok]
theorem d_max {x y : Operand} {m n : Int} {ts : Array TypeId} (ho : o.op = .call { callee := .builtin .max, args := #[x, y], argTypes := ts }) (h : Held ρ H W) (hx : VR ρ (.v (.int .i64 m)) (a.eval x)) (hy : VR ρ (.v (.int .i64 n)) (a.eval y)) :
    Does P ρ H W (.v (.int .i64 (match leF n m with | true => m | false => n))) H a o := by
  generalize hev : a.eval x = u at hx
  generalize hew : a.eval y = w at hy
  cases hx
  cases hy
  refine Does.value (W' := W) (v := .int .i64 (match leF n m with | true => m | false => n)) ?_ (Good.same h (.v _))
  have he : (match leF n m with | true => m | false => n) = if n > m then n else m := by
    cases hl : leF n m with
    | true => have := (leF_iff n m).1 hl; rw [if_neg (by omega)]
    | false => have : ¬ n ≤ m := fun e => by rw [(leF_iff n m).2 e] at hl; cases hl
               rw [if_pos (by omega)]
  rw [he]
  unfold execOp
  simp [ho, hev, hew, resolve, invoke, builtin, Builtin.max_, Builtin.max2, Sem.run_bind, Sem.run_pure, Result.andThen_ok]
theorem d_not {T : TypeId} {x : Operand} {b : Bool} (ho : o.op = .unOp .not T x) (h : Held ρ H W) (hx : VR ρ (.v (.bool b)) (a.eval x)) : Does P ρ H W (.v (.bool !b)) H a o := by
  generalize hev : a.eval x = u at hx
  cases hx
  refine Does.value (W' := W) (v := .bool !b) ?_ (Good.same h (.v _))
  unfold execOp
  simp [ho, hev, Op.unary, Sem.run_bind, Sem.run_pure, Result.andThen_ok]
end
end Go.Proofs.YtjflmmipjeangaaGreatDoor.Sx
end
/-
  The executor, one operation: maps from whole numbers to plain values.
-/
section
set_option linter.unusedVariables false
set_option linter.unusedSimpArgs false
namespace Go.Proofs.YtjflmmipjeangaaGreatDoor.Sx
open Go.RowKit

section
variable {P : Program} {G : Gl} {ρ : Pl} {H H' : Hp} {W : World} {t : Sl} {a : Act} {o : Oper} {s : SVal}
/-- where a key stands, and its value -/
def imapFind (k : Int) : List (Int × Value) → Nat → Option (Nat × Value)
  | [], _ => none
  | p :: l, i => if eqF k p.1 then some (i, p.2) else imapFind k l (i + 1)
theorem findNow_imap (k : Int) : ∀ (es : List MapEntry) (l : List (Int × Value)) (i : Nat), es.map (fun x => (x.key, x.val)) = l.map (fun x => (Value.int .i64 x.1, x.2)) → Instr.findNow (.int .i64) (.int .i64 k) es i = some (imapFind k l i)
  | [], [], i, _ => rfl
  | [], _ :: _, _, h => by cases h
  | _ :: _, [], _, h => by cases h
  | e :: es, p :: l, i, h => by
    simp only [List.map_cons, List.cons.injEq, Prod.mk.injEq] at h
    obtain ⟨⟨h1, h2⟩, h3⟩ := h
    unfold Instr.findNow imapFind
    rw [h1]
    have hs : Instr.sameNow (.int .i64) (.int .i64 k) (.int .i64 p.1) = some (eqF k p.1) := by
      have he : (k == p.1) = eqF k p.1 := by
        cases hq : eqF k p.1 with
        | true => rw [(eqF_iff k p.1).1 hq]; simp
        | false =>
          have hne : k ≠ p.1 := fun e => by rw [(eqF_iff k p.1).2 e] at hq; cases hq
          simpa using hne
      simp [Instr.sameNow, he]
    rw [hs]
    cases hk : (eqF k p.1) with
    | true => simp [h2]
    | false => simp; exact findNow_imap k es l (i + 1) h3
theorem findKeyI_run {kt : TypeId} (hk : P.underlying kt = some (.int .i64)) (k : Int) {es : List MapEntry} {l : List (Int × Value)} (h : es.map (fun x => (x.key, x.val)) = l.map (fun x => (Value.int .i64 x.1, x.2))) (w : World) :
    (Instr.findKey kt (.int .i64 k) es).run P w = .ok (imapFind k l 0) w := by
  unfold Instr.findKey
  simp [run_underlying hk, findNow_imap k es l 0 h, Sem.run_bind, Sem.run_pure, Result.andThen_ok]
theorem checkKey_int {kt : TypeId} (hk : P.underlying kt = some (.int .i64)) (k : Int) (b : Bool) (w : World) : (Instr.checkKey b 10000 kt (.int .i64 k)).run P w = .ok () w := by
  show (Instr.checkKey b (9999 + 1) kt (.int .i64 k)).run P w = .ok () w
  unfold Instr.checkKey
  simp [run_underlying hk, Sem.run_bind, Sem.run_pure, Result.andThen_ok]
theorem imapFind_at {k : Int} : ∀ {l : List (Int × Value)} {i j : Nat} {v : Value}, imapFind k l i = some (j, v) → i ≤ j ∧ l[j - i]? = some (k, v)
  | [], i, j, v, h => by cases h
  | p :: l, i, j, v, h => by
    unfold imapFind at h
    cases hk : (eqF k p.1) with
    | true =>
      rw [hk] at h
      simp only [if_true, Option.some.injEq, Prod.mk.injEq] at h
      obtain ⟨rfl, rfl⟩ := h
      have : k = p.1 := (eqF_iff k p.1).1 hk
      subst this
      exact ⟨Nat.le_refl _, by simp⟩
    | false =>
      rw [hk] at h
      simp only [Bool.false_eq_true, if_false] at h
      obtain ⟨h1, h2⟩ := imapFind_at h
      refine ⟨by omega, ?_⟩
      have : j - i = (j - (i + 1)) + 1 := by omega
      rw [this, List.getElem?_cons_succ]; exact h2
/-- the map with a value at a key -/
def imapPut (k : Int) (v : Value) (l : List (Int × Value)) : List (Int × Value) :=
  match imapFind k l 0 with
  | some (i, _) => l.set i (k, v)
  | none => l ++ [(k, v)]
/-- a map type from strings: its element type -/
def imapOf (P : Program) (T : TypeId) : Option TypeId :=
  match P.underlying T with
  | some (.map kt e) => match P.underlying kt with
    | some (.int .i64) => some e
    | _ => none
  | _ => none
theorem imapOf_spec {T e : TypeId} (h : imapOf P T = some e) : ∃ kt, P.underlying T = some (.map kt e) ∧ P.underlying kt = some (.int .i64) := by
  unfold imapOf at h
  split at h <;> try (cases h; done)
  next kt e' hu =>
  split at h <;> try (cases h; done)
  next hk =>
  simp only [Option.some.injEq] at h
  subst h
  exact ⟨kt, hu, hk⟩
theorem d_makeImap {T : TypeId} (ho : o.op = .makeMap T none) (h : Held ρ H W) : Does P ρ H W (.map H.next) (H.more (.imap [])) a o := by
  obtain ⟨hst, hh⟩ := h.grow (W' := W.alloc (.map #[] 0)) (.imap []) (r := W.heap.size) (k := 0) (by simp) (.inl (Nat.le_refl _)) (fun σ _ => ⟨#[], 0, (MapKept.heap_alloc W _).1, rfl⟩) rfl rfl rfl (by simp) (fun r hr => Go.RowKit.Below.heap_alloc _ _ _ hr)
  refine Does.value (v := .map (some W.heap.size)) ?_ ⟨_, hst, .map (Pl.put_same _ _ _), hh⟩
  unfold execOp
  simp [ho, Instr.makeMap, newObj, Sem.run_bind, Sem.run, Sem.run_pure, Result.andThen_ok]
/-- what a lookup yields -/
def ilookS (P : Program) (e : TypeId) (l : List (Int × Value)) (k : Int) (ok : Bool) : Option Value :=
  match imapFind k l 0 with
  | some (_, v) => some (if ok then .tuple #[v, .bool true] else v)
  | none => match P.info? e with
    | some i => match i.zero with
      | some z => some (if ok then .tuple #[z, .bool false] else z)
      | none => none
    | none => none
theorem d_ilookup {T e : TypeId} {x y : Operand} {ok : Bool} {b : Pos} {k : Int} {l : List (Int × Value)} {v : Value} (ho : o.op = .lookup T x y ok) (h : Held ρ H W) (hT : imapOf P T = some e) (hx : VR ρ (.map b) (a.eval x)) (hy : VR ρ (.v (.int .i64 k)) (a.eval y))
    (hb : H.at b = .imap l) (hl : ilookS P e l k ok = some v) : Does P ρ H W (.v v) H a o := by
  obtain ⟨kt, hu, hk⟩ := imapOf_spec hT
  generalize hev : a.eval x = w at hx
  generalize hew : a.eval y = u at hy
  cases hy
  cases hx with
  | @map _ r n hr =>
    obtain ⟨es, clock, hw, hes⟩ := (by have := h.obj b r n hr; rw [hb] at this; exact this : Has ρ W r n (.imap l))
    refine Does.value (v := v) (W' := W) ?_ (Good.same h (.v _))
    have hf := findKeyI_run (P := P) hk k hes W
    unfold ilookS at hl
    unfold execOp
    cases hm : imapFind k l 0 with
    | some p =>
      rw [hm] at hl hf
      simp only [Option.some.injEq] at hl
      subst hl
      cases ok <;> simp [ho, hev, hew, Instr.lookup, run_underlying hu, getObj, hw, checkKey_int hk, hf, Sem.run_bind, Sem.run, Sem.run_pure, Result.andThen_ok]
    | none =>
      rw [hm] at hl hf
      simp only at hl
      split at hl <;> try (cases hl; done)
      next i hi =>
      split at hl <;> try (cases hl; done)
      next z hz =>
      simp only [Option.some.injEq] at hl
      subst hl
      cases ok <;> simp [ho, hev, hew, Instr.lookup, run_underlying hu, getObj, hw, checkKey_int hk, hf, zeroValue, typeInfo, program, hi, hz, Sem.run_bind, Sem.run, Sem.run_pure, Result.andThen_ok]
theorem d_iupdate {T e : TypeId} {m x y : Operand} {b : Pos} {k : Int} {l : List (Int × Value)} {v : Value} (ho : o.op = .mapUpdate T m x y) (h : Held ρ H W) (hT : imapOf P T = some e) (hm : VR ρ (.map b) (a.eval m)) (hx : VR ρ (.v (.int .i64 k)) (a.eval x)) (hy : VR ρ (.v v) (a.eval y))
    (hb : H.at b = .imap l) (hlow : H.low ≤ b.nat) : Does P ρ H W unset (H.set b (.imap (imapPut k v l))) a o := by
  obtain ⟨kt, hu, hk⟩ := imapOf_spec hT
  generalize hev : a.eval m = w at hm
  generalize hew : a.eval x = u at hx
  generalize hez : a.eval y = z at hy
  cases hx
  cases hy
  cases hm with
  | @map _ r n hr =>
    obtain ⟨es, clock, hw, hes⟩ := (by have := h.obj b r n hr; rw [hb] at this; exact this : Has ρ W r n (.imap l))
    have hlt := h.lt b r n hr
    have hf := findKeyI_run (P := P) hk k hes W
    have halt : ∀ (es' : Array MapEntry) (c : Nat), es'.toList.map (fun x => (x.key, x.val)) = (imapPut k v l).map (fun x => (Value.int .i64 x.1, x.2)) →
        Stp ρ ρ H (H.set b (.imap (imapPut k v l))) W { W with heap := W.heap.setIfInBounds r (.map es' c) } ∧ Held ρ (H.set b (.imap (imapPut k v l))) { W with heap := W.heap.setIfInBounds r (.map es' c) } := fun es' c he =>
      h.alter (W' := { W with heap := W.heap.setIfInBounds r (.map es' c) }) hr hlow (by rw [hb]; rfl) _ ⟨es', c, by
        show (W.heap.setIfInBounds r _)[r]? = _
        simp [hlt], he⟩ rfl rfl rfl (by simp) (fun r' hr' => by
        show (W.heap.setIfInBounds r _)[r']? = _
        rw [Array.getElem?_setIfInBounds_ne (Ne.symm hr')])
    cases hq : imapFind k l 0 with
    | none =>
      rw [hq] at hf
      have hp : imapPut k v l = l ++ [(k, v)] := by unfold imapPut; rw [hq]
      obtain ⟨hst, hh⟩ := halt (es.push { key := (.int .i64 k), val := v, born := clock }) (clock + 1) (by rw [hp]; simp [hes])
      refine Does.skip (W' := { W with heap := W.heap.setIfInBounds r (.map (es.push { key := (.int .i64 k), val := v, born := clock }) (clock + 1)) }) ?_ ⟨ρ, hst, .v _, hh⟩
      unfold execOp
      simp [ho, hev, hew, hez, Instr.mapUpdate, run_underlying hu, getObj, setObj, hw, checkKey_int hk, hf, Sem.run_bind, Sem.run, Sem.run_pure, Result.andThen_ok]
    | some p =>
      obtain ⟨i, v0⟩ := p
      rw [hq] at hf
      obtain ⟨_, hli⟩ := imapFind_at hq
      simp only [Nat.sub_zero] at hli
      have hp : imapPut k v l = l.set i (k, v) := by unfold imapPut; rw [hq]
      have hkey : ∃ e0, es[i]? = some e0 ∧ e0.key = (.int .i64 k) := by
        have := congrArg (fun m => m[i]?) hes
        simp only [List.getElem?_map, hli, Option.map_some] at this
        cases hei : es.toList[i]? with
        | none => rw [hei] at this; cases this
        | some e0 =>
          rw [hei] at this
          simp only [Option.map_some, Option.some.injEq, Prod.mk.injEq] at this
          exact ⟨e0, by rw [← Array.getElem?_toList]; exact hei, this.1⟩
      obtain ⟨e0, he0, hk0⟩ := hkey
      obtain ⟨hst, hh⟩ := halt (es.modify i fun e => { e with key := (.int .i64 k), val := v }) clock (by
        rw [hp, List.map_set, ← hes]
        apply List.ext_getElem?
        intro j
        rw [List.getElem?_map, List.getElem?_set, Array.getElem?_toList, Array.getElem?_modify]
        by_cases hj : i = j
        · subst hj
          rw [if_pos rfl, if_pos rfl, he0]
          have : i < (es.toList.map fun x => (x.key, x.val)).length := by
            have := (Array.getElem?_eq_some_iff.1 he0).1
            simpa using this
          rw [if_pos this]
          rfl
        · rw [if_neg hj, if_neg hj]
          simp)
      refine Does.skip (W' := { W with heap := W.heap.setIfInBounds r (.map (es.modify i fun e => { e with key := (.int .i64 k), val := v }) clock) }) ?_ ⟨ρ, hst, .v _, hh⟩
      have hsame : (Instr.keyThatStays (.int .i64 k) (.int .i64 k)).run P W = .ok (.int .i64 k) W := by
        have hkk : (k == k) = true := by simp
        unfold Instr.keyThatStays Instr.sameBits
        simp [Sem.run_pure, hkk]
      unfold execOp
      simp [ho, hev, hew, hez, Instr.mapUpdate, run_underlying hu, getObj, setObj, hw, checkKey_int hk, hf, he0, hk0, hsame, Sem.run_bind, Sem.run, Sem.run_pure, Result.andThen_ok]
/-- the map without a key -/
def imapDel (k : Int) (l : List (Int × Value)) : List (Int × Value) :=
  match imapFind k l 0 with
  | some (i, _) => l.eraseIdx i
  | none => l
theorem map_erase {α β : Type} (f : α → β) : ∀ (l : List α) (i : Nat), (l.eraseIdx i).map f = (l.map f).eraseIdx i
  | [], _ => rfl
  | _ :: _, 0 => rfl
  | x :: l, i + 1 => congrArg (f x :: ·) (map_erase f l i)
theorem d_idelete {T tk e : TypeId} {m x : Operand} {b : Pos} {k : Int} {l : List (Int × Value)} (ho : o.op = .call { callee := .builtin .delete, args := #[m, x], argTypes := #[T, tk] }) (h : Held ρ H W) (hT : imapOf P T = some e) (hm : VR ρ (.map b) (a.eval m)) (hx : VR ρ (.v (.int .i64 k)) (a.eval x))
    (hb : H.at b = .imap l) (hlow : H.low ≤ b.nat) : Does P ρ H W (.v (.tuple #[])) (H.set b (.imap (imapDel k l))) a o := by
  obtain ⟨kt, hu, hk⟩ := imapOf_spec hT
  generalize hev : a.eval m = w at hm
  generalize hew : a.eval x = u at hx
  cases hx
  cases hm with
  | @map _ r n hr =>
    obtain ⟨es, clock, hw, hes⟩ := (by have := h.obj b r n hr; rw [hb] at this; exact this : Has ρ W r n (.imap l))
    have hlt := h.lt b r n hr
    have hf := findKeyI_run (P := P) hk k hes W
    have halt : ∀ (es' : Array MapEntry) (c : Nat), es'.toList.map (fun x => (x.key, x.val)) = (imapDel k l).map (fun x => (Value.int .i64 x.1, x.2)) →
        Stp ρ ρ H (H.set b (.imap (imapDel k l))) W { W with heap := W.heap.setIfInBounds r (.map es' c) } ∧ Held ρ (H.set b (.imap (imapDel k l))) { W with heap := W.heap.setIfInBounds r (.map es' c) } := fun es' c he =>
      h.alter (W' := { W with heap := W.heap.setIfInBounds r (.map es' c) }) hr hlow (by rw [hb]; rfl) _ ⟨es', c, by
        show (W.heap.setIfInBounds r _)[r]? = _
        simp [hlt], he⟩ rfl rfl rfl (by simp) (fun r' hr' => by
        show (W.heap.setIfInBounds r _)[r']? = _
        rw [Array.getElem?_setIfInBounds_ne (Ne.symm hr')])
    cases hq : imapFind k l 0 with
    | none =>
      rw [hq] at hf
      have hp : imapDel k l = l := by unfold imapDel; rw [hq]
      obtain ⟨hst, hh⟩ := halt es clock (by rw [hp]; exact hes)
      refine Does.value (v := .tuple #[]) (W' := { W with heap := W.heap.setIfInBounds r (.map es clock) }) ?_ ⟨ρ, hst, .v _, hh⟩
      unfold execOp
      simp [ho, hev, hew, resolve, invoke, builtin, Builtin.delete_, run_underlying hu, getObj, setObj, hw, checkKey_int hk, hf, Sem.run_bind, Sem.run, Sem.run_pure, Result.andThen_ok]
    | some p =>
      obtain ⟨i, v0⟩ := p
      rw [hq] at hf
      have hp : imapDel k l = l.eraseIdx i := by unfold imapDel; rw [hq]
      obtain ⟨hst, hh⟩ := halt (es.eraseIdxIfInBounds i) clock (by
        rw [hp, Array.toList_eraseIdxIfInBounds, map_erase, map_erase, hes])
      refine Does.value (v := .tuple #[]) (W' := { W with heap := W.heap.setIfInBounds r (.map (es.eraseIdxIfInBounds i) clock) }) ?_ ⟨ρ, hst, .v _, hh⟩
      unfold execOp
      simp [ho, hev, hew, resolve, invoke, builtin, Builtin.delete_, run_underlying hu, getObj, setObj, hw, checkKey_int hk, hf, Sem.run_bind, Sem.run, Sem.run_pure, Result.andThen_ok]
end
end Go.Proofs.YtjflmmipjeangaaGreatDoor.Sx
end
/-
  The executor, one operation: the function and its soundness.
-/
section
set_option linter.unusedVariables false
set_option linter.unusedSimpArgs false
namespace Go.Proofs.YtjflmmipjeangaaGreatDoor.Sx
open Go.RowKit

abbrev Out := Option (SVal × Hp)
/-- nothing lies at the numbers to come -/
def Hp.Tidy (H : Hp) : Prop := ∀ b : Pos, H.next.nat ≤ b.nat → H.at b = .gone
/-- the numbers of the laid variables -/
def GlobsH (G : Gl) (ρ : Pl) (H : Hp) : Prop := ∀ g b, G g = some b → b.nat < H.next.nat ∧ ∃ k, ρ b = some (g, k)
theorem GlobsH.globs {G : Gl} {ρ : Pl} {H : Hp} (h : GlobsH G ρ H) : Globs G ρ := fun g b hb => (h g b hb).2
theorem GlobsH.step {G : Gl} {ρ σ : Pl} {H H' : Hp} {W W' : World} (h : GlobsH G ρ H) (s : Stp ρ σ H H' W W') : GlobsH G σ H' := fun g b hb => by
  obtain ⟨h1, k, h2⟩ := h g b hb
  exact ⟨Nat.lt_of_lt_of_le h1 s.next, k, by rw [s.agree b h1]; exact h2⟩
section
variable (P : Program) (G : Gl)
/-- the number that a value is -/
def natOf : SVal → Option Nat
  | .v (.int _ (.ofNat n)) => some n
  | _ => none
theorem natOf_spec {s : SVal} {n : Nat} (h : natOf s = some n) : ∃ k, s = .v (.int k (.ofNat n)) := by
  unfold natOf at h
  split at h <;> try (cases h; done)
  next k m =>
  simp only [Option.some.injEq] at h
  subst h
  exact ⟨k, rfl⟩
/-- a bound of a slice -/
noncomputable def boundOf (t : Sl) (d : Nat) : Option Operand → Option Nat
  | none => some d
  | some x => natOf (ev G t x)
theorem boundOf_read {G : Gl} {ρ : Pl} {t : Sl} {a : Act} {d n : Nat} {x : Option Operand} (hx : ∀ y, x = some y → VR ρ (ev G t y) (a.eval y)) (h : boundOf G t d x = some n) : Bound ρ a d n x := by
  cases x with
  | none => simp only [boundOf, Option.some.injEq] at h; exact h.symm
  | some y =>
    obtain ⟨k, hk⟩ := natOf_spec h
    exact ⟨k, by rw [← hk]; exact hx y rfl⟩
/-- all of it on plain values, by the model's own execOp -/
noncomputable def calmS (o : Oper) (t : Sl) (H : Hp) : Out :=
  match o.op.operands.toList.all (plainB G t) with
  | true => match Sem.calm P (execOp (plain G t) o) with
    | some (.value v) => some (.v v, H)
    | _ => none
  | false => none
theorem calmS_run {P : Program} {G : Gl} {ρ : Pl} {H H' : Hp} {W : World} {t : Sl} {a : Act} {o : Oper} {s : SVal} (hs : ∀ cs b, o.op ≠ .select cs b) (h : Held ρ H W) (hx : Opnds G ρ t a o) (hc : calmS P G o t H = some (s, H')) : Does P ρ H W s H' a o := by
  unfold calmS at hc
  split at hc <;> try (cases hc; done)
  next hall =>
  split at hc <;> try (cases hc; done)
  next v hv =>
  simp only [Option.some.injEq, Prod.mk.injEq] at hc
  obtain ⟨rfl, rfl⟩ := hc
  have ha : ∀ x ∈ o.op.operands, plainB G t x = true := fun x hx => by
    rw [List.all_eq_true] at hall
    exact hall x (by simpa using hx)
  exact Does.value (calm_op hx hs ha hv W) (Good.same h (.v _))
noncomputable def xSlice (o : Oper) (t : Sl) (H : Hp) (T : TypeId) (x : Operand) (lo hi : Option Operand) : Out :=
  match ev G t x with
  | .slice b off len c => match elemSize P T, boundOf G t 0 lo, boundOf G t len hi with
    | some z, some l, some m => match Nat.ble l m, Nat.ble m len with
      | true, true => some (.slice b (off + l * z) (m - l) (c.less l), H)
      | _, _ => none
    | _, _, _ => none
  | .ptr b off => match arrOf P T with
    | some (n, z) => match boundOf G t 0 lo, boundOf G t n hi with
      | some l, some m => match Nat.ble l m, Nat.ble m n with
        | true, true => some (.slice b (off + l * z) (m - l) (.known (n - l)), H)
        | _, _ => none
      | _, _ => none
    | none => none
  | _ => calmS P G o t H
noncomputable def xIndexAddr (t : Sl) (H : Hp) (T : TypeId) (x y : Operand) : Out :=
  match ev G t x, natOf (ev G t y) with
  | .slice b off len c, some n => match elemSize P T, Nat.blt n len with
    | some z, true => some (.ptr b (off + n * z), H)
    | _, _ => none
  | .ptr b off, some n => match arrOf P T with
    | some (len, z) => match Nat.blt n len with
      | true => some (.ptr b (off + n * z), H)
      | false => none
    | none => none
  | _, _ => none
/-- the type and the cells of an array's elements, and their number -/
def arrElem (P : Program) (T : TypeId) : Option (Nat × TypeId × Nat) :=
  match P.underlying T with
  | some (.array n e) => match P.info? e with
    | some t => some (n, e, t.size)
    | none => none
  | _ => none
noncomputable def xIndex (o : Oper) (t : Sl) (H : Hp) (T : TypeId) (x y : Operand) : Out :=
  match ev G t x with
  | .agg l => match arrElem P T, natOf (ev G t y) with
    | some (len, e, z), some n => match Nat.blt n len, partS P e l (n * z) with
      | true, some s => some (s, H)
      | _, _ => none
    | _, _ => none
  | _ => calmS P G o t H
noncomputable def xStore (t : Sl) (H : Hp) (T : TypeId) (x y : Operand) : Out :=
  match ev G t x, P.info? T with
  | .ptr b off, some i => match Nat.beq i.size (ev G t y).cells.length, oneAll (ev G t y).cells, putG H b off (ev G t y).cells with
    | true, true, some H' => some (unset, H')
    | _, _, _ => none
  | _, _ => none
noncomputable def xBin (o : Oper) (t : Sl) (H : Hp) (op : BinOp) (T : TypeId) (x y : Operand) : Out :=
  match ev G t x with
  | .ptr b off => match ev G t y, P.underlying T with
    | .v (.pointer none), some (.pointer _) => match op with
      | .eql => some (.v (.bool false), H)
      | .neq => some (.v (.bool true), H)
      | _ => none
    | _, _ => none
  | .slice b off len c => match ev G t y, P.underlying T with
    | .v (.slice none _ _), some (.slice _) => match op with
      | .eql => some (.v (.bool false), H)
      | .neq => some (.v (.bool true), H)
      | _ => none
    | _, _ => none
  | .v (.int .i64 m) => match ev G t y with
    | .v (.int .i64 n) => match intF op m n with
      | some v => some (.v v, H)
      | none => calmS P G o t H
    | _ => calmS P G o t H
  | _ => calmS P G o t H
noncomputable def xConvert (o : Oper) (t : Sl) (H : Hp) (src dst : TypeId) (x : Operand) : Out :=
  match ev G t x, P.underlying src, P.underlying dst with
  | .v (.string u), some .string, some (.slice e) => match P.underlying e with
    | some (.int .u8) => some (.slice H.next 0 u.size (.upto 0), H.more (.ro (bytesS u)))
    | _ => none
  | .slice b off len _, some (.slice e), some .string => match P.underlying e, cellsAt H b off len with
    | some (.int .u8), some l => match bytesOf l with
      | some ns => some (.v (.string (stringOf ns)), H)
      | none => none
    | _, _ => none
  | _, _, _ => calmS P G o t H
noncomputable def xNext (t : Sl) (H : Hp) (x : Operand) : Out :=
  match ev G t x with
  | .ptr b 0 => match H.at b with
    | .siter u pos => match Nat.blt pos u.size with
      | true => match Nat.ble H.low b.nat with
        | true => some (.v (.tuple #[.bool true, .int .i64 pos, .int .i32 (Utf8.decode u pos).1]), H.set b (.siter u (pos + (Utf8.decode u pos).2)))
        | false => none
      | false => some (.v (.tuple #[.bool false]), H)
    | _ => none
  | _ => none
/-- some elements appended: there is room, or not -/
noncomputable def xGrow (t : Sl) (H : Hp) (e z : Nat) (i : TypeInfo) (x : Operand) (n : Nat) (l : List SVal) : Out :=
  match ev G t x with
  | .v (.slice none 0 0) => match Nat.ble n 9223372036854775807, Nat.ble (n * i.bytes) 140737488355328 with
    | true, true => some (.slice H.next 0 n (.upto 0), H.more (.cells l e (some z)))
    | _, _ => none
  | .slice b off len c => match Nat.ble (len + n) 9223372036854775807, Nat.ble ((len + n) * i.bytes) 140737488355328 with
    | true, true => match c with
      | .known cap => match Nat.ble (len + n) cap with
        | true => match putAt H b (off + len * z) l with
          | some H' => some (.slice b off (len + n) (.known cap), H')
          | none => none
        | false => match cellsAt H b off (len * z) with
          | some lo => some (.slice H.next 0 (len + n) (.upto 0), H.more (.cells (lo ++ l) e (some z)))
          | none => none
      | .upto 0 => match off, H.at b with
        | 0, .cells C E (some g) => match Nat.beq E e, Nat.beq g z, Nat.ble (len * z) C.length, Nat.ble H.low b.nat with
          | true, true, true, true => match Nat.ble ((len + n) * z) C.length, Nat.ble 1 z with
            | true, true => match putAt H b (0 + len * z) l with
              | some H' => some (.slice b 0 (len + n) (.upto 0), H')
              | none => none
            | _, _ => some (.slice H.next 0 (len + n) (.upto 0), (H.set b .gone).more (.cells (C.take (len * z) ++ l) e (some z)))
          | _, _, _, _ => none
        | _, _ => none
      | _ => none
    | _, _ => none
  | _ => none
noncomputable def xAppend (t : Sl) (H : Hp) (T tx : TypeId) (x y : Operand) : Out :=
  match rowOf P T, P.underlying tx with
  | some (e, z, zv), some (.slice _) => match P.info? e, Nat.beq zv.cells.size z with
    | some i, true => match ev G t y with
      | .v (.slice none 0 _) => match ev G t x with
        | .slice b off len c => some (.slice b off len c, H)
        | .v (.slice none 0 0) => some (.v (.slice none 0 0), H)
        | _ => none
      | sy => match srcOf P H tx z sy with
        | some (n, l) => match Nat.beq n 0 with
          | true => match ev G t x with
            | .slice b off len c => some (.slice b off len c, H)
            | .v (.slice none 0 0) => some (.v (.slice none 0 0), H)
            | _ => none
          | false => xGrow G t H e z i x n l
        | none => none
    | _, _ => none
  | some (e, z, zv), some .string => match P.info? e, Nat.beq zv.cells.size z with
    | some i, true => match ev G t y with
      | .v (.string u) => match Nat.beq u.size 0, Nat.beq z 1 with
        | true, true => match ev G t x with
          | .slice b off len c => some (.slice b off len c, H)
          | .v (.slice none 0 0) => some (.v (.slice none 0 0), H)
          | _ => none
        | false, true => xGrow G t H e z i x u.size ((byteCells u).map .v)
        | _, _ => none
      | _ => none
    | _, _ => none
  | _, _ => none
/-- a key struck off a map from whole numbers -/
noncomputable def xDelete (t : Sl) (H : Hp) (T : TypeId) (m x : Operand) : Out :=
  match ev G t m, ev G t x, imapOf P T with
  | .map b, .v (.int .i64 k), some _ => match H.at b, Nat.ble H.low b.nat with
    | .imap l, true => some (.v (.tuple #[]), H.set b (.imap (imapDel k l)))
    | _, _ => none
  | _, _, _ => none
/-- a map from whole numbers: looked at -/
noncomputable def xILook (t : Sl) (H : Hp) (T : TypeId) (b : Pos) (y : Operand) (ok : Bool) : Out :=
  match ev G t y, imapOf P T, H.at b with
  | .v (.int .i64 k), some e, .imap l => match ilookS P e l k ok with
    | some v => some (.v v, H)
    | none => none
  | _, _, _ => none
noncomputable def xLook (t : Sl) (H : Hp) (T : TypeId) (b : Pos) (y : Operand) (ok : Bool) : Out :=
  match ev G t y, mapOf P T, H.at b with
  | .v (.string k), some e, .map l => match lookS P e l k ok with
    | some v => some (.v v, H)
    | none => none
  | _, _, _ => xILook P G t H T b y ok
/-- a map written -/
noncomputable def xUpdate (t : Sl) (H : Hp) (T : TypeId) (m x y : Operand) : Out :=
  match ev G t m, ev G t x, (ev G t y) with
  | .map b, .v (.string k), .v v => match mapOf P T, H.at b, Nat.ble H.low b.nat with
    | some _, .map l, true => some (unset, H.set b (.map (mapPut k v l)))
    | _, _, _ => none
  | .map b, .v (.int .i64 k), .v v => match imapOf P T, H.at b, Nat.ble H.low b.nat with
    | some _, .imap l, true => some (unset, H.set b (.imap (imapPut k v l)))
    | _, _, _ => none
  | _, _, _ => none
/-- new memory: many cells are given by their differences -/
noncomputable def xMake (t : Sl) (H : Hp) (T : TypeId) (x y : Operand) : Out :=
  match natOf (ev G t x), natOf (ev G t y), rowOf P T with
  | some l, some c, some (e, n, z) => match P.info? e with
    | some i => match Nat.ble l c, Nat.ble (i.bytes * c) 281474976710656, Nat.ble c 9223372036854775807 with
      | true, true, true => match Nat.ble 512 c, Nat.beq n 1, oneZero z with
        | true, true, some v => some (.slice H.next 0 l (.known c), H.more (.big c (.v v) [] e))
        | _, _, _ => some (.slice H.next 0 l (.known c), H.more (.cells ((zerosOf z (c * n)).map .v) e none))
      | _, _, _ => none
    | none => none
  | _, _, _ => none
noncomputable def xCall (cl : FuncId → List SVal → Hp → Out) (o : Oper) (t : Sl) (H : Hp) (c : Call) : Out :=
  match c with
  | ⟨.value x, xs, _⟩ => match x with
    | .func f => match enters P f with
      | true => cl f (mapR (ev G t) xs.toList) H
      | false => calmS P G o t H
    | _ => match ev G t x with
      | .func (.func f) m l => match enters P f with
        | true => cl f (appR (appR m (mapR (ev G t) xs.toList)) l) H
        | false => none
      | .v (.func (.func f) ⟨[]⟩ ⟨[]⟩) => match enters P f with
        | true => cl f (mapR (ev G t) xs.toList) H
        | false => none
      | _ => none
  | ⟨.invoke x name, xs, _⟩ => match ev G t x with
    | .iface T (.ptr b off) => match methOf P T name with
      | some f => match enters P f with
        | true => cl f (.ptr b off :: mapR (ev G t) xs.toList) H
        | false => none
      | none => none
    | .iface T y => match y.pure? with
      | some u => match Sem.calm P (method (P.types.size + Made.depth) T u name) with
        | some (f, v) => match enters P f with
          | true => cl f (.v v :: mapR (ev G t) xs.toList) H
          | false => none
        | none => none
      | none => none
    | _ => none
  | ⟨.builtin .len, ⟨[x]⟩, ⟨[T]⟩⟩ => match ev G t x with
    | .slice b off len _ => match P.underlying T with
      | some (.slice _) => some (.v (.int .i64 len), H)
      | _ => none
    | _ => calmS P G o t H
  | ⟨.builtin .append, ⟨[x, y]⟩, ⟨[T, tx]⟩⟩ => xAppend P G t H T tx x y
  | ⟨.builtin .delete, ⟨[x, y]⟩, ⟨[T, _]⟩⟩ => xDelete P G t H T x y
  | ⟨.builtin .min, ⟨[x, y]⟩, _⟩ => match ev G t x with
    | .v (.int .i64 m) => match ev G t y with
      | .v (.int .i64 n) => some (.v (.int .i64 (match leF m n with | true => m | false => n)), H)
      | _ => calmS P G o t H
    | _ => calmS P G o t H
  | ⟨.builtin .max, ⟨[x, y]⟩, _⟩ => match ev G t x with
    | .v (.int .i64 m) => match ev G t y with
      | .v (.int .i64 n) => some (.v (.int .i64 (match leF n m with | true => m | false => n)), H)
      | _ => calmS P G o t H
    | _ => calmS P G o t H
  | _ => calmS P G o t H
structure Act1 where
  run : Sl → Hp → Out
/-- a call, prepared -/
noncomputable def prepC (cl : FuncId → List SVal → Hp → Out) (o : Oper) (c : Call) : Act1 :=
  match c with
  | ⟨.value x, xs, _⟩ => ⟨fun t H => match x with
      | .func f => match enters P f with
        | true => cl f (mapR (ev G t) xs.toList) H
        | false => calmS P G o t H
      | _ => match ev G t x with
        | .func (.func f) m l => match enters P f with
          | true => cl f (appR (appR m (mapR (ev G t) xs.toList)) l) H
          | false => none
        | .v (.func (.func f) ⟨[]⟩ ⟨[]⟩) => match enters P f with
          | true => cl f (mapR (ev G t) xs.toList) H
          | false => none
        | _ => none⟩
  | ⟨.invoke x name, xs, _⟩ => ⟨fun t H => match ev G t x with
      | .iface T (.ptr b off) => match methOf P T name with
        | some f => match enters P f with
          | true => cl f (.ptr b off :: mapR (ev G t) xs.toList) H
          | false => none
        | none => none
      | .iface T y => match y.pure? with
        | some u => match Sem.calm P (method (P.types.size + Made.depth) T u name) with
          | some (f, v) => match enters P f with
            | true => cl f (.v v :: mapR (ev G t) xs.toList) H
            | false => none
          | none => none
        | none => none
      | _ => none⟩
  | ⟨.builtin .len, ⟨[x]⟩, ⟨[T]⟩⟩ => ⟨fun t H => match ev G t x with
      | .slice b off len _ => match P.underlying T with
        | some (.slice _) => some (.v (.int .i64 len), H)
        | _ => none
      | _ => calmS P G o t H⟩
  | ⟨.builtin .append, ⟨[x, y]⟩, ⟨[T, tx]⟩⟩ => ⟨fun t H => xAppend P G t H T tx x y⟩
  | ⟨.builtin .delete, ⟨[x, y]⟩, ⟨[T, _]⟩⟩ => ⟨fun t H => xDelete P G t H T x y⟩
  | ⟨.builtin .min, ⟨[x, y]⟩, _⟩ => ⟨fun t H => match ev G t x with
      | .v (.int .i64 m) => match ev G t y with
        | .v (.int .i64 n) => some (.v (.int .i64 (match leF m n with | true => m | false => n)), H)
        | _ => calmS P G o t H
      | _ => calmS P G o t H⟩
  | ⟨.builtin .max, ⟨[x, y]⟩, _⟩ => ⟨fun t H => match ev G t x with
      | .v (.int .i64 m) => match ev G t y with
        | .v (.int .i64 n) => some (.v (.int .i64 (match leF n m with | true => m | false => n)), H)
        | _ => calmS P G o t H
      | _ => calmS P G o t H⟩
  | _ => ⟨fun t H => calmS P G o t H⟩
theorem prepC_run (cl : FuncId → List SVal → Hp → Out) (o : Oper) (t : Sl) (H : Hp) (c : Call) : (prepC P G cl o c).run t H = xCall P G cl o t H c := by
  unfold prepC xCall
  split <;> rfl
/-- one operation -/
noncomputable def xop (cl : FuncId → List SVal → Hp → Out) (o : Oper) (t : Sl) (H : Hp) : Out :=
  match o.op with
  | .move x => some (ev G t x, H)
  | .assign x => some (ev G t x, H)
  | .pick c x y => match ev G t c with
    | .v (.bool true) => some (ev G t x, H)
    | .v (.bool false) => some (ev G t y, H)
    | _ => none
  | .alloc T => match zeroOf P T with
    | some l => some (.ptr H.next 0, H.more (.cells (l.map .v) T none))
    | none => none
  | .box T x => some (.ptr H.next 0, H.more (.cells (ev G t x).cells T none))
  | .build T ps => match planOf P T with
    | some (z, pl) => match fillS pl (z.map .v) (partsS G t ps.toList) with
      | some l => some (.agg l, H)
      | none => none
    | none => none
  | .buildSlice T len ps => match rowOf P T with
    | some (e, n, z) => match Nat.ble (len * n) 16777216, Nat.ble 1 (len * n) with
      | true, true => match fillS (fun i => some (i * n, n)) ((zerosOf z (len * n)).map .v) (partsS G t ps.toList) with
        | some l => some (.slice H.next 0 len (.known len), H.more (.cells l e none))
        | none => none
      | _, _ => match len, ps with
        | 0, ⟨[]⟩ => some (.slice H.next 0 0 (.known 0), H.more (.cells [] e none))
        | _, _ => none
    | none => none
  | .load T x => match ev G t x with
    | .ptr b off => match ldS P H T b off with
      | some s => some (s, H)
      | none => none
    | _ => none
  | .store T x y => xStore P G t H T x y
  | .nilCheck x => match ev G t x with
    | .ptr b off => some (.ptr b off, H)
    | .func (.func f) m l => some (.func (.func f) m l, H)
    | .iface T y => some (.iface T y, H)
    | _ => calmS P G o t H
  | .binOp op T x y _ => xBin P G o t H op T x y
  | .makeInterface T x => match P.underlying T with
    | some (.interface _) => none
    | some _ => some (.iface T (ev G t x), H)
    | none => none
  | .makeFunc fn m l => some (.func fn (m.toList.map (ev G t)) (l.toList.map (ev G t)), H)
  | .makeMap T none => match imapOf P T with
    | some _ => some (.map H.next, H.more (.imap []))
    | none => some (.map H.next, H.more (.map []))
  | .mapUpdate T m x y => xUpdate P G t H T m x y
  | .lookup T x y ok => match ev G t x with
    | .map b => xLook P G t H T b y ok
    | _ => calmS P G o t H
  | .makeSlice T x y => xMake P G t H T x y
  | .slice T x lo hi none => xSlice P G o t H T x lo hi
  | .slice T x lo hi (some _) => calmS P G o t H
  | .fieldAddr S x i => match ev G t x, fieldOff P S i with
    | .ptr b off, some d => some (.ptr b (off + d), H)
    | _, _ => none
  | .field T x i => match ev G t x with
    | .agg l => match fieldAtS P T i with
      | some (T', d) => match partS P T' l d with
        | some s => some (s, H)
        | none => none
      | none => none
    | _ => calmS P G o t H
  | .indexAddr T x y => xIndexAddr P G t H T x y
  | .index T x y => xIndex P G o t H T x y
  | .extract x i => match ev G t x with
    | .tuple l => match l[i]? with
      | some s => some (s, H)
      | none => none
    | _ => calmS P G o t H
  | .convert src dst x => xConvert P G o t H src dst x
  | .range T x => match ev G t x, P.underlying T with
    | .v (.string u), some .string => some (.ptr H.next 0, H.more (.siter u 0))
    | _, _ => none
  | .next x true => xNext G t H x
  | .typeAssert .. => calmS P G o t H
  | .call c => xCall P G cl o t H c
  | .unOp op _ x => match op with
    | .not => match ev G t x with
      | .v (.bool b) => some (.v (.bool !b), H)
      | _ => calmS P G o t H
    | _ => calmS P G o t H
  | _ => none
/-- an operation, prepared: what hangs on the text alone is reckoned once -/
noncomputable def prep (cl : FuncId → List SVal → Hp → Out) (o : Oper) : Act1 :=
  match o.op with
  | .move x => ⟨fun t H => some (ev G t x, H)⟩
  | .assign x => ⟨fun t H => some (ev G t x, H)⟩
  | .pick c x y => ⟨fun t H => match ev G t c with
      | .v (.bool true) => some (ev G t x, H)
      | .v (.bool false) => some (ev G t y, H)
      | _ => none⟩
  | .alloc T => ⟨fun t H => match zeroOf P T with
      | some l => some (.ptr H.next 0, H.more (.cells (l.map .v) T none))
      | none => none⟩
  | .box T x => ⟨fun t H => some (.ptr H.next 0, H.more (.cells (ev G t x).cells T none))⟩
  | .build T ps => ⟨fun t H => match planOf P T with
      | some (z, pl) => match fillS pl (z.map .v) (partsS G t ps.toList) with
        | some l => some (.agg l, H)
        | none => none
      | none => none⟩
  | .buildSlice T len ps => ⟨fun t H => match rowOf P T with
      | some (e, n, z) => match Nat.ble (len * n) 16777216, Nat.ble 1 (len * n) with
        | true, true => match fillS (fun i => some (i * n, n)) ((zerosOf z (len * n)).map .v) (partsS G t ps.toList) with
          | some l => some (.slice H.next 0 len (.known len), H.more (.cells l e none))
          | none => none
        | _, _ => match len, ps with
          | 0, ⟨[]⟩ => some (.slice H.next 0 0 (.known 0), H.more (.cells [] e none))
          | _, _ => none
      | none => none⟩
  | .load T x => ⟨fun t H => match ev G t x with
      | .ptr b off => match ldS P H T b off with
        | some s => some (s, H)
        | none => none
      | _ => none⟩
  | .store T x y => ⟨fun t H => xStore P G t H T x y⟩
  | .nilCheck x => ⟨fun t H => match ev G t x with
      | .ptr b off => some (.ptr b off, H)
      | .func (.func f) m l => some (.func (.func f) m l, H)
      | .iface T y => some (.iface T y, H)
      | _ => calmS P G o t H⟩
  | .binOp op T x y _ => ⟨fun t H => xBin P G o t H op T x y⟩
  | .makeInterface T x => ⟨fun t H => match P.underlying T with
      | some (.interface _) => none
      | some _ => some (.iface T (ev G t x), H)
      | none => none⟩
  | .makeFunc fn m l => ⟨fun t H => some (.func fn (m.toList.map (ev G t)) (l.toList.map (ev G t)), H)⟩
  | .makeMap T none => ⟨fun t H => match imapOf P T with
      | some _ => some (.map H.next, H.more (.imap []))
      | none => some (.map H.next, H.more (.map []))⟩
  | .mapUpdate T m x y => ⟨fun t H => xUpdate P G t H T m x y⟩
  | .lookup T x y ok => ⟨fun t H => match ev G t x with
      | .map b => xLook P G t H T b y ok
      | _ => calmS P G o t H⟩
  | .makeSlice T x y => ⟨fun t H => xMake P G t H T x y⟩
  | .slice T x lo hi none => ⟨fun t H => xSlice P G o t H T x lo hi⟩
  | .slice T x lo hi (some _) => ⟨fun t H => calmS P G o t H⟩
  | .fieldAddr S x i => ⟨fun t H => match ev G t x, fieldOff P S i with
      | .ptr b off, some d => some (.ptr b (off + d), H)
      | _, _ => none⟩
  | .field T x i => ⟨fun t H => match ev G t x with
      | .agg l => match fieldAtS P T i with
        | some (T', d) => match partS P T' l d with
          | some s => some (s, H)
          | none => none
        | none => none
      | _ => calmS P G o t H⟩
  | .indexAddr T x y => ⟨fun t H => xIndexAddr P G t H T x y⟩
  | .index T x y => ⟨fun t H => xIndex P G o t H T x y⟩
  | .extract x i => ⟨fun t H => match ev G t x with
      | .tuple l => match l[i]? with
        | some s => some (s, H)
        | none => none
      | _ => calmS P G o t H⟩
  | .convert src dst x => ⟨fun t H => xConvert P G o t H src dst x⟩
  | .range T x => ⟨fun t H => match ev G t x, P.underlying T with
      | .v (.string u), some .string => some (.ptr H.next 0, H.more (.siter u 0))
      | _, _ => none⟩
  | .next x true => ⟨fun t H => xNext G t H x⟩
  | .typeAssert .. => ⟨fun t H => calmS P G o t H⟩
  | .call c => prepC P G cl o c
  | .unOp op _ x => ⟨fun t H => match op with
      | .not => match ev G t x with
        | .v (.bool b) => some (.v (.bool !b), H)
        | _ => calmS P G o t H
      | _ => calmS P G o t H⟩
  | _ => ⟨fun t H => none⟩
theorem prep_run (cl : FuncId → List SVal → Hp → Out) (o : Oper) (t : Sl) (H : Hp) : (prep P G cl o).run t H = xop P G cl o t H := by
  unfold prep xop
  split <;> first | rfl | exact prepC_run P G cl o t H _
end
end Go.Proofs.YtjflmmipjeangaaGreatDoor.Sx
end
/-
  The executor, one operation: its soundness.
-/
section
set_option linter.unusedVariables false
set_option linter.unusedSimpArgs false
namespace Go.Proofs.YtjflmmipjeangaaGreatDoor.Sx
open Go.RowKit

/-- what a function that carries out calls must meet -/
def ClOk (P : Program) (G : Gl) (cl : FuncId → List SVal → Hp → Out) : Prop :=
  ∀ f args H s H', cl f args H = some (s, H') → ∀ ρ W vs, H.Tidy → GlobsH G ρ H → Held ρ H W → VRs ρ args vs → Calls P f vs.toArray W fun e W' => ∃ v, e = .returned v ∧ Good ρ H W s H' v W'
section
variable {P : Program} {G : Gl} {cl : FuncId → List SVal → Hp → Out} {ρ : Pl} {H H' : Hp} {W : World} {t : Sl} {a : Act} {o : Oper} {s : SVal}
theorem opnd {x : Operand} (hx : Opnds G ρ t a o) (hm : x ∈ o.op.operands.toList) : VR ρ (ev G t x) (a.eval x) := hx x (by simpa using hm)
theorem xSlice_run {T : TypeId} {x : Operand} {lo hi : Option Operand} (ho : o.op = .slice T x lo hi none) (h : Held ρ H W) (hx : Opnds G ρ t a o) (hr : xSlice P G o t H T x lo hi = some (s, H')) : Does P ρ H W s H' a o := by
  have h0 : VR ρ (ev G t x) (a.eval x) := opnd hx (by rw [ho]; simp [Op.operands])
  have hlo : ∀ y, lo = some y → VR ρ (ev G t y) (a.eval y) := fun y e => opnd hx (by rw [ho, e]; simp [Op.operands])
  have hhi : ∀ y, hi = some y → VR ρ (ev G t y) (a.eval y) := fun y e => opnd hx (by rw [ho, e]; simp [Op.operands])
  unfold xSlice at hr
  split at hr
  · next b off len c he =>
    split at hr <;> try (cases hr; done)
    next z l m hz hl hm =>
    split at hr <;> try (cases hr; done)
    next h1 h2 =>
    simp only [Option.some.injEq, Prod.mk.injEq] at hr
    obtain ⟨rfl, rfl⟩ := hr
    rw [he] at h0
    exact d_slice ho h h0 hz (boundOf_read hlo hl) (boundOf_read hhi hm) (Nat.le_of_ble_eq_true h1) (Nat.le_of_ble_eq_true h2)
  · next b off he =>
    split at hr <;> try (cases hr; done)
    next n z hz =>
    split at hr <;> try (cases hr; done)
    next l m hl hm =>
    split at hr <;> try (cases hr; done)
    next h1 h2 =>
    simp only [Option.some.injEq, Prod.mk.injEq] at hr
    obtain ⟨rfl, rfl⟩ := hr
    rw [he] at h0
    exact d_slicep ho h h0 hz (boundOf_read hlo hl) (boundOf_read hhi hm) (Nat.le_of_ble_eq_true h1) (Nat.le_of_ble_eq_true h2)
  · exact calmS_run (by intro cs b e; rw [ho] at e; cases e) h hx hr
theorem xIndexAddr_run {T : TypeId} {x y : Operand} (ho : o.op = .indexAddr T x y) (h : Held ρ H W) (hx : Opnds G ρ t a o) (hr : xIndexAddr P G t H T x y = some (s, H')) : Does P ρ H W s H' a o := by
  have h0 : VR ρ (ev G t x) (a.eval x) := opnd hx (by rw [ho]; simp [Op.operands])
  have h1 : VR ρ (ev G t y) (a.eval y) := opnd hx (by rw [ho]; simp [Op.operands])
  unfold xIndexAddr at hr
  split at hr
  · next b off len c n he hn =>
    split at hr <;> try (cases hr; done)
    next z hz hlt =>
    simp only [Option.some.injEq, Prod.mk.injEq] at hr
    obtain ⟨rfl, rfl⟩ := hr
    obtain ⟨k, hk⟩ := natOf_spec hn
    rw [he] at h0
    rw [hk] at h1
    exact d_index ho h h0 h1 hz (Nat.blt_eq.mp hlt)
  · next b off n he hn =>
    split at hr <;> try (cases hr; done)
    next len z hz =>
    split at hr <;> try (cases hr; done)
    next hlt =>
    simp only [Option.some.injEq, Prod.mk.injEq] at hr
    obtain ⟨rfl, rfl⟩ := hr
    obtain ⟨k, hk⟩ := natOf_spec hn
    rw [he] at h0
    rw [hk] at h1
    exact d_indexp ho h h0 h1 hz (Nat.blt_eq.mp hlt)
  · cases hr
theorem xIndex_run {T : TypeId} {x y : Operand} (ho : o.op = .index T x y) (h : Held ρ H W) (hx : Opnds G ρ t a o) (hr : xIndex P G o t H T x y = some (s, H')) : Does P ρ H W s H' a o := by
  have h0 : VR ρ (ev G t x) (a.eval x) := opnd hx (by rw [ho]; simp [Op.operands])
  have h1 : VR ρ (ev G t y) (a.eval y) := opnd hx (by rw [ho]; simp [Op.operands])
  unfold xIndex at hr
  split at hr
  · next l he =>
    split at hr <;> try (cases hr; done)
    next len e z n hz hn =>
    split at hr <;> try (cases hr; done)
    next s' hlt hp =>
    simp only [Option.some.injEq, Prod.mk.injEq] at hr
    obtain ⟨rfl, rfl⟩ := hr
    obtain ⟨k, hk⟩ := natOf_spec hn
    rw [he] at h0
    rw [hk] at h1
    unfold arrElem at hz
    split at hz <;> try (cases hz; done)
    next n' e' hu =>
    split at hz <;> try (cases hz; done)
    next ti hi =>
    simp only [Option.some.injEq, Prod.mk.injEq] at hz
    obtain ⟨rfl, rfl, rfl⟩ := hz
    exact d_indexv ho h h0 h1 hu (by rw [hi]; rfl) (Nat.blt_eq.mp hlt) hp
  · exact calmS_run (by intro cs b e; rw [ho] at e; cases e) h hx hr
theorem xStore_run {T : TypeId} {x y : Operand} (ho : o.op = .store T x y) (h : Held ρ H W) (hx : Opnds G ρ t a o) (hr : xStore P G t H T x y = some (s, H')) : Does P ρ H W s H' a o := by
  have h0 : VR ρ (ev G t x) (a.eval x) := opnd hx (by rw [ho]; simp [Op.operands])
  have h1 : VR ρ (ev G t y) (a.eval y) := opnd hx (by rw [ho]; simp [Op.operands])
  unfold xStore at hr
  split at hr <;> try (cases hr; done)
  next b off i he hi =>
  split at hr <;> try (cases hr; done)
  next H'' hz ho1 hp =>
  simp only [Option.some.injEq, Prod.mk.injEq] at hr
  obtain ⟨rfl, rfl⟩ := hr
  rw [he] at h0
  exact d_store ho h h0 h1 (by rw [hi]; simp only [Option.map_some]; rw [Nat.eq_of_beq_eq_true hz]) ho1 hp
theorem xBin_run {op : BinOp} {T ty : TypeId} {x y : Operand} (ho : o.op = .binOp op T x y ty) (h : Held ρ H W) (hx : Opnds G ρ t a o) (hr : xBin P G o t H op T x y = some (s, H')) : Does P ρ H W s H' a o := by
  have h0 : VR ρ (ev G t x) (a.eval x) := opnd hx (by rw [ho]; simp [Op.operands])
  have h1 : VR ρ (ev G t y) (a.eval y) := opnd hx (by rw [ho]; simp [Op.operands])
  unfold xBin at hr
  split at hr
  · next b off he =>
    rw [he] at h0
    split at hr <;> try (cases hr; done)
    next e hy hu =>
    rw [hy] at h1
    split at hr <;> first | (cases hr; done) | skip
    all_goals
      simp only [Option.some.injEq, Prod.mk.injEq] at hr
      obtain ⟨rfl, rfl⟩ := hr
      exact d_nil_ptr ho (by simp) h hu h0 h1
  · next b off len c he =>
    rw [he] at h0
    split at hr <;> try (cases hr; done)
    next m d e hy hu =>
    rw [hy] at h1
    split at hr <;> first | (cases hr; done) | skip
    all_goals
      simp only [Option.some.injEq, Prod.mk.injEq] at hr
      obtain ⟨rfl, rfl⟩ := hr
      exact d_nil_slice ho (by simp) h hu h0 h1
  · next m he =>
    rw [he] at h0
    split at hr
    · next n hy =>
      rw [hy] at h1
      split at hr
      · next v hv =>
        simp only [Option.some.injEq, Prod.mk.injEq] at hr
        obtain ⟨rfl, rfl⟩ := hr
        exact d_int ho h h0 h1 hv
      · exact calmS_run (by intro cs b e; rw [ho] at e; cases e) h hx hr
    · exact calmS_run (by intro cs b e; rw [ho] at e; cases e) h hx hr
  · exact calmS_run (by intro cs b e; rw [ho] at e; cases e) h hx hr
theorem xConvert_run {src dst : TypeId} {x : Operand} (ho : o.op = .convert src dst x) (h : Held ρ H W) (hx : Opnds G ρ t a o) (hr : xConvert P G o t H src dst x = some (s, H')) : Does P ρ H W s H' a o := by
  have h0 : VR ρ (ev G t x) (a.eval x) := opnd hx (by rw [ho]; simp [Op.operands])
  unfold xConvert at hr
  split at hr
  · next u e he hs hd =>
    split at hr <;> try (cases hr; done)
    next hu8 =>
    simp only [Option.some.injEq, Prod.mk.injEq] at hr
    obtain ⟨rfl, rfl⟩ := hr
    rw [he] at h0
    exact d_bytes ho h h0 hs hd hu8
  · next b off len c e he hs hd =>
    split at hr <;> try (cases hr; done)
    next l hu8 hc =>
    split at hr <;> try (cases hr; done)
    next ns hns =>
    simp only [Option.some.injEq, Prod.mk.injEq] at hr
    obtain ⟨rfl, rfl⟩ := hr
    rw [he] at h0
    exact d_string ho h h0 hs hu8 hd hc hns
  · exact calmS_run (by intro cs b e; rw [ho] at e; cases e) h hx hr
theorem xNext_run {x : Operand} (ho : o.op = .next x true) (h : Held ρ H W) (hx : Opnds G ρ t a o) (hr : xNext G t H x = some (s, H')) : Does P ρ H W s H' a o := by
  have h0 : VR ρ (ev G t x) (a.eval x) := opnd hx (by rw [ho]; simp [Op.operands])
  unfold xNext at hr
  split at hr <;> try (cases hr; done)
  next b he =>
  rw [he] at h0
  split at hr <;> try (cases hr; done)
  next u pos hb =>
  split at hr
  · next hp =>
    split at hr <;> try (cases hr; done)
    next hl =>
    simp only [Option.some.injEq, Prod.mk.injEq] at hr
    obtain ⟨rfl, rfl⟩ := hr
    exact d_next ho h h0 hb (Nat.le_of_ble_eq_true hl) (Nat.blt_eq.mp hp)
  · next hp =>
    simp only [Option.some.injEq, Prod.mk.injEq] at hr
    obtain ⟨rfl, rfl⟩ := hr
    exact d_over ho h h0 hb (fun hlt => by rw [Nat.blt_eq.mpr hlt] at hp; cases hp)
theorem xGrow_run {T tx e z : TypeId} {x y : Operand} {i : TypeInfo} {zv : Value} {n : Nat} {l : List SVal} (ho : o.op = .call { callee := .builtin .append, args := #[x, y], argTypes := #[T, tx] }) (h : Held ρ H W) (h0 : VR ρ (ev G t x) (a.eval x))
    (hu : P.underlying T = some (.slice e)) (hi : P.info? e = some i) (hzi : i.size = z) (hz : i.zero = some zv) (hzn : zv.cells.size = z) (hsr : ∃ news, VRs ρ l news ∧ Src P z tx (a.eval y) n news W) (hn : n ≠ 0) (hr : xGrow G t H e z i x n l = some (s, H')) : Does P ρ H W s H' a o := by
  subst hzi
  unfold xGrow at hr
  split at hr
  · next hxe =>
    rw [hxe] at h0
    split at hr <;> try (cases hr; done)
    next hA hB =>
    simp only [Option.some.injEq, Prod.mk.injEq] at hr
    obtain ⟨rfl, rfl⟩ := hr
    exact d_app_nil ho h hu hi hz hzn h0 hsr hn (Nat.le_of_ble_eq_true hA) (Nat.le_of_ble_eq_true hB)
  · next b off len c hxe =>
    rw [hxe] at h0
    split at hr <;> try (cases hr; done)
    next hA hB =>
    split at hr
    · next cap =>
      split at hr
      · next hroom =>
        split at hr <;> try (cases hr; done)
        next H'' hp =>
        simp only [Option.some.injEq, Prod.mk.injEq] at hr
        obtain ⟨rfl, rfl⟩ := hr
        exact d_app_room ho h hu hi h0 hsr hn (fun r k hb => by simp only [Cap.real]; exact Nat.le_of_ble_eq_true hroom) hp
      · next hroom =>
        split at hr <;> try (cases hr; done)
        next lo hlo =>
        simp only [Option.some.injEq, Prod.mk.injEq] at hr
        obtain ⟨rfl, rfl⟩ := hr
        exact d_app_known ho h hu hi hz hzn h0 hsr hn hlo (Nat.lt_of_not_le fun hle => by rw [Nat.ble_eq_true_of_le hle] at hroom; cases hroom) (Nat.le_of_ble_eq_true hA) (Nat.le_of_ble_eq_true hB)
    · split at hr <;> try (cases hr; done)
      next C E g hb =>
      split at hr <;> try (cases hr; done)
      next hE hg hC hl =>
      have hE' := Nat.eq_of_beq_eq_true hE
      have hg' := Nat.eq_of_beq_eq_true hg
      subst hE'
      subst hg'
      split at hr
      · next hin hz1 =>
        split at hr <;> try (cases hr; done)
        next H'' hp =>
        simp only [Option.some.injEq, Prod.mk.injEq] at hr
        obtain ⟨rfl, rfl⟩ := hr
        refine d_app_room ho h hu hi h0 hsr hn (fun r k hbk => ?_) hp
        simp only [Cap.real, Nat.sub_zero]
        have := h.obj _ r k hbk
        rw [hb] at this
        obtain ⟨D, e2, e3, e4, e5⟩ := this
        have e5' : D.size = k * i.size := e5
        have hin' := Nat.le_of_ble_eq_true hin
        have hz1' := Nat.le_of_ble_eq_true hz1
        have : (len + n) * i.size ≤ k * i.size := by omega
        exact Nat.le_of_mul_le_mul_right this hz1'
      · simp only [Option.some.injEq, Prod.mk.injEq] at hr
        obtain ⟨rfl, rfl⟩ := hr
        exact d_app_upto ho h hu hi hz hzn h0 hsr hn hb (Nat.le_of_ble_eq_true hC) (Nat.le_of_ble_eq_true hl) (Nat.le_of_ble_eq_true hA) (Nat.le_of_ble_eq_true hB)
    · cases hr
  · cases hr
theorem xAppend_run {T tx : TypeId} {x y : Operand} (ho : o.op = .call { callee := .builtin .append, args := #[x, y], argTypes := #[T, tx] }) (h : Held ρ H W) (hx : Opnds G ρ t a o) (hr : xAppend P G t H T tx x y = some (s, H')) : Does P ρ H W s H' a o := by
  have h0 : VR ρ (ev G t x) (a.eval x) := opnd hx (by rw [ho]; simp [Op.operands, Call.operands])
  have h1 : VR ρ (ev G t y) (a.eval y) := opnd hx (by rw [ho]; simp [Op.operands, Call.operands])
  unfold xAppend at hr
  split at hr
  · next e z zv d hrow hut =>
    obtain ⟨i, hu, hi, rfl, hz⟩ := rowOf_spec hrow
    split at hr <;> try (cases hr; done)
    next i' hi' hzn =>
    rw [hi] at hi'
    simp only [Option.some.injEq] at hi'
    subst hi'
    have hzn' := Nat.eq_of_beq_eq_true hzn
    split at hr
    · next m he =>
      rw [he] at h1
      have hy : ∃ ad m, a.eval y = .slice ad 0 m := by generalize a.eval y = v at h1; cases h1; exact ⟨none, m, rfl⟩
      split at hr <;> try (cases hr; done)
      all_goals
        next hxe =>
        simp only [Option.some.injEq, Prod.mk.injEq] at hr
        obtain ⟨rfl, rfl⟩ := hr
        rw [hxe] at h0
        exact d_app_none (n := 0) ho h hu hi ⟨_, hut⟩ h0 (by simp) hy
    · split at hr <;> try (cases hr; done)
      next n l hs =>
      split at hr
      · next hn0 =>
        have hn0' := Nat.eq_of_beq_eq_true hn0
        subst hn0'
        have hy : ∃ ad m, a.eval y = .slice ad 0 m := by
          unfold srcOf at hs
          split at hs <;> try (cases hs; done)
          next b off len c he =>
          split at hs <;> try (cases hs; done)
          split at hs <;> try (cases hs; done)
          split at hs <;> try (cases hs; done)
          simp only [Option.some.injEq, Prod.mk.injEq] at hs
          obtain ⟨rfl, _⟩ := hs
          rw [he] at h1
          generalize a.eval y = v at h1
          cases h1
          exact ⟨_, _, rfl⟩
        split at hr <;> try (cases hr; done)
        all_goals
          next hxe =>
          simp only [Option.some.injEq, Prod.mk.injEq] at hr
          obtain ⟨rfl, rfl⟩ := hr
          rw [hxe] at h0
          exact d_app_none (n := 0) ho h hu hi ⟨_, hut⟩ h0 (by simp) hy
      · next hn0 =>
        have hn : n ≠ 0 := fun e => by subst e; cases hn0
        exact xGrow_run ho h h0 hu hi rfl hz hzn' (srcOf_run (P := P) h h1 hs hn) hn hr
  · next e z zv hrow hut =>
    obtain ⟨i, hu, hi, rfl, hz⟩ := rowOf_spec hrow
    split at hr <;> try (cases hr; done)
    next i' hi' hzn =>
    rw [hi] at hi'
    simp only [Option.some.injEq] at hi'
    subst hi'
    have hzn' := Nat.eq_of_beq_eq_true hzn
    split at hr <;> try (cases hr; done)
    next u he =>
    rw [he] at h1
    have hy : a.eval y = .string u := by generalize a.eval y = v at h1; cases h1; rfl
    split at hr
    · next hu0 hz1 =>
      have hz1' := Nat.eq_of_beq_eq_true hz1
      have hu0' := Nat.eq_of_beq_eq_true hu0
      split at hr <;> try (cases hr; done)
      all_goals
        next hxe =>
        simp only [Option.some.injEq, Prod.mk.injEq] at hr
        obtain ⟨rfl, rfl⟩ := hr
        rw [hxe] at h0
        exact d_app_str0 ho h hu hi hut hz1' h0 (by simp) hy hu0'
    · next hu0 hz1 =>
      have hz1' := Nat.eq_of_beq_eq_true hz1
      have hn : u.size ≠ 0 := fun e => by rw [e] at hu0; cases hu0
      exact xGrow_run ho h h0 hu hi rfl hz hzn' (str_src hut hz1' hy) hn hr
    · cases hr
  · cases hr
theorem xDelete_run {T tk : TypeId} {m x : Operand} (ho : o.op = .call { callee := .builtin .delete, args := #[m, x], argTypes := #[T, tk] }) (h : Held ρ H W) (hx : Opnds G ρ t a o) (hr : xDelete P G t H T m x = some (s, H')) : Does P ρ H W s H' a o := by
  have h0 : VR ρ (ev G t m) (a.eval m) := opnd hx (by rw [ho]; simp [Op.operands, Call.operands])
  have h1 : VR ρ (ev G t x) (a.eval x) := opnd hx (by rw [ho]; simp [Op.operands, Call.operands])
  unfold xDelete at hr
  split at hr <;> try (cases hr; done)
  next b k e e1 e2 hT =>
  split at hr <;> try (cases hr; done)
  next l hb hl =>
  simp only [Option.some.injEq, Prod.mk.injEq] at hr
  obtain ⟨rfl, rfl⟩ := hr
  rw [e1] at h0
  rw [e2] at h1
  exact d_idelete ho h hT h0 h1 hb (Nat.le_of_ble_eq_true hl)
theorem xUpdate_run {T : TypeId} {m x y : Operand} (ho : o.op = .mapUpdate T m x y) (h : Held ρ H W) (hx : Opnds G ρ t a o) (hr : xUpdate P G t H T m x y = some (s, H')) : Does P ρ H W s H' a o := by
  have h0 : VR ρ (ev G t m) (a.eval m) := opnd hx (by rw [ho]; simp [Op.operands])
  have h1 : VR ρ (ev G t x) (a.eval x) := opnd hx (by rw [ho]; simp [Op.operands])
  have h2 : VR ρ (ev G t y) (a.eval y) := opnd hx (by rw [ho]; simp [Op.operands])
  unfold xUpdate at hr
  split at hr <;> try (cases hr; done)
  · next b k v e1 e2 e3 =>
    split at hr <;> try (cases hr; done)
    next e l hT hb hl =>
    simp only [Option.some.injEq, Prod.mk.injEq] at hr
    obtain ⟨rfl, rfl⟩ := hr
    rw [e1] at h0
    rw [e2] at h1
    rw [e3] at h2
    exact d_update ho h hT h0 h1 h2 hb (Nat.le_of_ble_eq_true hl)
  · next b k v e1 e2 e3 =>
    split at hr <;> try (cases hr; done)
    next e l hT hb hl =>
    simp only [Option.some.injEq, Prod.mk.injEq] at hr
    obtain ⟨rfl, rfl⟩ := hr
    rw [e1] at h0
    rw [e2] at h1
    rw [e3] at h2
    exact d_iupdate ho h hT h0 h1 h2 hb (Nat.le_of_ble_eq_true hl)
theorem xLook_run {T : TypeId} {x y : Operand} {ok : Bool} {b : Pos} (ho : o.op = .lookup T x y ok) (h : Held ρ H W) (hx : Opnds G ρ t a o) (h0 : VR ρ (.map b) (a.eval x)) (hr : xLook P G t H T b y ok = some (s, H')) : Does P ρ H W s H' a o := by
  have h1 : VR ρ (ev G t y) (a.eval y) := opnd hx (by rw [ho]; simp [Op.operands])
  unfold xLook at hr
  split at hr
  · next k e l e2 hT hb =>
    split at hr <;> try (cases hr; done)
    next v hl =>
    simp only [Option.some.injEq, Prod.mk.injEq] at hr
    obtain ⟨rfl, rfl⟩ := hr
    rw [e2] at h1
    exact d_lookup ho h hT h0 h1 hb hl
  · unfold xILook at hr
    split at hr <;> try (cases hr; done)
    next k e l e2 hT hb =>
    split at hr <;> try (cases hr; done)
    next v hl =>
    simp only [Option.some.injEq, Prod.mk.injEq] at hr
    obtain ⟨rfl, rfl⟩ := hr
    rw [e2] at h1
    exact d_ilookup ho h hT h0 h1 hb hl
theorem xMake_run {T : TypeId} {x y : Operand} (ho : o.op = .makeSlice T x y) (h : Held ρ H W) (hx : Opnds G ρ t a o) (hr : xMake P G t H T x y = some (s, H')) : Does P ρ H W s H' a o := by
  have h0 : VR ρ (ev G t x) (a.eval x) := opnd hx (by rw [ho]; simp [Op.operands])
  have h1 : VR ρ (ev G t y) (a.eval y) := opnd hx (by rw [ho]; simp [Op.operands])
  unfold xMake at hr
  split at hr <;> try (cases hr; done)
  next l c e n z hl hc hrow =>
  split at hr <;> try (cases hr; done)
  next i hi =>
  split at hr <;> try (cases hr; done)
  next e1 e2 e3 =>
  obtain ⟨k1, hk1⟩ := natOf_spec hl
  obtain ⟨k2, hk2⟩ := natOf_spec hc
  rw [hk1] at h0
  rw [hk2] at h1
  split at hr
  · next v g1 g2 g3 =>
    simp only [Option.some.injEq, Prod.mk.injEq] at hr
    obtain ⟨rfl, rfl⟩ := hr
    have hn := Nat.eq_of_beq_eq_true g2
    subst hn
    exact d_makeBig ho h h0 h1 hrow hi (Nat.le_of_ble_eq_true e1) (Nat.le_of_ble_eq_true e2) (Nat.le_of_ble_eq_true e3) g3
  · simp only [Option.some.injEq, Prod.mk.injEq] at hr
    obtain ⟨rfl, rfl⟩ := hr
    exact d_makeSlice ho h h0 h1 hrow hi (Nat.le_of_ble_eq_true e1) (Nat.le_of_ble_eq_true e2) (Nat.le_of_ble_eq_true e3)
theorem xCall_run (hcl : ClOk P G cl) (ht : H.Tidy) (hg : GlobsH G ρ H) {c : Call} (ho : o.op = .call c) (h : Held ρ H W) (hx : Opnds G ρ t a o) (hr : xCall P G cl o t H c = some (s, H')) : Does P ρ H W s H' a o := by
  unfold xCall at hr
  simp only [mapR_eq, appR_eq] at hr
  split at hr
  · next x xs ts =>
    have h0 : VR ρ (ev G t x) (a.eval x) := opnd hx (by rw [ho]; simp [Op.operands, Call.operands])
    split at hr
    · next f =>
      split at hr
      · next hf => exact d_call ho hx rfl hf fun vs hvs => hcl f _ H s H' hr ρ W vs ht hg h hvs
      · exact calmS_run (by intro cs b e; rw [ho] at e; cases e) h hx hr
    · split at hr
      · next f m l he =>
        rw [he] at h0
        split at hr <;> try (cases hr; done)
        next hf =>
        exact d_callv ho hx h0 hf fun vs hvs => hcl f _ H s H' hr ρ W vs ht hg h hvs
      · next f he =>
        rw [he] at h0
        split at hr <;> try (cases hr; done)
        next hf =>
        refine d_call ho hx ?_ hf fun vs hvs => hcl f _ H s H' hr ρ W vs ht hg h hvs
        generalize a.eval x = v at h0
        cases h0
        rfl
      · cases hr
  · next x name xs ts =>
    have h0 : VR ρ (ev G t x) (a.eval x) := opnd hx (by rw [ho]; simp [Op.operands, Call.operands])
    split at hr <;> try (cases hr; done)
    · next T b off he =>
      rw [he] at h0
      split at hr <;> try (cases hr; done)
      next f hm =>
      split at hr <;> try (cases hr; done)
      next hf =>
      exact d_invokep ho hx h0 hm hf fun vs hvs => hcl f _ H s H' hr ρ W vs ht hg h hvs
    · next T y he =>
      rw [he] at h0
      split at hr <;> try (cases hr; done)
      next u hy =>
      split at hr <;> try (cases hr; done)
      next f v hm =>
      split at hr <;> try (cases hr; done)
      next hf =>
      exact d_invoke ho hx h0 hy hm hf fun vs hvs => hcl f _ H s H' hr ρ W vs ht hg h hvs
  · next x T =>
    have h0 : VR ρ (ev G t x) (a.eval x) := opnd hx (by rw [ho]; simp [Op.operands, Call.operands])
    split at hr
    · next b off len c he =>
      rw [he] at h0
      split at hr <;> try (cases hr; done)
      next e hu =>
      simp only [Option.some.injEq, Prod.mk.injEq] at hr
      obtain ⟨rfl, rfl⟩ := hr
      exact d_len ho h hu h0
    · exact calmS_run (by intro cs b e; rw [ho] at e; cases e) h hx hr
  · next x y T tx => exact xAppend_run ho h hx hr
  · next x y T tx => exact xDelete_run ho h hx hr
  · next x y ts =>
    have h0 : VR ρ (ev G t x) (a.eval x) := opnd hx (by rw [ho]; simp [Op.operands, Call.operands])
    have h1 : VR ρ (ev G t y) (a.eval y) := opnd hx (by rw [ho]; simp [Op.operands, Call.operands])
    split at hr
    · next m he =>
      rw [he] at h0
      split at hr
      · next n hy =>
        rw [hy] at h1
        simp only [Option.some.injEq, Prod.mk.injEq] at hr
        obtain ⟨rfl, rfl⟩ := hr
        exact d_min ho h h0 h1
      · exact calmS_run (by intro cs b e; rw [ho] at e; cases e) h hx hr
    · exact calmS_run (by intro cs b e; rw [ho] at e; cases e) h hx hr
  · next x y ts =>
    have h0 : VR ρ (ev G t x) (a.eval x) := opnd hx (by rw [ho]; simp [Op.operands, Call.operands])
    have h1 : VR ρ (ev G t y) (a.eval y) := opnd hx (by rw [ho]; simp [Op.operands, Call.operands])
    split at hr
    · next m he =>
      rw [he] at h0
      split at hr
      · next n hy =>
        rw [hy] at h1
        simp only [Option.some.injEq, Prod.mk.injEq] at hr
        obtain ⟨rfl, rfl⟩ := hr
        exact d_max ho h h0 h1
      · exact calmS_run (by intro cs b e; rw [ho] at e; cases e) h hx hr
    · exact calmS_run (by intro cs b e; rw [ho] at e; cases e) h hx hr
  · exact calmS_run (by intro cs b e; rw [ho] at e; cases e) h hx hr
theorem xop_run (hcl : ClOk P G cl) (ht : H.Tidy) (hg : GlobsH G ρ H) (h : Held ρ H W) (hx : Opnds G ρ t a o) (hr : xop P G cl o t H = some (s, H')) : Does P ρ H W s H' a o := by
  have calm : calmS P G o t H = some (s, H') → (∀ cs b, o.op ≠ .select cs b) → Does P ρ H W s H' a o := fun hc hs => calmS_run hs h hx hc
  unfold xop at hr
  split at hr
  · next x ho =>
    simp only [Option.some.injEq, Prod.mk.injEq] at hr
    obtain ⟨rfl, rfl⟩ := hr
    exact d_move (.inl ho) h (opnd hx (by rw [ho]; simp [Op.operands]))
  · next x ho =>
    simp only [Option.some.injEq, Prod.mk.injEq] at hr
    obtain ⟨rfl, rfl⟩ := hr
    exact d_move (.inr ho) h (opnd hx (by rw [ho]; simp [Op.operands]))
  · next c x y ho =>
    have h0 : VR ρ (ev G t c) (a.eval c) := opnd hx (by rw [ho]; simp [Op.operands])
    have h1 : VR ρ (ev G t x) (a.eval x) := opnd hx (by rw [ho]; simp [Op.operands])
    have h2 : VR ρ (ev G t y) (a.eval y) := opnd hx (by rw [ho]; simp [Op.operands])
    split at hr <;> try (cases hr; done)
    all_goals
      next he =>
      simp only [Option.some.injEq, Prod.mk.injEq] at hr
      obtain ⟨rfl, rfl⟩ := hr
      rw [he] at h0
      first | exact d_pick (b := true) ho h h0 h1 | exact d_pick (b := false) ho h h0 h2
  · next T ho =>
    split at hr <;> try (cases hr; done)
    next l hz =>
    simp only [Option.some.injEq, Prod.mk.injEq] at hr
    obtain ⟨rfl, rfl⟩ := hr
    exact d_alloc ho h hz
  · next T x ho =>
    simp only [Option.some.injEq, Prod.mk.injEq] at hr
    obtain ⟨rfl, rfl⟩ := hr
    exact d_box ho h (opnd hx (by rw [ho]; simp [Op.operands]))
  · next T ps ho =>
    split at hr <;> try (cases hr; done)
    next z pl hp =>
    split at hr <;> try (cases hr; done)
    next l hf =>
    simp only [Option.some.injEq, Prod.mk.injEq] at hr
    obtain ⟨rfl, rfl⟩ := hr
    exact d_build ho h hx hp hf
  · next T len ps ho =>
    split at hr <;> try (cases hr; done)
    next e n z hrow =>
    split at hr
    · next h1 h2 =>
      split at hr <;> try (cases hr; done)
      next l hf =>
      simp only [Option.some.injEq, Prod.mk.injEq] at hr
      obtain ⟨rfl, rfl⟩ := hr
      exact d_buildSlice ho h hx hrow h1 h2 hf
    · split at hr <;> try (cases hr; done)
      simp only [Option.some.injEq, Prod.mk.injEq] at hr
      obtain ⟨rfl, rfl⟩ := hr
      exact d_buildNone ho h hrow
  · next T x ho =>
    have h0 : VR ρ (ev G t x) (a.eval x) := opnd hx (by rw [ho]; simp [Op.operands])
    split at hr <;> try (cases hr; done)
    next b off he =>
    split at hr <;> try (cases hr; done)
    next s' hs =>
    simp only [Option.some.injEq, Prod.mk.injEq] at hr
    obtain ⟨rfl, rfl⟩ := hr
    rw [he] at h0
    exact d_load ho h h0 hs
  · next T x y ho => exact xStore_run ho h hx hr
  · next x ho =>
    have h0 : VR ρ (ev G t x) (a.eval x) := opnd hx (by rw [ho]; simp [Op.operands])
    split at hr
    · next b off he =>
      simp only [Option.some.injEq, Prod.mk.injEq] at hr
      obtain ⟨rfl, rfl⟩ := hr
      rw [he] at h0
      exact d_nilCheck_ptr ho h h0
    · next f m l he =>
      simp only [Option.some.injEq, Prod.mk.injEq] at hr
      obtain ⟨rfl, rfl⟩ := hr
      rw [he] at h0
      exact d_nilCheck_func ho h h0
    · next T y he =>
      simp only [Option.some.injEq, Prod.mk.injEq] at hr
      obtain ⟨rfl, rfl⟩ := hr
      rw [he] at h0
      exact d_nilCheck_iface ho h h0
    · exact calm hr (by intro cs b e; rw [ho] at e; cases e)
  · next op T x y ty ho => exact xBin_run ho h hx hr
  · next T x ho =>
    split at hr <;> try (cases hr; done)
    next d hu hd =>
    simp only [Option.some.injEq, Prod.mk.injEq] at hr
    obtain ⟨rfl, rfl⟩ := hr
    refine d_iface ho h hd ?_ (opnd hx (by rw [ho]; simp [Op.operands]))
    cases d <;> first | rfl | exact absurd rfl (hu _)
  · next fn m l ho =>
    simp only [Option.some.injEq, Prod.mk.injEq] at hr
    obtain ⟨rfl, rfl⟩ := hr
    exact d_func ho h hx
  · next T ho =>
    split at hr
    all_goals
      simp only [Option.some.injEq, Prod.mk.injEq] at hr
      obtain ⟨rfl, rfl⟩ := hr
      first | exact d_makeMap ho h | exact d_makeImap ho h
  · next T m x y ho => exact xUpdate_run ho h hx hr
  · next T x y ok ho =>
    have h0 : VR ρ (ev G t x) (a.eval x) := opnd hx (by rw [ho]; simp [Op.operands])
    split at hr
    · next b e1 =>
      rw [e1] at h0
      exact xLook_run ho h hx h0 hr
    · exact calm hr (by intro cs b e; rw [ho] at e; cases e)
  · next T x y ho => exact xMake_run ho h hx hr
  · next T x lo hi ho => exact xSlice_run ho h hx hr
  · next ho => exact calm hr (fun cs b e => by rw [ho] at e; cases e)
  · next S x i ho =>
    have h0 : VR ρ (ev G t x) (a.eval x) := opnd hx (by rw [ho]; simp [Op.operands])
    split at hr <;> try (cases hr; done)
    next b off d he hf =>
    simp only [Option.some.injEq, Prod.mk.injEq] at hr
    obtain ⟨rfl, rfl⟩ := hr
    rw [he] at h0
    exact d_field ho h h0 hf
  · next T x i ho =>
    have h0 : VR ρ (ev G t x) (a.eval x) := opnd hx (by rw [ho]; simp [Op.operands])
    split at hr
    · next l he =>
      rw [he] at h0
      split at hr <;> try (cases hr; done)
      next T' d hf =>
      split at hr <;> try (cases hr; done)
      next s' hp =>
      simp only [Option.some.injEq, Prod.mk.injEq] at hr
      obtain ⟨rfl, rfl⟩ := hr
      exact d_fieldv ho h h0 hf hp
    · exact calm hr (by intro cs b e; rw [ho] at e; cases e)
  · next T x y ho => exact xIndexAddr_run ho h hx hr
  · next T x y ho => exact xIndex_run ho h hx hr
  · next x i ho =>
    have h0 : VR ρ (ev G t x) (a.eval x) := opnd hx (by rw [ho]; simp [Op.operands])
    split at hr
    · next l he =>
      rw [he] at h0
      split at hr <;> try (cases hr; done)
      next s' hi =>
      simp only [Option.some.injEq, Prod.mk.injEq] at hr
      obtain ⟨rfl, rfl⟩ := hr
      exact d_extract ho h h0 hi
    · exact calm hr (by intro cs b e; rw [ho] at e; cases e)
  · next src dst x ho => exact xConvert_run ho h hx hr
  · next T x ho =>
    have h0 : VR ρ (ev G t x) (a.eval x) := opnd hx (by rw [ho]; simp [Op.operands])
    split at hr <;> try (cases hr; done)
    next u he hu =>
    simp only [Option.some.injEq, Prod.mk.injEq] at hr
    obtain ⟨rfl, rfl⟩ := hr
    rw [he] at h0
    exact d_range ho h hu h0
  · next x ho => exact xNext_run ho h hx hr
  · next ho => exact calm hr (fun cs b e => by rw [ho] at e; cases e)
  · next c ho => exact xCall_run hcl ht hg ho h hx hr
  · next op T x ho =>
    have h0 : VR ρ (ev G t x) (a.eval x) := opnd hx (by rw [ho]; simp [Op.operands])
    split at hr
    · split at hr
      · next b he =>
        rw [he] at h0
        simp only [Option.some.injEq, Prod.mk.injEq] at hr
        obtain ⟨rfl, rfl⟩ := hr
        exact d_not ho h h0
      · exact calm hr (by intro cs b e; rw [ho] at e; cases e)
    · exact calm hr (by intro cs b e; rw [ho] at e; cases e)
  · cases hr
end
end Go.Proofs.YtjflmmipjeangaaGreatDoor.Sx
end
/-
  The executor, one operation: what it does to the own heap, without a world in sight.
-/
section
set_option linter.unusedVariables false
set_option linter.unusedSimpArgs false
namespace Go.Proofs.YtjflmmipjeangaaGreatDoor.Sx
open Go.RowKit

/-- how a heap may go on -/
structure Sub (H H' : Hp) : Prop where
  low : H'.low = H.low
  next : H.next.nat ≤ H'.next.nat
  old : ∀ b : Pos, b.nat < H.low → b.nat < H.next.nat → H'.at b = H.at b
  dead : ∀ b : Pos, b.nat < H.next.nat → (H.at b).still = true → H'.at b = H.at b
  tidy : H.Tidy → H'.Tidy
theorem Sub.refl (H : Hp) : Sub H H := ⟨rfl, Nat.le_refl _, fun _ _ _ => rfl, fun _ _ _ => rfl, fun h => h⟩
theorem Sub.trans {A B C : Hp} (h : Sub A B) (k : Sub B C) : Sub A C := by
  have hn := h.next
  refine ⟨k.low.trans h.low, Nat.le_trans hn k.next, fun b h1 h2 => (k.old b (by rw [h.low]; exact h1) (by omega)).trans (h.old b h1 h2), fun b h1 h2 => (k.dead b (by omega) (by rw [h.dead b h1 h2]; exact h2)).trans (h.dead b h1 h2), fun t => k.tidy (h.tidy t)⟩
theorem Sub.more (H : Hp) (o : SObj) : Sub H (H.more o) := by
  have hne : ∀ b : Pos, b.nat < H.next.nat → b ≠ H.next := fun b hb e => by subst e; omega
  refine ⟨rfl, by rw [Hp.more_next]; omega, fun b _ h => Hp.more_other _ _ (hne b h), fun b h e => Hp.more_other _ _ (hne b h), fun t b hb => ?_⟩
  rw [Hp.more_next] at hb
  rw [Hp.more_other _ _ (fun e => by subst e; omega)]
  exact t b (by omega)
theorem Sub.set {H : Hp} {b : Pos} {o o' : SObj} (hb : H.at b = o') (ho : o'.still = false) (hl : Nat.ble H.low b.nat = true) : Sub H (H.set b o) := by
  have hl' := Nat.le_of_ble_eq_true hl
  refine ⟨rfl, Nat.le_refl _, fun b' h _ => Hp.set_other _ _ (fun e => by subst e; omega), fun b' h e => ?_, fun t b' hb' => ?_⟩
  · by_cases hbb : b' = b
    · subst hbb; rw [hb, ho] at e; cases e
    · exact Hp.set_other _ _ hbb
  · have : b' ≠ b := fun e => by subst e; have := t b' hb'; rw [hb] at this; rw [this] at ho; cases ho
    rw [Hp.set_other _ _ this]
    exact t b' hb'
theorem putAt_sub {H H' : Hp} {b : Pos} {off : Nat} {l : List SVal} (h : putAt H b off l = some H') : Sub H H' := by
  obtain ⟨c, e, g, hb, _, h2, rfl⟩ := putAt_spec h
  exact Sub.set hb rfl h2
theorem putG_sub {H H' : Hp} {b : Pos} {off : Nat} {l : List SVal} (h : putG H b off l = some H') : Sub H H' := by
  rcases putG_cases h with h | h
  · exact putAt_sub h
  · obtain ⟨n, z, q, e, s, hb, _, _, h2, rfl⟩ := putBig_spec h
    exact Sub.set hb rfl h2
section
variable {P : Program} {G : Gl} {cl : FuncId → List SVal → Hp → Out} {H H' : Hp} {t : Sl} {o : Oper} {s : SVal}
theorem calmS_sub (h : calmS P G o t H = some (s, H')) : Sub H H' := by
  unfold calmS at h
  split at h <;> try (cases h; done)
  split at h <;> try (cases h; done)
  simp only [Option.some.injEq, Prod.mk.injEq] at h
  obtain ⟨_, rfl⟩ := h
  exact Sub.refl _
theorem xSlice_sub {T : TypeId} {x : Operand} {lo hi : Option Operand} (hr : xSlice P G o t H T x lo hi = some (s, H')) : Sub H H' := by
  unfold xSlice at hr
  repeat' split at hr
  all_goals first
    | (cases hr; done)
    | exact calmS_sub hr
    | (simp only [Option.some.injEq, Prod.mk.injEq] at hr; obtain ⟨_, rfl⟩ := hr; exact Sub.refl _)
theorem xIndexAddr_sub {T : TypeId} {x y : Operand} (hr : xIndexAddr P G t H T x y = some (s, H')) : Sub H H' := by
  unfold xIndexAddr at hr
  repeat' split at hr
  all_goals first
    | (cases hr; done)
    | (simp only [Option.some.injEq, Prod.mk.injEq] at hr; obtain ⟨_, rfl⟩ := hr; exact Sub.refl _)
theorem xIndex_sub {T : TypeId} {x y : Operand} (hr : xIndex P G o t H T x y = some (s, H')) : Sub H H' := by
  unfold xIndex at hr
  repeat' split at hr
  all_goals first
    | (cases hr; done)
    | exact calmS_sub hr
    | (simp only [Option.some.injEq, Prod.mk.injEq] at hr; obtain ⟨_, rfl⟩ := hr; exact Sub.refl _)
theorem xStore_sub {T : TypeId} {x y : Operand} (hr : xStore P G t H T x y = some (s, H')) : Sub H H' := by
  unfold xStore at hr
  split at hr <;> try (cases hr; done)
  split at hr <;> try (cases hr; done)
  next hp =>
  simp only [Option.some.injEq, Prod.mk.injEq] at hr
  obtain ⟨_, rfl⟩ := hr
  exact putG_sub hp
theorem xBin_sub {op : BinOp} {T : TypeId} {x y : Operand} (hr : xBin P G o t H op T x y = some (s, H')) : Sub H H' := by
  unfold xBin at hr
  repeat' split at hr
  all_goals first
    | (cases hr; done)
    | exact calmS_sub hr
    | (simp only [Option.some.injEq, Prod.mk.injEq] at hr; obtain ⟨_, rfl⟩ := hr; exact Sub.refl _)
theorem xConvert_sub {src dst : TypeId} {x : Operand} (hr : xConvert P G o t H src dst x = some (s, H')) : Sub H H' := by
  unfold xConvert at hr
  repeat' split at hr
  all_goals first
    | (cases hr; done)
    | exact calmS_sub hr
    | (simp only [Option.some.injEq, Prod.mk.injEq] at hr; obtain ⟨_, rfl⟩ := hr; first | exact Sub.refl _ | exact Sub.more _ _)
theorem xNext_sub {x : Operand} (hr : xNext G t H x = some (s, H')) : Sub H H' := by
  unfold xNext at hr
  split at hr <;> try (cases hr; done)
  split at hr <;> try (cases hr; done)
  next hb =>
  split at hr
  · split at hr <;> try (cases hr; done)
    next hl =>
    simp only [Option.some.injEq, Prod.mk.injEq] at hr
    obtain ⟨_, rfl⟩ := hr
    exact Sub.set hb rfl hl
  · simp only [Option.some.injEq, Prod.mk.injEq] at hr
    obtain ⟨_, rfl⟩ := hr
    exact Sub.refl _
theorem xGrow_sub {e z : TypeId} {i : TypeInfo} {x : Operand} {n : Nat} {l : List SVal} (hr : xGrow G t H e z i x n l = some (s, H')) : Sub H H' := by
  unfold xGrow at hr
  repeat' split at hr
  all_goals first
    | (cases hr; done)
    | (simp only [Option.some.injEq, Prod.mk.injEq] at hr; obtain ⟨_, rfl⟩ := hr
       first
         | exact Sub.refl _
         | exact Sub.more _ _
         | (exact putAt_sub (by assumption))
         | exact (Sub.set (by assumption) (by rfl) (by assumption)).trans (Sub.more _ _))
theorem xAppend_sub {T tx : TypeId} {x y : Operand} (hr : xAppend P G t H T tx x y = some (s, H')) : Sub H H' := by
  unfold xAppend at hr
  repeat' split at hr
  all_goals first
    | (cases hr; done)
    | exact xGrow_sub hr
    | (simp only [Option.some.injEq, Prod.mk.injEq] at hr; obtain ⟨_, rfl⟩ := hr; exact Sub.refl _)
theorem xDelete_sub {T : TypeId} {m x : Operand} (hr : xDelete P G t H T m x = some (s, H')) : Sub H H' := by
  unfold xDelete at hr
  repeat' split at hr
  all_goals first
    | (cases hr; done)
    | (simp only [Option.some.injEq, Prod.mk.injEq] at hr; obtain ⟨_, rfl⟩ := hr; exact Sub.set (by assumption) (by rfl) (by assumption))
theorem xUpdate_sub {T : TypeId} {m x y : Operand} (hr : xUpdate P G t H T m x y = some (s, H')) : Sub H H' := by
  unfold xUpdate at hr
  repeat' split at hr
  all_goals first
    | (cases hr; done)
    | (simp only [Option.some.injEq, Prod.mk.injEq] at hr; obtain ⟨_, rfl⟩ := hr; exact Sub.set (by assumption) (by rfl) (by assumption))
theorem xLook_same {T : TypeId} {b : Pos} {y : Operand} {ok : Bool} (hr : xLook P G t H T b y ok = some (s, H')) : H' = H := by
  unfold xLook xILook at hr
  repeat' split at hr
  all_goals first
    | (cases hr; done)
    | (simp only [Option.some.injEq, Prod.mk.injEq] at hr; exact hr.2.symm)
theorem xMake_sub {T : TypeId} {x y : Operand} (hr : xMake P G t H T x y = some (s, H')) : Sub H H' := by
  unfold xMake at hr
  repeat' split at hr
  all_goals first
    | (cases hr; done)
    | (simp only [Option.some.injEq, Prod.mk.injEq] at hr; obtain ⟨_, rfl⟩ := hr; exact Sub.more _ _)
theorem xCall_sub (hcl : ∀ f args H s H', cl f args H = some (s, H') → Sub H H') {c : Call} (hr : xCall P G cl o t H c = some (s, H')) : Sub H H' := by
  unfold xCall at hr
  repeat' split at hr
  all_goals first
    | (cases hr; done)
    | exact calmS_sub hr
    | exact hcl _ _ _ _ _ hr
    | exact xAppend_sub hr
    | exact xDelete_sub hr
    | (simp only [Option.some.injEq, Prod.mk.injEq] at hr; obtain ⟨_, rfl⟩ := hr; exact Sub.refl _)
theorem xop_sub (hcl : ∀ f args H s H', cl f args H = some (s, H') → Sub H H') (hr : xop P G cl o t H = some (s, H')) : Sub H H' := by
  unfold xop at hr
  split at hr
  all_goals first
    | exact xStore_sub hr
    | exact xBin_sub hr
    | exact xSlice_sub hr
    | exact xIndexAddr_sub hr
    | exact xIndex_sub hr
    | exact xConvert_sub hr
    | exact xNext_sub hr
    | exact xCall_sub hcl hr
    | exact xUpdate_sub hr
    | exact xMake_sub hr
    | skip
  all_goals
    repeat' split at hr
  all_goals first
    | (cases hr; done)
    | exact calmS_sub hr
    | (rw [xLook_same hr]; exact Sub.refl _)
    | (simp only [Option.some.injEq, Prod.mk.injEq] at hr; obtain ⟨_, rfl⟩ := hr
       first
         | exact Sub.refl _
         | exact Sub.more _ _
         | exact Sub.set (by assumption) (by rfl) (by assumption))
theorem calmS_same (h : calmS P G o t H = some (s, H')) : H' = H := by
  unfold calmS at h
  split at h <;> try (cases h; done)
  split at h <;> try (cases h; done)
  simp only [Option.some.injEq, Prod.mk.injEq] at h
  exact h.2.symm
theorem xSlice_same {T : TypeId} {x : Operand} {lo hi : Option Operand} (hr : xSlice P G o t H T x lo hi = some (s, H')) : H' = H := by
  unfold xSlice at hr
  repeat' split at hr
  all_goals first
    | (cases hr; done)
    | exact calmS_same hr
    | (simp only [Option.some.injEq, Prod.mk.injEq] at hr; exact hr.2.symm)
theorem xIndexAddr_same {T : TypeId} {x y : Operand} (hr : xIndexAddr P G t H T x y = some (s, H')) : H' = H := by
  unfold xIndexAddr at hr
  repeat' split at hr
  all_goals first
    | (cases hr; done)
    | (simp only [Option.some.injEq, Prod.mk.injEq] at hr; exact hr.2.symm)
theorem xIndex_same {T : TypeId} {x y : Operand} (hr : xIndex P G o t H T x y = some (s, H')) : H' = H := by
  unfold xIndex at hr
  repeat' split at hr
  all_goals first
    | (cases hr; done)
    | exact calmS_same hr
    | (simp only [Option.some.injEq, Prod.mk.injEq] at hr; exact hr.2.symm)
theorem xBin_same {op : BinOp} {T : TypeId} {x y : Operand} (hr : xBin P G o t H op T x y = some (s, H')) : H' = H := by
  unfold xBin at hr
  repeat' split at hr
  all_goals first
    | (cases hr; done)
    | exact calmS_same hr
    | (simp only [Option.some.injEq, Prod.mk.injEq] at hr; exact hr.2.symm)
/-- operations that change nothing in the own heap -/
def still : Op → Bool
  | .load .. | .lookup .. => true
  | .call { callee := .builtin .len, .. } | .call { callee := .builtin .min, .. } | .call { callee := .builtin .max, .. } => true
  | .move _ | .assign _ | .pick .. | .build .. | .nilCheck _ | .binOp .. | .unOp .. | .makeInterface .. | .makeFunc .. | .slice .. | .fieldAddr .. | .field .. | .indexAddr .. | .index .. | .extract .. => true
  | _ => false
theorem xCall_same {c : Call} (hc : still (.call c) = true) (hr : xCall P G cl o t H c = some (s, H')) : H' = H := by
  unfold xCall at hr
  split at hr
  · simp [still] at hc
  · simp [still] at hc
  · repeat' split at hr
    all_goals first
      | (cases hr; done)
      | exact calmS_same hr
      | (simp only [Option.some.injEq, Prod.mk.injEq] at hr; exact hr.2.symm)
  · simp [still] at hc
  · simp [still] at hc
  all_goals
    repeat' split at hr
  all_goals first
    | (cases hr; done)
    | exact calmS_same hr
    | (simp only [Option.some.injEq, Prod.mk.injEq] at hr; exact hr.2.symm)
theorem xop_same (hk : still o.op = true) (hr : xop P G cl o t H = some (s, H')) : H' = H := by
  unfold xop at hr
  split at hr
  all_goals try (rename_i heq; rw [heq] at hk; simp [still] at hk; done)
  all_goals first
    | exact xBin_same hr
    | exact xSlice_same hr
    | exact xIndexAddr_same hr
    | exact xIndex_same hr
    | exact calmS_same hr
    | (rename_i heq; rw [heq] at hk; exact xCall_same hk hr)
    | skip
  all_goals
    repeat' split at hr
  all_goals first
    | (cases hr; done)
    | exact calmS_same hr
    | exact xLook_same hr
    | (simp only [Option.some.injEq, Prod.mk.injEq] at hr; exact hr.2.symm)
end
end Go.Proofs.YtjflmmipjeangaaGreatDoor.Sx
end
