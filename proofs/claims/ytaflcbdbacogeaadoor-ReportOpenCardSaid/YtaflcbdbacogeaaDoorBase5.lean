/-
  More program-independent ground: append of a slice that reads as a list; append of zeros to nil.
-/
import Derived.Test.YtaflcbdbacogeaaDoorBase4
import Derived.Laws.AppendOwnNone
set_option linter.unusedVariables false
set_option linter.unusedSimpArgs false
namespace Go.Proofs.YtaflcbdbacogeaaDoor
open Go.RowKit Go.WideShapes Go.ChangeShapes

section
variable {α : Type} {enc : α → List Value} {k : Nat}
theorem SliceOf.cells {w : World} {b off n cap : Nat} {l : List α} (hk : ∀ x, (enc x).length = k) (hk0 : 0 < k) (h : SliceOf enc k w (.slice (some ⟨b, off, none⟩) n cap) l) : ∀ j u, (l.flatMap enc)[j]? = some u → w.cell? ((⟨b, off, none⟩ : Addr).add j) = some u := by
  obtain ⟨p', cap', e, h1, h2, h3, h4⟩ := h
  simp only [Value.slice.injEq] at e
  obtain ⟨rfl, _, _⟩ := e
  intro j u hj
  have hlt : j < l.length * k := by have := (List.getElem?_eq_some_iff.1 hj).1; rwa [flatMap_len hk] at this
  have hi : j / k < l.length := (Nat.div_lt_iff_lt_mul hk0).2 hlt
  have hm : j % k < (enc l[j / k]).length := by rw [hk]; exact Nat.mod_lt _ hk0
  have hg := flatMap_get hk (List.getElem?_eq_getElem hi) (List.getElem?_eq_getElem hm)
  have ej : j / k * k + j % k = j := by rw [Nat.mul_comm]; exact Nat.div_add_mod j k
  rw [ej] at hg
  rw [hg] at hj
  obtain ⟨b', off', hp, hc⟩ := h4 _ _ (List.getElem?_eq_getElem hi)
  obtain ⟨rfl, rfl⟩ : b = b' ∧ off = off' := by simpa using hp
  have := hc (j % k) _ (List.getElem?_eq_getElem hm)
  rw [ej] at this
  have hadd : (⟨b, off, none⟩ : Addr).add j = ⟨b, off + j, none⟩ := by unfold Addr.add; split <;> simp_all
  rw [hadd, this]
  exact hj
/-- append of a whole slice to a slice of the call's own -/
theorem wl_appendS {P : Program} {ops : Array Oper} {rest : List Oper} {a : Act} {Q : Exit → Act → World → Prop} {w : World} {dst : Option Tmp} {ty : TypeId} {pos : String} {aft : Array Edge} {s x : Operand} {t E : TypeId} {i : TypeInfo} {z : Value} {bytes base : Nat} {v : Value} {l m : List α} {p : Option Addr} {n c : Nat}
    (ht : P.underlying t = some (.slice E)) (hi : P.info? E = some i) (hz : i.zero = some z) (hsize : i.size = k) (hby : i.bytes = bytes) (hzs : z.cells.size = k) (hk0 : 0 < k) (hk : ∀ x, (enc x).length = k) (h1 : ∀ x, ∀ u ∈ enc x, u.oneCell' = true)
    (hs : a.eval s = v) (hx : a.eval x = .slice p n c) (hown : Own enc k E base w v l) (hb : SliceOf enc k w (.slice p n c) m) (h63 : l.length + m.length ≤ maxLen) (hbytes : (l.length + m.length) * bytes ≤ 140737488355328) (hbase : base ≤ w.heap.size)
    (h : ∀ (v' : Value) (n : ExtB base w), Own enc k E base n.val v' (l ++ m) → wpList P ops Q rest (a.put dst v') n.val) :
    wpList P ops Q (⟨dst, .call { callee := .builtin .append, args := #[s, x], argTypes := #[t, t] }, ty, pos, aft, none⟩ :: rest) a w := by
  have hb0 := hb
  obtain ⟨p', c', e, e1, e2, e3, e4⟩ := hb
  simp only [Value.slice.injEq] at e
  obtain ⟨rfl, rfl, rfl⟩ := e
  cases p with
  | none =>
    have hc : c = 0 := e3 rfl
    subst hc
    have hm0 : m = [] := List.eq_nil_of_length_eq_zero (by omega)
    subst hm0
    refine wpList_append_own_none (o := ⟨dst, .call { callee := .builtin .append, args := #[s, x], argTypes := #[t, t] }, ty, pos, aft, none⟩) rfl s x t rfl base E i k ht hi v l.length (l.flatMap enc) hs hown (by simpa using hx) ?_
    have := h v ⟨w, Below.refl _ _⟩ (by rw [List.append_nil]; exact hown)
    exact this
  | some ad =>
    by_cases hm0 : m = []
    · subst hm0
      refine wpList_append_own (o := ⟨dst, .call { callee := .builtin .append, args := #[s, x], argTypes := #[t, t] }, ty, pos, aft, none⟩) w rfl s x t rfl base E i z k bytes ht hi hz hsize hby hzs hk0 v l.length (l.flatMap enc) hs hown ad 0 c [] (by simpa using hx) (by simp) (fun j u hj => by simp at hj) (fun u hu => by simp at hu) (by simpa using h63) (by simpa using hbytes) hbase ?_
      intro v' w' ho hg _
      have hbl : Below base w w' := ⟨hg.os, hg.tape, hg.output, hg.size, fun q hq => hg.block q (by omega) (fun e => by have := (World.ownsRow.lt hown q e.symm).1; omega)⟩
      refine h v' ⟨w', hbl⟩ ?_
      show w'.ownsRow base E k v' (l ++ []).length ((l ++ []).flatMap enc)
      simpa using ho
    · obtain ⟨b, off, hp, _⟩ := e4 0 (m[0]'(by cases m; simp at hm0; simp)) (List.getElem?_eq_getElem _)
      obtain rfl : ad = ⟨b, off, none⟩ := by simpa using hp
      refine wpList_append_own (o := ⟨dst, .call { callee := .builtin .append, args := #[s, x], argTypes := #[t, t] }, ty, pos, aft, none⟩) w rfl s x t rfl base E i z k bytes ht hi hz hsize hby hzs hk0 v l.length (l.flatMap enc) hs hown _ m.length c (m.flatMap enc) hx (flatMap_len hk) (SliceOf.cells hk hk0 hb0) (fun u hu => by obtain ⟨y, _, hy⟩ := List.mem_flatMap.1 hu; exact h1 y u hy) h63 hbytes hbase ?_
      intro v' w' ho hg _
      have hbl : Below base w w' := ⟨hg.os, hg.tape, hg.output, hg.size, fun q hq => hg.block q (by omega) (fun e => by have := (World.ownsRow.lt hown q e.symm).1; omega)⟩
      refine h v' ⟨w', hbl⟩ ?_
      show w'.ownsRow base E k v' (l ++ m).length ((l ++ m).flatMap enc)
      rw [List.flatMap_append, List.length_append]
      exact ho
end
/-- append of n zeros to nil -/
theorem run_append_zeros {P : Program} (w : World) (t tI ty e : TypeId) (ik : IntKind) (i : TypeInfo) (z : Value) (ht : P.underlying t = some (.slice e)) (hI : P.underlying tI = some (.int ik)) (hi : P.info? e = some i) (hz : i.zero = some z)
    (n : Nat) (h0 : 0 < n) (hs0 : 0 < i.size) (h63 : (n : Int) ≤ 9223372036854775807) (h48 : n * i.bytes ≤ 281474976710656) :
    (Builtin.append_ #[t, tI] ty #[.slice none 0 0, .int .i64 n]).run P w =
      .ok (.slice (some ⟨w.heap.size, 0, none⟩) n (grownCap w n 0 e)) (w.drew.alloc (.cells (Builtin.zeroCells z.cells n ++ Builtin.zeroCells z.cells (grownCap w n 0 e - n)) e)) := by
  have hn : n ≠ 0 := by omega
  have h63' : ¬ (9223372036854775807 < (n : Int)) := by omega
  have h48' : ¬ (281474976710656 < Builtin.nextslicecap n 0 * i.bytes) := by rw [nextslicecap_zero h0]; omega
  have hw : IntKind.i64.wrap (n : Int) = n := IntWalk.i64_in _ (by omega)
  have h48'' : ¬ (281474976710656 < (n : Int) * (i.bytes : Int)) := by
    have : (n : Int) * (i.bytes : Int) = ((n * i.bytes : Nat) : Int) := by simp
    omega
  have hs : ¬ (n * i.size = 0) := by have := Nat.mul_pos h0 hs0; omega
  have hnn : ¬ ((n : Int) < 0) := by omega
  have hai : (asIntOf (.int .i64 (n : Int))).run P w = .ok (.i64, (n : Int)) w := rfl
  simp [Builtin.append_, run_underlying ht, run_underlying hI, sizeOf, typeInfo, zeroValue, hi, hz, hn, h63', h48', h48'', hw, hs, hnn, hai, asInt, Question.forced, run_firstCells_none, newRow, grownCap]
theorem wl_append_zeros {P : Program} {ops : Array Oper} {rest : List Oper} {a : Act} {Q : Exit → Act → World → Prop} {w : World} {dst : Option Tmp} {ty : TypeId} {pos : String} {aft : Array Edge} {s x : Operand} {t tI e : TypeId} {ik : IntKind} {i : TypeInfo} {z : Value} {n size bytes : Nat}
    (ht : P.underlying t = some (.slice e)) (hI : P.underlying tI = some (.int ik)) (hi : P.info? e = some i) (hz : i.zero = some z) (hsize : i.size = size) (hby : i.bytes = bytes) (hzs : z.cells.size = size) (hs0 : 0 < size)
    (hs : a.eval s = .slice none 0 0) (hx : a.eval x = .int .i64 n) (h0 : 0 < n) (h63 : n ≤ maxLen) (h48 : n * bytes ≤ 281474976710656)
    (h : ∀ (cap : Nat) (C : Array Value), n ≤ cap → cap ≤ maxLen → C.size = cap * size → wpList P ops Q rest (a.put dst (.slice (some ⟨w.heap.size, 0, none⟩) n cap)) (w.drew.alloc (.cells C e))) :
    wpList P ops Q (⟨dst, .call { callee := .builtin .append, args := #[s, x], argTypes := #[t, tI] }, ty, pos, aft, none⟩ :: rest) a w := by
  subst hsize
  subst hby
  refine wpList_plain rfl fun K hK => ?_
  have hr := run_append_zeros (P := P) w t tI ty e ik i z ht hI hi hz n h0 hs0 (by unfold maxLen at h63; omega) h48
  have hge := grownCap_ge w n 0 e
  have hcm := grownCap_le_maxLen w n 0 e h63
  unfold Oper.wp execOp
  simp only [resolve, invoke, builtin, Sem.run_bind, Sem.run_pure, Result.andThen_ok, List.map_toArray, List.map_cons, List.map_nil, hs, hx, hr]
  refine hK _ _ (h _ _ hge hcm ?_)
  simp only [Array.size_append, size_zeroCells, hzs, ← Nat.add_mul]
  congr 1
  omega
end Go.Proofs.YtaflcbdbacogeaaDoor
