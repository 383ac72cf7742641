/-
  More program-independent ground: append to a slice of the call's own leaves every other block as it was.
-/
import Derived.Test.YtaflcbdbacogeaaDoorBase6
set_option linter.unusedVariables false
set_option linter.unusedSimpArgs false
namespace Go.Proofs.YtaflcbdbacogeaaDoor
open Go.RowKit Go.WideShapes Go.ChangeShapes

/-- where the slice that append hands back lies -/
theorem append_block {P : Program} {w : World} {base : Nat} {t ty e : TypeId} {i : TypeInfo} {z : Value} (ht : P.underlying t = some (.slice e)) (hi : P.info? e = some i) (hz : i.zero = some z)
    {v : Value} {n : Nat} {xs : List Value} (hown : w.ownsRow base e i.size v n xs) {a : Addr} {m c : Nat} {news : List Value} (hl : news.length = m * i.size) (hnews : ∀ j u, news[j]? = some u → w.cell? (a.add j) = some u) (h1 : ∀ u ∈ news, u.oneCell' = true)
    (h63 : n + m ≤ maxLen) (hbytes : (n + m) * i.bytes ≤ 140737488355328) {v' : Value} {w' : World} (hr : (Builtin.append_ #[t, t] ty #[v, .slice (some a) m c]).run P w = .ok v' w') :
    v'.ownBlock = v.ownBlock ∨ v'.ownBlock = some w.heap.size := by
  have hsmall : n + m ≤ 9223372036854775807 := by simp only [maxLen] at h63; omega
  have hcells := fun g => World.ownsRow.cells hown (g := g)
  rcases hown.2 with ⟨rfl, rfl⟩ | ⟨g, cap, cur, rfl, hbg, hg, hnc, hcm, hcs, htake⟩
  · by_cases hm : m = 0
    · subst hm
      have hn : news = [] := List.eq_nil_of_length_eq_zero (by simpa using hl)
      have : (Builtin.append_ #[t, t] ty #[.slice none 0 0, .slice (some a) 0 c]).run P w = .ok (.slice none 0 0) w := by
        simp [Builtin.append_, run_underlying ht, sizeOf, typeInfo, hi, Builtin.lenOf, Builtin.firstCells, loadCells, loadCellsFrom]
      rw [this] at hr
      injection hr with h2 h3
      exact .inl (by rw [← h2])
    · rw [run_append_nil (P := P) w t ty e i z ht hi hz a m c news hl hnews (by omega) (by omega) (by simp only [Nat.zero_add] at hbytes; omega)] at hr
      injection hr with h2 h3
      exact .inr (by rw [← h2]; rfl)
  · by_cases hroom : n + m ≤ cap
    · have hfit : n * i.size + news.length ≤ cur.size := by rw [hl, hcs, ← Nat.add_mul]; exact Nat.mul_le_mul_right _ hroom
      rw [run_append_room (P := P) w t ty e i ht hi g n cap cur hg a m c news hl hnews h1 hroom hfit] at hr
      injection hr with h2 h3
      exact .inl (by rw [← h2]; rfl)
    · rw [run_append_grow (P := P) w t ty e i z ht hi hz ⟨g, 0, none⟩ n cap xs hown.1 (hcells g rfl) a m c news hl hnews (by omega) (by omega) (growslice_fits (by omega) hbytes)] at hr
      injection hr with h2 h3
      exact .inr (by rw [← h2]; rfl)

section
variable {α : Type} {enc : α → List Value} {k : Nat}
/-- one more element, by append; every block but the slice's own is as it was -/
theorem wl_append1k {P : Program} {ops : Array Oper} {rest : List Oper} {a : Act} {Q : Exit → Act → World → Prop} {w : World} {dst : Option Tmp} {ty : TypeId} {pos : String} {aft : Array Edge} {s x : Operand} {t E : TypeId} {i : TypeInfo} {z : Value} {bytes base : Nat} {v : Value} {l : List α} {y : α} {b c : Nat} {cs : Array Value}
    (ht : P.underlying t = some (.slice E)) (hi : P.info? E = some i) (hz : i.zero = some z) (hsize : i.size = k) (hby : i.bytes = bytes) (hzs : z.cells.size = k) (hk0 : 0 < k) (hk : ∀ x, (enc x).length = k) (h1 : ∀ x, ∀ u ∈ enc x, u.oneCell' = true)
    (hs : a.eval s = v) (hx : a.eval x = .slice (some ⟨b, 0, none⟩) 1 c) (hown : Own enc k E base w v l) (hb : Block w b cs) (hcs : cs.toList = enc y) (h63 : l.length + 1 ≤ maxLen) (hbytes : (l.length + 1) * bytes ≤ 140737488355328) (hbase : base ≤ w.heap.size)
    (h : ∀ (v' : Value) (n : ExtB base w), Own enc k E base n.val v' (l ++ [y]) → (∀ (b' : Nat) (cs' : Array Value), Block w b' cs' → v.ownBlock ≠ some b' → Block n.val b' cs' ∧ v'.ownBlock ≠ some b') → wpList P ops Q rest (a.put dst v') n.val) :
    wpList P ops Q (⟨dst, .call { callee := .builtin .append, args := #[s, x], argTypes := #[t, t] }, ty, pos, aft, none⟩ :: rest) a w := by
  subst hsize
  subst hby
  have hnews : ∀ j u, (enc y)[j]? = some u → w.cell? ((⟨b, 0, none⟩ : Addr).add j) = some u := by
    intro j u hj
    have hadd : (⟨b, 0, none⟩ : Addr).add j = ⟨b, j, none⟩ := by unfold Addr.add; split <;> simp_all
    rw [hadd, Block.cell (h := hb), ← hj, ← hcs]
    simp
  have hnl : (enc y).length = 1 * i.size := by rw [hk, Nat.one_mul]
  obtain ⟨v', w', hr, ho, hg, _⟩ := run_append_own (P := P) w base t ty E i z i.size i.bytes ht hi hz rfl rfl hzs hk0 v l.length (l.flatMap enc) hown ⟨b, 0, none⟩ 1 c (enc y) hnl hnews (h1 y) h63 hbytes hbase
  have hblk := append_block ht hi hz hown hnl hnews (h1 y) h63 hbytes hr
  refine wpList_plain rfl fun K hK => ?_
  unfold Oper.wp execOp
  simp only [resolve, invoke, builtin, Sem.run_bind, Sem.run_pure, Result.andThen_ok, List.map_toArray, List.map_cons, List.map_nil, hs, hx, hr]
  have hbl : Below base w w' := ⟨hg.os, hg.tape, hg.output, hg.size, fun q hq => hg.block q (by omega) (fun e => by have := (World.ownsRow.lt hown q e.symm).1; omega)⟩
  refine hK _ _ (h v' ⟨w', hbl⟩ ?_ ?_)
  · show w'.ownsRow base E i.size v' (l ++ [y]).length ((l ++ [y]).flatMap enc)
    rw [List.flatMap_append, List.length_append]
    simpa using ho
  · intro b' cs' hB hne
    have hlt := hB.lt
    refine ⟨⟨?_⟩, ?_⟩
    · obtain ⟨tt, e⟩ := hB.get
      exact ⟨tt, by show w'.heap[b']? = _; rw [hg.block b' hlt (Ne.symm hne)]; exact e⟩
    · rcases hblk with h2 | h2 <;> rw [h2]
      · exact hne
      · simp; omega
end
theorem Block.ext {w w' : World} {b : Nat} {cs : Array Value} (h : Block w b cs) (hx : Ext w w') : Block w' b cs := ⟨by obtain ⟨t, e⟩ := h.get; exact ⟨t, by rw [hx.block b h.lt]; exact e⟩⟩
theorem Own.ext {α : Type} {enc : α → List Value} {k E base : Nat} {w w' : World} {v : Value} {l : List α} (h : Own enc k E base w v l) (hx : Ext w w') : Own enc k E base w' v l := Own.of_ext h ⟨w', hx⟩
theorem Own.block_lt {α : Type} {enc : α → List Value} {k E base : Nat} {w : World} {v : Value} {l : List α} (h : Own enc k E base w v l) {b : Nat} (hb : w.heap.size ≤ b) : v.ownBlock ≠ some b := fun e => by
  have := (World.ownsRow.lt h b e).2
  omega
end Go.Proofs.YtaflcbdbacogeaaDoor
