/-
  The calls of the sample that are known: by contracts, and by the table.
-/
import Derived.Test.YtjflmmipjeangaaGreatDoorXE
import Derived.Test.YtjflmmipjeangaaGreatDoorShelf
import Derived.Test.YtjflmmipjeangaaGreatDoorKC
set_option linter.unusedSimpArgs false
set_option linter.unusedVariables false
namespace Go.Proofs.YtjflmmipjeangaaGreatDoor.Sx
open Go Go.RowKit
theorem join_okA : JoinOk Tryz.prog 211 := fun bk o c xs sep w h1 h2 h3 h4 h5 h6 => Tryz.strings_Join bk o c xs sep w h1 h2 (by omega) h5 (by omega)
theorem cc_okA : CcOk Tryz.prog 41 63 := ⟨fun b w h => ccheck_used b w h, fun b w h1 h2 h3 => ccheck_fresh b w h1 h2 h3⟩
theorem bs_okA : BsOk Tryz.prog 21 5 := ⟨fun b w h => bs_nil b w h, fun b q cap cells l w h h0 hcap h1 hsh hn hc => bs_row b q cap cells l w h h0 hcap h1 hsh hn hc⟩
theorem ra_okA : RaOk Tryz.prog 60 43 9 := fun d B M n w h => by
  refine (readAll_any (n := n) ⟨h.blocks, h.newest, h.down, h.empty, h.none_, h.lts⟩ h.pos h.small).mono ?_
  rintro e w' ⟨v, rfl, ho, x, rfl⟩
  obtain ⟨hl, hn | ⟨g, cap, cur, rfl, hb, hg, hn, hc, hs, ht⟩⟩ := ho
  · have := hn.2
    have := h.pos
    simp at *
    omega
  · have hln : (List.replicate n (⟨#[]⟩ : ByteArray)).length = n := List.length_replicate
    rw [hln] at hn ht ⊢
    have hcs : n ≤ cur.size := by omega
    refine ⟨g, cap, cur, rfl, x.ext, hb, hn, hg, hcs, fun i hi => ?_⟩
    have hfm : ∀ m : Nat, (List.replicate m (⟨#[]⟩ : ByteArray)).flatMap encS = List.replicate m (Value.string ⟨#[]⟩) := fun m => by
      induction m with
      | zero => rfl
      | succ m ih => rw [List.replicate_succ, List.flatMap_cons, ih]; rfl
    rw [hfm] at ht
    have h2 := congrArg (fun l => l[i]?) ht
    simp only [List.getElem?_replicate, if_pos hi] at h2
    rw [List.getElem?_take_of_lt (by omega)] at h2
    have h3 : cur[i]? = some (Value.string ⟨#[]⟩) := by simpa using h2
    exact h3
noncomputable def orcA (l : List Ent) : FuncId → List SVal → Hp → Option Out := joinO 211 (ccO 41 63 (bsO 21 63 5 (raO 60 43 9 (orcT glM l))))
theorem orcA_ok (l : List Ent) (h : ∀ e ∈ l, EntOk Tryz.prog gM glM e) : OrcOk Tryz.prog gM (orcA l) := joinO_ok join_okA (ccO_ok cc_okA (bsO_ok bs_okA (raO_ok ra_okA (orcT_ok gM_lt l h))))
end Go.Proofs.YtjflmmipjeangaaGreatDoor.Sx
