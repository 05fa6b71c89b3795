/- (*strings.Builder).String, and all that stands behind it. -/
import Derived.Test.YtljmpghijlibaaaDoorRows
import Derived.WalkKit
import Derived.ProofKit
import Derived.OpenShut
import Derived.ShutString
import Derived.ChangeOld
import Derived.Below
import Derived.BigQuiet
import Derived.Deep.QuietTactic
import Derived.Lib.Hide
import Derived.Deep.RegionHeld3
import Derived.Lib.SlBytesConst
import Derived.Laws.CopyOwn
import Derived.Laws.CopyRow
import Derived.Lib.Bytes
import Derived.Deep.LoopGhost
import Derived.Deep.DeepFit
import Derived.Deep.DeepMust
import Derived.WalkSpells
import Derived.WalkLawsBesides
import Derived.Shelf.Strings.Builder1
import Derived.Laws.EntriesVeiled
import Derived.Laws.Rows
import Derived.Laws.AppendOwn
import Derived.Lib.UnsafeStr
import Derived.Test.YtljmpghijlibaaaDoorShelf
import Derived.Test.YtljmpghijlibaaaDoorBase
import Derived.Test.YtljmpghijlibaaaDoorY3
import Derived.Test.YtljmpghijlibaaaDoorBuild2
import Derived.Test.YtljmpghijlibaaaDoorEvB
import Derived.Test.YtljmpghijlibaaaDoorEvB2
namespace Go.Proofs.YtljmpghijlibaaaDoor
open Go.ChangeShapes Go.WideShapes Go.ChangeAt Go.RowKit
set_option linter.unusedVariables false
set_option maxRecDepth 100000 in
set_option maxHeartbeats 4000000 in
/-- (*strings.Builder).String, and all that stands behind it. -/
theorem string_r (R b : Nat) (l : List UInt8) (w : World) (h : Bld R b l w) (hRw : R ≤ w.heap.size) :
    Calls Tryd.prog 29 #[.pointer (some ⟨b, 0, none⟩)] w fun e w' => e = .returned (.string ⟨l.toArray⟩) ∧ Fr R b w w' ∧ Ko b w w' := by
  obtain ⟨p, hbR, v, hbk, hown⟩ := h.p
  by_cases h0 : l = []
  · subst h0
    rcases hown.2 with ⟨rfl, _⟩ | ⟨g, cap, cur, rfl, hbg, hg, _, _, _, _⟩
    · exact (Any.Builder_String_nil Tryd.lays169 Tryd.Builder_Extra_169 w.heap.size b p w hbk).mono fun e w' ⟨h1, h2⟩ => ⟨h1, Fr.ofBelow (h2.mono hRw), Ko.ofBelow h2⟩
    · by_cases hc0 : cap = 0
      · subst hc0
        exact (Any.Builder_String_noroom Tryd.lays169 Tryd.Builder_Extra_169 w.heap.size b g p cur w (Nat.le_refl _) hbk hg).mono fun e w' ⟨h1, h2⟩ => ⟨h1, Fr.ofBelow (h2.mono hRw), Ko.ofBelow h2⟩
      · exact (Any.Builder_String_room Tryd.lays169 Tryd.Builder_Extra_169 w.heap.size b g cap p w hc0 hbk).mono fun e w' ⟨h1, h2⟩ => ⟨h1, Fr.ofBelow (h2.mono hRw), Ko.ofBelow h2⟩
  · have hl0 : l.length ≠ 0 := by simpa using h0
    obtain ⟨g, cap, cur, rfl, hbg, hg, hnc, hcm, hcs, htake⟩ : ∃ g cap cur, v = .slice (some ⟨g, 0, none⟩) l.length cap ∧ R ≤ g ∧ w.heap[g]? = some (.cells cur 5 (0, 0)) ∧ l.length ≤ cap ∧ cap ≤ maxLen ∧ cur.size = cap * 1 ∧ cur.toList.take (l.length * 1) = Lib.byteCells l := by
      rcases hown.2 with ⟨_, hz⟩ | ⟨g, cap, cur, hv, r⟩
      · exact absurd hz hl0
      · exact ⟨g, cap, cur, hv, r⟩
    have c1 : w.cell? ⟨b, 1, none⟩ = some (.slice (some ⟨g, 0, none⟩) l.length cap) := by rw [cell_of 1 hbk]; rfl
    have hSD : ∀ W, (Builtin.unsafeSliceData_ #[35] 79 #[.slice (some ⟨g, 0, none⟩) l.length cap]).run Tryd.prog W = .ok (.pointer (some ⟨g, 0, none⟩)) W := fun W =>
      Lib.run_unsafeSliceData_row W _ _ _ _ _ (by omega)
    have hUS : (Builtin.unsafeString_ #[79, 3] 9 #[.pointer (some ⟨g, 0, none⟩), .int .i64 l.length]).run Tryd.prog w.drew = .ok (.string ⟨l.toArray⟩) (w.drew.freeze ⟨g, 0, none⟩ l.length) := by
      refine Lib.run_unsafeString_row w.drew 79 3 9 5 Tryd.underlying79 (by kernel_rfl) g cur.size (by have hg' : w.drew.heap[g]? = some (.cells cur 5 (0, 0)) := hg; simp [World.shape?, hg']) l h0 (by omega) (by unfold maxLen at hcm; omega) ?_
      intro j x hx
      exact hown.cells (g := g) rfl j (.int .u8 x.toNat) (by simp [Lib.byteCells, hx])
    have HF : Hid (Fr R b w (w.drew.freeze ⟨g, 0, none⟩ l.length) ∧ Ko b w (w.drew.freeze ⟨g, 0, none⟩ l.length)) := Lib.hid (by
      refine ⟨Fr.ofBelow (Lib.below_freeze (Below.drew (Below.refl R w)) (p := ⟨g, 0, none⟩) hbg _), fun k o _ h2 h3 => ?_⟩
      have hkg : k ≠ g := by
        intro e
        subst e
        rw [hg] at h3
        cases h3
        exact h2 _ _ rfl
      have h4 : w.drew.heap[k]? = some o := h3
      unfold World.freeze
      split
      · exact h4
      · show (w.drew.heap.modify g _)[k]? = some o
        rw [Array.getElem?_modify, if_neg (fun e => hkg e.symm)]
        exact h4)
    clear h hown hg hcs htake hbk
    go_enter Tryd.func29, Tryd.ntmps29
    go_wp2
    go_region
    all_goals (go_wp2; go_ret; exact ⟨rfl, HF.out⟩)
end Go.Proofs.YtljmpghijlibaaaDoor
