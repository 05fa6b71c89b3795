/- Plain law: comments and marked texts as they are put. -/
import Derived.Test.YteighjiocgdgaaaDoorRows
import Derived.WalkKit
import Derived.ProofKit
import Derived.OpenShut
import Derived.ShutString
import Derived.ChangeOld
import Derived.Below
import Derived.BigQuiet
import Derived.Deep.QuietTactic
import Derived.Lib.Hide
import Derived.Deep.RegionHeld3
import Derived.Lib.SlBytesConst
import Derived.Laws.CopyOwn
import Derived.Laws.CopyRow
import Derived.Lib.Bytes
import Derived.Deep.LoopGhost
import Derived.Deep.DeepFit
import Derived.Deep.DeepMust
import Derived.WalkSpells
import Derived.WalkLawsBesides
import Derived.Lib.IndexMore
import Derived.Lib.IndexLaws
import Derived.Test.YteighjiocgdgaaaDoorBase
import Derived.Test.YteighjiocgdgaaaDoorCharPlain
import Derived.Test.YteighjiocgdgaaaDoorMiscP
namespace Go.Proofs.YteighjiocgdgaaaDoor
open Go.ChangeShapes Go.WideShapes Go.ChangeAt Go.RowKit
set_option linter.unusedVariables false
theorem idx_put (s q : List UInt8) (hq : q ≠ []) (h : ∀ j, j < s.length → q.isPrefixOf ((s ++ q).drop j) = false) : Lib.index (s ++ q) q = (s.length : Int) := by
  refine Lib.index_first (by simp) ?_ (fun j hj => h j hj)
  unfold Lib.occAt
  rw [List.drop_left]
  exact List.isPrefixOf_iff_prefix.2 ⟨[], by simp⟩
theorem put_comment (s : List UInt8) (h : mayComment s = true) : commentOut ([60, 33, 45, 45] ++ s ++ [45, 45, 62]) 0 = (s, s.length + 7, 0) := by
  have hx : Lib.index (s ++ [45, 45, 62]) [45, 45, 62] = (s.length : Int) := idx_put s [45, 45, 62] (by simp) (fun j hj => by
    refine Classical.byContradiction fun hc => ?_
    have hoj : [45, 45, 62].isPrefixOf ((s ++ [45, 45, 62]).drop j) = true := by simpa using hc
    unfold mayComment at h
    have hcn : Lib.contains (s ++ [45]) [45, 45] = true := by
      refine contains_true _ _ j (by simp; omega) (pre_of_get fun i hi => ?_)
      simp at hi
      have g := pre_get hoj i (by simp; omega)
      rcases (show j + i < s.length ∨ j + i = s.length by omega) with g1 | g1
      · rw [List.getElem?_append_left g1] at g ⊢
        rw [g]
        rcases (show i = 0 ∨ i = 1 by omega) with rfl | rfl <;> rfl
      · rw [List.getElem?_append_right (by omega), g1, Nat.sub_self]
        rcases (show i = 0 ∨ i = 1 by omega) with rfl | rfl <;> rfl
    rw [hcn] at h
    cases h)
  have e1 : ([60, 33, 45, 45] ++ s ++ [45, 45, 62] : List UInt8).drop (0 + 4) = s ++ [45, 45, 62] := by simp
  rw [← marked_comment _ 0 (Nat.zero_le _), marked_yes (a := 4) (b := 3) (j := s.length) rfl rfl (by simp) (by rw [e1]; exact hx) (by rw [e1, List.take_left]; exact h)]
  rw [e1, List.take_left]
  congr 2
  omega
theorem put_cdata (s : List UInt8) (h : mayCData s = true) : cdataOut ([60, 33, 91, 67, 68, 65, 84, 65, 91] ++ s ++ [93, 93, 62]) 0 = (s, s.length + 12, 0) := by
  have hx : Lib.index (s ++ [93, 93, 62]) [93, 93, 62] = (s.length : Int) := idx_put s [93, 93, 62] (by simp) (fun j hj => by
    refine Classical.byContradiction fun hc => ?_
    have hoj : [93, 93, 62].isPrefixOf ((s ++ [93, 93, 62]).drop j) = true := by simpa using hc
    unfold mayCData at h
    rcases (show j + 3 ≤ s.length ∨ j + 2 = s.length ∨ j + 1 = s.length by omega) with g | g | g
    · have hcn : Lib.contains s [93, 93, 62] = true := by
        refine contains_true _ _ j (by omega) (pre_of_get fun i hi => ?_)
        have g2 := pre_get hoj i hi
        simp at hi
        rwa [List.getElem?_append_left (by omega)] at g2
      rw [hcn] at h
      cases h
    · have g2 := pre_get hoj 2 (by simp)
      rw [List.getElem?_append_right (by omega), g, Nat.sub_self] at g2
      simp at g2
    · have g2 := pre_get hoj 2 (by simp)
      rw [List.getElem?_append_right (by omega), show j + 2 - s.length = 1 by omega] at g2
      simp at g2)
  have e1 : ([60, 33, 91, 67, 68, 65, 84, 65, 91] ++ s ++ [93, 93, 62] : List UInt8).drop (0 + 9) = s ++ [93, 93, 62] := by simp
  rw [← marked_cdata _ 0 (Nat.zero_le _), marked_yes (a := 9) (b := 3) (j := s.length) rfl rfl (by simp) (by rw [e1]; exact hx) (by rw [e1, List.take_left]; exact h)]
  rw [e1, List.take_left]
  congr 2
  omega
theorem findI_contains (l p : List UInt8) : 0 ≤ findI l 0 p ↔ Lib.contains l p = true := by
  unfold findI Lib.contains
  rw [List.drop_zero]
  split
  · rename_i h
    simp only [decide_eq_true_eq]
    omega
  · rename_i h
    simp only [decide_eq_true_eq]
    omega
end Go.Proofs.YteighjiocgdgaaaDoor
