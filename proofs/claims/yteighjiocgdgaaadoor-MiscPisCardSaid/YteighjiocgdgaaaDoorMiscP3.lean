/- Plain law: processing instructions as they are put. -/
import Derived.Test.YteighjiocgdgaaaDoorRows
import Derived.WalkKit
import Derived.ProofKit
import Derived.OpenShut
import Derived.ShutString
import Derived.ChangeOld
import Derived.Below
import Derived.BigQuiet
import Derived.Deep.QuietTactic
import Derived.Lib.Hide
import Derived.Deep.RegionHeld3
import Derived.Lib.SlBytesConst
import Derived.Laws.CopyOwn
import Derived.Laws.CopyRow
import Derived.Lib.Bytes
import Derived.Deep.LoopGhost
import Derived.Deep.DeepFit
import Derived.Deep.DeepMust
import Derived.WalkSpells
import Derived.WalkLawsBesides
import Derived.Test.YteighjiocgdgaaaDoorBase
import Derived.Test.YteighjiocgdgaaaDoorCharPlain
import Derived.Test.YteighjiocgdgaaaDoorUtf1
import Derived.Test.YteighjiocgdgaaaDoorUtf2
import Derived.Test.YteighjiocgdgaaaDoorUtf3
import Derived.Test.YteighjiocgdgaaaDoorChars1
import Derived.Test.YteighjiocgdgaaaDoorName1
import Derived.Test.YteighjiocgdgaaaDoorName2
import Derived.Test.YteighjiocgdgaaaDoorName3
import Derived.Test.YteighjiocgdgaaaDoorPub
import Derived.Test.YteighjiocgdgaaaDoorBlank
import Derived.Test.YteighjiocgdgaaaDoorPlainP
import Derived.Test.YteighjiocgdgaaaDoorWhole
import Derived.Test.YteighjiocgdgaaaDoorMiscP
import Derived.Test.YteighjiocgdgaaaDoorMiscP2
import Derived.Test.YteighjiocgdgaaaDoorMisc6
import Derived.Test.YteighjiocgdgaaaDoorPutPi
namespace Go.Proofs.YteighjiocgdgaaaDoor
open Go.ChangeShapes Go.WideShapes Go.ChangeAt Go.RowKit
set_option linter.unusedVariables false
/-- A processing instruction that could be put reads as itself. -/
theorem put_pi (t d : List UInt8) (ht : t.length ≤ 1024) (h1 : isPl t = true) (h2 : resB t = false) (h3 : Lib.contains d [63, 62] = false) (h4 : blankHead d = false) :
    piOut ([60, 63] ++ t ++ dataOf d ++ [63, 62]) 0 = (t, d, ([60, 63] ++ t ++ dataOf d ++ [63, 62]).length, 0) := by
  have hne : t ≠ [] := by
    intro e
    subst e
    simp [isPl, wholeB] at h1
  have hend : endL (noColon isStart) (noColon isMore) t.length t = t.length := by
    unfold isPl at h1
    rw [endL_wholeB _ _ _ hne] at h1
    simpa using h1
  have hlp : 0 < t.length := by cases t with
    | nil => exact absurd rfl hne
    | cons a t => simp
  -- what follows on the name
  obtain ⟨r0, rt, hr, hr1, hr2⟩ : ∃ r0 rt, dataOf d ++ [63, 62] = r0 :: rt ∧ r0.toNat < 128 ∧ noColon isMore (r0.toNat : Int) = false := by
    cases d with
    | nil => exact ⟨63, [62], rfl, by decide, by decide +kernel⟩
    | cons c d => exact ⟨32, c :: d ++ [63, 62], rfl, by decide, by decide +kernel⟩
  have hl : [60, 63] ++ t ++ dataOf d ++ [63, 62] = 60 :: 63 :: (t ++ r0 :: rt) := by rw [← hr]; simp
  have hpl : plainOut ([60, 63] ++ t ++ dataOf d ++ [63, 62]) (0 + 2) = (t, 2 + t.length, 0) := by
    unfold plainOut
    rw [hl]
    simp only [Nat.zero_add, List.drop_succ_cons, List.drop_zero]
    rw [endL_app (noColon isMore) (r0 :: rt) (endL_stop _ _ r0 rt hr1 hr2) t.length _ t _ hne (Nat.le_refl _) hend (by simp; omega)]
    rw [if_neg (by omega), if_neg (by omega), List.take_left]
  have hpre : [60, 63].isPrefixOf (([60, 63] ++ t ++ dataOf d ++ [63, 62]).drop 0) = true := by rw [hl]; simp
  unfold piOut
  rw [if_neg (by rw [hpre]; simp), hpl]
  have hlen : ([60, 63] ++ t ++ dataOf d ++ [63, 62]).length = 2 + t.length + (dataOf d).length + 2 := by simp; omega
  have hdr : ([60, 63] ++ t ++ dataOf d ++ [63, 62]).drop (2 + t.length) = dataOf d ++ [63, 62] := by
    rw [show [60, 63] ++ t ++ dataOf d ++ [63, 62] = ([60, 63] ++ t) ++ (dataOf d ++ [63, 62]) by simp, show 2 + t.length = ([60, 63] ++ t).length by simp; omega, List.drop_left]
  have hx : ∀ j, j < d.length → [63, 62].isPrefixOf ((d ++ [63, 62]).drop j) = false := fun j hj => by
    refine Classical.byContradiction fun hc => ?_
    have hoj : [63, 62].isPrefixOf ((d ++ [63, 62]).drop j) = true := by simpa using hc
    rcases (show j + 2 ≤ d.length ∨ j + 1 = d.length by omega) with g | g
    · have hcn : Lib.contains d [63, 62] = true := by
        refine contains_true _ _ j (by omega) (pre_of_get fun i hi => ?_)
        have g2 := pre_get hoj i hi
        simp at hi
        rwa [List.getElem?_append_left (by omega)] at g2
      rw [hcn] at h3
      cases h3
    · have g2 := pre_get hoj 1 (by simp)
      rw [List.getElem?_append_right (by omega), show j + 1 - d.length = 0 by omega] at g2
      simp at g2
  generalize hL : [60, 63] ++ t ++ dataOf d ++ [63, 62] = L at *
  cases d with
  | nil =>
    have hbt : blankTo L (2 + t.length) = 2 + t.length := by
      refine blankTo_no L _ 63 ?_ (by decide)
      have : (L.drop (2 + t.length))[0]? = some 63 := by rw [hdr]; rfl
      rwa [List.getElem?_drop, Nat.add_zero] at this
    have hfi : findI L (2 + t.length) [63, 62] = ((2 + t.length : Nat) : Int) := by
      unfold findI
      rw [hdr]
      rw [show Lib.index (dataOf [] ++ [63, 62]) [63, 62] = 0 by decide +kernel, if_neg (by omega)]
      omega
    rw [piRest_yes L t (2 + t.length) (2 + t.length) (2 + t.length) h2 hbt hfi (fun _ => rfl), hlen]
    simp [dataOf]
  | cons c d =>
    have hc : isBl c = false := h4
    have hsp : L[2 + t.length]? = some 32 := by
      have : (L.drop (2 + t.length))[0]? = some 32 := by rw [hdr]; rfl
      rwa [List.getElem?_drop, Nat.add_zero] at this
    have hcc : L[2 + t.length + 1]? = some c := by
      have : (L.drop (2 + t.length))[1]? = some c := by rw [hdr]; rfl
      rwa [List.getElem?_drop] at this
    have hbt : blankTo L (2 + t.length) = 2 + t.length + 1 := by
      rw [blankTo_yes L _ 32 hsp (by decide), blankTo_no L _ c hcc hc]
    have hdr1 : L.drop (2 + t.length + 1) = c :: d ++ [63, 62] := by
      rw [← List.drop_drop, hdr]
      rfl
    have hix : Lib.index (c :: d ++ [63, 62]) [63, 62] = ((c :: d).length : Int) := idx_put (c :: d) [63, 62] (by simp) hx
    have hfi : findI L (2 + t.length + 1) [63, 62] = ((2 + t.length + 1 + (c :: d).length : Nat) : Int) := by
      unfold findI
      rw [hdr1, hix, if_neg (by omega)]
      omega
    rw [piRest_yes L t (2 + t.length) (2 + t.length + 1) (2 + t.length + 1 + (c :: d).length) h2 hbt hfi (fun e => by omega), hlen, hdr1]
    rw [show 2 + t.length + 1 + (c :: d).length - (2 + t.length + 1) = (c :: d).length by omega, List.take_left]
    simp [dataOf]
    omega
end Go.Proofs.YteighjiocgdgaaaDoor
