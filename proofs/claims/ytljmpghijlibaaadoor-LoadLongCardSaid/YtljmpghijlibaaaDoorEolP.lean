/- Line ends, in plain Lean. -/
import Derived.Test.YtljmpghijlibaaaDoorRows
import Derived.WalkKit
import Derived.ProofKit
import Derived.OpenShut
import Derived.ShutString
import Derived.ChangeOld
import Derived.Below
import Derived.BigQuiet
import Derived.Deep.QuietTactic
import Derived.Lib.Hide
import Derived.Deep.RegionHeld3
import Derived.Lib.SlBytesConst
import Derived.Laws.CopyOwn
import Derived.Laws.CopyRow
import Derived.Lib.Bytes
import Derived.Deep.LoopGhost
import Derived.Deep.DeepFit
import Derived.Deep.DeepMust
import Derived.WalkSpells
import Derived.WalkLawsBesides
import Derived.Laws.EntriesVeiled
import Derived.Laws.Rows
import Derived.Test.YtljmpghijlibaaaDoorBase
import Derived.Test.YtljmpghijlibaaaDoorCharPlain
namespace Go.Proofs.YtljmpghijlibaaaDoor
open Go.ChangeShapes Go.WideShapes Go.ChangeAt Go.RowKit
set_option linter.unusedVariables false
def kp (l : List UInt8) (i : Nat) : List UInt8 := if l[i]? = some 13 then (if l[i + 1]? = some 10 then [] else [10]) else [l[i]?.getD 0]
def nrmTo (l : List UInt8) : Nat → List UInt8
  | 0 => []
  | k + 1 => nrmTo l k ++ kp l k
def nrm (l : List UInt8) : List UInt8 := nrmTo l l.length
theorem kp_le (l : List UInt8) (i : Nat) : (kp l i).length ≤ 1 := by
  unfold kp; split
  · split <;> simp
  · simp
theorem nrmTo_le (l : List UInt8) : ∀ k, (nrmTo l k).length ≤ k
  | 0 => Nat.le_refl _
  | k + 1 => by have := nrmTo_le l k; have := kp_le l k; simp [nrmTo]; omega
theorem nrm_le (l : List UInt8) : (nrm l).length ≤ l.length := nrmTo_le l _
theorem kp_no13 (l : List UInt8) (i : Nat) (hi : i < l.length) : 13 ∉ kp l i := by
  unfold kp
  rw [List.getElem?_eq_getElem hi]
  split
  · split <;> simp
  · rename_i h; simp at h; simp; exact fun e => h e.symm
theorem nrmTo_no13 (l : List UInt8) : ∀ k, k ≤ l.length → 13 ∉ nrmTo l k
  | 0, _ => by simp [nrmTo]
  | k + 1, h => by
    simp only [nrmTo, List.mem_append, not_or]
    exact ⟨nrmTo_no13 l k (by omega), kp_no13 l k (by omega)⟩
theorem nrm_no13 (l : List UInt8) : 13 ∉ nrm l := nrmTo_no13 l _ (Nat.le_refl _)
theorem nrmTo_same (l : List UInt8) (h : 13 ∉ l) : ∀ k, k ≤ l.length → nrmTo l k = l.take k
  | 0, _ => rfl
  | k + 1, hk => by
    have hx : l[k]? = some l[k] := List.getElem?_eq_getElem (by omega)
    have hne : l[k] ≠ 13 := fun e => h (e ▸ List.getElem_mem (by omega))
    rw [nrmTo, nrmTo_same l h k (by omega), take_snoc l k _ hx, kp, hx]
    simp [hne]
theorem nrm_same (l : List UInt8) (h : 13 ∉ l) : nrm l = l := by
  rw [nrm, nrmTo_same l h _ (Nat.le_refl _), List.take_length]
end Go.Proofs.YtljmpghijlibaaaDoor
