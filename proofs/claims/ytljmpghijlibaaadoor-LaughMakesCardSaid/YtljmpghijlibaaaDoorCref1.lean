/- References: by a mark. -/
import Derived.Test.YtljmpghijlibaaaDoorRows
import Derived.WalkKit
import Derived.ProofKit
import Derived.OpenShut
import Derived.ShutString
import Derived.ChangeOld
import Derived.Below
import Derived.BigQuiet
import Derived.Deep.QuietTactic
import Derived.Lib.Hide
import Derived.Deep.RegionHeld3
import Derived.Lib.SlBytesConst
import Derived.Laws.CopyOwn
import Derived.Laws.CopyRow
import Derived.Lib.Bytes
import Derived.Deep.LoopGhost
import Derived.Deep.DeepFit
import Derived.Deep.DeepMust
import Derived.WalkSpells
import Derived.WalkLawsBesides
import Derived.Laws.EntriesVeiled
import Derived.Laws.Rows
import Derived.Test.YtljmpghijlibaaaDoorBase
import Derived.Test.YtljmpghijlibaaaDoorShelf
import Derived.Test.YtljmpghijlibaaaDoorCharPlain
import Derived.Test.YtljmpghijlibaaaDoorUtf1
import Derived.Test.YtljmpghijlibaaaDoorUtf2
import Derived.Test.YtljmpghijlibaaaDoorUtf3
import Derived.Test.YtljmpghijlibaaaDoorChars1
import Derived.Test.YtljmpghijlibaaaDoorName1
import Derived.Test.YtljmpghijlibaaaDoorName2
import Derived.Test.YtljmpghijlibaaaDoorName3
namespace Go.Proofs.YtljmpghijlibaaaDoor
open Go.ChangeShapes Go.WideShapes Go.ChangeAt Go.RowKit
set_option linter.unusedVariables false
/-- What is read of a reference by its mark: the name, the place behind it, the fault. -/
def refOut (mark : UInt8) (l : List UInt8) (at_ : Nat) : List UInt8 × Nat × Nat :=
  match l[at_]? with
  | none => ([], 0, 7)
  | some c => if c = mark then
      (if (plainOut l (at_ + 1)).2.2 ≠ 0 then ([], 0, (plainOut l (at_ + 1)).2.2)
       else match l[(plainOut l (at_ + 1)).2.1]? with
        | some d => if d = 59 then ((plainOut l (at_ + 1)).1, (plainOut l (at_ + 1)).2.1 + 1, 0) else ([], 0, 7)
        | none => ([], 0, 7))
    else ([], 0, 7)
theorem plainOut_le (l : List UInt8) (k : Nat) (hk : k ≤ l.length) (h : (plainOut l k).2.2 = 0) : k ≤ (plainOut l k).2.1 ∧ (plainOut l k).2.1 ≤ l.length := by
  have := endL_le l.length (noColon isStart) (noColon isMore) (l.drop k)
  rw [List.length_drop] at this
  unfold plainOut at *
  simp only at *
  split at h
  · simp at h
  · rename_i h0
    split at h
    · simp at h
    · rename_i h1
      rw [if_neg h0, if_neg h1]
      simp only
      omega
end Go.Proofs.YtljmpghijlibaaaDoor
