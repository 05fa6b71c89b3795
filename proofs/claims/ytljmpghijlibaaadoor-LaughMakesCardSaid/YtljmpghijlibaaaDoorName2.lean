/- Names: the end. -/
import Derived.Test.YtljmpghijlibaaaDoorRows
import Derived.WalkKit
import Derived.ProofKit
import Derived.OpenShut
import Derived.ShutString
import Derived.ChangeOld
import Derived.Below
import Derived.BigQuiet
import Derived.Deep.QuietTactic
import Derived.Lib.Hide
import Derived.Deep.RegionHeld3
import Derived.Lib.SlBytesConst
import Derived.Laws.CopyOwn
import Derived.Laws.CopyRow
import Derived.Lib.Bytes
import Derived.Deep.LoopGhost
import Derived.Deep.DeepFit
import Derived.Deep.DeepMust
import Derived.WalkSpells
import Derived.WalkLawsBesides
import Derived.Laws.EntriesVeiled
import Derived.Laws.Rows
import Derived.Test.YtljmpghijlibaaaDoorBase
import Derived.Test.YtljmpghijlibaaaDoorShelf
import Derived.Test.YtljmpghijlibaaaDoorCharPlain
import Derived.Test.YtljmpghijlibaaaDoorUtf1
import Derived.Test.YtljmpghijlibaaaDoorUtf2
import Derived.Test.YtljmpghijlibaaaDoorUtf3
import Derived.Test.YtljmpghijlibaaaDoorChars1
import Derived.Test.YtljmpghijlibaaaDoorName1
namespace Go.Proofs.YtljmpghijlibaaaDoor
open Go.ChangeShapes Go.WideShapes Go.ChangeAt Go.RowKit
set_option linter.unusedVariables false
/-- How many bytes a name has: f: what may begin it; g: what may follow. -/
def endL (f g : Int → Bool) : Nat → List UInt8 → Nat
  | 0, _ => 0
  | k + 1, l => match dec l with
    | some (r, n) => if f r then n + endL g g k (l.drop n) else 0
    | none => 0
theorem endL_le (k : Nat) : ∀ (f g : Int → Bool) (l : List UInt8), endL f g k l ≤ l.length := by
  induction k with
  | zero => intro f g l; exact Nat.zero_le _
  | succ k ih =>
    intro f g l
    simp only [endL]
    split
    · rename_i r n h
      have := dec_le l r n h
      split
      · have := ih g g (l.drop n)
        rw [List.length_drop] at this
        omega
      · omega
    · omega
theorem endL_none (f g : Int → Bool) (k : Nat) (l : List UInt8) (h : dec l = none) : endL f g k l = 0 := by
  cases k with
  | zero => rfl
  | succ k => simp [endL, h]
theorem endL_no (f g : Int → Bool) (k : Nat) (l : List UInt8) (r n : Nat) (h : dec l = some (r, n)) (hf : f r = false) : endL f g k l = 0 := by
  cases k with
  | zero => rfl
  | succ k => simp [endL, h, hf]
theorem endL_yes (f g : Int → Bool) (k : Nat) (l : List UInt8) (r n : Nat) (h : dec l = some (r, n)) (hf : f r = true) : endL f g (k + 1) l = n + endL g g k (l.drop n) := by
  simp [endL, h, hf]
end Go.Proofs.YtljmpghijlibaaaDoor
