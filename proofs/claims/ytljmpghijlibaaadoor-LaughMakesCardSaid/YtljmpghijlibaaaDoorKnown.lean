/- Entities that are always known. -/
import Derived.Test.YtljmpghijlibaaaDoorRows
import Derived.WalkKit
import Derived.ProofKit
import Derived.OpenShut
import Derived.ShutString
import Derived.ChangeOld
import Derived.Below
import Derived.BigQuiet
import Derived.Deep.QuietTactic
import Derived.Lib.Hide
import Derived.Deep.RegionHeld3
import Derived.Lib.SlBytesConst
import Derived.Laws.CopyOwn
import Derived.Laws.CopyRow
import Derived.Lib.Bytes
import Derived.Deep.LoopGhost
import Derived.Deep.DeepFit
import Derived.Deep.DeepMust
import Derived.WalkSpells
import Derived.WalkLawsBesides
import Derived.Laws.EntriesVeiled
import Derived.Laws.Rows
import Derived.Test.YtljmpghijlibaaaDoorBase
import Derived.Test.YtljmpghijlibaaaDoorShelf
import Derived.Test.YtljmpghijlibaaaDoorCharPlain
namespace Go.Proofs.YtljmpghijlibaaaDoor
open Go.ChangeShapes Go.WideShapes Go.ChangeAt Go.RowKit
set_option linter.unusedVariables false
theorem ba_ne2 (s : ByteArray) (l : List UInt8) (h : s ≠ ⟨l.toArray⟩) : (s.toList == l) = false :=
  beq_false_of_ne fun e => h (by rw [← e, Go.Lib.toList_data])
/-- The number of an entity that is always known; 0: it is none. -/
def knownOf (s : ByteArray) : Nat := if s = ⟨#[108, 116]⟩ then 60 else if s = ⟨#[103, 116]⟩ then 62 else if s = ⟨#[97, 109, 112]⟩ then 38 else if s = ⟨#[97, 112, 111, 115]⟩ then 39 else if s = ⟨#[113, 117, 111, 116]⟩ then 34 else 0
end Go.Proofs.YtljmpghijlibaaaDoor
