/- Names. -/
import Derived.Test.YtljmpghijlibaaaDoorRows
import Derived.WalkKit
import Derived.ProofKit
import Derived.OpenShut
import Derived.ShutString
import Derived.ChangeOld
import Derived.Below
import Derived.BigQuiet
import Derived.Deep.QuietTactic
import Derived.Lib.Hide
import Derived.Deep.RegionHeld3
import Derived.Lib.SlBytesConst
import Derived.Laws.CopyOwn
import Derived.Laws.CopyRow
import Derived.Lib.Bytes
import Derived.Deep.LoopGhost
import Derived.Deep.DeepFit
import Derived.Deep.DeepMust
import Derived.WalkSpells
import Derived.WalkLawsBesides
import Derived.Laws.EntriesVeiled
import Derived.Laws.Rows
import Derived.Test.YtljmpghijlibaaaDoorBase
import Derived.Test.YtljmpghijlibaaaDoorShelf
import Derived.Test.YtljmpghijlibaaaDoorCharPlain
import Derived.Test.YtljmpghijlibaaaDoorUtf1
import Derived.Test.YtljmpghijlibaaaDoorUtf2
import Derived.Test.YtljmpghijlibaaaDoorChars1
namespace Go.Proofs.YtljmpghijlibaaaDoor
open Go.ChangeShapes Go.WideShapes Go.ChangeAt Go.RowKit
set_option linter.unusedVariables false
/-- What a function of a number says, whatever has come behind block B since. -/
def Says (fn : Nat) (cb : Array Value) (B : Nat) (w0 : World) (f : Int → Bool) : Prop :=
  ∀ (w1 : World) (r : Int), Below B w0 w1 → Calls Tryd.prog fn (#[.int .i64 r] ++ cb) w1 fun e w' => e = .returned (.bool (f r)) ∧ Below w1.heap.size w1 w'
theorem Says.below {fn : Nat} {cb : Array Value} {B : Nat} {w0 w1 : World} {f : Int → Bool} (h : Says fn cb B w0 f) (hb : Below B w0 w1) : Says fn cb B w1 f := fun w2 r h2 => h w2 r (hb.trans h2)
theorem Says.more {fn : Nat} {cb : Array Value} {B B' : Nat} {w0 : World} {f : Int → Bool} (h : Says fn cb B w0 f) (hB : B ≤ B') : Says fn cb B' w0 f := fun w2 r h2 => h w2 r (h2.mono hB)
/-- But for a colon. -/
def noColon (f : Int → Bool) (r : Int) : Bool := decide (r ≠ 58) && f r
def isStructB (P : Program) (t : TypeId) : Bool := match P.underlying t with | some (.struct _) => true | _ => false
theorem isStruct_of {P : Program} {t : TypeId} (h : isStructB P t = true) : ∃ d, P.underlying t = some (.struct d) := by
  unfold isStructB at h
  split at h
  · exact ⟨_, by assumption⟩
  · cases h
end Go.Proofs.YtljmpghijlibaaaDoor
