/- Texts of ours, joined: Utf2. -/
import Derived.Test.YtocbofeanfdggaaDoorRows
import Derived.WalkKit
import Derived.ProofKit
import Derived.OpenShut
import Derived.ShutString
import Derived.ChangeOld
import Derived.Below
import Derived.BigQuiet
import Derived.Deep.QuietTactic
import Derived.Lib.Hide
import Derived.Deep.RegionHeld3
import Derived.Lib.SlBytesConst
import Derived.Laws.CopyOwn
import Derived.Laws.CopyRow
import Derived.Lib.Bytes
import Derived.Deep.LoopGhost
import Derived.Deep.DeepFit
import Derived.Deep.DeepMust
import Derived.WalkSpells
import Derived.WalkLawsBesides
import Derived.Test.YtocbofeanfdggaaDoorS1
import Derived.Test.YtocbofeanfdggaaDoorS3
/- utf.Decode at every start. -/
namespace Go.Proofs.YtocbofeanfdggaaDoor
open Go.ChangeShapes Go.WideShapes Go.ChangeAt Go.RowKit
set_option linter.unusedVariables false
/-- The table of how many bytes a character has, as memory holds it. -/
def formsRow : List Value := [.int .u8 0, .int .u8 0, .int .i64 0, .int .u8 0, .int .u8 127, .int .i64 0, .int .u8 192, .int .u8 31, .int .i64 128, .int .u8 224, .int .u8 15, .int .i64 2048, .int .u8 240, .int .u8 7, .int .i64 65536]
def Forms (w : World) : Prop := ∀ i u, formsRow[i]? = some u → w.cell? ⟨9, i, none⟩ = some u
theorem Forms.lt {w : World} (h : Forms w) : 9 < w.heap.size := World.block_lt_of_cell? w _ (h 0 _ rfl)
theorem Forms.below {w w' : World} {B : Nat} (h : Forms w) (hb : Below B w w') (hB : 9 < B) : Forms w' := fun i u hu => by rw [hb.cell hB]; exact h i u hu
end Go.Proofs.YtocbofeanfdggaaDoor
