/- Texts of ours, joined: XdN. -/
import Derived.Test.YtgenpgfhjhcahaaGreatDoorRows
import Derived.WalkKit
import Derived.ProofKit
import Derived.OpenShut
import Derived.ShutString
import Derived.ChangeOld
import Derived.Below
import Derived.BigQuiet
import Derived.Deep.QuietTactic
import Derived.Lib.Hide
import Derived.Deep.RegionHeld3
import Derived.Lib.SlBytesConst
import Derived.Laws.CopyOwn
import Derived.Laws.CopyRow
import Derived.Lib.Bytes
import Derived.Deep.LoopGhost
import Derived.Deep.DeepFit
import Derived.Deep.DeepMust
import Derived.WalkSpells
import Derived.WalkLawsBesides
import Derived.Laws.EntriesVeiled
import Derived.Laws.Rows
import Derived.Deep.RegionWith
import Derived.LoopN
import Derived.Test.YtgenpgfhjhcahaaGreatDoorQ1
import Derived.Test.YtgenpgfhjhcahaaGreatDoorQ8
import Derived.Test.YtgenpgfhjhcahaaGreatDoorQ2
import Derived.Test.YtgenpgfhjhcahaaGreatDoorQ7
import Derived.Test.YtgenpgfhjhcahaaGreatDoorQ9
import Derived.Test.YtgenpgfhjhcahaaGreatDoorQ15
import Derived.Test.YtgenpgfhjhcahaaGreatDoorQ16
import Derived.Test.YtgenpgfhjhcahaaGreatDoorQ17
/- narthex/xdecl.read, way by way. -/
namespace Go.Proofs.YtgenpgfhjhcahaaGreatDoor
open Go.ChangeShapes Go.WideShapes Go.ChangeAt Go.RowKit
set_option linter.unusedVariables false
end Go.Proofs.YtgenpgfhjhcahaaGreatDoor
