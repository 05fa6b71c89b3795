/- The prologs of PrologInner, in plain Lean. -/
import Derived.Test.YtgenpgfhjhcahaaGreatDoorRows
import Derived.WalkKit
import Derived.ProofKit
import Derived.OpenShut
import Derived.ShutString
import Derived.ChangeOld
import Derived.Below
import Derived.BigQuiet
import Derived.Deep.QuietTactic
import Derived.Lib.Hide
import Derived.Deep.RegionHeld3
import Derived.Lib.SlBytesConst
import Derived.Laws.CopyOwn
import Derived.Laws.CopyRow
import Derived.Lib.Bytes
import Derived.Deep.LoopGhost
import Derived.Deep.DeepFit
import Derived.Deep.DeepMust
import Derived.WalkSpells
import Derived.WalkLawsBesides
import Derived.Laws.EntriesVeiled
import Derived.Laws.Rows
import Derived.Test.YtgenpgfhjhcahaaGreatDoorQ1
import Derived.Test.YtgenpgfhjhcahaaGreatDoorQ2
import Derived.Test.YtgenpgfhjhcahaaGreatDoorQ7
import Derived.Test.YtgenpgfhjhcahaaGreatDoorQ8
import Derived.Test.YtgenpgfhjhcahaaGreatDoorQ4
import Derived.Test.YtgenpgfhjhcahaaGreatDoorQ3
import Derived.Test.YtgenpgfhjhcahaaGreatDoorQ5
import Derived.Test.YtgenpgfhjhcahaaGreatDoorQ9
import Derived.Test.YtgenpgfhjhcahaaGreatDoorQ10
import Derived.Test.YtgenpgfhjhcahaaGreatDoorQ11
namespace Go.Proofs.YtgenpgfhjhcahaaGreatDoor
open Go.ChangeShapes Go.WideShapes Go.ChangeAt Go.RowKit
set_option linter.unusedVariables false
/-- A text, so often. -/
def repL (s : List UInt8) : Nat → List UInt8
  | 0 => []
  | k + 1 => repL s k ++ s
/-- The prologs of the statement. -/
def docP (a b c : Nat) : List UInt8 :=
  repL [60, 33, 45, 45, 97, 45, 45, 62, 32] a ++ [60, 33, 68, 79, 67, 84, 89, 80, 69, 32, 114, 32, 91] ++ repL [60, 33, 45, 45, 98, 45, 45, 62, 60, 63, 98, 63, 62] b ++ [93, 62] ++ repL [10, 60, 63, 99, 32, 100, 63, 62] c ++ [60, 114, 47, 62]
instance : DecidableEq MisT := fun x y => decidable_of_iff (x.kind = y.kind ∧ x.name = y.name ∧ x.text = y.text) ⟨fun h => by cases x; cases y; simp_all, fun h => by cases h; simp⟩
/-- Where a prolog's parts lie: ahead of the document type, behind its bracket, behind the declarations, its end, the content. -/
def placesP (l : List UInt8) : (List MisT × Nat × Nat) × Nat × Nat × (List MisT × Nat × Nat) :=
  let p1 := miscOut l 0
  let t2 := blankTo l (p1.2.1 + 9 + 1 + 1) + 1
  let p2 := miscOut l t2
  let t3 := blankTo l (p2.2.1 + 1) + 1
  (p1, t2, p2.2.1, miscOut l t3)
def wantP (a b c : Nat) : (List MisT × Nat × Nat) × Nat × Nat × (List MisT × Nat × Nat) :=
  ((List.replicate a ⟨5, [], [97]⟩, 9 * a, 0), 9 * a + 13, 9 * a + 13 + 13 * b, (List.replicate c ⟨4, [99], [100]⟩, 9 * a + 15 + 13 * b + 8 * c, 0))
theorem placesP_all : ∀ a b c : Fin 4, placesP (docP a b c) = wantP a b c := by decide +kernel
end Go.Proofs.YtgenpgfhjhcahaaGreatDoor
