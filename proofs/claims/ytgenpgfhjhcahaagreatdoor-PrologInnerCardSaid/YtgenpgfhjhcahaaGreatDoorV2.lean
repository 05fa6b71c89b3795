/- The law PrologInner. -/
import Derived.Test.YtgenpgfhjhcahaaGreatDoorRows
import Derived.WalkKit
import Derived.ProofKit
import Derived.OpenShut
import Derived.ShutString
import Derived.ChangeOld
import Derived.Below
import Derived.BigQuiet
import Derived.Deep.QuietTactic
import Derived.Lib.Hide
import Derived.Deep.RegionHeld3
import Derived.Lib.SlBytesConst
import Derived.Laws.CopyOwn
import Derived.Laws.CopyRow
import Derived.Lib.Bytes
import Derived.Deep.LoopGhost
import Derived.Deep.DeepFit
import Derived.Deep.DeepMust
import Derived.WalkSpells
import Derived.WalkLawsBesides
import Derived.Laws.EntriesVeiled
import Derived.Laws.Rows
import Derived.Maps.OwnOps
import Derived.Maps.OwnSet
import Derived.Maps.Views
import Derived.Maps.AppendAt
import Derived.Deep.AppendLies
import Derived.DeepKeys4
import Derived.MapViews
import Derived.Maps.Keyed
import Derived.Deep.RegionLaw
import Derived.Deep.RegionWith
import Derived.StillTailTactics
import Derived.Deep.CutRange
import Derived.IntWalk
import Derived.Laws.MakeOwn
import Derived.Laws.OwnMore
import Derived.Deep.MidRow
import Derived.Test.YtgenpgfhjhcahaaGreatDoorQ1
import Derived.Test.YtgenpgfhjhcahaaGreatDoorQ2
import Derived.Test.YtgenpgfhjhcahaaGreatDoorQ7
import Derived.Test.YtgenpgfhjhcahaaGreatDoorQ8
import Derived.Test.YtgenpgfhjhcahaaGreatDoorQ4
import Derived.Test.YtgenpgfhjhcahaaGreatDoorQ3
import Derived.Test.YtgenpgfhjhcahaaGreatDoorQ5
import Derived.Test.YtgenpgfhjhcahaaGreatDoorQ9
import Derived.Test.YtgenpgfhjhcahaaGreatDoorQ10
import Derived.Test.YtgenpgfhjhcahaaGreatDoorQ11
import Derived.Test.YtgenpgfhjhcahaaGreatDoorQ12
import Derived.Test.YtgenpgfhjhcahaaGreatDoorQ14
import Derived.Test.YtgenpgfhjhcahaaGreatDoorQ15
import Derived.Test.YtgenpgfhjhcahaaGreatDoorQ16
import Derived.Test.YtgenpgfhjhcahaaGreatDoorQ17
import Derived.Test.YtgenpgfhjhcahaaGreatDoorQ18
import Derived.Test.YtgenpgfhjhcahaaGreatDoorQ20
import Derived.Test.YtgenpgfhjhcahaaGreatDoorQ21
import Derived.Test.YtgenpgfhjhcahaaGreatDoorQ22
import Derived.Test.YtgenpgfhjhcahaaGreatDoorQ25
import Derived.Test.YtgenpgfhjhcahaaGreatDoorQ26
import Derived.Test.YtgenpgfhjhcahaaGreatDoorQ27
import Derived.Test.YtgenpgfhjhcahaaGreatDoorQ28
import Derived.Test.YtgenpgfhjhcahaaGreatDoorQ29
import Derived.Test.YtgenpgfhjhcahaaGreatDoorQ30
import Derived.Test.YtgenpgfhjhcahaaGreatDoorV1
namespace Go.Proofs.YtgenpgfhjhcahaaGreatDoor
open Go.ChangeShapes Go.WideShapes Go.ChangeAt Go.RowKit
set_option linter.unusedVariables false
instance : DecidableEq DeclL := fun x y => decidable_of_iff (x.has = y.has ∧ x.ver = y.ver ∧ x.enc = y.enc ∧ x.alone = y.alone) ⟨fun h => by cases x; cases y; simp_all, fun h => by cases h; simp⟩
/-- The prologs of the statement are read as they were made. -/
def rdAtB (a b c : Nat) : Bool :=
  let l := docP a b c
  decide (declAt false l 0 = (noDecl, 0, 0)) && decide (miscOut l 0 = (List.replicate a ⟨5, [], [97]⟩, 9 * a, 0)) &&
  [60, 33, 68, 79, 67, 84, 89, 80, 69].isPrefixOf (l.drop (9 * a)) && decide (blankTo l (9 * a + 9) = 9 * a + 10) && decide (nameOut l (9 * a + 10) = ([114], 9 * a + 11, 0)) && decide (9 * a + 11 ≤ l.length) && decide (blankTo l (9 * a + 11) = 9 * a + 12) && decide (l[9 * a + 12]? = some 91) &&
  decide ((miscOut l (9 * a + 12 + 1)).2 = (9 * a + 13 + 13 * b, 0)) && decide (l[9 * a + 13 + 13 * b]? = some 93) && decide (blankTo l (9 * a + 13 + 13 * b + 1) = 9 * a + 14 + 13 * b) && decide (l[9 * a + 14 + 13 * b]? = some 62) &&
  decide (miscOut l (9 * a + 14 + 13 * b + 1) = (List.replicate c ⟨4, [99], [100]⟩, 9 * a + 15 + 13 * b + 8 * c, 0)) && !([60, 33, 68, 79, 67, 84, 89, 80, 69].isPrefixOf (l.drop (9 * a + 15 + 13 * b + 8 * c))) && decide (l.length = 9 * a + 15 + 13 * b + 8 * c + 4)
theorem rdAtB_all : ∀ a b c : Fin 4, rdAtB a b c = true := by decide +kernel
theorem rdAt_of {a b c : Nat} (ha : a < 4) (hb : b < 4) (hc : c < 4) : RdAt (docP a b c) noDecl 0 (List.replicate a ⟨5, [], [97]⟩) (9 * a) (9 * a + 10) (9 * a + 11) (9 * a + 12) [114] (9 * a + 13 + 13 * b) (9 * a + 14 + 13 * b) (List.replicate c ⟨4, [99], [100]⟩) (9 * a + 15 + 13 * b + 8 * c) ∧ (docP a b c).length = 9 * a + 15 + 13 * b + 8 * c + 4 := by
  have h := rdAtB_all ⟨a, ha⟩ ⟨b, hb⟩ ⟨c, hc⟩
  unfold rdAtB at h
  simp only [Bool.and_eq_true, decide_eq_true_eq, Bool.not_eq_true'] at h
  obtain ⟨⟨⟨⟨⟨⟨⟨⟨⟨⟨⟨⟨⟨⟨h1, h2⟩, h3⟩, h4⟩, h5⟩, h6⟩, h7⟩, h8⟩, h9⟩, h10⟩, h11⟩, h12⟩, h13⟩, h14⟩, h15⟩ := h
  exact ⟨⟨h1, Nat.zero_le _, h2, ⟨h3, h4, by omega, h5, h6, h7, h8⟩, h9, h10, h11, h12, h13, h14⟩, h15⟩
end Go.Proofs.YtgenpgfhjhcahaaGreatDoor
