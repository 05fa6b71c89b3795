/- sweep.Blank, the sweeper's state. -/
import Derived.Test.YtmclngahdklfkaaGreatDoorRows
import Derived.Test.YtmclngahdklfkaaGreatDoorQX
import Derived.WalkKit
import Derived.ProofKit
import Derived.OpenShut
import Derived.ShutString
import Derived.ChangeOld
import Derived.Below
import Derived.BigQuiet
import Derived.Deep.QuietTactic
import Derived.Lib.Hide
import Derived.Deep.RegionHeld3
import Derived.Lib.SlBytesConst
import Derived.Laws.CopyOwn
import Derived.Laws.CopyRow
import Derived.Lib.Bytes
import Derived.Deep.LoopGhost
import Derived.Deep.DeepFit
import Derived.Deep.DeepMust
import Derived.WalkSpells
import Derived.WalkLawsBesides
import Derived.Maps.OwnOps
import Derived.Maps.OwnSet
import Derived.Maps.Views
import Derived.Laws.EntriesVeiled
import Derived.Laws.Rows
import Derived.Maps.AppendAt
import Derived.Lib.SmallJoins
import Derived.Deep.AppendLies
import Derived.Deep.RegionLaw
import Derived.Deep.RegionWith
import Derived.Deep.RegionWith
import Derived.Test.YtmclngahdklfkaaGreatDoorQ1
import Derived.Test.YtmclngahdklfkaaGreatDoorQ6
import Derived.Test.YtmclngahdklfkaaGreatDoorQ2
import Derived.Test.YtmclngahdklfkaaGreatDoorQ4
import Derived.Test.YtmclngahdklfkaaGreatDoorQ5
import Derived.Test.YtmclngahdklfkaaGreatDoorQ8
import Derived.Test.YtmclngahdklfkaaGreatDoorQ9
import Derived.Test.YtmclngahdklfkaaGreatDoorQ10
import Derived.Test.YtmclngahdklfkaaGreatDoorQ11
import Derived.Test.YtmclngahdklfkaaGreatDoorQ12
import Derived.Test.YtmclngahdklfkaaGreatDoorQ13
import Derived.Test.YtmclngahdklfkaaGreatDoorQ14
import Derived.Test.YtmclngahdklfkaaGreatDoorQ15
import Derived.Test.YtmclngahdklfkaaGreatDoorQ16
import Derived.Test.YtmclngahdklfkaaGreatDoorQ17
import Derived.Test.YtmclngahdklfkaaGreatDoorQ18
import Derived.Test.YtmclngahdklfkaaGreatDoorQ19
import Derived.Test.YtmclngahdklfkaaGreatDoorQ20
import Derived.Test.YtmclngahdklfkaaGreatDoorQ21
import Derived.Test.YtmclngahdklfkaaGreatDoorQ24
import Derived.Test.YtmclngahdklfkaaGreatDoorQ22
import Derived.Test.YtmclngahdklfkaaGreatDoorQ23
import Derived.Test.YtmclngahdklfkaaGreatDoorQ7
import Derived.Test.YtmclngahdklfkaaGreatDoorQ25
import Derived.Test.YtmclngahdklfkaaGreatDoorTok9
import Derived.Test.YtmclngahdklfkaaGreatDoorTok10
import Derived.Test.YtmclngahdklfkaaGreatDoorTok10b
import Derived.Test.YtmclngahdklfkaaGreatDoorTokQ
import Derived.Test.YtmclngahdklfkaaGreatDoorSwP
import Derived.Test.YtmclngahdklfkaaGreatDoorSw1
namespace Go.Proofs.YtmclngahdklfkaaGreatDoor
open Go.ChangeShapes Go.WideShapes Go.ChangeAt Go.RowKit
set_option linter.unusedVariables false
theorem blankB_c (s : List UInt8) (W : World) (hs : s.length ≤ 500000) : Calls Tryz.prog 24 #[.string ⟨s.toArray⟩] W fun e w' => e = .returned (.bool (blankB s)) ∧ Below W.heap.size W w' := by
  have cv := run_toBytes W s
  have hb1 := Go.Joins.below_bytesWorld W.heap.size W 5 ⟨s.toArray⟩ (Nat.le_refl _)
  have C1 := Lib.hid (blanks_c _ _ _ _ 0 _ _ (byt_new W s (by omega)) (by omega) (Nat.zero_le _))
  have HB := Lib.hid hb1
  have hE : ((blankTo s 0 : Int) == (s.length : Int)) = blankB s := by
    unfold blankB
    rw [Bool.eq_iff_iff]
    simp
    omega
  have HE := Lib.hid hE
  generalize blankTo s 0 = b at *
  clear hb1 hE
  go_enter Tryz.func24, Tryz.ntmps24
  go_wp2_with fail
  refine C1.out.mono ?_
  rintro e wq ⟨rfl, hwq⟩
  subst hwq
  go_wp2
  go_ret
  exact ⟨by simp [← HE.out], HB.out⟩
/-- The sweeper's state: what is open, how many elements stand outside. -/
structure SwJ (sb base : Nat) (whole : Bool) (W : World) (sv : Value) (op : List (List UInt8)) (root : Bool) : Prop where
  sw : W.heap[sb]? = some (.cells #[sv, .int .i64 (if (whole && root) = true then 1 else 0), .bool whole] 78)
  own : OwnS W base sv op
  lt : sb < base
  le : base ≤ W.heap.size
  inv : whole = true → op ≠ [] → root = true
theorem SwJ.kept {sb base : Nat} {whole : Bool} {W W' : World} {sv : Value} {op : List (List UInt8)} {root : Bool} (h : SwJ sb base whole W sv op root) (hb : Below W.heap.size W W') : SwJ sb base whole W' sv op root :=
  ⟨by rw [hb.block _ (lt_of h.sw)]; exact h.sw, h.own.kept hb, h.lt, Nat.le_trans h.le hb.size, h.inv⟩
/-- What 'may' leaves. -/
def MayPost (sb base : Nat) (whole : Bool) (W : World) (sv : Value) (o : Option (List (List UInt8) × Bool)) (e : Ending) (w' : World) : Prop :=
  match o with
  | some (op', root') => e = .returned (.bool true) ∧ ∃ sv', SwJ sb base whole w' sv' op' root' ∧ MF sb W w' sv sv'
  | none => e = .returned (.bool false) ∧ ∃ sv', MF sb W w' sv sv'
end Go.Proofs.YtmclngahdklfkaaGreatDoor
