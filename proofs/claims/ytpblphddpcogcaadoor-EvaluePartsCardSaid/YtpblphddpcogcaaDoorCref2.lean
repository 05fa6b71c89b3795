/- References to entities at any place. -/
import Derived.Test.YtpblphddpcogcaaDoorRows
import Derived.WalkKit
import Derived.ProofKit
import Derived.OpenShut
import Derived.ShutString
import Derived.ChangeOld
import Derived.Below
import Derived.BigQuiet
import Derived.Deep.QuietTactic
import Derived.Lib.Hide
import Derived.Deep.RegionHeld3
import Derived.Lib.SlBytesConst
import Derived.Laws.CopyOwn
import Derived.Laws.CopyRow
import Derived.Lib.Bytes
import Derived.Deep.LoopGhost
import Derived.Deep.DeepFit
import Derived.Deep.DeepMust
import Derived.WalkSpells
import Derived.WalkLawsBesides
import Derived.Laws.EntriesVeiled
import Derived.Laws.Rows
import Derived.Test.YtpblphddpcogcaaDoorBase
import Derived.Test.YtpblphddpcogcaaDoorShelf
import Derived.Test.YtpblphddpcogcaaDoorCharPlain
import Derived.Test.YtpblphddpcogcaaDoorUtf1
import Derived.Test.YtpblphddpcogcaaDoorUtf2
import Derived.Test.YtpblphddpcogcaaDoorUtf3
import Derived.Test.YtpblphddpcogcaaDoorChars1
import Derived.Test.YtpblphddpcogcaaDoorName1
import Derived.Test.YtpblphddpcogcaaDoorName2
import Derived.Test.YtpblphddpcogcaaDoorName3
import Derived.Test.YtpblphddpcogcaaDoorCref1
import Derived.Test.YtpblphddpcogcaaDoorRef1
import Derived.Test.YtpblphddpcogcaaDoorRef2
import Derived.Test.YtpblphddpcogcaaDoorRef3
import Derived.Test.YtpblphddpcogcaaDoorRef4
import Derived.Test.YtpblphddpcogcaaDoorRef5
import Derived.Test.YtpblphddpcogcaaDoorRef6
import Derived.Test.YtpblphddpcogcaaDoorRef7
import Derived.Test.YtpblphddpcogcaaDoorRef8
import Derived.Test.YtpblphddpcogcaaDoorRef9
namespace Go.Proofs.YtpblphddpcogcaaDoor
open Go.ChangeShapes Go.WideShapes Go.ChangeAt Go.RowKit
set_option linter.unusedVariables false
set_option maxHeartbeats 2000000 in
theorem crefEntity_call (A : Option Addr) (n cap : Nat) (at_ : Int) (w : World) (v : List UInt8 × Nat × Nat)
    (h : Calls Tryd.prog 112 #[.slice A n cap, .int .i64 at_, .int .u8 38] w fun e w' => e = .returned (outV v) ∧ Below w.heap.size w w') :
    Calls Tryd.prog 95 #[.slice A n cap, .int .i64 at_] w fun e w' => e = .returned (outV v) ∧ Below w.heap.size w w' := by
  unfold outV at *
  go_enter Tryd.func95, Tryd.ntmps95
  go_wp2_with fail
  refine h.mono ?_
  rintro e w1 ⟨rfl, hb⟩
  have HB := Lib.hid hb
  clear hb h
  go_wp2
  go_ret3
  exact ⟨rfl, HB.out⟩
/-- What is read of a reference at any place. -/
def refAt (mark : UInt8) (l : List UInt8) (at_ : Int) : List UInt8 × Nat × Nat := if at_ < 0 ∨ (l.length : Int) < at_ then ([], 0, 3) else refOut mark l at_.toNat
theorem crefEntity_c (A : Option Addr) (n cap : Nat) (l : List UInt8) (at_ : Int) (w : World) (h : Byt w w.heap.size A n cap l) (hF : Forms w) (hT : Tabs w) (hm : n ≤ 50000) :
    Calls Tryd.prog 95 #[.slice A n cap, .int .i64 at_] w fun e w' => e = .returned (outV (refAt 38 l at_)) ∧ Below w.heap.size w w' := by
  refine crefEntity_call A n cap at_ w _ ?_
  have hl := h.length
  unfold refAt
  rw [hl]
  by_cases ha : at_ < 0 ∨ (n : Int) < at_
  · rw [if_pos ha]; exact crefRead_range A n cap at_ 38 w ha
  · rw [if_neg ha]
    have := crefRead_c A n cap l at_.toNat 38 w h hF hT hm (by omega)
    rwa [show ((at_.toNat : Nat) : Int) = at_ by omega] at this
theorem refEntityAt_c (A : Option Addr) (n cap : Nat) (l : List UInt8) (at_ : Int) (mark : UInt8) (w : World) (h : Byt w w.heap.size A n cap l) (hm : n ≤ 50000) :
    Calls Tryd.prog 59 #[.slice A n cap, .int .i64 at_, .int .u8 mark.toNat] w fun e w' => e = .returned (outV (refAt mark l at_)) ∧ Below w.heap.size w w' := by
  have hl := h.length
  unfold refAt
  rw [hl]
  by_cases ha : at_ < 0 ∨ (n : Int) < at_
  · rw [if_pos ha]; exact refEntity_range A n cap at_ mark.toNat w ha
  · rw [if_neg ha]
    have := refEntity_c A n cap l at_.toNat mark w h hm (by omega)
    rwa [show ((at_.toNat : Nat) : Int) = at_ by omega] at this
end Go.Proofs.YtpblphddpcogcaaDoor
