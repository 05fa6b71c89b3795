/- The document's characters. -/
import Derived.Test.YtljmpghijlibaaaDoorRows
import Derived.WalkKit
import Derived.ProofKit
import Derived.OpenShut
import Derived.ShutString
import Derived.ChangeOld
import Derived.Below
import Derived.BigQuiet
import Derived.Deep.QuietTactic
import Derived.Lib.Hide
import Derived.Deep.RegionHeld3
import Derived.Lib.SlBytesConst
import Derived.Laws.CopyOwn
import Derived.Laws.CopyRow
import Derived.Lib.Bytes
import Derived.Deep.LoopGhost
import Derived.Deep.DeepFit
import Derived.Deep.DeepMust
import Derived.WalkSpells
import Derived.WalkLawsBesides
import Derived.Laws.EntriesVeiled
import Derived.Laws.Rows
import Derived.Test.YtljmpghijlibaaaDoorBase
import Derived.Test.YtljmpghijlibaaaDoorShelf
import Derived.Test.YtljmpghijlibaaaDoorCharPlain
import Derived.Test.YtljmpghijlibaaaDoorUtf1
import Derived.Test.YtljmpghijlibaaaDoorUtf2
import Derived.Test.YtljmpghijlibaaaDoorUtf3
import Derived.Test.YtljmpghijlibaaaDoorChars1
namespace Go.Proofs.YtljmpghijlibaaaDoor
open Go.ChangeShapes Go.WideShapes Go.ChangeAt Go.RowKit
set_option linter.unusedVariables false
theorem isDoc_iff (r : Int) : isDoc r = true ↔ ((9 ≤ r ∧ r ≤ 10) ∨ (13 ≤ r ∧ r ≤ 13) ∨ (32 ≤ r ∧ r ≤ 55295) ∨ (57344 ≤ r ∧ r ≤ 65533) ∨ (65536 ≤ r ∧ r ≤ 1114111)) := by
  simp [isDoc, inTab, tabDocs]
theorem isStart_iff (r : Int) : isStart r = true ↔ ((58 ≤ r ∧ r ≤ 58) ∨ (65 ≤ r ∧ r ≤ 90) ∨ (95 ≤ r ∧ r ≤ 95) ∨ (97 ≤ r ∧ r ≤ 122) ∨ (192 ≤ r ∧ r ≤ 214) ∨ (216 ≤ r ∧ r ≤ 246) ∨ (248 ≤ r ∧ r ≤ 767) ∨ (880 ≤ r ∧ r ≤ 893) ∨ (895 ≤ r ∧ r ≤ 8191) ∨ (8204 ≤ r ∧ r ≤ 8205) ∨ (8304 ≤ r ∧ r ≤ 8591) ∨ (11264 ≤ r ∧ r ≤ 12271) ∨ (12289 ≤ r ∧ r ≤ 55295) ∨ (63744 ≤ r ∧ r ≤ 64975) ∨ (65008 ≤ r ∧ r ≤ 65533) ∨ (65536 ≤ r ∧ r ≤ 983039)) := by
  simp [isStart, inTab, tabStarts]
def isMoreOnly (r : Int) : Bool := inTab tabMore r
theorem isMoreOnly_iff (r : Int) : isMoreOnly r = true ↔ ((45 ≤ r ∧ r ≤ 46) ∨ (48 ≤ r ∧ r ≤ 57) ∨ (183 ≤ r ∧ r ≤ 183) ∨ (768 ≤ r ∧ r ≤ 879) ∨ (8255 ≤ r ∧ r ≤ 8256)) := by
  simp [isMoreOnly, inTab, tabMore]
set_option maxRecDepth 100000 in
set_option maxHeartbeats 4000000 in
theorem refChar_c (r : Int) (w : World) : Calls Tryd.prog 51 #[.int .i64 r] w fun e w' => e = .returned (.bool (isDoc r)) ∧ w = w' := by
  rcases (show r ≤ 8 ∨ r = 9 ∨ r = 10 ∨ (11 ≤ r ∧ r ≤ 12) ∨ r = 13 ∨ (14 ≤ r ∧ r ≤ 31) ∨ (32 ≤ r ∧ r ≤ 55295) ∨ (55296 ≤ r ∧ r ≤ 57343) ∨ (57344 ≤ r ∧ r ≤ 65533) ∨ (65534 ≤ r ∧ r ≤ 65535) ∨ (65536 ≤ r ∧ r ≤ 1114111) ∨ 1114112 ≤ r by omega) with h | h | h | h | h | h | h | h | h | h | h | h
  · have e : isDoc r = false := by
      rw [Bool.eq_false_iff, Ne, isDoc_iff]; omega
    rw [e]
    have a0 : (r == 9) = false := by first | (simp; omega) | (simp [h]; done)
    have a1 : (r == 10) = false := by first | (simp; omega) | (simp [h]; done)
    have a2 : (r == 13) = false := by first | (simp; omega) | (simp [h]; done)
    have a3 : decide (32 ≤ r) = false := by first | (simp; omega) | (simp [h]; done)
    have a4 : decide (r ≤ 55295) = true := by first | (simp; omega) | (simp [h]; done)
    have a5 : decide (57344 ≤ r) = false := by first | (simp; omega) | (simp [h]; done)
    have a6 : decide (r ≤ 65533) = true := by first | (simp; omega) | (simp [h]; done)
    have a7 : decide (65536 ≤ r) = false := by first | (simp; omega) | (simp [h]; done)
    have a8 : decide (r ≤ 1114111) = true := by first | (simp; omega) | (simp [h]; done)
    clear e h
    go_enter Tryd.func51, Tryd.ntmps51
    go_wp2
    go_ret
    exact ⟨rfl, rfl⟩
  · have e : isDoc r = true := by
      rw [isDoc_iff]; omega
    rw [e]
    have a0 : (r == 9) = true := by first | (simp; omega) | (simp [h]; done)
    have a1 : (r == 10) = false := by first | (simp; omega) | (simp [h]; done)
    have a2 : (r == 13) = false := by first | (simp; omega) | (simp [h]; done)
    have a3 : decide (32 ≤ r) = false := by first | (simp; omega) | (simp [h]; done)
    have a4 : decide (r ≤ 55295) = true := by first | (simp; omega) | (simp [h]; done)
    have a5 : decide (57344 ≤ r) = false := by first | (simp; omega) | (simp [h]; done)
    have a6 : decide (r ≤ 65533) = true := by first | (simp; omega) | (simp [h]; done)
    have a7 : decide (65536 ≤ r) = false := by first | (simp; omega) | (simp [h]; done)
    have a8 : decide (r ≤ 1114111) = true := by first | (simp; omega) | (simp [h]; done)
    clear e h
    go_enter Tryd.func51, Tryd.ntmps51
    go_wp2
    go_ret
    exact ⟨rfl, rfl⟩
  · have e : isDoc r = true := by
      rw [isDoc_iff]; omega
    rw [e]
    have a0 : (r == 9) = false := by first | (simp; omega) | (simp [h]; done)
    have a1 : (r == 10) = true := by first | (simp; omega) | (simp [h]; done)
    have a2 : (r == 13) = false := by first | (simp; omega) | (simp [h]; done)
    have a3 : decide (32 ≤ r) = false := by first | (simp; omega) | (simp [h]; done)
    have a4 : decide (r ≤ 55295) = true := by first | (simp; omega) | (simp [h]; done)
    have a5 : decide (57344 ≤ r) = false := by first | (simp; omega) | (simp [h]; done)
    have a6 : decide (r ≤ 65533) = true := by first | (simp; omega) | (simp [h]; done)
    have a7 : decide (65536 ≤ r) = false := by first | (simp; omega) | (simp [h]; done)
    have a8 : decide (r ≤ 1114111) = true := by first | (simp; omega) | (simp [h]; done)
    clear e h
    go_enter Tryd.func51, Tryd.ntmps51
    go_wp2
    go_ret
    exact ⟨rfl, rfl⟩
  · have e : isDoc r = false := by
      rw [Bool.eq_false_iff, Ne, isDoc_iff]; omega
    rw [e]
    have a0 : (r == 9) = false := by first | (simp; omega) | (simp [h]; done)
    have a1 : (r == 10) = false := by first | (simp; omega) | (simp [h]; done)
    have a2 : (r == 13) = false := by first | (simp; omega) | (simp [h]; done)
    have a3 : decide (32 ≤ r) = false := by first | (simp; omega) | (simp [h]; done)
    have a4 : decide (r ≤ 55295) = true := by first | (simp; omega) | (simp [h]; done)
    have a5 : decide (57344 ≤ r) = false := by first | (simp; omega) | (simp [h]; done)
    have a6 : decide (r ≤ 65533) = true := by first | (simp; omega) | (simp [h]; done)
    have a7 : decide (65536 ≤ r) = false := by first | (simp; omega) | (simp [h]; done)
    have a8 : decide (r ≤ 1114111) = true := by first | (simp; omega) | (simp [h]; done)
    clear e h
    go_enter Tryd.func51, Tryd.ntmps51
    go_wp2
    go_ret
    exact ⟨rfl, rfl⟩
  · have e : isDoc r = true := by
      rw [isDoc_iff]; omega
    rw [e]
    have a0 : (r == 9) = false := by first | (simp; omega) | (simp [h]; done)
    have a1 : (r == 10) = false := by first | (simp; omega) | (simp [h]; done)
    have a2 : (r == 13) = true := by first | (simp; omega) | (simp [h]; done)
    have a3 : decide (32 ≤ r) = false := by first | (simp; omega) | (simp [h]; done)
    have a4 : decide (r ≤ 55295) = true := by first | (simp; omega) | (simp [h]; done)
    have a5 : decide (57344 ≤ r) = false := by first | (simp; omega) | (simp [h]; done)
    have a6 : decide (r ≤ 65533) = true := by first | (simp; omega) | (simp [h]; done)
    have a7 : decide (65536 ≤ r) = false := by first | (simp; omega) | (simp [h]; done)
    have a8 : decide (r ≤ 1114111) = true := by first | (simp; omega) | (simp [h]; done)
    clear e h
    go_enter Tryd.func51, Tryd.ntmps51
    go_wp2
    go_ret
    exact ⟨rfl, rfl⟩
  · have e : isDoc r = false := by
      rw [Bool.eq_false_iff, Ne, isDoc_iff]; omega
    rw [e]
    have a0 : (r == 9) = false := by first | (simp; omega) | (simp [h]; done)
    have a1 : (r == 10) = false := by first | (simp; omega) | (simp [h]; done)
    have a2 : (r == 13) = false := by first | (simp; omega) | (simp [h]; done)
    have a3 : decide (32 ≤ r) = false := by first | (simp; omega) | (simp [h]; done)
    have a4 : decide (r ≤ 55295) = true := by first | (simp; omega) | (simp [h]; done)
    have a5 : decide (57344 ≤ r) = false := by first | (simp; omega) | (simp [h]; done)
    have a6 : decide (r ≤ 65533) = true := by first | (simp; omega) | (simp [h]; done)
    have a7 : decide (65536 ≤ r) = false := by first | (simp; omega) | (simp [h]; done)
    have a8 : decide (r ≤ 1114111) = true := by first | (simp; omega) | (simp [h]; done)
    clear e h
    go_enter Tryd.func51, Tryd.ntmps51
    go_wp2
    go_ret
    exact ⟨rfl, rfl⟩
  · have e : isDoc r = true := by
      rw [isDoc_iff]; omega
    rw [e]
    have a0 : (r == 9) = false := by first | (simp; omega) | (simp [h]; done)
    have a1 : (r == 10) = false := by first | (simp; omega) | (simp [h]; done)
    have a2 : (r == 13) = false := by first | (simp; omega) | (simp [h]; done)
    have a3 : decide (32 ≤ r) = true := by first | (simp; omega) | (simp [h]; done)
    have a4 : decide (r ≤ 55295) = true := by first | (simp; omega) | (simp [h]; done)
    have a5 : decide (57344 ≤ r) = false := by first | (simp; omega) | (simp [h]; done)
    have a6 : decide (r ≤ 65533) = true := by first | (simp; omega) | (simp [h]; done)
    have a7 : decide (65536 ≤ r) = false := by first | (simp; omega) | (simp [h]; done)
    have a8 : decide (r ≤ 1114111) = true := by first | (simp; omega) | (simp [h]; done)
    clear e h
    go_enter Tryd.func51, Tryd.ntmps51
    go_wp2
    go_ret
    exact ⟨rfl, rfl⟩
  · have e : isDoc r = false := by
      rw [Bool.eq_false_iff, Ne, isDoc_iff]; omega
    rw [e]
    have a0 : (r == 9) = false := by first | (simp; omega) | (simp [h]; done)
    have a1 : (r == 10) = false := by first | (simp; omega) | (simp [h]; done)
    have a2 : (r == 13) = false := by first | (simp; omega) | (simp [h]; done)
    have a3 : decide (32 ≤ r) = true := by first | (simp; omega) | (simp [h]; done)
    have a4 : decide (r ≤ 55295) = false := by first | (simp; omega) | (simp [h]; done)
    have a5 : decide (57344 ≤ r) = false := by first | (simp; omega) | (simp [h]; done)
    have a6 : decide (r ≤ 65533) = true := by first | (simp; omega) | (simp [h]; done)
    have a7 : decide (65536 ≤ r) = false := by first | (simp; omega) | (simp [h]; done)
    have a8 : decide (r ≤ 1114111) = true := by first | (simp; omega) | (simp [h]; done)
    clear e h
    go_enter Tryd.func51, Tryd.ntmps51
    go_wp2
    go_ret
    exact ⟨rfl, rfl⟩
  · have e : isDoc r = true := by
      rw [isDoc_iff]; omega
    rw [e]
    have a0 : (r == 9) = false := by first | (simp; omega) | (simp [h]; done)
    have a1 : (r == 10) = false := by first | (simp; omega) | (simp [h]; done)
    have a2 : (r == 13) = false := by first | (simp; omega) | (simp [h]; done)
    have a3 : decide (32 ≤ r) = true := by first | (simp; omega) | (simp [h]; done)
    have a4 : decide (r ≤ 55295) = false := by first | (simp; omega) | (simp [h]; done)
    have a5 : decide (57344 ≤ r) = true := by first | (simp; omega) | (simp [h]; done)
    have a6 : decide (r ≤ 65533) = true := by first | (simp; omega) | (simp [h]; done)
    have a7 : decide (65536 ≤ r) = false := by first | (simp; omega) | (simp [h]; done)
    have a8 : decide (r ≤ 1114111) = true := by first | (simp; omega) | (simp [h]; done)
    clear e h
    go_enter Tryd.func51, Tryd.ntmps51
    go_wp2
    go_ret
    exact ⟨rfl, rfl⟩
  · have e : isDoc r = false := by
      rw [Bool.eq_false_iff, Ne, isDoc_iff]; omega
    rw [e]
    have a0 : (r == 9) = false := by first | (simp; omega) | (simp [h]; done)
    have a1 : (r == 10) = false := by first | (simp; omega) | (simp [h]; done)
    have a2 : (r == 13) = false := by first | (simp; omega) | (simp [h]; done)
    have a3 : decide (32 ≤ r) = true := by first | (simp; omega) | (simp [h]; done)
    have a4 : decide (r ≤ 55295) = false := by first | (simp; omega) | (simp [h]; done)
    have a5 : decide (57344 ≤ r) = true := by first | (simp; omega) | (simp [h]; done)
    have a6 : decide (r ≤ 65533) = false := by first | (simp; omega) | (simp [h]; done)
    have a7 : decide (65536 ≤ r) = false := by first | (simp; omega) | (simp [h]; done)
    have a8 : decide (r ≤ 1114111) = true := by first | (simp; omega) | (simp [h]; done)
    clear e h
    go_enter Tryd.func51, Tryd.ntmps51
    go_wp2
    go_ret
    exact ⟨rfl, rfl⟩
  · have e : isDoc r = true := by
      rw [isDoc_iff]; omega
    rw [e]
    have a0 : (r == 9) = false := by first | (simp; omega) | (simp [h]; done)
    have a1 : (r == 10) = false := by first | (simp; omega) | (simp [h]; done)
    have a2 : (r == 13) = false := by first | (simp; omega) | (simp [h]; done)
    have a3 : decide (32 ≤ r) = true := by first | (simp; omega) | (simp [h]; done)
    have a4 : decide (r ≤ 55295) = false := by first | (simp; omega) | (simp [h]; done)
    have a5 : decide (57344 ≤ r) = true := by first | (simp; omega) | (simp [h]; done)
    have a6 : decide (r ≤ 65533) = false := by first | (simp; omega) | (simp [h]; done)
    have a7 : decide (65536 ≤ r) = true := by first | (simp; omega) | (simp [h]; done)
    have a8 : decide (r ≤ 1114111) = true := by first | (simp; omega) | (simp [h]; done)
    clear e h
    go_enter Tryd.func51, Tryd.ntmps51
    go_wp2
    go_ret
    exact ⟨rfl, rfl⟩
  · have e : isDoc r = false := by
      rw [Bool.eq_false_iff, Ne, isDoc_iff]; omega
    rw [e]
    have a0 : (r == 9) = false := by first | (simp; omega) | (simp [h]; done)
    have a1 : (r == 10) = false := by first | (simp; omega) | (simp [h]; done)
    have a2 : (r == 13) = false := by first | (simp; omega) | (simp [h]; done)
    have a3 : decide (32 ≤ r) = true := by first | (simp; omega) | (simp [h]; done)
    have a4 : decide (r ≤ 55295) = false := by first | (simp; omega) | (simp [h]; done)
    have a5 : decide (57344 ≤ r) = true := by first | (simp; omega) | (simp [h]; done)
    have a6 : decide (r ≤ 65533) = false := by first | (simp; omega) | (simp [h]; done)
    have a7 : decide (65536 ≤ r) = true := by first | (simp; omega) | (simp [h]; done)
    have a8 : decide (r ≤ 1114111) = false := by first | (simp; omega) | (simp [h]; done)
    clear e h
    go_enter Tryd.func51, Tryd.ntmps51
    go_wp2
    go_ret
    exact ⟨rfl, rfl⟩
end Go.Proofs.YtljmpghijlibaaaDoor
