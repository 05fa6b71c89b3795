/- Digits. -/
import Derived.Test.YtpblphddpcogcaaDoorRows
import Derived.WalkKit
import Derived.ProofKit
import Derived.OpenShut
import Derived.ShutString
import Derived.ChangeOld
import Derived.Below
import Derived.BigQuiet
import Derived.Deep.QuietTactic
import Derived.Lib.Hide
import Derived.Deep.RegionHeld3
import Derived.Lib.SlBytesConst
import Derived.Laws.CopyOwn
import Derived.Laws.CopyRow
import Derived.Lib.Bytes
import Derived.Deep.LoopGhost
import Derived.Deep.DeepFit
import Derived.Deep.DeepMust
import Derived.WalkSpells
import Derived.WalkLawsBesides
import Derived.Laws.EntriesVeiled
import Derived.Laws.Rows
import Derived.Test.YtpblphddpcogcaaDoorBase
import Derived.Test.YtpblphddpcogcaaDoorShelf
import Derived.Test.YtpblphddpcogcaaDoorCharPlain
import Derived.Test.YtpblphddpcogcaaDoorUtf1
import Derived.Test.YtpblphddpcogcaaDoorUtf2
import Derived.Test.YtpblphddpcogcaaDoorUtf3
import Derived.Test.YtpblphddpcogcaaDoorChars1
import Derived.Test.YtpblphddpcogcaaDoorName1
import Derived.Test.YtpblphddpcogcaaDoorName2
import Derived.Test.YtpblphddpcogcaaDoorName3
import Derived.Test.YtpblphddpcogcaaDoorCref1
namespace Go.Proofs.YtpblphddpcogcaaDoor
open Go.ChangeShapes Go.WideShapes Go.ChangeAt Go.RowKit
set_option linter.unusedVariables false
/-- What a digit says to a base. -/
def digit (b : Int) (r : Int) : Int :=
  if 48 ≤ r ∧ r ≤ 57 then r - 48 else if 97 ≤ r ∧ r ≤ 102 then (if b = 16 then r - 87 else -1) else if 65 ≤ r ∧ r ≤ 70 then (if b = 16 then r - 55 else -1) else -1
set_option maxRecDepth 100000 in
set_option maxHeartbeats 4000000 in
theorem digit10_c (r : Int) (w : World) : Calls Tryd.prog 98 #[.int .i64 r, .int .i64 10] w fun e w' => e = .returned (.int .i64 (digit 10 r)) ∧ w = w' := by
  rcases (show r ≤ 47 ∨ (48 ≤ r ∧ r ≤ 57) ∨ (58 ≤ r ∧ r ≤ 64) ∨ (65 ≤ r ∧ r ≤ 70) ∨ (71 ≤ r ∧ r ≤ 96) ∨ (97 ≤ r ∧ r ≤ 102) ∨ 103 ≤ r by omega) with h | h | h | h | h | h | h
  · have e : digit 10 r = -1 := by unfold digit; (repeat' split) <;> omega
    rw [e]
    have a0 : decide (48 ≤ r) = false := by simp; omega
    have a1 : decide (r ≤ 57) = true := by simp; omega
    have a2 : decide (97 ≤ r) = false := by simp; omega
    have a3 : decide (r ≤ 102) = true := by simp; omega
    have a4 : decide (65 ≤ r) = false := by simp; omega
    have a5 : decide (r ≤ 70) = true := by simp; omega
    clear e h
    go_enter Tryd.func98, Tryd.ntmps98
    go_wp2
    go_ret
    exact ⟨rfl, rfl⟩
  · have e : digit 10 r = r - 48 := by unfold digit; (repeat' split) <;> omega
    rw [e]
    have a0 : decide (48 ≤ r) = true := by simp; omega
    have a1 : decide (r ≤ 57) = true := by simp; omega
    have a2 : decide (97 ≤ r) = false := by simp; omega
    have a3 : decide (r ≤ 102) = true := by simp; omega
    have a4 : decide (65 ≤ r) = false := by simp; omega
    have a5 : decide (r ≤ 70) = true := by simp; omega
    have b0 : decide (10 ≤ r - 48) = false := by simp; omega
    have c0 : -1000 ≤ r ∧ r ≤ 1000 := by omega
    obtain ⟨c1, c2⟩ := c0
    clear e h
    go_enter Tryd.func98, Tryd.ntmps98
    go_wp2
    go_ret
    exact ⟨rfl, rfl⟩
  · have e : digit 10 r = -1 := by unfold digit; (repeat' split) <;> omega
    rw [e]
    have a0 : decide (48 ≤ r) = true := by simp; omega
    have a1 : decide (r ≤ 57) = false := by simp; omega
    have a2 : decide (97 ≤ r) = false := by simp; omega
    have a3 : decide (r ≤ 102) = true := by simp; omega
    have a4 : decide (65 ≤ r) = false := by simp; omega
    have a5 : decide (r ≤ 70) = true := by simp; omega
    clear e h
    go_enter Tryd.func98, Tryd.ntmps98
    go_wp2
    go_ret
    exact ⟨rfl, rfl⟩
  · have e : digit 10 r = -1 := by unfold digit; (repeat' split) <;> omega
    rw [e]
    have a0 : decide (48 ≤ r) = true := by simp; omega
    have a1 : decide (r ≤ 57) = false := by simp; omega
    have a2 : decide (97 ≤ r) = false := by simp; omega
    have a3 : decide (r ≤ 102) = true := by simp; omega
    have a4 : decide (65 ≤ r) = true := by simp; omega
    have a5 : decide (r ≤ 70) = true := by simp; omega
    have b0 : decide (10 ≤ r - 65 + 10) = true := by simp; omega
    have c0 : -1000 ≤ r ∧ r ≤ 1000 := by omega
    obtain ⟨c1, c2⟩ := c0
    clear e h
    go_enter Tryd.func98, Tryd.ntmps98
    go_wp2
    go_ret
    exact ⟨rfl, rfl⟩
  · have e : digit 10 r = -1 := by unfold digit; (repeat' split) <;> omega
    rw [e]
    have a0 : decide (48 ≤ r) = true := by simp; omega
    have a1 : decide (r ≤ 57) = false := by simp; omega
    have a2 : decide (97 ≤ r) = false := by simp; omega
    have a3 : decide (r ≤ 102) = true := by simp; omega
    have a4 : decide (65 ≤ r) = true := by simp; omega
    have a5 : decide (r ≤ 70) = false := by simp; omega
    clear e h
    go_enter Tryd.func98, Tryd.ntmps98
    go_wp2
    go_ret
    exact ⟨rfl, rfl⟩
  · have e : digit 10 r = -1 := by unfold digit; (repeat' split) <;> omega
    rw [e]
    have a0 : decide (48 ≤ r) = true := by simp; omega
    have a1 : decide (r ≤ 57) = false := by simp; omega
    have a2 : decide (97 ≤ r) = true := by simp; omega
    have a3 : decide (r ≤ 102) = true := by simp; omega
    have a4 : decide (65 ≤ r) = true := by simp; omega
    have a5 : decide (r ≤ 70) = false := by simp; omega
    have b0 : decide (10 ≤ r - 97 + 10) = true := by simp; omega
    have c0 : -1000 ≤ r ∧ r ≤ 1000 := by omega
    obtain ⟨c1, c2⟩ := c0
    clear e h
    go_enter Tryd.func98, Tryd.ntmps98
    go_wp2
    go_ret
    exact ⟨rfl, rfl⟩
  · have e : digit 10 r = -1 := by unfold digit; (repeat' split) <;> omega
    rw [e]
    have a0 : decide (48 ≤ r) = true := by simp; omega
    have a1 : decide (r ≤ 57) = false := by simp; omega
    have a2 : decide (97 ≤ r) = true := by simp; omega
    have a3 : decide (r ≤ 102) = false := by simp; omega
    have a4 : decide (65 ≤ r) = true := by simp; omega
    have a5 : decide (r ≤ 70) = false := by simp; omega
    clear e h
    go_enter Tryd.func98, Tryd.ntmps98
    go_wp2
    go_ret
    exact ⟨rfl, rfl⟩
set_option maxRecDepth 100000 in
set_option maxHeartbeats 4000000 in
theorem digit16_c (r : Int) (w : World) : Calls Tryd.prog 98 #[.int .i64 r, .int .i64 16] w fun e w' => e = .returned (.int .i64 (digit 16 r)) ∧ w = w' := by
  rcases (show r ≤ 47 ∨ (48 ≤ r ∧ r ≤ 57) ∨ (58 ≤ r ∧ r ≤ 64) ∨ (65 ≤ r ∧ r ≤ 70) ∨ (71 ≤ r ∧ r ≤ 96) ∨ (97 ≤ r ∧ r ≤ 102) ∨ 103 ≤ r by omega) with h | h | h | h | h | h | h
  · have e : digit 16 r = -1 := by unfold digit; (repeat' split) <;> omega
    rw [e]
    have a0 : decide (48 ≤ r) = false := by simp; omega
    have a1 : decide (r ≤ 57) = true := by simp; omega
    have a2 : decide (97 ≤ r) = false := by simp; omega
    have a3 : decide (r ≤ 102) = true := by simp; omega
    have a4 : decide (65 ≤ r) = false := by simp; omega
    have a5 : decide (r ≤ 70) = true := by simp; omega
    clear e h
    go_enter Tryd.func98, Tryd.ntmps98
    go_wp2
    go_ret
    exact ⟨rfl, rfl⟩
  · have e : digit 16 r = r - 48 := by unfold digit; (repeat' split) <;> omega
    rw [e]
    have a0 : decide (48 ≤ r) = true := by simp; omega
    have a1 : decide (r ≤ 57) = true := by simp; omega
    have a2 : decide (97 ≤ r) = false := by simp; omega
    have a3 : decide (r ≤ 102) = true := by simp; omega
    have a4 : decide (65 ≤ r) = false := by simp; omega
    have a5 : decide (r ≤ 70) = true := by simp; omega
    have b0 : decide (16 ≤ r - 48) = false := by simp; omega
    have c0 : -1000 ≤ r ∧ r ≤ 1000 := by omega
    obtain ⟨c1, c2⟩ := c0
    clear e h
    go_enter Tryd.func98, Tryd.ntmps98
    go_wp2
    go_ret
    exact ⟨rfl, rfl⟩
  · have e : digit 16 r = -1 := by unfold digit; (repeat' split) <;> omega
    rw [e]
    have a0 : decide (48 ≤ r) = true := by simp; omega
    have a1 : decide (r ≤ 57) = false := by simp; omega
    have a2 : decide (97 ≤ r) = false := by simp; omega
    have a3 : decide (r ≤ 102) = true := by simp; omega
    have a4 : decide (65 ≤ r) = false := by simp; omega
    have a5 : decide (r ≤ 70) = true := by simp; omega
    clear e h
    go_enter Tryd.func98, Tryd.ntmps98
    go_wp2
    go_ret
    exact ⟨rfl, rfl⟩
  · have e : digit 16 r = r - 55 := by unfold digit; (repeat' split) <;> omega
    rw [e]
    have a0 : decide (48 ≤ r) = true := by simp; omega
    have a1 : decide (r ≤ 57) = false := by simp; omega
    have a2 : decide (97 ≤ r) = false := by simp; omega
    have a3 : decide (r ≤ 102) = true := by simp; omega
    have a4 : decide (65 ≤ r) = true := by simp; omega
    have a5 : decide (r ≤ 70) = true := by simp; omega
    have b0 : decide (16 ≤ r - 65 + 10) = false := by simp; omega
    have c0 : -1000 ≤ r ∧ r ≤ 1000 := by omega
    obtain ⟨c1, c2⟩ := c0
    clear e h
    go_enter Tryd.func98, Tryd.ntmps98
    go_wp2
    go_ret
    exact ⟨by rw [show r - 55 = r - 65 + 10 by omega]; rfl, rfl⟩
  · have e : digit 16 r = -1 := by unfold digit; (repeat' split) <;> omega
    rw [e]
    have a0 : decide (48 ≤ r) = true := by simp; omega
    have a1 : decide (r ≤ 57) = false := by simp; omega
    have a2 : decide (97 ≤ r) = false := by simp; omega
    have a3 : decide (r ≤ 102) = true := by simp; omega
    have a4 : decide (65 ≤ r) = true := by simp; omega
    have a5 : decide (r ≤ 70) = false := by simp; omega
    clear e h
    go_enter Tryd.func98, Tryd.ntmps98
    go_wp2
    go_ret
    exact ⟨rfl, rfl⟩
  · have e : digit 16 r = r - 87 := by unfold digit; (repeat' split) <;> omega
    rw [e]
    have a0 : decide (48 ≤ r) = true := by simp; omega
    have a1 : decide (r ≤ 57) = false := by simp; omega
    have a2 : decide (97 ≤ r) = true := by simp; omega
    have a3 : decide (r ≤ 102) = true := by simp; omega
    have a4 : decide (65 ≤ r) = true := by simp; omega
    have a5 : decide (r ≤ 70) = false := by simp; omega
    have b0 : decide (16 ≤ r - 97 + 10) = false := by simp; omega
    have c0 : -1000 ≤ r ∧ r ≤ 1000 := by omega
    obtain ⟨c1, c2⟩ := c0
    clear e h
    go_enter Tryd.func98, Tryd.ntmps98
    go_wp2
    go_ret
    exact ⟨by rw [show r - 87 = r - 97 + 10 by omega]; rfl, rfl⟩
  · have e : digit 16 r = -1 := by unfold digit; (repeat' split) <;> omega
    rw [e]
    have a0 : decide (48 ≤ r) = true := by simp; omega
    have a1 : decide (r ≤ 57) = false := by simp; omega
    have a2 : decide (97 ≤ r) = true := by simp; omega
    have a3 : decide (r ≤ 102) = false := by simp; omega
    have a4 : decide (65 ≤ r) = true := by simp; omega
    have a5 : decide (r ≤ 70) = false := by simp; omega
    clear e h
    go_enter Tryd.func98, Tryd.ntmps98
    go_wp2
    go_ret
    exact ⟨rfl, rfl⟩
end Go.Proofs.YtpblphddpcogcaaDoor
