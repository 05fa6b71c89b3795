/- Texts of ours, joined: Ref6. -/
import Derived.Test.YtocbofeanfdggaaDoorRows
import Derived.WalkKit
import Derived.ProofKit
import Derived.OpenShut
import Derived.ShutString
import Derived.ChangeOld
import Derived.Below
import Derived.BigQuiet
import Derived.Deep.QuietTactic
import Derived.Lib.Hide
import Derived.Deep.RegionHeld3
import Derived.Lib.SlBytesConst
import Derived.Laws.CopyOwn
import Derived.Laws.CopyRow
import Derived.Lib.Bytes
import Derived.Deep.LoopGhost
import Derived.Deep.DeepFit
import Derived.Deep.DeepMust
import Derived.WalkSpells
import Derived.WalkLawsBesides
import Derived.Laws.EntriesVeiled
import Derived.Laws.Rows
import Derived.Test.YtocbofeanfdggaaDoorQ2
import Derived.Test.YtocbofeanfdggaaDoorQ1
import Derived.Test.YtocbofeanfdggaaDoorQ3
import Derived.Test.YtocbofeanfdggaaDoorQ4
import Derived.Test.YtocbofeanfdggaaDoorQ5
import Derived.Test.YtocbofeanfdggaaDoorQ6
import Derived.Test.YtocbofeanfdggaaDoorQ7
/- The document's name characters. -/
namespace Go.Proofs.YtocbofeanfdggaaDoor
open Go.ChangeShapes Go.WideShapes Go.ChangeAt Go.RowKit
set_option linter.unusedVariables false
set_option maxRecDepth 100000 in
set_option maxHeartbeats 4000000 in
theorem refMore_c (r : Int) (w : World) : Calls Tryd.prog 67 #[.int .i64 r] w fun e w' => e = .returned (.bool (isMore r)) ∧ w = w' := by
  have hs := refStart_c r w
  unfold isMore
  cases he : isStart r with
  | true =>
    rw [he] at hs
    have HE := Lib.hid he
    clear he
    go_enter Tryd.func67, Tryd.ntmps67
    go_wp2_with fail
    refine hs.mono ?_
    rintro e w1 ⟨rfl, rfl⟩
    go_wp2
    go_ret
    exact ⟨rfl, rfl⟩
  | false =>
    rw [he] at hs
    have HE := Lib.hid he
    clear he
    show Calls _ _ _ _ fun e w' => e = .returned (.bool (isMoreOnly r)) ∧ w = w'
    rcases (show r ≤ 44 ∨ r = 45 ∨ r = 46 ∨ r = 47 ∨ (48 ≤ r ∧ r ≤ 57) ∨ (58 ≤ r ∧ r ≤ 182) ∨ r = 183 ∨ (184 ≤ r ∧ r ≤ 767) ∨ (768 ≤ r ∧ r ≤ 879) ∨ (880 ≤ r ∧ r ≤ 8254) ∨ r = 8255 ∨ r = 8256 ∨ 8257 ≤ r by omega) with h | h | h | h | h | h | h | h | h | h | h | h | h
    · have e : isMoreOnly r = false := by
        rw [Bool.eq_false_iff, Ne, isMoreOnly_iff]; omega
      rw [e]
      have a0 : (r == 45) = false := by first | (simp; omega) | (simp [h]; done)
      have a1 : (r == 46) = false := by first | (simp; omega) | (simp [h]; done)
      have a2 : decide (48 ≤ r) = false := by first | (simp; omega) | (simp [h]; done)
      have a3 : decide (r ≤ 57) = true := by first | (simp; omega) | (simp [h]; done)
      have a4 : (r == 183) = false := by first | (simp; omega) | (simp [h]; done)
      have a5 : decide (768 ≤ r) = false := by first | (simp; omega) | (simp [h]; done)
      have a6 : decide (r ≤ 879) = true := by first | (simp; omega) | (simp [h]; done)
      have a7 : (r == 8255) = false := by first | (simp; omega) | (simp [h]; done)
      have a8 : (r == 8256) = false := by first | (simp; omega) | (simp [h]; done)
      clear e h
      go_enter Tryd.func67, Tryd.ntmps67
      go_wp2_with fail
      refine hs.mono ?_
      rintro e w1 ⟨rfl, rfl⟩
      go_wp2
      go_ret
      exact ⟨rfl, rfl⟩
    · have e : isMoreOnly r = true := by
        rw [isMoreOnly_iff]; omega
      rw [e]
      have a0 : (r == 45) = true := by first | (simp; omega) | (simp [h]; done)
      have a1 : (r == 46) = false := by first | (simp; omega) | (simp [h]; done)
      have a2 : decide (48 ≤ r) = false := by first | (simp; omega) | (simp [h]; done)
      have a3 : decide (r ≤ 57) = true := by first | (simp; omega) | (simp [h]; done)
      have a4 : (r == 183) = false := by first | (simp; omega) | (simp [h]; done)
      have a5 : decide (768 ≤ r) = false := by first | (simp; omega) | (simp [h]; done)
      have a6 : decide (r ≤ 879) = true := by first | (simp; omega) | (simp [h]; done)
      have a7 : (r == 8255) = false := by first | (simp; omega) | (simp [h]; done)
      have a8 : (r == 8256) = false := by first | (simp; omega) | (simp [h]; done)
      clear e h
      go_enter Tryd.func67, Tryd.ntmps67
      go_wp2_with fail
      refine hs.mono ?_
      rintro e w1 ⟨rfl, rfl⟩
      go_wp2
      go_ret
      exact ⟨rfl, rfl⟩
    · have e : isMoreOnly r = true := by
        rw [isMoreOnly_iff]; omega
      rw [e]
      have a0 : (r == 45) = false := by first | (simp; omega) | (simp [h]; done)
      have a1 : (r == 46) = true := by first | (simp; omega) | (simp [h]; done)
      have a2 : decide (48 ≤ r) = false := by first | (simp; omega) | (simp [h]; done)
      have a3 : decide (r ≤ 57) = true := by first | (simp; omega) | (simp [h]; done)
      have a4 : (r == 183) = false := by first | (simp; omega) | (simp [h]; done)
      have a5 : decide (768 ≤ r) = false := by first | (simp; omega) | (simp [h]; done)
      have a6 : decide (r ≤ 879) = true := by first | (simp; omega) | (simp [h]; done)
      have a7 : (r == 8255) = false := by first | (simp; omega) | (simp [h]; done)
      have a8 : (r == 8256) = false := by first | (simp; omega) | (simp [h]; done)
      clear e h
      go_enter Tryd.func67, Tryd.ntmps67
      go_wp2_with fail
      refine hs.mono ?_
      rintro e w1 ⟨rfl, rfl⟩
      go_wp2
      go_ret
      exact ⟨rfl, rfl⟩
    · have e : isMoreOnly r = false := by
        rw [Bool.eq_false_iff, Ne, isMoreOnly_iff]; omega
      rw [e]
      have a0 : (r == 45) = false := by first | (simp; omega) | (simp [h]; done)
      have a1 : (r == 46) = false := by first | (simp; omega) | (simp [h]; done)
      have a2 : decide (48 ≤ r) = false := by first | (simp; omega) | (simp [h]; done)
      have a3 : decide (r ≤ 57) = true := by first | (simp; omega) | (simp [h]; done)
      have a4 : (r == 183) = false := by first | (simp; omega) | (simp [h]; done)
      have a5 : decide (768 ≤ r) = false := by first | (simp; omega) | (simp [h]; done)
      have a6 : decide (r ≤ 879) = true := by first | (simp; omega) | (simp [h]; done)
      have a7 : (r == 8255) = false := by first | (simp; omega) | (simp [h]; done)
      have a8 : (r == 8256) = false := by first | (simp; omega) | (simp [h]; done)
      clear e h
      go_enter Tryd.func67, Tryd.ntmps67
      go_wp2_with fail
      refine hs.mono ?_
      rintro e w1 ⟨rfl, rfl⟩
      go_wp2
      go_ret
      exact ⟨rfl, rfl⟩
    · have e : isMoreOnly r = true := by
        rw [isMoreOnly_iff]; omega
      rw [e]
      have a0 : (r == 45) = false := by first | (simp; omega) | (simp [h]; done)
      have a1 : (r == 46) = false := by first | (simp; omega) | (simp [h]; done)
      have a2 : decide (48 ≤ r) = true := by first | (simp; omega) | (simp [h]; done)
      have a3 : decide (r ≤ 57) = true := by first | (simp; omega) | (simp [h]; done)
      have a4 : (r == 183) = false := by first | (simp; omega) | (simp [h]; done)
      have a5 : decide (768 ≤ r) = false := by first | (simp; omega) | (simp [h]; done)
      have a6 : decide (r ≤ 879) = true := by first | (simp; omega) | (simp [h]; done)
      have a7 : (r == 8255) = false := by first | (simp; omega) | (simp [h]; done)
      have a8 : (r == 8256) = false := by first | (simp; omega) | (simp [h]; done)
      clear e h
      go_enter Tryd.func67, Tryd.ntmps67
      go_wp2_with fail
      refine hs.mono ?_
      rintro e w1 ⟨rfl, rfl⟩
      go_wp2
      go_ret
      exact ⟨rfl, rfl⟩
    · have e : isMoreOnly r = false := by
        rw [Bool.eq_false_iff, Ne, isMoreOnly_iff]; omega
      rw [e]
      have a0 : (r == 45) = false := by first | (simp; omega) | (simp [h]; done)
      have a1 : (r == 46) = false := by first | (simp; omega) | (simp [h]; done)
      have a2 : decide (48 ≤ r) = true := by first | (simp; omega) | (simp [h]; done)
      have a3 : decide (r ≤ 57) = false := by first | (simp; omega) | (simp [h]; done)
      have a4 : (r == 183) = false := by first | (simp; omega) | (simp [h]; done)
      have a5 : decide (768 ≤ r) = false := by first | (simp; omega) | (simp [h]; done)
      have a6 : decide (r ≤ 879) = true := by first | (simp; omega) | (simp [h]; done)
      have a7 : (r == 8255) = false := by first | (simp; omega) | (simp [h]; done)
      have a8 : (r == 8256) = false := by first | (simp; omega) | (simp [h]; done)
      clear e h
      go_enter Tryd.func67, Tryd.ntmps67
      go_wp2_with fail
      refine hs.mono ?_
      rintro e w1 ⟨rfl, rfl⟩
      go_wp2
      go_ret
      exact ⟨rfl, rfl⟩
    · have e : isMoreOnly r = true := by
        rw [isMoreOnly_iff]; omega
      rw [e]
      have a0 : (r == 45) = false := by first | (simp; omega) | (simp [h]; done)
      have a1 : (r == 46) = false := by first | (simp; omega) | (simp [h]; done)
      have a2 : decide (48 ≤ r) = true := by first | (simp; omega) | (simp [h]; done)
      have a3 : decide (r ≤ 57) = false := by first | (simp; omega) | (simp [h]; done)
      have a4 : (r == 183) = true := by first | (simp; omega) | (simp [h]; done)
      have a5 : decide (768 ≤ r) = false := by first | (simp; omega) | (simp [h]; done)
      have a6 : decide (r ≤ 879) = true := by first | (simp; omega) | (simp [h]; done)
      have a7 : (r == 8255) = false := by first | (simp; omega) | (simp [h]; done)
      have a8 : (r == 8256) = false := by first | (simp; omega) | (simp [h]; done)
      clear e h
      go_enter Tryd.func67, Tryd.ntmps67
      go_wp2_with fail
      refine hs.mono ?_
      rintro e w1 ⟨rfl, rfl⟩
      go_wp2
      go_ret
      exact ⟨rfl, rfl⟩
    · have e : isMoreOnly r = false := by
        rw [Bool.eq_false_iff, Ne, isMoreOnly_iff]; omega
      rw [e]
      have a0 : (r == 45) = false := by first | (simp; omega) | (simp [h]; done)
      have a1 : (r == 46) = false := by first | (simp; omega) | (simp [h]; done)
      have a2 : decide (48 ≤ r) = true := by first | (simp; omega) | (simp [h]; done)
      have a3 : decide (r ≤ 57) = false := by first | (simp; omega) | (simp [h]; done)
      have a4 : (r == 183) = false := by first | (simp; omega) | (simp [h]; done)
      have a5 : decide (768 ≤ r) = false := by first | (simp; omega) | (simp [h]; done)
      have a6 : decide (r ≤ 879) = true := by first | (simp; omega) | (simp [h]; done)
      have a7 : (r == 8255) = false := by first | (simp; omega) | (simp [h]; done)
      have a8 : (r == 8256) = false := by first | (simp; omega) | (simp [h]; done)
      clear e h
      go_enter Tryd.func67, Tryd.ntmps67
      go_wp2_with fail
      refine hs.mono ?_
      rintro e w1 ⟨rfl, rfl⟩
      go_wp2
      go_ret
      exact ⟨rfl, rfl⟩
    · have e : isMoreOnly r = true := by
        rw [isMoreOnly_iff]; omega
      rw [e]
      have a0 : (r == 45) = false := by first | (simp; omega) | (simp [h]; done)
      have a1 : (r == 46) = false := by first | (simp; omega) | (simp [h]; done)
      have a2 : decide (48 ≤ r) = true := by first | (simp; omega) | (simp [h]; done)
      have a3 : decide (r ≤ 57) = false := by first | (simp; omega) | (simp [h]; done)
      have a4 : (r == 183) = false := by first | (simp; omega) | (simp [h]; done)
      have a5 : decide (768 ≤ r) = true := by first | (simp; omega) | (simp [h]; done)
      have a6 : decide (r ≤ 879) = true := by first | (simp; omega) | (simp [h]; done)
      have a7 : (r == 8255) = false := by first | (simp; omega) | (simp [h]; done)
      have a8 : (r == 8256) = false := by first | (simp; omega) | (simp [h]; done)
      clear e h
      go_enter Tryd.func67, Tryd.ntmps67
      go_wp2_with fail
      refine hs.mono ?_
      rintro e w1 ⟨rfl, rfl⟩
      go_wp2
      go_ret
      exact ⟨rfl, rfl⟩
    · have e : isMoreOnly r = false := by
        rw [Bool.eq_false_iff, Ne, isMoreOnly_iff]; omega
      rw [e]
      have a0 : (r == 45) = false := by first | (simp; omega) | (simp [h]; done)
      have a1 : (r == 46) = false := by first | (simp; omega) | (simp [h]; done)
      have a2 : decide (48 ≤ r) = true := by first | (simp; omega) | (simp [h]; done)
      have a3 : decide (r ≤ 57) = false := by first | (simp; omega) | (simp [h]; done)
      have a4 : (r == 183) = false := by first | (simp; omega) | (simp [h]; done)
      have a5 : decide (768 ≤ r) = true := by first | (simp; omega) | (simp [h]; done)
      have a6 : decide (r ≤ 879) = false := by first | (simp; omega) | (simp [h]; done)
      have a7 : (r == 8255) = false := by first | (simp; omega) | (simp [h]; done)
      have a8 : (r == 8256) = false := by first | (simp; omega) | (simp [h]; done)
      clear e h
      go_enter Tryd.func67, Tryd.ntmps67
      go_wp2_with fail
      refine hs.mono ?_
      rintro e w1 ⟨rfl, rfl⟩
      go_wp2
      go_ret
      exact ⟨rfl, rfl⟩
    · have e : isMoreOnly r = true := by
        rw [isMoreOnly_iff]; omega
      rw [e]
      have a0 : (r == 45) = false := by first | (simp; omega) | (simp [h]; done)
      have a1 : (r == 46) = false := by first | (simp; omega) | (simp [h]; done)
      have a2 : decide (48 ≤ r) = true := by first | (simp; omega) | (simp [h]; done)
      have a3 : decide (r ≤ 57) = false := by first | (simp; omega) | (simp [h]; done)
      have a4 : (r == 183) = false := by first | (simp; omega) | (simp [h]; done)
      have a5 : decide (768 ≤ r) = true := by first | (simp; omega) | (simp [h]; done)
      have a6 : decide (r ≤ 879) = false := by first | (simp; omega) | (simp [h]; done)
      have a7 : (r == 8255) = true := by first | (simp; omega) | (simp [h]; done)
      have a8 : (r == 8256) = false := by first | (simp; omega) | (simp [h]; done)
      clear e h
      go_enter Tryd.func67, Tryd.ntmps67
      go_wp2_with fail
      refine hs.mono ?_
      rintro e w1 ⟨rfl, rfl⟩
      go_wp2
      go_ret
      exact ⟨rfl, rfl⟩
    · have e : isMoreOnly r = true := by
        rw [isMoreOnly_iff]; omega
      rw [e]
      have a0 : (r == 45) = false := by first | (simp; omega) | (simp [h]; done)
      have a1 : (r == 46) = false := by first | (simp; omega) | (simp [h]; done)
      have a2 : decide (48 ≤ r) = true := by first | (simp; omega) | (simp [h]; done)
      have a3 : decide (r ≤ 57) = false := by first | (simp; omega) | (simp [h]; done)
      have a4 : (r == 183) = false := by first | (simp; omega) | (simp [h]; done)
      have a5 : decide (768 ≤ r) = true := by first | (simp; omega) | (simp [h]; done)
      have a6 : decide (r ≤ 879) = false := by first | (simp; omega) | (simp [h]; done)
      have a7 : (r == 8255) = false := by first | (simp; omega) | (simp [h]; done)
      have a8 : (r == 8256) = true := by first | (simp; omega) | (simp [h]; done)
      clear e h
      go_enter Tryd.func67, Tryd.ntmps67
      go_wp2_with fail
      refine hs.mono ?_
      rintro e w1 ⟨rfl, rfl⟩
      go_wp2
      go_ret
      exact ⟨rfl, rfl⟩
    · have e : isMoreOnly r = false := by
        rw [Bool.eq_false_iff, Ne, isMoreOnly_iff]; omega
      rw [e]
      have a0 : (r == 45) = false := by first | (simp; omega) | (simp [h]; done)
      have a1 : (r == 46) = false := by first | (simp; omega) | (simp [h]; done)
      have a2 : decide (48 ≤ r) = true := by first | (simp; omega) | (simp [h]; done)
      have a3 : decide (r ≤ 57) = false := by first | (simp; omega) | (simp [h]; done)
      have a4 : (r == 183) = false := by first | (simp; omega) | (simp [h]; done)
      have a5 : decide (768 ≤ r) = true := by first | (simp; omega) | (simp [h]; done)
      have a6 : decide (r ≤ 879) = false := by first | (simp; omega) | (simp [h]; done)
      have a7 : (r == 8255) = false := by first | (simp; omega) | (simp [h]; done)
      have a8 : (r == 8256) = false := by first | (simp; omega) | (simp [h]; done)
      clear e h
      go_enter Tryd.func67, Tryd.ntmps67
      go_wp2_with fail
      refine hs.mono ?_
      rintro e w1 ⟨rfl, rfl⟩
      go_wp2
      go_ret
      exact ⟨rfl, rfl⟩
end Go.Proofs.YtocbofeanfdggaaDoor
