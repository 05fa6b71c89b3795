/- Texts of ours, joined: Ref2. -/
import Derived.Test.YtfemfgkcgboopaaGreatDoorRows
import Derived.WalkKit
import Derived.ProofKit
import Derived.OpenShut
import Derived.ShutString
import Derived.ChangeOld
import Derived.Below
import Derived.BigQuiet
import Derived.Deep.QuietTactic
import Derived.Lib.Hide
import Derived.Deep.RegionHeld3
import Derived.Lib.SlBytesConst
import Derived.Laws.CopyOwn
import Derived.Laws.CopyRow
import Derived.Lib.Bytes
import Derived.Deep.LoopGhost
import Derived.Deep.DeepFit
import Derived.Deep.DeepMust
import Derived.WalkSpells
import Derived.WalkLawsBesides
import Derived.Laws.EntriesVeiled
import Derived.Laws.Rows
import Derived.Test.YtfemfgkcgboopaaGreatDoorQ1
import Derived.Test.YtfemfgkcgboopaaGreatDoorQ2
import Derived.Test.YtfemfgkcgboopaaGreatDoorQ3
import Derived.Test.YtfemfgkcgboopaaGreatDoorQ4
/- The document's beginnings of names. -/
namespace Go.Proofs.YtfemfgkcgboopaaGreatDoor
open Go.ChangeShapes Go.WideShapes Go.ChangeAt Go.RowKit
set_option linter.unusedVariables false
set_option maxRecDepth 100000 in
set_option maxHeartbeats 4000000 in
theorem refStart_c (r : Int) (w : World) : Calls Tryz.prog 108 #[.int .i64 r] w fun e w' => e = .returned (.bool (isStart r)) ∧ w = w' := by
  rcases (show r ≤ 57 ∨ r = 58 ∨ (59 ≤ r ∧ r ≤ 64) ∨ (65 ≤ r ∧ r ≤ 90) ∨ (91 ≤ r ∧ r ≤ 94) ∨ r = 95 ∨ r = 96 ∨ (97 ≤ r ∧ r ≤ 122) ∨ (123 ≤ r ∧ r ≤ 127) ∨ (128 ≤ r ∧ r ≤ 191) ∨ (192 ≤ r ∧ r ≤ 214) ∨ r = 215 ∨ (216 ≤ r ∧ r ≤ 246) ∨ r = 247 ∨ (248 ≤ r ∧ r ≤ 767) ∨ (768 ≤ r ∧ r ≤ 879) ∨ (880 ≤ r ∧ r ≤ 893) ∨ r = 894 ∨ (895 ≤ r ∧ r ≤ 8191) ∨ (8192 ≤ r ∧ r ≤ 8203) ∨ r = 8204 ∨ r = 8205 ∨ (8206 ≤ r ∧ r ≤ 8303) ∨ (8304 ≤ r ∧ r ≤ 8591) ∨ (8592 ≤ r ∧ r ≤ 11263) ∨ (11264 ≤ r ∧ r ≤ 12271) ∨ (12272 ≤ r ∧ r ≤ 12288) ∨ (12289 ≤ r ∧ r ≤ 55295) ∨ (55296 ≤ r ∧ r ≤ 63743) ∨ (63744 ≤ r ∧ r ≤ 64975) ∨ (64976 ≤ r ∧ r ≤ 65007) ∨ (65008 ≤ r ∧ r ≤ 65533) ∨ (65534 ≤ r ∧ r ≤ 65535) ∨ (65536 ≤ r ∧ r ≤ 983039) ∨ 983040 ≤ r by omega) with h | h | h | h | h | h | h | h | h | h | h | h | h | h | h | h | h | h | h | h | h | h | h | h | h | h | h | h | h | h | h | h | h | h | h
  · have e : isStart r = false := by
      rw [Bool.eq_false_iff, Ne, isStart_iff]; omega
    rw [e]
    have a0 : decide (r < 128) = true := by first | (simp; omega) | (simp [h]; done)
    have a1 : (r == 58) = false := by first | (simp; omega) | (simp [h]; done)
    have a2 : decide (65 ≤ r) = false := by first | (simp; omega) | (simp [h]; done)
    have a3 : decide (r ≤ 90) = true := by first | (simp; omega) | (simp [h]; done)
    have a4 : (r == 95) = false := by first | (simp; omega) | (simp [h]; done)
    have a5 : decide (97 ≤ r) = false := by first | (simp; omega) | (simp [h]; done)
    have a6 : decide (r ≤ 122) = true := by first | (simp; omega) | (simp [h]; done)
    have a7 : decide (r < 8192) = true := by first | (simp; omega) | (simp [h]; done)
    have a8 : decide (192 ≤ r) = false := by first | (simp; omega) | (simp [h]; done)
    have a9 : (r != 215) = true := by first | (simp; omega) | (simp [h]; done)
    have a10 : (r != 247) = true := by first | (simp; omega) | (simp [h]; done)
    have a11 : decide (r ≤ 767) = true := by first | (simp; omega) | (simp [h]; done)
    have a12 : decide (880 ≤ r) = false := by first | (simp; omega) | (simp [h]; done)
    have a13 : (r != 894) = true := by first | (simp; omega) | (simp [h]; done)
    have a14 : (r == 8204) = false := by first | (simp; omega) | (simp [h]; done)
    have a15 : (r == 8205) = false := by first | (simp; omega) | (simp [h]; done)
    have a16 : decide (8304 ≤ r) = false := by first | (simp; omega) | (simp [h]; done)
    have a17 : decide (r ≤ 8591) = true := by first | (simp; omega) | (simp [h]; done)
    have a18 : decide (11264 ≤ r) = false := by first | (simp; omega) | (simp [h]; done)
    have a19 : decide (r ≤ 12271) = true := by first | (simp; omega) | (simp [h]; done)
    have a20 : decide (12289 ≤ r) = false := by first | (simp; omega) | (simp [h]; done)
    have a21 : decide (r ≤ 55295) = true := by first | (simp; omega) | (simp [h]; done)
    have a22 : decide (63744 ≤ r) = false := by first | (simp; omega) | (simp [h]; done)
    have a23 : decide (r ≤ 64975) = true := by first | (simp; omega) | (simp [h]; done)
    have a24 : decide (65008 ≤ r) = false := by first | (simp; omega) | (simp [h]; done)
    have a25 : decide (r ≤ 65533) = true := by first | (simp; omega) | (simp [h]; done)
    have a26 : decide (65536 ≤ r) = false := by first | (simp; omega) | (simp [h]; done)
    have a27 : decide (r ≤ 983039) = true := by first | (simp; omega) | (simp [h]; done)
    clear e h
    go_enter Tryz.func108, Tryz.ntmps108
    go_wp2
    go_ret
    exact ⟨rfl, rfl⟩
  · have e : isStart r = true := by
      rw [isStart_iff]; omega
    rw [e]
    have a0 : decide (r < 128) = true := by first | (simp; omega) | (simp [h]; done)
    have a1 : (r == 58) = true := by first | (simp; omega) | (simp [h]; done)
    have a2 : decide (65 ≤ r) = false := by first | (simp; omega) | (simp [h]; done)
    have a3 : decide (r ≤ 90) = true := by first | (simp; omega) | (simp [h]; done)
    have a4 : (r == 95) = false := by first | (simp; omega) | (simp [h]; done)
    have a5 : decide (97 ≤ r) = false := by first | (simp; omega) | (simp [h]; done)
    have a6 : decide (r ≤ 122) = true := by first | (simp; omega) | (simp [h]; done)
    have a7 : decide (r < 8192) = true := by first | (simp; omega) | (simp [h]; done)
    have a8 : decide (192 ≤ r) = false := by first | (simp; omega) | (simp [h]; done)
    have a9 : (r != 215) = true := by first | (simp; omega) | (simp [h]; done)
    have a10 : (r != 247) = true := by first | (simp; omega) | (simp [h]; done)
    have a11 : decide (r ≤ 767) = true := by first | (simp; omega) | (simp [h]; done)
    have a12 : decide (880 ≤ r) = false := by first | (simp; omega) | (simp [h]; done)
    have a13 : (r != 894) = true := by first | (simp; omega) | (simp [h]; done)
    have a14 : (r == 8204) = false := by first | (simp; omega) | (simp [h]; done)
    have a15 : (r == 8205) = false := by first | (simp; omega) | (simp [h]; done)
    have a16 : decide (8304 ≤ r) = false := by first | (simp; omega) | (simp [h]; done)
    have a17 : decide (r ≤ 8591) = true := by first | (simp; omega) | (simp [h]; done)
    have a18 : decide (11264 ≤ r) = false := by first | (simp; omega) | (simp [h]; done)
    have a19 : decide (r ≤ 12271) = true := by first | (simp; omega) | (simp [h]; done)
    have a20 : decide (12289 ≤ r) = false := by first | (simp; omega) | (simp [h]; done)
    have a21 : decide (r ≤ 55295) = true := by first | (simp; omega) | (simp [h]; done)
    have a22 : decide (63744 ≤ r) = false := by first | (simp; omega) | (simp [h]; done)
    have a23 : decide (r ≤ 64975) = true := by first | (simp; omega) | (simp [h]; done)
    have a24 : decide (65008 ≤ r) = false := by first | (simp; omega) | (simp [h]; done)
    have a25 : decide (r ≤ 65533) = true := by first | (simp; omega) | (simp [h]; done)
    have a26 : decide (65536 ≤ r) = false := by first | (simp; omega) | (simp [h]; done)
    have a27 : decide (r ≤ 983039) = true := by first | (simp; omega) | (simp [h]; done)
    clear e h
    go_enter Tryz.func108, Tryz.ntmps108
    go_wp2
    go_ret
    exact ⟨rfl, rfl⟩
  · have e : isStart r = false := by
      rw [Bool.eq_false_iff, Ne, isStart_iff]; omega
    rw [e]
    have a0 : decide (r < 128) = true := by first | (simp; omega) | (simp [h]; done)
    have a1 : (r == 58) = false := by first | (simp; omega) | (simp [h]; done)
    have a2 : decide (65 ≤ r) = false := by first | (simp; omega) | (simp [h]; done)
    have a3 : decide (r ≤ 90) = true := by first | (simp; omega) | (simp [h]; done)
    have a4 : (r == 95) = false := by first | (simp; omega) | (simp [h]; done)
    have a5 : decide (97 ≤ r) = false := by first | (simp; omega) | (simp [h]; done)
    have a6 : decide (r ≤ 122) = true := by first | (simp; omega) | (simp [h]; done)
    have a7 : decide (r < 8192) = true := by first | (simp; omega) | (simp [h]; done)
    have a8 : decide (192 ≤ r) = false := by first | (simp; omega) | (simp [h]; done)
    have a9 : (r != 215) = true := by first | (simp; omega) | (simp [h]; done)
    have a10 : (r != 247) = true := by first | (simp; omega) | (simp [h]; done)
    have a11 : decide (r ≤ 767) = true := by first | (simp; omega) | (simp [h]; done)
    have a12 : decide (880 ≤ r) = false := by first | (simp; omega) | (simp [h]; done)
    have a13 : (r != 894) = true := by first | (simp; omega) | (simp [h]; done)
    have a14 : (r == 8204) = false := by first | (simp; omega) | (simp [h]; done)
    have a15 : (r == 8205) = false := by first | (simp; omega) | (simp [h]; done)
    have a16 : decide (8304 ≤ r) = false := by first | (simp; omega) | (simp [h]; done)
    have a17 : decide (r ≤ 8591) = true := by first | (simp; omega) | (simp [h]; done)
    have a18 : decide (11264 ≤ r) = false := by first | (simp; omega) | (simp [h]; done)
    have a19 : decide (r ≤ 12271) = true := by first | (simp; omega) | (simp [h]; done)
    have a20 : decide (12289 ≤ r) = false := by first | (simp; omega) | (simp [h]; done)
    have a21 : decide (r ≤ 55295) = true := by first | (simp; omega) | (simp [h]; done)
    have a22 : decide (63744 ≤ r) = false := by first | (simp; omega) | (simp [h]; done)
    have a23 : decide (r ≤ 64975) = true := by first | (simp; omega) | (simp [h]; done)
    have a24 : decide (65008 ≤ r) = false := by first | (simp; omega) | (simp [h]; done)
    have a25 : decide (r ≤ 65533) = true := by first | (simp; omega) | (simp [h]; done)
    have a26 : decide (65536 ≤ r) = false := by first | (simp; omega) | (simp [h]; done)
    have a27 : decide (r ≤ 983039) = true := by first | (simp; omega) | (simp [h]; done)
    clear e h
    go_enter Tryz.func108, Tryz.ntmps108
    go_wp2
    go_ret
    exact ⟨rfl, rfl⟩
  · have e : isStart r = true := by
      rw [isStart_iff]; omega
    rw [e]
    have a0 : decide (r < 128) = true := by first | (simp; omega) | (simp [h]; done)
    have a1 : (r == 58) = false := by first | (simp; omega) | (simp [h]; done)
    have a2 : decide (65 ≤ r) = true := by first | (simp; omega) | (simp [h]; done)
    have a3 : decide (r ≤ 90) = true := by first | (simp; omega) | (simp [h]; done)
    have a4 : (r == 95) = false := by first | (simp; omega) | (simp [h]; done)
    have a5 : decide (97 ≤ r) = false := by first | (simp; omega) | (simp [h]; done)
    have a6 : decide (r ≤ 122) = true := by first | (simp; omega) | (simp [h]; done)
    have a7 : decide (r < 8192) = true := by first | (simp; omega) | (simp [h]; done)
    have a8 : decide (192 ≤ r) = false := by first | (simp; omega) | (simp [h]; done)
    have a9 : (r != 215) = true := by first | (simp; omega) | (simp [h]; done)
    have a10 : (r != 247) = true := by first | (simp; omega) | (simp [h]; done)
    have a11 : decide (r ≤ 767) = true := by first | (simp; omega) | (simp [h]; done)
    have a12 : decide (880 ≤ r) = false := by first | (simp; omega) | (simp [h]; done)
    have a13 : (r != 894) = true := by first | (simp; omega) | (simp [h]; done)
    have a14 : (r == 8204) = false := by first | (simp; omega) | (simp [h]; done)
    have a15 : (r == 8205) = false := by first | (simp; omega) | (simp [h]; done)
    have a16 : decide (8304 ≤ r) = false := by first | (simp; omega) | (simp [h]; done)
    have a17 : decide (r ≤ 8591) = true := by first | (simp; omega) | (simp [h]; done)
    have a18 : decide (11264 ≤ r) = false := by first | (simp; omega) | (simp [h]; done)
    have a19 : decide (r ≤ 12271) = true := by first | (simp; omega) | (simp [h]; done)
    have a20 : decide (12289 ≤ r) = false := by first | (simp; omega) | (simp [h]; done)
    have a21 : decide (r ≤ 55295) = true := by first | (simp; omega) | (simp [h]; done)
    have a22 : decide (63744 ≤ r) = false := by first | (simp; omega) | (simp [h]; done)
    have a23 : decide (r ≤ 64975) = true := by first | (simp; omega) | (simp [h]; done)
    have a24 : decide (65008 ≤ r) = false := by first | (simp; omega) | (simp [h]; done)
    have a25 : decide (r ≤ 65533) = true := by first | (simp; omega) | (simp [h]; done)
    have a26 : decide (65536 ≤ r) = false := by first | (simp; omega) | (simp [h]; done)
    have a27 : decide (r ≤ 983039) = true := by first | (simp; omega) | (simp [h]; done)
    clear e h
    go_enter Tryz.func108, Tryz.ntmps108
    go_wp2
    go_ret
    exact ⟨rfl, rfl⟩
  · have e : isStart r = false := by
      rw [Bool.eq_false_iff, Ne, isStart_iff]; omega
    rw [e]
    have a0 : decide (r < 128) = true := by first | (simp; omega) | (simp [h]; done)
    have a1 : (r == 58) = false := by first | (simp; omega) | (simp [h]; done)
    have a2 : decide (65 ≤ r) = true := by first | (simp; omega) | (simp [h]; done)
    have a3 : decide (r ≤ 90) = false := by first | (simp; omega) | (simp [h]; done)
    have a4 : (r == 95) = false := by first | (simp; omega) | (simp [h]; done)
    have a5 : decide (97 ≤ r) = false := by first | (simp; omega) | (simp [h]; done)
    have a6 : decide (r ≤ 122) = true := by first | (simp; omega) | (simp [h]; done)
    have a7 : decide (r < 8192) = true := by first | (simp; omega) | (simp [h]; done)
    have a8 : decide (192 ≤ r) = false := by first | (simp; omega) | (simp [h]; done)
    have a9 : (r != 215) = true := by first | (simp; omega) | (simp [h]; done)
    have a10 : (r != 247) = true := by first | (simp; omega) | (simp [h]; done)
    have a11 : decide (r ≤ 767) = true := by first | (simp; omega) | (simp [h]; done)
    have a12 : decide (880 ≤ r) = false := by first | (simp; omega) | (simp [h]; done)
    have a13 : (r != 894) = true := by first | (simp; omega) | (simp [h]; done)
    have a14 : (r == 8204) = false := by first | (simp; omega) | (simp [h]; done)
    have a15 : (r == 8205) = false := by first | (simp; omega) | (simp [h]; done)
    have a16 : decide (8304 ≤ r) = false := by first | (simp; omega) | (simp [h]; done)
    have a17 : decide (r ≤ 8591) = true := by first | (simp; omega) | (simp [h]; done)
    have a18 : decide (11264 ≤ r) = false := by first | (simp; omega) | (simp [h]; done)
    have a19 : decide (r ≤ 12271) = true := by first | (simp; omega) | (simp [h]; done)
    have a20 : decide (12289 ≤ r) = false := by first | (simp; omega) | (simp [h]; done)
    have a21 : decide (r ≤ 55295) = true := by first | (simp; omega) | (simp [h]; done)
    have a22 : decide (63744 ≤ r) = false := by first | (simp; omega) | (simp [h]; done)
    have a23 : decide (r ≤ 64975) = true := by first | (simp; omega) | (simp [h]; done)
    have a24 : decide (65008 ≤ r) = false := by first | (simp; omega) | (simp [h]; done)
    have a25 : decide (r ≤ 65533) = true := by first | (simp; omega) | (simp [h]; done)
    have a26 : decide (65536 ≤ r) = false := by first | (simp; omega) | (simp [h]; done)
    have a27 : decide (r ≤ 983039) = true := by first | (simp; omega) | (simp [h]; done)
    clear e h
    go_enter Tryz.func108, Tryz.ntmps108
    go_wp2
    go_ret
    exact ⟨rfl, rfl⟩
  · have e : isStart r = true := by
      rw [isStart_iff]; omega
    rw [e]
    have a0 : decide (r < 128) = true := by first | (simp; omega) | (simp [h]; done)
    have a1 : (r == 58) = false := by first | (simp; omega) | (simp [h]; done)
    have a2 : decide (65 ≤ r) = true := by first | (simp; omega) | (simp [h]; done)
    have a3 : decide (r ≤ 90) = false := by first | (simp; omega) | (simp [h]; done)
    have a4 : (r == 95) = true := by first | (simp; omega) | (simp [h]; done)
    have a5 : decide (97 ≤ r) = false := by first | (simp; omega) | (simp [h]; done)
    have a6 : decide (r ≤ 122) = true := by first | (simp; omega) | (simp [h]; done)
    have a7 : decide (r < 8192) = true := by first | (simp; omega) | (simp [h]; done)
    have a8 : decide (192 ≤ r) = false := by first | (simp; omega) | (simp [h]; done)
    have a9 : (r != 215) = true := by first | (simp; omega) | (simp [h]; done)
    have a10 : (r != 247) = true := by first | (simp; omega) | (simp [h]; done)
    have a11 : decide (r ≤ 767) = true := by first | (simp; omega) | (simp [h]; done)
    have a12 : decide (880 ≤ r) = false := by first | (simp; omega) | (simp [h]; done)
    have a13 : (r != 894) = true := by first | (simp; omega) | (simp [h]; done)
    have a14 : (r == 8204) = false := by first | (simp; omega) | (simp [h]; done)
    have a15 : (r == 8205) = false := by first | (simp; omega) | (simp [h]; done)
    have a16 : decide (8304 ≤ r) = false := by first | (simp; omega) | (simp [h]; done)
    have a17 : decide (r ≤ 8591) = true := by first | (simp; omega) | (simp [h]; done)
    have a18 : decide (11264 ≤ r) = false := by first | (simp; omega) | (simp [h]; done)
    have a19 : decide (r ≤ 12271) = true := by first | (simp; omega) | (simp [h]; done)
    have a20 : decide (12289 ≤ r) = false := by first | (simp; omega) | (simp [h]; done)
    have a21 : decide (r ≤ 55295) = true := by first | (simp; omega) | (simp [h]; done)
    have a22 : decide (63744 ≤ r) = false := by first | (simp; omega) | (simp [h]; done)
    have a23 : decide (r ≤ 64975) = true := by first | (simp; omega) | (simp [h]; done)
    have a24 : decide (65008 ≤ r) = false := by first | (simp; omega) | (simp [h]; done)
    have a25 : decide (r ≤ 65533) = true := by first | (simp; omega) | (simp [h]; done)
    have a26 : decide (65536 ≤ r) = false := by first | (simp; omega) | (simp [h]; done)
    have a27 : decide (r ≤ 983039) = true := by first | (simp; omega) | (simp [h]; done)
    clear e h
    go_enter Tryz.func108, Tryz.ntmps108
    go_wp2
    go_ret
    exact ⟨rfl, rfl⟩
  · have e : isStart r = false := by
      rw [Bool.eq_false_iff, Ne, isStart_iff]; omega
    rw [e]
    have a0 : decide (r < 128) = true := by first | (simp; omega) | (simp [h]; done)
    have a1 : (r == 58) = false := by first | (simp; omega) | (simp [h]; done)
    have a2 : decide (65 ≤ r) = true := by first | (simp; omega) | (simp [h]; done)
    have a3 : decide (r ≤ 90) = false := by first | (simp; omega) | (simp [h]; done)
    have a4 : (r == 95) = false := by first | (simp; omega) | (simp [h]; done)
    have a5 : decide (97 ≤ r) = false := by first | (simp; omega) | (simp [h]; done)
    have a6 : decide (r ≤ 122) = true := by first | (simp; omega) | (simp [h]; done)
    have a7 : decide (r < 8192) = true := by first | (simp; omega) | (simp [h]; done)
    have a8 : decide (192 ≤ r) = false := by first | (simp; omega) | (simp [h]; done)
    have a9 : (r != 215) = true := by first | (simp; omega) | (simp [h]; done)
    have a10 : (r != 247) = true := by first | (simp; omega) | (simp [h]; done)
    have a11 : decide (r ≤ 767) = true := by first | (simp; omega) | (simp [h]; done)
    have a12 : decide (880 ≤ r) = false := by first | (simp; omega) | (simp [h]; done)
    have a13 : (r != 894) = true := by first | (simp; omega) | (simp [h]; done)
    have a14 : (r == 8204) = false := by first | (simp; omega) | (simp [h]; done)
    have a15 : (r == 8205) = false := by first | (simp; omega) | (simp [h]; done)
    have a16 : decide (8304 ≤ r) = false := by first | (simp; omega) | (simp [h]; done)
    have a17 : decide (r ≤ 8591) = true := by first | (simp; omega) | (simp [h]; done)
    have a18 : decide (11264 ≤ r) = false := by first | (simp; omega) | (simp [h]; done)
    have a19 : decide (r ≤ 12271) = true := by first | (simp; omega) | (simp [h]; done)
    have a20 : decide (12289 ≤ r) = false := by first | (simp; omega) | (simp [h]; done)
    have a21 : decide (r ≤ 55295) = true := by first | (simp; omega) | (simp [h]; done)
    have a22 : decide (63744 ≤ r) = false := by first | (simp; omega) | (simp [h]; done)
    have a23 : decide (r ≤ 64975) = true := by first | (simp; omega) | (simp [h]; done)
    have a24 : decide (65008 ≤ r) = false := by first | (simp; omega) | (simp [h]; done)
    have a25 : decide (r ≤ 65533) = true := by first | (simp; omega) | (simp [h]; done)
    have a26 : decide (65536 ≤ r) = false := by first | (simp; omega) | (simp [h]; done)
    have a27 : decide (r ≤ 983039) = true := by first | (simp; omega) | (simp [h]; done)
    clear e h
    go_enter Tryz.func108, Tryz.ntmps108
    go_wp2
    go_ret
    exact ⟨rfl, rfl⟩
  · have e : isStart r = true := by
      rw [isStart_iff]; omega
    rw [e]
    have a0 : decide (r < 128) = true := by first | (simp; omega) | (simp [h]; done)
    have a1 : (r == 58) = false := by first | (simp; omega) | (simp [h]; done)
    have a2 : decide (65 ≤ r) = true := by first | (simp; omega) | (simp [h]; done)
    have a3 : decide (r ≤ 90) = false := by first | (simp; omega) | (simp [h]; done)
    have a4 : (r == 95) = false := by first | (simp; omega) | (simp [h]; done)
    have a5 : decide (97 ≤ r) = true := by first | (simp; omega) | (simp [h]; done)
    have a6 : decide (r ≤ 122) = true := by first | (simp; omega) | (simp [h]; done)
    have a7 : decide (r < 8192) = true := by first | (simp; omega) | (simp [h]; done)
    have a8 : decide (192 ≤ r) = false := by first | (simp; omega) | (simp [h]; done)
    have a9 : (r != 215) = true := by first | (simp; omega) | (simp [h]; done)
    have a10 : (r != 247) = true := by first | (simp; omega) | (simp [h]; done)
    have a11 : decide (r ≤ 767) = true := by first | (simp; omega) | (simp [h]; done)
    have a12 : decide (880 ≤ r) = false := by first | (simp; omega) | (simp [h]; done)
    have a13 : (r != 894) = true := by first | (simp; omega) | (simp [h]; done)
    have a14 : (r == 8204) = false := by first | (simp; omega) | (simp [h]; done)
    have a15 : (r == 8205) = false := by first | (simp; omega) | (simp [h]; done)
    have a16 : decide (8304 ≤ r) = false := by first | (simp; omega) | (simp [h]; done)
    have a17 : decide (r ≤ 8591) = true := by first | (simp; omega) | (simp [h]; done)
    have a18 : decide (11264 ≤ r) = false := by first | (simp; omega) | (simp [h]; done)
    have a19 : decide (r ≤ 12271) = true := by first | (simp; omega) | (simp [h]; done)
    have a20 : decide (12289 ≤ r) = false := by first | (simp; omega) | (simp [h]; done)
    have a21 : decide (r ≤ 55295) = true := by first | (simp; omega) | (simp [h]; done)
    have a22 : decide (63744 ≤ r) = false := by first | (simp; omega) | (simp [h]; done)
    have a23 : decide (r ≤ 64975) = true := by first | (simp; omega) | (simp [h]; done)
    have a24 : decide (65008 ≤ r) = false := by first | (simp; omega) | (simp [h]; done)
    have a25 : decide (r ≤ 65533) = true := by first | (simp; omega) | (simp [h]; done)
    have a26 : decide (65536 ≤ r) = false := by first | (simp; omega) | (simp [h]; done)
    have a27 : decide (r ≤ 983039) = true := by first | (simp; omega) | (simp [h]; done)
    clear e h
    go_enter Tryz.func108, Tryz.ntmps108
    go_wp2
    go_ret
    exact ⟨rfl, rfl⟩
  · have e : isStart r = false := by
      rw [Bool.eq_false_iff, Ne, isStart_iff]; omega
    rw [e]
    have a0 : decide (r < 128) = true := by first | (simp; omega) | (simp [h]; done)
    have a1 : (r == 58) = false := by first | (simp; omega) | (simp [h]; done)
    have a2 : decide (65 ≤ r) = true := by first | (simp; omega) | (simp [h]; done)
    have a3 : decide (r ≤ 90) = false := by first | (simp; omega) | (simp [h]; done)
    have a4 : (r == 95) = false := by first | (simp; omega) | (simp [h]; done)
    have a5 : decide (97 ≤ r) = true := by first | (simp; omega) | (simp [h]; done)
    have a6 : decide (r ≤ 122) = false := by first | (simp; omega) | (simp [h]; done)
    have a7 : decide (r < 8192) = true := by first | (simp; omega) | (simp [h]; done)
    have a8 : decide (192 ≤ r) = false := by first | (simp; omega) | (simp [h]; done)
    have a9 : (r != 215) = true := by first | (simp; omega) | (simp [h]; done)
    have a10 : (r != 247) = true := by first | (simp; omega) | (simp [h]; done)
    have a11 : decide (r ≤ 767) = true := by first | (simp; omega) | (simp [h]; done)
    have a12 : decide (880 ≤ r) = false := by first | (simp; omega) | (simp [h]; done)
    have a13 : (r != 894) = true := by first | (simp; omega) | (simp [h]; done)
    have a14 : (r == 8204) = false := by first | (simp; omega) | (simp [h]; done)
    have a15 : (r == 8205) = false := by first | (simp; omega) | (simp [h]; done)
    have a16 : decide (8304 ≤ r) = false := by first | (simp; omega) | (simp [h]; done)
    have a17 : decide (r ≤ 8591) = true := by first | (simp; omega) | (simp [h]; done)
    have a18 : decide (11264 ≤ r) = false := by first | (simp; omega) | (simp [h]; done)
    have a19 : decide (r ≤ 12271) = true := by first | (simp; omega) | (simp [h]; done)
    have a20 : decide (12289 ≤ r) = false := by first | (simp; omega) | (simp [h]; done)
    have a21 : decide (r ≤ 55295) = true := by first | (simp; omega) | (simp [h]; done)
    have a22 : decide (63744 ≤ r) = false := by first | (simp; omega) | (simp [h]; done)
    have a23 : decide (r ≤ 64975) = true := by first | (simp; omega) | (simp [h]; done)
    have a24 : decide (65008 ≤ r) = false := by first | (simp; omega) | (simp [h]; done)
    have a25 : decide (r ≤ 65533) = true := by first | (simp; omega) | (simp [h]; done)
    have a26 : decide (65536 ≤ r) = false := by first | (simp; omega) | (simp [h]; done)
    have a27 : decide (r ≤ 983039) = true := by first | (simp; omega) | (simp [h]; done)
    clear e h
    go_enter Tryz.func108, Tryz.ntmps108
    go_wp2
    go_ret
    exact ⟨rfl, rfl⟩
  · have e : isStart r = false := by
      rw [Bool.eq_false_iff, Ne, isStart_iff]; omega
    rw [e]
    have a0 : decide (r < 128) = false := by first | (simp; omega) | (simp [h]; done)
    have a1 : (r == 58) = false := by first | (simp; omega) | (simp [h]; done)
    have a2 : decide (65 ≤ r) = true := by first | (simp; omega) | (simp [h]; done)
    have a3 : decide (r ≤ 90) = false := by first | (simp; omega) | (simp [h]; done)
    have a4 : (r == 95) = false := by first | (simp; omega) | (simp [h]; done)
    have a5 : decide (97 ≤ r) = true := by first | (simp; omega) | (simp [h]; done)
    have a6 : decide (r ≤ 122) = false := by first | (simp; omega) | (simp [h]; done)
    have a7 : decide (r < 8192) = true := by first | (simp; omega) | (simp [h]; done)
    have a8 : decide (192 ≤ r) = false := by first | (simp; omega) | (simp [h]; done)
    have a9 : (r != 215) = true := by first | (simp; omega) | (simp [h]; done)
    have a10 : (r != 247) = true := by first | (simp; omega) | (simp [h]; done)
    have a11 : decide (r ≤ 767) = true := by first | (simp; omega) | (simp [h]; done)
    have a12 : decide (880 ≤ r) = false := by first | (simp; omega) | (simp [h]; done)
    have a13 : (r != 894) = true := by first | (simp; omega) | (simp [h]; done)
    have a14 : (r == 8204) = false := by first | (simp; omega) | (simp [h]; done)
    have a15 : (r == 8205) = false := by first | (simp; omega) | (simp [h]; done)
    have a16 : decide (8304 ≤ r) = false := by first | (simp; omega) | (simp [h]; done)
    have a17 : decide (r ≤ 8591) = true := by first | (simp; omega) | (simp [h]; done)
    have a18 : decide (11264 ≤ r) = false := by first | (simp; omega) | (simp [h]; done)
    have a19 : decide (r ≤ 12271) = true := by first | (simp; omega) | (simp [h]; done)
    have a20 : decide (12289 ≤ r) = false := by first | (simp; omega) | (simp [h]; done)
    have a21 : decide (r ≤ 55295) = true := by first | (simp; omega) | (simp [h]; done)
    have a22 : decide (63744 ≤ r) = false := by first | (simp; omega) | (simp [h]; done)
    have a23 : decide (r ≤ 64975) = true := by first | (simp; omega) | (simp [h]; done)
    have a24 : decide (65008 ≤ r) = false := by first | (simp; omega) | (simp [h]; done)
    have a25 : decide (r ≤ 65533) = true := by first | (simp; omega) | (simp [h]; done)
    have a26 : decide (65536 ≤ r) = false := by first | (simp; omega) | (simp [h]; done)
    have a27 : decide (r ≤ 983039) = true := by first | (simp; omega) | (simp [h]; done)
    clear e h
    go_enter Tryz.func108, Tryz.ntmps108
    go_wp2
    go_ret
    exact ⟨rfl, rfl⟩
  · have e : isStart r = true := by
      rw [isStart_iff]; omega
    rw [e]
    have a0 : decide (r < 128) = false := by first | (simp; omega) | (simp [h]; done)
    have a1 : (r == 58) = false := by first | (simp; omega) | (simp [h]; done)
    have a2 : decide (65 ≤ r) = true := by first | (simp; omega) | (simp [h]; done)
    have a3 : decide (r ≤ 90) = false := by first | (simp; omega) | (simp [h]; done)
    have a4 : (r == 95) = false := by first | (simp; omega) | (simp [h]; done)
    have a5 : decide (97 ≤ r) = true := by first | (simp; omega) | (simp [h]; done)
    have a6 : decide (r ≤ 122) = false := by first | (simp; omega) | (simp [h]; done)
    have a7 : decide (r < 8192) = true := by first | (simp; omega) | (simp [h]; done)
    have a8 : decide (192 ≤ r) = true := by first | (simp; omega) | (simp [h]; done)
    have a9 : (r != 215) = true := by first | (simp; omega) | (simp [h]; done)
    have a10 : (r != 247) = true := by first | (simp; omega) | (simp [h]; done)
    have a11 : decide (r ≤ 767) = true := by first | (simp; omega) | (simp [h]; done)
    have a12 : decide (880 ≤ r) = false := by first | (simp; omega) | (simp [h]; done)
    have a13 : (r != 894) = true := by first | (simp; omega) | (simp [h]; done)
    have a14 : (r == 8204) = false := by first | (simp; omega) | (simp [h]; done)
    have a15 : (r == 8205) = false := by first | (simp; omega) | (simp [h]; done)
    have a16 : decide (8304 ≤ r) = false := by first | (simp; omega) | (simp [h]; done)
    have a17 : decide (r ≤ 8591) = true := by first | (simp; omega) | (simp [h]; done)
    have a18 : decide (11264 ≤ r) = false := by first | (simp; omega) | (simp [h]; done)
    have a19 : decide (r ≤ 12271) = true := by first | (simp; omega) | (simp [h]; done)
    have a20 : decide (12289 ≤ r) = false := by first | (simp; omega) | (simp [h]; done)
    have a21 : decide (r ≤ 55295) = true := by first | (simp; omega) | (simp [h]; done)
    have a22 : decide (63744 ≤ r) = false := by first | (simp; omega) | (simp [h]; done)
    have a23 : decide (r ≤ 64975) = true := by first | (simp; omega) | (simp [h]; done)
    have a24 : decide (65008 ≤ r) = false := by first | (simp; omega) | (simp [h]; done)
    have a25 : decide (r ≤ 65533) = true := by first | (simp; omega) | (simp [h]; done)
    have a26 : decide (65536 ≤ r) = false := by first | (simp; omega) | (simp [h]; done)
    have a27 : decide (r ≤ 983039) = true := by first | (simp; omega) | (simp [h]; done)
    clear e h
    go_enter Tryz.func108, Tryz.ntmps108
    go_wp2
    go_ret
    exact ⟨rfl, rfl⟩
  · have e : isStart r = false := by
      rw [Bool.eq_false_iff, Ne, isStart_iff]; omega
    rw [e]
    have a0 : decide (r < 128) = false := by first | (simp; omega) | (simp [h]; done)
    have a1 : (r == 58) = false := by first | (simp; omega) | (simp [h]; done)
    have a2 : decide (65 ≤ r) = true := by first | (simp; omega) | (simp [h]; done)
    have a3 : decide (r ≤ 90) = false := by first | (simp; omega) | (simp [h]; done)
    have a4 : (r == 95) = false := by first | (simp; omega) | (simp [h]; done)
    have a5 : decide (97 ≤ r) = true := by first | (simp; omega) | (simp [h]; done)
    have a6 : decide (r ≤ 122) = false := by first | (simp; omega) | (simp [h]; done)
    have a7 : decide (r < 8192) = true := by first | (simp; omega) | (simp [h]; done)
    have a8 : decide (192 ≤ r) = true := by first | (simp; omega) | (simp [h]; done)
    have a9 : (r != 215) = false := by first | (simp; omega) | (simp [h]; done)
    have a10 : (r != 247) = true := by first | (simp; omega) | (simp [h]; done)
    have a11 : decide (r ≤ 767) = true := by first | (simp; omega) | (simp [h]; done)
    have a12 : decide (880 ≤ r) = false := by first | (simp; omega) | (simp [h]; done)
    have a13 : (r != 894) = true := by first | (simp; omega) | (simp [h]; done)
    have a14 : (r == 8204) = false := by first | (simp; omega) | (simp [h]; done)
    have a15 : (r == 8205) = false := by first | (simp; omega) | (simp [h]; done)
    have a16 : decide (8304 ≤ r) = false := by first | (simp; omega) | (simp [h]; done)
    have a17 : decide (r ≤ 8591) = true := by first | (simp; omega) | (simp [h]; done)
    have a18 : decide (11264 ≤ r) = false := by first | (simp; omega) | (simp [h]; done)
    have a19 : decide (r ≤ 12271) = true := by first | (simp; omega) | (simp [h]; done)
    have a20 : decide (12289 ≤ r) = false := by first | (simp; omega) | (simp [h]; done)
    have a21 : decide (r ≤ 55295) = true := by first | (simp; omega) | (simp [h]; done)
    have a22 : decide (63744 ≤ r) = false := by first | (simp; omega) | (simp [h]; done)
    have a23 : decide (r ≤ 64975) = true := by first | (simp; omega) | (simp [h]; done)
    have a24 : decide (65008 ≤ r) = false := by first | (simp; omega) | (simp [h]; done)
    have a25 : decide (r ≤ 65533) = true := by first | (simp; omega) | (simp [h]; done)
    have a26 : decide (65536 ≤ r) = false := by first | (simp; omega) | (simp [h]; done)
    have a27 : decide (r ≤ 983039) = true := by first | (simp; omega) | (simp [h]; done)
    clear e h
    go_enter Tryz.func108, Tryz.ntmps108
    go_wp2
    go_ret
    exact ⟨rfl, rfl⟩
  · have e : isStart r = true := by
      rw [isStart_iff]; omega
    rw [e]
    have a0 : decide (r < 128) = false := by first | (simp; omega) | (simp [h]; done)
    have a1 : (r == 58) = false := by first | (simp; omega) | (simp [h]; done)
    have a2 : decide (65 ≤ r) = true := by first | (simp; omega) | (simp [h]; done)
    have a3 : decide (r ≤ 90) = false := by first | (simp; omega) | (simp [h]; done)
    have a4 : (r == 95) = false := by first | (simp; omega) | (simp [h]; done)
    have a5 : decide (97 ≤ r) = true := by first | (simp; omega) | (simp [h]; done)
    have a6 : decide (r ≤ 122) = false := by first | (simp; omega) | (simp [h]; done)
    have a7 : decide (r < 8192) = true := by first | (simp; omega) | (simp [h]; done)
    have a8 : decide (192 ≤ r) = true := by first | (simp; omega) | (simp [h]; done)
    have a9 : (r != 215) = true := by first | (simp; omega) | (simp [h]; done)
    have a10 : (r != 247) = true := by first | (simp; omega) | (simp [h]; done)
    have a11 : decide (r ≤ 767) = true := by first | (simp; omega) | (simp [h]; done)
    have a12 : decide (880 ≤ r) = false := by first | (simp; omega) | (simp [h]; done)
    have a13 : (r != 894) = true := by first | (simp; omega) | (simp [h]; done)
    have a14 : (r == 8204) = false := by first | (simp; omega) | (simp [h]; done)
    have a15 : (r == 8205) = false := by first | (simp; omega) | (simp [h]; done)
    have a16 : decide (8304 ≤ r) = false := by first | (simp; omega) | (simp [h]; done)
    have a17 : decide (r ≤ 8591) = true := by first | (simp; omega) | (simp [h]; done)
    have a18 : decide (11264 ≤ r) = false := by first | (simp; omega) | (simp [h]; done)
    have a19 : decide (r ≤ 12271) = true := by first | (simp; omega) | (simp [h]; done)
    have a20 : decide (12289 ≤ r) = false := by first | (simp; omega) | (simp [h]; done)
    have a21 : decide (r ≤ 55295) = true := by first | (simp; omega) | (simp [h]; done)
    have a22 : decide (63744 ≤ r) = false := by first | (simp; omega) | (simp [h]; done)
    have a23 : decide (r ≤ 64975) = true := by first | (simp; omega) | (simp [h]; done)
    have a24 : decide (65008 ≤ r) = false := by first | (simp; omega) | (simp [h]; done)
    have a25 : decide (r ≤ 65533) = true := by first | (simp; omega) | (simp [h]; done)
    have a26 : decide (65536 ≤ r) = false := by first | (simp; omega) | (simp [h]; done)
    have a27 : decide (r ≤ 983039) = true := by first | (simp; omega) | (simp [h]; done)
    clear e h
    go_enter Tryz.func108, Tryz.ntmps108
    go_wp2
    go_ret
    exact ⟨rfl, rfl⟩
  · have e : isStart r = false := by
      rw [Bool.eq_false_iff, Ne, isStart_iff]; omega
    rw [e]
    have a0 : decide (r < 128) = false := by first | (simp; omega) | (simp [h]; done)
    have a1 : (r == 58) = false := by first | (simp; omega) | (simp [h]; done)
    have a2 : decide (65 ≤ r) = true := by first | (simp; omega) | (simp [h]; done)
    have a3 : decide (r ≤ 90) = false := by first | (simp; omega) | (simp [h]; done)
    have a4 : (r == 95) = false := by first | (simp; omega) | (simp [h]; done)
    have a5 : decide (97 ≤ r) = true := by first | (simp; omega) | (simp [h]; done)
    have a6 : decide (r ≤ 122) = false := by first | (simp; omega) | (simp [h]; done)
    have a7 : decide (r < 8192) = true := by first | (simp; omega) | (simp [h]; done)
    have a8 : decide (192 ≤ r) = true := by first | (simp; omega) | (simp [h]; done)
    have a9 : (r != 215) = true := by first | (simp; omega) | (simp [h]; done)
    have a10 : (r != 247) = false := by first | (simp; omega) | (simp [h]; done)
    have a11 : decide (r ≤ 767) = true := by first | (simp; omega) | (simp [h]; done)
    have a12 : decide (880 ≤ r) = false := by first | (simp; omega) | (simp [h]; done)
    have a13 : (r != 894) = true := by first | (simp; omega) | (simp [h]; done)
    have a14 : (r == 8204) = false := by first | (simp; omega) | (simp [h]; done)
    have a15 : (r == 8205) = false := by first | (simp; omega) | (simp [h]; done)
    have a16 : decide (8304 ≤ r) = false := by first | (simp; omega) | (simp [h]; done)
    have a17 : decide (r ≤ 8591) = true := by first | (simp; omega) | (simp [h]; done)
    have a18 : decide (11264 ≤ r) = false := by first | (simp; omega) | (simp [h]; done)
    have a19 : decide (r ≤ 12271) = true := by first | (simp; omega) | (simp [h]; done)
    have a20 : decide (12289 ≤ r) = false := by first | (simp; omega) | (simp [h]; done)
    have a21 : decide (r ≤ 55295) = true := by first | (simp; omega) | (simp [h]; done)
    have a22 : decide (63744 ≤ r) = false := by first | (simp; omega) | (simp [h]; done)
    have a23 : decide (r ≤ 64975) = true := by first | (simp; omega) | (simp [h]; done)
    have a24 : decide (65008 ≤ r) = false := by first | (simp; omega) | (simp [h]; done)
    have a25 : decide (r ≤ 65533) = true := by first | (simp; omega) | (simp [h]; done)
    have a26 : decide (65536 ≤ r) = false := by first | (simp; omega) | (simp [h]; done)
    have a27 : decide (r ≤ 983039) = true := by first | (simp; omega) | (simp [h]; done)
    clear e h
    go_enter Tryz.func108, Tryz.ntmps108
    go_wp2
    go_ret
    exact ⟨rfl, rfl⟩
  · have e : isStart r = true := by
      rw [isStart_iff]; omega
    rw [e]
    have a0 : decide (r < 128) = false := by first | (simp; omega) | (simp [h]; done)
    have a1 : (r == 58) = false := by first | (simp; omega) | (simp [h]; done)
    have a2 : decide (65 ≤ r) = true := by first | (simp; omega) | (simp [h]; done)
    have a3 : decide (r ≤ 90) = false := by first | (simp; omega) | (simp [h]; done)
    have a4 : (r == 95) = false := by first | (simp; omega) | (simp [h]; done)
    have a5 : decide (97 ≤ r) = true := by first | (simp; omega) | (simp [h]; done)
    have a6 : decide (r ≤ 122) = false := by first | (simp; omega) | (simp [h]; done)
    have a7 : decide (r < 8192) = true := by first | (simp; omega) | (simp [h]; done)
    have a8 : decide (192 ≤ r) = true := by first | (simp; omega) | (simp [h]; done)
    have a9 : (r != 215) = true := by first | (simp; omega) | (simp [h]; done)
    have a10 : (r != 247) = true := by first | (simp; omega) | (simp [h]; done)
    have a11 : decide (r ≤ 767) = true := by first | (simp; omega) | (simp [h]; done)
    have a12 : decide (880 ≤ r) = false := by first | (simp; omega) | (simp [h]; done)
    have a13 : (r != 894) = true := by first | (simp; omega) | (simp [h]; done)
    have a14 : (r == 8204) = false := by first | (simp; omega) | (simp [h]; done)
    have a15 : (r == 8205) = false := by first | (simp; omega) | (simp [h]; done)
    have a16 : decide (8304 ≤ r) = false := by first | (simp; omega) | (simp [h]; done)
    have a17 : decide (r ≤ 8591) = true := by first | (simp; omega) | (simp [h]; done)
    have a18 : decide (11264 ≤ r) = false := by first | (simp; omega) | (simp [h]; done)
    have a19 : decide (r ≤ 12271) = true := by first | (simp; omega) | (simp [h]; done)
    have a20 : decide (12289 ≤ r) = false := by first | (simp; omega) | (simp [h]; done)
    have a21 : decide (r ≤ 55295) = true := by first | (simp; omega) | (simp [h]; done)
    have a22 : decide (63744 ≤ r) = false := by first | (simp; omega) | (simp [h]; done)
    have a23 : decide (r ≤ 64975) = true := by first | (simp; omega) | (simp [h]; done)
    have a24 : decide (65008 ≤ r) = false := by first | (simp; omega) | (simp [h]; done)
    have a25 : decide (r ≤ 65533) = true := by first | (simp; omega) | (simp [h]; done)
    have a26 : decide (65536 ≤ r) = false := by first | (simp; omega) | (simp [h]; done)
    have a27 : decide (r ≤ 983039) = true := by first | (simp; omega) | (simp [h]; done)
    clear e h
    go_enter Tryz.func108, Tryz.ntmps108
    go_wp2
    go_ret
    exact ⟨rfl, rfl⟩
  · have e : isStart r = false := by
      rw [Bool.eq_false_iff, Ne, isStart_iff]; omega
    rw [e]
    have a0 : decide (r < 128) = false := by first | (simp; omega) | (simp [h]; done)
    have a1 : (r == 58) = false := by first | (simp; omega) | (simp [h]; done)
    have a2 : decide (65 ≤ r) = true := by first | (simp; omega) | (simp [h]; done)
    have a3 : decide (r ≤ 90) = false := by first | (simp; omega) | (simp [h]; done)
    have a4 : (r == 95) = false := by first | (simp; omega) | (simp [h]; done)
    have a5 : decide (97 ≤ r) = true := by first | (simp; omega) | (simp [h]; done)
    have a6 : decide (r ≤ 122) = false := by first | (simp; omega) | (simp [h]; done)
    have a7 : decide (r < 8192) = true := by first | (simp; omega) | (simp [h]; done)
    have a8 : decide (192 ≤ r) = true := by first | (simp; omega) | (simp [h]; done)
    have a9 : (r != 215) = true := by first | (simp; omega) | (simp [h]; done)
    have a10 : (r != 247) = true := by first | (simp; omega) | (simp [h]; done)
    have a11 : decide (r ≤ 767) = false := by first | (simp; omega) | (simp [h]; done)
    have a12 : decide (880 ≤ r) = false := by first | (simp; omega) | (simp [h]; done)
    have a13 : (r != 894) = true := by first | (simp; omega) | (simp [h]; done)
    have a14 : (r == 8204) = false := by first | (simp; omega) | (simp [h]; done)
    have a15 : (r == 8205) = false := by first | (simp; omega) | (simp [h]; done)
    have a16 : decide (8304 ≤ r) = false := by first | (simp; omega) | (simp [h]; done)
    have a17 : decide (r ≤ 8591) = true := by first | (simp; omega) | (simp [h]; done)
    have a18 : decide (11264 ≤ r) = false := by first | (simp; omega) | (simp [h]; done)
    have a19 : decide (r ≤ 12271) = true := by first | (simp; omega) | (simp [h]; done)
    have a20 : decide (12289 ≤ r) = false := by first | (simp; omega) | (simp [h]; done)
    have a21 : decide (r ≤ 55295) = true := by first | (simp; omega) | (simp [h]; done)
    have a22 : decide (63744 ≤ r) = false := by first | (simp; omega) | (simp [h]; done)
    have a23 : decide (r ≤ 64975) = true := by first | (simp; omega) | (simp [h]; done)
    have a24 : decide (65008 ≤ r) = false := by first | (simp; omega) | (simp [h]; done)
    have a25 : decide (r ≤ 65533) = true := by first | (simp; omega) | (simp [h]; done)
    have a26 : decide (65536 ≤ r) = false := by first | (simp; omega) | (simp [h]; done)
    have a27 : decide (r ≤ 983039) = true := by first | (simp; omega) | (simp [h]; done)
    clear e h
    go_enter Tryz.func108, Tryz.ntmps108
    go_wp2
    go_ret
    exact ⟨rfl, rfl⟩
  · have e : isStart r = true := by
      rw [isStart_iff]; omega
    rw [e]
    have a0 : decide (r < 128) = false := by first | (simp; omega) | (simp [h]; done)
    have a1 : (r == 58) = false := by first | (simp; omega) | (simp [h]; done)
    have a2 : decide (65 ≤ r) = true := by first | (simp; omega) | (simp [h]; done)
    have a3 : decide (r ≤ 90) = false := by first | (simp; omega) | (simp [h]; done)
    have a4 : (r == 95) = false := by first | (simp; omega) | (simp [h]; done)
    have a5 : decide (97 ≤ r) = true := by first | (simp; omega) | (simp [h]; done)
    have a6 : decide (r ≤ 122) = false := by first | (simp; omega) | (simp [h]; done)
    have a7 : decide (r < 8192) = true := by first | (simp; omega) | (simp [h]; done)
    have a8 : decide (192 ≤ r) = true := by first | (simp; omega) | (simp [h]; done)
    have a9 : (r != 215) = true := by first | (simp; omega) | (simp [h]; done)
    have a10 : (r != 247) = true := by first | (simp; omega) | (simp [h]; done)
    have a11 : decide (r ≤ 767) = false := by first | (simp; omega) | (simp [h]; done)
    have a12 : decide (880 ≤ r) = true := by first | (simp; omega) | (simp [h]; done)
    have a13 : (r != 894) = true := by first | (simp; omega) | (simp [h]; done)
    have a14 : (r == 8204) = false := by first | (simp; omega) | (simp [h]; done)
    have a15 : (r == 8205) = false := by first | (simp; omega) | (simp [h]; done)
    have a16 : decide (8304 ≤ r) = false := by first | (simp; omega) | (simp [h]; done)
    have a17 : decide (r ≤ 8591) = true := by first | (simp; omega) | (simp [h]; done)
    have a18 : decide (11264 ≤ r) = false := by first | (simp; omega) | (simp [h]; done)
    have a19 : decide (r ≤ 12271) = true := by first | (simp; omega) | (simp [h]; done)
    have a20 : decide (12289 ≤ r) = false := by first | (simp; omega) | (simp [h]; done)
    have a21 : decide (r ≤ 55295) = true := by first | (simp; omega) | (simp [h]; done)
    have a22 : decide (63744 ≤ r) = false := by first | (simp; omega) | (simp [h]; done)
    have a23 : decide (r ≤ 64975) = true := by first | (simp; omega) | (simp [h]; done)
    have a24 : decide (65008 ≤ r) = false := by first | (simp; omega) | (simp [h]; done)
    have a25 : decide (r ≤ 65533) = true := by first | (simp; omega) | (simp [h]; done)
    have a26 : decide (65536 ≤ r) = false := by first | (simp; omega) | (simp [h]; done)
    have a27 : decide (r ≤ 983039) = true := by first | (simp; omega) | (simp [h]; done)
    clear e h
    go_enter Tryz.func108, Tryz.ntmps108
    go_wp2
    go_ret
    exact ⟨rfl, rfl⟩
  · have e : isStart r = false := by
      rw [Bool.eq_false_iff, Ne, isStart_iff]; omega
    rw [e]
    have a0 : decide (r < 128) = false := by first | (simp; omega) | (simp [h]; done)
    have a1 : (r == 58) = false := by first | (simp; omega) | (simp [h]; done)
    have a2 : decide (65 ≤ r) = true := by first | (simp; omega) | (simp [h]; done)
    have a3 : decide (r ≤ 90) = false := by first | (simp; omega) | (simp [h]; done)
    have a4 : (r == 95) = false := by first | (simp; omega) | (simp [h]; done)
    have a5 : decide (97 ≤ r) = true := by first | (simp; omega) | (simp [h]; done)
    have a6 : decide (r ≤ 122) = false := by first | (simp; omega) | (simp [h]; done)
    have a7 : decide (r < 8192) = true := by first | (simp; omega) | (simp [h]; done)
    have a8 : decide (192 ≤ r) = true := by first | (simp; omega) | (simp [h]; done)
    have a9 : (r != 215) = true := by first | (simp; omega) | (simp [h]; done)
    have a10 : (r != 247) = true := by first | (simp; omega) | (simp [h]; done)
    have a11 : decide (r ≤ 767) = false := by first | (simp; omega) | (simp [h]; done)
    have a12 : decide (880 ≤ r) = true := by first | (simp; omega) | (simp [h]; done)
    have a13 : (r != 894) = false := by first | (simp; omega) | (simp [h]; done)
    have a14 : (r == 8204) = false := by first | (simp; omega) | (simp [h]; done)
    have a15 : (r == 8205) = false := by first | (simp; omega) | (simp [h]; done)
    have a16 : decide (8304 ≤ r) = false := by first | (simp; omega) | (simp [h]; done)
    have a17 : decide (r ≤ 8591) = true := by first | (simp; omega) | (simp [h]; done)
    have a18 : decide (11264 ≤ r) = false := by first | (simp; omega) | (simp [h]; done)
    have a19 : decide (r ≤ 12271) = true := by first | (simp; omega) | (simp [h]; done)
    have a20 : decide (12289 ≤ r) = false := by first | (simp; omega) | (simp [h]; done)
    have a21 : decide (r ≤ 55295) = true := by first | (simp; omega) | (simp [h]; done)
    have a22 : decide (63744 ≤ r) = false := by first | (simp; omega) | (simp [h]; done)
    have a23 : decide (r ≤ 64975) = true := by first | (simp; omega) | (simp [h]; done)
    have a24 : decide (65008 ≤ r) = false := by first | (simp; omega) | (simp [h]; done)
    have a25 : decide (r ≤ 65533) = true := by first | (simp; omega) | (simp [h]; done)
    have a26 : decide (65536 ≤ r) = false := by first | (simp; omega) | (simp [h]; done)
    have a27 : decide (r ≤ 983039) = true := by first | (simp; omega) | (simp [h]; done)
    clear e h
    go_enter Tryz.func108, Tryz.ntmps108
    go_wp2
    go_ret
    exact ⟨rfl, rfl⟩
  · have e : isStart r = true := by
      rw [isStart_iff]; omega
    rw [e]
    have a0 : decide (r < 128) = false := by first | (simp; omega) | (simp [h]; done)
    have a1 : (r == 58) = false := by first | (simp; omega) | (simp [h]; done)
    have a2 : decide (65 ≤ r) = true := by first | (simp; omega) | (simp [h]; done)
    have a3 : decide (r ≤ 90) = false := by first | (simp; omega) | (simp [h]; done)
    have a4 : (r == 95) = false := by first | (simp; omega) | (simp [h]; done)
    have a5 : decide (97 ≤ r) = true := by first | (simp; omega) | (simp [h]; done)
    have a6 : decide (r ≤ 122) = false := by first | (simp; omega) | (simp [h]; done)
    have a7 : decide (r < 8192) = true := by first | (simp; omega) | (simp [h]; done)
    have a8 : decide (192 ≤ r) = true := by first | (simp; omega) | (simp [h]; done)
    have a9 : (r != 215) = true := by first | (simp; omega) | (simp [h]; done)
    have a10 : (r != 247) = true := by first | (simp; omega) | (simp [h]; done)
    have a11 : decide (r ≤ 767) = false := by first | (simp; omega) | (simp [h]; done)
    have a12 : decide (880 ≤ r) = true := by first | (simp; omega) | (simp [h]; done)
    have a13 : (r != 894) = true := by first | (simp; omega) | (simp [h]; done)
    have a14 : (r == 8204) = false := by first | (simp; omega) | (simp [h]; done)
    have a15 : (r == 8205) = false := by first | (simp; omega) | (simp [h]; done)
    have a16 : decide (8304 ≤ r) = false := by first | (simp; omega) | (simp [h]; done)
    have a17 : decide (r ≤ 8591) = true := by first | (simp; omega) | (simp [h]; done)
    have a18 : decide (11264 ≤ r) = false := by first | (simp; omega) | (simp [h]; done)
    have a19 : decide (r ≤ 12271) = true := by first | (simp; omega) | (simp [h]; done)
    have a20 : decide (12289 ≤ r) = false := by first | (simp; omega) | (simp [h]; done)
    have a21 : decide (r ≤ 55295) = true := by first | (simp; omega) | (simp [h]; done)
    have a22 : decide (63744 ≤ r) = false := by first | (simp; omega) | (simp [h]; done)
    have a23 : decide (r ≤ 64975) = true := by first | (simp; omega) | (simp [h]; done)
    have a24 : decide (65008 ≤ r) = false := by first | (simp; omega) | (simp [h]; done)
    have a25 : decide (r ≤ 65533) = true := by first | (simp; omega) | (simp [h]; done)
    have a26 : decide (65536 ≤ r) = false := by first | (simp; omega) | (simp [h]; done)
    have a27 : decide (r ≤ 983039) = true := by first | (simp; omega) | (simp [h]; done)
    clear e h
    go_enter Tryz.func108, Tryz.ntmps108
    go_wp2
    go_ret
    exact ⟨rfl, rfl⟩
  · have e : isStart r = false := by
      rw [Bool.eq_false_iff, Ne, isStart_iff]; omega
    rw [e]
    have a0 : decide (r < 128) = false := by first | (simp; omega) | (simp [h]; done)
    have a1 : (r == 58) = false := by first | (simp; omega) | (simp [h]; done)
    have a2 : decide (65 ≤ r) = true := by first | (simp; omega) | (simp [h]; done)
    have a3 : decide (r ≤ 90) = false := by first | (simp; omega) | (simp [h]; done)
    have a4 : (r == 95) = false := by first | (simp; omega) | (simp [h]; done)
    have a5 : decide (97 ≤ r) = true := by first | (simp; omega) | (simp [h]; done)
    have a6 : decide (r ≤ 122) = false := by first | (simp; omega) | (simp [h]; done)
    have a7 : decide (r < 8192) = false := by first | (simp; omega) | (simp [h]; done)
    have a8 : decide (192 ≤ r) = true := by first | (simp; omega) | (simp [h]; done)
    have a9 : (r != 215) = true := by first | (simp; omega) | (simp [h]; done)
    have a10 : (r != 247) = true := by first | (simp; omega) | (simp [h]; done)
    have a11 : decide (r ≤ 767) = false := by first | (simp; omega) | (simp [h]; done)
    have a12 : decide (880 ≤ r) = true := by first | (simp; omega) | (simp [h]; done)
    have a13 : (r != 894) = true := by first | (simp; omega) | (simp [h]; done)
    have a14 : (r == 8204) = false := by first | (simp; omega) | (simp [h]; done)
    have a15 : (r == 8205) = false := by first | (simp; omega) | (simp [h]; done)
    have a16 : decide (8304 ≤ r) = false := by first | (simp; omega) | (simp [h]; done)
    have a17 : decide (r ≤ 8591) = true := by first | (simp; omega) | (simp [h]; done)
    have a18 : decide (11264 ≤ r) = false := by first | (simp; omega) | (simp [h]; done)
    have a19 : decide (r ≤ 12271) = true := by first | (simp; omega) | (simp [h]; done)
    have a20 : decide (12289 ≤ r) = false := by first | (simp; omega) | (simp [h]; done)
    have a21 : decide (r ≤ 55295) = true := by first | (simp; omega) | (simp [h]; done)
    have a22 : decide (63744 ≤ r) = false := by first | (simp; omega) | (simp [h]; done)
    have a23 : decide (r ≤ 64975) = true := by first | (simp; omega) | (simp [h]; done)
    have a24 : decide (65008 ≤ r) = false := by first | (simp; omega) | (simp [h]; done)
    have a25 : decide (r ≤ 65533) = true := by first | (simp; omega) | (simp [h]; done)
    have a26 : decide (65536 ≤ r) = false := by first | (simp; omega) | (simp [h]; done)
    have a27 : decide (r ≤ 983039) = true := by first | (simp; omega) | (simp [h]; done)
    clear e h
    go_enter Tryz.func108, Tryz.ntmps108
    go_wp2
    go_ret
    exact ⟨rfl, rfl⟩
  · have e : isStart r = true := by
      rw [isStart_iff]; omega
    rw [e]
    have a0 : decide (r < 128) = false := by first | (simp; omega) | (simp [h]; done)
    have a1 : (r == 58) = false := by first | (simp; omega) | (simp [h]; done)
    have a2 : decide (65 ≤ r) = true := by first | (simp; omega) | (simp [h]; done)
    have a3 : decide (r ≤ 90) = false := by first | (simp; omega) | (simp [h]; done)
    have a4 : (r == 95) = false := by first | (simp; omega) | (simp [h]; done)
    have a5 : decide (97 ≤ r) = true := by first | (simp; omega) | (simp [h]; done)
    have a6 : decide (r ≤ 122) = false := by first | (simp; omega) | (simp [h]; done)
    have a7 : decide (r < 8192) = false := by first | (simp; omega) | (simp [h]; done)
    have a8 : decide (192 ≤ r) = true := by first | (simp; omega) | (simp [h]; done)
    have a9 : (r != 215) = true := by first | (simp; omega) | (simp [h]; done)
    have a10 : (r != 247) = true := by first | (simp; omega) | (simp [h]; done)
    have a11 : decide (r ≤ 767) = false := by first | (simp; omega) | (simp [h]; done)
    have a12 : decide (880 ≤ r) = true := by first | (simp; omega) | (simp [h]; done)
    have a13 : (r != 894) = true := by first | (simp; omega) | (simp [h]; done)
    have a14 : (r == 8204) = true := by first | (simp; omega) | (simp [h]; done)
    have a15 : (r == 8205) = false := by first | (simp; omega) | (simp [h]; done)
    have a16 : decide (8304 ≤ r) = false := by first | (simp; omega) | (simp [h]; done)
    have a17 : decide (r ≤ 8591) = true := by first | (simp; omega) | (simp [h]; done)
    have a18 : decide (11264 ≤ r) = false := by first | (simp; omega) | (simp [h]; done)
    have a19 : decide (r ≤ 12271) = true := by first | (simp; omega) | (simp [h]; done)
    have a20 : decide (12289 ≤ r) = false := by first | (simp; omega) | (simp [h]; done)
    have a21 : decide (r ≤ 55295) = true := by first | (simp; omega) | (simp [h]; done)
    have a22 : decide (63744 ≤ r) = false := by first | (simp; omega) | (simp [h]; done)
    have a23 : decide (r ≤ 64975) = true := by first | (simp; omega) | (simp [h]; done)
    have a24 : decide (65008 ≤ r) = false := by first | (simp; omega) | (simp [h]; done)
    have a25 : decide (r ≤ 65533) = true := by first | (simp; omega) | (simp [h]; done)
    have a26 : decide (65536 ≤ r) = false := by first | (simp; omega) | (simp [h]; done)
    have a27 : decide (r ≤ 983039) = true := by first | (simp; omega) | (simp [h]; done)
    clear e h
    go_enter Tryz.func108, Tryz.ntmps108
    go_wp2
    go_ret
    exact ⟨rfl, rfl⟩
  · have e : isStart r = true := by
      rw [isStart_iff]; omega
    rw [e]
    have a0 : decide (r < 128) = false := by first | (simp; omega) | (simp [h]; done)
    have a1 : (r == 58) = false := by first | (simp; omega) | (simp [h]; done)
    have a2 : decide (65 ≤ r) = true := by first | (simp; omega) | (simp [h]; done)
    have a3 : decide (r ≤ 90) = false := by first | (simp; omega) | (simp [h]; done)
    have a4 : (r == 95) = false := by first | (simp; omega) | (simp [h]; done)
    have a5 : decide (97 ≤ r) = true := by first | (simp; omega) | (simp [h]; done)
    have a6 : decide (r ≤ 122) = false := by first | (simp; omega) | (simp [h]; done)
    have a7 : decide (r < 8192) = false := by first | (simp; omega) | (simp [h]; done)
    have a8 : decide (192 ≤ r) = true := by first | (simp; omega) | (simp [h]; done)
    have a9 : (r != 215) = true := by first | (simp; omega) | (simp [h]; done)
    have a10 : (r != 247) = true := by first | (simp; omega) | (simp [h]; done)
    have a11 : decide (r ≤ 767) = false := by first | (simp; omega) | (simp [h]; done)
    have a12 : decide (880 ≤ r) = true := by first | (simp; omega) | (simp [h]; done)
    have a13 : (r != 894) = true := by first | (simp; omega) | (simp [h]; done)
    have a14 : (r == 8204) = false := by first | (simp; omega) | (simp [h]; done)
    have a15 : (r == 8205) = true := by first | (simp; omega) | (simp [h]; done)
    have a16 : decide (8304 ≤ r) = false := by first | (simp; omega) | (simp [h]; done)
    have a17 : decide (r ≤ 8591) = true := by first | (simp; omega) | (simp [h]; done)
    have a18 : decide (11264 ≤ r) = false := by first | (simp; omega) | (simp [h]; done)
    have a19 : decide (r ≤ 12271) = true := by first | (simp; omega) | (simp [h]; done)
    have a20 : decide (12289 ≤ r) = false := by first | (simp; omega) | (simp [h]; done)
    have a21 : decide (r ≤ 55295) = true := by first | (simp; omega) | (simp [h]; done)
    have a22 : decide (63744 ≤ r) = false := by first | (simp; omega) | (simp [h]; done)
    have a23 : decide (r ≤ 64975) = true := by first | (simp; omega) | (simp [h]; done)
    have a24 : decide (65008 ≤ r) = false := by first | (simp; omega) | (simp [h]; done)
    have a25 : decide (r ≤ 65533) = true := by first | (simp; omega) | (simp [h]; done)
    have a26 : decide (65536 ≤ r) = false := by first | (simp; omega) | (simp [h]; done)
    have a27 : decide (r ≤ 983039) = true := by first | (simp; omega) | (simp [h]; done)
    clear e h
    go_enter Tryz.func108, Tryz.ntmps108
    go_wp2
    go_ret
    exact ⟨rfl, rfl⟩
  · have e : isStart r = false := by
      rw [Bool.eq_false_iff, Ne, isStart_iff]; omega
    rw [e]
    have a0 : decide (r < 128) = false := by first | (simp; omega) | (simp [h]; done)
    have a1 : (r == 58) = false := by first | (simp; omega) | (simp [h]; done)
    have a2 : decide (65 ≤ r) = true := by first | (simp; omega) | (simp [h]; done)
    have a3 : decide (r ≤ 90) = false := by first | (simp; omega) | (simp [h]; done)
    have a4 : (r == 95) = false := by first | (simp; omega) | (simp [h]; done)
    have a5 : decide (97 ≤ r) = true := by first | (simp; omega) | (simp [h]; done)
    have a6 : decide (r ≤ 122) = false := by first | (simp; omega) | (simp [h]; done)
    have a7 : decide (r < 8192) = false := by first | (simp; omega) | (simp [h]; done)
    have a8 : decide (192 ≤ r) = true := by first | (simp; omega) | (simp [h]; done)
    have a9 : (r != 215) = true := by first | (simp; omega) | (simp [h]; done)
    have a10 : (r != 247) = true := by first | (simp; omega) | (simp [h]; done)
    have a11 : decide (r ≤ 767) = false := by first | (simp; omega) | (simp [h]; done)
    have a12 : decide (880 ≤ r) = true := by first | (simp; omega) | (simp [h]; done)
    have a13 : (r != 894) = true := by first | (simp; omega) | (simp [h]; done)
    have a14 : (r == 8204) = false := by first | (simp; omega) | (simp [h]; done)
    have a15 : (r == 8205) = false := by first | (simp; omega) | (simp [h]; done)
    have a16 : decide (8304 ≤ r) = false := by first | (simp; omega) | (simp [h]; done)
    have a17 : decide (r ≤ 8591) = true := by first | (simp; omega) | (simp [h]; done)
    have a18 : decide (11264 ≤ r) = false := by first | (simp; omega) | (simp [h]; done)
    have a19 : decide (r ≤ 12271) = true := by first | (simp; omega) | (simp [h]; done)
    have a20 : decide (12289 ≤ r) = false := by first | (simp; omega) | (simp [h]; done)
    have a21 : decide (r ≤ 55295) = true := by first | (simp; omega) | (simp [h]; done)
    have a22 : decide (63744 ≤ r) = false := by first | (simp; omega) | (simp [h]; done)
    have a23 : decide (r ≤ 64975) = true := by first | (simp; omega) | (simp [h]; done)
    have a24 : decide (65008 ≤ r) = false := by first | (simp; omega) | (simp [h]; done)
    have a25 : decide (r ≤ 65533) = true := by first | (simp; omega) | (simp [h]; done)
    have a26 : decide (65536 ≤ r) = false := by first | (simp; omega) | (simp [h]; done)
    have a27 : decide (r ≤ 983039) = true := by first | (simp; omega) | (simp [h]; done)
    clear e h
    go_enter Tryz.func108, Tryz.ntmps108
    go_wp2
    go_ret
    exact ⟨rfl, rfl⟩
  · have e : isStart r = true := by
      rw [isStart_iff]; omega
    rw [e]
    have a0 : decide (r < 128) = false := by first | (simp; omega) | (simp [h]; done)
    have a1 : (r == 58) = false := by first | (simp; omega) | (simp [h]; done)
    have a2 : decide (65 ≤ r) = true := by first | (simp; omega) | (simp [h]; done)
    have a3 : decide (r ≤ 90) = false := by first | (simp; omega) | (simp [h]; done)
    have a4 : (r == 95) = false := by first | (simp; omega) | (simp [h]; done)
    have a5 : decide (97 ≤ r) = true := by first | (simp; omega) | (simp [h]; done)
    have a6 : decide (r ≤ 122) = false := by first | (simp; omega) | (simp [h]; done)
    have a7 : decide (r < 8192) = false := by first | (simp; omega) | (simp [h]; done)
    have a8 : decide (192 ≤ r) = true := by first | (simp; omega) | (simp [h]; done)
    have a9 : (r != 215) = true := by first | (simp; omega) | (simp [h]; done)
    have a10 : (r != 247) = true := by first | (simp; omega) | (simp [h]; done)
    have a11 : decide (r ≤ 767) = false := by first | (simp; omega) | (simp [h]; done)
    have a12 : decide (880 ≤ r) = true := by first | (simp; omega) | (simp [h]; done)
    have a13 : (r != 894) = true := by first | (simp; omega) | (simp [h]; done)
    have a14 : (r == 8204) = false := by first | (simp; omega) | (simp [h]; done)
    have a15 : (r == 8205) = false := by first | (simp; omega) | (simp [h]; done)
    have a16 : decide (8304 ≤ r) = true := by first | (simp; omega) | (simp [h]; done)
    have a17 : decide (r ≤ 8591) = true := by first | (simp; omega) | (simp [h]; done)
    have a18 : decide (11264 ≤ r) = false := by first | (simp; omega) | (simp [h]; done)
    have a19 : decide (r ≤ 12271) = true := by first | (simp; omega) | (simp [h]; done)
    have a20 : decide (12289 ≤ r) = false := by first | (simp; omega) | (simp [h]; done)
    have a21 : decide (r ≤ 55295) = true := by first | (simp; omega) | (simp [h]; done)
    have a22 : decide (63744 ≤ r) = false := by first | (simp; omega) | (simp [h]; done)
    have a23 : decide (r ≤ 64975) = true := by first | (simp; omega) | (simp [h]; done)
    have a24 : decide (65008 ≤ r) = false := by first | (simp; omega) | (simp [h]; done)
    have a25 : decide (r ≤ 65533) = true := by first | (simp; omega) | (simp [h]; done)
    have a26 : decide (65536 ≤ r) = false := by first | (simp; omega) | (simp [h]; done)
    have a27 : decide (r ≤ 983039) = true := by first | (simp; omega) | (simp [h]; done)
    clear e h
    go_enter Tryz.func108, Tryz.ntmps108
    go_wp2
    go_ret
    exact ⟨rfl, rfl⟩
  · have e : isStart r = false := by
      rw [Bool.eq_false_iff, Ne, isStart_iff]; omega
    rw [e]
    have a0 : decide (r < 128) = false := by first | (simp; omega) | (simp [h]; done)
    have a1 : (r == 58) = false := by first | (simp; omega) | (simp [h]; done)
    have a2 : decide (65 ≤ r) = true := by first | (simp; omega) | (simp [h]; done)
    have a3 : decide (r ≤ 90) = false := by first | (simp; omega) | (simp [h]; done)
    have a4 : (r == 95) = false := by first | (simp; omega) | (simp [h]; done)
    have a5 : decide (97 ≤ r) = true := by first | (simp; omega) | (simp [h]; done)
    have a6 : decide (r ≤ 122) = false := by first | (simp; omega) | (simp [h]; done)
    have a7 : decide (r < 8192) = false := by first | (simp; omega) | (simp [h]; done)
    have a8 : decide (192 ≤ r) = true := by first | (simp; omega) | (simp [h]; done)
    have a9 : (r != 215) = true := by first | (simp; omega) | (simp [h]; done)
    have a10 : (r != 247) = true := by first | (simp; omega) | (simp [h]; done)
    have a11 : decide (r ≤ 767) = false := by first | (simp; omega) | (simp [h]; done)
    have a12 : decide (880 ≤ r) = true := by first | (simp; omega) | (simp [h]; done)
    have a13 : (r != 894) = true := by first | (simp; omega) | (simp [h]; done)
    have a14 : (r == 8204) = false := by first | (simp; omega) | (simp [h]; done)
    have a15 : (r == 8205) = false := by first | (simp; omega) | (simp [h]; done)
    have a16 : decide (8304 ≤ r) = true := by first | (simp; omega) | (simp [h]; done)
    have a17 : decide (r ≤ 8591) = false := by first | (simp; omega) | (simp [h]; done)
    have a18 : decide (11264 ≤ r) = false := by first | (simp; omega) | (simp [h]; done)
    have a19 : decide (r ≤ 12271) = true := by first | (simp; omega) | (simp [h]; done)
    have a20 : decide (12289 ≤ r) = false := by first | (simp; omega) | (simp [h]; done)
    have a21 : decide (r ≤ 55295) = true := by first | (simp; omega) | (simp [h]; done)
    have a22 : decide (63744 ≤ r) = false := by first | (simp; omega) | (simp [h]; done)
    have a23 : decide (r ≤ 64975) = true := by first | (simp; omega) | (simp [h]; done)
    have a24 : decide (65008 ≤ r) = false := by first | (simp; omega) | (simp [h]; done)
    have a25 : decide (r ≤ 65533) = true := by first | (simp; omega) | (simp [h]; done)
    have a26 : decide (65536 ≤ r) = false := by first | (simp; omega) | (simp [h]; done)
    have a27 : decide (r ≤ 983039) = true := by first | (simp; omega) | (simp [h]; done)
    clear e h
    go_enter Tryz.func108, Tryz.ntmps108
    go_wp2
    go_ret
    exact ⟨rfl, rfl⟩
  · have e : isStart r = true := by
      rw [isStart_iff]; omega
    rw [e]
    have a0 : decide (r < 128) = false := by first | (simp; omega) | (simp [h]; done)
    have a1 : (r == 58) = false := by first | (simp; omega) | (simp [h]; done)
    have a2 : decide (65 ≤ r) = true := by first | (simp; omega) | (simp [h]; done)
    have a3 : decide (r ≤ 90) = false := by first | (simp; omega) | (simp [h]; done)
    have a4 : (r == 95) = false := by first | (simp; omega) | (simp [h]; done)
    have a5 : decide (97 ≤ r) = true := by first | (simp; omega) | (simp [h]; done)
    have a6 : decide (r ≤ 122) = false := by first | (simp; omega) | (simp [h]; done)
    have a7 : decide (r < 8192) = false := by first | (simp; omega) | (simp [h]; done)
    have a8 : decide (192 ≤ r) = true := by first | (simp; omega) | (simp [h]; done)
    have a9 : (r != 215) = true := by first | (simp; omega) | (simp [h]; done)
    have a10 : (r != 247) = true := by first | (simp; omega) | (simp [h]; done)
    have a11 : decide (r ≤ 767) = false := by first | (simp; omega) | (simp [h]; done)
    have a12 : decide (880 ≤ r) = true := by first | (simp; omega) | (simp [h]; done)
    have a13 : (r != 894) = true := by first | (simp; omega) | (simp [h]; done)
    have a14 : (r == 8204) = false := by first | (simp; omega) | (simp [h]; done)
    have a15 : (r == 8205) = false := by first | (simp; omega) | (simp [h]; done)
    have a16 : decide (8304 ≤ r) = true := by first | (simp; omega) | (simp [h]; done)
    have a17 : decide (r ≤ 8591) = false := by first | (simp; omega) | (simp [h]; done)
    have a18 : decide (11264 ≤ r) = true := by first | (simp; omega) | (simp [h]; done)
    have a19 : decide (r ≤ 12271) = true := by first | (simp; omega) | (simp [h]; done)
    have a20 : decide (12289 ≤ r) = false := by first | (simp; omega) | (simp [h]; done)
    have a21 : decide (r ≤ 55295) = true := by first | (simp; omega) | (simp [h]; done)
    have a22 : decide (63744 ≤ r) = false := by first | (simp; omega) | (simp [h]; done)
    have a23 : decide (r ≤ 64975) = true := by first | (simp; omega) | (simp [h]; done)
    have a24 : decide (65008 ≤ r) = false := by first | (simp; omega) | (simp [h]; done)
    have a25 : decide (r ≤ 65533) = true := by first | (simp; omega) | (simp [h]; done)
    have a26 : decide (65536 ≤ r) = false := by first | (simp; omega) | (simp [h]; done)
    have a27 : decide (r ≤ 983039) = true := by first | (simp; omega) | (simp [h]; done)
    clear e h
    go_enter Tryz.func108, Tryz.ntmps108
    go_wp2
    go_ret
    exact ⟨rfl, rfl⟩
  · have e : isStart r = false := by
      rw [Bool.eq_false_iff, Ne, isStart_iff]; omega
    rw [e]
    have a0 : decide (r < 128) = false := by first | (simp; omega) | (simp [h]; done)
    have a1 : (r == 58) = false := by first | (simp; omega) | (simp [h]; done)
    have a2 : decide (65 ≤ r) = true := by first | (simp; omega) | (simp [h]; done)
    have a3 : decide (r ≤ 90) = false := by first | (simp; omega) | (simp [h]; done)
    have a4 : (r == 95) = false := by first | (simp; omega) | (simp [h]; done)
    have a5 : decide (97 ≤ r) = true := by first | (simp; omega) | (simp [h]; done)
    have a6 : decide (r ≤ 122) = false := by first | (simp; omega) | (simp [h]; done)
    have a7 : decide (r < 8192) = false := by first | (simp; omega) | (simp [h]; done)
    have a8 : decide (192 ≤ r) = true := by first | (simp; omega) | (simp [h]; done)
    have a9 : (r != 215) = true := by first | (simp; omega) | (simp [h]; done)
    have a10 : (r != 247) = true := by first | (simp; omega) | (simp [h]; done)
    have a11 : decide (r ≤ 767) = false := by first | (simp; omega) | (simp [h]; done)
    have a12 : decide (880 ≤ r) = true := by first | (simp; omega) | (simp [h]; done)
    have a13 : (r != 894) = true := by first | (simp; omega) | (simp [h]; done)
    have a14 : (r == 8204) = false := by first | (simp; omega) | (simp [h]; done)
    have a15 : (r == 8205) = false := by first | (simp; omega) | (simp [h]; done)
    have a16 : decide (8304 ≤ r) = true := by first | (simp; omega) | (simp [h]; done)
    have a17 : decide (r ≤ 8591) = false := by first | (simp; omega) | (simp [h]; done)
    have a18 : decide (11264 ≤ r) = true := by first | (simp; omega) | (simp [h]; done)
    have a19 : decide (r ≤ 12271) = false := by first | (simp; omega) | (simp [h]; done)
    have a20 : decide (12289 ≤ r) = false := by first | (simp; omega) | (simp [h]; done)
    have a21 : decide (r ≤ 55295) = true := by first | (simp; omega) | (simp [h]; done)
    have a22 : decide (63744 ≤ r) = false := by first | (simp; omega) | (simp [h]; done)
    have a23 : decide (r ≤ 64975) = true := by first | (simp; omega) | (simp [h]; done)
    have a24 : decide (65008 ≤ r) = false := by first | (simp; omega) | (simp [h]; done)
    have a25 : decide (r ≤ 65533) = true := by first | (simp; omega) | (simp [h]; done)
    have a26 : decide (65536 ≤ r) = false := by first | (simp; omega) | (simp [h]; done)
    have a27 : decide (r ≤ 983039) = true := by first | (simp; omega) | (simp [h]; done)
    clear e h
    go_enter Tryz.func108, Tryz.ntmps108
    go_wp2
    go_ret
    exact ⟨rfl, rfl⟩
  · have e : isStart r = true := by
      rw [isStart_iff]; omega
    rw [e]
    have a0 : decide (r < 128) = false := by first | (simp; omega) | (simp [h]; done)
    have a1 : (r == 58) = false := by first | (simp; omega) | (simp [h]; done)
    have a2 : decide (65 ≤ r) = true := by first | (simp; omega) | (simp [h]; done)
    have a3 : decide (r ≤ 90) = false := by first | (simp; omega) | (simp [h]; done)
    have a4 : (r == 95) = false := by first | (simp; omega) | (simp [h]; done)
    have a5 : decide (97 ≤ r) = true := by first | (simp; omega) | (simp [h]; done)
    have a6 : decide (r ≤ 122) = false := by first | (simp; omega) | (simp [h]; done)
    have a7 : decide (r < 8192) = false := by first | (simp; omega) | (simp [h]; done)
    have a8 : decide (192 ≤ r) = true := by first | (simp; omega) | (simp [h]; done)
    have a9 : (r != 215) = true := by first | (simp; omega) | (simp [h]; done)
    have a10 : (r != 247) = true := by first | (simp; omega) | (simp [h]; done)
    have a11 : decide (r ≤ 767) = false := by first | (simp; omega) | (simp [h]; done)
    have a12 : decide (880 ≤ r) = true := by first | (simp; omega) | (simp [h]; done)
    have a13 : (r != 894) = true := by first | (simp; omega) | (simp [h]; done)
    have a14 : (r == 8204) = false := by first | (simp; omega) | (simp [h]; done)
    have a15 : (r == 8205) = false := by first | (simp; omega) | (simp [h]; done)
    have a16 : decide (8304 ≤ r) = true := by first | (simp; omega) | (simp [h]; done)
    have a17 : decide (r ≤ 8591) = false := by first | (simp; omega) | (simp [h]; done)
    have a18 : decide (11264 ≤ r) = true := by first | (simp; omega) | (simp [h]; done)
    have a19 : decide (r ≤ 12271) = false := by first | (simp; omega) | (simp [h]; done)
    have a20 : decide (12289 ≤ r) = true := by first | (simp; omega) | (simp [h]; done)
    have a21 : decide (r ≤ 55295) = true := by first | (simp; omega) | (simp [h]; done)
    have a22 : decide (63744 ≤ r) = false := by first | (simp; omega) | (simp [h]; done)
    have a23 : decide (r ≤ 64975) = true := by first | (simp; omega) | (simp [h]; done)
    have a24 : decide (65008 ≤ r) = false := by first | (simp; omega) | (simp [h]; done)
    have a25 : decide (r ≤ 65533) = true := by first | (simp; omega) | (simp [h]; done)
    have a26 : decide (65536 ≤ r) = false := by first | (simp; omega) | (simp [h]; done)
    have a27 : decide (r ≤ 983039) = true := by first | (simp; omega) | (simp [h]; done)
    clear e h
    go_enter Tryz.func108, Tryz.ntmps108
    go_wp2
    go_ret
    exact ⟨rfl, rfl⟩
  · have e : isStart r = false := by
      rw [Bool.eq_false_iff, Ne, isStart_iff]; omega
    rw [e]
    have a0 : decide (r < 128) = false := by first | (simp; omega) | (simp [h]; done)
    have a1 : (r == 58) = false := by first | (simp; omega) | (simp [h]; done)
    have a2 : decide (65 ≤ r) = true := by first | (simp; omega) | (simp [h]; done)
    have a3 : decide (r ≤ 90) = false := by first | (simp; omega) | (simp [h]; done)
    have a4 : (r == 95) = false := by first | (simp; omega) | (simp [h]; done)
    have a5 : decide (97 ≤ r) = true := by first | (simp; omega) | (simp [h]; done)
    have a6 : decide (r ≤ 122) = false := by first | (simp; omega) | (simp [h]; done)
    have a7 : decide (r < 8192) = false := by first | (simp; omega) | (simp [h]; done)
    have a8 : decide (192 ≤ r) = true := by first | (simp; omega) | (simp [h]; done)
    have a9 : (r != 215) = true := by first | (simp; omega) | (simp [h]; done)
    have a10 : (r != 247) = true := by first | (simp; omega) | (simp [h]; done)
    have a11 : decide (r ≤ 767) = false := by first | (simp; omega) | (simp [h]; done)
    have a12 : decide (880 ≤ r) = true := by first | (simp; omega) | (simp [h]; done)
    have a13 : (r != 894) = true := by first | (simp; omega) | (simp [h]; done)
    have a14 : (r == 8204) = false := by first | (simp; omega) | (simp [h]; done)
    have a15 : (r == 8205) = false := by first | (simp; omega) | (simp [h]; done)
    have a16 : decide (8304 ≤ r) = true := by first | (simp; omega) | (simp [h]; done)
    have a17 : decide (r ≤ 8591) = false := by first | (simp; omega) | (simp [h]; done)
    have a18 : decide (11264 ≤ r) = true := by first | (simp; omega) | (simp [h]; done)
    have a19 : decide (r ≤ 12271) = false := by first | (simp; omega) | (simp [h]; done)
    have a20 : decide (12289 ≤ r) = true := by first | (simp; omega) | (simp [h]; done)
    have a21 : decide (r ≤ 55295) = false := by first | (simp; omega) | (simp [h]; done)
    have a22 : decide (63744 ≤ r) = false := by first | (simp; omega) | (simp [h]; done)
    have a23 : decide (r ≤ 64975) = true := by first | (simp; omega) | (simp [h]; done)
    have a24 : decide (65008 ≤ r) = false := by first | (simp; omega) | (simp [h]; done)
    have a25 : decide (r ≤ 65533) = true := by first | (simp; omega) | (simp [h]; done)
    have a26 : decide (65536 ≤ r) = false := by first | (simp; omega) | (simp [h]; done)
    have a27 : decide (r ≤ 983039) = true := by first | (simp; omega) | (simp [h]; done)
    clear e h
    go_enter Tryz.func108, Tryz.ntmps108
    go_wp2
    go_ret
    exact ⟨rfl, rfl⟩
  · have e : isStart r = true := by
      rw [isStart_iff]; omega
    rw [e]
    have a0 : decide (r < 128) = false := by first | (simp; omega) | (simp [h]; done)
    have a1 : (r == 58) = false := by first | (simp; omega) | (simp [h]; done)
    have a2 : decide (65 ≤ r) = true := by first | (simp; omega) | (simp [h]; done)
    have a3 : decide (r ≤ 90) = false := by first | (simp; omega) | (simp [h]; done)
    have a4 : (r == 95) = false := by first | (simp; omega) | (simp [h]; done)
    have a5 : decide (97 ≤ r) = true := by first | (simp; omega) | (simp [h]; done)
    have a6 : decide (r ≤ 122) = false := by first | (simp; omega) | (simp [h]; done)
    have a7 : decide (r < 8192) = false := by first | (simp; omega) | (simp [h]; done)
    have a8 : decide (192 ≤ r) = true := by first | (simp; omega) | (simp [h]; done)
    have a9 : (r != 215) = true := by first | (simp; omega) | (simp [h]; done)
    have a10 : (r != 247) = true := by first | (simp; omega) | (simp [h]; done)
    have a11 : decide (r ≤ 767) = false := by first | (simp; omega) | (simp [h]; done)
    have a12 : decide (880 ≤ r) = true := by first | (simp; omega) | (simp [h]; done)
    have a13 : (r != 894) = true := by first | (simp; omega) | (simp [h]; done)
    have a14 : (r == 8204) = false := by first | (simp; omega) | (simp [h]; done)
    have a15 : (r == 8205) = false := by first | (simp; omega) | (simp [h]; done)
    have a16 : decide (8304 ≤ r) = true := by first | (simp; omega) | (simp [h]; done)
    have a17 : decide (r ≤ 8591) = false := by first | (simp; omega) | (simp [h]; done)
    have a18 : decide (11264 ≤ r) = true := by first | (simp; omega) | (simp [h]; done)
    have a19 : decide (r ≤ 12271) = false := by first | (simp; omega) | (simp [h]; done)
    have a20 : decide (12289 ≤ r) = true := by first | (simp; omega) | (simp [h]; done)
    have a21 : decide (r ≤ 55295) = false := by first | (simp; omega) | (simp [h]; done)
    have a22 : decide (63744 ≤ r) = true := by first | (simp; omega) | (simp [h]; done)
    have a23 : decide (r ≤ 64975) = true := by first | (simp; omega) | (simp [h]; done)
    have a24 : decide (65008 ≤ r) = false := by first | (simp; omega) | (simp [h]; done)
    have a25 : decide (r ≤ 65533) = true := by first | (simp; omega) | (simp [h]; done)
    have a26 : decide (65536 ≤ r) = false := by first | (simp; omega) | (simp [h]; done)
    have a27 : decide (r ≤ 983039) = true := by first | (simp; omega) | (simp [h]; done)
    clear e h
    go_enter Tryz.func108, Tryz.ntmps108
    go_wp2
    go_ret
    exact ⟨rfl, rfl⟩
  · have e : isStart r = false := by
      rw [Bool.eq_false_iff, Ne, isStart_iff]; omega
    rw [e]
    have a0 : decide (r < 128) = false := by first | (simp; omega) | (simp [h]; done)
    have a1 : (r == 58) = false := by first | (simp; omega) | (simp [h]; done)
    have a2 : decide (65 ≤ r) = true := by first | (simp; omega) | (simp [h]; done)
    have a3 : decide (r ≤ 90) = false := by first | (simp; omega) | (simp [h]; done)
    have a4 : (r == 95) = false := by first | (simp; omega) | (simp [h]; done)
    have a5 : decide (97 ≤ r) = true := by first | (simp; omega) | (simp [h]; done)
    have a6 : decide (r ≤ 122) = false := by first | (simp; omega) | (simp [h]; done)
    have a7 : decide (r < 8192) = false := by first | (simp; omega) | (simp [h]; done)
    have a8 : decide (192 ≤ r) = true := by first | (simp; omega) | (simp [h]; done)
    have a9 : (r != 215) = true := by first | (simp; omega) | (simp [h]; done)
    have a10 : (r != 247) = true := by first | (simp; omega) | (simp [h]; done)
    have a11 : decide (r ≤ 767) = false := by first | (simp; omega) | (simp [h]; done)
    have a12 : decide (880 ≤ r) = true := by first | (simp; omega) | (simp [h]; done)
    have a13 : (r != 894) = true := by first | (simp; omega) | (simp [h]; done)
    have a14 : (r == 8204) = false := by first | (simp; omega) | (simp [h]; done)
    have a15 : (r == 8205) = false := by first | (simp; omega) | (simp [h]; done)
    have a16 : decide (8304 ≤ r) = true := by first | (simp; omega) | (simp [h]; done)
    have a17 : decide (r ≤ 8591) = false := by first | (simp; omega) | (simp [h]; done)
    have a18 : decide (11264 ≤ r) = true := by first | (simp; omega) | (simp [h]; done)
    have a19 : decide (r ≤ 12271) = false := by first | (simp; omega) | (simp [h]; done)
    have a20 : decide (12289 ≤ r) = true := by first | (simp; omega) | (simp [h]; done)
    have a21 : decide (r ≤ 55295) = false := by first | (simp; omega) | (simp [h]; done)
    have a22 : decide (63744 ≤ r) = true := by first | (simp; omega) | (simp [h]; done)
    have a23 : decide (r ≤ 64975) = false := by first | (simp; omega) | (simp [h]; done)
    have a24 : decide (65008 ≤ r) = false := by first | (simp; omega) | (simp [h]; done)
    have a25 : decide (r ≤ 65533) = true := by first | (simp; omega) | (simp [h]; done)
    have a26 : decide (65536 ≤ r) = false := by first | (simp; omega) | (simp [h]; done)
    have a27 : decide (r ≤ 983039) = true := by first | (simp; omega) | (simp [h]; done)
    clear e h
    go_enter Tryz.func108, Tryz.ntmps108
    go_wp2
    go_ret
    exact ⟨rfl, rfl⟩
  · have e : isStart r = true := by
      rw [isStart_iff]; omega
    rw [e]
    have a0 : decide (r < 128) = false := by first | (simp; omega) | (simp [h]; done)
    have a1 : (r == 58) = false := by first | (simp; omega) | (simp [h]; done)
    have a2 : decide (65 ≤ r) = true := by first | (simp; omega) | (simp [h]; done)
    have a3 : decide (r ≤ 90) = false := by first | (simp; omega) | (simp [h]; done)
    have a4 : (r == 95) = false := by first | (simp; omega) | (simp [h]; done)
    have a5 : decide (97 ≤ r) = true := by first | (simp; omega) | (simp [h]; done)
    have a6 : decide (r ≤ 122) = false := by first | (simp; omega) | (simp [h]; done)
    have a7 : decide (r < 8192) = false := by first | (simp; omega) | (simp [h]; done)
    have a8 : decide (192 ≤ r) = true := by first | (simp; omega) | (simp [h]; done)
    have a9 : (r != 215) = true := by first | (simp; omega) | (simp [h]; done)
    have a10 : (r != 247) = true := by first | (simp; omega) | (simp [h]; done)
    have a11 : decide (r ≤ 767) = false := by first | (simp; omega) | (simp [h]; done)
    have a12 : decide (880 ≤ r) = true := by first | (simp; omega) | (simp [h]; done)
    have a13 : (r != 894) = true := by first | (simp; omega) | (simp [h]; done)
    have a14 : (r == 8204) = false := by first | (simp; omega) | (simp [h]; done)
    have a15 : (r == 8205) = false := by first | (simp; omega) | (simp [h]; done)
    have a16 : decide (8304 ≤ r) = true := by first | (simp; omega) | (simp [h]; done)
    have a17 : decide (r ≤ 8591) = false := by first | (simp; omega) | (simp [h]; done)
    have a18 : decide (11264 ≤ r) = true := by first | (simp; omega) | (simp [h]; done)
    have a19 : decide (r ≤ 12271) = false := by first | (simp; omega) | (simp [h]; done)
    have a20 : decide (12289 ≤ r) = true := by first | (simp; omega) | (simp [h]; done)
    have a21 : decide (r ≤ 55295) = false := by first | (simp; omega) | (simp [h]; done)
    have a22 : decide (63744 ≤ r) = true := by first | (simp; omega) | (simp [h]; done)
    have a23 : decide (r ≤ 64975) = false := by first | (simp; omega) | (simp [h]; done)
    have a24 : decide (65008 ≤ r) = true := by first | (simp; omega) | (simp [h]; done)
    have a25 : decide (r ≤ 65533) = true := by first | (simp; omega) | (simp [h]; done)
    have a26 : decide (65536 ≤ r) = false := by first | (simp; omega) | (simp [h]; done)
    have a27 : decide (r ≤ 983039) = true := by first | (simp; omega) | (simp [h]; done)
    clear e h
    go_enter Tryz.func108, Tryz.ntmps108
    go_wp2
    go_ret
    exact ⟨rfl, rfl⟩
  · have e : isStart r = false := by
      rw [Bool.eq_false_iff, Ne, isStart_iff]; omega
    rw [e]
    have a0 : decide (r < 128) = false := by first | (simp; omega) | (simp [h]; done)
    have a1 : (r == 58) = false := by first | (simp; omega) | (simp [h]; done)
    have a2 : decide (65 ≤ r) = true := by first | (simp; omega) | (simp [h]; done)
    have a3 : decide (r ≤ 90) = false := by first | (simp; omega) | (simp [h]; done)
    have a4 : (r == 95) = false := by first | (simp; omega) | (simp [h]; done)
    have a5 : decide (97 ≤ r) = true := by first | (simp; omega) | (simp [h]; done)
    have a6 : decide (r ≤ 122) = false := by first | (simp; omega) | (simp [h]; done)
    have a7 : decide (r < 8192) = false := by first | (simp; omega) | (simp [h]; done)
    have a8 : decide (192 ≤ r) = true := by first | (simp; omega) | (simp [h]; done)
    have a9 : (r != 215) = true := by first | (simp; omega) | (simp [h]; done)
    have a10 : (r != 247) = true := by first | (simp; omega) | (simp [h]; done)
    have a11 : decide (r ≤ 767) = false := by first | (simp; omega) | (simp [h]; done)
    have a12 : decide (880 ≤ r) = true := by first | (simp; omega) | (simp [h]; done)
    have a13 : (r != 894) = true := by first | (simp; omega) | (simp [h]; done)
    have a14 : (r == 8204) = false := by first | (simp; omega) | (simp [h]; done)
    have a15 : (r == 8205) = false := by first | (simp; omega) | (simp [h]; done)
    have a16 : decide (8304 ≤ r) = true := by first | (simp; omega) | (simp [h]; done)
    have a17 : decide (r ≤ 8591) = false := by first | (simp; omega) | (simp [h]; done)
    have a18 : decide (11264 ≤ r) = true := by first | (simp; omega) | (simp [h]; done)
    have a19 : decide (r ≤ 12271) = false := by first | (simp; omega) | (simp [h]; done)
    have a20 : decide (12289 ≤ r) = true := by first | (simp; omega) | (simp [h]; done)
    have a21 : decide (r ≤ 55295) = false := by first | (simp; omega) | (simp [h]; done)
    have a22 : decide (63744 ≤ r) = true := by first | (simp; omega) | (simp [h]; done)
    have a23 : decide (r ≤ 64975) = false := by first | (simp; omega) | (simp [h]; done)
    have a24 : decide (65008 ≤ r) = true := by first | (simp; omega) | (simp [h]; done)
    have a25 : decide (r ≤ 65533) = false := by first | (simp; omega) | (simp [h]; done)
    have a26 : decide (65536 ≤ r) = false := by first | (simp; omega) | (simp [h]; done)
    have a27 : decide (r ≤ 983039) = true := by first | (simp; omega) | (simp [h]; done)
    clear e h
    go_enter Tryz.func108, Tryz.ntmps108
    go_wp2
    go_ret
    exact ⟨rfl, rfl⟩
  · have e : isStart r = true := by
      rw [isStart_iff]; omega
    rw [e]
    have a0 : decide (r < 128) = false := by first | (simp; omega) | (simp [h]; done)
    have a1 : (r == 58) = false := by first | (simp; omega) | (simp [h]; done)
    have a2 : decide (65 ≤ r) = true := by first | (simp; omega) | (simp [h]; done)
    have a3 : decide (r ≤ 90) = false := by first | (simp; omega) | (simp [h]; done)
    have a4 : (r == 95) = false := by first | (simp; omega) | (simp [h]; done)
    have a5 : decide (97 ≤ r) = true := by first | (simp; omega) | (simp [h]; done)
    have a6 : decide (r ≤ 122) = false := by first | (simp; omega) | (simp [h]; done)
    have a7 : decide (r < 8192) = false := by first | (simp; omega) | (simp [h]; done)
    have a8 : decide (192 ≤ r) = true := by first | (simp; omega) | (simp [h]; done)
    have a9 : (r != 215) = true := by first | (simp; omega) | (simp [h]; done)
    have a10 : (r != 247) = true := by first | (simp; omega) | (simp [h]; done)
    have a11 : decide (r ≤ 767) = false := by first | (simp; omega) | (simp [h]; done)
    have a12 : decide (880 ≤ r) = true := by first | (simp; omega) | (simp [h]; done)
    have a13 : (r != 894) = true := by first | (simp; omega) | (simp [h]; done)
    have a14 : (r == 8204) = false := by first | (simp; omega) | (simp [h]; done)
    have a15 : (r == 8205) = false := by first | (simp; omega) | (simp [h]; done)
    have a16 : decide (8304 ≤ r) = true := by first | (simp; omega) | (simp [h]; done)
    have a17 : decide (r ≤ 8591) = false := by first | (simp; omega) | (simp [h]; done)
    have a18 : decide (11264 ≤ r) = true := by first | (simp; omega) | (simp [h]; done)
    have a19 : decide (r ≤ 12271) = false := by first | (simp; omega) | (simp [h]; done)
    have a20 : decide (12289 ≤ r) = true := by first | (simp; omega) | (simp [h]; done)
    have a21 : decide (r ≤ 55295) = false := by first | (simp; omega) | (simp [h]; done)
    have a22 : decide (63744 ≤ r) = true := by first | (simp; omega) | (simp [h]; done)
    have a23 : decide (r ≤ 64975) = false := by first | (simp; omega) | (simp [h]; done)
    have a24 : decide (65008 ≤ r) = true := by first | (simp; omega) | (simp [h]; done)
    have a25 : decide (r ≤ 65533) = false := by first | (simp; omega) | (simp [h]; done)
    have a26 : decide (65536 ≤ r) = true := by first | (simp; omega) | (simp [h]; done)
    have a27 : decide (r ≤ 983039) = true := by first | (simp; omega) | (simp [h]; done)
    clear e h
    go_enter Tryz.func108, Tryz.ntmps108
    go_wp2
    go_ret
    exact ⟨rfl, rfl⟩
  · have e : isStart r = false := by
      rw [Bool.eq_false_iff, Ne, isStart_iff]; omega
    rw [e]
    have a0 : decide (r < 128) = false := by first | (simp; omega) | (simp [h]; done)
    have a1 : (r == 58) = false := by first | (simp; omega) | (simp [h]; done)
    have a2 : decide (65 ≤ r) = true := by first | (simp; omega) | (simp [h]; done)
    have a3 : decide (r ≤ 90) = false := by first | (simp; omega) | (simp [h]; done)
    have a4 : (r == 95) = false := by first | (simp; omega) | (simp [h]; done)
    have a5 : decide (97 ≤ r) = true := by first | (simp; omega) | (simp [h]; done)
    have a6 : decide (r ≤ 122) = false := by first | (simp; omega) | (simp [h]; done)
    have a7 : decide (r < 8192) = false := by first | (simp; omega) | (simp [h]; done)
    have a8 : decide (192 ≤ r) = true := by first | (simp; omega) | (simp [h]; done)
    have a9 : (r != 215) = true := by first | (simp; omega) | (simp [h]; done)
    have a10 : (r != 247) = true := by first | (simp; omega) | (simp [h]; done)
    have a11 : decide (r ≤ 767) = false := by first | (simp; omega) | (simp [h]; done)
    have a12 : decide (880 ≤ r) = true := by first | (simp; omega) | (simp [h]; done)
    have a13 : (r != 894) = true := by first | (simp; omega) | (simp [h]; done)
    have a14 : (r == 8204) = false := by first | (simp; omega) | (simp [h]; done)
    have a15 : (r == 8205) = false := by first | (simp; omega) | (simp [h]; done)
    have a16 : decide (8304 ≤ r) = true := by first | (simp; omega) | (simp [h]; done)
    have a17 : decide (r ≤ 8591) = false := by first | (simp; omega) | (simp [h]; done)
    have a18 : decide (11264 ≤ r) = true := by first | (simp; omega) | (simp [h]; done)
    have a19 : decide (r ≤ 12271) = false := by first | (simp; omega) | (simp [h]; done)
    have a20 : decide (12289 ≤ r) = true := by first | (simp; omega) | (simp [h]; done)
    have a21 : decide (r ≤ 55295) = false := by first | (simp; omega) | (simp [h]; done)
    have a22 : decide (63744 ≤ r) = true := by first | (simp; omega) | (simp [h]; done)
    have a23 : decide (r ≤ 64975) = false := by first | (simp; omega) | (simp [h]; done)
    have a24 : decide (65008 ≤ r) = true := by first | (simp; omega) | (simp [h]; done)
    have a25 : decide (r ≤ 65533) = false := by first | (simp; omega) | (simp [h]; done)
    have a26 : decide (65536 ≤ r) = true := by first | (simp; omega) | (simp [h]; done)
    have a27 : decide (r ≤ 983039) = false := by first | (simp; omega) | (simp [h]; done)
    clear e h
    go_enter Tryz.func108, Tryz.ntmps108
    go_wp2
    go_ret
    exact ⟨rfl, rfl⟩
end Go.Proofs.YtfemfgkcgboopaaGreatDoor
