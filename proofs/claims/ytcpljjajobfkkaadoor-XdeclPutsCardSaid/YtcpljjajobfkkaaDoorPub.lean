/- Characters of public identifiers; classes. -/
import Derived.Test.YtcpljjajobfkkaaDoorRows
import Derived.WalkKit
import Derived.ProofKit
import Derived.OpenShut
import Derived.ShutString
import Derived.ChangeOld
import Derived.Below
import Derived.BigQuiet
import Derived.Deep.QuietTactic
import Derived.Lib.Hide
import Derived.Deep.RegionHeld3
import Derived.Lib.SlBytesConst
import Derived.Laws.CopyOwn
import Derived.Laws.CopyRow
import Derived.Lib.Bytes
import Derived.Deep.LoopGhost
import Derived.Deep.DeepFit
import Derived.Deep.DeepMust
import Derived.WalkSpells
import Derived.WalkLawsBesides
import Derived.Test.YtcpljjajobfkkaaDoorBase
import Derived.Test.YtcpljjajobfkkaaDoorShelf
import Derived.Test.YtcpljjajobfkkaaDoorCharPlain
import Derived.Test.YtcpljjajobfkkaaDoorUtf1
import Derived.Test.YtcpljjajobfkkaaDoorUtf2
import Derived.Test.YtcpljjajobfkkaaDoorUtf3
import Derived.Test.YtcpljjajobfkkaaDoorChars1
import Derived.Test.YtcpljjajobfkkaaDoorRef1
import Derived.Test.YtcpljjajobfkkaaDoorRef2
import Derived.Test.YtcpljjajobfkkaaDoorRef6
import Derived.Test.YtcpljjajobfkkaaDoorName1
import Derived.Test.YtcpljjajobfkkaaDoorName2
import Derived.Test.YtcpljjajobfkkaaDoorName3
import Derived.Test.YtcpljjajobfkkaaDoorCref1
import Derived.Test.YtcpljjajobfkkaaDoorCref2
import Derived.Test.YtcpljjajobfkkaaDoorDig
import Derived.Test.YtcpljjajobfkkaaDoorNum
import Derived.Test.YtcpljjajobfkkaaDoorStr
import Derived.Test.YtcpljjajobfkkaaDoorLitP
namespace Go.Proofs.YtcpljjajobfkkaaDoor
open Go.ChangeShapes Go.WideShapes Go.ChangeAt Go.RowKit
set_option linter.unusedVariables false
/-- The signs of a public identifier. -/
def signs : List UInt8 := [45, 39, 40, 41, 43, 44, 46, 47, 58, 61, 63, 59, 33, 42, 35, 64, 36, 95, 37]
def letterB (r : Int) : Bool := decide (97 ≤ r ∧ r ≤ 122) || decide (65 ≤ r ∧ r ≤ 90) || decide (48 ≤ r ∧ r ≤ 57)
/-- May it stand in a public identifier? -/
def isPub (r : Int) : Bool := letterB r || r == 32 || r == 13 || r == 10 || (decide (32 < r) && decide (r < 128) && decide (0 ≤ Lib.indexByte signs r.toNat.toUInt8))
def isBlank (r : Int) : Bool := r == 32 || r == 9 || r == 13 || r == 10
theorem signs_range : ∀ c ∈ signs, 32 < c.toNat ∧ c.toNat < 128 := by decide
theorem pub_sign (r : Int) (t : Nat) (c : UInt8) (h : signs[t]? = some c) (hr : (c.toNat : Int) = r) : isPub r = true := by
  have hc := signs_range c (List.mem_of_getElem? h)
  have e : r.toNat.toUInt8 = c := by rw [← hr, Int.toNat_natCast]; simp
  have hix : 0 ≤ Lib.indexByte signs r.toNat.toUInt8 := by
    rcases Int.lt_or_le (Lib.indexByte signs r.toNat.toUInt8) 0 with g | g
    · rw [e] at g; exact absurd h (ix_none c signs g t)
    · exact g
  have h1 : decide (32 < r) = true := by simp; omega
  have h2 : decide (r < 128) = true := by simp; omega
  have h3 : decide (0 ≤ Lib.indexByte signs r.toNat.toUInt8) = true := by simpa using hix
  unfold isPub
  rw [h1, h2, h3]
  simp
theorem pub_none (r : Int) (h0 : letterB r = false) (h1 : (r == 32) = false) (h2 : (r == 13) = false) (h3 : (r == 10) = false) (hn : ∀ j : Nat, ∀ c, signs[j]? = some c → ¬ (c.toNat : Int) = r) : isPub r = false := by
  unfold isPub
  rw [h0, h1, h2, h3]
  simp only [Bool.or_self, Bool.false_or]
  by_cases a : 32 < r ∧ r < 128
  · have hx : Lib.indexByte signs r.toNat.toUInt8 < 0 := by
      rcases Int.lt_or_le (Lib.indexByte signs r.toNat.toUInt8) 0 with g | g
      · exact g
      · have := (ix_at _ signs g).1
        refine absurd ?_ (hn _ _ this)
        have e : (r.toNat.toUInt8).toNat = r.toNat := UInt8.toNat_ofNat_of_lt' (by show r.toNat < 256; omega)
        rw [e]; omega
    have : decide (0 ≤ Lib.indexByte signs r.toNat.toUInt8) = false := by simp; omega
    rw [this]; simp
  · have : (decide (32 < r) && decide (r < 128)) = false := by simp; omega
    rw [this]; rfl
set_option maxRecDepth 100000 in
set_option maxHeartbeats 4000000 in
theorem refBlank_c (r : Int) (w : World) : Calls Tryd.prog 53 #[.int .i64 r] w fun e w' => e = .returned (.bool (isBlank r)) ∧ w = w' := by
  rcases (show (r = 32) ∨ (r = 9) ∨ (r = 13) ∨ (r = 10) ∨ (r ≤ 8) ∨ (11 ≤ r ∧ r ≤ 12) ∨ (14 ≤ r ∧ r ≤ 31) ∨ (33 ≤ r) by omega) with h | h | h | h | h | h | h | h
  · have a0 : (r == 32) = true := by simp; omega
    have a1 : (r == 9) = false := by simp; omega
    have a2 : (r == 13) = false := by simp; omega
    have a3 : (r == 10) = false := by simp; omega
    have e : isBlank r = true := by unfold isBlank; rw [a0, a1, a2, a3]; rfl
    rw [e]
    clear e h
    go_enter Tryd.func53, Tryd.ntmps53
    go_wp2
    go_ret
    exact ⟨rfl, rfl⟩
  · have a0 : (r == 32) = false := by simp; omega
    have a1 : (r == 9) = true := by simp; omega
    have a2 : (r == 13) = false := by simp; omega
    have a3 : (r == 10) = false := by simp; omega
    have e : isBlank r = true := by unfold isBlank; rw [a0, a1, a2, a3]; rfl
    rw [e]
    clear e h
    go_enter Tryd.func53, Tryd.ntmps53
    go_wp2
    go_ret
    exact ⟨rfl, rfl⟩
  · have a0 : (r == 32) = false := by simp; omega
    have a1 : (r == 9) = false := by simp; omega
    have a2 : (r == 13) = true := by simp; omega
    have a3 : (r == 10) = false := by simp; omega
    have e : isBlank r = true := by unfold isBlank; rw [a0, a1, a2, a3]; rfl
    rw [e]
    clear e h
    go_enter Tryd.func53, Tryd.ntmps53
    go_wp2
    go_ret
    exact ⟨rfl, rfl⟩
  · have a0 : (r == 32) = false := by simp; omega
    have a1 : (r == 9) = false := by simp; omega
    have a2 : (r == 13) = false := by simp; omega
    have a3 : (r == 10) = true := by simp; omega
    have e : isBlank r = true := by unfold isBlank; rw [a0, a1, a2, a3]; rfl
    rw [e]
    clear e h
    go_enter Tryd.func53, Tryd.ntmps53
    go_wp2
    go_ret
    exact ⟨rfl, rfl⟩
  · have a0 : (r == 32) = false := by simp; omega
    have a1 : (r == 9) = false := by simp; omega
    have a2 : (r == 13) = false := by simp; omega
    have a3 : (r == 10) = false := by simp; omega
    have e : isBlank r = false := by unfold isBlank; rw [a0, a1, a2, a3]; rfl
    rw [e]
    clear e h
    go_enter Tryd.func53, Tryd.ntmps53
    go_wp2
    go_ret
    exact ⟨rfl, rfl⟩
  · have a0 : (r == 32) = false := by simp; omega
    have a1 : (r == 9) = false := by simp; omega
    have a2 : (r == 13) = false := by simp; omega
    have a3 : (r == 10) = false := by simp; omega
    have e : isBlank r = false := by unfold isBlank; rw [a0, a1, a2, a3]; rfl
    rw [e]
    clear e h
    go_enter Tryd.func53, Tryd.ntmps53
    go_wp2
    go_ret
    exact ⟨rfl, rfl⟩
  · have a0 : (r == 32) = false := by simp; omega
    have a1 : (r == 9) = false := by simp; omega
    have a2 : (r == 13) = false := by simp; omega
    have a3 : (r == 10) = false := by simp; omega
    have e : isBlank r = false := by unfold isBlank; rw [a0, a1, a2, a3]; rfl
    rw [e]
    clear e h
    go_enter Tryd.func53, Tryd.ntmps53
    go_wp2
    go_ret
    exact ⟨rfl, rfl⟩
  · have a0 : (r == 32) = false := by simp; omega
    have a1 : (r == 9) = false := by simp; omega
    have a2 : (r == 13) = false := by simp; omega
    have a3 : (r == 10) = false := by simp; omega
    have e : isBlank r = false := by unfold isBlank; rw [a0, a1, a2, a3]; rfl
    rw [e]
    clear e h
    go_enter Tryd.func53, Tryd.ntmps53
    go_wp2
    go_ret
    exact ⟨rfl, rfl⟩
def oneB (b : Bool) : Nat := if b then 1 else 0
theorem oneB_le (b : Bool) : oneB b ≤ 1 := by cases b <;> decide
def clsN (r : Int) : Nat := oneB (isDoc r) + 2 * oneB (isBlank r) + 4 * oneB (isStart r) + 8 * oneB (isMore r) + 16 * oneB (isPub r)
theorem cls_pub (r : Int) : (clsN r / 2 ^ 4) % 2 = oneB (isPub r) := by
  have l1 := oneB_le (isDoc r)
  have l2 := oneB_le (isBlank r)
  have l3 := oneB_le (isStart r)
  have l4 := oneB_le (isMore r)
  have l5 := oneB_le (isPub r)
  unfold clsN
  omega
end Go.Proofs.YtcpljjajobfkkaaDoor
