/- Documents that would grow, in plain Lean. -/
import Derived.Test.YtljmpghijlibaaaDoorRows
import Derived.WalkKit
import Derived.ProofKit
import Derived.OpenShut
import Derived.ShutString
import Derived.ChangeOld
import Derived.Below
import Derived.BigQuiet
import Derived.Deep.QuietTactic
import Derived.Lib.Hide
import Derived.Deep.RegionHeld3
import Derived.Lib.SlBytesConst
import Derived.Laws.CopyOwn
import Derived.Laws.CopyRow
import Derived.Lib.Bytes
import Derived.Deep.LoopGhost
import Derived.Deep.DeepFit
import Derived.Deep.DeepMust
import Derived.WalkSpells
import Derived.WalkLawsBesides
import Derived.Laws.EntriesVeiled
import Derived.Laws.Rows
import Derived.Lib.Repeat
import Derived.Test.YtljmpghijlibaaaDoorShelf
import Derived.Test.YtljmpghijlibaaaDoorBase
import Derived.Test.YtljmpghijlibaaaDoorCharPlain
import Derived.Test.YtljmpghijlibaaaDoorChars1
import Derived.Test.YtljmpghijlibaaaDoorUtf1
import Derived.Test.YtljmpghijlibaaaDoorUtf2
import Derived.Test.YtljmpghijlibaaaDoorUtf3
import Derived.Test.YtljmpghijlibaaaDoorName1
import Derived.Test.YtljmpghijlibaaaDoorName2
import Derived.Test.YtljmpghijlibaaaDoorName3
import Derived.Test.YtljmpghijlibaaaDoorCref1
import Derived.Test.YtljmpghijlibaaaDoorY2
import Derived.Test.YtljmpghijlibaaaDoorStr
import Derived.Test.YtljmpghijlibaaaDoorY3
import Derived.Test.YtljmpghijlibaaaDoorMiscP
import Derived.Test.YtljmpghijlibaaaDoorEnc
import Derived.Test.YtljmpghijlibaaaDoorEvP
import Derived.Test.YtljmpghijlibaaaDoorEvP2
import Derived.Test.YtljmpghijlibaaaDoorEscP
import Derived.Test.YtljmpghijlibaaaDoorPlainP
import Derived.Test.YtljmpghijlibaaaDoorKnown
import Derived.Test.YtljmpghijlibaaaDoorEvP3
import Derived.Test.YtljmpghijlibaaaDoorEvP4
import Derived.Test.YtljmpghijlibaaaDoorPub
import Derived.Test.YtljmpghijlibaaaDoorRun
import Derived.Test.YtljmpghijlibaaaDoorRunU
import Derived.Test.YtljmpghijlibaaaDoorRunV
import Derived.Test.YtljmpghijlibaaaDoorEv2
import Derived.Test.YtljmpghijlibaaaDoorEv6
import Derived.Test.YtljmpghijlibaaaDoorZ3
namespace Go.Proofs.YtljmpghijlibaaaDoor
open Go.ChangeShapes Go.WideShapes Go.ChangeAt Go.RowKit
set_option linter.unusedVariables false
/-- A reference to the entity of a number. -/
def refB (i : Nat) : List UInt8 := [38, 101] ++ Lib.decDigits i ++ [59]
/-- The declaration of the entity of a number. -/
def declB (i : Nat) (v : List UInt8) : List UInt8 := [60, 33, 69, 78, 84, 73, 84, 89, 32, 101] ++ Lib.decDigits i ++ [32, 34] ++ v ++ [34, 62]
/-- So many copies. -/
def repB (s : List UInt8) : Nat → List UInt8
  | 0 => []
  | n + 1 => repB s n ++ s
/-- The value of a level. -/
def valB (u : List UInt8) (w i : Nat) : List UInt8 := if i = 0 then (putOut (esc u)).1 else repB (refB (i - 1)) w
/-- The declarations of so many levels. -/
def bodyB (u : List UInt8) (w : Nat) : Nat → List UInt8
  | 0 => []
  | n + 1 => bodyB u w n ++ declB n (valB u w n)
def docB (u : List UInt8) (w n : Nat) : List UInt8 := [60, 33, 68, 79, 67, 84, 89, 80, 69, 32, 97, 32, 91] ++ bodyB u w (n + 1) ++ [93, 62, 60, 97, 62] ++ refB n ++ [60, 47, 97, 62]
/-- What the last of so many levels costs. -/
def costB (u : List UInt8) (w : Nat) : Nat → Nat
  | 0 => (esc u).length
  | n + 1 => satN (w * satN ((refB n).length + costB u w n))
/-- Can a document be made, and the error. -/
def chkB (lv wd : Int) (u : List UInt8) : Int := if lv < 0 ∨ 200 < lv ∨ wd < 0 ∨ 16 < wd ∨ 1000 < u.length ∨ u.contains 60 = true then 2 else (putOut u).2
theorem dec_le200 : ∀ n : Nat, n < 256 → (Lib.decDigits n).length ≤ 3 := by decide +kernel
theorem refB_le (i : Nat) (h : i ≤ 200) : (refB i).length ≤ 6 := by
  have := dec_le200 i (by omega)
  simp [refB]
  omega
theorem repB_le (s : List UInt8) : ∀ n, (repB s n).length = n * s.length
  | 0 => by simp [repB]
  | n + 1 => by simp [repB, repB_le s n, Nat.add_mul]
theorem esc_len (u : List UInt8) : (esc u).length ≤ 6 * u.length := esc_le u
theorem putOut_le (s : List UInt8) : (putOut s).1.length ≤ 6 * s.length := by
  unfold putOut
  split
  · split
    · exact putV_le s
    · simp
  · simp
theorem valB_le (u : List UInt8) (w i : Nat) (hu : u.length ≤ 1000) (hw : w ≤ 16) (hi : i ≤ 200) : (valB u w i).length ≤ 36000 := by
  unfold valB
  split
  · have := putOut_le (esc u); have := esc_le u; omega
  · have := refB_le (i - 1) (by omega)
    rw [repB_le]
    have : w * (refB (i - 1)).length ≤ 16 * 6 := Nat.mul_le_mul hw this
    omega
theorem declB_le (u : List UInt8) (w i : Nat) (hu : u.length ≤ 1000) (hw : w ≤ 16) (hi : i ≤ 200) : (declB i (valB u w i)).length ≤ 36100 := by
  have h1 := valB_le u w i hu hw hi
  have h2 := dec_le200 i (by omega)
  simp only [declB, List.length_append, List.length_cons, List.length_nil]
  omega
theorem bodyB_le (u : List UInt8) (w : Nat) (hu : u.length ≤ 1000) (hw : w ≤ 16) : ∀ n, n ≤ 201 → (bodyB u w n).length ≤ 36100 * n
  | 0, _ => by simp [bodyB]
  | n + 1, h => by
    have h1 := bodyB_le u w hu hw n (by omega)
    have h2 := declB_le u w n hu hw (by omega)
    simp only [bodyB, List.length_append]
    omega
theorem repB_eq (s : List UInt8) : ∀ n, repB s n = Lib.repeatL s n
  | 0 => rfl
  | n + 1 => by
    have key : ∀ m, Lib.repeatL s m ++ s = s ++ Lib.repeatL s m := by
      intro m
      induction m with
      | zero => simp [Lib.repeatL]
      | succ m ih => rw [Lib.repeatL, List.append_assoc, ih]
    rw [repB, repB_eq s n, key, Lib.repeatL]
end Go.Proofs.YtljmpghijlibaaaDoor
