/- Plain facts on characters as bytes. -/
import Derived.Test.YtbllodeanfdebaaGreatDoorRows
import Derived.WalkKit
import Derived.ProofKit
import Derived.OpenShut
import Derived.ShutString
import Derived.ChangeOld
import Derived.Below
import Derived.BigQuiet
import Derived.Deep.QuietTactic
import Derived.Lib.Hide
import Derived.Deep.RegionHeld3
import Derived.Lib.SlBytesConst
import Derived.Laws.CopyOwn
import Derived.Laws.CopyRow
import Derived.Lib.Bytes
import Derived.Deep.LoopGhost
import Derived.Deep.DeepFit
import Derived.Deep.DeepMust
import Derived.WalkSpells
import Derived.WalkLawsBesides
import Derived.Test.YtbllodeanfdebaaGreatDoorBase
namespace Go.Proofs.YtbllodeanfdebaaGreatDoor
open Go.ChangeShapes Go.WideShapes Go.ChangeAt Go.RowKit
set_option linter.unusedVariables false
theorem snoc_induction {P : List UInt8 → Prop} (h0 : P []) (h1 : ∀ l x, P l → P (l ++ [x])) : ∀ l, P l := by
  intro l
  have : ∀ r : List UInt8, P r.reverse := by
    intro r
    induction r with
    | nil => exact h0
    | cons x r ih => rw [List.reverse_cons]; exact h1 _ _ ih
  simpa using this l.reverse
theorem take_snoc (l : List UInt8) (k : Nat) (c : UInt8) (h : l[k]? = some c) : l.take (k + 1) = l.take k ++ [c] := by
  rw [List.take_add_one, h]; rfl
theorem toNat_eq (c d : UInt8) : ((c.toNat : Int) == (d.toNat : Int)) = decide (c = d) := by
  by_cases h : c = d
  · simp [h]
  · have : ¬ c.toNat = d.toNat := fun e => h (UInt8.toNat_inj.1 e)
    simp [h]; omega
/-- A character's number. -/
def isR (r : Int) : Bool := decide (0 ≤ r) && decide (r ≤ 1114111) && (decide (r < 55296) || decide (57343 < r))
/-- How many bytes a character has, by the first one; 0: it is none. -/
def lenB (c : Nat) : Nat := if c < 128 then 1 else if c < 192 then 0 else if c < 224 then 2 else if c < 240 then 3 else if c < 248 then 4 else 0
def msk (n c : Nat) : Nat := if n = 1 then c % 128 else if n = 2 then c % 32 else if n = 3 then c % 16 else c % 8
def least (n : Nat) : Nat := if n = 1 then 0 else if n = 2 then 128 else if n = 3 then 2048 else 65536
/-- What follows on a first byte. -/
def cont (r : Nat) : List UInt8 → Option Nat
  | [] => some r
  | c :: t => if 128 ≤ c.toNat ∧ c.toNat < 192 then cont (r * 64 + (c.toNat - 128)) t else none
/-- The character that bytes begin with, and how many of them it has. -/
def dec : List UInt8 → Option (Nat × Nat)
  | [] => none
  | c :: t => if lenB c.toNat = 0 ∨ t.length + 1 < lenB c.toNat then none else
    match cont (msk (lenB c.toNat) c.toNat) (t.take (lenB c.toNat - 1)) with
    | some r => if least (lenB c.toNat) ≤ r ∧ isR r = true then some (r, lenB c.toNat) else none
    | none => none
theorem lenB_le (c : Nat) : lenB c ≤ 4 := by unfold lenB; repeat' split <;> try omega
theorem dec_le (l : List UInt8) (r n : Nat) (h : dec l = some (r, n)) : 1 ≤ n ∧ n ≤ 4 ∧ n ≤ l.length ∧ r ≤ 1114111 := by
  cases l with
  | nil => simp [dec] at h
  | cons c t =>
    have h4 := lenB_le c.toNat
    simp only [dec] at h
    split at h
    · cases h
    · rename_i hn
      split at h
      · rename_i q hq
        split at h
        · rename_i hr
          simp only [Option.some.injEq, Prod.mk.injEq] at h
          obtain ⟨rfl, rfl⟩ := h
          simp only [not_or] at hn
          refine ⟨by omega, h4, by simp; omega, ?_⟩
          have := hr.2
          simp [isR] at this
          omega
        · cases h
      · cases h
theorem cont_bound (t : List UInt8) : ∀ (r x k : Nat), r < 64 ^ k → cont r t = some x → x < 64 ^ (k + t.length) := by
  induction t with
  | nil => intro r x k hr h; simp [cont] at h; subst h; simpa using hr
  | cons c t ih =>
    intro r x k hr h
    simp only [cont] at h
    split at h
    · have := ih _ x (k + 1) (by rw [Nat.pow_succ]; omega) h
      simpa [Nat.add_comm, Nat.add_left_comm] using this
    · cases h
theorem msk_lt (n c : Nat) : msk n c < 128 := by unfold msk; (repeat' split) <;> omega
end Go.Proofs.YtbllodeanfdebaaGreatDoor
