/- A case's numbers, in plain Lean, and a cut at a line's end. -/
import Derived.Test.YtbllodeanfdebaaGreatDoorRows
import Derived.WalkKit
import Derived.ProofKit
import Derived.OpenShut
import Derived.ShutString
import Derived.ChangeOld
import Derived.Below
import Derived.BigQuiet
import Derived.Deep.QuietTactic
import Derived.Lib.Hide
import Derived.Deep.RegionHeld3
import Derived.Lib.SlBytesConst
import Derived.Laws.CopyOwn
import Derived.Laws.CopyRow
import Derived.Lib.Bytes
import Derived.Deep.LoopGhost
import Derived.Deep.DeepFit
import Derived.Deep.DeepMust
import Derived.WalkSpells
import Derived.WalkLawsBesides
import Derived.Laws.EntriesVeiled
import Derived.Lib.Replace
import Derived.Lib.Split
import Derived.Lib.ItoaNum
import Derived.Test.YtbllodeanfdebaaGreatDoorBase
import Derived.Test.YtbllodeanfdebaaGreatDoorCsP
import Derived.Test.YtbllodeanfdebaaGreatDoorCsK
namespace Go.Proofs.YtbllodeanfdebaaGreatDoor
open Go.ChangeShapes Go.WideShapes Go.ChangeAt Go.RowKit
set_option linter.unusedVariables false
theorem cut_unl (l : List UInt8) (ls : List (List UInt8)) (tl : List UInt8) (h : (10 : UInt8) ∉ l) : Lib.cut (unl (l :: ls) tl) [10] = (l, unl ls tl, true) := by
  rw [unl_cons]
  exact cut_app 10 l _ h
theorem cut_tail (tl : List UInt8) (h : (10 : UInt8) ∉ tl) : Lib.cut (unl [] tl) [10] = (tl, [], false) := cut_none 10 tl h
/-- A row of digits' number. -/
def valD (w : List UInt8) : Nat := w.foldl (fun a c => 10 * a + (c.toNat - 48)) 0
/-- The number that a word writes, where it writes it as strconv.Itoa does and it is 2^40 at most. -/
def numD (w : List UInt8) : Option Nat := if w = Lib.decDigits (valD w) ∧ valD w ≤ 1099511627776 then some (valD w) else none
theorem valD_snoc (w : List UInt8) (c : UInt8) : valD (w ++ [c]) = 10 * valD w + (c.toNat - 48) := by simp [valD]
theorem digit_nat (k : Nat) (h : k < 10) : (UInt8.ofNat (48 + k)).toNat = 48 + k := by
  rw [UInt8.toNat_ofNat']
  exact Nat.mod_eq_of_lt (by omega)
theorem valD_dec : ∀ n : Nat, valD (Lib.decDigits n) = n := by
  intro n
  induction n using Nat.strongRecOn with
  | ind n ih =>
    rw [Lib.decDigits]
    split
    · rename_i h
      show 10 * 0 + ((UInt8.ofNat (48 + n)).toNat - 48) = n
      rw [digit_nat n h]
      omega
    · rename_i h
      rw [valD_snoc, ih (n / 10) (by omega), digit_nat (n % 10) (by omega)]
      omega
theorem dec_digit : ∀ n : Nat, ∀ c ∈ Lib.decDigits n, 48 ≤ c.toNat ∧ c.toNat ≤ 57 := by
  intro n
  induction n using Nat.strongRecOn with
  | ind n ih =>
    intro c hc
    rw [Lib.decDigits] at hc
    split at hc
    · rename_i h
      rw [List.mem_singleton.1 hc, digit_nat n h]
      omega
    · rename_i h
      rcases List.mem_append.1 hc with hc | hc
      · exact ih (n / 10) (by omega) c hc
      · rw [List.mem_singleton.1 hc, digit_nat (n % 10) (by omega)]
        omega
theorem dec_no (n : Nat) (c : UInt8) (h : c.toNat < 48) : c ∉ Lib.decDigits n := fun hm => by
  have := dec_digit n c hm
  omega
theorem numD_dec (n : Nat) (h : n ≤ 1099511627776) : numD (Lib.decDigits n) = some n := by
  unfold numD
  rw [valD_dec, if_pos ⟨rfl, h⟩]
theorem numD_some {w : List UInt8} {n : Nat} (h : numD w = some n) : Lib.decDigits n = w ∧ n ≤ 1099511627776 := by
  unfold numD at h
  split at h
  · rename_i hc
    cases h
    exact ⟨hc.1.symm, hc.2⟩
  · cases h
theorem numD_text (w : List UInt8) (n : Nat) (h : numD w = some n) : Lib.decDigits n = w := (numD_some h).1
end Go.Proofs.YtbllodeanfdebaaGreatDoor
