/- A case's numbers as strconv.Atoi and Itoa have them, in plain Lean. -/
import Derived.Test.YtbllodeanfdebaaGreatDoorRows
import Derived.WalkKit
import Derived.ProofKit
import Derived.OpenShut
import Derived.ShutString
import Derived.ChangeOld
import Derived.Below
import Derived.BigQuiet
import Derived.Deep.QuietTactic
import Derived.Lib.Hide
import Derived.Deep.RegionHeld3
import Derived.Lib.SlBytesConst
import Derived.Laws.CopyOwn
import Derived.Laws.CopyRow
import Derived.Lib.Bytes
import Derived.Deep.LoopGhost
import Derived.Deep.DeepFit
import Derived.Deep.DeepMust
import Derived.WalkSpells
import Derived.WalkLawsBesides
import Derived.Laws.EntriesVeiled
import Derived.Lib.Replace
import Derived.Lib.Split
import Derived.Lib.ItoaNum
import Derived.Lib.AtoiAllCases
import Derived.Test.YtbllodeanfdebaaGreatDoorBase
import Derived.Test.YtbllodeanfdebaaGreatDoorCsP
import Derived.Test.YtbllodeanfdebaaGreatDoorCsK
import Derived.Test.YtbllodeanfdebaaGreatDoorCsN
namespace Go.Proofs.YtbllodeanfdebaaGreatDoor
open Go.ChangeShapes Go.WideShapes Go.ChangeAt Go.RowKit
set_option linter.unusedVariables false
theorem fold_ge : ∀ (w : List UInt8) (a : Nat), a ≤ w.foldl (fun a c => 10 * a + (c.toNat - 48)) a
  | [], a => Nat.le_refl a
  | c :: r, a => by
    have := fold_ge r (10 * a + (c.toNat - 48))
    rw [List.foldl_cons]
    omega
theorem parse_digits : ∀ (w : List UInt8) (a : Nat), (∀ c ∈ w, 48 ≤ c.toNat ∧ c.toNat ≤ 57) → w.foldl (fun a c => 10 * a + (c.toNat - 48)) a ≤ 1099511627776 → Lib.parseUint10 a w = .ok (w.foldl (fun a c => 10 * a + (c.toNat - 48)) a)
  | [], _, _, _ => rfl
  | c :: r, a, h, hb => by
    have h1 := h c (List.mem_cons_self ..)
    rw [List.foldl_cons] at hb ⊢
    have h2 := fold_ge r (10 * a + (c.toNat - 48))
    rw [Lib.parseUint10, if_pos h1, if_neg (by omega), if_neg (by omega), Nat.mul_comm a 10]
    exact parse_digits r _ (fun x hx => h x (List.mem_cons_of_mem _ hx)) hb
theorem dec_ne (n : Nat) : Lib.decDigits n ≠ [] := by
  rw [Lib.decDigits]
  split
  · exact fun e => by cases e
  · exact fun e => by simp at e
theorem atoi_dec (n : Nat) (h : n ≤ 1099511627776) : Lib.atoiAll (Lib.decDigits n) = .ok (n : Int) := by
  have hd := dec_digit n
  have hv := valD_dec n
  have hn := dec_ne n
  cases hw : Lib.decDigits n with
  | nil => exact absurd hw hn
  | cons c r =>
    rw [hw] at hd hv
    have h1 := hd c (List.mem_cons_self ..)
    rw [Lib.atoiAll_plain c r (by omega) (by omega)]
    have hp : Lib.parseMag (c :: r) = .ok n := by
      unfold Lib.parseMag
      rw [if_neg (fun e => by cases e), parse_digits (c :: r) 0 hd (by show valD (c :: r) ≤ _; rw [hv]; exact h)]
      show Lib.NumEnd.ok (valD (c :: r)) = _
      rw [hv]
    rw [hp]
    unfold Lib.signless
    simp
    omega
/-- What a word must be for strconv.Atoi and strconv.Itoa to agree on it. -/
theorem numD_none {w : List UInt8} {v : Int} (h : numD w = none) (h0 : 0 ≤ v) (h1 : v ≤ 1099511627776) : Lib.itoa v ≠ w := by
  intro e
  obtain ⟨n, rfl⟩ : ∃ n : Nat, v = (n : Int) := ⟨v.toNat, by omega⟩
  have e2 : Lib.itoa (n : Int) = Lib.decDigits n := by unfold Lib.itoa; rw [if_neg (by omega)]; simp
  rw [e2] at e
  have := numD_dec n (by omega)
  rw [e, h] at this
  cases this
theorem numD_atoi {w : List UInt8} {n : Nat} (h : numD w = some n) : Lib.atoiAll w = .ok (n : Int) ∧ Lib.itoa (n : Int) = w := by
  obtain ⟨e, hb⟩ := numD_some h
  refine ⟨e ▸ atoi_dec n hb, ?_⟩
  rw [← e]
  unfold Lib.itoa
  rw [if_neg (by omega)]
  simp
end Go.Proofs.YtbllodeanfdebaaGreatDoor
