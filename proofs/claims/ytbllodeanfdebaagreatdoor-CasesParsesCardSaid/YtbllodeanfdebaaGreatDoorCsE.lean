/- Lines byte by byte, bars at a loop's rounds, in plain Lean. -/
import Derived.Test.YtbllodeanfdebaaGreatDoorRows
import Derived.WalkKit
import Derived.ProofKit
import Derived.OpenShut
import Derived.ShutString
import Derived.ChangeOld
import Derived.Below
import Derived.BigQuiet
import Derived.Deep.QuietTactic
import Derived.Lib.Hide
import Derived.Deep.RegionHeld3
import Derived.Lib.SlBytesConst
import Derived.Laws.CopyOwn
import Derived.Laws.CopyRow
import Derived.Lib.Bytes
import Derived.Deep.LoopGhost
import Derived.Deep.DeepFit
import Derived.Deep.DeepMust
import Derived.WalkSpells
import Derived.WalkLawsBesides
import Derived.Laws.EntriesVeiled
import Derived.Test.YtbllodeanfdebaaGreatDoorBase
import Derived.Test.YtbllodeanfdebaaGreatDoorCsP
namespace Go.Proofs.YtbllodeanfdebaaGreatDoor
open Go.ChangeShapes Go.WideShapes Go.ChangeAt Go.RowKit
set_option linter.unusedVariables false
theorem lines_snoc_lf : ∀ s : List UInt8, linesP (s ++ [10]) = ((linesP s).1 ++ [(linesP s).2], []) := by
  intro s
  have h := unl_lines s
  have hn := lines_no s
  have e : s ++ [10] = unl ((linesP s).1 ++ [(linesP s).2]) [] := by
    conv => lhs; rw [← h]
    unfold unl
    simp
  rw [e]
  refine lines_unl _ _ ?_ (by simp)
  intro x hx
  rcases List.mem_append.1 hx with hx | hx
  · exact hn.1 x hx
  · rw [List.mem_singleton.1 hx]; exact hn.2
theorem lines_snoc (s : List UInt8) (c : UInt8) (hc : c ≠ 10) : linesP (s ++ [c]) = ((linesP s).1, (linesP s).2 ++ [c]) := by
  have h := unl_lines s
  have hn := lines_no s
  have e : s ++ [c] = unl (linesP s).1 ((linesP s).2 ++ [c]) := by
    conv => lhs; rw [← h]
    unfold unl
    simp
  rw [e]
  refine lines_unl _ _ hn.1 ?_
  intro hm
  rcases List.mem_append.1 hm with hm | hm
  · exact hn.2 hm
  · exact hc (List.mem_singleton.1 hm).symm
theorem limT_flat (dec : Nat → List UInt8) (ns : List Nat) (h : ns ≠ []) : limT dec ns = [108, 105, 109, 105, 116, 115] ++ ns.flatMap (fun n => 32 :: dec n) := by
  cases ns with
  | nil => exact absurd rfl h
  | cons n r =>
    unfold limT joinW wLim
    simp [List.flatMap_map]
/-- The bars at the head of lines, one more line read. -/
theorem barsG_step (acc x : List UInt8) (r : List (List UInt8)) : barsG acc ((124 :: x) :: r) = barsG (acc ++ 10 :: x) r := rfl
theorem barsG_stop (acc : List UInt8) (r : List (List UInt8)) (h : ∀ x, r.head? = some x → x.head? ≠ some 124) : barsG acc r = (acc, r) := by
  cases r with
  | nil => rfl
  | cons x xs =>
    cases x with
    | nil => rfl
    | cons c y =>
      have hc : c ≠ 124 := fun e => h _ rfl (by rw [e]; rfl)
      unfold barsG
      split
      · rename_i e
        simp only [List.cons.injEq] at e
        exact absurd e.1.1 hc
      · rfl
theorem barsP_none (r : List (List UInt8)) (h : ∀ x, r.head? = some x → x.head? ≠ some 124) : barsP r = none := by
  cases r with
  | nil => rfl
  | cons x xs =>
    cases x with
    | nil => rfl
    | cons c y =>
      have hc : c ≠ 124 := fun e => h _ rfl (by rw [e]; rfl)
      unfold barsP
      split
      · rename_i e
        simp only [List.cons.injEq] at e
        exact absurd e.1.1 hc
      · rfl
end Go.Proofs.YtbllodeanfdebaaGreatDoor
