/- Plain facts on lines and places. -/
import Derived.Test.YtljplmidnlahpaaRows
import Derived.WalkKit
import Derived.ProofKit
import Derived.OpenShut
import Derived.ShutString
import Derived.ChangeOld
import Derived.Below
import Derived.BigQuiet
import Derived.Deep.QuietTactic
import Derived.Lib.Hide
import Derived.Lib.Bytes
import Derived.Deep.LoopGhost
import Derived.Deep.DeepFit
import Derived.Deep.DeepMust
import Derived.WalkSpells
import Derived.WalkLawsBesides
namespace Go.Proofs.Ytljplmidnlahpaa
open Go.ChangeShapes Go.WideShapes Go.ChangeAt Go.RowKit
set_option linter.unusedVariables false
/-- The line and the place in it, behind some bytes. -/
def whr (l : List UInt8) : Nat × Nat := l.foldl (fun p c => if c = 10 then (p.1 + 1, 0) else (p.1, p.2 + 1)) (1, 0)
theorem whr_snoc (l : List UInt8) (c : UInt8) : whr (l ++ [c]) = if c = 10 then ((whr l).1 + 1, 0) else ((whr l).1, (whr l).2 + 1) := by
  simp [whr, List.foldl_append]
/-- The last place of a byte, the list turned round. -/
def lastR (c : UInt8) : List UInt8 → Int
  | [] => -1
  | x :: r => if x = c then r.length else lastR c r
def lastIx (l : List UInt8) (c : UInt8) : Int := lastR c l.reverse
theorem lastIx_snoc (l : List UInt8) (x c : UInt8) : lastIx (l ++ [x]) c = if x = c then (l.length : Int) else lastIx l c := by
  simp [lastIx, lastR]
theorem lastIx_nil (c : UInt8) : lastIx [] c = -1 := rfl
theorem lastR_le (c : UInt8) : ∀ r : List UInt8, -1 ≤ lastR c r ∧ lastR c r < r.length
  | [] => ⟨by simp [lastR], by simp [lastR]⟩
  | x :: r => by
    have := lastR_le c r
    unfold lastR
    split <;> simp <;> omega
theorem lastIx_le (l : List UInt8) (c : UInt8) : -1 ≤ lastIx l c ∧ lastIx l c < l.length := by
  have := lastR_le c l.reverse
  simpa [lastIx] using this
theorem snoc_induction {P : List UInt8 → Prop} (h0 : P []) (h1 : ∀ l x, P l → P (l ++ [x])) : ∀ l, P l := by
  intro l
  have : ∀ r : List UInt8, P r.reverse := by
    intro r
    induction r with
    | nil => exact h0
    | cons x r ih => rw [List.reverse_cons]; exact h1 _ _ ih
  simpa using this l.reverse
theorem whr_fst (l : List UInt8) : (whr l).1 = l.count 10 + 1 := by
  refine snoc_induction (P := fun l => (whr l).1 = l.count 10 + 1) rfl (fun l x ih => ?_) l
  rw [whr_snoc, List.count_append]
  by_cases h : x = 10
  · simp [h, ih]
  · simp [h, ih]
theorem whr_snd (l : List UInt8) : ((whr l).2 : Int) = (l.length : Int) - 1 - lastIx l 10 := by
  refine snoc_induction (P := fun l => ((whr l).2 : Int) = (l.length : Int) - 1 - lastIx l 10) rfl (fun l x ih => ?_) l
  rw [whr_snoc, lastIx_snoc]
  by_cases h : x = 10
  · simp [h]
  · simp [h, ih]; omega
theorem whr_le (l : List UInt8) : (whr l).1 ≤ l.length + 1 ∧ (whr l).2 ≤ l.length := by
  have h1 := whr_fst l
  have h2 := whr_snd l
  have h3 := lastIx_le l 10
  have h4 := List.count_le_length (a := (10 : UInt8)) (l := l)
  omega
theorem take_snoc (l : List UInt8) (k : Nat) (c : UInt8) (h : l[k]? = some c) : l.take (k + 1) = l.take k ++ [c] := by
  rw [List.take_add_one, h]; rfl
theorem toNat_eq (c d : UInt8) : ((c.toNat : Int) == (d.toNat : Int)) = decide (c = d) := by
  by_cases h : c = d
  · simp [h]
  · have : ¬ c.toNat = d.toNat := fun e => h (UInt8.toNat_inj.1 e)
    simp [h]; omega
/-- What becomes of the byte at a place when line ends are made one. -/
def kp (l : List UInt8) (i : Nat) : List UInt8 := if l[i]? = some 13 then (if l[i + 1]? = some 10 then [] else [10]) else [l[i]?.getD 0]
def nrmTo (l : List UInt8) : Nat → List UInt8
  | 0 => []
  | k + 1 => nrmTo l k ++ kp l k
def nrm (l : List UInt8) : List UInt8 := nrmTo l l.length
theorem kp_le (l : List UInt8) (i : Nat) : (kp l i).length ≤ 1 := by
  unfold kp; split
  · split <;> simp
  · simp
theorem nrmTo_le (l : List UInt8) : ∀ k, (nrmTo l k).length ≤ k
  | 0 => Nat.le_refl _
  | k + 1 => by have := nrmTo_le l k; have := kp_le l k; simp [nrmTo]; omega
theorem nrm_le (l : List UInt8) : (nrm l).length ≤ l.length := nrmTo_le l _
theorem kp_no13 (l : List UInt8) (i : Nat) (hi : i < l.length) : 13 ∉ kp l i := by
  unfold kp
  rw [List.getElem?_eq_getElem hi]
  split
  · split <;> simp
  · rename_i h; simp at h; simp; exact fun e => h e.symm
theorem nrmTo_no13 (l : List UInt8) : ∀ k, k ≤ l.length → 13 ∉ nrmTo l k
  | 0, _ => by simp [nrmTo]
  | k + 1, h => by
    simp only [nrmTo, List.mem_append, not_or]
    exact ⟨nrmTo_no13 l k (by omega), kp_no13 l k (by omega)⟩
theorem nrm_no13 (l : List UInt8) : 13 ∉ nrm l := nrmTo_no13 l _ (Nat.le_refl _)
theorem nrmTo_same (l : List UInt8) (h : 13 ∉ l) : ∀ k, k ≤ l.length → nrmTo l k = l.take k
  | 0, _ => rfl
  | k + 1, hk => by
    have hx : l[k]? = some l[k] := List.getElem?_eq_getElem (by omega)
    have hne : l[k] ≠ 13 := fun e => h (e ▸ List.getElem_mem (by omega))
    rw [nrmTo, nrmTo_same l h k (by omega), take_snoc l k _ hx, kp, hx]
    simp [hne]
theorem nrm_same (l : List UInt8) (h : 13 ∉ l) : nrm l = l := by
  rw [nrm, nrmTo_same l h _ (Nat.le_refl _), List.take_length]
end Go.Proofs.Ytljplmidnlahpaa
