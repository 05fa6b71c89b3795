/- Numbers in references to characters: plain law. -/
import Derived.Test.YtpblphddpcogcaaDoorRows
import Derived.WalkKit
import Derived.ProofKit
import Derived.OpenShut
import Derived.ShutString
import Derived.ChangeOld
import Derived.Below
import Derived.BigQuiet
import Derived.Deep.QuietTactic
import Derived.Lib.Hide
import Derived.Deep.RegionHeld3
import Derived.Lib.SlBytesConst
import Derived.Laws.CopyOwn
import Derived.Laws.CopyRow
import Derived.Lib.Bytes
import Derived.Deep.LoopGhost
import Derived.Deep.DeepFit
import Derived.Deep.DeepMust
import Derived.WalkSpells
import Derived.WalkLawsBesides
import Derived.Laws.EntriesVeiled
import Derived.Laws.Rows
import Derived.Test.YtpblphddpcogcaaDoorBase
import Derived.Test.YtpblphddpcogcaaDoorShelf
import Derived.Test.YtpblphddpcogcaaDoorCharPlain
import Derived.Test.YtpblphddpcogcaaDoorUtf1
import Derived.Test.YtpblphddpcogcaaDoorUtf2
import Derived.Test.YtpblphddpcogcaaDoorUtf3
import Derived.Test.YtpblphddpcogcaaDoorChars1
import Derived.Test.YtpblphddpcogcaaDoorName1
import Derived.Test.YtpblphddpcogcaaDoorName2
import Derived.Test.YtpblphddpcogcaaDoorName3
import Derived.Test.YtpblphddpcogcaaDoorCref1
import Derived.Test.YtpblphddpcogcaaDoorDig
import Derived.Test.YtpblphddpcogcaaDoorRef1
namespace Go.Proofs.YtpblphddpcogcaaDoor
open Go.ChangeShapes Go.WideShapes Go.ChangeAt Go.RowKit
set_option linter.unusedVariables false
theorem digit_lt (b : Int) (hb : b = 10 ∨ b = 16) (r : Int) : digit b r < b ∧ -1 ≤ digit b r := by
  unfold digit
  rcases hb with rfl | rfl <;> (repeat' split) <;> omega
/-- The digits that bytes begin with. -/
def digs (b : Int) : List UInt8 → List UInt8
  | [] => []
  | c :: t => if 0 ≤ digit b c.toNat then c :: digs b t else []
theorem digs_le (b : Int) (l : List UInt8) : (digs b l).length ≤ l.length := by
  induction l with
  | nil => simp [digs]
  | cons c t ih => unfold digs; split <;> simp <;> omega
theorem digs_mem (b : Int) (l : List UInt8) : ∀ c ∈ digs b l, 0 ≤ digit b c.toNat := by
  induction l with
  | nil => simp [digs]
  | cons c t ih => 
    intro d hd
    unfold digs at hd
    split at hd
    · rcases List.mem_cons.1 hd with rfl | hd
      · assumption
      · exact ih d hd
    · simp at hd
/-- The byte at a place among the digits is one; the one behind them is none. -/
theorem digs_at (b : Int) (l : List UInt8) (k : Nat) (c : UInt8) (hk : k ≤ (digs b l).length) (hc : l[k]? = some c) : k < (digs b l).length ↔ 0 ≤ digit b c.toNat := by
  induction l generalizing k with
  | nil => simp at hc
  | cons d t ih =>
    unfold digs at hk ⊢
    cases k with
    | zero =>
      simp at hc
      subst hc
      split <;> simp_all
    | succ k =>
      split at hk
      · rename_i h
        rw [if_pos h]
        simp only [List.length_cons, Nat.add_lt_add_iff_right]
        exact ih k (by simpa using hk) (by simpa using hc)
      · simp at hk
theorem digs_take (b : Int) (l : List UInt8) : digs b l = l.take (digs b l).length := by
  induction l with
  | nil => simp [digs]
  | cons c t ih =>
    unfold digs
    split
    · simp only [List.length_cons, List.take_succ_cons]; rw [← ih]
    · simp
/-- The number of digits, no more than cap. -/
def numC (b cap : Int) (l : List UInt8) : Int := l.foldl (fun r c => min (r * b + digit b c.toNat) cap) 0
theorem numC_snoc (b cap : Int) (l : List UInt8) (c : UInt8) : numC b cap (l ++ [c]) = min (numC b cap l * b + digit b c.toNat) cap := by simp [numC]
/-- The number of digits. -/
def numU (b : Int) (l : List UInt8) : Int := l.foldl (fun r c => r * b + digit b c.toNat) 0
theorem numU_snoc (b : Int) (l : List UInt8) (c : UInt8) : numU b (l ++ [c]) = numU b l * b + digit b c.toNat := by simp [numU]
theorem numU_nonneg (b : Int) (hb : 1 ≤ b) (l : List UInt8) : (∀ c ∈ l, 0 ≤ digit b c.toNat) → 0 ≤ numU b l := by
  refine snoc_induction (P := fun l => (∀ c ∈ l, 0 ≤ digit b c.toNat) → 0 ≤ numU b l) ?_ ?_ l
  · intro _; simp [numU]
  · intro l x ih h
    rw [numU_snoc]
    have h1 := ih fun c hc => h c (List.mem_append_left _ hc)
    have h2 := h x (by simp)
    have h3 : 0 ≤ numU b l * b := Int.mul_nonneg h1 (by omega)
    omega
theorem numC_eq (b cap : Int) (hb : 1 ≤ b) (hc : 0 ≤ cap) (l : List UInt8) : (∀ c ∈ l, 0 ≤ digit b c.toNat) → numC b cap l = min (numU b l) cap := by
  refine snoc_induction (P := fun l => (∀ c ∈ l, 0 ≤ digit b c.toNat) → numC b cap l = min (numU b l) cap) ?_ ?_ l
  · intro _; simp only [numC, numU, List.foldl_nil]; omega
  · intro l x ih h
    have h1 := ih fun c hc => h c (List.mem_append_left _ hc)
    have h2 := h x (by simp)
    have h3 := numU_nonneg b hb l fun c hc => h c (List.mem_append_left _ hc)
    rw [numC_snoc, numU_snoc, h1]
    by_cases hle : numU b l ≤ cap
    · rw [Int.min_eq_left hle]
    · rw [Int.min_eq_right (by omega : cap ≤ numU b l)]
      have e1 : cap * 1 ≤ cap * b := Int.mul_le_mul_of_nonneg_left hb hc
      have e2 : numU b l * 1 ≤ numU b l * b := Int.mul_le_mul_of_nonneg_left hb h3
      rw [Int.min_eq_right (by omega : cap ≤ cap * b + _), Int.min_eq_right (by omega : cap ≤ numU b l * b + _)]
theorem numC_le (b cap : Int) (hc : 0 ≤ cap) (l : List UInt8) : numC b cap l ≤ cap := by
  refine snoc_induction (P := fun l => numC b cap l ≤ cap) (by simpa [numC] using hc) (fun l x ih => ?_) l
  rw [numC_snoc]; exact Int.min_le_right _ _
theorem numC_nonneg (b cap : Int) (hb : 1 ≤ b) (hc : 0 ≤ cap) (l : List UInt8) (h : ∀ c ∈ l, 0 ≤ digit b c.toNat) : 0 ≤ numC b cap l := by
  rw [numC_eq b cap hb hc l h]
  have := numU_nonneg b hb l h
  omega
/-- A cap above all characters changes neither which number is a character nor the character. -/
theorem cap_doc (b cap : Int) (hb : 1 ≤ b) (hc : 1114111 < cap) (l : List UInt8) (h : ∀ c ∈ l, 0 ≤ digit b c.toNat) : isDoc (numC b cap l) = isDoc (numU b l) ∧ (isDoc (numU b l) = true → numC b cap l = numU b l) := by
  rw [numC_eq b cap hb (by omega) l h]
  by_cases hle : numU b l ≤ cap
  · rw [Int.min_eq_left hle]; exact ⟨rfl, fun _ => rfl⟩
  · rw [Int.min_eq_right (by omega : cap ≤ numU b l)]
    have e1 : isDoc cap = false := by rw [Bool.eq_false_iff, Ne, isDoc_iff]; omega
    have e2 : isDoc (numU b l) = false := by rw [Bool.eq_false_iff, Ne, isDoc_iff]; omega
    exact ⟨by rw [e1, e2], fun h => by rw [e2] at h; cases h⟩
/-- What is read of a reference to a character: the number, the place behind, the fault. -/
def charBody (b : Int) (cap : Int) (l : List UInt8) (from_ : Nat) : Int × Nat × Nat :=
  let ds := digs b (l.drop from_)
  if ds.length = 0 ∨ l[from_ + ds.length]? ≠ some 59 then (0, 0, 7)
  else if isDoc (numC b cap ds) = true then (numC b cap ds, from_ + ds.length + 1, 0) else (0, 0, 6)
def charOut (l : List UInt8) (at_ : Nat) : Int × Nat × Nat :=
  if l[at_]? = some 38 ∧ l[at_ + 1]? = some 35 then
    (if l[at_ + 2]? = some 120 then charBody 16 2097152 l (at_ + 3) else charBody 10 2097152 l (at_ + 2))
  else (0, 0, 7)
theorem charBody_cap (b : Int) (hb : b = 10 ∨ b = 16) (c1 c2 : Int) (h1 : 1114111 < c1) (h2 : 1114111 < c2) (l : List UInt8) (k : Nat) : charBody b c1 l k = charBody b c2 l k := by
  unfold charBody
  have hm := digs_mem b (l.drop k)
  have a1 := cap_doc b c1 (by omega) h1 _ hm
  have a2 := cap_doc b c2 (by omega) h2 _ hm
  simp only [a1.1, a2.1]
  split
  · rfl
  · split
    · rename_i hd; rw [a1.2 hd, a2.2 hd]
    · rfl
end Go.Proofs.YtpblphddpcogcaaDoor
