/- Texts of ours, joined: Cref2, Dig, Num, LitP, Pub, Blank, Dig2, Pfx, CChar. -/
import Derived.Test.YtbfdomipkfbaeaaDoorRows
import Derived.WalkKit
import Derived.ProofKit
import Derived.OpenShut
import Derived.ShutString
import Derived.ChangeOld
import Derived.Below
import Derived.BigQuiet
import Derived.Deep.QuietTactic
import Derived.Lib.Hide
import Derived.Deep.RegionHeld3
import Derived.Lib.SlBytesConst
import Derived.Laws.CopyOwn
import Derived.Laws.CopyRow
import Derived.Lib.Bytes
import Derived.Deep.LoopGhost
import Derived.Deep.DeepFit
import Derived.Deep.DeepMust
import Derived.WalkSpells
import Derived.WalkLawsBesides
import Derived.Laws.EntriesVeiled
import Derived.Laws.Rows
import Derived.Test.YtbfdomipkfbaeaaDoorA1
import Derived.Test.YtbfdomipkfbaeaaDoorA2
import Derived.Test.YtbfdomipkfbaeaaDoorA3
/- References to entities at any place. -/
namespace Go.Proofs.YtbfdomipkfbaeaaDoor
open Go.ChangeShapes Go.WideShapes Go.ChangeAt Go.RowKit
set_option linter.unusedVariables false
set_option maxHeartbeats 2000000 in
theorem crefEntity_call (A : Option Addr) (n cap : Nat) (at_ : Int) (w : World) (v : List UInt8 × Nat × Nat)
    (h : Calls Tryd.prog 183 #[.slice A n cap, .int .i64 at_, .int .u8 38] w fun e w' => e = .returned (outV v) ∧ Below w.heap.size w w') :
    Calls Tryd.prog 173 #[.slice A n cap, .int .i64 at_] w fun e w' => e = .returned (outV v) ∧ Below w.heap.size w w' := by
  unfold outV at *
  go_enter Tryd.func173, Tryd.ntmps173
  go_wp2_with fail
  refine h.mono ?_
  rintro e w1 ⟨rfl, hb⟩
  have HB := Lib.hid hb
  clear hb h
  go_wp2
  go_ret3
  exact ⟨rfl, HB.out⟩
/-- What is read of a reference at any place. -/
def refAt (mark : UInt8) (l : List UInt8) (at_ : Int) : List UInt8 × Nat × Nat := if at_ < 0 ∨ (l.length : Int) < at_ then ([], 0, 3) else refOut mark l at_.toNat
theorem crefEntity_c (A : Option Addr) (n cap : Nat) (l : List UInt8) (at_ : Int) (w : World) (h : Byt w w.heap.size A n cap l) (hF : Forms w) (hT : Tabs w) (hm : n ≤ 50000) :
    Calls Tryd.prog 173 #[.slice A n cap, .int .i64 at_] w fun e w' => e = .returned (outV (refAt 38 l at_)) ∧ Below w.heap.size w w' := by
  refine crefEntity_call A n cap at_ w _ ?_
  have hl := h.length
  unfold refAt
  rw [hl]
  by_cases ha : at_ < 0 ∨ (n : Int) < at_
  · rw [if_pos ha]; exact crefRead_range A n cap at_ 38 w ha
  · rw [if_neg ha]
    have := crefRead_c A n cap l at_.toNat 38 w h hF hT hm (by omega)
    rwa [show ((at_.toNat : Nat) : Int) = at_ by omega] at this
end Go.Proofs.YtbfdomipkfbaeaaDoor
/- Digits. -/
namespace Go.Proofs.YtbfdomipkfbaeaaDoor
open Go.ChangeShapes Go.WideShapes Go.ChangeAt Go.RowKit
set_option linter.unusedVariables false
/-- What a digit says to a base. -/
def digit (b : Int) (r : Int) : Int :=
  if 48 ≤ r ∧ r ≤ 57 then r - 48 else if 97 ≤ r ∧ r ≤ 102 then (if b = 16 then r - 87 else -1) else if 65 ≤ r ∧ r ≤ 70 then (if b = 16 then r - 55 else -1) else -1
set_option maxRecDepth 100000 in
set_option maxHeartbeats 4000000 in
theorem digit10_c (r : Int) (w : World) : Calls Tryd.prog 185 #[.int .i64 r, .int .i64 10] w fun e w' => e = .returned (.int .i64 (digit 10 r)) ∧ w = w' := by
  rcases (show r ≤ 47 ∨ (48 ≤ r ∧ r ≤ 57) ∨ (58 ≤ r ∧ r ≤ 64) ∨ (65 ≤ r ∧ r ≤ 70) ∨ (71 ≤ r ∧ r ≤ 96) ∨ (97 ≤ r ∧ r ≤ 102) ∨ 103 ≤ r by omega) with h | h | h | h | h | h | h
  · have e : digit 10 r = -1 := by unfold digit; (repeat' split) <;> omega
    rw [e]
    have a0 : decide (48 ≤ r) = false := by simp; omega
    have a1 : decide (r ≤ 57) = true := by simp; omega
    have a2 : decide (97 ≤ r) = false := by simp; omega
    have a3 : decide (r ≤ 102) = true := by simp; omega
    have a4 : decide (65 ≤ r) = false := by simp; omega
    have a5 : decide (r ≤ 70) = true := by simp; omega
    clear e h
    go_enter Tryd.func185, Tryd.ntmps185
    go_wp2
    go_ret
    exact ⟨rfl, rfl⟩
  · have e : digit 10 r = r - 48 := by unfold digit; (repeat' split) <;> omega
    rw [e]
    have a0 : decide (48 ≤ r) = true := by simp; omega
    have a1 : decide (r ≤ 57) = true := by simp; omega
    have a2 : decide (97 ≤ r) = false := by simp; omega
    have a3 : decide (r ≤ 102) = true := by simp; omega
    have a4 : decide (65 ≤ r) = false := by simp; omega
    have a5 : decide (r ≤ 70) = true := by simp; omega
    have b0 : decide (10 ≤ r - 48) = false := by simp; omega
    have c0 : -1000 ≤ r ∧ r ≤ 1000 := by omega
    obtain ⟨c1, c2⟩ := c0
    clear e h
    go_enter Tryd.func185, Tryd.ntmps185
    go_wp2
    go_ret
    exact ⟨rfl, rfl⟩
  · have e : digit 10 r = -1 := by unfold digit; (repeat' split) <;> omega
    rw [e]
    have a0 : decide (48 ≤ r) = true := by simp; omega
    have a1 : decide (r ≤ 57) = false := by simp; omega
    have a2 : decide (97 ≤ r) = false := by simp; omega
    have a3 : decide (r ≤ 102) = true := by simp; omega
    have a4 : decide (65 ≤ r) = false := by simp; omega
    have a5 : decide (r ≤ 70) = true := by simp; omega
    clear e h
    go_enter Tryd.func185, Tryd.ntmps185
    go_wp2
    go_ret
    exact ⟨rfl, rfl⟩
  · have e : digit 10 r = -1 := by unfold digit; (repeat' split) <;> omega
    rw [e]
    have a0 : decide (48 ≤ r) = true := by simp; omega
    have a1 : decide (r ≤ 57) = false := by simp; omega
    have a2 : decide (97 ≤ r) = false := by simp; omega
    have a3 : decide (r ≤ 102) = true := by simp; omega
    have a4 : decide (65 ≤ r) = true := by simp; omega
    have a5 : decide (r ≤ 70) = true := by simp; omega
    have b0 : decide (10 ≤ r - 65 + 10) = true := by simp; omega
    have c0 : -1000 ≤ r ∧ r ≤ 1000 := by omega
    obtain ⟨c1, c2⟩ := c0
    clear e h
    go_enter Tryd.func185, Tryd.ntmps185
    go_wp2
    go_ret
    exact ⟨rfl, rfl⟩
  · have e : digit 10 r = -1 := by unfold digit; (repeat' split) <;> omega
    rw [e]
    have a0 : decide (48 ≤ r) = true := by simp; omega
    have a1 : decide (r ≤ 57) = false := by simp; omega
    have a2 : decide (97 ≤ r) = false := by simp; omega
    have a3 : decide (r ≤ 102) = true := by simp; omega
    have a4 : decide (65 ≤ r) = true := by simp; omega
    have a5 : decide (r ≤ 70) = false := by simp; omega
    clear e h
    go_enter Tryd.func185, Tryd.ntmps185
    go_wp2
    go_ret
    exact ⟨rfl, rfl⟩
  · have e : digit 10 r = -1 := by unfold digit; (repeat' split) <;> omega
    rw [e]
    have a0 : decide (48 ≤ r) = true := by simp; omega
    have a1 : decide (r ≤ 57) = false := by simp; omega
    have a2 : decide (97 ≤ r) = true := by simp; omega
    have a3 : decide (r ≤ 102) = true := by simp; omega
    have a4 : decide (65 ≤ r) = true := by simp; omega
    have a5 : decide (r ≤ 70) = false := by simp; omega
    have b0 : decide (10 ≤ r - 97 + 10) = true := by simp; omega
    have c0 : -1000 ≤ r ∧ r ≤ 1000 := by omega
    obtain ⟨c1, c2⟩ := c0
    clear e h
    go_enter Tryd.func185, Tryd.ntmps185
    go_wp2
    go_ret
    exact ⟨rfl, rfl⟩
  · have e : digit 10 r = -1 := by unfold digit; (repeat' split) <;> omega
    rw [e]
    have a0 : decide (48 ≤ r) = true := by simp; omega
    have a1 : decide (r ≤ 57) = false := by simp; omega
    have a2 : decide (97 ≤ r) = true := by simp; omega
    have a3 : decide (r ≤ 102) = false := by simp; omega
    have a4 : decide (65 ≤ r) = true := by simp; omega
    have a5 : decide (r ≤ 70) = false := by simp; omega
    clear e h
    go_enter Tryd.func185, Tryd.ntmps185
    go_wp2
    go_ret
    exact ⟨rfl, rfl⟩
set_option maxRecDepth 100000 in
set_option maxHeartbeats 4000000 in
theorem digit16_c (r : Int) (w : World) : Calls Tryd.prog 185 #[.int .i64 r, .int .i64 16] w fun e w' => e = .returned (.int .i64 (digit 16 r)) ∧ w = w' := by
  rcases (show r ≤ 47 ∨ (48 ≤ r ∧ r ≤ 57) ∨ (58 ≤ r ∧ r ≤ 64) ∨ (65 ≤ r ∧ r ≤ 70) ∨ (71 ≤ r ∧ r ≤ 96) ∨ (97 ≤ r ∧ r ≤ 102) ∨ 103 ≤ r by omega) with h | h | h | h | h | h | h
  · have e : digit 16 r = -1 := by unfold digit; (repeat' split) <;> omega
    rw [e]
    have a0 : decide (48 ≤ r) = false := by simp; omega
    have a1 : decide (r ≤ 57) = true := by simp; omega
    have a2 : decide (97 ≤ r) = false := by simp; omega
    have a3 : decide (r ≤ 102) = true := by simp; omega
    have a4 : decide (65 ≤ r) = false := by simp; omega
    have a5 : decide (r ≤ 70) = true := by simp; omega
    clear e h
    go_enter Tryd.func185, Tryd.ntmps185
    go_wp2
    go_ret
    exact ⟨rfl, rfl⟩
  · have e : digit 16 r = r - 48 := by unfold digit; (repeat' split) <;> omega
    rw [e]
    have a0 : decide (48 ≤ r) = true := by simp; omega
    have a1 : decide (r ≤ 57) = true := by simp; omega
    have a2 : decide (97 ≤ r) = false := by simp; omega
    have a3 : decide (r ≤ 102) = true := by simp; omega
    have a4 : decide (65 ≤ r) = false := by simp; omega
    have a5 : decide (r ≤ 70) = true := by simp; omega
    have b0 : decide (16 ≤ r - 48) = false := by simp; omega
    have c0 : -1000 ≤ r ∧ r ≤ 1000 := by omega
    obtain ⟨c1, c2⟩ := c0
    clear e h
    go_enter Tryd.func185, Tryd.ntmps185
    go_wp2
    go_ret
    exact ⟨rfl, rfl⟩
  · have e : digit 16 r = -1 := by unfold digit; (repeat' split) <;> omega
    rw [e]
    have a0 : decide (48 ≤ r) = true := by simp; omega
    have a1 : decide (r ≤ 57) = false := by simp; omega
    have a2 : decide (97 ≤ r) = false := by simp; omega
    have a3 : decide (r ≤ 102) = true := by simp; omega
    have a4 : decide (65 ≤ r) = false := by simp; omega
    have a5 : decide (r ≤ 70) = true := by simp; omega
    clear e h
    go_enter Tryd.func185, Tryd.ntmps185
    go_wp2
    go_ret
    exact ⟨rfl, rfl⟩
  · have e : digit 16 r = r - 55 := by unfold digit; (repeat' split) <;> omega
    rw [e]
    have a0 : decide (48 ≤ r) = true := by simp; omega
    have a1 : decide (r ≤ 57) = false := by simp; omega
    have a2 : decide (97 ≤ r) = false := by simp; omega
    have a3 : decide (r ≤ 102) = true := by simp; omega
    have a4 : decide (65 ≤ r) = true := by simp; omega
    have a5 : decide (r ≤ 70) = true := by simp; omega
    have b0 : decide (16 ≤ r - 65 + 10) = false := by simp; omega
    have c0 : -1000 ≤ r ∧ r ≤ 1000 := by omega
    obtain ⟨c1, c2⟩ := c0
    clear e h
    go_enter Tryd.func185, Tryd.ntmps185
    go_wp2
    go_ret
    exact ⟨by rw [show r - 55 = r - 65 + 10 by omega]; rfl, rfl⟩
  · have e : digit 16 r = -1 := by unfold digit; (repeat' split) <;> omega
    rw [e]
    have a0 : decide (48 ≤ r) = true := by simp; omega
    have a1 : decide (r ≤ 57) = false := by simp; omega
    have a2 : decide (97 ≤ r) = false := by simp; omega
    have a3 : decide (r ≤ 102) = true := by simp; omega
    have a4 : decide (65 ≤ r) = true := by simp; omega
    have a5 : decide (r ≤ 70) = false := by simp; omega
    clear e h
    go_enter Tryd.func185, Tryd.ntmps185
    go_wp2
    go_ret
    exact ⟨rfl, rfl⟩
  · have e : digit 16 r = r - 87 := by unfold digit; (repeat' split) <;> omega
    rw [e]
    have a0 : decide (48 ≤ r) = true := by simp; omega
    have a1 : decide (r ≤ 57) = false := by simp; omega
    have a2 : decide (97 ≤ r) = true := by simp; omega
    have a3 : decide (r ≤ 102) = true := by simp; omega
    have a4 : decide (65 ≤ r) = true := by simp; omega
    have a5 : decide (r ≤ 70) = false := by simp; omega
    have b0 : decide (16 ≤ r - 97 + 10) = false := by simp; omega
    have c0 : -1000 ≤ r ∧ r ≤ 1000 := by omega
    obtain ⟨c1, c2⟩ := c0
    clear e h
    go_enter Tryd.func185, Tryd.ntmps185
    go_wp2
    go_ret
    exact ⟨by rw [show r - 87 = r - 97 + 10 by omega]; rfl, rfl⟩
  · have e : digit 16 r = -1 := by unfold digit; (repeat' split) <;> omega
    rw [e]
    have a0 : decide (48 ≤ r) = true := by simp; omega
    have a1 : decide (r ≤ 57) = false := by simp; omega
    have a2 : decide (97 ≤ r) = true := by simp; omega
    have a3 : decide (r ≤ 102) = false := by simp; omega
    have a4 : decide (65 ≤ r) = true := by simp; omega
    have a5 : decide (r ≤ 70) = false := by simp; omega
    clear e h
    go_enter Tryd.func185, Tryd.ntmps185
    go_wp2
    go_ret
    exact ⟨rfl, rfl⟩
end Go.Proofs.YtbfdomipkfbaeaaDoor
/- Numbers in references to characters: plain law. -/
namespace Go.Proofs.YtbfdomipkfbaeaaDoor
open Go.ChangeShapes Go.WideShapes Go.ChangeAt Go.RowKit
set_option linter.unusedVariables false
theorem digit_lt (b : Int) (hb : b = 10 ∨ b = 16) (r : Int) : digit b r < b ∧ -1 ≤ digit b r := by
  unfold digit
  rcases hb with rfl | rfl <;> (repeat' split) <;> omega
/-- The digits that bytes begin with. -/
def digs (b : Int) : List UInt8 → List UInt8
  | [] => []
  | c :: t => if 0 ≤ digit b c.toNat then c :: digs b t else []
theorem digs_le (b : Int) (l : List UInt8) : (digs b l).length ≤ l.length := by
  induction l with
  | nil => simp [digs]
  | cons c t ih => unfold digs; split <;> simp <;> omega
theorem digs_mem (b : Int) (l : List UInt8) : ∀ c ∈ digs b l, 0 ≤ digit b c.toNat := by
  induction l with
  | nil => simp [digs]
  | cons c t ih => 
    intro d hd
    unfold digs at hd
    split at hd
    · rcases List.mem_cons.1 hd with rfl | hd
      · assumption
      · exact ih d hd
    · simp at hd
/-- The byte at a place among the digits is one; the one behind them is none. -/
theorem digs_at (b : Int) (l : List UInt8) (k : Nat) (c : UInt8) (hk : k ≤ (digs b l).length) (hc : l[k]? = some c) : k < (digs b l).length ↔ 0 ≤ digit b c.toNat := by
  induction l generalizing k with
  | nil => simp at hc
  | cons d t ih =>
    unfold digs at hk ⊢
    cases k with
    | zero =>
      simp at hc
      subst hc
      split <;> simp_all
    | succ k =>
      split at hk
      · rename_i h
        rw [if_pos h]
        simp only [List.length_cons, Nat.add_lt_add_iff_right]
        exact ih k (by simpa using hk) (by simpa using hc)
      · simp at hk
theorem digs_take (b : Int) (l : List UInt8) : digs b l = l.take (digs b l).length := by
  induction l with
  | nil => simp [digs]
  | cons c t ih =>
    unfold digs
    split
    · simp only [List.length_cons, List.take_succ_cons]; rw [← ih]
    · simp
/-- The number of digits, no more than cap. -/
def numC (b cap : Int) (l : List UInt8) : Int := l.foldl (fun r c => min (r * b + digit b c.toNat) cap) 0
theorem numC_snoc (b cap : Int) (l : List UInt8) (c : UInt8) : numC b cap (l ++ [c]) = min (numC b cap l * b + digit b c.toNat) cap := by simp [numC]
/-- The number of digits. -/
def numU (b : Int) (l : List UInt8) : Int := l.foldl (fun r c => r * b + digit b c.toNat) 0
theorem numU_snoc (b : Int) (l : List UInt8) (c : UInt8) : numU b (l ++ [c]) = numU b l * b + digit b c.toNat := by simp [numU]
theorem numU_nonneg (b : Int) (hb : 1 ≤ b) (l : List UInt8) : (∀ c ∈ l, 0 ≤ digit b c.toNat) → 0 ≤ numU b l := by
  refine snoc_induction (P := fun l => (∀ c ∈ l, 0 ≤ digit b c.toNat) → 0 ≤ numU b l) ?_ ?_ l
  · intro _; simp [numU]
  · intro l x ih h
    rw [numU_snoc]
    have h1 := ih fun c hc => h c (List.mem_append_left _ hc)
    have h2 := h x (by simp)
    have h3 : 0 ≤ numU b l * b := Int.mul_nonneg h1 (by omega)
    omega
theorem numC_eq (b cap : Int) (hb : 1 ≤ b) (hc : 0 ≤ cap) (l : List UInt8) : (∀ c ∈ l, 0 ≤ digit b c.toNat) → numC b cap l = min (numU b l) cap := by
  refine snoc_induction (P := fun l => (∀ c ∈ l, 0 ≤ digit b c.toNat) → numC b cap l = min (numU b l) cap) ?_ ?_ l
  · intro _; simp only [numC, numU, List.foldl_nil]; omega
  · intro l x ih h
    have h1 := ih fun c hc => h c (List.mem_append_left _ hc)
    have h2 := h x (by simp)
    have h3 := numU_nonneg b hb l fun c hc => h c (List.mem_append_left _ hc)
    rw [numC_snoc, numU_snoc, h1]
    by_cases hle : numU b l ≤ cap
    · rw [Int.min_eq_left hle]
    · rw [Int.min_eq_right (by omega : cap ≤ numU b l)]
      have e1 : cap * 1 ≤ cap * b := Int.mul_le_mul_of_nonneg_left hb hc
      have e2 : numU b l * 1 ≤ numU b l * b := Int.mul_le_mul_of_nonneg_left hb h3
      rw [Int.min_eq_right (by omega : cap ≤ cap * b + _), Int.min_eq_right (by omega : cap ≤ numU b l * b + _)]
theorem numC_le (b cap : Int) (hc : 0 ≤ cap) (l : List UInt8) : numC b cap l ≤ cap := by
  refine snoc_induction (P := fun l => numC b cap l ≤ cap) (by simpa [numC] using hc) (fun l x ih => ?_) l
  rw [numC_snoc]; exact Int.min_le_right _ _
theorem numC_nonneg (b cap : Int) (hb : 1 ≤ b) (hc : 0 ≤ cap) (l : List UInt8) (h : ∀ c ∈ l, 0 ≤ digit b c.toNat) : 0 ≤ numC b cap l := by
  rw [numC_eq b cap hb hc l h]
  have := numU_nonneg b hb l h
  omega
/-- What is read of a reference to a character: the number, the place behind, the fault. -/
def charBody (b : Int) (cap : Int) (l : List UInt8) (from_ : Nat) : Int × Nat × Nat :=
  let ds := digs b (l.drop from_)
  if ds.length = 0 ∨ l[from_ + ds.length]? ≠ some 59 then (0, 0, 7)
  else if isDoc (numC b cap ds) = true then (numC b cap ds, from_ + ds.length + 1, 0) else (0, 0, 6)
def charOut (l : List UInt8) (at_ : Nat) : Int × Nat × Nat :=
  if l[at_]? = some 38 ∧ l[at_ + 1]? = some 35 then
    (if l[at_ + 2]? = some 120 then charBody 16 2097152 l (at_ + 3) else charBody 10 2097152 l (at_ + 2))
  else (0, 0, 7)
end Go.Proofs.YtbfdomipkfbaeaaDoor
/- Quotes and references in texts: plain law. -/
namespace Go.Proofs.YtbfdomipkfbaeaaDoor
open Go.ChangeShapes Go.WideShapes Go.ChangeAt Go.RowKit
set_option linter.unusedVariables false
theorem ix_lo (c : UInt8) : ∀ r : List UInt8, -1 ≤ Lib.indexByte r c ∧ Lib.indexByte r c < r.length
  | [] => by simp [Lib.indexByte]
  | x :: r => by
    have := ix_lo c r
    simp only [Lib.indexByte, List.length_cons]
    split
    · omega
    · split <;> omega
theorem ix_at (c : UInt8) : ∀ r : List UInt8, 0 ≤ Lib.indexByte r c → r[(Lib.indexByte r c).toNat]? = some c ∧ ∀ j : Nat, (j : Int) < Lib.indexByte r c → r[j]? ≠ some c
  | [], h => by simp [Lib.indexByte] at h
  | x :: r, h => by
    by_cases hx : x = c
    · subst hx
      simp [Lib.indexByte]
      intro j hj; omega
    · have e : Lib.indexByte (x :: r) c = if Lib.indexByte r c == -1 then -1 else Lib.indexByte r c + 1 := by simp [Lib.indexByte, hx]
      rw [e] at h ⊢
      split at h
      · omega
      · rename_i h1
        rw [if_neg h1] at *
        have hlo := (ix_lo c r).1
        have h2 : 0 ≤ Lib.indexByte r c := by
          have : ¬ Lib.indexByte r c = -1 := by simpa using h1
          omega
        obtain ⟨a, b⟩ := ix_at c r h2
        refine ⟨?_, ?_⟩
        · rw [show (Lib.indexByte r c + 1).toNat = (Lib.indexByte r c).toNat + 1 by omega]
          simpa using a
        · intro j hj
          cases j with
          | zero => simpa using hx
          | succ j => simpa using b j (by omega)
theorem ix_none (c : UInt8) : ∀ r : List UInt8, Lib.indexByte r c < 0 → ∀ j : Nat, r[j]? ≠ some c
  | [], _ => by simp
  | x :: r, h => by
    by_cases hx : x = c
    · subst hx; simp [Lib.indexByte] at h
    · have e : Lib.indexByte (x :: r) c = if Lib.indexByte r c == -1 then -1 else Lib.indexByte r c + 1 := by simp [Lib.indexByte, hx]
      rw [e] at h
      have hlo := (ix_lo c r).1
      split at h
      · rename_i h1
        intro j
        cases j with
        | zero => simpa using hx
        | succ j => simpa using ix_none c r (by have : Lib.indexByte r c = -1 := by simpa using h1
                                                omega) j
      · rename_i h1
        have : ¬ Lib.indexByte r c = -1 := by simpa using h1
        omega
/-- What stands between quotes at a place: the text, the place behind, the fault. -/
def quotedQ (q : UInt8) (l : List UInt8) (k : Nat) : List UInt8 × Nat × Nat :=
  if Lib.indexByte (l.drop (k + 1)) q < 0 then ([], 0, 7) else ((l.drop (k + 1)).take (Lib.indexByte (l.drop (k + 1)) q).toNat, k + (Lib.indexByte (l.drop (k + 1)) q).toNat + 2, 0)
def quotedOut (l : List UInt8) (k : Nat) : List UInt8 × Nat × Nat :=
  match l[k]? with
  | none => ([], 0, 7)
  | some q => if q = 34 ∨ q = 39 then quotedQ q l k else ([], 0, 7)
def quotedAt (l : List UInt8) (at_ : Int) : List UInt8 × Nat × Nat := if at_ < 0 ∨ (l.length : Int) < at_ then ([], 0, 3) else quotedOut l at_.toNat
/-- What is read at a mark: the place behind, the fault. -/
def markOut (l : List UInt8) (k : Nat) : Nat × Nat := if l[k + 1]? = some 35 then (charOut l k).2 else (refOut 38 l k).2
/-- The first place that begins no reference, and why; by fuel. -/
def refsF (l : List UInt8) : Nat → Nat → Nat × Nat
  | 0, _ => (0, 0)
  | f + 1, k => if l.length ≤ k then (0, 0) else if l[k]? ≠ some 38 then refsF l f (k + 1) else if (markOut l k).2 ≠ 0 then (k, (markOut l k).2) else refsF l f (markOut l k).1
def refsOut (l : List UInt8) : Nat × Nat := refsF l (l.length + 1) 0
theorem charOut_next (l : List UInt8) (k : Nat) (h : (charOut l k).2.2 = 0) : k < (charOut l k).2.1 ∧ (charOut l k).2.1 ≤ l.length := by
  unfold charOut charBody at *
  simp only at *
  have key : ∀ (b : Int) (o : Nat), l[o + (digs b (l.drop o)).length]? = some 59 → o + (digs b (l.drop o)).length + 1 ≤ l.length := by
    intro b o h
    rcases Nat.lt_or_ge (o + (digs b (l.drop o)).length) l.length with g | g
    · omega
    · rw [List.getElem?_eq_none g] at h; cases h
  by_cases h1 : l[k]? = some 38 ∧ l[k + 1]? = some 35
  · rw [if_pos h1] at h ⊢
    by_cases h2 : l[k + 2]? = some 120
    · rw [if_pos h2] at h ⊢
      by_cases h3 : (digs 16 (l.drop (k + 3))).length = 0 ∨ l[k + 3 + (digs 16 (l.drop (k + 3))).length]? ≠ some 59
      · rw [if_pos h3] at h; simp at h
      · rw [if_neg h3] at h ⊢
        have := key 16 (k + 3) (by simpa using (not_or.1 h3).2)
        by_cases h4 : isDoc (numC 16 2097152 (digs 16 (l.drop (k + 3)))) = true
        · rw [if_pos h4]; simp only; omega
        · rw [if_neg h4] at h; simp at h
    · rw [if_neg h2] at h ⊢
      by_cases h3 : (digs 10 (l.drop (k + 2))).length = 0 ∨ l[k + 2 + (digs 10 (l.drop (k + 2))).length]? ≠ some 59
      · rw [if_pos h3] at h; simp at h
      · rw [if_neg h3] at h ⊢
        have := key 10 (k + 2) (by simpa using (not_or.1 h3).2)
        by_cases h4 : isDoc (numC 10 2097152 (digs 10 (l.drop (k + 2)))) = true
        · rw [if_pos h4]; simp only; omega
        · rw [if_neg h4] at h; simp at h
  · rw [if_neg h1] at h; simp at h
theorem refOut_next (m : UInt8) (l : List UInt8) (k : Nat) (h : (refOut m l k).2.2 = 0) : k < (refOut m l k).2.1 ∧ (refOut m l k).2.1 ≤ l.length := by
  unfold refOut at *
  cases hc : l[k]? with
  | none => rw [hc] at h; simp at h
  | some c =>
    rw [hc] at h
    simp only at h ⊢
    have hk : k < l.length := by
      rcases Nat.lt_or_ge k l.length with g | g
      · exact g
      · rw [List.getElem?_eq_none g] at hc; cases hc
    by_cases h1 : c = m
    · rw [if_pos h1] at h ⊢
      by_cases h2 : (plainOut l (k + 1)).2.2 ≠ 0
      · rw [if_pos h2] at h; exact absurd h h2
      · rw [if_neg h2] at h ⊢
        have hp := plainOut_le l (k + 1) (by omega) (by simpa using h2)
        cases hd : l[(plainOut l (k + 1)).2.1]? with
        | none => rw [hd] at h; simp at h
        | some d =>
          rw [hd] at h
          simp only at h ⊢
          have hk2 : (plainOut l (k + 1)).2.1 < l.length := by
            rcases Nat.lt_or_ge (plainOut l (k + 1)).2.1 l.length with g | g
            · exact g
            · rw [List.getElem?_eq_none g] at hd; cases hd
          by_cases h3 : d = 59
          · rw [if_pos h3]; simp only; omega
          · rw [if_neg h3] at h; simp at h
    · rw [if_neg h1] at h; simp at h
theorem markOut_next (l : List UInt8) (k : Nat) (h : (markOut l k).2 = 0) : k < (markOut l k).1 ∧ (markOut l k).1 ≤ l.length := by
  unfold markOut at *
  by_cases h1 : l[k + 1]? = some 35
  · rw [if_pos h1] at h ⊢; exact charOut_next l k h
  · rw [if_neg h1] at h ⊢; exact refOut_next 38 l k h
theorem refsF_end (l : List UInt8) (f k : Nat) (h : l.length ≤ k) : refsF l f k = (0, 0) := by
  cases f with
  | zero => rfl
  | succ f => unfold refsF; rw [if_pos h]
theorem refsF_skip (l : List UInt8) (f k : Nat) (hk : k < l.length) (h : l[k]? ≠ some 38) : refsF l (f + 1) k = refsF l f (k + 1) := by
  conv => lhs; unfold refsF
  rw [if_neg (by omega), if_pos h]
/-- No more fuel than is needed. -/
theorem refsF_fuel (l : List UInt8) : ∀ (f g k : Nat), l.length + 1 ≤ f + k → l.length + 1 ≤ g + k → refsF l f k = refsF l g k := by
  intro f
  induction f with
  | zero => intro g k hf hg; rw [refsF_end l 0 k (by omega), refsF_end l g k (by omega)]
  | succ f ih =>
    intro g k hf hg
    cases g with
    | zero => rw [refsF_end l _ k (by omega), refsF_end l _ k (by omega)]
    | succ g =>
      unfold refsF
      by_cases h1 : l.length ≤ k
      · rw [if_pos h1, if_pos h1]
      · rw [if_neg h1, if_neg h1]
        by_cases h2 : l[k]? ≠ some 38
        · rw [if_pos h2, if_pos h2]; exact ih g (k + 1) (by omega) (by omega)
        · rw [if_neg h2, if_neg h2]
          by_cases h3 : (markOut l k).2 ≠ 0
          · rw [if_pos h3, if_pos h3]
          · rw [if_neg h3, if_neg h3]
            have := markOut_next l k (by simpa using h3)
            exact ih g _ (by omega) (by omega)
/-- What is told from a place on. -/
def refsFrom (l : List UInt8) (k : Nat) : Nat × Nat := refsF l (l.length + 1) k
theorem refsFrom_end (l : List UInt8) (k : Nat) (h : l.length ≤ k) : refsFrom l k = (0, 0) := refsF_end l _ k h
theorem refsFrom_skip (l : List UInt8) (k : Nat) (hk : k < l.length) (h : l[k]? ≠ some 38) : refsFrom l k = refsFrom l (k + 1) := by
  unfold refsFrom
  rw [refsF_skip l l.length k hk h]
  exact refsF_fuel l _ _ _ (by omega) (by omega)
theorem refsFrom_skips (l : List UInt8) (k n : Nat) (hk : k + n ≤ l.length) (h : ∀ j < n, l[k + j]? ≠ some 38) : refsFrom l k = refsFrom l (k + n) := by
  induction n with
  | zero => rfl
  | succ n ih =>
    rw [ih (by omega) fun j hj => h j (by omega), refsFrom_skip l (k + n) (by omega) (h n (by omega))]
    rfl
theorem refsFrom_bad (l : List UInt8) (k : Nat) (h : l[k]? = some 38) (hb : (markOut l k).2 ≠ 0) : refsFrom l k = (k, (markOut l k).2) := by
  have hk : k < l.length := by
    rcases Nat.lt_or_ge k l.length with g | g
    · exact g
    · rw [List.getElem?_eq_none g] at h; cases h
  unfold refsFrom
  unfold refsF
  rw [if_neg (by omega), if_neg (by simp [h]), if_pos hb]
theorem refsFrom_next (l : List UInt8) (k : Nat) (h : l[k]? = some 38) (hb : (markOut l k).2 = 0) : refsFrom l k = refsFrom l (markOut l k).1 := by
  have hk : k < l.length := by
    rcases Nat.lt_or_ge k l.length with g | g
    · exact g
    · rw [List.getElem?_eq_none g] at h; cases h
  have := markOut_next l k hb
  unfold refsFrom
  conv => lhs; unfold refsF
  rw [if_neg (by omega), if_neg (by simp [h]), if_neg (by simp [hb])]
  exact refsF_fuel l _ _ _ (by omega) (by omega)
theorem refsOut_eq (l : List UInt8) : refsOut l = refsFrom l 0 := rfl
end Go.Proofs.YtbfdomipkfbaeaaDoor
/- Characters of public identifiers; classes. -/
namespace Go.Proofs.YtbfdomipkfbaeaaDoor
open Go.ChangeShapes Go.WideShapes Go.ChangeAt Go.RowKit
set_option linter.unusedVariables false
def isBlank (r : Int) : Bool := r == 32 || r == 9 || r == 13 || r == 10
end Go.Proofs.YtbfdomipkfbaeaaDoor
/- Blanks. -/
namespace Go.Proofs.YtbfdomipkfbaeaaDoor
open Go.ChangeShapes Go.WideShapes Go.ChangeAt Go.RowKit
set_option linter.unusedVariables false
def isBl (c : UInt8) : Bool := isBlank (c.toNat : Int)
/-- The first place from k on without a blank. -/
def blankTo (l : List UInt8) (k : Nat) : Nat := k + ((l.drop k).takeWhile isBl).length
theorem blankTo_end (l : List UInt8) (k : Nat) (hk : l.length ≤ k) : blankTo l k = k := by
  unfold blankTo
  rw [List.drop_of_length_le hk]
  rfl
theorem drop_cons (l : List UInt8) (k : Nat) (c : UInt8) (h : l[k]? = some c) : l.drop k = c :: l.drop (k + 1) := by
  obtain ⟨hk, hc⟩ := List.getElem?_eq_some_iff.1 h
  rw [List.drop_eq_getElem_cons hk, hc]
theorem blankTo_no (l : List UInt8) (k : Nat) (c : UInt8) (h : l[k]? = some c) (hc : isBl c = false) : blankTo l k = k := by
  unfold blankTo
  rw [drop_cons l k c h, List.takeWhile_cons, hc]
  rfl
theorem blankTo_yes (l : List UInt8) (k : Nat) (c : UInt8) (h : l[k]? = some c) (hc : isBl c = true) : blankTo l k = blankTo l (k + 1) := by
  unfold blankTo
  rw [drop_cons l k c h, List.takeWhile_cons, hc]
  simp
  omega
set_option maxRecDepth 100000 in
set_option maxHeartbeats 4000000 in
theorem blank_c (r : Int) (w : World) : Calls Tryd.prog 124 #[.int .i64 r] w fun e w' => e = .returned (.bool (isBlank r)) ∧ w = w' := by
  rcases (show (r = 32) ∨ (r = 9) ∨ (r = 13) ∨ (r = 10) ∨ (r ≠ 32 ∧ r ≠ 9 ∧ r ≠ 13 ∧ r ≠ 10) by omega) with h | h | h | h | h
  all_goals
    first
    | (subst h
       go_enter Tryd.func124, Tryd.ntmps124
       go_wp2
       go_ret
       exact ⟨rfl, rfl⟩)
    | (have a0 : (r == 32) = false := by simp; omega
       have a1 : (r == 9) = false := by simp; omega
       have a2 : (r == 13) = false := by simp; omega
       have a3 : (r == 10) = false := by simp; omega
       have e : isBlank r = false := by unfold isBlank; rw [a0, a1, a2, a3]; rfl
       rw [e]
       clear e h
       go_enter Tryd.func124, Tryd.ntmps124
       go_wp2
       go_ret
       exact ⟨rfl, rfl⟩)
set_option maxRecDepth 100000 in
set_option maxHeartbeats 4000000 in
theorem blanks_c (A : Option Addr) (n cap : Nat) (l : List UInt8) (at_ : Nat) (B : Nat) (w : World) (h : Byt w B A n cap l) (hm : n ≤ 1000000) (hat : at_ ≤ n) :
    Calls Tryd.prog 99 #[.slice A n cap, .int .i64 at_] w fun e w' => e = .returned (.int .i64 (blankTo l at_)) ∧ w = w' := by
  have HB := Lib.hid h
  have hln := Lib.hid h.length
  clear h
  go_enter Tryd.func99, Tryd.ntmps99
  go_wp2
  go_loopg [1] (n - at_) (fun g i wr => ∃ t : Nat, t ≤ n ∧ Hid (g + t = n) ∧ i = .int .i64 (t : Int) ∧ w = wr ∧ Hid (blankTo l at_ = blankTo l t))
  case atStart => exact ⟨at_, hat, Lib.hid (by omega), rfl, rfl, Lib.hid rfl⟩
  case round =>
    obtain ⟨t, ht, hg, rfl, rfl, HN⟩ := hrel
    have ht0 : (0 : Int) ≤ (t : Int) := by omega
    have htb : (t : Int) ≤ 1000000 := by omega
    by_cases htn : t < n
    · have htni : (t : Int) < (n : Int) := by omega
      obtain ⟨b, o, c, rfl, hb, hc, hcell⟩ := HB.out.cell htn
      have HC := Lib.hid hc
      have c0 : (0 : Int) ≤ (c.toNat : Int) := by omega
      have c1 : (c.toNat : Int) ≤ 255 := by have := c.toNat_lt; omega
      clear hc hb
      cases hbl : isBl c with
      | false =>
        have HE : Hid (blankTo l at_ = t) := Lib.hid (by rw [HN.out, blankTo_no l t c HC.out hbl])
        have CB := Lib.hid (blank_c (c.toNat : Int) w)
        unfold isBl at hbl
        rw [hbl] at CB
        clear hbl
        generalize (c.toNat : Int) = cn at *
        go_wp2_with fail
        refine (CB.out).mono ?_
        rintro e wq ⟨rfl, rfl⟩
        go_wp2
        go_ret
        exact ⟨by rw [HE.out]; rfl, rfl⟩
      | true =>
        have HE : Hid (blankTo l at_ = blankTo l (t + 1)) := Lib.hid (by rw [HN.out, blankTo_yes l t c HC.out hbl])
        have CB := Lib.hid (blank_c (c.toNat : Int) w)
        unfold isBl at hbl
        rw [hbl] at CB
        clear hbl
        generalize (c.toNat : Int) = cn at *
        go_wp2_with fail
        refine (CB.out).mono ?_
        rintro e wq ⟨rfl, rfl⟩
        go_wp2
        go_roundg (n - (t + 1))
        case measure => have := hg.out; omega
        case rel => exact ⟨t + 1, by omega, Lib.hid (by omega), by go_num, rfl, HE⟩
    · have htni : ¬ (t : Int) < (n : Int) := by omega
      have HE : Hid (blankTo l at_ = t) := Lib.hid (by rw [HN.out, blankTo_end l t (by rw [hln.out]; omega)])
      go_wp2
      go_ret
      exact ⟨by rw [HE.out]; rfl, rfl⟩
end Go.Proofs.YtbfdomipkfbaeaaDoor
/- The document's digits. -/
namespace Go.Proofs.YtbfdomipkfbaeaaDoor
open Go.ChangeShapes Go.WideShapes Go.ChangeAt Go.RowKit
set_option linter.unusedVariables false
end Go.Proofs.YtbfdomipkfbaeaaDoor
/- bytes.HasPrefix. -/
namespace Go.Proofs.YtbfdomipkfbaeaaDoor
open Go.ChangeShapes Go.WideShapes Go.ChangeAt Go.RowKit
set_option linter.unusedVariables false
theorem Byt.bytesIn {w : World} {B n cap : Nat} {A : Option Addr} {l : List UInt8} (h : Byt w B A n cap l) : Lib.BytesIn w A n (nums l) := fun hn => by
  obtain ⟨b, o, e, hc⟩ := h.cells (by have := h.le; omega)
  exact ⟨b, o, e, hc⟩
theorem hasPrefix_c (A1 A2 : Option Addr) (n1 c1 n2 c2 : Nat) (l1 l2 : List UInt8) (w : World) (B1 B2 : Nat) (h1 : Byt w B1 A1 n1 c1 l1) (h2 : Byt w B2 A2 n2 c2 l2) :
    Calls Tryd.prog 174 #[.slice A1 n1 c1, .slice A2 n2 c2] w fun e w' => e = .returned (.bool (l2.isPrefixOf l1)) ∧ w = w' := by
  refine (Tryd.bytes_HasPrefix_all A1 A2 n1 c1 n2 c2 (nums l1) (nums l2) w (by rw [nums_length, h1.length]) (by rw [nums_length, h2.length]) h1.le h1.bytesIn h2.bytesIn).mono fun e w' ⟨he, hw⟩ => ⟨?_, hw.symm⟩
  rw [he, bytesOf_nums, bytesOf_nums]
  rfl
end Go.Proofs.YtbfdomipkfbaeaaDoor
/- cref.Char. -/
namespace Go.Proofs.YtbfdomipkfbaeaaDoor
open Go.ChangeShapes Go.WideShapes Go.ChangeAt Go.RowKit
set_option linter.unusedVariables false
theorem digitB_c (b : Int) (hb : b = 10 ∨ b = 16) (r : Int) (w : World) : Calls Tryd.prog 185 #[.int .i64 r, .int .i64 b] w fun e w' => e = .returned (.int .i64 (digit b r)) ∧ w = w' := by
  rcases hb with rfl | rfl
  · exact digit10_c r w
  · exact digit16_c r w
def numV (o : Int × Nat × Nat) : Value := .tuple #[.int .i64 o.1, .int .i64 (o.2.1 : Int), .int .i64 (o.2.2 : Int)]
theorem pre2 (a b : UInt8) (l : List UInt8) : [a, b].isPrefixOf l = decide (l[0]? = some a ∧ l[1]? = some b) := by
  match l with
  | [] => simp
  | [x] => simp [List.isPrefixOf]
  | x :: y :: t =>
    simp [List.isPrefixOf]; rw [Bool.eq_iff_iff]; simp
    exact ⟨fun ⟨p, q⟩ => ⟨p.symm, q.symm⟩, fun ⟨p, q⟩ => ⟨p.symm, q.symm⟩⟩
theorem pre3 (a b c : UInt8) (l : List UInt8) : [a, b, c].isPrefixOf l = decide (l[0]? = some a ∧ l[1]? = some b ∧ l[2]? = some c) := by
  match l with
  | [] => simp
  | [x] => simp [List.isPrefixOf]
  | [x, y] => simp [List.isPrefixOf]
  | x :: y :: z :: t =>
    simp [List.isPrefixOf]; rw [Bool.eq_iff_iff]; simp
    exact ⟨fun ⟨p, q, r⟩ => ⟨p.symm, q.symm, r.symm⟩, fun ⟨p, q, r⟩ => ⟨p.symm, q.symm, r.symm⟩⟩
set_option maxRecDepth 100000 in
set_option maxHeartbeats 2000000 in
theorem crefChar_range (A : Option Addr) (n cap : Nat) (at_ : Int) (w : World) (ha : at_ < 0 ∨ (n : Int) < at_) :
    Calls Tryd.prog 175 #[.slice A n cap, .int .i64 at_] w fun e w' => e = .returned (numV (0, 0, 3)) ∧ Below w.heap.size w w' := by
  by_cases h0 : at_ < 0
  · have hd : decide (at_ < 0) = true := by simpa using h0
    clear ha
    go_enter Tryd.func175, Tryd.ntmps175
    go_wp2_with fail
    go_step3
    go_wp2
    rw [Exit.noGoto_ret]
    go_ret3
    exact ⟨rfl, Below.refl _ _⟩
  · have h1 : (n : Int) < at_ := by omega
    clear ha
    go_enter Tryd.func175, Tryd.ntmps175
    go_wp2_with fail
    go_step3
    go_wp2
    rw [Exit.noGoto_ret]
    go_ret3
    exact ⟨rfl, Below.refl _ _⟩
set_option maxRecDepth 100000 in
set_option maxHeartbeats 2000000 in
theorem crefChar_no (A : Option Addr) (n cap : Nat) (l : List UInt8) (at_ : Nat) (w : World) (h : Byt w w.heap.size A n cap l) (hm : n ≤ 50000) (hat : at_ ≤ n) (hp : [38, 35].isPrefixOf (l.drop at_) = false) :
    Calls Tryd.prog 175 #[.slice A n cap, .int .i64 at_] w fun e w' => e = .returned (numV (0, 0, 7)) ∧ Below w.heap.size w w' := by
  have hp3 : [38, 35, 120].isPrefixOf (l.drop at_) = false := by
    rw [pre2] at hp
    rw [pre3]
    simp only [decide_eq_false_iff_not] at hp ⊢
    exact fun h => hp ⟨h.1, h.2.1⟩
  have hat' : ¬ (n : Int) < (at_ : Int) := by omega
  have hrf : ∀ w2 : World, (Instr.slice 63 (.slice A n cap) (some (.int .i64 (at_ : Int))) none none).run Tryd.prog w2 = .ok (.slice (cutA A cap at_) (n - at_) (cap - at_)) w2 := fun w2 => run_from (w := w2) A n cap at_ hat
  have hap : IntKind.i64.wrap ((at_ : Int) + 2) = (at_ : Int) + 2 := by rw [IntKind.wrap_i64]; omega
  have kc := fun (w : World) (C : Array Value) (n c : Nat) => Lib.run_convert_bytes_const (P := Tryd.prog) w 63 5 C n c Tryd.underlying63 Tryd.underlying5
  have kc2 := kc (w.alloc (.cells #[bv 38, bv 35, bv 120] 5 (3, 4))) #[.int .u8 38, .int .u8 35] 2 2
  rw [show (w.alloc (.cells #[bv 38, bv 35, bv 120] 5 (3, 4))).heap.size = w.heap.size + 1 by simp] at kc2
  have k1 := Byt.const w [38, 35, 120] (3, 4) (by decide)
  have b1 : Below w.heap.size w (w.alloc (.cells ([38, 35, 120].map bv).toArray 5 (3, 4))) := (Below.refl _ _).alloc (Nat.le_refl _) _
  have c1 := hasPrefix_c _ _ _ _ _ _ _ _ _ _ _ ((h.below b1).drop hat) k1
  have k2 := Byt.const (w.alloc (.cells ([38, 35, 120].map bv).toArray 5 (3, 4))) [38, 35] (2, 3) (by decide)
  have b2 : Below w.heap.size w ((w.alloc (.cells ([38, 35, 120].map bv).toArray 5 (3, 4))).alloc (.cells ([38, 35].map bv).toArray 5 (2, 3))) := b1.alloc (by simp) _
  have c2 := hasPrefix_c _ _ _ _ _ _ _ _ _ _ _ ((h.below b2).drop hat) k2
  rw [hp3] at c1
  rw [hp] at c2
  rw [show (w.alloc (.cells ([38, 35, 120].map bv).toArray 5 (3, 4))).heap.size = w.heap.size + 1 by simp] at c2
  have HC2 := Lib.hid c2
  clear c2
  have HB := Lib.hid b2
  clear b2 b1 k1 k2 h hp hp3 hm
  go_enter Tryd.func175, Tryd.ntmps175
  go_wp2_with fail
  go_step3
  go_wp2_with fail
  refine c1.mono ?_
  rintro e w1 ⟨rfl, rfl⟩
  clear kc c1
  go_wp2_with fail
  refine HC2.out.mono ?_
  rintro e w1 ⟨rfl, rfl⟩
  go_wp2
  rw [Exit.noGoto_ret]
  go_ret3
  exact ⟨rfl, HB.out⟩
end Go.Proofs.YtbfdomipkfbaeaaDoor
