/- Texts of ours, joined: LitP, Pub, Blank, Fold, Fold2, NameA, Dig2, CChar. -/
import Derived.Test.YtmclngahdklfkaaGreatDoorRows
import Derived.WalkKit
import Derived.ProofKit
import Derived.OpenShut
import Derived.ShutString
import Derived.ChangeOld
import Derived.Below
import Derived.BigQuiet
import Derived.Deep.QuietTactic
import Derived.Lib.Hide
import Derived.Deep.RegionHeld3
import Derived.Lib.SlBytesConst
import Derived.Laws.CopyOwn
import Derived.Laws.CopyRow
import Derived.Lib.Bytes
import Derived.Deep.LoopGhost
import Derived.Deep.DeepFit
import Derived.Deep.DeepMust
import Derived.WalkSpells
import Derived.WalkLawsBesides
import Derived.Test.YtmclngahdklfkaaGreatDoorQ1
import Derived.Test.YtmclngahdklfkaaGreatDoorQ2
import Derived.Test.YtmclngahdklfkaaGreatDoorQ3
import Derived.Test.YtmclngahdklfkaaGreatDoorQ5
import Derived.Test.YtmclngahdklfkaaGreatDoorQ6
import Derived.Test.YtmclngahdklfkaaGreatDoorQ4
import Derived.Laws.EntriesVeiled
import Derived.Laws.Rows
import Derived.Lib.Fold
import Derived.ScopeJumps
import Derived.Outline
import Derived.WalkMore
import Derived.Laws.RangeAny
import Derived.Lib.FieldsLaws
import Derived.Lib.Walk
import Derived.Lib.Strings
import Derived.Laws.Strings3
import Derived.Laws.BitsAllLaws
/- Quotes and references in texts: plain law. -/
namespace Go.Proofs.YtmclngahdklfkaaGreatDoor
open Go.ChangeShapes Go.WideShapes Go.ChangeAt Go.RowKit
set_option linter.unusedVariables false
theorem ix_lo (c : UInt8) : ∀ r : List UInt8, -1 ≤ Lib.indexByte r c ∧ Lib.indexByte r c < r.length
  | [] => by simp [Lib.indexByte]
  | x :: r => by
    have := ix_lo c r
    simp only [Lib.indexByte, List.length_cons]
    split
    · omega
    · split <;> omega
theorem ix_at (c : UInt8) : ∀ r : List UInt8, 0 ≤ Lib.indexByte r c → r[(Lib.indexByte r c).toNat]? = some c ∧ ∀ j : Nat, (j : Int) < Lib.indexByte r c → r[j]? ≠ some c
  | [], h => by simp [Lib.indexByte] at h
  | x :: r, h => by
    by_cases hx : x = c
    · subst hx
      simp [Lib.indexByte]
      intro j hj; omega
    · have e : Lib.indexByte (x :: r) c = if Lib.indexByte r c == -1 then -1 else Lib.indexByte r c + 1 := by simp [Lib.indexByte, hx]
      rw [e] at h ⊢
      split at h
      · omega
      · rename_i h1
        rw [if_neg h1] at *
        have hlo := (ix_lo c r).1
        have h2 : 0 ≤ Lib.indexByte r c := by
          have : ¬ Lib.indexByte r c = -1 := by simpa using h1
          omega
        obtain ⟨a, b⟩ := ix_at c r h2
        refine ⟨?_, ?_⟩
        · rw [show (Lib.indexByte r c + 1).toNat = (Lib.indexByte r c).toNat + 1 by omega]
          simpa using a
        · intro j hj
          cases j with
          | zero => simpa using hx
          | succ j => simpa using b j (by omega)
theorem ix_none (c : UInt8) : ∀ r : List UInt8, Lib.indexByte r c < 0 → ∀ j : Nat, r[j]? ≠ some c
  | [], _ => by simp
  | x :: r, h => by
    by_cases hx : x = c
    · subst hx; simp [Lib.indexByte] at h
    · have e : Lib.indexByte (x :: r) c = if Lib.indexByte r c == -1 then -1 else Lib.indexByte r c + 1 := by simp [Lib.indexByte, hx]
      rw [e] at h
      have hlo := (ix_lo c r).1
      split at h
      · rename_i h1
        intro j
        cases j with
        | zero => simpa using hx
        | succ j => simpa using ix_none c r (by have : Lib.indexByte r c = -1 := by simpa using h1
                                                omega) j
      · rename_i h1
        have : ¬ Lib.indexByte r c = -1 := by simpa using h1
        omega
/-- The first place is the one that has the byte and none ahead of it. -/
theorem ix_eq (c : UInt8) (r : List UInt8) (j : Nat) (h : r[j]? = some c) (hn : ∀ i < j, r[i]? ≠ some c) : Lib.indexByte r c = j := by
  rcases Int.lt_or_le (Lib.indexByte r c) 0 with h0 | h0
  · exact absurd h (ix_none c r h0 j)
  · obtain ⟨a, b⟩ := ix_at c r h0
    rcases Nat.lt_trichotomy (Lib.indexByte r c).toNat j with h1 | h1 | h1
    · exact absurd a (hn _ h1)
    · omega
    · exact absurd h (b j (by omega))
theorem ix_eq_none (c : UInt8) (r : List UInt8) (hn : ∀ i : Nat, r[i]? ≠ some c) : Lib.indexByte r c = -1 := by
  rcases Int.lt_or_le (Lib.indexByte r c) 0 with h0 | h0
  · have := (ix_lo c r).1; omega
  · exact absurd (ix_at c r h0).1 (hn _)
/-- What stands between quotes at a place: the text, the place behind, the fault. -/
def quotedQ (q : UInt8) (l : List UInt8) (k : Nat) : List UInt8 × Nat × Nat :=
  if Lib.indexByte (l.drop (k + 1)) q < 0 then ([], 0, 7) else ((l.drop (k + 1)).take (Lib.indexByte (l.drop (k + 1)) q).toNat, k + (Lib.indexByte (l.drop (k + 1)) q).toNat + 2, 0)
def quotedOut (l : List UInt8) (k : Nat) : List UInt8 × Nat × Nat :=
  match l[k]? with
  | none => ([], 0, 7)
  | some q => if q = 34 ∨ q = 39 then quotedQ q l k else ([], 0, 7)
def quotedAt (l : List UInt8) (at_ : Int) : List UInt8 × Nat × Nat := if at_ < 0 ∨ (l.length : Int) < at_ then ([], 0, 3) else quotedOut l at_.toNat
/-- What is read at a mark: the place behind, the fault. -/
def markOut (l : List UInt8) (k : Nat) : Nat × Nat := if l[k + 1]? = some 35 then (charOut l k).2 else (refOut 38 l k).2
/-- The first place that begins no reference, and why; by fuel. -/
def refsF (l : List UInt8) : Nat → Nat → Nat × Nat
  | 0, _ => (0, 0)
  | f + 1, k => if l.length ≤ k then (0, 0) else if l[k]? ≠ some 38 then refsF l f (k + 1) else if (markOut l k).2 ≠ 0 then (k, (markOut l k).2) else refsF l f (markOut l k).1
def refsOut (l : List UInt8) : Nat × Nat := refsF l (l.length + 1) 0
theorem charOut_next (l : List UInt8) (k : Nat) (h : (charOut l k).2.2 = 0) : k < (charOut l k).2.1 ∧ (charOut l k).2.1 ≤ l.length := by
  unfold charOut charBody at *
  simp only at *
  have key : ∀ (b : Int) (o : Nat), l[o + (digs b (l.drop o)).length]? = some 59 → o + (digs b (l.drop o)).length + 1 ≤ l.length := by
    intro b o h
    rcases Nat.lt_or_ge (o + (digs b (l.drop o)).length) l.length with g | g
    · omega
    · rw [List.getElem?_eq_none g] at h; cases h
  by_cases h1 : l[k]? = some 38 ∧ l[k + 1]? = some 35
  · rw [if_pos h1] at h ⊢
    by_cases h2 : l[k + 2]? = some 120
    · rw [if_pos h2] at h ⊢
      by_cases h3 : (digs 16 (l.drop (k + 3))).length = 0 ∨ l[k + 3 + (digs 16 (l.drop (k + 3))).length]? ≠ some 59
      · rw [if_pos h3] at h; simp at h
      · rw [if_neg h3] at h ⊢
        have := key 16 (k + 3) (by simpa using (not_or.1 h3).2)
        by_cases h4 : isDoc (numC 16 2097152 (digs 16 (l.drop (k + 3)))) = true
        · rw [if_pos h4]; simp only; omega
        · rw [if_neg h4] at h; simp at h
    · rw [if_neg h2] at h ⊢
      by_cases h3 : (digs 10 (l.drop (k + 2))).length = 0 ∨ l[k + 2 + (digs 10 (l.drop (k + 2))).length]? ≠ some 59
      · rw [if_pos h3] at h; simp at h
      · rw [if_neg h3] at h ⊢
        have := key 10 (k + 2) (by simpa using (not_or.1 h3).2)
        by_cases h4 : isDoc (numC 10 2097152 (digs 10 (l.drop (k + 2)))) = true
        · rw [if_pos h4]; simp only; omega
        · rw [if_neg h4] at h; simp at h
  · rw [if_neg h1] at h; simp at h
theorem refOut_next (m : UInt8) (l : List UInt8) (k : Nat) (h : (refOut m l k).2.2 = 0) : k < (refOut m l k).2.1 ∧ (refOut m l k).2.1 ≤ l.length := by
  unfold refOut at *
  cases hc : l[k]? with
  | none => rw [hc] at h; simp at h
  | some c =>
    rw [hc] at h
    simp only at h ⊢
    have hk : k < l.length := by
      rcases Nat.lt_or_ge k l.length with g | g
      · exact g
      · rw [List.getElem?_eq_none g] at hc; cases hc
    by_cases h1 : c = m
    · rw [if_pos h1] at h ⊢
      by_cases h2 : (plainOut l (k + 1)).2.2 ≠ 0
      · rw [if_pos h2] at h; exact absurd h h2
      · rw [if_neg h2] at h ⊢
        have hp := plainOut_le l (k + 1) (by omega) (by simpa using h2)
        cases hd : l[(plainOut l (k + 1)).2.1]? with
        | none => rw [hd] at h; simp at h
        | some d =>
          rw [hd] at h
          simp only at h ⊢
          have hk2 : (plainOut l (k + 1)).2.1 < l.length := by
            rcases Nat.lt_or_ge (plainOut l (k + 1)).2.1 l.length with g | g
            · exact g
            · rw [List.getElem?_eq_none g] at hd; cases hd
          by_cases h3 : d = 59
          · rw [if_pos h3]; simp only; omega
          · rw [if_neg h3] at h; simp at h
    · rw [if_neg h1] at h; simp at h
theorem markOut_next (l : List UInt8) (k : Nat) (h : (markOut l k).2 = 0) : k < (markOut l k).1 ∧ (markOut l k).1 ≤ l.length := by
  unfold markOut at *
  by_cases h1 : l[k + 1]? = some 35
  · rw [if_pos h1] at h ⊢; exact charOut_next l k h
  · rw [if_neg h1] at h ⊢; exact refOut_next 38 l k h
theorem refsF_end (l : List UInt8) (f k : Nat) (h : l.length ≤ k) : refsF l f k = (0, 0) := by
  cases f with
  | zero => rfl
  | succ f => unfold refsF; rw [if_pos h]
theorem refsF_skip (l : List UInt8) (f k : Nat) (hk : k < l.length) (h : l[k]? ≠ some 38) : refsF l (f + 1) k = refsF l f (k + 1) := by
  conv => lhs; unfold refsF
  rw [if_neg (by omega), if_pos h]
/-- No more fuel than is needed. -/
theorem refsF_fuel (l : List UInt8) : ∀ (f g k : Nat), l.length + 1 ≤ f + k → l.length + 1 ≤ g + k → refsF l f k = refsF l g k := by
  intro f
  induction f with
  | zero => intro g k hf hg; rw [refsF_end l 0 k (by omega), refsF_end l g k (by omega)]
  | succ f ih =>
    intro g k hf hg
    cases g with
    | zero => rw [refsF_end l _ k (by omega), refsF_end l _ k (by omega)]
    | succ g =>
      unfold refsF
      by_cases h1 : l.length ≤ k
      · rw [if_pos h1, if_pos h1]
      · rw [if_neg h1, if_neg h1]
        by_cases h2 : l[k]? ≠ some 38
        · rw [if_pos h2, if_pos h2]; exact ih g (k + 1) (by omega) (by omega)
        · rw [if_neg h2, if_neg h2]
          by_cases h3 : (markOut l k).2 ≠ 0
          · rw [if_pos h3, if_pos h3]
          · rw [if_neg h3, if_neg h3]
            have := markOut_next l k (by simpa using h3)
            exact ih g _ (by omega) (by omega)
/-- What is told from a place on. -/
def refsFrom (l : List UInt8) (k : Nat) : Nat × Nat := refsF l (l.length + 1) k
theorem refsFrom_end (l : List UInt8) (k : Nat) (h : l.length ≤ k) : refsFrom l k = (0, 0) := refsF_end l _ k h
theorem refsFrom_skip (l : List UInt8) (k : Nat) (hk : k < l.length) (h : l[k]? ≠ some 38) : refsFrom l k = refsFrom l (k + 1) := by
  unfold refsFrom
  rw [refsF_skip l l.length k hk h]
  exact refsF_fuel l _ _ _ (by omega) (by omega)
theorem refsFrom_skips (l : List UInt8) (k n : Nat) (hk : k + n ≤ l.length) (h : ∀ j < n, l[k + j]? ≠ some 38) : refsFrom l k = refsFrom l (k + n) := by
  induction n with
  | zero => rfl
  | succ n ih =>
    rw [ih (by omega) fun j hj => h j (by omega), refsFrom_skip l (k + n) (by omega) (h n (by omega))]
    rfl
theorem refsFrom_bad (l : List UInt8) (k : Nat) (h : l[k]? = some 38) (hb : (markOut l k).2 ≠ 0) : refsFrom l k = (k, (markOut l k).2) := by
  have hk : k < l.length := by
    rcases Nat.lt_or_ge k l.length with g | g
    · exact g
    · rw [List.getElem?_eq_none g] at h; cases h
  unfold refsFrom
  unfold refsF
  rw [if_neg (by omega), if_neg (by simp [h]), if_pos hb]
theorem refsFrom_next (l : List UInt8) (k : Nat) (h : l[k]? = some 38) (hb : (markOut l k).2 = 0) : refsFrom l k = refsFrom l (markOut l k).1 := by
  have hk : k < l.length := by
    rcases Nat.lt_or_ge k l.length with g | g
    · exact g
    · rw [List.getElem?_eq_none g] at h; cases h
  have := markOut_next l k hb
  unfold refsFrom
  conv => lhs; unfold refsF
  rw [if_neg (by omega), if_neg (by simp [h]), if_neg (by simp [hb])]
  exact refsF_fuel l _ _ _ (by omega) (by omega)
theorem refsOut_eq (l : List UInt8) : refsOut l = refsFrom l 0 := rfl
end Go.Proofs.YtmclngahdklfkaaGreatDoor
/- Characters of public identifiers; classes. -/
namespace Go.Proofs.YtmclngahdklfkaaGreatDoor
open Go.ChangeShapes Go.WideShapes Go.ChangeAt Go.RowKit
set_option linter.unusedVariables false
/-- The signs of a public identifier. -/
def signs : List UInt8 := [45, 39, 40, 41, 43, 44, 46, 47, 58, 61, 63, 59, 33, 42, 35, 64, 36, 95, 37]
def isBlank (r : Int) : Bool := r == 32 || r == 9 || r == 13 || r == 10
set_option maxRecDepth 100000 in
set_option maxHeartbeats 4000000 in
theorem refBlank_c (r : Int) (w : World) : Calls Tryz.prog 74 #[.int .i64 r] w fun e w' => e = .returned (.bool (isBlank r)) ∧ w = w' := by
  rcases (show (r = 32) ∨ (r = 9) ∨ (r = 13) ∨ (r = 10) ∨ (r ≤ 8) ∨ (11 ≤ r ∧ r ≤ 12) ∨ (14 ≤ r ∧ r ≤ 31) ∨ (33 ≤ r) by omega) with h | h | h | h | h | h | h | h
  · have a0 : (r == 32) = true := by simp; omega
    have a1 : (r == 9) = false := by simp; omega
    have a2 : (r == 13) = false := by simp; omega
    have a3 : (r == 10) = false := by simp; omega
    have e : isBlank r = true := by unfold isBlank; rw [a0, a1, a2, a3]; rfl
    rw [e]
    clear e h
    go_enter Tryz.func74, Tryz.ntmps74
    go_wp2
    go_ret
    exact ⟨rfl, rfl⟩
  · have a0 : (r == 32) = false := by simp; omega
    have a1 : (r == 9) = true := by simp; omega
    have a2 : (r == 13) = false := by simp; omega
    have a3 : (r == 10) = false := by simp; omega
    have e : isBlank r = true := by unfold isBlank; rw [a0, a1, a2, a3]; rfl
    rw [e]
    clear e h
    go_enter Tryz.func74, Tryz.ntmps74
    go_wp2
    go_ret
    exact ⟨rfl, rfl⟩
  · have a0 : (r == 32) = false := by simp; omega
    have a1 : (r == 9) = false := by simp; omega
    have a2 : (r == 13) = true := by simp; omega
    have a3 : (r == 10) = false := by simp; omega
    have e : isBlank r = true := by unfold isBlank; rw [a0, a1, a2, a3]; rfl
    rw [e]
    clear e h
    go_enter Tryz.func74, Tryz.ntmps74
    go_wp2
    go_ret
    exact ⟨rfl, rfl⟩
  · have a0 : (r == 32) = false := by simp; omega
    have a1 : (r == 9) = false := by simp; omega
    have a2 : (r == 13) = false := by simp; omega
    have a3 : (r == 10) = true := by simp; omega
    have e : isBlank r = true := by unfold isBlank; rw [a0, a1, a2, a3]; rfl
    rw [e]
    clear e h
    go_enter Tryz.func74, Tryz.ntmps74
    go_wp2
    go_ret
    exact ⟨rfl, rfl⟩
  · have a0 : (r == 32) = false := by simp; omega
    have a1 : (r == 9) = false := by simp; omega
    have a2 : (r == 13) = false := by simp; omega
    have a3 : (r == 10) = false := by simp; omega
    have e : isBlank r = false := by unfold isBlank; rw [a0, a1, a2, a3]; rfl
    rw [e]
    clear e h
    go_enter Tryz.func74, Tryz.ntmps74
    go_wp2
    go_ret
    exact ⟨rfl, rfl⟩
  · have a0 : (r == 32) = false := by simp; omega
    have a1 : (r == 9) = false := by simp; omega
    have a2 : (r == 13) = false := by simp; omega
    have a3 : (r == 10) = false := by simp; omega
    have e : isBlank r = false := by unfold isBlank; rw [a0, a1, a2, a3]; rfl
    rw [e]
    clear e h
    go_enter Tryz.func74, Tryz.ntmps74
    go_wp2
    go_ret
    exact ⟨rfl, rfl⟩
  · have a0 : (r == 32) = false := by simp; omega
    have a1 : (r == 9) = false := by simp; omega
    have a2 : (r == 13) = false := by simp; omega
    have a3 : (r == 10) = false := by simp; omega
    have e : isBlank r = false := by unfold isBlank; rw [a0, a1, a2, a3]; rfl
    rw [e]
    clear e h
    go_enter Tryz.func74, Tryz.ntmps74
    go_wp2
    go_ret
    exact ⟨rfl, rfl⟩
  · have a0 : (r == 32) = false := by simp; omega
    have a1 : (r == 9) = false := by simp; omega
    have a2 : (r == 13) = false := by simp; omega
    have a3 : (r == 10) = false := by simp; omega
    have e : isBlank r = false := by unfold isBlank; rw [a0, a1, a2, a3]; rfl
    rw [e]
    clear e h
    go_enter Tryz.func74, Tryz.ntmps74
    go_wp2
    go_ret
    exact ⟨rfl, rfl⟩
end Go.Proofs.YtmclngahdklfkaaGreatDoor
/- Blanks. -/
namespace Go.Proofs.YtmclngahdklfkaaGreatDoor
open Go.ChangeShapes Go.WideShapes Go.ChangeAt Go.RowKit
set_option linter.unusedVariables false
def isBl (c : UInt8) : Bool := isBlank (c.toNat : Int)
/-- The first place from k on without a blank. -/
def blankTo (l : List UInt8) (k : Nat) : Nat := k + ((l.drop k).takeWhile isBl).length
theorem blankTo_le (l : List UInt8) (k : Nat) (hk : k ≤ l.length) : k ≤ blankTo l k ∧ blankTo l k ≤ l.length := by
  unfold blankTo
  have := (List.takeWhile_prefix (p := isBl) (l := l.drop k)).length_le
  rw [List.length_drop] at this
  omega
theorem blankTo_end (l : List UInt8) (k : Nat) (hk : l.length ≤ k) : blankTo l k = k := by
  unfold blankTo
  rw [List.drop_of_length_le hk]
  rfl
theorem drop_cons (l : List UInt8) (k : Nat) (c : UInt8) (h : l[k]? = some c) : l.drop k = c :: l.drop (k + 1) := by
  obtain ⟨hk, hc⟩ := List.getElem?_eq_some_iff.1 h
  rw [List.drop_eq_getElem_cons hk, hc]
theorem blankTo_no (l : List UInt8) (k : Nat) (c : UInt8) (h : l[k]? = some c) (hc : isBl c = false) : blankTo l k = k := by
  unfold blankTo
  rw [drop_cons l k c h, List.takeWhile_cons, hc]
  rfl
theorem blankTo_yes (l : List UInt8) (k : Nat) (c : UInt8) (h : l[k]? = some c) (hc : isBl c = true) : blankTo l k = blankTo l (k + 1) := by
  unfold blankTo
  rw [drop_cons l k c h, List.takeWhile_cons, hc]
  simp
  omega
set_option maxRecDepth 100000 in
set_option maxHeartbeats 4000000 in
theorem blank_c (r : Int) (w : World) : Calls Tryz.prog 75 #[.int .i64 r] w fun e w' => e = .returned (.bool (isBlank r)) ∧ w = w' := by
  rcases (show (r = 32) ∨ (r = 9) ∨ (r = 13) ∨ (r = 10) ∨ (r ≠ 32 ∧ r ≠ 9 ∧ r ≠ 13 ∧ r ≠ 10) by omega) with h | h | h | h | h
  all_goals
    first
    | (subst h
       go_enter Tryz.func75, Tryz.ntmps75
       go_wp2
       go_ret
       exact ⟨rfl, rfl⟩)
    | (have a0 : (r == 32) = false := by simp; omega
       have a1 : (r == 9) = false := by simp; omega
       have a2 : (r == 13) = false := by simp; omega
       have a3 : (r == 10) = false := by simp; omega
       have e : isBlank r = false := by unfold isBlank; rw [a0, a1, a2, a3]; rfl
       rw [e]
       clear e h
       go_enter Tryz.func75, Tryz.ntmps75
       go_wp2
       go_ret
       exact ⟨rfl, rfl⟩)
set_option maxRecDepth 100000 in
set_option maxHeartbeats 4000000 in
theorem blanks_c (A : Option Addr) (n cap : Nat) (l : List UInt8) (at_ : Nat) (B : Nat) (w : World) (h : Byt w B A n cap l) (hm : n ≤ 1000000) (hat : at_ ≤ n) :
    Calls Tryz.prog 43 #[.slice A n cap, .int .i64 at_] w fun e w' => e = .returned (.int .i64 (blankTo l at_)) ∧ w = w' := by
  have HB := Lib.hid h
  have hln := Lib.hid h.length
  clear h
  go_enter Tryz.func43, Tryz.ntmps43
  go_wp2
  go_loopg [1] (n - at_) (fun g i wr => ∃ t : Nat, t ≤ n ∧ Hid (g + t = n) ∧ i = .int .i64 (t : Int) ∧ w = wr ∧ Hid (blankTo l at_ = blankTo l t))
  case atStart => exact ⟨at_, hat, Lib.hid (by omega), rfl, rfl, Lib.hid rfl⟩
  case round =>
    obtain ⟨t, ht, hg, rfl, rfl, HN⟩ := hrel
    have ht0 : (0 : Int) ≤ (t : Int) := by omega
    have htb : (t : Int) ≤ 1000000 := by omega
    by_cases htn : t < n
    · have htni : (t : Int) < (n : Int) := by omega
      obtain ⟨b, o, c, rfl, hb, hc, hcell⟩ := HB.out.cell htn
      have HC := Lib.hid hc
      have c0 : (0 : Int) ≤ (c.toNat : Int) := by omega
      have c1 : (c.toNat : Int) ≤ 255 := by have := c.toNat_lt; omega
      clear hc hb
      cases hbl : isBl c with
      | false =>
        have HE : Hid (blankTo l at_ = t) := Lib.hid (by rw [HN.out, blankTo_no l t c HC.out hbl])
        have CB := Lib.hid (blank_c (c.toNat : Int) w)
        unfold isBl at hbl
        rw [hbl] at CB
        clear hbl
        generalize (c.toNat : Int) = cn at *
        go_wp2_with fail
        refine (CB.out).mono ?_
        rintro e wq ⟨rfl, rfl⟩
        go_wp2
        go_ret
        exact ⟨by rw [HE.out]; rfl, rfl⟩
      | true =>
        have HE : Hid (blankTo l at_ = blankTo l (t + 1)) := Lib.hid (by rw [HN.out, blankTo_yes l t c HC.out hbl])
        have CB := Lib.hid (blank_c (c.toNat : Int) w)
        unfold isBl at hbl
        rw [hbl] at CB
        clear hbl
        generalize (c.toNat : Int) = cn at *
        go_wp2_with fail
        refine (CB.out).mono ?_
        rintro e wq ⟨rfl, rfl⟩
        go_wp2
        go_roundg (n - (t + 1))
        case measure => have := hg.out; omega
        case rel => exact ⟨t + 1, by omega, Lib.hid (by omega), by go_num, rfl, HE⟩
    · have htni : ¬ (t : Int) < (n : Int) := by omega
      have HE : Hid (blankTo l at_ = t) := Lib.hid (by rw [HN.out, blankTo_end l t (by rw [hln.out]; omega)])
      go_wp2
      go_ret
      exact ⟨by rw [HE.out]; rfl, rfl⟩
set_option maxRecDepth 100000 in
set_option maxHeartbeats 4000000 in
theorem refBlanks_c (A : Option Addr) (n cap : Nat) (l : List UInt8) (at_ : Nat) (B : Nat) (w : World) (h : Byt w B A n cap l) (hm : n ≤ 1000000) (hat : at_ ≤ n) :
    Calls Tryz.prog 42 #[.slice A n cap, .int .i64 at_] w fun e w' => e = .returned (.int .i64 (blankTo l at_)) ∧ w = w' := by
  have HB := Lib.hid h
  have hln := Lib.hid h.length
  have hat' : ¬ (n : Int) < (at_ : Int) := by omega
  clear h
  go_enter Tryz.func42, Tryz.ntmps42
  go_wp2
  go_loopg [1] (n - at_) (fun g i wr => ∃ t : Nat, t ≤ n ∧ Hid (g + t = n) ∧ i = .int .i64 (t : Int) ∧ w = wr ∧ Hid (blankTo l at_ = blankTo l t))
  case atStart => exact ⟨at_, hat, Lib.hid (by omega), rfl, rfl, Lib.hid rfl⟩
  case round =>
    obtain ⟨t, ht, hg, rfl, rfl, HN⟩ := hrel
    have ht0 : (0 : Int) ≤ (t : Int) := by omega
    have htb : (t : Int) ≤ 1000000 := by omega
    by_cases htn : t < n
    · have htni : (t : Int) < (n : Int) := by omega
      obtain ⟨b, o, c, rfl, hb, hc, hcell⟩ := HB.out.cell htn
      have HC := Lib.hid hc
      have c0 : (0 : Int) ≤ (c.toNat : Int) := by omega
      have c1 : (c.toNat : Int) ≤ 255 := by have := c.toNat_lt; omega
      clear hc hb
      cases hbl : isBl c with
      | false =>
        have HE : Hid (blankTo l at_ = t) := Lib.hid (by rw [HN.out, blankTo_no l t c HC.out hbl])
        have CB := Lib.hid (refBlank_c (c.toNat : Int) w)
        unfold isBl at hbl
        rw [hbl] at CB
        clear hbl
        generalize (c.toNat : Int) = cn at *
        go_wp2_with fail
        refine (CB.out).mono ?_
        rintro e wq ⟨rfl, rfl⟩
        go_wp2
        go_ret
        exact ⟨by rw [HE.out]; rfl, rfl⟩
      | true =>
        have HE : Hid (blankTo l at_ = blankTo l (t + 1)) := Lib.hid (by rw [HN.out, blankTo_yes l t c HC.out hbl])
        have CB := Lib.hid (refBlank_c (c.toNat : Int) w)
        unfold isBl at hbl
        rw [hbl] at CB
        clear hbl
        generalize (c.toNat : Int) = cn at *
        go_wp2_with fail
        refine (CB.out).mono ?_
        rintro e wq ⟨rfl, rfl⟩
        go_wp2
        go_roundg (n - (t + 1))
        case measure => have := hg.out; omega
        case rel => exact ⟨t + 1, by omega, Lib.hid (by omega), by go_num, rfl, HE⟩
    · have htni : ¬ (t : Int) < (n : Int) := by omega
      have HE : Hid (blankTo l at_ = t) := Lib.hid (by rw [HN.out, blankTo_end l t (by rw [hln.out]; omega)])
      go_wp2
      go_ret
      exact ⟨by rw [HE.out]; rfl, rfl⟩
end Go.Proofs.YtmclngahdklfkaaGreatDoor
/- strings.EqualFold of what is not ASCII. -/
namespace Go.Proofs.YtmclngahdklfkaaGreatDoor
open Go.ChangeShapes Go.WideShapes Go.ChangeAt Go.RowKit
set_option linter.unusedVariables false
theorem foldEq_hi (x y : UInt8) (hy : y.toNat < 128) (hx : 128 ≤ x.toNat) : Lib.foldEq x y = false := by
  unfold Lib.foldEq
  exact decide_eq_false (by omega)
theorem equalFold_hi : ∀ (s t : List UInt8) (j : Nat) (b : UInt8), (∀ c ∈ t, c.toNat < 128) → s[j]? = some b → 128 ≤ b.toNat → Lib.equalFold s t = false
  | [], _, _, _, _, h, _ => by simp at h
  | x :: s, [], _, _, _, _, _ => rfl
  | x :: s, y :: t, 0, b, ht, h, hb => by
    simp at h
    subst h
    exact Lib.equalFold_no _ _ _ _ (foldEq_hi _ _ (ht y (by simp)) hb)
  | x :: s, y :: t, j + 1, b, ht, h, hb => by
    have := equalFold_hi s t j b (fun c hc => ht c (by simp [hc])) (by simpa using h) hb
    simp [Lib.equalFold, this]
/-- Letters that fold to one another and to nothing else, and signs that fold to themselves: of 'xml' and 'utf-8'. -/
def foldPairs : List (Nat × Nat) := [(120, 88), (88, 120), (109, 77), (77, 109), (108, 76), (76, 108), (117, 85), (85, 117), (116, 84), (84, 116), (102, 70), (70, 102), (45, 45), (56, 56)]
def FoldT (w : World) : Prop := ∀ p ∈ foldPairs, w.cell? ⟨5, p.1, none⟩ = some (.int .u16 (p.2 : Int))
theorem FoldT.lt {w : World} (h : FoldT w) : 5 < w.heap.size := World.block_lt_of_cell? w _ (h (120, 88) (by simp [foldPairs]))
theorem FoldT.below {w w' : World} {B : Nat} (h : FoldT w) (hb : Below B w w') (hB : 5 < B) : FoldT w' := fun p hp => by rw [hb.cell hB]; exact h p hp
theorem foldPairs_lt : ∀ p ∈ foldPairs, p.1 < 128 ∧ p.2 < 128 := by decide
set_option maxRecDepth 100000 in
set_option maxHeartbeats 4000000 in
theorem simpleFold_c (r f : Nat) (w : World) (hr : r < 128) (hf : f < 128) (hc : w.cell? ⟨5, r, none⟩ = some (.int .u16 (f : Int))) :
    Calls Tryz.prog 153 #[.int .i32 r] w fun e w' => e = .returned (.int .i32 f) ∧ w = w' := by
  have h0 : ¬ (r : Int) < 0 := by omega
  have h1 : (r : Int) < 128 := by omega
  have h1' : r < 128 := hr
  have h2 : (0 : Int) ≤ (r : Int) := by omega
  have h3 : (0 : Int) ≤ (f : Int) := by omega
  have h4 : (f : Int) < 128 := by omega
  clear hr hf
  go_enter Tryz.func153, Tryz.ntmps153
  go_wp2
  go_ret
  exact ⟨rfl, rfl⟩
theorem run_strFrom (l : List UInt8) (i : Nat) (h : i ≤ l.length) (w : World) :
    (Instr.slice 9 (.string ⟨l.toArray⟩) (some (.int .i64 (i : Int))) none none).run Tryz.prog w = .ok (.string ⟨(l.drop i).toArray⟩) w := by
  have hsz : (⟨l.toArray⟩ : ByteArray).size = l.length := by simp [ByteArray.size]
  rw [run_slice_string_l (P := Tryz.prog) (w := w) (t := 9) (s := ⟨l.toArray⟩) Tryz.underlying9 .i64 (i : Int) (by omega) (by rw [hsz]; omega)]
  congr 2
  refine ByteArray.ext (Array.toList_inj.1 ?_)
  rw [Lib.extract_data]
  rw [hsz]
  exact List.take_of_length_le (by simp)
/-- At the label: the two strings, and the place of the first byte that is not ASCII. -/
def FoldJ (s t : List UInt8) (i0 : Nat) (w : World) (a' : Act) (w' : World) : Prop := w' = w ∧ ∃ u : Nat → Value, u 0 = .string ⟨s.toArray⟩ ∧ u 1 = .string ⟨t.toArray⟩ ∧ u 5 = .int .i64 i0 ∧ a' = { tmps := #[u 0, u 1, u 2, u 3, u 4, u 5, u 6, u 7, u 8, u 9, u 10, u 11, u 12, u 13, u 14, u 15, u 16, u 17, u 18, u 19, u 20, u 21, u 22, u 23, u 24, u 25, u 26, u 27, u 28, u 29, u 30, u 31, u 32, u 33, u 34, u 35, u 36, u 37, u 38, u 39, u 40, u 41, u 42, u 43, u 44, u 45, u 46, u 47, u 48, u 49, u 50, u 51, u 52, u 53, u 54, u 55, u 56, u 57, u 58, u 59, u 60, u 61, u 62, u 63, u 64, u 65, u 66, u 67, u 68, u 69, u 70, u 71, u 72, u 73, u 74, u 75, u 76, u 77, u 78, u 79, u 80, u 81, u 82, u 83, u 84, u 85, u 86, u 87, u 88, u 89, u 90, u 91, u 92, u 93, u 94, u 95, u 96, u 97, u 98, u 99, u 100, u 101, u 102, u 103, u 104, u 105, u 106, u 107, u 108, u 109, u 110, u 111, u 112, u 113, u 114, u 115, u 116, u 117, u 118, u 119, u 120, u 121, u 122], defers := [] }
theorem foldJ_of {s t : List UInt8} {i0 : Nat} {w : World} (tm : Array Value) (h : tm = #[tm.getD 0 undef, tm.getD 1 undef, tm.getD 2 undef, tm.getD 3 undef, tm.getD 4 undef, tm.getD 5 undef, tm.getD 6 undef, tm.getD 7 undef, tm.getD 8 undef, tm.getD 9 undef, tm.getD 10 undef, tm.getD 11 undef, tm.getD 12 undef, tm.getD 13 undef, tm.getD 14 undef, tm.getD 15 undef, tm.getD 16 undef, tm.getD 17 undef, tm.getD 18 undef, tm.getD 19 undef, tm.getD 20 undef, tm.getD 21 undef, tm.getD 22 undef, tm.getD 23 undef, tm.getD 24 undef, tm.getD 25 undef, tm.getD 26 undef, tm.getD 27 undef, tm.getD 28 undef, tm.getD 29 undef, tm.getD 30 undef, tm.getD 31 undef, tm.getD 32 undef, tm.getD 33 undef, tm.getD 34 undef, tm.getD 35 undef, tm.getD 36 undef, tm.getD 37 undef, tm.getD 38 undef, tm.getD 39 undef, tm.getD 40 undef, tm.getD 41 undef, tm.getD 42 undef, tm.getD 43 undef, tm.getD 44 undef, tm.getD 45 undef, tm.getD 46 undef, tm.getD 47 undef, tm.getD 48 undef, tm.getD 49 undef, tm.getD 50 undef, tm.getD 51 undef, tm.getD 52 undef, tm.getD 53 undef, tm.getD 54 undef, tm.getD 55 undef, tm.getD 56 undef, tm.getD 57 undef, tm.getD 58 undef, tm.getD 59 undef, tm.getD 60 undef, tm.getD 61 undef, tm.getD 62 undef, tm.getD 63 undef, tm.getD 64 undef, tm.getD 65 undef, tm.getD 66 undef, tm.getD 67 undef, tm.getD 68 undef, tm.getD 69 undef, tm.getD 70 undef, tm.getD 71 undef, tm.getD 72 undef, tm.getD 73 undef, tm.getD 74 undef, tm.getD 75 undef, tm.getD 76 undef, tm.getD 77 undef, tm.getD 78 undef, tm.getD 79 undef, tm.getD 80 undef, tm.getD 81 undef, tm.getD 82 undef, tm.getD 83 undef, tm.getD 84 undef, tm.getD 85 undef, tm.getD 86 undef, tm.getD 87 undef, tm.getD 88 undef, tm.getD 89 undef, tm.getD 90 undef, tm.getD 91 undef, tm.getD 92 undef, tm.getD 93 undef, tm.getD 94 undef, tm.getD 95 undef, tm.getD 96 undef, tm.getD 97 undef, tm.getD 98 undef, tm.getD 99 undef, tm.getD 100 undef, tm.getD 101 undef, tm.getD 102 undef, tm.getD 103 undef, tm.getD 104 undef, tm.getD 105 undef, tm.getD 106 undef, tm.getD 107 undef, tm.getD 108 undef, tm.getD 109 undef, tm.getD 110 undef, tm.getD 111 undef, tm.getD 112 undef, tm.getD 113 undef, tm.getD 114 undef, tm.getD 115 undef, tm.getD 116 undef, tm.getD 117 undef, tm.getD 118 undef, tm.getD 119 undef, tm.getD 120 undef, tm.getD 121 undef, tm.getD 122 undef]) (h0 : tm.getD 0 undef = .string ⟨s.toArray⟩) (h1 : tm.getD 1 undef = .string ⟨t.toArray⟩) (h5 : tm.getD 5 undef = .int .i64 i0) : FoldJ s t i0 w { tmps := tm, defers := [] } w :=
  ⟨rfl, fun i => tm.getD i undef, h0, h1, h5, congrArg (fun x => ({ tmps := x, defers := [] } : Act)) h⟩
set_option maxRecDepth 1000000 in
set_option maxHeartbeats 8000000 in
theorem equalFold_high (s t : List UInt8) (i0 : Nat) (x c : UInt8) (f : Nat) (w : World) (hs : s.length = t.length) (hs1 : s.length ≤ 1000) (ht : ∀ (j : Nat) b, t[j]? = some b → b.toNat < 128) (hlo : ∀ j b, j < i0 → s[j]? = some b → b.toNat < 128) (hx : s[i0]? = some x) (hx1 : 128 ≤ x.toNat) (hc : t[i0]? = some c)
    (hp1 : (c.toNat, f) ∈ foldPairs) (hp2 : (f, c.toNat) ∈ foldPairs) (hT : FoldT w) :
    Calls Tryz.prog 119 #[.string ⟨s.toArray⟩, .string ⟨t.toArray⟩] w fun e w' => e = .returned (.bool false) ∧ Below w.heap.size w w' := by
  have HS := Lib.hid (And.intro hs (And.intro ht (And.intro hlo (And.intro hx (And.intro hc (And.intro hp1 (And.intro hp2 hT)))))))
  have hsz : (⟨s.toArray⟩ : ByteArray).size = s.length := by simp [ByteArray.size]
  have htz : (⟨t.toArray⟩ : ByteArray).size = s.length := by simp [ByteArray.size, hs]
  have hi0 : i0 < s.length := (List.getElem?_eq_some_iff.1 hx).1
  clear hs ht hlo hx hc hp1 hp2 hT
  go_enter Tryz.func119, Tryz.ntmps119
  go_wp2
  refine wp_scope_jumps 0 (FoldJ s t i0 w) (fun _ _ => 0) rfl ?_ ?_
  · go_wp2
    go_loopg [5] i0 (fun g v wx => w = wx ∧ ∃ i : Nat, i ≤ i0 ∧ Hid (g + i = i0) ∧ v = .int .i64 i)
    case atStart => exact ⟨rfl, 0, Nat.zero_le _, Lib.hid rfl, rfl⟩
    case round =>
      obtain ⟨rfl, i, hi, hg, rfl⟩ := hrel
      have hi1 : (i : Int) < (s.length : Int) := by omega
      have hi2 : (0 : Int) ≤ (i : Int) := by omega
      have hi3 : (i : Int) ≤ 1000 := by omega
      have hix := run_strIndex s i (by omega) w
      have hit := run_strIndex t i (by rw [← HS.out.1]; omega) w
      have HX : Hid (s[i]? = some (s.getD i 0)) := Lib.hid (by rw [List.getElem?_eq_getElem (by omega)]; simp [show i < s.length by omega])
      have HC : Hid (t[i]? = some (t.getD i 0)) := Lib.hid (by rw [List.getElem?_eq_getElem (by rw [← HS.out.1]; omega)]; simp [show i < t.length by rw [← HS.out.1]; omega])
      generalize s.getD i 0 = x' at *
      generalize t.getD i 0 = c' at *
      have hc128 : c'.toNat < 128 := HS.out.2.1 i c' HC.out
      have hx256 : x'.toNat < 256 := x'.toNat_lt
      have hor : bits .or .u8 (x'.toNat : Int) (c'.toNat : Int) = ((x'.toNat ||| c'.toNat : Nat) : Int) := u8_or_nat _ _ (by omega) (by omega)
      by_cases he : i = i0
      · subst he
        have hxe : x' = x := by have := HX.out; rw [HS.out.2.2.2.1] at this; exact (Option.some.inj this).symm
        subst hxe
        have hor128 : (128 : Int) ≤ ((x'.toNat ||| c'.toNat : Nat) : Int) := by have := Nat.left_le_or (n := x'.toNat) (m := c'.toNat); omega
        generalize ((x'.toNat ||| c'.toNat : Nat) : Int) = orv at *
        go_wp2
        go_step3
        exact ⟨rfl, foldJ_of _ rfl rfl rfl rfl⟩
      · have hx128 : x'.toNat < 128 := HS.out.2.2.1 i x' (by omega) HX.out
        have hor128 : ¬ ((128 : Int) ≤ ((x'.toNat ||| c'.toNat : Nat) : Int)) := by have := Nat.or_lt_two_pow (n := 7) hx128 hc128; omega
        go_wp2
        all_goals first
          | (go_roundg (i0 - (i + 1))
             case measure => have := hg.out; omega
             case rel => exact ⟨rfl, i + 1, by omega, Lib.hid (by omega), by go_num⟩)
          | ((try simp only [Exit.jump])
             go_ret
             exact ⟨rfl, Below.refl _ _⟩)
  · intro a' w' hJ
    obtain ⟨rfl, u, h0, h1, h5, rfl⟩ := hJ
    rw [h0, h1, h5]
    clear h0 h1 h5
    have hsl := run_strFrom s i0 (by omega)
    have htl := run_strFrom t i0 (by rw [← HS.out.1]; omega)
    obtain ⟨T', hT'⟩ : ∃ T', t.drop i0 = c :: T' := ⟨_, drop_cons t i0 c HS.out.2.2.2.2.1⟩
    obtain ⟨S', hS'⟩ : ∃ S', s.drop i0 = x :: S' := ⟨_, drop_cons s i0 x HS.out.2.2.2.1⟩
    rw [hT'] at htl
    rw [hS'] at hsl
    have htl1 := run_strFrom (c :: T') 1 (by simp)
    simp only [List.drop_succ_cons, List.drop_zero] at htl1
    have hSz : 0 < (⟨(x :: S').toArray⟩ : ByteArray).size := by simp [ByteArray.size]
    have hnx := fun ty => run_next_any (P := Tryz.prog) w' ⟨(x :: S').toArray⟩ 0 ty hSz
    have hdh := decode_high ⟨(x :: S').toArray⟩ 0 hSz hx1
    have hdl := decode_le ⟨(x :: S').toArray⟩ 0
    have hr1 := hdh.1
    generalize Utf8.decode ⟨(x :: S').toArray⟩ 0 = dc at *
    obtain ⟨r, m⟩ := dc
    simp only [Nat.zero_add] at hr1 hdl hnx
    have hcf := foldPairs_lt _ HS.out.2.2.2.2.2.1
    have hb : Below w'.heap.size w' (w'.iter ⟨(x :: S').toArray⟩ m) := (Below.refl _ _).alloc (Nat.le_refl _) _
    have HB := Lib.hid hb
    have CD := Lib.hid (Tryz.utf8_DecodeRuneInString_ascii ⟨(c :: T').toArray⟩ c (w'.iter ⟨(x :: S').toArray⟩ m) (by simp) hcf.1)
    have hT2 := HS.out.2.2.2.2.2.2.2.below hb HS.out.2.2.2.2.2.2.2.lt
    have CF := Lib.hid (simpleFold_c c.toNat f _ hcf.1 hcf.2 (hT2 _ HS.out.2.2.2.2.2.1))
    have CG := Lib.hid (simpleFold_c f c.toNat _ hcf.2 hcf.1 (hT2 _ HS.out.2.2.2.2.2.2.1))
    have hc0 : (0 : Int) ≤ (c.toNat : Int) := by omega
    have hc1 : (c.toNat : Int) < 128 := by omega
    have hf0 : (0 : Int) ≤ (f : Int) := by omega
    have hf1 : (f : Int) < 128 := by omega
    have hcr : (c.toNat : Int) < (r : Int) := by omega
    have hce : ((c.toNat : Int) == (r : Int)) = false := by simp; omega
    have hr128 : ¬ (r : Int) < 128 := by omega
    have hfr : (f : Int) < (r : Int) := by omega
    have hl0 : (((T'.length : Int) + 1) == 0) = false := by simp; omega
    clear hT' hS' hdh hcf hb hT2
    by_cases hfc : f = c.toNat
    · subst hfc
      clear CG
      generalize (c.toNat : Int) = cn at *
      go_wp2
      refine wp_loop_rounds 1 ?_
      rw [rounds_succ]
      go_wp2_with fail
      refine (CD.out).mono ?_
      rintro e wq ⟨rfl, hwq⟩
      subst hwq
      go_wp2_with fail
      refine (CF.out).mono ?_
      rintro e wq ⟨rfl, rfl⟩
      go_wp2
      refine wp_loop_rounds 1 ?_
      rw [rounds_succ]
      go_wp2
      (try simp only [Exit.jump])
      go_ret
      exact ⟨rfl, HB.out⟩
    · have hfne : ((f : Int) != (c.toNat : Int)) = true := by simp; omega
      generalize (c.toNat : Int) = cn at *
      go_wp2
      refine wp_loop_rounds 1 ?_
      rw [rounds_succ]
      go_wp2_with fail
      refine (CD.out).mono ?_
      rintro e wq ⟨rfl, hwq⟩
      subst hwq
      go_wp2_with fail
      refine (CF.out).mono ?_
      rintro e wq ⟨rfl, rfl⟩
      go_wp2
      refine wp_loop_rounds 2 ?_
      rw [rounds_succ]
      go_wp2_with fail
      refine (CG.out).mono ?_
      rintro e wq ⟨rfl, rfl⟩
      go_wp2
      rw [rounds_succ]
      go_wp2
      (try simp only [Exit.jump])
      go_ret
      exact ⟨rfl, HB.out⟩
end Go.Proofs.YtmclngahdklfkaaGreatDoor
/- strings.EqualFold of texts of one length, of ASCII letters. -/
namespace Go.Proofs.YtmclngahdklfkaaGreatDoor
open Go.ChangeShapes Go.WideShapes Go.ChangeAt Go.RowKit
set_option linter.unusedVariables false
theorem equalFold_c (s t : List UInt8) (w : World) (hs : s.length = t.length) (hs1 : s.length ≤ 1000) (ht : ∀ c ∈ t, ∃ f, (c.toNat, f) ∈ foldPairs ∧ (f, c.toNat) ∈ foldPairs) (hT : FoldT w) :
    Calls Tryz.prog 119 #[.string ⟨s.toArray⟩, .string ⟨t.toArray⟩] w fun e w' => e = .returned (.bool (Lib.equalFold s t)) ∧ Below w.heap.size w w' := by
  have ht1 : ∀ (j : Nat) b, t[j]? = some b → b.toNat < 128 := fun j b hb => by
    obtain ⟨f, h1, _⟩ := ht b (List.mem_of_getElem? hb)
    exact (foldPairs_lt _ h1).1
  by_cases hall : ∀ (j : Nat) b, s[j]? = some b → b.toNat < 128
  · exact (Tryz.strings_EqualFold ⟨s.toArray⟩ ⟨t.toArray⟩ w (by simp [ByteArray.size]; omega) hall ht1).mono fun e w' ⟨he, hw⟩ => ⟨he, by rw [hw]; exact Below.refl _ _⟩
  · have hex : ∃ (i0 : Nat) (x : UInt8), s[i0]? = some x ∧ 128 ≤ x.toNat ∧ ∀ (j : Nat) (b : UInt8), j < i0 → s[j]? = some b → b.toNat < 128 := by
      have : ∃ n : Nat, ∃ x : UInt8, s[n]? = some x ∧ 128 ≤ x.toNat := by
        refine Classical.byContradiction fun hc => hall fun j b hb => ?_
        refine Classical.byContradiction fun h2 => hc ⟨j, b, hb, by omega⟩
      obtain ⟨n, hn⟩ := this
      induction n using Nat.strongRecOn with
      | _ n ih =>
        by_cases hlow : ∀ (j : Nat) (b : UInt8), j < n → s[j]? = some b → b.toNat < 128
        · obtain ⟨x, h1, h2⟩ := hn
          exact ⟨n, x, h1, h2, hlow⟩
        · have : ∃ m, m < n ∧ ∃ x : UInt8, s[m]? = some x ∧ 128 ≤ x.toNat := by
            refine Classical.byContradiction fun hc => hlow fun j b hj hb => ?_
            refine Classical.byContradiction fun h2 => hc ⟨j, hj, b, hb, by omega⟩
          obtain ⟨m, hm, hm2⟩ := this
          exact ih m hm hm2
    obtain ⟨i0, x, hx, hx1, hlo⟩ := hex
    have hi0 : i0 < t.length := by rw [← hs]; exact (List.getElem?_eq_some_iff.1 hx).1
    obtain ⟨f, hp1, hp2⟩ := ht t[i0] (List.getElem_mem hi0)
    rw [equalFold_hi s t i0 x (fun c hc => by
      obtain ⟨j, hj⟩ := List.mem_iff_getElem?.1 hc
      exact ht1 j c hj) hx hx1]
    exact equalFold_high s t i0 x t[i0] f w hs hs1 ht1 hlo hx hx1 (List.getElem?_eq_getElem hi0) hp1 hp2 hT
theorem xmlFold : ∀ c ∈ ([120, 109, 108] : List UInt8), ∃ f, (c.toNat, f) ∈ foldPairs ∧ (f, c.toNat) ∈ foldPairs := by
  intro c hc
  simp at hc
  rcases hc with rfl | rfl | rfl
  · exact ⟨88, by decide, by decide⟩
  · exact ⟨77, by decide, by decide⟩
  · exact ⟨76, by decide, by decide⟩
end Go.Proofs.YtmclngahdklfkaaGreatDoor
/- Names, colons too. -/
namespace Go.Proofs.YtmclngahdklfkaaGreatDoor
open Go.ChangeShapes Go.WideShapes Go.ChangeAt Go.RowKit
set_option linter.unusedVariables false
/-- The sort of names, as its two functions. -/
def namesV : Value := .agg #[.func (.func 114) #[] #[], .func (.func 115) #[] #[]]
set_option maxHeartbeats 2000000 in
theorem names_c (w : World) : Calls Tryz.prog 154 #[] w fun e w' => e = .returned namesV ∧ Below w.heap.size w w' := by
  have hF := Lib.hid (hp_new w (.cells #[.func (.func 114) #[] #[], .func (.func 115) #[] #[]] 108))
  have hb := Lib.hid (Below.alloc (Below.refl w.heap.size w) (Nat.le_refl _) (.cells #[.func (.func 114) #[] #[], .func (.func 115) #[] #[]] 108))
  go_enter Tryz.func154, Tryz.ntmps154
  go_wp2
  have hi : (Tryz.prog.info? 108).map (·.size) = some 2 := by kernel_rfl
  obtain ⟨d, hu⟩ := isStruct_of (P := Tryz.prog) (t := 108) (by kernel_rfl)
  (try simp only [Exit.inBlock, Exit.then])
  refine bodyPost_ret (results_cell_row rfl _ _ w.heap.size _ _ _ _ rfl hF.out hu rfl hi) rfl ⟨rfl, hb.out⟩
set_option maxRecDepth 100000 in
set_option maxHeartbeats 4000000 in
theorem endA_c (A : Option Addr) (n cap : Nat) (l : List UInt8) (at_ : Nat) (w : World) (h : Byt w w.heap.size A n cap l) (hF : Forms w) (hm : n ≤ 100000) (hat : at_ ≤ n)(hT : TabN w) :
    Calls Tryz.prog 116 #[namesV, .slice A n cap, .int .i64 at_] w fun e w' => e = .returned (.int .i64 ((at_ + endL isStart isMore n (l.drop at_) : Nat))) ∧ Below w.heap.size w w' := by
  have HB0 := Lib.hid (And.intro h (And.intro hF hF.lt))
  have HS : Hid (Says 114 #[] w.heap.size w isStart ∧ Says 115 #[] w.heap.size w isMore) := Lib.hid ⟨fun w1 r hb => nameStart_c r w1 (hT.below hb (hT.low hF)), fun w1 r hb => nameChar_c r w1 (hT.below hb (hT.low hF)) (by have := hb.size; have := hT.low hF; unfold LowN at *; omega)⟩
  have hln := Lib.hid h.length
  clear h hF hT
  unfold namesV
  go_enter Tryz.func116, Tryz.ntmps116
  have f0 := hp_new w (.cells #[.func (.func 114) #[] #[], .func (.func 115) #[] #[]] 108)
  have z0 := cell_of 0 f0
  have z1 := cell_of 1 f0
  have hb0 : Hid (Below w.heap.size w (w.alloc (.cells #[.func (.func 114) #[] #[], .func (.func 115) #[] #[]] 108))) := Lib.hid (Below.alloc (Below.refl _ _) (Nat.le_refl _) _)
  have hsz : (w.alloc (.cells #[.func (.func 114) #[] #[], .func (.func 115) #[] #[]] 108)).heap.size = w.heap.size + 1 := by simp
  have z1' : Hid ((w.alloc (.cells #[.func (.func 114) #[] #[], .func (.func 115) #[] #[]] 108)).cell? ⟨w.heap.size, 1, none⟩ = some (.func (.func 115) #[] #[])) := Lib.hid z1
  clear f0 z1
  go_wp2
  generalize hw0 : w.alloc (.cells #[.func (.func 114) #[] #[], .func (.func 115) #[] #[]] 108) = w0 at *
  clear hw0 z0
  go_loopg [2, 7] (n - at_) (fun kx s2 s7 wr => ∃ (p K fid : Nat) (fc : Int → Bool), s2 = .int .i64 p ∧ s7 = .func (.func fid) #[] #[] ∧ Hid (fid = 114 ∨ fid = 115) ∧ p ≤ n ∧ kx = n - p ∧ n - p ≤ K ∧
    Hid (at_ + endL isStart isMore n (l.drop at_) = p + endL fc isMore K (l.drop p)) ∧ Hid (Says fid #[] w.heap.size w fc) ∧ Hid (Below w.heap.size w wr) ∧ w.heap.size < wr.heap.size ∧
    Hid (wr.cell? ⟨w.heap.size, 1, none⟩ = some (.func (.func 115) #[] #[])))
  case atStart => exact ⟨at_, n, 114, isStart, rfl, rfl, Lib.hid (.inl rfl), hat, rfl, by omega, Lib.hid rfl, Lib.hid HS.out.1, hb0, by omega, z1'⟩
  case round =>
    obtain ⟨p, K, fid, fc, rfl, rfl, HFID, hp, hk, hK, HE, HC, HB, hsr, HZ⟩ := hrel
    have hfid := HFID.out
    clear HFID
    rcases hfid with rfl | rfl
    all_goals
      by_cases hlt : p < n
      · have hlt' : (p : Int) < (n : Int) := by omega
        have hd := decode_c A n cap l p wr w.heap.size (HB0.out.1.below HB.out) (HB0.out.2.1.below HB.out HB0.out.2.2) hlt (by omega)
        cases hdec : dec (l.drop p) with
        | none =>
          rw [hdec] at hd
          have HD := Lib.hid hdec
          clear hdec
          go_wp2_with fail
          refine hd.mono ?_
          rintro e w1 ⟨rfl, q, rfl⟩
          simp only [decOut]
          go_wp2
          go_ret
          exact ⟨by rw [HE.out, endL_none _ _ _ _ HD.out]; rfl, below_drewN' HB.out⟩
        | some v =>
          obtain ⟨r, m⟩ := v
          rw [hdec] at hd
          have HD := Lib.hid hdec
          have hle := dec_le _ r m hdec
          rw [List.length_drop, hln.out] at hle
          have hcall := HC.out (wr.drewN 0) r (below_drewN' HB.out)
          clear hdec
          have HX := Lib.hid HC.out
          clear hcall
          cases hfr : fc r with
          | false =>
            go_wp2_with fail
            refine hd.mono ?_
            rintro e w1 ⟨rfl, q, rfl⟩
            simp only [decOut]
            have hcall := HC.out (wr.drewN q) r (below_drewN' HB.out)
            rw [hfr] at hcall
            have HR := Lib.hid hfr
            clear hfr
            go_wp2_with fail
            refine hcall.mono ?_
            rintro e w2 ⟨rfl, hb2⟩
            go_wp2
            go_ret
            exact ⟨by rw [HE.out, endL_no _ _ _ _ _ _ HD.out HR.out]; rfl, (below_drewN' HB.out).trans (hb2.mono (by show w.heap.size ≤ wr.heap.size; omega))⟩
          | true =>
            go_wp2_with fail
            refine hd.mono ?_
            rintro e w1 ⟨rfl, q, rfl⟩
            simp only [decOut]
            have hcall := HC.out (wr.drewN q) r (below_drewN' HB.out)
            rw [hfr] at hcall
            have HR := Lib.hid hfr
            clear hfr
            go_wp2_with fail
            refine hcall.mono ?_
            rintro e w2 ⟨rfl, hb2⟩
            have hz2 : w2.cell? ⟨w.heap.size, 1, none⟩ = some (.func (.func 115) #[] #[]) := by rw [hb2.cell (by show w.heap.size < wr.heap.size; omega)]; exact HZ.out
            have HB2 := Lib.hid ((below_drewN' (n := q) HB.out).trans (hb2.mono (by show w.heap.size ≤ wr.heap.size; omega)))
            have hs2 : w.heap.size < w2.heap.size := by have := hb2.size; have : wr.heap.size ≤ w2.heap.size := this; omega
            clear hb2
            go_wp2
            go_quiet (fail)
            have hz3 : Hid ((w2.drewN nq).cell? ⟨w.heap.size, 1, none⟩ = some (.func (.func 115) #[] #[])) := Lib.hid hz2
            go_wp2
            go_roundg (n - (p + m))
            case measure => omega
            case rel =>
              refine ⟨p + m, K - 1, 115, isMore, rfl, rfl, Lib.hid (.inr rfl), by omega, rfl, by omega, Lib.hid ?_, Lib.hid HS.out.2, Lib.hid (below_drewN' HB2.out), hs2, hz3⟩
              have := endL_yes fc isMore (K - 1) _ r m HD.out HR.out
              rw [show K - 1 + 1 = K by omega, List.drop_drop] at this
              rw [HE.out, this]
              omega
      · obtain rfl : p = n := by omega
        go_wp2
        go_ret
        refine ⟨?_, HB.out⟩
        rw [HE.out, List.drop_of_length_le (by rw [hln.out]; exact Nat.le_refl _), endL_none _ _ _ _ (by rfl)]
        rfl
/-- What is read of a name at a place. -/
def nameOut (l : List UInt8) (at_ : Nat) : List UInt8 × Nat × Nat :=
  let k := endL isStart isMore l.length (l.drop at_)
  if k = 0 then ([], 0, 7) else if 1024 < k then ([], 0, 11) else ((l.drop at_).take k, at_ + k, 0)
set_option maxRecDepth 100000 in
set_option maxHeartbeats 2000000 in
theorem readA_c (A : Option Addr) (n cap : Nat) (l : List UInt8) (at_ : Nat) (w : World) (h : Byt w w.heap.size A n cap l) (hF : Forms w) (hm : n ≤ 100000) (hat : at_ ≤ n)(hT : TabN w) :
    Calls Tryz.prog 127 #[namesV, .slice A n cap, .int .i64 at_] w fun e w' => e = .returned (outV (nameOut l at_)) ∧ Below w.heap.size w w' := by
  have hb : Below w.heap.size w (w.alloc (.cells #[.func (.func 114) #[] #[], .func (.func 115) #[] #[]] 108)) := Below.alloc (Below.refl w.heap.size w) (Nat.le_refl _) _
  have hln := h.length
  have hend := endA_c A n cap l at_ _ ((h.below hb).more hb.size) (hF.below hb hF.lt) hm hat (hT.below hb (hT.low hF))
  have hkl : at_ + endL isStart isMore n (l.drop at_) ≤ n := by
    have := endL_le n isStart isMore (l.drop at_)
    rw [List.length_drop, hln] at this
    omega
  have HB := Lib.hid (And.intro h hb)
  have f0 := hp_new w (.cells #[.func (.func 114) #[] #[], .func (.func 115) #[] #[]] 108)
  have hi : (Tryz.prog.info? 108).map (·.size) = some 2 := by kernel_rfl
  obtain ⟨d, hu⟩ := isStruct_of (P := Tryz.prog) (t := 108) (by kernel_rfl)
  have hld := run_loadVar_row _ _ _ _ _ _ _ f0 hu rfl hi
  have HE : Hid (endL isStart isMore l.length (l.drop at_) = endL isStart isMore n (l.drop at_)) := Lib.hid (by rw [hln])
  clear h hF hT hb f0 hu hi hln
  unfold namesV at *
  unfold nameOut
  simp only [HE.out]
  generalize endL isStart isMore n (l.drop at_) = k at *
  have hat' : ¬ (n : Int) < (at_ : Int) := by omega
  have HM := Lib.hid (And.intro hm hat)
  have HN := Lib.hid hend
  clear hm hend
  generalize hres : (if k = 0 then ([], 0, 7) else if 1024 < k then ([], 0, 11) else ((l.drop at_).take k, at_ + k, 0)) = res
  have HR := Lib.hid hres
  clear hres
  go_enter Tryz.func127, Tryz.ntmps127
  go_wp2_with fail
  refine HN.out.mono ?_
  rintro e w1 ⟨rfl, hb1⟩
  have HB1 := Lib.hid ((HB.out.2).trans (hb1.mono HB.out.2.size))
  clear hb1 hld
  rcases (show k = 0 ∨ 1024 < k ∨ (0 < k ∧ k ≤ 1024) by omega) with h0 | h0 | h0
  · subst h0
    have hre := HR.out
    simp only [if_true] at hre
    subst hre
    have hn := Int.natCast_nonneg at_
    go_wp2
    go_ret3
    exact ⟨rfl, HB1.out⟩
  · have hre := HR.out
    rw [if_neg (by omega), if_pos h0] at hre
    subst hre
    have hne : (((at_ + k : Nat) : Int) == (at_ : Int)) = false := by simp; omega
    have hne2 : ((at_ : Int) + (k : Int) == (at_ : Int)) = false := by simp; omega
    have h0' : (1024 : Int) < (k : Int) := by omega
    have hsb : ((at_ : Int) + (k : Int)) - (at_ : Int) = (k : Int) := by omega
    have hw : IntKind.i64.wrap (k : Int) = (k : Int) := by rw [IntKind.wrap_i64]; have := HM.out; omega
    go_wp2
    go_ret3
    exact ⟨rfl, HB1.out⟩
  · have hre := HR.out
    rw [if_neg (by omega), if_neg (by omega)] at hre
    subst hre
    have hne : (((at_ + k : Nat) : Int) == (at_ : Int)) = false := by simp; omega
    have hne2 : ((at_ : Int) + (k : Int) == (at_ : Int)) = false := by simp; omega
    have h0' : ¬ (1024 : Int) < (k : Int) := by omega
    have hsb : ((at_ : Int) + (k : Int)) - (at_ : Int) = (k : Int) := by omega
    have hw : IntKind.i64.wrap (k : Int) = (k : Int) := by rw [IntKind.wrap_i64]; have := HM.out; omega
    have hy := ((HB.out.1.below HB1.out).drop hat).take (k := k) (by omega)
    have hstr := hy.str
    have hcap := HB.out.1.le
    have hrf : ∀ w2 : World, (Instr.slice 22 (.slice A n cap) (some (.int .i64 (at_ : Int))) (some (.int .i64 ((at_ : Int) + (k : Int)))) none).run Tryz.prog w2 = .ok (.slice (cutA A cap at_) k (cap - at_)) w2 := fun w2 => by
      have := run_fromTo (w := w2) A n cap at_ (at_ + k) (by omega) (by omega)
      rw [show at_ + k - at_ = k by omega, show ((at_ + k : Nat) : Int) = (at_ : Int) + (k : Int) by omega] at this
      exact this
    have HY := Lib.hid hy
    clear hy hcap h0
    go_wp2
    go_ret3
    exact ⟨rfl, HB1.out⟩
set_option maxHeartbeats 2000000 in
theorem name_c (A : Option Addr) (n cap : Nat) (l : List UInt8) (at_ : Nat) (w : World) (h : Byt w w.heap.size A n cap l) (hF : Forms w) (hT : TabN w) (hm : n ≤ 100000) (hat : at_ ≤ n) :
    Calls Tryz.prog 132 #[.slice A n cap, .int .i64 at_] w fun e w' => e = .returned (outV (nameOut l at_)) ∧ Below w.heap.size w w' := by
  have hp := names_c w
  have hL := hT.low hF
  have HH := Lib.hid (And.intro h (And.intro hF (And.intro hm (And.intro hat (And.intro hT hL)))))
  clear h hF hT hm hat hL
  go_enter Tryz.func132, Tryz.ntmps132
  go_wp2_with fail
  refine hp.mono ?_
  rintro e w1 ⟨rfl, hb⟩
  have hr := readA_c A n cap l at_ w1 ((HH.out.1.below hb).more hb.size) (HH.out.2.1.below hb HH.out.2.1.lt) HH.out.2.2.1 HH.out.2.2.2.1 (HH.out.2.2.2.2.1.below hb HH.out.2.2.2.2.2)
  have HB := Lib.hid hb
  clear hb hp
  unfold outV at *
  go_wp2_with fail
  refine hr.mono ?_
  rintro e w2 ⟨rfl, hb2⟩
  have HB2 := Lib.hid (HB.out.trans (hb2.mono HB.out.size))
  clear hr hb2
  go_wp2
  go_ret3
  exact ⟨rfl, HB2.out⟩
end Go.Proofs.YtmclngahdklfkaaGreatDoor
/- The document's digits. -/
namespace Go.Proofs.YtmclngahdklfkaaGreatDoor
open Go.ChangeShapes Go.WideShapes Go.ChangeAt Go.RowKit
set_option linter.unusedVariables false
set_option maxRecDepth 100000 in
set_option maxHeartbeats 8000000 in
theorem refDigit10_c (r : Int) (w : World) : Calls Tryz.prog 72 #[.int .i64 r, .int .i64 10] w fun e w' => e = .returned (.int .i64 (digit 10 r)) ∧ w = w' := by
  have HDG : Hid (∀ i : Int, 0 ≤ i → i < 10 → (digit 10 r = i ↔ ((i ≤ 9 ∧ r = i + 48) ∨ (10 ≤ i ∧ (r = i + 87 ∨ r = i + 55))))) := Lib.hid (by
    intro i h0 h1
    unfold digit
    constructor
    · intro h
      (repeat' split at h) <;> omega
    · intro h
      (repeat' split) <;> omega)
  have HLT : Hid (digit 10 r < 10 ∧ -1 ≤ digit 10 r) := Lib.hid (by unfold digit; (repeat' split) <;> omega)
  go_enter Tryz.func72, Tryz.ntmps72
  go_wp2
  go_loopg [7] 10 (fun kx s7 wr => ∃ (i : Nat), s7 = .int .i64 i ∧ i ≤ 10 ∧ kx = 10 - i ∧ Hid (digit 10 r < 0 ∨ (i : Int) ≤ digit 10 r) ∧ w = wr)
  case atStart => exact ⟨0, rfl, Nat.zero_le _, rfl, Lib.hid (by omega), rfl⟩
  case round =>
    obtain ⟨i, rfl, hi, hk, HI, rfl⟩ := hrel
    rcases (show i = 0 ∨ i = 1 ∨ i = 2 ∨ i = 3 ∨ i = 4 ∨ i = 5 ∨ i = 6 ∨ i = 7 ∨ i = 8 ∨ i = 9 ∨ i = 10 by omega) with rfl | rfl | rfl | rfl | rfl | rfl | rfl | rfl | rfl | rfl | rfl
    · have xs : (⟨#[48, 49, 50, 51, 52, 53, 54, 55, 56, 57, 97, 98, 99, 100, 101, 102]⟩ : ByteArray)[0].toNat = 48 := rfl
      have xt : (⟨#[48, 49, 50, 51, 52, 53, 54, 55, 56, 57, 65, 66, 67, 68, 69, 70]⟩ : ByteArray)[0].toNat = 48 := rfl
      by_cases h1 : r = 48
      · have hd : Hid (digit 10 r = 0) := Lib.hid ((HDG.out 0 (by omega) (by omega)).2 (by omega))
        have a1 : ((48 : Int) == r) = true := by simp; omega
        clear h1
        go_wp2
        go_ret
        exact ⟨by rw [hd.out]; rfl, rfl⟩
      · have hn : Hid (digit 10 r < 0 ∨ ((0 + 1 : Nat) : Int) ≤ digit 10 r) := Lib.hid (by
          have := mt (HDG.out 0 (by omega) (by omega)).1 (by omega)
          have := HI.out
          omega)
        have a1 : ((48 : Int) == r) = false := by simp; omega
        clear h1
        go_wp2
        go_roundg (10 - (0 + 1))
        case measure => omega
        case rel => exact ⟨0 + 1, rfl, by omega, rfl, hn, rfl⟩
    · have xs : (⟨#[48, 49, 50, 51, 52, 53, 54, 55, 56, 57, 97, 98, 99, 100, 101, 102]⟩ : ByteArray)[1].toNat = 49 := rfl
      have xt : (⟨#[48, 49, 50, 51, 52, 53, 54, 55, 56, 57, 65, 66, 67, 68, 69, 70]⟩ : ByteArray)[1].toNat = 49 := rfl
      by_cases h1 : r = 49
      · have hd : Hid (digit 10 r = 1) := Lib.hid ((HDG.out 1 (by omega) (by omega)).2 (by omega))
        have a1 : ((49 : Int) == r) = true := by simp; omega
        clear h1
        go_wp2
        go_ret
        exact ⟨by rw [hd.out]; rfl, rfl⟩
      · have hn : Hid (digit 10 r < 0 ∨ ((1 + 1 : Nat) : Int) ≤ digit 10 r) := Lib.hid (by
          have := mt (HDG.out 1 (by omega) (by omega)).1 (by omega)
          have := HI.out
          omega)
        have a1 : ((49 : Int) == r) = false := by simp; omega
        clear h1
        go_wp2
        go_roundg (10 - (1 + 1))
        case measure => omega
        case rel => exact ⟨1 + 1, rfl, by omega, rfl, hn, rfl⟩
    · have xs : (⟨#[48, 49, 50, 51, 52, 53, 54, 55, 56, 57, 97, 98, 99, 100, 101, 102]⟩ : ByteArray)[2].toNat = 50 := rfl
      have xt : (⟨#[48, 49, 50, 51, 52, 53, 54, 55, 56, 57, 65, 66, 67, 68, 69, 70]⟩ : ByteArray)[2].toNat = 50 := rfl
      by_cases h1 : r = 50
      · have hd : Hid (digit 10 r = 2) := Lib.hid ((HDG.out 2 (by omega) (by omega)).2 (by omega))
        have a1 : ((50 : Int) == r) = true := by simp; omega
        clear h1
        go_wp2
        go_ret
        exact ⟨by rw [hd.out]; rfl, rfl⟩
      · have hn : Hid (digit 10 r < 0 ∨ ((2 + 1 : Nat) : Int) ≤ digit 10 r) := Lib.hid (by
          have := mt (HDG.out 2 (by omega) (by omega)).1 (by omega)
          have := HI.out
          omega)
        have a1 : ((50 : Int) == r) = false := by simp; omega
        clear h1
        go_wp2
        go_roundg (10 - (2 + 1))
        case measure => omega
        case rel => exact ⟨2 + 1, rfl, by omega, rfl, hn, rfl⟩
    · have xs : (⟨#[48, 49, 50, 51, 52, 53, 54, 55, 56, 57, 97, 98, 99, 100, 101, 102]⟩ : ByteArray)[3].toNat = 51 := rfl
      have xt : (⟨#[48, 49, 50, 51, 52, 53, 54, 55, 56, 57, 65, 66, 67, 68, 69, 70]⟩ : ByteArray)[3].toNat = 51 := rfl
      by_cases h1 : r = 51
      · have hd : Hid (digit 10 r = 3) := Lib.hid ((HDG.out 3 (by omega) (by omega)).2 (by omega))
        have a1 : ((51 : Int) == r) = true := by simp; omega
        clear h1
        go_wp2
        go_ret
        exact ⟨by rw [hd.out]; rfl, rfl⟩
      · have hn : Hid (digit 10 r < 0 ∨ ((3 + 1 : Nat) : Int) ≤ digit 10 r) := Lib.hid (by
          have := mt (HDG.out 3 (by omega) (by omega)).1 (by omega)
          have := HI.out
          omega)
        have a1 : ((51 : Int) == r) = false := by simp; omega
        clear h1
        go_wp2
        go_roundg (10 - (3 + 1))
        case measure => omega
        case rel => exact ⟨3 + 1, rfl, by omega, rfl, hn, rfl⟩
    · have xs : (⟨#[48, 49, 50, 51, 52, 53, 54, 55, 56, 57, 97, 98, 99, 100, 101, 102]⟩ : ByteArray)[4].toNat = 52 := rfl
      have xt : (⟨#[48, 49, 50, 51, 52, 53, 54, 55, 56, 57, 65, 66, 67, 68, 69, 70]⟩ : ByteArray)[4].toNat = 52 := rfl
      by_cases h1 : r = 52
      · have hd : Hid (digit 10 r = 4) := Lib.hid ((HDG.out 4 (by omega) (by omega)).2 (by omega))
        have a1 : ((52 : Int) == r) = true := by simp; omega
        clear h1
        go_wp2
        go_ret
        exact ⟨by rw [hd.out]; rfl, rfl⟩
      · have hn : Hid (digit 10 r < 0 ∨ ((4 + 1 : Nat) : Int) ≤ digit 10 r) := Lib.hid (by
          have := mt (HDG.out 4 (by omega) (by omega)).1 (by omega)
          have := HI.out
          omega)
        have a1 : ((52 : Int) == r) = false := by simp; omega
        clear h1
        go_wp2
        go_roundg (10 - (4 + 1))
        case measure => omega
        case rel => exact ⟨4 + 1, rfl, by omega, rfl, hn, rfl⟩
    · have xs : (⟨#[48, 49, 50, 51, 52, 53, 54, 55, 56, 57, 97, 98, 99, 100, 101, 102]⟩ : ByteArray)[5].toNat = 53 := rfl
      have xt : (⟨#[48, 49, 50, 51, 52, 53, 54, 55, 56, 57, 65, 66, 67, 68, 69, 70]⟩ : ByteArray)[5].toNat = 53 := rfl
      by_cases h1 : r = 53
      · have hd : Hid (digit 10 r = 5) := Lib.hid ((HDG.out 5 (by omega) (by omega)).2 (by omega))
        have a1 : ((53 : Int) == r) = true := by simp; omega
        clear h1
        go_wp2
        go_ret
        exact ⟨by rw [hd.out]; rfl, rfl⟩
      · have hn : Hid (digit 10 r < 0 ∨ ((5 + 1 : Nat) : Int) ≤ digit 10 r) := Lib.hid (by
          have := mt (HDG.out 5 (by omega) (by omega)).1 (by omega)
          have := HI.out
          omega)
        have a1 : ((53 : Int) == r) = false := by simp; omega
        clear h1
        go_wp2
        go_roundg (10 - (5 + 1))
        case measure => omega
        case rel => exact ⟨5 + 1, rfl, by omega, rfl, hn, rfl⟩
    · have xs : (⟨#[48, 49, 50, 51, 52, 53, 54, 55, 56, 57, 97, 98, 99, 100, 101, 102]⟩ : ByteArray)[6].toNat = 54 := rfl
      have xt : (⟨#[48, 49, 50, 51, 52, 53, 54, 55, 56, 57, 65, 66, 67, 68, 69, 70]⟩ : ByteArray)[6].toNat = 54 := rfl
      by_cases h1 : r = 54
      · have hd : Hid (digit 10 r = 6) := Lib.hid ((HDG.out 6 (by omega) (by omega)).2 (by omega))
        have a1 : ((54 : Int) == r) = true := by simp; omega
        clear h1
        go_wp2
        go_ret
        exact ⟨by rw [hd.out]; rfl, rfl⟩
      · have hn : Hid (digit 10 r < 0 ∨ ((6 + 1 : Nat) : Int) ≤ digit 10 r) := Lib.hid (by
          have := mt (HDG.out 6 (by omega) (by omega)).1 (by omega)
          have := HI.out
          omega)
        have a1 : ((54 : Int) == r) = false := by simp; omega
        clear h1
        go_wp2
        go_roundg (10 - (6 + 1))
        case measure => omega
        case rel => exact ⟨6 + 1, rfl, by omega, rfl, hn, rfl⟩
    · have xs : (⟨#[48, 49, 50, 51, 52, 53, 54, 55, 56, 57, 97, 98, 99, 100, 101, 102]⟩ : ByteArray)[7].toNat = 55 := rfl
      have xt : (⟨#[48, 49, 50, 51, 52, 53, 54, 55, 56, 57, 65, 66, 67, 68, 69, 70]⟩ : ByteArray)[7].toNat = 55 := rfl
      by_cases h1 : r = 55
      · have hd : Hid (digit 10 r = 7) := Lib.hid ((HDG.out 7 (by omega) (by omega)).2 (by omega))
        have a1 : ((55 : Int) == r) = true := by simp; omega
        clear h1
        go_wp2
        go_ret
        exact ⟨by rw [hd.out]; rfl, rfl⟩
      · have hn : Hid (digit 10 r < 0 ∨ ((7 + 1 : Nat) : Int) ≤ digit 10 r) := Lib.hid (by
          have := mt (HDG.out 7 (by omega) (by omega)).1 (by omega)
          have := HI.out
          omega)
        have a1 : ((55 : Int) == r) = false := by simp; omega
        clear h1
        go_wp2
        go_roundg (10 - (7 + 1))
        case measure => omega
        case rel => exact ⟨7 + 1, rfl, by omega, rfl, hn, rfl⟩
    · have xs : (⟨#[48, 49, 50, 51, 52, 53, 54, 55, 56, 57, 97, 98, 99, 100, 101, 102]⟩ : ByteArray)[8].toNat = 56 := rfl
      have xt : (⟨#[48, 49, 50, 51, 52, 53, 54, 55, 56, 57, 65, 66, 67, 68, 69, 70]⟩ : ByteArray)[8].toNat = 56 := rfl
      by_cases h1 : r = 56
      · have hd : Hid (digit 10 r = 8) := Lib.hid ((HDG.out 8 (by omega) (by omega)).2 (by omega))
        have a1 : ((56 : Int) == r) = true := by simp; omega
        clear h1
        go_wp2
        go_ret
        exact ⟨by rw [hd.out]; rfl, rfl⟩
      · have hn : Hid (digit 10 r < 0 ∨ ((8 + 1 : Nat) : Int) ≤ digit 10 r) := Lib.hid (by
          have := mt (HDG.out 8 (by omega) (by omega)).1 (by omega)
          have := HI.out
          omega)
        have a1 : ((56 : Int) == r) = false := by simp; omega
        clear h1
        go_wp2
        go_roundg (10 - (8 + 1))
        case measure => omega
        case rel => exact ⟨8 + 1, rfl, by omega, rfl, hn, rfl⟩
    · have xs : (⟨#[48, 49, 50, 51, 52, 53, 54, 55, 56, 57, 97, 98, 99, 100, 101, 102]⟩ : ByteArray)[9].toNat = 57 := rfl
      have xt : (⟨#[48, 49, 50, 51, 52, 53, 54, 55, 56, 57, 65, 66, 67, 68, 69, 70]⟩ : ByteArray)[9].toNat = 57 := rfl
      by_cases h1 : r = 57
      · have hd : Hid (digit 10 r = 9) := Lib.hid ((HDG.out 9 (by omega) (by omega)).2 (by omega))
        have a1 : ((57 : Int) == r) = true := by simp; omega
        clear h1
        go_wp2
        go_ret
        exact ⟨by rw [hd.out]; rfl, rfl⟩
      · have hn : Hid (digit 10 r < 0 ∨ ((9 + 1 : Nat) : Int) ≤ digit 10 r) := Lib.hid (by
          have := mt (HDG.out 9 (by omega) (by omega)).1 (by omega)
          have := HI.out
          omega)
        have a1 : ((57 : Int) == r) = false := by simp; omega
        clear h1
        go_wp2
        go_roundg (10 - (9 + 1))
        case measure => omega
        case rel => exact ⟨9 + 1, rfl, by omega, rfl, hn, rfl⟩
    · have hd : Hid (digit 10 r = -1) := Lib.hid (by have := HI.out; have := HLT.out; omega)
      go_wp2
      go_ret
      exact ⟨by rw [hd.out]; rfl, rfl⟩
set_option maxRecDepth 100000 in
set_option maxHeartbeats 8000000 in
theorem refDigit16_c (r : Int) (w : World) : Calls Tryz.prog 72 #[.int .i64 r, .int .i64 16] w fun e w' => e = .returned (.int .i64 (digit 16 r)) ∧ w = w' := by
  have HDG : Hid (∀ i : Int, 0 ≤ i → i < 16 → (digit 16 r = i ↔ ((i ≤ 9 ∧ r = i + 48) ∨ (10 ≤ i ∧ (r = i + 87 ∨ r = i + 55))))) := Lib.hid (by
    intro i h0 h1
    unfold digit
    constructor
    · intro h
      (repeat' split at h) <;> omega
    · intro h
      (repeat' split) <;> omega)
  have HLT : Hid (digit 16 r < 16 ∧ -1 ≤ digit 16 r) := Lib.hid (by unfold digit; (repeat' split) <;> omega)
  go_enter Tryz.func72, Tryz.ntmps72
  go_wp2
  go_loopg [7] 16 (fun kx s7 wr => ∃ (i : Nat), s7 = .int .i64 i ∧ i ≤ 16 ∧ kx = 16 - i ∧ Hid (digit 16 r < 0 ∨ (i : Int) ≤ digit 16 r) ∧ w = wr)
  case atStart => exact ⟨0, rfl, Nat.zero_le _, rfl, Lib.hid (by omega), rfl⟩
  case round =>
    obtain ⟨i, rfl, hi, hk, HI, rfl⟩ := hrel
    rcases (show i = 0 ∨ i = 1 ∨ i = 2 ∨ i = 3 ∨ i = 4 ∨ i = 5 ∨ i = 6 ∨ i = 7 ∨ i = 8 ∨ i = 9 ∨ i = 10 ∨ i = 11 ∨ i = 12 ∨ i = 13 ∨ i = 14 ∨ i = 15 ∨ i = 16 by omega) with rfl | rfl | rfl | rfl | rfl | rfl | rfl | rfl | rfl | rfl | rfl | rfl | rfl | rfl | rfl | rfl | rfl
    · have xs : (⟨#[48, 49, 50, 51, 52, 53, 54, 55, 56, 57, 97, 98, 99, 100, 101, 102]⟩ : ByteArray)[0].toNat = 48 := rfl
      have xt : (⟨#[48, 49, 50, 51, 52, 53, 54, 55, 56, 57, 65, 66, 67, 68, 69, 70]⟩ : ByteArray)[0].toNat = 48 := rfl
      by_cases h1 : r = 48
      · have hd : Hid (digit 16 r = 0) := Lib.hid ((HDG.out 0 (by omega) (by omega)).2 (by omega))
        have a1 : ((48 : Int) == r) = true := by simp; omega
        clear h1
        go_wp2
        go_ret
        exact ⟨by rw [hd.out]; rfl, rfl⟩
      · have hn : Hid (digit 16 r < 0 ∨ ((0 + 1 : Nat) : Int) ≤ digit 16 r) := Lib.hid (by
          have := mt (HDG.out 0 (by omega) (by omega)).1 (by omega)
          have := HI.out
          omega)
        have a1 : ((48 : Int) == r) = false := by simp; omega
        clear h1
        go_wp2
        go_roundg (16 - (0 + 1))
        case measure => omega
        case rel => exact ⟨0 + 1, rfl, by omega, rfl, hn, rfl⟩
    · have xs : (⟨#[48, 49, 50, 51, 52, 53, 54, 55, 56, 57, 97, 98, 99, 100, 101, 102]⟩ : ByteArray)[1].toNat = 49 := rfl
      have xt : (⟨#[48, 49, 50, 51, 52, 53, 54, 55, 56, 57, 65, 66, 67, 68, 69, 70]⟩ : ByteArray)[1].toNat = 49 := rfl
      by_cases h1 : r = 49
      · have hd : Hid (digit 16 r = 1) := Lib.hid ((HDG.out 1 (by omega) (by omega)).2 (by omega))
        have a1 : ((49 : Int) == r) = true := by simp; omega
        clear h1
        go_wp2
        go_ret
        exact ⟨by rw [hd.out]; rfl, rfl⟩
      · have hn : Hid (digit 16 r < 0 ∨ ((1 + 1 : Nat) : Int) ≤ digit 16 r) := Lib.hid (by
          have := mt (HDG.out 1 (by omega) (by omega)).1 (by omega)
          have := HI.out
          omega)
        have a1 : ((49 : Int) == r) = false := by simp; omega
        clear h1
        go_wp2
        go_roundg (16 - (1 + 1))
        case measure => omega
        case rel => exact ⟨1 + 1, rfl, by omega, rfl, hn, rfl⟩
    · have xs : (⟨#[48, 49, 50, 51, 52, 53, 54, 55, 56, 57, 97, 98, 99, 100, 101, 102]⟩ : ByteArray)[2].toNat = 50 := rfl
      have xt : (⟨#[48, 49, 50, 51, 52, 53, 54, 55, 56, 57, 65, 66, 67, 68, 69, 70]⟩ : ByteArray)[2].toNat = 50 := rfl
      by_cases h1 : r = 50
      · have hd : Hid (digit 16 r = 2) := Lib.hid ((HDG.out 2 (by omega) (by omega)).2 (by omega))
        have a1 : ((50 : Int) == r) = true := by simp; omega
        clear h1
        go_wp2
        go_ret
        exact ⟨by rw [hd.out]; rfl, rfl⟩
      · have hn : Hid (digit 16 r < 0 ∨ ((2 + 1 : Nat) : Int) ≤ digit 16 r) := Lib.hid (by
          have := mt (HDG.out 2 (by omega) (by omega)).1 (by omega)
          have := HI.out
          omega)
        have a1 : ((50 : Int) == r) = false := by simp; omega
        clear h1
        go_wp2
        go_roundg (16 - (2 + 1))
        case measure => omega
        case rel => exact ⟨2 + 1, rfl, by omega, rfl, hn, rfl⟩
    · have xs : (⟨#[48, 49, 50, 51, 52, 53, 54, 55, 56, 57, 97, 98, 99, 100, 101, 102]⟩ : ByteArray)[3].toNat = 51 := rfl
      have xt : (⟨#[48, 49, 50, 51, 52, 53, 54, 55, 56, 57, 65, 66, 67, 68, 69, 70]⟩ : ByteArray)[3].toNat = 51 := rfl
      by_cases h1 : r = 51
      · have hd : Hid (digit 16 r = 3) := Lib.hid ((HDG.out 3 (by omega) (by omega)).2 (by omega))
        have a1 : ((51 : Int) == r) = true := by simp; omega
        clear h1
        go_wp2
        go_ret
        exact ⟨by rw [hd.out]; rfl, rfl⟩
      · have hn : Hid (digit 16 r < 0 ∨ ((3 + 1 : Nat) : Int) ≤ digit 16 r) := Lib.hid (by
          have := mt (HDG.out 3 (by omega) (by omega)).1 (by omega)
          have := HI.out
          omega)
        have a1 : ((51 : Int) == r) = false := by simp; omega
        clear h1
        go_wp2
        go_roundg (16 - (3 + 1))
        case measure => omega
        case rel => exact ⟨3 + 1, rfl, by omega, rfl, hn, rfl⟩
    · have xs : (⟨#[48, 49, 50, 51, 52, 53, 54, 55, 56, 57, 97, 98, 99, 100, 101, 102]⟩ : ByteArray)[4].toNat = 52 := rfl
      have xt : (⟨#[48, 49, 50, 51, 52, 53, 54, 55, 56, 57, 65, 66, 67, 68, 69, 70]⟩ : ByteArray)[4].toNat = 52 := rfl
      by_cases h1 : r = 52
      · have hd : Hid (digit 16 r = 4) := Lib.hid ((HDG.out 4 (by omega) (by omega)).2 (by omega))
        have a1 : ((52 : Int) == r) = true := by simp; omega
        clear h1
        go_wp2
        go_ret
        exact ⟨by rw [hd.out]; rfl, rfl⟩
      · have hn : Hid (digit 16 r < 0 ∨ ((4 + 1 : Nat) : Int) ≤ digit 16 r) := Lib.hid (by
          have := mt (HDG.out 4 (by omega) (by omega)).1 (by omega)
          have := HI.out
          omega)
        have a1 : ((52 : Int) == r) = false := by simp; omega
        clear h1
        go_wp2
        go_roundg (16 - (4 + 1))
        case measure => omega
        case rel => exact ⟨4 + 1, rfl, by omega, rfl, hn, rfl⟩
    · have xs : (⟨#[48, 49, 50, 51, 52, 53, 54, 55, 56, 57, 97, 98, 99, 100, 101, 102]⟩ : ByteArray)[5].toNat = 53 := rfl
      have xt : (⟨#[48, 49, 50, 51, 52, 53, 54, 55, 56, 57, 65, 66, 67, 68, 69, 70]⟩ : ByteArray)[5].toNat = 53 := rfl
      by_cases h1 : r = 53
      · have hd : Hid (digit 16 r = 5) := Lib.hid ((HDG.out 5 (by omega) (by omega)).2 (by omega))
        have a1 : ((53 : Int) == r) = true := by simp; omega
        clear h1
        go_wp2
        go_ret
        exact ⟨by rw [hd.out]; rfl, rfl⟩
      · have hn : Hid (digit 16 r < 0 ∨ ((5 + 1 : Nat) : Int) ≤ digit 16 r) := Lib.hid (by
          have := mt (HDG.out 5 (by omega) (by omega)).1 (by omega)
          have := HI.out
          omega)
        have a1 : ((53 : Int) == r) = false := by simp; omega
        clear h1
        go_wp2
        go_roundg (16 - (5 + 1))
        case measure => omega
        case rel => exact ⟨5 + 1, rfl, by omega, rfl, hn, rfl⟩
    · have xs : (⟨#[48, 49, 50, 51, 52, 53, 54, 55, 56, 57, 97, 98, 99, 100, 101, 102]⟩ : ByteArray)[6].toNat = 54 := rfl
      have xt : (⟨#[48, 49, 50, 51, 52, 53, 54, 55, 56, 57, 65, 66, 67, 68, 69, 70]⟩ : ByteArray)[6].toNat = 54 := rfl
      by_cases h1 : r = 54
      · have hd : Hid (digit 16 r = 6) := Lib.hid ((HDG.out 6 (by omega) (by omega)).2 (by omega))
        have a1 : ((54 : Int) == r) = true := by simp; omega
        clear h1
        go_wp2
        go_ret
        exact ⟨by rw [hd.out]; rfl, rfl⟩
      · have hn : Hid (digit 16 r < 0 ∨ ((6 + 1 : Nat) : Int) ≤ digit 16 r) := Lib.hid (by
          have := mt (HDG.out 6 (by omega) (by omega)).1 (by omega)
          have := HI.out
          omega)
        have a1 : ((54 : Int) == r) = false := by simp; omega
        clear h1
        go_wp2
        go_roundg (16 - (6 + 1))
        case measure => omega
        case rel => exact ⟨6 + 1, rfl, by omega, rfl, hn, rfl⟩
    · have xs : (⟨#[48, 49, 50, 51, 52, 53, 54, 55, 56, 57, 97, 98, 99, 100, 101, 102]⟩ : ByteArray)[7].toNat = 55 := rfl
      have xt : (⟨#[48, 49, 50, 51, 52, 53, 54, 55, 56, 57, 65, 66, 67, 68, 69, 70]⟩ : ByteArray)[7].toNat = 55 := rfl
      by_cases h1 : r = 55
      · have hd : Hid (digit 16 r = 7) := Lib.hid ((HDG.out 7 (by omega) (by omega)).2 (by omega))
        have a1 : ((55 : Int) == r) = true := by simp; omega
        clear h1
        go_wp2
        go_ret
        exact ⟨by rw [hd.out]; rfl, rfl⟩
      · have hn : Hid (digit 16 r < 0 ∨ ((7 + 1 : Nat) : Int) ≤ digit 16 r) := Lib.hid (by
          have := mt (HDG.out 7 (by omega) (by omega)).1 (by omega)
          have := HI.out
          omega)
        have a1 : ((55 : Int) == r) = false := by simp; omega
        clear h1
        go_wp2
        go_roundg (16 - (7 + 1))
        case measure => omega
        case rel => exact ⟨7 + 1, rfl, by omega, rfl, hn, rfl⟩
    · have xs : (⟨#[48, 49, 50, 51, 52, 53, 54, 55, 56, 57, 97, 98, 99, 100, 101, 102]⟩ : ByteArray)[8].toNat = 56 := rfl
      have xt : (⟨#[48, 49, 50, 51, 52, 53, 54, 55, 56, 57, 65, 66, 67, 68, 69, 70]⟩ : ByteArray)[8].toNat = 56 := rfl
      by_cases h1 : r = 56
      · have hd : Hid (digit 16 r = 8) := Lib.hid ((HDG.out 8 (by omega) (by omega)).2 (by omega))
        have a1 : ((56 : Int) == r) = true := by simp; omega
        clear h1
        go_wp2
        go_ret
        exact ⟨by rw [hd.out]; rfl, rfl⟩
      · have hn : Hid (digit 16 r < 0 ∨ ((8 + 1 : Nat) : Int) ≤ digit 16 r) := Lib.hid (by
          have := mt (HDG.out 8 (by omega) (by omega)).1 (by omega)
          have := HI.out
          omega)
        have a1 : ((56 : Int) == r) = false := by simp; omega
        clear h1
        go_wp2
        go_roundg (16 - (8 + 1))
        case measure => omega
        case rel => exact ⟨8 + 1, rfl, by omega, rfl, hn, rfl⟩
    · have xs : (⟨#[48, 49, 50, 51, 52, 53, 54, 55, 56, 57, 97, 98, 99, 100, 101, 102]⟩ : ByteArray)[9].toNat = 57 := rfl
      have xt : (⟨#[48, 49, 50, 51, 52, 53, 54, 55, 56, 57, 65, 66, 67, 68, 69, 70]⟩ : ByteArray)[9].toNat = 57 := rfl
      by_cases h1 : r = 57
      · have hd : Hid (digit 16 r = 9) := Lib.hid ((HDG.out 9 (by omega) (by omega)).2 (by omega))
        have a1 : ((57 : Int) == r) = true := by simp; omega
        clear h1
        go_wp2
        go_ret
        exact ⟨by rw [hd.out]; rfl, rfl⟩
      · have hn : Hid (digit 16 r < 0 ∨ ((9 + 1 : Nat) : Int) ≤ digit 16 r) := Lib.hid (by
          have := mt (HDG.out 9 (by omega) (by omega)).1 (by omega)
          have := HI.out
          omega)
        have a1 : ((57 : Int) == r) = false := by simp; omega
        clear h1
        go_wp2
        go_roundg (16 - (9 + 1))
        case measure => omega
        case rel => exact ⟨9 + 1, rfl, by omega, rfl, hn, rfl⟩
    · have xs : (⟨#[48, 49, 50, 51, 52, 53, 54, 55, 56, 57, 97, 98, 99, 100, 101, 102]⟩ : ByteArray)[10].toNat = 97 := rfl
      have xt : (⟨#[48, 49, 50, 51, 52, 53, 54, 55, 56, 57, 65, 66, 67, 68, 69, 70]⟩ : ByteArray)[10].toNat = 65 := rfl
      by_cases h1 : r = 97
      · have hd : Hid (digit 16 r = 10) := Lib.hid ((HDG.out 10 (by omega) (by omega)).2 (by omega))
        have a1 : ((97 : Int) == r) = true := by simp; omega
        clear h1
        go_wp2
        go_ret
        exact ⟨by rw [hd.out]; rfl, rfl⟩
      · by_cases h2 : r = 65
        · have hd : Hid (digit 16 r = 10) := Lib.hid ((HDG.out 10 (by omega) (by omega)).2 (by omega))
          have a1 : ((97 : Int) == r) = false := by simp; omega
          have a2 : ((65 : Int) == r) = true := by simp; omega
          clear h1 h2
          go_wp2
          go_ret
          exact ⟨by rw [hd.out]; rfl, rfl⟩
        · have hn : Hid (digit 16 r < 0 ∨ ((10 + 1 : Nat) : Int) ≤ digit 16 r) := Lib.hid (by
            have := mt (HDG.out 10 (by omega) (by omega)).1 (by omega)
            have := HI.out
            omega)
          have a1 : ((97 : Int) == r) = false := by simp; omega
          have a2 : ((65 : Int) == r) = false := by simp; omega
          clear h1 h2
          go_wp2
          go_roundg (16 - (10 + 1))
          case measure => omega
          case rel => exact ⟨10 + 1, rfl, by omega, rfl, hn, rfl⟩
    · have xs : (⟨#[48, 49, 50, 51, 52, 53, 54, 55, 56, 57, 97, 98, 99, 100, 101, 102]⟩ : ByteArray)[11].toNat = 98 := rfl
      have xt : (⟨#[48, 49, 50, 51, 52, 53, 54, 55, 56, 57, 65, 66, 67, 68, 69, 70]⟩ : ByteArray)[11].toNat = 66 := rfl
      by_cases h1 : r = 98
      · have hd : Hid (digit 16 r = 11) := Lib.hid ((HDG.out 11 (by omega) (by omega)).2 (by omega))
        have a1 : ((98 : Int) == r) = true := by simp; omega
        clear h1
        go_wp2
        go_ret
        exact ⟨by rw [hd.out]; rfl, rfl⟩
      · by_cases h2 : r = 66
        · have hd : Hid (digit 16 r = 11) := Lib.hid ((HDG.out 11 (by omega) (by omega)).2 (by omega))
          have a1 : ((98 : Int) == r) = false := by simp; omega
          have a2 : ((66 : Int) == r) = true := by simp; omega
          clear h1 h2
          go_wp2
          go_ret
          exact ⟨by rw [hd.out]; rfl, rfl⟩
        · have hn : Hid (digit 16 r < 0 ∨ ((11 + 1 : Nat) : Int) ≤ digit 16 r) := Lib.hid (by
            have := mt (HDG.out 11 (by omega) (by omega)).1 (by omega)
            have := HI.out
            omega)
          have a1 : ((98 : Int) == r) = false := by simp; omega
          have a2 : ((66 : Int) == r) = false := by simp; omega
          clear h1 h2
          go_wp2
          go_roundg (16 - (11 + 1))
          case measure => omega
          case rel => exact ⟨11 + 1, rfl, by omega, rfl, hn, rfl⟩
    · have xs : (⟨#[48, 49, 50, 51, 52, 53, 54, 55, 56, 57, 97, 98, 99, 100, 101, 102]⟩ : ByteArray)[12].toNat = 99 := rfl
      have xt : (⟨#[48, 49, 50, 51, 52, 53, 54, 55, 56, 57, 65, 66, 67, 68, 69, 70]⟩ : ByteArray)[12].toNat = 67 := rfl
      by_cases h1 : r = 99
      · have hd : Hid (digit 16 r = 12) := Lib.hid ((HDG.out 12 (by omega) (by omega)).2 (by omega))
        have a1 : ((99 : Int) == r) = true := by simp; omega
        clear h1
        go_wp2
        go_ret
        exact ⟨by rw [hd.out]; rfl, rfl⟩
      · by_cases h2 : r = 67
        · have hd : Hid (digit 16 r = 12) := Lib.hid ((HDG.out 12 (by omega) (by omega)).2 (by omega))
          have a1 : ((99 : Int) == r) = false := by simp; omega
          have a2 : ((67 : Int) == r) = true := by simp; omega
          clear h1 h2
          go_wp2
          go_ret
          exact ⟨by rw [hd.out]; rfl, rfl⟩
        · have hn : Hid (digit 16 r < 0 ∨ ((12 + 1 : Nat) : Int) ≤ digit 16 r) := Lib.hid (by
            have := mt (HDG.out 12 (by omega) (by omega)).1 (by omega)
            have := HI.out
            omega)
          have a1 : ((99 : Int) == r) = false := by simp; omega
          have a2 : ((67 : Int) == r) = false := by simp; omega
          clear h1 h2
          go_wp2
          go_roundg (16 - (12 + 1))
          case measure => omega
          case rel => exact ⟨12 + 1, rfl, by omega, rfl, hn, rfl⟩
    · have xs : (⟨#[48, 49, 50, 51, 52, 53, 54, 55, 56, 57, 97, 98, 99, 100, 101, 102]⟩ : ByteArray)[13].toNat = 100 := rfl
      have xt : (⟨#[48, 49, 50, 51, 52, 53, 54, 55, 56, 57, 65, 66, 67, 68, 69, 70]⟩ : ByteArray)[13].toNat = 68 := rfl
      by_cases h1 : r = 100
      · have hd : Hid (digit 16 r = 13) := Lib.hid ((HDG.out 13 (by omega) (by omega)).2 (by omega))
        have a1 : ((100 : Int) == r) = true := by simp; omega
        clear h1
        go_wp2
        go_ret
        exact ⟨by rw [hd.out]; rfl, rfl⟩
      · by_cases h2 : r = 68
        · have hd : Hid (digit 16 r = 13) := Lib.hid ((HDG.out 13 (by omega) (by omega)).2 (by omega))
          have a1 : ((100 : Int) == r) = false := by simp; omega
          have a2 : ((68 : Int) == r) = true := by simp; omega
          clear h1 h2
          go_wp2
          go_ret
          exact ⟨by rw [hd.out]; rfl, rfl⟩
        · have hn : Hid (digit 16 r < 0 ∨ ((13 + 1 : Nat) : Int) ≤ digit 16 r) := Lib.hid (by
            have := mt (HDG.out 13 (by omega) (by omega)).1 (by omega)
            have := HI.out
            omega)
          have a1 : ((100 : Int) == r) = false := by simp; omega
          have a2 : ((68 : Int) == r) = false := by simp; omega
          clear h1 h2
          go_wp2
          go_roundg (16 - (13 + 1))
          case measure => omega
          case rel => exact ⟨13 + 1, rfl, by omega, rfl, hn, rfl⟩
    · have xs : (⟨#[48, 49, 50, 51, 52, 53, 54, 55, 56, 57, 97, 98, 99, 100, 101, 102]⟩ : ByteArray)[14].toNat = 101 := rfl
      have xt : (⟨#[48, 49, 50, 51, 52, 53, 54, 55, 56, 57, 65, 66, 67, 68, 69, 70]⟩ : ByteArray)[14].toNat = 69 := rfl
      by_cases h1 : r = 101
      · have hd : Hid (digit 16 r = 14) := Lib.hid ((HDG.out 14 (by omega) (by omega)).2 (by omega))
        have a1 : ((101 : Int) == r) = true := by simp; omega
        clear h1
        go_wp2
        go_ret
        exact ⟨by rw [hd.out]; rfl, rfl⟩
      · by_cases h2 : r = 69
        · have hd : Hid (digit 16 r = 14) := Lib.hid ((HDG.out 14 (by omega) (by omega)).2 (by omega))
          have a1 : ((101 : Int) == r) = false := by simp; omega
          have a2 : ((69 : Int) == r) = true := by simp; omega
          clear h1 h2
          go_wp2
          go_ret
          exact ⟨by rw [hd.out]; rfl, rfl⟩
        · have hn : Hid (digit 16 r < 0 ∨ ((14 + 1 : Nat) : Int) ≤ digit 16 r) := Lib.hid (by
            have := mt (HDG.out 14 (by omega) (by omega)).1 (by omega)
            have := HI.out
            omega)
          have a1 : ((101 : Int) == r) = false := by simp; omega
          have a2 : ((69 : Int) == r) = false := by simp; omega
          clear h1 h2
          go_wp2
          go_roundg (16 - (14 + 1))
          case measure => omega
          case rel => exact ⟨14 + 1, rfl, by omega, rfl, hn, rfl⟩
    · have xs : (⟨#[48, 49, 50, 51, 52, 53, 54, 55, 56, 57, 97, 98, 99, 100, 101, 102]⟩ : ByteArray)[15].toNat = 102 := rfl
      have xt : (⟨#[48, 49, 50, 51, 52, 53, 54, 55, 56, 57, 65, 66, 67, 68, 69, 70]⟩ : ByteArray)[15].toNat = 70 := rfl
      by_cases h1 : r = 102
      · have hd : Hid (digit 16 r = 15) := Lib.hid ((HDG.out 15 (by omega) (by omega)).2 (by omega))
        have a1 : ((102 : Int) == r) = true := by simp; omega
        clear h1
        go_wp2
        go_ret
        exact ⟨by rw [hd.out]; rfl, rfl⟩
      · by_cases h2 : r = 70
        · have hd : Hid (digit 16 r = 15) := Lib.hid ((HDG.out 15 (by omega) (by omega)).2 (by omega))
          have a1 : ((102 : Int) == r) = false := by simp; omega
          have a2 : ((70 : Int) == r) = true := by simp; omega
          clear h1 h2
          go_wp2
          go_ret
          exact ⟨by rw [hd.out]; rfl, rfl⟩
        · have hn : Hid (digit 16 r < 0 ∨ ((15 + 1 : Nat) : Int) ≤ digit 16 r) := Lib.hid (by
            have := mt (HDG.out 15 (by omega) (by omega)).1 (by omega)
            have := HI.out
            omega)
          have a1 : ((102 : Int) == r) = false := by simp; omega
          have a2 : ((70 : Int) == r) = false := by simp; omega
          clear h1 h2
          go_wp2
          go_roundg (16 - (15 + 1))
          case measure => omega
          case rel => exact ⟨15 + 1, rfl, by omega, rfl, hn, rfl⟩
    · have hd : Hid (digit 16 r = -1) := Lib.hid (by have := HI.out; have := HLT.out; omega)
      go_wp2
      go_ret
      exact ⟨by rw [hd.out]; rfl, rfl⟩
end Go.Proofs.YtmclngahdklfkaaGreatDoor
/- cref.Char. -/
namespace Go.Proofs.YtmclngahdklfkaaGreatDoor
open Go.ChangeShapes Go.WideShapes Go.ChangeAt Go.RowKit
set_option linter.unusedVariables false
theorem digitB_c (b : Int) (hb : b = 10 ∨ b = 16) (r : Int) (w : World) : Calls Tryz.prog 100 #[.int .i64 r, .int .i64 b] w fun e w' => e = .returned (.int .i64 (digit b r)) ∧ w = w' := by
  rcases hb with rfl | rfl
  · exact digit10_c r w
  · exact digit16_c r w
theorem refDigitB_c (b : Int) (hb : b = 10 ∨ b = 16) (r : Int) (w : World) : Calls Tryz.prog 72 #[.int .i64 r, .int .i64 b] w fun e w' => e = .returned (.int .i64 (digit b r)) ∧ w = w' := by
  rcases hb with rfl | rfl
  · exact refDigit10_c r w
  · exact refDigit16_c r w
def numV (o : Int × Nat × Nat) : Value := .tuple #[.int .i64 o.1, .int .i64 (o.2.1 : Int), .int .i64 (o.2.2 : Int)]
theorem pre2 (a b : UInt8) (l : List UInt8) : [a, b].isPrefixOf l = decide (l[0]? = some a ∧ l[1]? = some b) := by
  match l with
  | [] => simp
  | [x] => simp [List.isPrefixOf]
  | x :: y :: t =>
    simp [List.isPrefixOf]; rw [Bool.eq_iff_iff]; simp
    exact ⟨fun ⟨p, q⟩ => ⟨p.symm, q.symm⟩, fun ⟨p, q⟩ => ⟨p.symm, q.symm⟩⟩
theorem pre3 (a b c : UInt8) (l : List UInt8) : [a, b, c].isPrefixOf l = decide (l[0]? = some a ∧ l[1]? = some b ∧ l[2]? = some c) := by
  match l with
  | [] => simp
  | [x] => simp [List.isPrefixOf]
  | [x, y] => simp [List.isPrefixOf]
  | x :: y :: z :: t =>
    simp [List.isPrefixOf]; rw [Bool.eq_iff_iff]; simp
    exact ⟨fun ⟨p, q, r⟩ => ⟨p.symm, q.symm, r.symm⟩, fun ⟨p, q, r⟩ => ⟨p.symm, q.symm, r.symm⟩⟩
set_option maxRecDepth 100000 in
set_option maxHeartbeats 2000000 in
theorem crefChar_range (A : Option Addr) (n cap : Nat) (at_ : Int) (w : World) (ha : at_ < 0 ∨ (n : Int) < at_) :
    Calls Tryz.prog 66 #[.slice A n cap, .int .i64 at_] w fun e w' => e = .returned (numV (0, 0, 3)) ∧ Below w.heap.size w w' := by
  by_cases h0 : at_ < 0
  · have hd : decide (at_ < 0) = true := by simpa using h0
    clear ha
    go_enter Tryz.func66, Tryz.ntmps66
    go_wp2_with fail
    go_step3
    go_wp2
    rw [Exit.noGoto_ret]
    go_ret3
    exact ⟨rfl, Below.refl _ _⟩
  · have h1 : (n : Int) < at_ := by omega
    clear ha
    go_enter Tryz.func66, Tryz.ntmps66
    go_wp2_with fail
    go_step3
    go_wp2
    rw [Exit.noGoto_ret]
    go_ret3
    exact ⟨rfl, Below.refl _ _⟩
set_option maxRecDepth 100000 in
set_option maxHeartbeats 2000000 in
theorem crefChar_no (A : Option Addr) (n cap : Nat) (l : List UInt8) (at_ : Nat) (w : World) (h : Byt w w.heap.size A n cap l) (hm : n ≤ 50000) (hat : at_ ≤ n) (hp : [38, 35].isPrefixOf (l.drop at_) = false) :
    Calls Tryz.prog 66 #[.slice A n cap, .int .i64 at_] w fun e w' => e = .returned (numV (0, 0, 7)) ∧ Below w.heap.size w w' := by
  have hp3 : [38, 35, 120].isPrefixOf (l.drop at_) = false := by
    rw [pre2] at hp
    rw [pre3]
    simp only [decide_eq_false_iff_not] at hp ⊢
    exact fun h => hp ⟨h.1, h.2.1⟩
  have hat' : ¬ (n : Int) < (at_ : Int) := by omega
  have hrf : ∀ w2 : World, (Instr.slice 22 (.slice A n cap) (some (.int .i64 (at_ : Int))) none none).run Tryz.prog w2 = .ok (.slice (cutA A cap at_) (n - at_) (cap - at_)) w2 := fun w2 => run_from (w := w2) A n cap at_ hat
  have hap : IntKind.i64.wrap ((at_ : Int) + 2) = (at_ : Int) + 2 := by rw [IntKind.wrap_i64]; omega
  have kc := fun (w : World) (C : Array Value) (n c : Nat) => Lib.run_convert_bytes_const (P := Tryz.prog) w 22 5 C n c Tryz.underlying22 Tryz.underlying5
  have kc2 := kc (w.alloc (.cells #[bv 38, bv 35, bv 120] 5 (3, 4))) #[.int .u8 38, .int .u8 35] 2 2
  rw [show (w.alloc (.cells #[bv 38, bv 35, bv 120] 5 (3, 4))).heap.size = w.heap.size + 1 by simp] at kc2
  have k1 := Byt.const w [38, 35, 120] (3, 4) (by decide)
  have b1 : Below w.heap.size w (w.alloc (.cells ([38, 35, 120].map bv).toArray 5 (3, 4))) := (Below.refl _ _).alloc (Nat.le_refl _) _
  have c1 := hasPrefix_c _ _ _ _ _ _ _ _ _ _ _ ((h.below b1).drop hat) k1
  have k2 := Byt.const (w.alloc (.cells ([38, 35, 120].map bv).toArray 5 (3, 4))) [38, 35] (2, 3) (by decide)
  have b2 : Below w.heap.size w ((w.alloc (.cells ([38, 35, 120].map bv).toArray 5 (3, 4))).alloc (.cells ([38, 35].map bv).toArray 5 (2, 3))) := b1.alloc (by simp) _
  have c2 := hasPrefix_c _ _ _ _ _ _ _ _ _ _ _ ((h.below b2).drop hat) k2
  rw [hp3] at c1
  rw [hp] at c2
  rw [show (w.alloc (.cells ([38, 35, 120].map bv).toArray 5 (3, 4))).heap.size = w.heap.size + 1 by simp] at c2
  have HC2 := Lib.hid c2
  clear c2
  have HB := Lib.hid b2
  clear b2 b1 k1 k2 h hp hp3 hm
  go_enter Tryz.func66, Tryz.ntmps66
  go_wp2_with fail
  go_step3
  go_wp2_with fail
  refine c1.mono ?_
  rintro e w1 ⟨rfl, rfl⟩
  clear kc c1
  go_wp2_with fail
  refine HC2.out.mono ?_
  rintro e w1 ⟨rfl, rfl⟩
  go_wp2
  rw [Exit.noGoto_ret]
  go_ret3
  exact ⟨rfl, HB.out⟩
end Go.Proofs.YtmclngahdklfkaaGreatDoor
