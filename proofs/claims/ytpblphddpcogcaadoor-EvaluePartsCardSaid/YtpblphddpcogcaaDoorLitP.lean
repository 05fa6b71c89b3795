/- Quotes and references in texts: plain law. -/
import Derived.Test.YtpblphddpcogcaaDoorRows
import Derived.WalkKit
import Derived.ProofKit
import Derived.OpenShut
import Derived.ShutString
import Derived.ChangeOld
import Derived.Below
import Derived.BigQuiet
import Derived.Deep.QuietTactic
import Derived.Lib.Hide
import Derived.Deep.RegionHeld3
import Derived.Lib.SlBytesConst
import Derived.Laws.CopyOwn
import Derived.Laws.CopyRow
import Derived.Lib.Bytes
import Derived.Deep.LoopGhost
import Derived.Deep.DeepFit
import Derived.Deep.DeepMust
import Derived.WalkSpells
import Derived.WalkLawsBesides
import Derived.Test.YtpblphddpcogcaaDoorBase
import Derived.Test.YtpblphddpcogcaaDoorShelf
import Derived.Test.YtpblphddpcogcaaDoorCharPlain
import Derived.Test.YtpblphddpcogcaaDoorUtf1
import Derived.Test.YtpblphddpcogcaaDoorUtf2
import Derived.Test.YtpblphddpcogcaaDoorUtf3
import Derived.Test.YtpblphddpcogcaaDoorChars1
import Derived.Test.YtpblphddpcogcaaDoorName1
import Derived.Test.YtpblphddpcogcaaDoorName2
import Derived.Test.YtpblphddpcogcaaDoorName3
import Derived.Test.YtpblphddpcogcaaDoorCref1
import Derived.Test.YtpblphddpcogcaaDoorCref2
import Derived.Test.YtpblphddpcogcaaDoorDig
import Derived.Test.YtpblphddpcogcaaDoorRef1
import Derived.Test.YtpblphddpcogcaaDoorNum
namespace Go.Proofs.YtpblphddpcogcaaDoor
open Go.ChangeShapes Go.WideShapes Go.ChangeAt Go.RowKit
set_option linter.unusedVariables false
theorem ix_lo (c : UInt8) : ∀ r : List UInt8, -1 ≤ Lib.indexByte r c ∧ Lib.indexByte r c < r.length
  | [] => by simp [Lib.indexByte]
  | x :: r => by
    have := ix_lo c r
    simp only [Lib.indexByte, List.length_cons]
    split
    · omega
    · split <;> omega
theorem ix_at (c : UInt8) : ∀ r : List UInt8, 0 ≤ Lib.indexByte r c → r[(Lib.indexByte r c).toNat]? = some c ∧ ∀ j : Nat, (j : Int) < Lib.indexByte r c → r[j]? ≠ some c
  | [], h => by simp [Lib.indexByte] at h
  | x :: r, h => by
    by_cases hx : x = c
    · subst hx
      simp [Lib.indexByte]
      intro j hj; omega
    · have e : Lib.indexByte (x :: r) c = if Lib.indexByte r c == -1 then -1 else Lib.indexByte r c + 1 := by simp [Lib.indexByte, hx]
      rw [e] at h ⊢
      split at h
      · omega
      · rename_i h1
        rw [if_neg h1] at *
        have hlo := (ix_lo c r).1
        have h2 : 0 ≤ Lib.indexByte r c := by
          have : ¬ Lib.indexByte r c = -1 := by simpa using h1
          omega
        obtain ⟨a, b⟩ := ix_at c r h2
        refine ⟨?_, ?_⟩
        · rw [show (Lib.indexByte r c + 1).toNat = (Lib.indexByte r c).toNat + 1 by omega]
          simpa using a
        · intro j hj
          cases j with
          | zero => simpa using hx
          | succ j => simpa using b j (by omega)
theorem ix_none (c : UInt8) : ∀ r : List UInt8, Lib.indexByte r c < 0 → ∀ j : Nat, r[j]? ≠ some c
  | [], _ => by simp
  | x :: r, h => by
    by_cases hx : x = c
    · subst hx; simp [Lib.indexByte] at h
    · have e : Lib.indexByte (x :: r) c = if Lib.indexByte r c == -1 then -1 else Lib.indexByte r c + 1 := by simp [Lib.indexByte, hx]
      rw [e] at h
      have hlo := (ix_lo c r).1
      split at h
      · rename_i h1
        intro j
        cases j with
        | zero => simpa using hx
        | succ j => simpa using ix_none c r (by have : Lib.indexByte r c = -1 := by simpa using h1
                                                omega) j
      · rename_i h1
        have : ¬ Lib.indexByte r c = -1 := by simpa using h1
        omega
/-- The first place is the one that has the byte and none ahead of it. -/
theorem ix_eq (c : UInt8) (r : List UInt8) (j : Nat) (h : r[j]? = some c) (hn : ∀ i < j, r[i]? ≠ some c) : Lib.indexByte r c = j := by
  rcases Int.lt_or_le (Lib.indexByte r c) 0 with h0 | h0
  · exact absurd h (ix_none c r h0 j)
  · obtain ⟨a, b⟩ := ix_at c r h0
    rcases Nat.lt_trichotomy (Lib.indexByte r c).toNat j with h1 | h1 | h1
    · exact absurd a (hn _ h1)
    · omega
    · exact absurd h (b j (by omega))
theorem ix_eq_none (c : UInt8) (r : List UInt8) (hn : ∀ i : Nat, r[i]? ≠ some c) : Lib.indexByte r c = -1 := by
  rcases Int.lt_or_le (Lib.indexByte r c) 0 with h0 | h0
  · have := (ix_lo c r).1; omega
  · exact absurd (ix_at c r h0).1 (hn _)
/-- What stands between quotes at a place: the text, the place behind, the fault. -/
def quotedQ (q : UInt8) (l : List UInt8) (k : Nat) : List UInt8 × Nat × Nat :=
  if Lib.indexByte (l.drop (k + 1)) q < 0 then ([], 0, 7) else ((l.drop (k + 1)).take (Lib.indexByte (l.drop (k + 1)) q).toNat, k + (Lib.indexByte (l.drop (k + 1)) q).toNat + 2, 0)
def quotedOut (l : List UInt8) (k : Nat) : List UInt8 × Nat × Nat :=
  match l[k]? with
  | none => ([], 0, 7)
  | some q => if q = 34 ∨ q = 39 then quotedQ q l k else ([], 0, 7)
def quotedAt (l : List UInt8) (at_ : Int) : List UInt8 × Nat × Nat := if at_ < 0 ∨ (l.length : Int) < at_ then ([], 0, 3) else quotedOut l at_.toNat
/-- What is read at a mark: the place behind, the fault. -/
def markOut (l : List UInt8) (k : Nat) : Nat × Nat := if l[k + 1]? = some 35 then (charOut l k).2 else (refOut 38 l k).2
/-- The first place that begins no reference, and why; by fuel. -/
def refsF (l : List UInt8) : Nat → Nat → Nat × Nat
  | 0, _ => (0, 0)
  | f + 1, k => if l.length ≤ k then (0, 0) else if l[k]? ≠ some 38 then refsF l f (k + 1) else if (markOut l k).2 ≠ 0 then (k, (markOut l k).2) else refsF l f (markOut l k).1
def refsOut (l : List UInt8) : Nat × Nat := refsF l (l.length + 1) 0
theorem charOut_next (l : List UInt8) (k : Nat) (h : (charOut l k).2.2 = 0) : k < (charOut l k).2.1 ∧ (charOut l k).2.1 ≤ l.length := by
  unfold charOut charBody at *
  simp only at *
  have key : ∀ (b : Int) (o : Nat), l[o + (digs b (l.drop o)).length]? = some 59 → o + (digs b (l.drop o)).length + 1 ≤ l.length := by
    intro b o h
    rcases Nat.lt_or_ge (o + (digs b (l.drop o)).length) l.length with g | g
    · omega
    · rw [List.getElem?_eq_none g] at h; cases h
  by_cases h1 : l[k]? = some 38 ∧ l[k + 1]? = some 35
  · rw [if_pos h1] at h ⊢
    by_cases h2 : l[k + 2]? = some 120
    · rw [if_pos h2] at h ⊢
      by_cases h3 : (digs 16 (l.drop (k + 3))).length = 0 ∨ l[k + 3 + (digs 16 (l.drop (k + 3))).length]? ≠ some 59
      · rw [if_pos h3] at h; simp at h
      · rw [if_neg h3] at h ⊢
        have := key 16 (k + 3) (by simpa using (not_or.1 h3).2)
        by_cases h4 : isDoc (numC 16 2097152 (digs 16 (l.drop (k + 3)))) = true
        · rw [if_pos h4]; simp only; omega
        · rw [if_neg h4] at h; simp at h
    · rw [if_neg h2] at h ⊢
      by_cases h3 : (digs 10 (l.drop (k + 2))).length = 0 ∨ l[k + 2 + (digs 10 (l.drop (k + 2))).length]? ≠ some 59
      · rw [if_pos h3] at h; simp at h
      · rw [if_neg h3] at h ⊢
        have := key 10 (k + 2) (by simpa using (not_or.1 h3).2)
        by_cases h4 : isDoc (numC 10 2097152 (digs 10 (l.drop (k + 2)))) = true
        · rw [if_pos h4]; simp only; omega
        · rw [if_neg h4] at h; simp at h
  · rw [if_neg h1] at h; simp at h
theorem refOut_next (m : UInt8) (l : List UInt8) (k : Nat) (h : (refOut m l k).2.2 = 0) : k < (refOut m l k).2.1 ∧ (refOut m l k).2.1 ≤ l.length := by
  unfold refOut at *
  cases hc : l[k]? with
  | none => rw [hc] at h; simp at h
  | some c =>
    rw [hc] at h
    simp only at h ⊢
    have hk : k < l.length := by
      rcases Nat.lt_or_ge k l.length with g | g
      · exact g
      · rw [List.getElem?_eq_none g] at hc; cases hc
    by_cases h1 : c = m
    · rw [if_pos h1] at h ⊢
      by_cases h2 : (plainOut l (k + 1)).2.2 ≠ 0
      · rw [if_pos h2] at h; exact absurd h h2
      · rw [if_neg h2] at h ⊢
        have hp := plainOut_le l (k + 1) (by omega) (by simpa using h2)
        cases hd : l[(plainOut l (k + 1)).2.1]? with
        | none => rw [hd] at h; simp at h
        | some d =>
          rw [hd] at h
          simp only at h ⊢
          have hk2 : (plainOut l (k + 1)).2.1 < l.length := by
            rcases Nat.lt_or_ge (plainOut l (k + 1)).2.1 l.length with g | g
            · exact g
            · rw [List.getElem?_eq_none g] at hd; cases hd
          by_cases h3 : d = 59
          · rw [if_pos h3]; simp only; omega
          · rw [if_neg h3] at h; simp at h
    · rw [if_neg h1] at h; simp at h
theorem markOut_next (l : List UInt8) (k : Nat) (h : (markOut l k).2 = 0) : k < (markOut l k).1 ∧ (markOut l k).1 ≤ l.length := by
  unfold markOut at *
  by_cases h1 : l[k + 1]? = some 35
  · rw [if_pos h1] at h ⊢; exact charOut_next l k h
  · rw [if_neg h1] at h ⊢; exact refOut_next 38 l k h
theorem refsF_end (l : List UInt8) (f k : Nat) (h : l.length ≤ k) : refsF l f k = (0, 0) := by
  cases f with
  | zero => rfl
  | succ f => unfold refsF; rw [if_pos h]
theorem refsF_skip (l : List UInt8) (f k : Nat) (hk : k < l.length) (h : l[k]? ≠ some 38) : refsF l (f + 1) k = refsF l f (k + 1) := by
  conv => lhs; unfold refsF
  rw [if_neg (by omega), if_pos h]
/-- No more fuel than is needed. -/
theorem refsF_fuel (l : List UInt8) : ∀ (f g k : Nat), l.length + 1 ≤ f + k → l.length + 1 ≤ g + k → refsF l f k = refsF l g k := by
  intro f
  induction f with
  | zero => intro g k hf hg; rw [refsF_end l 0 k (by omega), refsF_end l g k (by omega)]
  | succ f ih =>
    intro g k hf hg
    cases g with
    | zero => rw [refsF_end l _ k (by omega), refsF_end l _ k (by omega)]
    | succ g =>
      unfold refsF
      by_cases h1 : l.length ≤ k
      · rw [if_pos h1, if_pos h1]
      · rw [if_neg h1, if_neg h1]
        by_cases h2 : l[k]? ≠ some 38
        · rw [if_pos h2, if_pos h2]; exact ih g (k + 1) (by omega) (by omega)
        · rw [if_neg h2, if_neg h2]
          by_cases h3 : (markOut l k).2 ≠ 0
          · rw [if_pos h3, if_pos h3]
          · rw [if_neg h3, if_neg h3]
            have := markOut_next l k (by simpa using h3)
            exact ih g _ (by omega) (by omega)
/-- What is told from a place on. -/
def refsFrom (l : List UInt8) (k : Nat) : Nat × Nat := refsF l (l.length + 1) k
theorem refsFrom_end (l : List UInt8) (k : Nat) (h : l.length ≤ k) : refsFrom l k = (0, 0) := refsF_end l _ k h
theorem refsFrom_skip (l : List UInt8) (k : Nat) (hk : k < l.length) (h : l[k]? ≠ some 38) : refsFrom l k = refsFrom l (k + 1) := by
  unfold refsFrom
  rw [refsF_skip l l.length k hk h]
  exact refsF_fuel l _ _ _ (by omega) (by omega)
theorem refsFrom_skips (l : List UInt8) (k n : Nat) (hk : k + n ≤ l.length) (h : ∀ j < n, l[k + j]? ≠ some 38) : refsFrom l k = refsFrom l (k + n) := by
  induction n with
  | zero => rfl
  | succ n ih =>
    rw [ih (by omega) fun j hj => h j (by omega), refsFrom_skip l (k + n) (by omega) (h n (by omega))]
    rfl
theorem refsFrom_bad (l : List UInt8) (k : Nat) (h : l[k]? = some 38) (hb : (markOut l k).2 ≠ 0) : refsFrom l k = (k, (markOut l k).2) := by
  have hk : k < l.length := by
    rcases Nat.lt_or_ge k l.length with g | g
    · exact g
    · rw [List.getElem?_eq_none g] at h; cases h
  unfold refsFrom
  unfold refsF
  rw [if_neg (by omega), if_neg (by simp [h]), if_pos hb]
theorem refsFrom_next (l : List UInt8) (k : Nat) (h : l[k]? = some 38) (hb : (markOut l k).2 = 0) : refsFrom l k = refsFrom l (markOut l k).1 := by
  have hk : k < l.length := by
    rcases Nat.lt_or_ge k l.length with g | g
    · exact g
    · rw [List.getElem?_eq_none g] at h; cases h
  have := markOut_next l k hb
  unfold refsFrom
  conv => lhs; unfold refsF
  rw [if_neg (by omega), if_neg (by simp [h]), if_neg (by simp [hb])]
  exact refsF_fuel l _ _ _ (by omega) (by omega)
theorem refsOut_eq (l : List UInt8) : refsOut l = refsFrom l 0 := rfl
end Go.Proofs.YtpblphddpcogcaaDoor
