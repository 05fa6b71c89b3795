/- A content's tokens, in plain Lean. -/
import Derived.Test.YtmclngahdklfkaaGreatDoorRows
import Derived.Test.YtmclngahdklfkaaGreatDoorQX
import Derived.WalkKit
import Derived.ProofKit
import Derived.OpenShut
import Derived.ShutString
import Derived.ChangeOld
import Derived.Below
import Derived.BigQuiet
import Derived.Deep.QuietTactic
import Derived.Lib.Hide
import Derived.Deep.RegionHeld3
import Derived.Lib.SlBytesConst
import Derived.Laws.CopyOwn
import Derived.Laws.CopyRow
import Derived.Lib.Bytes
import Derived.Deep.LoopGhost
import Derived.Deep.DeepFit
import Derived.Deep.DeepMust
import Derived.WalkSpells
import Derived.WalkLawsBesides
import Derived.Test.YtmclngahdklfkaaGreatDoorQ1
import Derived.Test.YtmclngahdklfkaaGreatDoorQ2
import Derived.Test.YtmclngahdklfkaaGreatDoorQ4
import Derived.Test.YtmclngahdklfkaaGreatDoorQ6
import Derived.Test.YtmclngahdklfkaaGreatDoorQ8
import Derived.Test.YtmclngahdklfkaaGreatDoorQ9
import Derived.Test.YtmclngahdklfkaaGreatDoorQ10
import Derived.Test.YtmclngahdklfkaaGreatDoorQ11
import Derived.Test.YtmclngahdklfkaaGreatDoorQ13
namespace Go.Proofs.YtmclngahdklfkaaGreatDoor
open Go.ChangeShapes Go.WideShapes Go.ChangeAt Go.RowKit
set_option linter.unusedVariables false
def blankB (s : List UInt8) : Bool := decide (blankTo s 0 = s.length)
/-- May a token stand there? What is open behind it, and whether there was an element; none: it may not. -/
def mayS (whole : Bool) (op : List (List UInt8)) (root : Bool) (t : TokL) : Option (List (List UInt8) × Bool) :=
  if t.kind = 7 then (if (whole && op.isEmpty && root) = true then none else some (op ++ [t.name], true))
  else if t.kind = 8 then (if (whole && op.isEmpty && root) = true then none else some (op, true))
  else if t.kind = 9 then (if op.getLast? = some t.name then some (op.dropLast, root) else none)
  else if t.kind = 1 then (if (whole && op.isEmpty && !blankB t.text) = true then none else some (op, root))
  else if t.kind = 2 ∨ t.kind = 3 ∨ t.kind = 4 then (if (whole && op.isEmpty) = true then none else some (op, root))
  else some (op, root)
/-- Is it left out? -/
def leftOut (whole : Bool) (op : List (List UInt8)) (t : TokL) : Bool := whole && op.isEmpty && decide (t.kind = 1)
def overR (l : List UInt8) (whole : Bool) : Nat → List TokL → List (List UInt8) → Bool → Nat → List TokL × Nat × Nat
  | 0, _, _, _, _ => ([], 0, 0)
  | f + 1, acc, op, root, t =>
    if t < l.length then
      (if (nextOut l t).2 ≠ 0 then ([], t, (nextOut l t).2)
       else match mayS whole op root (nextOut l t).1 with
         | none => ([], t, 7)
         | some (op', root') => overR l whole f (if leftOut whole op (nextOut l t).1 = true then acc else acc ++ [(nextOut l t).1]) op' root' (nextOut l t).1.to_.toNat)
    else if (!op.isEmpty || (whole && !root)) = true then ([], t, 7) else (acc, t, 0)
/-- The tokens of a content, the place reached, the error. -/
def overAt (l : List UInt8) (at_ : Int) (whole : Bool) : List TokL × Nat × Nat := if at_ < 0 ∨ (l.length : Int) < at_ then ([], 0, 3) else overR l whole (l.length + 1) [] [] false at_.toNat
theorem over_open {l : List UInt8} {whole : Bool} {f t : Nat} {acc : List TokL} {op : List (List UInt8)} {root : Bool} (h : ¬ t < l.length) (hb : (!op.isEmpty || (whole && !root)) = true) : overR l whole (f + 1) acc op root t = ([], t, 7) := by rw [overR, if_neg h, if_pos hb]
theorem over_end {l : List UInt8} {whole : Bool} {f t : Nat} {acc : List TokL} {op : List (List UInt8)} {root : Bool} (h : ¬ t < l.length) (hb : (!op.isEmpty || (whole && !root)) = false) : overR l whole (f + 1) acc op root t = (acc, t, 0) := by rw [overR, if_neg h, if_neg (by rw [hb]; simp)]
theorem over_bad {l : List UInt8} {whole : Bool} {f t : Nat} {acc : List TokL} {op : List (List UInt8)} {root : Bool} (h : t < l.length) {e : Nat} (he : (nextOut l t).2 = e) (h0 : e ≠ 0) : overR l whole (f + 1) acc op root t = ([], t, e) := by
  rw [overR, if_pos h, if_pos (by rw [he]; exact h0), he]
theorem over_no {l : List UInt8} {whole : Bool} {f t : Nat} {acc : List TokL} {op : List (List UInt8)} {root : Bool} {k : TokL} (h : t < l.length) (he : nextOut l t = (k, 0)) (hm : mayS whole op root k = none) : overR l whole (f + 1) acc op root t = ([], t, 7) := by
  rw [overR, if_pos h, if_neg (by rw [he]; simp), he]
  simp only [hm]
theorem over_more {l : List UInt8} {whole : Bool} {f t u : Nat} {acc : List TokL} {op op' : List (List UInt8)} {root root' : Bool} {k : TokL} (h : t < l.length) (he : nextOut l t = (k, 0)) (hm : mayS whole op root k = some (op', root')) (hu : k.to_ = (u : Int)) :
    overR l whole (f + 1) acc op root t = overR l whole f (if leftOut whole op k = true then acc else acc ++ [k]) op' root' u := by
  rw [overR, if_pos h, if_neg (by rw [he]; simp), he]
  simp only [hm, hu, Int.toNat_natCast]
theorem kind_of (l : List UInt8) (k : Nat) (h : (nextOut l k).2 = 0) : 1 ≤ (nextOut l k).1.kind ∧ (nextOut l k).1.kind ≤ 9 := by
  unfold nextOut at h ⊢
  split
  · rename_i h1
    simp only
    unfold readTok at h1 ⊢
    split
    · constructor <;> simp
    · rename_i g; rw [if_neg g] at h1
      split
      · constructor <;> simp
      · rename_i g; rw [if_neg g] at h1
        split
        · constructor <;> simp
        · rename_i g; rw [if_neg g] at h1
          split
          · constructor <;> simp
          · rename_i g; rw [if_neg g] at h1
            split
            · simp only; split <;> constructor <;> simp
            · rename_i g; rw [if_neg g] at h1
              split
              · constructor <;> simp
              · rename_i g; rw [if_neg g] at h1
                split
                · constructor <;> simp
                · rename_i g; rw [if_neg g] at h1
                  unfold textTok at h1 ⊢
                  split
                  · rename_i g; rw [if_pos g] at h1; cases h1
                  · constructor <;> simp
  · rename_i h1; rw [if_neg h1] at h; exact absurd h h1
/-- Over a document's tokens: how many elements stand outside of all, how many are open; none: something stands outside that may not. -/
def scanS : List TokL → Nat → Nat → Option (Nat × Nat)
  | [], n, d => some (n, d)
  | t :: ts, n, d =>
    if t.kind = 9 then (if d = 0 then none else scanS ts n (d - 1))
    else if d = 0 then (if t.kind = 7 then scanS ts (n + 1) 1 else if t.kind = 8 then scanS ts (n + 1) 0 else if t.kind = 1 then (if blankB t.text = true then scanS ts n 0 else none) else if t.kind = 2 ∨ t.kind = 3 ∨ t.kind = 4 then none else scanS ts n 0)
    else if t.kind = 7 then scanS ts n (d + 1) else scanS ts n d
theorem scan_app : ∀ (xs ys : List TokL) (n d n' d' : Nat), scanS xs n d = some (n', d') → scanS (xs ++ ys) n d = scanS ys n' d'
  | [], ys, n, d, n', d', h => by
    simp only [scanS, Option.some.injEq, Prod.mk.injEq] at h
    obtain ⟨rfl, rfl⟩ := h
    rfl
  | t :: ts, ys, n, d, n', d', h => by
    rw [List.cons_append, scanS]
    rw [scanS] at h
    split
    · rename_i h1
      rw [if_pos h1] at h
      split
      · rename_i h2; rw [if_pos h2] at h; cases h
      · rename_i h2; rw [if_neg h2] at h; exact scan_app ts ys _ _ _ _ h
    · rename_i h1
      rw [if_neg h1] at h
      split
      · rename_i h2
        rw [if_pos h2] at h
        split
        · rename_i h3; rw [if_pos h3] at h; exact scan_app ts ys _ _ _ _ h
        · rename_i h3
          rw [if_neg h3] at h
          split
          · rename_i h4; rw [if_pos h4] at h; exact scan_app ts ys _ _ _ _ h
          · rename_i h4
            rw [if_neg h4] at h
            split
            · rename_i h5
              rw [if_pos h5] at h
              split
              · rename_i h6; rw [if_pos h6] at h; exact scan_app ts ys _ _ _ _ h
              · rename_i h6; rw [if_neg h6] at h; cases h
            · rename_i h5
              rw [if_neg h5] at h
              split
              · rename_i h6; rw [if_pos h6] at h; cases h
              · rename_i h6; rw [if_neg h6] at h; exact scan_app ts ys _ _ _ _ h
      · rename_i h2
        rw [if_neg h2] at h
        split
        · rename_i h3; rw [if_pos h3] at h; exact scan_app ts ys _ _ _ _ h
        · rename_i h3; rw [if_neg h3] at h; exact scan_app ts ys _ _ _ _ h
theorem may_scan {op op' : List (List UInt8)} {root root' : Bool} {t : TokL} (hk : 1 ≤ t.kind ∧ t.kind ≤ 9) (hi : op ≠ [] → root = true) (h : mayS true op root t = some (op', root')) (hl : leftOut true op t = false) :
    scanS [t] (if root = true then 1 else 0) op.length = some (if root' = true then 1 else 0, op'.length) ∧ (op' ≠ [] → root' = true) := by
  unfold mayS at h
  unfold leftOut at hl
  unfold scanS
  by_cases h9 : t.kind = 9
  · rw [if_neg (by omega), if_neg (by omega), if_pos h9] at h
    split at h
    · rename_i hg
      cases h
      have hne : op ≠ [] := fun e => by subst e; cases hg
      have hlen : op.length ≠ 0 := fun e => hne (List.length_eq_zero_iff.1 e)
      rw [if_pos h9, if_neg hlen]
      refine ⟨?_, fun _ => hi hne⟩
      simp [scanS, List.length_dropLast]
    · cases h
  · rw [if_neg h9]
    cases op with
    | nil =>
      simp only [List.isEmpty_nil, Bool.true_and, Bool.and_true] at h hl ⊢
      rw [if_pos (by rfl)]
      have h1 : t.kind ≠ 1 := by simpa using hl
      by_cases h7 : t.kind = 7
      · rw [if_pos h7] at h ⊢
        split at h
        · cases h
        · rename_i hr
          cases h
          have : root = false := by simpa using hr
          subst this
          exact ⟨by simp [scanS], fun _ => rfl⟩
      · rw [if_neg h7] at h ⊢
        by_cases h8 : t.kind = 8
        · rw [if_pos h8] at h ⊢
          split at h
          · cases h
          · rename_i hr
            cases h
            have : root = false := by simpa using hr
            subst this
            exact ⟨by simp [scanS], fun _ => rfl⟩
        · rw [if_neg h8, if_neg h9, if_neg h1] at h
          rw [if_neg h8, if_neg h1]
          split at h
          · simp at h
          · rename_i h234
            rw [if_neg h234]
            cases h
            exact ⟨by simp [scanS], fun e => absurd rfl e⟩
    | cons a op =>
      have hr := hi (by simp)
      subst hr
      simp only [List.isEmpty_cons, Bool.and_false, Bool.false_and, Bool.false_eq_true, if_false] at h ⊢
      rw [if_neg (by simp)]
      by_cases h7 : t.kind = 7
      · rw [if_pos h7] at h ⊢
        cases h
        exact ⟨by simp [scanS], fun _ => rfl⟩
      · rw [if_neg h7] at h ⊢
        have : some (a :: op, true) = some (op', root') := by
          rw [← h]
          repeat' split
          all_goals first | rfl | (exfalso; omega) | skip
        cases this
        exact ⟨by simp [scanS], fun _ => rfl⟩
theorem may_left {op op' : List (List UInt8)} {root root' : Bool} {t : TokL} (h : mayS true op root t = some (op', root')) (hl : leftOut true op t = true) : op' = op ∧ root' = root := by
  unfold leftOut at hl
  have h1 : t.kind = 1 := by simp at hl; exact hl.2
  unfold mayS at h
  rw [if_neg (by omega), if_neg (by omega), if_neg (by omega), if_pos h1] at h
  split at h
  · cases h
  · cases h; exact ⟨rfl, rfl⟩
/-- A document whose content is right has one element, and outside of it there is nothing that may not stand there. -/
theorem over_scan (l : List UInt8) : ∀ (f : Nat) (acc : List TokL) (op : List (List UInt8)) (root : Bool) (t : Nat), l.length + 1 ≤ f + t → t ≤ l.length →
    scanS acc 0 0 = some (if root = true then 1 else 0, op.length) → (op ≠ [] → root = true) → (overR l true f acc op root t).2.2 = 0 → scanS (overR l true f acc op root t).1 0 0 = some (1, 0)
  | 0, acc, op, root, t, hf, ht, _, _, _ => by omega
  | f + 1, acc, op, root, t, hf, ht, hs, hi, h => by
    by_cases htl : t < l.length
    · by_cases he : (nextOut l t).2 = 0
      · obtain ⟨_, u, hu, hu1, hu2⟩ := nextOut_ok l t htl he
        have hk := kind_of l t he
        have h' : nextOut l t = ((nextOut l t).1, 0) := by rw [← he]
        generalize (nextOut l t).1 = k at h' hu hk
        cases hm : mayS true op root k with
        | none => rw [over_no htl h' hm] at h; cases h
        | some x =>
          obtain ⟨op', root'⟩ := x
          rw [over_more htl h' hm hu] at h ⊢
          cases hl : leftOut true op k with
          | true =>
            obtain ⟨rfl, rfl⟩ := may_left hm hl
            rw [hl, if_pos rfl] at h
            rw [if_pos rfl]
            exact over_scan l f acc _ _ u (by omega) hu2 hs hi h
          | false =>
            obtain ⟨hs1, hi1⟩ := may_scan hk hi hm hl
            rw [hl, if_neg (by simp)] at h
            rw [if_neg (by simp)]
            exact over_scan l f (acc ++ [k]) op' root' u (by omega) hu2 ((scan_app acc [k] 0 0 _ _ hs).trans hs1) hi1 h
      · rw [over_bad htl rfl he] at h
        exact absurd h he
    · cases hb : (!op.isEmpty || (true && !root)) with
      | true => rw [over_open htl hb] at h; cases h
      | false =>
        rw [over_end htl hb]
        simp only [Bool.true_and, Bool.or_eq_false_iff, Bool.not_eq_false'] at hb
        have : op = [] := List.isEmpty_iff.1 hb.1
        rw [hs, this, hb.2]
        rfl
end Go.Proofs.YtmclngahdklfkaaGreatDoor
