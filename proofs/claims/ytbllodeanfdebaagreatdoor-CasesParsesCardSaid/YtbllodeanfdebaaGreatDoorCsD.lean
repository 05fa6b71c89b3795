/- The document's first line, byte by byte, is limP's, in plain Lean. -/
import Derived.Test.YtbllodeanfdebaaGreatDoorRows
import Derived.WalkKit
import Derived.ProofKit
import Derived.OpenShut
import Derived.ShutString
import Derived.ChangeOld
import Derived.Below
import Derived.BigQuiet
import Derived.Deep.QuietTactic
import Derived.Lib.Hide
import Derived.Deep.RegionHeld3
import Derived.Lib.SlBytesConst
import Derived.Laws.CopyOwn
import Derived.Laws.CopyRow
import Derived.Lib.Bytes
import Derived.Deep.LoopGhost
import Derived.Deep.DeepFit
import Derived.Deep.DeepMust
import Derived.WalkSpells
import Derived.WalkLawsBesides
import Derived.Laws.EntriesVeiled
import Derived.Lib.Replace
import Derived.Lib.Split
import Derived.Lib.ItoaNum
import Derived.Lib.AtoiAllCases
import Derived.Test.YtbllodeanfdebaaGreatDoorBase
import Derived.Test.YtbllodeanfdebaaGreatDoorCsP
import Derived.Test.YtbllodeanfdebaaGreatDoorCsK
import Derived.Test.YtbllodeanfdebaaGreatDoorCsN
import Derived.Test.YtbllodeanfdebaaGreatDoorCsA
namespace Go.Proofs.YtbllodeanfdebaaGreatDoor
open Go.ChangeShapes Go.WideShapes Go.ChangeAt Go.RowKit
set_option linter.unusedVariables false
/-- The document's going through the first line behind its word, byte by byte: the number so far, its digits, the numbers before. -/
def scanD : List UInt8 → Nat → List UInt8 → List Nat → Option (List Nat)
  | [], n, ds, out => if ds = [] ∨ Lib.decDigits n ≠ ds then none else some (out ++ [n])
  | c :: r, n, ds, out =>
    if 48 ≤ c.toNat ∧ c.toNat ≤ 57 then (if 1099511627776 < 10 * n + (c.toNat - 48) then none else scanD r (10 * n + (c.toNat - 48)) (ds ++ [c]) out)
    else if c ≠ 32 ∨ ds = [] ∨ Lib.decDigits n ≠ ds then none else scanD r 0 [] (out ++ [n])
theorem words_front : ∀ (x s : List UInt8), (32 : UInt8) ∉ x → ∃ y ys, wordsP s = y :: ys ∧ wordsP (x ++ s) = (x ++ y) :: ys
  | [], s, _ => by
    cases hw : wordsP s with
    | nil => exact absurd hw (wordsP_ne s)
    | cons y ys => exact ⟨y, ys, rfl, hw⟩
  | c :: x, s, h => by
    simp only [List.mem_cons, not_or] at h
    obtain ⟨y, ys, h1, h2⟩ := words_front x s h.2
    refine ⟨y, ys, h1, ?_⟩
    show wordsP (c :: (x ++ s)) = _
    rw [wordsP, if_neg (fun e => h.1 e.symm), h2]
    rfl
theorem numD_not {w : List UInt8} {c : UInt8} (hc : c ∈ w) (h : ¬ (48 ≤ c.toNat ∧ c.toNat ≤ 57)) : numD w = none := by
  unfold numD
  rw [if_neg]
  intro e
  rw [e.1] at hc
  exact h (dec_digit _ c hc)
theorem valD_ge (x y : List UInt8) : valD x ≤ valD (x ++ y) := by
  unfold valD
  rw [List.foldl_append]
  exact fold_ge y _
theorem numD_big {w : List UInt8} (h : 1099511627776 < valD w) : numD w = none := by
  unfold numD
  rw [if_neg (fun e => by omega)]
theorem numD_nil : numD [] = none := by
  unfold numD
  rw [if_neg (fun e => dec_ne _ e.1.symm)]
theorem numD_if (ds : List UInt8) (hb : valD ds ≤ 1099511627776) : numD ds = if ds = [] ∨ Lib.decDigits (valD ds) ≠ ds then none else some (valD ds) := by
  by_cases h : ds = []
  · rw [if_pos (.inl h), h, numD_nil]
  · by_cases h2 : Lib.decDigits (valD ds) = ds
    · rw [if_neg (by rintro (e | e); exact h e; exact e h2)]
      unfold numD
      rw [if_pos ⟨h2.symm, hb⟩]
    · rw [if_pos (.inr h2)]
      unfold numD
      rw [if_neg (fun e => h2 e.1.symm)]
theorem scan_words : ∀ (s : List UInt8) (ds : List UInt8) (out : List Nat), (∀ c ∈ ds, 48 ≤ c.toNat ∧ c.toNat ≤ 57) → valD ds ≤ 1099511627776 → scanD s (valD ds) ds out = ((wordsP (ds ++ s)).mapM numD).map (fun l => out ++ l)
  | [], ds, out, hd, hb => by
    have h32 : (32 : UInt8) ∉ ds := fun h => by have h9 := hd _ h; have h8 : (32 : UInt8).toNat = 32 := rfl; omega
    rw [List.append_nil, words_plain ds h32, scanD, List.mapM_cons, List.mapM_nil, numD_if ds hb]
    split <;> rfl
  | c :: r, ds, out, hd, hb => by
    have h32 : (32 : UInt8) ∉ ds := fun h => by have h9 := hd _ h; have h8 : (32 : UInt8).toNat = 32 := rfl; omega
    rw [scanD]
    by_cases hc : 48 ≤ c.toNat ∧ c.toNat ≤ 57
    · rw [if_pos hc]
      have hd2 : ∀ x ∈ ds ++ [c], 48 ≤ x.toNat ∧ x.toNat ≤ 57 := by
        intro x hx
        rcases List.mem_append.1 hx with hx | hx
        · exact hd x hx
        · rw [List.mem_singleton.1 hx]; exact hc
      have h32b : (32 : UInt8) ∉ ds ++ [c] := fun h => by have h9 := hd2 _ h; have h8 : (32 : UInt8).toNat = 32 := rfl; omega
      have ea : ds ++ c :: r = (ds ++ [c]) ++ r := by simp
      rw [ea, ← valD_snoc]
      by_cases hm : 1099511627776 < valD (ds ++ [c])
      · rw [if_pos hm]
        obtain ⟨y, ys, h1, h2⟩ := words_front (ds ++ [c]) r h32b
        rw [h2, List.mapM_cons, numD_big (Nat.lt_of_lt_of_le hm (valD_ge _ _))]
        rfl
      · rw [if_neg hm]
        exact scan_words r (ds ++ [c]) out hd2 (by omega)
    · rw [if_neg hc]
      by_cases hs : c = 32
      · subst hs
        rw [words_app ds r h32, List.mapM_cons, numD_if ds hb]
        by_cases hx : ds = [] ∨ Lib.decDigits (valD ds) ≠ ds
        · rw [if_pos hx, if_pos (.inr hx)]
          rfl
        · rw [if_neg hx, if_neg (by rintro (e | e); exact e rfl; exact hx e)]
          have ih := scan_words r [] (out ++ [valD ds]) (by simp) (by show (0 : Nat) ≤ _; omega)
          have e0 : valD [] = 0 := rfl
          rw [e0, List.nil_append] at ih
          rw [ih]
          cases (wordsP r).mapM numD with
          | none => rfl
          | some l =>
            show some _ = some _
            simp
      · rw [if_pos (.inl hs)]
        obtain ⟨y, ys, h1, h2⟩ := words_front ds (c :: r) h32
        have hy : c ∈ y := by
          rw [wordsP, if_neg hs] at h1
          split at h1
          · injection h1 with h3 h4; rw [← h3]; simp
          · injection h1 with h3 h4; rw [← h3]; simp
        rw [h2, List.mapM_cons, numD_not (List.mem_append_right ds hy) hc]
        rfl
/-- The document's first line is limP's. -/
def firstD (x : List UInt8) : Option (List Nat) := if beginsL wLim x = true then (match scanD (x.drop 7) 0 [] [] with | some l => if l.length = 6 then some l else none | none => none) else none
theorem mapM_len : ∀ (ws : List (List UInt8)) (l : List Nat), ws.mapM numD = some l → l.length = ws.length := fun ws l h => (mapM_some numD ws l h).1
theorem first_lim (x : List UInt8) : firstD x = limP numD x := by
  unfold firstD limP
  have hs : scanD (x.drop 7) 0 [] [] = (wordsP (x.drop 7)).mapM numD := by
    have h := scan_words (x.drop 7) [] [] (by simp) (by show (0 : Nat) ≤ _; omega)
    have e0 : valD [] = 0 := rfl
    rw [e0, List.nil_append] at h
    rw [h]
    cases (wordsP (x.drop 7)).mapM numD <;> simp
  rw [hs]
  by_cases hp : wLim.isPrefixOf x = true
  · rw [if_pos hp]
    by_cases hl : wLim.length < x.length
    · rw [if_pos (by unfold beginsL; rw [hp]; simpa using hl)]
      cases hm : (wordsP (x.drop 7)).mapM numD with
      | none => simp
      | some l =>
        have := mapM_len _ l hm
        show (if l.length = 6 then some l else none) = _
        rw [this]
    · have e : x.drop 7 = [] := List.drop_eq_nil_of_le (by have : wLim.length = 7 := rfl; omega)
      rw [if_neg (by unfold beginsL; simp; intro _; omega), e]
      rfl
  · rw [if_neg hp, if_neg (by unfold beginsL; simp [hp])]
end Go.Proofs.YtbllodeanfdebaaGreatDoor
