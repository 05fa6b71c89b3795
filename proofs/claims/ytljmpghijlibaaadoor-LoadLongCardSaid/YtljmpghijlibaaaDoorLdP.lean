/- Bytes as texts, in plain Lean. -/
import Derived.Test.YtljmpghijlibaaaDoorRows
import Derived.WalkKit
import Derived.ProofKit
import Derived.OpenShut
import Derived.ShutString
import Derived.ChangeOld
import Derived.Below
import Derived.BigQuiet
import Derived.Deep.QuietTactic
import Derived.Lib.Hide
import Derived.Deep.RegionHeld3
import Derived.Lib.SlBytesConst
import Derived.Laws.CopyOwn
import Derived.Laws.CopyRow
import Derived.Lib.Bytes
import Derived.Deep.LoopGhost
import Derived.Deep.DeepFit
import Derived.Deep.DeepMust
import Derived.WalkSpells
import Derived.WalkLawsBesides
import Derived.Laws.EntriesVeiled
import Derived.Laws.Rows
import Derived.Test.YtljmpghijlibaaaDoorShelf
import Derived.Test.YtljmpghijlibaaaDoorBase
import Derived.Test.YtljmpghijlibaaaDoorCharPlain
import Derived.Test.YtljmpghijlibaaaDoorChars1
import Derived.Test.YtljmpghijlibaaaDoorUtf1
import Derived.Test.YtljmpghijlibaaaDoorUtf2
import Derived.Test.YtljmpghijlibaaaDoorUtf3
import Derived.Test.YtljmpghijlibaaaDoorName1
import Derived.Test.YtljmpghijlibaaaDoorName2
import Derived.Test.YtljmpghijlibaaaDoorName3
import Derived.Test.YtljmpghijlibaaaDoorCref1
import Derived.Test.YtljmpghijlibaaaDoorPlainP
import Derived.Test.YtljmpghijlibaaaDoorRun
import Derived.Test.YtljmpghijlibaaaDoorEolP
import Derived.Test.YtljmpghijlibaaaDoorNrmP
namespace Go.Proofs.YtljmpghijlibaaaDoor
open Go.ChangeShapes Go.WideShapes Go.ChangeAt Go.RowKit
set_option linter.unusedVariables false
theorem wellL_fuel : ∀ (f : Nat) (l : List UInt8) (g : Nat), l.length ≤ f → l.length ≤ g → wellL f l → wellL g l
  | 0, l, g, h, _, _ => by
    have : l = [] := List.length_eq_zero_iff.1 (by omega)
    subst this
    exact wellL_nil _
  | f + 1, [], g, _, _, _ => wellL_nil _
  | f + 1, c :: t, g, h1, h2, hw => by
    cases hd : dec (c :: t) with
    | none => exact absurd hw (wellL_none (by simp) hd)
    | some x =>
      obtain ⟨r, n⟩ := x
      obtain ⟨hr, hw'⟩ := (wellL_some hd).1 hw
      have hle := dec_le _ r n hd
      simp only [List.length_cons] at h1 h2 hle
      cases g with
      | zero => omega
      | succ g => exact (wellL_some hd).2 ⟨hr, wellL_fuel f _ g (by rw [List.length_drop, List.length_cons]; omega) (by rw [List.length_drop, List.length_cons]; omega) hw'⟩
/-- The first thing that is wrong with bytes, as an error. -/
def wrongL (l : List UInt8) : Nat := if 1048576 < l.length then 11 else if (runesOut l).2 = true then (if allOut isDoc l = true then 0 else 6) else 5
def markB (l : List UInt8) : Bool := [239, 187, 191].isPrefixOf l
def bodyL (l : List UInt8) : List UInt8 := if markB l = true then l.drop 3 else l
/-- A document's text, and the error. -/
def docL (l : List UInt8) : List UInt8 × Nat := if wrongL l = 0 then (nrm (bodyL l), 0) else ([], wrongL l)
theorem well_iff (l : List UInt8) : wellL l.length l ↔ (runesOut l).2 = true ∧ allOut isDoc l = true := by
  unfold wellL allOut runesOut
  simp
theorem wrong_iff (l : List UInt8) : wrongL l = 0 ↔ l.length ≤ 1048576 ∧ wellL l.length l := by
  rw [well_iff]
  unfold wrongL
  split
  · constructor
    · intro h; cases h
    · rintro ⟨h, _⟩; omega
  · split
    · split
      · rename_i h1 h2 h3; exact ⟨fun _ => ⟨by omega, h2, h3⟩, fun _ => rfl⟩
      · rename_i h1 h2 h3; exact ⟨fun h => (nomatch h), fun h => absurd h.2.2 h3⟩
    · rename_i h1 h2; exact ⟨fun h => (nomatch h), fun h => absurd h.2.1 h2⟩
theorem body_le (l : List UInt8) : (bodyL l).length ≤ l.length := by
  unfold bodyL
  split
  · rw [List.length_drop]; omega
  · exact Nat.le_refl _
theorem well_body (l : List UInt8) (h : wellL l.length l) : wellL (bodyL l).length (bodyL l) := by
  unfold bodyL
  split
  · rename_i hm
    unfold markB at hm
    match l, hm, h with
    | [], hm, _ => simp at hm
    | [a], hm, _ => simp at hm
    | [a, b], hm, _ => simp at hm
    | a :: b :: c :: t, hm, h =>
      simp at hm
      obtain ⟨rfl, rfl, rfl⟩ := hm
      have hd : dec (239 :: 187 :: 191 :: t) = some (65279, 3) := dec_append [239, 187, 191] t 65279 3 (by decide +kernel)
      have := ((wellL_some (f := t.length + 2) hd).1 h).2
      simp only [List.drop_succ_cons, List.drop_zero] at this ⊢
      exact wellL_fuel _ t _ (by omega) (Nat.le_refl _) this
  · exact h
/-- A document's text is one. -/
theorem doc_again (l : List UInt8) (h : wrongL l = 0) : wrongL (nrm (bodyL l)) = 0 ∧ 13 ∉ nrm (bodyL l) := by
  obtain ⟨h1, h2⟩ := (wrong_iff l).1 h
  have h3 := body_le l
  have h4 := nrm_le (bodyL l)
  exact ⟨(wrong_iff _).2 ⟨by omega, wellL_nrm _ _ _ (Nat.le_refl _) (Nat.le_refl _) (well_body l h2)⟩, nrm_no13 _⟩
/-- The letters x alone are a text. -/
theorem well_rep : ∀ (f n : Nat), n ≤ f → wellL f (List.replicate n 120)
  | _, 0, _ => wellL_nil _
  | 0, n + 1, h => by omega
  | f + 1, n + 1, h => (wellL_some (dec_one 120 _ (by decide))).2 ⟨by decide +kernel, by simpa using well_rep f n (by omega)⟩
/-- With a byte 255 at the end they are none. -/
theorem bad_rep : ∀ (n f : Nat), n + 1 ≤ f → (runesL f (List.replicate n 120 ++ [255])).2 = false
  | 0, f, h => by
    obtain ⟨g, rfl⟩ : ∃ g, f = g + 1 := ⟨f - 1, by omega⟩
    exact (congrArg Prod.snd (runesL_none g [255] (by simp) (by decide +kernel)))
  | n + 1, f, h => by
    obtain ⟨g, rfl⟩ : ∃ g, f = g + 1 := ⟨f - 1, by omega⟩
    rw [List.replicate_succ, List.cons_append, runesL_some g _ _ 1 (dec_one 120 _ (by decide))]
    simpa using bad_rep n g (by omega)
end Go.Proofs.YtljmpghijlibaaaDoor
