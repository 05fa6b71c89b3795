/- Plain law of whole names. -/
import Derived.Test.YtljmpghijlibaaaDoorRows
import Derived.WalkKit
import Derived.ProofKit
import Derived.OpenShut
import Derived.ShutString
import Derived.ChangeOld
import Derived.Below
import Derived.BigQuiet
import Derived.Deep.QuietTactic
import Derived.Lib.Hide
import Derived.Deep.RegionHeld3
import Derived.Lib.SlBytesConst
import Derived.Laws.CopyOwn
import Derived.Laws.CopyRow
import Derived.Lib.Bytes
import Derived.Deep.LoopGhost
import Derived.Deep.DeepFit
import Derived.Deep.DeepMust
import Derived.WalkSpells
import Derived.WalkLawsBesides
import Derived.Test.YtljmpghijlibaaaDoorBase
import Derived.Test.YtljmpghijlibaaaDoorCharPlain
import Derived.Test.YtljmpghijlibaaaDoorUtf1
import Derived.Test.YtljmpghijlibaaaDoorUtf2
import Derived.Test.YtljmpghijlibaaaDoorUtf3
import Derived.Test.YtljmpghijlibaaaDoorChars1
import Derived.Test.YtljmpghijlibaaaDoorName1
import Derived.Test.YtljmpghijlibaaaDoorName2
namespace Go.Proofs.YtljmpghijlibaaaDoor
open Go.ChangeShapes Go.WideShapes Go.ChangeAt Go.RowKit
set_option linter.unusedVariables false
/-- What a text begins with stands, whatever comes behind it. -/
theorem dec_append (l t : List UInt8) (r n : Nat) (h : dec l = some (r, n)) : dec (l ++ t) = some (r, n) := by
  cases l with
  | nil => simp [dec] at h
  | cons c l =>
    simp only [dec, List.cons_append] at h ⊢
    split at h
    · cases h
    · rename_i hn
      simp only [not_or, Nat.not_lt] at hn
      rw [if_neg (by simp only [not_or, Nat.not_lt, List.length_append]; exact ⟨hn.1, by omega⟩)]
      rw [List.take_append_of_le_length (by omega)]
      exact h
/-- A name to its end. -/
def wholeB (f g : Int → Bool) (l : List UInt8) : Bool := !l.isEmpty && decide (endL f g l.length l = l.length)
theorem endL_app (g : Int → Bool) (t : List UInt8) (hg : ∀ K, endL g g K t = 0) : ∀ (k : Nat) (f : Int → Bool) (l : List UInt8) (K : Nat), l ≠ [] → l.length ≤ k → endL f g k l = l.length → l.length ≤ K → endL f g K (l ++ t) = l.length
  | _, _, [], _, h, _, _, _ => absurd rfl h
  | 0, _, c :: l, _, _, hk, _, _ => by simp at hk
  | k + 1, f, c :: l, K, _, hk, he, hK => by
    obtain ⟨K, rfl⟩ : ∃ K', K = K' + 1 := ⟨K - 1, by simp at hK; omega⟩
    cases hd : dec (c :: l) with
    | none =>
      rw [endL_none _ _ _ _ hd] at he
      simp at he
    | some v =>
      obtain ⟨r, n⟩ := v
      cases hf : f r with
      | false =>
        rw [endL_no _ _ _ _ _ _ hd hf] at he
        simp at he
      | true =>
        rw [endL_yes _ _ _ _ _ _ hd hf] at he
        rw [endL_yes _ _ _ _ _ _ (dec_append _ t r n hd) hf]
        have hle := dec_le _ r n hd
        have hdl : ((c :: l).drop n).length = (c :: l).length - n := List.length_drop
        rw [List.drop_append_of_le_length (by omega)]
        by_cases hnil : (c :: l).drop n = []
        · rw [hnil, List.nil_append, hg]
          rw [hnil] at hdl
          simp only [List.length_nil] at hdl
          omega
        · rw [endL_app g t hg k g ((c :: l).drop n) K hnil (by omega) (by omega) (by omega)]
          omega
theorem dec_ascii (c : UInt8) (t : List UInt8) (hc : c.toNat < 128) : dec (c :: t) = some (c.toNat, 1) := by
  have hl : lenB c.toNat = 1 := by unfold lenB; rw [if_pos hc]
  have hm : msk 1 c.toNat = c.toNat := by unfold msk; rw [if_pos rfl]; omega
  have hr : isR (c.toNat : Int) = true := by unfold isR; simp; omega
  simp only [dec]
  rw [hl, if_neg (by simp)]
  simp [cont, hm, least, hr]
/-- What does not begin with a character that may stand in a name. -/
theorem endL_stop (f g : Int → Bool) (c : UInt8) (t : List UInt8) (hc : c.toNat < 128) (h : f (c.toNat : Int) = false) : ∀ K, endL f g K (c :: t) = 0 := fun K => endL_no _ _ _ _ _ _ (dec_ascii c t hc) h
end Go.Proofs.YtljmpghijlibaaaDoor
