/- The document's character at a place: the plain law. -/
import Derived.Test.YtpblphddpcogcaaDoorRows
import Derived.WalkKit
import Derived.ProofKit
import Derived.OpenShut
import Derived.ShutString
import Derived.ChangeOld
import Derived.Below
import Derived.BigQuiet
import Derived.Deep.QuietTactic
import Derived.Lib.Hide
import Derived.Deep.RegionHeld3
import Derived.Lib.SlBytesConst
import Derived.Laws.CopyOwn
import Derived.Laws.CopyRow
import Derived.Lib.Bytes
import Derived.Deep.LoopGhost
import Derived.Deep.DeepFit
import Derived.Deep.DeepMust
import Derived.WalkSpells
import Derived.WalkLawsBesides
import Derived.Laws.EntriesVeiled
import Derived.Laws.Rows
import Derived.Test.YtpblphddpcogcaaDoorBase
import Derived.Test.YtpblphddpcogcaaDoorShelf
import Derived.Test.YtpblphddpcogcaaDoorCharPlain
import Derived.Test.YtpblphddpcogcaaDoorUtf1
import Derived.Test.YtpblphddpcogcaaDoorUtf2
import Derived.Test.YtpblphddpcogcaaDoorUtf3
import Derived.Test.YtpblphddpcogcaaDoorChars1
import Derived.Test.YtpblphddpcogcaaDoorRef1
import Derived.Test.YtpblphddpcogcaaDoorRef3
namespace Go.Proofs.YtpblphddpcogcaaDoor
open Go.ChangeShapes Go.WideShapes Go.ChangeAt Go.RowKit
set_option linter.unusedVariables false
theorem restOf_some (l : List UInt8) (k : Nat) (h : 0 ≤ restOf l k) : ∃ d, l[k]? = some d ∧ 128 ≤ d.toNat ∧ d.toNat < 192 ∧ restOf l k = (d.toNat : Int) - 128 := by
  unfold restOf at *
  split at h
  · rename_i c hc
    split at h
    · rename_i hh
      exact ⟨c, hc, hh.1, hh.2, by rw [if_pos hh]⟩
    · omega
  · omega
theorem restOf_none (l : List UInt8) (k : Nat) (h : restOf l k < 0) : l[k]? = none ∨ ∃ d, l[k]? = some d ∧ ¬ (128 ≤ d.toNat ∧ d.toNat < 192) := by
  unfold restOf at h
  split at h
  · rename_i c hc
    split at h
    · omega
    · rename_i hh; exact .inr ⟨c, hc, hh⟩
  · rename_i hc; exact .inl hc
theorem restOf_lt (l : List UInt8) (k : Nat) : restOf l k < 64 ∧ -1 ≤ restOf l k := by
  unfold restOf
  split
  · split <;> omega
  · omega
/-- What the bytes behind a place say, one by one. -/
theorem cont_step (l : List UInt8) (k : Nat) (N m : Nat) : cont m ((l.drop k).take (N + 1)) = if 0 ≤ restOf l k then cont (m * 64 + (restOf l k).toNat) ((l.drop (k + 1)).take N) else (if k < l.length then none else some m) := by
  by_cases hk : k < l.length
  · rw [List.drop_eq_getElem_cons hk, List.take_succ_cons]
    simp only [cont]
    have hr : restOf l k = if 128 ≤ l[k].toNat ∧ l[k].toNat < 192 then (l[k].toNat : Int) - 128 else -1 := by
      unfold restOf; rw [List.getElem?_eq_getElem hk]
    by_cases hc : 128 ≤ l[k].toNat ∧ l[k].toNat < 192
    · rw [if_pos hc] at hr ⊢
      have e : ((l[k].toNat : Int) - 128).toNat = l[k].toNat - 128 := by omega
      rw [if_pos (by omega), hr, e]
    · rw [if_neg hc] at hr ⊢
      rw [if_neg (by omega), if_pos hk]
  · have hr : restOf l k = -1 := by unfold restOf; rw [List.getElem?_eq_none (by omega)]
    rw [List.drop_of_length_le (by omega), hr]
    simp [cont, hk]
theorem cont_take0 (l : List UInt8) (k m : Nat) : cont m ((l.drop k).take 0) = some m := rfl
theorem rest_in (l : List UInt8) (k : Nat) (h : 0 ≤ restOf l k) : k < l.length := by
  obtain ⟨d, hd, _⟩ := restOf_some l k h
  rcases Nat.lt_or_ge k l.length with h | h
  · exact h
  · rw [List.getElem?_eq_none h] at hd; cases hd
def mk (least N r : Nat) : Option (Nat × Nat) := if least ≤ r ∧ isR r = true then some (r, N) else none
theorem dec_1 (l : List UInt8) (k : Nat) (c : UInt8) (hc : l[k]? = some c) (h : c.toNat < 128) : dec (l.drop k) = some (c.toNat, 1) := by
  have hk : k < l.length := by
    rcases Nat.lt_or_ge k l.length with h | h
    · exact h
    · rw [List.getElem?_eq_none h] at hc; cases hc
  rw [dec_at l k c hc 1 (by simp [lenB, h]) (by decide) (by omega)]
  have : msk 1 c.toNat = c.toNat := by simp [msk]; omega
  rw [this]
  simp only [Nat.sub_self, List.take_zero, cont]
  rw [if_pos ⟨Nat.zero_le _, by simp [isR]; omega⟩]
theorem dec_0 (l : List UInt8) (k : Nat) (c : UInt8) (hc : l[k]? = some c) (h : (128 ≤ c.toNat ∧ c.toNat < 192) ∨ 248 ≤ c.toNat) : dec (l.drop k) = none := by
  refine dec_none l k c hc (.inl ?_)
  unfold lenB
  rcases h with h | h
  · rw [if_neg (by omega), if_pos (by omega)]
  · rw [if_neg (by omega), if_neg (by omega), if_neg (by omega), if_neg (by omega), if_neg (by omega)]
theorem dec_2 (l : List UInt8) (k : Nat) (c : UInt8) (hc : l[k]? = some c) (h : 192 ≤ c.toNat ∧ c.toNat < 224) :
    dec (l.drop k) = if 0 ≤ restOf l (k + 1) then mk 128 2 ((c.toNat - 192) * 64 + (restOf l (k + 1)).toNat) else none := by
  have hL : lenB c.toNat = 2 := by unfold lenB; rw [if_neg (by omega), if_neg (by omega), if_pos (by omega)]
  have hm : msk 2 c.toNat = c.toNat - 192 := by simp only [msk]; simp; omega
  by_cases h1 : 0 ≤ restOf l (k + 1)
  · have := rest_in _ _ h1
    rw [dec_at l k c hc 2 hL (by decide) (by omega), hm, cont_step, if_pos h1, if_pos h1, cont_take0]
    rfl
  · rw [if_neg h1]
    by_cases hs : k + 2 ≤ l.length
    · rw [dec_at l k c hc 2 hL (by decide) hs, hm, cont_step, if_neg h1, if_pos (by omega)]
    · exact dec_none l k c hc (.inr (by omega))
theorem dec_3 (l : List UInt8) (k : Nat) (c : UInt8) (hc : l[k]? = some c) (h : 224 ≤ c.toNat ∧ c.toNat < 240) :
    dec (l.drop k) = if 0 ≤ restOf l (k + 1) ∧ 0 ≤ restOf l (k + 2) then mk 2048 3 (((c.toNat - 224) * 64 + (restOf l (k + 1)).toNat) * 64 + (restOf l (k + 2)).toNat) else none := by
  have hL : lenB c.toNat = 3 := by unfold lenB; rw [if_neg (by omega), if_neg (by omega), if_neg (by omega), if_pos (by omega)]
  have hm : msk 3 c.toNat = c.toNat - 224 := by simp only [msk]; simp; omega
  by_cases hs : k + 3 ≤ l.length
  · rw [dec_at l k c hc 3 hL (by decide) hs, hm, cont_step]
    by_cases h1 : 0 ≤ restOf l (k + 1)
    · rw [if_pos h1, cont_step]
      by_cases h2 : 0 ≤ restOf l (k + 2)
      · rw [if_pos h2, if_pos ⟨h1, h2⟩, cont_take0]
        rfl
      · rw [if_neg h2, if_pos (by omega : k + 1 + 1 < l.length), if_neg (fun h => h2 h.2)]
    · rw [if_neg h1, if_pos (by omega : k + 1 < l.length), if_neg (fun h => h1 h.1)]
  · rw [dec_none l k c hc (.inr (by omega)), if_neg (fun h => by have := rest_in _ _ h.2; omega)]
theorem dec_4 (l : List UInt8) (k : Nat) (c : UInt8) (hc : l[k]? = some c) (h : 240 ≤ c.toNat ∧ c.toNat < 248) :
    dec (l.drop k) = if 0 ≤ restOf l (k + 1) ∧ 0 ≤ restOf l (k + 2) ∧ 0 ≤ restOf l (k + 3) then mk 65536 4 ((((c.toNat - 240) * 64 + (restOf l (k + 1)).toNat) * 64 + (restOf l (k + 2)).toNat) * 64 + (restOf l (k + 3)).toNat) else none := by
  have hL : lenB c.toNat = 4 := by unfold lenB; rw [if_neg (by omega), if_neg (by omega), if_neg (by omega), if_neg (by omega), if_pos (by omega)]
  have hm : msk 4 c.toNat = c.toNat - 240 := by simp only [msk]; simp; omega
  by_cases hs : k + 4 ≤ l.length
  · rw [dec_at l k c hc 4 hL (by decide) hs, hm, cont_step]
    by_cases h1 : 0 ≤ restOf l (k + 1)
    · rw [if_pos h1, cont_step]
      by_cases h2 : 0 ≤ restOf l (k + 2)
      · rw [if_pos h2, cont_step]
        by_cases h3 : 0 ≤ restOf l (k + 3)
        · rw [if_pos h3, if_pos ⟨h1, h2, h3⟩, cont_take0]
          rfl
        · rw [if_neg h3, if_pos (by omega : k + 1 + 1 + 1 < l.length), if_neg (fun h => h3 h.2.2)]
      · rw [if_neg h2, if_pos (by omega : k + 1 + 1 < l.length), if_neg (fun h => h2 h.2.1)]
    · rw [if_neg h1, if_pos (by omega : k + 1 < l.length), if_neg (fun h => h1 h.1)]
  · rw [dec_none l k c hc (.inr (by omega)), if_neg (fun h => by have := rest_in _ _ h.2.2; omega)]
end Go.Proofs.YtpblphddpcogcaaDoor
