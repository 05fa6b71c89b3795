/- What is normal stays so, and stays a text; in plain Lean. -/
import Derived.Test.YtljmpghijlibaaaDoorRows
import Derived.WalkKit
import Derived.ProofKit
import Derived.OpenShut
import Derived.ShutString
import Derived.ChangeOld
import Derived.Below
import Derived.BigQuiet
import Derived.Deep.QuietTactic
import Derived.Lib.Hide
import Derived.Deep.RegionHeld3
import Derived.Lib.SlBytesConst
import Derived.Laws.CopyOwn
import Derived.Laws.CopyRow
import Derived.Lib.Bytes
import Derived.Deep.LoopGhost
import Derived.Deep.DeepFit
import Derived.Deep.DeepMust
import Derived.WalkSpells
import Derived.WalkLawsBesides
import Derived.Laws.EntriesVeiled
import Derived.Laws.Rows
import Derived.Test.YtljmpghijlibaaaDoorShelf
import Derived.Test.YtljmpghijlibaaaDoorBase
import Derived.Test.YtljmpghijlibaaaDoorCharPlain
import Derived.Test.YtljmpghijlibaaaDoorChars1
import Derived.Test.YtljmpghijlibaaaDoorUtf1
import Derived.Test.YtljmpghijlibaaaDoorUtf2
import Derived.Test.YtljmpghijlibaaaDoorUtf3
import Derived.Test.YtljmpghijlibaaaDoorName1
import Derived.Test.YtljmpghijlibaaaDoorName2
import Derived.Test.YtljmpghijlibaaaDoorName3
import Derived.Test.YtljmpghijlibaaaDoorCref1
import Derived.Test.YtljmpghijlibaaaDoorPlainP
import Derived.Test.YtljmpghijlibaaaDoorRun
import Derived.Test.YtljmpghijlibaaaDoorEolP
namespace Go.Proofs.YtljmpghijlibaaaDoor
open Go.ChangeShapes Go.WideShapes Go.ChangeAt Go.RowKit
set_option linter.unusedVariables false
/-- A byte below 128 is a character by itself. -/
theorem dec_asc (l : List UInt8) (r n i : Nat) (c0 : UInt8) (hc0 : c0.toNat < 128) (h : dec l = some (r, n)) (hi : i < n) (hl : l[i]? = some c0) : n = 1 ∧ r = c0.toNat := by
  cases l with
  | nil => simp [dec] at h
  | cons c t =>
    simp only [dec] at h
    split at h
    · cases h
    · rename_i h0
      simp only [not_or, Nat.not_lt] at h0
      split at h
      · rename_i r' hr
        split at h
        · cases h
          cases i with
          | zero =>
            simp at hl
            subst hl
            have hb : lenB c.toNat = 1 := by unfold lenB; rw [if_pos hc0]
            rw [hb] at hr
            simp [cont, msk] at hr
            exact ⟨hb, by omega⟩
          | succ i =>
            exfalso
            have h2 : (t.take (lenB c.toNat - 1))[i]? = some c0 := by
              rw [List.getElem?_take_of_lt (by omega)]
              simpa using hl
            have key : ∀ (u : List UInt8) (a b : Nat), cont a u = some b → ∀ i : Nat, u[i]? = some c0 → False := by
              intro u
              induction u with
              | nil => intro a b _ i hi; simp at hi
              | cons d v ih =>
                intro a b hc i hi
                unfold cont at hc
                split at hc
                · rename_i hd
                  cases i with
                  | zero =>
                    simp at hi
                    subst hi
                    omega
                  | succ i => exact ih _ _ hc i (by simpa using hi)
                · cases hc
            exact key _ _ _ hr i h2
        · cases h
      · cases h
theorem dec_take (l : List UInt8) (r n : Nat) (h : dec l = some (r, n)) : dec (l.take n) = some (r, n) := by
  cases l with
  | nil => simp [dec] at h
  | cons c t =>
    have hle := dec_le _ r n h
    simp only [List.length_cons] at hle
    have hn : n = lenB c.toNat := by
      simp only [dec] at h
      split at h
      · cases h
      · split at h
        · split at h
          · cases h; rfl
          · cases h
        · cases h
    obtain ⟨m, hm⟩ : ∃ m, lenB c.toNat = m + 1 := ⟨lenB c.toNat - 1, by omega⟩
    have hnm : n = m + 1 := by omega
    subst hnm
    simp only [dec, hm, List.take_succ_cons] at h ⊢
    have e1 : (t.take m).length = m := by rw [List.length_take]; omega
    have e2 : (t.take m).take (m + 1 - 1) = t.take (m + 1 - 1) := by rw [show m + 1 - 1 = m by omega, List.take_take, Nat.min_self]
    rw [e1, e2, if_neg (by omega)]
    rw [if_neg (by omega)] at h
    exact h
theorem dec_one (c : UInt8) (t : List UInt8) (h : c.toNat < 128) : dec (c :: t) = some (c.toNat, 1) := by
  have hb : lenB c.toNat = 1 := by unfold lenB; rw [if_pos h]
  simp only [dec, hb]
  rw [if_neg (by simp)]
  simp only [cont, msk, Nat.sub_self, List.take_zero, if_true]
  have h1 : c.toNat % 128 = c.toNat := Nat.mod_eq_of_lt h
  rw [h1, if_pos ⟨by simp [least], by unfold isR; simp; omega⟩]
theorem kp_succ (c : UInt8) (t : List UInt8) (i : Nat) : kp (c :: t) (i + 1) = kp t i := by simp [kp]
theorem nrmTo_cons (c : UInt8) (t : List UInt8) : ∀ k, nrmTo (c :: t) (k + 1) = kp (c :: t) 0 ++ nrmTo t k
  | 0 => by simp [nrmTo]
  | k + 1 => by
    rw [nrmTo, nrmTo_cons c t k, kp_succ]
    conv => rhs; rw [nrmTo]
    rw [List.append_assoc]
theorem nrm_cons (c : UInt8) (t : List UInt8) : nrm (c :: t) = kp (c :: t) 0 ++ nrm t := by
  unfold nrm
  rw [List.length_cons, nrmTo_cons]
theorem nrm_nil : nrm [] = [] := rfl
/-- Bytes from 128 on stand as they are. -/
theorem nrm_skip : ∀ (k : Nat) (l : List UInt8), k ≤ l.length → (∀ j c, j < k → l[j]? = some c → 128 ≤ c.toNat) → nrm l = l.take k ++ nrm (l.drop k)
  | 0, l, _, _ => by simp
  | k + 1, [], h, _ => by simp at h
  | k + 1, c :: t, h, hc => by
    have h0 := hc 0 c (by omega) rfl
    have hk : kp (c :: t) 0 = [c] := by
      have : c ≠ 13 := by intro e; subst e; revert h0; decide
      simp [kp, this]
    simp only [List.length_cons] at h
    rw [nrm_cons, hk, nrm_skip k t (by omega) (fun j d hj hd => hc (j + 1) d (by omega) (by simpa using hd))]
    simp
/-- Are bytes a text of characters that may stand in a document? -/
def wellL (f : Nat) (l : List UInt8) : Prop := (runesL f l).2 = true ∧ ∀ r ∈ (runesL f l).1, isDoc (r : Int) = true
theorem wellL_nil (f : Nat) : wellL f [] := by unfold wellL; rw [runesL_nil]; simp
theorem wellL_some {f : Nat} {l : List UInt8} {r n : Nat} (h : dec l = some (r, n)) : wellL (f + 1) l ↔ (isDoc (r : Int) = true ∧ wellL f (l.drop n)) := by
  unfold wellL
  rw [runesL_some f l r n h]
  simp only [List.mem_cons, forall_eq_or_imp]
  constructor
  · rintro ⟨a, b, c⟩; exact ⟨b, a, c⟩
  · rintro ⟨b, a, c⟩; exact ⟨a, b, c⟩
theorem wellL_none {f : Nat} {l : List UInt8} (h0 : l ≠ []) (h : dec l = none) : ¬ wellL (f + 1) l := by
  unfold wellL
  rw [runesL_none f l h0 h]
  simp
theorem wellL_nrm : ∀ (f : Nat) (l : List UInt8) (g : Nat), l.length ≤ f → (nrm l).length ≤ g → wellL f l → wellL g (nrm l)
  | 0, l, g, h, _, _ => by
    have : l = [] := List.length_eq_zero_iff.1 (by omega)
    subst this
    exact wellL_nil _
  | f + 1, [], g, _, _, _ => wellL_nil _
  | f + 1, c :: t, g, h1, h2, hw => by
    cases hd : dec (c :: t) with
    | none => exact absurd hw (wellL_none (by simp) hd)
    | some x =>
      obtain ⟨r, n⟩ := x
      obtain ⟨hr, hw'⟩ := (wellL_some hd).1 hw
      have hle := dec_le _ r n hd
      simp only [List.length_cons] at h1 hle
      by_cases hc : c.toNat < 128
      · obtain ⟨rfl, rfl⟩ := dec_asc (c :: t) r n 0 c hc hd (by omega) rfl
        simp only [List.drop_succ_cons, List.drop_zero] at hw'
        rw [nrm_cons] at h2 ⊢
        have hk : kp (c :: t) 0 = [] ∨ ∃ d : UInt8, kp (c :: t) 0 = [d] ∧ d.toNat < 128 ∧ isDoc (d.toNat : Int) = true := by
          by_cases h13 : c = 13
          · subst h13
            simp only [kp, List.getElem?_cons_zero, if_true]
            split
            · exact Or.inl rfl
            · exact Or.inr ⟨10, rfl, by decide, by decide +kernel⟩
          · refine Or.inr ⟨c, by simp [kp, h13], hc, hr⟩
        rcases hk with hk | ⟨d, hk, hd1, hd2⟩
        · rw [hk] at h2 ⊢
          exact wellL_nrm f t g (by omega) (by simpa using h2) hw'
        · rw [hk] at h2 ⊢
          simp only [List.singleton_append, List.length_cons] at h2 ⊢
          cases g with
          | zero => omega
          | succ g =>
            refine (wellL_some (dec_one d _ hd1)).2 ⟨hd2, ?_⟩
            simp only [List.drop_succ_cons, List.drop_zero]
            exact wellL_nrm f t g (by omega) (by omega) hw'
      · have hall : ∀ j e, j < n → (c :: t)[j]? = some e → 128 ≤ e.toNat := fun j e hj he => by
          rcases Nat.lt_or_ge e.toNat 128 with h' | h'
          · obtain ⟨rfl, hr'⟩ := dec_asc (c :: t) r n j e h' hd hj he
            obtain rfl : j = 0 := by omega
            simp at he
            subst he
            omega
          · exact h'
        rw [nrm_skip n (c :: t) hle.2.2.1 hall] at h2 ⊢
        have htk : dec ((c :: t).take n) = some (r, n) := dec_take (c :: t) r n hd
        have htl : ((c :: t).take n).length = n := by rw [List.length_take, List.length_cons]; omega
        rw [List.length_append, htl] at h2
        cases g with
        | zero => omega
        | succ g =>
          refine (wellL_some (dec_append _ _ r n htk)).2 ⟨hr, ?_⟩
          rw [List.drop_append_of_le_length (by omega), List.drop_of_length_le (by omega), List.nil_append]
          exact wellL_nrm f _ g (by rw [List.length_drop, List.length_cons]; omega) (by omega) hw'
end Go.Proofs.YtljmpghijlibaaaDoor
