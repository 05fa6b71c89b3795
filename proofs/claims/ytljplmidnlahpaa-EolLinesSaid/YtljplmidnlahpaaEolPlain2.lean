/- Plain facts on where lines begin. -/
import Derived.Test.YtljplmidnlahpaaRows
import Derived.WalkKit
import Derived.ProofKit
import Derived.OpenShut
import Derived.ShutString
import Derived.ChangeOld
import Derived.Below
import Derived.BigQuiet
import Derived.Deep.QuietTactic
import Derived.Lib.Hide
import Derived.Deep.RegionHeld3
import Derived.Lib.SlBytesConst
import Derived.Laws.CopyOwn
import Derived.Laws.CopyRow
import Derived.Lib.Bytes
import Derived.Deep.LoopGhost
import Derived.Deep.DeepFit
import Derived.Deep.DeepMust
import Derived.WalkSpells
import Derived.WalkLawsBesides
import Derived.Test.YtljplmidnlahpaaBase
import Derived.Test.YtljplmidnlahpaaShelf
import Derived.Test.YtljplmidnlahpaaEolPlain
namespace Go.Proofs.Ytljplmidnlahpaa
open Go.ChangeShapes Go.WideShapes Go.ChangeAt Go.RowKit
set_option linter.unusedVariables false
/-- Where a line begins, the lines counted from 0. -/
def stt (l : List UInt8) : Nat → Nat
  | 0 => 0
  | k + 1 => stt l k + (Lib.indexByte (l.drop (stt l k)) 10).toNat + 1
/-- The bytes ahead of the first line feed. -/
def lnOf (r : List UInt8) : List UInt8 := if 0 ≤ Lib.indexByte r 10 then r.take (Lib.indexByte r 10).toNat else r
theorem indexByte_lo (c : UInt8) : ∀ r : List UInt8, -1 ≤ Lib.indexByte r c ∧ Lib.indexByte r c < r.length
  | [] => by simp [Lib.indexByte]
  | x :: r => by
    have := indexByte_lo c r
    simp only [Lib.indexByte, List.length_cons]
    split
    · omega
    · split <;> omega
/-- A byte that is there: what lies ahead of its first place, and behind. -/
theorem indexByte_split (c : UInt8) : ∀ r : List UInt8, 0 < r.count c → 0 ≤ Lib.indexByte r c ∧ ∃ p q, r = p ++ c :: q ∧ p.length = (Lib.indexByte r c).toNat ∧ c ∉ p
  | [], h => by simp at h
  | x :: r, h => by
    by_cases hx : x = c
    · subst hx
      exact ⟨by simp [Lib.indexByte], [], r, rfl, by simp [Lib.indexByte], by simp⟩
    · have hr : 0 < r.count c := by simpa [List.count_cons, hx] using h
      obtain ⟨h0, p, q, hp, hl, hn⟩ := indexByte_split c r hr
      have h1 : (Lib.indexByte r c == -1) = false := by simp; omega
      have e : Lib.indexByte (x :: r) c = Lib.indexByte r c + 1 := by simp [Lib.indexByte, hx, h1]
      refine ⟨by omega, x :: p, q, by rw [hp]; rfl, by rw [e, List.length_cons, hl]; omega, ?_⟩
      simp only [List.mem_cons, not_or]
      exact ⟨fun e => hx e.symm, hn⟩
theorem indexByte_absent (c : UInt8) : ∀ r : List UInt8, r.count c = 0 → Lib.indexByte r c = -1
  | [], _ => rfl
  | x :: r, h => by
    have hx : x ≠ c := fun e => by subst e; simp at h
    have := indexByte_absent c r (by simpa [List.count_cons, hx] using h)
    simp [Lib.indexByte, hx, this]
theorem whr_append_no (a : List UInt8) : ∀ p : List UInt8, 10 ∉ p → whr (a ++ p) = ((whr a).1, (whr a).2 + p.length) := by
  intro p
  refine snoc_induction (P := fun p => 10 ∉ p → whr (a ++ p) = ((whr a).1, (whr a).2 + p.length)) (fun _ => by simp) (fun p x ih h => ?_) p
  simp only [List.mem_append, not_or, List.mem_singleton] at h
  rw [← List.append_assoc, whr_snoc, if_neg (fun e => h.2 e.symm), ih h.1]
  simp; omega
theorem take_mid (c : UInt8) (q : List UInt8) : ∀ p : List UInt8, (p ++ c :: q).take (p.length + 1) = p ++ [c]
  | [] => rfl
  | x :: p => by simp [take_mid c q p]
/-- What is known of the place where a line begins. -/
theorem stt_facts (l : List UInt8) : ∀ k, k ≤ l.count 10 → stt l k ≤ l.length ∧ whr (l.take (stt l k)) = (k + 1, 0) ∧ (l.drop (stt l k)).count 10 = l.count 10 - k
  | 0, _ => ⟨Nat.zero_le _, rfl, by simp [stt]⟩
  | k + 1, h => by
    obtain ⟨h1, h2, h3⟩ := stt_facts l k (by omega)
    obtain ⟨h0, p, q, hp, hl, hn⟩ := indexByte_split 10 (l.drop (stt l k)) (by omega)
    have hs : stt l (k + 1) = stt l k + (p.length + 1) := by rw [stt, ← hl]; omega
    have hlen : (l.drop (stt l k)).length = p.length + (q.length + 1) := by rw [hp]; simp
    rw [List.length_drop] at hlen
    have htake : l.take (stt l (k + 1)) = l.take (stt l k) ++ p ++ [10] := by
      rw [hs, List.take_add, hp, take_mid, List.append_assoc]
    have hdrop : l.drop (stt l (k + 1)) = q := by
      rw [hs, ← List.drop_drop, hp]
      simp [List.drop_append]
    refine ⟨by omega, ?_, ?_⟩
    · rw [htake, whr_snoc, if_pos rfl, whr_append_no _ _ hn, h2]
    · have hc : (l.drop (stt l k)).count 10 = q.count 10 + 1 := by rw [hp]; simp [List.count_append, List.count_eq_zero.2 hn]
      rw [hdrop]; omega
/-- There is no earlier place of that line's begin. -/
theorem stt_first (l : List UInt8) (k : Nat) (hk : k ≤ l.count 10) (i : Nat) (hi : i < stt l k) : whr (l.take i) ≠ (k + 1, 0) := by
  obtain ⟨h1, h2, _⟩ := stt_facts l k hk
  intro he
  have hsp : l.take (stt l k) = l.take i ++ (l.drop i).take (stt l k - i) := by
    rw [← List.take_add]; congr 1; omega
  generalize hq : (l.drop i).take (stt l k - i) = q at hsp
  have hql : q.length = stt l k - i := by rw [← hq, List.length_take, List.length_drop]; omega
  have hcnt : q.count 10 = 0 := by
    have e1 := whr_fst (l.take i)
    have e2 := whr_fst (l.take (stt l k))
    rw [he] at e1
    rw [h2, hsp, List.count_append] at e2
    simp at e1 e2; omega
  have hno : 10 ∉ q := List.count_eq_zero.1 hcnt
  have := whr_append_no (l.take i) q hno
  rw [← hsp, h2, he] at this
  simp at this
  omega
theorem lnOf_spec (l : List UInt8) (k : Nat) (hk : k < l.count 10) : l.take (stt l k) ++ lnOf (l.drop (stt l k)) ++ [10] = l.take (stt l (k + 1)) ∧ stt l (k + 1) = stt l k + (lnOf (l.drop (stt l k))).length + 1 := by
  obtain ⟨h1, h2, h3⟩ := stt_facts l k (by omega)
  obtain ⟨h0, p, q, hp, hl, hn⟩ := indexByte_split 10 (l.drop (stt l k)) (by omega)
  have hln : lnOf (l.drop (stt l k)) = p := by
    rw [lnOf, if_pos h0, ← hl, hp]; simp
  have hs : stt l (k + 1) = stt l k + (p.length + 1) := by rw [stt, ← hl]; omega
  refine ⟨?_, by rw [hln, hs]; omega⟩
  rw [hln, hs, List.take_add, hp, take_mid, List.append_assoc]
theorem lnOf_last (l : List UInt8) : l.take (stt l (l.count 10)) ++ lnOf (l.drop (stt l (l.count 10))) = l := by
  obtain ⟨h1, h2, h3⟩ := stt_facts l _ (Nat.le_refl _)
  rw [Nat.sub_self] at h3
  rw [lnOf, indexByte_absent _ _ h3]
  simp
theorem lnOf_take (r : List UInt8) : lnOf r = r.take (lnOf r).length := by
  unfold lnOf
  have := indexByte_lo 10 r
  split
  · rw [List.length_take]; congr 1; omega
  · simp
theorem lnOf_le (r : List UInt8) : (lnOf r).length ≤ r.length := by
  rw [lnOf_take, List.length_take]; omega
end Go.Proofs.Ytljplmidnlahpaa
