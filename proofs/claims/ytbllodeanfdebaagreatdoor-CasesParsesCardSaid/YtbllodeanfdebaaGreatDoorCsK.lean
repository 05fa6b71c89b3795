/- Texts' searches for one byte, in plain Lean. -/
import Derived.Test.YtbllodeanfdebaaGreatDoorRows
import Derived.WalkKit
import Derived.ProofKit
import Derived.OpenShut
import Derived.ShutString
import Derived.ChangeOld
import Derived.Below
import Derived.BigQuiet
import Derived.Deep.QuietTactic
import Derived.Lib.Hide
import Derived.Deep.RegionHeld3
import Derived.Lib.SlBytesConst
import Derived.Laws.CopyOwn
import Derived.Laws.CopyRow
import Derived.Lib.Bytes
import Derived.Deep.LoopGhost
import Derived.Deep.DeepFit
import Derived.Deep.DeepMust
import Derived.WalkSpells
import Derived.WalkLawsBesides
import Derived.Laws.EntriesVeiled
import Derived.Lib.Replace
import Derived.Lib.Split
import Derived.Test.YtbllodeanfdebaaGreatDoorBase
import Derived.Test.YtbllodeanfdebaaGreatDoorCsP
namespace Go.Proofs.YtbllodeanfdebaaGreatDoor
open Go.ChangeShapes Go.WideShapes Go.ChangeAt Go.RowKit
set_option linter.unusedVariables false
/-- One byte sought: what the library's functions on texts are. -/
theorem idx_none (c : UInt8) : ∀ s : List UInt8, c ∉ s → Lib.index s [c] = -1
  | [], _ => rfl
  | b :: l, h => by
    simp only [List.mem_cons, not_or] at h
    have hb : ([c] : List UInt8).isPrefixOf (b :: l) = false := by
      simp [List.isPrefixOf]
      exact h.1
    rw [Lib.index, hb, idx_none c l h.2]
    rfl
theorem idx_app (c : UInt8) : ∀ (x r : List UInt8), c ∉ x → Lib.index (x ++ c :: r) [c] = (x.length : Int)
  | [], r, _ => by
    show Lib.index (c :: r) [c] = 0
    rw [Lib.index]
    simp [List.isPrefixOf]
  | b :: x, r, h => by
    simp only [List.mem_cons, not_or] at h
    have hb : ([c] : List UInt8).isPrefixOf (b :: (x ++ c :: r)) = false := by
      simp [List.isPrefixOf]
      exact h.1
    show Lib.index (b :: (x ++ c :: r)) [c] = _
    rw [Lib.index, hb, idx_app c x r h.2]
    simp
theorem cut_none (c : UInt8) (s : List UInt8) (h : c ∉ s) : Lib.cut s [c] = (s, [], false) := by
  unfold Lib.cut
  rw [idx_none c s h]
  rfl
theorem cut_app (c : UInt8) (x r : List UInt8) (h : c ∉ x) : Lib.cut (x ++ c :: r) [c] = (x, r, true) := by
  unfold Lib.cut
  rw [idx_app c x r h, if_pos (by omega)]
  simp
theorem count_app (c : UInt8) (x r : List UInt8) (h : c ∉ x) : Lib.count (x ++ c :: r) [c] = 1 + Lib.count r [c] := by
  rw [Lib.count_one, Lib.count_one, List.count_append, List.count_cons_self, List.count_eq_zero.2 h]
  omega
theorem count_zero (c : UInt8) (s : List UInt8) (h : Lib.count s [c] = 0) : c ∉ s := by
  rw [Lib.count_one] at h
  exact List.count_eq_zero.1 h
theorem mem_of_count {c : UInt8} {s : List UInt8} {k : Nat} (h : Lib.count s [c] = k + 1) : c ∈ s := by
  rw [Lib.count_one] at h
  exact List.count_pos_iff.1 (by omega)
theorem flat_plain {c : UInt8} {f : UInt8 → List UInt8} (hf : ∀ b, b ≠ c → f b = [b]) : ∀ s : List UInt8, c ∉ s → s.flatMap f = s
  | [], _ => rfl
  | b :: l, h => by
    simp only [List.mem_cons, not_or] at h
    rw [List.flatMap_cons, hf b (fun e => h.1 e.symm), flat_plain hf l h.2]
    rfl
theorem replaceK_flat (c : UInt8) (new : List UInt8) : ∀ (k : Nat) (s : List UInt8), Lib.count s [c] = k → Lib.replaceK [c] new k s = s.flatMap (fun b => if b = c then new else [b])
  | 0, s, h => by
    rw [flat_plain (c := c) (fun b hb => if_neg hb) s (count_zero c s h)]
    rfl
  | k + 1, s, h => by
    obtain ⟨x, r, rfl, hx⟩ := List.eq_append_cons_of_mem (mem_of_count h)
    rw [count_app c x r hx] at h
    rw [Lib.replaceK_hit [c] new k _ x.length (idx_app c x r hx), List.flatMap_append, List.flatMap_cons, if_pos rfl, flat_plain (c := c) (fun b hb => if_neg hb) x hx]
    have hd : (x ++ c :: r).drop (x.length + [c].length) = r := by simp
    have ht : (x ++ c :: r).take x.length = x := by simp
    rw [hd, ht, replaceK_flat c new k r (by omega), List.append_assoc]
theorem replaceAll_bar (s : List UInt8) : Lib.replaceAll s [10] [10, 124] = s.flatMap (fun c => if c = 10 then [10, 124] else [c]) := by
  unfold Lib.replaceAll Lib.replace
  rw [if_neg (by decide)]
  have hn : Lib.replaceNum s [10] (-1) = Lib.count s [10] := by unfold Lib.replaceNum; rw [if_pos (.inl (by decide))]
  rw [hn]
  exact replaceK_flat 10 [10, 124] _ s rfl
theorem splitK_words : ∀ (k : Nat) (s : List UInt8), Lib.count s [32] = k → Lib.splitK [32] 0 k s = wordsP s
  | 0, s, h => by
    rw [words_plain s (count_zero 32 s h)]
    rfl
  | k + 1, s, h => by
    obtain ⟨x, r, rfl, hx⟩ := List.eq_append_cons_of_mem (mem_of_count h)
    rw [count_app 32 x r hx] at h
    have hi := idx_app 32 x r hx
    have hm : ¬ (Lib.index (x ++ 32 :: r) [32] == -1) = true := fun e => by have := beq_iff_eq.1 e; omega
    have e : (Lib.index (x ++ 32 :: r) [32]).toNat = x.length := by omega
    rw [Lib.splitK, if_neg hm, e, words_app x r hx]
    have hd : (x ++ 32 :: r).drop (x.length + ([32] : List UInt8).length) = r := by simp
    have ht : (x ++ 32 :: r).take (x.length + 0) = x := by simp
    rw [hd, ht, splitK_words k r (by omega)]
theorem split_words (s : List UInt8) : Lib.split s [32] = wordsP s := splitK_words _ s rfl
end Go.Proofs.YtbllodeanfdebaaGreatDoor
