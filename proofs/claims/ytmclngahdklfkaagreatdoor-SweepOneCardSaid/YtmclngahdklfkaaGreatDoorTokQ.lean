/- Tokens one behind the other, in plain Lean. -/
import Derived.Test.YtmclngahdklfkaaGreatDoorRows
import Derived.Test.YtmclngahdklfkaaGreatDoorQX
import Derived.WalkKit
import Derived.ProofKit
import Derived.OpenShut
import Derived.ShutString
import Derived.ChangeOld
import Derived.Below
import Derived.BigQuiet
import Derived.Deep.QuietTactic
import Derived.Lib.Hide
import Derived.Deep.RegionHeld3
import Derived.Lib.SlBytesConst
import Derived.Laws.CopyOwn
import Derived.Laws.CopyRow
import Derived.Lib.Bytes
import Derived.Deep.LoopGhost
import Derived.Deep.DeepFit
import Derived.Deep.DeepMust
import Derived.WalkSpells
import Derived.WalkLawsBesides
import Derived.Maps.OwnOps
import Derived.Maps.OwnSet
import Derived.Maps.Views
import Derived.Laws.EntriesVeiled
import Derived.Laws.Rows
import Derived.Maps.AppendAt
import Derived.Lib.SmallJoins
import Derived.Deep.AppendLies
import Derived.Deep.RegionLaw
import Derived.Deep.RegionWith
import Derived.Test.YtmclngahdklfkaaGreatDoorQ1
import Derived.Test.YtmclngahdklfkaaGreatDoorQ6
import Derived.Test.YtmclngahdklfkaaGreatDoorQ2
import Derived.Test.YtmclngahdklfkaaGreatDoorQ4
import Derived.Test.YtmclngahdklfkaaGreatDoorQ5
import Derived.Test.YtmclngahdklfkaaGreatDoorQ8
import Derived.Test.YtmclngahdklfkaaGreatDoorQ9
import Derived.Test.YtmclngahdklfkaaGreatDoorQ10
import Derived.Test.YtmclngahdklfkaaGreatDoorQ11
import Derived.Test.YtmclngahdklfkaaGreatDoorQ12
import Derived.Test.YtmclngahdklfkaaGreatDoorQ13
import Derived.Test.YtmclngahdklfkaaGreatDoorQ14
import Derived.Test.YtmclngahdklfkaaGreatDoorQ15
import Derived.Test.YtmclngahdklfkaaGreatDoorQ16
import Derived.Test.YtmclngahdklfkaaGreatDoorQ17
import Derived.Test.YtmclngahdklfkaaGreatDoorQ18
import Derived.Test.YtmclngahdklfkaaGreatDoorQ19
import Derived.Test.YtmclngahdklfkaaGreatDoorQ20
import Derived.Test.YtmclngahdklfkaaGreatDoorQ21
import Derived.Test.YtmclngahdklfkaaGreatDoorQ24
import Derived.Test.YtmclngahdklfkaaGreatDoorQ22
import Derived.Test.YtmclngahdklfkaaGreatDoorQ23
import Derived.Test.YtmclngahdklfkaaGreatDoorQ7
import Derived.Test.YtmclngahdklfkaaGreatDoorQ25
namespace Go.Proofs.YtmclngahdklfkaaGreatDoor
open Go.ChangeShapes Go.WideShapes Go.ChangeAt Go.RowKit
set_option linter.unusedVariables false
/-- The place that is reached behind the first i tokens. -/
def plc (L : List TokL) : Nat → Int
  | 0 => 0
  | i + 1 => match L[i]? with | some k => k.to_ | none => 0
theorem plc_app (L : List TokL) (x : TokL) (i : Nat) (h : i ≤ L.length) : plc (L ++ [x]) i = plc L i := by
  cases i with
  | zero => rfl
  | succ i =>
    show (match (L ++ [x])[i]? with | some k => k.to_ | none => 0) = _
    rw [List.getElem?_append_left (by omega)]
    rfl
theorem plc_end (L : List TokL) (x : TokL) : plc (L ++ [x]) (L.length + 1) = x.to_ := by
  show (match (L ++ [x])[L.length]? with | some k => k.to_ | none => 0) = _
  rw [List.getElem?_append_right (Nat.le_refl _)]
  simp
/-- Tokens one behind the other, from place 0 on. -/
structure Chain (l : List UInt8) (L : List TokL) : Prop where
  one : ∀ i k, L[i]? = some k → k.fro = plc L i ∧ plc L i < k.to_
  prs : ∀ k ∈ L, k.pairs.length ≤ l.length + 1
theorem Chain.nil (l : List UInt8) : Chain l [] := ⟨fun i k h => by simp at h, fun k h => by cases h⟩
theorem Chain.snoc {l : List UInt8} {L : List TokL} {x : TokL} (h : Chain l L) (hf : x.fro = plc L L.length) (ht : plc L L.length < x.to_) (hp : x.pairs.length ≤ l.length + 1) : Chain l (L ++ [x]) := by
  refine ⟨fun i k hk => ?_, fun k hk => ?_⟩
  · rcases Nat.lt_or_ge i L.length with hi | hi
    · rw [List.getElem?_append_left hi] at hk
      rw [plc_app L x i (by omega)]
      exact h.one i k hk
    · have hlt := (List.getElem?_eq_some_iff.1 hk).1
      rw [List.length_append, List.length_singleton] at hlt
      obtain rfl : i = L.length := by omega
      rw [List.getElem?_append_right (Nat.le_refl _)] at hk
      simp at hk
      subst hk
      rw [plc_app L x _ (Nat.le_refl _)]
      exact ⟨hf, ht⟩
  · rcases List.mem_append.1 hk with hk | hk
    · exact h.prs k hk
    · rw [List.mem_singleton] at hk; subst hk; exact hp
theorem nextOut_pairs (l : List UInt8) (k : Nat) (hk : k < l.length) : (nextOut l k).1.pairs.length ≤ l.length + 1 := by
  have := nextAt_len l k
  rwa [nextAt_in l k hk] at this
theorem allR_chain (l : List UInt8) : ∀ (f : Nat) (acc : List TokL) (t : Nat), t ≤ l.length → Chain l acc → (t : Int) = plc acc acc.length → acc.length ≤ t → Chain l (allR l f acc t).1 ∧ (allR l f acc t).1.length ≤ l.length
  | 0, acc, t, ht, hc, he, hl => ⟨Chain.nil l, Nat.zero_le _⟩
  | f + 1, acc, t, ht, hc, he, hl => by
    by_cases htl : t < l.length
    · by_cases h0 : (nextOut l t).2 = 0
      · obtain ⟨hf, u, hu, h1, h2⟩ := nextOut_ok l t htl h0
        have hp := nextOut_pairs l t htl
        have h' : nextOut l t = ((nextOut l t).1, 0) := by rw [← h0]
        generalize (nextOut l t).1 = k at h' hu hf hp
        rw [all_more htl h' hu]
        refine allR_chain l f (acc ++ [k]) u h2 (hc.snoc (by rw [hf, he]) (by rw [← he, hu]; omega) hp) ?_ (by simp; omega)
        rw [List.length_append, List.length_singleton, plc_end, hu]
      · rw [all_bad htl rfl h0]
        exact ⟨Chain.nil l, Nat.zero_le _⟩
    · rw [all_end htl]
      exact ⟨hc, by show acc.length ≤ _; omega⟩
theorem allOut_chain (l : List UInt8) : Chain l (allOut l).1 ∧ (allOut l).1.length ≤ l.length := allR_chain l _ [] 0 (Nat.zero_le _) (Chain.nil l) rfl (Nat.zero_le _)
end Go.Proofs.YtmclngahdklfkaaGreatDoor
