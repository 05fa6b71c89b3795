/- strings.EqualFold of texts of one length, of ASCII letters. -/
import Derived.Test.YtljmpghijlibaaaDoorRows
import Derived.WalkKit
import Derived.ProofKit
import Derived.OpenShut
import Derived.ShutString
import Derived.ChangeOld
import Derived.Below
import Derived.BigQuiet
import Derived.Deep.QuietTactic
import Derived.Lib.Hide
import Derived.Deep.RegionHeld3
import Derived.Lib.SlBytesConst
import Derived.Laws.CopyOwn
import Derived.Laws.CopyRow
import Derived.Lib.Bytes
import Derived.Deep.LoopGhost
import Derived.Deep.DeepFit
import Derived.Deep.DeepMust
import Derived.WalkSpells
import Derived.WalkLawsBesides
import Derived.Lib.Fold
import Derived.Test.YtljmpghijlibaaaDoorBase
import Derived.Test.YtljmpghijlibaaaDoorShelf
import Derived.Test.YtljmpghijlibaaaDoorCharPlain
import Derived.Test.YtljmpghijlibaaaDoorPub
import Derived.Test.YtljmpghijlibaaaDoorStr
import Derived.Test.YtljmpghijlibaaaDoorFold
namespace Go.Proofs.YtljmpghijlibaaaDoor
open Go.ChangeShapes Go.WideShapes Go.ChangeAt Go.RowKit
set_option linter.unusedVariables false
theorem equalFold_c (s t : List UInt8) (w : World) (hs : s.length = t.length) (hs1 : s.length ≤ 1000) (ht : ∀ c ∈ t, ∃ f, (c.toNat, f) ∈ foldPairs ∧ (f, c.toNat) ∈ foldPairs) (hT : FoldT w) :
    Calls Tryd.prog 96 #[.string ⟨s.toArray⟩, .string ⟨t.toArray⟩] w fun e w' => e = .returned (.bool (Lib.equalFold s t)) ∧ Below w.heap.size w w' := by
  have ht1 : ∀ (j : Nat) b, t[j]? = some b → b.toNat < 128 := fun j b hb => by
    obtain ⟨f, h1, _⟩ := ht b (List.mem_of_getElem? hb)
    exact (foldPairs_lt _ h1).1
  by_cases hall : ∀ (j : Nat) b, s[j]? = some b → b.toNat < 128
  · exact (Tryd.strings_EqualFold ⟨s.toArray⟩ ⟨t.toArray⟩ w (by simp [ByteArray.size]; omega) hall ht1).mono fun e w' ⟨he, hw⟩ => ⟨he, by rw [hw]; exact Below.refl _ _⟩
  · have hex : ∃ (i0 : Nat) (x : UInt8), s[i0]? = some x ∧ 128 ≤ x.toNat ∧ ∀ (j : Nat) (b : UInt8), j < i0 → s[j]? = some b → b.toNat < 128 := by
      have : ∃ n : Nat, ∃ x : UInt8, s[n]? = some x ∧ 128 ≤ x.toNat := by
        refine Classical.byContradiction fun hc => hall fun j b hb => ?_
        refine Classical.byContradiction fun h2 => hc ⟨j, b, hb, by omega⟩
      obtain ⟨n, hn⟩ := this
      induction n using Nat.strongRecOn with
      | _ n ih =>
        by_cases hlow : ∀ (j : Nat) (b : UInt8), j < n → s[j]? = some b → b.toNat < 128
        · obtain ⟨x, h1, h2⟩ := hn
          exact ⟨n, x, h1, h2, hlow⟩
        · have : ∃ m, m < n ∧ ∃ x : UInt8, s[m]? = some x ∧ 128 ≤ x.toNat := by
            refine Classical.byContradiction fun hc => hlow fun j b hj hb => ?_
            refine Classical.byContradiction fun h2 => hc ⟨j, hj, b, hb, by omega⟩
          obtain ⟨m, hm, hm2⟩ := this
          exact ih m hm hm2
    obtain ⟨i0, x, hx, hx1, hlo⟩ := hex
    have hi0 : i0 < t.length := by rw [← hs]; exact (List.getElem?_eq_some_iff.1 hx).1
    obtain ⟨f, hp1, hp2⟩ := ht t[i0] (List.getElem_mem hi0)
    rw [equalFold_hi s t i0 x (fun c hc => by
      obtain ⟨j, hj⟩ := List.mem_iff_getElem?.1 hc
      exact ht1 j c hj) hx hx1]
    exact equalFold_high s t i0 x t[i0] f w hs hs1 ht1 hlo hx hx1 (List.getElem?_eq_getElem hi0) hp1 hp2 hT
theorem xmlFold : ∀ c ∈ ([120, 109, 108] : List UInt8), ∃ f, (c.toNat, f) ∈ foldPairs ∧ (f, c.toNat) ∈ foldPairs := by
  intro c hc
  simp at hc
  rcases hc with rfl | rfl | rfl
  · exact ⟨88, by decide, by decide⟩
  · exact ⟨77, by decide, by decide⟩
  · exact ⟨76, by decide, by decide⟩
theorem utf8Fold : ∀ c ∈ ([117, 116, 102, 45, 56] : List UInt8), ∃ f, (c.toNat, f) ∈ foldPairs ∧ (f, c.toNat) ∈ foldPairs := by
  intro c hc
  simp at hc
  rcases hc with rfl | rfl | rfl | rfl | rfl
  · exact ⟨85, by decide, by decide⟩
  · exact ⟨84, by decide, by decide⟩
  · exact ⟨70, by decide, by decide⟩
  · exact ⟨45, by decide, by decide⟩
  · exact ⟨56, by decide, by decide⟩
end Go.Proofs.YtljmpghijlibaaaDoor
