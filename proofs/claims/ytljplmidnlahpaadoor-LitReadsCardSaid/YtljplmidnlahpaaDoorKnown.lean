/- Entities that are always known. -/
import Derived.Test.YtljplmidnlahpaaDoorRows
import Derived.WalkKit
import Derived.ProofKit
import Derived.OpenShut
import Derived.ShutString
import Derived.ChangeOld
import Derived.Below
import Derived.BigQuiet
import Derived.Deep.QuietTactic
import Derived.Lib.Hide
import Derived.Deep.RegionHeld3
import Derived.Lib.SlBytesConst
import Derived.Laws.CopyOwn
import Derived.Laws.CopyRow
import Derived.Lib.Bytes
import Derived.Deep.LoopGhost
import Derived.Deep.DeepFit
import Derived.Deep.DeepMust
import Derived.WalkSpells
import Derived.WalkLawsBesides
import Derived.Laws.EntriesVeiled
import Derived.Laws.Rows
import Derived.Test.YtljplmidnlahpaaDoorBase
import Derived.Test.YtljplmidnlahpaaDoorShelf
import Derived.Test.YtljplmidnlahpaaDoorCharPlain
namespace Go.Proofs.YtljplmidnlahpaaDoor
open Go.ChangeShapes Go.WideShapes Go.ChangeAt Go.RowKit
set_option linter.unusedVariables false
theorem ba_ne2 (s : ByteArray) (l : List UInt8) (h : s ≠ ⟨l.toArray⟩) : (s.toList == l) = false :=
  beq_false_of_ne fun e => h (by rw [← e, Go.Lib.toList_data])
/-- The number of an entity that is always known; 0: it is none. -/
def knownOf (s : ByteArray) : Nat := if s = ⟨#[108, 116]⟩ then 60 else if s = ⟨#[103, 116]⟩ then 62 else if s = ⟨#[97, 109, 112]⟩ then 38 else if s = ⟨#[97, 112, 111, 115]⟩ then 39 else if s = ⟨#[113, 117, 111, 116]⟩ then 34 else 0
set_option maxRecDepth 100000 in
set_option maxHeartbeats 4000000 in
theorem refKnown_c (s : ByteArray) (w : World) : Calls Tryd.prog 29 #[.string s] w fun e w' => e = .returned (.int .i64 (knownOf s)) ∧ w = w' := by
  by_cases h0 : s = ⟨#[108, 116]⟩
  · have e : knownOf s = 60 := by rw [h0]; decide +kernel
    rw [e]
    subst h0
    clear e
    go_enter Tryd.func29, Tryd.ntmps29
    go_wp2
    go_ret
    exact ⟨rfl, rfl⟩
  · have a0 : (s.toList == [108, 116]) = false := ba_ne2 s [108, 116] h0
    by_cases h1 : s = ⟨#[103, 116]⟩
    · have e : knownOf s = 62 := by rw [h1]; decide +kernel
      rw [e]
      subst h1
      clear e
      go_enter Tryd.func29, Tryd.ntmps29
      go_wp2
      go_ret
      exact ⟨rfl, rfl⟩
    · have a1 : (s.toList == [103, 116]) = false := ba_ne2 s [103, 116] h1
      by_cases h2 : s = ⟨#[97, 109, 112]⟩
      · have e : knownOf s = 38 := by rw [h2]; decide +kernel
        rw [e]
        subst h2
        clear e
        go_enter Tryd.func29, Tryd.ntmps29
        go_wp2
        go_ret
        exact ⟨rfl, rfl⟩
      · have a2 : (s.toList == [97, 109, 112]) = false := ba_ne2 s [97, 109, 112] h2
        by_cases h3 : s = ⟨#[97, 112, 111, 115]⟩
        · have e : knownOf s = 39 := by rw [h3]; decide +kernel
          rw [e]
          subst h3
          clear e
          go_enter Tryd.func29, Tryd.ntmps29
          go_wp2
          go_ret
          exact ⟨rfl, rfl⟩
        · have a3 : (s.toList == [97, 112, 111, 115]) = false := ba_ne2 s [97, 112, 111, 115] h3
          by_cases h4 : s = ⟨#[113, 117, 111, 116]⟩
          · have e : knownOf s = 34 := by rw [h4]; decide +kernel
            rw [e]
            subst h4
            clear e
            go_enter Tryd.func29, Tryd.ntmps29
            go_wp2
            go_ret
            exact ⟨rfl, rfl⟩
          · have a4 : (s.toList == [113, 117, 111, 116]) = false := ba_ne2 s [113, 117, 111, 116] h4
            have e : knownOf s = 0 := by unfold knownOf; rw [if_neg h0, if_neg h1, if_neg h2, if_neg h3, if_neg h4]
            rw [e]
            clear e
            go_enter Tryd.func29, Tryd.ntmps29
            go_wp2
            go_ret
            exact ⟨rfl, rfl⟩
end Go.Proofs.YtljplmidnlahpaaDoor
