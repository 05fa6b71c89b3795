/- The row of pointers to a configuration's numbers. -/
import Derived.Test.YtbllodeanfdebaaGreatDoorRows
import Derived.WalkKit
import Derived.ProofKit
import Derived.OpenShut
import Derived.ShutString
import Derived.ChangeOld
import Derived.Below
import Derived.BigQuiet
import Derived.Deep.QuietTactic
import Derived.Lib.Hide
import Derived.Deep.RegionHeld3
import Derived.Lib.SlBytesConst
import Derived.Laws.CopyOwn
import Derived.Laws.CopyRow
import Derived.Lib.Bytes
import Derived.Deep.LoopGhost
import Derived.Deep.DeepFit
import Derived.Deep.DeepMust
import Derived.WalkSpells
import Derived.WalkLawsBesides
import Derived.Laws.EntriesVeiled
import Derived.Laws.Rows
import Derived.Lib.Replace
import Derived.Lib.Split
import Derived.Lib.ItoaNum
import Derived.Lib.AtoiAllCases
import Derived.Lib.AtoiErrMem
import Derived.Lib.AppendIntMem
import Derived.Test.YtbllodeanfdebaaGreatDoorShelf
import Derived.Test.YtbllodeanfdebaaGreatDoorBase
import Derived.Test.YtbllodeanfdebaaGreatDoorCsE
import Derived.Test.YtbllodeanfdebaaGreatDoorCsG
import Derived.Test.YtbllodeanfdebaaGreatDoorCsH
import Derived.Test.YtbllodeanfdebaaGreatDoorCsI
import Derived.Test.YtbllodeanfdebaaGreatDoorCsJ
import Derived.Test.YtbllodeanfdebaaGreatDoorCalm
namespace Go.Proofs.YtbllodeanfdebaaGreatDoor
open Go.ChangeShapes Go.WideShapes Go.ChangeAt Go.RowKit
set_option linter.unusedVariables false
/-- The six pointers to a configuration's numbers. -/
def ptrsV (cb o : Nat) : Array Value := #[.pointer (some ⟨cb, o, none⟩), .pointer (some ⟨cb, o + 1, none⟩), .pointer (some ⟨cb, o + 2, none⟩), .pointer (some ⟨cb, o + 3, none⟩), .pointer (some ⟨cb, o + 4, none⟩), .pointer (some ⟨cb, o + 5, none⟩)]
set_option maxRecDepth 100000 in
set_option maxHeartbeats 4000000 in
theorem limits_c (cb : Nat) (w : World) :
    Calls Tryz.prog 34 #[.pointer (some ⟨cb, 1, none⟩)] w fun e w' => e = .returned (.slice (some ⟨w.heap.size, 0, none⟩) 6 6) ∧ w'.heap[w.heap.size]? = some (.cells (ptrsV cb 1) 88) ∧ Below w.heap.size w w' := by
  go_enter Tryz.func34, Tryz.ntmps34
  go_wp2
  refine wp_region_calm (fun W => Hid (∃ n, W = w.drewN n)) 18 (by kernel_rfl) (by kernel_rfl) (Lib.hid ⟨1, rfl⟩) ?_
  simp only [List.take_succ_cons, List.take_zero, List.drop_succ_cons, List.drop_zero]
  repeat
    refine wpQuiet_step (fun K hK => ?_)
    go_simp
    first
      | (refine hK _ ?_; clear hK K)
      | (apply Exists.intro
         refine ⟨fun W hW => ?_, hK _ ?_⟩
         · exact rfl
         clear hK K)
  refine wpQuiet_nil ?_
  intro w9 hw9
  obtain ⟨n, rfl⟩ := hw9.out
  go_wp2
  go_ret
  exact ⟨rfl, hp_new _ _, (below_drewN' (Below.refl _ _)).alloc (Nat.le_refl _) _⟩
end Go.Proofs.YtbllodeanfdebaaGreatDoor
