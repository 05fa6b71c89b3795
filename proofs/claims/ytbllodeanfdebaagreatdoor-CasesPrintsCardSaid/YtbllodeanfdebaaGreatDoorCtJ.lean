/- Laid errors: what their variables hold; a world for a witness. -/
import Derived.Test.YtbllodeanfdebaaGreatDoorRows
import Derived.WalkKit
import Derived.ProofKit
import Derived.OpenShut
import Derived.ShutString
import Derived.ChangeOld
import Derived.Below
import Derived.BigQuiet
import Derived.Deep.QuietTactic
import Derived.Lib.Hide
import Derived.Deep.RegionHeld3
import Derived.Lib.SlBytesConst
import Derived.Laws.CopyOwn
import Derived.Laws.CopyRow
import Derived.Lib.Bytes
import Derived.Deep.LoopGhost
import Derived.Deep.DeepFit
import Derived.Deep.DeepMust
import Derived.WalkSpells
import Derived.WalkLawsBesides
import Derived.Laws.EntriesVeiled
import Derived.LaidLaws
import Derived.Test.YtbllodeanfdebaaGreatDoorBase
import Derived.Test.YtbllodeanfdebaaGreatDoorLaid0
namespace Go.Proofs.YtbllodeanfdebaaGreatDoor
open Go.ChangeShapes Go.WideShapes Go.ChangeAt Go.RowKit
set_option linter.unusedVariables false
/-- What a laid error's variable holds: an interface value. -/
theorem err_in {P : Program} {w : World} : ∀ (laid : List (String × DataW Unit)) (ps : List MemPlace), DataW.LaidVars P w laid ps → ∀ (name nm : String) (x : DataW Unit), (name, .iface nm x) ∈ laid →
    ∀ (g t : Nat) (ms : Array (String × TypeId)), P.globalNamed name = some g → (P.globals[g]?).map (·.type) = some t → P.underlying t = some (.interface ms) → ∃ u v, w.var? P name = some #[.iface u v]
  | [], _, _, _, _, _, hm, _, _, _, _, _, _ => by cases hm
  | (n, d0) :: r, ps, h, name, nm, x, hm, g, t, ms, hg, ht, hu => by
    obtain ⟨g', t', cs, fuel, p, q, hg', ht', hv, htr, hr, _⟩ := h
    rcases List.mem_cons.1 hm with e | hm
    · cases e
      obtain rfl := Option.some.inj (hg.symm.trans hg')
      obtain rfl := Option.some.inj (ht.symm.trans ht')
      obtain ⟨f', u, v, hc, _, _⟩ := iface_of_trod hu htr
      refine ⟨u, v, ?_⟩
      rw [hv]
      congr 1
      exact Array.toList_inj.1 (by rw [hc])
    · exact err_in r q hr name nm x hm g t ms hg ht hu
theorem err_of {P : Program} {w : World} {laid : List (String × DataW Unit)} (h : laidMet P laid w) (name nm : String) (x : DataW Unit) (hm : (name, .iface nm x) ∈ laid) (g t : Nat) (ms : Array (String × TypeId)) (hg : P.globalNamed name = some g) (ht : (P.globals[g]?).map (·.type) = some t) (hu : P.underlying t = some (.interface ms)) : ∃ u v, w.cell? ⟨g, 0, none⟩ = some (.iface u v) := by
  obtain ⟨ps, hl, _⟩ := h
  obtain ⟨u, v, hv⟩ := err_in laid ps hl name nm x hm g t ms hg ht hu
  obtain ⟨T, fr, hb⟩ := block_of_var hg hv
  exact ⟨u, v, by rw [cell_of 0 hb]; rfl⟩
def layErrs (low : Nat) : Nat → List (Nat × List UInt8) → Array Obj → Array Obj
  | _, [], h => h
  | i, e :: r, h => layErrs low (i + 1) r (h.modify e.1 (layObj #[.iface 160 (.pointer (some ⟨low + i, 0, none⟩))]))
/-- A world for a witness: the settled one, the listed variables' blocks holding what is listed; errors as errors.New makes them. -/
noncomputable def laidWorldE (l : List (Nat × DataW Unit)) (es : List (Nat × List UInt8)) (os : Os) : World :=
  let w0 := World.holding Tryz.prog os ⟨(es.map fun e => Obj.cells #[.string ⟨e.2.toArray⟩] 162).toArray, #[], []⟩
  { w0 with heap := layErrs (World.settled Tryz.prog default).heap.size 0 es (layHeap l w0.heap) }
end Go.Proofs.YtbllodeanfdebaaGreatDoor
