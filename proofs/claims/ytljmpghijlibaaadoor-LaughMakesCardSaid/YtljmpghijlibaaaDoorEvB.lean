/- (*strings.Builder).Write. -/
import Derived.Test.YtljmpghijlibaaaDoorRows
import Derived.WalkKit
import Derived.ProofKit
import Derived.OpenShut
import Derived.ShutString
import Derived.ChangeOld
import Derived.Below
import Derived.BigQuiet
import Derived.Deep.QuietTactic
import Derived.Lib.Hide
import Derived.Deep.RegionHeld3
import Derived.Lib.SlBytesConst
import Derived.Laws.CopyOwn
import Derived.Laws.CopyRow
import Derived.Lib.Bytes
import Derived.Deep.LoopGhost
import Derived.Deep.DeepFit
import Derived.Deep.DeepMust
import Derived.WalkSpells
import Derived.WalkLawsBesides
import Derived.Shelf.Strings.Builder1
import Derived.Laws.EntriesVeiled
import Derived.Laws.Rows
import Derived.Laws.AppendOwn
import Derived.Test.YtljmpghijlibaaaDoorShelf
import Derived.Test.YtljmpghijlibaaaDoorBase
import Derived.Test.YtljmpghijlibaaaDoorBuild2
namespace Go.Proofs.YtljmpghijlibaaaDoor
open Go.ChangeShapes Go.WideShapes Go.ChangeAt Go.RowKit
set_option linter.unusedVariables false
theorem add_block (a : Addr) (j : Nat) : (a.add j).block = a.block := by
  unfold Addr.add
  split <;> rfl
theorem cell_block {w w' : World} {p : Addr} (h : w'.heap[p.block]? = w.heap[p.block]?) : w'.cell? p = w.cell? p := by
  unfold World.cell?
  rw [h]
/-- copyCheck writes the builder's own block alone. -/
theorem copyCheck_o (b : Nat) (l : List UInt8) (w : World) (h : Bld (b + 1) b l w) :
    Calls Tryd.prog 54 #[.pointer (some ⟨b, 0, none⟩)] w fun e w' => e = .returned (.tuple #[]) ∧ BldP (.pointer (some ⟨b, 0, none⟩)) (b + 1) b l w' ∧ (Fr (b + 1) b w w' ∧ Kp b w w') ∧ ∀ k, k ≠ b → w'.heap[k]? = w.heap[k]? := by
  rcases h with ⟨hb, v, hh, ho⟩ | h
  · refine (copyCheck_fresh b w (by rw [cell_of 0 hh]; rfl) (by simp [World.shape?, hh]) (free_of 0 hh)).mono ?_
    rintro e w' ⟨rfl, rfl⟩
    refine ⟨rfl, ⟨hb, v, ?_, ?_⟩, ⟨(Fr.refl (b + 1) b w).set 0 _, fun k vs T f h1 _ h3 => by rw [hp_other h1]; exact h3⟩, fun k hk => hp_other hk⟩
    · rw [hp_set hh]; rfl
    · refine ho.kept (row := some b) ((gr_refl w (some b)).setCell 0 _) (Or.inr ?_)
      intro e
      have := (ho.lt b e).1
      omega
  · obtain ⟨hb, v, hh, ho⟩ := h
    refine (copyCheck_used b w (by rw [cell_of 0 hh]; rfl)).mono ?_
    rintro e w' ⟨rfl, rfl⟩
    exact ⟨rfl, ⟨hb, v, hh, ho⟩, ⟨Fr.refl _ b _, fun k vs T f _ _ h3 => h3⟩, fun _ _ => rfl⟩
end Go.Proofs.YtljmpghijlibaaaDoor
