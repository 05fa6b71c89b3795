/- Small lemmas on worlds that this seat's texts use; no condition. -/
import Derived.Test.YtljplmidnlahpaaRows
import Derived.WalkKit
import Derived.ProofKit
import Derived.OpenShut
import Derived.ShutString
import Derived.ChangeOld
import Derived.Below
import Derived.BigQuiet
import Derived.Deep.QuietTactic
import Derived.Lib.Hide
import Derived.Deep.LoopGhost
import Derived.Deep.DeepFit
import Derived.Deep.DeepMust
import Derived.WalkSpells
import Derived.WalkLawsBesides
namespace Go.Proofs.Ytljplmidnlahpaa
open Go.ChangeShapes Go.WideShapes Go.ChangeAt Go.RowKit
set_option linter.unusedVariables false
/-- What every file over this seat uses: blocks of cells as wholes, and how they stand behind a store and a new block. -/
theorem cell_of {w : World} {b : Nat} {vs : Array Value} {T : TypeId} {f : Nat × Nat} (i : Nat) (h : w.heap[b]? = some (.cells vs T f)) : w.cell? ⟨b, i, none⟩ = vs[i]? := by simp [World.cell?, h]
theorem free_of {w : World} {b : Nat} {vs : Array Value} {T : TypeId} (i : Nat) (h : w.heap[b]? = some (.cells vs T)) : w.frozen? ⟨b, i, none⟩ = false := by simp [World.frozen?, h]
theorem lt_of {w : World} {b : Nat} {o : Obj} (h : w.heap[b]? = some o) : b < w.heap.size := by
  rcases Nat.lt_or_ge b w.heap.size with h' | h'
  · exact h'
  · simp [Array.getElem?_eq_none h'] at h
theorem hp_new (w : World) (o : Obj) : (w.alloc o).heap[w.heap.size]? = some o := by
  show (w.heap.push o)[w.heap.size]? = _
  simp
theorem hp_old {w : World} {o o' : Obj} {k : Nat} (h : w.heap[k]? = some o') : (w.alloc o).heap[k]? = some o' := by
  rw [← h]; exact Below.heap_alloc _ _ _ (lt_of h)
theorem hp_other {w : World} {b i k : Nat} {v : Value} (h : k ≠ b) : (w.setCell ⟨b, i, none⟩ v).heap[k]? = w.heap[k]? := Below.heap_setCell _ _ _ _ h
theorem hp_set {w : World} {b i : Nat} {v : Value} {vs : Array Value} {T : TypeId} {f : Nat × Nat} (h : w.heap[b]? = some (.cells vs T f)) :
    (w.setCell ⟨b, i, none⟩ v).heap[b]? = some (.cells (vs.setIfInBounds i v) T f) := by
  simp [World.setCell, Array.getElem?_modify, h]
theorem below_drewN' {B : Nat} {a w : World} {n : Nat} (h : Below B a w) : Below B a (w.drewN n) := below_drewN h n
theorem gr_refl (w : World) (row : Option Nat) : w.grownBy w row := ⟨rfl, rfl, rfl, Nat.le_refl _, fun _ _ _ => rfl⟩
theorem _root_.Go.World.grownBy.trans' {a b c : World} {row : Option Nat} (h : a.grownBy b row) (k : b.grownBy c row) : a.grownBy c row :=
  ⟨k.os.trans h.os, k.tape.trans h.tape, k.output.trans h.output, Nat.le_trans h.size k.size, fun i hi hr => (k.block i (Nat.lt_of_lt_of_le hi h.size) hr).trans (h.block i hi hr)⟩
theorem _root_.Go.World.grownBy.drewN {a w : World} {row : Option Nat} {n : Nat} (h : a.grownBy w row) : a.grownBy (w.drewN n) row := ⟨h.os, h.tape, h.output, h.size, h.block⟩
theorem _root_.Go.World.grownBy.setCell {a w : World} {b : Nat} (h : a.grownBy w (some b)) (i : Nat) (v : Value) : a.grownBy (w.setCell ⟨b, i, none⟩ v) (some b) :=
  ⟨h.os, h.tape, h.output, by simpa using h.size, fun k hk hr => by rw [hp_other (by intro e; exact hr (by rw [e]))]; exact h.block k hk hr⟩
theorem _root_.Go.World.grownBy.alloc {a w : World} {row : Option Nat} (h : a.grownBy w row) (o : Obj) : a.grownBy (w.alloc o) row :=
  ⟨h.os, h.tape, h.output, by have := h.size; simp; omega, fun k hk hr => by rw [Below.heap_alloc _ _ _ (by have := h.size; omega)]; exact h.block k hk hr⟩
theorem _root_.Go.RowKit.Below.gr {w w' : World} (h : Below w.heap.size w w') (row : Option Nat) : w.grownBy w' row := ⟨h.os, h.tape, h.output, h.size, fun k hk _ => h.block k hk⟩
theorem _root_.Go.World.grownBy.below {w w' : World} {b B : Nat} (h : w.grownBy w' (some b)) (hB : B ≤ w.heap.size) (hb : B ≤ b) : Below B w w' := (Below.refl B w).grown h hB fun k e => by cases e; exact hb
/-- WHAT THE WALK IS TOLD OF A SLICE OF INTEGERS THAT CAME IN. -/
def IsRow (k : IntKind) (w : World) (a : Option Addr) (len cap : Nat) (zs : List Int) : Prop :=
  (a = none ∧ len = 0 ∧ cap = 0 ∧ zs = []) ∨
  ∃ x, a = some x ∧ len ≤ cap ∧ cap ≤ maxLen ∧ zs.length = cap ∧ (∀ i, i < zs.length → w.cell? (x.add i) = some (.int k (zs.getD i 0))) ∧ ∀ n ∈ zs, (Lit.int k n).wf = true
theorem IsRow.at {k : IntKind} {w : World} {a : Option Addr} {len cap : Nat} {zs : List Int} (h : IsRow k w a len cap zs) : len ≤ cap ∧ zs.length = cap ∧ len ≤ maxLen ∧
    (0 < len → ∃ b o, a = some ⟨b, o, none⟩ ∧ b < w.heap.size ∧ ∀ i, i < len → w.cell? ⟨b, o + i, none⟩ = some (.int k (zs.getD i 0))) := by
  rcases h with ⟨rfl, rfl, rfl, rfl⟩ | ⟨⟨b, o, s⟩, rfl, hl, hm, hz, hc, _⟩
  · exact ⟨by omega, rfl, Nat.zero_le _, fun h => absurd h (by omega)⟩
  · refine ⟨hl, hz, by omega, fun h0 => ?_⟩
    have h := hc 0 (by omega)
    have hs : s = none := by simpa [Addr.add] using World.cell?_spot h
    subst hs
    exact ⟨b, o, rfl, World.block_lt_of_cell? w _ h, fun i hi => by
    have := hc i (by omega)
    unfold Addr.add at this
    split at this
    · rename_i hi; subst hi; exact this
    · exact this⟩

end Go.Proofs.Ytljplmidnlahpaa
