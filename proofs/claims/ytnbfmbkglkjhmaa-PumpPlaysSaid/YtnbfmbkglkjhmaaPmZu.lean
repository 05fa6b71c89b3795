import Derived.Test.YtnbfmbkglkjhmaaPmZn
set_option linter.unusedSimpArgs false
set_option linter.unusedVariables false
set_option linter.unusedSectionVars false
namespace Go.Proofs.Ytnbfmbkglkjhmaa
open Go.Conc Go.RowKit Go.Pmp
theorem set3_heap {w : World} {g : Nat} {o0 o1 o2 : Value} (x y z : Value) (hg : w.heap[g]? = some (.cells #[o0, o1, o2] 30)) : (((w.setCell ⟨g, 0, none⟩ x).setCell ⟨g, 1, none⟩ y).setCell ⟨g, 2, none⟩ z).heap[g]? = some (.cells #[x, y, z] 30) := by
  simp [World.setCell, Array.getElem?_modify, hg]
theorem Grew.grown {a b c : World} {g : Nat} (h : Grew a b) (hg : b.grownBy c (some g)) (hge : a.heap.size ≤ g) : Grew a c :=
  ⟨hg.tape.trans h.tape, hg.os.trans h.os, hg.output.trans h.output, Nat.le_trans h.size hg.size, fun k hk => (hg.block k (Nat.lt_of_lt_of_le hk h.size) (fun e => by cases e; omega)).trans (h.block k hk)⟩
end Go.Proofs.Ytnbfmbkglkjhmaa
