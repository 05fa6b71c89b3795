import Derived.Test.YtnbfmbkglkjhmaaPmZa
import Derived.Conc.LeavingOf
import Derived.ChangeSlices
import Derived.Deep.Grids
import Derived.Carry
set_option linter.unusedSimpArgs false
set_option linter.unusedVariables false
set_option linter.unusedSectionVars false
namespace Go.Proofs.Ytnbfmbkglkjhmaa
open Go.Conc Go.RowKit Go.Pmp

open Go.ChangeShapes Go.WideShapes Go.ChangeAt
theorem laidOut : laidOutB Try.prog = true := by kernel_rfl
theorem cells3 : Try.prog.cellsOf 3 = 1 := by kernel_rfl
theorem cells4 : Try.prog.cellsOf 4 = 1 := by kernel_rfl
theorem lt_of_cell {w : World} {a : Addr} {v : Value} (h : w.cell? a = some v) : a.block < w.heap.size := by
  unfold World.cell? at h
  split at h
  · rename_i c e f hb
    exact (Array.getElem?_eq_some_iff.1 hb).1
  · cases h
theorem add_block0 (a : Addr) (i : Nat) : (a.add i).block = a.block := by unfold Addr.add; split <;> rfl
/-- A row of numbers among what was read. -/
theorem open_row22 {H : Type} {enc : TypeId × Value → H} {W : World} {bs : Nat} {v : Value} {d : DataW H} {ps : List MemPlace} (hval : Value.okWide Try.prog W .any bs 22 v) (h : DataW.Trod enc Try.prog W 0 (fun _ => true) true 22 v d ps) :
    ∃ (sp : Option Addr) (ad : Addr) (len cap : Nat) (L : Nat → Int), v = .slice sp len cap ∧ len ≤ cap ∧ cap ≤ 9223372036854775807 ∧ (0 < len → sp = some ad) ∧ (0 < len → ad.block < W.heap.size) ∧ ∀ i, i < len → W.cell? (ad.add i) = some (.int .i64 (L i)) := by
  obtain ⟨a0, len, cap, rfl⟩ := okWide_slice Try.underlying22 hval
  obtain ⟨fuel, hf⟩ := h
  rcases open_ints Try.underlying22 Try.underlying3 cells3 hf with ⟨hcs, hx⟩ | ⟨a, len', cap', zs, hcs, _, hl, hm, hz, hx, hcell, hwz⟩
  · simp [Value.cells] at hcs
    obtain ⟨rfl, rfl, rfl⟩ := hcs
    exact ⟨none, ⟨0, 0, none⟩, 0, 0, fun _ => 0, rfl, Nat.le_refl _, by omega, fun h => by omega, fun h => by omega, fun i h => by omega⟩
  · simp [Value.cells] at hcs
    obtain ⟨rfl, rfl, rfl⟩ := hcs
    simp only [if_true] at hz
    have hc : ∀ i, i < len → W.cell? (a.add i) = some (.int .i64 (zs.getD i 0)) := fun i hi => hcell i (by omega)
    exact ⟨some a, a, len, cap, fun i => zs.getD i 0, rfl, hl, by simpa only [maxLen] using hm, fun _ => rfl, fun h => by have := lt_of_cell (hc 0 h); rwa [add_block0] at this, hc⟩
/-- A row of truth values among what was read. -/
theorem open_row23 {H : Type} {enc : TypeId × Value → H} {W : World} {bs : Nat} {v : Value} {d : DataW H} {ps : List MemPlace} (hval : Value.okWide Try.prog W .any bs 23 v) (h : DataW.Trod enc Try.prog W 0 (fun _ => true) true 23 v d ps) :
    ∃ (sp : Option Addr) (ad : Addr) (len cap : Nat) (L : Nat → Bool), v = .slice sp len cap ∧ (0 < len → sp = some ad) ∧ (0 < len → ad.block < W.heap.size) ∧ ∀ i, i < len → W.cell? (ad.add i) = some (.bool (L i)) := by
  obtain ⟨a0, len, cap, rfl⟩ := okWide_slice Try.underlying23 hval
  obtain ⟨fuel, hf⟩ := h
  rcases Go.Deep.open_bools Try.underlying23 Try.underlying4 cells4 hf with ⟨hcs, hx⟩ | ⟨a, len', cap', B, hcs, _, hl, hm, hx, hcell⟩
  · simp [Value.cells] at hcs
    obtain ⟨rfl, rfl, rfl⟩ := hcs
    exact ⟨none, ⟨0, 0, none⟩, 0, 0, fun _ => false, rfl, fun h => by omega, fun h => by omega, fun i h => by omega⟩
  · simp [Value.cells] at hcs
    obtain ⟨rfl, rfl, rfl⟩ := hcs
    have hc : ∀ i, i < len → W.cell? (a.add i) = some (.bool (B i)) := fun i hi => hcell i (by omega)
    exact ⟨some a, a, len, cap, B, rfl, fun _ => rfl, fun h => by have := lt_of_cell (hc 0 h); rwa [add_block0] at this, hc⟩
theorem wf_u8 {n : Int} (h : (Lit.int .u8 n).wf = true) : 0 ≤ n ∧ n ≤ 255 := by
  simp [Lit.wf, IntKind.min, IntKind.max, IntKind.signed, IntKind.bits] at h
  omega
theorem wf_i64 {n : Int} (h : (Lit.int .i64 n).wf = true) : -9223372036854775808 ≤ n ∧ n ≤ 9223372036854775807 := by
  simp [Lit.wf, IntKind.min, IntKind.max, IntKind.signed, IntKind.bits] at h
  omega
end Go.Proofs.Ytnbfmbkglkjhmaa
