/- A sheet of layer 44, read. -/
import Derived.Test.YtocbofeanfdggaaDoorRows
import Derived.WalkKit
import Derived.ProofKit
import Derived.OpenShut
import Derived.ShutString
import Derived.ChangeOld
import Derived.Below
import Derived.BigQuiet
import Derived.Deep.QuietTactic
import Derived.Lib.Hide
import Derived.Deep.RegionHeld3
import Derived.Lib.SlBytesConst
import Derived.Laws.CopyOwn
import Derived.Laws.CopyRow
import Derived.Lib.Bytes
import Derived.Deep.LoopGhost
import Derived.Deep.DeepFit
import Derived.Deep.DeepMust
import Derived.WalkSpells
import Derived.WalkLawsBesides
import Derived.Laws.EntriesVeiled
import Derived.Laws.Rows
import Derived.Deep.RegionWith
import Derived.Lib.ItoaNum
import Derived.Lib.AppendIntMem
import Derived.Deep.Slices
import Derived.Deep.Fields
import Derived.ChangeArms
import Derived.DataReads
import Derived.OpenShut
import Derived.Test.YtocbofeanfdggaaDoorS1
import Derived.Test.YtocbofeanfdggaaDoorS2
import Derived.Test.YtocbofeanfdggaaDoorS3
import Derived.Test.YtocbofeanfdggaaDoorS5
import Derived.Test.YtocbofeanfdggaaDoorS6
import Derived.Test.YtocbofeanfdggaaDoorS7
import Derived.Test.YtocbofeanfdggaaDoorS8
import Derived.Test.YtocbofeanfdggaaDoorS9
import Derived.Test.YtocbofeanfdggaaDoorS10
import Derived.Test.YtocbofeanfdggaaDoorS11
import Derived.Test.YtocbofeanfdggaaDoorS12
import Derived.Test.YtocbofeanfdggaaDoorS14
namespace Go.Proofs.YtocbofeanfdggaaDoor
open Go.ChangeShapes Go.WideShapes Go.ChangeAt Go.RowKit
set_option linter.unusedVariables false
theorem cellsSheet : Tryd.prog.cellsOf 26 = 8 := by kernel_rfl
theorem cellsEvs : Tryd.prog.cellsOf 22 = 1 := by kernel_rfl
theorem cellsStrs : Tryd.prog.cellsOf 23 = 1 := by kernel_rfl
theorem cells4 : Tryd.prog.cellsOf 24 = 4 := by kernel_rfl
theorem i64_wf {z : Int} (h : (Lit.int .i64 z).wf = true) : I64 z := by
  simp only [Lit.wf, IntKind.min, IntKind.max, Bool.and_eq_true] at h
  simp [IntKind.bits, IntKind.signed] at h
  exact ⟨by omega, by omega⟩
section
variable {H : Type} {enc : TypeId × Value → H} {W : World}
set_option maxRecDepth 100000 in
set_option maxHeartbeats 4000000 in
theorem four_open {n : Nat} {cs : List Value} {x : DataW H × List MemPlace} (h : DataW.trod enc Tryd.prog W 0 (fun _ => true) true n 24 cs = some x) : ∃ z0 z1 z2 z3 : Int, cs = [.int .i64 z0, .int .i64 z1, .int .i64 z2, .int .i64 z3] ∧ I64 z0 ∧ I64 z1 ∧ I64 z2 ∧ I64 z3 := by
  obtain ⟨xs, k, _, _, hl, hlen, hF⟩ := DataW.trod_array Tryd.underlying24 h
  rw [cells4] at hl
  match xs, hlen, cs, hl with
  | [y0, y1, y2, y3], _, [c0, c1, c2, c3], _ =>
    have g0 := hF 0 (by omega)
    have g1 := hF 1 (by omega)
    have g2 := hF 2 (by omega)
    have g3 := hF 3 (by omega)
    simp [cellsInt] at g0 g1 g2 g3
    obtain ⟨z0, e0, _, w0⟩ := DataW.trod_int Tryd.underlying3 g0
    obtain ⟨z1, e1, _, w1⟩ := DataW.trod_int Tryd.underlying3 g1
    obtain ⟨z2, e2, _, w2⟩ := DataW.trod_int Tryd.underlying3 g2
    obtain ⟨z3, e3, _, w3⟩ := DataW.trod_int Tryd.underlying3 g3
    simp at e0 e1 e2 e3
    subst e0 e1 e2 e3
    exact ⟨z0, z1, z2, z3, rfl, i64_wf w0, i64_wf w1, i64_wf w2, i64_wf w3⟩
set_option maxRecDepth 100000 in
set_option maxHeartbeats 4000000 in
theorem sheet_open {n : Nat} {cs : List Value} {x : DataW H × List MemPlace} (h : DataW.trod enc Tryd.prog W 0 (fun _ => true) true n 26 cs = some x) :
    ∃ EA en ec vs e c SA sn sc ss z0 z1 z2 z3, cs = [.slice EA en ec, .int .i64 e, .int .i64 c, .slice SA sn sc, .int .i64 z0, .int .i64 z1, .int .i64 z2, .int .i64 z3] ∧ ERd W W.heap.size EA en ec vs ∧ en ≤ Rows.uptoBulk x.1 ∧ (∀ v ∈ vs, EvLe (Rows.uptoBulk x.1) v) ∧ RRd cSt 1 W W.heap.size SA sn sc ss ∧ I64 z0 ∧ I64 z1 ∧ I64 z2 ∧ I64 z3 := by
  obtain ⟨xs, k, _, hx, hl, hlen, hF⟩ := DataW.trod_struct Tryd.underlying26 h
  rw [cellsSheet] at hl
  match xs, hlen, cs, hl with
  | [y0, y1, y2, y3, y4], _, [c0, c1, c2, c3, c4, c5, c6, c7], _ =>
    have g0 := hF 0 _ rfl
    have g1 := hF 1 _ rfl
    have g2 := hF 2 _ rfl
    have g3 := hF 3 _ rfl
    have g4 := hF 4 _ rfl
    simp [cellsEvs, cellsInt, cellsStrs, cells4] at g0 g1 g2 g3 g4
    obtain ⟨EA, en, ec, vs, e0, hr, b0, b1⟩ := evs_open g0
    obtain ⟨e, e1, _⟩ := DataW.trod_int Tryd.underlying3 g1
    obtain ⟨c, e2, _⟩ := DataW.trod_int Tryd.underlying3 g2
    obtain ⟨SA, sn, sc, ss, e3, hs, _⟩ := srd_of_trod g3
    obtain ⟨z0, z1, z2, z3, e4, w0, w1, w2, w3⟩ := four_open g4
    simp at e1 e2 e4
    obtain ⟨rfl, rfl, rfl, rfl⟩ := e4
    subst e0 e1 e2 e3
    have hb : Rows.uptoBulk y0.1 ≤ Rows.uptoBulk x.1 := by rw [hx]; simp [Rows.uptoBulk, Rows.uptoBulkAll]; omega
    exact ⟨EA, en, ec, vs, e, c, SA, sn, sc, ss, z0, z1, z2, z3, rfl, hr, by omega, fun v hv => (b1 v hv).mono hb, hs, w0, w1, w2, w3⟩
end
end Go.Proofs.YtocbofeanfdggaaDoor
