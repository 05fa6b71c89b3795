/- Parse: the whole. -/
import Derived.Test.YtbllodeanfdebaaGreatDoorRows
import Derived.WalkKit
import Derived.ProofKit
import Derived.OpenShut
import Derived.ShutString
import Derived.ChangeOld
import Derived.Below
import Derived.BigQuiet
import Derived.Deep.QuietTactic
import Derived.Lib.Hide
import Derived.Deep.RegionHeld3
import Derived.Lib.SlBytesConst
import Derived.Laws.CopyOwn
import Derived.Laws.CopyRow
import Derived.Lib.Bytes
import Derived.Deep.LoopGhost
import Derived.Deep.DeepFit
import Derived.Deep.DeepMust
import Derived.WalkSpells
import Derived.WalkLawsBesides
import Derived.Laws.EntriesVeiled
import Derived.Tactics2
import Derived.Laws.Rows
import Derived.Lib.Replace
import Derived.Lib.Split
import Derived.Lib.ItoaNum
import Derived.Lib.AtoiAllCases
import Derived.Lib.AtoiErrMem
import Derived.Lib.AppendIntMem
import Derived.Maps.OwnOps
import Derived.Maps.OwnSet
import Derived.Maps.Views
import Derived.Maps.AppendAt
import Derived.Deep.AppendLies
import Derived.Defers
import Derived.Recover
import Derived.Laws.Pointers
import Derived.Test.YtbllodeanfdebaaGreatDoorShelf
import Derived.Test.YtbllodeanfdebaaGreatDoorBase
import Derived.Test.YtbllodeanfdebaaGreatDoorCsE
import Derived.Test.YtbllodeanfdebaaGreatDoorCsG
import Derived.Test.YtbllodeanfdebaaGreatDoorCsH
import Derived.Test.YtbllodeanfdebaaGreatDoorCsI
import Derived.Test.YtbllodeanfdebaaGreatDoorCsJ
import Derived.Test.YtbllodeanfdebaaGreatDoorCalm
import Derived.Test.YtbllodeanfdebaaGreatDoorCsL
import Derived.Test.YtbllodeanfdebaaGreatDoorRowS
import Derived.Test.YtbllodeanfdebaaGreatDoorRowG
import Derived.Test.YtbllodeanfdebaaGreatDoorCsO
import Derived.Test.YtbllodeanfdebaaGreatDoorCsM
import Derived.Test.YtbllodeanfdebaaGreatDoorCsN2
import Derived.Test.YtbllodeanfdebaaGreatDoorStL
import Derived.Test.YtbllodeanfdebaaGreatDoorCsO2
import Derived.Test.YtbllodeanfdebaaGreatDoorCsQ
import Derived.Test.YtbllodeanfdebaaGreatDoorStr
import Derived.Test.YtbllodeanfdebaaGreatDoorCsR
import Derived.Test.YtbllodeanfdebaaGreatDoorCsS
import Derived.Test.YtbllodeanfdebaaGreatDoorCsT
import Derived.Test.YtbllodeanfdebaaGreatDoorCsU
namespace Go.Proofs.YtbllodeanfdebaaGreatDoor
open Go.ChangeShapes Go.WideShapes Go.ChangeAt Go.RowKit
set_option linter.unusedVariables false
def isStructC (P : Program) (t : TypeId) : Bool := match P.underlying t with | some (.struct _) => true | _ => false
theorem isStruct_ofC {P : Program} {t : TypeId} (h : isStructC P t = true) : ∃ d, P.underlying t = some (.struct d) := by
  unfold isStructC at h
  split at h
  · exact ⟨_, by assumption⟩
  · cases h
def cS1 (s : List UInt8) : List Value := [.string ⟨s.toArray⟩]
/-- What Parse answers, in memory. -/
def bigS (c : CaseC) : Bool := decide (64 < c.allow.length ∨ 256 < c.script.length)
structure CaseAt (w : World) (v : Value) (c : CaseC) : Prop where
  ex : ∃ (A1 A2 A3 : Option Addr) (c1 c2 c3 : Nat) (ys : List AnV), v = .agg (caseV (.slice A1 c.doc.length c1) c.lim (.slice A2 c.allow.length c2) (.slice A3 c.script.length c3)) ∧
    Byt w w.heap.size A1 c.doc.length c1 c.doc ∧ RRd cS1 1 w w.heap.size A2 c.allow.length c2 c.allow ∧ ys.map AnV.a = c.script ∧ RRd cAn 3 w w.heap.size A3 c.script.length c3 ys ∧ ∀ y ∈ ys, Byt w w.heap.size y.A y.a.data.length y.cap y.a.data
def PsPost (R : PrsC) (w : World) (e : Ending) (w' : World) : Prop :=
  Below w.heap.size w w' ∧
  ((∃ n, R = .bad n ∧ e = .returned (.tuple #[.agg Z9, .int .i64 (n : Int), .int .i64 15])) ∨
   (R = .big ∧ e = .returned (.tuple #[.agg Z9, .int .i64 0, .int .i64 13])) ∨
   (∃ c v, R = .ok c ∧ e = .returned (.tuple #[v, .int .i64 0, .int .i64 0]) ∧ CaseAt w' v c))
theorem results_cell3C {P : Program} {fn : Func} {p q r : Tmp} {ty tq tr : TypeId} (h : fn.results = #[.cell p ty, .cell q tq, .cell r tr]) (tmps : Array Value) (w : World) (g : Nat) (t : TypeId) (cs : Array Value) (fr : Nat × Nat) (d : TypeDesc) (aq ar : Addr) (vq vr : Value)
    (hp : tmps.getD p undef = .pointer (some ⟨g, 0, none⟩)) (hg : w.heap[g]? = some (.cells cs t fr))
    (hu : P.underlying ty = some d) (hd : (match d with | .struct _ | .array _ _ => true | _ => false) = true) (hi : (P.info? ty).map (·.size) = some cs.size)
    (hq : tmps.getD q undef = .pointer (some aq)) (hlq : (loadVar tq aq).run P w = .ok vq w) (hr : tmps.getD r undef = .pointer (some ar)) (hlr : (loadVar tr ar).run P w = .ok vr w) :
    (results fn tmps).run P w = .ok (.tuple #[.agg cs, vq, vr]) w := by
  have hp' : tmps[p]?.getD undef = .pointer (some ⟨g, 0, none⟩) := by simpa using hp
  have hq' : tmps[q]?.getD undef = .pointer (some aq) := by simpa using hq
  have hr' : tmps[r]?.getD undef = .pointer (some ar) := by simpa using hr
  simp [results, h, hp', hq', hr', asAddr, run_loadVar_row w g t ty cs fr d hg hu hd hi, hlq, hlr]
theorem load_intC {w : World} {b : Nat} {z : Int} (h : w.heap[b]? = some (.cells #[.int .i64 z] 3)) : (loadVar 3 ⟨b, 0, none⟩).run Tryz.prog w = .ok (.int .i64 z) w := by
  have hc : w.cell? ⟨b, 0, none⟩ = some (.int .i64 z) := by rw [cell_of 0 h]; rfl
  go_simp
theorem load_errC {w : World} {b : Nat} {z : Int} (h : w.heap[b]? = some (.cells #[.int .i64 z] 30)) : (loadVar 30 ⟨b, 0, none⟩).run Tryz.prog w = .ok (.int .i64 z) w := by
  have hc : w.cell? ⟨b, 0, none⟩ = some (.int .i64 z) := by rw [cell_of 0 h]; rfl
  go_simp
def catchV (N : Nat) : Deferred := { target := .fn (.func 16) #[.pointer (some ⟨N, 0, none⟩), .pointer (some ⟨N + 1, 0, none⟩), .pointer (some ⟨N + 2, 0, none⟩)], args := #[] }
theorem caseInfo : (Tryz.prog.info? 29).map (·.size) = some 9 := by kernel_rfl
/-- A fault comes out of Parse's text: it is told. -/
theorem parse_pan {R : Ending → World → Prop} {tmps : Array Value} {N n : Nat} {vs : Array Value} {W : World} (h2 : tmps.getD 2 undef = .pointer (some ⟨N, 0, none⟩)) (h3 : tmps.getD 3 undef = .pointer (some ⟨N + 1, 0, none⟩)) (h4 : tmps.getD 4 undef = .pointer (some ⟨N + 2, 0, none⟩))
    (hc : W.heap[N]? = some (.cells vs 29)) (hs : vs.size = 9) (hn : W.heap[N + 1]? = some (.cells #[.int .i64 0] 3)) (he : W.heap[N + 2]? = some (.cells #[.int .i64 0] 30))
    (hR : ∀ W', Below N W W' → R (.returned (.tuple #[.agg Z9, .int .i64 (n : Int), .int .i64 15])) W') : bodyPostD Tryz.prog Tryz.f6 R (Exit.panic (lineV n)) { tmps := tmps, defers := [catchV N] } W := by
  obtain ⟨d9, hu⟩ := isStruct_ofC (P := Tryz.prog) (t := 29) (by kernel_rfl)
  show Leaves _ _ _ _ _ _ _
  refine leaves_cons (f := 16) (args := #[.pointer (some ⟨N, 0, none⟩), .pointer (some ⟨N + 1, 0, none⟩), .pointer (some ⟨N + 2, 0, none⟩)]) (by simp) (by simp [go_sem]) ?_
  refine (catchStop_c N n vs W hc hs hn he).mono ?_
  rintro e u' W' ⟨rfl, rfl, q0, q1, q2, hb⟩
  show Leaves _ _ _ _ [] (settle _) W'
  simp only [settle, List.dropWhile]
  exact ⟨_, results_cell3C rfl tmps W' N _ _ _ (.struct d9) _ _ _ _ h2 q0 hu rfl caseInfo h3 (load_intC q1) h4 (load_errC q2), hR W' hb⟩
/-- Parse's text comes to its end: what its results hold. -/
theorem parse_ret {R : Ending → World → Prop} {tmps : Array Value} {N : Nat} {x y : Int} {vs : Array Value} {W : World} (h2 : tmps.getD 2 undef = .pointer (some ⟨N, 0, none⟩)) (h3 : tmps.getD 3 undef = .pointer (some ⟨N + 1, 0, none⟩)) (h4 : tmps.getD 4 undef = .pointer (some ⟨N + 2, 0, none⟩))
    (hc : W.heap[N]? = some (.cells vs 29)) (hs : vs.size = 9) (hn : W.heap[N + 1]? = some (.cells #[.int .i64 x] 3)) (he : W.heap[N + 2]? = some (.cells #[.int .i64 y] 30))
    (hR : ∀ W', Below W.heap.size W W' → R (.returned (.tuple #[.agg vs, .int .i64 x, .int .i64 y])) W') : bodyPostD Tryz.prog Tryz.f6 R Exit.ret { tmps := tmps, defers := [catchV N] } W := by
  obtain ⟨d9, hu⟩ := isStruct_ofC (P := Tryz.prog) (t := 29) (by kernel_rfl)
  show Leaves _ _ _ _ _ _ _
  refine leaves_cons (f := 16) (args := #[.pointer (some ⟨N, 0, none⟩), .pointer (some ⟨N + 1, 0, none⟩), .pointer (some ⟨N + 2, 0, none⟩)]) (by simp) (by simp [go_sem]) ?_
  refine (catchIdle_c ⟨N, 0, none⟩ ⟨N + 1, 0, none⟩ ⟨N + 2, 0, none⟩ W).mono ?_
  rintro e u' W' ⟨rfl, rfl, hb⟩
  show Leaves _ _ _ _ [] (settle _) W'
  simp only [settle]
  exact ⟨_, results_cell3C rfl tmps W' N _ _ _ (.struct d9) _ _ _ _ h2 ((hb.block _ (lt_of hc)).trans hc) hu rfl (by rw [hs]; exact caseInfo) h3 (load_intC ((hb.block _ (lt_of hn)).trans hn)) h4 (load_errC ((hb.block _ (lt_of he)).trans he)), hR W' hb⟩
end Go.Proofs.YtbllodeanfdebaaGreatDoor
