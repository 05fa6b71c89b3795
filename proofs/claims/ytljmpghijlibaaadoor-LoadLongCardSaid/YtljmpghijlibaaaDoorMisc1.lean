/- narthexref08.At, Find. -/
import Derived.Test.YtljmpghijlibaaaDoorRows
import Derived.WalkKit
import Derived.ProofKit
import Derived.OpenShut
import Derived.ShutString
import Derived.ChangeOld
import Derived.Below
import Derived.BigQuiet
import Derived.Deep.QuietTactic
import Derived.Lib.Hide
import Derived.Deep.RegionHeld3
import Derived.Lib.SlBytesConst
import Derived.Laws.CopyOwn
import Derived.Laws.CopyRow
import Derived.Lib.Bytes
import Derived.Deep.LoopGhost
import Derived.Deep.DeepFit
import Derived.Deep.DeepMust
import Derived.WalkSpells
import Derived.WalkLawsBesides
import Derived.Test.YtljmpghijlibaaaDoorBase
import Derived.Test.YtljmpghijlibaaaDoorShelf
import Derived.Test.YtljmpghijlibaaaDoorCharPlain
import Derived.Test.YtljmpghijlibaaaDoorMiscP
namespace Go.Proofs.YtljmpghijlibaaaDoor
open Go.ChangeShapes Go.WideShapes Go.ChangeAt Go.RowKit
set_option linter.unusedVariables false
theorem pre_take (p l : List UInt8) : p.isPrefixOf l = (l.take p.length == p) := by
  rw [Bool.eq_iff_iff, List.isPrefixOf_iff_prefix, beq_iff_eq, List.prefix_iff_eq_take]
  exact eq_comm
set_option maxRecDepth 100000 in
set_option maxHeartbeats 4000000 in
theorem refAt8_c (A : Option Addr) (n cap : Nat) (l : List UInt8) (k : Nat) (p : List UInt8) (B : Nat) (w : World) (h : Byt w B A n cap l) (hp : p ≠ []) (hm : n ≤ 1000000) (hpl : p.length ≤ 1000000) (hk : k ≤ 2000000) :
    Calls Tryd.prog 75 #[.slice A n cap, .int .i64 k, .string ⟨p.toArray⟩] w fun e w' => e = .returned (.bool (p.isPrefixOf (l.drop k))) ∧ w = w' := by
  have hk0 : (0 : Int) ≤ (k : Int) := by omega
  have hk1 : (k : Int) ≤ 2000000 := by omega
  have hn1 : (n : Int) ≤ 1000000 := by omega
  have hp1 : (p.length : Int) ≤ 1000000 := by omega
  by_cases hkp : k + p.length ≤ n
  · have hle : (p.length : Int) ≤ (n : Int) - (k : Int) := by omega
    have hcap := h.le
    have hst := ((h.drop (k := k) (by omega)).take (k := p.length) (by omega)).str
    have hrf : ∀ w2 : World, (Instr.slice 35 (.slice A n cap) (some (.int .i64 (k : Int))) (some (.int .i64 ((k : Int) + (p.length : Int)))) none).run Tryd.prog w2 = .ok (.slice (cutA A cap k) p.length (cap - k)) w2 := fun w2 => by
      have := run_fromTo (w := w2) A n cap k (k + p.length) (by omega) (by omega)
      rw [show k + p.length - k = p.length by omega, show ((k + p.length : Nat) : Int) = (k : Int) + (p.length : Int) by omega] at this
      exact this
    have HE : Hid (p.isPrefixOf (l.drop k) = ((l.drop k).take p.length == p)) := Lib.hid (pre_take _ _)
    clear hcap h hp hkp
    generalize (l.drop k).take p.length = q at *
    generalize p.isPrefixOf (l.drop k) = r at *
    go_enter Tryd.func75, Tryd.ntmps75
    go_wp2
    go_ret
    rw [HE.out]
    exact ⟨rfl, rfl⟩
  · have hle : ¬ (p.length : Int) ≤ (n : Int) - (k : Int) := by omega
    have HE : Hid (p.isPrefixOf (l.drop k) = false) := Lib.hid (by
      refine Classical.byContradiction fun hc => ?_
      have := pre_len (l := l) (k := k) (p := p) (by simpa using hc)
      rw [h.length] at this
      rcases this with h' | h'
      · exact hp h'
      · exact hkp h')
    rw [HE.out]
    clear HE h hp hkp
    go_enter Tryd.func75, Tryd.ntmps75
    go_wp2
    go_ret
    exact ⟨rfl, rfl⟩
end Go.Proofs.YtljmpghijlibaaaDoor
