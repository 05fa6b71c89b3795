/- narthexref08.At, Find. -/
import Derived.Test.YteighjiocgdgaaaDoorRows
import Derived.WalkKit
import Derived.ProofKit
import Derived.OpenShut
import Derived.ShutString
import Derived.ChangeOld
import Derived.Below
import Derived.BigQuiet
import Derived.Deep.QuietTactic
import Derived.Lib.Hide
import Derived.Deep.RegionHeld3
import Derived.Lib.SlBytesConst
import Derived.Laws.CopyOwn
import Derived.Laws.CopyRow
import Derived.Lib.Bytes
import Derived.Deep.LoopGhost
import Derived.Deep.DeepFit
import Derived.Deep.DeepMust
import Derived.WalkSpells
import Derived.WalkLawsBesides
import Derived.Test.YteighjiocgdgaaaDoorBase
import Derived.Test.YteighjiocgdgaaaDoorShelf
import Derived.Test.YteighjiocgdgaaaDoorCharPlain
import Derived.Test.YteighjiocgdgaaaDoorMiscP
namespace Go.Proofs.YteighjiocgdgaaaDoor
open Go.ChangeShapes Go.WideShapes Go.ChangeAt Go.RowKit
set_option linter.unusedVariables false
theorem pre_take (p l : List UInt8) : p.isPrefixOf l = (l.take p.length == p) := by
  rw [Bool.eq_iff_iff, List.isPrefixOf_iff_prefix, beq_iff_eq, List.prefix_iff_eq_take]
  exact eq_comm
set_option maxRecDepth 100000 in
set_option maxHeartbeats 4000000 in
theorem refAt8_c (A : Option Addr) (n cap : Nat) (l : List UInt8) (k : Nat) (p : List UInt8) (B : Nat) (w : World) (h : Byt w B A n cap l) (hp : p ≠ []) (hm : n ≤ 1000000) (hpl : p.length ≤ 1000000) (hk : k ≤ 2000000) :
    Calls Tryd.prog 63 #[.slice A n cap, .int .i64 k, .string ⟨p.toArray⟩] w fun e w' => e = .returned (.bool (p.isPrefixOf (l.drop k))) ∧ w = w' := by
  have hk0 : (0 : Int) ≤ (k : Int) := by omega
  have hk1 : (k : Int) ≤ 2000000 := by omega
  have hn1 : (n : Int) ≤ 1000000 := by omega
  have hp1 : (p.length : Int) ≤ 1000000 := by omega
  by_cases hkp : k + p.length ≤ n
  · have hle : (p.length : Int) ≤ (n : Int) - (k : Int) := by omega
    have hcap := h.le
    have hst := ((h.drop (k := k) (by omega)).take (k := p.length) (by omega)).str
    have hrf : ∀ w2 : World, (Instr.slice 22 (.slice A n cap) (some (.int .i64 (k : Int))) (some (.int .i64 ((k : Int) + (p.length : Int)))) none).run Tryd.prog w2 = .ok (.slice (cutA A cap k) p.length (cap - k)) w2 := fun w2 => by
      have := run_fromTo (w := w2) A n cap k (k + p.length) (by omega) (by omega)
      rw [show k + p.length - k = p.length by omega, show ((k + p.length : Nat) : Int) = (k : Int) + (p.length : Int) by omega] at this
      exact this
    have HE : Hid (p.isPrefixOf (l.drop k) = ((l.drop k).take p.length == p)) := Lib.hid (pre_take _ _)
    clear hcap h hp hkp
    generalize (l.drop k).take p.length = q at *
    generalize p.isPrefixOf (l.drop k) = r at *
    go_enter Tryd.func63, Tryd.ntmps63
    go_wp2
    go_ret
    rw [HE.out]
    exact ⟨rfl, rfl⟩
  · have hle : ¬ (p.length : Int) ≤ (n : Int) - (k : Int) := by omega
    have HE : Hid (p.isPrefixOf (l.drop k) = false) := Lib.hid (by
      refine Classical.byContradiction fun hc => ?_
      have := pre_len (l := l) (k := k) (p := p) (by simpa using hc)
      rw [h.length] at this
      rcases this with h' | h'
      · exact hp h'
      · exact hkp h')
    rw [HE.out]
    clear HE h hp hkp
    go_enter Tryd.func63, Tryd.ntmps63
    go_wp2
    go_ret
    exact ⟨rfl, rfl⟩
set_option maxRecDepth 100000 in
set_option maxHeartbeats 4000000 in
theorem refFind_c (A : Option Addr) (n cap : Nat) (l : List UInt8) (k : Nat) (p : List UInt8) (B : Nat) (w : World) (h : Byt w B A n cap l) (hp : p ≠ []) (hm : n ≤ 1000000) (hpl : p.length ≤ 1000000) (hk : k ≤ n) :
    Calls Tryd.prog 43 #[.slice A n cap, .int .i64 k, .string ⟨p.toArray⟩] w fun e w' => e = .returned (.int .i64 (findI l k p)) ∧ w = w' := by
  have hn1 : (n : Int) ≤ 1000000 := by omega
  have hn0 : (0 : Int) ≤ (n : Int) := by omega
  have CA : Hid (∀ t : Nat, t ≤ n → Calls Tryd.prog 63 #[.slice A n cap, .int .i64 t, .string ⟨p.toArray⟩] w fun e w' => e = .returned (.bool (p.isPrefixOf (l.drop t))) ∧ w = w') := Lib.hid fun t ht => refAt8_c A n cap l t p B w h hp hm hpl (by omega)
  have hln := Lib.hid h.length
  have HK := Lib.hid hk
  clear h hp hpl
  go_enter Tryd.func43, Tryd.ntmps43
  go_wp2
  go_loopg [7] (n + 1 - k) (fun g i wr => ∃ t : Nat, t ≤ n + 1 ∧ Hid (g + t = n + 1) ∧ i = .int .i64 (t : Int) ∧ w = wr ∧ Hid (k ≤ t ∧ ∀ j, k ≤ j → j < t → p.isPrefixOf (l.drop j) = false))
  case atStart => exact ⟨k, by omega, Lib.hid (by omega), rfl, rfl, Lib.hid ⟨Nat.le_refl _, fun j h1 h2 => absurd h1 (by omega)⟩⟩
  case round =>
    obtain ⟨t, ht, hg, rfl, rfl, HN⟩ := hrel
    have ht0 : (0 : Int) ≤ (t : Int) := by omega
    have htb : (t : Int) ≤ 1000001 := by omega
    by_cases htn : t ≤ n
    · have htni : (t : Int) ≤ (n : Int) := by omega
      have CT := Lib.hid (CA.out t htn)
      cases hpt : p.isPrefixOf (l.drop t) with
      | true =>
        rw [hpt] at CT
        have HE : Hid (findI l k p = (t : Int)) := Lib.hid (findI_hit l p k t HN.out.1 (by rw [hln.out]; exact htn) hpt HN.out.2)
        clear hpt
        go_wp2_with fail
        refine (CT.out).mono ?_
        rintro e wq ⟨rfl, rfl⟩
        go_wp2
        go_ret
        exact ⟨by rw [HE.out]; rfl, rfl⟩
      | false =>
        rw [hpt] at CT
        have HN2 : Hid (k ≤ t + 1 ∧ ∀ j, k ≤ j → j < t + 1 → p.isPrefixOf (l.drop j) = false) := Lib.hid ⟨by have := HN.out.1; omega, fun j h1 h2 => by
          rcases (show j < t ∨ j = t by omega) with h' | rfl
          · exact HN.out.2 j h1 h'
          · exact hpt⟩
        clear hpt
        go_wp2_with fail
        refine (CT.out).mono ?_
        rintro e wq ⟨rfl, rfl⟩
        go_wp2
        go_roundg (n + 1 - (t + 1))
        case measure => have := hg.out; omega
        case rel => exact ⟨t + 1, by omega, Lib.hid (by omega), by go_num, rfl, HN2⟩
    · have htni : ¬ (t : Int) ≤ (n : Int) := by omega
      have HE : Hid (findI l k p = -1) := Lib.hid (findI_none l p k (by rw [hln.out]; exact HK.out) (fun j h1 h2 => HN.out.2 j h1 (by rw [hln.out] at h2; omega)))
      go_wp2
      go_ret
      exact ⟨by rw [HE.out]; rfl, rfl⟩
end Go.Proofs.YteighjiocgdgaaaDoor
