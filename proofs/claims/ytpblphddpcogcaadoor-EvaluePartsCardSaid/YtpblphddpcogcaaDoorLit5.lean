/- narthexref07.Quoted, Has, Strict; lit.Entity. -/
import Derived.Test.YtpblphddpcogcaaDoorRows
import Derived.WalkKit
import Derived.ProofKit
import Derived.OpenShut
import Derived.ShutString
import Derived.ChangeOld
import Derived.Below
import Derived.BigQuiet
import Derived.Deep.QuietTactic
import Derived.Lib.Hide
import Derived.Deep.RegionHeld3
import Derived.Lib.SlBytesConst
import Derived.Laws.CopyOwn
import Derived.Laws.CopyRow
import Derived.Lib.Bytes
import Derived.Deep.LoopGhost
import Derived.Deep.DeepFit
import Derived.Deep.DeepMust
import Derived.WalkSpells
import Derived.WalkLawsBesides
import Derived.Laws.EntriesVeiled
import Derived.Laws.Rows
import Derived.Test.YtpblphddpcogcaaDoorBase
import Derived.Test.YtpblphddpcogcaaDoorShelf
import Derived.Test.YtpblphddpcogcaaDoorCharPlain
import Derived.Test.YtpblphddpcogcaaDoorUtf1
import Derived.Test.YtpblphddpcogcaaDoorUtf2
import Derived.Test.YtpblphddpcogcaaDoorUtf3
import Derived.Test.YtpblphddpcogcaaDoorChars1
import Derived.Test.YtpblphddpcogcaaDoorName1
import Derived.Test.YtpblphddpcogcaaDoorName2
import Derived.Test.YtpblphddpcogcaaDoorName3
import Derived.Test.YtpblphddpcogcaaDoorCref1
import Derived.Test.YtpblphddpcogcaaDoorCref2
import Derived.Test.YtpblphddpcogcaaDoorDig
import Derived.Test.YtpblphddpcogcaaDoorDig2
import Derived.Test.YtpblphddpcogcaaDoorRef1
import Derived.Test.YtpblphddpcogcaaDoorRef9
import Derived.Test.YtpblphddpcogcaaDoorNum
import Derived.Test.YtpblphddpcogcaaDoorCChar
import Derived.Test.YtpblphddpcogcaaDoorCChar2
import Derived.Test.YtpblphddpcogcaaDoorRefC
import Derived.Test.YtpblphddpcogcaaDoorBuild
import Derived.Test.YtpblphddpcogcaaDoorEsc
import Derived.Test.YtpblphddpcogcaaDoorStr
import Derived.Test.YtpblphddpcogcaaDoorLitP
import Derived.Test.YtpblphddpcogcaaDoorLit1
import Derived.Test.YtpblphddpcogcaaDoorLit2
import Derived.Test.YtpblphddpcogcaaDoorLit3
import Derived.Test.YtpblphddpcogcaaDoorLit4
namespace Go.Proofs.YtpblphddpcogcaaDoor
open Go.ChangeShapes Go.WideShapes Go.ChangeAt Go.RowKit
set_option linter.unusedVariables false
set_option maxRecDepth 100000 in
set_option maxHeartbeats 2000000 in
theorem has_c (l : List UInt8) (c : UInt8) (w : World) (hm : l.length ≤ 1000000) :
    Calls Tryd.prog 21 #[.string ⟨l.toArray⟩, .int .u8 c.toNat] w fun e w' => e = .returned (.bool (decide (0 ≤ Lib.indexByte l c))) ∧ w = w' := by
  have hsz : (⟨l.toArray⟩ : ByteArray).size = l.length := by simp [ByteArray.size]
  have hc0 : (0 : Int) ≤ (c.toNat : Int) := by omega
  go_enter Tryd.func21, Tryd.ntmps21
  go_wp2
  go_loopg [5] (l.length) (fun g i wr => ∃ t : Nat, t ≤ l.length ∧ Hid (g + t = l.length) ∧ i = .int .i64 (t : Int) ∧ w = wr ∧ Hid (∀ j < t, l[j]? ≠ some c))
  case atStart => exact ⟨0, Nat.zero_le _, Lib.hid rfl, rfl, rfl, Lib.hid (fun j hj => absurd hj (Nat.not_lt_zero _))⟩
  case round =>
    obtain ⟨t, ht, hg, rfl, rfl, HN⟩ := hrel
    have ht0 : (0 : Int) ≤ (t : Int) := by omega
    have htb : (t : Int) ≤ 1000000 := by omega
    by_cases htn : t < l.length
    · have htni : (t : Int) < (l.length : Int) := by omega
      have hix := run_strIndex l t htn w
      have HD : Hid (l[t]? = some (l.getD t 0)) := Lib.hid (by rw [List.getElem?_eq_getElem htn]; simp [htn])
      generalize l.getD t 0 = d at *
      by_cases hdc : d = c
      · have HE : Hid (decide (0 ≤ Lib.indexByte l c) = true) := Lib.hid (by
          rw [ix_eq c l t (by rw [HD.out, hdc]) HN.out]; simp)
        subst hdc
        go_wp2
        go_ret
        rw [HE.out]
        exact ⟨rfl, rfl⟩
      · have e1 : ((d.toNat : Int) == (c.toNat : Int)) = false := ne_byte' d c _ rfl hdc
        have HN2 : Hid (∀ j < t + 1, l[j]? ≠ some c) := Lib.hid (fun j hj => by
          rcases (show j < t ∨ j = t by omega) with h | rfl
          · exact HN.out j h
          · rw [HD.out]; simpa using hdc)
        clear hdc
        go_wp2
        go_roundg (l.length - (t + 1))
        case measure => have := hg.out; omega
        case rel => exact ⟨t + 1, by omega, Lib.hid (by omega), by go_num, rfl, HN2⟩
    · have HE : Hid (decide (0 ≤ Lib.indexByte l c) = false) := Lib.hid (by
        rw [ix_eq_none c l (fun j => by
          rcases Nat.lt_or_ge j t with h | h
          · exact HN.out j h
          · rw [List.getElem?_eq_none (by omega)]; simp)]
        simp)
      go_wp2
      go_ret
      rw [HE.out]
      exact ⟨rfl, rfl⟩
end Go.Proofs.YtpblphddpcogcaaDoor
