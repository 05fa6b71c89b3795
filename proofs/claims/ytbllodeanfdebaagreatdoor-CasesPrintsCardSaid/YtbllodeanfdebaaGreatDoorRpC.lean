/- Numbers, as the document writes them. -/
import Derived.Test.YtbllodeanfdebaaGreatDoorRows
import Derived.WalkKit
import Derived.ProofKit
import Derived.OpenShut
import Derived.ShutString
import Derived.ChangeOld
import Derived.Below
import Derived.BigQuiet
import Derived.Deep.QuietTactic
import Derived.Lib.Hide
import Derived.Deep.RegionHeld3
import Derived.Lib.SlBytesConst
import Derived.Laws.CopyOwn
import Derived.Laws.CopyRow
import Derived.Lib.Bytes
import Derived.Deep.LoopGhost
import Derived.Deep.DeepFit
import Derived.Deep.DeepMust
import Derived.WalkSpells
import Derived.WalkLawsBesides
import Derived.Laws.EntriesVeiled
import Derived.Test.YtbllodeanfdebaaGreatDoorShelf
import Derived.Test.YtbllodeanfdebaaGreatDoorBase
import Derived.Test.YtbllodeanfdebaaGreatDoorCharPlain
import Derived.Test.YtbllodeanfdebaaGreatDoorBuild
import Derived.Test.YtbllodeanfdebaaGreatDoorEsc
import Derived.Test.YtbllodeanfdebaaGreatDoorStr
namespace Go.Proofs.YtbllodeanfdebaaGreatDoor
open Go.ChangeShapes Go.WideShapes Go.ChangeAt Go.RowKit
set_option linter.unusedVariables false
theorem decDigits_le20 (n : Nat) (h : n ≤ 9223372036854775808) : (Lib.decDigits n).length ≤ 20 := by
  have key : ∀ (k n : Nat), n < 10 ^ (k + 1) → (Lib.decDigits n).length ≤ k + 1 := by
    intro k
    induction k with
    | zero =>
      intro n h
      rw [Lib.decDigits, dif_pos (by omega)]
      simp
    | succ k ih =>
      intro n h
      rw [Lib.decDigits]
      split
      · simp
      · rw [List.length_append]
        have := ih (n / 10) (by rw [Nat.pow_succ] at h; omega)
        simp
        omega
  exact key 19 n (by omega)
set_option maxRecDepth 100000 in
set_option maxHeartbeats 4000000 in
theorem refDigitsAll_c (n : Nat) (hn : n ≤ 9223372036854775807) (w : World) :
    Calls Tryz.prog 39 #[.int .i64 n] w fun e w' => e = .returned (.string ⟨(Lib.decDigits n).toArray⟩) ∧ w = w' := by
  have HL := Lib.hid (decDigits_le20 n (by omega))
  go_enter Tryz.func39, Tryz.ntmps39
  go_wp2
  go_loop [0, 3] (fun x s => ∃ (m : Nat) (t : List UInt8), m ≤ 9223372036854775807 ∧ x = .int .i64 m ∧ s = .string ⟨t.toArray⟩ ∧ Hid (Lib.decDigits n = Lib.decDigits m ++ t)) (fun x _ => (intOf x).toNat)
  case atStart => exact ⟨n, [], hn, rfl, rfl, Lib.hid (by simp)⟩
  case round =>
    obtain ⟨m, t, hm, rfl, rfl, hd⟩ := hrel
    have HT : Hid (t.length ≤ 20) := Lib.hid (by have := HL.out; rw [hd.out, List.length_append] at this; omega)
    have hm0 : (0 : Int) ≤ (m : Int) := by omega
    have hm1 : (m : Int) ≤ 9223372036854775807 := by omega
    by_cases h9 : 9 < m
    · have h9' : (9 : Int) < (m : Int) := by omega
      have hsl := run_digitAt (m % 10) (by omega) w
      rw [show ((m % 10 : Nat) : Int) = (m : Int) % 10 by omega] at hsl
      have hct : (Op.stringOp .add ⟨#[UInt8.ofNat (48 + m % 10)]⟩ ⟨t.toArray⟩).run Tryz.prog w = .ok (.string ⟨(UInt8.ofNat (48 + m % 10) :: t).toArray⟩) w := run_sop (w := w) [UInt8.ofNat (48 + m % 10)] t (by have := HT.out; simp; omega)
      have HD : Hid (Lib.decDigits n = Lib.decDigits (m / 10) ++ (UInt8.ofNat (48 + m % 10) :: t)) := Lib.hid (by
        rw [hd.out, Lib.decDigits, dif_neg (by omega)]; simp)
      generalize UInt8.ofNat (48 + m % 10) = u at *
      go_wp2
      go_round
      case rel => exact ⟨m / 10, u :: t, by omega, by go_num, rfl, HD⟩
      case measure => simp [intOf]; omega
    · have h9' : ¬ (9 : Int) < (m : Int) := by omega
      have hsl := run_digitAt m (by omega) w
      have hct : (Op.stringOp .add ⟨#[UInt8.ofNat (48 + m)]⟩ ⟨t.toArray⟩).run Tryz.prog w = .ok (.string ⟨(UInt8.ofNat (48 + m) :: t).toArray⟩) w := run_sop (w := w) [UInt8.ofNat (48 + m)] t (by have := HT.out; simp; omega)
      have HD : Hid (Lib.decDigits n = [UInt8.ofNat (48 + m)] ++ t) := Lib.hid (by
        rw [hd.out, Lib.decDigits, dif_pos (by omega)])
      generalize UInt8.ofNat (48 + m) = u at *
      clear hm1
      go_wp2
      go_ret
      exact ⟨by rw [HD.out]; rfl, rfl⟩
theorem itoa_len (z : Int) (h1 : -9223372036854775808 ≤ z) (h2 : z ≤ 9223372036854775807) : (Lib.itoa z).length ≤ 21 := by
  unfold Lib.itoa
  split
  · have := decDigits_le20 z.natAbs (by omega)
    simp
    omega
  · have := decDigits_le20 z.toNat (by omega)
    omega
end Go.Proofs.YtbllodeanfdebaaGreatDoor
