/- Strings: pieces; narthexref06.Digits. -/
import Derived.Test.YtbllodeanfdebaaGreatDoorRows
import Derived.WalkKit
import Derived.ProofKit
import Derived.OpenShut
import Derived.ShutString
import Derived.ChangeOld
import Derived.Below
import Derived.BigQuiet
import Derived.Deep.QuietTactic
import Derived.Lib.Hide
import Derived.Deep.RegionHeld3
import Derived.Lib.SlBytesConst
import Derived.Laws.CopyOwn
import Derived.Laws.CopyRow
import Derived.Lib.Bytes
import Derived.Deep.LoopGhost
import Derived.Deep.DeepFit
import Derived.Deep.DeepMust
import Derived.WalkSpells
import Derived.WalkLawsBesides
import Derived.Lib.ItoaNum
import Derived.Test.YtbllodeanfdebaaGreatDoorBase
import Derived.Test.YtbllodeanfdebaaGreatDoorShelf
import Derived.Test.YtbllodeanfdebaaGreatDoorCharPlain
namespace Go.Proofs.YtbllodeanfdebaaGreatDoor
open Go.ChangeShapes Go.WideShapes Go.ChangeAt Go.RowKit
set_option linter.unusedVariables false
/-- 's[i:j]' of a string. -/
theorem run_strSlice (l : List UInt8) (i j : Nat) (h : i ≤ j) (hj : j ≤ l.length) (w : World) :
    (Instr.slice 9 (.string ⟨l.toArray⟩) (some (.int .i64 (i : Int))) (some (.int .i64 (j : Int))) none).run Tryz.prog w = .ok (.string ⟨((l.drop i).take (j - i)).toArray⟩) w := by
  have hsz : (⟨l.toArray⟩ : ByteArray).size = l.length := by simp [ByteArray.size]
  rw [run_slice_string w 9 ⟨l.toArray⟩ .i64 .i64 i j Tryz.underlying9 (by omega) (by omega) (by rw [hsz]; omega)]
  congr 2
  refine ByteArray.ext (Array.toList_inj.1 ?_)
  rw [Lib.extract_data]
  simp
/-- 's[k]' of a string. -/
theorem run_strIndex (l : List UInt8) (k : Nat) (hk : k < l.length) (w : World) :
    (Instr.index 9 (.string ⟨l.toArray⟩) (.int .i64 (k : Int))).run Tryz.prog w = .ok (.int .u8 (UInt8.toNat (l.getD k 0) : Int)) w := by
  have hsz : (⟨l.toArray⟩ : ByteArray).size = l.length := by simp [ByteArray.size]
  have hb : ((⟨l.toArray⟩ : ByteArray)[k]'(by rw [hsz]; exact hk)) = l.getD k 0 := by
    simp [ByteArray.getElem_eq_getElem_data, hk]
  rw [run_index_string (P := Tryz.prog) w 9 ⟨l.toArray⟩ .i64 (k : Int) Tryz.underlying9, dif_pos ⟨by omega, by rw [hsz]; omega⟩]
  simp only [Int.toNat_natCast, hb]
theorem run_sop {w : World} (a b : List UInt8) (h : a.length + b.length ≤ 9223372036854775807) : (Op.stringOp .add ⟨a.toArray⟩ ⟨b.toArray⟩).run Tryz.prog w = .ok (.string ⟨(a ++ b).toArray⟩) w := by
  rw [run_string_add_sum w _ _ (by simp [ByteArray.size]; omega), ByteArray.mk_append_mk]
set_option maxRecDepth 100000 in
/-- The ten digits. -/
theorem run_digitAt (d : Nat) (h : d < 10) (w : World) :
    (Instr.slice 9 (.string ⟨#[48, 49, 50, 51, 52, 53, 54, 55, 56, 57]⟩) (some (.int .i64 (d : Int))) (some (.int .i64 ((d : Int) + 1))) none).run Tryz.prog w = .ok (.string ⟨[UInt8.ofNat (48 + d)].toArray⟩) w := by
  have := run_strSlice [48, 49, 50, 51, 52, 53, 54, 55, 56, 57] d (d + 1) (by omega) (by simp; omega) w
  rw [show ((d + 1 : Nat) : Int) = (d : Int) + 1 by omega] at this
  have key : (([48, 49, 50, 51, 52, 53, 54, 55, 56, 57] : List UInt8).drop d).take (d + 1 - d) = [UInt8.ofNat (48 + d)] := by
    have : d = 0 ∨ d = 1 ∨ d = 2 ∨ d = 3 ∨ d = 4 ∨ d = 5 ∨ d = 6 ∨ d = 7 ∨ d = 8 ∨ d = 9 := by omega
    rcases this with rfl | rfl | rfl | rfl | rfl | rfl | rfl | rfl | rfl | rfl <;> decide +kernel
  rw [key] at this
  exact this
theorem decDigits_le (n : Nat) (h : n ≤ 2000000) : (Lib.decDigits n).length ≤ 7 := by
  rw [Lib.decDigits]; split
  · simp
  rw [Lib.decDigits]; split
  · simp
  rw [Lib.decDigits]; split
  · simp
  rw [Lib.decDigits]; split
  · simp
  rw [Lib.decDigits]; split
  · simp
  rw [Lib.decDigits]; split
  · simp
  rw [Lib.decDigits]; split
  · simp
  omega
set_option maxRecDepth 100000 in
set_option maxHeartbeats 2000000 in
theorem refDigits_c (n : Nat) (hn : n ≤ 2000000) (w : World) :
    Calls Tryz.prog 39 #[.int .i64 n] w fun e w' => e = .returned (.string ⟨(Lib.decDigits n).toArray⟩) ∧ w = w' := by
  have HL := Lib.hid (decDigits_le n hn)
  go_enter Tryz.func39, Tryz.ntmps39
  go_wp2
  go_loop [0, 3] (fun x s => ∃ (m : Nat) (t : List UInt8), m ≤ 2000000 ∧ x = .int .i64 m ∧ s = .string ⟨t.toArray⟩ ∧ Hid (Lib.decDigits n = Lib.decDigits m ++ t)) (fun x _ => (intOf x).toNat)
  case atStart => exact ⟨n, [], hn, rfl, rfl, Lib.hid (by simp)⟩
  case round =>
    obtain ⟨m, t, hm, rfl, rfl, hd⟩ := hrel
    have HT : Hid (t.length ≤ 7) := Lib.hid (by have := HL.out; rw [hd.out, List.length_append] at this; omega)
    have hm0 : (0 : Int) ≤ (m : Int) := by omega
    have hm1 : (m : Int) ≤ 2000000 := by omega
    by_cases h9 : 9 < m
    · have h9' : (9 : Int) < (m : Int) := by omega
      have hsl := run_digitAt (m % 10) (by omega) w
      rw [show ((m % 10 : Nat) : Int) = (m : Int) % 10 by omega] at hsl
      have hct : (Op.stringOp .add ⟨#[UInt8.ofNat (48 + m % 10)]⟩ ⟨t.toArray⟩).run Tryz.prog w = .ok (.string ⟨(UInt8.ofNat (48 + m % 10) :: t).toArray⟩) w := run_sop (w := w) [UInt8.ofNat (48 + m % 10)] t (by have := HT.out; simp; omega)
      have HD : Hid (Lib.decDigits n = Lib.decDigits (m / 10) ++ (UInt8.ofNat (48 + m % 10) :: t)) := Lib.hid (by
        rw [hd.out, Lib.decDigits, dif_neg (by omega)]; simp)
      generalize UInt8.ofNat (48 + m % 10) = u at *
      go_wp2
      go_round
      case rel => exact ⟨m / 10, u :: t, by omega, by go_num, rfl, HD⟩
      case measure => simp [intOf]; omega
    · have h9' : ¬ (9 : Int) < (m : Int) := by omega
      have hsl := run_digitAt m (by omega) w
      have hct : (Op.stringOp .add ⟨#[UInt8.ofNat (48 + m)]⟩ ⟨t.toArray⟩).run Tryz.prog w = .ok (.string ⟨(UInt8.ofNat (48 + m) :: t).toArray⟩) w := run_sop (w := w) [UInt8.ofNat (48 + m)] t (by have := HT.out; simp; omega)
      have HD : Hid (Lib.decDigits n = [UInt8.ofNat (48 + m)] ++ t) := Lib.hid (by
        rw [hd.out, Lib.decDigits, dif_pos (by omega)])
      generalize UInt8.ofNat (48 + m) = u at *
      go_wp2
      go_ret
      exact ⟨by rw [HD.out]; rfl, rfl⟩
end Go.Proofs.YtbllodeanfdebaaGreatDoor
