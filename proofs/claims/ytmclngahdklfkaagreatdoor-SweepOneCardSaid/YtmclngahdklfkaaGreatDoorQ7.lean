/- Texts of ours, joined: Dig2, CChar, CChar2, Build, Esc. -/
import Derived.Test.YtmclngahdklfkaaGreatDoorRows
import Derived.WalkKit
import Derived.ProofKit
import Derived.OpenShut
import Derived.ShutString
import Derived.ChangeOld
import Derived.Below
import Derived.BigQuiet
import Derived.Deep.QuietTactic
import Derived.Lib.Hide
import Derived.Deep.RegionHeld3
import Derived.Lib.SlBytesConst
import Derived.Laws.CopyOwn
import Derived.Laws.CopyRow
import Derived.Lib.Bytes
import Derived.Deep.LoopGhost
import Derived.Deep.DeepFit
import Derived.Deep.DeepMust
import Derived.WalkSpells
import Derived.WalkLawsBesides
import Derived.Laws.EntriesVeiled
import Derived.Laws.Rows
import Derived.Test.YtmclngahdklfkaaGreatDoorQ1
import Derived.Test.YtmclngahdklfkaaGreatDoorQ2
import Derived.Test.YtmclngahdklfkaaGreatDoorQ4
import Derived.Test.YtmclngahdklfkaaGreatDoorQ6
import Derived.Lib.Builder
import Derived.Lib.AppendStr
import Derived.Lib.UnsafeStr
import Derived.Laws.Externs
import Derived.Lib.ConvBytes
import Derived.Lib.AtoiErrMem
/- The document's digits. -/
namespace Go.Proofs.YtmclngahdklfkaaGreatDoor
open Go.ChangeShapes Go.WideShapes Go.ChangeAt Go.RowKit
set_option linter.unusedVariables false
set_option maxRecDepth 100000 in
set_option maxHeartbeats 8000000 in
theorem refDigit10_c (r : Int) (w : World) : Calls Tryz.prog 72 #[.int .i64 r, .int .i64 10] w fun e w' => e = .returned (.int .i64 (digit 10 r)) ∧ w = w' := by
  have HDG : Hid (∀ i : Int, 0 ≤ i → i < 10 → (digit 10 r = i ↔ ((i ≤ 9 ∧ r = i + 48) ∨ (10 ≤ i ∧ (r = i + 87 ∨ r = i + 55))))) := Lib.hid (by
    intro i h0 h1
    unfold digit
    constructor
    · intro h
      (repeat' split at h) <;> omega
    · intro h
      (repeat' split) <;> omega)
  have HLT : Hid (digit 10 r < 10 ∧ -1 ≤ digit 10 r) := Lib.hid (by unfold digit; (repeat' split) <;> omega)
  go_enter Tryz.func72, Tryz.ntmps72
  go_wp2
  go_loopg [7] 10 (fun kx s7 wr => ∃ (i : Nat), s7 = .int .i64 i ∧ i ≤ 10 ∧ kx = 10 - i ∧ Hid (digit 10 r < 0 ∨ (i : Int) ≤ digit 10 r) ∧ w = wr)
  case atStart => exact ⟨0, rfl, Nat.zero_le _, rfl, Lib.hid (by omega), rfl⟩
  case round =>
    obtain ⟨i, rfl, hi, hk, HI, rfl⟩ := hrel
    rcases (show i = 0 ∨ i = 1 ∨ i = 2 ∨ i = 3 ∨ i = 4 ∨ i = 5 ∨ i = 6 ∨ i = 7 ∨ i = 8 ∨ i = 9 ∨ i = 10 by omega) with rfl | rfl | rfl | rfl | rfl | rfl | rfl | rfl | rfl | rfl | rfl
    · have xs : (⟨#[48, 49, 50, 51, 52, 53, 54, 55, 56, 57, 97, 98, 99, 100, 101, 102]⟩ : ByteArray)[0].toNat = 48 := rfl
      have xt : (⟨#[48, 49, 50, 51, 52, 53, 54, 55, 56, 57, 65, 66, 67, 68, 69, 70]⟩ : ByteArray)[0].toNat = 48 := rfl
      by_cases h1 : r = 48
      · have hd : Hid (digit 10 r = 0) := Lib.hid ((HDG.out 0 (by omega) (by omega)).2 (by omega))
        have a1 : ((48 : Int) == r) = true := by simp; omega
        clear h1
        go_wp2
        go_ret
        exact ⟨by rw [hd.out]; rfl, rfl⟩
      · have hn : Hid (digit 10 r < 0 ∨ ((0 + 1 : Nat) : Int) ≤ digit 10 r) := Lib.hid (by
          have := mt (HDG.out 0 (by omega) (by omega)).1 (by omega)
          have := HI.out
          omega)
        have a1 : ((48 : Int) == r) = false := by simp; omega
        clear h1
        go_wp2
        go_roundg (10 - (0 + 1))
        case measure => omega
        case rel => exact ⟨0 + 1, rfl, by omega, rfl, hn, rfl⟩
    · have xs : (⟨#[48, 49, 50, 51, 52, 53, 54, 55, 56, 57, 97, 98, 99, 100, 101, 102]⟩ : ByteArray)[1].toNat = 49 := rfl
      have xt : (⟨#[48, 49, 50, 51, 52, 53, 54, 55, 56, 57, 65, 66, 67, 68, 69, 70]⟩ : ByteArray)[1].toNat = 49 := rfl
      by_cases h1 : r = 49
      · have hd : Hid (digit 10 r = 1) := Lib.hid ((HDG.out 1 (by omega) (by omega)).2 (by omega))
        have a1 : ((49 : Int) == r) = true := by simp; omega
        clear h1
        go_wp2
        go_ret
        exact ⟨by rw [hd.out]; rfl, rfl⟩
      · have hn : Hid (digit 10 r < 0 ∨ ((1 + 1 : Nat) : Int) ≤ digit 10 r) := Lib.hid (by
          have := mt (HDG.out 1 (by omega) (by omega)).1 (by omega)
          have := HI.out
          omega)
        have a1 : ((49 : Int) == r) = false := by simp; omega
        clear h1
        go_wp2
        go_roundg (10 - (1 + 1))
        case measure => omega
        case rel => exact ⟨1 + 1, rfl, by omega, rfl, hn, rfl⟩
    · have xs : (⟨#[48, 49, 50, 51, 52, 53, 54, 55, 56, 57, 97, 98, 99, 100, 101, 102]⟩ : ByteArray)[2].toNat = 50 := rfl
      have xt : (⟨#[48, 49, 50, 51, 52, 53, 54, 55, 56, 57, 65, 66, 67, 68, 69, 70]⟩ : ByteArray)[2].toNat = 50 := rfl
      by_cases h1 : r = 50
      · have hd : Hid (digit 10 r = 2) := Lib.hid ((HDG.out 2 (by omega) (by omega)).2 (by omega))
        have a1 : ((50 : Int) == r) = true := by simp; omega
        clear h1
        go_wp2
        go_ret
        exact ⟨by rw [hd.out]; rfl, rfl⟩
      · have hn : Hid (digit 10 r < 0 ∨ ((2 + 1 : Nat) : Int) ≤ digit 10 r) := Lib.hid (by
          have := mt (HDG.out 2 (by omega) (by omega)).1 (by omega)
          have := HI.out
          omega)
        have a1 : ((50 : Int) == r) = false := by simp; omega
        clear h1
        go_wp2
        go_roundg (10 - (2 + 1))
        case measure => omega
        case rel => exact ⟨2 + 1, rfl, by omega, rfl, hn, rfl⟩
    · have xs : (⟨#[48, 49, 50, 51, 52, 53, 54, 55, 56, 57, 97, 98, 99, 100, 101, 102]⟩ : ByteArray)[3].toNat = 51 := rfl
      have xt : (⟨#[48, 49, 50, 51, 52, 53, 54, 55, 56, 57, 65, 66, 67, 68, 69, 70]⟩ : ByteArray)[3].toNat = 51 := rfl
      by_cases h1 : r = 51
      · have hd : Hid (digit 10 r = 3) := Lib.hid ((HDG.out 3 (by omega) (by omega)).2 (by omega))
        have a1 : ((51 : Int) == r) = true := by simp; omega
        clear h1
        go_wp2
        go_ret
        exact ⟨by rw [hd.out]; rfl, rfl⟩
      · have hn : Hid (digit 10 r < 0 ∨ ((3 + 1 : Nat) : Int) ≤ digit 10 r) := Lib.hid (by
          have := mt (HDG.out 3 (by omega) (by omega)).1 (by omega)
          have := HI.out
          omega)
        have a1 : ((51 : Int) == r) = false := by simp; omega
        clear h1
        go_wp2
        go_roundg (10 - (3 + 1))
        case measure => omega
        case rel => exact ⟨3 + 1, rfl, by omega, rfl, hn, rfl⟩
    · have xs : (⟨#[48, 49, 50, 51, 52, 53, 54, 55, 56, 57, 97, 98, 99, 100, 101, 102]⟩ : ByteArray)[4].toNat = 52 := rfl
      have xt : (⟨#[48, 49, 50, 51, 52, 53, 54, 55, 56, 57, 65, 66, 67, 68, 69, 70]⟩ : ByteArray)[4].toNat = 52 := rfl
      by_cases h1 : r = 52
      · have hd : Hid (digit 10 r = 4) := Lib.hid ((HDG.out 4 (by omega) (by omega)).2 (by omega))
        have a1 : ((52 : Int) == r) = true := by simp; omega
        clear h1
        go_wp2
        go_ret
        exact ⟨by rw [hd.out]; rfl, rfl⟩
      · have hn : Hid (digit 10 r < 0 ∨ ((4 + 1 : Nat) : Int) ≤ digit 10 r) := Lib.hid (by
          have := mt (HDG.out 4 (by omega) (by omega)).1 (by omega)
          have := HI.out
          omega)
        have a1 : ((52 : Int) == r) = false := by simp; omega
        clear h1
        go_wp2
        go_roundg (10 - (4 + 1))
        case measure => omega
        case rel => exact ⟨4 + 1, rfl, by omega, rfl, hn, rfl⟩
    · have xs : (⟨#[48, 49, 50, 51, 52, 53, 54, 55, 56, 57, 97, 98, 99, 100, 101, 102]⟩ : ByteArray)[5].toNat = 53 := rfl
      have xt : (⟨#[48, 49, 50, 51, 52, 53, 54, 55, 56, 57, 65, 66, 67, 68, 69, 70]⟩ : ByteArray)[5].toNat = 53 := rfl
      by_cases h1 : r = 53
      · have hd : Hid (digit 10 r = 5) := Lib.hid ((HDG.out 5 (by omega) (by omega)).2 (by omega))
        have a1 : ((53 : Int) == r) = true := by simp; omega
        clear h1
        go_wp2
        go_ret
        exact ⟨by rw [hd.out]; rfl, rfl⟩
      · have hn : Hid (digit 10 r < 0 ∨ ((5 + 1 : Nat) : Int) ≤ digit 10 r) := Lib.hid (by
          have := mt (HDG.out 5 (by omega) (by omega)).1 (by omega)
          have := HI.out
          omega)
        have a1 : ((53 : Int) == r) = false := by simp; omega
        clear h1
        go_wp2
        go_roundg (10 - (5 + 1))
        case measure => omega
        case rel => exact ⟨5 + 1, rfl, by omega, rfl, hn, rfl⟩
    · have xs : (⟨#[48, 49, 50, 51, 52, 53, 54, 55, 56, 57, 97, 98, 99, 100, 101, 102]⟩ : ByteArray)[6].toNat = 54 := rfl
      have xt : (⟨#[48, 49, 50, 51, 52, 53, 54, 55, 56, 57, 65, 66, 67, 68, 69, 70]⟩ : ByteArray)[6].toNat = 54 := rfl
      by_cases h1 : r = 54
      · have hd : Hid (digit 10 r = 6) := Lib.hid ((HDG.out 6 (by omega) (by omega)).2 (by omega))
        have a1 : ((54 : Int) == r) = true := by simp; omega
        clear h1
        go_wp2
        go_ret
        exact ⟨by rw [hd.out]; rfl, rfl⟩
      · have hn : Hid (digit 10 r < 0 ∨ ((6 + 1 : Nat) : Int) ≤ digit 10 r) := Lib.hid (by
          have := mt (HDG.out 6 (by omega) (by omega)).1 (by omega)
          have := HI.out
          omega)
        have a1 : ((54 : Int) == r) = false := by simp; omega
        clear h1
        go_wp2
        go_roundg (10 - (6 + 1))
        case measure => omega
        case rel => exact ⟨6 + 1, rfl, by omega, rfl, hn, rfl⟩
    · have xs : (⟨#[48, 49, 50, 51, 52, 53, 54, 55, 56, 57, 97, 98, 99, 100, 101, 102]⟩ : ByteArray)[7].toNat = 55 := rfl
      have xt : (⟨#[48, 49, 50, 51, 52, 53, 54, 55, 56, 57, 65, 66, 67, 68, 69, 70]⟩ : ByteArray)[7].toNat = 55 := rfl
      by_cases h1 : r = 55
      · have hd : Hid (digit 10 r = 7) := Lib.hid ((HDG.out 7 (by omega) (by omega)).2 (by omega))
        have a1 : ((55 : Int) == r) = true := by simp; omega
        clear h1
        go_wp2
        go_ret
        exact ⟨by rw [hd.out]; rfl, rfl⟩
      · have hn : Hid (digit 10 r < 0 ∨ ((7 + 1 : Nat) : Int) ≤ digit 10 r) := Lib.hid (by
          have := mt (HDG.out 7 (by omega) (by omega)).1 (by omega)
          have := HI.out
          omega)
        have a1 : ((55 : Int) == r) = false := by simp; omega
        clear h1
        go_wp2
        go_roundg (10 - (7 + 1))
        case measure => omega
        case rel => exact ⟨7 + 1, rfl, by omega, rfl, hn, rfl⟩
    · have xs : (⟨#[48, 49, 50, 51, 52, 53, 54, 55, 56, 57, 97, 98, 99, 100, 101, 102]⟩ : ByteArray)[8].toNat = 56 := rfl
      have xt : (⟨#[48, 49, 50, 51, 52, 53, 54, 55, 56, 57, 65, 66, 67, 68, 69, 70]⟩ : ByteArray)[8].toNat = 56 := rfl
      by_cases h1 : r = 56
      · have hd : Hid (digit 10 r = 8) := Lib.hid ((HDG.out 8 (by omega) (by omega)).2 (by omega))
        have a1 : ((56 : Int) == r) = true := by simp; omega
        clear h1
        go_wp2
        go_ret
        exact ⟨by rw [hd.out]; rfl, rfl⟩
      · have hn : Hid (digit 10 r < 0 ∨ ((8 + 1 : Nat) : Int) ≤ digit 10 r) := Lib.hid (by
          have := mt (HDG.out 8 (by omega) (by omega)).1 (by omega)
          have := HI.out
          omega)
        have a1 : ((56 : Int) == r) = false := by simp; omega
        clear h1
        go_wp2
        go_roundg (10 - (8 + 1))
        case measure => omega
        case rel => exact ⟨8 + 1, rfl, by omega, rfl, hn, rfl⟩
    · have xs : (⟨#[48, 49, 50, 51, 52, 53, 54, 55, 56, 57, 97, 98, 99, 100, 101, 102]⟩ : ByteArray)[9].toNat = 57 := rfl
      have xt : (⟨#[48, 49, 50, 51, 52, 53, 54, 55, 56, 57, 65, 66, 67, 68, 69, 70]⟩ : ByteArray)[9].toNat = 57 := rfl
      by_cases h1 : r = 57
      · have hd : Hid (digit 10 r = 9) := Lib.hid ((HDG.out 9 (by omega) (by omega)).2 (by omega))
        have a1 : ((57 : Int) == r) = true := by simp; omega
        clear h1
        go_wp2
        go_ret
        exact ⟨by rw [hd.out]; rfl, rfl⟩
      · have hn : Hid (digit 10 r < 0 ∨ ((9 + 1 : Nat) : Int) ≤ digit 10 r) := Lib.hid (by
          have := mt (HDG.out 9 (by omega) (by omega)).1 (by omega)
          have := HI.out
          omega)
        have a1 : ((57 : Int) == r) = false := by simp; omega
        clear h1
        go_wp2
        go_roundg (10 - (9 + 1))
        case measure => omega
        case rel => exact ⟨9 + 1, rfl, by omega, rfl, hn, rfl⟩
    · have hd : Hid (digit 10 r = -1) := Lib.hid (by have := HI.out; have := HLT.out; omega)
      go_wp2
      go_ret
      exact ⟨by rw [hd.out]; rfl, rfl⟩
set_option maxRecDepth 100000 in
set_option maxHeartbeats 8000000 in
theorem refDigit16_c (r : Int) (w : World) : Calls Tryz.prog 72 #[.int .i64 r, .int .i64 16] w fun e w' => e = .returned (.int .i64 (digit 16 r)) ∧ w = w' := by
  have HDG : Hid (∀ i : Int, 0 ≤ i → i < 16 → (digit 16 r = i ↔ ((i ≤ 9 ∧ r = i + 48) ∨ (10 ≤ i ∧ (r = i + 87 ∨ r = i + 55))))) := Lib.hid (by
    intro i h0 h1
    unfold digit
    constructor
    · intro h
      (repeat' split at h) <;> omega
    · intro h
      (repeat' split) <;> omega)
  have HLT : Hid (digit 16 r < 16 ∧ -1 ≤ digit 16 r) := Lib.hid (by unfold digit; (repeat' split) <;> omega)
  go_enter Tryz.func72, Tryz.ntmps72
  go_wp2
  go_loopg [7] 16 (fun kx s7 wr => ∃ (i : Nat), s7 = .int .i64 i ∧ i ≤ 16 ∧ kx = 16 - i ∧ Hid (digit 16 r < 0 ∨ (i : Int) ≤ digit 16 r) ∧ w = wr)
  case atStart => exact ⟨0, rfl, Nat.zero_le _, rfl, Lib.hid (by omega), rfl⟩
  case round =>
    obtain ⟨i, rfl, hi, hk, HI, rfl⟩ := hrel
    rcases (show i = 0 ∨ i = 1 ∨ i = 2 ∨ i = 3 ∨ i = 4 ∨ i = 5 ∨ i = 6 ∨ i = 7 ∨ i = 8 ∨ i = 9 ∨ i = 10 ∨ i = 11 ∨ i = 12 ∨ i = 13 ∨ i = 14 ∨ i = 15 ∨ i = 16 by omega) with rfl | rfl | rfl | rfl | rfl | rfl | rfl | rfl | rfl | rfl | rfl | rfl | rfl | rfl | rfl | rfl | rfl
    · have xs : (⟨#[48, 49, 50, 51, 52, 53, 54, 55, 56, 57, 97, 98, 99, 100, 101, 102]⟩ : ByteArray)[0].toNat = 48 := rfl
      have xt : (⟨#[48, 49, 50, 51, 52, 53, 54, 55, 56, 57, 65, 66, 67, 68, 69, 70]⟩ : ByteArray)[0].toNat = 48 := rfl
      by_cases h1 : r = 48
      · have hd : Hid (digit 16 r = 0) := Lib.hid ((HDG.out 0 (by omega) (by omega)).2 (by omega))
        have a1 : ((48 : Int) == r) = true := by simp; omega
        clear h1
        go_wp2
        go_ret
        exact ⟨by rw [hd.out]; rfl, rfl⟩
      · have hn : Hid (digit 16 r < 0 ∨ ((0 + 1 : Nat) : Int) ≤ digit 16 r) := Lib.hid (by
          have := mt (HDG.out 0 (by omega) (by omega)).1 (by omega)
          have := HI.out
          omega)
        have a1 : ((48 : Int) == r) = false := by simp; omega
        clear h1
        go_wp2
        go_roundg (16 - (0 + 1))
        case measure => omega
        case rel => exact ⟨0 + 1, rfl, by omega, rfl, hn, rfl⟩
    · have xs : (⟨#[48, 49, 50, 51, 52, 53, 54, 55, 56, 57, 97, 98, 99, 100, 101, 102]⟩ : ByteArray)[1].toNat = 49 := rfl
      have xt : (⟨#[48, 49, 50, 51, 52, 53, 54, 55, 56, 57, 65, 66, 67, 68, 69, 70]⟩ : ByteArray)[1].toNat = 49 := rfl
      by_cases h1 : r = 49
      · have hd : Hid (digit 16 r = 1) := Lib.hid ((HDG.out 1 (by omega) (by omega)).2 (by omega))
        have a1 : ((49 : Int) == r) = true := by simp; omega
        clear h1
        go_wp2
        go_ret
        exact ⟨by rw [hd.out]; rfl, rfl⟩
      · have hn : Hid (digit 16 r < 0 ∨ ((1 + 1 : Nat) : Int) ≤ digit 16 r) := Lib.hid (by
          have := mt (HDG.out 1 (by omega) (by omega)).1 (by omega)
          have := HI.out
          omega)
        have a1 : ((49 : Int) == r) = false := by simp; omega
        clear h1
        go_wp2
        go_roundg (16 - (1 + 1))
        case measure => omega
        case rel => exact ⟨1 + 1, rfl, by omega, rfl, hn, rfl⟩
    · have xs : (⟨#[48, 49, 50, 51, 52, 53, 54, 55, 56, 57, 97, 98, 99, 100, 101, 102]⟩ : ByteArray)[2].toNat = 50 := rfl
      have xt : (⟨#[48, 49, 50, 51, 52, 53, 54, 55, 56, 57, 65, 66, 67, 68, 69, 70]⟩ : ByteArray)[2].toNat = 50 := rfl
      by_cases h1 : r = 50
      · have hd : Hid (digit 16 r = 2) := Lib.hid ((HDG.out 2 (by omega) (by omega)).2 (by omega))
        have a1 : ((50 : Int) == r) = true := by simp; omega
        clear h1
        go_wp2
        go_ret
        exact ⟨by rw [hd.out]; rfl, rfl⟩
      · have hn : Hid (digit 16 r < 0 ∨ ((2 + 1 : Nat) : Int) ≤ digit 16 r) := Lib.hid (by
          have := mt (HDG.out 2 (by omega) (by omega)).1 (by omega)
          have := HI.out
          omega)
        have a1 : ((50 : Int) == r) = false := by simp; omega
        clear h1
        go_wp2
        go_roundg (16 - (2 + 1))
        case measure => omega
        case rel => exact ⟨2 + 1, rfl, by omega, rfl, hn, rfl⟩
    · have xs : (⟨#[48, 49, 50, 51, 52, 53, 54, 55, 56, 57, 97, 98, 99, 100, 101, 102]⟩ : ByteArray)[3].toNat = 51 := rfl
      have xt : (⟨#[48, 49, 50, 51, 52, 53, 54, 55, 56, 57, 65, 66, 67, 68, 69, 70]⟩ : ByteArray)[3].toNat = 51 := rfl
      by_cases h1 : r = 51
      · have hd : Hid (digit 16 r = 3) := Lib.hid ((HDG.out 3 (by omega) (by omega)).2 (by omega))
        have a1 : ((51 : Int) == r) = true := by simp; omega
        clear h1
        go_wp2
        go_ret
        exact ⟨by rw [hd.out]; rfl, rfl⟩
      · have hn : Hid (digit 16 r < 0 ∨ ((3 + 1 : Nat) : Int) ≤ digit 16 r) := Lib.hid (by
          have := mt (HDG.out 3 (by omega) (by omega)).1 (by omega)
          have := HI.out
          omega)
        have a1 : ((51 : Int) == r) = false := by simp; omega
        clear h1
        go_wp2
        go_roundg (16 - (3 + 1))
        case measure => omega
        case rel => exact ⟨3 + 1, rfl, by omega, rfl, hn, rfl⟩
    · have xs : (⟨#[48, 49, 50, 51, 52, 53, 54, 55, 56, 57, 97, 98, 99, 100, 101, 102]⟩ : ByteArray)[4].toNat = 52 := rfl
      have xt : (⟨#[48, 49, 50, 51, 52, 53, 54, 55, 56, 57, 65, 66, 67, 68, 69, 70]⟩ : ByteArray)[4].toNat = 52 := rfl
      by_cases h1 : r = 52
      · have hd : Hid (digit 16 r = 4) := Lib.hid ((HDG.out 4 (by omega) (by omega)).2 (by omega))
        have a1 : ((52 : Int) == r) = true := by simp; omega
        clear h1
        go_wp2
        go_ret
        exact ⟨by rw [hd.out]; rfl, rfl⟩
      · have hn : Hid (digit 16 r < 0 ∨ ((4 + 1 : Nat) : Int) ≤ digit 16 r) := Lib.hid (by
          have := mt (HDG.out 4 (by omega) (by omega)).1 (by omega)
          have := HI.out
          omega)
        have a1 : ((52 : Int) == r) = false := by simp; omega
        clear h1
        go_wp2
        go_roundg (16 - (4 + 1))
        case measure => omega
        case rel => exact ⟨4 + 1, rfl, by omega, rfl, hn, rfl⟩
    · have xs : (⟨#[48, 49, 50, 51, 52, 53, 54, 55, 56, 57, 97, 98, 99, 100, 101, 102]⟩ : ByteArray)[5].toNat = 53 := rfl
      have xt : (⟨#[48, 49, 50, 51, 52, 53, 54, 55, 56, 57, 65, 66, 67, 68, 69, 70]⟩ : ByteArray)[5].toNat = 53 := rfl
      by_cases h1 : r = 53
      · have hd : Hid (digit 16 r = 5) := Lib.hid ((HDG.out 5 (by omega) (by omega)).2 (by omega))
        have a1 : ((53 : Int) == r) = true := by simp; omega
        clear h1
        go_wp2
        go_ret
        exact ⟨by rw [hd.out]; rfl, rfl⟩
      · have hn : Hid (digit 16 r < 0 ∨ ((5 + 1 : Nat) : Int) ≤ digit 16 r) := Lib.hid (by
          have := mt (HDG.out 5 (by omega) (by omega)).1 (by omega)
          have := HI.out
          omega)
        have a1 : ((53 : Int) == r) = false := by simp; omega
        clear h1
        go_wp2
        go_roundg (16 - (5 + 1))
        case measure => omega
        case rel => exact ⟨5 + 1, rfl, by omega, rfl, hn, rfl⟩
    · have xs : (⟨#[48, 49, 50, 51, 52, 53, 54, 55, 56, 57, 97, 98, 99, 100, 101, 102]⟩ : ByteArray)[6].toNat = 54 := rfl
      have xt : (⟨#[48, 49, 50, 51, 52, 53, 54, 55, 56, 57, 65, 66, 67, 68, 69, 70]⟩ : ByteArray)[6].toNat = 54 := rfl
      by_cases h1 : r = 54
      · have hd : Hid (digit 16 r = 6) := Lib.hid ((HDG.out 6 (by omega) (by omega)).2 (by omega))
        have a1 : ((54 : Int) == r) = true := by simp; omega
        clear h1
        go_wp2
        go_ret
        exact ⟨by rw [hd.out]; rfl, rfl⟩
      · have hn : Hid (digit 16 r < 0 ∨ ((6 + 1 : Nat) : Int) ≤ digit 16 r) := Lib.hid (by
          have := mt (HDG.out 6 (by omega) (by omega)).1 (by omega)
          have := HI.out
          omega)
        have a1 : ((54 : Int) == r) = false := by simp; omega
        clear h1
        go_wp2
        go_roundg (16 - (6 + 1))
        case measure => omega
        case rel => exact ⟨6 + 1, rfl, by omega, rfl, hn, rfl⟩
    · have xs : (⟨#[48, 49, 50, 51, 52, 53, 54, 55, 56, 57, 97, 98, 99, 100, 101, 102]⟩ : ByteArray)[7].toNat = 55 := rfl
      have xt : (⟨#[48, 49, 50, 51, 52, 53, 54, 55, 56, 57, 65, 66, 67, 68, 69, 70]⟩ : ByteArray)[7].toNat = 55 := rfl
      by_cases h1 : r = 55
      · have hd : Hid (digit 16 r = 7) := Lib.hid ((HDG.out 7 (by omega) (by omega)).2 (by omega))
        have a1 : ((55 : Int) == r) = true := by simp; omega
        clear h1
        go_wp2
        go_ret
        exact ⟨by rw [hd.out]; rfl, rfl⟩
      · have hn : Hid (digit 16 r < 0 ∨ ((7 + 1 : Nat) : Int) ≤ digit 16 r) := Lib.hid (by
          have := mt (HDG.out 7 (by omega) (by omega)).1 (by omega)
          have := HI.out
          omega)
        have a1 : ((55 : Int) == r) = false := by simp; omega
        clear h1
        go_wp2
        go_roundg (16 - (7 + 1))
        case measure => omega
        case rel => exact ⟨7 + 1, rfl, by omega, rfl, hn, rfl⟩
    · have xs : (⟨#[48, 49, 50, 51, 52, 53, 54, 55, 56, 57, 97, 98, 99, 100, 101, 102]⟩ : ByteArray)[8].toNat = 56 := rfl
      have xt : (⟨#[48, 49, 50, 51, 52, 53, 54, 55, 56, 57, 65, 66, 67, 68, 69, 70]⟩ : ByteArray)[8].toNat = 56 := rfl
      by_cases h1 : r = 56
      · have hd : Hid (digit 16 r = 8) := Lib.hid ((HDG.out 8 (by omega) (by omega)).2 (by omega))
        have a1 : ((56 : Int) == r) = true := by simp; omega
        clear h1
        go_wp2
        go_ret
        exact ⟨by rw [hd.out]; rfl, rfl⟩
      · have hn : Hid (digit 16 r < 0 ∨ ((8 + 1 : Nat) : Int) ≤ digit 16 r) := Lib.hid (by
          have := mt (HDG.out 8 (by omega) (by omega)).1 (by omega)
          have := HI.out
          omega)
        have a1 : ((56 : Int) == r) = false := by simp; omega
        clear h1
        go_wp2
        go_roundg (16 - (8 + 1))
        case measure => omega
        case rel => exact ⟨8 + 1, rfl, by omega, rfl, hn, rfl⟩
    · have xs : (⟨#[48, 49, 50, 51, 52, 53, 54, 55, 56, 57, 97, 98, 99, 100, 101, 102]⟩ : ByteArray)[9].toNat = 57 := rfl
      have xt : (⟨#[48, 49, 50, 51, 52, 53, 54, 55, 56, 57, 65, 66, 67, 68, 69, 70]⟩ : ByteArray)[9].toNat = 57 := rfl
      by_cases h1 : r = 57
      · have hd : Hid (digit 16 r = 9) := Lib.hid ((HDG.out 9 (by omega) (by omega)).2 (by omega))
        have a1 : ((57 : Int) == r) = true := by simp; omega
        clear h1
        go_wp2
        go_ret
        exact ⟨by rw [hd.out]; rfl, rfl⟩
      · have hn : Hid (digit 16 r < 0 ∨ ((9 + 1 : Nat) : Int) ≤ digit 16 r) := Lib.hid (by
          have := mt (HDG.out 9 (by omega) (by omega)).1 (by omega)
          have := HI.out
          omega)
        have a1 : ((57 : Int) == r) = false := by simp; omega
        clear h1
        go_wp2
        go_roundg (16 - (9 + 1))
        case measure => omega
        case rel => exact ⟨9 + 1, rfl, by omega, rfl, hn, rfl⟩
    · have xs : (⟨#[48, 49, 50, 51, 52, 53, 54, 55, 56, 57, 97, 98, 99, 100, 101, 102]⟩ : ByteArray)[10].toNat = 97 := rfl
      have xt : (⟨#[48, 49, 50, 51, 52, 53, 54, 55, 56, 57, 65, 66, 67, 68, 69, 70]⟩ : ByteArray)[10].toNat = 65 := rfl
      by_cases h1 : r = 97
      · have hd : Hid (digit 16 r = 10) := Lib.hid ((HDG.out 10 (by omega) (by omega)).2 (by omega))
        have a1 : ((97 : Int) == r) = true := by simp; omega
        clear h1
        go_wp2
        go_ret
        exact ⟨by rw [hd.out]; rfl, rfl⟩
      · by_cases h2 : r = 65
        · have hd : Hid (digit 16 r = 10) := Lib.hid ((HDG.out 10 (by omega) (by omega)).2 (by omega))
          have a1 : ((97 : Int) == r) = false := by simp; omega
          have a2 : ((65 : Int) == r) = true := by simp; omega
          clear h1 h2
          go_wp2
          go_ret
          exact ⟨by rw [hd.out]; rfl, rfl⟩
        · have hn : Hid (digit 16 r < 0 ∨ ((10 + 1 : Nat) : Int) ≤ digit 16 r) := Lib.hid (by
            have := mt (HDG.out 10 (by omega) (by omega)).1 (by omega)
            have := HI.out
            omega)
          have a1 : ((97 : Int) == r) = false := by simp; omega
          have a2 : ((65 : Int) == r) = false := by simp; omega
          clear h1 h2
          go_wp2
          go_roundg (16 - (10 + 1))
          case measure => omega
          case rel => exact ⟨10 + 1, rfl, by omega, rfl, hn, rfl⟩
    · have xs : (⟨#[48, 49, 50, 51, 52, 53, 54, 55, 56, 57, 97, 98, 99, 100, 101, 102]⟩ : ByteArray)[11].toNat = 98 := rfl
      have xt : (⟨#[48, 49, 50, 51, 52, 53, 54, 55, 56, 57, 65, 66, 67, 68, 69, 70]⟩ : ByteArray)[11].toNat = 66 := rfl
      by_cases h1 : r = 98
      · have hd : Hid (digit 16 r = 11) := Lib.hid ((HDG.out 11 (by omega) (by omega)).2 (by omega))
        have a1 : ((98 : Int) == r) = true := by simp; omega
        clear h1
        go_wp2
        go_ret
        exact ⟨by rw [hd.out]; rfl, rfl⟩
      · by_cases h2 : r = 66
        · have hd : Hid (digit 16 r = 11) := Lib.hid ((HDG.out 11 (by omega) (by omega)).2 (by omega))
          have a1 : ((98 : Int) == r) = false := by simp; omega
          have a2 : ((66 : Int) == r) = true := by simp; omega
          clear h1 h2
          go_wp2
          go_ret
          exact ⟨by rw [hd.out]; rfl, rfl⟩
        · have hn : Hid (digit 16 r < 0 ∨ ((11 + 1 : Nat) : Int) ≤ digit 16 r) := Lib.hid (by
            have := mt (HDG.out 11 (by omega) (by omega)).1 (by omega)
            have := HI.out
            omega)
          have a1 : ((98 : Int) == r) = false := by simp; omega
          have a2 : ((66 : Int) == r) = false := by simp; omega
          clear h1 h2
          go_wp2
          go_roundg (16 - (11 + 1))
          case measure => omega
          case rel => exact ⟨11 + 1, rfl, by omega, rfl, hn, rfl⟩
    · have xs : (⟨#[48, 49, 50, 51, 52, 53, 54, 55, 56, 57, 97, 98, 99, 100, 101, 102]⟩ : ByteArray)[12].toNat = 99 := rfl
      have xt : (⟨#[48, 49, 50, 51, 52, 53, 54, 55, 56, 57, 65, 66, 67, 68, 69, 70]⟩ : ByteArray)[12].toNat = 67 := rfl
      by_cases h1 : r = 99
      · have hd : Hid (digit 16 r = 12) := Lib.hid ((HDG.out 12 (by omega) (by omega)).2 (by omega))
        have a1 : ((99 : Int) == r) = true := by simp; omega
        clear h1
        go_wp2
        go_ret
        exact ⟨by rw [hd.out]; rfl, rfl⟩
      · by_cases h2 : r = 67
        · have hd : Hid (digit 16 r = 12) := Lib.hid ((HDG.out 12 (by omega) (by omega)).2 (by omega))
          have a1 : ((99 : Int) == r) = false := by simp; omega
          have a2 : ((67 : Int) == r) = true := by simp; omega
          clear h1 h2
          go_wp2
          go_ret
          exact ⟨by rw [hd.out]; rfl, rfl⟩
        · have hn : Hid (digit 16 r < 0 ∨ ((12 + 1 : Nat) : Int) ≤ digit 16 r) := Lib.hid (by
            have := mt (HDG.out 12 (by omega) (by omega)).1 (by omega)
            have := HI.out
            omega)
          have a1 : ((99 : Int) == r) = false := by simp; omega
          have a2 : ((67 : Int) == r) = false := by simp; omega
          clear h1 h2
          go_wp2
          go_roundg (16 - (12 + 1))
          case measure => omega
          case rel => exact ⟨12 + 1, rfl, by omega, rfl, hn, rfl⟩
    · have xs : (⟨#[48, 49, 50, 51, 52, 53, 54, 55, 56, 57, 97, 98, 99, 100, 101, 102]⟩ : ByteArray)[13].toNat = 100 := rfl
      have xt : (⟨#[48, 49, 50, 51, 52, 53, 54, 55, 56, 57, 65, 66, 67, 68, 69, 70]⟩ : ByteArray)[13].toNat = 68 := rfl
      by_cases h1 : r = 100
      · have hd : Hid (digit 16 r = 13) := Lib.hid ((HDG.out 13 (by omega) (by omega)).2 (by omega))
        have a1 : ((100 : Int) == r) = true := by simp; omega
        clear h1
        go_wp2
        go_ret
        exact ⟨by rw [hd.out]; rfl, rfl⟩
      · by_cases h2 : r = 68
        · have hd : Hid (digit 16 r = 13) := Lib.hid ((HDG.out 13 (by omega) (by omega)).2 (by omega))
          have a1 : ((100 : Int) == r) = false := by simp; omega
          have a2 : ((68 : Int) == r) = true := by simp; omega
          clear h1 h2
          go_wp2
          go_ret
          exact ⟨by rw [hd.out]; rfl, rfl⟩
        · have hn : Hid (digit 16 r < 0 ∨ ((13 + 1 : Nat) : Int) ≤ digit 16 r) := Lib.hid (by
            have := mt (HDG.out 13 (by omega) (by omega)).1 (by omega)
            have := HI.out
            omega)
          have a1 : ((100 : Int) == r) = false := by simp; omega
          have a2 : ((68 : Int) == r) = false := by simp; omega
          clear h1 h2
          go_wp2
          go_roundg (16 - (13 + 1))
          case measure => omega
          case rel => exact ⟨13 + 1, rfl, by omega, rfl, hn, rfl⟩
    · have xs : (⟨#[48, 49, 50, 51, 52, 53, 54, 55, 56, 57, 97, 98, 99, 100, 101, 102]⟩ : ByteArray)[14].toNat = 101 := rfl
      have xt : (⟨#[48, 49, 50, 51, 52, 53, 54, 55, 56, 57, 65, 66, 67, 68, 69, 70]⟩ : ByteArray)[14].toNat = 69 := rfl
      by_cases h1 : r = 101
      · have hd : Hid (digit 16 r = 14) := Lib.hid ((HDG.out 14 (by omega) (by omega)).2 (by omega))
        have a1 : ((101 : Int) == r) = true := by simp; omega
        clear h1
        go_wp2
        go_ret
        exact ⟨by rw [hd.out]; rfl, rfl⟩
      · by_cases h2 : r = 69
        · have hd : Hid (digit 16 r = 14) := Lib.hid ((HDG.out 14 (by omega) (by omega)).2 (by omega))
          have a1 : ((101 : Int) == r) = false := by simp; omega
          have a2 : ((69 : Int) == r) = true := by simp; omega
          clear h1 h2
          go_wp2
          go_ret
          exact ⟨by rw [hd.out]; rfl, rfl⟩
        · have hn : Hid (digit 16 r < 0 ∨ ((14 + 1 : Nat) : Int) ≤ digit 16 r) := Lib.hid (by
            have := mt (HDG.out 14 (by omega) (by omega)).1 (by omega)
            have := HI.out
            omega)
          have a1 : ((101 : Int) == r) = false := by simp; omega
          have a2 : ((69 : Int) == r) = false := by simp; omega
          clear h1 h2
          go_wp2
          go_roundg (16 - (14 + 1))
          case measure => omega
          case rel => exact ⟨14 + 1, rfl, by omega, rfl, hn, rfl⟩
    · have xs : (⟨#[48, 49, 50, 51, 52, 53, 54, 55, 56, 57, 97, 98, 99, 100, 101, 102]⟩ : ByteArray)[15].toNat = 102 := rfl
      have xt : (⟨#[48, 49, 50, 51, 52, 53, 54, 55, 56, 57, 65, 66, 67, 68, 69, 70]⟩ : ByteArray)[15].toNat = 70 := rfl
      by_cases h1 : r = 102
      · have hd : Hid (digit 16 r = 15) := Lib.hid ((HDG.out 15 (by omega) (by omega)).2 (by omega))
        have a1 : ((102 : Int) == r) = true := by simp; omega
        clear h1
        go_wp2
        go_ret
        exact ⟨by rw [hd.out]; rfl, rfl⟩
      · by_cases h2 : r = 70
        · have hd : Hid (digit 16 r = 15) := Lib.hid ((HDG.out 15 (by omega) (by omega)).2 (by omega))
          have a1 : ((102 : Int) == r) = false := by simp; omega
          have a2 : ((70 : Int) == r) = true := by simp; omega
          clear h1 h2
          go_wp2
          go_ret
          exact ⟨by rw [hd.out]; rfl, rfl⟩
        · have hn : Hid (digit 16 r < 0 ∨ ((15 + 1 : Nat) : Int) ≤ digit 16 r) := Lib.hid (by
            have := mt (HDG.out 15 (by omega) (by omega)).1 (by omega)
            have := HI.out
            omega)
          have a1 : ((102 : Int) == r) = false := by simp; omega
          have a2 : ((70 : Int) == r) = false := by simp; omega
          clear h1 h2
          go_wp2
          go_roundg (16 - (15 + 1))
          case measure => omega
          case rel => exact ⟨15 + 1, rfl, by omega, rfl, hn, rfl⟩
    · have hd : Hid (digit 16 r = -1) := Lib.hid (by have := HI.out; have := HLT.out; omega)
      go_wp2
      go_ret
      exact ⟨by rw [hd.out]; rfl, rfl⟩
end Go.Proofs.YtmclngahdklfkaaGreatDoor
/- cref.Char. -/
namespace Go.Proofs.YtmclngahdklfkaaGreatDoor
open Go.ChangeShapes Go.WideShapes Go.ChangeAt Go.RowKit
set_option linter.unusedVariables false
theorem digitB_c (b : Int) (hb : b = 10 ∨ b = 16) (r : Int) (w : World) : Calls Tryz.prog 100 #[.int .i64 r, .int .i64 b] w fun e w' => e = .returned (.int .i64 (digit b r)) ∧ w = w' := by
  rcases hb with rfl | rfl
  · exact digit10_c r w
  · exact digit16_c r w
theorem refDigitB_c (b : Int) (hb : b = 10 ∨ b = 16) (r : Int) (w : World) : Calls Tryz.prog 72 #[.int .i64 r, .int .i64 b] w fun e w' => e = .returned (.int .i64 (digit b r)) ∧ w = w' := by
  rcases hb with rfl | rfl
  · exact refDigit10_c r w
  · exact refDigit16_c r w
def numV (o : Int × Nat × Nat) : Value := .tuple #[.int .i64 o.1, .int .i64 (o.2.1 : Int), .int .i64 (o.2.2 : Int)]
theorem pre2 (a b : UInt8) (l : List UInt8) : [a, b].isPrefixOf l = decide (l[0]? = some a ∧ l[1]? = some b) := by
  match l with
  | [] => simp
  | [x] => simp [List.isPrefixOf]
  | x :: y :: t =>
    simp [List.isPrefixOf]; rw [Bool.eq_iff_iff]; simp
    exact ⟨fun ⟨p, q⟩ => ⟨p.symm, q.symm⟩, fun ⟨p, q⟩ => ⟨p.symm, q.symm⟩⟩
theorem pre3 (a b c : UInt8) (l : List UInt8) : [a, b, c].isPrefixOf l = decide (l[0]? = some a ∧ l[1]? = some b ∧ l[2]? = some c) := by
  match l with
  | [] => simp
  | [x] => simp [List.isPrefixOf]
  | [x, y] => simp [List.isPrefixOf]
  | x :: y :: z :: t =>
    simp [List.isPrefixOf]; rw [Bool.eq_iff_iff]; simp
    exact ⟨fun ⟨p, q, r⟩ => ⟨p.symm, q.symm, r.symm⟩, fun ⟨p, q, r⟩ => ⟨p.symm, q.symm, r.symm⟩⟩
set_option maxRecDepth 100000 in
set_option maxHeartbeats 2000000 in
theorem crefChar_range (A : Option Addr) (n cap : Nat) (at_ : Int) (w : World) (ha : at_ < 0 ∨ (n : Int) < at_) :
    Calls Tryz.prog 66 #[.slice A n cap, .int .i64 at_] w fun e w' => e = .returned (numV (0, 0, 3)) ∧ Below w.heap.size w w' := by
  by_cases h0 : at_ < 0
  · have hd : decide (at_ < 0) = true := by simpa using h0
    clear ha
    go_enter Tryz.func66, Tryz.ntmps66
    go_wp2_with fail
    go_step3
    go_wp2
    rw [Exit.noGoto_ret]
    go_ret3
    exact ⟨rfl, Below.refl _ _⟩
  · have h1 : (n : Int) < at_ := by omega
    clear ha
    go_enter Tryz.func66, Tryz.ntmps66
    go_wp2_with fail
    go_step3
    go_wp2
    rw [Exit.noGoto_ret]
    go_ret3
    exact ⟨rfl, Below.refl _ _⟩
set_option maxRecDepth 100000 in
set_option maxHeartbeats 2000000 in
theorem crefChar_no (A : Option Addr) (n cap : Nat) (l : List UInt8) (at_ : Nat) (w : World) (h : Byt w w.heap.size A n cap l) (hm : n ≤ 50000) (hat : at_ ≤ n) (hp : [38, 35].isPrefixOf (l.drop at_) = false) :
    Calls Tryz.prog 66 #[.slice A n cap, .int .i64 at_] w fun e w' => e = .returned (numV (0, 0, 7)) ∧ Below w.heap.size w w' := by
  have hp3 : [38, 35, 120].isPrefixOf (l.drop at_) = false := by
    rw [pre2] at hp
    rw [pre3]
    simp only [decide_eq_false_iff_not] at hp ⊢
    exact fun h => hp ⟨h.1, h.2.1⟩
  have hat' : ¬ (n : Int) < (at_ : Int) := by omega
  have hrf : ∀ w2 : World, (Instr.slice 22 (.slice A n cap) (some (.int .i64 (at_ : Int))) none none).run Tryz.prog w2 = .ok (.slice (cutA A cap at_) (n - at_) (cap - at_)) w2 := fun w2 => run_from (w := w2) A n cap at_ hat
  have hap : IntKind.i64.wrap ((at_ : Int) + 2) = (at_ : Int) + 2 := by rw [IntKind.wrap_i64]; omega
  have kc := fun (w : World) (C : Array Value) (n c : Nat) => Lib.run_convert_bytes_const (P := Tryz.prog) w 22 5 C n c Tryz.underlying22 Tryz.underlying5
  have kc2 := kc (w.alloc (.cells #[bv 38, bv 35, bv 120] 5 (3, 4))) #[.int .u8 38, .int .u8 35] 2 2
  rw [show (w.alloc (.cells #[bv 38, bv 35, bv 120] 5 (3, 4))).heap.size = w.heap.size + 1 by simp] at kc2
  have k1 := Byt.const w [38, 35, 120] (3, 4) (by decide)
  have b1 : Below w.heap.size w (w.alloc (.cells ([38, 35, 120].map bv).toArray 5 (3, 4))) := (Below.refl _ _).alloc (Nat.le_refl _) _
  have c1 := hasPrefix_c _ _ _ _ _ _ _ _ _ _ _ ((h.below b1).drop hat) k1
  have k2 := Byt.const (w.alloc (.cells ([38, 35, 120].map bv).toArray 5 (3, 4))) [38, 35] (2, 3) (by decide)
  have b2 : Below w.heap.size w ((w.alloc (.cells ([38, 35, 120].map bv).toArray 5 (3, 4))).alloc (.cells ([38, 35].map bv).toArray 5 (2, 3))) := b1.alloc (by simp) _
  have c2 := hasPrefix_c _ _ _ _ _ _ _ _ _ _ _ ((h.below b2).drop hat) k2
  rw [hp3] at c1
  rw [hp] at c2
  rw [show (w.alloc (.cells ([38, 35, 120].map bv).toArray 5 (3, 4))).heap.size = w.heap.size + 1 by simp] at c2
  have HC2 := Lib.hid c2
  clear c2
  have HB := Lib.hid b2
  clear b2 b1 k1 k2 h hp hp3 hm
  go_enter Tryz.func66, Tryz.ntmps66
  go_wp2_with fail
  go_step3
  go_wp2_with fail
  refine c1.mono ?_
  rintro e w1 ⟨rfl, rfl⟩
  clear kc c1
  go_wp2_with fail
  refine HC2.out.mono ?_
  rintro e w1 ⟨rfl, rfl⟩
  go_wp2
  rw [Exit.noGoto_ret]
  go_ret3
  exact ⟨rfl, HB.out⟩
end Go.Proofs.YtmclngahdklfkaaGreatDoor
/- cref.Char. -/
namespace Go.Proofs.YtmclngahdklfkaaGreatDoor
open Go.ChangeShapes Go.WideShapes Go.ChangeAt Go.RowKit
set_option linter.unusedVariables false
theorem ne_byte' (c n : UInt8) (z : Int) (hz : z = (n.toNat : Int)) (h : ¬ c = n) : ((c.toNat : Int) == z) = false := by rw [hz, toNat_eq]; simp [h]
set_option maxRecDepth 100000 in
set_option maxHeartbeats 2000000 in
theorem crefChar_16 (A : Option Addr) (n cap : Nat) (l : List UInt8) (at_ : Nat) (w : World) (h : Byt w w.heap.size A n cap l) (hT : Tabs w) (hF : Forms w) (hm : n ≤ 50000) (hat : at_ ≤ n) (hp : [38, 35, 120].isPrefixOf (l.drop at_) = true) :
    Calls Tryz.prog 66 #[.slice A n cap, .int .i64 at_] w fun e w' => e = .returned (numV (charBody 16 2097152 l (at_ + 3))) ∧ Below w.heap.size w w' := by
  have hln := h.length
  have hlen : at_ + 3 ≤ n := by
    rw [pre3] at hp
    have h2 := (of_decide_eq_true hp).2.2
    rw [List.getElem?_drop] at h2
    rcases Nat.lt_or_ge (at_ + 2) l.length with g | g
    · omega
    · rw [List.getElem?_eq_none g] at h2; cases h2
  obtain ⟨b, o, c, rfl, hb, hc, hcell⟩ := h.cell (i := at_) (by omega)
  clear hb hc hcell
  have hat' : ¬ (n : Int) < (at_ : Int) := by omega
  have hrf : ∀ w2 : World, (Instr.slice 22 (.slice (some ⟨b, o, none⟩) n cap) (some (.int .i64 (at_ : Int))) none none).run Tryz.prog w2 = .ok (.slice (cutA (some ⟨b, o, none⟩) cap at_) (n - at_) (cap - at_)) w2 := fun w2 => run_from (w := w2) (some ⟨b, o, none⟩) n cap at_ hat
  have hap : IntKind.i64.wrap ((at_ : Int) + 2) = (at_ : Int) + 2 := by rw [IntKind.wrap_i64]; omega
  have hap3 : IntKind.i64.wrap ((at_ : Int) + 3) = (at_ : Int) + 3 := by rw [IntKind.wrap_i64]; omega
  have hL := hT.low hF
  have kc := fun (w : World) (C : Array Value) (n c : Nat) => Lib.run_convert_bytes_const (P := Tryz.prog) w 22 5 C n c Tryz.underlying22 Tryz.underlying5
  have kc2 := kc (w.alloc (.cells #[bv 38, bv 35, bv 120] 5 (3, 4))) #[.int .u8 38, .int .u8 35] 2 2
  rw [show (w.alloc (.cells #[bv 38, bv 35, bv 120] 5 (3, 4))).heap.size = w.heap.size + 1 by simp] at kc2
  have k1 := Byt.const w [38, 35, 120] (3, 4) (by decide)
  have b1 : Below w.heap.size w (w.alloc (.cells ([38, 35, 120].map bv).toArray 5 (3, 4))) := (Below.refl _ _).alloc (Nat.le_refl _) _
  have c1 := hasPrefix_c _ _ _ _ _ _ _ _ _ _ _ ((h.below b1).drop hat) k1
  rw [hp] at c1
  have HB := Lib.hid b1
  clear b1 k1 hp
  have HFR : Hid ((at_ : Int) + 3 = ((at_ + 3 : Nat) : Int)) := Lib.hid (by omega)
  have hfn : at_ + 3 ≤ n := hlen
  have hds := digs_le 16 (l.drop (at_ + 3))
  have hda := digs_at 16 (l.drop (at_ + 3))
  have hdt := digs_take 16 (l.drop (at_ + 3))
  have hdm := digs_mem 16 (l.drop (at_ + 3))
  rw [List.length_drop, hln] at hds
  have hk59 : l[(at_ + 3) + (digs 16 (l.drop (at_ + 3))).length]? = l[(at_ + 3) + (digs 16 (l.drop (at_ + 3))).length]? := rfl
  have HLN := Lib.hid hln
  have HC : Hid (charBody 16 2097152 l (at_ + 3) = if (digs 16 (l.drop (at_ + 3))).length = 0 ∨ l[(at_ + 3) + (digs 16 (l.drop (at_ + 3))).length]? ≠ some 59 then (0, 0, 7) else if isDoc (numC 16 2097152 (digs 16 (l.drop (at_ + 3)))) = true then (numC 16 2097152 (digs 16 (l.drop (at_ + 3))), (at_ + 3) + (digs 16 (l.drop (at_ + 3))).length + 1, 0) else (0, 0, 6)) := Lib.hid rfl
  generalize hdd : digs 16 (l.drop (at_ + 3)) = ds at *
  have hnb : ∀ k, 0 ≤ numC 16 2097152 (ds.take k) ∧ numC 16 2097152 (ds.take k) ≤ 2097152 := fun k => ⟨numC_nonneg 16 2097152 (by omega) (by omega) _ fun c hc => hdm c (List.mem_of_mem_take hc), numC_le _ _ (by omega) _⟩
  have HD := Lib.hid (And.intro hda (And.intro hdt hnb))
  have HS := Lib.hid hds
  have HH := Lib.hid (And.intro h (And.intro hT hL))
  clear hk59 hdm hda hdt hnb hdd h hT hF hL hds
  generalize charBody 16 2097152 l (at_ + 3) = res at *
  go_enter Tryz.func66, Tryz.ntmps66
  go_wp2_with fail
  go_step3
  go_wp2_with fail
  refine c1.mono ?_
  rintro e w1 ⟨rfl, rfl⟩
  clear kc c1
  go_wp2_with fail
  generalize hwq : (w.alloc (.cells #[bv 38, bv 35, bv 120] 5 (3, 4))) = wq
  have HQ : Hid (Below w.heap.size w wq) := Lib.hid (by rw [← hwq]; exact HB.out)
  clear hwq
  have HCELL : Hid (∀ k, k < n → wq.cell? ⟨b, o + k, none⟩ = some (.int .u8 (UInt8.toNat (l.getD k 0) : Int))) := Lib.hid fun k hk => by
    obtain ⟨b', o', c', e, hb', hc', hcl⟩ := (HH.out.1.below HQ.out).cell hk
    cases e
    rw [hcl, List.getD_eq_getElem?_getD, hc']
    rfl
  go_step3
  go_wp2_with fail
  go_loopg [4, 5] (n + 1 - (at_ + 3)) (fun g r i wr => ∃ j : Nat, at_ + 3 ≤ j ∧ j ≤ at_ + 3 + ds.length ∧ Hid (g + j = n + 1) ∧ i = .int .i64 (j : Int) ∧ r = .int .i64 (numC 16 2097152 (ds.take (j - (at_ + 3)))) ∧ wq = wr)
  case atStart => exact ⟨at_ + 3, Nat.le_refl _, Nat.le_add_right _ _, Lib.hid (by omega), rfl, by rw [Nat.sub_self]; rfl, rfl⟩
  case round =>
    obtain ⟨j, hj1, hj2, hg, rfl, rfl, rfl⟩ := hrel
    have hbn := (HD.out.2.2 (j - (at_ + 3)))
    have hb0 := hbn.1
    have hb1 := hbn.2
    have hj0 : (0 : Int) ≤ (j : Int) := by omega
    have hjb : (j : Int) ≤ 50000 := by have := HS.out; omega
    clear hbn
    by_cases hjn : j < n
    · have hcl := HCELL.out j hjn
      have hgd : (l.drop (at_ + 3))[j - (at_ + 3)]? = some (l.getD j 0) := by
        rw [List.getElem?_drop, show (at_ + 3) + (j - (at_ + 3)) = j by omega, List.getElem?_eq_getElem (by omega)]; simp [List.getD_eq_getElem?_getD, hln ▸ hjn]
      have hat59 := HD.out.1 (j - (at_ + 3)) (l.getD j 0) (by omega) hgd
      have hdl := digit_lt 16 (by omega) (UInt8.toNat (l.getD j 0) : Int)
      have hjin : (j : Int) < (n : Int) := by omega
      by_cases hjm : j < (at_ + 3) + ds.length
      · have hD0 : 0 ≤ digit 16 (UInt8.toNat (l.getD j 0) : Int) := hat59.1 (by omega)
        have HN : Hid (numC 16 2097152 (ds.take (j + 1 - (at_ + 3))) = min (numC 16 2097152 (ds.take (j - (at_ + 3))) * 16 + digit 16 (UInt8.toNat (l.getD j 0) : Int)) 2097152) := Lib.hid (by
          rw [show j + 1 - (at_ + 3) = (j - (at_ + 3)) + 1 by omega, take_snoc ds (j - (at_ + 3)) (l.getD j 0), numC_snoc]
          rw [HD.out.2.1, List.getElem?_take_of_lt (by omega)]; exact hgd)
        have HDC : Hid (Calls Tryz.prog 100 #[.int .i64 (UInt8.toNat (l.getD j 0) : Int), .int .i64 16] wq fun e w' => e = .returned (.int .i64 (digit 16 (UInt8.toNat (l.getD j 0) : Int))) ∧ wq = w') := Lib.hid (digitB_c 16 (by omega) _ wq)
        have hdl1 := hdl.1
        have hlx : 0 ≤ (UInt8.toNat (l.getD j 0) : Int) := by omega
        have hly : (UInt8.toNat (l.getD j 0) : Int) ≤ 255 := by have := (l.getD j 0).toNat_lt; omega
        clear hat59 hgd hdl
        generalize (UInt8.toNat (l.getD j 0) : Int) = dn at *
        generalize digit 16 dn = D at *
        generalize numC 16 2097152 (ds.take (j - (at_ + 3))) = r at *
        have hdn : decide (D < 0) = false := by simp; omega
        go_wp2_with fail
        refine HDC.out.mono ?_
        rintro e w1 ⟨rfl, rfl⟩
        go_wp2
        go_roundg (n - j)
        case measure => have := hg.out; omega
        case rel => exact ⟨j + 1, by omega, by omega, Lib.hid (by omega), by go_num, by rw [HN.out], rfl⟩
      · obtain rfl : j = (at_ + 3) + ds.length := by omega
        have hD0 : digit 16 (UInt8.toNat (l.getD ((at_ + 3) + ds.length) 0) : Int) < 0 := by
          rcases Int.lt_or_le (digit 16 (UInt8.toNat (l.getD ((at_ + 3) + ds.length) 0) : Int)) 0 with h | h
          · exact h
          · have := hat59.2 h; omega
        have h59 : l[(at_ + 3) + ds.length]? = some (l.getD ((at_ + 3) + ds.length) 0) := by
          rw [List.getElem?_eq_getElem (by omega)]; simp [List.getD_eq_getElem?_getD, hln ▸ hjn]
        have htk : ds.take ((at_ + 3) + ds.length - (at_ + 3)) = ds := by rw [show (at_ + 3) + ds.length - (at_ + 3) = ds.length by omega, List.take_length]
        rw [htk] at hb0 hb1 ⊢
        have HDC : Hid (Calls Tryz.prog 100 #[.int .i64 (UInt8.toNat (l.getD ((at_ + 3) + ds.length) 0) : Int), .int .i64 16] wq fun e w' => e = .returned (.int .i64 (digit 16 (UInt8.toNat (l.getD ((at_ + 3) + ds.length) 0) : Int))) ∧ wq = w') := Lib.hid (digitB_c 16 (by omega) _ wq)
        have hdn : decide (digit 16 (UInt8.toNat (l.getD ((at_ + 3) + ds.length) 0) : Int) < 0) = true := decide_eq_true hD0
        have hcc := HC.out
        rw [h59] at hcc
        have HT1 := Lib.hid (char_c (numC 16 2097152 ds) wq (HH.out.2.1.below HQ.out HH.out.2.2))
        clear hat59 hgd hdl htk h59
        generalize hdd : l.getD ((at_ + 3) + ds.length) 0 = d at *
        have hlx : 0 ≤ (d.toNat : Int) := by omega
        have hly : (d.toNat : Int) ≤ 255 := by have := d.toNat_lt; omega
        have hne59 : ¬ d = 59 → ((d.toNat : Int) != 59) = true := fun h => by have := ne_byte' d 59 59 rfl h; simp [bne, this]
        generalize digit 16 (d.toNat : Int) = D at *
        generalize numC 16 2097152 ds = r at *
        generalize hJ : (at_ + 3) + ds.length = J at *
        by_cases hm0 : ds.length = 0
        · have HRES : Hid (res = (0, 0, 7)) := Lib.hid (by rw [hcc, if_pos (Or.inl hm0)])
          have hJ0 : ((J : Int) == (at_ : Int) + 3) = true := by simp; omega
          have HJ := Lib.hid hJ
          clear hcc hm0 hJ hdd hne59
          go_wp2_with fail
          refine HDC.out.mono ?_
          rintro e w1 ⟨rfl, rfl⟩
          go_wp2
          try rw [Exit.noGoto_ret]
          go_ret3
          rw [HRES.out]
          exact ⟨rfl, HQ.out⟩
        · have hJ0 : ((J : Int) == (at_ : Int) + 3) = false := by simp; omega
          have hJn : ((J : Int) == (n : Int)) = false := by simp; omega
          by_cases hd59 : d = 59
          · have hcl' : wq.cell? ⟨b, o + J, none⟩ = some (.int .u8 59) := by rw [hcl, hd59]; rfl
            have hDd : d.toNat = 59 := by rw [hd59]; rfl
            cases hdoc : isDoc r with
            | true =>
              have HRES : Hid (res = (r, J + 1, 0)) := Lib.hid (by rw [hcc, if_neg (by rw [hd59]; simp; exact List.ne_nil_of_length_pos (by omega)), if_pos hdoc])
              rw [hdoc] at HT1
              have HJ := Lib.hid hJ
              have hm0' : 0 < ds.length := by omega
              rw [hDd] at HDC hcl
              clear hcc hm0 hJ hdd hne59 hd59 hDd hdoc hcl'
              go_wp2_with fail
              refine HDC.out.mono ?_
              rintro e w1 ⟨rfl, rfl⟩
              go_wp2_with fail
              refine HT1.out.mono ?_
              rintro e w1 ⟨rfl, hb⟩
              have HE : Hid (Below w.heap.size w w1) := Lib.hid (HQ.out.trans (hb.mono HQ.out.size))
              clear hb
              go_wp2
              try rw [Exit.noGoto_ret]
              go_ret3
              rw [HRES.out]
              exact ⟨rfl, HE.out⟩
            | false =>
              have HRES : Hid (res = (0, 0, 6)) := Lib.hid (by rw [hcc, if_neg (by rw [hd59]; simp; exact List.ne_nil_of_length_pos (by omega)), if_neg (by rw [hdoc]; decide)])
              rw [hdoc] at HT1
              have HJ := Lib.hid hJ
              have hm0' : 0 < ds.length := by omega
              rw [hDd] at HDC hcl
              clear hcc hm0 hJ hdd hne59 hd59 hDd hdoc hcl'
              go_wp2_with fail
              refine HDC.out.mono ?_
              rintro e w1 ⟨rfl, rfl⟩
              go_wp2_with fail
              refine HT1.out.mono ?_
              rintro e w1 ⟨rfl, hb⟩
              have HE : Hid (Below w.heap.size w w1) := Lib.hid (HQ.out.trans (hb.mono HQ.out.size))
              clear hb
              go_wp2
              try rw [Exit.noGoto_ret]
              go_ret3
              rw [HRES.out]
              exact ⟨rfl, HE.out⟩
          · have HRES : Hid (res = (0, 0, 7)) := Lib.hid (by rw [hcc, if_pos (Or.inr (by simpa using hd59))])
            have hdn59 := hne59 hd59
            have HJ := Lib.hid hJ
            have hm0' : 0 < ds.length := by omega
            clear hcc hm0 hJ hdd hne59 hd59
            generalize (d.toNat : Int) = dn at *
            go_wp2_with fail
            refine HDC.out.mono ?_
            rintro e w1 ⟨rfl, rfl⟩
            go_wp2
            try rw [Exit.noGoto_ret]
            go_ret3
            rw [HRES.out]
            exact ⟨rfl, HQ.out⟩
    · have hjm : j = (at_ + 3) + ds.length := by have := HS.out; omega
      have hjnn : j = n := by have := HS.out; omega
      have HRES : Hid (res = (0, 0, 7)) := Lib.hid (by rw [HC.out, if_pos (Or.inr (by rw [← hjm, List.getElem?_eq_none (by omega)]; simp))])
      have hjin : ¬ (j : Int) < (n : Int) := by omega
      have hjin2 : ((j : Int) == (n : Int)) = true := by simp; omega
      have HJ := Lib.hid (And.intro hjm hjnn)
      clear hjm hjnn
      generalize hz : ((j : Int) == (at_ : Int) + 3) = z at *
      cases z with
      | true =>
        go_wp2
        try rw [Exit.noGoto_ret]
        go_ret3
        rw [HRES.out]
        exact ⟨rfl, HQ.out⟩
      | false =>
        go_wp2
        try rw [Exit.noGoto_ret]
        go_ret3
        rw [HRES.out]
        exact ⟨rfl, HQ.out⟩
set_option maxRecDepth 100000 in
set_option maxHeartbeats 2000000 in
theorem crefChar_10 (A : Option Addr) (n cap : Nat) (l : List UInt8) (at_ : Nat) (w : World) (h : Byt w w.heap.size A n cap l) (hT : Tabs w) (hF : Forms w) (hm : n ≤ 50000) (hat : at_ ≤ n) (hp3 : [38, 35, 120].isPrefixOf (l.drop at_) = false) (hp : [38, 35].isPrefixOf (l.drop at_) = true) :
    Calls Tryz.prog 66 #[.slice A n cap, .int .i64 at_] w fun e w' => e = .returned (numV (charBody 10 2097152 l (at_ + 2))) ∧ Below w.heap.size w w' := by
  have hln := h.length
  have hlen : at_ + 2 ≤ n := by
    rw [pre2] at hp
    have h2 := (of_decide_eq_true hp).2
    rw [List.getElem?_drop] at h2
    rcases Nat.lt_or_ge (at_ + 1) l.length with g | g
    · omega
    · rw [List.getElem?_eq_none g] at h2; cases h2
  obtain ⟨b, o, c, rfl, hb, hc, hcell⟩ := h.cell (i := at_) (by omega)
  clear hb hc hcell
  have hat' : ¬ (n : Int) < (at_ : Int) := by omega
  have hrf : ∀ w2 : World, (Instr.slice 22 (.slice (some ⟨b, o, none⟩) n cap) (some (.int .i64 (at_ : Int))) none none).run Tryz.prog w2 = .ok (.slice (cutA (some ⟨b, o, none⟩) cap at_) (n - at_) (cap - at_)) w2 := fun w2 => run_from (w := w2) (some ⟨b, o, none⟩) n cap at_ hat
  have hap : IntKind.i64.wrap ((at_ : Int) + 2) = (at_ : Int) + 2 := by rw [IntKind.wrap_i64]; omega
  have hap3 : IntKind.i64.wrap ((at_ : Int) + 3) = (at_ : Int) + 3 := by rw [IntKind.wrap_i64]; omega
  have hL := hT.low hF
  have kc := fun (w : World) (C : Array Value) (n c : Nat) => Lib.run_convert_bytes_const (P := Tryz.prog) w 22 5 C n c Tryz.underlying22 Tryz.underlying5
  have kc2 := kc (w.alloc (.cells #[bv 38, bv 35, bv 120] 5 (3, 4))) #[.int .u8 38, .int .u8 35] 2 2
  rw [show (w.alloc (.cells #[bv 38, bv 35, bv 120] 5 (3, 4))).heap.size = w.heap.size + 1 by simp] at kc2
  have k1 := Byt.const w [38, 35, 120] (3, 4) (by decide)
  have b1 : Below w.heap.size w (w.alloc (.cells ([38, 35, 120].map bv).toArray 5 (3, 4))) := (Below.refl _ _).alloc (Nat.le_refl _) _
  have c1 := hasPrefix_c _ _ _ _ _ _ _ _ _ _ _ ((h.below b1).drop hat) k1
  have k2 := Byt.const (w.alloc (.cells ([38, 35, 120].map bv).toArray 5 (3, 4))) [38, 35] (2, 3) (by decide)
  have b2 : Below w.heap.size w ((w.alloc (.cells ([38, 35, 120].map bv).toArray 5 (3, 4))).alloc (.cells ([38, 35].map bv).toArray 5 (2, 3))) := b1.alloc (by simp) _
  have c2 := hasPrefix_c _ _ _ _ _ _ _ _ _ _ _ ((h.below b2).drop hat) k2
  rw [hp3] at c1
  rw [hp] at c2
  rw [show (w.alloc (.cells ([38, 35, 120].map bv).toArray 5 (3, 4))).heap.size = w.heap.size + 1 by simp] at c2
  have HC2 := Lib.hid c2
  clear c2
  have HB := Lib.hid b2
  clear b1 b2 k1 k2 hp hp3
  have HFR : Hid ((at_ : Int) + 2 = ((at_ + 2 : Nat) : Int)) := Lib.hid (by omega)
  have hfn : at_ + 2 ≤ n := hlen
  have hds := digs_le 10 (l.drop (at_ + 2))
  have hda := digs_at 10 (l.drop (at_ + 2))
  have hdt := digs_take 10 (l.drop (at_ + 2))
  have hdm := digs_mem 10 (l.drop (at_ + 2))
  rw [List.length_drop, hln] at hds
  have hk59 : l[(at_ + 2) + (digs 10 (l.drop (at_ + 2))).length]? = l[(at_ + 2) + (digs 10 (l.drop (at_ + 2))).length]? := rfl
  have HLN := Lib.hid hln
  have HC : Hid (charBody 10 2097152 l (at_ + 2) = if (digs 10 (l.drop (at_ + 2))).length = 0 ∨ l[(at_ + 2) + (digs 10 (l.drop (at_ + 2))).length]? ≠ some 59 then (0, 0, 7) else if isDoc (numC 10 2097152 (digs 10 (l.drop (at_ + 2)))) = true then (numC 10 2097152 (digs 10 (l.drop (at_ + 2))), (at_ + 2) + (digs 10 (l.drop (at_ + 2))).length + 1, 0) else (0, 0, 6)) := Lib.hid rfl
  generalize hdd : digs 10 (l.drop (at_ + 2)) = ds at *
  have hnb : ∀ k, 0 ≤ numC 10 2097152 (ds.take k) ∧ numC 10 2097152 (ds.take k) ≤ 2097152 := fun k => ⟨numC_nonneg 10 2097152 (by omega) (by omega) _ fun c hc => hdm c (List.mem_of_mem_take hc), numC_le _ _ (by omega) _⟩
  have HD := Lib.hid (And.intro hda (And.intro hdt hnb))
  have HS := Lib.hid hds
  have HH := Lib.hid (And.intro h (And.intro hT hL))
  clear hk59 hdm hda hdt hnb hdd h hT hF hL hds
  generalize charBody 10 2097152 l (at_ + 2) = res at *
  go_enter Tryz.func66, Tryz.ntmps66
  go_wp2_with fail
  go_step3
  go_wp2_with fail
  refine c1.mono ?_
  rintro e w1 ⟨rfl, rfl⟩
  clear kc c1
  go_wp2_with fail
  refine HC2.out.mono ?_
  rintro e w1 ⟨rfl, rfl⟩
  go_wp2_with fail
  generalize hwq : ((w.alloc (.cells #[bv 38, bv 35, bv 120] 5 (3, 4))).alloc (.cells #[bv 38, bv 35] 5 (2, 3))) = wq
  have HQ : Hid (Below w.heap.size w wq) := Lib.hid (by rw [← hwq]; exact HB.out)
  clear hwq
  have HCELL : Hid (∀ k, k < n → wq.cell? ⟨b, o + k, none⟩ = some (.int .u8 (UInt8.toNat (l.getD k 0) : Int))) := Lib.hid fun k hk => by
    obtain ⟨b', o', c', e, hb', hc', hcl⟩ := (HH.out.1.below HQ.out).cell hk
    cases e
    rw [hcl, List.getD_eq_getElem?_getD, hc']
    rfl
  go_step3
  go_wp2_with fail
  go_loopg [4, 5] (n + 1 - (at_ + 2)) (fun g r i wr => ∃ j : Nat, at_ + 2 ≤ j ∧ j ≤ at_ + 2 + ds.length ∧ Hid (g + j = n + 1) ∧ i = .int .i64 (j : Int) ∧ r = .int .i64 (numC 10 2097152 (ds.take (j - (at_ + 2)))) ∧ wq = wr)
  case atStart => exact ⟨at_ + 2, Nat.le_refl _, Nat.le_add_right _ _, Lib.hid (by omega), rfl, by rw [Nat.sub_self]; rfl, rfl⟩
  case round =>
    obtain ⟨j, hj1, hj2, hg, rfl, rfl, rfl⟩ := hrel
    have hbn := (HD.out.2.2 (j - (at_ + 2)))
    have hb0 := hbn.1
    have hb1 := hbn.2
    have hj0 : (0 : Int) ≤ (j : Int) := by omega
    have hjb : (j : Int) ≤ 50000 := by have := HS.out; omega
    clear hbn
    by_cases hjn : j < n
    · have hcl := HCELL.out j hjn
      have hgd : (l.drop (at_ + 2))[j - (at_ + 2)]? = some (l.getD j 0) := by
        rw [List.getElem?_drop, show (at_ + 2) + (j - (at_ + 2)) = j by omega, List.getElem?_eq_getElem (by omega)]; simp [List.getD_eq_getElem?_getD, hln ▸ hjn]
      have hat59 := HD.out.1 (j - (at_ + 2)) (l.getD j 0) (by omega) hgd
      have hdl := digit_lt 10 (by omega) (UInt8.toNat (l.getD j 0) : Int)
      have hjin : (j : Int) < (n : Int) := by omega
      by_cases hjm : j < (at_ + 2) + ds.length
      · have hD0 : 0 ≤ digit 10 (UInt8.toNat (l.getD j 0) : Int) := hat59.1 (by omega)
        have HN : Hid (numC 10 2097152 (ds.take (j + 1 - (at_ + 2))) = min (numC 10 2097152 (ds.take (j - (at_ + 2))) * 10 + digit 10 (UInt8.toNat (l.getD j 0) : Int)) 2097152) := Lib.hid (by
          rw [show j + 1 - (at_ + 2) = (j - (at_ + 2)) + 1 by omega, take_snoc ds (j - (at_ + 2)) (l.getD j 0), numC_snoc]
          rw [HD.out.2.1, List.getElem?_take_of_lt (by omega)]; exact hgd)
        have HDC : Hid (Calls Tryz.prog 100 #[.int .i64 (UInt8.toNat (l.getD j 0) : Int), .int .i64 10] wq fun e w' => e = .returned (.int .i64 (digit 10 (UInt8.toNat (l.getD j 0) : Int))) ∧ wq = w') := Lib.hid (digitB_c 10 (by omega) _ wq)
        have hdl1 := hdl.1
        have hlx : 0 ≤ (UInt8.toNat (l.getD j 0) : Int) := by omega
        have hly : (UInt8.toNat (l.getD j 0) : Int) ≤ 255 := by have := (l.getD j 0).toNat_lt; omega
        clear hat59 hgd hdl
        generalize (UInt8.toNat (l.getD j 0) : Int) = dn at *
        generalize digit 10 dn = D at *
        generalize numC 10 2097152 (ds.take (j - (at_ + 2))) = r at *
        have hdn : decide (D < 0) = false := by simp; omega
        go_wp2_with fail
        refine HDC.out.mono ?_
        rintro e w1 ⟨rfl, rfl⟩
        go_wp2
        go_roundg (n - j)
        case measure => have := hg.out; omega
        case rel => exact ⟨j + 1, by omega, by omega, Lib.hid (by omega), by go_num, by rw [HN.out], rfl⟩
      · obtain rfl : j = (at_ + 2) + ds.length := by omega
        have hD0 : digit 10 (UInt8.toNat (l.getD ((at_ + 2) + ds.length) 0) : Int) < 0 := by
          rcases Int.lt_or_le (digit 10 (UInt8.toNat (l.getD ((at_ + 2) + ds.length) 0) : Int)) 0 with h | h
          · exact h
          · have := hat59.2 h; omega
        have h59 : l[(at_ + 2) + ds.length]? = some (l.getD ((at_ + 2) + ds.length) 0) := by
          rw [List.getElem?_eq_getElem (by omega)]; simp [List.getD_eq_getElem?_getD, hln ▸ hjn]
        have htk : ds.take ((at_ + 2) + ds.length - (at_ + 2)) = ds := by rw [show (at_ + 2) + ds.length - (at_ + 2) = ds.length by omega, List.take_length]
        rw [htk] at hb0 hb1 ⊢
        have HDC : Hid (Calls Tryz.prog 100 #[.int .i64 (UInt8.toNat (l.getD ((at_ + 2) + ds.length) 0) : Int), .int .i64 10] wq fun e w' => e = .returned (.int .i64 (digit 10 (UInt8.toNat (l.getD ((at_ + 2) + ds.length) 0) : Int))) ∧ wq = w') := Lib.hid (digitB_c 10 (by omega) _ wq)
        have hdn : decide (digit 10 (UInt8.toNat (l.getD ((at_ + 2) + ds.length) 0) : Int) < 0) = true := decide_eq_true hD0
        have hcc := HC.out
        rw [h59] at hcc
        have HT1 := Lib.hid (char_c (numC 10 2097152 ds) wq (HH.out.2.1.below HQ.out HH.out.2.2))
        clear hat59 hgd hdl htk h59
        generalize hdd : l.getD ((at_ + 2) + ds.length) 0 = d at *
        have hlx : 0 ≤ (d.toNat : Int) := by omega
        have hly : (d.toNat : Int) ≤ 255 := by have := d.toNat_lt; omega
        have hne59 : ¬ d = 59 → ((d.toNat : Int) != 59) = true := fun h => by have := ne_byte' d 59 59 rfl h; simp [bne, this]
        generalize digit 10 (d.toNat : Int) = D at *
        generalize numC 10 2097152 ds = r at *
        generalize hJ : (at_ + 2) + ds.length = J at *
        by_cases hm0 : ds.length = 0
        · have HRES : Hid (res = (0, 0, 7)) := Lib.hid (by rw [hcc, if_pos (Or.inl hm0)])
          have hJ0 : ((J : Int) == (at_ : Int) + 2) = true := by simp; omega
          have HJ := Lib.hid hJ
          clear hcc hm0 hJ hdd hne59
          go_wp2_with fail
          refine HDC.out.mono ?_
          rintro e w1 ⟨rfl, rfl⟩
          go_wp2
          try rw [Exit.noGoto_ret]
          go_ret3
          rw [HRES.out]
          exact ⟨rfl, HQ.out⟩
        · have hJ0 : ((J : Int) == (at_ : Int) + 2) = false := by simp; omega
          have hJn : ((J : Int) == (n : Int)) = false := by simp; omega
          by_cases hd59 : d = 59
          · have hcl' : wq.cell? ⟨b, o + J, none⟩ = some (.int .u8 59) := by rw [hcl, hd59]; rfl
            have hDd : d.toNat = 59 := by rw [hd59]; rfl
            cases hdoc : isDoc r with
            | true =>
              have HRES : Hid (res = (r, J + 1, 0)) := Lib.hid (by rw [hcc, if_neg (by rw [hd59]; simp; exact List.ne_nil_of_length_pos (by omega)), if_pos hdoc])
              rw [hdoc] at HT1
              have HJ := Lib.hid hJ
              have hm0' : 0 < ds.length := by omega
              rw [hDd] at HDC hcl
              clear hcc hm0 hJ hdd hne59 hd59 hDd hdoc hcl'
              go_wp2_with fail
              refine HDC.out.mono ?_
              rintro e w1 ⟨rfl, rfl⟩
              go_wp2_with fail
              refine HT1.out.mono ?_
              rintro e w1 ⟨rfl, hb⟩
              have HE : Hid (Below w.heap.size w w1) := Lib.hid (HQ.out.trans (hb.mono HQ.out.size))
              clear hb
              go_wp2
              try rw [Exit.noGoto_ret]
              go_ret3
              rw [HRES.out]
              exact ⟨rfl, HE.out⟩
            | false =>
              have HRES : Hid (res = (0, 0, 6)) := Lib.hid (by rw [hcc, if_neg (by rw [hd59]; simp; exact List.ne_nil_of_length_pos (by omega)), if_neg (by rw [hdoc]; decide)])
              rw [hdoc] at HT1
              have HJ := Lib.hid hJ
              have hm0' : 0 < ds.length := by omega
              rw [hDd] at HDC hcl
              clear hcc hm0 hJ hdd hne59 hd59 hDd hdoc hcl'
              go_wp2_with fail
              refine HDC.out.mono ?_
              rintro e w1 ⟨rfl, rfl⟩
              go_wp2_with fail
              refine HT1.out.mono ?_
              rintro e w1 ⟨rfl, hb⟩
              have HE : Hid (Below w.heap.size w w1) := Lib.hid (HQ.out.trans (hb.mono HQ.out.size))
              clear hb
              go_wp2
              try rw [Exit.noGoto_ret]
              go_ret3
              rw [HRES.out]
              exact ⟨rfl, HE.out⟩
          · have HRES : Hid (res = (0, 0, 7)) := Lib.hid (by rw [hcc, if_pos (Or.inr (by simpa using hd59))])
            have hdn59 := hne59 hd59
            have HJ := Lib.hid hJ
            have hm0' : 0 < ds.length := by omega
            clear hcc hm0 hJ hdd hne59 hd59
            generalize (d.toNat : Int) = dn at *
            go_wp2_with fail
            refine HDC.out.mono ?_
            rintro e w1 ⟨rfl, rfl⟩
            go_wp2
            try rw [Exit.noGoto_ret]
            go_ret3
            rw [HRES.out]
            exact ⟨rfl, HQ.out⟩
    · have hjm : j = (at_ + 2) + ds.length := by have := HS.out; omega
      have hjnn : j = n := by have := HS.out; omega
      have HRES : Hid (res = (0, 0, 7)) := Lib.hid (by rw [HC.out, if_pos (Or.inr (by rw [← hjm, List.getElem?_eq_none (by omega)]; simp))])
      have hjin : ¬ (j : Int) < (n : Int) := by omega
      have hjin2 : ((j : Int) == (n : Int)) = true := by simp; omega
      have HJ := Lib.hid (And.intro hjm hjnn)
      clear hjm hjnn
      generalize hz : ((j : Int) == (at_ : Int) + 2) = z at *
      cases z with
      | true =>
        go_wp2
        try rw [Exit.noGoto_ret]
        go_ret3
        rw [HRES.out]
        exact ⟨rfl, HQ.out⟩
      | false =>
        go_wp2
        try rw [Exit.noGoto_ret]
        go_ret3
        rw [HRES.out]
        exact ⟨rfl, HQ.out⟩
/-- What is read of a reference to a character at any place. -/
def charAt (l : List UInt8) (at_ : Int) : Int × Nat × Nat := if at_ < 0 ∨ (l.length : Int) < at_ then (0, 0, 3) else charOut l at_.toNat
theorem crefChar_c (A : Option Addr) (n cap : Nat) (l : List UInt8) (at_ : Int) (w : World) (h : Byt w w.heap.size A n cap l) (hF : Forms w) (hT : Tabs w) (hm : n ≤ 50000) :
    Calls Tryz.prog 66 #[.slice A n cap, .int .i64 at_] w fun e w' => e = .returned (numV (charAt l at_)) ∧ Below w.heap.size w w' := by
  have hl := h.length
  unfold charAt
  rw [hl]
  by_cases ha : at_ < 0 ∨ (n : Int) < at_
  · rw [if_pos ha]; exact crefChar_range A n cap at_ w ha
  · rw [if_neg ha]
    obtain ⟨k, rfl⟩ : ∃ k : Nat, at_ = (k : Int) := ⟨at_.toNat, by omega⟩
    rw [Int.toNat_natCast]
    have hk : k ≤ n := by omega
    have hd0 : (l.drop k)[0]? = l[k]? := by simp
    have hd1 : (l.drop k)[1]? = l[k + 1]? := by simp
    have hd2 : (l.drop k)[2]? = l[k + 2]? := by simp
    unfold charOut
    by_cases h2 : l[k]? = some 38 ∧ l[k + 1]? = some 35
    · rw [if_pos h2]
      have p2 : [38, 35].isPrefixOf (l.drop k) = true := by rw [pre2, hd0, hd1]; exact decide_eq_true h2
      by_cases h3 : l[k + 2]? = some 120
      · rw [if_pos h3]
        exact crefChar_16 A n cap l k w h hT hF hm hk (by rw [pre3, hd0, hd1, hd2]; exact decide_eq_true ⟨h2.1, h2.2, h3⟩)
      · rw [if_neg h3]
        exact crefChar_10 A n cap l k w h hT hF hm hk (by rw [pre3, hd0, hd1, hd2]; exact decide_eq_false fun h => h3 h.2.2) p2
    · rw [if_neg h2]
      exact crefChar_no A n cap l k w h hm hk (by rw [pre2, hd0, hd1]; exact decide_eq_false h2)
end Go.Proofs.YtmclngahdklfkaaGreatDoor
/- strings.Builder: what its methods do to a builder that the call has made. -/
namespace Go.Proofs.YtmclngahdklfkaaGreatDoor
open Go.ChangeShapes Go.WideShapes Go.ChangeAt Go.RowKit
set_option linter.unusedVariables false
/-- A strings.Builder that the call has made, in block b, that holds the bytes l; its row of bytes lies at R or behind; p: what 'addr' holds. -/
def BldP (p : Value) (R b : Nat) (l : List UInt8) (w : World) : Prop :=
  b < R ∧ ∃ v, w.heap[b]? = some (.cells #[p, v] 116 (0, 0)) ∧ w.ownsRow R 5 1 v l.length (Lib.byteCells l)
/-- .. fresh or used. -/
def Bld (R b : Nat) (l : List UInt8) (w : World) : Prop := BldP (.pointer none) R b l w ∨ BldP (.pointer (some ⟨b, 0, none⟩)) R b l w
/-- Below R every block but b stands. -/
structure Fr (R b : Nat) (w w' : World) : Prop where
  os : w'.os = w.os
  tape : w'.tape = w.tape
  output : w'.output = w.output
  size : w.heap.size ≤ w'.heap.size
  block : ∀ k, k < R → k ≠ b → w'.heap[k]? = w.heap[k]?
theorem Fr.refl (R b : Nat) (w : World) : Fr R b w w := ⟨rfl, rfl, rfl, Nat.le_refl _, fun _ _ _ => rfl⟩
theorem Fr.trans {R b : Nat} {x y z : World} (h : Fr R b x y) (k : Fr R b y z) : Fr R b x z :=
  ⟨k.os.trans h.os, k.tape.trans h.tape, k.output.trans h.output, Nat.le_trans h.size k.size, fun i hi hb => (k.block i hi hb).trans (h.block i hi hb)⟩
theorem Fr.below {R b B : Nat} {w w' : World} (h : Fr R b w w') (hR : B ≤ R) (hb : B ≤ b) : Below B w w' := ⟨h.os, h.tape, h.output, h.size, fun k hk => h.block k (by omega) (by omega)⟩
theorem Fr.mono {R R' b : Nat} {w w' : World} (h : Fr R b w w') (hR : R' ≤ R) : Fr R' b w w' := ⟨h.os, h.tape, h.output, h.size, fun k hk hb => h.block k (by omega) hb⟩
theorem Fr.set {R b : Nat} {w w' : World} (h : Fr R b w w') (i : Nat) (v : Value) : Fr R b w (w'.setCell ⟨b, i, none⟩ v) :=
  ⟨h.os, h.tape, h.output, by have := h.size; simpa [World.setCell] using this, fun k hk hb => by rw [hp_other hb]; exact h.block k hk hb⟩
theorem ownsRow_base {w : World} {B B' : Nat} {e : TypeId} {c : Nat} {v : Value} {n : Nat} {xs : List Value} (h : w.ownsRow B e c v n xs) (hB : B' ≤ B) : w.ownsRow B' e c v n xs := by
  obtain ⟨hl, h2 | ⟨g, cap, cur, hv, hg, r⟩⟩ := h
  · exact ⟨hl, Or.inl h2⟩
  · exact ⟨hl, Or.inr ⟨g, cap, cur, hv, by omega, r⟩⟩
theorem Bld.p {R b : Nat} {l : List UInt8} {w : World} (h : Bld R b l w) : ∃ p, BldP p R b l w := by
  rcases h with h | h
  · exact ⟨_, h⟩
  · exact ⟨_, h⟩
theorem Bld.lt {R b : Nat} {l : List UInt8} {w : World} (h : Bld R b l w) : b < w.heap.size := by
  obtain ⟨p, hb, v, hh, ho⟩ := h.p
  exact lt_of hh
theorem BldP.alloc {p : Value} {R b : Nat} {l : List UInt8} {w : World} (h : BldP p R b l w) (o : Obj) : BldP p R b l (w.alloc o) := by
  obtain ⟨hb, v, hh, ho⟩ := h
  exact ⟨hb, v, hp_old hh, ho.alloc _⟩
theorem Bld.alloc {R b : Nat} {l : List UInt8} {w : World} (h : Bld R b l w) (o : Obj) : Bld R b l (w.alloc o) := by
  rcases h with h | h
  · exact Or.inl (h.alloc o)
  · exact Or.inr (h.alloc o)
theorem Bld.drewN {R b : Nat} {l : List UInt8} {w : World} (h : Bld R b l w) (n : Nat) : Bld R b l (w.drewN n) := h
/-- Below the heap's size every block stands: so does the builder. -/
theorem BldP.kept {p : Value} {R b : Nat} {l : List UInt8} {w w' : World} (h : BldP p R b l w) (hb : Below w.heap.size w w') : BldP p R b l w' := by
  obtain ⟨hb', v, hh, ho⟩ := h
  refine ⟨hb', v, (hb.block b (lt_of hh)).trans hh, ho.kept (row := none) (hb.gr none) ?_⟩
  cases hv : v.ownBlock with
  | none => exact Or.inl rfl
  | some k => exact Or.inr (by simp)
theorem Bld.kept {R b : Nat} {l : List UInt8} {w w' : World} (h : Bld R b l w) (hb : Below w.heap.size w w') : Bld R b l w' := by
  rcases h with h | h
  · exact Or.inl (h.kept hb)
  · exact Or.inr (h.kept hb)
theorem Bld.fresh (R : Nat) (w : World) (hR : w.heap.size < R) : Bld R w.heap.size [] (w.alloc (.cells #[.pointer none, .slice none 0 0] 116)) :=
  Or.inl ⟨hR, .slice none 0 0, hp_new w _, World.ownsRow_nil _ _ _ _⟩
theorem Bld.is {R b : Nat} {l : List UInt8} {w : World} (h : Bld R b l w) : Lib.IsBuilder 116 5 b b (Lib.byteCells l) w := by
  have aux : ∀ p, BldP p R b l w → Lib.BuilderAt 116 5 b b p (Lib.byteCells l) w := by
    rintro p ⟨hb, v, hh, ho⟩
    refine ⟨Nat.le_refl _, v, hh, ?_, ?_⟩
    · rw [Lib.byteCells_length]; exact ownsRow_base ho (by omega)
    · intro e
      have := (ho.lt b e).1
      omega
  rcases h with h | h
  · exact Or.inl (aux _ h)
  · exact Or.inr (aux _ h)
end Go.Proofs.YtmclngahdklfkaaGreatDoor
/- cref.Escape. -/
namespace Go.Proofs.YtmclngahdklfkaaGreatDoor
open Go.ChangeShapes Go.WideShapes Go.ChangeAt Go.RowKit
set_option linter.unusedVariables false
/-- '[]byte(s)'. -/
theorem toBytes (w : World) (l : List UInt8) (hl : l.length ≤ 1000000) : ∃ c w', (convert 9 22 (.string ⟨l.toArray⟩)).run Tryz.prog w = .ok (.slice (some ⟨w.heap.size, 0, none⟩) l.length c) w' ∧ Below w.heap.size w w' ∧ w'.heap.size = w.heap.size + 1 ∧ Byt w' (w.heap.size + 1) (some ⟨w.heap.size, 0, none⟩) l.length c l := by
  have hsz : (⟨l.toArray⟩ : ByteArray).size = l.length := by simp [ByteArray.size]
  refine ⟨_, _, (by have := Lib.run_convert_string_bytes (P := Tryz.prog) w 9 22 5 ⟨l.toArray⟩ Tryz.underlying9 Tryz.underlying22 Tryz.underlying5; rw [hsz] at this; exact this), Lib.bytesWorld_below _ _ _, Lib.bytesWorld_size _ _ _, ⟨by simp, grownCap_ge _ _ _ _, grownCap_le_maxLen _ _ _ _ (by unfold maxLen; omega), (fun e => by cases e), fun _ => ⟨_, _, rfl, by omega, fun i u hu => ?_⟩⟩⟩
  have hi : i < l.length := by
    rcases Nat.lt_or_ge i l.length with h' | h'
    · exact h'
    · rw [List.getElem?_eq_none (by simpa using h')] at hu; cases hu
  rw [Nat.zero_add, Lib.bytesWorld_cell _ _ _ _ (by rw [hsz]; exact hi)]
  rw [List.getElem?_map, List.getElem?_eq_getElem hi] at hu
  simp only [Option.map_some, Option.some.injEq] at hu
  rw [← hu]
  simp [bv, hi]
theorem ne_byte (c n : UInt8) (z : Int) (hz : z = (n.toNat : Int)) (h : ¬ c = n) : ((c.toNat : Int) == z) = false := by rw [hz, toNat_eq]; simp [h]
end Go.Proofs.YtmclngahdklfkaaGreatDoor
