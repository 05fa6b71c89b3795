/- Texts of ours, joined: Dig2, Pfx. -/
import Derived.Test.YtfemfgkcgboopaaGreatDoorRows
import Derived.WalkKit
import Derived.ProofKit
import Derived.OpenShut
import Derived.ShutString
import Derived.ChangeOld
import Derived.Below
import Derived.BigQuiet
import Derived.Deep.QuietTactic
import Derived.Lib.Hide
import Derived.Deep.RegionHeld3
import Derived.Lib.SlBytesConst
import Derived.Laws.CopyOwn
import Derived.Laws.CopyRow
import Derived.Lib.Bytes
import Derived.Deep.LoopGhost
import Derived.Deep.DeepFit
import Derived.Deep.DeepMust
import Derived.WalkSpells
import Derived.WalkLawsBesides
import Derived.Laws.EntriesVeiled
import Derived.Laws.Rows
import Derived.Test.YtfemfgkcgboopaaGreatDoorQ1
import Derived.Test.YtfemfgkcgboopaaGreatDoorQ2
import Derived.Test.YtfemfgkcgboopaaGreatDoorQ3
import Derived.Test.YtfemfgkcgboopaaGreatDoorQ4
import Derived.Test.YtfemfgkcgboopaaGreatDoorQ9
import Derived.Shelf.Bytes.SlSmallAll
/- The document's digits. -/
namespace Go.Proofs.YtfemfgkcgboopaaGreatDoor
open Go.ChangeShapes Go.WideShapes Go.ChangeAt Go.RowKit
set_option linter.unusedVariables false
set_option maxRecDepth 100000 in
set_option maxHeartbeats 8000000 in
theorem refDigit10_c (r : Int) (w : World) : Calls Tryz.prog 80 #[.int .i64 r, .int .i64 10] w fun e w' => e = .returned (.int .i64 (digit 10 r)) ∧ w = w' := by
  have HDG : Hid (∀ i : Int, 0 ≤ i → i < 10 → (digit 10 r = i ↔ ((i ≤ 9 ∧ r = i + 48) ∨ (10 ≤ i ∧ (r = i + 87 ∨ r = i + 55))))) := Lib.hid (by
    intro i h0 h1
    unfold digit
    constructor
    · intro h
      (repeat' split at h) <;> omega
    · intro h
      (repeat' split) <;> omega)
  have HLT : Hid (digit 10 r < 10 ∧ -1 ≤ digit 10 r) := Lib.hid (by unfold digit; (repeat' split) <;> omega)
  go_enter Tryz.func80, Tryz.ntmps80
  go_wp2
  go_loopg [7] 10 (fun kx s7 wr => ∃ (i : Nat), s7 = .int .i64 i ∧ i ≤ 10 ∧ kx = 10 - i ∧ Hid (digit 10 r < 0 ∨ (i : Int) ≤ digit 10 r) ∧ w = wr)
  case atStart => exact ⟨0, rfl, Nat.zero_le _, rfl, Lib.hid (by omega), rfl⟩
  case round =>
    obtain ⟨i, rfl, hi, hk, HI, rfl⟩ := hrel
    rcases (show i = 0 ∨ i = 1 ∨ i = 2 ∨ i = 3 ∨ i = 4 ∨ i = 5 ∨ i = 6 ∨ i = 7 ∨ i = 8 ∨ i = 9 ∨ i = 10 by omega) with rfl | rfl | rfl | rfl | rfl | rfl | rfl | rfl | rfl | rfl | rfl
    · have xs : (⟨#[48, 49, 50, 51, 52, 53, 54, 55, 56, 57, 97, 98, 99, 100, 101, 102]⟩ : ByteArray)[0].toNat = 48 := rfl
      have xt : (⟨#[48, 49, 50, 51, 52, 53, 54, 55, 56, 57, 65, 66, 67, 68, 69, 70]⟩ : ByteArray)[0].toNat = 48 := rfl
      by_cases h1 : r = 48
      · have hd : Hid (digit 10 r = 0) := Lib.hid ((HDG.out 0 (by omega) (by omega)).2 (by omega))
        have a1 : ((48 : Int) == r) = true := by simp; omega
        clear h1
        go_wp2
        go_ret
        exact ⟨by rw [hd.out]; rfl, rfl⟩
      · have hn : Hid (digit 10 r < 0 ∨ ((0 + 1 : Nat) : Int) ≤ digit 10 r) := Lib.hid (by
          have := mt (HDG.out 0 (by omega) (by omega)).1 (by omega)
          have := HI.out
          omega)
        have a1 : ((48 : Int) == r) = false := by simp; omega
        clear h1
        go_wp2
        go_roundg (10 - (0 + 1))
        case measure => omega
        case rel => exact ⟨0 + 1, rfl, by omega, rfl, hn, rfl⟩
    · have xs : (⟨#[48, 49, 50, 51, 52, 53, 54, 55, 56, 57, 97, 98, 99, 100, 101, 102]⟩ : ByteArray)[1].toNat = 49 := rfl
      have xt : (⟨#[48, 49, 50, 51, 52, 53, 54, 55, 56, 57, 65, 66, 67, 68, 69, 70]⟩ : ByteArray)[1].toNat = 49 := rfl
      by_cases h1 : r = 49
      · have hd : Hid (digit 10 r = 1) := Lib.hid ((HDG.out 1 (by omega) (by omega)).2 (by omega))
        have a1 : ((49 : Int) == r) = true := by simp; omega
        clear h1
        go_wp2
        go_ret
        exact ⟨by rw [hd.out]; rfl, rfl⟩
      · have hn : Hid (digit 10 r < 0 ∨ ((1 + 1 : Nat) : Int) ≤ digit 10 r) := Lib.hid (by
          have := mt (HDG.out 1 (by omega) (by omega)).1 (by omega)
          have := HI.out
          omega)
        have a1 : ((49 : Int) == r) = false := by simp; omega
        clear h1
        go_wp2
        go_roundg (10 - (1 + 1))
        case measure => omega
        case rel => exact ⟨1 + 1, rfl, by omega, rfl, hn, rfl⟩
    · have xs : (⟨#[48, 49, 50, 51, 52, 53, 54, 55, 56, 57, 97, 98, 99, 100, 101, 102]⟩ : ByteArray)[2].toNat = 50 := rfl
      have xt : (⟨#[48, 49, 50, 51, 52, 53, 54, 55, 56, 57, 65, 66, 67, 68, 69, 70]⟩ : ByteArray)[2].toNat = 50 := rfl
      by_cases h1 : r = 50
      · have hd : Hid (digit 10 r = 2) := Lib.hid ((HDG.out 2 (by omega) (by omega)).2 (by omega))
        have a1 : ((50 : Int) == r) = true := by simp; omega
        clear h1
        go_wp2
        go_ret
        exact ⟨by rw [hd.out]; rfl, rfl⟩
      · have hn : Hid (digit 10 r < 0 ∨ ((2 + 1 : Nat) : Int) ≤ digit 10 r) := Lib.hid (by
          have := mt (HDG.out 2 (by omega) (by omega)).1 (by omega)
          have := HI.out
          omega)
        have a1 : ((50 : Int) == r) = false := by simp; omega
        clear h1
        go_wp2
        go_roundg (10 - (2 + 1))
        case measure => omega
        case rel => exact ⟨2 + 1, rfl, by omega, rfl, hn, rfl⟩
    · have xs : (⟨#[48, 49, 50, 51, 52, 53, 54, 55, 56, 57, 97, 98, 99, 100, 101, 102]⟩ : ByteArray)[3].toNat = 51 := rfl
      have xt : (⟨#[48, 49, 50, 51, 52, 53, 54, 55, 56, 57, 65, 66, 67, 68, 69, 70]⟩ : ByteArray)[3].toNat = 51 := rfl
      by_cases h1 : r = 51
      · have hd : Hid (digit 10 r = 3) := Lib.hid ((HDG.out 3 (by omega) (by omega)).2 (by omega))
        have a1 : ((51 : Int) == r) = true := by simp; omega
        clear h1
        go_wp2
        go_ret
        exact ⟨by rw [hd.out]; rfl, rfl⟩
      · have hn : Hid (digit 10 r < 0 ∨ ((3 + 1 : Nat) : Int) ≤ digit 10 r) := Lib.hid (by
          have := mt (HDG.out 3 (by omega) (by omega)).1 (by omega)
          have := HI.out
          omega)
        have a1 : ((51 : Int) == r) = false := by simp; omega
        clear h1
        go_wp2
        go_roundg (10 - (3 + 1))
        case measure => omega
        case rel => exact ⟨3 + 1, rfl, by omega, rfl, hn, rfl⟩
    · have xs : (⟨#[48, 49, 50, 51, 52, 53, 54, 55, 56, 57, 97, 98, 99, 100, 101, 102]⟩ : ByteArray)[4].toNat = 52 := rfl
      have xt : (⟨#[48, 49, 50, 51, 52, 53, 54, 55, 56, 57, 65, 66, 67, 68, 69, 70]⟩ : ByteArray)[4].toNat = 52 := rfl
      by_cases h1 : r = 52
      · have hd : Hid (digit 10 r = 4) := Lib.hid ((HDG.out 4 (by omega) (by omega)).2 (by omega))
        have a1 : ((52 : Int) == r) = true := by simp; omega
        clear h1
        go_wp2
        go_ret
        exact ⟨by rw [hd.out]; rfl, rfl⟩
      · have hn : Hid (digit 10 r < 0 ∨ ((4 + 1 : Nat) : Int) ≤ digit 10 r) := Lib.hid (by
          have := mt (HDG.out 4 (by omega) (by omega)).1 (by omega)
          have := HI.out
          omega)
        have a1 : ((52 : Int) == r) = false := by simp; omega
        clear h1
        go_wp2
        go_roundg (10 - (4 + 1))
        case measure => omega
        case rel => exact ⟨4 + 1, rfl, by omega, rfl, hn, rfl⟩
    · have xs : (⟨#[48, 49, 50, 51, 52, 53, 54, 55, 56, 57, 97, 98, 99, 100, 101, 102]⟩ : ByteArray)[5].toNat = 53 := rfl
      have xt : (⟨#[48, 49, 50, 51, 52, 53, 54, 55, 56, 57, 65, 66, 67, 68, 69, 70]⟩ : ByteArray)[5].toNat = 53 := rfl
      by_cases h1 : r = 53
      · have hd : Hid (digit 10 r = 5) := Lib.hid ((HDG.out 5 (by omega) (by omega)).2 (by omega))
        have a1 : ((53 : Int) == r) = true := by simp; omega
        clear h1
        go_wp2
        go_ret
        exact ⟨by rw [hd.out]; rfl, rfl⟩
      · have hn : Hid (digit 10 r < 0 ∨ ((5 + 1 : Nat) : Int) ≤ digit 10 r) := Lib.hid (by
          have := mt (HDG.out 5 (by omega) (by omega)).1 (by omega)
          have := HI.out
          omega)
        have a1 : ((53 : Int) == r) = false := by simp; omega
        clear h1
        go_wp2
        go_roundg (10 - (5 + 1))
        case measure => omega
        case rel => exact ⟨5 + 1, rfl, by omega, rfl, hn, rfl⟩
    · have xs : (⟨#[48, 49, 50, 51, 52, 53, 54, 55, 56, 57, 97, 98, 99, 100, 101, 102]⟩ : ByteArray)[6].toNat = 54 := rfl
      have xt : (⟨#[48, 49, 50, 51, 52, 53, 54, 55, 56, 57, 65, 66, 67, 68, 69, 70]⟩ : ByteArray)[6].toNat = 54 := rfl
      by_cases h1 : r = 54
      · have hd : Hid (digit 10 r = 6) := Lib.hid ((HDG.out 6 (by omega) (by omega)).2 (by omega))
        have a1 : ((54 : Int) == r) = true := by simp; omega
        clear h1
        go_wp2
        go_ret
        exact ⟨by rw [hd.out]; rfl, rfl⟩
      · have hn : Hid (digit 10 r < 0 ∨ ((6 + 1 : Nat) : Int) ≤ digit 10 r) := Lib.hid (by
          have := mt (HDG.out 6 (by omega) (by omega)).1 (by omega)
          have := HI.out
          omega)
        have a1 : ((54 : Int) == r) = false := by simp; omega
        clear h1
        go_wp2
        go_roundg (10 - (6 + 1))
        case measure => omega
        case rel => exact ⟨6 + 1, rfl, by omega, rfl, hn, rfl⟩
    · have xs : (⟨#[48, 49, 50, 51, 52, 53, 54, 55, 56, 57, 97, 98, 99, 100, 101, 102]⟩ : ByteArray)[7].toNat = 55 := rfl
      have xt : (⟨#[48, 49, 50, 51, 52, 53, 54, 55, 56, 57, 65, 66, 67, 68, 69, 70]⟩ : ByteArray)[7].toNat = 55 := rfl
      by_cases h1 : r = 55
      · have hd : Hid (digit 10 r = 7) := Lib.hid ((HDG.out 7 (by omega) (by omega)).2 (by omega))
        have a1 : ((55 : Int) == r) = true := by simp; omega
        clear h1
        go_wp2
        go_ret
        exact ⟨by rw [hd.out]; rfl, rfl⟩
      · have hn : Hid (digit 10 r < 0 ∨ ((7 + 1 : Nat) : Int) ≤ digit 10 r) := Lib.hid (by
          have := mt (HDG.out 7 (by omega) (by omega)).1 (by omega)
          have := HI.out
          omega)
        have a1 : ((55 : Int) == r) = false := by simp; omega
        clear h1
        go_wp2
        go_roundg (10 - (7 + 1))
        case measure => omega
        case rel => exact ⟨7 + 1, rfl, by omega, rfl, hn, rfl⟩
    · have xs : (⟨#[48, 49, 50, 51, 52, 53, 54, 55, 56, 57, 97, 98, 99, 100, 101, 102]⟩ : ByteArray)[8].toNat = 56 := rfl
      have xt : (⟨#[48, 49, 50, 51, 52, 53, 54, 55, 56, 57, 65, 66, 67, 68, 69, 70]⟩ : ByteArray)[8].toNat = 56 := rfl
      by_cases h1 : r = 56
      · have hd : Hid (digit 10 r = 8) := Lib.hid ((HDG.out 8 (by omega) (by omega)).2 (by omega))
        have a1 : ((56 : Int) == r) = true := by simp; omega
        clear h1
        go_wp2
        go_ret
        exact ⟨by rw [hd.out]; rfl, rfl⟩
      · have hn : Hid (digit 10 r < 0 ∨ ((8 + 1 : Nat) : Int) ≤ digit 10 r) := Lib.hid (by
          have := mt (HDG.out 8 (by omega) (by omega)).1 (by omega)
          have := HI.out
          omega)
        have a1 : ((56 : Int) == r) = false := by simp; omega
        clear h1
        go_wp2
        go_roundg (10 - (8 + 1))
        case measure => omega
        case rel => exact ⟨8 + 1, rfl, by omega, rfl, hn, rfl⟩
    · have xs : (⟨#[48, 49, 50, 51, 52, 53, 54, 55, 56, 57, 97, 98, 99, 100, 101, 102]⟩ : ByteArray)[9].toNat = 57 := rfl
      have xt : (⟨#[48, 49, 50, 51, 52, 53, 54, 55, 56, 57, 65, 66, 67, 68, 69, 70]⟩ : ByteArray)[9].toNat = 57 := rfl
      by_cases h1 : r = 57
      · have hd : Hid (digit 10 r = 9) := Lib.hid ((HDG.out 9 (by omega) (by omega)).2 (by omega))
        have a1 : ((57 : Int) == r) = true := by simp; omega
        clear h1
        go_wp2
        go_ret
        exact ⟨by rw [hd.out]; rfl, rfl⟩
      · have hn : Hid (digit 10 r < 0 ∨ ((9 + 1 : Nat) : Int) ≤ digit 10 r) := Lib.hid (by
          have := mt (HDG.out 9 (by omega) (by omega)).1 (by omega)
          have := HI.out
          omega)
        have a1 : ((57 : Int) == r) = false := by simp; omega
        clear h1
        go_wp2
        go_roundg (10 - (9 + 1))
        case measure => omega
        case rel => exact ⟨9 + 1, rfl, by omega, rfl, hn, rfl⟩
    · have hd : Hid (digit 10 r = -1) := Lib.hid (by have := HI.out; have := HLT.out; omega)
      go_wp2
      go_ret
      exact ⟨by rw [hd.out]; rfl, rfl⟩
set_option maxRecDepth 100000 in
set_option maxHeartbeats 8000000 in
theorem refDigit16_c (r : Int) (w : World) : Calls Tryz.prog 80 #[.int .i64 r, .int .i64 16] w fun e w' => e = .returned (.int .i64 (digit 16 r)) ∧ w = w' := by
  have HDG : Hid (∀ i : Int, 0 ≤ i → i < 16 → (digit 16 r = i ↔ ((i ≤ 9 ∧ r = i + 48) ∨ (10 ≤ i ∧ (r = i + 87 ∨ r = i + 55))))) := Lib.hid (by
    intro i h0 h1
    unfold digit
    constructor
    · intro h
      (repeat' split at h) <;> omega
    · intro h
      (repeat' split) <;> omega)
  have HLT : Hid (digit 16 r < 16 ∧ -1 ≤ digit 16 r) := Lib.hid (by unfold digit; (repeat' split) <;> omega)
  go_enter Tryz.func80, Tryz.ntmps80
  go_wp2
  go_loopg [7] 16 (fun kx s7 wr => ∃ (i : Nat), s7 = .int .i64 i ∧ i ≤ 16 ∧ kx = 16 - i ∧ Hid (digit 16 r < 0 ∨ (i : Int) ≤ digit 16 r) ∧ w = wr)
  case atStart => exact ⟨0, rfl, Nat.zero_le _, rfl, Lib.hid (by omega), rfl⟩
  case round =>
    obtain ⟨i, rfl, hi, hk, HI, rfl⟩ := hrel
    rcases (show i = 0 ∨ i = 1 ∨ i = 2 ∨ i = 3 ∨ i = 4 ∨ i = 5 ∨ i = 6 ∨ i = 7 ∨ i = 8 ∨ i = 9 ∨ i = 10 ∨ i = 11 ∨ i = 12 ∨ i = 13 ∨ i = 14 ∨ i = 15 ∨ i = 16 by omega) with rfl | rfl | rfl | rfl | rfl | rfl | rfl | rfl | rfl | rfl | rfl | rfl | rfl | rfl | rfl | rfl | rfl
    · have xs : (⟨#[48, 49, 50, 51, 52, 53, 54, 55, 56, 57, 97, 98, 99, 100, 101, 102]⟩ : ByteArray)[0].toNat = 48 := rfl
      have xt : (⟨#[48, 49, 50, 51, 52, 53, 54, 55, 56, 57, 65, 66, 67, 68, 69, 70]⟩ : ByteArray)[0].toNat = 48 := rfl
      by_cases h1 : r = 48
      · have hd : Hid (digit 16 r = 0) := Lib.hid ((HDG.out 0 (by omega) (by omega)).2 (by omega))
        have a1 : ((48 : Int) == r) = true := by simp; omega
        clear h1
        go_wp2
        go_ret
        exact ⟨by rw [hd.out]; rfl, rfl⟩
      · have hn : Hid (digit 16 r < 0 ∨ ((0 + 1 : Nat) : Int) ≤ digit 16 r) := Lib.hid (by
          have := mt (HDG.out 0 (by omega) (by omega)).1 (by omega)
          have := HI.out
          omega)
        have a1 : ((48 : Int) == r) = false := by simp; omega
        clear h1
        go_wp2
        go_roundg (16 - (0 + 1))
        case measure => omega
        case rel => exact ⟨0 + 1, rfl, by omega, rfl, hn, rfl⟩
    · have xs : (⟨#[48, 49, 50, 51, 52, 53, 54, 55, 56, 57, 97, 98, 99, 100, 101, 102]⟩ : ByteArray)[1].toNat = 49 := rfl
      have xt : (⟨#[48, 49, 50, 51, 52, 53, 54, 55, 56, 57, 65, 66, 67, 68, 69, 70]⟩ : ByteArray)[1].toNat = 49 := rfl
      by_cases h1 : r = 49
      · have hd : Hid (digit 16 r = 1) := Lib.hid ((HDG.out 1 (by omega) (by omega)).2 (by omega))
        have a1 : ((49 : Int) == r) = true := by simp; omega
        clear h1
        go_wp2
        go_ret
        exact ⟨by rw [hd.out]; rfl, rfl⟩
      · have hn : Hid (digit 16 r < 0 ∨ ((1 + 1 : Nat) : Int) ≤ digit 16 r) := Lib.hid (by
          have := mt (HDG.out 1 (by omega) (by omega)).1 (by omega)
          have := HI.out
          omega)
        have a1 : ((49 : Int) == r) = false := by simp; omega
        clear h1
        go_wp2
        go_roundg (16 - (1 + 1))
        case measure => omega
        case rel => exact ⟨1 + 1, rfl, by omega, rfl, hn, rfl⟩
    · have xs : (⟨#[48, 49, 50, 51, 52, 53, 54, 55, 56, 57, 97, 98, 99, 100, 101, 102]⟩ : ByteArray)[2].toNat = 50 := rfl
      have xt : (⟨#[48, 49, 50, 51, 52, 53, 54, 55, 56, 57, 65, 66, 67, 68, 69, 70]⟩ : ByteArray)[2].toNat = 50 := rfl
      by_cases h1 : r = 50
      · have hd : Hid (digit 16 r = 2) := Lib.hid ((HDG.out 2 (by omega) (by omega)).2 (by omega))
        have a1 : ((50 : Int) == r) = true := by simp; omega
        clear h1
        go_wp2
        go_ret
        exact ⟨by rw [hd.out]; rfl, rfl⟩
      · have hn : Hid (digit 16 r < 0 ∨ ((2 + 1 : Nat) : Int) ≤ digit 16 r) := Lib.hid (by
          have := mt (HDG.out 2 (by omega) (by omega)).1 (by omega)
          have := HI.out
          omega)
        have a1 : ((50 : Int) == r) = false := by simp; omega
        clear h1
        go_wp2
        go_roundg (16 - (2 + 1))
        case measure => omega
        case rel => exact ⟨2 + 1, rfl, by omega, rfl, hn, rfl⟩
    · have xs : (⟨#[48, 49, 50, 51, 52, 53, 54, 55, 56, 57, 97, 98, 99, 100, 101, 102]⟩ : ByteArray)[3].toNat = 51 := rfl
      have xt : (⟨#[48, 49, 50, 51, 52, 53, 54, 55, 56, 57, 65, 66, 67, 68, 69, 70]⟩ : ByteArray)[3].toNat = 51 := rfl
      by_cases h1 : r = 51
      · have hd : Hid (digit 16 r = 3) := Lib.hid ((HDG.out 3 (by omega) (by omega)).2 (by omega))
        have a1 : ((51 : Int) == r) = true := by simp; omega
        clear h1
        go_wp2
        go_ret
        exact ⟨by rw [hd.out]; rfl, rfl⟩
      · have hn : Hid (digit 16 r < 0 ∨ ((3 + 1 : Nat) : Int) ≤ digit 16 r) := Lib.hid (by
          have := mt (HDG.out 3 (by omega) (by omega)).1 (by omega)
          have := HI.out
          omega)
        have a1 : ((51 : Int) == r) = false := by simp; omega
        clear h1
        go_wp2
        go_roundg (16 - (3 + 1))
        case measure => omega
        case rel => exact ⟨3 + 1, rfl, by omega, rfl, hn, rfl⟩
    · have xs : (⟨#[48, 49, 50, 51, 52, 53, 54, 55, 56, 57, 97, 98, 99, 100, 101, 102]⟩ : ByteArray)[4].toNat = 52 := rfl
      have xt : (⟨#[48, 49, 50, 51, 52, 53, 54, 55, 56, 57, 65, 66, 67, 68, 69, 70]⟩ : ByteArray)[4].toNat = 52 := rfl
      by_cases h1 : r = 52
      · have hd : Hid (digit 16 r = 4) := Lib.hid ((HDG.out 4 (by omega) (by omega)).2 (by omega))
        have a1 : ((52 : Int) == r) = true := by simp; omega
        clear h1
        go_wp2
        go_ret
        exact ⟨by rw [hd.out]; rfl, rfl⟩
      · have hn : Hid (digit 16 r < 0 ∨ ((4 + 1 : Nat) : Int) ≤ digit 16 r) := Lib.hid (by
          have := mt (HDG.out 4 (by omega) (by omega)).1 (by omega)
          have := HI.out
          omega)
        have a1 : ((52 : Int) == r) = false := by simp; omega
        clear h1
        go_wp2
        go_roundg (16 - (4 + 1))
        case measure => omega
        case rel => exact ⟨4 + 1, rfl, by omega, rfl, hn, rfl⟩
    · have xs : (⟨#[48, 49, 50, 51, 52, 53, 54, 55, 56, 57, 97, 98, 99, 100, 101, 102]⟩ : ByteArray)[5].toNat = 53 := rfl
      have xt : (⟨#[48, 49, 50, 51, 52, 53, 54, 55, 56, 57, 65, 66, 67, 68, 69, 70]⟩ : ByteArray)[5].toNat = 53 := rfl
      by_cases h1 : r = 53
      · have hd : Hid (digit 16 r = 5) := Lib.hid ((HDG.out 5 (by omega) (by omega)).2 (by omega))
        have a1 : ((53 : Int) == r) = true := by simp; omega
        clear h1
        go_wp2
        go_ret
        exact ⟨by rw [hd.out]; rfl, rfl⟩
      · have hn : Hid (digit 16 r < 0 ∨ ((5 + 1 : Nat) : Int) ≤ digit 16 r) := Lib.hid (by
          have := mt (HDG.out 5 (by omega) (by omega)).1 (by omega)
          have := HI.out
          omega)
        have a1 : ((53 : Int) == r) = false := by simp; omega
        clear h1
        go_wp2
        go_roundg (16 - (5 + 1))
        case measure => omega
        case rel => exact ⟨5 + 1, rfl, by omega, rfl, hn, rfl⟩
    · have xs : (⟨#[48, 49, 50, 51, 52, 53, 54, 55, 56, 57, 97, 98, 99, 100, 101, 102]⟩ : ByteArray)[6].toNat = 54 := rfl
      have xt : (⟨#[48, 49, 50, 51, 52, 53, 54, 55, 56, 57, 65, 66, 67, 68, 69, 70]⟩ : ByteArray)[6].toNat = 54 := rfl
      by_cases h1 : r = 54
      · have hd : Hid (digit 16 r = 6) := Lib.hid ((HDG.out 6 (by omega) (by omega)).2 (by omega))
        have a1 : ((54 : Int) == r) = true := by simp; omega
        clear h1
        go_wp2
        go_ret
        exact ⟨by rw [hd.out]; rfl, rfl⟩
      · have hn : Hid (digit 16 r < 0 ∨ ((6 + 1 : Nat) : Int) ≤ digit 16 r) := Lib.hid (by
          have := mt (HDG.out 6 (by omega) (by omega)).1 (by omega)
          have := HI.out
          omega)
        have a1 : ((54 : Int) == r) = false := by simp; omega
        clear h1
        go_wp2
        go_roundg (16 - (6 + 1))
        case measure => omega
        case rel => exact ⟨6 + 1, rfl, by omega, rfl, hn, rfl⟩
    · have xs : (⟨#[48, 49, 50, 51, 52, 53, 54, 55, 56, 57, 97, 98, 99, 100, 101, 102]⟩ : ByteArray)[7].toNat = 55 := rfl
      have xt : (⟨#[48, 49, 50, 51, 52, 53, 54, 55, 56, 57, 65, 66, 67, 68, 69, 70]⟩ : ByteArray)[7].toNat = 55 := rfl
      by_cases h1 : r = 55
      · have hd : Hid (digit 16 r = 7) := Lib.hid ((HDG.out 7 (by omega) (by omega)).2 (by omega))
        have a1 : ((55 : Int) == r) = true := by simp; omega
        clear h1
        go_wp2
        go_ret
        exact ⟨by rw [hd.out]; rfl, rfl⟩
      · have hn : Hid (digit 16 r < 0 ∨ ((7 + 1 : Nat) : Int) ≤ digit 16 r) := Lib.hid (by
          have := mt (HDG.out 7 (by omega) (by omega)).1 (by omega)
          have := HI.out
          omega)
        have a1 : ((55 : Int) == r) = false := by simp; omega
        clear h1
        go_wp2
        go_roundg (16 - (7 + 1))
        case measure => omega
        case rel => exact ⟨7 + 1, rfl, by omega, rfl, hn, rfl⟩
    · have xs : (⟨#[48, 49, 50, 51, 52, 53, 54, 55, 56, 57, 97, 98, 99, 100, 101, 102]⟩ : ByteArray)[8].toNat = 56 := rfl
      have xt : (⟨#[48, 49, 50, 51, 52, 53, 54, 55, 56, 57, 65, 66, 67, 68, 69, 70]⟩ : ByteArray)[8].toNat = 56 := rfl
      by_cases h1 : r = 56
      · have hd : Hid (digit 16 r = 8) := Lib.hid ((HDG.out 8 (by omega) (by omega)).2 (by omega))
        have a1 : ((56 : Int) == r) = true := by simp; omega
        clear h1
        go_wp2
        go_ret
        exact ⟨by rw [hd.out]; rfl, rfl⟩
      · have hn : Hid (digit 16 r < 0 ∨ ((8 + 1 : Nat) : Int) ≤ digit 16 r) := Lib.hid (by
          have := mt (HDG.out 8 (by omega) (by omega)).1 (by omega)
          have := HI.out
          omega)
        have a1 : ((56 : Int) == r) = false := by simp; omega
        clear h1
        go_wp2
        go_roundg (16 - (8 + 1))
        case measure => omega
        case rel => exact ⟨8 + 1, rfl, by omega, rfl, hn, rfl⟩
    · have xs : (⟨#[48, 49, 50, 51, 52, 53, 54, 55, 56, 57, 97, 98, 99, 100, 101, 102]⟩ : ByteArray)[9].toNat = 57 := rfl
      have xt : (⟨#[48, 49, 50, 51, 52, 53, 54, 55, 56, 57, 65, 66, 67, 68, 69, 70]⟩ : ByteArray)[9].toNat = 57 := rfl
      by_cases h1 : r = 57
      · have hd : Hid (digit 16 r = 9) := Lib.hid ((HDG.out 9 (by omega) (by omega)).2 (by omega))
        have a1 : ((57 : Int) == r) = true := by simp; omega
        clear h1
        go_wp2
        go_ret
        exact ⟨by rw [hd.out]; rfl, rfl⟩
      · have hn : Hid (digit 16 r < 0 ∨ ((9 + 1 : Nat) : Int) ≤ digit 16 r) := Lib.hid (by
          have := mt (HDG.out 9 (by omega) (by omega)).1 (by omega)
          have := HI.out
          omega)
        have a1 : ((57 : Int) == r) = false := by simp; omega
        clear h1
        go_wp2
        go_roundg (16 - (9 + 1))
        case measure => omega
        case rel => exact ⟨9 + 1, rfl, by omega, rfl, hn, rfl⟩
    · have xs : (⟨#[48, 49, 50, 51, 52, 53, 54, 55, 56, 57, 97, 98, 99, 100, 101, 102]⟩ : ByteArray)[10].toNat = 97 := rfl
      have xt : (⟨#[48, 49, 50, 51, 52, 53, 54, 55, 56, 57, 65, 66, 67, 68, 69, 70]⟩ : ByteArray)[10].toNat = 65 := rfl
      by_cases h1 : r = 97
      · have hd : Hid (digit 16 r = 10) := Lib.hid ((HDG.out 10 (by omega) (by omega)).2 (by omega))
        have a1 : ((97 : Int) == r) = true := by simp; omega
        clear h1
        go_wp2
        go_ret
        exact ⟨by rw [hd.out]; rfl, rfl⟩
      · by_cases h2 : r = 65
        · have hd : Hid (digit 16 r = 10) := Lib.hid ((HDG.out 10 (by omega) (by omega)).2 (by omega))
          have a1 : ((97 : Int) == r) = false := by simp; omega
          have a2 : ((65 : Int) == r) = true := by simp; omega
          clear h1 h2
          go_wp2
          go_ret
          exact ⟨by rw [hd.out]; rfl, rfl⟩
        · have hn : Hid (digit 16 r < 0 ∨ ((10 + 1 : Nat) : Int) ≤ digit 16 r) := Lib.hid (by
            have := mt (HDG.out 10 (by omega) (by omega)).1 (by omega)
            have := HI.out
            omega)
          have a1 : ((97 : Int) == r) = false := by simp; omega
          have a2 : ((65 : Int) == r) = false := by simp; omega
          clear h1 h2
          go_wp2
          go_roundg (16 - (10 + 1))
          case measure => omega
          case rel => exact ⟨10 + 1, rfl, by omega, rfl, hn, rfl⟩
    · have xs : (⟨#[48, 49, 50, 51, 52, 53, 54, 55, 56, 57, 97, 98, 99, 100, 101, 102]⟩ : ByteArray)[11].toNat = 98 := rfl
      have xt : (⟨#[48, 49, 50, 51, 52, 53, 54, 55, 56, 57, 65, 66, 67, 68, 69, 70]⟩ : ByteArray)[11].toNat = 66 := rfl
      by_cases h1 : r = 98
      · have hd : Hid (digit 16 r = 11) := Lib.hid ((HDG.out 11 (by omega) (by omega)).2 (by omega))
        have a1 : ((98 : Int) == r) = true := by simp; omega
        clear h1
        go_wp2
        go_ret
        exact ⟨by rw [hd.out]; rfl, rfl⟩
      · by_cases h2 : r = 66
        · have hd : Hid (digit 16 r = 11) := Lib.hid ((HDG.out 11 (by omega) (by omega)).2 (by omega))
          have a1 : ((98 : Int) == r) = false := by simp; omega
          have a2 : ((66 : Int) == r) = true := by simp; omega
          clear h1 h2
          go_wp2
          go_ret
          exact ⟨by rw [hd.out]; rfl, rfl⟩
        · have hn : Hid (digit 16 r < 0 ∨ ((11 + 1 : Nat) : Int) ≤ digit 16 r) := Lib.hid (by
            have := mt (HDG.out 11 (by omega) (by omega)).1 (by omega)
            have := HI.out
            omega)
          have a1 : ((98 : Int) == r) = false := by simp; omega
          have a2 : ((66 : Int) == r) = false := by simp; omega
          clear h1 h2
          go_wp2
          go_roundg (16 - (11 + 1))
          case measure => omega
          case rel => exact ⟨11 + 1, rfl, by omega, rfl, hn, rfl⟩
    · have xs : (⟨#[48, 49, 50, 51, 52, 53, 54, 55, 56, 57, 97, 98, 99, 100, 101, 102]⟩ : ByteArray)[12].toNat = 99 := rfl
      have xt : (⟨#[48, 49, 50, 51, 52, 53, 54, 55, 56, 57, 65, 66, 67, 68, 69, 70]⟩ : ByteArray)[12].toNat = 67 := rfl
      by_cases h1 : r = 99
      · have hd : Hid (digit 16 r = 12) := Lib.hid ((HDG.out 12 (by omega) (by omega)).2 (by omega))
        have a1 : ((99 : Int) == r) = true := by simp; omega
        clear h1
        go_wp2
        go_ret
        exact ⟨by rw [hd.out]; rfl, rfl⟩
      · by_cases h2 : r = 67
        · have hd : Hid (digit 16 r = 12) := Lib.hid ((HDG.out 12 (by omega) (by omega)).2 (by omega))
          have a1 : ((99 : Int) == r) = false := by simp; omega
          have a2 : ((67 : Int) == r) = true := by simp; omega
          clear h1 h2
          go_wp2
          go_ret
          exact ⟨by rw [hd.out]; rfl, rfl⟩
        · have hn : Hid (digit 16 r < 0 ∨ ((12 + 1 : Nat) : Int) ≤ digit 16 r) := Lib.hid (by
            have := mt (HDG.out 12 (by omega) (by omega)).1 (by omega)
            have := HI.out
            omega)
          have a1 : ((99 : Int) == r) = false := by simp; omega
          have a2 : ((67 : Int) == r) = false := by simp; omega
          clear h1 h2
          go_wp2
          go_roundg (16 - (12 + 1))
          case measure => omega
          case rel => exact ⟨12 + 1, rfl, by omega, rfl, hn, rfl⟩
    · have xs : (⟨#[48, 49, 50, 51, 52, 53, 54, 55, 56, 57, 97, 98, 99, 100, 101, 102]⟩ : ByteArray)[13].toNat = 100 := rfl
      have xt : (⟨#[48, 49, 50, 51, 52, 53, 54, 55, 56, 57, 65, 66, 67, 68, 69, 70]⟩ : ByteArray)[13].toNat = 68 := rfl
      by_cases h1 : r = 100
      · have hd : Hid (digit 16 r = 13) := Lib.hid ((HDG.out 13 (by omega) (by omega)).2 (by omega))
        have a1 : ((100 : Int) == r) = true := by simp; omega
        clear h1
        go_wp2
        go_ret
        exact ⟨by rw [hd.out]; rfl, rfl⟩
      · by_cases h2 : r = 68
        · have hd : Hid (digit 16 r = 13) := Lib.hid ((HDG.out 13 (by omega) (by omega)).2 (by omega))
          have a1 : ((100 : Int) == r) = false := by simp; omega
          have a2 : ((68 : Int) == r) = true := by simp; omega
          clear h1 h2
          go_wp2
          go_ret
          exact ⟨by rw [hd.out]; rfl, rfl⟩
        · have hn : Hid (digit 16 r < 0 ∨ ((13 + 1 : Nat) : Int) ≤ digit 16 r) := Lib.hid (by
            have := mt (HDG.out 13 (by omega) (by omega)).1 (by omega)
            have := HI.out
            omega)
          have a1 : ((100 : Int) == r) = false := by simp; omega
          have a2 : ((68 : Int) == r) = false := by simp; omega
          clear h1 h2
          go_wp2
          go_roundg (16 - (13 + 1))
          case measure => omega
          case rel => exact ⟨13 + 1, rfl, by omega, rfl, hn, rfl⟩
    · have xs : (⟨#[48, 49, 50, 51, 52, 53, 54, 55, 56, 57, 97, 98, 99, 100, 101, 102]⟩ : ByteArray)[14].toNat = 101 := rfl
      have xt : (⟨#[48, 49, 50, 51, 52, 53, 54, 55, 56, 57, 65, 66, 67, 68, 69, 70]⟩ : ByteArray)[14].toNat = 69 := rfl
      by_cases h1 : r = 101
      · have hd : Hid (digit 16 r = 14) := Lib.hid ((HDG.out 14 (by omega) (by omega)).2 (by omega))
        have a1 : ((101 : Int) == r) = true := by simp; omega
        clear h1
        go_wp2
        go_ret
        exact ⟨by rw [hd.out]; rfl, rfl⟩
      · by_cases h2 : r = 69
        · have hd : Hid (digit 16 r = 14) := Lib.hid ((HDG.out 14 (by omega) (by omega)).2 (by omega))
          have a1 : ((101 : Int) == r) = false := by simp; omega
          have a2 : ((69 : Int) == r) = true := by simp; omega
          clear h1 h2
          go_wp2
          go_ret
          exact ⟨by rw [hd.out]; rfl, rfl⟩
        · have hn : Hid (digit 16 r < 0 ∨ ((14 + 1 : Nat) : Int) ≤ digit 16 r) := Lib.hid (by
            have := mt (HDG.out 14 (by omega) (by omega)).1 (by omega)
            have := HI.out
            omega)
          have a1 : ((101 : Int) == r) = false := by simp; omega
          have a2 : ((69 : Int) == r) = false := by simp; omega
          clear h1 h2
          go_wp2
          go_roundg (16 - (14 + 1))
          case measure => omega
          case rel => exact ⟨14 + 1, rfl, by omega, rfl, hn, rfl⟩
    · have xs : (⟨#[48, 49, 50, 51, 52, 53, 54, 55, 56, 57, 97, 98, 99, 100, 101, 102]⟩ : ByteArray)[15].toNat = 102 := rfl
      have xt : (⟨#[48, 49, 50, 51, 52, 53, 54, 55, 56, 57, 65, 66, 67, 68, 69, 70]⟩ : ByteArray)[15].toNat = 70 := rfl
      by_cases h1 : r = 102
      · have hd : Hid (digit 16 r = 15) := Lib.hid ((HDG.out 15 (by omega) (by omega)).2 (by omega))
        have a1 : ((102 : Int) == r) = true := by simp; omega
        clear h1
        go_wp2
        go_ret
        exact ⟨by rw [hd.out]; rfl, rfl⟩
      · by_cases h2 : r = 70
        · have hd : Hid (digit 16 r = 15) := Lib.hid ((HDG.out 15 (by omega) (by omega)).2 (by omega))
          have a1 : ((102 : Int) == r) = false := by simp; omega
          have a2 : ((70 : Int) == r) = true := by simp; omega
          clear h1 h2
          go_wp2
          go_ret
          exact ⟨by rw [hd.out]; rfl, rfl⟩
        · have hn : Hid (digit 16 r < 0 ∨ ((15 + 1 : Nat) : Int) ≤ digit 16 r) := Lib.hid (by
            have := mt (HDG.out 15 (by omega) (by omega)).1 (by omega)
            have := HI.out
            omega)
          have a1 : ((102 : Int) == r) = false := by simp; omega
          have a2 : ((70 : Int) == r) = false := by simp; omega
          clear h1 h2
          go_wp2
          go_roundg (16 - (15 + 1))
          case measure => omega
          case rel => exact ⟨15 + 1, rfl, by omega, rfl, hn, rfl⟩
    · have hd : Hid (digit 16 r = -1) := Lib.hid (by have := HI.out; have := HLT.out; omega)
      go_wp2
      go_ret
      exact ⟨by rw [hd.out]; rfl, rfl⟩
end Go.Proofs.YtfemfgkcgboopaaGreatDoor
/- bytes.HasPrefix. -/
namespace Go.Proofs.YtfemfgkcgboopaaGreatDoor
open Go.ChangeShapes Go.WideShapes Go.ChangeAt Go.RowKit
set_option linter.unusedVariables false
theorem Byt.bytesIn {w : World} {B n cap : Nat} {A : Option Addr} {l : List UInt8} (h : Byt w B A n cap l) : Lib.BytesIn w A n (nums l) := fun hn => by
  obtain ⟨b, o, e, hc⟩ := h.cells (by have := h.le; omega)
  exact ⟨b, o, e, hc⟩
theorem hasPrefix_c (A1 A2 : Option Addr) (n1 c1 n2 c2 : Nat) (l1 l2 : List UInt8) (w : World) (B1 B2 : Nat) (h1 : Byt w B1 A1 n1 c1 l1) (h2 : Byt w B2 A2 n2 c2 l2) :
    Calls Tryz.prog 65 #[.slice A1 n1 c1, .slice A2 n2 c2] w fun e w' => e = .returned (.bool (l2.isPrefixOf l1)) ∧ w = w' := by
  refine (Tryz.bytes_HasPrefix_all A1 A2 n1 c1 n2 c2 (nums l1) (nums l2) w (by rw [nums_length, h1.length]) (by rw [nums_length, h2.length]) h1.le h1.bytesIn h2.bytesIn).mono fun e w' ⟨he, hw⟩ => ⟨?_, hw.symm⟩
  rw [he, bytesOf_nums, bytesOf_nums]
  rfl
end Go.Proofs.YtfemfgkcgboopaaGreatDoor
