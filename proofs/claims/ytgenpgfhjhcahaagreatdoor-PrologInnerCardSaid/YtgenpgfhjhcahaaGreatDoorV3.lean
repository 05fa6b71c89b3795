/- The law PrologInner, walked. -/
import Derived.Test.YtgenpgfhjhcahaaGreatDoorRows
import Derived.WalkKit
import Derived.ProofKit
import Derived.OpenShut
import Derived.ShutString
import Derived.ChangeOld
import Derived.Below
import Derived.BigQuiet
import Derived.Deep.QuietTactic
import Derived.Lib.Hide
import Derived.Deep.RegionHeld3
import Derived.Lib.SlBytesConst
import Derived.Laws.CopyOwn
import Derived.Laws.CopyRow
import Derived.Lib.Bytes
import Derived.Deep.LoopGhost
import Derived.Deep.DeepFit
import Derived.Deep.DeepMust
import Derived.WalkSpells
import Derived.WalkLawsBesides
import Derived.Laws.EntriesVeiled
import Derived.Laws.Rows
import Derived.Maps.OwnOps
import Derived.Maps.OwnSet
import Derived.Maps.Views
import Derived.Maps.AppendAt
import Derived.Deep.AppendLies
import Derived.DeepKeys4
import Derived.MapViews
import Derived.Maps.Keyed
import Derived.Deep.RegionLaw
import Derived.Deep.RegionWith
import Derived.StillTailTactics
import Derived.Deep.CutRange
import Derived.IntWalk
import Derived.Laws.MakeOwn
import Derived.Laws.OwnMore
import Derived.Deep.MidRow
import Derived.Test.YtgenpgfhjhcahaaGreatDoorQ1
import Derived.Test.YtgenpgfhjhcahaaGreatDoorQ2
import Derived.Test.YtgenpgfhjhcahaaGreatDoorQ7
import Derived.Test.YtgenpgfhjhcahaaGreatDoorQ8
import Derived.Test.YtgenpgfhjhcahaaGreatDoorQ4
import Derived.Test.YtgenpgfhjhcahaaGreatDoorQ3
import Derived.Test.YtgenpgfhjhcahaaGreatDoorQ5
import Derived.Test.YtgenpgfhjhcahaaGreatDoorQ9
import Derived.Test.YtgenpgfhjhcahaaGreatDoorQ10
import Derived.Test.YtgenpgfhjhcahaaGreatDoorQ11
import Derived.Test.YtgenpgfhjhcahaaGreatDoorQ12
import Derived.Test.YtgenpgfhjhcahaaGreatDoorQ14
import Derived.Test.YtgenpgfhjhcahaaGreatDoorQ15
import Derived.Test.YtgenpgfhjhcahaaGreatDoorQ16
import Derived.Test.YtgenpgfhjhcahaaGreatDoorQ17
import Derived.Test.YtgenpgfhjhcahaaGreatDoorQ18
import Derived.Test.YtgenpgfhjhcahaaGreatDoorQ20
import Derived.Test.YtgenpgfhjhcahaaGreatDoorQ21
import Derived.Test.YtgenpgfhjhcahaaGreatDoorQ22
import Derived.Test.YtgenpgfhjhcahaaGreatDoorQ25
import Derived.Test.YtgenpgfhjhcahaaGreatDoorQ26
import Derived.Test.YtgenpgfhjhcahaaGreatDoorQ27
import Derived.Test.YtgenpgfhjhcahaaGreatDoorQ28
import Derived.Test.YtgenpgfhjhcahaaGreatDoorQ29
import Derived.Test.YtgenpgfhjhcahaaGreatDoorQ30
import Derived.Test.YtgenpgfhjhcahaaGreatDoorV1
import Derived.Test.YtgenpgfhjhcahaaGreatDoorV2
namespace Go.Proofs.YtgenpgfhjhcahaaGreatDoor
open Go.ChangeShapes Go.WideShapes Go.ChangeAt Go.RowKit
set_option linter.unusedVariables false
theorem repL_len (s : List UInt8) : ∀ t, (repL s t).length = s.length * t
  | 0 => by simp [repL]
  | t + 1 => by rw [repL, List.length_append, repL_len s t, Nat.mul_succ]
/-- The prolog, without its content. -/
def docS (a b c : Nat) : List UInt8 := repL [60, 33, 45, 45, 97, 45, 45, 62, 32] a ++ [60, 33, 68, 79, 67, 84, 89, 80, 69, 32, 114, 32, 91] ++ repL [60, 33, 45, 45, 98, 45, 45, 62, 60, 63, 98, 63, 62] b ++ [93, 62] ++ repL [10, 60, 63, 99, 32, 100, 63, 62] c
theorem docP_eq (a b c : Nat) : docP a b c = docS a b c ++ [60, 114, 47, 62] := rfl
set_option linter.unusedSimpArgs false in
set_option maxRecDepth 100000 in
set_option maxHeartbeats 8000000 in
theorem prologInner_walk (z : Int) (w : World) (hz : 0 ≤ z ∧ z ≤ 255) (hW : W29 w) (hWd : WordsD w) :
    Calls Tryz.prog 4 #[.int .u8 z] w fun e w' => e = .returned (.bool true) ∧ Below w.heap.size w w' := by
  have LV : Hid (∀ W, Below w.heap.size w W → Calls Tryz.prog 5 #[] W fun e w' => e = .returned (.bool true) ∧ Below W.heap.size W w') := Lib.hid fun W hb => live29_c W (hW.below hb) (hWd.below hb hWd.lt)
  have HW := Lib.hid (And.intro hW hWd)
  clear hW hWd
  obtain ⟨N, rfl⟩ : ∃ N : Nat, z = (N : Int) := ⟨z.toNat, by omega⟩
  have hN : N ≤ 255 := by omega
  have hNw : IntKind.i64.wrap (N : Int) = (N : Int) := IntWalk.i64_in _ (by omega)
  obtain ⟨a, ha⟩ : ∃ a, N % 4 = a := ⟨_, rfl⟩
  obtain ⟨b, hb⟩ : ∃ b, N / 4 % 4 = b := ⟨_, rfl⟩
  obtain ⟨c, hc⟩ : ∃ c, N / 16 % 4 = c := ⟨_, rfl⟩
  have HN := Lib.hid (And.intro ha (And.intro hb hc))
  have HA : Hid (a < 4 ∧ b < 4 ∧ c < 4) := Lib.hid (by omega)
  clear hz ha hb hc
  have CM := Lib.hid (make_c 99 0 9 0 0 0 (by intro x hx; simp at hx; rcases hx with rfl | rfl | rfl | rfl | rfl | rfl <;> omega) w)
  go_enter Tryz.func4, Tryz.ntmps4
  go_wp2
  go_loopg [3, 6] (a) (fun g s i wr => ∃ t : Nat, i = .int .i64 (t : Nat) ∧ t ≤ a ∧ Hid (g + t = a) ∧ s = .string ⟨(repL [60, 33, 45, 45, 97, 45, 45, 62, 32] t).toArray⟩ ∧ w = wr)
  case atStart => exact ⟨0, rfl, Nat.zero_le _, Lib.hid rfl, rfl, rfl⟩
  case round =>
    obtain ⟨t, rfl, ht, hg, rfl, rfl⟩ := hrel
    by_cases htv : t < a
    · have h1 : (t : Int) < (N : Int) % 4 := by have := HN.out; omega
      have h2 : ¬ (9223372036854775807 < (repL [60, 33, 45, 45, 97, 45, 45, 62, 32] t).length + 9) := by rw [repL_len]; have := HA.out; simp; omega
      have hct : (Op.stringOp .add ⟨(repL [60, 33, 45, 45, 97, 45, 45, 62, 32] t).toArray⟩ ⟨#[60, 33, 45, 45, 97, 45, 45, 62, 32]⟩).run Tryz.prog w = .ok (.string ⟨(repL [60, 33, 45, 45, 97, 45, 45, 62, 32] (t + 1)).toArray⟩) w := run_sop (repL [60, 33, 45, 45, 97, 45, 45, 62, 32] t) [60, 33, 45, 45, 97, 45, 45, 62, 32] (by rw [repL_len]; have := HA.out; simp; omega)
      have HL : Hid ((repL [60, 33, 45, 45, 97, 45, 45, 62, 32] (t + 1)).toArray = (repL [60, 33, 45, 45, 97, 45, 45, 62, 32] t).toArray ++ #[60, 33, 45, 45, 97, 45, 45, 62, 32]) := Lib.hid (by rw [repL]; simp)
      have hap : (⟨(repL [60, 33, 45, 45, 97, 45, 45, 62, 32] t).toArray⟩ ++ ⟨#[60, 33, 45, 45, 97, 45, 45, 62, 32]⟩ : ByteArray) = ⟨(repL [60, 33, 45, 45, 97, 45, 45, 62, 32] (t + 1)).toArray⟩ := by apply ByteArray.ext; rw [ByteArray.data_append]; exact HL.out.symm
      go_wp2
      go_roundg (a - (t + 1))
      case measure => have := hg.out; omega
      case rel => exact ⟨t + 1, by go_num, by omega, Lib.hid (by have := hg.out; omega), by first | rfl | (rw [HL.out]; rfl) | simp [HL.out], rfl⟩
    · have h1 : ¬ (t : Int) < (N : Int) % 4 := by have := HN.out; omega
      obtain rfl : a = t := by omega
      clear htv hg ht
      go_wp2
      go_loopg [4, 7] (b) (fun g s i wr => ∃ t : Nat, i = .int .i64 (t : Nat) ∧ t ≤ b ∧ Hid (g + t = b) ∧ s = .string ⟨(repL [60, 33, 45, 45, 98, 45, 45, 62, 60, 63, 98, 63, 62] t).toArray⟩ ∧ w = wr)
      case atStart => exact ⟨0, rfl, Nat.zero_le _, Lib.hid rfl, rfl, rfl⟩
      case round =>
        obtain ⟨t, rfl, ht, hg, rfl, rfl⟩ := hrel
        by_cases htv : t < b
        · have h1 : (t : Int) < (N : Int) / 4 % 4 := by have := HN.out; omega
          have h2 : ¬ (9223372036854775807 < (repL [60, 33, 45, 45, 98, 45, 45, 62, 60, 63, 98, 63, 62] t).length + 13) := by rw [repL_len]; have := HA.out; simp; omega
          have hct : (Op.stringOp .add ⟨(repL [60, 33, 45, 45, 98, 45, 45, 62, 60, 63, 98, 63, 62] t).toArray⟩ ⟨#[60, 33, 45, 45, 98, 45, 45, 62, 60, 63, 98, 63, 62]⟩).run Tryz.prog w = .ok (.string ⟨(repL [60, 33, 45, 45, 98, 45, 45, 62, 60, 63, 98, 63, 62] (t + 1)).toArray⟩) w := run_sop (repL [60, 33, 45, 45, 98, 45, 45, 62, 60, 63, 98, 63, 62] t) [60, 33, 45, 45, 98, 45, 45, 62, 60, 63, 98, 63, 62] (by rw [repL_len]; have := HA.out; simp; omega)
          have HL : Hid ((repL [60, 33, 45, 45, 98, 45, 45, 62, 60, 63, 98, 63, 62] (t + 1)).toArray = (repL [60, 33, 45, 45, 98, 45, 45, 62, 60, 63, 98, 63, 62] t).toArray ++ #[60, 33, 45, 45, 98, 45, 45, 62, 60, 63, 98, 63, 62]) := Lib.hid (by rw [repL]; simp)
          have hap : (⟨(repL [60, 33, 45, 45, 98, 45, 45, 62, 60, 63, 98, 63, 62] t).toArray⟩ ++ ⟨#[60, 33, 45, 45, 98, 45, 45, 62, 60, 63, 98, 63, 62]⟩ : ByteArray) = ⟨(repL [60, 33, 45, 45, 98, 45, 45, 62, 60, 63, 98, 63, 62] (t + 1)).toArray⟩ := by apply ByteArray.ext; rw [ByteArray.data_append]; exact HL.out.symm
          go_wp2
          go_roundg (b - (t + 1))
          case measure => have := hg.out; omega
          case rel => exact ⟨t + 1, by go_num, by omega, Lib.hid (by have := hg.out; omega), by first | rfl | (rw [HL.out]; rfl) | simp [HL.out], rfl⟩
        · have h1 : ¬ (t : Int) < (N : Int) / 4 % 4 := by have := HN.out; omega
          obtain rfl : b = t := by omega
          clear htv hg ht
          go_wp2
          go_loopg [5, 8] (c) (fun g s i wr => ∃ t : Nat, i = .int .i64 (t : Nat) ∧ t ≤ c ∧ Hid (g + t = c) ∧ s = .string ⟨(repL [10, 60, 63, 99, 32, 100, 63, 62] t).toArray⟩ ∧ w = wr)
          case atStart => exact ⟨0, rfl, Nat.zero_le _, Lib.hid rfl, rfl, rfl⟩
          case round =>
            obtain ⟨t, rfl, ht, hg, rfl, rfl⟩ := hrel
            by_cases htv : t < c
            · have h1 : (t : Int) < (N : Int) / 16 % 4 := by have := HN.out; omega
              have h2 : ¬ (9223372036854775807 < (repL [10, 60, 63, 99, 32, 100, 63, 62] t).length + 8) := by rw [repL_len]; have := HA.out; simp; omega
              have hct : (Op.stringOp .add ⟨(repL [10, 60, 63, 99, 32, 100, 63, 62] t).toArray⟩ ⟨#[10, 60, 63, 99, 32, 100, 63, 62]⟩).run Tryz.prog w = .ok (.string ⟨(repL [10, 60, 63, 99, 32, 100, 63, 62] (t + 1)).toArray⟩) w := run_sop (repL [10, 60, 63, 99, 32, 100, 63, 62] t) [10, 60, 63, 99, 32, 100, 63, 62] (by rw [repL_len]; have := HA.out; simp; omega)
              have HL : Hid ((repL [10, 60, 63, 99, 32, 100, 63, 62] (t + 1)).toArray = (repL [10, 60, 63, 99, 32, 100, 63, 62] t).toArray ++ #[10, 60, 63, 99, 32, 100, 63, 62]) := Lib.hid (by rw [repL]; simp)
              have hap : (⟨(repL [10, 60, 63, 99, 32, 100, 63, 62] t).toArray⟩ ++ ⟨#[10, 60, 63, 99, 32, 100, 63, 62]⟩ : ByteArray) = ⟨(repL [10, 60, 63, 99, 32, 100, 63, 62] (t + 1)).toArray⟩ := by apply ByteArray.ext; rw [ByteArray.data_append]; exact HL.out.symm
              go_wp2
              go_roundg (c - (t + 1))
              case measure => have := hg.out; omega
              case rel => exact ⟨t + 1, by go_num, by omega, Lib.hid (by have := hg.out; omega), by first | rfl | (rw [HL.out]; rfl) | simp [HL.out], rfl⟩
            · have h1 : ¬ (t : Int) < (N : Int) / 16 % 4 := by have := HN.out; omega
              obtain rfl : c = t := by omega
              clear htv hg ht
              go_wp2_with fail
              refine CM.out.mono ?_
              rintro e w1 ⟨⟨t9, g9, m9, rfl⟩, hb1⟩
              have HB1 := Lib.hid hb1
              clear hb1 CM
              obtain ⟨sA, hsA⟩ : ∃ p, repL [60, 33, 45, 45, 97, 45, 45, 62, 32] a = p := ⟨_, rfl⟩
              obtain ⟨sB, hsB⟩ : ∃ p, repL [60, 33, 45, 45, 98, 45, 45, 62, 60, 63, 98, 63, 62] b = p := ⟨_, rfl⟩
              obtain ⟨sC, hsC⟩ : ∃ p, repL [10, 60, 63, 99, 32, 100, 63, 62] c = p := ⟨_, rfl⟩
              have hlA : sA.length ≤ 40 := by rw [← hsA, repL_len]; have := HA.out; simp; omega
              have hlB : sB.length ≤ 40 := by rw [← hsB, repL_len]; have := HA.out; simp; omega
              have hlC : sC.length ≤ 40 := by rw [← hsC, repL_len]; have := HA.out; simp; omega
              rw [hsA, hsB, hsC]
              obtain ⟨P1, hP1⟩ : ∃ p, sA ++ [60, 33, 68, 79, 67, 84, 89, 80, 69, 32, 114, 32, 91] = p := ⟨_, rfl⟩
              have hn1 : P1.length ≤ 100 := by rw [← hP1, List.length_append]; (try simp only [List.length_cons, List.length_nil]); omega
              have hap1 : (⟨sA.toArray⟩ ++ ⟨#[60, 33, 68, 79, 67, 84, 89, 80, 69, 32, 114, 32, 91]⟩ : ByteArray) = ⟨P1.toArray⟩ := by rw [← hP1]; apply ByteArray.ext; rw [ByteArray.data_append]; simp
              have hct1 : ∀ W : World, (Op.stringOp .add ⟨sA.toArray⟩ ⟨#[60, 33, 68, 79, 67, 84, 89, 80, 69, 32, 114, 32, 91]⟩).run Tryz.prog W = .ok (.string ⟨P1.toArray⟩) W := fun W => by rw [← hP1]; exact run_sop sA [60, 33, 68, 79, 67, 84, 89, 80, 69, 32, 114, 32, 91] (by (try simp only [List.length_cons, List.length_nil]); omega)
              have h21 : ¬ (9223372036854775807 < sA.length + 13) := by omega
              obtain ⟨P2, hP2⟩ : ∃ p, P1 ++ sB = p := ⟨_, rfl⟩
              have hn2 : P2.length ≤ 160 := by rw [← hP2, List.length_append]; (try simp only [List.length_cons, List.length_nil]); omega
              have hap2 : (⟨P1.toArray⟩ ++ ⟨sB.toArray⟩ : ByteArray) = ⟨P2.toArray⟩ := by rw [← hP2]; apply ByteArray.ext; rw [ByteArray.data_append]; simp
              have hct2 : ∀ W : World, (Op.stringOp .add ⟨P1.toArray⟩ ⟨sB.toArray⟩).run Tryz.prog W = .ok (.string ⟨P2.toArray⟩) W := fun W => by rw [← hP2]; exact run_sop P1 sB (by (try simp only [List.length_cons, List.length_nil]); omega)
              have h22 : ¬ (9223372036854775807 < P1.length + sB.length) := by omega
              obtain ⟨P3, hP3⟩ : ∃ p, P2 ++ [93, 62] = p := ⟨_, rfl⟩
              have hn3 : P3.length ≤ 220 := by rw [← hP3, List.length_append]; (try simp only [List.length_cons, List.length_nil]); omega
              have hap3 : (⟨P2.toArray⟩ ++ ⟨#[93, 62]⟩ : ByteArray) = ⟨P3.toArray⟩ := by rw [← hP3]; apply ByteArray.ext; rw [ByteArray.data_append]; simp
              have hct3 : ∀ W : World, (Op.stringOp .add ⟨P2.toArray⟩ ⟨#[93, 62]⟩).run Tryz.prog W = .ok (.string ⟨P3.toArray⟩) W := fun W => by rw [← hP3]; exact run_sop P2 [93, 62] (by (try simp only [List.length_cons, List.length_nil]); omega)
              have h23 : ¬ (9223372036854775807 < P2.length + 2) := by omega
              obtain ⟨P4, hP4⟩ : ∃ p, P3 ++ sC = p := ⟨_, rfl⟩
              have hn4 : P4.length ≤ 280 := by rw [← hP4, List.length_append]; (try simp only [List.length_cons, List.length_nil]); omega
              have hap4 : (⟨P3.toArray⟩ ++ ⟨sC.toArray⟩ : ByteArray) = ⟨P4.toArray⟩ := by rw [← hP4]; apply ByteArray.ext; rw [ByteArray.data_append]; simp
              have hct4 : ∀ W : World, (Op.stringOp .add ⟨P3.toArray⟩ ⟨sC.toArray⟩).run Tryz.prog W = .ok (.string ⟨P4.toArray⟩) W := fun W => by rw [← hP4]; exact run_sop P3 sC (by (try simp only [List.length_cons, List.length_nil]); omega)
              have h24 : ¬ (9223372036854775807 < P3.length + sC.length) := by omega
              obtain ⟨P5, hP5⟩ : ∃ p, P4 ++ [60, 114, 47, 62] = p := ⟨_, rfl⟩
              have hn5 : P5.length ≤ 340 := by rw [← hP5, List.length_append]; (try simp only [List.length_cons, List.length_nil]); omega
              have hap5 : (⟨P4.toArray⟩ ++ ⟨#[60, 114, 47, 62]⟩ : ByteArray) = ⟨P5.toArray⟩ := by rw [← hP5]; apply ByteArray.ext; rw [ByteArray.data_append]; simp
              have hct5 : ∀ W : World, (Op.stringOp .add ⟨P4.toArray⟩ ⟨#[60, 114, 47, 62]⟩).run Tryz.prog W = .ok (.string ⟨P5.toArray⟩) W := fun W => by rw [← hP5]; exact run_sop P4 [60, 114, 47, 62] (by (try simp only [List.length_cons, List.length_nil]); omega)
              have h25 : ¬ (9223372036854775807 < P4.length + 4) := by omega
              have hPd : P5 = docP a b c := by rw [← hP5, ← hP4, ← hP3, ← hP2, ← hP1, ← hsA, ← hsB, ← hsC]; rfl
              obtain ⟨hrd, hln⟩ := rdAt_of HA.out.1 HA.out.2.1 HA.out.2.2
              rw [← hPd] at hrd hln
              obtain ⟨T5, hT5⟩ : ∃ p, 9 * a + 15 + 13 * b + 8 * c = p := ⟨_, rfl⟩
              have hP4l : P4.length = T5 := by
                rw [← hP5, List.length_append] at hln
                simp only [List.length_cons, List.length_nil] at hln
                omega
              rw [hT5] at hrd
              obtain ⟨EVS, hEVS⟩ : ∃ p, List.replicate a (⟨5, [], [97]⟩ : MisT) ++ List.replicate c ⟨4, [99], [100]⟩ = p := ⟨_, rfl⟩
              have hEl : EVS.length = a + c := by rw [← hEVS]; simp
              have hEx : Hid (∀ t, t < a + c → (t < a ∧ EVS[t]? = some ⟨5, [], [97]⟩) ∨ (a ≤ t ∧ EVS[t]? = some ⟨4, [99], [100]⟩)) := Lib.hid fun t ht => by
                rw [← hEVS]
                by_cases h : t < a
                · exact .inl ⟨h, by rw [List.getElem?_append_left (by simpa using h), List.getElem?_replicate, if_pos h]⟩
                · exact .inr ⟨by omega, by rw [List.getElem?_append_right (by simpa using h), List.getElem?_replicate, if_pos (by simp; omega)]⟩
              have cv := run_toBytes w1 P5
              have hbb := Lib.bytesWorld_below w1 5 ⟨P5.toArray⟩
              have hb2 : Below w.heap.size w (Lib.bytesWorld w1 5 ⟨P5.toArray⟩) := HB1.out.trans (hbb.mono HB1.out.size)
              have CR : Hid (Calls Tryz.prog 10 #[.slice (some ⟨w1.heap.size, 0, none⟩) P5.length (grownCap w1 P5.length 0 5), .pointer (some ⟨t9, 0, none⟩), .pointer (some ⟨g9, 0, none⟩), .pointer (some ⟨m9, 0, none⟩)] (Lib.bytesWorld w1 5 ⟨P5.toArray⟩) fun e w' => ∃ OA oc, e = .returned (.tuple #[.agg #[.bool false, .string ⟨#[]⟩, .string ⟨#[]⟩, .string ⟨#[]⟩, .bool true, .string ⟨#[114]⟩, .string ⟨#[]⟩, .string ⟨#[]⟩, .bool false, .bool true, .slice OA (a + c) oc, .int .i64 (T5 : Nat)], .int .i64 0]) ∧ (∃ base, OwnC cMis 5 54 w' base (.slice OA (a + c) oc) EVS) ∧ Below w.heap.size w w') := Lib.hid (by
                have := prRead_c (some ⟨w1.heap.size, 0, none⟩) P5.length (grownCap w1 P5.length 0 5) P5 _ _ _ _ _ _ _ _ _ _ _ _ t9 g9 m9 (Lib.bytesWorld w1 5 ⟨P5.toArray⟩) ((byt_new w1 P5 (by omega)).more (Nat.le_of_eq (Lib.bytesWorld_size _ _ _).symm)) (HW.out.1.below hb2) (HW.out.2.below hb2 HW.out.2.lt) (by omega) hrd
                rw [hEVS, hEl] at this
                exact this.mono fun e w' ⟨OA, oc, he, ho, hb⟩ => ⟨OA, oc, he, ⟨_, ho⟩, hb2.trans (hb.mono hb2.size)⟩)
              have HEL := Lib.hid hEl
              clear hPd hrd hln hT5 hEVS hEl hbb hb2 hsA hsB hsC hP1 hP2 hP3 hP4 hP5
              generalize Lib.bytesWorld w1 5 ⟨P5.toArray⟩ = W1 at *
              generalize grownCap w1 P5.length 0 5 = cp at *
              go_wp2_with fail
              refine CR.out.mono ?_
              rintro e w2 ⟨OA, oc, rfl, ⟨base, hO⟩, hb2⟩
              obtain ⟨w3, hw3⟩ : ∃ w3, w2.alloc (.cells #[.bool false, .string ⟨#[]⟩, .string ⟨#[]⟩, .string ⟨#[]⟩, .bool true, .string ⟨#[114]⟩, .string ⟨#[]⟩, .string ⟨#[]⟩, .bool false, .bool true, .slice OA (a + c) oc, .int .i64 (T5 : Nat)] 47) = w3 := ⟨_, rfl⟩
              have hp3 : w3.heap[w2.heap.size]? = some (.cells #[.bool false, .string ⟨#[]⟩, .string ⟨#[]⟩, .string ⟨#[]⟩, .bool true, .string ⟨#[114]⟩, .string ⟨#[]⟩, .string ⟨#[]⟩, .bool false, .bool true, .slice OA (a + c) oc, .int .i64 (T5 : Nat)] 47) := by rw [← hw3]; exact hp_new _ _
              have hb3 : Below w.heap.size w w3 := by rw [← hw3]; exact hb2.alloc hb2.size _
              have hR3 : RRd cMis 5 w3 w3.heap.size OA (a + c) oc EVS := by
                have h9 : OwnC cMis 5 54 w3 base (.slice OA (a + c) oc) EVS := hO.kept (by rw [← hw3]; exact (Below.refl _ _).alloc (Nat.le_refl _) _)
                obtain ⟨A1, c1, e1, r1⟩ := h9.rrd cMis_len (by decide)
                injection e1 with e11 e12 e13
                subst e11 e13
                rw [HEL.out] at r1
                exact r1
              obtain ⟨PB, hPB⟩ : ∃ p, w2.heap.size = p := ⟨_, rfl⟩
              rw [hPB] at hp3
              have H3 := Lib.hid (And.intro hb3 (And.intro hR3 hp3))
              have q10 := cell_of 10 hp3
              have q11 := cell_of 11 hp3
              have hE1 : (((a + c : Nat) : Int) != (N : Int) % 4 + (N : Int) / 16 % 4) = false := by have := HN.out; simp; omega
              have hE3 : (a : Int) + (c : Int) = (N : Int) % 4 + (N : Int) / 16 % 4 := by have := HN.out; omega
              have hwr : IntKind.i64.wrap ((N : Int) % 4 + (N : Int) / 16 % 4) = (N : Int) % 4 + (N : Int) / 16 % 4 := IntWalk.i64_in _ (by omega)
              have hT : ((T5 : Int) != (P4.length : Int)) = false := by simp; omega
              clear hb2 hO hb3 hR3 hp3 CR
              clear hap1 hap2 hap3 hap4 hap5 hct1 hct2 hct3 hct4 hct5 h21 h22 h23 h24 h25 cv
              go_wp2_with fail
              clear hE1 hE3 hwr hT q10 q11
              go_loopg [16] (a + c) (fun g i wr => ∃ t : Nat, i = .int .i64 (t : Nat) ∧ t ≤ a + c ∧ Hid (g + t = a + c) ∧ Hid (Below w3.heap.size w3 wr))
              case atStart => exact ⟨0, rfl, Nat.zero_le _, Lib.hid rfl, Lib.hid (Below.refl _ _)⟩
              case round =>
                obtain ⟨t, rfl, ht, hg, HJ⟩ := hrel
                have hp9 := (HJ.out.block _ (lt_of H3.out.2.2)).trans H3.out.2.2
                have q10 : wr.cell? ⟨PB, 10, none⟩ = some (.slice OA (a + c) oc) := by rw [cell_of 10 hp9]; rfl
                have hac : a + c ≤ 8 := by have := HA.out; omega
                by_cases htn : t < a + c
                · have hti : (t : Int) < ((a + c : Nat) : Int) := by omega
                  have hti2 : (t : Int) < (a : Int) + (c : Int) := by omega
                  have ht0 : (0 : Int) ≤ (t : Int) := by omega
                  obtain ⟨b1, o1, x, rfl, hb1, hx, hc1⟩ := H3.out.2.1.cell htn
                  obtain ⟨W4, hW4⟩ : ∃ W4, wr.alloc (.cells #[.int .i64 5, .string ⟨#[]⟩, .string ⟨#[]⟩, .slice none 0 0, .string ⟨#[97]⟩] 54) = W4 := ⟨_, rfl⟩
                  have hwant : W4.heap[wr.heap.size]? = some (.cells #[.int .i64 5, .string ⟨#[]⟩, .string ⟨#[]⟩, .slice none 0 0, .string ⟨#[97]⟩] 54) := by rw [← hW4]; exact hp_new _ _
                  have hb4 : Below w3.heap.size w3 W4 := by rw [← hW4]; exact HJ.out.alloc HJ.out.size _
                  obtain ⟨G, hG⟩ : ∃ G, wr.heap.size = G := ⟨_, rfl⟩
                  rw [hG] at hwant
                  have hG3 : w3.heap.size ≤ G := by rw [← hG]; exact HJ.out.size
                  have H4 := Lib.hid (And.intro hb4 (And.intro hwant hG3))
                  rcases hEx.out t htn with ⟨hta, hxt⟩ | ⟨hta, hxt⟩
                  · rw [hx] at hxt
                    cases hxt
                    have hlt : ¬ (N : Int) % 4 ≤ (t : Int) := by have := HN.out; omega
                    have HW5 := Lib.hid (And.intro H4.out.1 H4.out.2.1)
                    have JG : Hid (Below w3.heap.size w3 W4.drew ∧ W4.drew.heap[G]? = some (.cells #[.int .i64 5, .string ⟨#[]⟩, .string ⟨#[]⟩, .slice none 0 0, .string ⟨#[97]⟩] 54 (0, 0))) := Lib.hid ⟨HW5.out.1.drew, HW5.out.2⟩
                    have HC1 := Lib.hid (And.intro hb1 hc1)
                    have AT : Hid (∀ W, (Below w3.heap.size w3 W ∧ W.heap[G]? = some (.cells #[.int .i64 5, .string ⟨#[]⟩, .string ⟨#[]⟩, .slice none 0 0, .string ⟨#[97]⟩] 54 (0, 0))) → (W.cell? ⟨PB, 10, none⟩ = some (.slice (some ⟨b1, o1, none⟩) (a + c) oc) ∧ W.cell? ⟨b1, o1 + t * 5, none⟩ = some (.int .i64 5) ∧ W.cell? ⟨b1, o1 + t * 5 + 1, none⟩ = some (.string ⟨#[]⟩) ∧ W.cell? ⟨b1, o1 + t * 5 + 2, none⟩ = some (.string ⟨#[]⟩) ∧ W.cell? ⟨b1, o1 + t * 5 + 3, none⟩ = some (.slice none 0 0) ∧ W.cell? ⟨b1, o1 + t * 5 + 4, none⟩ = some (.string ⟨#[97]⟩)) ∧
                        (W.cell? ⟨G, 0, none⟩ = some (.int .i64 5) ∧ W.cell? ⟨G, 1, none⟩ = some (.string ⟨#[]⟩) ∧ W.cell? ⟨G, 2, none⟩ = some (.string ⟨#[]⟩) ∧ W.cell? ⟨G, 3, none⟩ = some (.slice none 0 0) ∧ W.cell? ⟨G, 4, none⟩ = some (.string ⟨#[97]⟩))) := Lib.hid fun W hw => by
                      have hd : ∀ (i : Nat), W.cell? ⟨b1, i, none⟩ = w3.cell? ⟨b1, i, none⟩ := fun i => hw.1.cell (p := ⟨b1, i, none⟩) HC1.out.1
                      have hp := (hw.1.block _ (lt_of H3.out.2.2)).trans H3.out.2.2
                      refine ⟨⟨by rw [cell_of 10 hp]; rfl, ?_, ?_, ?_, ?_, ?_⟩, ⟨cell_of 0 hw.2, cell_of 1 hw.2, cell_of 2 hw.2, cell_of 3 hw.2, cell_of 4 hw.2⟩⟩
                      · rw [show o1 + t * 5 = o1 + (t * 5 + 0) by omega, hd]; exact HC1.out.2 0 _ rfl
                      · rw [show o1 + t * 5 + 1 = o1 + (t * 5 + 1) by omega, hd]; exact HC1.out.2 1 _ rfl
                      · rw [show o1 + t * 5 + 2 = o1 + (t * 5 + 2) by omega, hd]; exact HC1.out.2 2 _ rfl
                      · rw [show o1 + t * 5 + 3 = o1 + (t * 5 + 3) by omega, hd]; exact HC1.out.2 3 _ rfl
                      · rw [show o1 + t * 5 + 4 = o1 + (t * 5 + 4) by omega, hd]; exact HC1.out.2 4 _ rfl
                    have S1 : Hid (∀ W, Hid (Below w3.heap.size w3 W ∧ W.heap[G]? = some (.cells #[.int .i64 5, .string ⟨#[]⟩, .string ⟨#[]⟩, .slice none 0 0, .string ⟨#[97]⟩] 54 (0, 0))) → Calls Tryz.prog 11 #[.agg #[.int .i64 5, .string ⟨#[]⟩, .string ⟨#[]⟩, .slice none 0 0, .string ⟨#[97]⟩], .agg #[.int .i64 5, .string ⟨#[]⟩, .string ⟨#[]⟩, .slice none 0 0, .string ⟨#[97]⟩]] W fun e w' => e = .returned (.bool true) ∧ Hid (Below w3.heap.size w3 w' ∧ w'.heap[G]? = some (.cells #[.int .i64 5, .string ⟨#[]⟩, .string ⟨#[]⟩, .slice none 0 0, .string ⟨#[97]⟩] 54 (0, 0)))) := Lib.hid fun W hw =>
                      (refOne_c 5 [] [97] W).mono fun e w' ⟨he, hb⟩ => ⟨he, Lib.hid ⟨hw.out.1.trans (hb.mono hw.out.1.size), (hb.block _ (lt_of hw.out.2)).trans hw.out.2⟩⟩
                    have hwt := H4.out.2.1
                    clear hb1 hc1 hx hp9 hb4 hwant hG3
                    go_wp2_with fail
                    refine wp_region_calm0 (fun W => Hid (Below w3.heap.size w3 W ∧ W.heap[G]? = some (.cells #[.int .i64 5, .string ⟨#[]⟩, .string ⟨#[]⟩, .slice none 0 0, .string ⟨#[97]⟩] 54 (0, 0)))) (by kernel_rfl) (by kernel_rfl) JG ?_
                    repeat
                      refine wpQuiet_step (fun K hK => ?_)
                      go_simp
                      first
                        | (refine hK _ ?_; clear hK K)
                        | (apply Exists.intro
                           refine ⟨fun W hW => ?_, hK _ ?_⟩
                           · first
                               | exact rfl
                               | (with_reducible exact S1.out W hW)
                               | (obtain ⟨⟨a0, a1, a2, a3, a4, a5⟩, z0, z1, z2, z3, z4⟩ := AT.out W hW.out; go_simp; done)
                               | (obtain ⟨⟨a0, a1, a2, a3, a4, a5⟩, z0, z1, z2, z3, z4⟩ := AT.out W hW.out; go_simp; exact rfl)
                           clear hK K)
                    refine wpQuiet_nil ?_
                    intro w9 hw9
                    have HJ9 := Lib.hid hw9.out.1
                    (try simp only [Exit.inBlock, Exit.then])
                    clear S1 AT JG hw9 hwt
                    go_wp2
                    go_roundg (a + c - (t + 1))
                    case measure => have := hg.out; omega
                    case rel => exact ⟨t + 1, by go_num, by omega, Lib.hid (by have := hg.out; omega), HJ9⟩
                  · rw [hx] at hxt
                    cases hxt
                    have hlt : (N : Int) % 4 ≤ (t : Int) := by have := HN.out; omega
                    have hwant5 : (W4.setRow G #[.int .i64 4, .string ⟨#[]⟩, .string ⟨#[99]⟩, .slice none 0 0, .string ⟨#[100]⟩]).heap[G]? = some (.cells #[.int .i64 4, .string ⟨#[]⟩, .string ⟨#[99]⟩, .slice none 0 0, .string ⟨#[100]⟩] 54 (0, 0)) := setRow_heap _ _ _ _ _ _ H4.out.2.1
                    obtain ⟨W5, hW5⟩ : ∃ W5, W4.setRow G #[.int .i64 4, .string ⟨#[]⟩, .string ⟨#[99]⟩, .slice none 0 0, .string ⟨#[100]⟩] = W5 := ⟨_, rfl⟩
                    rw [hW5] at hwant5
                    have hb5 : Below w3.heap.size w3 W5 := by rw [← hW5]; exact below_setRow H4.out.1 H4.out.2.2 _
                    have HW5 := Lib.hid (And.intro hb5 hwant5)
                    clear hb5 hwant5
                    have JG : Hid (Below w3.heap.size w3 W5.drew ∧ W5.drew.heap[G]? = some (.cells #[.int .i64 4, .string ⟨#[]⟩, .string ⟨#[99]⟩, .slice none 0 0, .string ⟨#[100]⟩] 54 (0, 0))) := Lib.hid ⟨HW5.out.1.drew, HW5.out.2⟩
                    have HC1 := Lib.hid (And.intro hb1 hc1)
                    have AT : Hid (∀ W, (Below w3.heap.size w3 W ∧ W.heap[G]? = some (.cells #[.int .i64 4, .string ⟨#[]⟩, .string ⟨#[99]⟩, .slice none 0 0, .string ⟨#[100]⟩] 54 (0, 0))) → (W.cell? ⟨PB, 10, none⟩ = some (.slice (some ⟨b1, o1, none⟩) (a + c) oc) ∧ W.cell? ⟨b1, o1 + t * 5, none⟩ = some (.int .i64 4) ∧ W.cell? ⟨b1, o1 + t * 5 + 1, none⟩ = some (.string ⟨#[]⟩) ∧ W.cell? ⟨b1, o1 + t * 5 + 2, none⟩ = some (.string ⟨#[99]⟩) ∧ W.cell? ⟨b1, o1 + t * 5 + 3, none⟩ = some (.slice none 0 0) ∧ W.cell? ⟨b1, o1 + t * 5 + 4, none⟩ = some (.string ⟨#[100]⟩)) ∧
                        (W.cell? ⟨G, 0, none⟩ = some (.int .i64 4) ∧ W.cell? ⟨G, 1, none⟩ = some (.string ⟨#[]⟩) ∧ W.cell? ⟨G, 2, none⟩ = some (.string ⟨#[99]⟩) ∧ W.cell? ⟨G, 3, none⟩ = some (.slice none 0 0) ∧ W.cell? ⟨G, 4, none⟩ = some (.string ⟨#[100]⟩))) := Lib.hid fun W hw => by
                      have hd : ∀ (i : Nat), W.cell? ⟨b1, i, none⟩ = w3.cell? ⟨b1, i, none⟩ := fun i => hw.1.cell (p := ⟨b1, i, none⟩) HC1.out.1
                      have hp := (hw.1.block _ (lt_of H3.out.2.2)).trans H3.out.2.2
                      refine ⟨⟨by rw [cell_of 10 hp]; rfl, ?_, ?_, ?_, ?_, ?_⟩, ⟨cell_of 0 hw.2, cell_of 1 hw.2, cell_of 2 hw.2, cell_of 3 hw.2, cell_of 4 hw.2⟩⟩
                      · rw [show o1 + t * 5 = o1 + (t * 5 + 0) by omega, hd]; exact HC1.out.2 0 _ rfl
                      · rw [show o1 + t * 5 + 1 = o1 + (t * 5 + 1) by omega, hd]; exact HC1.out.2 1 _ rfl
                      · rw [show o1 + t * 5 + 2 = o1 + (t * 5 + 2) by omega, hd]; exact HC1.out.2 2 _ rfl
                      · rw [show o1 + t * 5 + 3 = o1 + (t * 5 + 3) by omega, hd]; exact HC1.out.2 3 _ rfl
                      · rw [show o1 + t * 5 + 4 = o1 + (t * 5 + 4) by omega, hd]; exact HC1.out.2 4 _ rfl
                    have S1 : Hid (∀ W, Hid (Below w3.heap.size w3 W ∧ W.heap[G]? = some (.cells #[.int .i64 4, .string ⟨#[]⟩, .string ⟨#[99]⟩, .slice none 0 0, .string ⟨#[100]⟩] 54 (0, 0))) → Calls Tryz.prog 11 #[.agg #[.int .i64 4, .string ⟨#[]⟩, .string ⟨#[99]⟩, .slice none 0 0, .string ⟨#[100]⟩], .agg #[.int .i64 4, .string ⟨#[]⟩, .string ⟨#[99]⟩, .slice none 0 0, .string ⟨#[100]⟩]] W fun e w' => e = .returned (.bool true) ∧ Hid (Below w3.heap.size w3 w' ∧ w'.heap[G]? = some (.cells #[.int .i64 4, .string ⟨#[]⟩, .string ⟨#[99]⟩, .slice none 0 0, .string ⟨#[100]⟩] 54 (0, 0)))) := Lib.hid fun W hw =>
                      (refOne_c 4 [99] [100] W).mono fun e w' ⟨he, hb⟩ => ⟨he, Lib.hid ⟨hw.out.1.trans (hb.mono hw.out.1.size), (hb.block _ (lt_of hw.out.2)).trans hw.out.2⟩⟩
                    have hwt := H4.out.2.1
                    clear hb1 hc1 hx hp9 hb4 hwant hG3
                    go_wp2_with (first | (refine wpList_store_row rfl _ _ _ rfl G #[.int .i64 4, .string ⟨#[]⟩, .string ⟨#[99]⟩, .slice none 0 0, .string ⟨#[100]⟩] rfl rfl _ _ hwt (by kernel_rfl) rfl (by kernel_rfl) ?_))
                    (try rw [hW5])
                    refine wp_region_calm0 (fun W => Hid (Below w3.heap.size w3 W ∧ W.heap[G]? = some (.cells #[.int .i64 4, .string ⟨#[]⟩, .string ⟨#[99]⟩, .slice none 0 0, .string ⟨#[100]⟩] 54 (0, 0)))) (by kernel_rfl) (by kernel_rfl) JG ?_
                    repeat
                      refine wpQuiet_step (fun K hK => ?_)
                      go_simp
                      first
                        | (refine hK _ ?_; clear hK K)
                        | (apply Exists.intro
                           refine ⟨fun W hW => ?_, hK _ ?_⟩
                           · first
                               | exact rfl
                               | (with_reducible exact S1.out W hW)
                               | (obtain ⟨⟨a0, a1, a2, a3, a4, a5⟩, z0, z1, z2, z3, z4⟩ := AT.out W hW.out; go_simp; done)
                               | (obtain ⟨⟨a0, a1, a2, a3, a4, a5⟩, z0, z1, z2, z3, z4⟩ := AT.out W hW.out; go_simp; exact rfl)
                           clear hK K)
                    refine wpQuiet_nil ?_
                    intro w9 hw9
                    have HJ9 := Lib.hid hw9.out.1
                    (try simp only [Exit.inBlock, Exit.then])
                    clear S1 AT JG hw9 hwt
                    go_wp2
                    go_roundg (a + c - (t + 1))
                    case measure => have := hg.out; omega
                    case rel => exact ⟨t + 1, by go_num, by omega, Lib.hid (by have := hg.out; omega), HJ9⟩
                · have hti : ¬ (t : Int) < ((a + c : Nat) : Int) := by omega
                  have hti2 : ¬ (t : Int) < (a : Int) + (c : Int) := by omega
                  have CL := Lib.hid (LV.out wr (H3.out.1.trans (HJ.out.mono H3.out.1.size)))
                  have HBw := Lib.hid (H3.out.1.trans (HJ.out.mono H3.out.1.size))
                  clear LV hp9 hg HJ
                  go_wp2_with fail
                  refine CL.out.mono ?_
                  rintro e w6 ⟨rfl, hb6⟩
                  have HB6 := Lib.hid (HBw.out.trans (hb6.mono HBw.out.size))
                  clear hb6 CL
                  go_wp2
                  go_ret
                  exact ⟨rfl, HB6.out⟩
end Go.Proofs.YtgenpgfhjhcahaaGreatDoor
