/- ref14.Put: a value of a text, byte by byte. -/
import Derived.Test.YtljmpghijlibaaaDoorRows
import Derived.WalkKit
import Derived.ProofKit
import Derived.OpenShut
import Derived.ShutString
import Derived.ChangeOld
import Derived.Below
import Derived.BigQuiet
import Derived.Deep.QuietTactic
import Derived.Lib.Hide
import Derived.Deep.RegionHeld3
import Derived.Lib.SlBytesConst
import Derived.Laws.CopyOwn
import Derived.Laws.CopyRow
import Derived.Lib.Bytes
import Derived.Deep.LoopGhost
import Derived.Deep.DeepFit
import Derived.Deep.DeepMust
import Derived.WalkSpells
import Derived.WalkLawsBesides
import Derived.Laws.EntriesVeiled
import Derived.Laws.Rows
import Derived.Test.YtljmpghijlibaaaDoorShelf
import Derived.Test.YtljmpghijlibaaaDoorBase
import Derived.Test.YtljmpghijlibaaaDoorCharPlain
import Derived.Test.YtljmpghijlibaaaDoorStr
import Derived.Test.YtljmpghijlibaaaDoorUtf1
import Derived.Test.YtljmpghijlibaaaDoorUtf2
import Derived.Test.YtljmpghijlibaaaDoorUtf3
import Derived.Test.YtljmpghijlibaaaDoorChars1
import Derived.Test.YtljmpghijlibaaaDoorName1
import Derived.Test.YtljmpghijlibaaaDoorName2
import Derived.Test.YtljmpghijlibaaaDoorName3
import Derived.Test.YtljmpghijlibaaaDoorCref1
import Derived.Test.YtljmpghijlibaaaDoorRef1
import Derived.Test.YtljmpghijlibaaaDoorRef3
import Derived.Test.YtljmpghijlibaaaDoorY2
import Derived.Test.YtljmpghijlibaaaDoorY3
import Derived.Test.YtljmpghijlibaaaDoorEscP
import Derived.Test.YtljmpghijlibaaaDoorMiscP
import Derived.Test.YtljmpghijlibaaaDoorEnc
import Derived.Test.YtljmpghijlibaaaDoorEvP
import Derived.Test.YtljmpghijlibaaaDoorEvP2
import Derived.Test.YtljmpghijlibaaaDoorEvP3
import Derived.Test.YtljmpghijlibaaaDoorEvP4
import Derived.Test.YtljmpghijlibaaaDoorPub
import Derived.Test.YtljmpghijlibaaaDoorRun
import Derived.Test.YtljmpghijlibaaaDoorRunU
import Derived.Test.YtljmpghijlibaaaDoorRunV
import Derived.Test.YtljmpghijlibaaaDoorEv2
namespace Go.Proofs.YtljmpghijlibaaaDoor
open Go.ChangeShapes Go.WideShapes Go.ChangeAt Go.RowKit
set_option linter.unusedVariables false
theorem ix_contains (l : List UInt8) (c : UInt8) : decide (0 ≤ Lib.indexByte l c) = l.contains c := by
  by_cases h : 0 ≤ Lib.indexByte l c
  · rw [decide_eq_true h]
    symm
    simpa using List.mem_of_getElem? (ix_at c l h).1
  · rw [decide_eq_false h]
    symm
    rw [Bool.eq_false_iff]
    intro hc
    obtain ⟨j, hj⟩ := List.mem_iff_getElem?.1 (show c ∈ l by simpa using hc)
    exact ix_none c l (by omega) j hj
/-- What a text is put as, and the error. -/
def putOut (s : List UInt8) : List UInt8 × Int := if (runesOut s).2 = true then (if allOut isDoc s = true then (putV s, 0) else ([], 6)) else ([], 5)
theorem putV_snoc (s : List UInt8) (c : UInt8) : putV (s ++ [c]) = putV s ++ escV c := by simp [putV]
theorem dec_le3 : ∀ n : Nat, n < 256 → (Lib.decDigits n).length ≤ 3 := by decide +kernel
theorem escV_le (c : UInt8) : (escV c).length ≤ 6 := by
  unfold escV
  split
  · have := dec_le3 c.toNat c.toNat_lt
    simp only [List.length_cons, List.length_append, List.length_nil]
    omega
  · simp
theorem putV_le (s : List UInt8) : (putV s).length ≤ 6 * s.length := by
  induction s with
  | nil => simp [putV]
  | cons c t ih =>
    have := escV_le c
    simp only [putV, List.flatMap_cons, List.length_append, List.length_cons] at *
    omega
set_option maxRecDepth 100000 in
set_option maxHeartbeats 8000000 in
theorem refPut14_c (s : List UInt8) (w : World) (hm : s.length ≤ 20000) :
    Calls Tryd.prog 31 #[.string ⟨s.toArray⟩] w fun e w' => e = .returned (.tuple #[.string ⟨(putOut s).1.toArray⟩, .int .i64 (putOut s).2]) ∧ Below w.heap.size w w' := by
  have hsz : (⟨s.toArray⟩ : ByteArray).size = s.length := by simp [ByteArray.size]
  obtain ⟨cp, w1, hcv, hb1, hs1, hby⟩ := toBytes w s (by omega)
  have HR := Lib.hid (refRunes_c _ _ _ s w1 (hs1 ▸ hby) (by omega))
  have HB1 := Lib.hid (And.intro hb1 hs1)
  clear hb1 hby
  go_enter Tryd.func31, Tryd.ntmps31
  go_wp2_with fail
  refine HR.out.mono ?_
  rintro e w2 ⟨hb2, ⟨hok, A, c, rfl, hrd⟩ | ⟨hok, z, hz, rfl⟩⟩
  · have HB2 := Lib.hid (HB1.out.1.trans (hb2.mono (by have := HB1.out.2; omega)))
    have HOK := Lib.hid hok
    obtain ⟨cp2, w3, hcv2, hb3, hs3, hby3⟩ := toBytes w2 s (by omega)
    have HA := Lib.hid (refAllD_c _ _ _ s w3 (hs3 ▸ hby3) (by omega))
    have HB3 := Lib.hid (HB2.out.trans (hb3.mono HB2.out.size))
    clear hb2 hok hrd hb3 hby3
    cases hall : allOut isDoc s with
    | false =>
      have HP : Hid (putOut s = ([], 6)) := Lib.hid (by unfold putOut; rw [if_pos HOK.out, hall]; rfl)
      rw [hall] at HA
      clear hall
      go_wp2_with fail
      refine HA.out.mono ?_
      rintro e w4 ⟨rfl, hb4⟩
      have HB4 := Lib.hid (HB3.out.trans (hb4.mono HB3.out.size))
      clear hb4
      go_wp2
      go_ret2
      exact ⟨by rw [HP.out]; rfl, HB4.out⟩
    | true =>
      have HP : Hid (putOut s = (putV s, 0)) := Lib.hid (by unfold putOut; rw [if_pos HOK.out, hall]; rfl)
      rw [hall] at HA
      clear hall
      go_wp2_with fail
      refine HA.out.mono ?_
      rintro e w4 ⟨rfl, hb4⟩
      have HB4 := Lib.hid (HB3.out.trans (hb4.mono HB3.out.size))
      clear hb4 hcv hcv2
      go_wp2
      go_loop [7, 6] (fun i x => ∃ k : Nat, k ≤ s.length ∧ i = .int .i64 k ∧ x = .string ⟨(putV (s.take k)).toArray⟩) (fun i _ => s.length - (intOf i).toNat)
      case atStart => exact ⟨0, Nat.zero_le _, rfl, rfl⟩
      case round =>
        obtain ⟨k, hk, rfl, rfl⟩ := hrel
        have hk0 : (0 : Int) ≤ (k : Int) := by omega
        have hk1 : (k : Int) ≤ 20000 := by omega
        by_cases hlt : k < s.length
        · have hix := run_strIndex s k hlt w4
          have hsl := run_strSlice s k (k + 1) (by omega) (by omega) w4
          rw [show ((k + 1 : Nat) : Int) = (k : Int) + 1 by omega, show k + 1 - k = 1 by omega, show (s.drop k).take 1 = [s.getD k 0] by
            rw [List.drop_eq_getElem_cons hlt, List.take_succ_cons, List.take_zero]; simp [hlt]] at hsl
          have HSN : Hid (putV (s.take (k + 1)) = putV (s.take k) ++ escV (s.getD k 0)) := Lib.hid (by
            rw [take_snoc s k (s.getD k 0) (by simp [hlt]), putV_snoc])
          have HLE : Hid ((putV (s.take k)).length ≤ 120000) := Lib.hid (by have := putV_le (s.take k); rw [List.length_take] at this; omega)
          have HLT : Hid (k < s.length) := Lib.hid hlt
          generalize s.getD k 0 = d at *
          generalize putV (s.take k) = E at *
          have hd0 : (0 : Int) ≤ (d.toNat : Int) := by omega
          have hd1 : (d.toNat : Int) ≤ 255 := by have := d.toNat_lt; omega
          have HH : Hid (∀ W, Calls Tryd.prog 30 #[.string ⟨setV.toArray⟩, .int .u8 d.toNat] W fun e w' => e = .returned (.bool (setV.contains d)) ∧ W = w') := Lib.hid fun W => by
            have := has_c setV d W (by decide)
            rwa [ix_contains] at this
          cases hin : setV.contains d with
          | true =>
            have HEB : Hid (escV d = [38, 35] ++ Lib.decDigits d.toNat ++ [59]) := Lib.hid (by unfold escV; rw [if_pos hin]; simp)
            have HDL := Lib.hid (dec_le3 d.toNat d.toNat_lt)
            have HD := Lib.hid (refDigits_c d.toNat (by have := d.toNat_lt; omega))
            rw [hin] at HH
            clear hin
            generalize Lib.decDigits d.toNat = D at *
            have hsp : (Op.stringOp .add ⟨E.toArray⟩ ⟨#[38, 35]⟩).run Tryd.prog w4 = .ok (.string ⟨(E ++ [38, 35]).toArray⟩) w4 := run_sop (w := w4) E [38, 35] (by have := HLE.out; simp; omega)
            have hsp2 : (Op.stringOp .add ⟨(E ++ [38, 35]).toArray⟩ ⟨D.toArray⟩).run Tryd.prog w4 = .ok (.string ⟨(E ++ [38, 35] ++ D).toArray⟩) w4 := run_sop (w := w4) (E ++ [38, 35]) D (by have := HLE.out; have := HDL.out; simp; omega)
            have hsp3 : (Op.stringOp .add ⟨(E ++ [38, 35] ++ D).toArray⟩ ⟨#[59]⟩).run Tryd.prog w4 = .ok (.string ⟨(E ++ [38, 35] ++ D ++ [59]).toArray⟩) w4 := run_sop (w := w4) (E ++ [38, 35] ++ D) [59] (by have := HLE.out; have := HDL.out; simp; omega)
            have HN : Hid (putV (s.take (k + 1)) = E ++ [38, 35] ++ D ++ [59]) := Lib.hid (by rw [HSN.out, HEB.out]; simp)
            generalize E ++ [38, 35] ++ D ++ [59] = E3 at *
            generalize E ++ [38, 35] ++ D = E2 at *
            generalize E ++ [38, 35] = E1 at *
            clear HSN HEB
            go_wp2_with fail
            refine (HH.out _).mono ?_
            rintro e w5 ⟨rfl, rfl⟩
            go_wp2_with fail
            refine (HD.out _).mono ?_
            rintro e w5 ⟨rfl, rfl⟩
            go_wp2
            go_round
            case rel => exact ⟨k + 1, by omega, by go_num, by rw [HN.out]⟩
            case measure => simp [intOf]; omega
          | false =>
            have HEB : Hid (escV d = [d]) := Lib.hid (by unfold escV; rw [hin]; rfl)
            rw [hin] at HH
            clear hin
            have hsp : (Op.stringOp .add ⟨E.toArray⟩ ⟨[d].toArray⟩).run Tryd.prog w4 = .ok (.string ⟨(E ++ [d]).toArray⟩) w4 := run_sop (w := w4) E [d] (by have := HLE.out; simp; omega)
            have HN : Hid (putV (s.take (k + 1)) = E ++ [d]) := Lib.hid (by rw [HSN.out, HEB.out])
            generalize E ++ [d] = E' at *
            clear HSN HEB
            go_wp2_with fail
            refine (HH.out _).mono ?_
            rintro e w5 ⟨rfl, rfl⟩
            go_wp2
            go_round
            case rel => exact ⟨k + 1, by omega, by go_num, by rw [HN.out]⟩
            case measure => simp [intOf]; omega
        · obtain rfl : k = s.length := by omega
          go_wp2
          go_ret2
          rw [HP.out]
          exact ⟨rfl, HB4.out⟩
  · have HB2 := Lib.hid (HB1.out.1.trans (hb2.mono (by have := HB1.out.2; omega)))
    have HP : Hid (putOut s = ([], 5)) := Lib.hid (by unfold putOut; rw [hok]; rfl)
    clear hb2 hok hcv
    go_wp2
    go_ret2
    exact ⟨by rw [HP.out]; rfl, HB2.out⟩
end Go.Proofs.YtljmpghijlibaaaDoor
