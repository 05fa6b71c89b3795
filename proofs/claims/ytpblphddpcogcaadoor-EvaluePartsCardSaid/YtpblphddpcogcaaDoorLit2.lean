/- lit.Refs. -/
import Derived.Test.YtpblphddpcogcaaDoorRows
import Derived.WalkKit
import Derived.ProofKit
import Derived.OpenShut
import Derived.ShutString
import Derived.ChangeOld
import Derived.Below
import Derived.BigQuiet
import Derived.Deep.QuietTactic
import Derived.Lib.Hide
import Derived.Deep.RegionHeld3
import Derived.Lib.SlBytesConst
import Derived.Laws.CopyOwn
import Derived.Laws.CopyRow
import Derived.Lib.Bytes
import Derived.Deep.LoopGhost
import Derived.Deep.DeepFit
import Derived.Deep.DeepMust
import Derived.WalkSpells
import Derived.WalkLawsBesides
import Derived.Test.YtpblphddpcogcaaDoorBase
import Derived.Test.YtpblphddpcogcaaDoorShelf
import Derived.Test.YtpblphddpcogcaaDoorCharPlain
import Derived.Test.YtpblphddpcogcaaDoorUtf1
import Derived.Test.YtpblphddpcogcaaDoorUtf2
import Derived.Test.YtpblphddpcogcaaDoorUtf3
import Derived.Test.YtpblphddpcogcaaDoorChars1
import Derived.Test.YtpblphddpcogcaaDoorName1
import Derived.Test.YtpblphddpcogcaaDoorName2
import Derived.Test.YtpblphddpcogcaaDoorName3
import Derived.Test.YtpblphddpcogcaaDoorCref1
import Derived.Test.YtpblphddpcogcaaDoorCref2
import Derived.Test.YtpblphddpcogcaaDoorDig
import Derived.Test.YtpblphddpcogcaaDoorDig2
import Derived.Test.YtpblphddpcogcaaDoorRef1
import Derived.Test.YtpblphddpcogcaaDoorNum
import Derived.Test.YtpblphddpcogcaaDoorCChar
import Derived.Test.YtpblphddpcogcaaDoorCChar2
import Derived.Test.YtpblphddpcogcaaDoorBuild
import Derived.Test.YtpblphddpcogcaaDoorEsc
import Derived.Test.YtpblphddpcogcaaDoorLitP
import Derived.Test.YtpblphddpcogcaaDoorLit1
namespace Go.Proofs.YtpblphddpcogcaaDoor
open Go.ChangeShapes Go.WideShapes Go.ChangeAt Go.RowKit
set_option linter.unusedVariables false
theorem refAt_in (m : UInt8) (l : List UInt8) (k : Nat) (h : k ≤ l.length) : refAt m l (k : Int) = refOut m l k := by
  unfold refAt; rw [if_neg (by omega), Int.toNat_natCast]
theorem charAt_in (l : List UInt8) (k : Nat) (h : k ≤ l.length) : charAt l (k : Int) = charOut l k := by
  unfold charAt; rw [if_neg (by omega), Int.toNat_natCast]
set_option maxRecDepth 100000 in
set_option maxHeartbeats 2000000 in
theorem refs_c (l : List UInt8) (w : World) (hT : Tabs w) (hF : Forms w) (hm : l.length ≤ 40000) :
    Calls Tryd.prog 67 #[.string ⟨l.toArray⟩] w fun e w' => e = .returned (.tuple #[.int .i64 (refsOut l).1, .int .i64 (refsOut l).2]) ∧ Below w.heap.size w w' := by
  have hsz : (⟨l.toArray⟩ : ByteArray).size = l.length := by simp [ByteArray.size]
  obtain ⟨cp, w1, hcv, hb1, hs1, hby⟩ := toBytes w l (by omega)
  rw [show w.heap.size + 1 = w1.heap.size by omega] at hby
  have hL := hT.low hF
  have kc := fun (w : World) (C : Array Value) (n c : Nat) => Lib.run_convert_bytes_const (P := Tryd.prog) w 22 5 C n c Tryd.underlying22 Tryd.underlying5
  have HT1 := Lib.hid (hT.below hb1 hL)
  have HF1 := Lib.hid (hF.below hb1 hF.lt)
  have HL1 := Lib.hid (Tabs.low HT1.out HF1.out)
  have HBY := Lib.hid hby
  have HB1 := Lib.hid hb1
  have hcap := hby.le
  have HRES := Lib.hid (refsOut_eq l)
  clear hT hF hL hb1 hs1 hby
  generalize refsOut l = res at *
  go_enter Tryd.func67, Tryd.ntmps67
  go_wp2
  go_loopg [5] (l.length + 1) (fun g a wr => ∃ k : Nat, k ≤ l.length ∧ Hid (g + k = l.length + 1) ∧ a = .int .i64 (k : Int) ∧ Hid (refsFrom l k = res) ∧ Hid (Below w1.heap.size w1 wr))
  case atStart => exact ⟨0, Nat.zero_le _, Lib.hid (by omega), rfl, Lib.hid HRES.out.symm, Lib.hid (Below.refl _ _)⟩
  case round =>
    obtain ⟨k, hk, hg, rfl, HR, BR⟩ := hrel
    have hk0 : (0 : Int) ≤ (k : Int) := by omega
    have hk1 : (k : Int) ≤ 40000 := by omega
    have hrf : ∀ w2 : World, (Instr.slice 22 (.slice (some ⟨w.heap.size, 0, none⟩) l.length cp) (some (.int .i64 (k : Int))) none none).run Tryd.prog w2 = .ok (.slice (cutA (some ⟨w.heap.size, 0, none⟩) cp k) (l.length - k) (cp - k)) w2 := fun w2 => run_from (w := w2) _ l.length cp k hk
    have HI : Hid (Calls Tryd.prog 94 #[.slice (cutA (some ⟨w.heap.size, 0, none⟩) cp k) (l.length - k) (cp - k), .int .u8 38] wr fun e w' => e = .returned (.int .i64 (Lib.indexByte (l.drop k) 38)) ∧ w' = wr) := Lib.hid (indexByte_c _ _ _ (l.drop k) 38 wr _ ((HBY.out.below BR.out).drop hk))
    have hlo := ix_lo 38 (l.drop k)
    rw [List.length_drop] at hlo
    by_cases hx : Lib.indexByte (l.drop k) 38 < 0
    · have hno := ix_none 38 (l.drop k) hx
      have HE : Hid (res = (0, 0)) := Lib.hid (by
        rw [← HR.out, refsFrom_skips l k (l.length - k) (by omega) (fun j hj => by have := hno j; rwa [List.getElem?_drop] at this), refsFrom_end l _ (by omega)])
      have hd : decide (Lib.indexByte (l.drop k) 38 < 0) = true := by simpa using hx
      clear hlo hno hx
      generalize Lib.indexByte (l.drop k) 38 = ix at *
      go_wp2_with fail
      refine HI.out.mono ?_
      rintro e w2 ⟨rfl, rfl⟩
      clear hcv kc
      go_wp2
      go_ret2
      rw [HE.out]
      exact ⟨rfl, HB1.out.trans (BR.out.mono HB1.out.size)⟩
    · obtain ⟨hat, hno⟩ := ix_at 38 (l.drop k) (by omega)
      obtain ⟨j, hj⟩ : ∃ j : Nat, Lib.indexByte (l.drop k) 38 = (j : Int) := ⟨(Lib.indexByte (l.drop k) 38).toNat, by omega⟩
      rw [hj] at HI hlo hat hno
      rw [Int.toNat_natCast, List.getElem?_drop] at hat
      have hpl : k + j < l.length := by omega
      have HSK : Hid (refsFrom l (k + j) = res) := Lib.hid (by
        rw [← HR.out, refsFrom_skips l k j (by omega) (fun i hi => by have := hno i (by omega); rwa [List.getElem?_drop] at this)])
      have HAT := Lib.hid hat
      have hjj : decide ((j : Int) < 0) = false := by simp
      have hj0 : (0 : Int) ≤ (j : Int) := by omega
      have hjl := hlo.2
      clear hlo hno hx hj hat
      have hw1 : IntKind.i64.wrap ((k : Int) + (j : Int)) = ((k + j : Nat) : Int) := by rw [IntKind.wrap_i64]; omega
      have hw2 : (k : Int) + (j : Int) = ((k + j : Nat) : Int) := by omega
      have hw3 : (((k + j : Nat) : Int)) = (k : Int) + (j : Int) := by omega
      have hrf2 : ∀ w2 : World, (Instr.slice 22 (.slice (some ⟨w.heap.size, 0, none⟩) l.length cp) (some (.int .i64 ((k : Int) + (j : Int)))) none none).run Tryd.prog w2 = .ok (.slice (cutA (some ⟨w.heap.size, 0, none⟩) cp (k + j)) (l.length - (k + j)) (cp - (k + j))) w2 := fun w2 => by
        have := run_from (w := w2) (some ⟨w.heap.size, 0, none⟩) l.length cp (k + j) (by omega)
        rwa [hw3] at this
      have CE : Hid (Calls Tryd.prog 95 #[.slice (some ⟨w.heap.size, 0, none⟩) l.length cp, .int .i64 ((k : Int) + (j : Int))] wr fun e w' => e = .returned (outV (refOut 38 l (k + j))) ∧ Below wr.heap.size wr w') := Lib.hid (by
        have := crefEntity_c _ _ _ l ((k + j : Nat) : Int) wr ((HBY.out.below BR.out).more BR.out.size) (HF1.out.below BR.out HF1.out.lt) (HT1.out.below BR.out HL1.out) (by omega)
        rwa [refAt_in 38 l (k + j) (by omega), hw3] at this)
      have CC : Hid (∀ w4, Below w1.heap.size w1 w4 → Calls Tryd.prog 70 #[.slice (some ⟨w.heap.size, 0, none⟩) l.length cp, .int .i64 ((k : Int) + (j : Int))] w4 fun e w' => e = .returned (numV (charOut l (k + j))) ∧ Below w4.heap.size w4 w') := Lib.hid (fun w4 hb4 => by
        have := crefChar_c _ _ _ l ((k + j : Nat) : Int) w4 ((HBY.out.below hb4).more hb4.size) (HF1.out.below hb4 HF1.out.lt) (HT1.out.below hb4 HL1.out) (by omega)
        rwa [charAt_in l (k + j) (by omega), hw3] at this)
      have HP : Hid (∀ w3, Below w1.heap.size w1 w3 → Calls Tryd.prog 96 #[.slice (cutA (some ⟨w.heap.size, 0, none⟩) cp (k + j)) (l.length - (k + j)) (cp - (k + j)), .slice (some ⟨w3.heap.size, 0, none⟩) 2 2] (w3.alloc (.cells #[.int .u8 38, .int .u8 35] 5 (2, 3))) fun e w' => e = .returned (.bool (decide (l[k + j + 1]? = some 35))) ∧ w3.alloc (.cells #[.int .u8 38, .int .u8 35] 5 (2, 3)) = w') := Lib.hid (fun w3 hb3 => by
        have hb4 : Below w1.heap.size w1 (w3.alloc (.cells #[.int .u8 38, .int .u8 35] 5 (2, 3))) := hb3.alloc hb3.size _
        have := hasPrefix_c _ _ _ _ _ _ _ [38, 35] _ _ _ ((HBY.out.below hb4).drop (k := k + j) (by omega)) (Byt.const w3 [38, 35] (2, 3) (by decide))
        rw [pre2, List.getElem?_drop, List.getElem?_drop, show k + j + 0 = k + j by omega, HAT.out] at this
        simpa using this)
      have HM : Hid (markOut l (k + j) = if l[k + j + 1]? = some 35 then (charOut l (k + j)).2 else (refOut 38 l (k + j)).2) := Lib.hid rfl
      clear hw1 hw2 hw3
      have hwk : IntKind.i64.wrap ((k : Int) + (j : Int)) = (k : Int) + (j : Int) := by rw [IntKind.wrap_i64]; omega
      by_cases h35 : l[k + j + 1]? = some 35
      · have HMC : Hid (markOut l (k + j) = (charOut l (k + j)).2) := Lib.hid (by rw [HM.out, if_pos h35])
        have hd35 : decide (l[k + j + 1]? = some 35) = true := decide_eq_true h35
        rw [hd35] at HP
        clear hd35 h35
        generalize charOut l (k + j) = co at *
        generalize refOut 38 l (k + j) = ro at *
        obtain ⟨cv, cn, ce⟩ := co
        obtain ⟨rv, rn, re⟩ := ro
        unfold numV at CC
        unfold outV at CE
        by_cases hce : ce = 0
        · have HNX := Lib.hid (markOut_next l (k + j) (by rw [HMC.out]; exact hce))
          rw [HMC.out] at HNX
          have HS2 : Hid (refsFrom l cn = res) := Lib.hid (by rw [← HSK.out, refsFrom_next l (k + j) HAT.out (by rw [HMC.out]; exact hce), HMC.out])
          subst hce
          go_wp2_with fail
          refine HI.out.mono ?_
          rintro e w2 ⟨rfl, rfl⟩
          go_wp2_with fail
          refine CE.out.mono ?_
          rintro e w3 ⟨rfl, hb⟩
          have B3 : Hid (Below w1.heap.size w1 w3) := Lib.hid (BR.out.trans (hb.mono BR.out.size))
          clear hb
          go_wp2_with fail
          refine (HP.out w3 B3.out).mono ?_
          rintro e w4 ⟨rfl, hw4⟩
          have B4 : Hid (Below w1.heap.size w1 w4) := Lib.hid (by rw [← hw4]; exact B3.out.alloc B3.out.size _)
          clear hw4
          go_wp2_with fail
          refine (CC.out w4 B4.out).mono ?_
          rintro e w5 ⟨rfl, hb⟩
          have B5 : Hid (Below w1.heap.size w1 w5) := Lib.hid (B4.out.trans (hb.mono B4.out.size))
          clear hb
          go_wp2
          go_roundg (l.length + 1 - cn)
          case measure => have := hg.out; have := HNX.out; omega
          case rel => exact ⟨cn, HNX.out.2, Lib.hid (by have := HNX.out.2; omega), rfl, HS2, B5⟩
        · have HE : Hid (res = (k + j, ce)) := Lib.hid (by rw [← HSK.out, refsFrom_bad l (k + j) HAT.out (by rw [HMC.out]; exact hce), HMC.out])
          have hcz : ((ce : Int) != 0) = true := by simp; omega
          go_wp2_with fail
          refine HI.out.mono ?_
          rintro e w2 ⟨rfl, rfl⟩
          go_wp2_with fail
          refine CE.out.mono ?_
          rintro e w3 ⟨rfl, hb⟩
          have B3 : Hid (Below w1.heap.size w1 w3) := Lib.hid (BR.out.trans (hb.mono BR.out.size))
          clear hb
          go_wp2_with fail
          refine (HP.out w3 B3.out).mono ?_
          rintro e w4 ⟨rfl, hw4⟩
          have B4 : Hid (Below w1.heap.size w1 w4) := Lib.hid (by rw [← hw4]; exact B3.out.alloc B3.out.size _)
          clear hw4
          go_wp2_with fail
          refine (CC.out w4 B4.out).mono ?_
          rintro e w5 ⟨rfl, hb⟩
          have B5 : Hid (Below w1.heap.size w1 w5) := Lib.hid (B4.out.trans (hb.mono B4.out.size))
          clear hb
          go_wp2
          go_ret2
          rw [HE.out]
          exact ⟨rfl, HB1.out.trans (B5.out.mono HB1.out.size)⟩
      · have HMC : Hid (markOut l (k + j) = (refOut 38 l (k + j)).2) := Lib.hid (by rw [HM.out, if_neg h35])
        have hd35 : decide (l[k + j + 1]? = some 35) = false := decide_eq_false h35
        rw [hd35] at HP
        clear hd35 h35
        generalize refOut 38 l (k + j) = ro at *
        obtain ⟨rv, rn, re⟩ := ro
        unfold outV at CE
        by_cases hce : re = 0
        · have HNX := Lib.hid (markOut_next l (k + j) (by rw [HMC.out]; exact hce))
          rw [HMC.out] at HNX
          have HS2 : Hid (refsFrom l rn = res) := Lib.hid (by rw [← HSK.out, refsFrom_next l (k + j) HAT.out (by rw [HMC.out]; exact hce), HMC.out])
          subst hce
          go_wp2_with fail
          refine HI.out.mono ?_
          rintro e w2 ⟨rfl, rfl⟩
          go_wp2_with fail
          refine CE.out.mono ?_
          rintro e w3 ⟨rfl, hb⟩
          have B3 : Hid (Below w1.heap.size w1 w3) := Lib.hid (BR.out.trans (hb.mono BR.out.size))
          clear hb
          go_wp2_with fail
          refine (HP.out w3 B3.out).mono ?_
          rintro e w4 ⟨rfl, hw4⟩
          have B4 : Hid (Below w1.heap.size w1 w4) := Lib.hid (by rw [← hw4]; exact B3.out.alloc B3.out.size _)
          clear hw4
          go_wp2
          go_roundg (l.length + 1 - rn)
          case measure => have := hg.out; have := HNX.out; omega
          case rel => exact ⟨rn, HNX.out.2, Lib.hid (by have := HNX.out.2; omega), rfl, HS2, B4⟩
        · have HE : Hid (res = (k + j, re)) := Lib.hid (by rw [← HSK.out, refsFrom_bad l (k + j) HAT.out (by rw [HMC.out]; exact hce), HMC.out])
          have hcz : ((re : Int) != 0) = true := by simp; omega
          go_wp2_with fail
          refine HI.out.mono ?_
          rintro e w2 ⟨rfl, rfl⟩
          go_wp2_with fail
          refine CE.out.mono ?_
          rintro e w3 ⟨rfl, hb⟩
          have B3 : Hid (Below w1.heap.size w1 w3) := Lib.hid (BR.out.trans (hb.mono BR.out.size))
          clear hb
          go_wp2_with fail
          refine (HP.out w3 B3.out).mono ?_
          rintro e w4 ⟨rfl, hw4⟩
          have B4 : Hid (Below w1.heap.size w1 w4) := Lib.hid (by rw [← hw4]; exact B3.out.alloc B3.out.size _)
          clear hw4
          go_wp2
          go_ret2
          rw [HE.out]
          exact ⟨rfl, HB1.out.trans (B4.out.mono HB1.out.size)⟩
end Go.Proofs.YtpblphddpcogcaaDoor
