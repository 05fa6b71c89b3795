/- narthexref07.Refs. -/
import Derived.Test.YtpblphddpcogcaaDoorRows
import Derived.WalkKit
import Derived.ProofKit
import Derived.OpenShut
import Derived.ShutString
import Derived.ChangeOld
import Derived.Below
import Derived.BigQuiet
import Derived.Deep.QuietTactic
import Derived.Lib.Hide
import Derived.Deep.RegionHeld3
import Derived.Lib.SlBytesConst
import Derived.Laws.CopyOwn
import Derived.Laws.CopyRow
import Derived.Lib.Bytes
import Derived.Deep.LoopGhost
import Derived.Deep.DeepFit
import Derived.Deep.DeepMust
import Derived.WalkSpells
import Derived.WalkLawsBesides
import Derived.Test.YtpblphddpcogcaaDoorBase
import Derived.Test.YtpblphddpcogcaaDoorShelf
import Derived.Test.YtpblphddpcogcaaDoorCharPlain
import Derived.Test.YtpblphddpcogcaaDoorUtf1
import Derived.Test.YtpblphddpcogcaaDoorUtf2
import Derived.Test.YtpblphddpcogcaaDoorUtf3
import Derived.Test.YtpblphddpcogcaaDoorChars1
import Derived.Test.YtpblphddpcogcaaDoorName1
import Derived.Test.YtpblphddpcogcaaDoorName2
import Derived.Test.YtpblphddpcogcaaDoorName3
import Derived.Test.YtpblphddpcogcaaDoorCref1
import Derived.Test.YtpblphddpcogcaaDoorCref2
import Derived.Test.YtpblphddpcogcaaDoorDig
import Derived.Test.YtpblphddpcogcaaDoorDig2
import Derived.Test.YtpblphddpcogcaaDoorRef1
import Derived.Test.YtpblphddpcogcaaDoorRef9
import Derived.Test.YtpblphddpcogcaaDoorNum
import Derived.Test.YtpblphddpcogcaaDoorCChar
import Derived.Test.YtpblphddpcogcaaDoorCChar2
import Derived.Test.YtpblphddpcogcaaDoorRefC
import Derived.Test.YtpblphddpcogcaaDoorBuild
import Derived.Test.YtpblphddpcogcaaDoorEsc
import Derived.Test.YtpblphddpcogcaaDoorLitP
import Derived.Test.YtpblphddpcogcaaDoorLit1
import Derived.Test.YtpblphddpcogcaaDoorLit2
namespace Go.Proofs.YtpblphddpcogcaaDoor
open Go.ChangeShapes Go.WideShapes Go.ChangeAt Go.RowKit
set_option linter.unusedVariables false
set_option maxRecDepth 100000 in
set_option maxHeartbeats 2000000 in
theorem refRefs_c (l : List UInt8) (w : World) (hm : l.length ≤ 40000) :
    Calls Tryd.prog 34 #[.string ⟨l.toArray⟩] w fun e w' => e = .returned (.tuple #[.int .i64 (refsOut l).1, .int .i64 (refsOut l).2]) ∧ Below w.heap.size w w' := by
  have hsz : (⟨l.toArray⟩ : ByteArray).size = l.length := by simp [ByteArray.size]
  obtain ⟨cp, w1, hcv, hb1, hs1, hby⟩ := toBytes w l (by omega)
  rw [show w.heap.size + 1 = w1.heap.size by omega] at hby
  have HBY := Lib.hid hby
  have HB1 := Lib.hid hb1
  have hcap := hby.le
  have HRES := Lib.hid (refsOut_eq l)
  clear hb1 hs1 hby
  generalize refsOut l = res at *
  go_enter Tryd.func34, Tryd.ntmps34
  go_wp2
  go_loopg [5] (l.length + 1) (fun g a wr => ∃ k : Nat, k ≤ l.length ∧ Hid (g + k = l.length + 1) ∧ a = .int .i64 (k : Int) ∧ Hid (refsFrom l k = res) ∧ Hid (Below w1.heap.size w1 wr))
  case atStart => exact ⟨0, Nat.zero_le _, Lib.hid (by omega), rfl, Lib.hid HRES.out.symm, Lib.hid (Below.refl _ _)⟩
  case round =>
    obtain ⟨k, hk, hg, rfl, HR, BR⟩ := hrel
    have hk0 : (0 : Int) ≤ (k : Int) := by omega
    have hk1 : (k : Int) ≤ 40000 := by omega
    by_cases hkn : k < l.length
    · have hkni : (k : Int) < (l.length : Int) := by omega
      obtain ⟨b, o, c, e, hb, hc, hcell⟩ := (HBY.out.below BR.out).cell hkn
      cases e
      rw [Nat.zero_add] at hcell
      by_cases h38 : c = 38
      · have hcell' : wr.cell? ⟨w.heap.size, k, none⟩ = some (.int .u8 38) := by rw [hcell, h38]; rfl
        have HAT : Hid (l[k]? = some 38) := Lib.hid (by rw [hc, h38])
        have CE : Hid (Calls Tryd.prog 59 #[.slice (some ⟨w.heap.size, 0, none⟩) l.length cp, .int .i64 (k : Int), .int .u8 38] wr fun e w' => e = .returned (outV (refOut 38 l k)) ∧ Below wr.heap.size wr w') := Lib.hid (by
          have := refEntityAt_c _ _ _ l (k : Int) 38 wr ((HBY.out.below BR.out).more BR.out.size) (by omega)
          rwa [refAt_in 38 l k hk] at this)
        have CC : Hid (Calls Tryd.prog 49 #[.slice (some ⟨w.heap.size, 0, none⟩) l.length cp, .int .i64 (k : Int)] wr fun e w' => e = .returned (numV (charOut l k)) ∧ wr = w') := Lib.hid (by
          have := refCharR_c _ _ _ l (k : Int) wr _ (HBY.out.below BR.out) (by omega)
          rwa [charAt_in l k hk] at this)
        have HM : Hid (markOut l k = if l[k + 1]? = some 35 then (charOut l k).2 else (refOut 38 l k).2) := Lib.hid rfl
        have hwk : IntKind.i64.wrap ((k : Int) + 1) = (k : Int) + 1 := by rw [IntKind.wrap_i64]; omega
        clear hcell hc h38 hb
        by_cases h35 : l[k + 1]? = some 35
        · have hk1n : k + 1 < l.length := by
            rcases Nat.lt_or_ge (k + 1) l.length with g | g
            · exact g
            · rw [List.getElem?_eq_none g] at h35; cases h35
          obtain ⟨b, o, c1, e, hb, hc1, hcell1⟩ := (HBY.out.below BR.out).cell hk1n
          cases e
          rw [Nat.zero_add] at hcell1
          have hcell1' : wr.cell? ⟨w.heap.size, k + 1, none⟩ = some (.int .u8 35) := by rw [hcell1, show c1 = 35 by rw [h35] at hc1; exact (Option.some.inj hc1).symm]; rfl
          have hl1 : (k : Int) + 1 < (l.length : Int) := by omega
          have hp1 : (0 : Int) ≤ (k : Int) + 1 := by omega
          have htn : ((k : Int) + 1).toNat = k + 1 := by omega
          have HMC : Hid (markOut l k = (charOut l k).2) := Lib.hid (by rw [HM.out, if_pos h35])
          clear hcell1 hc1 h35 hb
          generalize charOut l k = co at *
          obtain ⟨cv, cn, ce⟩ := co
          unfold numV at CC
          by_cases hce : ce = 0
          · have HNX := Lib.hid (markOut_next l k (by rw [HMC.out]; exact hce))
            rw [HMC.out] at HNX
            have HS2 : Hid (refsFrom l cn = res) := Lib.hid (by rw [← HR.out, refsFrom_next l k HAT.out (by rw [HMC.out]; exact hce), HMC.out])
            subst hce
            go_wp2_with fail
            refine CC.out.mono ?_
            rintro e w2 ⟨rfl, rfl⟩
            go_wp2
            go_roundg (l.length + 1 - cn)
            case measure => have := hg.out; have := HNX.out; omega
            case rel => exact ⟨cn, HNX.out.2, Lib.hid (by have := HNX.out.2; omega), rfl, HS2, BR⟩
          · have HE : Hid (res = (k, ce)) := Lib.hid (by rw [← HR.out, refsFrom_bad l k HAT.out (by rw [HMC.out]; exact hce), HMC.out])
            have hcz : ((ce : Int) != 0) = true := by simp; omega
            go_wp2_with fail
            refine CC.out.mono ?_
            rintro e w2 ⟨rfl, rfl⟩
            clear hcv
            go_wp2
            go_ret2
            rw [HE.out]
            exact ⟨rfl, HB1.out.trans (BR.out.mono HB1.out.size)⟩
        · have HMC : Hid (markOut l k = (refOut 38 l k).2) := Lib.hid (by rw [HM.out, if_neg h35])
          generalize refOut 38 l k = ro at *
          obtain ⟨rv, rn, re⟩ := ro
          unfold outV at CE
          by_cases hk1n : k + 1 < l.length
          · obtain ⟨b, o, c1, e, hb, hc1, hcell1⟩ := (HBY.out.below BR.out).cell hk1n
            cases e
            rw [Nat.zero_add] at hcell1
            have e35 : ((c1.toNat : Int) == 35) = false := ne_byte' c1 35 35 rfl fun e => h35 (by rw [hc1, e])
            have hl1 : (k : Int) + 1 < (l.length : Int) := by omega
            have hp1 : (0 : Int) ≤ (k : Int) + 1 := by omega
            have htn : ((k : Int) + 1).toNat = k + 1 := by omega
            clear hc1 h35 hb
            generalize (c1.toNat : Int) = d1 at *
            by_cases hce : re = 0
            · have HNX := Lib.hid (markOut_next l k (by rw [HMC.out]; exact hce))
              rw [HMC.out] at HNX
              have HS2 : Hid (refsFrom l rn = res) := Lib.hid (by rw [← HR.out, refsFrom_next l k HAT.out (by rw [HMC.out]; exact hce), HMC.out])
              subst hce
              go_wp2_with fail
              refine CE.out.mono ?_
              rintro e w2 ⟨rfl, hb⟩
              have B2 : Hid (Below w1.heap.size w1 w2) := Lib.hid (BR.out.trans (hb.mono BR.out.size))
              clear hb
              go_wp2
              go_roundg (l.length + 1 - rn)
              case measure => have := hg.out; have := HNX.out; omega
              case rel => exact ⟨rn, HNX.out.2, Lib.hid (by have := HNX.out.2; omega), rfl, HS2, B2⟩
            · have HE : Hid (res = (k, re)) := Lib.hid (by rw [← HR.out, refsFrom_bad l k HAT.out (by rw [HMC.out]; exact hce), HMC.out])
              have hcz : ((re : Int) != 0) = true := by simp; omega
              go_wp2_with fail
              refine CE.out.mono ?_
              rintro e w2 ⟨rfl, hb⟩
              have B2 : Hid (Below w1.heap.size w1 w2) := Lib.hid (BR.out.trans (hb.mono BR.out.size))
              clear hb hcv
              go_wp2
              go_ret2
              rw [HE.out]
              exact ⟨rfl, HB1.out.trans (B2.out.mono HB1.out.size)⟩
          · have hl1 : ¬ (k : Int) + 1 < (l.length : Int) := by omega
            clear h35
            by_cases hce : re = 0
            · have HNX := Lib.hid (markOut_next l k (by rw [HMC.out]; exact hce))
              rw [HMC.out] at HNX
              have HS2 : Hid (refsFrom l rn = res) := Lib.hid (by rw [← HR.out, refsFrom_next l k HAT.out (by rw [HMC.out]; exact hce), HMC.out])
              subst hce
              go_wp2_with fail
              refine CE.out.mono ?_
              rintro e w2 ⟨rfl, hb⟩
              have B2 : Hid (Below w1.heap.size w1 w2) := Lib.hid (BR.out.trans (hb.mono BR.out.size))
              clear hb
              go_wp2
              go_roundg (l.length + 1 - rn)
              case measure => have := hg.out; have := HNX.out; omega
              case rel => exact ⟨rn, HNX.out.2, Lib.hid (by have := HNX.out.2; omega), rfl, HS2, B2⟩
            · have HE : Hid (res = (k, re)) := Lib.hid (by rw [← HR.out, refsFrom_bad l k HAT.out (by rw [HMC.out]; exact hce), HMC.out])
              have hcz : ((re : Int) != 0) = true := by simp; omega
              go_wp2_with fail
              refine CE.out.mono ?_
              rintro e w2 ⟨rfl, hb⟩
              have B2 : Hid (Below w1.heap.size w1 w2) := Lib.hid (BR.out.trans (hb.mono BR.out.size))
              clear hb hcv
              go_wp2
              go_ret2
              rw [HE.out]
              exact ⟨rfl, HB1.out.trans (B2.out.mono HB1.out.size)⟩
      · have e38 : ((c.toNat : Int) != 38) = true := by have := ne_byte' c 38 38 rfl h38; simp [bne, this]
        have HS2 : Hid (refsFrom l (k + 1) = res) := Lib.hid (by rw [← HR.out, refsFrom_skip l k hkn (by rw [hc]; simpa using h38)])
        clear hc h38 hb
        generalize (c.toNat : Int) = d1 at *
        go_wp2
        go_roundg (l.length + 1 - (k + 1))
        case measure => have := hg.out; omega
        case rel => exact ⟨k + 1, by omega, Lib.hid (by omega), by go_num, HS2, BR⟩
    · have hkni : ¬ (k : Int) < (l.length : Int) := by omega
      have HE : Hid (res = (0, 0)) := Lib.hid (by rw [← HR.out, refsFrom_end l k (by omega)])
      clear hcv
      go_wp2
      go_ret2
      rw [HE.out]
      exact ⟨rfl, HB1.out.trans (BR.out.mono HB1.out.size)⟩
end Go.Proofs.YtpblphddpcogcaaDoor
