/- LitReads. -/
import Derived.Test.YtljplmidnlahpaaDoorRows
import Derived.WalkKit
import Derived.ProofKit
import Derived.OpenShut
import Derived.ShutString
import Derived.ChangeOld
import Derived.Below
import Derived.BigQuiet
import Derived.Deep.QuietTactic
import Derived.Lib.Hide
import Derived.Deep.RegionHeld3
import Derived.Lib.SlBytesConst
import Derived.Laws.CopyOwn
import Derived.Laws.CopyRow
import Derived.Lib.Bytes
import Derived.Deep.LoopGhost
import Derived.Deep.DeepFit
import Derived.Deep.DeepMust
import Derived.WalkSpells
import Derived.WalkLawsBesides
import Derived.Laws.EntriesVeiled
import Derived.Laws.Rows
import Derived.Test.YtljplmidnlahpaaDoorBase
import Derived.Test.YtljplmidnlahpaaDoorShelf
import Derived.Test.YtljplmidnlahpaaDoorCharPlain
import Derived.Test.YtljplmidnlahpaaDoorUtf1
import Derived.Test.YtljplmidnlahpaaDoorUtf2
import Derived.Test.YtljplmidnlahpaaDoorUtf3
import Derived.Test.YtljplmidnlahpaaDoorChars1
import Derived.Test.YtljplmidnlahpaaDoorName1
import Derived.Test.YtljplmidnlahpaaDoorName2
import Derived.Test.YtljplmidnlahpaaDoorName3
import Derived.Test.YtljplmidnlahpaaDoorCref1
import Derived.Test.YtljplmidnlahpaaDoorCref2
import Derived.Test.YtljplmidnlahpaaDoorDig
import Derived.Test.YtljplmidnlahpaaDoorDig2
import Derived.Test.YtljplmidnlahpaaDoorRef1
import Derived.Test.YtljplmidnlahpaaDoorRef2
import Derived.Test.YtljplmidnlahpaaDoorRef3
import Derived.Test.YtljplmidnlahpaaDoorRef4
import Derived.Test.YtljplmidnlahpaaDoorRef5
import Derived.Test.YtljplmidnlahpaaDoorRef6
import Derived.Test.YtljplmidnlahpaaDoorRef9
import Derived.Test.YtljplmidnlahpaaDoorNum
import Derived.Test.YtljplmidnlahpaaDoorCChar
import Derived.Test.YtljplmidnlahpaaDoorCChar2
import Derived.Test.YtljplmidnlahpaaDoorRefC
import Derived.Test.YtljplmidnlahpaaDoorBuild
import Derived.Test.YtljplmidnlahpaaDoorEsc
import Derived.Test.YtljplmidnlahpaaDoorStr
import Derived.Test.YtljplmidnlahpaaDoorLitP
import Derived.Test.YtljplmidnlahpaaDoorLit1
import Derived.Test.YtljplmidnlahpaaDoorLit2
import Derived.Test.YtljplmidnlahpaaDoorLit3
import Derived.Test.YtljplmidnlahpaaDoorLit4
import Derived.Test.YtljplmidnlahpaaDoorLit5
import Derived.Test.YtljplmidnlahpaaDoorPub
import Derived.Test.YtljplmidnlahpaaDoorRun
import Derived.Test.YtljplmidnlahpaaDoorRunU
import Derived.Test.YtljplmidnlahpaaDoorRunV
import Derived.Test.YtljplmidnlahpaaDoorLit6
import Derived.Test.YtljplmidnlahpaaDoorLaw07
namespace Go.Proofs.YtljplmidnlahpaaDoor
open Go.ChangeShapes Go.WideShapes Go.ChangeAt Go.RowKit
set_option linter.unusedVariables false
set_option maxRecDepth 100000 in
set_option maxHeartbeats 8000000 in
theorem litReads_walk (A : Option Addr) (n cap : Nat) (l : List UInt8) (at_ : Int) (w : World) (h : Byt w w.heap.size A n cap l) (hT : Tabs w) (hF : Forms w) :
    Calls Tryd.prog 4 #[.slice A n cap, .int .i64 at_] w fun e w' => e = .returned (.bool true) ∧ Below w.heap.size w w' := by
  have hL := hT.low hF
  have LV : Hid (∀ w1, Below w.heap.size w w1 → Calls Tryd.prog 9 #[] w1 fun e w' => e = .returned (.bool true) ∧ Below w1.heap.size w1 w') := Lib.hid fun w1 hb => live7_c w1 (hT.below hb hL) (hF.below hb hF.lt)
  by_cases hn : n ≤ 400
  · have hn' : ¬ (400 : Int) < (n : Int) := by omega
    have c1 : Hid (Calls Tryd.prog 12 #[.slice A n cap, .int .i64 at_] w fun e w' => e = .returned (outV (quotedAt l at_)) ∧ ∃ m, w' = w.drewN m) := Lib.hid (quoted_c A n cap l at_ w _ h (by omega))
    have c2 : Hid (∀ w1, Below w.heap.size w w1 → Calls Tryd.prog 13 #[.slice A n cap, .int .i64 at_] w1 fun e w' => e = .returned (outV (quotedAt l at_)) ∧ ∃ m, w' = w1.drewN m) := Lib.hid fun w1 hb => refQuoted_c A n cap l at_ w1 _ (h.below hb) (by omega)
    have c3 : Hid (∀ w1, Below w.heap.size w w1 → Calls Tryd.prog 14 #[.slice A n cap, .int .i64 at_] w1 fun e w' => e = .returned (outV (strictAt 60 l at_)) ∧ Below w1.heap.size w1 w') := Lib.hid fun w1 hb => litValue_c A n cap l at_ w1 ((h.below hb).more hb.size) (hT.below hb hL) (hF.below hb hF.lt) (by omega)
    have c4 : Hid (∀ w1, Below w.heap.size w w1 → Calls Tryd.prog 15 #[.slice A n cap, .int .i64 at_, .int .u8 60] w1 fun e w' => e = .returned (outV (strictAt 60 l at_)) ∧ Below w1.heap.size w1 w') := Lib.hid fun w1 hb => refStrict_c A n cap l at_ 60 w1 ((h.below hb).more hb.size) (by omega)
    have c5 : Hid (∀ w1, Below w.heap.size w w1 → Calls Tryd.prog 16 #[.slice A n cap, .int .i64 at_] w1 fun e w' => e = .returned (outV (strictAt 37 l at_)) ∧ Below w1.heap.size w1 w') := Lib.hid fun w1 hb => litEntity_c A n cap l at_ w1 ((h.below hb).more hb.size) (hT.below hb hL) (hF.below hb hF.lt) (by omega)
    have c6 : Hid (∀ w1, Below w.heap.size w w1 → Calls Tryd.prog 15 #[.slice A n cap, .int .i64 at_, .int .u8 37] w1 fun e w' => e = .returned (outV (strictAt 37 l at_)) ∧ Below w1.heap.size w1 w') := Lib.hid fun w1 hb => refStrict_c A n cap l at_ 37 w1 ((h.below hb).more hb.size) (by omega)
    have c7 : Hid (∀ w1, Below w.heap.size w w1 → Calls Tryd.prog 17 #[.slice A n cap, .int .i64 at_] w1 fun e w' => e = .returned (outV (publicAt l at_)) ∧ Below w1.heap.size w1 w') := Lib.hid fun w1 hb => litPublic_c A n cap l at_ w1 ((h.below hb).more hb.size) (hF.below hb hF.lt) (by omega)
    have c8 : Hid (∀ w1, Below w.heap.size w w1 → Calls Tryd.prog 18 #[.slice A n cap, .int .i64 at_] w1 fun e w' => e = .returned (outV (publicAt l at_)) ∧ Below w1.heap.size w1 w') := Lib.hid fun w1 hb => refPublic_c A n cap l at_ w1 ((h.below hb).more hb.size) (by omega)
    clear h hT hF hL hn
    generalize quotedAt l at_ = r1 at *
    generalize strictAt 60 l at_ = r2 at *
    generalize strictAt 37 l at_ = r3 at *
    generalize publicAt l at_ = r4 at *
    obtain ⟨s1, k1, f1⟩ := r1
    obtain ⟨s2, k2, f2⟩ := r2
    obtain ⟨s3, k3, f3⟩ := r3
    obtain ⟨s4, k4, f4⟩ := r4
    unfold outV at *
    simp only at c1 c2 c3 c4 c5 c6 c7 c8
    have hs1 : ((⟨s1.toArray⟩ : ByteArray).toList != (⟨s1.toArray⟩ : ByteArray).toList) = false := by simp
    have hs2 : ((⟨s2.toArray⟩ : ByteArray).toList != (⟨s2.toArray⟩ : ByteArray).toList) = false := by simp
    have hs3 : ((⟨s3.toArray⟩ : ByteArray).toList != (⟨s3.toArray⟩ : ByteArray).toList) = false := by simp
    go_enter Tryd.func4, Tryd.ntmps4
    go_wp2_with fail
    refine c1.out.mono ?_
    rintro e w1 ⟨rfl, m1, hw1⟩
    have B1 : Hid (Below w.heap.size w w1) := Lib.hid (by rw [hw1]; exact below_drewN' (Below.refl _ _))
    clear hw1
    go_wp2_with fail
    refine (c2.out _ B1.out).mono ?_
    rintro e w2 ⟨rfl, m2, hw2⟩
    have B2 : Hid (Below w.heap.size w w2) := Lib.hid (by rw [hw2]; exact below_drewN' B1.out)
    clear hw2
    go_wp2_with fail
    refine (c3.out _ B2.out).mono ?_
    rintro e w3 ⟨rfl, hb⟩
    have B3 : Hid (Below w.heap.size w w3) := Lib.hid (B2.out.trans (hb.mono B2.out.size))
    clear hb
    go_wp2_with fail
    refine (c4.out _ B3.out).mono ?_
    rintro e w4 ⟨rfl, hb⟩
    have B4 : Hid (Below w.heap.size w w4) := Lib.hid (B3.out.trans (hb.mono B3.out.size))
    clear hb
    go_wp2_with fail
    refine (c5.out _ B4.out).mono ?_
    rintro e w5 ⟨rfl, hb⟩
    have B5 : Hid (Below w.heap.size w w5) := Lib.hid (B4.out.trans (hb.mono B4.out.size))
    clear hb
    go_wp2_with fail
    refine (c6.out _ B5.out).mono ?_
    rintro e w6 ⟨rfl, hb⟩
    have B6 : Hid (Below w.heap.size w w6) := Lib.hid (B5.out.trans (hb.mono B5.out.size))
    clear hb
    go_wp2_with fail
    refine (c7.out _ B6.out).mono ?_
    rintro e w7 ⟨rfl, hb⟩
    have B7 : Hid (Below w.heap.size w w7) := Lib.hid (B6.out.trans (hb.mono B6.out.size))
    clear hb
    go_wp2_with fail
    refine (c8.out _ B7.out).mono ?_
    rintro e w8 ⟨rfl, hb⟩
    have B8 : Hid (Below w.heap.size w w8) := Lib.hid (B7.out.trans (hb.mono B7.out.size))
    clear hb
    go_wp2_with fail
    refine (LV.out _ B8.out).mono ?_
    rintro e w9 ⟨rfl, hb⟩
    have B9 : Hid (Below w.heap.size w w9) := Lib.hid (B8.out.trans (hb.mono B8.out.size))
    clear hb
    go_wp2
    go_ret
    exact ⟨rfl, B9.out⟩
  · have hn' : (400 : Int) < (n : Int) := by omega
    clear h hT hF hL hn
    go_enter Tryd.func4, Tryd.ntmps4
    go_wp2_with fail
    refine (LV.out _ (Below.refl _ _)).mono ?_
    rintro e w1 ⟨rfl, hb⟩
    have B1 := Lib.hid hb
    clear hb
    go_wp2
    go_ret
    exact ⟨rfl, B1.out⟩
end Go.Proofs.YtljplmidnlahpaaDoor
