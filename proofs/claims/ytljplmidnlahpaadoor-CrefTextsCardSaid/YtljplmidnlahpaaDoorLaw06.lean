/- Statements of chapter 6. -/
import Derived.Test.YtljplmidnlahpaaDoorRows
import Derived.WalkKit
import Derived.ProofKit
import Derived.OpenShut
import Derived.ShutString
import Derived.ChangeOld
import Derived.Below
import Derived.BigQuiet
import Derived.Deep.QuietTactic
import Derived.Lib.Hide
import Derived.Deep.RegionHeld3
import Derived.Lib.SlBytesConst
import Derived.Laws.CopyOwn
import Derived.Laws.CopyRow
import Derived.Lib.Bytes
import Derived.Deep.LoopGhost
import Derived.Deep.DeepFit
import Derived.Deep.DeepMust
import Derived.WalkSpells
import Derived.WalkLawsBesides
import Derived.Laws.EntriesVeiled
import Derived.Laws.Rows
import Derived.Test.YtljplmidnlahpaaDoorBase
import Derived.Test.YtljplmidnlahpaaDoorShelf
import Derived.Test.YtljplmidnlahpaaDoorCharPlain
import Derived.Test.YtljplmidnlahpaaDoorUtf1
import Derived.Test.YtljplmidnlahpaaDoorUtf2
import Derived.Test.YtljplmidnlahpaaDoorUtf3
import Derived.Test.YtljplmidnlahpaaDoorChars1
import Derived.Test.YtljplmidnlahpaaDoorName1
import Derived.Test.YtljplmidnlahpaaDoorName2
import Derived.Test.YtljplmidnlahpaaDoorName3
import Derived.Test.YtljplmidnlahpaaDoorCref1
import Derived.Test.YtljplmidnlahpaaDoorCref2
import Derived.Test.YtljplmidnlahpaaDoorDig
import Derived.Test.YtljplmidnlahpaaDoorDig2
import Derived.Test.YtljplmidnlahpaaDoorRef1
import Derived.Test.YtljplmidnlahpaaDoorRef9
import Derived.Test.YtljplmidnlahpaaDoorNum
import Derived.Test.YtljplmidnlahpaaDoorCChar
import Derived.Test.YtljplmidnlahpaaDoorCChar2
import Derived.Test.YtljplmidnlahpaaDoorRefC
import Derived.Test.YtljplmidnlahpaaDoorBuild
import Derived.Test.YtljplmidnlahpaaDoorEsc
import Derived.Test.YtljplmidnlahpaaDoorStr
import Derived.Test.YtljplmidnlahpaaDoorKnown
import Derived.Test.YtljplmidnlahpaaDoorKnown2
namespace Go.Proofs.YtljplmidnlahpaaDoor
open Go.ChangeShapes Go.WideShapes Go.ChangeAt Go.RowKit
set_option linter.unusedVariables false
set_option maxRecDepth 100000 in
set_option maxHeartbeats 4000000 in
theorem live6_c (w : World) (hT : Tabs w) (hF : Forms w) : Calls Tryd.prog 21 #[] w fun e w' => e = .returned (.bool true) ∧ Below w.heap.size w w' := by
  have kc := fun (w : World) (C : Array Value) (n c : Nat) => Lib.run_convert_bytes_const (P := Tryd.prog) w 29 5 C n c Tryd.underlying29 Tryd.underlying5
  have hL := hT.low hF
  have k1 := Byt.const w [38, 35, 120, 52, 49, 59] (6, 7) (by decide)
  have b1 : Below w.heap.size w (w.alloc (.cells ([38, 35, 120, 52, 49, 59].map bv).toArray 5 (6, 7))) := (Below.refl _ _).alloc (Nat.le_refl _) _
  have c1 := crefChar_c _ _ _ _ 0 _ (k1.more (by simp)) (hF.below b1 hF.lt) (hT.below b1 hL) (by decide)
  rw [show charAt [38, 35, 120, 52, 49, 59] 0 = (65, 6, 0) by decide +kernel] at c1
  have HH := Lib.hid (And.intro hT (And.intro hF (And.intro hL b1)))
  have hs1 : (w.alloc (.cells ([38, 35, 120, 52, 49, 59].map bv).toArray 5 (6, 7))).heap.size = w.heap.size + 1 := by simp
  have HS1 := Lib.hid hs1
  clear hT hF hL k1 b1 hs1
  have C1 := Lib.hid c1
  clear c1
  go_enter Tryd.func21, Tryd.ntmps21
  go_wp2_with fail
  refine C1.out.mono ?_
  rintro e w1 ⟨rfl, hb1⟩
  have HB1 := Lib.hid (HH.out.2.2.2.trans (hb1.mono HH.out.2.2.2.size))
  have k2 := Byt.const w1 [38, 97, 98, 59] (4, 5) (by decide)
  have b2 : Below w.heap.size w (w1.alloc (.cells ([38, 97, 98, 59].map bv).toArray 5 (4, 5))) := HB1.out.alloc HB1.out.size _
  have c2 := crefEntity_c _ _ _ _ 0 _ (k2.more (by simp)) (HH.out.2.1.below b2 HH.out.2.1.lt) (HH.out.1.below b2 HH.out.2.2.1) (by decide)
  rw [show refAt 38 [38, 97, 98, 59] 0 = ([97, 98], 4, 0) by decide +kernel] at c2
  have C2 := Lib.hid c2
  have HB2 := Lib.hid b2
  clear hb1 k2 b2 c2
  unfold numV
  go_wp2_with fail
  refine C2.out.mono ?_
  rintro e w2 ⟨rfl, hb2⟩
  have HB3 := Lib.hid (HB2.out.trans (hb2.mono HB2.out.size))
  clear hb2
  have c3 := escape_c [97, 60, 98] w2 (by decide)
  rw [show esc [97, 60, 98] = [97, 38, 108, 116, 59, 98] by decide +kernel] at c3
  have C3 := Lib.hid c3
  clear c3
  unfold outV
  go_wp2_with fail
  refine C3.out.mono ?_
  rintro e w3 ⟨rfl, hb3⟩
  have HB4 := Lib.hid (HB3.out.trans (hb3.mono HB3.out.size))
  clear hb3
  go_wp2
  go_ret
  exact ⟨rfl, HB4.out⟩
set_option maxRecDepth 100000 in
set_option maxHeartbeats 4000000 in
theorem crefNames_walk (A : Option Addr) (n cap : Nat) (l : List UInt8) (at_ : Int) (s : ByteArray) (w : World) (h : Byt w w.heap.size A n cap l) (hT : Tabs w) (hF : Forms w) (hK : KnownT w) :
    Calls Tryd.prog 8 #[.slice A n cap, .int .i64 at_, .string s] w fun e w' => e = .returned (.bool true) ∧ Below w.heap.size w w' := by
  have hL := hT.low hF
  have hlv : ∀ w1, Below w.heap.size w w1 → Calls Tryd.prog 21 #[] w1 fun e w' => e = .returned (.bool true) ∧ Below w1.heap.size w1 w' := fun w1 hb => live6_c w1 (hT.below hb hL) (hF.below hb hF.lt)
  have LV := Lib.hid hlv
  by_cases hn : n ≤ 300
  · have hn' : ¬ (300 : Int) < (n : Int) := by omega
    have c1 : Hid (∀ w1, Below w.heap.size w w1 → Calls Tryd.prog 30 #[.slice A n cap, .int .i64 at_] w1 fun e w' => e = .returned (outV (refAt 38 l at_)) ∧ Below w1.heap.size w1 w') := Lib.hid fun w1 hb => crefEntity_c A n cap l at_ w1 ((h.below hb).more hb.size) (hF.below hb hF.lt) (hT.below hb hL) (by omega)
    have c2 : Hid (∀ w1, Below w.heap.size w w1 → Calls Tryd.prog 31 #[.slice A n cap, .int .i64 at_] w1 fun e w' => e = .returned (outV (refAt 37 l at_)) ∧ Below w1.heap.size w1 w') := Lib.hid fun w1 hb => crefParam_c A n cap l at_ w1 ((h.below hb).more hb.size) (hF.below hb hF.lt) (hT.below hb hL) (by omega)
    have c3 : Hid (∀ w1, Below w.heap.size w w1 → Calls Tryd.prog 28 #[.slice A n cap, .int .i64 at_, .int .u8 38] w1 fun e w' => e = .returned (outV (refAt 38 l at_)) ∧ Below w1.heap.size w1 w') := Lib.hid fun w1 hb => refEntityAt_c A n cap l at_ 38 w1 ((h.below hb).more hb.size) (by omega)
    have c4 : Hid (∀ w1, Below w.heap.size w w1 → Calls Tryd.prog 28 #[.slice A n cap, .int .i64 at_, .int .u8 37] w1 fun e w' => e = .returned (outV (refAt 37 l at_)) ∧ Below w1.heap.size w1 w') := Lib.hid fun w1 hb => refEntityAt_c A n cap l at_ 37 w1 ((h.below hb).more hb.size) (by omega)
    have c5 : Hid (∀ w1, Below w.heap.size w w1 → Calls Tryd.prog 32 #[.string s] w1 fun e w' => e = .returned (knownV (knownOf s)) ∧ Below w1.heap.size w1 w') := Lib.hid fun w1 hb => crefKnown_c s w1 (hK.below hb)
    have c6 : Hid (∀ w1, Calls Tryd.prog 29 #[.string s] w1 fun e w' => e = .returned (.int .i64 (knownOf s)) ∧ w1 = w') := Lib.hid fun w1 => refKnown_c s w1
    clear h hT hF hK hL hlv hn
    generalize refAt 38 l at_ = r1 at *
    generalize refAt 37 l at_ = r2 at *
    obtain ⟨s1, k1, f1⟩ := r1
    obtain ⟨s2, k2, f2⟩ := r2
    generalize knownOf s = kn at *
    unfold outV knownV at *
    simp only at c1 c2 c3 c4
    go_enter Tryd.func8, Tryd.ntmps8
    go_wp2_with fail
    refine (c1.out _ (Below.refl _ _)).mono ?_
    rintro e w1 ⟨rfl, hb⟩
    have B1 := Lib.hid hb
    clear hb
    go_wp2_with fail
    refine (c2.out _ B1.out).mono ?_
    rintro e w2 ⟨rfl, hb⟩
    have B2 := Lib.hid (B1.out.trans (hb.mono B1.out.size))
    clear hb
    go_wp2_with fail
    refine (c3.out _ B2.out).mono ?_
    rintro e w3 ⟨rfl, hb⟩
    have B3 := Lib.hid (B2.out.trans (hb.mono B2.out.size))
    clear hb
    go_wp2_with fail
    refine (c4.out _ B3.out).mono ?_
    rintro e w4 ⟨rfl, hb⟩
    have B4 := Lib.hid (B3.out.trans (hb.mono B3.out.size))
    clear hb
    go_wp2_with fail
    refine (c5.out _ B4.out).mono ?_
    rintro e w5 ⟨rfl, hb⟩
    have B5 := Lib.hid (B4.out.trans (hb.mono B4.out.size))
    clear hb
    go_wp2_with fail
    refine (c6.out _).mono ?_
    rintro e w6 ⟨rfl, rfl⟩
    go_wp2_with fail
    refine (LV.out _ B5.out).mono ?_
    rintro e w6 ⟨rfl, hb⟩
    have B6 := Lib.hid (B5.out.trans (hb.mono B5.out.size))
    clear hb
    go_wp2
    go_ret
    exact ⟨rfl, B6.out⟩
  · have hn' : (300 : Int) < (n : Int) := by omega
    clear h hT hF hK hL hlv hn
    go_enter Tryd.func8, Tryd.ntmps8
    go_wp2_with fail
    refine (LV.out _ (Below.refl _ _)).mono ?_
    rintro e w1 ⟨rfl, hb⟩
    have B1 := Lib.hid hb
    clear hb
    go_wp2
    go_ret
    exact ⟨rfl, B1.out⟩
set_option maxRecDepth 100000 in
set_option maxHeartbeats 4000000 in
theorem crefChars_walk (A : Option Addr) (n cap : Nat) (l : List UInt8) (at_ : Int) (w : World) (h : Byt w w.heap.size A n cap l) (hT : Tabs w) (hF : Forms w) :
    Calls Tryd.prog 6 #[.slice A n cap, .int .i64 at_] w fun e w' => e = .returned (.bool true) ∧ Below w.heap.size w w' := by
  have hL := hT.low hF
  have hlv : ∀ w1, Below w.heap.size w w1 → Calls Tryd.prog 21 #[] w1 fun e w' => e = .returned (.bool true) ∧ Below w1.heap.size w1 w' := fun w1 hb => live6_c w1 (hT.below hb hL) (hF.below hb hF.lt)
  have LV := Lib.hid hlv
  by_cases hn : n ≤ 300
  · have hn' : ¬ (300 : Int) < (n : Int) := by omega
    have c1 := Lib.hid (crefChar_c A n cap l at_ w h hF hT (by omega))
    have c2 : Hid (∀ w1, Below w.heap.size w w1 → Calls Tryd.prog 23 #[.slice A n cap, .int .i64 at_] w1 fun e w' => e = .returned (numV (charAt l at_)) ∧ w1 = w') := Lib.hid fun w1 hb => refCharR_c A n cap l at_ w1 _ (h.below hb) (by omega)
    clear h hT hF hL hlv hn
    generalize charAt l at_ = r1 at *
    obtain ⟨s1, k1, f1⟩ := r1
    unfold numV at *
    simp only at c1 c2
    go_enter Tryd.func6, Tryd.ntmps6
    go_wp2_with fail
    refine c1.out.mono ?_
    rintro e w1 ⟨rfl, hb⟩
    have B1 := Lib.hid hb
    clear hb
    go_wp2_with fail
    refine (c2.out _ B1.out).mono ?_
    rintro e w2 ⟨rfl, rfl⟩
    go_wp2_with fail
    refine (LV.out _ B1.out).mono ?_
    rintro e w6 ⟨rfl, hb⟩
    have B6 := Lib.hid (B1.out.trans (hb.mono B1.out.size))
    clear hb
    go_wp2
    go_ret
    exact ⟨rfl, B6.out⟩
  · have hn' : (300 : Int) < (n : Int) := by omega
    clear h hT hF hL hlv hn
    go_enter Tryd.func6, Tryd.ntmps6
    go_wp2_with fail
    refine (LV.out _ (Below.refl _ _)).mono ?_
    rintro e w1 ⟨rfl, hb⟩
    have B1 := Lib.hid hb
    clear hb
    go_wp2
    go_ret
    exact ⟨rfl, B1.out⟩
end Go.Proofs.YtljplmidnlahpaaDoor
