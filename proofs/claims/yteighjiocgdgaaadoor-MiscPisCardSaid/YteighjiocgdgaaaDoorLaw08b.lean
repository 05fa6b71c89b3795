/- The law MiscReads. -/
import Derived.Test.YteighjiocgdgaaaDoorRows
import Derived.WalkKit
import Derived.ProofKit
import Derived.OpenShut
import Derived.ShutString
import Derived.ChangeOld
import Derived.Below
import Derived.BigQuiet
import Derived.Deep.QuietTactic
import Derived.Lib.Hide
import Derived.Deep.RegionHeld3
import Derived.Lib.SlBytesConst
import Derived.Laws.CopyOwn
import Derived.Laws.CopyRow
import Derived.Lib.Bytes
import Derived.Deep.LoopGhost
import Derived.Deep.DeepFit
import Derived.Deep.DeepMust
import Derived.WalkSpells
import Derived.WalkLawsBesides
import Derived.Test.YteighjiocgdgaaaDoorBase
import Derived.Test.YteighjiocgdgaaaDoorShelf
import Derived.Test.YteighjiocgdgaaaDoorCharPlain
import Derived.Test.YteighjiocgdgaaaDoorUtf1
import Derived.Test.YteighjiocgdgaaaDoorUtf2
import Derived.Test.YteighjiocgdgaaaDoorUtf3
import Derived.Test.YteighjiocgdgaaaDoorChars1
import Derived.Test.YteighjiocgdgaaaDoorName1
import Derived.Test.YteighjiocgdgaaaDoorName2
import Derived.Test.YteighjiocgdgaaaDoorName3
import Derived.Test.YteighjiocgdgaaaDoorPub
import Derived.Test.YteighjiocgdgaaaDoorBlank
import Derived.Test.YteighjiocgdgaaaDoorLibB
import Derived.Test.YteighjiocgdgaaaDoorMiscP
import Derived.Test.YteighjiocgdgaaaDoorMisc1
import Derived.Test.YteighjiocgdgaaaDoorMisc2
import Derived.Test.YteighjiocgdgaaaDoorMisc3
import Derived.Test.YteighjiocgdgaaaDoorMisc4
import Derived.Test.YteighjiocgdgaaaDoorMisc5
import Derived.Test.YteighjiocgdgaaaDoorMisc6
import Derived.Test.YteighjiocgdgaaaDoorMisc7
import Derived.Test.YteighjiocgdgaaaDoorLaw08
import Derived.Test.YteighjiocgdgaaaDoorFold
import Derived.Test.YteighjiocgdgaaaDoorMisc8
namespace Go.Proofs.YteighjiocgdgaaaDoor
open Go.ChangeShapes Go.WideShapes Go.ChangeAt Go.RowKit
set_option linter.unusedVariables false
structure W8F (w : World) : Prop extends W8 w where
  fold : FoldT w
theorem W8F.below {w w' : World} (h : W8F w) (hb : Below w.heap.size w w') : W8F w' := ⟨h.toW8.below hb, h.fold.below hb h.fold.lt⟩
theorem miscPiAt_c (A : Option Addr) (n cap : Nat) (l : List UInt8) (at_ : Int) (w : World) (h : Byt w w.heap.size A n cap l) (hW : W8F w) (hm : n ≤ 50000) :
    Calls Tryd.prog 40 #[.slice A n cap, .int .i64 at_] w fun e w' => e = .returned (out4V (piAt l at_)) ∧ Below w.heap.size w w' := by
  unfold piAt
  rw [h.length]
  by_cases ha : at_ < 0 ∨ (n : Int) < at_
  · rw [if_pos ha]
    exact miscPi_range A n cap at_ w ha
  · rw [if_neg ha]
    obtain ⟨k, rfl⟩ : ∃ k : Nat, at_ = (k : Int) := ⟨at_.toNat, by omega⟩
    rw [Int.toNat_natCast]
    exact miscPi_in A n cap l k w h hW.forms hW.tabs hW.maxl hm (by omega) fun W hb => miscReserved_c _ W (hW.below hb).fold
theorem refPiAt_c (A : Option Addr) (n cap : Nat) (l : List UInt8) (at_ : Int) (w : World) (h : Byt w w.heap.size A n cap l) (hm : n ≤ 50000) :
    Calls Tryd.prog 41 #[.slice A n cap, .int .i64 at_] w fun e w' => e = .returned (out4V (piAt l at_)) ∧ Below w.heap.size w w' := by
  unfold piAt
  rw [h.length]
  by_cases ha : at_ < 0 ∨ (n : Int) < at_
  · rw [if_pos ha]
    exact refPi_range A n cap at_ w ha
  · rw [if_neg ha]
    obtain ⟨k, rfl⟩ : ∃ k : Nat, at_ = (k : Int) := ⟨at_.toNat, by omega⟩
    rw [Int.toNat_natCast]
    exact refPi_in A n cap l k w h hm (by omega) fun W hb => (refReserved_c _ W).mono fun e w' ⟨he, hw⟩ => ⟨he, hw ▸ Below.refl _ _⟩
set_option maxRecDepth 100000 in
set_option maxHeartbeats 4000000 in
theorem miscReads_walk (A : Option Addr) (n cap : Nat) (l : List UInt8) (at_ : Int) (w : World) (h : Byt w w.heap.size A n cap l) (hW : W8F w) :
    Calls Tryd.prog 8 #[.slice A n cap, .int .i64 at_] w fun e w' => e = .returned (.bool true) ∧ Below w.heap.size w w' := by
  have LV : Hid (∀ W, Below w.heap.size w W → Calls Tryd.prog 35 #[] W fun e w' => e = .returned (.bool true) ∧ Below W.heap.size W w') := Lib.hid fun W hb => live8_c W (hW.below hb).toW8
  by_cases hn : n ≤ 400
  · have hn' : ¬ (400 : Int) < (n : Int) := by omega
    have c1 : Hid (∀ W, Below w.heap.size w W → Calls Tryd.prog 36 #[.slice A n cap, .int .i64 at_] W fun e w' => e = .returned (outV (anyAt commentOut l at_)) ∧ Below W.heap.size W w') := Lib.hid fun W hb => miscComment_c A n cap l at_ W ((h.below hb).more hb.size) (hW.below hb).maxl (by omega)
    have c2 : Hid (∀ W, Below w.heap.size w W → Calls Tryd.prog 37 #[.slice A n cap, .int .i64 at_] W fun e w' => e = .returned (outV (anyAt commentOut l at_)) ∧ W = w') := Lib.hid fun W hb => refCommentAt_c A n cap l at_ _ W (h.below hb) (by omega)
    have c3 : Hid (∀ W, Below w.heap.size w W → Calls Tryd.prog 38 #[.slice A n cap, .int .i64 at_] W fun e w' => e = .returned (outV (anyAt cdataOut l at_)) ∧ Below W.heap.size W w') := Lib.hid fun W hb => miscCData_c A n cap l at_ W ((h.below hb).more hb.size) (hW.below hb).maxl (by omega)
    have c4 : Hid (∀ W, Below w.heap.size w W → Calls Tryd.prog 39 #[.slice A n cap, .int .i64 at_] W fun e w' => e = .returned (outV (anyAt cdataOut l at_)) ∧ W = w') := Lib.hid fun W hb => refCDataAt_c A n cap l at_ _ W (h.below hb) (by omega)
    have c5 : Hid (∀ W, Below w.heap.size w W → Calls Tryd.prog 40 #[.slice A n cap, .int .i64 at_] W fun e w' => e = .returned (out4V (piAt l at_)) ∧ Below W.heap.size W w') := Lib.hid fun W hb => miscPiAt_c A n cap l at_ W ((h.below hb).more hb.size) (hW.below hb) (by omega)
    have c6 : Hid (∀ W, Below w.heap.size w W → Calls Tryd.prog 41 #[.slice A n cap, .int .i64 at_] W fun e w' => e = .returned (out4V (piAt l at_)) ∧ Below W.heap.size W w') := Lib.hid fun W hb => refPiAt_c A n cap l at_ W ((h.below hb).more hb.size) (by omega)
    clear h hW hn
    generalize anyAt commentOut l at_ = r1 at *
    generalize anyAt cdataOut l at_ = r2 at *
    generalize piAt l at_ = r3 at *
    obtain ⟨s1, k1, f1⟩ := r1
    obtain ⟨s2, k2, f2⟩ := r2
    obtain ⟨s3, d3, k3, f3⟩ := r3
    unfold outV at *
    unfold out4V at *
    simp only at c1 c2 c3 c4 c5 c6
    go_enter Tryd.func8, Tryd.ntmps8
    go_wp2_with fail
    refine (c1.out _ (Below.refl _ _)).mono ?_
    rintro e w1 ⟨rfl, hb⟩
    have B1 := Lib.hid hb
    clear hb
    go_wp2_with fail
    refine (c2.out _ B1.out).mono ?_
    rintro e wq ⟨rfl, rfl⟩
    go_wp2_with fail
    refine (c3.out _ B1.out).mono ?_
    rintro e w2 ⟨rfl, hb⟩
    have B2 := Lib.hid (B1.out.trans (hb.mono B1.out.size))
    clear hb
    go_wp2_with fail
    refine (c4.out _ B2.out).mono ?_
    rintro e wq ⟨rfl, rfl⟩
    go_wp2_with fail
    refine (c5.out _ B2.out).mono ?_
    rintro e w3 ⟨rfl, hb⟩
    have B3 := Lib.hid (B2.out.trans (hb.mono B2.out.size))
    clear hb
    go_wp2_with fail
    refine (c6.out _ B3.out).mono ?_
    rintro e w4 ⟨rfl, hb⟩
    have B4 := Lib.hid (B3.out.trans (hb.mono B3.out.size))
    clear hb
    go_wp2_with fail
    refine (LV.out _ B4.out).mono ?_
    rintro e w5 ⟨rfl, hb⟩
    have B5 := Lib.hid (B4.out.trans (hb.mono B4.out.size))
    clear hb
    go_wp2
    go_ret
    exact ⟨rfl, B5.out⟩
  · have hn' : (400 : Int) < (n : Int) := by omega
    clear h hW hn
    go_enter Tryd.func8, Tryd.ntmps8
    go_wp2_with fail
    refine (LV.out _ (Below.refl _ _)).mono ?_
    rintro e w1 ⟨rfl, hb⟩
    have B1 := Lib.hid hb
    clear hb
    go_wp2
    go_ret
    exact ⟨rfl, B1.out⟩
end Go.Proofs.YteighjiocgdgaaaDoor
