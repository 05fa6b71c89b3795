/- Texts of ours, joined: Ref6, Ref7, Ref8. -/
import Derived.Test.YtfemfgkcgboopaaGreatDoorRows
import Derived.WalkKit
import Derived.ProofKit
import Derived.OpenShut
import Derived.ShutString
import Derived.ChangeOld
import Derived.Below
import Derived.BigQuiet
import Derived.Deep.QuietTactic
import Derived.Lib.Hide
import Derived.Deep.RegionHeld3
import Derived.Lib.SlBytesConst
import Derived.Laws.CopyOwn
import Derived.Laws.CopyRow
import Derived.Lib.Bytes
import Derived.Deep.LoopGhost
import Derived.Deep.DeepFit
import Derived.Deep.DeepMust
import Derived.WalkSpells
import Derived.WalkLawsBesides
import Derived.Laws.EntriesVeiled
import Derived.Laws.Rows
import Derived.Test.YtfemfgkcgboopaaGreatDoorQ1
import Derived.Test.YtfemfgkcgboopaaGreatDoorQ2
import Derived.Test.YtfemfgkcgboopaaGreatDoorQ3
import Derived.Test.YtfemfgkcgboopaaGreatDoorQ4
import Derived.Test.YtfemfgkcgboopaaGreatDoorQ5
import Derived.Test.YtfemfgkcgboopaaGreatDoorQ6
import Derived.Test.YtfemfgkcgboopaaGreatDoorQ7
/- The document's name characters. -/
namespace Go.Proofs.YtfemfgkcgboopaaGreatDoor
open Go.ChangeShapes Go.WideShapes Go.ChangeAt Go.RowKit
set_option linter.unusedVariables false
set_option maxRecDepth 100000 in
set_option maxHeartbeats 4000000 in
theorem refMore_c (r : Int) (w : World) : Calls Tryz.prog 107 #[.int .i64 r] w fun e w' => e = .returned (.bool (isMore r)) ∧ w = w' := by
  have hs := refStart_c r w
  unfold isMore
  cases he : isStart r with
  | true =>
    rw [he] at hs
    have HE := Lib.hid he
    clear he
    go_enter Tryz.func107, Tryz.ntmps107
    go_wp2_with fail
    refine hs.mono ?_
    rintro e w1 ⟨rfl, rfl⟩
    go_wp2
    go_ret
    exact ⟨rfl, rfl⟩
  | false =>
    rw [he] at hs
    have HE := Lib.hid he
    clear he
    show Calls _ _ _ _ fun e w' => e = .returned (.bool (isMoreOnly r)) ∧ w = w'
    rcases (show r ≤ 44 ∨ r = 45 ∨ r = 46 ∨ r = 47 ∨ (48 ≤ r ∧ r ≤ 57) ∨ (58 ≤ r ∧ r ≤ 182) ∨ r = 183 ∨ (184 ≤ r ∧ r ≤ 767) ∨ (768 ≤ r ∧ r ≤ 879) ∨ (880 ≤ r ∧ r ≤ 8254) ∨ r = 8255 ∨ r = 8256 ∨ 8257 ≤ r by omega) with h | h | h | h | h | h | h | h | h | h | h | h | h
    · have e : isMoreOnly r = false := by
        rw [Bool.eq_false_iff, Ne, isMoreOnly_iff]; omega
      rw [e]
      have a0 : (r == 45) = false := by first | (simp; omega) | (simp [h]; done)
      have a1 : (r == 46) = false := by first | (simp; omega) | (simp [h]; done)
      have a2 : decide (48 ≤ r) = false := by first | (simp; omega) | (simp [h]; done)
      have a3 : decide (r ≤ 57) = true := by first | (simp; omega) | (simp [h]; done)
      have a4 : (r == 183) = false := by first | (simp; omega) | (simp [h]; done)
      have a5 : decide (768 ≤ r) = false := by first | (simp; omega) | (simp [h]; done)
      have a6 : decide (r ≤ 879) = true := by first | (simp; omega) | (simp [h]; done)
      have a7 : (r == 8255) = false := by first | (simp; omega) | (simp [h]; done)
      have a8 : (r == 8256) = false := by first | (simp; omega) | (simp [h]; done)
      clear e h
      go_enter Tryz.func107, Tryz.ntmps107
      go_wp2_with fail
      refine hs.mono ?_
      rintro e w1 ⟨rfl, rfl⟩
      go_wp2
      go_ret
      exact ⟨rfl, rfl⟩
    · have e : isMoreOnly r = true := by
        rw [isMoreOnly_iff]; omega
      rw [e]
      have a0 : (r == 45) = true := by first | (simp; omega) | (simp [h]; done)
      have a1 : (r == 46) = false := by first | (simp; omega) | (simp [h]; done)
      have a2 : decide (48 ≤ r) = false := by first | (simp; omega) | (simp [h]; done)
      have a3 : decide (r ≤ 57) = true := by first | (simp; omega) | (simp [h]; done)
      have a4 : (r == 183) = false := by first | (simp; omega) | (simp [h]; done)
      have a5 : decide (768 ≤ r) = false := by first | (simp; omega) | (simp [h]; done)
      have a6 : decide (r ≤ 879) = true := by first | (simp; omega) | (simp [h]; done)
      have a7 : (r == 8255) = false := by first | (simp; omega) | (simp [h]; done)
      have a8 : (r == 8256) = false := by first | (simp; omega) | (simp [h]; done)
      clear e h
      go_enter Tryz.func107, Tryz.ntmps107
      go_wp2_with fail
      refine hs.mono ?_
      rintro e w1 ⟨rfl, rfl⟩
      go_wp2
      go_ret
      exact ⟨rfl, rfl⟩
    · have e : isMoreOnly r = true := by
        rw [isMoreOnly_iff]; omega
      rw [e]
      have a0 : (r == 45) = false := by first | (simp; omega) | (simp [h]; done)
      have a1 : (r == 46) = true := by first | (simp; omega) | (simp [h]; done)
      have a2 : decide (48 ≤ r) = false := by first | (simp; omega) | (simp [h]; done)
      have a3 : decide (r ≤ 57) = true := by first | (simp; omega) | (simp [h]; done)
      have a4 : (r == 183) = false := by first | (simp; omega) | (simp [h]; done)
      have a5 : decide (768 ≤ r) = false := by first | (simp; omega) | (simp [h]; done)
      have a6 : decide (r ≤ 879) = true := by first | (simp; omega) | (simp [h]; done)
      have a7 : (r == 8255) = false := by first | (simp; omega) | (simp [h]; done)
      have a8 : (r == 8256) = false := by first | (simp; omega) | (simp [h]; done)
      clear e h
      go_enter Tryz.func107, Tryz.ntmps107
      go_wp2_with fail
      refine hs.mono ?_
      rintro e w1 ⟨rfl, rfl⟩
      go_wp2
      go_ret
      exact ⟨rfl, rfl⟩
    · have e : isMoreOnly r = false := by
        rw [Bool.eq_false_iff, Ne, isMoreOnly_iff]; omega
      rw [e]
      have a0 : (r == 45) = false := by first | (simp; omega) | (simp [h]; done)
      have a1 : (r == 46) = false := by first | (simp; omega) | (simp [h]; done)
      have a2 : decide (48 ≤ r) = false := by first | (simp; omega) | (simp [h]; done)
      have a3 : decide (r ≤ 57) = true := by first | (simp; omega) | (simp [h]; done)
      have a4 : (r == 183) = false := by first | (simp; omega) | (simp [h]; done)
      have a5 : decide (768 ≤ r) = false := by first | (simp; omega) | (simp [h]; done)
      have a6 : decide (r ≤ 879) = true := by first | (simp; omega) | (simp [h]; done)
      have a7 : (r == 8255) = false := by first | (simp; omega) | (simp [h]; done)
      have a8 : (r == 8256) = false := by first | (simp; omega) | (simp [h]; done)
      clear e h
      go_enter Tryz.func107, Tryz.ntmps107
      go_wp2_with fail
      refine hs.mono ?_
      rintro e w1 ⟨rfl, rfl⟩
      go_wp2
      go_ret
      exact ⟨rfl, rfl⟩
    · have e : isMoreOnly r = true := by
        rw [isMoreOnly_iff]; omega
      rw [e]
      have a0 : (r == 45) = false := by first | (simp; omega) | (simp [h]; done)
      have a1 : (r == 46) = false := by first | (simp; omega) | (simp [h]; done)
      have a2 : decide (48 ≤ r) = true := by first | (simp; omega) | (simp [h]; done)
      have a3 : decide (r ≤ 57) = true := by first | (simp; omega) | (simp [h]; done)
      have a4 : (r == 183) = false := by first | (simp; omega) | (simp [h]; done)
      have a5 : decide (768 ≤ r) = false := by first | (simp; omega) | (simp [h]; done)
      have a6 : decide (r ≤ 879) = true := by first | (simp; omega) | (simp [h]; done)
      have a7 : (r == 8255) = false := by first | (simp; omega) | (simp [h]; done)
      have a8 : (r == 8256) = false := by first | (simp; omega) | (simp [h]; done)
      clear e h
      go_enter Tryz.func107, Tryz.ntmps107
      go_wp2_with fail
      refine hs.mono ?_
      rintro e w1 ⟨rfl, rfl⟩
      go_wp2
      go_ret
      exact ⟨rfl, rfl⟩
    · have e : isMoreOnly r = false := by
        rw [Bool.eq_false_iff, Ne, isMoreOnly_iff]; omega
      rw [e]
      have a0 : (r == 45) = false := by first | (simp; omega) | (simp [h]; done)
      have a1 : (r == 46) = false := by first | (simp; omega) | (simp [h]; done)
      have a2 : decide (48 ≤ r) = true := by first | (simp; omega) | (simp [h]; done)
      have a3 : decide (r ≤ 57) = false := by first | (simp; omega) | (simp [h]; done)
      have a4 : (r == 183) = false := by first | (simp; omega) | (simp [h]; done)
      have a5 : decide (768 ≤ r) = false := by first | (simp; omega) | (simp [h]; done)
      have a6 : decide (r ≤ 879) = true := by first | (simp; omega) | (simp [h]; done)
      have a7 : (r == 8255) = false := by first | (simp; omega) | (simp [h]; done)
      have a8 : (r == 8256) = false := by first | (simp; omega) | (simp [h]; done)
      clear e h
      go_enter Tryz.func107, Tryz.ntmps107
      go_wp2_with fail
      refine hs.mono ?_
      rintro e w1 ⟨rfl, rfl⟩
      go_wp2
      go_ret
      exact ⟨rfl, rfl⟩
    · have e : isMoreOnly r = true := by
        rw [isMoreOnly_iff]; omega
      rw [e]
      have a0 : (r == 45) = false := by first | (simp; omega) | (simp [h]; done)
      have a1 : (r == 46) = false := by first | (simp; omega) | (simp [h]; done)
      have a2 : decide (48 ≤ r) = true := by first | (simp; omega) | (simp [h]; done)
      have a3 : decide (r ≤ 57) = false := by first | (simp; omega) | (simp [h]; done)
      have a4 : (r == 183) = true := by first | (simp; omega) | (simp [h]; done)
      have a5 : decide (768 ≤ r) = false := by first | (simp; omega) | (simp [h]; done)
      have a6 : decide (r ≤ 879) = true := by first | (simp; omega) | (simp [h]; done)
      have a7 : (r == 8255) = false := by first | (simp; omega) | (simp [h]; done)
      have a8 : (r == 8256) = false := by first | (simp; omega) | (simp [h]; done)
      clear e h
      go_enter Tryz.func107, Tryz.ntmps107
      go_wp2_with fail
      refine hs.mono ?_
      rintro e w1 ⟨rfl, rfl⟩
      go_wp2
      go_ret
      exact ⟨rfl, rfl⟩
    · have e : isMoreOnly r = false := by
        rw [Bool.eq_false_iff, Ne, isMoreOnly_iff]; omega
      rw [e]
      have a0 : (r == 45) = false := by first | (simp; omega) | (simp [h]; done)
      have a1 : (r == 46) = false := by first | (simp; omega) | (simp [h]; done)
      have a2 : decide (48 ≤ r) = true := by first | (simp; omega) | (simp [h]; done)
      have a3 : decide (r ≤ 57) = false := by first | (simp; omega) | (simp [h]; done)
      have a4 : (r == 183) = false := by first | (simp; omega) | (simp [h]; done)
      have a5 : decide (768 ≤ r) = false := by first | (simp; omega) | (simp [h]; done)
      have a6 : decide (r ≤ 879) = true := by first | (simp; omega) | (simp [h]; done)
      have a7 : (r == 8255) = false := by first | (simp; omega) | (simp [h]; done)
      have a8 : (r == 8256) = false := by first | (simp; omega) | (simp [h]; done)
      clear e h
      go_enter Tryz.func107, Tryz.ntmps107
      go_wp2_with fail
      refine hs.mono ?_
      rintro e w1 ⟨rfl, rfl⟩
      go_wp2
      go_ret
      exact ⟨rfl, rfl⟩
    · have e : isMoreOnly r = true := by
        rw [isMoreOnly_iff]; omega
      rw [e]
      have a0 : (r == 45) = false := by first | (simp; omega) | (simp [h]; done)
      have a1 : (r == 46) = false := by first | (simp; omega) | (simp [h]; done)
      have a2 : decide (48 ≤ r) = true := by first | (simp; omega) | (simp [h]; done)
      have a3 : decide (r ≤ 57) = false := by first | (simp; omega) | (simp [h]; done)
      have a4 : (r == 183) = false := by first | (simp; omega) | (simp [h]; done)
      have a5 : decide (768 ≤ r) = true := by first | (simp; omega) | (simp [h]; done)
      have a6 : decide (r ≤ 879) = true := by first | (simp; omega) | (simp [h]; done)
      have a7 : (r == 8255) = false := by first | (simp; omega) | (simp [h]; done)
      have a8 : (r == 8256) = false := by first | (simp; omega) | (simp [h]; done)
      clear e h
      go_enter Tryz.func107, Tryz.ntmps107
      go_wp2_with fail
      refine hs.mono ?_
      rintro e w1 ⟨rfl, rfl⟩
      go_wp2
      go_ret
      exact ⟨rfl, rfl⟩
    · have e : isMoreOnly r = false := by
        rw [Bool.eq_false_iff, Ne, isMoreOnly_iff]; omega
      rw [e]
      have a0 : (r == 45) = false := by first | (simp; omega) | (simp [h]; done)
      have a1 : (r == 46) = false := by first | (simp; omega) | (simp [h]; done)
      have a2 : decide (48 ≤ r) = true := by first | (simp; omega) | (simp [h]; done)
      have a3 : decide (r ≤ 57) = false := by first | (simp; omega) | (simp [h]; done)
      have a4 : (r == 183) = false := by first | (simp; omega) | (simp [h]; done)
      have a5 : decide (768 ≤ r) = true := by first | (simp; omega) | (simp [h]; done)
      have a6 : decide (r ≤ 879) = false := by first | (simp; omega) | (simp [h]; done)
      have a7 : (r == 8255) = false := by first | (simp; omega) | (simp [h]; done)
      have a8 : (r == 8256) = false := by first | (simp; omega) | (simp [h]; done)
      clear e h
      go_enter Tryz.func107, Tryz.ntmps107
      go_wp2_with fail
      refine hs.mono ?_
      rintro e w1 ⟨rfl, rfl⟩
      go_wp2
      go_ret
      exact ⟨rfl, rfl⟩
    · have e : isMoreOnly r = true := by
        rw [isMoreOnly_iff]; omega
      rw [e]
      have a0 : (r == 45) = false := by first | (simp; omega) | (simp [h]; done)
      have a1 : (r == 46) = false := by first | (simp; omega) | (simp [h]; done)
      have a2 : decide (48 ≤ r) = true := by first | (simp; omega) | (simp [h]; done)
      have a3 : decide (r ≤ 57) = false := by first | (simp; omega) | (simp [h]; done)
      have a4 : (r == 183) = false := by first | (simp; omega) | (simp [h]; done)
      have a5 : decide (768 ≤ r) = true := by first | (simp; omega) | (simp [h]; done)
      have a6 : decide (r ≤ 879) = false := by first | (simp; omega) | (simp [h]; done)
      have a7 : (r == 8255) = true := by first | (simp; omega) | (simp [h]; done)
      have a8 : (r == 8256) = false := by first | (simp; omega) | (simp [h]; done)
      clear e h
      go_enter Tryz.func107, Tryz.ntmps107
      go_wp2_with fail
      refine hs.mono ?_
      rintro e w1 ⟨rfl, rfl⟩
      go_wp2
      go_ret
      exact ⟨rfl, rfl⟩
    · have e : isMoreOnly r = true := by
        rw [isMoreOnly_iff]; omega
      rw [e]
      have a0 : (r == 45) = false := by first | (simp; omega) | (simp [h]; done)
      have a1 : (r == 46) = false := by first | (simp; omega) | (simp [h]; done)
      have a2 : decide (48 ≤ r) = true := by first | (simp; omega) | (simp [h]; done)
      have a3 : decide (r ≤ 57) = false := by first | (simp; omega) | (simp [h]; done)
      have a4 : (r == 183) = false := by first | (simp; omega) | (simp [h]; done)
      have a5 : decide (768 ≤ r) = true := by first | (simp; omega) | (simp [h]; done)
      have a6 : decide (r ≤ 879) = false := by first | (simp; omega) | (simp [h]; done)
      have a7 : (r == 8255) = false := by first | (simp; omega) | (simp [h]; done)
      have a8 : (r == 8256) = true := by first | (simp; omega) | (simp [h]; done)
      clear e h
      go_enter Tryz.func107, Tryz.ntmps107
      go_wp2_with fail
      refine hs.mono ?_
      rintro e w1 ⟨rfl, rfl⟩
      go_wp2
      go_ret
      exact ⟨rfl, rfl⟩
    · have e : isMoreOnly r = false := by
        rw [Bool.eq_false_iff, Ne, isMoreOnly_iff]; omega
      rw [e]
      have a0 : (r == 45) = false := by first | (simp; omega) | (simp [h]; done)
      have a1 : (r == 46) = false := by first | (simp; omega) | (simp [h]; done)
      have a2 : decide (48 ≤ r) = true := by first | (simp; omega) | (simp [h]; done)
      have a3 : decide (r ≤ 57) = false := by first | (simp; omega) | (simp [h]; done)
      have a4 : (r == 183) = false := by first | (simp; omega) | (simp [h]; done)
      have a5 : decide (768 ≤ r) = true := by first | (simp; omega) | (simp [h]; done)
      have a6 : decide (r ≤ 879) = false := by first | (simp; omega) | (simp [h]; done)
      have a7 : (r == 8255) = false := by first | (simp; omega) | (simp [h]; done)
      have a8 : (r == 8256) = false := by first | (simp; omega) | (simp [h]; done)
      clear e h
      go_enter Tryz.func107, Tryz.ntmps107
      go_wp2_with fail
      refine hs.mono ?_
      rintro e w1 ⟨rfl, rfl⟩
      go_wp2
      go_ret
      exact ⟨rfl, rfl⟩
end Go.Proofs.YtfemfgkcgboopaaGreatDoor
/- The document's names: the end. -/
namespace Go.Proofs.YtfemfgkcgboopaaGreatDoor
open Go.ChangeShapes Go.WideShapes Go.ChangeAt Go.RowKit
set_option linter.unusedVariables false
/-- What may stand in a name, or in a plain one. -/
def okName (pl : Bool) (f : Int → Bool) (r : Int) : Bool := if pl then noColon f r else f r
set_option maxRecDepth 100000 in
set_option maxHeartbeats 8000000 in
theorem refEnd_c (pl : Bool) (A : Option Addr) (n cap : Nat) (l : List UInt8) (at_ : Nat) (w : World) (h : Byt w w.heap.size A n cap l) (hm : n ≤ 50000) (hat : at_ ≤ n) :
    Calls Tryz.prog 99 #[.slice A n cap, .int .i64 at_, .bool pl] w fun e w' => e = .returned (.int .i64 ((at_ + endL (okName pl isStart) (okName pl isMore) n (l.drop at_) : Nat))) ∧ Below w.heap.size w w' := by
  have HB0 := Lib.hid h
  have hln := Lib.hid h.length
  have HM := Lib.hid hm
  clear h
  go_enter Tryz.func99, Tryz.ntmps99
  go_wp2
  go_loopg [1, 7] (n - at_) (fun kx s1 s7 wr => ∃ (p K : Nat) (first : Bool), s1 = .int .i64 p ∧ s7 = .bool first ∧ p ≤ n ∧ kx = n - p ∧ n - p ≤ K ∧
    Hid (at_ + endL (okName pl isStart) (okName pl isMore) n (l.drop at_) = p + endL (okName pl (if first then isStart else isMore)) (okName pl isMore) K (l.drop p)) ∧ Hid (Below w.heap.size w wr))
  case atStart => exact ⟨at_, n, true, rfl, rfl, hat, rfl, by omega, Lib.hid rfl, Lib.hid (Below.refl _ _)⟩
  case round =>
    obtain ⟨p, K, first, rfl, rfl, hp, hk, hK, HE, HB⟩ := hrel
    by_cases hlt : p < n
    · have hlt' : (p : Int) < (n : Int) := by omega
      have hd := refDec_c A n cap l p wr w.heap.size (HB0.out.below HB.out) hlt hm
      cases hdec : dec (l.drop p) with
      | none =>
        rw [hdec] at hd
        have HD := Lib.hid hdec
        clear hdec
        cases first with
        | true =>
          go_wp2_with fail
          refine hd.mono ?_
          rintro e w1 ⟨rfl, hb1⟩
          have HB1 := Lib.hid (HB.out.trans (hb1.mono HB.out.size))
          clear hb1
          simp only [pairV]
          go_wp2_with fail
          refine (refMore_c _ _).mono ?_
          rintro e w2 ⟨rfl, rfl⟩
          go_wp2_with fail
          refine (refStart_c _ _).mono ?_
          rintro e w2 ⟨rfl, rfl⟩
          go_wp2
          go_ret
          exact ⟨by rw [HE.out, endL_none _ _ _ _ HD.out]; rfl, HB1.out⟩
        | false =>
          go_wp2_with fail
          refine hd.mono ?_
          rintro e w1 ⟨rfl, hb1⟩
          have HB1 := Lib.hid (HB.out.trans (hb1.mono HB.out.size))
          clear hb1
          simp only [pairV]
          go_wp2_with fail
          refine (refMore_c _ _).mono ?_
          rintro e w2 ⟨rfl, rfl⟩
          go_wp2
          go_ret
          exact ⟨by rw [HE.out, endL_none _ _ _ _ HD.out]; rfl, HB1.out⟩
      | some v =>
        obtain ⟨r, m⟩ := v
        rw [hdec] at hd
        have hle := dec_le _ r m hdec
        rw [List.length_drop, hln.out] at hle
        have HD := Lib.hid hdec
        clear hdec
        have hmz : ((m : Int) == 0) = false := by simp; omega
        cases first with
        | true =>
          have HE2 : Hid (at_ + endL (okName pl isStart) (okName pl isMore) n (l.drop at_) = p + endL (okName pl isStart) (okName pl isMore) K (l.drop p)) := Lib.hid (by simpa using HE.out)
          cases hf : isStart r with
          | false =>
            have HNO : Hid (okName pl isStart r = false) := Lib.hid (by unfold okName noColon; rw [hf]; simp)
            have hcs : ∀ w0 : World, Calls Tryz.prog 108 #[.int .i64 (r : Int)] w0 fun e w' => e = .returned (.bool false) ∧ w0 = w' := fun w0 => by
              have := refStart_c (r : Int) w0
              rwa [hf] at this
            clear hf
            go_wp2_with fail
            refine hd.mono ?_
            rintro e w1 ⟨rfl, hb1⟩
            have HB1 := Lib.hid (HB.out.trans (hb1.mono HB.out.size))
            clear hb1
            simp only [pairV]
            go_wp2_with fail
            refine (refMore_c _ _).mono ?_
            rintro e w2 ⟨rfl, rfl⟩
            go_wp2_with fail
            refine (hcs _).mono ?_
            rintro e w2 ⟨rfl, rfl⟩
            go_wp2
            go_ret
            exact ⟨by rw [HE2.out, endL_no _ _ _ _ _ _ HD.out HNO.out]; rfl, HB1.out⟩
          | true =>
            have hcs : ∀ w0 : World, Calls Tryz.prog 108 #[.int .i64 (r : Int)] w0 fun e w' => e = .returned (.bool true) ∧ w0 = w' := fun w0 => by
              have := refStart_c (r : Int) w0
              rwa [hf] at this
            cases pl with
            | false =>
              have HNO : Hid (okName false isStart r = true) := Lib.hid hf
              clear hf
              go_wp2_with fail
              refine hd.mono ?_
              rintro e w1 ⟨rfl, hb1⟩
              have HB1 := Lib.hid (HB.out.trans (hb1.mono HB.out.size))
              clear hb1
              simp only [pairV]
              go_wp2_with fail
              refine (refMore_c _ _).mono ?_
              rintro e w2 ⟨rfl, rfl⟩
              go_wp2_with fail
              refine (hcs _).mono ?_
              rintro e w2 ⟨rfl, rfl⟩
              go_wp2
              go_roundg (n - (p + m))
              case measure => omega
              case rel =>
                refine ⟨p + m, K - 1, false, rfl, rfl, by omega, rfl, by omega, Lib.hid ?_, HB1⟩
                have := endL_yes (okName false isStart) (okName false isMore) (K - 1) _ r m HD.out HNO.out
                rw [show K - 1 + 1 = K by omega, List.drop_drop] at this
                rw [HE2.out, this]
                show _ = p + m + endL (okName false isMore) (okName false isMore) (K - 1) (l.drop (p + m))
                omega
            | true =>
              by_cases h58 : r = 58
              · subst h58
                have HNO : Hid (okName true isStart (58 : Nat) = false) := Lib.hid (by unfold okName noColon; simp)
                clear hf
                go_wp2_with fail
                refine hd.mono ?_
                rintro e w1 ⟨rfl, hb1⟩
                have HB1 := Lib.hid (HB.out.trans (hb1.mono HB.out.size))
                clear hb1
                simp only [pairV]
                go_wp2_with fail
                refine (refMore_c _ _).mono ?_
                rintro e w2 ⟨rfl, rfl⟩
                go_wp2_with fail
                refine (hcs _).mono ?_
                rintro e w2 ⟨rfl, rfl⟩
                go_wp2
                go_ret
                exact ⟨by rw [HE2.out, endL_no _ _ _ _ _ _ HD.out HNO.out]; rfl, HB1.out⟩
              · have h5 : ((r : Int) == 58) = false := by simp; omega
                have HNO : Hid (okName true isStart r = true) := Lib.hid (by unfold okName noColon; rw [hf]; simp; omega)
                clear hf
                go_wp2_with fail
                refine hd.mono ?_
                rintro e w1 ⟨rfl, hb1⟩
                have HB1 := Lib.hid (HB.out.trans (hb1.mono HB.out.size))
                clear hb1
                simp only [pairV]
                go_wp2_with fail
                refine (refMore_c _ _).mono ?_
                rintro e w2 ⟨rfl, rfl⟩
                go_wp2_with fail
                refine (hcs _).mono ?_
                rintro e w2 ⟨rfl, rfl⟩
                go_wp2
                go_roundg (n - (p + m))
                case measure => omega
                case rel =>
                  refine ⟨p + m, K - 1, false, rfl, rfl, by omega, rfl, by omega, Lib.hid ?_, HB1⟩
                  have := endL_yes (okName true isStart) (okName true isMore) (K - 1) _ r m HD.out HNO.out
                  rw [show K - 1 + 1 = K by omega, List.drop_drop] at this
                  rw [HE2.out, this]
                  show _ = p + m + endL (okName true isMore) (okName true isMore) (K - 1) (l.drop (p + m))
                  omega
        | false =>
          have HE2 : Hid (at_ + endL (okName pl isStart) (okName pl isMore) n (l.drop at_) = p + endL (okName pl isMore) (okName pl isMore) K (l.drop p)) := Lib.hid (by simpa using HE.out)
          cases hf : isMore r with
          | false =>
            have HNO : Hid (okName pl isMore r = false) := Lib.hid (by unfold okName noColon; rw [hf]; simp)
            have hcs : ∀ w0 : World, Calls Tryz.prog 107 #[.int .i64 (r : Int)] w0 fun e w' => e = .returned (.bool false) ∧ w0 = w' := fun w0 => by
              have := refMore_c (r : Int) w0
              rwa [hf] at this
            clear hf
            go_wp2_with fail
            refine hd.mono ?_
            rintro e w1 ⟨rfl, hb1⟩
            have HB1 := Lib.hid (HB.out.trans (hb1.mono HB.out.size))
            clear hb1
            simp only [pairV]
            go_wp2_with fail
            refine (hcs _).mono ?_
            rintro e w2 ⟨rfl, rfl⟩
            go_wp2
            go_ret
            exact ⟨by rw [HE2.out, endL_no _ _ _ _ _ _ HD.out HNO.out]; rfl, HB1.out⟩
          | true =>
            have hcs : ∀ w0 : World, Calls Tryz.prog 107 #[.int .i64 (r : Int)] w0 fun e w' => e = .returned (.bool true) ∧ w0 = w' := fun w0 => by
              have := refMore_c (r : Int) w0
              rwa [hf] at this
            cases pl with
            | false =>
              have HNO : Hid (okName false isMore r = true) := Lib.hid hf
              clear hf
              go_wp2_with fail
              refine hd.mono ?_
              rintro e w1 ⟨rfl, hb1⟩
              have HB1 := Lib.hid (HB.out.trans (hb1.mono HB.out.size))
              clear hb1
              simp only [pairV]
              go_wp2_with fail
              refine (hcs _).mono ?_
              rintro e w2 ⟨rfl, rfl⟩
              go_wp2
              go_roundg (n - (p + m))
              case measure => omega
              case rel =>
                refine ⟨p + m, K - 1, false, rfl, rfl, by omega, rfl, by omega, Lib.hid ?_, HB1⟩
                have := endL_yes (okName false isMore) (okName false isMore) (K - 1) _ r m HD.out HNO.out
                rw [show K - 1 + 1 = K by omega, List.drop_drop] at this
                rw [HE2.out, this]
                show _ = p + m + endL (okName false isMore) (okName false isMore) (K - 1) (l.drop (p + m))
                omega
            | true =>
              by_cases h58 : r = 58
              · subst h58
                have HNO : Hid (okName true isMore (58 : Nat) = false) := Lib.hid (by unfold okName noColon; simp)
                clear hf
                go_wp2_with fail
                refine hd.mono ?_
                rintro e w1 ⟨rfl, hb1⟩
                have HB1 := Lib.hid (HB.out.trans (hb1.mono HB.out.size))
                clear hb1
                simp only [pairV]
                go_wp2_with fail
                refine (hcs _).mono ?_
                rintro e w2 ⟨rfl, rfl⟩
                go_wp2
                go_ret
                exact ⟨by rw [HE2.out, endL_no _ _ _ _ _ _ HD.out HNO.out]; rfl, HB1.out⟩
              · have h5 : ((r : Int) == 58) = false := by simp; omega
                have HNO : Hid (okName true isMore r = true) := Lib.hid (by unfold okName noColon; rw [hf]; simp; omega)
                clear hf
                go_wp2_with fail
                refine hd.mono ?_
                rintro e w1 ⟨rfl, hb1⟩
                have HB1 := Lib.hid (HB.out.trans (hb1.mono HB.out.size))
                clear hb1
                simp only [pairV]
                go_wp2_with fail
                refine (hcs _).mono ?_
                rintro e w2 ⟨rfl, rfl⟩
                go_wp2
                go_roundg (n - (p + m))
                case measure => omega
                case rel =>
                  refine ⟨p + m, K - 1, false, rfl, rfl, by omega, rfl, by omega, Lib.hid ?_, HB1⟩
                  have := endL_yes (okName true isMore) (okName true isMore) (K - 1) _ r m HD.out HNO.out
                  rw [show K - 1 + 1 = K by omega, List.drop_drop] at this
                  rw [HE2.out, this]
                  show _ = p + m + endL (okName true isMore) (okName true isMore) (K - 1) (l.drop (p + m))
                  omega
    · obtain rfl : p = n := by omega
      go_wp2
      go_ret
      refine ⟨?_, HB.out⟩
      rw [HE.out, List.drop_of_length_le (by rw [hln.out]; exact Nat.le_refl _), endL_none _ _ _ _ (by rfl)]
      rfl
end Go.Proofs.YtfemfgkcgboopaaGreatDoor
/- The document's names: read. -/
namespace Go.Proofs.YtfemfgkcgboopaaGreatDoor
open Go.ChangeShapes Go.WideShapes Go.ChangeAt Go.RowKit
set_option linter.unusedVariables false
theorem okTrue (f : Int → Bool) : okName true f = noColon f := by funext r; simp [okName]
set_option maxRecDepth 100000 in
set_option maxHeartbeats 2000000 in
theorem refRead_c (A : Option Addr) (n cap : Nat) (l : List UInt8) (at_ : Nat) (w : World) (h : Byt w w.heap.size A n cap l) (hm : n ≤ 50000) (hat : at_ ≤ n) :
    Calls Tryz.prog 82 #[.slice A n cap, .int .i64 at_, .bool true] w fun e w' => e = .returned (outV (plainOut l at_)) ∧ Below w.heap.size w w' := by
  have hln := h.length
  have hend := refEnd_c true A n cap l at_ w h hm hat
  rw [okTrue, okTrue] at hend
  have hkl : at_ + endL (noColon isStart) (noColon isMore) n (l.drop at_) ≤ n := by
    have := endL_le n (noColon isStart) (noColon isMore) (l.drop at_)
    rw [List.length_drop, hln] at this
    omega
  have HB := Lib.hid h
  have HE : Hid (endL (noColon isStart) (noColon isMore) l.length (l.drop at_) = endL (noColon isStart) (noColon isMore) n (l.drop at_)) := Lib.hid (by rw [hln])
  clear h hln
  unfold plainOut
  simp only [HE.out]
  generalize endL (noColon isStart) (noColon isMore) n (l.drop at_) = k at *
  have hat' : ¬ (n : Int) < (at_ : Int) := by omega
  have HM := Lib.hid (And.intro hm hat)
  have HN := Lib.hid hend
  clear hm hend
  generalize hres : (if k = 0 then ([], 0, 7) else if 1024 < k then ([], 0, 11) else ((l.drop at_).take k, at_ + k, 0)) = res
  have HR := Lib.hid hres
  clear hres
  go_enter Tryz.func82, Tryz.ntmps82
  go_wp2_with fail
  refine HN.out.mono ?_
  rintro e w1 ⟨rfl, hb1⟩
  have HB1 := Lib.hid hb1
  clear hb1
  rcases (show k = 0 ∨ 1024 < k ∨ (0 < k ∧ k ≤ 1024) by omega) with h0 | h0 | h0
  · subst h0
    have hre := HR.out
    simp only [if_true] at hre
    subst hre
    go_wp2
    go_ret3
    exact ⟨rfl, HB1.out⟩
  · have hre := HR.out
    rw [if_neg (by omega), if_pos h0] at hre
    subst hre
    have hne : (((at_ + k : Nat) : Int) == (at_ : Int)) = false := by simp; omega
    have hne2 : ((at_ : Int) + (k : Int) == (at_ : Int)) = false := by simp; omega
    have h0' : (1024 : Int) < (k : Int) := by omega
    have hsb : ((at_ : Int) + (k : Int)) - (at_ : Int) = (k : Int) := by omega
    have hw : IntKind.i64.wrap (k : Int) = (k : Int) := by rw [IntKind.wrap_i64]; have := HM.out; omega
    go_wp2
    go_ret3
    exact ⟨rfl, HB1.out⟩
  · have hre := HR.out
    rw [if_neg (by omega), if_neg (by omega)] at hre
    subst hre
    have hne : (((at_ + k : Nat) : Int) == (at_ : Int)) = false := by simp; omega
    have hne2 : ((at_ : Int) + (k : Int) == (at_ : Int)) = false := by simp; omega
    have h0' : ¬ (1024 : Int) < (k : Int) := by omega
    have hsb : ((at_ : Int) + (k : Int)) - (at_ : Int) = (k : Int) := by omega
    have hw : IntKind.i64.wrap (k : Int) = (k : Int) := by rw [IntKind.wrap_i64]; have := HM.out; omega
    have hy := ((HB.out.below HB1.out).drop hat).take (k := k) (by omega)
    have hstr := hy.str
    have hcap := HB.out.le
    have hrf : ∀ w2 : World, (Instr.slice 65 (.slice A n cap) (some (.int .i64 (at_ : Int))) (some (.int .i64 ((at_ : Int) + (k : Int)))) none).run Tryz.prog w2 = .ok (.slice (cutA A cap at_) k (cap - at_)) w2 := fun w2 => by
      have := run_fromTo (w := w2) A n cap at_ (at_ + k) (by omega) (by omega)
      rw [show at_ + k - at_ = k by omega, show ((at_ + k : Nat) : Int) = (at_ : Int) + (k : Int) by omega] at this
      exact this
    have HY := Lib.hid hy
    clear hy hcap h0
    go_wp2
    go_ret3
    exact ⟨rfl, HB1.out⟩
end Go.Proofs.YtfemfgkcgboopaaGreatDoor
