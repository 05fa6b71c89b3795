/- Texts of ours, joined: Ref6, Name1, Name2, Name3, Cref1, Ref3, Ref4. -/
import Derived.Test.YtmclngahdklfkaaGreatDoorRows
import Derived.WalkKit
import Derived.ProofKit
import Derived.OpenShut
import Derived.ShutString
import Derived.ChangeOld
import Derived.Below
import Derived.BigQuiet
import Derived.Deep.QuietTactic
import Derived.Lib.Hide
import Derived.Deep.RegionHeld3
import Derived.Lib.SlBytesConst
import Derived.Laws.CopyOwn
import Derived.Laws.CopyRow
import Derived.Lib.Bytes
import Derived.Deep.LoopGhost
import Derived.Deep.DeepFit
import Derived.Deep.DeepMust
import Derived.WalkSpells
import Derived.WalkLawsBesides
import Derived.Laws.EntriesVeiled
import Derived.Laws.Rows
import Derived.Test.YtmclngahdklfkaaGreatDoorQ1
import Derived.Test.YtmclngahdklfkaaGreatDoorQ2
import Derived.Test.YtmclngahdklfkaaGreatDoorQ3
import Derived.Test.YtmclngahdklfkaaGreatDoorQ4
/- The document's name characters. -/
namespace Go.Proofs.YtmclngahdklfkaaGreatDoor
open Go.ChangeShapes Go.WideShapes Go.ChangeAt Go.RowKit
set_option linter.unusedVariables false
set_option maxRecDepth 100000 in
set_option maxHeartbeats 4000000 in
theorem refMore_c (r : Int) (w : World) : Calls Tryz.prog 124 #[.int .i64 r] w fun e w' => e = .returned (.bool (isMore r)) ∧ w = w' := by
  have hs := refStart_c r w
  unfold isMore
  cases he : isStart r with
  | true =>
    rw [he] at hs
    have HE := Lib.hid he
    clear he
    go_enter Tryz.func124, Tryz.ntmps124
    go_wp2_with fail
    refine hs.mono ?_
    rintro e w1 ⟨rfl, rfl⟩
    go_wp2
    go_ret
    exact ⟨rfl, rfl⟩
  | false =>
    rw [he] at hs
    have HE := Lib.hid he
    clear he
    show Calls _ _ _ _ fun e w' => e = .returned (.bool (isMoreOnly r)) ∧ w = w'
    rcases (show r ≤ 44 ∨ r = 45 ∨ r = 46 ∨ r = 47 ∨ (48 ≤ r ∧ r ≤ 57) ∨ (58 ≤ r ∧ r ≤ 182) ∨ r = 183 ∨ (184 ≤ r ∧ r ≤ 767) ∨ (768 ≤ r ∧ r ≤ 879) ∨ (880 ≤ r ∧ r ≤ 8254) ∨ r = 8255 ∨ r = 8256 ∨ 8257 ≤ r by omega) with h | h | h | h | h | h | h | h | h | h | h | h | h
    · have e : isMoreOnly r = false := by
        rw [Bool.eq_false_iff, Ne, isMoreOnly_iff]; omega
      rw [e]
      have a0 : (r == 45) = false := by first | (simp; omega) | (simp [h]; done)
      have a1 : (r == 46) = false := by first | (simp; omega) | (simp [h]; done)
      have a2 : decide (48 ≤ r) = false := by first | (simp; omega) | (simp [h]; done)
      have a3 : decide (r ≤ 57) = true := by first | (simp; omega) | (simp [h]; done)
      have a4 : (r == 183) = false := by first | (simp; omega) | (simp [h]; done)
      have a5 : decide (768 ≤ r) = false := by first | (simp; omega) | (simp [h]; done)
      have a6 : decide (r ≤ 879) = true := by first | (simp; omega) | (simp [h]; done)
      have a7 : (r == 8255) = false := by first | (simp; omega) | (simp [h]; done)
      have a8 : (r == 8256) = false := by first | (simp; omega) | (simp [h]; done)
      clear e h
      go_enter Tryz.func124, Tryz.ntmps124
      go_wp2_with fail
      refine hs.mono ?_
      rintro e w1 ⟨rfl, rfl⟩
      go_wp2
      go_ret
      exact ⟨rfl, rfl⟩
    · have e : isMoreOnly r = true := by
        rw [isMoreOnly_iff]; omega
      rw [e]
      have a0 : (r == 45) = true := by first | (simp; omega) | (simp [h]; done)
      have a1 : (r == 46) = false := by first | (simp; omega) | (simp [h]; done)
      have a2 : decide (48 ≤ r) = false := by first | (simp; omega) | (simp [h]; done)
      have a3 : decide (r ≤ 57) = true := by first | (simp; omega) | (simp [h]; done)
      have a4 : (r == 183) = false := by first | (simp; omega) | (simp [h]; done)
      have a5 : decide (768 ≤ r) = false := by first | (simp; omega) | (simp [h]; done)
      have a6 : decide (r ≤ 879) = true := by first | (simp; omega) | (simp [h]; done)
      have a7 : (r == 8255) = false := by first | (simp; omega) | (simp [h]; done)
      have a8 : (r == 8256) = false := by first | (simp; omega) | (simp [h]; done)
      clear e h
      go_enter Tryz.func124, Tryz.ntmps124
      go_wp2_with fail
      refine hs.mono ?_
      rintro e w1 ⟨rfl, rfl⟩
      go_wp2
      go_ret
      exact ⟨rfl, rfl⟩
    · have e : isMoreOnly r = true := by
        rw [isMoreOnly_iff]; omega
      rw [e]
      have a0 : (r == 45) = false := by first | (simp; omega) | (simp [h]; done)
      have a1 : (r == 46) = true := by first | (simp; omega) | (simp [h]; done)
      have a2 : decide (48 ≤ r) = false := by first | (simp; omega) | (simp [h]; done)
      have a3 : decide (r ≤ 57) = true := by first | (simp; omega) | (simp [h]; done)
      have a4 : (r == 183) = false := by first | (simp; omega) | (simp [h]; done)
      have a5 : decide (768 ≤ r) = false := by first | (simp; omega) | (simp [h]; done)
      have a6 : decide (r ≤ 879) = true := by first | (simp; omega) | (simp [h]; done)
      have a7 : (r == 8255) = false := by first | (simp; omega) | (simp [h]; done)
      have a8 : (r == 8256) = false := by first | (simp; omega) | (simp [h]; done)
      clear e h
      go_enter Tryz.func124, Tryz.ntmps124
      go_wp2_with fail
      refine hs.mono ?_
      rintro e w1 ⟨rfl, rfl⟩
      go_wp2
      go_ret
      exact ⟨rfl, rfl⟩
    · have e : isMoreOnly r = false := by
        rw [Bool.eq_false_iff, Ne, isMoreOnly_iff]; omega
      rw [e]
      have a0 : (r == 45) = false := by first | (simp; omega) | (simp [h]; done)
      have a1 : (r == 46) = false := by first | (simp; omega) | (simp [h]; done)
      have a2 : decide (48 ≤ r) = false := by first | (simp; omega) | (simp [h]; done)
      have a3 : decide (r ≤ 57) = true := by first | (simp; omega) | (simp [h]; done)
      have a4 : (r == 183) = false := by first | (simp; omega) | (simp [h]; done)
      have a5 : decide (768 ≤ r) = false := by first | (simp; omega) | (simp [h]; done)
      have a6 : decide (r ≤ 879) = true := by first | (simp; omega) | (simp [h]; done)
      have a7 : (r == 8255) = false := by first | (simp; omega) | (simp [h]; done)
      have a8 : (r == 8256) = false := by first | (simp; omega) | (simp [h]; done)
      clear e h
      go_enter Tryz.func124, Tryz.ntmps124
      go_wp2_with fail
      refine hs.mono ?_
      rintro e w1 ⟨rfl, rfl⟩
      go_wp2
      go_ret
      exact ⟨rfl, rfl⟩
    · have e : isMoreOnly r = true := by
        rw [isMoreOnly_iff]; omega
      rw [e]
      have a0 : (r == 45) = false := by first | (simp; omega) | (simp [h]; done)
      have a1 : (r == 46) = false := by first | (simp; omega) | (simp [h]; done)
      have a2 : decide (48 ≤ r) = true := by first | (simp; omega) | (simp [h]; done)
      have a3 : decide (r ≤ 57) = true := by first | (simp; omega) | (simp [h]; done)
      have a4 : (r == 183) = false := by first | (simp; omega) | (simp [h]; done)
      have a5 : decide (768 ≤ r) = false := by first | (simp; omega) | (simp [h]; done)
      have a6 : decide (r ≤ 879) = true := by first | (simp; omega) | (simp [h]; done)
      have a7 : (r == 8255) = false := by first | (simp; omega) | (simp [h]; done)
      have a8 : (r == 8256) = false := by first | (simp; omega) | (simp [h]; done)
      clear e h
      go_enter Tryz.func124, Tryz.ntmps124
      go_wp2_with fail
      refine hs.mono ?_
      rintro e w1 ⟨rfl, rfl⟩
      go_wp2
      go_ret
      exact ⟨rfl, rfl⟩
    · have e : isMoreOnly r = false := by
        rw [Bool.eq_false_iff, Ne, isMoreOnly_iff]; omega
      rw [e]
      have a0 : (r == 45) = false := by first | (simp; omega) | (simp [h]; done)
      have a1 : (r == 46) = false := by first | (simp; omega) | (simp [h]; done)
      have a2 : decide (48 ≤ r) = true := by first | (simp; omega) | (simp [h]; done)
      have a3 : decide (r ≤ 57) = false := by first | (simp; omega) | (simp [h]; done)
      have a4 : (r == 183) = false := by first | (simp; omega) | (simp [h]; done)
      have a5 : decide (768 ≤ r) = false := by first | (simp; omega) | (simp [h]; done)
      have a6 : decide (r ≤ 879) = true := by first | (simp; omega) | (simp [h]; done)
      have a7 : (r == 8255) = false := by first | (simp; omega) | (simp [h]; done)
      have a8 : (r == 8256) = false := by first | (simp; omega) | (simp [h]; done)
      clear e h
      go_enter Tryz.func124, Tryz.ntmps124
      go_wp2_with fail
      refine hs.mono ?_
      rintro e w1 ⟨rfl, rfl⟩
      go_wp2
      go_ret
      exact ⟨rfl, rfl⟩
    · have e : isMoreOnly r = true := by
        rw [isMoreOnly_iff]; omega
      rw [e]
      have a0 : (r == 45) = false := by first | (simp; omega) | (simp [h]; done)
      have a1 : (r == 46) = false := by first | (simp; omega) | (simp [h]; done)
      have a2 : decide (48 ≤ r) = true := by first | (simp; omega) | (simp [h]; done)
      have a3 : decide (r ≤ 57) = false := by first | (simp; omega) | (simp [h]; done)
      have a4 : (r == 183) = true := by first | (simp; omega) | (simp [h]; done)
      have a5 : decide (768 ≤ r) = false := by first | (simp; omega) | (simp [h]; done)
      have a6 : decide (r ≤ 879) = true := by first | (simp; omega) | (simp [h]; done)
      have a7 : (r == 8255) = false := by first | (simp; omega) | (simp [h]; done)
      have a8 : (r == 8256) = false := by first | (simp; omega) | (simp [h]; done)
      clear e h
      go_enter Tryz.func124, Tryz.ntmps124
      go_wp2_with fail
      refine hs.mono ?_
      rintro e w1 ⟨rfl, rfl⟩
      go_wp2
      go_ret
      exact ⟨rfl, rfl⟩
    · have e : isMoreOnly r = false := by
        rw [Bool.eq_false_iff, Ne, isMoreOnly_iff]; omega
      rw [e]
      have a0 : (r == 45) = false := by first | (simp; omega) | (simp [h]; done)
      have a1 : (r == 46) = false := by first | (simp; omega) | (simp [h]; done)
      have a2 : decide (48 ≤ r) = true := by first | (simp; omega) | (simp [h]; done)
      have a3 : decide (r ≤ 57) = false := by first | (simp; omega) | (simp [h]; done)
      have a4 : (r == 183) = false := by first | (simp; omega) | (simp [h]; done)
      have a5 : decide (768 ≤ r) = false := by first | (simp; omega) | (simp [h]; done)
      have a6 : decide (r ≤ 879) = true := by first | (simp; omega) | (simp [h]; done)
      have a7 : (r == 8255) = false := by first | (simp; omega) | (simp [h]; done)
      have a8 : (r == 8256) = false := by first | (simp; omega) | (simp [h]; done)
      clear e h
      go_enter Tryz.func124, Tryz.ntmps124
      go_wp2_with fail
      refine hs.mono ?_
      rintro e w1 ⟨rfl, rfl⟩
      go_wp2
      go_ret
      exact ⟨rfl, rfl⟩
    · have e : isMoreOnly r = true := by
        rw [isMoreOnly_iff]; omega
      rw [e]
      have a0 : (r == 45) = false := by first | (simp; omega) | (simp [h]; done)
      have a1 : (r == 46) = false := by first | (simp; omega) | (simp [h]; done)
      have a2 : decide (48 ≤ r) = true := by first | (simp; omega) | (simp [h]; done)
      have a3 : decide (r ≤ 57) = false := by first | (simp; omega) | (simp [h]; done)
      have a4 : (r == 183) = false := by first | (simp; omega) | (simp [h]; done)
      have a5 : decide (768 ≤ r) = true := by first | (simp; omega) | (simp [h]; done)
      have a6 : decide (r ≤ 879) = true := by first | (simp; omega) | (simp [h]; done)
      have a7 : (r == 8255) = false := by first | (simp; omega) | (simp [h]; done)
      have a8 : (r == 8256) = false := by first | (simp; omega) | (simp [h]; done)
      clear e h
      go_enter Tryz.func124, Tryz.ntmps124
      go_wp2_with fail
      refine hs.mono ?_
      rintro e w1 ⟨rfl, rfl⟩
      go_wp2
      go_ret
      exact ⟨rfl, rfl⟩
    · have e : isMoreOnly r = false := by
        rw [Bool.eq_false_iff, Ne, isMoreOnly_iff]; omega
      rw [e]
      have a0 : (r == 45) = false := by first | (simp; omega) | (simp [h]; done)
      have a1 : (r == 46) = false := by first | (simp; omega) | (simp [h]; done)
      have a2 : decide (48 ≤ r) = true := by first | (simp; omega) | (simp [h]; done)
      have a3 : decide (r ≤ 57) = false := by first | (simp; omega) | (simp [h]; done)
      have a4 : (r == 183) = false := by first | (simp; omega) | (simp [h]; done)
      have a5 : decide (768 ≤ r) = true := by first | (simp; omega) | (simp [h]; done)
      have a6 : decide (r ≤ 879) = false := by first | (simp; omega) | (simp [h]; done)
      have a7 : (r == 8255) = false := by first | (simp; omega) | (simp [h]; done)
      have a8 : (r == 8256) = false := by first | (simp; omega) | (simp [h]; done)
      clear e h
      go_enter Tryz.func124, Tryz.ntmps124
      go_wp2_with fail
      refine hs.mono ?_
      rintro e w1 ⟨rfl, rfl⟩
      go_wp2
      go_ret
      exact ⟨rfl, rfl⟩
    · have e : isMoreOnly r = true := by
        rw [isMoreOnly_iff]; omega
      rw [e]
      have a0 : (r == 45) = false := by first | (simp; omega) | (simp [h]; done)
      have a1 : (r == 46) = false := by first | (simp; omega) | (simp [h]; done)
      have a2 : decide (48 ≤ r) = true := by first | (simp; omega) | (simp [h]; done)
      have a3 : decide (r ≤ 57) = false := by first | (simp; omega) | (simp [h]; done)
      have a4 : (r == 183) = false := by first | (simp; omega) | (simp [h]; done)
      have a5 : decide (768 ≤ r) = true := by first | (simp; omega) | (simp [h]; done)
      have a6 : decide (r ≤ 879) = false := by first | (simp; omega) | (simp [h]; done)
      have a7 : (r == 8255) = true := by first | (simp; omega) | (simp [h]; done)
      have a8 : (r == 8256) = false := by first | (simp; omega) | (simp [h]; done)
      clear e h
      go_enter Tryz.func124, Tryz.ntmps124
      go_wp2_with fail
      refine hs.mono ?_
      rintro e w1 ⟨rfl, rfl⟩
      go_wp2
      go_ret
      exact ⟨rfl, rfl⟩
    · have e : isMoreOnly r = true := by
        rw [isMoreOnly_iff]; omega
      rw [e]
      have a0 : (r == 45) = false := by first | (simp; omega) | (simp [h]; done)
      have a1 : (r == 46) = false := by first | (simp; omega) | (simp [h]; done)
      have a2 : decide (48 ≤ r) = true := by first | (simp; omega) | (simp [h]; done)
      have a3 : decide (r ≤ 57) = false := by first | (simp; omega) | (simp [h]; done)
      have a4 : (r == 183) = false := by first | (simp; omega) | (simp [h]; done)
      have a5 : decide (768 ≤ r) = true := by first | (simp; omega) | (simp [h]; done)
      have a6 : decide (r ≤ 879) = false := by first | (simp; omega) | (simp [h]; done)
      have a7 : (r == 8255) = false := by first | (simp; omega) | (simp [h]; done)
      have a8 : (r == 8256) = true := by first | (simp; omega) | (simp [h]; done)
      clear e h
      go_enter Tryz.func124, Tryz.ntmps124
      go_wp2_with fail
      refine hs.mono ?_
      rintro e w1 ⟨rfl, rfl⟩
      go_wp2
      go_ret
      exact ⟨rfl, rfl⟩
    · have e : isMoreOnly r = false := by
        rw [Bool.eq_false_iff, Ne, isMoreOnly_iff]; omega
      rw [e]
      have a0 : (r == 45) = false := by first | (simp; omega) | (simp [h]; done)
      have a1 : (r == 46) = false := by first | (simp; omega) | (simp [h]; done)
      have a2 : decide (48 ≤ r) = true := by first | (simp; omega) | (simp [h]; done)
      have a3 : decide (r ≤ 57) = false := by first | (simp; omega) | (simp [h]; done)
      have a4 : (r == 183) = false := by first | (simp; omega) | (simp [h]; done)
      have a5 : decide (768 ≤ r) = true := by first | (simp; omega) | (simp [h]; done)
      have a6 : decide (r ≤ 879) = false := by first | (simp; omega) | (simp [h]; done)
      have a7 : (r == 8255) = false := by first | (simp; omega) | (simp [h]; done)
      have a8 : (r == 8256) = false := by first | (simp; omega) | (simp [h]; done)
      clear e h
      go_enter Tryz.func124, Tryz.ntmps124
      go_wp2_with fail
      refine hs.mono ?_
      rintro e w1 ⟨rfl, rfl⟩
      go_wp2
      go_ret
      exact ⟨rfl, rfl⟩
end Go.Proofs.YtmclngahdklfkaaGreatDoor
/- Names. -/
namespace Go.Proofs.YtmclngahdklfkaaGreatDoor
open Go.ChangeShapes Go.WideShapes Go.ChangeAt Go.RowKit
set_option linter.unusedVariables false
/-- What a function of a number says, whatever has come behind block B since. -/
def Says (fn : Nat) (cb : Array Value) (B : Nat) (w0 : World) (f : Int → Bool) : Prop :=
  ∀ (w1 : World) (r : Int), Below B w0 w1 → Calls Tryz.prog fn (#[.int .i64 r] ++ cb) w1 fun e w' => e = .returned (.bool (f r)) ∧ Below w1.heap.size w1 w'
theorem Says.below {fn : Nat} {cb : Array Value} {B : Nat} {w0 w1 : World} {f : Int → Bool} (h : Says fn cb B w0 f) (hb : Below B w0 w1) : Says fn cb B w1 f := fun w2 r h2 => h w2 r (hb.trans h2)
theorem Says.more {fn : Nat} {cb : Array Value} {B B' : Nat} {w0 : World} {f : Int → Bool} (h : Says fn cb B w0 f) (hB : B ≤ B') : Says fn cb B' w0 f := fun w2 r h2 => h w2 r (h2.mono hB)
/-- But for a colon. -/
def noColon (f : Int → Bool) (r : Int) : Bool := decide (r ≠ 58) && f r
theorem is1_c (fn : Nat) (f : Int → Bool) (a : Nat) (B : Nat) (w0 : World) (hfn : ∀ args w, (callFunc fn args).run Tryz.prog w = .ok (.enter fn args) w) (ha : w0.cell? ⟨a, 0, none⟩ = some (.func (.func fn) #[] #[])) (haB : a < B) (hs : Says fn #[] B w0 f) :
    Says 150 #[.pointer (some ⟨a, 0, none⟩)] B w0 (noColon f) := by
  intro w1 r hb
  have hc : w1.cell? ⟨a, 0, none⟩ = some (.func (.func fn) #[] #[]) := by rw [hb.cell haB]; exact ha
  have hcall := hs w1 r hb
  clear hs ha hb
  unfold noColon
  show Calls Tryz.prog 150 #[.int .i64 r, .pointer (some ⟨a, 0, none⟩)] w1 _
  by_cases h58 : r = 58
  · subst h58
    clear hcall
    go_enter Tryz.func150, Tryz.ntmps150
    go_wp2
    go_ret
    exact ⟨rfl, Below.refl _ _⟩
  · have hne : (r != 58) = true := by simpa using h58
    have hd : decide (r ≠ 58) = true := by simpa using h58
    rw [hd]
    clear hd
    go_enter Tryz.func150, Tryz.ntmps150
    go_wp2_with fail
    refine hcall.mono ?_
    rintro e w2 ⟨rfl, hb2⟩
    go_wp2
    go_ret
    exact ⟨rfl, hb2⟩
theorem isF_c (fn : Nat) (w : World) : Calls Tryz.prog 113 #[.func (.func fn) #[] #[]] w fun e w' => e = .returned (.func (.func 150) #[] #[.pointer (some ⟨w.heap.size, 0, none⟩)]) ∧ w' = w.alloc (.cells #[.func (.func fn) #[] #[]] 88) := by
  go_enter Tryz.func113, Tryz.ntmps113
  go_wp2
  go_ret
  exact ⟨rfl, rfl⟩
/-- The sort of names without a colon, as its two functions. -/
def plainsV (a b : Nat) : Value := .agg #[.func (.func 150) #[] #[.pointer (some ⟨a, 0, none⟩)], .func (.func 150) #[] #[.pointer (some ⟨b, 0, none⟩)]]
def isStructB (P : Program) (t : TypeId) : Bool := match P.underlying t with | some (.struct _) => true | _ => false
theorem isStruct_of {P : Program} {t : TypeId} (h : isStructB P t = true) : ∃ d, P.underlying t = some (.struct d) := by
  unfold isStructB at h
  split at h
  · exact ⟨_, by assumption⟩
  · cases h
theorem plains_c (w : World) (h : TabN w) (hL : LowN w.heap.size) : Calls Tryz.prog 80 #[] w fun e w' => ∃ a b, e = .returned (plainsV a b) ∧ Below w.heap.size w w' ∧
    Says 150 #[.pointer (some ⟨a, 0, none⟩)] w'.heap.size w' (noColon isStart) ∧ Says 150 #[.pointer (some ⟨b, 0, none⟩)] w'.heap.size w' (noColon isMore) := by
  have HH := Lib.hid (And.intro h hL)
  clear h hL
  go_enter Tryz.func80, Tryz.ntmps80
  go_wp2_with fail
  refine (isF_c 114 _).mono ?_
  rintro e w1 ⟨rfl, rfl⟩
  go_wp2_with fail
  refine (isF_c 115 _).mono ?_
  rintro e w2 ⟨rfl, rfl⟩
  have f0 : (((w.alloc (.cells #[.nilFunc, .nilFunc] 108)).alloc (.cells #[.func (.func 114) #[] #[]] 88)).alloc (.cells #[.func (.func 115) #[] #[]] 88)).heap[w.heap.size]? = some (.cells #[.nilFunc, .nilFunc] 108) := hp_old (hp_old (hp_new _ _))
  have f1 : (((w.alloc (.cells #[.nilFunc, .nilFunc] 108)).alloc (.cells #[.func (.func 114) #[] #[]] 88)).alloc (.cells #[.func (.func 115) #[] #[]] 88)).heap[w.heap.size + 1]? = some (.cells #[.func (.func 114) #[] #[]] 88) := by
    have := hp_new (w.alloc (.cells #[.nilFunc, .nilFunc] 108)) (.cells #[.func (.func 114) #[] #[]] 88)
    rw [World.size_alloc] at this
    exact hp_old this
  have f2 : (((w.alloc (.cells #[.nilFunc, .nilFunc] 108)).alloc (.cells #[.func (.func 114) #[] #[]] 88)).alloc (.cells #[.func (.func 115) #[] #[]] 88)).heap[w.heap.size + 1 + 1]? = some (.cells #[.func (.func 115) #[] #[]] 88) := by
    have := hp_new ((w.alloc (.cells #[.nilFunc, .nilFunc] 108)).alloc (.cells #[.func (.func 114) #[] #[]] 88)) (.cells #[.func (.func 115) #[] #[]] 88)
    rw [World.size_alloc, World.size_alloc] at this
    exact this
  have hb : Below w.heap.size w (((w.alloc (.cells #[.nilFunc, .nilFunc] 108)).alloc (.cells #[.func (.func 114) #[] #[]] 88)).alloc (.cells #[.func (.func 115) #[] #[]] 88)) := Below.alloc (Below.alloc (Below.alloc (Below.refl _ _) (Nat.le_refl _) _) (by simp) _) (by simp; omega) _
  have hsz : (((w.alloc (.cells #[.nilFunc, .nilFunc] 108)).alloc (.cells #[.func (.func 114) #[] #[]] 88)).alloc (.cells #[.func (.func 115) #[] #[]] 88)).heap.size = w.heap.size + 3 := by simp
  rw [World.size_alloc, World.size_alloc]
  generalize ((w.alloc (.cells #[.nilFunc, .nilFunc] 108)).alloc (.cells #[.func (.func 114) #[] #[]] 88)).alloc (.cells #[.func (.func 115) #[] #[]] 88) = w3 at *
  have HB := Lib.hid (And.intro hb hsz)
  have F1 := Lib.hid f1
  have F2 := Lib.hid f2
  clear hb hsz f1 f2
  have z0 : w3.cell? ⟨w.heap.size, 0, none⟩ = some .nilFunc := by rw [cell_of 0 f0]; rfl
  have z1 : w3.cell? ⟨w.heap.size, 1, none⟩ = some .nilFunc := by rw [cell_of 1 f0]; rfl
  have y0 : w3.frozen? ⟨w.heap.size, 0, none⟩ = false := free_of 0 f0
  have y1 : w3.frozen? ⟨w.heap.size, 1, none⟩ = false := free_of 1 f0
  go_wp2
  have hF := hp_set (i := 1) (v := .func (.func 150) #[] #[.pointer (some ⟨w.heap.size + 1 + 1, 0, none⟩)]) (hp_set (i := 0) (v := .func (.func 150) #[] #[.pointer (some ⟨w.heap.size + 1, 0, none⟩)]) f0)
  have hi : (Tryz.prog.info? 108).map (·.size) = some 2 := by kernel_rfl
  obtain ⟨d, hu⟩ := isStruct_of (P := Tryz.prog) (t := 108) (by kernel_rfl)
  (try simp only [Exit.inBlock, Exit.then])
  refine bodyPost_ret (results_cell_row rfl _ _ w.heap.size _ _ _ _ rfl hF hu rfl hi) rfl ?_
  have hbb := Below.setCell (p := ⟨w.heap.size, 1, none⟩) (Below.setCell (p := ⟨w.heap.size, 0, none⟩) HB.out.1 (Nat.le_refl _) (.func (.func 150) #[] #[.pointer (some ⟨w.heap.size + 1, 0, none⟩)])) (Nat.le_refl _) (.func (.func 150) #[] #[.pointer (some ⟨w.heap.size + 1 + 1, 0, none⟩)])
  have h1 := F1.out
  have h2 := F2.out
  have hs3 := HB.out.2
  rw [← hp_other (w := w3) (b := w.heap.size) (i := 0) (v := .func (.func 150) #[] #[.pointer (some ⟨w.heap.size + 1, 0, none⟩)]) (by omega), ← hp_other (b := w.heap.size) (i := 1) (v := .func (.func 150) #[] #[.pointer (some ⟨w.heap.size + 1 + 1, 0, none⟩)]) (by omega)] at h1 h2
  have hsz : ((w3.setCell ⟨w.heap.size, 0, none⟩ (.func (.func 150) #[] #[.pointer (some ⟨w.heap.size + 1, 0, none⟩)])).setCell ⟨w.heap.size, 1, none⟩ (.func (.func 150) #[] #[.pointer (some ⟨w.heap.size + 1 + 1, 0, none⟩)])).heap.size = w.heap.size + 3 := by simp [hs3]
  generalize ((w3.setCell ⟨w.heap.size, 0, none⟩ (.func (.func 150) #[] #[.pointer (some ⟨w.heap.size + 1, 0, none⟩)])).setCell ⟨w.heap.size, 1, none⟩ (.func (.func 150) #[] #[.pointer (some ⟨w.heap.size + 1 + 1, 0, none⟩)])) = w4 at *
  have hT := HH.out.1.below hbb HH.out.2
  have hL : LowN w4.heap.size := by have := HH.out.2; unfold LowN at *; omega
  refine ⟨w.heap.size + 1, w.heap.size + 1 + 1, rfl, hbb, ?_, ?_⟩
  · exact is1_c 114 isStart _ _ w4 (enters_of Tryz.func114 (by kernel_rfl) rfl) (by rw [cell_of _ h1]; rfl) (by omega) fun w5 r hb => nameStart_c r w5 (hT.below hb hL)
  · exact is1_c 115 isMore _ _ w4 (enters_of Tryz.func115 (by kernel_rfl) rfl) (by rw [cell_of _ h2]; rfl) (by omega) fun w5 r hb => nameChar_c r w5 (hT.below hb hL) (by have := hb.size; unfold LowN at *; omega)
end Go.Proofs.YtmclngahdklfkaaGreatDoor
/- Names: the end. -/
namespace Go.Proofs.YtmclngahdklfkaaGreatDoor
open Go.ChangeShapes Go.WideShapes Go.ChangeAt Go.RowKit
set_option linter.unusedVariables false
/-- How many bytes a name has: f: what may begin it; g: what may follow. -/
def endL (f g : Int → Bool) : Nat → List UInt8 → Nat
  | 0, _ => 0
  | k + 1, l => match dec l with
    | some (r, n) => if f r then n + endL g g k (l.drop n) else 0
    | none => 0
theorem endL_le (k : Nat) : ∀ (f g : Int → Bool) (l : List UInt8), endL f g k l ≤ l.length := by
  induction k with
  | zero => intro f g l; exact Nat.zero_le _
  | succ k ih =>
    intro f g l
    simp only [endL]
    split
    · rename_i r n h
      have := dec_le l r n h
      split
      · have := ih g g (l.drop n)
        rw [List.length_drop] at this
        omega
      · omega
    · omega
theorem endL_none (f g : Int → Bool) (k : Nat) (l : List UInt8) (h : dec l = none) : endL f g k l = 0 := by
  cases k with
  | zero => rfl
  | succ k => simp [endL, h]
theorem endL_no (f g : Int → Bool) (k : Nat) (l : List UInt8) (r n : Nat) (h : dec l = some (r, n)) (hf : f r = false) : endL f g k l = 0 := by
  cases k with
  | zero => rfl
  | succ k => simp [endL, h, hf]
theorem endL_yes (f g : Int → Bool) (k : Nat) (l : List UInt8) (r n : Nat) (h : dec l = some (r, n)) (hf : f r = true) : endL f g (k + 1) l = n + endL g g k (l.drop n) := by
  simp [endL, h, hf]
set_option maxHeartbeats 2000000 in
theorem end_c (f g : Int → Bool) (a b : Nat) (A : Option Addr) (n cap : Nat) (l : List UInt8) (at_ : Nat) (w : World) (h : Byt w w.heap.size A n cap l) (hF : Forms w) (hm : n ≤ 100000) (hat : at_ ≤ n)
    (hf : Says 150 #[.pointer (some ⟨a, 0, none⟩)] w.heap.size w f) (hg : Says 150 #[.pointer (some ⟨b, 0, none⟩)] w.heap.size w g) :
    Calls Tryz.prog 116 #[plainsV a b, .slice A n cap, .int .i64 at_] w fun e w' => e = .returned (.int .i64 ((at_ + endL f g n (l.drop at_) : Nat))) ∧ Below w.heap.size w w' := by
  have HB0 := Lib.hid (And.intro h (And.intro hF hF.lt))
  have HS := Lib.hid (And.intro hf hg)
  have hln := Lib.hid h.length
  clear h hF hf hg
  unfold plainsV
  go_enter Tryz.func116, Tryz.ntmps116
  have f0 := hp_new w (.cells #[.func (.func 150) #[] #[.pointer (some ⟨a, 0, none⟩)], .func (.func 150) #[] #[.pointer (some ⟨b, 0, none⟩)]] 108)
  have z0 := cell_of 0 f0
  have z1 := cell_of 1 f0
  have hb0 : Hid (Below w.heap.size w (w.alloc (.cells #[.func (.func 150) #[] #[.pointer (some ⟨a, 0, none⟩)], .func (.func 150) #[] #[.pointer (some ⟨b, 0, none⟩)]] 108))) := Lib.hid (Below.alloc (Below.refl _ _) (Nat.le_refl _) _)
  have hsz : (w.alloc (.cells #[.func (.func 150) #[] #[.pointer (some ⟨a, 0, none⟩)], .func (.func 150) #[] #[.pointer (some ⟨b, 0, none⟩)]] 108)).heap.size = w.heap.size + 1 := by simp
  have z1' : Hid ((w.alloc (.cells #[.func (.func 150) #[] #[.pointer (some ⟨a, 0, none⟩)], .func (.func 150) #[] #[.pointer (some ⟨b, 0, none⟩)]] 108)).cell? ⟨w.heap.size, 1, none⟩ = some (.func (.func 150) #[] #[.pointer (some ⟨b, 0, none⟩)])) := Lib.hid z1
  clear f0 z1
  go_wp2
  generalize hw0 : w.alloc (.cells #[.func (.func 150) #[] #[.pointer (some ⟨a, 0, none⟩)], .func (.func 150) #[] #[.pointer (some ⟨b, 0, none⟩)]] 108) = w0 at *
  clear hw0 z0
  go_loopg [2, 7] (n - at_) (fun kx s2 s7 wr => ∃ (p K c : Nat) (fc : Int → Bool), s2 = .int .i64 p ∧ s7 = .func (.func 150) #[] #[.pointer (some ⟨c, 0, none⟩)] ∧ p ≤ n ∧ kx = n - p ∧ n - p ≤ K ∧
    Hid (at_ + endL f g n (l.drop at_) = p + endL fc g K (l.drop p)) ∧ Hid (Says 150 #[.pointer (some ⟨c, 0, none⟩)] w.heap.size w fc) ∧ Hid (Below w.heap.size w wr) ∧ w.heap.size < wr.heap.size ∧
    Hid (wr.cell? ⟨w.heap.size, 1, none⟩ = some (.func (.func 150) #[] #[.pointer (some ⟨b, 0, none⟩)])))
  case atStart => exact ⟨at_, n, a, f, rfl, rfl, hat, rfl, by omega, Lib.hid rfl, Lib.hid HS.out.1, hb0, by omega, z1'⟩
  case round =>
    obtain ⟨p, K, c, fc, rfl, rfl, hp, hk, hK, HE, HC, HB, hsr, HZ⟩ := hrel
    by_cases hlt : p < n
    · have hlt' : (p : Int) < (n : Int) := by omega
      have hd := decode_c A n cap l p wr w.heap.size (HB0.out.1.below HB.out) (HB0.out.2.1.below HB.out HB0.out.2.2) hlt (by omega)
      cases hdec : dec (l.drop p) with
      | none =>
        rw [hdec] at hd
        have HD := Lib.hid hdec
        clear hdec
        go_wp2_with fail
        refine hd.mono ?_
        rintro e w1 ⟨rfl, q, rfl⟩
        simp only [decOut]
        go_wp2
        go_ret
        exact ⟨by rw [HE.out, endL_none _ _ _ _ HD.out]; rfl, below_drewN' HB.out⟩
      | some v =>
        obtain ⟨r, m⟩ := v
        rw [hdec] at hd
        have HD := Lib.hid hdec
        have hle := dec_le _ r m hdec
        rw [List.length_drop, hln.out] at hle
        have hcall := HC.out (wr.drewN 0) r (below_drewN' HB.out)
        clear hdec
        have HX := Lib.hid HC.out
        clear hcall
        cases hfr : fc r with
        | false =>
          go_wp2_with fail
          refine hd.mono ?_
          rintro e w1 ⟨rfl, q, rfl⟩
          simp only [decOut]
          have hcall := HC.out (wr.drewN q) r (below_drewN' HB.out)
          rw [hfr] at hcall
          have HR := Lib.hid hfr
          clear hfr
          go_wp2_with fail
          refine hcall.mono ?_
          rintro e w2 ⟨rfl, hb2⟩
          go_wp2
          go_ret
          exact ⟨by rw [HE.out, endL_no _ _ _ _ _ _ HD.out HR.out]; rfl, (below_drewN' HB.out).trans (hb2.mono (by show w.heap.size ≤ wr.heap.size; omega))⟩
        | true =>
          go_wp2_with fail
          refine hd.mono ?_
          rintro e w1 ⟨rfl, q, rfl⟩
          simp only [decOut]
          have hcall := HC.out (wr.drewN q) r (below_drewN' HB.out)
          rw [hfr] at hcall
          have HR := Lib.hid hfr
          clear hfr
          go_wp2_with fail
          refine hcall.mono ?_
          rintro e w2 ⟨rfl, hb2⟩
          have hz2 : w2.cell? ⟨w.heap.size, 1, none⟩ = some (.func (.func 150) #[] #[.pointer (some ⟨b, 0, none⟩)]) := by rw [hb2.cell (by show w.heap.size < wr.heap.size; omega)]; exact HZ.out
          have HB2 := Lib.hid ((below_drewN' (n := q) HB.out).trans (hb2.mono (by show w.heap.size ≤ wr.heap.size; omega)))
          have hs2 : w.heap.size < w2.heap.size := by have := hb2.size; have : wr.heap.size ≤ w2.heap.size := this; omega
          clear hb2
          go_wp2
          go_quiet (fail)
          have hz3 : Hid ((w2.drewN nq).cell? ⟨w.heap.size, 1, none⟩ = some (.func (.func 150) #[] #[.pointer (some ⟨b, 0, none⟩)])) := Lib.hid hz2
          go_wp2
          go_roundg (n - (p + m))
          case measure => omega
          case rel =>
            refine ⟨p + m, K - 1, b, g, rfl, rfl, by omega, rfl, by omega, Lib.hid ?_, Lib.hid HS.out.2, Lib.hid (below_drewN' HB2.out), hs2, hz3⟩
            have := endL_yes fc g (K - 1) _ r m HD.out HR.out
            rw [show K - 1 + 1 = K by omega, List.drop_drop] at this
            rw [HE.out, this]
            omega
    · obtain rfl : p = n := by omega
      go_wp2
      go_ret
      refine ⟨?_, HB.out⟩
      rw [HE.out, List.drop_of_length_le (by rw [hln.out]; exact Nat.le_refl _), endL_none _ _ _ _ (by rfl)]
      rfl
end Go.Proofs.YtmclngahdklfkaaGreatDoor
/- Names: read. -/
namespace Go.Proofs.YtmclngahdklfkaaGreatDoor
open Go.ChangeShapes Go.WideShapes Go.ChangeAt Go.RowKit
set_option linter.unusedVariables false
/-- What is read of a plain name at a place: the name, the place behind it, the fault. -/
def plainOut (l : List UInt8) (at_ : Nat) : List UInt8 × Nat × Nat :=
  let k := endL (noColon isStart) (noColon isMore) l.length (l.drop at_)
  if k = 0 then ([], 0, 7) else if 1024 < k then ([], 0, 11) else ((l.drop at_).take k, at_ + k, 0)
def outV (o : List UInt8 × Nat × Nat) : Value := .tuple #[.string ⟨o.1.toArray⟩, .int .i64 (o.2.1 : Int), .int .i64 (o.2.2 : Int)]
set_option maxRecDepth 100000 in
set_option maxHeartbeats 2000000 in
theorem readN_c (a b : Nat) (A : Option Addr) (n cap : Nat) (l : List UInt8) (at_ : Nat) (w : World) (h : Byt w w.heap.size A n cap l) (hF : Forms w) (hm : n ≤ 100000) (hat : at_ ≤ n)
    (hf : Says 150 #[.pointer (some ⟨a, 0, none⟩)] w.heap.size w (noColon isStart)) (hg : Says 150 #[.pointer (some ⟨b, 0, none⟩)] w.heap.size w (noColon isMore)) :
    Calls Tryz.prog 127 #[plainsV a b, .slice A n cap, .int .i64 at_] w fun e w' => e = .returned (outV (plainOut l at_)) ∧ Below w.heap.size w w' := by
  have hb : Below w.heap.size w (w.alloc (.cells #[.func (.func 150) #[] #[.pointer (some ⟨a, 0, none⟩)], .func (.func 150) #[] #[.pointer (some ⟨b, 0, none⟩)]] 108)) := Below.alloc (Below.refl w.heap.size w) (Nat.le_refl _) _
  have hln := h.length
  have hend := end_c (noColon isStart) (noColon isMore) a b A n cap l at_ _ ((h.below hb).more hb.size) (hF.below hb hF.lt) hm hat ((hf.below hb).more hb.size) ((hg.below hb).more hb.size)
  have hkl : at_ + endL (noColon isStart) (noColon isMore) n (l.drop at_) ≤ n := by
    have := endL_le n (noColon isStart) (noColon isMore) (l.drop at_)
    rw [List.length_drop, hln] at this
    omega
  have HB := Lib.hid (And.intro h hb)
  have f0 := hp_new w (.cells #[.func (.func 150) #[] #[.pointer (some ⟨a, 0, none⟩)], .func (.func 150) #[] #[.pointer (some ⟨b, 0, none⟩)]] 108)
  have hi : (Tryz.prog.info? 108).map (·.size) = some 2 := by kernel_rfl
  obtain ⟨d, hu⟩ := isStruct_of (P := Tryz.prog) (t := 108) (by kernel_rfl)
  have hld := run_loadVar_row _ _ _ _ _ _ _ f0 hu rfl hi
  have HE : Hid (endL (noColon isStart) (noColon isMore) l.length (l.drop at_) = endL (noColon isStart) (noColon isMore) n (l.drop at_)) := Lib.hid (by rw [hln])
  clear h hF hf hg hb f0 hu hi hln
  unfold plainsV at *
  unfold plainOut
  simp only [HE.out]
  generalize endL (noColon isStart) (noColon isMore) n (l.drop at_) = k at *
  have hat' : ¬ (n : Int) < (at_ : Int) := by omega
  have HM := Lib.hid (And.intro hm hat)
  have HN := Lib.hid hend
  clear hm hend
  generalize hres : (if k = 0 then ([], 0, 7) else if 1024 < k then ([], 0, 11) else ((l.drop at_).take k, at_ + k, 0)) = res
  have HR := Lib.hid hres
  clear hres
  go_enter Tryz.func127, Tryz.ntmps127
  go_wp2_with fail
  refine HN.out.mono ?_
  rintro e w1 ⟨rfl, hb1⟩
  have HB1 := Lib.hid ((HB.out.2).trans (hb1.mono HB.out.2.size))
  clear hb1 hld
  rcases (show k = 0 ∨ 1024 < k ∨ (0 < k ∧ k ≤ 1024) by omega) with h0 | h0 | h0
  · subst h0
    have hre := HR.out
    simp only [if_true] at hre
    subst hre
    have hn := Int.natCast_nonneg at_
    go_wp2
    go_ret3
    exact ⟨rfl, HB1.out⟩
  · have hre := HR.out
    rw [if_neg (by omega), if_pos h0] at hre
    subst hre
    have hne : (((at_ + k : Nat) : Int) == (at_ : Int)) = false := by simp; omega
    have hne2 : ((at_ : Int) + (k : Int) == (at_ : Int)) = false := by simp; omega
    have h0' : (1024 : Int) < (k : Int) := by omega
    have hsb : ((at_ : Int) + (k : Int)) - (at_ : Int) = (k : Int) := by omega
    have hw : IntKind.i64.wrap (k : Int) = (k : Int) := by rw [IntKind.wrap_i64]; have := HM.out; omega
    go_wp2
    go_ret3
    exact ⟨rfl, HB1.out⟩
  · have hre := HR.out
    rw [if_neg (by omega), if_neg (by omega)] at hre
    subst hre
    have hne : (((at_ + k : Nat) : Int) == (at_ : Int)) = false := by simp; omega
    have hne2 : ((at_ : Int) + (k : Int) == (at_ : Int)) = false := by simp; omega
    have h0' : ¬ (1024 : Int) < (k : Int) := by omega
    have hsb : ((at_ : Int) + (k : Int)) - (at_ : Int) = (k : Int) := by omega
    have hw : IntKind.i64.wrap (k : Int) = (k : Int) := by rw [IntKind.wrap_i64]; have := HM.out; omega
    have hy := ((HB.out.1.below HB1.out).drop hat).take (k := k) (by omega)
    have hstr := hy.str
    have hcap := HB.out.1.le
    have hrf : ∀ w2 : World, (Instr.slice 22 (.slice A n cap) (some (.int .i64 (at_ : Int))) (some (.int .i64 ((at_ : Int) + (k : Int)))) none).run Tryz.prog w2 = .ok (.slice (cutA A cap at_) k (cap - at_)) w2 := fun w2 => by
      have := run_fromTo (w := w2) A n cap at_ (at_ + k) (by omega) (by omega)
      rw [show at_ + k - at_ = k by omega, show ((at_ + k : Nat) : Int) = (at_ : Int) + (k : Int) by omega] at this
      exact this
    have HY := Lib.hid hy
    clear hy hcap h0
    go_wp2
    go_ret3
    exact ⟨rfl, HB1.out⟩
set_option maxHeartbeats 2000000 in
theorem plain_c (A : Option Addr) (n cap : Nat) (l : List UInt8) (at_ : Nat) (w : World) (h : Byt w w.heap.size A n cap l) (hF : Forms w) (hT : TabN w) (hm : n ≤ 100000) (hat : at_ ≤ n) :
    Calls Tryz.prog 95 #[.slice A n cap, .int .i64 at_] w fun e w' => e = .returned (outV (plainOut l at_)) ∧ Below w.heap.size w w' := by
  have hp := plains_c w hT (hT.low hF)
  have HH := Lib.hid (And.intro h (And.intro hF (And.intro hm hat)))
  clear h hF hT hm hat
  go_enter Tryz.func95, Tryz.ntmps95
  go_wp2_with fail
  refine hp.mono ?_
  rintro e w1 ⟨a, b, rfl, hb, hf, hg⟩
  have hr := readN_c a b A n cap l at_ w1 ((HH.out.1.below hb).more hb.size) (HH.out.2.1.below hb HH.out.2.1.lt) HH.out.2.2.1 HH.out.2.2.2 hf hg
  have HB := Lib.hid hb
  clear hf hg hb hp
  unfold outV at *
  go_wp2_with fail
  refine hr.mono ?_
  rintro e w2 ⟨rfl, hb2⟩
  have HB2 := Lib.hid (HB.out.trans (hb2.mono HB.out.size))
  clear hr hb2
  go_wp2
  go_ret3
  exact ⟨rfl, HB2.out⟩
end Go.Proofs.YtmclngahdklfkaaGreatDoor
/- References: by a mark. -/
namespace Go.Proofs.YtmclngahdklfkaaGreatDoor
open Go.ChangeShapes Go.WideShapes Go.ChangeAt Go.RowKit
set_option linter.unusedVariables false
/-- What is read of a reference by its mark: the name, the place behind it, the fault. -/
def refOut (mark : UInt8) (l : List UInt8) (at_ : Nat) : List UInt8 × Nat × Nat :=
  match l[at_]? with
  | none => ([], 0, 7)
  | some c => if c = mark then
      (if (plainOut l (at_ + 1)).2.2 ≠ 0 then ([], 0, (plainOut l (at_ + 1)).2.2)
       else match l[(plainOut l (at_ + 1)).2.1]? with
        | some d => if d = 59 then ((plainOut l (at_ + 1)).1, (plainOut l (at_ + 1)).2.1 + 1, 0) else ([], 0, 7)
        | none => ([], 0, 7))
    else ([], 0, 7)
theorem plainOut_le (l : List UInt8) (k : Nat) (hk : k ≤ l.length) (h : (plainOut l k).2.2 = 0) : k ≤ (plainOut l k).2.1 ∧ (plainOut l k).2.1 ≤ l.length := by
  have := endL_le l.length (noColon isStart) (noColon isMore) (l.drop k)
  rw [List.length_drop] at this
  unfold plainOut at *
  simp only at *
  split at h
  · simp at h
  · rename_i h0
    split at h
    · simp at h
    · rename_i h1
      rw [if_neg h0, if_neg h1]
      simp only
      omega
set_option maxRecDepth 100000 in
set_option maxHeartbeats 2000000 in
theorem crefRead_range (A : Option Addr) (n cap : Nat) (at_ : Int) (mark : Int) (w : World) (ha : at_ < 0 ∨ (n : Int) < at_) :
    Calls Tryz.prog 101 #[.slice A n cap, .int .i64 at_, .int .u8 mark] w fun e w' => e = .returned (outV ([], 0, 3)) ∧ Below w.heap.size w w' := by
  by_cases h0 : at_ < 0
  · have hd : decide (at_ < 0) = true := by simpa using h0
    clear ha
    go_enter Tryz.func101, Tryz.ntmps101
    go_wp2
    go_ret3
    exact ⟨rfl, Below.refl _ _⟩
  · have h1 : (n : Int) < at_ := by omega
    clear ha
    go_enter Tryz.func101, Tryz.ntmps101
    go_wp2
    go_ret3
    exact ⟨rfl, Below.refl _ _⟩
set_option maxRecDepth 100000 in
set_option maxHeartbeats 2000000 in
theorem crefRead_c (A : Option Addr) (n cap : Nat) (l : List UInt8) (at_ : Nat) (mark : UInt8) (w : World) (h : Byt w w.heap.size A n cap l) (hF : Forms w) (hT : Tabs w) (hm : n ≤ 50000) (hat : at_ ≤ n) :
    Calls Tryz.prog 101 #[.slice A n cap, .int .i64 at_, .int .u8 mark.toNat] w fun e w' => e = .returned (outV (refOut mark l at_)) ∧ Below w.heap.size w w' := by
  have hln := h.length
  have hat' : ¬ (n : Int) < (at_ : Int) := by omega
  have hap : IntKind.i64.wrap ((at_ : Int) + 1) = (at_ : Int) + 1 := by rw [IntKind.wrap_i64]; omega
  by_cases he : at_ = n
  · subst he
    have hr : refOut mark l at_ = ([], 0, 7) := by unfold refOut; rw [List.getElem?_eq_none (by omega)]
    rw [hr]
    clear h hF hT hm hr hat hat'
    go_enter Tryz.func101, Tryz.ntmps101
    go_wp2
    go_ret3
    exact ⟨rfl, Below.refl _ _⟩
  · have hlt : at_ < n := by omega
    obtain ⟨b, o, c, rfl, hb, hc, hcell⟩ := h.cell hlt
    have hne : ((at_ : Int) == (n : Int)) = false := by simp; omega
    have hli : (at_ : Int) < (n : Int) := by omega
    by_cases hcm : c = mark
    · subst hcm
      have hp := plain_c (some ⟨b, o, none⟩) n cap l (at_ + 1) w h hF hT.n (by omega) (by omega)
      rw [show ((at_ + 1 : Nat) : Int) = (at_ : Int) + 1 by omega] at hp
      have hle := plainOut_le l (at_ + 1) (by omega)
      have HR : Hid (refOut c l at_ = if (plainOut l (at_ + 1)).2.2 ≠ 0 then ([], 0, (plainOut l (at_ + 1)).2.2)
       else match l[(plainOut l (at_ + 1)).2.1]? with
        | some d => if d = 59 then ((plainOut l (at_ + 1)).1, (plainOut l (at_ + 1)).2.1 + 1, 0) else ([], 0, 7)
        | none => ([], 0, 7)) := Lib.hid (by unfold refOut; rw [hc]; simp)
      have HH := Lib.hid (And.intro h (And.intro hm hln))
      clear hF hT hm hat hat' he hc hb
      generalize plainOut l (at_ + 1) = res at *
      obtain ⟨s, k, f⟩ := res
      simp only at hle HR
      have HP := Lib.hid hp
      have hp' := hp
      unfold outV at hp' ⊢
      simp only at hp'
      clear hp
      have hcm : ((c.toNat : Int) != (c.toNat : Int)) = false := by simp
      by_cases hf : f = 0
      · subst hf
        have hle := hle rfl
        by_cases hk : k = n
        · subst hk
          have hre : refOut c l at_ = ([], 0, 7) := by rw [HR.out, if_neg (by simp), List.getElem?_eq_none (by rw [HH.out.2.2]; exact Nat.le_refl _)]
          rw [hre]
          clear hre h
          go_enter Tryz.func101, Tryz.ntmps101
          go_wp2_with fail
          refine hp'.mono ?_
          rintro e w1 ⟨rfl, hb1⟩
          have HB := Lib.hid hb1
          clear hb1 hcell hp'
          go_wp2
          go_ret3
          exact ⟨rfl, HB.out⟩
        · obtain ⟨b', o', d, e, hb', hd, hcd⟩ := h.cell (i := k) (by omega)
          cases e
          have hkn : (k : Int) < (n : Int) := by omega
          have hkne : ((k : Int) == (n : Int)) = false := by simp; omega
          have hre : refOut c l at_ = if d = 59 then (s, k + 1, 0) else ([], 0, 7) := by rw [HR.out, if_neg (by simp), hd]
          have hkp : IntKind.i64.wrap ((k : Int) + 1) = (k : Int) + 1 := by rw [IntKind.wrap_i64]; have := HH.out; omega
          by_cases hd59 : d = 59
          · subst hd59
            rw [hre, if_pos rfl]
            have hcd' : ∀ w1, Below w.heap.size w w1 → w1.cell? ⟨b, o + k, none⟩ = some (.int .u8 59) := fun w1 hb1 => by rw [hb1.cell hb']; exact hcd
            have HCD := Lib.hid hcd'
            clear hre h hcd hcd' hd
            go_enter Tryz.func101, Tryz.ntmps101
            go_wp2_with fail
            refine hp'.mono ?_
            rintro e w1 ⟨rfl, hb1⟩
            have hcz := HCD.out w1 hb1
            have HB := Lib.hid hb1
            clear hb1 hcell hp'
            go_wp2
            go_ret3
            exact ⟨rfl, HB.out⟩
          · rw [hre, if_neg hd59]
            have hcd' : ∀ w1, Below w.heap.size w w1 → w1.cell? ⟨b, o + k, none⟩ = some (.int .u8 d.toNat) := fun w1 hb1 => by rw [hb1.cell hb']; exact hcd
            have HCD := Lib.hid hcd'
            have hdn : ((d.toNat : Int) != 59) = true := by
              have := toNat_eq d 59
              simp only [show ((59 : UInt8).toNat : Int) = 59 from rfl] at this
              simp [bne, this, hd59]
            generalize d.toNat = dn at *
            clear hre h hcd hcd' hd
            go_enter Tryz.func101, Tryz.ntmps101
            go_wp2_with fail
            refine hp'.mono ?_
            rintro e w1 ⟨rfl, hb1⟩
            have hcz := HCD.out w1 hb1
            have HB := Lib.hid hb1
            clear hb1 hcell hp'
            go_wp2
            go_ret3
            exact ⟨rfl, HB.out⟩
      · have hre : refOut c l at_ = ([], 0, f) := by rw [HR.out, if_pos hf]
        rw [hre]
        have hfz : ((f : Int) != 0) = true := by simp; omega
        have hfz2 : ((f : Int) == 0) = false := by simp; omega
        clear hre h hle
        go_enter Tryz.func101, Tryz.ntmps101
        go_wp2_with fail
        refine hp'.mono ?_
        rintro e w1 ⟨rfl, hb1⟩
        have HB := Lib.hid hb1
        clear hb1 hcell hp'
        go_wp2
        go_ret3
        exact ⟨rfl, HB.out⟩
    · have hr : refOut mark l at_ = ([], 0, 7) := by unfold refOut; rw [hc]; simp [hcm]
      rw [hr]
      have hcm' : ((c.toNat : Int) != (mark.toNat : Int)) = true := by rw [bne, toNat_eq]; simp [hcm]
      generalize c.toNat = cn at *
      generalize mark.toNat = mn at *
      clear h hF hT hm hr hat hat'
      go_enter Tryz.func101, Tryz.ntmps101
      go_wp2
      go_ret3
      exact ⟨rfl, Below.refl _ _⟩
end Go.Proofs.YtmclngahdklfkaaGreatDoor
/- The document's character at a place: its parts. -/
namespace Go.Proofs.YtmclngahdklfkaaGreatDoor
open Go.ChangeShapes Go.WideShapes Go.ChangeAt Go.RowKit
set_option linter.unusedVariables false
/-- What a byte behind a first one says; below 0: it is none. -/
def restOf (l : List UInt8) (k : Nat) : Int := match l[k]? with
  | some c => if 128 ≤ c.toNat ∧ c.toNat < 192 then (c.toNat : Int) - 128 else -1
  | none => -1
set_option maxRecDepth 100000 in
theorem rest_c (A : Option Addr) (n cap : Nat) (l : List UInt8) (k : Nat) (w : World) (B : Nat) (h : Byt w B A n cap l) :
    Calls Tryz.prog 157 #[.slice A n cap, .int .i64 k] w fun e w' => e = .returned (.int .i64 (restOf l k)) ∧ w = w' := by
  by_cases hk : k < n
  · obtain ⟨b, o, c, rfl, hb, hc, hcell⟩ := h.cell hk
    have hkn : (k : Int) < (n : Int) := by omega
    have hkd : decide ((n : Int) ≤ (k : Int)) = false := by simp; omega
    have hcl := c.toNat_lt
    unfold restOf
    rw [hc]
    simp only
    clear hc h hk
    generalize c.toNat = x at *
    rcases (show x < 128 ∨ (128 ≤ x ∧ x < 192) ∨ 191 < x by omega) with h1 | h1 | h1
    · rw [if_neg (by omega)]
      have a1 : decide ((x : Int) < 128) = true := by simp; omega
      go_enter Tryz.func157, Tryz.ntmps157
      go_wp2
      go_ret
      exact ⟨rfl, rfl⟩
    · rw [if_pos h1]
      have a1 : decide ((x : Int) < 128) = false := by simp; omega
      have a2 : decide (191 < (x : Int)) = false := by simp; omega
      go_enter Tryz.func157, Tryz.ntmps157
      go_wp2
      go_ret
      exact ⟨rfl, rfl⟩
    · rw [if_neg (by omega)]
      have a1 : decide ((x : Int) < 128) = false := by simp; omega
      have a2 : decide (191 < (x : Int)) = true := by simp; omega
      go_enter Tryz.func157, Tryz.ntmps157
      go_wp2
      go_ret
      exact ⟨rfl, rfl⟩
  · have hr : restOf l k = -1 := by unfold restOf; rw [List.getElem?_eq_none (by rw [h.length]; omega)]
    have hkd : decide ((n : Int) ≤ (k : Int)) = true := by simp; omega
    have hkd2 : decide (n ≤ k) = true := by simp; omega
    have hkd3 : n ≤ k := by omega
    rw [hr]
    clear h hk hr
    go_enter Tryz.func157, Tryz.ntmps157
    go_wp2
    go_ret
    exact ⟨rfl, rfl⟩
theorem isR_iff (r : Int) : isR r = true ↔ ((0 ≤ r ∧ r ≤ 55295) ∨ (57344 ≤ r ∧ r ≤ 1114111)) := by
  simp [isR]; omega
set_option maxRecDepth 100000 in
set_option maxHeartbeats 4000000 in
theorem ref02Is_c (r : Int) (w : World) : Calls Tryz.prog 158 #[.int .i64 r] w fun e w' => e = .returned (.bool (isR r)) ∧ w = w' := by
  rcases (show r ≤ -1 ∨ (0 ≤ r ∧ r ≤ 55295) ∨ (55296 ≤ r ∧ r ≤ 57343) ∨ (57344 ≤ r ∧ r ≤ 1114111) ∨ 1114112 ≤ r by omega) with h | h | h | h | h
  · have e : isR r = false := by
      rw [Bool.eq_false_iff, Ne, isR_iff]; omega
    rw [e]
    have a0 : decide (0 ≤ r) = false := by first | (simp; omega) | (simp [h]; done)
    have a1 : decide (r ≤ 1114111) = true := by first | (simp; omega) | (simp [h]; done)
    have a2 : decide (55296 ≤ r) = false := by first | (simp; omega) | (simp [h]; done)
    have a3 : decide (r ≤ 57343) = true := by first | (simp; omega) | (simp [h]; done)
    clear e h
    go_enter Tryz.func158, Tryz.ntmps158
    go_wp2
    go_ret
    exact ⟨rfl, rfl⟩
  · have e : isR r = true := by
      rw [isR_iff]; omega
    rw [e]
    have a0 : decide (0 ≤ r) = true := by first | (simp; omega) | (simp [h]; done)
    have a1 : decide (r ≤ 1114111) = true := by first | (simp; omega) | (simp [h]; done)
    have a2 : decide (55296 ≤ r) = false := by first | (simp; omega) | (simp [h]; done)
    have a3 : decide (r ≤ 57343) = true := by first | (simp; omega) | (simp [h]; done)
    clear e h
    go_enter Tryz.func158, Tryz.ntmps158
    go_wp2
    go_ret
    exact ⟨rfl, rfl⟩
  · have e : isR r = false := by
      rw [Bool.eq_false_iff, Ne, isR_iff]; omega
    rw [e]
    have a0 : decide (0 ≤ r) = true := by first | (simp; omega) | (simp [h]; done)
    have a1 : decide (r ≤ 1114111) = true := by first | (simp; omega) | (simp [h]; done)
    have a2 : decide (55296 ≤ r) = true := by first | (simp; omega) | (simp [h]; done)
    have a3 : decide (r ≤ 57343) = true := by first | (simp; omega) | (simp [h]; done)
    clear e h
    go_enter Tryz.func158, Tryz.ntmps158
    go_wp2
    go_ret
    exact ⟨rfl, rfl⟩
  · have e : isR r = true := by
      rw [isR_iff]; omega
    rw [e]
    have a0 : decide (0 ≤ r) = true := by first | (simp; omega) | (simp [h]; done)
    have a1 : decide (r ≤ 1114111) = true := by first | (simp; omega) | (simp [h]; done)
    have a2 : decide (55296 ≤ r) = true := by first | (simp; omega) | (simp [h]; done)
    have a3 : decide (r ≤ 57343) = false := by first | (simp; omega) | (simp [h]; done)
    clear e h
    go_enter Tryz.func158, Tryz.ntmps158
    go_wp2
    go_ret
    exact ⟨rfl, rfl⟩
  · have e : isR r = false := by
      rw [Bool.eq_false_iff, Ne, isR_iff]; omega
    rw [e]
    have a0 : decide (0 ≤ r) = true := by first | (simp; omega) | (simp [h]; done)
    have a1 : decide (r ≤ 1114111) = false := by first | (simp; omega) | (simp [h]; done)
    have a2 : decide (55296 ≤ r) = true := by first | (simp; omega) | (simp [h]; done)
    have a3 : decide (r ≤ 57343) = false := by first | (simp; omega) | (simp [h]; done)
    clear e h
    go_enter Tryz.func158, Tryz.ntmps158
    go_wp2
    go_ret
    exact ⟨rfl, rfl⟩
/-- How many bytes a number has. -/
def bytesN (r : Int) : Nat := if r < 128 then 1 else if r < 2048 then 2 else if r < 65536 then 3 else 4
set_option maxRecDepth 100000 in
set_option maxHeartbeats 4000000 in
theorem bytes_c (r : Int) (w : World) (h0 : 0 ≤ r) (h1 : r ≤ 1114111) : Calls Tryz.prog 159 #[.int .i64 r] w fun e w' => (∃ a, e = .returned (.slice (some a) (bytesN r) (bytesN r))) ∧ Below w.heap.size w w' := by
  have hal : ∀ o : Obj, Hid (Below w.heap.size w (w.alloc o)) := fun o => Lib.hid (Below.alloc (Below.refl _ _) (Nat.le_refl _) o)
  rcases (show r ≤ 127 ∨ (128 ≤ r ∧ r ≤ 2047) ∨ (2048 ≤ r ∧ r ≤ 65535) ∨ 65536 ≤ r by omega) with h | h | h | h
  · have e : bytesN r = 1 := by unfold bytesN; rw [if_pos (by omega)]
    have a1 : decide (r < 128) = true := by simp; omega
    rw [e]
    go_enter Tryz.func159, Tryz.ntmps159
    go_wp2
    go_ret
    exact ⟨⟨_, rfl⟩, (hal _).out⟩
  · have e : bytesN r = 2 := by unfold bytesN; rw [if_neg (by omega), if_pos (by omega)]
    have a1 : decide (r < 128) = false := by simp; omega
    have a2 : decide (r < 2048) = true := by simp; omega
    rw [e]
    go_enter Tryz.func159, Tryz.ntmps159
    go_wp2
    go_ret
    exact ⟨⟨_, rfl⟩, (hal _).out⟩
  · have e : bytesN r = 3 := by unfold bytesN; rw [if_neg (by omega), if_neg (by omega), if_pos (by omega)]
    have a1 : decide (r < 128) = false := by simp; omega
    have a2 : decide (r < 2048) = false := by simp; omega
    have a3 : decide (r < 65536) = true := by simp; omega
    rw [e]
    go_enter Tryz.func159, Tryz.ntmps159
    go_wp2
    go_ret
    exact ⟨⟨_, rfl⟩, (hal _).out⟩
  · have e : bytesN r = 4 := by unfold bytesN; rw [if_neg (by omega), if_neg (by omega), if_neg (by omega)]
    have a1 : decide (r < 128) = false := by simp; omega
    have a2 : decide (r < 2048) = false := by simp; omega
    have a3 : decide (r < 65536) = false := by simp; omega
    rw [e]
    go_enter Tryz.func159, Tryz.ntmps159
    go_wp2
    go_ret
    exact ⟨⟨_, rfl⟩, (hal _).out⟩
end Go.Proofs.YtmclngahdklfkaaGreatDoor
/- The document's character at a place: the plain law. -/
namespace Go.Proofs.YtmclngahdklfkaaGreatDoor
open Go.ChangeShapes Go.WideShapes Go.ChangeAt Go.RowKit
set_option linter.unusedVariables false
theorem restOf_some (l : List UInt8) (k : Nat) (h : 0 ≤ restOf l k) : ∃ d, l[k]? = some d ∧ 128 ≤ d.toNat ∧ d.toNat < 192 ∧ restOf l k = (d.toNat : Int) - 128 := by
  unfold restOf at *
  split at h
  · rename_i c hc
    split at h
    · rename_i hh
      exact ⟨c, hc, hh.1, hh.2, by rw [if_pos hh]⟩
    · omega
  · omega
theorem restOf_lt (l : List UInt8) (k : Nat) : restOf l k < 64 ∧ -1 ≤ restOf l k := by
  unfold restOf
  split
  · split <;> omega
  · omega
/-- What the bytes behind a place say, one by one. -/
theorem cont_step (l : List UInt8) (k : Nat) (N m : Nat) : cont m ((l.drop k).take (N + 1)) = if 0 ≤ restOf l k then cont (m * 64 + (restOf l k).toNat) ((l.drop (k + 1)).take N) else (if k < l.length then none else some m) := by
  by_cases hk : k < l.length
  · rw [List.drop_eq_getElem_cons hk, List.take_succ_cons]
    simp only [cont]
    have hr : restOf l k = if 128 ≤ l[k].toNat ∧ l[k].toNat < 192 then (l[k].toNat : Int) - 128 else -1 := by
      unfold restOf; rw [List.getElem?_eq_getElem hk]
    by_cases hc : 128 ≤ l[k].toNat ∧ l[k].toNat < 192
    · rw [if_pos hc] at hr ⊢
      have e : ((l[k].toNat : Int) - 128).toNat = l[k].toNat - 128 := by omega
      rw [if_pos (by omega), hr, e]
    · rw [if_neg hc] at hr ⊢
      rw [if_neg (by omega), if_pos hk]
  · have hr : restOf l k = -1 := by unfold restOf; rw [List.getElem?_eq_none (by omega)]
    rw [List.drop_of_length_le (by omega), hr]
    simp [cont, hk]
theorem cont_take0 (l : List UInt8) (k m : Nat) : cont m ((l.drop k).take 0) = some m := rfl
theorem rest_in (l : List UInt8) (k : Nat) (h : 0 ≤ restOf l k) : k < l.length := by
  obtain ⟨d, hd, _⟩ := restOf_some l k h
  rcases Nat.lt_or_ge k l.length with h | h
  · exact h
  · rw [List.getElem?_eq_none h] at hd; cases hd
def mk (least N r : Nat) : Option (Nat × Nat) := if least ≤ r ∧ isR r = true then some (r, N) else none
theorem dec_1 (l : List UInt8) (k : Nat) (c : UInt8) (hc : l[k]? = some c) (h : c.toNat < 128) : dec (l.drop k) = some (c.toNat, 1) := by
  have hk : k < l.length := by
    rcases Nat.lt_or_ge k l.length with h | h
    · exact h
    · rw [List.getElem?_eq_none h] at hc; cases hc
  rw [dec_at l k c hc 1 (by simp [lenB, h]) (by decide) (by omega)]
  have : msk 1 c.toNat = c.toNat := by simp [msk]; omega
  rw [this]
  simp only [Nat.sub_self, List.take_zero, cont]
  rw [if_pos ⟨Nat.zero_le _, by simp [isR]; omega⟩]
theorem dec_0 (l : List UInt8) (k : Nat) (c : UInt8) (hc : l[k]? = some c) (h : (128 ≤ c.toNat ∧ c.toNat < 192) ∨ 248 ≤ c.toNat) : dec (l.drop k) = none := by
  refine dec_none l k c hc (.inl ?_)
  unfold lenB
  rcases h with h | h
  · rw [if_neg (by omega), if_pos (by omega)]
  · rw [if_neg (by omega), if_neg (by omega), if_neg (by omega), if_neg (by omega), if_neg (by omega)]
theorem dec_2 (l : List UInt8) (k : Nat) (c : UInt8) (hc : l[k]? = some c) (h : 192 ≤ c.toNat ∧ c.toNat < 224) :
    dec (l.drop k) = if 0 ≤ restOf l (k + 1) then mk 128 2 ((c.toNat - 192) * 64 + (restOf l (k + 1)).toNat) else none := by
  have hL : lenB c.toNat = 2 := by unfold lenB; rw [if_neg (by omega), if_neg (by omega), if_pos (by omega)]
  have hm : msk 2 c.toNat = c.toNat - 192 := by simp only [msk]; simp; omega
  by_cases h1 : 0 ≤ restOf l (k + 1)
  · have := rest_in _ _ h1
    rw [dec_at l k c hc 2 hL (by decide) (by omega), hm, cont_step, if_pos h1, if_pos h1, cont_take0]
    rfl
  · rw [if_neg h1]
    by_cases hs : k + 2 ≤ l.length
    · rw [dec_at l k c hc 2 hL (by decide) hs, hm, cont_step, if_neg h1, if_pos (by omega)]
    · exact dec_none l k c hc (.inr (by omega))
theorem dec_3 (l : List UInt8) (k : Nat) (c : UInt8) (hc : l[k]? = some c) (h : 224 ≤ c.toNat ∧ c.toNat < 240) :
    dec (l.drop k) = if 0 ≤ restOf l (k + 1) ∧ 0 ≤ restOf l (k + 2) then mk 2048 3 (((c.toNat - 224) * 64 + (restOf l (k + 1)).toNat) * 64 + (restOf l (k + 2)).toNat) else none := by
  have hL : lenB c.toNat = 3 := by unfold lenB; rw [if_neg (by omega), if_neg (by omega), if_neg (by omega), if_pos (by omega)]
  have hm : msk 3 c.toNat = c.toNat - 224 := by simp only [msk]; simp; omega
  by_cases hs : k + 3 ≤ l.length
  · rw [dec_at l k c hc 3 hL (by decide) hs, hm, cont_step]
    by_cases h1 : 0 ≤ restOf l (k + 1)
    · rw [if_pos h1, cont_step]
      by_cases h2 : 0 ≤ restOf l (k + 2)
      · rw [if_pos h2, if_pos ⟨h1, h2⟩, cont_take0]
        rfl
      · rw [if_neg h2, if_pos (by omega : k + 1 + 1 < l.length), if_neg (fun h => h2 h.2)]
    · rw [if_neg h1, if_pos (by omega : k + 1 < l.length), if_neg (fun h => h1 h.1)]
  · rw [dec_none l k c hc (.inr (by omega)), if_neg (fun h => by have := rest_in _ _ h.2; omega)]
theorem dec_4 (l : List UInt8) (k : Nat) (c : UInt8) (hc : l[k]? = some c) (h : 240 ≤ c.toNat ∧ c.toNat < 248) :
    dec (l.drop k) = if 0 ≤ restOf l (k + 1) ∧ 0 ≤ restOf l (k + 2) ∧ 0 ≤ restOf l (k + 3) then mk 65536 4 ((((c.toNat - 240) * 64 + (restOf l (k + 1)).toNat) * 64 + (restOf l (k + 2)).toNat) * 64 + (restOf l (k + 3)).toNat) else none := by
  have hL : lenB c.toNat = 4 := by unfold lenB; rw [if_neg (by omega), if_neg (by omega), if_neg (by omega), if_neg (by omega), if_pos (by omega)]
  have hm : msk 4 c.toNat = c.toNat - 240 := by simp only [msk]; simp; omega
  by_cases hs : k + 4 ≤ l.length
  · rw [dec_at l k c hc 4 hL (by decide) hs, hm, cont_step]
    by_cases h1 : 0 ≤ restOf l (k + 1)
    · rw [if_pos h1, cont_step]
      by_cases h2 : 0 ≤ restOf l (k + 2)
      · rw [if_pos h2, cont_step]
        by_cases h3 : 0 ≤ restOf l (k + 3)
        · rw [if_pos h3, if_pos ⟨h1, h2, h3⟩, cont_take0]
          rfl
        · rw [if_neg h3, if_pos (by omega : k + 1 + 1 + 1 < l.length), if_neg (fun h => h3 h.2.2)]
      · rw [if_neg h2, if_pos (by omega : k + 1 + 1 < l.length), if_neg (fun h => h2 h.2.1)]
    · rw [if_neg h1, if_pos (by omega : k + 1 < l.length), if_neg (fun h => h1 h.1)]
  · rw [dec_none l k c hc (.inr (by omega)), if_neg (fun h => by have := rest_in _ _ h.2.2; omega)]
end Go.Proofs.YtmclngahdklfkaaGreatDoor
