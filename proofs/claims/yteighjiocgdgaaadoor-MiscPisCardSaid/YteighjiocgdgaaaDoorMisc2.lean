/- narthexref08.Comment, CData. -/
import Derived.Test.YteighjiocgdgaaaDoorRows
import Derived.WalkKit
import Derived.ProofKit
import Derived.OpenShut
import Derived.ShutString
import Derived.ChangeOld
import Derived.Below
import Derived.BigQuiet
import Derived.Deep.QuietTactic
import Derived.Lib.Hide
import Derived.Deep.RegionHeld3
import Derived.Lib.SlBytesConst
import Derived.Laws.CopyOwn
import Derived.Laws.CopyRow
import Derived.Lib.Bytes
import Derived.Deep.LoopGhost
import Derived.Deep.DeepFit
import Derived.Deep.DeepMust
import Derived.WalkSpells
import Derived.WalkLawsBesides
import Derived.Test.YteighjiocgdgaaaDoorBase
import Derived.Test.YteighjiocgdgaaaDoorShelf
import Derived.Test.YteighjiocgdgaaaDoorCharPlain
import Derived.Test.YteighjiocgdgaaaDoorName1
import Derived.Test.YteighjiocgdgaaaDoorName2
import Derived.Test.YteighjiocgdgaaaDoorName3
import Derived.Test.YteighjiocgdgaaaDoorMiscP
import Derived.Test.YteighjiocgdgaaaDoorMisc1
namespace Go.Proofs.YteighjiocgdgaaaDoor
open Go.ChangeShapes Go.WideShapes Go.ChangeAt Go.RowKit
set_option linter.unusedVariables false
set_option maxRecDepth 100000 in
set_option maxHeartbeats 4000000 in
theorem refComment_range (A : Option Addr) (n cap : Nat) (at_ : Int) (w : World) (ha : at_ < 0 ∨ (n : Int) < at_) :
    Calls Tryd.prog 37 #[.slice A n cap, .int .i64 at_] w fun e w' => e = .returned (outV ([], 0, 3)) ∧ w = w' := by
  by_cases h0 : at_ < 0
  · have hd : decide (at_ < 0) = true := by simpa using h0
    clear ha
    go_enter Tryd.func37, Tryd.ntmps37
    go_wp2
    go_ret3
    exact ⟨rfl, rfl⟩
  · have h1 : (n : Int) < at_ := by omega
    clear ha
    go_enter Tryd.func37, Tryd.ntmps37
    go_wp2
    go_ret3
    exact ⟨rfl, rfl⟩
set_option maxRecDepth 100000 in
set_option maxHeartbeats 4000000 in
theorem refComment_c (A : Option Addr) (n cap : Nat) (l : List UInt8) (k : Nat) (B : Nat) (w : World) (h : Byt w B A n cap l) (hm : n ≤ 100000) (hk : k ≤ n) :
    Calls Tryd.prog 37 #[.slice A n cap, .int .i64 k] w fun e w' => e = .returned (outV (commentOut l k)) ∧ w = w' := by
  have hk' : ¬ (n : Int) < (k : Int) := by omega
  have hk0 : (0 : Int) ≤ (k : Int) := by omega
  have hk1 : (k : Int) ≤ 100000 := by omega
  have c1 := refAt8_c A n cap l k [60, 33, 45, 45] B w h (by simp) (by omega) (by simp) (by omega)
  have hln := h.length
  by_cases hp : [60, 33, 45, 45].isPrefixOf (l.drop k) = true
  · have hkl : k + 4 ≤ n := by have := pre_len hp; simp at this; omega
    have c2 := refFind_c A n cap l (k + 4) [45, 45] B w h (by simp) (by omega) (by simp) hkl
    rw [show ((k + 4 : Nat) : Int) = (k : Int) + 4 by omega] at c2
    have hsp := findI_spec l [45, 45] (k + 4) (by omega)
    rw [hp] at c1
    have C1 := Lib.hid c1
    clear c1
    have HO : Hid (commentOut l k = if findI l (k + 4) [45, 45] < 0 then ([], 0, 7) else
  if [45, 45, 62].isPrefixOf (l.drop (findI l (k + 4) [45, 45]).toNat) = true then ((l.drop (k + 4)).take ((findI l (k + 4) [45, 45]).toNat - (k + 4)), (findI l (k + 4) [45, 45]).toNat + 3, 0) else ([], 0, 7)) := Lib.hid (by unfold commentOut; rw [if_neg (by rw [hp]; simp)])
    rcases hsp with ⟨hf, _⟩ | ⟨i, hf, hki, hil, hpre, _⟩
    · rw [hf] at c2
      have C2 := Lib.hid c2
      have HR : Hid (commentOut l k = ([], 0, 7)) := Lib.hid (by rw [HO.out, hf]; rfl)
      rw [HR.out]
      clear c2 h hp hf hln HO HR
      go_enter Tryd.func37, Tryd.ntmps37
      go_wp2_with fail
      refine (C1.out).mono ?_
      rintro e wq ⟨rfl, rfl⟩
      go_wp2_with fail
      refine (C2.out).mono ?_
      rintro e wq ⟨rfl, rfl⟩
      go_wp2
      go_ret3
      exact ⟨rfl, rfl⟩
    · simp at hil
      rw [hf] at c2
      have C2 := Lib.hid c2
      have c3 := refAt8_c A n cap l i [45, 45, 62] B w h (by simp) (by omega) (by simp) (by omega)
      have hi0 : (0 : Int) ≤ (i : Int) := by omega
      have hi1 : (i : Int) ≤ 100000 := by omega
      have hlt : ¬ (i : Int) < 0 := by omega
      by_cases h3 : [45, 45, 62].isPrefixOf (l.drop i) = true
      · rw [h3] at c3
        have C3 := Lib.hid c3
        have hcap := h.le
        have hst := ((h.drop (k := k + 4) (by omega)).take (k := i - (k + 4)) (by omega)).str
        have hrf : ∀ w2 : World, (Instr.slice 22 (.slice A n cap) (some (.int .i64 ((k : Int) + 4))) (some (.int .i64 (i : Int))) none).run Tryd.prog w2 = .ok (.slice (cutA A cap (k + 4)) (i - (k + 4)) (cap - (k + 4))) w2 := fun w2 => by
          have := run_fromTo (w := w2) A n cap (k + 4) i (by omega) (by omega)
          rw [show ((k + 4 : Nat) : Int) = (k : Int) + 4 by omega] at this
          exact this
        have HR : Hid (commentOut l k = ((l.drop (k + 4)).take (i - (k + 4)), i + 3, 0)) := Lib.hid (by
          rw [HO.out, hf, if_neg (by omega), Int.toNat_natCast, if_pos h3])
        rw [HR.out]
        clear c2 c3 h hp hf hln hcap hil hpre h3 HO HR hkl
        generalize (l.drop (k + 4)).take (i - (k + 4)) = q at *
        unfold outV
        go_enter Tryd.func37, Tryd.ntmps37
        go_wp2_with fail
        refine (C1.out).mono ?_
        rintro e wq ⟨rfl, rfl⟩
        go_wp2_with fail
        refine (C2.out).mono ?_
        rintro e wq ⟨rfl, rfl⟩
        go_wp2_with fail
        refine (C3.out).mono ?_
        rintro e wq ⟨rfl, rfl⟩
        go_wp2
        go_ret3
        exact ⟨rfl, rfl⟩
      · have h3' : [45, 45, 62].isPrefixOf (l.drop i) = false := bfalse h3
        rw [h3'] at c3
        have C3 := Lib.hid c3
        have HR : Hid (commentOut l k = ([], 0, 7)) := Lib.hid (by
          rw [HO.out, hf, if_neg (by omega), Int.toNat_natCast, if_neg h3])
        rw [HR.out]
        clear c2 c3 h hp hf hln hil hpre h3 h3' HO HR hkl
        go_enter Tryd.func37, Tryd.ntmps37
        go_wp2_with fail
        refine (C1.out).mono ?_
        rintro e wq ⟨rfl, rfl⟩
        go_wp2_with fail
        refine (C2.out).mono ?_
        rintro e wq ⟨rfl, rfl⟩
        go_wp2_with fail
        refine (C3.out).mono ?_
        rintro e wq ⟨rfl, rfl⟩
        go_wp2
        go_ret3
        exact ⟨rfl, rfl⟩
  · have hp' : [60, 33, 45, 45].isPrefixOf (l.drop k) = false := by
      cases hx : [60, 33, 45, 45].isPrefixOf (l.drop k) with
      | false => rfl
      | true => exact absurd hx hp
    rw [hp'] at c1
    have C1 := Lib.hid c1
    have HR : Hid (commentOut l k = ([], 0, 7)) := Lib.hid (by unfold commentOut; rw [if_pos hp'])
    rw [HR.out]
    clear c1 h hp hp' hln HR
    go_enter Tryd.func37, Tryd.ntmps37
    go_wp2_with fail
    refine (C1.out).mono ?_
    rintro e wq ⟨rfl, rfl⟩
    go_wp2
    go_ret3
    exact ⟨rfl, rfl⟩
set_option maxRecDepth 100000 in
set_option maxHeartbeats 4000000 in
theorem refCData_range (A : Option Addr) (n cap : Nat) (at_ : Int) (w : World) (ha : at_ < 0 ∨ (n : Int) < at_) :
    Calls Tryd.prog 39 #[.slice A n cap, .int .i64 at_] w fun e w' => e = .returned (outV ([], 0, 3)) ∧ w = w' := by
  by_cases h0 : at_ < 0
  · have hd : decide (at_ < 0) = true := by simpa using h0
    clear ha
    go_enter Tryd.func39, Tryd.ntmps39
    go_wp2
    go_ret3
    exact ⟨rfl, rfl⟩
  · have h1 : (n : Int) < at_ := by omega
    clear ha
    go_enter Tryd.func39, Tryd.ntmps39
    go_wp2
    go_ret3
    exact ⟨rfl, rfl⟩
set_option maxRecDepth 100000 in
set_option maxHeartbeats 4000000 in
theorem refCData_c (A : Option Addr) (n cap : Nat) (l : List UInt8) (k : Nat) (B : Nat) (w : World) (h : Byt w B A n cap l) (hm : n ≤ 100000) (hk : k ≤ n) :
    Calls Tryd.prog 39 #[.slice A n cap, .int .i64 k] w fun e w' => e = .returned (outV (cdataOut l k)) ∧ w = w' := by
  have hk' : ¬ (n : Int) < (k : Int) := by omega
  have hk0 : (0 : Int) ≤ (k : Int) := by omega
  have hk1 : (k : Int) ≤ 100000 := by omega
  have c1 := refAt8_c A n cap l k [60, 33, 91, 67, 68, 65, 84, 65, 91] B w h (by simp) (by omega) (by simp) (by omega)
  have hln := h.length
  by_cases hp : [60, 33, 91, 67, 68, 65, 84, 65, 91].isPrefixOf (l.drop k) = true
  · have hkl : k + 9 ≤ n := by have := pre_len hp; simp at this; omega
    have c2 := refFind_c A n cap l (k + 9) [93, 93, 62] B w h (by simp) (by omega) (by simp) hkl
    rw [show ((k + 9 : Nat) : Int) = (k : Int) + 9 by omega] at c2
    have hsp := findI_spec l [93, 93, 62] (k + 9) (by omega)
    rw [hp] at c1
    have C1 := Lib.hid c1
    clear c1
    have HO : Hid (cdataOut l k = if findI l (k + 9) [93, 93, 62] < 0 then ([], 0, 7) else
  ((l.drop (k + 9)).take ((findI l (k + 9) [93, 93, 62]).toNat - (k + 9)), (findI l (k + 9) [93, 93, 62]).toNat + 3, 0)) := Lib.hid (by unfold cdataOut; rw [if_neg (by rw [hp]; simp)])
    rcases hsp with ⟨hf, _⟩ | ⟨i, hf, hki, hil, hpre, _⟩
    · rw [hf] at c2
      have C2 := Lib.hid c2
      have HR : Hid (cdataOut l k = ([], 0, 7)) := Lib.hid (by rw [HO.out, hf]; rfl)
      rw [HR.out]
      clear c2 h hp hf hln HO HR
      go_enter Tryd.func39, Tryd.ntmps39
      go_wp2_with fail
      refine (C1.out).mono ?_
      rintro e wq ⟨rfl, rfl⟩
      go_wp2_with fail
      refine (C2.out).mono ?_
      rintro e wq ⟨rfl, rfl⟩
      go_wp2
      go_ret3
      exact ⟨rfl, rfl⟩
    · simp at hil
      rw [hf] at c2
      have C2 := Lib.hid c2
      have hi0 : (0 : Int) ≤ (i : Int) := by omega
      have hi1 : (i : Int) ≤ 100000 := by omega
      have hlt : ¬ (i : Int) < 0 := by omega
      have hcap := h.le
      have hst := ((h.drop (k := k + 9) (by omega)).take (k := i - (k + 9)) (by omega)).str
      have hrf : ∀ w2 : World, (Instr.slice 22 (.slice A n cap) (some (.int .i64 ((k : Int) + 9))) (some (.int .i64 (i : Int))) none).run Tryd.prog w2 = .ok (.slice (cutA A cap (k + 9)) (i - (k + 9)) (cap - (k + 9))) w2 := fun w2 => by
        have := run_fromTo (w := w2) A n cap (k + 9) i (by omega) (by omega)
        rw [show ((k + 9 : Nat) : Int) = (k : Int) + 9 by omega] at this
        exact this
      have HR : Hid (cdataOut l k = ((l.drop (k + 9)).take (i - (k + 9)), i + 3, 0)) := Lib.hid (by
        rw [HO.out, hf, if_neg (by omega), Int.toNat_natCast])
      rw [HR.out]
      clear c2 h hp hf hln hcap hil hpre HO HR hkl
      generalize (l.drop (k + 9)).take (i - (k + 9)) = q at *
      unfold outV
      go_enter Tryd.func39, Tryd.ntmps39
      go_wp2_with fail
      refine (C1.out).mono ?_
      rintro e wq ⟨rfl, rfl⟩
      go_wp2_with fail
      refine (C2.out).mono ?_
      rintro e wq ⟨rfl, rfl⟩
      go_wp2
      go_ret3
      exact ⟨rfl, rfl⟩
  · have hp' : [60, 33, 91, 67, 68, 65, 84, 65, 91].isPrefixOf (l.drop k) = false := by
      cases hx : [60, 33, 91, 67, 68, 65, 84, 65, 91].isPrefixOf (l.drop k) with
      | false => rfl
      | true => exact absurd hx hp
    rw [hp'] at c1
    have C1 := Lib.hid c1
    have HR : Hid (cdataOut l k = ([], 0, 7)) := Lib.hid (by unfold cdataOut; rw [if_pos hp'])
    rw [HR.out]
    clear c1 h hp hp' hln HR
    go_enter Tryd.func39, Tryd.ntmps39
    go_wp2_with fail
    refine (C1.out).mono ?_
    rintro e wq ⟨rfl, rfl⟩
    go_wp2
    go_ret3
    exact ⟨rfl, rfl⟩
end Go.Proofs.YteighjiocgdgaaaDoor
