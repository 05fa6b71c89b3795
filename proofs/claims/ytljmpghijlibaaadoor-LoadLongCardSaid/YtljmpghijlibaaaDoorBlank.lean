/- Blanks. -/
import Derived.Test.YtljmpghijlibaaaDoorRows
import Derived.WalkKit
import Derived.ProofKit
import Derived.OpenShut
import Derived.ShutString
import Derived.ChangeOld
import Derived.Below
import Derived.BigQuiet
import Derived.Deep.QuietTactic
import Derived.Lib.Hide
import Derived.Deep.RegionHeld3
import Derived.Lib.SlBytesConst
import Derived.Laws.CopyOwn
import Derived.Laws.CopyRow
import Derived.Lib.Bytes
import Derived.Deep.LoopGhost
import Derived.Deep.DeepFit
import Derived.Deep.DeepMust
import Derived.WalkSpells
import Derived.WalkLawsBesides
import Derived.Test.YtljmpghijlibaaaDoorBase
import Derived.Test.YtljmpghijlibaaaDoorShelf
import Derived.Test.YtljmpghijlibaaaDoorCharPlain
import Derived.Test.YtljmpghijlibaaaDoorRef1
import Derived.Test.YtljmpghijlibaaaDoorPub
namespace Go.Proofs.YtljmpghijlibaaaDoor
open Go.ChangeShapes Go.WideShapes Go.ChangeAt Go.RowKit
set_option linter.unusedVariables false
def isBl (c : UInt8) : Bool := isBlank (c.toNat : Int)
/-- The first place from k on without a blank. -/
def blankTo (l : List UInt8) (k : Nat) : Nat := k + ((l.drop k).takeWhile isBl).length
theorem blankTo_le (l : List UInt8) (k : Nat) (hk : k ≤ l.length) : k ≤ blankTo l k ∧ blankTo l k ≤ l.length := by
  unfold blankTo
  have := (List.takeWhile_prefix (p := isBl) (l := l.drop k)).length_le
  rw [List.length_drop] at this
  omega
theorem blankTo_end (l : List UInt8) (k : Nat) (hk : l.length ≤ k) : blankTo l k = k := by
  unfold blankTo
  rw [List.drop_of_length_le hk]
  rfl
theorem drop_cons (l : List UInt8) (k : Nat) (c : UInt8) (h : l[k]? = some c) : l.drop k = c :: l.drop (k + 1) := by
  obtain ⟨hk, hc⟩ := List.getElem?_eq_some_iff.1 h
  rw [List.drop_eq_getElem_cons hk, hc]
theorem blankTo_no (l : List UInt8) (k : Nat) (c : UInt8) (h : l[k]? = some c) (hc : isBl c = false) : blankTo l k = k := by
  unfold blankTo
  rw [drop_cons l k c h, List.takeWhile_cons, hc]
  rfl
theorem blankTo_yes (l : List UInt8) (k : Nat) (c : UInt8) (h : l[k]? = some c) (hc : isBl c = true) : blankTo l k = blankTo l (k + 1) := by
  unfold blankTo
  rw [drop_cons l k c h, List.takeWhile_cons, hc]
  simp
  omega
set_option maxRecDepth 100000 in
set_option maxHeartbeats 4000000 in
theorem blank_c (r : Int) (w : World) : Calls Tryd.prog 121 #[.int .i64 r] w fun e w' => e = .returned (.bool (isBlank r)) ∧ w = w' := by
  rcases (show (r = 32) ∨ (r = 9) ∨ (r = 13) ∨ (r = 10) ∨ (r ≠ 32 ∧ r ≠ 9 ∧ r ≠ 13 ∧ r ≠ 10) by omega) with h | h | h | h | h
  all_goals
    first
    | (subst h
       go_enter Tryd.func121, Tryd.ntmps121
       go_wp2
       go_ret
       exact ⟨rfl, rfl⟩)
    | (have a0 : (r == 32) = false := by simp; omega
       have a1 : (r == 9) = false := by simp; omega
       have a2 : (r == 13) = false := by simp; omega
       have a3 : (r == 10) = false := by simp; omega
       have e : isBlank r = false := by unfold isBlank; rw [a0, a1, a2, a3]; rfl
       rw [e]
       clear e h
       go_enter Tryd.func121, Tryd.ntmps121
       go_wp2
       go_ret
       exact ⟨rfl, rfl⟩)
set_option maxRecDepth 100000 in
set_option maxHeartbeats 4000000 in
theorem blanks_c (A : Option Addr) (n cap : Nat) (l : List UInt8) (at_ : Nat) (B : Nat) (w : World) (h : Byt w B A n cap l) (hm : n ≤ 1000000) (hat : at_ ≤ n) :
    Calls Tryd.prog 123 #[.slice A n cap, .int .i64 at_] w fun e w' => e = .returned (.int .i64 (blankTo l at_)) ∧ w = w' := by
  have HB := Lib.hid h
  have hln := Lib.hid h.length
  clear h
  go_enter Tryd.func123, Tryd.ntmps123
  go_wp2
  go_loopg [1] (n - at_) (fun g i wr => ∃ t : Nat, t ≤ n ∧ Hid (g + t = n) ∧ i = .int .i64 (t : Int) ∧ w = wr ∧ Hid (blankTo l at_ = blankTo l t))
  case atStart => exact ⟨at_, hat, Lib.hid (by omega), rfl, rfl, Lib.hid rfl⟩
  case round =>
    obtain ⟨t, ht, hg, rfl, rfl, HN⟩ := hrel
    have ht0 : (0 : Int) ≤ (t : Int) := by omega
    have htb : (t : Int) ≤ 1000000 := by omega
    by_cases htn : t < n
    · have htni : (t : Int) < (n : Int) := by omega
      obtain ⟨b, o, c, rfl, hb, hc, hcell⟩ := HB.out.cell htn
      have HC := Lib.hid hc
      have c0 : (0 : Int) ≤ (c.toNat : Int) := by omega
      have c1 : (c.toNat : Int) ≤ 255 := by have := c.toNat_lt; omega
      clear hc hb
      cases hbl : isBl c with
      | false =>
        have HE : Hid (blankTo l at_ = t) := Lib.hid (by rw [HN.out, blankTo_no l t c HC.out hbl])
        have CB := Lib.hid (blank_c (c.toNat : Int) w)
        unfold isBl at hbl
        rw [hbl] at CB
        clear hbl
        generalize (c.toNat : Int) = cn at *
        go_wp2_with fail
        refine (CB.out).mono ?_
        rintro e wq ⟨rfl, rfl⟩
        go_wp2
        go_ret
        exact ⟨by rw [HE.out]; rfl, rfl⟩
      | true =>
        have HE : Hid (blankTo l at_ = blankTo l (t + 1)) := Lib.hid (by rw [HN.out, blankTo_yes l t c HC.out hbl])
        have CB := Lib.hid (blank_c (c.toNat : Int) w)
        unfold isBl at hbl
        rw [hbl] at CB
        clear hbl
        generalize (c.toNat : Int) = cn at *
        go_wp2_with fail
        refine (CB.out).mono ?_
        rintro e wq ⟨rfl, rfl⟩
        go_wp2
        go_roundg (n - (t + 1))
        case measure => have := hg.out; omega
        case rel => exact ⟨t + 1, by omega, Lib.hid (by omega), by go_num, rfl, HE⟩
    · have htni : ¬ (t : Int) < (n : Int) := by omega
      have HE : Hid (blankTo l at_ = t) := Lib.hid (by rw [HN.out, blankTo_end l t (by rw [hln.out]; omega)])
      go_wp2
      go_ret
      exact ⟨by rw [HE.out]; rfl, rfl⟩
set_option maxRecDepth 100000 in
set_option maxHeartbeats 4000000 in
theorem refBlanks_c (A : Option Addr) (n cap : Nat) (l : List UInt8) (at_ : Nat) (B : Nat) (w : World) (h : Byt w B A n cap l) (hm : n ≤ 1000000) (hat : at_ ≤ n) :
    Calls Tryd.prog 74 #[.slice A n cap, .int .i64 at_] w fun e w' => e = .returned (.int .i64 (blankTo l at_)) ∧ w = w' := by
  have HB := Lib.hid h
  have hln := Lib.hid h.length
  have hat' : ¬ (n : Int) < (at_ : Int) := by omega
  clear h
  go_enter Tryd.func74, Tryd.ntmps74
  go_wp2
  go_loopg [1] (n - at_) (fun g i wr => ∃ t : Nat, t ≤ n ∧ Hid (g + t = n) ∧ i = .int .i64 (t : Int) ∧ w = wr ∧ Hid (blankTo l at_ = blankTo l t))
  case atStart => exact ⟨at_, hat, Lib.hid (by omega), rfl, rfl, Lib.hid rfl⟩
  case round =>
    obtain ⟨t, ht, hg, rfl, rfl, HN⟩ := hrel
    have ht0 : (0 : Int) ≤ (t : Int) := by omega
    have htb : (t : Int) ≤ 1000000 := by omega
    by_cases htn : t < n
    · have htni : (t : Int) < (n : Int) := by omega
      obtain ⟨b, o, c, rfl, hb, hc, hcell⟩ := HB.out.cell htn
      have HC := Lib.hid hc
      have c0 : (0 : Int) ≤ (c.toNat : Int) := by omega
      have c1 : (c.toNat : Int) ≤ 255 := by have := c.toNat_lt; omega
      clear hc hb
      cases hbl : isBl c with
      | false =>
        have HE : Hid (blankTo l at_ = t) := Lib.hid (by rw [HN.out, blankTo_no l t c HC.out hbl])
        have CB := Lib.hid (refBlank_c (c.toNat : Int) w)
        unfold isBl at hbl
        rw [hbl] at CB
        clear hbl
        generalize (c.toNat : Int) = cn at *
        go_wp2_with fail
        refine (CB.out).mono ?_
        rintro e wq ⟨rfl, rfl⟩
        go_wp2
        go_ret
        exact ⟨by rw [HE.out]; rfl, rfl⟩
      | true =>
        have HE : Hid (blankTo l at_ = blankTo l (t + 1)) := Lib.hid (by rw [HN.out, blankTo_yes l t c HC.out hbl])
        have CB := Lib.hid (refBlank_c (c.toNat : Int) w)
        unfold isBl at hbl
        rw [hbl] at CB
        clear hbl
        generalize (c.toNat : Int) = cn at *
        go_wp2_with fail
        refine (CB.out).mono ?_
        rintro e wq ⟨rfl, rfl⟩
        go_wp2
        go_roundg (n - (t + 1))
        case measure => have := hg.out; omega
        case rel => exact ⟨t + 1, by omega, Lib.hid (by omega), by go_num, rfl, HE⟩
    · have htni : ¬ (t : Int) < (n : Int) := by omega
      have HE : Hid (blankTo l at_ = t) := Lib.hid (by rw [HN.out, blankTo_end l t (by rw [hln.out]; omega)])
      go_wp2
      go_ret
      exact ⟨by rw [HE.out]; rfl, rfl⟩
end Go.Proofs.YtljmpghijlibaaaDoor
