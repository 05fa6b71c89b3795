/- Texts of ours, joined: Ref9, Cref2, Dig, Num, LitP. -/
import Derived.Test.YtfemfgkcgboopaaGreatDoorRows
import Derived.WalkKit
import Derived.ProofKit
import Derived.OpenShut
import Derived.ShutString
import Derived.ChangeOld
import Derived.Below
import Derived.BigQuiet
import Derived.Deep.QuietTactic
import Derived.Lib.Hide
import Derived.Deep.RegionHeld3
import Derived.Lib.SlBytesConst
import Derived.Laws.CopyOwn
import Derived.Laws.CopyRow
import Derived.Lib.Bytes
import Derived.Deep.LoopGhost
import Derived.Deep.DeepFit
import Derived.Deep.DeepMust
import Derived.WalkSpells
import Derived.WalkLawsBesides
import Derived.Laws.EntriesVeiled
import Derived.Laws.Rows
import Derived.Test.YtfemfgkcgboopaaGreatDoorQ1
import Derived.Test.YtfemfgkcgboopaaGreatDoorQ2
import Derived.Test.YtfemfgkcgboopaaGreatDoorQ3
import Derived.Test.YtfemfgkcgboopaaGreatDoorQ4
import Derived.Test.YtfemfgkcgboopaaGreatDoorQ5
import Derived.Test.YtfemfgkcgboopaaGreatDoorQ6
import Derived.Test.YtfemfgkcgboopaaGreatDoorQ7
import Derived.Test.YtfemfgkcgboopaaGreatDoorQ8
/- The document's references by a mark. -/
namespace Go.Proofs.YtfemfgkcgboopaaGreatDoor
open Go.ChangeShapes Go.WideShapes Go.ChangeAt Go.RowKit
set_option linter.unusedVariables false
set_option maxRecDepth 100000 in
set_option maxHeartbeats 2000000 in
theorem refEntity_range (A : Option Addr) (n cap : Nat) (at_ : Int) (mark : Int) (w : World) (ha : at_ < 0 ∨ (n : Int) < at_) :
    Calls Tryz.prog 54 #[.slice A n cap, .int .i64 at_, .int .u8 mark] w fun e w' => e = .returned (outV ([], 0, 3)) ∧ Below w.heap.size w w' := by
  by_cases h0 : at_ < 0
  · have hd : decide (at_ < 0) = true := by simpa using h0
    clear ha
    go_enter Tryz.func54, Tryz.ntmps54
    go_wp2
    go_ret3
    exact ⟨rfl, Below.refl _ _⟩
  · have h1 : (n : Int) < at_ := by omega
    clear ha
    go_enter Tryz.func54, Tryz.ntmps54
    go_wp2
    go_ret3
    exact ⟨rfl, Below.refl _ _⟩
set_option maxRecDepth 100000 in
set_option maxHeartbeats 2000000 in
theorem refEntity_c (A : Option Addr) (n cap : Nat) (l : List UInt8) (at_ : Nat) (mark : UInt8) (w : World) (h : Byt w w.heap.size A n cap l) (hm : n ≤ 50000) (hat : at_ ≤ n) :
    Calls Tryz.prog 54 #[.slice A n cap, .int .i64 at_, .int .u8 mark.toNat] w fun e w' => e = .returned (outV (refOut mark l at_)) ∧ Below w.heap.size w w' := by
  have hln := h.length
  have hat' : ¬ (n : Int) < (at_ : Int) := by omega
  have hap : IntKind.i64.wrap ((at_ : Int) + 1) = (at_ : Int) + 1 := by rw [IntKind.wrap_i64]; omega
  by_cases he : at_ = n
  · subst he
    have hr : refOut mark l at_ = ([], 0, 7) := by unfold refOut; rw [List.getElem?_eq_none (by omega)]
    rw [hr]
    clear h hm hr hat hat'
    go_enter Tryz.func54, Tryz.ntmps54
    go_wp2
    go_ret3
    exact ⟨rfl, Below.refl _ _⟩
  · have hlt : at_ < n := by omega
    obtain ⟨b, o, c, rfl, hb, hc, hcell⟩ := h.cell hlt
    have hne : ((at_ : Int) == (n : Int)) = false := by simp; omega
    have hli : (at_ : Int) < (n : Int) := by omega
    by_cases hcm : c = mark
    · subst hcm
      have hp := refRead_c (some ⟨b, o, none⟩) n cap l (at_ + 1) w h (by omega) (by omega)
      rw [show ((at_ + 1 : Nat) : Int) = (at_ : Int) + 1 by omega] at hp
      have hle := plainOut_le l (at_ + 1) (by omega)
      have HR : Hid (refOut c l at_ = if (plainOut l (at_ + 1)).2.2 ≠ 0 then ([], 0, (plainOut l (at_ + 1)).2.2)
       else match l[(plainOut l (at_ + 1)).2.1]? with
        | some d => if d = 59 then ((plainOut l (at_ + 1)).1, (plainOut l (at_ + 1)).2.1 + 1, 0) else ([], 0, 7)
        | none => ([], 0, 7)) := Lib.hid (by unfold refOut; rw [hc]; exact if_pos rfl)
      have HH := Lib.hid (And.intro h (And.intro hm hln))
      clear hm hat hat' he hc hb
      generalize plainOut l (at_ + 1) = res at *
      obtain ⟨s, k, f⟩ := res
      simp only at hle HR
      have HP := Lib.hid hp
      have hp' := hp
      unfold outV at hp' ⊢
      simp only at hp'
      clear hp
      have hcm : ((c.toNat : Int) != (c.toNat : Int)) = false := by simp
      by_cases hf : f = 0
      · subst hf
        have hle := hle rfl
        by_cases hk : k = n
        · subst hk
          have hre : refOut c l at_ = ([], 0, 7) := by rw [HR.out, if_neg (by simp), List.getElem?_eq_none (by rw [HH.out.2.2]; exact Nat.le_refl _)]
          rw [hre]
          clear hre h
          go_enter Tryz.func54, Tryz.ntmps54
          go_wp2_with fail
          refine hp'.mono ?_
          rintro e w1 ⟨rfl, hb1⟩
          have HB := Lib.hid hb1
          clear hb1 hcell hp'
          go_wp2
          go_ret3
          exact ⟨rfl, HB.out⟩
        · obtain ⟨b', o', d, e, hb', hd, hcd⟩ := h.cell (i := k) (by omega)
          cases e
          have hkn : (k : Int) < (n : Int) := by omega
          have hkne : ((k : Int) == (n : Int)) = false := by simp; omega
          have hre : refOut c l at_ = if d = 59 then (s, k + 1, 0) else ([], 0, 7) := by rw [HR.out, if_neg (by simp), hd]
          have hkp : IntKind.i64.wrap ((k : Int) + 1) = (k : Int) + 1 := by rw [IntKind.wrap_i64]; have := HH.out; omega
          by_cases hd59 : d = 59
          · subst hd59
            rw [hre, if_pos rfl]
            have hcd' : ∀ w1, Below w.heap.size w w1 → w1.cell? ⟨b, o + k, none⟩ = some (.int .u8 59) := fun w1 hb1 => by rw [hb1.cell hb']; exact hcd
            have HCD := Lib.hid hcd'
            clear hre h hcd hcd' hd
            go_enter Tryz.func54, Tryz.ntmps54
            go_wp2_with fail
            refine hp'.mono ?_
            rintro e w1 ⟨rfl, hb1⟩
            have hcz := HCD.out w1 hb1
            have HB := Lib.hid hb1
            clear hb1 hcell hp'
            go_wp2
            go_ret3
            exact ⟨rfl, HB.out⟩
          · rw [hre, if_neg hd59]
            have hcd' : ∀ w1, Below w.heap.size w w1 → w1.cell? ⟨b, o + k, none⟩ = some (.int .u8 d.toNat) := fun w1 hb1 => by rw [hb1.cell hb']; exact hcd
            have HCD := Lib.hid hcd'
            have hdn : ((d.toNat : Int) != 59) = true := by
              have := toNat_eq d 59
              simp only [show ((59 : UInt8).toNat : Int) = 59 from rfl] at this
              simp [bne, this, hd59]
            generalize d.toNat = dn at *
            clear hre h hcd hcd' hd
            go_enter Tryz.func54, Tryz.ntmps54
            go_wp2_with fail
            refine hp'.mono ?_
            rintro e w1 ⟨rfl, hb1⟩
            have hcz := HCD.out w1 hb1
            have HB := Lib.hid hb1
            clear hb1 hcell hp'
            go_wp2
            go_ret3
            exact ⟨rfl, HB.out⟩
      · have hre : refOut c l at_ = ([], 0, f) := by rw [HR.out, if_pos hf]
        rw [hre]
        have hfz : ((f : Int) != 0) = true := by simp; omega
        have hfz2 : ((f : Int) == 0) = false := by simp; omega
        clear hre h hle
        go_enter Tryz.func54, Tryz.ntmps54
        go_wp2_with fail
        refine hp'.mono ?_
        rintro e w1 ⟨rfl, hb1⟩
        have HB := Lib.hid hb1
        clear hb1 hcell hp'
        go_wp2
        go_ret3
        exact ⟨rfl, HB.out⟩
    · have hr : refOut mark l at_ = ([], 0, 7) := by unfold refOut; rw [hc]; simp [hcm]
      rw [hr]
      have hcm' : ((c.toNat : Int) != (mark.toNat : Int)) = true := by rw [bne, toNat_eq]; simp [hcm]
      generalize c.toNat = cn at *
      generalize mark.toNat = mn at *
      clear h hm hr hat hat'
      go_enter Tryz.func54, Tryz.ntmps54
      go_wp2
      go_ret3
      exact ⟨rfl, Below.refl _ _⟩
end Go.Proofs.YtfemfgkcgboopaaGreatDoor
/- References to entities at any place. -/
namespace Go.Proofs.YtfemfgkcgboopaaGreatDoor
open Go.ChangeShapes Go.WideShapes Go.ChangeAt Go.RowKit
set_option linter.unusedVariables false
set_option maxHeartbeats 2000000 in
theorem crefEntity_call (A : Option Addr) (n cap : Nat) (at_ : Int) (w : World) (v : List UInt8 × Nat × Nat)
    (h : Calls Tryz.prog 92 #[.slice A n cap, .int .i64 at_, .int .u8 38] w fun e w' => e = .returned (outV v) ∧ Below w.heap.size w w') :
    Calls Tryz.prog 69 #[.slice A n cap, .int .i64 at_] w fun e w' => e = .returned (outV v) ∧ Below w.heap.size w w' := by
  unfold outV at *
  go_enter Tryz.func69, Tryz.ntmps69
  go_wp2_with fail
  refine h.mono ?_
  rintro e w1 ⟨rfl, hb⟩
  have HB := Lib.hid hb
  clear hb h
  go_wp2
  go_ret3
  exact ⟨rfl, HB.out⟩
/-- What is read of a reference at any place. -/
def refAt (mark : UInt8) (l : List UInt8) (at_ : Int) : List UInt8 × Nat × Nat := if at_ < 0 ∨ (l.length : Int) < at_ then ([], 0, 3) else refOut mark l at_.toNat
theorem crefEntity_c (A : Option Addr) (n cap : Nat) (l : List UInt8) (at_ : Int) (w : World) (h : Byt w w.heap.size A n cap l) (hF : Forms w) (hT : Tabs w) (hm : n ≤ 50000) :
    Calls Tryz.prog 69 #[.slice A n cap, .int .i64 at_] w fun e w' => e = .returned (outV (refAt 38 l at_)) ∧ Below w.heap.size w w' := by
  refine crefEntity_call A n cap at_ w _ ?_
  have hl := h.length
  unfold refAt
  rw [hl]
  by_cases ha : at_ < 0 ∨ (n : Int) < at_
  · rw [if_pos ha]; exact crefRead_range A n cap at_ 38 w ha
  · rw [if_neg ha]
    have := crefRead_c A n cap l at_.toNat 38 w h hF hT hm (by omega)
    rwa [show ((at_.toNat : Nat) : Int) = at_ by omega] at this
theorem refEntityAt_c (A : Option Addr) (n cap : Nat) (l : List UInt8) (at_ : Int) (mark : UInt8) (w : World) (h : Byt w w.heap.size A n cap l) (hm : n ≤ 50000) :
    Calls Tryz.prog 54 #[.slice A n cap, .int .i64 at_, .int .u8 mark.toNat] w fun e w' => e = .returned (outV (refAt mark l at_)) ∧ Below w.heap.size w w' := by
  have hl := h.length
  unfold refAt
  rw [hl]
  by_cases ha : at_ < 0 ∨ (n : Int) < at_
  · rw [if_pos ha]; exact refEntity_range A n cap at_ mark.toNat w ha
  · rw [if_neg ha]
    have := refEntity_c A n cap l at_.toNat mark w h hm (by omega)
    rwa [show ((at_.toNat : Nat) : Int) = at_ by omega] at this
end Go.Proofs.YtfemfgkcgboopaaGreatDoor
/- Digits. -/
namespace Go.Proofs.YtfemfgkcgboopaaGreatDoor
open Go.ChangeShapes Go.WideShapes Go.ChangeAt Go.RowKit
set_option linter.unusedVariables false
/-- What a digit says to a base. -/
def digit (b : Int) (r : Int) : Int :=
  if 48 ≤ r ∧ r ≤ 57 then r - 48 else if 97 ≤ r ∧ r ≤ 102 then (if b = 16 then r - 87 else -1) else if 65 ≤ r ∧ r ≤ 70 then (if b = 16 then r - 55 else -1) else -1
set_option maxRecDepth 100000 in
set_option maxHeartbeats 4000000 in
theorem digit10_c (r : Int) (w : World) : Calls Tryz.prog 88 #[.int .i64 r, .int .i64 10] w fun e w' => e = .returned (.int .i64 (digit 10 r)) ∧ w = w' := by
  rcases (show r ≤ 47 ∨ (48 ≤ r ∧ r ≤ 57) ∨ (58 ≤ r ∧ r ≤ 64) ∨ (65 ≤ r ∧ r ≤ 70) ∨ (71 ≤ r ∧ r ≤ 96) ∨ (97 ≤ r ∧ r ≤ 102) ∨ 103 ≤ r by omega) with h | h | h | h | h | h | h
  · have e : digit 10 r = -1 := by unfold digit; (repeat' split) <;> omega
    rw [e]
    have a0 : decide (48 ≤ r) = false := by simp; omega
    have a1 : decide (r ≤ 57) = true := by simp; omega
    have a2 : decide (97 ≤ r) = false := by simp; omega
    have a3 : decide (r ≤ 102) = true := by simp; omega
    have a4 : decide (65 ≤ r) = false := by simp; omega
    have a5 : decide (r ≤ 70) = true := by simp; omega
    clear e h
    go_enter Tryz.func88, Tryz.ntmps88
    go_wp2
    go_ret
    exact ⟨rfl, rfl⟩
  · have e : digit 10 r = r - 48 := by unfold digit; (repeat' split) <;> omega
    rw [e]
    have a0 : decide (48 ≤ r) = true := by simp; omega
    have a1 : decide (r ≤ 57) = true := by simp; omega
    have a2 : decide (97 ≤ r) = false := by simp; omega
    have a3 : decide (r ≤ 102) = true := by simp; omega
    have a4 : decide (65 ≤ r) = false := by simp; omega
    have a5 : decide (r ≤ 70) = true := by simp; omega
    have b0 : decide (10 ≤ r - 48) = false := by simp; omega
    have c0 : -1000 ≤ r ∧ r ≤ 1000 := by omega
    obtain ⟨c1, c2⟩ := c0
    clear e h
    go_enter Tryz.func88, Tryz.ntmps88
    go_wp2
    go_ret
    exact ⟨rfl, rfl⟩
  · have e : digit 10 r = -1 := by unfold digit; (repeat' split) <;> omega
    rw [e]
    have a0 : decide (48 ≤ r) = true := by simp; omega
    have a1 : decide (r ≤ 57) = false := by simp; omega
    have a2 : decide (97 ≤ r) = false := by simp; omega
    have a3 : decide (r ≤ 102) = true := by simp; omega
    have a4 : decide (65 ≤ r) = false := by simp; omega
    have a5 : decide (r ≤ 70) = true := by simp; omega
    clear e h
    go_enter Tryz.func88, Tryz.ntmps88
    go_wp2
    go_ret
    exact ⟨rfl, rfl⟩
  · have e : digit 10 r = -1 := by unfold digit; (repeat' split) <;> omega
    rw [e]
    have a0 : decide (48 ≤ r) = true := by simp; omega
    have a1 : decide (r ≤ 57) = false := by simp; omega
    have a2 : decide (97 ≤ r) = false := by simp; omega
    have a3 : decide (r ≤ 102) = true := by simp; omega
    have a4 : decide (65 ≤ r) = true := by simp; omega
    have a5 : decide (r ≤ 70) = true := by simp; omega
    have b0 : decide (10 ≤ r - 65 + 10) = true := by simp; omega
    have c0 : -1000 ≤ r ∧ r ≤ 1000 := by omega
    obtain ⟨c1, c2⟩ := c0
    clear e h
    go_enter Tryz.func88, Tryz.ntmps88
    go_wp2
    go_ret
    exact ⟨rfl, rfl⟩
  · have e : digit 10 r = -1 := by unfold digit; (repeat' split) <;> omega
    rw [e]
    have a0 : decide (48 ≤ r) = true := by simp; omega
    have a1 : decide (r ≤ 57) = false := by simp; omega
    have a2 : decide (97 ≤ r) = false := by simp; omega
    have a3 : decide (r ≤ 102) = true := by simp; omega
    have a4 : decide (65 ≤ r) = true := by simp; omega
    have a5 : decide (r ≤ 70) = false := by simp; omega
    clear e h
    go_enter Tryz.func88, Tryz.ntmps88
    go_wp2
    go_ret
    exact ⟨rfl, rfl⟩
  · have e : digit 10 r = -1 := by unfold digit; (repeat' split) <;> omega
    rw [e]
    have a0 : decide (48 ≤ r) = true := by simp; omega
    have a1 : decide (r ≤ 57) = false := by simp; omega
    have a2 : decide (97 ≤ r) = true := by simp; omega
    have a3 : decide (r ≤ 102) = true := by simp; omega
    have a4 : decide (65 ≤ r) = true := by simp; omega
    have a5 : decide (r ≤ 70) = false := by simp; omega
    have b0 : decide (10 ≤ r - 97 + 10) = true := by simp; omega
    have c0 : -1000 ≤ r ∧ r ≤ 1000 := by omega
    obtain ⟨c1, c2⟩ := c0
    clear e h
    go_enter Tryz.func88, Tryz.ntmps88
    go_wp2
    go_ret
    exact ⟨rfl, rfl⟩
  · have e : digit 10 r = -1 := by unfold digit; (repeat' split) <;> omega
    rw [e]
    have a0 : decide (48 ≤ r) = true := by simp; omega
    have a1 : decide (r ≤ 57) = false := by simp; omega
    have a2 : decide (97 ≤ r) = true := by simp; omega
    have a3 : decide (r ≤ 102) = false := by simp; omega
    have a4 : decide (65 ≤ r) = true := by simp; omega
    have a5 : decide (r ≤ 70) = false := by simp; omega
    clear e h
    go_enter Tryz.func88, Tryz.ntmps88
    go_wp2
    go_ret
    exact ⟨rfl, rfl⟩
set_option maxRecDepth 100000 in
set_option maxHeartbeats 4000000 in
theorem digit16_c (r : Int) (w : World) : Calls Tryz.prog 88 #[.int .i64 r, .int .i64 16] w fun e w' => e = .returned (.int .i64 (digit 16 r)) ∧ w = w' := by
  rcases (show r ≤ 47 ∨ (48 ≤ r ∧ r ≤ 57) ∨ (58 ≤ r ∧ r ≤ 64) ∨ (65 ≤ r ∧ r ≤ 70) ∨ (71 ≤ r ∧ r ≤ 96) ∨ (97 ≤ r ∧ r ≤ 102) ∨ 103 ≤ r by omega) with h | h | h | h | h | h | h
  · have e : digit 16 r = -1 := by unfold digit; (repeat' split) <;> omega
    rw [e]
    have a0 : decide (48 ≤ r) = false := by simp; omega
    have a1 : decide (r ≤ 57) = true := by simp; omega
    have a2 : decide (97 ≤ r) = false := by simp; omega
    have a3 : decide (r ≤ 102) = true := by simp; omega
    have a4 : decide (65 ≤ r) = false := by simp; omega
    have a5 : decide (r ≤ 70) = true := by simp; omega
    clear e h
    go_enter Tryz.func88, Tryz.ntmps88
    go_wp2
    go_ret
    exact ⟨rfl, rfl⟩
  · have e : digit 16 r = r - 48 := by unfold digit; (repeat' split) <;> omega
    rw [e]
    have a0 : decide (48 ≤ r) = true := by simp; omega
    have a1 : decide (r ≤ 57) = true := by simp; omega
    have a2 : decide (97 ≤ r) = false := by simp; omega
    have a3 : decide (r ≤ 102) = true := by simp; omega
    have a4 : decide (65 ≤ r) = false := by simp; omega
    have a5 : decide (r ≤ 70) = true := by simp; omega
    have b0 : decide (16 ≤ r - 48) = false := by simp; omega
    have c0 : -1000 ≤ r ∧ r ≤ 1000 := by omega
    obtain ⟨c1, c2⟩ := c0
    clear e h
    go_enter Tryz.func88, Tryz.ntmps88
    go_wp2
    go_ret
    exact ⟨rfl, rfl⟩
  · have e : digit 16 r = -1 := by unfold digit; (repeat' split) <;> omega
    rw [e]
    have a0 : decide (48 ≤ r) = true := by simp; omega
    have a1 : decide (r ≤ 57) = false := by simp; omega
    have a2 : decide (97 ≤ r) = false := by simp; omega
    have a3 : decide (r ≤ 102) = true := by simp; omega
    have a4 : decide (65 ≤ r) = false := by simp; omega
    have a5 : decide (r ≤ 70) = true := by simp; omega
    clear e h
    go_enter Tryz.func88, Tryz.ntmps88
    go_wp2
    go_ret
    exact ⟨rfl, rfl⟩
  · have e : digit 16 r = r - 55 := by unfold digit; (repeat' split) <;> omega
    rw [e]
    have a0 : decide (48 ≤ r) = true := by simp; omega
    have a1 : decide (r ≤ 57) = false := by simp; omega
    have a2 : decide (97 ≤ r) = false := by simp; omega
    have a3 : decide (r ≤ 102) = true := by simp; omega
    have a4 : decide (65 ≤ r) = true := by simp; omega
    have a5 : decide (r ≤ 70) = true := by simp; omega
    have b0 : decide (16 ≤ r - 65 + 10) = false := by simp; omega
    have c0 : -1000 ≤ r ∧ r ≤ 1000 := by omega
    obtain ⟨c1, c2⟩ := c0
    clear e h
    go_enter Tryz.func88, Tryz.ntmps88
    go_wp2
    go_ret
    exact ⟨by rw [show r - 55 = r - 65 + 10 by omega]; rfl, rfl⟩
  · have e : digit 16 r = -1 := by unfold digit; (repeat' split) <;> omega
    rw [e]
    have a0 : decide (48 ≤ r) = true := by simp; omega
    have a1 : decide (r ≤ 57) = false := by simp; omega
    have a2 : decide (97 ≤ r) = false := by simp; omega
    have a3 : decide (r ≤ 102) = true := by simp; omega
    have a4 : decide (65 ≤ r) = true := by simp; omega
    have a5 : decide (r ≤ 70) = false := by simp; omega
    clear e h
    go_enter Tryz.func88, Tryz.ntmps88
    go_wp2
    go_ret
    exact ⟨rfl, rfl⟩
  · have e : digit 16 r = r - 87 := by unfold digit; (repeat' split) <;> omega
    rw [e]
    have a0 : decide (48 ≤ r) = true := by simp; omega
    have a1 : decide (r ≤ 57) = false := by simp; omega
    have a2 : decide (97 ≤ r) = true := by simp; omega
    have a3 : decide (r ≤ 102) = true := by simp; omega
    have a4 : decide (65 ≤ r) = true := by simp; omega
    have a5 : decide (r ≤ 70) = false := by simp; omega
    have b0 : decide (16 ≤ r - 97 + 10) = false := by simp; omega
    have c0 : -1000 ≤ r ∧ r ≤ 1000 := by omega
    obtain ⟨c1, c2⟩ := c0
    clear e h
    go_enter Tryz.func88, Tryz.ntmps88
    go_wp2
    go_ret
    exact ⟨by rw [show r - 87 = r - 97 + 10 by omega]; rfl, rfl⟩
  · have e : digit 16 r = -1 := by unfold digit; (repeat' split) <;> omega
    rw [e]
    have a0 : decide (48 ≤ r) = true := by simp; omega
    have a1 : decide (r ≤ 57) = false := by simp; omega
    have a2 : decide (97 ≤ r) = true := by simp; omega
    have a3 : decide (r ≤ 102) = false := by simp; omega
    have a4 : decide (65 ≤ r) = true := by simp; omega
    have a5 : decide (r ≤ 70) = false := by simp; omega
    clear e h
    go_enter Tryz.func88, Tryz.ntmps88
    go_wp2
    go_ret
    exact ⟨rfl, rfl⟩
end Go.Proofs.YtfemfgkcgboopaaGreatDoor
/- Numbers in references to characters: plain law. -/
namespace Go.Proofs.YtfemfgkcgboopaaGreatDoor
open Go.ChangeShapes Go.WideShapes Go.ChangeAt Go.RowKit
set_option linter.unusedVariables false
theorem digit_lt (b : Int) (hb : b = 10 ∨ b = 16) (r : Int) : digit b r < b ∧ -1 ≤ digit b r := by
  unfold digit
  rcases hb with rfl | rfl <;> (repeat' split) <;> omega
/-- The digits that bytes begin with. -/
def digs (b : Int) : List UInt8 → List UInt8
  | [] => []
  | c :: t => if 0 ≤ digit b c.toNat then c :: digs b t else []
theorem digs_le (b : Int) (l : List UInt8) : (digs b l).length ≤ l.length := by
  induction l with
  | nil => simp [digs]
  | cons c t ih => unfold digs; split <;> simp <;> omega
theorem digs_mem (b : Int) (l : List UInt8) : ∀ c ∈ digs b l, 0 ≤ digit b c.toNat := by
  induction l with
  | nil => simp [digs]
  | cons c t ih => 
    intro d hd
    unfold digs at hd
    split at hd
    · rcases List.mem_cons.1 hd with rfl | hd
      · assumption
      · exact ih d hd
    · simp at hd
/-- The byte at a place among the digits is one; the one behind them is none. -/
theorem digs_at (b : Int) (l : List UInt8) (k : Nat) (c : UInt8) (hk : k ≤ (digs b l).length) (hc : l[k]? = some c) : k < (digs b l).length ↔ 0 ≤ digit b c.toNat := by
  induction l generalizing k with
  | nil => simp at hc
  | cons d t ih =>
    unfold digs at hk ⊢
    cases k with
    | zero =>
      simp at hc
      subst hc
      split <;> simp_all
    | succ k =>
      split at hk
      · rename_i h
        rw [if_pos h]
        simp only [List.length_cons, Nat.add_lt_add_iff_right]
        exact ih k (by simpa using hk) (by simpa using hc)
      · simp at hk
theorem digs_take (b : Int) (l : List UInt8) : digs b l = l.take (digs b l).length := by
  induction l with
  | nil => simp [digs]
  | cons c t ih =>
    unfold digs
    split
    · simp only [List.length_cons, List.take_succ_cons]; rw [← ih]
    · simp
/-- The number of digits, no more than cap. -/
def numC (b cap : Int) (l : List UInt8) : Int := l.foldl (fun r c => min (r * b + digit b c.toNat) cap) 0
theorem numC_snoc (b cap : Int) (l : List UInt8) (c : UInt8) : numC b cap (l ++ [c]) = min (numC b cap l * b + digit b c.toNat) cap := by simp [numC]
/-- The number of digits. -/
def numU (b : Int) (l : List UInt8) : Int := l.foldl (fun r c => r * b + digit b c.toNat) 0
theorem numU_snoc (b : Int) (l : List UInt8) (c : UInt8) : numU b (l ++ [c]) = numU b l * b + digit b c.toNat := by simp [numU]
theorem numU_nonneg (b : Int) (hb : 1 ≤ b) (l : List UInt8) : (∀ c ∈ l, 0 ≤ digit b c.toNat) → 0 ≤ numU b l := by
  refine snoc_induction (P := fun l => (∀ c ∈ l, 0 ≤ digit b c.toNat) → 0 ≤ numU b l) ?_ ?_ l
  · intro _; simp [numU]
  · intro l x ih h
    rw [numU_snoc]
    have h1 := ih fun c hc => h c (List.mem_append_left _ hc)
    have h2 := h x (by simp)
    have h3 : 0 ≤ numU b l * b := Int.mul_nonneg h1 (by omega)
    omega
theorem numC_eq (b cap : Int) (hb : 1 ≤ b) (hc : 0 ≤ cap) (l : List UInt8) : (∀ c ∈ l, 0 ≤ digit b c.toNat) → numC b cap l = min (numU b l) cap := by
  refine snoc_induction (P := fun l => (∀ c ∈ l, 0 ≤ digit b c.toNat) → numC b cap l = min (numU b l) cap) ?_ ?_ l
  · intro _; simp only [numC, numU, List.foldl_nil]; omega
  · intro l x ih h
    have h1 := ih fun c hc => h c (List.mem_append_left _ hc)
    have h2 := h x (by simp)
    have h3 := numU_nonneg b hb l fun c hc => h c (List.mem_append_left _ hc)
    rw [numC_snoc, numU_snoc, h1]
    by_cases hle : numU b l ≤ cap
    · rw [Int.min_eq_left hle]
    · rw [Int.min_eq_right (by omega : cap ≤ numU b l)]
      have e1 : cap * 1 ≤ cap * b := Int.mul_le_mul_of_nonneg_left hb hc
      have e2 : numU b l * 1 ≤ numU b l * b := Int.mul_le_mul_of_nonneg_left hb h3
      rw [Int.min_eq_right (by omega : cap ≤ cap * b + _), Int.min_eq_right (by omega : cap ≤ numU b l * b + _)]
theorem numC_le (b cap : Int) (hc : 0 ≤ cap) (l : List UInt8) : numC b cap l ≤ cap := by
  refine snoc_induction (P := fun l => numC b cap l ≤ cap) (by simpa [numC] using hc) (fun l x ih => ?_) l
  rw [numC_snoc]; exact Int.min_le_right _ _
theorem numC_nonneg (b cap : Int) (hb : 1 ≤ b) (hc : 0 ≤ cap) (l : List UInt8) (h : ∀ c ∈ l, 0 ≤ digit b c.toNat) : 0 ≤ numC b cap l := by
  rw [numC_eq b cap hb hc l h]
  have := numU_nonneg b hb l h
  omega
/-- A cap above all characters changes neither which number is a character nor the character. -/
theorem cap_doc (b cap : Int) (hb : 1 ≤ b) (hc : 1114111 < cap) (l : List UInt8) (h : ∀ c ∈ l, 0 ≤ digit b c.toNat) : isDoc (numC b cap l) = isDoc (numU b l) ∧ (isDoc (numU b l) = true → numC b cap l = numU b l) := by
  rw [numC_eq b cap hb (by omega) l h]
  by_cases hle : numU b l ≤ cap
  · rw [Int.min_eq_left hle]; exact ⟨rfl, fun _ => rfl⟩
  · rw [Int.min_eq_right (by omega : cap ≤ numU b l)]
    have e1 : isDoc cap = false := by rw [Bool.eq_false_iff, Ne, isDoc_iff]; omega
    have e2 : isDoc (numU b l) = false := by rw [Bool.eq_false_iff, Ne, isDoc_iff]; omega
    exact ⟨by rw [e1, e2], fun h => by rw [e2] at h; cases h⟩
/-- What is read of a reference to a character: the number, the place behind, the fault. -/
def charBody (b : Int) (cap : Int) (l : List UInt8) (from_ : Nat) : Int × Nat × Nat :=
  let ds := digs b (l.drop from_)
  if ds.length = 0 ∨ l[from_ + ds.length]? ≠ some 59 then (0, 0, 7)
  else if isDoc (numC b cap ds) = true then (numC b cap ds, from_ + ds.length + 1, 0) else (0, 0, 6)
def charOut (l : List UInt8) (at_ : Nat) : Int × Nat × Nat :=
  if l[at_]? = some 38 ∧ l[at_ + 1]? = some 35 then
    (if l[at_ + 2]? = some 120 then charBody 16 2097152 l (at_ + 3) else charBody 10 2097152 l (at_ + 2))
  else (0, 0, 7)
theorem charBody_cap (b : Int) (hb : b = 10 ∨ b = 16) (c1 c2 : Int) (h1 : 1114111 < c1) (h2 : 1114111 < c2) (l : List UInt8) (k : Nat) : charBody b c1 l k = charBody b c2 l k := by
  unfold charBody
  have hm := digs_mem b (l.drop k)
  have a1 := cap_doc b c1 (by omega) h1 _ hm
  have a2 := cap_doc b c2 (by omega) h2 _ hm
  simp only [a1.1, a2.1]
  split
  · rfl
  · split
    · rename_i hd; rw [a1.2 hd, a2.2 hd]
    · rfl
end Go.Proofs.YtfemfgkcgboopaaGreatDoor
/- Quotes and references in texts: plain law. -/
namespace Go.Proofs.YtfemfgkcgboopaaGreatDoor
open Go.ChangeShapes Go.WideShapes Go.ChangeAt Go.RowKit
set_option linter.unusedVariables false
theorem ix_lo (c : UInt8) : ∀ r : List UInt8, -1 ≤ Lib.indexByte r c ∧ Lib.indexByte r c < r.length
  | [] => by simp [Lib.indexByte]
  | x :: r => by
    have := ix_lo c r
    simp only [Lib.indexByte, List.length_cons]
    split
    · omega
    · split <;> omega
theorem ix_at (c : UInt8) : ∀ r : List UInt8, 0 ≤ Lib.indexByte r c → r[(Lib.indexByte r c).toNat]? = some c ∧ ∀ j : Nat, (j : Int) < Lib.indexByte r c → r[j]? ≠ some c
  | [], h => by simp [Lib.indexByte] at h
  | x :: r, h => by
    by_cases hx : x = c
    · subst hx
      simp [Lib.indexByte]
      intro j hj; omega
    · have e : Lib.indexByte (x :: r) c = if Lib.indexByte r c == -1 then -1 else Lib.indexByte r c + 1 := by simp [Lib.indexByte, hx]
      rw [e] at h ⊢
      split at h
      · omega
      · rename_i h1
        rw [if_neg h1] at *
        have hlo := (ix_lo c r).1
        have h2 : 0 ≤ Lib.indexByte r c := by
          have : ¬ Lib.indexByte r c = -1 := by simpa using h1
          omega
        obtain ⟨a, b⟩ := ix_at c r h2
        refine ⟨?_, ?_⟩
        · rw [show (Lib.indexByte r c + 1).toNat = (Lib.indexByte r c).toNat + 1 by omega]
          simpa using a
        · intro j hj
          cases j with
          | zero => simpa using hx
          | succ j => simpa using b j (by omega)
theorem ix_none (c : UInt8) : ∀ r : List UInt8, Lib.indexByte r c < 0 → ∀ j : Nat, r[j]? ≠ some c
  | [], _ => by simp
  | x :: r, h => by
    by_cases hx : x = c
    · subst hx; simp [Lib.indexByte] at h
    · have e : Lib.indexByte (x :: r) c = if Lib.indexByte r c == -1 then -1 else Lib.indexByte r c + 1 := by simp [Lib.indexByte, hx]
      rw [e] at h
      have hlo := (ix_lo c r).1
      split at h
      · rename_i h1
        intro j
        cases j with
        | zero => simpa using hx
        | succ j => simpa using ix_none c r (by have : Lib.indexByte r c = -1 := by simpa using h1
                                                omega) j
      · rename_i h1
        have : ¬ Lib.indexByte r c = -1 := by simpa using h1
        omega
theorem refOut_next (m : UInt8) (l : List UInt8) (k : Nat) (h : (refOut m l k).2.2 = 0) : k < (refOut m l k).2.1 ∧ (refOut m l k).2.1 ≤ l.length := by
  unfold refOut at *
  cases hc : l[k]? with
  | none => rw [hc] at h; simp at h
  | some c =>
    rw [hc] at h
    simp only at h ⊢
    have hk : k < l.length := by
      rcases Nat.lt_or_ge k l.length with g | g
      · exact g
      · rw [List.getElem?_eq_none g] at hc; cases hc
    by_cases h1 : c = m
    · rw [if_pos h1] at h ⊢
      by_cases h2 : (plainOut l (k + 1)).2.2 ≠ 0
      · rw [if_pos h2] at h; exact absurd h h2
      · rw [if_neg h2] at h ⊢
        have hp := plainOut_le l (k + 1) (by omega) (by simpa using h2)
        cases hd : l[(plainOut l (k + 1)).2.1]? with
        | none => rw [hd] at h; simp at h
        | some d =>
          rw [hd] at h
          simp only at h ⊢
          have hk2 : (plainOut l (k + 1)).2.1 < l.length := by
            rcases Nat.lt_or_ge (plainOut l (k + 1)).2.1 l.length with g | g
            · exact g
            · rw [List.getElem?_eq_none g] at hd; cases hd
          by_cases h3 : d = 59
          · rw [if_pos h3]; simp only; omega
          · rw [if_neg h3] at h; simp at h
    · rw [if_neg h1] at h; simp at h
end Go.Proofs.YtfemfgkcgboopaaGreatDoor
