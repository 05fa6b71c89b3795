/- The document's references by a mark. -/
import Derived.Test.YtpblphddpcogcaaDoorRows
import Derived.WalkKit
import Derived.ProofKit
import Derived.OpenShut
import Derived.ShutString
import Derived.ChangeOld
import Derived.Below
import Derived.BigQuiet
import Derived.Deep.QuietTactic
import Derived.Lib.Hide
import Derived.Deep.RegionHeld3
import Derived.Lib.SlBytesConst
import Derived.Laws.CopyOwn
import Derived.Laws.CopyRow
import Derived.Lib.Bytes
import Derived.Deep.LoopGhost
import Derived.Deep.DeepFit
import Derived.Deep.DeepMust
import Derived.WalkSpells
import Derived.WalkLawsBesides
import Derived.Laws.EntriesVeiled
import Derived.Laws.Rows
import Derived.Test.YtpblphddpcogcaaDoorBase
import Derived.Test.YtpblphddpcogcaaDoorShelf
import Derived.Test.YtpblphddpcogcaaDoorCharPlain
import Derived.Test.YtpblphddpcogcaaDoorUtf1
import Derived.Test.YtpblphddpcogcaaDoorUtf2
import Derived.Test.YtpblphddpcogcaaDoorUtf3
import Derived.Test.YtpblphddpcogcaaDoorChars1
import Derived.Test.YtpblphddpcogcaaDoorName1
import Derived.Test.YtpblphddpcogcaaDoorName2
import Derived.Test.YtpblphddpcogcaaDoorName3
import Derived.Test.YtpblphddpcogcaaDoorCref1
import Derived.Test.YtpblphddpcogcaaDoorRef1
import Derived.Test.YtpblphddpcogcaaDoorRef2
import Derived.Test.YtpblphddpcogcaaDoorRef3
import Derived.Test.YtpblphddpcogcaaDoorRef4
import Derived.Test.YtpblphddpcogcaaDoorRef5
import Derived.Test.YtpblphddpcogcaaDoorRef6
import Derived.Test.YtpblphddpcogcaaDoorRef7
import Derived.Test.YtpblphddpcogcaaDoorRef8
namespace Go.Proofs.YtpblphddpcogcaaDoor
open Go.ChangeShapes Go.WideShapes Go.ChangeAt Go.RowKit
set_option linter.unusedVariables false
set_option maxRecDepth 100000 in
set_option maxHeartbeats 2000000 in
theorem refEntity_range (A : Option Addr) (n cap : Nat) (at_ : Int) (mark : Int) (w : World) (ha : at_ < 0 ∨ (n : Int) < at_) :
    Calls Tryd.prog 59 #[.slice A n cap, .int .i64 at_, .int .u8 mark] w fun e w' => e = .returned (outV ([], 0, 3)) ∧ Below w.heap.size w w' := by
  by_cases h0 : at_ < 0
  · have hd : decide (at_ < 0) = true := by simpa using h0
    clear ha
    go_enter Tryd.func59, Tryd.ntmps59
    go_wp2
    go_ret3
    exact ⟨rfl, Below.refl _ _⟩
  · have h1 : (n : Int) < at_ := by omega
    clear ha
    go_enter Tryd.func59, Tryd.ntmps59
    go_wp2
    go_ret3
    exact ⟨rfl, Below.refl _ _⟩
set_option maxRecDepth 100000 in
set_option maxHeartbeats 2000000 in
theorem refEntity_c (A : Option Addr) (n cap : Nat) (l : List UInt8) (at_ : Nat) (mark : UInt8) (w : World) (h : Byt w w.heap.size A n cap l) (hm : n ≤ 50000) (hat : at_ ≤ n) :
    Calls Tryd.prog 59 #[.slice A n cap, .int .i64 at_, .int .u8 mark.toNat] w fun e w' => e = .returned (outV (refOut mark l at_)) ∧ Below w.heap.size w w' := by
  have hln := h.length
  have hat' : ¬ (n : Int) < (at_ : Int) := by omega
  have hap : IntKind.i64.wrap ((at_ : Int) + 1) = (at_ : Int) + 1 := by rw [IntKind.wrap_i64]; omega
  by_cases he : at_ = n
  · subst he
    have hr : refOut mark l at_ = ([], 0, 7) := by unfold refOut; rw [List.getElem?_eq_none (by omega)]
    rw [hr]
    clear h hm hr hat hat'
    go_enter Tryd.func59, Tryd.ntmps59
    go_wp2
    go_ret3
    exact ⟨rfl, Below.refl _ _⟩
  · have hlt : at_ < n := by omega
    obtain ⟨b, o, c, rfl, hb, hc, hcell⟩ := h.cell hlt
    have hne : ((at_ : Int) == (n : Int)) = false := by simp; omega
    have hli : (at_ : Int) < (n : Int) := by omega
    by_cases hcm : c = mark
    · subst hcm
      have hp := refRead_c (some ⟨b, o, none⟩) n cap l (at_ + 1) w h (by omega) (by omega)
      rw [show ((at_ + 1 : Nat) : Int) = (at_ : Int) + 1 by omega] at hp
      have hle := plainOut_le l (at_ + 1) (by omega)
      have HR : Hid (refOut c l at_ = if (plainOut l (at_ + 1)).2.2 ≠ 0 then ([], 0, (plainOut l (at_ + 1)).2.2)
       else match l[(plainOut l (at_ + 1)).2.1]? with
        | some d => if d = 59 then ((plainOut l (at_ + 1)).1, (plainOut l (at_ + 1)).2.1 + 1, 0) else ([], 0, 7)
        | none => ([], 0, 7)) := Lib.hid (by unfold refOut; rw [hc]; exact if_pos rfl)
      have HH := Lib.hid (And.intro h (And.intro hm hln))
      clear hm hat hat' he hc hb
      generalize plainOut l (at_ + 1) = res at *
      obtain ⟨s, k, f⟩ := res
      simp only at hle HR
      have HP := Lib.hid hp
      have hp' := hp
      unfold outV at hp' ⊢
      simp only at hp'
      clear hp
      have hcm : ((c.toNat : Int) != (c.toNat : Int)) = false := by simp
      by_cases hf : f = 0
      · subst hf
        have hle := hle rfl
        by_cases hk : k = n
        · subst hk
          have hre : refOut c l at_ = ([], 0, 7) := by rw [HR.out, if_neg (by simp), List.getElem?_eq_none (by rw [HH.out.2.2]; exact Nat.le_refl _)]
          rw [hre]
          clear hre h
          go_enter Tryd.func59, Tryd.ntmps59
          go_wp2_with fail
          refine hp'.mono ?_
          rintro e w1 ⟨rfl, hb1⟩
          have HB := Lib.hid hb1
          clear hb1 hcell hp'
          go_wp2
          go_ret3
          exact ⟨rfl, HB.out⟩
        · obtain ⟨b', o', d, e, hb', hd, hcd⟩ := h.cell (i := k) (by omega)
          cases e
          have hkn : (k : Int) < (n : Int) := by omega
          have hkne : ((k : Int) == (n : Int)) = false := by simp; omega
          have hre : refOut c l at_ = if d = 59 then (s, k + 1, 0) else ([], 0, 7) := by rw [HR.out, if_neg (by simp), hd]
          have hkp : IntKind.i64.wrap ((k : Int) + 1) = (k : Int) + 1 := by rw [IntKind.wrap_i64]; have := HH.out; omega
          by_cases hd59 : d = 59
          · subst hd59
            rw [hre, if_pos rfl]
            have hcd' : ∀ w1, Below w.heap.size w w1 → w1.cell? ⟨b, o + k, none⟩ = some (.int .u8 59) := fun w1 hb1 => by rw [hb1.cell hb']; exact hcd
            have HCD := Lib.hid hcd'
            clear hre h hcd hcd' hd
            go_enter Tryd.func59, Tryd.ntmps59
            go_wp2_with fail
            refine hp'.mono ?_
            rintro e w1 ⟨rfl, hb1⟩
            have hcz := HCD.out w1 hb1
            have HB := Lib.hid hb1
            clear hb1 hcell hp'
            go_wp2
            go_ret3
            exact ⟨rfl, HB.out⟩
          · rw [hre, if_neg hd59]
            have hcd' : ∀ w1, Below w.heap.size w w1 → w1.cell? ⟨b, o + k, none⟩ = some (.int .u8 d.toNat) := fun w1 hb1 => by rw [hb1.cell hb']; exact hcd
            have HCD := Lib.hid hcd'
            have hdn : ((d.toNat : Int) != 59) = true := by
              have := toNat_eq d 59
              simp only [show ((59 : UInt8).toNat : Int) = 59 from rfl] at this
              simp [bne, this, hd59]
            generalize d.toNat = dn at *
            clear hre h hcd hcd' hd
            go_enter Tryd.func59, Tryd.ntmps59
            go_wp2_with fail
            refine hp'.mono ?_
            rintro e w1 ⟨rfl, hb1⟩
            have hcz := HCD.out w1 hb1
            have HB := Lib.hid hb1
            clear hb1 hcell hp'
            go_wp2
            go_ret3
            exact ⟨rfl, HB.out⟩
      · have hre : refOut c l at_ = ([], 0, f) := by rw [HR.out, if_pos hf]
        rw [hre]
        have hfz : ((f : Int) != 0) = true := by simp; omega
        have hfz2 : ((f : Int) == 0) = false := by simp; omega
        clear hre h hle
        go_enter Tryd.func59, Tryd.ntmps59
        go_wp2_with fail
        refine hp'.mono ?_
        rintro e w1 ⟨rfl, hb1⟩
        have HB := Lib.hid hb1
        clear hb1 hcell hp'
        go_wp2
        go_ret3
        exact ⟨rfl, HB.out⟩
    · have hr : refOut mark l at_ = ([], 0, 7) := by unfold refOut; rw [hc]; simp [hcm]
      rw [hr]
      have hcm' : ((c.toNat : Int) != (mark.toNat : Int)) = true := by rw [bne, toNat_eq]; simp [hcm]
      generalize c.toNat = cn at *
      generalize mark.toNat = mn at *
      clear h hm hr hat hat'
      go_enter Tryd.func59, Tryd.ntmps59
      go_wp2
      go_ret3
      exact ⟨rfl, Below.refl _ _⟩
end Go.Proofs.YtpblphddpcogcaaDoor
