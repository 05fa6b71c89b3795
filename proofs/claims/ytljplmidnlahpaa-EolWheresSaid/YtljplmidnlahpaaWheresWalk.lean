/- The lines and places of any bytes: the law's walk. -/
import Derived.Test.YtljplmidnlahpaaRows
import Derived.WalkKit
import Derived.ProofKit
import Derived.OpenShut
import Derived.ShutString
import Derived.ChangeOld
import Derived.Below
import Derived.BigQuiet
import Derived.Deep.QuietTactic
import Derived.Lib.Hide
import Derived.Lib.SlBytesConst
import Derived.Laws.CopyOwn
import Derived.Laws.CopyRow
import Derived.Lib.Bytes
import Derived.Deep.LoopGhost
import Derived.Deep.DeepFit
import Derived.Deep.DeepMust
import Derived.WalkSpells
import Derived.WalkLawsBesides
import Derived.Test.YtljplmidnlahpaaBase
import Derived.Test.YtljplmidnlahpaaShelf
import Derived.Test.YtljplmidnlahpaaEolPlain
import Derived.Test.YtljplmidnlahpaaEolWalks
import Derived.Test.YtljplmidnlahpaaEolNorm
import Derived.Test.YtljplmidnlahpaaEolNorm2
namespace Go.Proofs.Ytljplmidnlahpaa
open Go.ChangeShapes Go.WideShapes Go.ChangeAt Go.RowKit
set_option linter.unusedVariables false
set_option maxRecDepth 100000 in
set_option maxHeartbeats 1000000 in
theorem wheres_walk (A : Option Addr) (n cap : Nat) (l : List UInt8) (at_ : Int) (w : World) (h : Byt w w.heap.size A n cap l) :
    Calls Try.prog 6 #[.slice A n cap, .int .i64 at_] w fun e w' => e = .returned (.bool true) ∧ Below w.heap.size w w' := by
  by_cases hn : 200 < n
  · go_enter Try.func6, Try.ntmps6
    go_wp2_with fail
    refine (liveEol_ok w).mono ?_
    rintro e w1 ⟨rfl, b1⟩
    go_wp2
    go_ret
    exact ⟨rfl, b1⟩
  · have hlen := h.length
    have hall : l.take n = l := by rw [← hlen, List.take_length]
    have hn' : n ≤ 200 := by omega
    have hbd := whr_le l
    rw [hlen] at hbd
    by_cases ha : at_ < 0 ∨ (n : Int) < at_
    · have hd0 : decide (at_ < 0) = true ∨ (decide (at_ < 0) = false ∧ (n : Int) < at_) := by
        rcases Int.lt_or_le at_ 0 with h' | h'
        · exact .inl (by simpa using h')
        · exact .inr ⟨by simp; omega, by omega⟩
      have HALL := Lib.hid hall
      have HA := Lib.hid ha
      clear hall hlen ha
      generalize hx : (whr l).1 = x at *
      have HX := Lib.hid hx
      clear hx
      rcases hd0 with hd | ⟨hd, hd1⟩
      all_goals
        go_enter Try.func6, Try.ntmps6
        go_wp2_with fail
        refine (eolWhere_no A n cap at_ w HA.out).mono ?_
        rintro e w1 ⟨rfl, rfl⟩
        go_wp2_with fail
        refine (refWhere A n cap l n w _ h (Nat.le_refl _) (by omega)).mono ?_
        rintro e w1 ⟨rfl, rfl⟩
        rw [HALL.out, HX.out]
        go_wp2_with fail
        refine (lines_c A n cap l w _ h (Nat.le_refl _) (by omega)).mono ?_
        rintro e w1 ⟨rfl, b1⟩
        rw [HX.out]
        have hxx : ((x : Int) != (x : Int)) = false := by simp
        go_wp2_with fail
        refine (liveEol_ok w1).mono ?_
        rintro e w2 ⟨rfl, b2⟩
        go_wp2
        go_ret
        exact ⟨rfl, b1.trans (b2.mono b1.size)⟩
    · obtain ⟨k, rfl⟩ := Int.eq_ofNat_of_zero_le (show 0 ≤ at_ by omega)
      have hk : k ≤ n := by omega
      have HALL := Lib.hid hall
      clear hall hlen ha
      generalize hx : (whr l).1 = x at *
      have HX := Lib.hid hx
      clear hx
      go_enter Try.func6, Try.ntmps6
      go_wp2_with fail
      refine (eolWhere A n cap l k w _ h (Nat.le_refl _) hk (by omega)).mono ?_
      rintro e w1 ⟨rfl, b1⟩
      have h1 := h.below b1
      go_wp2_with fail
      refine (refWhere A n cap l n w1 _ h1 (Nat.le_refl _) (by omega)).mono ?_
      rintro e w2 ⟨rfl, rfl⟩
      rw [HALL.out, HX.out]
      go_wp2_with fail
      refine (lines_c A n cap l w1 _ h1 b1.size (by omega)).mono ?_
      rintro e w2 ⟨rfl, b2⟩
      rw [HX.out]
      have hxx : ((x : Int) != (x : Int)) = false := by simp
      have h2 := h1.below (b2.mono b1.size)
      go_wp2_with fail
      refine (refWhere A n cap l k w2 _ h2 hk (by omega)).mono ?_
      rintro e w3 ⟨rfl, rfl⟩
      generalize (whr (l.take k)).1 = p
      generalize (whr (l.take k)).2 = q
      have hpp : ((p : Int) == (p : Int)) = true := by simp
      have hqq : ((q : Int) == (q : Int)) = true := by simp
      have b12 := b1.trans (b2.mono b1.size)
      go_wp2_with fail
      refine (liveEol_ok w2).mono ?_
      rintro e w3 ⟨rfl, b3⟩
      go_wp2
      go_ret
      exact ⟨rfl, b12.trans (b3.mono b12.size)⟩
end Go.Proofs.Ytljplmidnlahpaa
