/- The stack's law on what comes back the other way round, and the page's example: the walks. -/
import Derived.Test.YtljplmidnlahpaaRows
import Derived.WalkKit
import Derived.ProofKit
import Derived.OpenShut
import Derived.ShutString
import Derived.ChangeOld
import Derived.Below
import Derived.BigQuiet
import Derived.Deep.QuietTactic
import Derived.Lib.Hide
import Derived.Deep.LoopGhost
import Derived.Deep.DeepFit
import Derived.Deep.DeepMust
import Derived.WalkSpells
import Derived.WalkLawsBesides
import Derived.Test.YtljplmidnlahpaaBase
import Derived.Test.YtljplmidnlahpaaShelf
import Derived.Test.YtljplmidnlahpaaStk
namespace Go.Proofs.Ytljplmidnlahpaa
open Go.ChangeShapes Go.WideShapes Go.ChangeAt Go.RowKit
set_option linter.unusedVariables false
theorem live_ok (w : World) : Calls Try.prog 9 #[] w fun e w' => e = .returned (.bool true) ∧ Below w.heap.size w w' := by
  go_enter Try.func9, Try.ntmps9
  go_wp2_with fail
  refine (new_ok 2 w (by omega) (by omega)).mono ?_
  rintro e w1 ⟨rfl, s1, b1, z1⟩
  go_wp2_with fail
  refine (push_ok 2 1 _ _ _ s1 (by simp)).mono ?_
  rintro e w2 ⟨rfl, s2, g2⟩
  go_wp2_with fail
  refine (push_ok 2 2 _ _ _ s2 (by simp)).mono ?_
  rintro e w3 ⟨rfl, s3, g3⟩
  go_wp2_with fail
  refine (push_full 2 3 _ _ _ s3 (by simp)).mono ?_
  rintro e w4 ⟨rfl, n4, rfl⟩
  have s4 := s3.drewN (n := n4)
  go_wp2_with fail
  refine (pop_some 2 _ _ _ _ s4).mono ?_
  rintro e w5 ⟨rfl, s5, g5⟩
  go_wp2_with fail
  refine (len_of 2 _ _ _ s5).mono ?_
  rintro e w6 ⟨rfl, rfl⟩
  go_wp2
  go_ret
  have z2 := g2.size
  have z3 := g3.size
  exact ⟨rfl, (below_drewN ((b1.trans (g2.below (by omega) (Nat.le_refl _))).trans (g3.below (by omega) (Nat.le_refl _))) _).trans (g5.below (by simp; omega) (Nat.le_refl _))⟩

set_option maxHeartbeats 400000 in
theorem turns_long (a : Option Addr) (len cap : Nat) (z : List Int) (r : Int) (w : World) (h : 300 < len) :
    Calls Try.prog 3 #[.slice a len cap, .int .u8 r] w fun e w' => e = .returned (.bool true) ∧ Below w.heap.size w w' := by
  go_enter Try.func3, Try.ntmps3
  go_wp2_with fail
  refine (live_ok w).mono ?_
  rintro e w1 ⟨rfl, b1⟩
  go_wp2
  go_ret
  exact ⟨rfl, b1⟩

theorem take_rev (z : List Int) (m : Nat) (h : m < z.length) : (z.take (m + 1)).reverse = z.getD m 0 :: (z.take m).reverse := by
  rw [List.take_succ_eq_append_getElem h]
  simp [List.getD_eq_getElem?_getD, List.getElem?_eq_getElem h]

set_option maxRecDepth 100000 in
set_option maxHeartbeats 400000 in
theorem turns_short (a : Option Addr) (len cap : Nat) (z : List Int) (r : Int) (w : World) (h : len ≤ 300) (hr : 0 ≤ r) (hr2 : r < 256) (hz : len ≤ z.length)
    (hc : 0 < len → ∃ b o, a = some ⟨b, o, none⟩ ∧ b < w.heap.size ∧ ∀ i, i < len → w.cell? ⟨b, o + i, none⟩ = some (.int .i64 (z.getD i 0))) :
    Calls Try.prog 3 #[.slice a len cap, .int .u8 r] w fun e w' => e = .returned (.bool true) ∧ Below w.heap.size w w' := by
  obtain ⟨r, rfl⟩ := Int.eq_ofNat_of_zero_le hr
  go_enter Try.func3, Try.ntmps3
  go_wp2_with fail
  refine (new_ok r w (by omega) (by omega)).mono ?_
  rintro e w1 ⟨rfl, s1, b1, z1⟩
  go_wp2_with fail
  go_loopg [7, 8] (len) (fun k n i wr => ∃ j : Nat, j ≤ len ∧ k = len - j ∧ i = .int .i64 j ∧ n = .int .i64 (min j r : Nat) ∧ Stk wr w.heap.size r ((z.take (min j r)).reverse) ∧ Below w.heap.size w wr ∧ w.heap.size < wr.heap.size)
  case atStart => exact ⟨0, Nat.zero_le _, rfl, rfl, by simp, by simpa using s1, b1, z1⟩
  case round =>
    obtain ⟨j, hj, rfl, rfl, rfl, s, b, zz⟩ := hrel
    clear b1 s1 z1
    by_cases hlt : j < len
    · obtain ⟨gb, go, rfl, hgb, hcell⟩ := hc (by omega)
      have hcj : wr.cell? ⟨gb, go + j, none⟩ = some (.int .i64 (z.getD j 0)) := by rw [b.cell hgb]; exact hcell j hlt
      have hjl : (j : Int) < len := by omega
      have hlen : ((z.take (min j r)).reverse).length = min j r := by simp; omega
      have H := Lib.hid hc
      have H2 := Lib.hid hcell
      clear hc hcell
      have hzj : j < z.length := by omega
      have hmj : min j r ≤ j := by omega
      by_cases hfull : j < r
      · have hm : min j r = j := by omega
        have hm1 : min (j + 1) r = j + 1 := by omega
        rw [hm] at s hlen
        have hp := push_ok (r : Int) (z.getD j 0) _ _ _ s (by rw [hlen]; omega)
        rw [← take_rev z j hzj] at hp
        generalize z.getD j 0 = x at hp hcj
        have HP := Lib.hid hp
        have HM := Lib.hid hm1
        rw [hm]
        clear hp s hlen hm hm1 hmj
        go_wp2_with fail
        refine HP.out.mono ?_
        rintro e w2 ⟨rfl, s2, g2⟩
        clear HP
        go_wp2
        go_roundg (len - (j + 1))
        case measure => omega
        case rel => exact ⟨j + 1, by omega, rfl, rfl, by rw [HM.out]; rfl, by rw [HM.out]; exact s2, b.trans (g2.below (Nat.le_of_lt zz) (Nat.le_refl _)), Nat.lt_of_lt_of_le zz g2.size⟩
      · have hm : min j r = r := by omega
        have hm1 : min (j + 1) r = r := by omega
        rw [hm] at s hlen
        generalize z.getD j 0 = x at hcj
        have HM := Lib.hid hm1
        have HL := Lib.hid hlen
        rw [hm]
        clear hm hm1 hlen hmj
        go_wp2_with fail
        refine (push_full (r : Int) x _ _ _ s (by rw [HL.out]; exact Int.le_refl _)).mono ?_
        rintro e w2 ⟨rfl, n2, rfl⟩
        go_wp2
        go_roundg (len - (j + 1))
        case measure => omega
        case rel => exact ⟨j + 1, by omega, rfl, rfl, by rw [HM.out], by rw [HM.out]; exact s.drewN, below_drewN b _, zz⟩
    · have hje : j = len := by omega
      subst hje
      have hjl : ¬ (j : Int) < j := by omega
      have hlen : ((z.take (min j r)).reverse).length = min j r := by simp; omega
      have hmz : min j r ≤ j := by omega
      have hmin : (min (j : Int) (r : Int)) = ((min j r : Nat) : Int) := by omega
      generalize hM : min j r = M at *
      have HM := Lib.hid hM
      have HL := Lib.hid hlen
      clear hM hlen
      have hgd : ((M : Int) != (if (r : Int) < j then (r : Int) else j)) = false := by
        have := HM.out; simp; split <;> omega
      go_wp2_with fail
      refine (len_of (r : Int) _ _ _ s).mono ?_
      rintro e w2 ⟨rfl, rfl⟩
      rw [HL.out]
      have hMM : ((M : Int) != (M : Int)) = false := by simp
      have hM0 : (0 : Int) ≤ (M : Int) := by omega
      go_wp2_with fail
      go_loopg [9] (M) (fun k i wr => ∃ (m : Nat) (q : Int), k = m ∧ m ≤ M ∧ i = .int .i64 q ∧ q = (m : Int) - 1 ∧ Stk wr w.heap.size r ((z.take m).reverse) ∧ Below w.heap.size w wr ∧ w.heap.size < wr.heap.size)
      case atStart => exact ⟨M, _, rfl, Nat.le_refl _, rfl, rfl, s, b, zz⟩
      case round =>
        clear s b zz
        obtain ⟨m, q, rfl, hm, rfl, hq, s, b, zz⟩ := hrel
        cases gk with
        | zero =>
          have hq0 : q < 0 := by omega
          have HQ := Lib.hid hq
          have hq1 : -1 ≤ q := by omega
          clear hq
          go_wp2_with fail
          refine (pop_none (r : Int) _ _ s).mono ?_
          rintro e w2 ⟨rfl, rfl⟩
          go_wp2_with fail
          refine (live_ok _).mono ?_
          rintro e w3 ⟨rfl, b3⟩
          go_wp2
          go_ret
          exact ⟨rfl, b.trans (b3.mono (Nat.le_of_lt zz))⟩
        | succ m =>
          obtain rfl : q = (m : Int) := by omega
          have hzm : m < z.length := by omega
          have hmm : m < j := by omega
          obtain ⟨gb, go, rfl, hgb, hcell⟩ := hc (by omega)
          have hcm : w.cell? ⟨gb, go + m, none⟩ = some (.int .i64 (z.getD m 0)) := hcell m hmm
          have H := Lib.hid hc
          have H2 := Lib.hid hcell
          have hm0 : (0 : Int) ≤ (m : Int) := by omega
          have hmj : (m : Int) < (j : Int) := by omega
          rw [take_rev z m hzm] at s
          generalize z.getD m 0 = x at hcm s
          clear hc hcell hq
          go_wp2_with fail
          refine (pop_some (r : Int) x _ _ _ s).mono ?_
          rintro e w2 ⟨rfl, s2, g2⟩
          have b2 := b.trans (g2.below (Nat.le_of_lt zz) (Nat.le_refl _))
          have hcm2 : w2.cell? ⟨gb, go + m, none⟩ = some (.int .i64 x) := by rw [b2.cell hgb]; exact hcm
          have hxx : (x != x) = false := by simp
          go_wp2
          go_roundg m
          case measure => exact Nat.lt_succ_self _
          case rel => exact ⟨m, _, rfl, by omega, rfl, rfl, s2, b2, Nat.lt_of_lt_of_le zz g2.size⟩
end Go.Proofs.Ytljplmidnlahpaa
