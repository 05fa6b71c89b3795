/- Where any line begins, its bytes, and all lines together: the law's walk. The steps of its last statement, which draws its order, were printed by a program of ours (wip/tools/gen_region.py). -/
import Derived.Test.YtljplmidnlahpaaRows
import Derived.WalkKit
import Derived.ProofKit
import Derived.OpenShut
import Derived.ShutString
import Derived.ChangeOld
import Derived.Below
import Derived.BigQuiet
import Derived.Deep.QuietTactic
import Derived.Lib.Hide
import Derived.Deep.RegionHeld3
import Derived.Lib.SlBytesConst
import Derived.Laws.CopyOwn
import Derived.Laws.CopyRow
import Derived.Lib.Bytes
import Derived.Deep.LoopGhost
import Derived.Deep.DeepFit
import Derived.Deep.DeepMust
import Derived.WalkSpells
import Derived.WalkLawsBesides
import Derived.Test.YtljplmidnlahpaaBase
import Derived.Test.YtljplmidnlahpaaShelf
import Derived.Test.YtljplmidnlahpaaEolPlain
import Derived.Test.YtljplmidnlahpaaEolPlain2
import Derived.Test.YtljplmidnlahpaaEolWalks
import Derived.Test.YtljplmidnlahpaaEolNorm
import Derived.Test.YtljplmidnlahpaaEolNorm2
import Derived.Test.YtljplmidnlahpaaEolAt
import Derived.Test.YtljplmidnlahpaaEolLine
namespace Go.Proofs.Ytljplmidnlahpaa
open Go.ChangeShapes Go.WideShapes Go.ChangeAt Go.RowKit
set_option linter.unusedVariables false
/-- What the lines that have been read make together, a line feed between each two. -/
def pre (l : List UInt8) (j : Nat) : List UInt8 := if j = 0 then [] else l.take (stt l (j - 1) + (lnOf (l.drop (stt l (j - 1)))).length)
theorem pre_next (l : List UInt8) (j : Nat) (hj : j ≤ l.count 10) : (if j = 0 then pre l j else pre l j ++ [10]) ++ lnOf (l.drop (stt l j)) = pre l (j + 1) := by
  have hlast : l.take (stt l j) ++ lnOf (l.drop (stt l j)) = pre l (j + 1) := by
    rw [pre, if_neg (by omega), Nat.add_sub_cancel, List.take_add, ← lnOf_take]
  cases j with
  | zero => exact hlast
  | succ i =>
    rw [if_neg (by omega), ← hlast]
    congr 1
    obtain ⟨h1, h2⟩ := lnOf_spec l i (by omega)
    rw [pre, if_neg (by omega), Nat.add_sub_cancel, List.take_add, ← lnOf_take]
    exact h1
theorem pre_all (l : List UInt8) : pre l (l.count 10 + 1) = l := by
  rw [← pre_next l _ (Nat.le_refl _)]
  split
  · rename_i h
    have := lnOf_last l
    rw [h] at this ⊢
    exact this
  · rename_i h
    obtain ⟨i, hi⟩ : ∃ i, l.count 10 = i + 1 := ⟨l.count 10 - 1, by omega⟩
    have := lnOf_last l
    rw [hi] at this ⊢
    obtain ⟨h1, h2⟩ := lnOf_spec l i (by omega)
    rw [pre, if_neg (by omega), Nat.add_sub_cancel, List.take_add, ← lnOf_take, h1]
    exact this
theorem str_append (a b : List UInt8) : (⟨a.toArray⟩ : ByteArray) ++ ⟨b.toArray⟩ = ⟨(a ++ b).toArray⟩ := by
  apply ByteArray.ext
  rw [ByteArray.data_append]
  simp

set_option maxRecDepth 100000 in
set_option maxHeartbeats 2000000 in
theorem lines_out (A : Option Addr) (n cap : Nat) (l : List UInt8) (k : Int) (w : World) (h : Byt w w.heap.size A n cap l) (hn : n ≤ 100) (hk : k < 1 ∨ (l.count 10 : Int) + 1 < k) :
    Calls Try.prog 8 #[.slice A n cap, .int .i64 k] w fun e w' => e = .returned (.bool true) ∧ Below w.heap.size w w' := by
  have hw := whr_fst l
  generalize hx : (whr l).1 = x at hw
  have HX := Lib.hid hx
  have hkx : k < 1 ∨ (k < 1) = False ∧ (x : Int) < k := by
    rcases hk with h | h
    · exact .inl h
    · by_cases h1 : k < 1
      · exact .inl h1
      · exact .inr ⟨by simp [h1], by omega⟩
  have HK := Lib.hid hk
  clear hx hw hk
  have hd : decide (k < 1) = true ∨ (decide (k < 1) = false ∧ (x : Int) < k) := by
    rcases hkx with h | ⟨h, h'⟩
    · exact .inl (by simpa using h)
    · exact .inr ⟨by simpa using h, h'⟩
  clear hkx
  rcases hd with hd | ⟨hd, hd2⟩
  all_goals
    go_enter Try.func8, Try.ntmps8
    go_wp2_with fail
    refine (eolAt_no A n cap l k w _ h (Nat.le_refl _) (by omega) HK.out).mono ?_
    rintro e w1 ⟨rfl, b1⟩
    have h1 := h.below b1
    go_wp2_with fail
    refine (line_no A n cap l k w1 _ h1 b1.size (by omega) HK.out).mono ?_
    rintro e w2 ⟨rfl, b2⟩
    have h2 := h1.below (b2.mono b1.size)
    have b12 := b1.trans (b2.mono b1.size)
    go_wp2_with fail
    refine (lines_c A n cap l w2 _ h2 b12.size (by omega)).mono ?_
    rintro e w3 ⟨rfl, b3⟩
    have b13 := b12.trans (b3.mono b12.size)
    rw [HX.out]
    clear b1 b2 b3 b12
    go_wp2_with fail
    refine (liveEol_ok w3).mono ?_
    rintro e w4 ⟨rfl, b4⟩
    go_wp2
    go_ret
    exact ⟨rfl, b13.trans (b4.mono b13.size)⟩

set_option maxRecDepth 100000 in
set_option linter.unusedSimpArgs false in
set_option maxHeartbeats 20000000 in
theorem lines_in (A : Option Addr) (n cap : Nat) (l : List UInt8) (k : Nat) (w : World) (h : Byt w w.heap.size A n cap l) (hn : n ≤ 100) (hk : k ≤ l.count 10) :
    Calls Try.prog 8 #[.slice A n cap, .int .i64 ((k : Int) + 1)] w fun e w' => e = .returned (.bool true) ∧ Below w.heap.size w w' := by
  have hw := whr_fst l
  have hcl := List.count_le_length (a := (10 : UInt8)) (l := l)
  rw [h.length] at hcl
  obtain ⟨f1, f2, f3⟩ := stt_facts l k hk
  rw [h.length] at f1
  have hcap := h.le
  have hfit := h.fit
  unfold maxLen at hfit
  have hkx : (k : Int) + 1 ≤ ((whr l).1 : Int) := by omega
  have hxb : ((whr l).1 : Int) ≤ 101 := by omega
  have hat := Lib.hid (fun w1 B h hB => eolAt_ok A n cap l k w1 B h hB (by omega) hk)
  have hln := Lib.hid (fun w1 B h hB => line_ok A n cap l k w1 B h hB (by omega) hk)
  have hra := Lib.hid (fun w1 B h => refAt_c A n cap l k w1 B h (by omega) hk)
  have hlt := lnOf_take (l.drop (stt l k))
  have hll := lnOf_le (l.drop (stt l k))
  rw [List.length_drop, h.length] at hll
  generalize hx : (whr l).1 = x at *
  generalize hs : stt l k = s at *
  have HX := Lib.hid (And.intro hx (And.intro hw (And.intro hk (And.intro f2 (And.intro hs hlt)))))
  clear hx hw hk f2 f3 hs hlt
  have hkk : (k : Int) ≤ 100 := by omega
  have hsn : (s : Int) ≤ (n : Int) := by omega
  go_enter Try.func8, Try.ntmps8
  go_wp2_with fail
  refine (hat.out w _ h (Nat.le_refl _)).mono ?_
  rintro e w1 ⟨rfl, b1⟩
  have h1 := h.below b1
  go_wp2_with fail
  refine (hln.out w1 _ h1 b1.size).mono ?_
  rintro e w2 ⟨A1, m, c, rfl, hy2, b2⟩
  have h2 := h1.below (b2.mono b1.size)
  have b12 := b1.trans (b2.mono b1.size)
  have hym := hy2.length
  have hms : (m : Int) ≤ (n : Int) - (s : Int) := by omega
  have HM := Lib.hid hym
  clear hym hll b1 b2 h1
  go_wp2_with fail
  refine (lines_c A n cap l w2 _ h2 b12.size (by omega)).mono ?_
  rintro e w3 ⟨rfl, b3⟩
  have b13 := b12.trans (b3.mono b12.size)
  have h3 := h2.below (b3.mono b12.size)
  have hy3 := hy2.below b3
  have hz23 : w2.heap.size ≤ w3.heap.size := b3.size
  rw [HX.out.1]
  clear b12 b3 h2 hy2
  go_wp2_with fail
  refine (hra.out w3 _ h3).mono ?_
  rintro e w4 ⟨rfl, rfl⟩
  have hss : ((s : Int) != (s : Int)) = false := by simp
  go_wp2_with fail
  refine (eolWhere A n cap l s w3 _ h3 b13.size f1 (by omega)).mono ?_
  rintro e w4 ⟨rfl, b4⟩
  rw [HX.out.2.2.2.1]
  have b14 := b13.trans (b4.mono b13.size)
  have hz24 : w2.heap.size ≤ w4.heap.size := Nat.le_trans hz23 b4.size
  have h4 := h3.below (b4.mono b13.size)
  have hy4 := hy3.below (b4.mono hz23)
  clear b13 b4 h3 hy3 hat hln hra hss
  go_wp2_with fail
  go_loopg [13, 14] (x) (fun g a i wr => ∃ j : Nat, j ≤ x ∧ g = x - j ∧ i = .int .i64 ((j : Int) + 1) ∧ a = .string ⟨(pre l j).toArray⟩ ∧ Below w.heap.size w wr ∧ Below w4.heap.size w4 wr)
  case atStart => exact ⟨0, Nat.zero_le _, rfl, rfl, rfl, b14, Below.refl _ _⟩
  case round =>
    obtain ⟨j, hj, rfl, rfl, rfl, br, b4r⟩ := hrel
    have hr := h4.below (b4r.mono b14.size)
    by_cases hjx : j < x
    · have hjc : j ≤ l.count 10 := by have := HX.out.2.1; omega
      have hpn := pre_next l j hjc
      have hlr := Lib.hid (fun w1 B h hB => line_ok A n cap l j w1 B h hB (by omega) hjc)
      have HP := Lib.hid hpn
      clear hpn hjc
      have hjx1 : (j : Int) + 1 ≤ (x : Int) := by omega
      have hxr := HX.out.1
      have HXR := Lib.hid hxr
      clear hxr
      rcases Nat.eq_zero_or_pos j with hj0 | hj0
      · subst hj0
        have hP0 : (pre l 0).length ≤ 100 := by simp [pre]
        have hL0 : (lnOf (l.drop (stt l 0))).length ≤ 100 := by
          have := h.length
          have h1 := lnOf_le (l.drop (stt l 0))
          rw [List.length_drop] at h1; omega
        rw [if_pos rfl] at HP
        generalize pre l 0 = P at *
        generalize lnOf (l.drop (stt l 0)) = L at *
        go_wp2_with fail
        refine (lines_c A n cap l wr _ hr br.size (by omega)).mono ?_
        rintro e w5 ⟨rfl, b5⟩
        rw [HXR.out]
        have br5 := br.trans (b5.mono br.size)
        have b45 := b4r.trans (b5.mono b4r.size)
        have hr5 := hr.below (b5.mono br.size)
        go_wp2_with fail
        refine (hlr.out w5 _ hr5 br5.size).mono ?_
        rintro e w6 ⟨A6, m6, c6, rfl, hy6, b6⟩
        have hst := hy6.str
        go_wp2
        go_roundg (x - (0 + 1))
        case measure => omega
        case rel =>
          refine ⟨0 + 1, by omega, rfl, rfl, ?_, br5.trans (b6.mono br5.size), b45.trans (b6.mono b45.size)⟩
          rw [← HP.out]
          exact congrArg Value.string (str_append _ _)
      · have hj1 : (1 : Int) < (j : Int) + 1 := by omega
        have hj2 : ¬ j = 0 := by omega
        rw [if_neg hj2] at HP
        have hPl : (pre l j).length ≤ 100 := by
          have := h.length
          unfold pre
          rw [if_neg hj2, List.length_take]; omega
        have hLl : (lnOf (l.drop (stt l j))).length ≤ 100 := by
          have := h.length
          have h1 := lnOf_le (l.drop (stt l j))
          rw [List.length_drop] at h1; omega
        generalize pre l j = P at *
        generalize lnOf (l.drop (stt l j)) = L at *
        clear hj2
        go_wp2_with fail
        refine (lines_c A n cap l wr _ hr br.size (by omega)).mono ?_
        rintro e w5 ⟨rfl, b5⟩
        rw [HXR.out]
        have br5 := br.trans (b5.mono br.size)
        have b45 := b4r.trans (b5.mono b4r.size)
        have hr5 := hr.below (b5.mono br.size)
        go_wp2_with fail
        refine (hlr.out w5 _ hr5 br5.size).mono ?_
        rintro e w6 ⟨A6, m6, c6, rfl, hy6, b6⟩
        have hst := hy6.str
        go_wp2
        go_roundg (x - (j + 1))
        case measure => omega
        case rel =>
          refine ⟨j + 1, by omega, rfl, rfl, ?_, br5.trans (b6.mono br5.size), b45.trans (b6.mono b45.size)⟩
          rw [← HP.out]
          exact congrArg Value.string ((congrArg (· ++ _) (str_append P [10])).trans (str_append _ _))
    · have hje : j = x := by omega
      have hxx : ¬ (j : Int) + 1 ≤ (x : Int) := by omega
      have hall : pre l j = l := by rw [hje, HX.out.2.1]; exact pre_all l
      rw [hall]
      have hpx : (0 : Int) < (x : Int) := by omega
      subst hje
      have HXR := Lib.hid HX.out.1
      have hr' := hr
      go_wp2_with fail
      refine (lines_c A n cap l wr _ hr br.size (by omega)).mono ?_
      rintro e w5 ⟨rfl, b5⟩
      rw [HXR.out]
      have br5 := br.trans (b5.mono br.size)
      have b45 := b4r.trans (b5.mono b4r.size)
      have hr5 := hr.below (b5.mono br.size)
      have hz25 : w2.heap.size ≤ w5.drew.heap.size := Nat.le_trans hz24 b45.size
      have hy5 := hy4.below (b45.mono hz24)
      obtain ⟨L, hL⟩ : ∃ L, L = lnOf (l.drop s) := ⟨_, rfl⟩
      rw [← hL] at hy5
      have hk5 : Byt w5 w.heap.size (cutA A cap s) m (cap - s) L := by
        have := (hr5.drop f1).take (k := m) (by omega)
        have e : (l.drop s).take m = L := by rw [hL, ← HM.out]; exact HX.out.2.2.2.2.2.symm
        rwa [e] at this
      have hrft : ∀ w1 : World, (Instr.slice 48 (.slice A n cap) (some (.int .i64 (s : Int))) (some (.int .i64 ((s : Int) + (m : Int)))) none).run Try.prog w1 = .ok (.slice (cutA A cap s) m (cap - s)) w1 := fun w1 => by
        have := run_fromTo (w := w1) A n cap s (s + m) (by omega) (by omega)
        rw [Nat.add_sub_cancel_left] at this
        exact this
      have HLL := Lib.hid hL
      clear hL hr' hr h4 hy4 hall
      have hkk1 : ((k : Int) + 1 == (k : Int) + 1) = true := by simp
      have hwr1 : IntKind.i64.wrap ((s : Int) + (m : Int)) = (s : Int) + (m : Int) := by rw [IntKind.wrap_i64]; omega
      have hwr2 : IntKind.i64.wrap ((n : Int) - (s : Int)) = (n : Int) - (s : Int) := by rw [IntKind.wrap_i64]; omega
      go_wp2_with fail
      refine wp_region_held_drew (S := fun w' => (convert 48 9 (.slice (cutA A cap s) m (cap - s))).run Try.prog w' = .ok (.string ⟨L.toArray⟩) w' ∧ (convert 48 9 (.slice A1 m c)).run Try.prog w' = .ok (.string ⟨L.toArray⟩) w' ∧ (convert 48 9 (.slice A n cap)).run Try.prog w' = .ok (.string ⟨l.toArray⟩) w') (by kernel_rfl) ?_ (fun hH => ?_)
      · exact ⟨hk5.drew.str, hy5.drew.str, hr5.drew.str⟩
      refine wpAnyH_takeD (i := 0) (v := ?_) 100 rfl rfl (by kernel_rfl) (by kernel_rfl) (by kernel_rfl) (fun _ _ _ h => h) (Or.inl ⟨by kernel_rfl, ?_⟩) hH ?_
      rotate_left
      · intro w hSw
        (try dsimp only at hSw)
        go_simp
        try with_reducible rfl
      try simp only [List.setIfInBounds_toArray, List.set_cons_zero, List.set_cons_succ]
      refine wpAnyH_takeD (i := 1) (v := ?_) 101 rfl rfl (by kernel_rfl) (by kernel_rfl) (by kernel_rfl) (fun _ _ _ h => h) (Or.inl ⟨by kernel_rfl, ?_⟩) hH ?_
      rotate_left
      · intro w hSw
        (try dsimp only at hSw)
        go_simp
        try with_reducible rfl
      try simp only [List.setIfInBounds_toArray, List.set_cons_zero, List.set_cons_succ]
      refine wpAnyH_takeD (i := 2) (v := ?_) 102 rfl rfl (by kernel_rfl) (by kernel_rfl) (by kernel_rfl) (fun _ _ _ h => h) (Or.inl ⟨by kernel_rfl, ?_⟩) hH ?_
      rotate_left
      · intro w hSw
        (try dsimp only at hSw)
        go_simp
        try with_reducible rfl
      try simp only [List.setIfInBounds_toArray, List.set_cons_zero, List.set_cons_succ]
      refine wpAnyH_takeD (i := 3) (v := ?_) 103 rfl rfl (by kernel_rfl) (by kernel_rfl) (by kernel_rfl) (fun _ _ _ h => h) (Or.inl ⟨by kernel_rfl, ?_⟩) hH ?_
      rotate_left
      · intro w hSw
        (try dsimp only at hSw)
        go_simp
        try with_reducible rfl
      try simp only [List.setIfInBounds_toArray, List.set_cons_zero, List.set_cons_succ]
      refine wpAnyH_takeD (i := 4) (v := ?_) 104 rfl rfl (by kernel_rfl) (by kernel_rfl) (by kernel_rfl) (fun _ _ _ h => h) (Or.inl ⟨by kernel_rfl, ?_⟩) hH ?_
      rotate_left
      · intro w hSw
        (try dsimp only at hSw)
        go_simp
        try with_reducible rfl
      try simp only [List.setIfInBounds_toArray, List.set_cons_zero, List.set_cons_succ]
      refine wpAnyH_takeD (i := 5) (v := ?_) 105 rfl rfl (by kernel_rfl) (by kernel_rfl) (by kernel_rfl) (fun _ _ _ h => h) (Or.inl ⟨by kernel_rfl, ?_⟩) hH ?_
      rotate_left
      · intro w hSw
        (try dsimp only at hSw)
        go_simp
        try with_reducible rfl
      try simp only [List.setIfInBounds_toArray, List.set_cons_zero, List.set_cons_succ]
      refine wpAnyH_takeD (i := 6) (v := ?_) 106 rfl rfl (by kernel_rfl) (by kernel_rfl) (by kernel_rfl) (fun _ _ _ h => h) (Or.inl ⟨by kernel_rfl, ?_⟩) hH ?_
      rotate_left
      · intro w hSw
        (try dsimp only at hSw)
        go_simp
        try with_reducible rfl
      try simp only [List.setIfInBounds_toArray, List.set_cons_zero, List.set_cons_succ]
      refine wpAnyH_takeD (i := 7) (v := ?_) 107 rfl rfl (by kernel_rfl) (by kernel_rfl) (by kernel_rfl) (fun _ _ _ h => h) (Or.inl ⟨by kernel_rfl, ?_⟩) hH ?_
      rotate_left
      · intro w hSw
        (try dsimp only at hSw)
        go_simp
        try with_reducible rfl
      try simp only [List.setIfInBounds_toArray, List.set_cons_zero, List.set_cons_succ]
      refine wpAnyH_takeD (i := 8) (v := ?_) 108 rfl rfl (by kernel_rfl) (by kernel_rfl) (by kernel_rfl) (fun _ _ _ h => h) (Or.inl ⟨by kernel_rfl, ?_⟩) hH ?_
      rotate_left
      · intro w hSw
        (try dsimp only at hSw)
        go_simp
        try with_reducible rfl
      try simp only [List.setIfInBounds_toArray, List.set_cons_zero, List.set_cons_succ]
      refine wpAnyH_takeD (i := 9) (v := ?_) 109 rfl rfl (by kernel_rfl) (by kernel_rfl) (by kernel_rfl) (fun _ _ _ h => h) (Or.inl ⟨by kernel_rfl, ?_⟩) hH ?_
      rotate_left
      · intro w hSw
        (try dsimp only at hSw)
        go_simp
        try with_reducible rfl
      try simp only [List.setIfInBounds_toArray, List.set_cons_zero, List.set_cons_succ]
      refine wpAnyH_takeD (i := 10) (v := ?_) 110 rfl rfl (by kernel_rfl) (by kernel_rfl) (by kernel_rfl) (fun _ _ _ h => h) (Or.inl ⟨by kernel_rfl, ?_⟩) hH ?_
      rotate_left
      · intro w hSw
        (try dsimp only at hSw)
        go_simp
        try with_reducible rfl
      try simp only [List.setIfInBounds_toArray, List.set_cons_zero, List.set_cons_succ]
      refine wpAnyH_takeD (i := 11) (v := ?_) 111 rfl rfl (by kernel_rfl) (by kernel_rfl) (by kernel_rfl) (fun _ _ _ h => h) (Or.inl ⟨by kernel_rfl, ?_⟩) hH ?_
      rotate_left
      · intro w hSw
        (try dsimp only at hSw)
        go_simp
        try with_reducible rfl
      try simp only [List.setIfInBounds_toArray, List.set_cons_zero, List.set_cons_succ]
      refine wpAnyH_takeD (i := 12) (v := ?_) 112 rfl rfl (by kernel_rfl) (by kernel_rfl) (by kernel_rfl) (fun _ _ _ h => h) (Or.inl ⟨by kernel_rfl, ?_⟩) hH ?_
      rotate_left
      · intro w hSw
        (try dsimp only at hSw)
        go_simp
        try with_reducible rfl
      try simp only [List.setIfInBounds_toArray, List.set_cons_zero, List.set_cons_succ]
      refine wpAnyH_takeD (i := 13) (v := ?_) 113 rfl rfl (by kernel_rfl) (by kernel_rfl) (by kernel_rfl) (fun _ _ _ h => h) (Or.inl ⟨by kernel_rfl, ?_⟩) hH ?_
      rotate_left
      · intro w hSw
        (try dsimp only at hSw)
        go_simp
        try with_reducible rfl
      try simp only [List.setIfInBounds_toArray, List.set_cons_zero, List.set_cons_succ]
      refine wpAnyH_takeD (i := 14) (v := ?_) 114 rfl rfl (by kernel_rfl) (by kernel_rfl) (by kernel_rfl) (fun _ _ _ h => h) (Or.inl ⟨by kernel_rfl, ?_⟩) hH ?_
      rotate_left
      · intro w hSw
        (try dsimp only at hSw)
        go_simp
        try with_reducible rfl
      try simp only [List.setIfInBounds_toArray, List.set_cons_zero, List.set_cons_succ]
      refine wpAnyH_takeD (i := 15) (v := ?_) 115 rfl rfl (by kernel_rfl) (by kernel_rfl) (by kernel_rfl) (fun _ _ _ h => h) (Or.inl ⟨by kernel_rfl, ?_⟩) hH ?_
      rotate_left
      · intro w hSw
        (try dsimp only at hSw)
        go_simp
        try with_reducible rfl
      try simp only [List.setIfInBounds_toArray, List.set_cons_zero, List.set_cons_succ]
      refine wpAnyH_takeD (i := 16) (v := ?_) 116 rfl rfl (by kernel_rfl) (by kernel_rfl) (by kernel_rfl) (fun _ _ _ h => h) (Or.inl ⟨by kernel_rfl, ?_⟩) hH ?_
      rotate_left
      · intro w hSw
        (try dsimp only at hSw)
        go_simp
        try with_reducible rfl
      try simp only [List.setIfInBounds_toArray, List.set_cons_zero, List.set_cons_succ]
      refine wpAnyH_takeD (i := 17) (v := ?_) 117 rfl rfl (by kernel_rfl) (by kernel_rfl) (by kernel_rfl) (fun _ _ _ h => h) (Or.inl ⟨by kernel_rfl, ?_⟩) hH ?_
      rotate_left
      · intro w hSw
        (try dsimp only at hSw)
        go_simp
        try with_reducible rfl
      try simp only [List.setIfInBounds_toArray, List.set_cons_zero, List.set_cons_succ]
      refine wpAnyH_takeD (i := 18) (v := ?_) 118 rfl rfl (by kernel_rfl) (by kernel_rfl) (by kernel_rfl) (fun _ _ _ h => h) (Or.inl ⟨by kernel_rfl, ?_⟩) hH ?_
      rotate_left
      · intro w hSw
        (try dsimp only at hSw)
        go_simp
        try with_reducible rfl
      try simp only [List.setIfInBounds_toArray, List.set_cons_zero, List.set_cons_succ]
      refine wpAnyH_takeD (i := 19) (v := ?_) 119 rfl rfl (by kernel_rfl) (by kernel_rfl) (by kernel_rfl) (fun _ _ _ h => h) (Or.inl ⟨by kernel_rfl, ?_⟩) hH ?_
      rotate_left
      · intro w hSw
        (try dsimp only at hSw)
        go_simp
        try with_reducible rfl
      try simp only [List.setIfInBounds_toArray, List.set_cons_zero, List.set_cons_succ]
      refine wpAnyH_takeD (i := 20) (v := ?_) 120 rfl rfl (by kernel_rfl) (by kernel_rfl) (by kernel_rfl) (fun _ _ _ h => h) (Or.inl ⟨by kernel_rfl, ?_⟩) hH ?_
      rotate_left
      · intro w hSw
        (try dsimp only at hSw)
        go_simp
        try with_reducible rfl
      try simp only [List.setIfInBounds_toArray, List.set_cons_zero, List.set_cons_succ]
      refine wpAnyH_takeD (i := 21) (v := ?_) 121 rfl rfl (by kernel_rfl) (by kernel_rfl) (by kernel_rfl) (fun _ _ _ h => h) (Or.inl ⟨by kernel_rfl, ?_⟩) hH ?_
      rotate_left
      · intro w hSw
        (try dsimp only at hSw)
        go_simp
        try with_reducible rfl
      try simp only [List.setIfInBounds_toArray, List.set_cons_zero, List.set_cons_succ]
      refine wpAnyH_takeD (i := 22) (v := ?_) 122 rfl rfl (by kernel_rfl) (by kernel_rfl) (by kernel_rfl) (fun _ _ _ h => h) (Or.inl ⟨by kernel_rfl, ?_⟩) hH ?_
      rotate_left
      · intro w hSw
        (try dsimp only at hSw)
        go_simp
        try with_reducible rfl
      try simp only [List.setIfInBounds_toArray, List.set_cons_zero, List.set_cons_succ]
      refine wpAnyH_takeD (i := 23) (v := ?_) 123 rfl rfl (by kernel_rfl) (by kernel_rfl) (by kernel_rfl) (fun _ _ _ h => h) (Or.inl ⟨by kernel_rfl, ?_⟩) hH ?_
      rotate_left
      · intro w hSw
        (try dsimp only at hSw)
        go_simp
        try with_reducible rfl
      try simp only [List.setIfInBounds_toArray, List.set_cons_zero, List.set_cons_succ]
      refine wpAnyH_takeD (i := 24) (v := ?_) 124 rfl rfl (by kernel_rfl) (by kernel_rfl) (by kernel_rfl) (fun _ _ _ h => h) (Or.inl ⟨by kernel_rfl, ?_⟩) hH ?_
      rotate_left
      · intro w hSw
        (try dsimp only at hSw)
        go_simp
        try with_reducible rfl
      try simp only [List.setIfInBounds_toArray, List.set_cons_zero, List.set_cons_succ]
      refine wpAnyH_takeD (i := 25) (v := ?_) 125 rfl rfl (by kernel_rfl) (by kernel_rfl) (by kernel_rfl) (fun _ _ _ h => h) (Or.inl ⟨by kernel_rfl, ?_⟩) hH ?_
      rotate_left
      · intro w hSw
        (try dsimp only at hSw)
        go_simp
        try with_reducible rfl
      try simp only [List.setIfInBounds_toArray, List.set_cons_zero, List.set_cons_succ]
      refine wpAnyH_takeD (i := 26) (v := ?_) 126 rfl rfl (by kernel_rfl) (by kernel_rfl) (by kernel_rfl) (fun _ _ _ h => h) (Or.inl ⟨by kernel_rfl, ?_⟩) hH ?_
      rotate_left
      · intro w hSw
        (try dsimp only at hSw)
        go_simp
        try with_reducible rfl
      try simp only [List.setIfInBounds_toArray, List.set_cons_zero, List.set_cons_succ]
      refine wpAnyH_takeD (i := 27) (v := ?_) 127 rfl rfl (by kernel_rfl) (by kernel_rfl) (by kernel_rfl) (fun _ _ _ h => h) (Or.inl ⟨by kernel_rfl, ?_⟩) hH ?_
      rotate_left
      · intro w hSw
        (try dsimp only at hSw)
        go_simp
        try with_reducible rfl
      try simp only [List.setIfInBounds_toArray, List.set_cons_zero, List.set_cons_succ]
      refine wpAnyH_takeD (i := 28) (v := ?_) 128 rfl rfl (by kernel_rfl) (by kernel_rfl) (by kernel_rfl) (fun _ _ _ h => h) (Or.inl ⟨by kernel_rfl, ?_⟩) hH ?_
      rotate_left
      · intro w hSw
        (try dsimp only at hSw)
        go_simp
        try with_reducible rfl
      try simp only [List.setIfInBounds_toArray, List.set_cons_zero, List.set_cons_succ]
      refine wpAnyH_takeD (i := 29) (v := ?_) 129 rfl rfl (by kernel_rfl) (by kernel_rfl) (by kernel_rfl) (fun _ _ _ h => h) (Or.inl ⟨by kernel_rfl, ?_⟩) hH ?_
      rotate_left
      · intro w hSw
        (try dsimp only at hSw)
        go_simp
        try with_reducible rfl
      try simp only [List.setIfInBounds_toArray, List.set_cons_zero, List.set_cons_succ]
      refine wpAnyH_takeD (i := 30) (v := ?_) 130 rfl rfl (by kernel_rfl) (by kernel_rfl) (by kernel_rfl) (fun _ _ _ h => h) (Or.inl ⟨by kernel_rfl, ?_⟩) hH ?_
      rotate_left
      · intro w hSw
        (try dsimp only at hSw)
        go_simp
        try with_reducible rfl
      try simp only [List.setIfInBounds_toArray, List.set_cons_zero, List.set_cons_succ]
      refine wpAnyH_takeD (i := 31) (v := ?_) 131 rfl rfl (by kernel_rfl) (by kernel_rfl) (by kernel_rfl) (fun _ _ _ h => h) (Or.inl ⟨by kernel_rfl, ?_⟩) hH ?_
      rotate_left
      · intro w hSw
        (try dsimp only at hSw)
        go_simp
        try with_reducible rfl
      try simp only [List.setIfInBounds_toArray, List.set_cons_zero, List.set_cons_succ]
      refine wpAnyH_takeD (i := 32) (v := ?_) 132 rfl rfl (by kernel_rfl) (by kernel_rfl) (by kernel_rfl) (fun _ _ _ h => h) (Or.inl ⟨by kernel_rfl, ?_⟩) hH ?_
      rotate_left
      · intro w hSw
        (try dsimp only at hSw)
        go_simp
        try with_reducible rfl
      try simp only [List.setIfInBounds_toArray, List.set_cons_zero, List.set_cons_succ]
      refine wpAnyH_takeD (i := 33) (v := ?_) 133 rfl rfl (by kernel_rfl) (by kernel_rfl) (by kernel_rfl) (fun _ _ _ h => h) (Or.inl ⟨by kernel_rfl, ?_⟩) hH ?_
      rotate_left
      · intro w hSw
        (try dsimp only at hSw)
        go_simp
        try with_reducible rfl
      try simp only [List.setIfInBounds_toArray, List.set_cons_zero, List.set_cons_succ]
      refine wpAnyH_takeD (i := 34) (v := ?_) 134 rfl rfl (by kernel_rfl) (by kernel_rfl) (by kernel_rfl) (fun _ _ _ h => h) (Or.inl ⟨by kernel_rfl, ?_⟩) hH ?_
      rotate_left
      · intro w hSw
        (try dsimp only at hSw)
        go_simp
        try with_reducible rfl
      try simp only [List.setIfInBounds_toArray, List.set_cons_zero, List.set_cons_succ]
      refine wpAnyH_takeD (i := 35) (v := ?_) 135 rfl rfl (by kernel_rfl) (by kernel_rfl) (by kernel_rfl) (fun _ _ _ h => h) (Or.inl ⟨by kernel_rfl, ?_⟩) hH ?_
      rotate_left
      · intro w hSw
        (try dsimp only at hSw)
        go_simp
        try with_reducible rfl
      try simp only [List.setIfInBounds_toArray, List.set_cons_zero, List.set_cons_succ]
      refine wpAnyH_takeD (i := 36) (v := ?_) 136 rfl rfl (by kernel_rfl) (by kernel_rfl) (by kernel_rfl) (fun _ _ _ h => h) (Or.inl ⟨by kernel_rfl, ?_⟩) hH ?_
      rotate_left
      · intro w hSw
        (try dsimp only at hSw)
        go_simp
        try with_reducible rfl
      try simp only [List.setIfInBounds_toArray, List.set_cons_zero, List.set_cons_succ]
      refine wpAnyH_takeD (i := 37) (v := ?_) 137 rfl rfl (by kernel_rfl) (by kernel_rfl) (by kernel_rfl) (fun _ _ _ h => h) (Or.inl ⟨by kernel_rfl, ?_⟩) hH ?_
      rotate_left
      · intro w hSw
        (try dsimp only at hSw)
        go_simp
        try with_reducible rfl
      try simp only [List.setIfInBounds_toArray, List.set_cons_zero, List.set_cons_succ]
      refine wpAnyH_takeD (i := 38) (v := ?_) 138 rfl rfl (by kernel_rfl) (by kernel_rfl) (by kernel_rfl) (fun _ _ _ h => h) (Or.inl ⟨by kernel_rfl, ?_⟩) hH ?_
      rotate_left
      · intro w hSw
        (try dsimp only at hSw)
        go_simp
        try with_reducible rfl
      try simp only [List.setIfInBounds_toArray, List.set_cons_zero, List.set_cons_succ]
      refine wpAnyH_takeD (i := 39) (v := ?_) 139 rfl rfl (by kernel_rfl) (by kernel_rfl) (by kernel_rfl) (fun _ _ _ h => h) (Or.inl ⟨by kernel_rfl, ?_⟩) hH ?_
      rotate_left
      · intro w hSw
        (try dsimp only at hSw)
        go_simp
        try with_reducible rfl
      try simp only [List.setIfInBounds_toArray, List.set_cons_zero, List.set_cons_succ]
      refine wpAnyH_ready (rs := [40]) (by kernel_rfl) (by simp) ?_
      refine AllReadyH.cons rfl (fun K hK => ?_) AllReadyH.nil
      rw [if_pos (by kernel_rfl)]
      go_simp
      refine (liveEol_ok _).mono ?_
      rintro e w6 ⟨rfl, b6⟩
      have hz5 : w.heap.size ≤ w5.drew.heap.size := br5.size
      go_wp2_with fail
      refine hK.out _ _ ⟨(hk5.drew.below (b6.mono hz5)).str, (hy5.drew.below (b6.mono hz25)).str, (hr5.drew.below (b6.mono hz5)).str⟩ (fun hH0 => ?_)
      clear hK K hH
      have hH := hH0
      clear hH0
      try simp only [Act.put, List.setIfInBounds_toArray, List.set_cons_zero, List.set_cons_succ]
      refine wpAnyH_takeD (i := 41) (v := ?_) 141 rfl rfl (by kernel_rfl) (by kernel_rfl) (by kernel_rfl) (fun _ _ _ h => h) (Or.inl ⟨by kernel_rfl, ?_⟩) hH ?_
      rotate_left
      · intro w hSw
        (try dsimp only at hSw)
        go_simp
        try with_reducible rfl
      try simp only [List.setIfInBounds_toArray, List.set_cons_zero, List.set_cons_succ]
      refine wpAnyH_takeD (i := 42) (v := ?_) 4 rfl rfl (by kernel_rfl) (by kernel_rfl) (by kernel_rfl) (fun _ _ _ h => h) (Or.inl ⟨by kernel_rfl, ?_⟩) hH ?_
      rotate_left
      · intro w hSw
        (try dsimp only at hSw)
        go_simp
        try with_reducible rfl
      try simp only [List.setIfInBounds_toArray, List.set_cons_zero, List.set_cons_succ]
      refine wpAnyH_done (by kernel_rfl) ?_ _
      go_wp2
      go_ret
      exact ⟨rfl, br5.drew.trans (b6.mono hz5)⟩
theorem lines_walk (A : Option Addr) (n cap : Nat) (l : List UInt8) (k : Int) (w : World) (h : Byt w w.heap.size A n cap l) :
    Calls Try.prog 8 #[.slice A n cap, .int .i64 k] w fun e w' => e = .returned (.bool true) ∧ Below w.heap.size w w' := by
  by_cases hn : 100 < n
  · go_enter Try.func8, Try.ntmps8
    go_wp2_with fail
    refine (liveEol_ok w).mono ?_
    rintro e w1 ⟨rfl, b1⟩
    go_wp2
    go_ret
    exact ⟨rfl, b1⟩
  · by_cases hk : k < 1 ∨ (l.count 10 : Int) + 1 < k
    · exact lines_out A n cap l k w h (by omega) hk
    · obtain ⟨j, hj⟩ := Int.eq_ofNat_of_zero_le (show 0 ≤ k - 1 by omega)
      have e : k = (j : Int) + 1 := by omega
      subst e
      exact lines_in A n cap l j w h (by omega) (by omega)
end Go.Proofs.Ytljplmidnlahpaa
