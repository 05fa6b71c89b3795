/- The begin of a line: the program's walk and the reference's. -/
import Derived.Test.YtljplmidnlahpaaRows
import Derived.WalkKit
import Derived.ProofKit
import Derived.OpenShut
import Derived.ShutString
import Derived.ChangeOld
import Derived.Below
import Derived.BigQuiet
import Derived.Deep.QuietTactic
import Derived.Lib.Hide
import Derived.Deep.RegionHeld3
import Derived.Lib.SlBytesConst
import Derived.Laws.CopyOwn
import Derived.Laws.CopyRow
import Derived.Lib.Bytes
import Derived.Deep.LoopGhost
import Derived.Deep.DeepFit
import Derived.Deep.DeepMust
import Derived.WalkSpells
import Derived.WalkLawsBesides
import Derived.Test.YtljplmidnlahpaaBase
import Derived.Test.YtljplmidnlahpaaShelf
import Derived.Test.YtljplmidnlahpaaEolPlain
import Derived.Test.YtljplmidnlahpaaEolPlain2
import Derived.Test.YtljplmidnlahpaaEolWalks
import Derived.Test.YtljplmidnlahpaaEolNorm
import Derived.Test.YtljplmidnlahpaaEolNorm2
namespace Go.Proofs.Ytljplmidnlahpaa
open Go.ChangeShapes Go.WideShapes Go.ChangeAt Go.RowKit
set_option linter.unusedVariables false
theorem eolAt_no (A : Option Addr) (n cap : Nat) (l : List UInt8) (k : Int) (w : World) (B : Nat) (h : Byt w B A n cap l) (hB : B ≤ w.heap.size) (hm : n ≤ 1000000) (hk : k < 1 ∨ (l.count 10 : Int) + 1 < k) :
    Calls Try.prog 34 #[.slice A n cap, .int .i64 k] w fun e w' => e = .returned (.tuple #[.int .i64 0, .int .i64 3]) ∧ Below w.heap.size w w' := by
  have hw := whr_fst l
  generalize hx : (whr l).1 = x at hw
  have HX := Lib.hid hx
  have hkx : k < 1 ∨ (x : Int) < k := by omega
  clear hx hw hk
  by_cases h1 : k < 1
  · have hd : decide (k < 1) = true := by simpa using h1
    go_enter Try.func34, Try.ntmps34
    go_wp2_with fail
    go_step3
    go_wp2
    rw [Exit.noGoto_ret]
    go_ret2
    exact ⟨rfl, Below.refl _ _⟩
  · have h2 : (x : Int) < k := by omega
    go_enter Try.func34, Try.ntmps34
    go_wp2_with fail
    go_step3
    go_wp2_with fail
    refine (lines_c A n cap l w _ h hB hm).mono ?_
    rintro e w1 ⟨rfl, b1⟩
    rw [HX.out]
    go_wp2
    rw [Exit.noGoto_ret]
    go_ret2
    exact ⟨rfl, b1⟩

theorem eolAt_ok (A : Option Addr) (n cap : Nat) (l : List UInt8) (k : Nat) (w : World) (B : Nat) (h : Byt w B A n cap l) (hB : B ≤ w.heap.size) (hm : n ≤ 1000000) (hk : k ≤ l.count 10) :
    Calls Try.prog 34 #[.slice A n cap, .int .i64 ((k : Int) + 1)] w fun e w' => e = .returned (.tuple #[.int .i64 (stt l k), .int .i64 0]) ∧ Below w.heap.size w w' := by
  have hw := whr_fst l
  have hle := whr_le l
  rw [h.length] at hle
  generalize hx : (whr l).1 = x at hw hle
  have HX := Lib.hid hx
  have hkx : (k : Int) + 1 ≤ (x : Int) := by omega
  have hxb : (x : Int) ≤ 1000001 := by omega
  have hcap := h.le
  have hkc : k ≤ 1000000 := by omega
  have HK := Lib.hid hk
  clear hx hw hk
  go_enter Try.func34, Try.ntmps34
  go_wp2_with fail
  go_step3
  go_wp2_with fail
  refine (lines_c A n cap l w _ h hB hm).mono ?_
  rintro e w1 ⟨rfl, b1⟩
  have h1 := h.below (b1.mono hB)
  rw [HX.out]
  go_wp2_with fail
  go_step3
  go_wp2_with fail
  go_loopg [1, 6] (k) (fun g ln a wr => ∃ (q : Int), g ≤ k ∧ ln = .int .i64 q ∧ q = (g : Int) + 1 ∧ a = .int .i64 (stt l (k - g)) ∧ w1 = wr)
  case atStart => exact ⟨_, Nat.le_refl _, rfl, rfl, by rw [Nat.sub_self]; rfl, rfl⟩
  case round =>
    obtain ⟨q, hg, rfl, hq, rfl, rfl⟩ := hrel
    obtain ⟨f1, f2, f3⟩ := stt_facts l (k - gk) (by have := HK.out; omega)
    rw [h.length] at f1
    cases gk with
    | zero =>
      have hq1 : (q == 1) = true := by simp; omega
      rw [Nat.sub_zero]
      rw [Nat.sub_zero] at f1
      clear f2 f3 hq
      go_wp2
      rw [Exit.noGoto_ret]
      go_ret2
      exact ⟨rfl, b1⟩
    | succ g =>
      have hq1 : (q == 1) = false := by simp; omega
      have hqb : 2 ≤ q ∧ q ≤ 1000001 := by omega
      have hql := hqb.1
      have hqh := hqb.2
      have hnx : stt l (k - g) = stt l (k - (g + 1)) + (Lib.indexByte (l.drop (stt l (k - (g + 1)))) 10).toNat + 1 := by
        rw [show k - g = (k - (g + 1)) + 1 by omega]; rfl
      have hlo := indexByte_lo 10 (l.drop (stt l (k - (g + 1))))
      rw [List.length_drop, h.length] at hlo
      have h0 := (indexByte_split 10 (l.drop (stt l (k - (g + 1)))) (by rw [f3]; have := HK.out; omega)).1
      generalize hs : stt l (k - (g + 1)) = s at *
      generalize hix : Lib.indexByte (l.drop s) 10 = ix at *
      have HS := Lib.hid (And.intro hs (And.intro hix (And.intro hnx hq)))
      clear hs hix hnx hq f2 f3 hqb
      have hrf := run_from (w := w1) A n cap s f1
      have hd := h1.drop f1
      have hlo1 := hlo.1
      have hlo2 := hlo.2
      clear hlo
      go_wp2_with fail
      refine (indexByte_c (cutA A cap s) (n - s) (cap - s) _ 10 w1 B hd).mono ?_
      rintro e w2 ⟨rfl, rfl⟩
      have he : Lib.indexByte (List.drop s l) (Int.toNat 10).toUInt8 = ix := HS.out.2.1
      rw [he]
      clear he
      go_wp2
      go_roundg g
      case measure => exact Nat.lt_succ_self _
      case rel =>
        obtain ⟨_, _, hnx, hq⟩ := HS.out
        refine ⟨q - 1, by omega, rfl, by omega, ?_, rfl⟩
        rw [hnx]
        congr 1
        omega

theorem refAt_c (A : Option Addr) (n cap : Nat) (l : List UInt8) (k : Nat) (w : World) (B : Nat) (h : Byt w B A n cap l) (hm : n ≤ 1000000) (hk : k ≤ l.count 10) :
    Calls Try.prog 36 #[.slice A n cap, .int .i64 ((k : Int) + 1)] w fun e w' => e = .returned (.int .i64 (stt l k)) ∧ w = w' := by
  obtain ⟨f1, f2, f3⟩ := stt_facts l k hk
  have ff := stt_first l k hk
  rw [h.length] at f1
  have hkb : k ≤ 1000000 := by have := List.count_le_length (a := (10 : UInt8)) (l := l); rw [h.length] at this; omega
  generalize stt l k = s at *
  have HF := Lib.hid (And.intro f2 ff)
  clear f2 ff f3 hk
  go_enter Try.func36, Try.ntmps36
  go_wp2
  go_loopg [5] (s) (fun g i wr => ∃ j : Nat, j ≤ s ∧ g = s - j ∧ i = .int .i64 j ∧ w = wr)
  case atStart => exact ⟨0, Nat.zero_le _, rfl, rfl, rfl⟩
  case round =>
    obtain ⟨j, hj, rfl, rfl, rfl⟩ := hrel
    have hjn : (j : Int) ≤ (n : Int) := by omega
    have hle := whr_le (l.take j)
    rw [List.length_take] at hle
    by_cases hlt : j < s
    · have hne := HF.out.2 j hlt
      generalize hp : whr (l.take j) = p at *
      obtain ⟨x, y⟩ := p
      have HP := Lib.hid hp
      clear hp
      have hc := refWhere A n cap l j w B h (by omega) hm
      rw [HP.out] at hc
      have HC := Lib.hid hc
      clear hc
      have hx : x ≤ 1000002 := by simp at hle; omega
      by_cases hxk : x = k + 1
      · subst hxk
        have hy : ((y : Int) == 0) = false := by
          have : y ≠ 0 := fun e => hne (by rw [e])
          simp; omega
        have hxx : ((k : Int) + 1 == (k : Int) + 1) = true := by simp
        clear hle hne
        go_wp2_with fail
        refine HC.out.mono ?_
        rintro e w2 ⟨rfl, rfl⟩
        clear HC
        go_wp2
        go_roundg (s - (j + 1))
        case measure => omega
        case rel => exact ⟨j + 1, by omega, rfl, rfl, rfl⟩
      · have hxx : ((x : Int) == (k : Int) + 1) = false := by simp; omega
        clear hle hne hxk
        go_wp2_with fail
        refine HC.out.mono ?_
        rintro e w2 ⟨rfl, rfl⟩
        clear HC
        go_wp2
        go_roundg (s - (j + 1))
        case measure => omega
        case rel => exact ⟨j + 1, by omega, rfl, rfl, rfl⟩
    · have hje : j = s := by omega
      subst hje
      have hc := refWhere A n cap l j w B h f1 hm
      rw [HF.out.1] at hc
      have HC := Lib.hid hc
      have hxx : ((k : Int) + 1 == (k : Int) + 1) = true := by simp
      clear hc hle
      go_wp2_with fail
      refine HC.out.mono ?_
      rintro e w2 ⟨rfl, rfl⟩
      clear HC
      go_wp2
      go_ret
      exact ⟨rfl, rfl⟩
end Go.Proofs.Ytljplmidnlahpaa
