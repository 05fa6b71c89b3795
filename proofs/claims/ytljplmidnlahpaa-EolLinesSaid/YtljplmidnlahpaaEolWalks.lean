/- The walks of the line ends' functions. -/
import Derived.Test.YtljplmidnlahpaaRows
import Derived.WalkKit
import Derived.ProofKit
import Derived.OpenShut
import Derived.ShutString
import Derived.ChangeOld
import Derived.Below
import Derived.BigQuiet
import Derived.Deep.QuietTactic
import Derived.Lib.Hide
import Derived.Deep.RegionHeld3
import Derived.Lib.SlBytesConst
import Derived.Laws.CopyOwn
import Derived.Laws.CopyRow
import Derived.Lib.Bytes
import Derived.Deep.LoopGhost
import Derived.Deep.DeepFit
import Derived.Deep.DeepMust
import Derived.WalkSpells
import Derived.WalkLawsBesides
import Derived.Test.YtljplmidnlahpaaBase
import Derived.Test.YtljplmidnlahpaaShelf
import Derived.Test.YtljplmidnlahpaaEolPlain
namespace Go.Proofs.Ytljplmidnlahpaa
open Go.ChangeShapes Go.WideShapes Go.ChangeAt Go.RowKit
set_option linter.unusedVariables false
theorem lastIndexByte_g (A : Option Addr) (n cap : Nat) (l : List UInt8) (c : UInt8) (w : World) (B : Nat) (h : Byt w B A n cap l) (hm : n ≤ 1000000) :
    Calls Try.prog 43 #[.slice A n cap, .int .u8 c.toNat] w fun e w' => e = .returned (.int .i64 (lastIx l c)) ∧ w = w' := by
  have hlen := h.length
  go_enter Try.func43, Try.ntmps43
  go_wp2
  go_loopg [5] (n) (fun k i wr => ∃ q : Int, k ≤ n ∧ q = (k : Int) - 1 ∧ i = .int .i64 q ∧ lastIx l c = lastIx (l.take k) c ∧ w = wr)
  case atStart => exact ⟨_, Nat.le_refl _, rfl, rfl, by rw [← hlen, List.take_length], rfl⟩
  case round =>
    obtain ⟨q, hk, hq, rfl, hL, rfl⟩ := hrel
    cases gk with
    | zero =>
      have hq0 : q < 0 := by omega
      have HL := Lib.hid hL
      clear hL hq hlen
      go_wp2
      go_ret
      exact ⟨by rw [HL.out]; rfl, rfl⟩
    | succ m =>
      obtain rfl : q = (m : Int) := by omega
      obtain ⟨b, o, x, rfl, hb, hx, hcell⟩ := h.cell (i := m) (by omega)
      have hts := take_snoc l m x hx
      rw [hts, lastIx_snoc] at hL
      have hlt : (l.take m).length = m := by rw [List.length_take]; omega
      rw [hlt] at hL
      have HL := Lib.hid hL
      have hm0 : (0 : Int) ≤ (m : Int) := by omega
      have hmn : (m : Int) < (n : Int) := by omega
      clear hL hts hlt hx hq hlen
      by_cases hxc : x = c
      · subst hxc
        have ht : ((x.toNat : Int) == (x.toNat : Int)) = true := by simp
        go_wp2
        go_ret
        exact ⟨by rw [HL.out]; simp, rfl⟩
      · have ht : ((x.toNat : Int) == (c.toNat : Int)) = false := by rw [toNat_eq]; simp [hxc]
        have HX := Lib.hid hxc
        clear hxc
        go_wp2
        go_roundg m
        case measure => exact Nat.lt_succ_self _
        case rel => exact ⟨_, by omega, rfl, rfl, by rw [HL.out, if_neg HX.out], rfl⟩

theorem lastIndexByte_c (A : Option Addr) (n cap : Nat) (l : List UInt8) (c : UInt8) (w : World) (B : Nat) (h : Byt w B A n cap l) (hm : n ≤ 1000000) :
    Calls Try.prog 38 #[.slice A n cap, .int .u8 c.toNat] w fun e w' => e = .returned (.int .i64 (lastIx l c)) ∧ w = w' := by
  go_enter Try.func38, Try.ntmps38
  go_wp2_with (go_at_call 43; refine (lastIndexByte_g A n cap l c w B h hm).mono ?_; rintro e w' ⟨rfl, rfl⟩)
  go_ret
  exact ⟨rfl, rfl⟩

theorem indexByte_c (A : Option Addr) (n cap : Nat) (l : List UInt8) (c : Int) (w : World) (B : Nat) (h : Byt w B A n cap l) :
    Calls Try.prog 40 #[.slice A n cap, .int .u8 c] w fun e w' => e = .returned (.int .i64 (Lib.indexByte l c.toNat.toUInt8)) ∧ w = w' := by
  cases A with
  | none =>
    have hc := h.nil rfl
    have hn := h.le
    have hl := h.length
    obtain rfl : cap = 0 := hc
    obtain rfl : n = 0 := by omega
    obtain rfl : l = [] := List.length_eq_zero_iff.1 hl
    exact (Try.bytes_IndexByte_nil c w).mono fun e w' ⟨he, hw⟩ => ⟨he, hw.symm⟩
  | some a =>
    refine (Try.bytes_IndexByte_at a n cap (nums l) c w (by rw [nums_length, h.length]) fun i hi => ?_).mono fun e w' ⟨he, hw⟩ => ⟨by rw [he, bytesOf_nums], hw.symm⟩
    obtain ⟨b, o, e, hc⟩ := h.cells (by have := h.le; omega)
    cases e
    unfold Addr.add
    split
    · rename_i h0; subst h0; exact hc 0 hi
    · exact hc i hi

theorem lines_c (A : Option Addr) (n cap : Nat) (l : List UInt8) (w : World) (B : Nat) (h : Byt w B A n cap l) (hB : B ≤ w.heap.size) (hm : n ≤ 1000000) :
    Calls Try.prog 30 #[.slice A n cap] w fun e w' => e = .returned (.int .i64 ((whr l).1 : Nat)) ∧ Below w.heap.size w w' := by
  have hw := whr_fst l
  have hcl := List.count_le_length (a := (10 : UInt8)) (l := l)
  rw [h.length] at hcl
  have hcnt : Calls Try.prog 39 #[.slice A n cap, .slice (some ⟨w.heap.size, 0, none⟩) 1 1] (w.alloc (.cells #[.int .u8 10] 5)) fun e w' => e = .returned (.int .i64 ((l.count 10 : Nat) : Int)) ∧ w.alloc (.cells #[.int .u8 10] 5) = w' := by
    have hc1 : (w.alloc (.cells #[.int .u8 10] 5)).cell? ⟨w.heap.size, 0, none⟩ = some (.int .u8 10) := by simp
    have h' : Byt (w.alloc (.cells #[.int .u8 10] 5)) B A n cap l := h.below ((Below.refl B w).alloc hB _)
    cases A with
    | none =>
      have hc := h.nil rfl
      have hn := h.le
      have hl := h.length
      obtain rfl : cap = 0 := hc
      obtain rfl : n = 0 := by omega
      obtain rfl : l = [] := List.length_eq_zero_iff.1 hl
      exact (Try.bytes_Count_one_nil _ 0 1 10 _ hc1).mono fun e w' ⟨he, hw⟩ => ⟨he, hw.symm⟩
    | some a =>
      refine (Try.bytes_Count_one_at a n cap _ 0 1 (nums l) 10 _ (by rw [nums_length, h.length]) (fun i hi => ?_) hc1).mono fun e w' ⟨he, hw⟩ => ⟨by rw [he, bytesOf_nums]; rfl, hw.symm⟩
      obtain ⟨b, o, e, hc⟩ := h'.cells (by have := h.le; omega)
      cases e
      unfold Addr.add
      split
      · rename_i h0; subst h0; exact hc 0 hi
      · exact hc i hi
  have HW := Lib.hid hw
  clear hw
  generalize hk : l.count 10 = k at *
  clear hk
  go_enter Try.func30, Try.ntmps30
  go_wp2_with (go_at_call 39; refine hcnt.mono ?_; rintro e w' ⟨rfl, rfl⟩)
  go_ret
  exact ⟨by rw [HW.out]; rfl, (Below.refl _ _).alloc (Nat.le_refl _) _⟩

theorem refWhere (A : Option Addr) (n cap : Nat) (l : List UInt8) (at_ : Nat) (w : World) (B : Nat) (h : Byt w B A n cap l) (ha : at_ ≤ n) (hm : n ≤ 1000000) :
    Calls Try.prog 29 #[.slice A n cap, .int .i64 at_] w fun e w' => e = .returned (.tuple #[.int .i64 (whr (l.take at_)).1, .int .i64 (whr (l.take at_)).2]) ∧ w = w' := by
  have hlen := h.length
  go_enter Try.func29, Try.ntmps29
  go_wp2
  go_loopg [6, 7, 8] (at_) (fun k ln cl i wr => ∃ j x y : Nat, j ≤ at_ ∧ k = at_ - j ∧ i = .int .i64 j ∧ ln = .int .i64 x ∧ cl = .int .i64 y ∧ whr (l.take j) = (x, y) ∧ w = wr)
  case atStart => exact ⟨0, 1, 0, Nat.zero_le _, rfl, rfl, rfl, rfl, rfl, rfl⟩
  case round =>
    obtain ⟨j, x, y, hj, rfl, rfl, rfl, rfl, hL, rfl⟩ := hrel
    have hle := whr_le (l.take j)
    rw [hL, List.length_take] at hle
    have hx : x ≤ 1000002 := by omega
    have hy : y ≤ 1000002 := by omega
    have HL := Lib.hid hL
    clear hL hle
    by_cases hlt : j < at_
    · obtain ⟨b, o, c, rfl, hb, hc, hcell⟩ := h.cell (i := j) (by omega)
      have hts := take_snoc l j c hc
      have HS := Lib.hid hts
      have hjn : (j : Int) < (n : Int) := by omega
      clear hts hc hlen
      by_cases hcc : c = 10
      · subst hcc
        go_wp2
        go_roundg (at_ - (j + 1))
        case measure => omega
        case rel => exact ⟨j + 1, x + 1, 0, by omega, rfl, rfl, rfl, rfl, by rw [HS.out, whr_snoc, HL.out]; rfl, rfl⟩
      · have ht : ((c.toNat : Int) == 10) = false := by
          have := toNat_eq c 10
          rw [decide_eq_false hcc] at this; exact this
        have HC := Lib.hid hcc
        clear hcc
        go_wp2
        go_roundg (at_ - (j + 1))
        case measure => omega
        case rel => exact ⟨j + 1, x, y + 1, by omega, rfl, rfl, rfl, rfl, by rw [HS.out, whr_snoc, HL.out, if_neg HC.out], rfl⟩
    · have hje : j = at_ := by omega
      subst hje
      go_wp2
      go_ret2
      exact ⟨by rw [HL.out]; rfl, rfl⟩

theorem eolWhere_no (A : Option Addr) (n cap : Nat) (at_ : Int) (w : World) (ha : at_ < 0 ∨ (n : Int) < at_) :
    Calls Try.prog 28 #[.slice A n cap, .int .i64 at_] w fun e w' => e = .returned (.tuple #[.int .i64 0, .int .i64 0, .int .i64 3]) ∧ w = w' := by
  by_cases h0 : at_ < 0
  · have hd : decide (at_ < 0) = true := by simpa using h0
    go_enter Try.func28, Try.ntmps28
    go_wp2
    go_ret3
    exact ⟨rfl, rfl⟩
  · have h1 : (n : Int) < at_ := by omega
    go_enter Try.func28, Try.ntmps28
    go_wp2
    go_ret3
    exact ⟨rfl, rfl⟩

theorem eolWhere (A : Option Addr) (n cap : Nat) (l : List UInt8) (at_ : Nat) (w : World) (B : Nat) (h : Byt w B A n cap l) (hB : B ≤ w.heap.size) (ha : at_ ≤ n) (hm : n ≤ 1000000) :
    Calls Try.prog 28 #[.slice A n cap, .int .i64 at_] w fun e w' => e = .returned (.tuple #[.int .i64 (whr (l.take at_)).1, .int .i64 (whr (l.take at_)).2, .int .i64 0]) ∧ Below w.heap.size w w' := by
  have hcap := h.le
  have h' := h.take ha
  have hle := whr_le (l.take at_)
  have hlen := h.length
  rw [List.length_take, hlen] at hle
  have hsnd := whr_snd (l.take at_)
  rw [List.length_take, hlen, show min at_ n = at_ by omega] at hsnd
  have HS := Lib.hid hsnd
  have hb := lastIx_le (l.take at_) 10
  rw [List.length_take, hlen] at hb
  generalize hlx : lastIx (l.take at_) 10 = lx at *
  have HX := Lib.hid hlx
  have hcol : (0 : Int) ≤ (at_ : Int) - 1 - lx := by omega
  clear hlx hsnd hlen
  go_enter Try.func28, Try.ntmps28
  go_wp2_with fail
  refine (lines_c A at_ cap _ w B h' hB (by omega)).mono ?_
  rintro e w1 ⟨rfl, b1⟩
  go_wp2_with fail
  refine (lastIndexByte_c A at_ cap (l.take at_) 10 w1 B (h'.below (b1.mono hB)) (by omega)).mono ?_
  rintro e w2 ⟨rfl, rfl⟩
  rw [HX.out]
  go_wp2
  go_ret3
  exact ⟨by rw [HS.out]; rfl, b1⟩
end Go.Proofs.Ytljplmidnlahpaa
