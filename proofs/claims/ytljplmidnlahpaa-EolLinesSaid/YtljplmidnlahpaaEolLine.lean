/- One line's bytes: the program's walk. -/
import Derived.Test.YtljplmidnlahpaaRows
import Derived.WalkKit
import Derived.ProofKit
import Derived.OpenShut
import Derived.ShutString
import Derived.ChangeOld
import Derived.Below
import Derived.BigQuiet
import Derived.Deep.QuietTactic
import Derived.Lib.Hide
import Derived.Deep.RegionHeld3
import Derived.Lib.SlBytesConst
import Derived.Laws.CopyOwn
import Derived.Laws.CopyRow
import Derived.Lib.Bytes
import Derived.Deep.LoopGhost
import Derived.Deep.DeepFit
import Derived.Deep.DeepMust
import Derived.WalkSpells
import Derived.WalkLawsBesides
import Derived.Test.YtljplmidnlahpaaBase
import Derived.Test.YtljplmidnlahpaaShelf
import Derived.Test.YtljplmidnlahpaaEolPlain
import Derived.Test.YtljplmidnlahpaaEolPlain2
import Derived.Test.YtljplmidnlahpaaEolWalks
import Derived.Test.YtljplmidnlahpaaEolNorm
import Derived.Test.YtljplmidnlahpaaEolNorm2
import Derived.Test.YtljplmidnlahpaaEolAt
namespace Go.Proofs.Ytljplmidnlahpaa
open Go.ChangeShapes Go.WideShapes Go.ChangeAt Go.RowKit
set_option linter.unusedVariables false
theorem clone_c (A : Option Addr) (n cap : Nat) (l : List UInt8) (w : World) (B : Nat) (h : Byt w B A n cap l) (hm : n ≤ 1000000) :
    Calls Try.prog 42 #[.slice A n cap] w fun e w' => ∃ A' c, e = .returned (.slice A' n c) ∧ Byt w' w'.heap.size A' n c l ∧ Below w.heap.size w w' := by
  cases A with
  | none =>
    have hc := h.nil rfl
    have hn := h.le
    have hl := h.length
    obtain rfl : cap = 0 := hc
    obtain rfl : n = 0 := by omega
    obtain rfl : l = [] := List.length_eq_zero_iff.1 hl
    exact (Try.bytes_Clone_nil 0 0 w).mono fun e w' ⟨he, hw⟩ => ⟨none, 0, he, Rd.nilR _ _, by rw [hw]; exact Below.refl _ _⟩
  | some a =>
    refine (Try.bytes_Clone_at a n cap (nums l) w (by rw [nums_length, h.length]) (by omega) (fun i hi => ?_)).mono fun e w' ⟨v', he, hown, _, hb⟩ => ?_
    · obtain ⟨b, o, e, hc⟩ := h.cells (by have := h.le; omega)
      cases e
      rw [addr_add]
      exact hc i hi
    · obtain ⟨A', c, rfl, hr⟩ := own_form hown
      have e : (nums l).map (Value.int .u8) = l.map bv := by simp [nums, bv]
      rw [e] at hr
      exact ⟨A', c, he, hr, hb⟩

theorem index1_c (A : Option Addr) (n cap : Nat) (l : List UInt8) (w : World) (B : Nat) (h : Byt w B A n cap l) (b2 : Nat) (hc2 : w.cell? ⟨b2, 0, none⟩ = some (.int .u8 10)) :
    Calls Try.prog 46 #[.slice A n cap, .slice (some ⟨b2, 0, none⟩) 1 1] w fun e w' => e = .returned (.int .i64 (Lib.indexByte l 10)) ∧ ∃ q, w' = w.drewN q := by
  cases A with
  | none =>
    have hc := h.nil rfl
    have hn := h.le
    have hl := h.length
    obtain rfl : cap = 0 := hc
    obtain rfl : n = 0 := by omega
    obtain rfl : l = [] := List.length_eq_zero_iff.1 hl
    exact (Try.bytes_Index_one_nil b2 0 1 10 w hc2).mono fun e w' ⟨he, hw⟩ => ⟨he, 0, hw⟩
  | some a =>
    refine (Try.bytes_Index_one_at a n cap b2 0 1 (nums l) 10 w (by rw [nums_length, h.length]) (fun i hi => ?_) hc2).mono fun e w' ⟨he, hw⟩ => ⟨by rw [he, bytesOf_nums]; rfl, 0, hw⟩
    obtain ⟨b, o, e, hc⟩ := h.cells (by have := h.le; omega)
    cases e
    rw [addr_add]
    exact hc i hi

theorem line_no (A : Option Addr) (n cap : Nat) (l : List UInt8) (k : Int) (w : World) (B : Nat) (h : Byt w B A n cap l) (hB : B ≤ w.heap.size) (hm : n ≤ 1000000) (hk : k < 1 ∨ (l.count 10 : Int) + 1 < k) :
    Calls Try.prog 35 #[.slice A n cap, .int .i64 k] w fun e w' => e = .returned (.tuple #[.slice none 0 0, .int .i64 3]) ∧ Below w.heap.size w w' := by
  have hc := Lib.hid (eolAt_no A n cap l k w B h hB hm hk)
  clear hk
  go_enter Try.func35, Try.ntmps35
  go_wp2_with fail
  refine hc.out.mono ?_
  rintro e w1 ⟨rfl, b1⟩
  go_wp2
  go_ret2
  exact ⟨rfl, b1⟩

theorem line_ok (A : Option Addr) (n cap : Nat) (l : List UInt8) (k : Nat) (w : World) (B : Nat) (h : Byt w B A n cap l) (hB : B ≤ w.heap.size) (hm : n ≤ 1000000) (hk : k ≤ l.count 10) :
    Calls Try.prog 35 #[.slice A n cap, .int .i64 ((k : Int) + 1)] w fun e w' => ∃ A' m c, e = .returned (.tuple #[.slice A' m c, .int .i64 0]) ∧ Byt w' w'.heap.size A' m c (lnOf (l.drop (stt l k))) ∧ Below w.heap.size w w' := by
  have hc := Lib.hid (eolAt_ok A n cap l k w B h hB hm hk)
  obtain ⟨f1, f2, f3⟩ := stt_facts l k hk
  rw [h.length] at f1
  clear f2 f3 hk
  generalize stt l k = s at *
  have hcap := h.le
  have hrf := fun w1 => run_from (w := w1) A n cap s f1
  have hsn : (s : Int) ≤ (n : Int) := by omega
  go_enter Try.func35, Try.ntmps35
  go_wp2_with fail
  refine hc.out.mono ?_
  rintro e w1 ⟨rfl, b1⟩
  clear hc
  have hd1 : Byt w1 B (cutA A cap s) (n - s) (cap - s) (l.drop s) := (h.below (b1.mono hB)).drop f1
  have hz1 : w.heap.size ≤ w1.heap.size := b1.size
  have hd2 : Byt (w1.alloc (.cells #[.int .u8 10] 5)) B (cutA A cap s) (n - s) (cap - s) (l.drop s) := hd1.below ((Below.refl B w1).alloc (by omega) _)
  have hcut := Try.bytes_Cut_of (cutA A cap s) (some ⟨w1.heap.size, 0, none⟩) (n - s) (cap - s) 1 1 _ _ (by omega) (indexByte_lo 10 (l.drop s)).1 (fun h0 => by have := (indexByte_lo 10 (l.drop s)).2; rw [List.length_drop, h.length] at this; omega) (by omega) (index1_c _ _ _ _ (w1.alloc (.cells #[.int .u8 10] 5)) B hd2 w1.heap.size (by simp))
  obtain ⟨m, r1, r2, hm1, hcv, hml⟩ : ∃ m r1 r2, m ≤ n - s ∧ Lib.cutV (cutA A cap s) (n - s) (cap - s) 1 (Lib.indexByte (l.drop s) 10) = .tuple #[.slice (cutA A cap s) m (cap - s), r1, .bool r2] ∧ lnOf (l.drop s) = (l.drop s).take m := by
    have hlo := indexByte_lo 10 (l.drop s)
    rw [List.length_drop, h.length] at hlo
    by_cases h0 : 0 ≤ Lib.indexByte (l.drop s) 10
    · exact ⟨(Lib.indexByte (l.drop s) 10).toNat, _, _, by omega, by rw [Lib.cutV, if_pos h0], by rw [lnOf, if_pos h0]⟩
    · exact ⟨n - s, _, _, Nat.le_refl _, by rw [Lib.cutV, if_neg h0], by rw [lnOf, if_neg h0, List.take_of_length_le (by rw [List.length_drop, h.length]; exact Nat.le_refl _)]⟩
  rw [hcv] at hcut
  have HC := Lib.hid hcut
  have HM := Lib.hid hml
  clear hcut hml hcv
  go_wp2_with fail
  refine HC.out.mono ?_
  rintro e w2 ⟨rfl, q, rfl⟩
  clear HC
  have hd3 : Byt ((w1.alloc (.cells #[.int .u8 10] 5)).drewN q) B (cutA A cap s) m (cap - s) ((l.drop s).take m) := hd2.drewN.take hm1
  have hb3 : Below w.heap.size w ((w1.alloc (.cells #[.int .u8 10] 5)).drewN q) := below_drewN (b1.alloc hz1 _) _
  have hz3 : w.heap.size ≤ ((w1.alloc (.cells #[.int .u8 10] 5)).drewN q).heap.size := hb3.size
  have HB := Lib.hid (And.intro hb3 hz3)
  clear hd1 hd2 hb3 hz3 b1
  generalize hw2 : (w1.alloc (.cells #[.int .u8 10] 5)).drewN q = w2 at *
  clear hw2
  go_wp2_with fail
  refine (clone_c (cutA A cap s) m (cap - s) _ w2 B hd3 (by omega)).mono ?_
  rintro e w3 ⟨A', c, rfl, hb, b3⟩
  go_wp2
  go_ret2
  exact ⟨A', m, c, rfl, by rw [HM.out]; exact hb, HB.out.1.trans (b3.mono HB.out.2)⟩
end Go.Proofs.Ytljplmidnlahpaa
