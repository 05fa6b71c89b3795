/- Texts of ours, joined: Rep6. -/
import Derived.Test.YtocbofeanfdggaaDoorRows
import Derived.WalkKit
import Derived.ProofKit
import Derived.OpenShut
import Derived.ShutString
import Derived.ChangeOld
import Derived.Below
import Derived.BigQuiet
import Derived.Deep.QuietTactic
import Derived.Lib.Hide
import Derived.Deep.RegionHeld3
import Derived.Lib.SlBytesConst
import Derived.Laws.CopyOwn
import Derived.Laws.CopyRow
import Derived.Lib.Bytes
import Derived.Deep.LoopGhost
import Derived.Deep.DeepFit
import Derived.Deep.DeepMust
import Derived.WalkSpells
import Derived.WalkLawsBesides
import Derived.Laws.EntriesVeiled
import Derived.Laws.Rows
import Derived.Deep.RegionWith
import Derived.Test.YtocbofeanfdggaaDoorS1
import Derived.Test.YtocbofeanfdggaaDoorS2
import Derived.Test.YtocbofeanfdggaaDoorS3
import Derived.Test.YtocbofeanfdggaaDoorS7
import Derived.Test.YtocbofeanfdggaaDoorS8
/- report.Event of an end, a text, a comment, any other kind -/
namespace Go.Proofs.YtocbofeanfdggaaDoor
open Go.ChangeShapes Go.WideShapes Go.ChangeAt Go.RowKit
set_option linter.unusedVariables false
/-- An attribute, told; an event, told. -/
def attL (a : List UInt8 × List UInt8 × List UInt8) : List UInt8 := [97, 116, 116, 114, 32] ++ nameL a.1 a.2.1 ++ [61] ++ esc a.2.2 ++ [10]
def evL (k : Int) (sp lo : List UInt8) (ats : List (List UInt8 × List UInt8 × List UInt8)) (tx : List UInt8) : List UInt8 :=
  if k = 1 then [115, 116, 97, 114, 116, 32] ++ nameL sp lo ++ [10] ++ ats.flatMap attL
  else if k = 2 then [101, 110, 100, 32] ++ nameL sp lo ++ [10]
  else if k = 3 then [116, 101, 120, 116, 32] ++ esc tx ++ [10]
  else if k = 4 then [112, 105, 32] ++ nameL sp lo ++ (if tx = [] then [] else [32] ++ esc tx) ++ [10]
  else if k = 5 then [99, 111, 109, 109, 101, 110, 116, 32] ++ esc tx ++ [10]
  else [63, 10]
theorem nameL_le (sp lo : List UInt8) : (nameL sp lo).length ≤ 6 * sp.length + 6 * lo.length + 2 := by
  have h1 := esc_le sp
  have h2 := esc_le lo
  unfold nameL
  split
  · omega
  · simp; omega
set_option maxRecDepth 100000 in
set_option maxHeartbeats 2000000 in
theorem event_end (sp lo tx : List UInt8) (av : Value) (ats : List (List UInt8 × List UInt8 × List UInt8)) (w : World) (h1 : sp.length ≤ 5000) (h2 : lo.length ≤ 5000) (h3 : tx.length ≤ 5000) :
    Calls Tryd.prog 9 #[.agg #[.int .i64 2, .string ⟨sp.toArray⟩, .string ⟨lo.toArray⟩, av, .string ⟨tx.toArray⟩]] w fun e w' => e = .returned (.string ⟨(evL 2 sp lo ats tx).toArray⟩) ∧ Below w.heap.size w w' := by
  have HW : Hid (Below w.heap.size w (w.alloc (.cells #[.int .i64 2, .string ⟨sp.toArray⟩, .string ⟨lo.toArray⟩, av, .string ⟨tx.toArray⟩] 40)) ∧ w.heap.size ≤ (w.alloc (.cells #[.int .i64 2, .string ⟨sp.toArray⟩, .string ⟨lo.toArray⟩, av, .string ⟨tx.toArray⟩] 40)).heap.size) := Lib.hid ⟨(Below.refl _ w).alloc (Nat.le_refl _) _, by simp⟩
  have C1 : Hid (∀ w1, Calls Tryd.prog 25 #[.agg #[.string ⟨sp.toArray⟩, .string ⟨lo.toArray⟩]] w1 fun e w' => e = .returned (.string ⟨(nameL sp lo).toArray⟩) ∧ Below w1.heap.size w1 w') := Lib.hid fun w1 => repName_c sp lo w1 (by omega) (by omega)
  have hn : (nameL sp lo).length ≤ 100000 := by have := nameL_le sp lo; omega
  have hev : evL 2 sp lo ats tx = [101, 110, 100] ++ 32 :: nameL sp lo ++ [10] := by simp [evL]
  rw [hev]
  clear hev h1 h2 h3
  generalize nameL sp lo = N at *
  have L : Hid (∀ w1 : World, Calls Tryd.prog 24 #[.slice (some ⟨w1.heap.size, 0, none⟩) 2 2] (w1.alloc (.cells #[.string ⟨#[101, 110, 100]⟩, .string ⟨N.toArray⟩] 9)) fun e w' => e = .returned (.string ⟨([101, 110, 100] ++ 32 :: N ++ [10]).toArray⟩) ∧ Below w1.heap.size w1 w') := Lib.hid fun w1 => lnAt_2 [101, 110, 100] N w1 (by decide) hn
  generalize [101, 110, 100] ++ 32 :: N ++ [10] = R at *
  clear hn
  go_enter Tryd.func9, Tryd.ntmps9
  go_wp2_with fail
  refine (C1.out _).mono ?_
  rintro e w1 ⟨rfl, hb⟩
  have B1 := Lib.hid (HW.out.1.trans (hb.mono HW.out.2))
  clear hb C1
  go_wp2_with fail
  refine (L.out w1).mono ?_
  rintro e w2 ⟨rfl, hb⟩
  have B2 := Lib.hid (B1.out.trans (hb.mono B1.out.size))
  clear hb L
  go_wp2
  go_ret
  exact ⟨rfl, B2.out⟩
set_option maxRecDepth 100000 in
set_option maxHeartbeats 2000000 in
theorem event_text (sp lo tx : List UInt8) (av : Value) (ats : List (List UInt8 × List UInt8 × List UInt8)) (w : World) (h1 : sp.length ≤ 5000) (h2 : lo.length ≤ 5000) (h3 : tx.length ≤ 5000) :
    Calls Tryd.prog 9 #[.agg #[.int .i64 3, .string ⟨sp.toArray⟩, .string ⟨lo.toArray⟩, av, .string ⟨tx.toArray⟩]] w fun e w' => e = .returned (.string ⟨(evL 3 sp lo ats tx).toArray⟩) ∧ Below w.heap.size w w' := by
  have HW : Hid (Below w.heap.size w (w.alloc (.cells #[.int .i64 3, .string ⟨sp.toArray⟩, .string ⟨lo.toArray⟩, av, .string ⟨tx.toArray⟩] 40)) ∧ w.heap.size ≤ (w.alloc (.cells #[.int .i64 3, .string ⟨sp.toArray⟩, .string ⟨lo.toArray⟩, av, .string ⟨tx.toArray⟩] 40)).heap.size) := Lib.hid ⟨(Below.refl _ w).alloc (Nat.le_refl _) _, by simp⟩
  have C1 : Hid (∀ w1, Calls Tryd.prog 26 #[.string ⟨tx.toArray⟩] w1 fun e w' => e = .returned (.string ⟨(esc tx).toArray⟩) ∧ Below w1.heap.size w1 w') := Lib.hid fun w1 => escape_c tx w1 (by omega)
  have hn : (esc tx).length ≤ 100000 := by have := esc_le tx; omega
  have hev : evL 3 sp lo ats tx = [116, 101, 120, 116] ++ 32 :: esc tx ++ [10] := by simp [evL]
  rw [hev]
  clear hev h1 h2 h3
  generalize esc tx = N at *
  have L : Hid (∀ w1 : World, Calls Tryd.prog 24 #[.slice (some ⟨w1.heap.size, 0, none⟩) 2 2] (w1.alloc (.cells #[.string ⟨#[116, 101, 120, 116]⟩, .string ⟨N.toArray⟩] 9)) fun e w' => e = .returned (.string ⟨([116, 101, 120, 116] ++ 32 :: N ++ [10]).toArray⟩) ∧ Below w1.heap.size w1 w') := Lib.hid fun w1 => lnAt_2 [116, 101, 120, 116] N w1 (by decide) hn
  generalize [116, 101, 120, 116] ++ 32 :: N ++ [10] = R at *
  clear hn
  go_enter Tryd.func9, Tryd.ntmps9
  go_wp2_with fail
  refine (C1.out _).mono ?_
  rintro e w1 ⟨rfl, hb⟩
  have B1 := Lib.hid (HW.out.1.trans (hb.mono HW.out.2))
  clear hb C1
  go_wp2_with fail
  refine (L.out w1).mono ?_
  rintro e w2 ⟨rfl, hb⟩
  have B2 := Lib.hid (B1.out.trans (hb.mono B1.out.size))
  clear hb L
  go_wp2
  go_ret
  exact ⟨rfl, B2.out⟩
set_option maxRecDepth 100000 in
set_option maxHeartbeats 2000000 in
theorem event_comment (sp lo tx : List UInt8) (av : Value) (ats : List (List UInt8 × List UInt8 × List UInt8)) (w : World) (h1 : sp.length ≤ 5000) (h2 : lo.length ≤ 5000) (h3 : tx.length ≤ 5000) :
    Calls Tryd.prog 9 #[.agg #[.int .i64 5, .string ⟨sp.toArray⟩, .string ⟨lo.toArray⟩, av, .string ⟨tx.toArray⟩]] w fun e w' => e = .returned (.string ⟨(evL 5 sp lo ats tx).toArray⟩) ∧ Below w.heap.size w w' := by
  have HW : Hid (Below w.heap.size w (w.alloc (.cells #[.int .i64 5, .string ⟨sp.toArray⟩, .string ⟨lo.toArray⟩, av, .string ⟨tx.toArray⟩] 40)) ∧ w.heap.size ≤ (w.alloc (.cells #[.int .i64 5, .string ⟨sp.toArray⟩, .string ⟨lo.toArray⟩, av, .string ⟨tx.toArray⟩] 40)).heap.size) := Lib.hid ⟨(Below.refl _ w).alloc (Nat.le_refl _) _, by simp⟩
  have C1 : Hid (∀ w1, Calls Tryd.prog 26 #[.string ⟨tx.toArray⟩] w1 fun e w' => e = .returned (.string ⟨(esc tx).toArray⟩) ∧ Below w1.heap.size w1 w') := Lib.hid fun w1 => escape_c tx w1 (by omega)
  have hn : (esc tx).length ≤ 100000 := by have := esc_le tx; omega
  have hev : evL 5 sp lo ats tx = [99, 111, 109, 109, 101, 110, 116] ++ 32 :: esc tx ++ [10] := by simp [evL]
  rw [hev]
  clear hev h1 h2 h3
  generalize esc tx = N at *
  have L : Hid (∀ w1 : World, Calls Tryd.prog 24 #[.slice (some ⟨w1.heap.size, 0, none⟩) 2 2] (w1.alloc (.cells #[.string ⟨#[99, 111, 109, 109, 101, 110, 116]⟩, .string ⟨N.toArray⟩] 9)) fun e w' => e = .returned (.string ⟨([99, 111, 109, 109, 101, 110, 116] ++ 32 :: N ++ [10]).toArray⟩) ∧ Below w1.heap.size w1 w') := Lib.hid fun w1 => lnAt_2 [99, 111, 109, 109, 101, 110, 116] N w1 (by decide) hn
  generalize [99, 111, 109, 109, 101, 110, 116] ++ 32 :: N ++ [10] = R at *
  clear hn
  go_enter Tryd.func9, Tryd.ntmps9
  go_wp2_with fail
  refine (C1.out _).mono ?_
  rintro e w1 ⟨rfl, hb⟩
  have B1 := Lib.hid (HW.out.1.trans (hb.mono HW.out.2))
  clear hb C1
  go_wp2_with fail
  refine (L.out w1).mono ?_
  rintro e w2 ⟨rfl, hb⟩
  have B2 := Lib.hid (B1.out.trans (hb.mono B1.out.size))
  clear hb L
  go_wp2
  go_ret
  exact ⟨rfl, B2.out⟩
set_option maxRecDepth 100000 in
set_option maxHeartbeats 2000000 in
theorem event_other (sp lo tx : List UInt8) (av : Value) (ats : List (List UInt8 × List UInt8 × List UInt8)) (k : Int) (hk : k ≠ 1 ∧ k ≠ 2 ∧ k ≠ 3 ∧ k ≠ 4 ∧ k ≠ 5) (w : World) (h1 : sp.length ≤ 5000) (h2 : lo.length ≤ 5000) (h3 : tx.length ≤ 5000) :
    Calls Tryd.prog 9 #[.agg #[.int .i64 k, .string ⟨sp.toArray⟩, .string ⟨lo.toArray⟩, av, .string ⟨tx.toArray⟩]] w fun e w' => e = .returned (.string ⟨(evL k sp lo ats tx).toArray⟩) ∧ Below w.heap.size w w' := by
  have HW : Hid (Below w.heap.size w (w.alloc (.cells #[.int .i64 k, .string ⟨sp.toArray⟩, .string ⟨lo.toArray⟩, av, .string ⟨tx.toArray⟩] 40)) ∧ w.heap.size ≤ (w.alloc (.cells #[.int .i64 k, .string ⟨sp.toArray⟩, .string ⟨lo.toArray⟩, av, .string ⟨tx.toArray⟩] 40)).heap.size) := Lib.hid ⟨(Below.refl _ w).alloc (Nat.le_refl _) _, by simp⟩
  obtain ⟨k1, k2, k3, k4, k5⟩ := hk
  rw [show evL k sp lo ats tx = [63, 10] by simp [evL, k1, k2, k3, k4, k5]]
  have b1 : (k == 1) = false := by simpa using k1
  have b2 : (k == 2) = false := by simpa using k2
  have b3 : (k == 3) = false := by simpa using k3
  have b4 : (k == 4) = false := by simpa using k4
  have b5 : (k == 5) = false := by simpa using k5
  clear k1 k2 k3 k4 k5 h1 h2 h3
  have L : Hid (∀ w1 : World, Calls Tryd.prog 24 #[.slice (some ⟨w1.heap.size, 0, none⟩) 1 1] (w1.alloc (.cells #[.string ⟨#[63]⟩] 9)) fun e w' => e = .returned (.string ⟨#[63, 10]⟩) ∧ Below w1.heap.size w1 w') := Lib.hid fun w1 => lnAt_1 [63] w1 (by decide)
  go_enter Tryd.func9, Tryd.ntmps9
  have L1 := L.out (w.alloc (.cells #[.int .i64 k, .string ⟨sp.toArray⟩, .string ⟨lo.toArray⟩, av, .string ⟨tx.toArray⟩] 40))
  rw [show (w.alloc (.cells #[.int .i64 k, .string ⟨sp.toArray⟩, .string ⟨lo.toArray⟩, av, .string ⟨tx.toArray⟩] 40)).heap.size = w.heap.size + 1 by simp] at L1
  have L2 := Lib.hid L1
  clear L1 L
  go_wp2_with fail
  refine L2.out.mono ?_
  rintro e w2 ⟨rfl, hb⟩
  have B2 := Lib.hid (HW.out.1.trans (hb.mono (Nat.le_succ _)))
  clear hb L2
  go_wp2
  go_ret
  exact ⟨rfl, B2.out⟩
end Go.Proofs.YtocbofeanfdggaaDoor
