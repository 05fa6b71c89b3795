/- Texts of ours, joined: Rep7, Rep8, Rep9, RpD. -/
import Derived.Test.YtocbofeanfdggaaDoorRows
import Derived.WalkKit
import Derived.ProofKit
import Derived.OpenShut
import Derived.ShutString
import Derived.ChangeOld
import Derived.Below
import Derived.BigQuiet
import Derived.Deep.QuietTactic
import Derived.Lib.Hide
import Derived.Deep.RegionHeld3
import Derived.Lib.SlBytesConst
import Derived.Laws.CopyOwn
import Derived.Laws.CopyRow
import Derived.Lib.Bytes
import Derived.Deep.LoopGhost
import Derived.Deep.DeepFit
import Derived.Deep.DeepMust
import Derived.WalkSpells
import Derived.WalkLawsBesides
import Derived.Laws.EntriesVeiled
import Derived.Laws.Rows
import Derived.Deep.RegionWith
import Derived.Test.YtocbofeanfdggaaDoorS1
import Derived.Test.YtocbofeanfdggaaDoorS2
import Derived.Test.YtocbofeanfdggaaDoorS3
import Derived.Test.YtocbofeanfdggaaDoorS7
import Derived.Test.YtocbofeanfdggaaDoorS8
import Derived.Test.YtocbofeanfdggaaDoorS9
import Derived.Test.YtocbofeanfdggaaDoorS5
import Derived.Test.YtocbofeanfdggaaDoorS6
import Derived.Test.YtocbofeanfdggaaDoorS10
import Derived.Test.YtocbofeanfdggaaDoorS11
/- report.Event of an instruction -/
namespace Go.Proofs.YtocbofeanfdggaaDoor
open Go.ChangeShapes Go.WideShapes Go.ChangeAt Go.RowKit
set_option linter.unusedVariables false
/-- In the midst of Event, an instruction: the text's cell. -/
def PiJ (tx : List UInt8) (w w' : World) : Prop := Below w.heap.size w w' ∧ w'.cell? ⟨w.heap.size, 4, none⟩ = some (.string ⟨tx.toArray⟩) ∧ w.heap.size < w'.heap.size
theorem PiJ.kept {tx : List UInt8} {w w1 w2 : World} (h : PiJ tx w w1) (hb : Below w1.heap.size w1 w2) : PiJ tx w w2 :=
  ⟨h.1.trans (hb.mono h.1.size), (hb.cell (p := ⟨w.heap.size, 4, none⟩) h.2.2).trans h.2.1, Nat.lt_of_lt_of_le h.2.2 hb.size⟩
theorem PiJ.drew {tx : List UInt8} {w w1 : World} (h : PiJ tx w w1) : PiJ tx w w1.drew := ⟨h.1.drew, h.2.1, h.2.2⟩
theorem PiJ.start (sp lo tx : List UInt8) (av : Value) (w : World) : PiJ tx w (w.alloc (.cells #[.int .i64 4, .string ⟨sp.toArray⟩, .string ⟨lo.toArray⟩, av, .string ⟨tx.toArray⟩] 40)) :=
  ⟨(Below.refl _ w).alloc (Nat.le_refl _) _, by rw [cell_of 4 (hp_new w _)]; rfl, by simp⟩
set_option maxRecDepth 100000 in
set_option maxHeartbeats 2000000 in
theorem event_pi0 (sp lo : List UInt8) (av : Value) (ats : List (List UInt8 × List UInt8 × List UInt8)) (w : World) (h1 : sp.length ≤ 5000) (h2 : lo.length ≤ 5000) :
    Calls Tryd.prog 9 #[.agg #[.int .i64 4, .string ⟨sp.toArray⟩, .string ⟨lo.toArray⟩, av, .string ⟨#[]⟩]] w fun e w' => e = .returned (.string ⟨(evL 4 sp lo ats []).toArray⟩) ∧ Below w.heap.size w w' := by
  have HW : Hid (Below w.heap.size w (w.alloc (.cells #[.int .i64 4, .string ⟨sp.toArray⟩, .string ⟨lo.toArray⟩, av, .string ⟨#[]⟩] 40)) ∧ w.heap.size ≤ (w.alloc (.cells #[.int .i64 4, .string ⟨sp.toArray⟩, .string ⟨lo.toArray⟩, av, .string ⟨#[]⟩] 40)).heap.size) := Lib.hid ⟨(Below.refl _ w).alloc (Nat.le_refl _) _, by simp⟩
  have C1 : Hid (∀ w1, Calls Tryd.prog 25 #[.agg #[.string ⟨sp.toArray⟩, .string ⟨lo.toArray⟩]] w1 fun e w' => e = .returned (.string ⟨(nameL sp lo).toArray⟩) ∧ Below w1.heap.size w1 w') := Lib.hid fun w1 => repName_c sp lo w1 (by omega) (by omega)
  have hn : (nameL sp lo).length ≤ 100000 := by have := nameL_le sp lo; omega
  have hev : evL 4 sp lo ats [] = [112, 105] ++ 32 :: nameL sp lo ++ [10] := by simp [evL]
  rw [hev]
  clear hev h1 h2
  generalize nameL sp lo = N at *
  have L : Hid (∀ w1 : World, Calls Tryd.prog 24 #[.slice (some ⟨w1.heap.size, 0, none⟩) 2 2] (w1.alloc (.cells #[.string ⟨#[112, 105]⟩, .string ⟨N.toArray⟩] 9)) fun e w' => e = .returned (.string ⟨([112, 105] ++ 32 :: N ++ [10]).toArray⟩) ∧ Below w1.heap.size w1 w') := Lib.hid fun w1 => lnAt_2 [112, 105] N w1 (by decide) hn
  generalize [112, 105] ++ 32 :: N ++ [10] = R at *
  clear hn
  go_enter Tryd.func9, Tryd.ntmps9
  go_wp2_with fail
  refine (C1.out _).mono ?_
  rintro e w1 ⟨rfl, hb⟩
  have B1 := Lib.hid (HW.out.1.trans (hb.mono HW.out.2))
  clear hb C1
  go_wp2_with fail
  refine (L.out w1).mono ?_
  rintro e w2 ⟨rfl, hb⟩
  have B2 := Lib.hid (B1.out.trans (hb.mono B1.out.size))
  clear hb L
  go_wp2
  go_ret
  exact ⟨rfl, B2.out⟩
set_option maxRecDepth 100000 in
set_option maxHeartbeats 2000000 in
theorem event_pi (sp lo tx : List UInt8) (av : Value) (ats : List (List UInt8 × List UInt8 × List UInt8)) (w : World) (h1 : sp.length ≤ 5000) (h2 : lo.length ≤ 5000) (h3 : tx.length ≤ 5000) (ht : tx ≠ []) :
    Calls Tryd.prog 9 #[.agg #[.int .i64 4, .string ⟨sp.toArray⟩, .string ⟨lo.toArray⟩, av, .string ⟨tx.toArray⟩]] w fun e w' => e = .returned (.string ⟨(evL 4 sp lo ats tx).toArray⟩) ∧ Below w.heap.size w w' := by
  have J1 := Lib.hid (PiJ.start sp lo tx av w).drew
  have c4 := (PiJ.start sp lo tx av w).2.1
  have he : (tx == []) = false := by simpa using ht
  have hn : (nameL sp lo).length ≤ 100000 := by have := nameL_le sp lo; omega
  have hm : (esc tx).length ≤ 100000 := by have := esc_le tx; omega
  have hev : evL 4 sp lo ats tx = [112, 105] ++ 32 :: (nameL sp lo ++ 32 :: esc tx) ++ [10] := by simp [evL, ht]
  rw [hev]
  have C1 : Hid (∀ w1, Hid (PiJ tx w w1) → Calls Tryd.prog 25 #[.agg #[.string ⟨sp.toArray⟩, .string ⟨lo.toArray⟩]] w1 fun e w' => e = .returned (.string ⟨(nameL sp lo).toArray⟩) ∧ w'.cell? ⟨w.heap.size, 4, none⟩ = some (.string ⟨tx.toArray⟩) ∧ Hid (PiJ tx w w')) := Lib.hid fun w1 h => (repName_c sp lo w1 (by omega) (by omega)).mono fun e w' ⟨he, hb⟩ => ⟨he, (h.out.kept hb).2.1, Lib.hid (h.out.kept hb)⟩
  have C2 : Hid (∀ w1, Hid (PiJ tx w w1) → Calls Tryd.prog 26 #[.string ⟨tx.toArray⟩] w1 fun e w' => e = .returned (.string ⟨(esc tx).toArray⟩) ∧ w'.cell? ⟨w.heap.size, 4, none⟩ = some (.string ⟨tx.toArray⟩) ∧ Hid (PiJ tx w w')) := Lib.hid fun w1 h => (escape_c tx w1 (by omega)).mono fun e w' ⟨he, hb⟩ => ⟨he, (h.out.kept hb).2.1, Lib.hid (h.out.kept hb)⟩
  clear hev h1 h2 h3 ht
  generalize nameL sp lo = N at *
  generalize esc tx = T at *
  have C3 : Hid (∀ w1 : World, Hid (PiJ tx w w1) → Calls Tryd.prog 24 #[.slice (some ⟨w1.heap.size, 0, none⟩) 3 3] (w1.alloc (.cells #[.string ⟨#[112, 105]⟩, .string ⟨N.toArray⟩, .string ⟨T.toArray⟩] 9)) fun e w' => e = .returned (.string ⟨([112, 105] ++ 32 :: (N ++ 32 :: T) ++ [10]).toArray⟩) ∧ Hid (PiJ tx w w')) := Lib.hid fun w1 h => (lnAt_3 [112, 105] N T w1 (by decide) hn hm).mono fun e w' ⟨he, hb⟩ => ⟨he, Lib.hid (h.out.kept hb)⟩
  generalize [112, 105] ++ 32 :: (N ++ 32 :: T) ++ [10] = R at *
  clear hn hm
  go_enter Tryd.func9, Tryd.ntmps9
  go_wp2_with fail
  go_region_with (first
      | (go_at_call 25; refine (C1.out _ (by assumption)).mono ?_; rintro e w1 ⟨rfl, b1, hj1⟩)
      | (go_at_call 26; refine (C2.out _ (by assumption)).mono ?_; rintro e w2 ⟨rfl, b2, hj2⟩)
      | (go_at_call 24; refine (C3.out _ (by assumption)).mono ?_; rintro e w3 ⟨rfl, hj3⟩))
  all_goals (
    go_wp2
    go_ret
    exact ⟨rfl, hj3.out.1⟩)
end Go.Proofs.YtocbofeanfdggaaDoor
/- narthexref44.Event of an end, a text, a comment, any other kind -/
namespace Go.Proofs.YtocbofeanfdggaaDoor
open Go.ChangeShapes Go.WideShapes Go.ChangeAt Go.RowKit
set_option linter.unusedVariables false
set_option maxRecDepth 100000 in
set_option maxHeartbeats 1000000 in
theorem refEvent_end (sp lo tx : List UInt8) (av : Value) (ats : List (List UInt8 × List UInt8 × List UInt8)) (w : World) (h1 : sp.length ≤ 5000) (h2 : lo.length ≤ 5000) (h3 : tx.length ≤ 5000) :
    Calls Tryd.prog 10 #[.agg #[.int .i64 2, .string ⟨sp.toArray⟩, .string ⟨lo.toArray⟩, av, .string ⟨tx.toArray⟩]] w fun e w' => e = .returned (.string ⟨(evL 2 sp lo ats tx).toArray⟩) ∧ Below w.heap.size w w' := by
  have HW : Hid (Below w.heap.size w (w.alloc (.cells #[.int .i64 2, .string ⟨sp.toArray⟩, .string ⟨lo.toArray⟩, av, .string ⟨tx.toArray⟩] 40)) ∧ w.heap.size ≤ (w.alloc (.cells #[.int .i64 2, .string ⟨sp.toArray⟩, .string ⟨lo.toArray⟩, av, .string ⟨tx.toArray⟩] 40)).heap.size) := Lib.hid ⟨(Below.refl _ w).alloc (Nat.le_refl _) _, by simp⟩
  have C1 : Hid (∀ w1, Calls Tryd.prog 28 #[.agg #[.string ⟨sp.toArray⟩, .string ⟨lo.toArray⟩]] w1 fun e w' => e = .returned (.string ⟨(nameL sp lo).toArray⟩) ∧ Below w1.heap.size w1 w') := Lib.hid fun w1 => refName_c sp lo w1 (by omega) (by omega)
  have hn : (nameL sp lo).length ≤ 100000 := by have := nameL_le sp lo; omega
  have hev : evL 2 sp lo ats tx = [101, 110, 100, 32] ++ nameL sp lo ++ [10] := by simp [evL]
  rw [hev]
  clear hev h1 h2 h3
  generalize nameL sp lo = N at *
  have p1 : ∀ w : World, (Op.stringOp .add ⟨#[101, 110, 100, 32]⟩ ⟨N.toArray⟩).run Tryd.prog w = .ok (.string ⟨([101, 110, 100, 32] ++ N).toArray⟩) w := fun w => run_sop (w := w) [101, 110, 100, 32] N (by simp; omega)
  have p2 : ∀ w : World, (Op.stringOp .add ⟨([101, 110, 100, 32] ++ N).toArray⟩ ⟨#[10]⟩).run Tryd.prog w = .ok (.string ⟨([101, 110, 100, 32] ++ N ++ [10]).toArray⟩) w := fun w => run_sop (w := w) _ [10] (by simp; omega)
  generalize [101, 110, 100, 32] ++ N ++ [10] = R at *
  generalize [101, 110, 100, 32] ++ N = R1 at *
  clear hn
  go_enter Tryd.func10, Tryd.ntmps10
  go_wp2_with fail
  refine (C1.out _).mono ?_
  rintro e w1 ⟨rfl, hb⟩
  have B1 := Lib.hid (HW.out.1.trans (hb.mono HW.out.2))
  clear hb C1
  go_wp2
  go_ret
  exact ⟨rfl, B1.out⟩
set_option maxRecDepth 100000 in
set_option maxHeartbeats 1000000 in
theorem refEvent_text (sp lo tx : List UInt8) (av : Value) (ats : List (List UInt8 × List UInt8 × List UInt8)) (w : World) (h1 : sp.length ≤ 5000) (h2 : lo.length ≤ 5000) (h3 : tx.length ≤ 5000) :
    Calls Tryd.prog 10 #[.agg #[.int .i64 3, .string ⟨sp.toArray⟩, .string ⟨lo.toArray⟩, av, .string ⟨tx.toArray⟩]] w fun e w' => e = .returned (.string ⟨(evL 3 sp lo ats tx).toArray⟩) ∧ Below w.heap.size w w' := by
  have HW : Hid (Below w.heap.size w (w.alloc (.cells #[.int .i64 3, .string ⟨sp.toArray⟩, .string ⟨lo.toArray⟩, av, .string ⟨tx.toArray⟩] 40)) ∧ w.heap.size ≤ (w.alloc (.cells #[.int .i64 3, .string ⟨sp.toArray⟩, .string ⟨lo.toArray⟩, av, .string ⟨tx.toArray⟩] 40)).heap.size) := Lib.hid ⟨(Below.refl _ w).alloc (Nat.le_refl _) _, by simp⟩
  have C1 : Hid (∀ w1, Calls Tryd.prog 21 #[.string ⟨tx.toArray⟩] w1 fun e w' => e = .returned (.string ⟨(esc tx).toArray⟩) ∧ Below w1.heap.size w1 w') := Lib.hid fun w1 => (refEscape_c tx w1 (by omega)).mono fun e w' ⟨he, hw⟩ => ⟨he, hw ▸ Below.refl _ _⟩
  have hn : (esc tx).length ≤ 100000 := by have := esc_le tx; omega
  have hev : evL 3 sp lo ats tx = [116, 101, 120, 116, 32] ++ esc tx ++ [10] := by simp [evL]
  rw [hev]
  clear hev h1 h2 h3
  generalize esc tx = N at *
  have p1 : ∀ w : World, (Op.stringOp .add ⟨#[116, 101, 120, 116, 32]⟩ ⟨N.toArray⟩).run Tryd.prog w = .ok (.string ⟨([116, 101, 120, 116, 32] ++ N).toArray⟩) w := fun w => run_sop (w := w) [116, 101, 120, 116, 32] N (by simp; omega)
  have p2 : ∀ w : World, (Op.stringOp .add ⟨([116, 101, 120, 116, 32] ++ N).toArray⟩ ⟨#[10]⟩).run Tryd.prog w = .ok (.string ⟨([116, 101, 120, 116, 32] ++ N ++ [10]).toArray⟩) w := fun w => run_sop (w := w) _ [10] (by simp; omega)
  generalize [116, 101, 120, 116, 32] ++ N ++ [10] = R at *
  generalize [116, 101, 120, 116, 32] ++ N = R1 at *
  clear hn
  go_enter Tryd.func10, Tryd.ntmps10
  go_wp2_with fail
  refine (C1.out _).mono ?_
  rintro e w1 ⟨rfl, hb⟩
  have B1 := Lib.hid (HW.out.1.trans (hb.mono HW.out.2))
  clear hb C1
  go_wp2
  go_ret
  exact ⟨rfl, B1.out⟩
set_option maxRecDepth 100000 in
set_option maxHeartbeats 1000000 in
theorem refEvent_comment (sp lo tx : List UInt8) (av : Value) (ats : List (List UInt8 × List UInt8 × List UInt8)) (w : World) (h1 : sp.length ≤ 5000) (h2 : lo.length ≤ 5000) (h3 : tx.length ≤ 5000) :
    Calls Tryd.prog 10 #[.agg #[.int .i64 5, .string ⟨sp.toArray⟩, .string ⟨lo.toArray⟩, av, .string ⟨tx.toArray⟩]] w fun e w' => e = .returned (.string ⟨(evL 5 sp lo ats tx).toArray⟩) ∧ Below w.heap.size w w' := by
  have HW : Hid (Below w.heap.size w (w.alloc (.cells #[.int .i64 5, .string ⟨sp.toArray⟩, .string ⟨lo.toArray⟩, av, .string ⟨tx.toArray⟩] 40)) ∧ w.heap.size ≤ (w.alloc (.cells #[.int .i64 5, .string ⟨sp.toArray⟩, .string ⟨lo.toArray⟩, av, .string ⟨tx.toArray⟩] 40)).heap.size) := Lib.hid ⟨(Below.refl _ w).alloc (Nat.le_refl _) _, by simp⟩
  have C1 : Hid (∀ w1, Calls Tryd.prog 21 #[.string ⟨tx.toArray⟩] w1 fun e w' => e = .returned (.string ⟨(esc tx).toArray⟩) ∧ Below w1.heap.size w1 w') := Lib.hid fun w1 => (refEscape_c tx w1 (by omega)).mono fun e w' ⟨he, hw⟩ => ⟨he, hw ▸ Below.refl _ _⟩
  have hn : (esc tx).length ≤ 100000 := by have := esc_le tx; omega
  have hev : evL 5 sp lo ats tx = [99, 111, 109, 109, 101, 110, 116, 32] ++ esc tx ++ [10] := by simp [evL]
  rw [hev]
  clear hev h1 h2 h3
  generalize esc tx = N at *
  have p1 : ∀ w : World, (Op.stringOp .add ⟨#[99, 111, 109, 109, 101, 110, 116, 32]⟩ ⟨N.toArray⟩).run Tryd.prog w = .ok (.string ⟨([99, 111, 109, 109, 101, 110, 116, 32] ++ N).toArray⟩) w := fun w => run_sop (w := w) [99, 111, 109, 109, 101, 110, 116, 32] N (by simp; omega)
  have p2 : ∀ w : World, (Op.stringOp .add ⟨([99, 111, 109, 109, 101, 110, 116, 32] ++ N).toArray⟩ ⟨#[10]⟩).run Tryd.prog w = .ok (.string ⟨([99, 111, 109, 109, 101, 110, 116, 32] ++ N ++ [10]).toArray⟩) w := fun w => run_sop (w := w) _ [10] (by simp; omega)
  generalize [99, 111, 109, 109, 101, 110, 116, 32] ++ N ++ [10] = R at *
  generalize [99, 111, 109, 109, 101, 110, 116, 32] ++ N = R1 at *
  clear hn
  go_enter Tryd.func10, Tryd.ntmps10
  go_wp2_with fail
  refine (C1.out _).mono ?_
  rintro e w1 ⟨rfl, hb⟩
  have B1 := Lib.hid (HW.out.1.trans (hb.mono HW.out.2))
  clear hb C1
  go_wp2
  go_ret
  exact ⟨rfl, B1.out⟩
set_option maxRecDepth 100000 in
set_option maxHeartbeats 1000000 in
theorem refEvent_other (sp lo tx : List UInt8) (av : Value) (ats : List (List UInt8 × List UInt8 × List UInt8)) (k : Int) (hk : k ≠ 1 ∧ k ≠ 2 ∧ k ≠ 3 ∧ k ≠ 4 ∧ k ≠ 5) (w : World) (h1 : sp.length ≤ 5000) (h2 : lo.length ≤ 5000) (h3 : tx.length ≤ 5000) :
    Calls Tryd.prog 10 #[.agg #[.int .i64 k, .string ⟨sp.toArray⟩, .string ⟨lo.toArray⟩, av, .string ⟨tx.toArray⟩]] w fun e w' => e = .returned (.string ⟨(evL k sp lo ats tx).toArray⟩) ∧ Below w.heap.size w w' := by
  have HW : Hid (Below w.heap.size w (w.alloc (.cells #[.int .i64 k, .string ⟨sp.toArray⟩, .string ⟨lo.toArray⟩, av, .string ⟨tx.toArray⟩] 40)) ∧ w.heap.size ≤ (w.alloc (.cells #[.int .i64 k, .string ⟨sp.toArray⟩, .string ⟨lo.toArray⟩, av, .string ⟨tx.toArray⟩] 40)).heap.size) := Lib.hid ⟨(Below.refl _ w).alloc (Nat.le_refl _) _, by simp⟩
  obtain ⟨k1, k2, k3, k4, k5⟩ := hk
  rw [show evL k sp lo ats tx = [63, 10] by simp [evL, k1, k2, k3, k4, k5]]
  have b1 : (k == 1) = false := by simpa using k1
  have b2 : (k == 2) = false := by simpa using k2
  have b3 : (k == 3) = false := by simpa using k3
  have b4 : (k == 4) = false := by simpa using k4
  have b5 : (k == 5) = false := by simpa using k5
  clear k1 k2 k3 k4 k5 h1 h2 h3
  go_enter Tryd.func10, Tryd.ntmps10
  go_wp2
  go_ret
  exact ⟨rfl, HW.out.1⟩
end Go.Proofs.YtocbofeanfdggaaDoor
/- narthexref44.Event of an instruction -/
namespace Go.Proofs.YtocbofeanfdggaaDoor
open Go.ChangeShapes Go.WideShapes Go.ChangeAt Go.RowKit
set_option linter.unusedVariables false
set_option maxRecDepth 100000 in
set_option maxHeartbeats 1000000 in
theorem refEvent_pi0 (sp lo : List UInt8) (av : Value) (ats : List (List UInt8 × List UInt8 × List UInt8)) (w : World) (h1 : sp.length ≤ 5000) (h2 : lo.length ≤ 5000) :
    Calls Tryd.prog 10 #[.agg #[.int .i64 4, .string ⟨sp.toArray⟩, .string ⟨lo.toArray⟩, av, .string ⟨#[]⟩]] w fun e w' => e = .returned (.string ⟨(evL 4 sp lo ats []).toArray⟩) ∧ Below w.heap.size w w' := by
  have J0 := Lib.hid (PiJ.start sp lo [] av w)
  have C1 : Hid (∀ w1, Hid (PiJ [] w w1) → Calls Tryd.prog 28 #[.agg #[.string ⟨sp.toArray⟩, .string ⟨lo.toArray⟩]] w1 fun e w' => e = .returned (.string ⟨(nameL sp lo).toArray⟩) ∧ w'.cell? ⟨w.heap.size, 4, none⟩ = some (.string ⟨[].toArray⟩) ∧ Hid (PiJ [] w w')) := Lib.hid fun w1 h => (refName_c sp lo w1 (by omega) (by omega)).mono fun e w' ⟨he, hb⟩ => ⟨he, (h.out.kept hb).2.1, Lib.hid (h.out.kept hb)⟩
  have hn : (nameL sp lo).length ≤ 100000 := by have := nameL_le sp lo; omega
  have hev : evL 4 sp lo ats [] = [112, 105, 32] ++ nameL sp lo ++ [10] := by simp [evL]
  rw [hev]
  clear hev h1 h2
  generalize nameL sp lo = N at *
  have p1 : ∀ w : World, (Op.stringOp .add ⟨#[112, 105, 32]⟩ ⟨N.toArray⟩).run Tryd.prog w = .ok (.string ⟨([112, 105, 32] ++ N).toArray⟩) w := fun w => run_sop (w := w) [112, 105, 32] N (by simp; omega)
  have p2 : ∀ w : World, (Op.stringOp .add ⟨([112, 105, 32] ++ N).toArray⟩ ⟨#[10]⟩).run Tryd.prog w = .ok (.string ⟨([112, 105, 32] ++ N ++ [10]).toArray⟩) w := fun w => run_sop (w := w) _ [10] (by simp; omega)
  generalize [112, 105, 32] ++ N ++ [10] = R at *
  generalize [112, 105, 32] ++ N = R1 at *
  clear hn
  go_enter Tryd.func10, Tryd.ntmps10
  go_wp2_with fail
  refine (C1.out _ J0).mono ?_
  rintro e w1 ⟨rfl, b1, hj1⟩
  go_wp2
  go_ret
  exact ⟨rfl, hj1.out.1⟩
set_option maxRecDepth 100000 in
set_option maxHeartbeats 1000000 in
theorem refEvent_pi (sp lo tx : List UInt8) (av : Value) (ats : List (List UInt8 × List UInt8 × List UInt8)) (w : World) (h1 : sp.length ≤ 5000) (h2 : lo.length ≤ 5000) (h3 : tx.length ≤ 5000) (ht : tx ≠ []) :
    Calls Tryd.prog 10 #[.agg #[.int .i64 4, .string ⟨sp.toArray⟩, .string ⟨lo.toArray⟩, av, .string ⟨tx.toArray⟩]] w fun e w' => e = .returned (.string ⟨(evL 4 sp lo ats tx).toArray⟩) ∧ Below w.heap.size w w' := by
  have J0 := Lib.hid (PiJ.start sp lo tx av w)
  have C1 : Hid (∀ w1, Hid (PiJ tx w w1) → Calls Tryd.prog 28 #[.agg #[.string ⟨sp.toArray⟩, .string ⟨lo.toArray⟩]] w1 fun e w' => e = .returned (.string ⟨(nameL sp lo).toArray⟩) ∧ w'.cell? ⟨w.heap.size, 4, none⟩ = some (.string ⟨tx.toArray⟩) ∧ Hid (PiJ tx w w')) := Lib.hid fun w1 h => (refName_c sp lo w1 (by omega) (by omega)).mono fun e w' ⟨he, hb⟩ => ⟨he, (h.out.kept hb).2.1, Lib.hid (h.out.kept hb)⟩
  have hn : (nameL sp lo).length ≤ 100000 := by have := nameL_le sp lo; omega
  have hm : (esc tx).length ≤ 100000 := by have := esc_le tx; omega
  have he : (tx == []) = false := by simpa using ht
  have hev : evL 4 sp lo ats tx = [112, 105, 32] ++ nameL sp lo ++ [32] ++ esc tx ++ [10] := by simp [evL, ht]
  have C2 : Hid (∀ w1, Hid (PiJ tx w w1) → Calls Tryd.prog 21 #[.string ⟨tx.toArray⟩] w1 fun e w' => e = .returned (.string ⟨(esc tx).toArray⟩) ∧ w'.cell? ⟨w.heap.size, 4, none⟩ = some (.string ⟨tx.toArray⟩) ∧ Hid (PiJ tx w w')) := Lib.hid fun w1 h => (refEscape_c tx w1 (by omega)).mono fun e w' ⟨he, hw⟩ => ⟨he, by rw [← hw]; exact h.out.2.1, hw ▸ h⟩
  rw [hev]
  clear hev h1 h2 h3 ht
  generalize nameL sp lo = N at *
  generalize esc tx = T at *
  have p1 : ∀ w : World, (Op.stringOp .add ⟨#[112, 105, 32]⟩ ⟨N.toArray⟩).run Tryd.prog w = .ok (.string ⟨([112, 105, 32] ++ N).toArray⟩) w := fun w => run_sop (w := w) [112, 105, 32] N (by simp; omega)
  have p2 : ∀ w : World, (Op.stringOp .add ⟨([112, 105, 32] ++ N).toArray⟩ ⟨#[32]⟩).run Tryd.prog w = .ok (.string ⟨([112, 105, 32] ++ N ++ [32]).toArray⟩) w := fun w => run_sop (w := w) _ [32] (by simp; omega)
  have p3 : ∀ w : World, (Op.stringOp .add ⟨([112, 105, 32] ++ N ++ [32]).toArray⟩ ⟨T.toArray⟩).run Tryd.prog w = .ok (.string ⟨([112, 105, 32] ++ N ++ [32] ++ T).toArray⟩) w := fun w => run_sop (w := w) _ T (by simp; omega)
  have p4 : ∀ w : World, (Op.stringOp .add ⟨([112, 105, 32] ++ N ++ [32] ++ T).toArray⟩ ⟨#[10]⟩).run Tryd.prog w = .ok (.string ⟨([112, 105, 32] ++ N ++ [32] ++ T ++ [10]).toArray⟩) w := fun w => run_sop (w := w) _ [10] (by simp; omega)
  generalize [112, 105, 32] ++ N ++ [32] ++ T ++ [10] = R at *
  generalize [112, 105, 32] ++ N ++ [32] ++ T = R3 at *
  generalize [112, 105, 32] ++ N ++ [32] = R2 at *
  generalize [112, 105, 32] ++ N = R1 at *
  clear hn hm
  go_enter Tryd.func10, Tryd.ntmps10
  go_wp2_with fail
  refine (C1.out _ J0).mono ?_
  rintro e w1 ⟨rfl, b1, hj1⟩
  go_wp2_with fail
  refine (C2.out _ hj1).mono ?_
  rintro e w2 ⟨rfl, b2, hj2⟩
  go_wp2
  go_ret
  exact ⟨rfl, hj2.out.1⟩
end Go.Proofs.YtocbofeanfdggaaDoor
/- Both sides' Event of any kind; the lines of a result. -/
namespace Go.Proofs.YtocbofeanfdggaaDoor
open Go.ChangeShapes Go.WideShapes Go.ChangeAt Go.RowKit
set_option linter.unusedVariables false
theorem repEvent_c (k : Int) (sp lo tx : List UInt8) (A : Option Addr) (n cap : Nat) (ats : List (List UInt8 × List UInt8 × List UInt8)) (w : World) (h : RRd cA 3 w w.heap.size A n cap ats) (hle : EvLe 5000 ⟨⟨k, sp, lo, ats, tx⟩, A, n, cap⟩) :
    Calls Tryd.prog 9 #[.agg #[.int .i64 k, .string ⟨sp.toArray⟩, .string ⟨lo.toArray⟩, .slice A n cap, .string ⟨tx.toArray⟩]] w fun e w' => e = .returned (.string ⟨(evL k sp lo ats tx).toArray⟩) ∧ Below w.heap.size w w' := by
  have h1 : sp.length ≤ 5000 := hle.sp
  have h2 : lo.length ≤ 5000 := hle.lo
  have h3 : tx.length ≤ 5000 := hle.tx
  by_cases k1 : k = 1
  · subst k1; exact event_start sp lo tx A n cap ats w h hle
  · by_cases k2 : k = 2
    · subst k2; exact event_end sp lo tx (.slice A n cap) ats w h1 h2 h3
    · by_cases k3 : k = 3
      · subst k3; exact event_text sp lo tx (.slice A n cap) ats w h1 h2 h3
      · by_cases k4 : k = 4
        · subst k4
          by_cases ht : tx = []
          · subst ht; exact event_pi0 sp lo (.slice A n cap) ats w h1 h2
          · exact event_pi sp lo tx (.slice A n cap) ats w h1 h2 h3 ht
        · by_cases k5 : k = 5
          · subst k5; exact event_comment sp lo tx (.slice A n cap) ats w h1 h2 h3
          · exact event_other sp lo tx (.slice A n cap) ats k ⟨k1, k2, k3, k4, k5⟩ w h1 h2 h3
theorem refEvent44_c (k : Int) (sp lo tx : List UInt8) (A : Option Addr) (n cap : Nat) (ats : List (List UInt8 × List UInt8 × List UInt8)) (w : World) (h : RRd cA 3 w w.heap.size A n cap ats) (hle : EvLe 5000 ⟨⟨k, sp, lo, ats, tx⟩, A, n, cap⟩) :
    Calls Tryd.prog 10 #[.agg #[.int .i64 k, .string ⟨sp.toArray⟩, .string ⟨lo.toArray⟩, .slice A n cap, .string ⟨tx.toArray⟩]] w fun e w' => e = .returned (.string ⟨(evL k sp lo ats tx).toArray⟩) ∧ Below w.heap.size w w' := by
  have h1 : sp.length ≤ 5000 := hle.sp
  have h2 : lo.length ≤ 5000 := hle.lo
  have h3 : tx.length ≤ 5000 := hle.tx
  by_cases k1 : k = 1
  · subst k1; exact refEvent_start sp lo tx A n cap ats w h hle
  · by_cases k2 : k = 2
    · subst k2; exact refEvent_end sp lo tx (.slice A n cap) ats w h1 h2 h3
    · by_cases k3 : k = 3
      · subst k3; exact refEvent_text sp lo tx (.slice A n cap) ats w h1 h2 h3
      · by_cases k4 : k = 4
        · subst k4
          by_cases ht : tx = []
          · subst ht; exact refEvent_pi0 sp lo (.slice A n cap) ats w h1 h2
          · exact refEvent_pi sp lo tx (.slice A n cap) ats w h1 h2 h3 ht
        · by_cases k5 : k = 5
          · subst k5; exact refEvent_comment sp lo tx (.slice A n cap) ats w h1 h2 h3
          · exact refEvent_other sp lo tx (.slice A n cap) ats k ⟨k1, k2, k3, k4, k5⟩ w h1 h2 h3
theorem evL_le {v : EvV} (h : EvLe 5000 v) (hn : v.e.ats.length = v.n) : (evL v.e.kind v.e.sp v.e.lo v.e.ats v.e.tx).length ≤ 600000000 := by
  have g1 := atts_le (b := 5000) v.e.ats h.ats
  have g2 : v.e.ats.length ≤ 5000 := by rw [hn]; exact h.n
  have g3 : v.e.ats.length * (18 * 5000 + 10) ≤ 5000 * (18 * 5000 + 10) := Nat.mul_le_mul_right _ g2
  have g4 := nameL_le v.e.sp v.e.lo
  have g5 := esc_le v.e.tx
  have g6 := h.sp
  have g7 := h.lo
  have g8 := h.tx
  unfold evL
  repeat' split
  all_goals
    simp only [List.length_append, List.length_cons, List.length_nil]
    omega
def evS (v : EvV) : List UInt8 := evL v.e.kind v.e.sp v.e.lo v.e.ats v.e.tx
theorem evs_snoc {vs : List EvV} {t : Nat} {x : EvV} (h : vs[t]? = some x) : (vs.take (t + 1)).flatMap evS = (vs.take t).flatMap evS ++ evS x := by
  rw [List.take_add_one, h, List.flatMap_append]
  simp
theorem evs_le : ∀ vs : List EvV, (∀ v ∈ vs, EvLe 5000 v ∧ v.e.ats.length = v.n) → (vs.flatMap evS).length ≤ vs.length * 600000000
  | [], _ => by simp
  | v :: l, h => by
    obtain ⟨h1, h2⟩ := h v List.mem_cons_self
    have h3 := evs_le l fun b hb => h b (List.mem_cons_of_mem _ hb)
    have h4 : (evS v).length ≤ 600000000 := evL_le h1 h2
    rw [List.flatMap_cons, List.length_append, List.length_cons, Nat.add_mul]
    omega
def fetL (s : List UInt8) : List UInt8 := [102, 101, 116, 99, 104, 101, 100, 32] ++ esc s ++ [10]
theorem fets_snoc {ss : List (List UInt8)} {t : Nat} {x : List UInt8} (h : ss[t]? = some x) : (ss.take (t + 1)).flatMap fetL = (ss.take t).flatMap fetL ++ fetL x := by
  rw [List.take_add_one, h, List.flatMap_append]
  simp
theorem fetL_le {s : List UInt8} (h : s.length ≤ 200) : (fetL s).length ≤ 2000 := by
  have := esc_le s
  unfold fetL
  simp only [List.length_append, List.length_cons, List.length_nil]
  omega
theorem fets_le : ∀ ss : List (List UInt8), (∀ s ∈ ss, s.length ≤ 200) → (ss.flatMap fetL).length ≤ ss.length * 2000
  | [], _ => by simp
  | s :: l, h => by
    have h1 := fetL_le (h s List.mem_cons_self)
    have h3 := fets_le l fun b hb => h b (List.mem_cons_of_mem _ hb)
    rw [List.flatMap_cons, List.length_append, List.length_cons, Nat.add_mul]
    omega
def resL (c e : Int) : List UInt8 := [114, 101, 115, 117, 108, 116, 32] ++ ofL classL c ++ [32] ++ ofL wordL e ++ [10]
def numL (j : Nat) (z : Int) : List UInt8 := (if j = 0 then [114, 101, 97, 100, 32] else if j = 1 then [115, 112, 101, 110, 116, 32] else if j = 2 then [111, 117, 116, 32] else [119, 111, 114, 107, 32]) ++ Lib.itoa z ++ [10]
/-- All lines of a result. -/
def allL (vs : List EvV) (e c : Int) (ss : List (List UInt8)) (z0 z1 z2 z3 : Int) : List UInt8 :=
  vs.flatMap evS ++ resL c e ++ ss.flatMap fetL ++ numL 0 z0 ++ numL 1 z1 ++ numL 2 z2 ++ numL 3 z3
theorem ofL_class_le (z : Int) : (ofL classL z).length ≤ 20 := by
  unfold ofL
  split
  · simp
  · rename_i h
    have h0 : z.toNat < 7 := by simp [classL] at h; omega
    have : z.toNat = 0 ∨ z.toNat = 1 ∨ z.toNat = 2 ∨ z.toNat = 3 ∨ z.toNat = 4 ∨ z.toNat = 5 ∨ z.toNat = 6 := by omega
    rcases this with h | h | h | h | h | h | h <;> rw [h] <;> decide
theorem ofL_word_le (z : Int) : (ofL wordL z).length ≤ 20 := by
  unfold ofL
  split
  · simp
  · rename_i h
    have h0 : z.toNat < 16 := by simp [wordL] at h; omega
    have : z.toNat = 0 ∨ z.toNat = 1 ∨ z.toNat = 2 ∨ z.toNat = 3 ∨ z.toNat = 4 ∨ z.toNat = 5 ∨ z.toNat = 6 ∨ z.toNat = 7 ∨ z.toNat = 8 ∨ z.toNat = 9 ∨ z.toNat = 10 ∨ z.toNat = 11 ∨ z.toNat = 12 ∨ z.toNat = 13 ∨ z.toNat = 14 ∨ z.toNat = 15 := by omega
    rcases this with h | h | h | h | h | h | h | h | h | h | h | h | h | h | h | h <;> rw [h] <;> decide
end Go.Proofs.YtocbofeanfdggaaDoor
