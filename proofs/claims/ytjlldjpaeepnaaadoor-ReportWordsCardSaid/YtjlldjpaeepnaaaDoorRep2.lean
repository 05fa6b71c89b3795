/- report.Name; the document's -/
import Derived.Test.YtjlldjpaeepnaaaDoorRows
import Derived.WalkKit
import Derived.ProofKit
import Derived.OpenShut
import Derived.ShutString
import Derived.ChangeOld
import Derived.Below
import Derived.BigQuiet
import Derived.Deep.QuietTactic
import Derived.Lib.Hide
import Derived.Deep.RegionHeld3
import Derived.Lib.SlBytesConst
import Derived.Laws.CopyOwn
import Derived.Laws.CopyRow
import Derived.Lib.Bytes
import Derived.Deep.LoopGhost
import Derived.Deep.DeepFit
import Derived.Deep.DeepMust
import Derived.WalkSpells
import Derived.WalkLawsBesides
import Derived.Laws.EntriesVeiled
import Derived.Laws.Rows
import Derived.Test.YtjlldjpaeepnaaaDoorBase
import Derived.Test.YtjlldjpaeepnaaaDoorShelf
import Derived.Test.YtjlldjpaeepnaaaDoorCharPlain
import Derived.Test.YtjlldjpaeepnaaaDoorBuild
import Derived.Test.YtjlldjpaeepnaaaDoorEsc
import Derived.Test.YtjlldjpaeepnaaaDoorStr
import Derived.Test.YtjlldjpaeepnaaaDoorEsc2
namespace Go.Proofs.YtjlldjpaeepnaaaDoor
open Go.ChangeShapes Go.WideShapes Go.ChangeAt Go.RowKit
set_option linter.unusedVariables false
/-- A name, told. -/
def nameL (sp lo : List UInt8) : List UInt8 := if sp = [] then esc lo else [123] ++ esc sp ++ [125] ++ esc lo
set_option maxRecDepth 100000 in
set_option maxHeartbeats 4000000 in
theorem repName_c (sp lo : List UInt8) (w : World) (h1 : sp.length ≤ 300) (h2 : lo.length ≤ 300) :
    Calls Tryd.prog 10 #[.agg #[.string ⟨sp.toArray⟩, .string ⟨lo.toArray⟩]] w fun e w' => e = .returned (.string ⟨(nameL sp lo).toArray⟩) ∧ Below w.heap.size w w' := by
  have c0 : Hid (∀ w1, Calls Tryd.prog 18 #[.string ⟨lo.toArray⟩] w1 fun e w' => e = .returned (.string ⟨(esc lo).toArray⟩) ∧ Below w1.heap.size w1 w') := Lib.hid fun w1 => escape_c lo w1 (by omega)
  have c1 : Hid (∀ w1, Calls Tryd.prog 18 #[.string ⟨sp.toArray⟩] w1 fun e w' => e = .returned (.string ⟨(esc sp).toArray⟩) ∧ Below w1.heap.size w1 w') := Lib.hid fun w1 => escape_c sp w1 (by omega)
  have l1 := esc_le sp
  have l2 := esc_le lo
  have HW : Hid (∀ w1, Below (w.alloc (.cells #[.string ⟨sp.toArray⟩, .string ⟨lo.toArray⟩] 23)).heap.size (w.alloc (.cells #[.string ⟨sp.toArray⟩, .string ⟨lo.toArray⟩] 23)) w1 → w1.cell? ⟨w.heap.size, 0, none⟩ = some (.string ⟨sp.toArray⟩) ∧ Below w.heap.size w w1) := Lib.hid fun w1 hb =>
    ⟨(hb.cell (p := ⟨w.heap.size, 0, none⟩) (by simp)).trans (cell_of 0 (hp_new w _)), ((Below.refl _ w).alloc (Nat.le_refl _) _).trans (hb.mono (by simp))⟩
  by_cases hs : sp = []
  · subst hs
    rw [show nameL [] lo = esc lo by simp [nameL]]
    clear l1 l2 h1 h2 c1
    generalize esc lo = E at *
    go_enter Tryd.func10, Tryd.ntmps10
    go_wp2_with fail
    refine (c0.out _).mono ?_
    rintro e w1 ⟨rfl, hb⟩
    obtain ⟨hc, hb1⟩ := HW.out w1 hb
    have HB := Lib.hid hb1
    clear hb hb1
    go_wp2
    go_ret
    exact ⟨rfl, HB.out⟩
  · have p1 : ∀ w : World, (Op.stringOp .add ⟨#[123]⟩ ⟨(esc sp).toArray⟩).run Tryd.prog w = .ok (.string ⟨([123] ++ esc sp).toArray⟩) w := fun w => run_sop (w := w) [123] _ (by simp; omega)
    have p2 : ∀ w : World, (Op.stringOp .add ⟨([123] ++ esc sp).toArray⟩ ⟨#[125]⟩).run Tryd.prog w = .ok (.string ⟨([123] ++ esc sp ++ [125]).toArray⟩) w := fun w => run_sop (w := w) _ [125] (by simp; omega)
    have p3 : ∀ w : World, (Op.stringOp .add ⟨([123] ++ esc sp ++ [125]).toArray⟩ ⟨(esc lo).toArray⟩).run Tryd.prog w = .ok (.string ⟨([123] ++ esc sp ++ [125] ++ esc lo).toArray⟩) w := fun w => run_sop (w := w) _ _ (by simp; omega)
    rw [show nameL sp lo = [123] ++ esc sp ++ [125] ++ esc lo by unfold nameL; rw [if_neg hs]]
    have he : (sp == []) = false := by simpa using hs
    clear l1 l2 h1 h2
    generalize [123] ++ esc sp ++ [125] ++ esc lo = S3 at *
    generalize [123] ++ esc sp ++ [125] = S2 at *
    generalize [123] ++ esc sp = S1 at *
    generalize esc lo = E at *
    generalize esc sp = E1 at *
    go_enter Tryd.func10, Tryd.ntmps10
    go_wp2_with fail
    refine (c0.out _).mono ?_
    rintro e w1 ⟨rfl, hb⟩
    obtain ⟨hc, hb1⟩ := HW.out w1 hb
    have HB := Lib.hid hb1
    clear hb hb1
    go_wp2_with fail
    refine (c1.out _).mono ?_
    rintro e w2 ⟨rfl, hb⟩
    have HB2 := Lib.hid (HB.out.trans (hb.mono HB.out.size))
    clear hb
    go_wp2
    go_ret
    exact ⟨rfl, HB2.out⟩
set_option maxRecDepth 100000 in
set_option maxHeartbeats 2000000 in
theorem refName_c (sp lo : List UInt8) (w : World) (h1 : sp.length ≤ 300) (h2 : lo.length ≤ 300) :
    Calls Tryd.prog 11 #[.agg #[.string ⟨sp.toArray⟩, .string ⟨lo.toArray⟩]] w fun e w' => e = .returned (.string ⟨(nameL sp lo).toArray⟩) ∧ Below w.heap.size w w' := by
  have c0 : Hid (∀ w1, Calls Tryd.prog 19 #[.string ⟨lo.toArray⟩] w1 fun e w' => e = .returned (.string ⟨(esc lo).toArray⟩) ∧ w1 = w') := Lib.hid fun w1 => refEscape_c lo w1 (by omega)
  have c1 : Hid (∀ w1, Calls Tryd.prog 19 #[.string ⟨sp.toArray⟩] w1 fun e w' => e = .returned (.string ⟨(esc sp).toArray⟩) ∧ w1 = w') := Lib.hid fun w1 => refEscape_c sp w1 (by omega)
  have l1 := esc_le sp
  have l2 := esc_le lo
  have HW : Hid (Below w.heap.size w (w.alloc (.cells #[.string ⟨sp.toArray⟩, .string ⟨lo.toArray⟩] 23))) := Lib.hid ((Below.refl _ w).alloc (Nat.le_refl _) _)
  by_cases hs : sp = []
  · subst hs
    rw [show nameL [] lo = esc lo by simp [nameL]]
    clear l1 l2 h1 h2 c1
    generalize esc lo = E at *
    go_enter Tryd.func11, Tryd.ntmps11
    go_wp2_with fail
    refine (c0.out _).mono ?_
    rintro e w1 ⟨rfl, rfl⟩
    go_wp2
    go_ret
    exact ⟨rfl, HW.out⟩
  · have p1 : ∀ w : World, (Op.stringOp .add ⟨#[123]⟩ ⟨(esc sp).toArray⟩).run Tryd.prog w = .ok (.string ⟨([123] ++ esc sp).toArray⟩) w := fun w => run_sop (w := w) [123] _ (by simp; omega)
    have p2 : ∀ w : World, (Op.stringOp .add ⟨([123] ++ esc sp).toArray⟩ ⟨#[125]⟩).run Tryd.prog w = .ok (.string ⟨([123] ++ esc sp ++ [125]).toArray⟩) w := fun w => run_sop (w := w) _ [125] (by simp; omega)
    have p3 : ∀ w : World, (Op.stringOp .add ⟨([123] ++ esc sp ++ [125]).toArray⟩ ⟨(esc lo).toArray⟩).run Tryd.prog w = .ok (.string ⟨([123] ++ esc sp ++ [125] ++ esc lo).toArray⟩) w := fun w => run_sop (w := w) _ _ (by simp; omega)
    rw [show nameL sp lo = [123] ++ esc sp ++ [125] ++ esc lo by unfold nameL; rw [if_neg hs]]
    have he : (sp == []) = false := by simpa using hs
    have hc0 : (w.alloc (.cells #[.string ⟨sp.toArray⟩, .string ⟨lo.toArray⟩] 23)).cell? ⟨w.heap.size, 0, none⟩ = some (.string ⟨sp.toArray⟩) := by rw [cell_of 0 (hp_new w _)]; rfl
    have hc1 : (w.alloc (.cells #[.string ⟨sp.toArray⟩, .string ⟨lo.toArray⟩] 23)).cell? ⟨w.heap.size, 1, none⟩ = some (.string ⟨lo.toArray⟩) := by rw [cell_of 1 (hp_new w _)]; rfl
    clear l1 l2 h1 h2
    generalize [123] ++ esc sp ++ [125] ++ esc lo = S3 at *
    generalize [123] ++ esc sp ++ [125] = S2 at *
    generalize [123] ++ esc sp = S1 at *
    generalize esc lo = E at *
    generalize esc sp = E1 at *
    go_enter Tryd.func11, Tryd.ntmps11
    go_wp2_with fail
    generalize w.alloc (.cells #[.string ⟨sp.toArray⟩, .string ⟨lo.toArray⟩] 23) = W1 at *
    have q1 : Hid (∀ m, Calls Tryd.prog 19 #[.string ⟨sp.toArray⟩] (W1.drewN m) fun e w' => e = .returned (.string ⟨E1.toArray⟩) ∧ w' = W1.drewN m) := Lib.hid fun m => (c1.out _).mono fun e w' ⟨he, hw⟩ => ⟨he, hw.symm⟩
    have q0 : Hid (∀ m, Calls Tryd.prog 19 #[.string ⟨lo.toArray⟩] (W1.drewN m) fun e w' => e = .returned (.string ⟨E.toArray⟩) ∧ w' = W1.drewN m) := Lib.hid fun m => (c0.out _).mono fun e w' ⟨he, hw⟩ => ⟨he, hw.symm⟩
    clear c0 c1
    go_quiet ((go_at_call 19; first | with_reducible exact Calls.quiet_of_same (q1.out _) | with_reducible exact Calls.quiet_of_same (q0.out _)))
    have HB : Hid (Below w.heap.size w (W1.drewN nq)) := Lib.hid ⟨HW.out.os, HW.out.tape, HW.out.output, HW.out.size, HW.out.block⟩
    generalize W1.drewN nq = wq at *
    go_wp2
    go_ret
    exact ⟨rfl, HB.out⟩
end Go.Proofs.YtjlldjpaeepnaaaDoor
