/- ReportWords: the walk -/
import Derived.Test.YtjlldjpaeepnaaaDoorRows
import Derived.WalkKit
import Derived.ProofKit
import Derived.OpenShut
import Derived.ShutString
import Derived.ChangeOld
import Derived.Below
import Derived.BigQuiet
import Derived.Deep.QuietTactic
import Derived.Lib.Hide
import Derived.Deep.RegionHeld3
import Derived.Lib.SlBytesConst
import Derived.Laws.CopyOwn
import Derived.Laws.CopyRow
import Derived.Lib.Bytes
import Derived.Deep.LoopGhost
import Derived.Deep.DeepFit
import Derived.Deep.DeepMust
import Derived.WalkSpells
import Derived.WalkLawsBesides
import Derived.Laws.EntriesVeiled
import Derived.Laws.Rows
import Derived.Deep.RegionWith
import Derived.Test.YtjlldjpaeepnaaaDoorBase
import Derived.Test.YtjlldjpaeepnaaaDoorShelf
import Derived.Test.YtjlldjpaeepnaaaDoorCharPlain
import Derived.Test.YtjlldjpaeepnaaaDoorBuild
import Derived.Test.YtjlldjpaeepnaaaDoorEsc
import Derived.Test.YtjlldjpaeepnaaaDoorStr
import Derived.Test.YtjlldjpaeepnaaaDoorGrow
import Derived.Test.YtjlldjpaeepnaaaDoorRep
import Derived.Test.YtjlldjpaeepnaaaDoorRep2
import Derived.Test.YtjlldjpaeepnaaaDoorRep3
namespace Go.Proofs.YtjlldjpaeepnaaaDoor
open Go.ChangeShapes Go.WideShapes Go.ChangeAt Go.RowKit
set_option linter.unusedVariables false
set_option maxRecDepth 100000 in
set_option maxHeartbeats 1000000 in
theorem live44_c (w : World) : Calls Tryd.prog 5 #[] w fun e w' => e = .returned (.bool true) ∧ Below w.heap.size w w' := by
  have C := Lib.hid (event_ex w.heap.size 1 (w.alloc (.cells #[.string ⟨#[]⟩, .string ⟨#[98]⟩, .string ⟨#[60]⟩] 48)) (by simp) (by decide) (by rw [cell_of 0 (hp_new w _)]; rfl) (by rw [cell_of 1 (hp_new w _)]; rfl) (by rw [cell_of 2 (hp_new w _)]; rfl))
  go_enter Tryd.func5, Tryd.ntmps5
  go_wp2_with fail
  refine C.out.mono ?_
  rintro e w1 ⟨rfl, hb⟩
  have HB := Lib.hid (((Below.refl _ w).alloc (Nat.le_refl _) _).trans (hb.mono (by simp)))
  clear hb C
  go_wp2
  go_ret
  exact ⟨rfl, HB.out⟩
/-- In the midst of ReportWords: the name's own block. -/
def NaC (q : Nat) (l0 l1 : List UInt8) (w' : World) : Prop := w'.cell? ⟨q, 0, none⟩ = some (.string ⟨l0.toArray⟩) ∧ w'.cell? ⟨q, 1, none⟩ = some (.string ⟨l1.toArray⟩)
def NaJ (l0 l1 : List UInt8) (w w' : World) : Prop := Below w.heap.size w w' ∧ NaC w.heap.size l0 l1 w' ∧ w.heap.size < w'.heap.size
theorem NaJ.kept {l0 l1 : List UInt8} {w w1 w2 : World} (h : NaJ l0 l1 w w1) (hb : Below w1.heap.size w1 w2) : NaJ l0 l1 w w2 :=
  ⟨h.1.trans (hb.mono h.1.size), ⟨(hb.cell (p := ⟨w.heap.size, 0, none⟩) h.2.2).trans h.2.1.1, (hb.cell (p := ⟨w.heap.size, 1, none⟩) h.2.2).trans h.2.1.2⟩, Nat.lt_of_lt_of_le h.2.2 hb.size⟩
theorem NaJ.drew {l0 l1 : List UInt8} {w w1 : World} (h : NaJ l0 l1 w w1) : NaJ l0 l1 w w1.drew := ⟨h.1.drew, h.2.1, h.2.2⟩
theorem NaJ.start (l0 l1 : List UInt8) (w : World) : NaJ l0 l1 w (w.alloc (.cells #[.string ⟨l0.toArray⟩, .string ⟨l1.toArray⟩] 23)) :=
  ⟨(Below.refl _ w).alloc (Nat.le_refl _) _, ⟨by rw [cell_of 0 (hp_new w _)]; rfl, by rw [cell_of 1 (hp_new w _)]; rfl⟩, by simp⟩
theorem NaJ.calls {l0 l1 : List UInt8} {w w1 : World} {f : FuncId} {args : Array Value} {v : Value} (h : Hid (NaJ l0 l1 w w1)) (c : Calls Tryd.prog f args w1 fun e w' => e = .returned v ∧ Below w1.heap.size w1 w') :
    Calls Tryd.prog f args w1 fun e w' => e = .returned v ∧ (w'.cell? ⟨w.heap.size, 0, none⟩ = some (.string ⟨l0.toArray⟩) ∧ w'.cell? ⟨w.heap.size, 1, none⟩ = some (.string ⟨l1.toArray⟩)) ∧ Hid (NaJ l0 l1 w w') :=
  c.mono fun e w' ⟨he, hb⟩ => ⟨he, (h.out.kept hb).2.1, Lib.hid (h.out.kept hb)⟩
set_option maxRecDepth 100000 in
set_option maxHeartbeats 2000000 in
theorem reportWords_walk (class_ e_ : Int) (s0 s1 : ByteArray) (w : World) (hcl : TabS w 0 classL) (hwo : TabS w 1 wordL) :
    Calls Tryd.prog 3 #[.int .i64 class_, .int .i64 e_, .agg #[.string s0, .string s1]] w fun e w' => e = .returned (.bool true) ∧ Below w.heap.size w w' := by
  obtain ⟨l0, rfl⟩ : ∃ l : List UInt8, s0 = ⟨l.toArray⟩ := ⟨s0.data.toList, by simp⟩
  obtain ⟨l1, rfl⟩ : ∃ l : List UInt8, s1 = ⟨l.toArray⟩ := ⟨s1.data.toList, by simp⟩
  have hz0 : (⟨l0.toArray⟩ : ByteArray).size = l0.length := by simp [ByteArray.size]
  have hz1 : (⟨l1.toArray⟩ : ByteArray).size = l1.length := by simp [ByteArray.size]
  have LV : Hid (∀ w1, Hid (NaJ l0 l1 w w1) → Calls Tryd.prog 5 #[] w1 fun e w' => e = .returned (.bool true) ∧ (w'.cell? ⟨w.heap.size, 0, none⟩ = some (.string ⟨l0.toArray⟩) ∧ w'.cell? ⟨w.heap.size, 1, none⟩ = some (.string ⟨l1.toArray⟩)) ∧ Hid (NaJ l0 l1 w w')) := Lib.hid fun w1 h => NaJ.calls h (live44_c w1)
  have J0 := Lib.hid (NaJ.start l0 l1 w)
  have J1 := Lib.hid (NaJ.start l0 l1 w).drew
  by_cases h0 : l0.length ≤ 300
  · by_cases h1 : l1.length ≤ 300
    · have q0 : ¬ (300 : Int) < (l0.length : Int) := by omega
      have q1 : ¬ (300 : Int) < (l1.length : Int) := by omega
      have c1 : Hid (∀ w1, Hid (NaJ l0 l1 w w1) → Calls Tryd.prog 6 #[.int .i64 class_] w1 fun e w' => e = .returned (.string ⟨(ofL classL class_).toArray⟩) ∧ (w'.cell? ⟨w.heap.size, 0, none⟩ = some (.string ⟨l0.toArray⟩) ∧ w'.cell? ⟨w.heap.size, 1, none⟩ = some (.string ⟨l1.toArray⟩)) ∧ Hid (NaJ l0 l1 w w')) := Lib.hid fun w1 h => NaJ.calls h ((repClass_c class_ w1 (hcl.below h.out.1 (hcl.lt (by decide)))).mono fun e w' ⟨he, hw⟩ => ⟨he, hw ▸ Below.refl _ _⟩)
      have c2 : Hid (∀ w1, Hid (NaJ l0 l1 w w1) → Calls Tryd.prog 7 #[.int .i64 class_] w1 fun e w' => e = .returned (.string ⟨(ofL classL class_).toArray⟩) ∧ (w'.cell? ⟨w.heap.size, 0, none⟩ = some (.string ⟨l0.toArray⟩) ∧ w'.cell? ⟨w.heap.size, 1, none⟩ = some (.string ⟨l1.toArray⟩)) ∧ Hid (NaJ l0 l1 w w')) := Lib.hid fun w1 h => NaJ.calls h (refClass_c class_ w1)
      have c3 : Hid (∀ w1, Hid (NaJ l0 l1 w w1) → Calls Tryd.prog 8 #[.int .i64 e_] w1 fun e w' => e = .returned (.string ⟨(ofL wordL e_).toArray⟩) ∧ (w'.cell? ⟨w.heap.size, 0, none⟩ = some (.string ⟨l0.toArray⟩) ∧ w'.cell? ⟨w.heap.size, 1, none⟩ = some (.string ⟨l1.toArray⟩)) ∧ Hid (NaJ l0 l1 w w')) := Lib.hid fun w1 h => NaJ.calls h ((repWord_c e_ w1 (hwo.below h.out.1 (hwo.lt (by decide)))).mono fun e w' ⟨he, hw⟩ => ⟨he, hw ▸ Below.refl _ _⟩)
      have c4 : Hid (∀ w1, Hid (NaJ l0 l1 w w1) → Calls Tryd.prog 9 #[.int .i64 e_] w1 fun e w' => e = .returned (.string ⟨(ofL wordL e_).toArray⟩) ∧ (w'.cell? ⟨w.heap.size, 0, none⟩ = some (.string ⟨l0.toArray⟩) ∧ w'.cell? ⟨w.heap.size, 1, none⟩ = some (.string ⟨l1.toArray⟩)) ∧ Hid (NaJ l0 l1 w w')) := Lib.hid fun w1 h => NaJ.calls h (refWord_c e_ w1)
      have c5 : Hid (∀ w1, Hid (NaJ l0 l1 w w1) → Calls Tryd.prog 10 #[.agg #[.string ⟨l0.toArray⟩, .string ⟨l1.toArray⟩]] w1 fun e w' => e = .returned (.string ⟨(nameL l0 l1).toArray⟩) ∧ (w'.cell? ⟨w.heap.size, 0, none⟩ = some (.string ⟨l0.toArray⟩) ∧ w'.cell? ⟨w.heap.size, 1, none⟩ = some (.string ⟨l1.toArray⟩)) ∧ Hid (NaJ l0 l1 w w')) := Lib.hid fun w1 h => NaJ.calls h (repName_c l0 l1 w1 h0 h1)
      have c6 : Hid (∀ w1, Hid (NaJ l0 l1 w w1) → Calls Tryd.prog 11 #[.agg #[.string ⟨l0.toArray⟩, .string ⟨l1.toArray⟩]] w1 fun e w' => e = .returned (.string ⟨(nameL l0 l1).toArray⟩) ∧ (w'.cell? ⟨w.heap.size, 0, none⟩ = some (.string ⟨l0.toArray⟩) ∧ w'.cell? ⟨w.heap.size, 1, none⟩ = some (.string ⟨l1.toArray⟩)) ∧ Hid (NaJ l0 l1 w w')) := Lib.hid fun w1 h => NaJ.calls h (refName_c l0 l1 w1 h0 h1)
      clear hcl hwo h0 h1
      generalize ofL classL class_ = X1 at *
      generalize ofL wordL e_ = X2 at *
      generalize nameL l0 l1 = X3 at *
      obtain ⟨a0, a1⟩ := J0.out.2.1
      go_enter Tryd.func3, Tryd.ntmps3
      go_wp2_with fail
      go_region_with (first
          | (go_at_call 6; refine (c1.out _ (by assumption)).mono ?_; rintro e w1 ⟨rfl, ⟨b0, b1⟩, hj1⟩)
          | (go_at_call 7; refine (c2.out _ (by assumption)).mono ?_; rintro e w2 ⟨rfl, ⟨b0, b1⟩, hj2⟩)
          | (go_at_call 8; refine (c3.out _ (by assumption)).mono ?_; rintro e w3 ⟨rfl, ⟨b0, b1⟩, hj3⟩)
          | (go_at_call 9; refine (c4.out _ (by assumption)).mono ?_; rintro e w4 ⟨rfl, ⟨b0, b1⟩, hj4⟩)
          | (go_at_call 10; refine (c5.out _ (by assumption)).mono ?_; rintro e w5 ⟨rfl, ⟨b0, b1⟩, hj5⟩)
          | (go_at_call 11; refine (c6.out _ (by assumption)).mono ?_; rintro e w6 ⟨rfl, ⟨b0, b1⟩, hj6⟩)
          | (go_at_call 5; refine (LV.out _ (by assumption)).mono ?_; rintro e w7 ⟨rfl, ⟨b0, b1⟩, hj7⟩))
      all_goals (
        go_wp2
        go_ret
        exact ⟨rfl, hj7.out.1⟩)
    · have q0 : ¬ (300 : Int) < (l0.length : Int) := by omega
      have q1 : (300 : Int) < (l1.length : Int) := by omega
      go_enter Tryd.func3, Tryd.ntmps3
      go_wp2_with fail
      refine (LV.out _ J0).mono ?_
      rintro e w7 ⟨rfl, ⟨b0, b1⟩, hj7⟩
      go_wp2
      go_ret
      exact ⟨rfl, hj7.out.1⟩
  · have q0 : (300 : Int) < (l0.length : Int) := by omega
    go_enter Tryd.func3, Tryd.ntmps3
    go_wp2_with fail
    refine (LV.out _ J0).mono ?_
    rintro e w7 ⟨rfl, ⟨b0, b1⟩, hj7⟩
    go_wp2
    go_ret
    exact ⟨rfl, hj7.out.1⟩
end Go.Proofs.YtjlldjpaeepnaaaDoor
