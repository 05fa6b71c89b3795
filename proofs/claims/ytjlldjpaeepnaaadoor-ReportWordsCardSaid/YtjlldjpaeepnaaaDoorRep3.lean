/- report.line, report.Event's example -/
import Derived.Test.YtjlldjpaeepnaaaDoorRows
import Derived.WalkKit
import Derived.ProofKit
import Derived.OpenShut
import Derived.ShutString
import Derived.ChangeOld
import Derived.Below
import Derived.BigQuiet
import Derived.Deep.QuietTactic
import Derived.Lib.Hide
import Derived.Deep.RegionHeld3
import Derived.Lib.SlBytesConst
import Derived.Laws.CopyOwn
import Derived.Laws.CopyRow
import Derived.Lib.Bytes
import Derived.Deep.LoopGhost
import Derived.Deep.DeepFit
import Derived.Deep.DeepMust
import Derived.WalkSpells
import Derived.WalkLawsBesides
import Derived.Laws.EntriesVeiled
import Derived.Laws.Rows
import Derived.Deep.RegionWith
import Derived.Test.YtjlldjpaeepnaaaDoorBase
import Derived.Test.YtjlldjpaeepnaaaDoorShelf
import Derived.Test.YtjlldjpaeepnaaaDoorCharPlain
import Derived.Test.YtjlldjpaeepnaaaDoorBuild
import Derived.Test.YtjlldjpaeepnaaaDoorEsc
import Derived.Test.YtjlldjpaeepnaaaDoorStr
import Derived.Test.YtjlldjpaeepnaaaDoorGrow
import Derived.Test.YtjlldjpaeepnaaaDoorRep2
namespace Go.Proofs.YtjlldjpaeepnaaaDoor
open Go.ChangeShapes Go.WideShapes Go.ChangeAt Go.RowKit
set_option linter.unusedVariables false
set_option maxRecDepth 100000 in
set_option maxHeartbeats 4000000 in
theorem line_2 (g c : Nat) (x0 x1 : List UInt8) (w : World) (hgl : g < w.heap.size) (hcap : 2 ≤ c) (hc0 : w.cell? ⟨g, 0, none⟩ = some (.string ⟨x0.toArray⟩)) (hc1 : w.cell? ⟨g, 1, none⟩ = some (.string ⟨x1.toArray⟩)) (hl0 : x0.length ≤ 10000000) (hl1 : x1.length ≤ 10000000) :
    Calls Tryd.prog 23 #[.slice (some ⟨g, 0, none⟩) 2 c] w fun e w' => e = .returned (.string ⟨(joinB [x0, x1] ++ [10]).toArray⟩) ∧ Below w.heap.size w w' := by
  have C := Lib.hid (join_2 g c x0 x1 w hgl hcap hc0 hc1 hl0 hl1)
  have hsp : ∀ w : World, (Op.stringOp .add ⟨(joinB [x0, x1]).toArray⟩ ⟨#[10]⟩).run Tryd.prog w = .ok (.string ⟨(joinB [x0, x1] ++ [10]).toArray⟩) w := fun w => run_sop (w := w) _ [10] (by simp [joinB]; omega)
  clear hgl hcap hc0 hc1 hl0 hl1
  generalize joinB [x0, x1] = J at *
  generalize J ++ [10] = J' at *
  go_enter Tryd.func23, Tryd.ntmps23
  go_wp2_with fail
  refine C.out.mono ?_
  rintro e w1 ⟨rfl, hb⟩
  have HB := Lib.hid hb
  clear hb
  go_wp2
  go_ret
  exact ⟨rfl, HB.out⟩
/-- In the midst of Event: the event's own block, the builder above it. -/
def EvI (g c : Nat) (l : List UInt8) (w w' : World) : Prop :=
  Below w.heap.size w w' ∧ w'.heap[w.heap.size]? = some (.cells #[.int .i64 1, .string ⟨#[117]⟩, .string ⟨#[97]⟩, .slice (some ⟨g, 0, none⟩) 1 c, .string ⟨#[]⟩] 44 (0, 0)) ∧ Bld (w.heap.size + 2) (w.heap.size + 1) l w' ∧ w.heap.size + 2 ≤ w'.heap.size
theorem EvI.kept {g c : Nat} {l : List UInt8} {w w1 w2 : World} (h : EvI g c l w w1) (hb : Below w1.heap.size w1 w2) : EvI g c l w w2 :=
  ⟨h.1.trans (hb.mono h.1.size), (hb.block _ (by have := h.2.2.2; omega)).trans h.2.1, h.2.2.1.kept hb, Nat.le_trans h.2.2.2 hb.size⟩
theorem EvI.wrote {g c : Nat} {l l' : List UInt8} {w w1 w2 : World} (h : EvI g c l w w1) (hB : Bld (w.heap.size + 2) (w.heap.size + 1) l' w2) (hf : Fr (w.heap.size + 2) (w.heap.size + 1) w1 w2) : EvI g c l' w w2 :=
  ⟨h.1.trans (hf.below (by omega) (by omega)), (hf.block _ (by omega) (by omega)).trans h.2.1, hB, Nat.le_trans h.2.2.2 hf.size⟩
theorem EvI.alloc {g c : Nat} {l : List UInt8} {w w1 : World} (h : EvI g c l w w1) (o : Obj) : EvI g c l w (w1.alloc o) := h.kept ((Below.refl _ w1).alloc (Nat.le_refl _) _)
theorem EvI.start (g c : Nat) (w : World) : EvI g c [] w ((w.alloc (.cells #[.int .i64 1, .string ⟨#[117]⟩, .string ⟨#[97]⟩, .slice (some ⟨g, 0, none⟩) 1 c, .string ⟨#[]⟩] 44)).alloc (.cells #[.pointer none, .slice none 0 0] 57)) := by
  refine ⟨((Below.refl _ w).alloc (Nat.le_refl _) _).alloc (by simp) _, hp_old (hp_new w _), ?_, by simp⟩
  have := Bld.fresh (w.heap.size + 2) (w.alloc (.cells #[.int .i64 1, .string ⟨#[117]⟩, .string ⟨#[97]⟩, .slice (some ⟨g, 0, none⟩) 1 c, .string ⟨#[]⟩] 44)) (by simp)
  simpa using this
theorem EvI.drew {g c : Nat} {l : List UInt8} {w w1 : World} (h : EvI g c l w w1) : EvI g c l w w1.drew := ⟨h.1.drew, h.2.1, h.2.2.1, h.2.2.2⟩
/-- The cells of the attribute at hand. -/
def AtC (q : Nat) (w' : World) : Prop := w'.cell? ⟨q, 0, none⟩ = some (.string ⟨#[]⟩) ∧ w'.cell? ⟨q, 1, none⟩ = some (.string ⟨#[98]⟩) ∧ w'.cell? ⟨q, 2, none⟩ = some (.string ⟨#[60]⟩)
def EvJ (g c q : Nat) (w w' : World) : Prop := EvI g c [115, 116, 97, 114, 116, 32, 123, 117, 125, 97, 10] w w' ∧ AtC q w' ∧ q < w'.heap.size
theorem EvJ.kept {g c q : Nat} {w w1 w2 : World} (h : EvJ g c q w w1) (hb : Below w1.heap.size w1 w2) : EvJ g c q w w2 :=
  ⟨h.1.kept hb, ⟨(hb.cell (p := ⟨q, 0, none⟩) h.2.2).trans h.2.1.1, (hb.cell (p := ⟨q, 1, none⟩) h.2.2).trans h.2.1.2.1, (hb.cell (p := ⟨q, 2, none⟩) h.2.2).trans h.2.1.2.2⟩, Nat.lt_of_lt_of_le h.2.2 hb.size⟩
set_option maxRecDepth 100000 in
set_option maxHeartbeats 2000000 in
/-- The page's example. -/
theorem event_ex (g c : Nat) (w : World) (hgl : g < w.heap.size) (hcap : 1 ≤ c) (hc0 : w.cell? ⟨g, 0, none⟩ = some (.string ⟨#[]⟩)) (hc1 : w.cell? ⟨g, 1, none⟩ = some (.string ⟨#[98]⟩)) (hc2 : w.cell? ⟨g, 2, none⟩ = some (.string ⟨#[60]⟩)) :
    Calls Tryd.prog 14 #[.agg #[.int .i64 1, .string ⟨#[117]⟩, .string ⟨#[97]⟩, .slice (some ⟨g, 0, none⟩) 1 c, .string ⟨#[]⟩]] w fun e w' => e = .returned (.string ⟨#[115, 116, 97, 114, 116, 32, 123, 117, 125, 97, 10, 97, 116, 116, 114, 32, 98, 61, 38, 108, 116, 59, 10]⟩) ∧ Below w.heap.size w w' := by
  have HC : Hid (∀ w1, Below w.heap.size w w1 → w1.cell? ⟨g, 0, none⟩ = some (.string ⟨#[]⟩) ∧ w1.cell? ⟨g, 1, none⟩ = some (.string ⟨#[98]⟩) ∧ w1.cell? ⟨g, 2, none⟩ = some (.string ⟨#[60]⟩)) := Lib.hid fun w1 hb => ⟨(hb.cell (p := ⟨g, 0, none⟩) hgl).trans hc0, (hb.cell (p := ⟨g, 1, none⟩) hgl).trans hc1, (hb.cell (p := ⟨g, 2, none⟩) hgl).trans hc2⟩
  have N1 : Hid (∀ w1, Calls Tryd.prog 10 #[.agg #[.string ⟨#[117]⟩, .string ⟨#[97]⟩]] w1 fun e w' => e = .returned (.string ⟨#[123, 117, 125, 97]⟩) ∧ Below w1.heap.size w1 w') := Lib.hid fun w1 => by
    have := repName_c [117] [97] w1 (by decide) (by decide)
    rw [show nameL [117] [97] = [123, 117, 125, 97] by decide +kernel] at this
    exact this
  have N2 : Hid (∀ w1, Calls Tryd.prog 10 #[.agg #[.string ⟨#[]⟩, .string ⟨#[98]⟩]] w1 fun e w' => e = .returned (.string ⟨#[98]⟩) ∧ Below w1.heap.size w1 w') := Lib.hid fun w1 => by
    have := repName_c [] [98] w1 (by decide) (by decide)
    rw [show nameL [] [98] = [98] by decide +kernel] at this
    exact this
  have E1 : Hid (∀ w1, Calls Tryd.prog 18 #[.string ⟨#[60]⟩] w1 fun e w' => e = .returned (.string ⟨#[38, 108, 116, 59]⟩) ∧ Below w1.heap.size w1 w') := Lib.hid fun w1 => by
    have := escape_c [60] w1 (by decide)
    rw [show esc [60] = [38, 108, 116, 59] by decide +kernel] at this
    exact this
  have L1 : Hid (∀ w1 : World, Calls Tryd.prog 23 #[.slice (some ⟨w1.heap.size, 0, none⟩) 2 2] (w1.alloc (.cells #[.string ⟨#[115, 116, 97, 114, 116]⟩, .string ⟨#[123, 117, 125, 97]⟩] 9)) fun e w' => e = .returned (.string ⟨#[115, 116, 97, 114, 116, 32, 123, 117, 125, 97, 10]⟩) ∧ Below w1.heap.size w1 w') := Lib.hid fun w1 => by
    have := line_2 w1.heap.size 2 [115, 116, 97, 114, 116] [123, 117, 125, 97] (w1.alloc (.cells #[.string ⟨#[115, 116, 97, 114, 116]⟩, .string ⟨#[123, 117, 125, 97]⟩] 9)) (by simp) (by decide) (by rw [cell_of 0 (hp_new w1 _)]; rfl) (by rw [cell_of 1 (hp_new w1 _)]; rfl) (by decide) (by decide)
    rw [show joinB [[115, 116, 97, 114, 116], [123, 117, 125, 97]] ++ [10] = [115, 116, 97, 114, 116, 32, 123, 117, 125, 97, 10] by decide +kernel] at this
    exact this.mono fun e w' ⟨he, hb⟩ => ⟨he, ((Below.refl _ w1).alloc (Nat.le_refl _) _).trans (hb.mono (by simp))⟩
  have L2 : Hid (∀ w1 : World, Calls Tryd.prog 23 #[.slice (some ⟨w1.heap.size, 0, none⟩) 2 2] (w1.alloc (.cells #[.string ⟨#[97, 116, 116, 114]⟩, .string ⟨#[98, 61, 38, 108, 116, 59]⟩] 9)) fun e w' => e = .returned (.string ⟨#[97, 116, 116, 114, 32, 98, 61, 38, 108, 116, 59, 10]⟩) ∧ Below w1.heap.size w1 w') := Lib.hid fun w1 => by
    have := line_2 w1.heap.size 2 [97, 116, 116, 114] [98, 61, 38, 108, 116, 59] (w1.alloc (.cells #[.string ⟨#[97, 116, 116, 114]⟩, .string ⟨#[98, 61, 38, 108, 116, 59]⟩] 9)) (by simp) (by decide) (by rw [cell_of 0 (hp_new w1 _)]; rfl) (by rw [cell_of 1 (hp_new w1 _)]; rfl) (by decide) (by decide)
    rw [show joinB [[97, 116, 116, 114], [98, 61, 38, 108, 116, 59]] ++ [10] = [97, 116, 116, 114, 32, 98, 61, 38, 108, 116, 59, 10] by decide +kernel] at this
    exact this.mono fun e w' ⟨he, hb⟩ => ⟨he, ((Below.refl _ w1).alloc (Nat.le_refl _) _).trans (hb.mono (by simp))⟩
  have WS : Hid (∀ l s w1, EvI g c l w w1 → l.length ≤ 1000 → s.length ≤ 1000 → Calls Tryd.prog 22 #[.pointer (some ⟨w.heap.size + 1, 0, none⟩), .string ⟨s.toArray⟩] w1 fun e w' => e = .returned (.tuple #[.int .i64 s.length, .nilIface]) ∧ EvI g c (l ++ s) w w') := Lib.hid fun l s w1 h h1 h2 =>
    (writeString_b (w.heap.size + 2) (w.heap.size + 1) l s w1 h.2.2.1 (by omega) h.2.2.2).mono fun e w' ⟨he, hB, hf⟩ => ⟨he, h.wrote hB hf⟩
  have p1 : ∀ w : World, (Op.stringOp .add ⟨#[98]⟩ ⟨#[61]⟩).run Tryd.prog w = .ok (.string ⟨#[98, 61]⟩) w := fun w => run_sop (w := w) [98] [61] (by decide)
  have p2 : ∀ w : World, (Op.stringOp .add ⟨#[98, 61]⟩ ⟨#[38, 108, 116, 59]⟩).run Tryd.prog w = .ok (.string ⟨#[98, 61, 38, 108, 116, 59]⟩) w := fun w => run_sop (w := w) [98, 61] [38, 108, 116, 59] (by decide)
  have I0 := Lib.hid (EvI.start g c w)
  clear hc0 hc1 hc2
  go_enter Tryd.func14, Tryd.ntmps14
  go_wp2_with fail
  refine (N1.out _).mono ?_
  rintro e w1 ⟨rfl, hb⟩
  have I1 := Lib.hid (I0.out.kept hb)
  clear hb I0
  go_wp2_with fail
  refine (L1.out w1).mono ?_
  rintro e w2 ⟨rfl, hb⟩
  have I2 := Lib.hid (I1.out.kept hb)
  clear hb I1
  go_wp2_with fail
  refine (WS.out [] [115, 116, 97, 114, 116, 32, 123, 117, 125, 97, 10] w2 I2.out (by decide) (by decide)).mono ?_
  rintro e w3 ⟨rfl, hb⟩
  have I3 : Hid (EvI g c [115, 116, 97, 114, 116, 32, 123, 117, 125, 97, 10] w w3) := Lib.hid hb
  have he3 : w3.cell? ⟨w.heap.size, 3, none⟩ = some (.slice (some ⟨g, 0, none⟩) 1 c) := by rw [cell_of 3 hb.2.1]; rfl
  clear hb I2
  go_wp2_with fail
  go_loopg [19] (1) (fun gh i wr => (Hid (gh = 1) ∧ i = .int .i64 0 ∧ Hid (EvI g c [115, 116, 97, 114, 116, 32, 123, 117, 125, 97, 10] w wr)) ∨ (Hid (gh = 0) ∧ i = .int .i64 1 ∧ Hid (EvI g c [115, 116, 97, 114, 116, 32, 123, 117, 125, 97, 10, 97, 116, 116, 114, 32, 98, 61, 38, 108, 116, 59, 10] w wr)))
  case atStart => exact Or.inl ⟨Lib.hid rfl, rfl, I3⟩
  case round =>
    rcases hrel with ⟨hgh, rfl, HI⟩ | ⟨hgh, rfl, HI⟩
    · obtain ⟨hc0, hc1, hc2⟩ := HC.out wr HI.out.1
      have hJ : Hid (EvJ g c wr.heap.size w (wr.alloc (.cells #[.string ⟨#[]⟩, .string ⟨#[98]⟩, .string ⟨#[60]⟩] 48)).drew) := Lib.hid ⟨(HI.out.alloc _).drew, ⟨by show (wr.alloc _).cell? _ = _; rw [cell_of 0 (hp_new wr _)]; rfl, by show (wr.alloc _).cell? _ = _; rw [cell_of 1 (hp_new wr _)]; rfl, by show (wr.alloc _).cell? _ = _; rw [cell_of 2 (hp_new wr _)]; rfl⟩, by simp⟩
      have hq : w.heap.size + 2 ≤ wr.heap.size := HI.out.2.2.2
      have NJ : Hid (∀ w1, Hid (EvJ g c wr.heap.size w w1) → Calls Tryd.prog 10 #[.agg #[.string ⟨#[]⟩, .string ⟨#[98]⟩]] w1 fun e w' => e = .returned (.string ⟨#[98]⟩) ∧ AtC wr.heap.size w' ∧ Hid (EvJ g c wr.heap.size w w')) := Lib.hid fun w1 h => (N2.out w1).mono fun e w' ⟨he, hb⟩ => ⟨he, (h.out.kept hb).2.1, Lib.hid (h.out.kept hb)⟩
      have EJ : Hid (∀ w1, Hid (EvJ g c wr.heap.size w w1) → Calls Tryd.prog 18 #[.string ⟨#[60]⟩] w1 fun e w' => e = .returned (.string ⟨#[38, 108, 116, 59]⟩) ∧ AtC wr.heap.size w' ∧ Hid (EvJ g c wr.heap.size w w') ∧ Hid (EvJ g c wr.heap.size w (w'.alloc (.cells #[.string ⟨#[97, 116, 116, 114]⟩, .string ⟨#[98, 61, 38, 108, 116, 59]⟩] 9))) ∧ AtC wr.heap.size (w'.alloc (.cells #[.string ⟨#[97, 116, 116, 114]⟩, .string ⟨#[98, 61, 38, 108, 116, 59]⟩] 9))) := Lib.hid fun w1 h => (E1.out w1).mono fun e w' ⟨he, hb⟩ => by
        have h1 := h.out.kept hb
        have h2 := h1.kept ((Below.refl _ w').alloc (Nat.le_refl _) (.cells #[.string ⟨#[97, 116, 116, 114]⟩, .string ⟨#[98, 61, 38, 108, 116, 59]⟩] 9))
        exact ⟨he, h1.2.1, Lib.hid h1, Lib.hid h2, h2.2.1⟩
      have LJ : Hid (∀ w1, Hid (EvJ g c wr.heap.size w w1) → Calls Tryd.prog 23 #[.slice (some ⟨w1.heap.size, 0, none⟩) 2 2] (w1.alloc (.cells #[.string ⟨#[97, 116, 116, 114]⟩, .string ⟨#[98, 61, 38, 108, 116, 59]⟩] 9)) fun e w' => e = .returned (.string ⟨#[97, 116, 116, 114, 32, 98, 61, 38, 108, 116, 59, 10]⟩) ∧ AtC wr.heap.size w' ∧ Hid (EvJ g c wr.heap.size w w')) := Lib.hid fun w1 h => (L2.out w1).mono fun e w' ⟨he, hb⟩ => ⟨he, (h.out.kept hb).2.1, Lib.hid (h.out.kept hb)⟩
      have WJ : Hid (∀ w1, Hid (EvJ g c wr.heap.size w w1) → Calls Tryd.prog 22 #[.pointer (some ⟨w.heap.size + 1, 0, none⟩), .string ⟨#[97, 116, 116, 114, 32, 98, 61, 38, 108, 116, 59, 10]⟩] w1 fun e w' => e = .returned (.tuple #[.int .i64 12, .nilIface]) ∧ Hid (EvI g c [115, 116, 97, 114, 116, 32, 123, 117, 125, 97, 10, 97, 116, 116, 114, 32, 98, 61, 38, 108, 116, 59, 10] w w')) := Lib.hid fun w1 h => (writeString_b (w.heap.size + 2) (w.heap.size + 1) [115, 116, 97, 114, 116, 32, 123, 117, 125, 97, 10] [97, 116, 116, 114, 32, 98, 61, 38, 108, 116, 59, 10] w1 h.out.1.2.2.1 (by decide) h.out.1.2.2.2).mono fun e w' ⟨he, hB, hf⟩ => ⟨he, Lib.hid (h.out.1.wrote hB hf)⟩
      clear N1 N2 E1 L1 L2 WS HC HI
      unfold AtC at NJ EJ LJ WJ
      go_wp2_with fail
      obtain ⟨a0, a1, a2⟩ := hJ.out.2.1
      go_region_with (first
          | (go_at_call 10; refine (NJ.out _ (by assumption)).mono ?_; rintro e w4 ⟨rfl, ⟨b0, b1, b2⟩, hj4⟩)
          | (go_at_call 18; refine (EJ.out _ (by assumption)).mono ?_; rintro e w5 ⟨rfl, hat5, hj5, hj5a, hat5a⟩)
          | (go_at_call 23; refine (LJ.out _ (by assumption)).mono ?_; rintro e w6 ⟨rfl, hat6, hj6⟩)
          | (go_at_call 22; refine (WJ.out _ (by assumption)).mono ?_; rintro e w7 ⟨rfl, I7⟩))
      all_goals (
        go_wp2
        go_roundg 0
        case measure => have := hgh.out; omega
        case rel => exact Or.inr ⟨Lib.hid rfl, rfl, I7⟩)
    · go_wp2_with fail
      refine (string_b _ _ _ wr HI.out.2.2.1).mono ?_
      rintro e w5 ⟨rfl, hb⟩
      have HB := Lib.hid (HI.out.1.trans (hb.mono (by omega)))
      clear hb
      go_wp2
      go_ret
      exact ⟨rfl, HB.out⟩
end Go.Proofs.YtjlldjpaeepnaaaDoor
