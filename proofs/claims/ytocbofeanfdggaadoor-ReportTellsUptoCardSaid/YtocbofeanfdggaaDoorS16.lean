/- Texts of ours, joined: Rep3, Rep4, RowS, CkN, CkF, CkG, RunU, RunV, Ev2, CkH, CkA, Dig2, CChar, CChar2, RefC, Lit1, Lit2, Lit3, Lit4, Lit5, RPutPi, CkB, CkE, CkM, CkT, CkR, CkS, CkQ. -/
import Derived.Test.YtocbofeanfdggaaDoorRows
import Derived.WalkKit
import Derived.ProofKit
import Derived.OpenShut
import Derived.ShutString
import Derived.ChangeOld
import Derived.Below
import Derived.BigQuiet
import Derived.Deep.QuietTactic
import Derived.Lib.Hide
import Derived.Deep.RegionHeld3
import Derived.Lib.SlBytesConst
import Derived.Laws.CopyOwn
import Derived.Laws.CopyRow
import Derived.Lib.Bytes
import Derived.Deep.LoopGhost
import Derived.Deep.DeepFit
import Derived.Deep.DeepMust
import Derived.WalkSpells
import Derived.WalkLawsBesides
import Derived.Laws.EntriesVeiled
import Derived.Laws.Rows
import Derived.Deep.RegionWith
import Derived.Test.YtocbofeanfdggaaDoorS1
import Derived.Test.YtocbofeanfdggaaDoorS2
import Derived.Test.YtocbofeanfdggaaDoorS3
import Derived.Test.YtocbofeanfdggaaDoorS7
import Derived.Test.YtocbofeanfdggaaDoorS8
import Derived.Test.YtocbofeanfdggaaDoorS11
import Derived.Maps.OwnOps
import Derived.Maps.OwnSet
import Derived.Maps.Views
import Derived.Maps.AppendAt
import Derived.Lib.SmallJoins
import Derived.Deep.AppendLies
import Derived.Deep.RegionLaw
import Derived.Test.YtocbofeanfdggaaDoorS5
import Derived.Test.YtocbofeanfdggaaDoorS4
import Derived.RangeFuncNested
import Derived.RangeFuncBound
import Derived.RangeFuncCalls
import Derived.RangeFuncLeaves
import Derived.RangeFuncBox
import Derived.Shelf.Abstract
import Derived.Shelf.RegionOpen
import Derived.OwnWalkIn
import Derived.TacticsInMore
import Derived.LoopNIn
import Derived.LoopIn
import Derived.Lib.IndexAny
import Derived.DeepKeys4
import Derived.MapViews
import Derived.Maps.Keyed
import Derived.WideKeyEntry
/- report.line, report.Event's example -/
namespace Go.Proofs.YtocbofeanfdggaaDoor
open Go.ChangeShapes Go.WideShapes Go.ChangeAt Go.RowKit
set_option linter.unusedVariables false
set_option maxRecDepth 100000 in
set_option maxHeartbeats 4000000 in
theorem line_2 (g c : Nat) (x0 x1 : List UInt8) (w : World) (hgl : g < w.heap.size) (hcap : 2 ≤ c) (hc0 : w.cell? ⟨g, 0, none⟩ = some (.string ⟨x0.toArray⟩)) (hc1 : w.cell? ⟨g, 1, none⟩ = some (.string ⟨x1.toArray⟩)) (hl0 : x0.length ≤ 10000000) (hl1 : x1.length ≤ 10000000) :
    Calls Tryd.prog 24 #[.slice (some ⟨g, 0, none⟩) 2 c] w fun e w' => e = .returned (.string ⟨(joinB [x0, x1] ++ [10]).toArray⟩) ∧ Below w.heap.size w w' := by
  have C := Lib.hid (join_2 g c x0 x1 w hgl hcap hc0 hc1 hl0 hl1)
  have hsp : ∀ w : World, (Op.stringOp .add ⟨(joinB [x0, x1]).toArray⟩ ⟨#[10]⟩).run Tryd.prog w = .ok (.string ⟨(joinB [x0, x1] ++ [10]).toArray⟩) w := fun w => run_sop (w := w) _ [10] (by simp [joinB]; omega)
  clear hgl hcap hc0 hc1 hl0 hl1
  generalize joinB [x0, x1] = J at *
  generalize J ++ [10] = J' at *
  go_enter Tryd.func24, Tryd.ntmps24
  go_wp2_with fail
  refine C.out.mono ?_
  rintro e w1 ⟨rfl, hb⟩
  have HB := Lib.hid hb
  clear hb
  go_wp2
  go_ret
  exact ⟨rfl, HB.out⟩
/-- In the midst of Event: the event's own block, the builder above it. -/
def EvI (g c : Nat) (l : List UInt8) (w w' : World) : Prop :=
  Below w.heap.size w w' ∧ w'.heap[w.heap.size]? = some (.cells #[.int .i64 1, .string ⟨#[117]⟩, .string ⟨#[97]⟩, .slice (some ⟨g, 0, none⟩) 1 c, .string ⟨#[]⟩] 40 (0, 0)) ∧ Bld (w.heap.size + 2) (w.heap.size + 1) l w' ∧ w.heap.size + 2 ≤ w'.heap.size
theorem EvI.kept {g c : Nat} {l : List UInt8} {w w1 w2 : World} (h : EvI g c l w w1) (hb : Below w1.heap.size w1 w2) : EvI g c l w w2 :=
  ⟨h.1.trans (hb.mono h.1.size), (hb.block _ (by have := h.2.2.2; omega)).trans h.2.1, h.2.2.1.kept hb, Nat.le_trans h.2.2.2 hb.size⟩
theorem EvI.wrote {g c : Nat} {l l' : List UInt8} {w w1 w2 : World} (h : EvI g c l w w1) (hB : Bld (w.heap.size + 2) (w.heap.size + 1) l' w2) (hf : Fr (w.heap.size + 2) (w.heap.size + 1) w1 w2) : EvI g c l' w w2 :=
  ⟨h.1.trans (hf.below (by omega) (by omega)), (hf.block _ (by omega) (by omega)).trans h.2.1, hB, Nat.le_trans h.2.2.2 hf.size⟩
theorem EvI.alloc {g c : Nat} {l : List UInt8} {w w1 : World} (h : EvI g c l w w1) (o : Obj) : EvI g c l w (w1.alloc o) := h.kept ((Below.refl _ w1).alloc (Nat.le_refl _) _)
theorem EvI.start (g c : Nat) (w : World) : EvI g c [] w ((w.alloc (.cells #[.int .i64 1, .string ⟨#[117]⟩, .string ⟨#[97]⟩, .slice (some ⟨g, 0, none⟩) 1 c, .string ⟨#[]⟩] 40)).alloc (.cells #[.pointer none, .slice none 0 0] 57)) := by
  refine ⟨((Below.refl _ w).alloc (Nat.le_refl _) _).alloc (by simp) _, hp_old (hp_new w _), ?_, by simp⟩
  have := Bld.fresh (w.heap.size + 2) (w.alloc (.cells #[.int .i64 1, .string ⟨#[117]⟩, .string ⟨#[97]⟩, .slice (some ⟨g, 0, none⟩) 1 c, .string ⟨#[]⟩] 40)) (by simp)
  simpa using this
theorem EvI.drew {g c : Nat} {l : List UInt8} {w w1 : World} (h : EvI g c l w w1) : EvI g c l w w1.drew := ⟨h.1.drew, h.2.1, h.2.2.1, h.2.2.2⟩
/-- The cells of the attribute at hand. -/
def AtC (q : Nat) (w' : World) : Prop := w'.cell? ⟨q, 0, none⟩ = some (.string ⟨#[]⟩) ∧ w'.cell? ⟨q, 1, none⟩ = some (.string ⟨#[98]⟩) ∧ w'.cell? ⟨q, 2, none⟩ = some (.string ⟨#[60]⟩)
def EvJ (g c q : Nat) (w w' : World) : Prop := EvI g c [115, 116, 97, 114, 116, 32, 123, 117, 125, 97, 10] w w' ∧ AtC q w' ∧ q < w'.heap.size
theorem EvJ.kept {g c q : Nat} {w w1 w2 : World} (h : EvJ g c q w w1) (hb : Below w1.heap.size w1 w2) : EvJ g c q w w2 :=
  ⟨h.1.kept hb, ⟨(hb.cell (p := ⟨q, 0, none⟩) h.2.2).trans h.2.1.1, (hb.cell (p := ⟨q, 1, none⟩) h.2.2).trans h.2.1.2.1, (hb.cell (p := ⟨q, 2, none⟩) h.2.2).trans h.2.1.2.2⟩, Nat.lt_of_lt_of_le h.2.2 hb.size⟩
set_option maxRecDepth 100000 in
set_option maxHeartbeats 2000000 in
/-- The page's example. -/
theorem event_ex (g c : Nat) (w : World) (hgl : g < w.heap.size) (hcap : 1 ≤ c) (hc0 : w.cell? ⟨g, 0, none⟩ = some (.string ⟨#[]⟩)) (hc1 : w.cell? ⟨g, 1, none⟩ = some (.string ⟨#[98]⟩)) (hc2 : w.cell? ⟨g, 2, none⟩ = some (.string ⟨#[60]⟩)) :
    Calls Tryd.prog 9 #[.agg #[.int .i64 1, .string ⟨#[117]⟩, .string ⟨#[97]⟩, .slice (some ⟨g, 0, none⟩) 1 c, .string ⟨#[]⟩]] w fun e w' => e = .returned (.string ⟨#[115, 116, 97, 114, 116, 32, 123, 117, 125, 97, 10, 97, 116, 116, 114, 32, 98, 61, 38, 108, 116, 59, 10]⟩) ∧ Below w.heap.size w w' := by
  have HC : Hid (∀ w1, Below w.heap.size w w1 → w1.cell? ⟨g, 0, none⟩ = some (.string ⟨#[]⟩) ∧ w1.cell? ⟨g, 1, none⟩ = some (.string ⟨#[98]⟩) ∧ w1.cell? ⟨g, 2, none⟩ = some (.string ⟨#[60]⟩)) := Lib.hid fun w1 hb => ⟨(hb.cell (p := ⟨g, 0, none⟩) hgl).trans hc0, (hb.cell (p := ⟨g, 1, none⟩) hgl).trans hc1, (hb.cell (p := ⟨g, 2, none⟩) hgl).trans hc2⟩
  have N1 : Hid (∀ w1, Calls Tryd.prog 25 #[.agg #[.string ⟨#[117]⟩, .string ⟨#[97]⟩]] w1 fun e w' => e = .returned (.string ⟨#[123, 117, 125, 97]⟩) ∧ Below w1.heap.size w1 w') := Lib.hid fun w1 => by
    have := repName_c [117] [97] w1 (by decide) (by decide)
    rw [show nameL [117] [97] = [123, 117, 125, 97] by decide +kernel] at this
    exact this
  have N2 : Hid (∀ w1, Calls Tryd.prog 25 #[.agg #[.string ⟨#[]⟩, .string ⟨#[98]⟩]] w1 fun e w' => e = .returned (.string ⟨#[98]⟩) ∧ Below w1.heap.size w1 w') := Lib.hid fun w1 => by
    have := repName_c [] [98] w1 (by decide) (by decide)
    rw [show nameL [] [98] = [98] by decide +kernel] at this
    exact this
  have E1 : Hid (∀ w1, Calls Tryd.prog 26 #[.string ⟨#[60]⟩] w1 fun e w' => e = .returned (.string ⟨#[38, 108, 116, 59]⟩) ∧ Below w1.heap.size w1 w') := Lib.hid fun w1 => by
    have := escape_c [60] w1 (by decide)
    rw [show esc [60] = [38, 108, 116, 59] by decide +kernel] at this
    exact this
  have L1 : Hid (∀ w1 : World, Calls Tryd.prog 24 #[.slice (some ⟨w1.heap.size, 0, none⟩) 2 2] (w1.alloc (.cells #[.string ⟨#[115, 116, 97, 114, 116]⟩, .string ⟨#[123, 117, 125, 97]⟩] 9)) fun e w' => e = .returned (.string ⟨#[115, 116, 97, 114, 116, 32, 123, 117, 125, 97, 10]⟩) ∧ Below w1.heap.size w1 w') := Lib.hid fun w1 => by
    have := line_2 w1.heap.size 2 [115, 116, 97, 114, 116] [123, 117, 125, 97] (w1.alloc (.cells #[.string ⟨#[115, 116, 97, 114, 116]⟩, .string ⟨#[123, 117, 125, 97]⟩] 9)) (by simp) (by decide) (by rw [cell_of 0 (hp_new w1 _)]; rfl) (by rw [cell_of 1 (hp_new w1 _)]; rfl) (by decide) (by decide)
    rw [show joinB [[115, 116, 97, 114, 116], [123, 117, 125, 97]] ++ [10] = [115, 116, 97, 114, 116, 32, 123, 117, 125, 97, 10] by decide +kernel] at this
    exact this.mono fun e w' ⟨he, hb⟩ => ⟨he, ((Below.refl _ w1).alloc (Nat.le_refl _) _).trans (hb.mono (by simp))⟩
  have L2 : Hid (∀ w1 : World, Calls Tryd.prog 24 #[.slice (some ⟨w1.heap.size, 0, none⟩) 2 2] (w1.alloc (.cells #[.string ⟨#[97, 116, 116, 114]⟩, .string ⟨#[98, 61, 38, 108, 116, 59]⟩] 9)) fun e w' => e = .returned (.string ⟨#[97, 116, 116, 114, 32, 98, 61, 38, 108, 116, 59, 10]⟩) ∧ Below w1.heap.size w1 w') := Lib.hid fun w1 => by
    have := line_2 w1.heap.size 2 [97, 116, 116, 114] [98, 61, 38, 108, 116, 59] (w1.alloc (.cells #[.string ⟨#[97, 116, 116, 114]⟩, .string ⟨#[98, 61, 38, 108, 116, 59]⟩] 9)) (by simp) (by decide) (by rw [cell_of 0 (hp_new w1 _)]; rfl) (by rw [cell_of 1 (hp_new w1 _)]; rfl) (by decide) (by decide)
    rw [show joinB [[97, 116, 116, 114], [98, 61, 38, 108, 116, 59]] ++ [10] = [97, 116, 116, 114, 32, 98, 61, 38, 108, 116, 59, 10] by decide +kernel] at this
    exact this.mono fun e w' ⟨he, hb⟩ => ⟨he, ((Below.refl _ w1).alloc (Nat.le_refl _) _).trans (hb.mono (by simp))⟩
  have WS : Hid (∀ l s w1, EvI g c l w w1 → l.length ≤ 1000 → s.length ≤ 1000 → Calls Tryd.prog 23 #[.pointer (some ⟨w.heap.size + 1, 0, none⟩), .string ⟨s.toArray⟩] w1 fun e w' => e = .returned (.tuple #[.int .i64 s.length, .nilIface]) ∧ EvI g c (l ++ s) w w') := Lib.hid fun l s w1 h h1 h2 =>
    (writeString_b (w.heap.size + 2) (w.heap.size + 1) l s w1 h.2.2.1 (by omega) h.2.2.2).mono fun e w' ⟨he, hB, hf⟩ => ⟨he, h.wrote hB hf⟩
  have p1 : ∀ w : World, (Op.stringOp .add ⟨#[98]⟩ ⟨#[61]⟩).run Tryd.prog w = .ok (.string ⟨#[98, 61]⟩) w := fun w => run_sop (w := w) [98] [61] (by decide)
  have p2 : ∀ w : World, (Op.stringOp .add ⟨#[98, 61]⟩ ⟨#[38, 108, 116, 59]⟩).run Tryd.prog w = .ok (.string ⟨#[98, 61, 38, 108, 116, 59]⟩) w := fun w => run_sop (w := w) [98, 61] [38, 108, 116, 59] (by decide)
  have I0 := Lib.hid (EvI.start g c w)
  clear hc0 hc1 hc2
  go_enter Tryd.func9, Tryd.ntmps9
  go_wp2_with fail
  refine (N1.out _).mono ?_
  rintro e w1 ⟨rfl, hb⟩
  have I1 := Lib.hid (I0.out.kept hb)
  clear hb I0
  go_wp2_with fail
  refine (L1.out w1).mono ?_
  rintro e w2 ⟨rfl, hb⟩
  have I2 := Lib.hid (I1.out.kept hb)
  clear hb I1
  go_wp2_with fail
  refine (WS.out [] [115, 116, 97, 114, 116, 32, 123, 117, 125, 97, 10] w2 I2.out (by decide) (by decide)).mono ?_
  rintro e w3 ⟨rfl, hb⟩
  have I3 : Hid (EvI g c [115, 116, 97, 114, 116, 32, 123, 117, 125, 97, 10] w w3) := Lib.hid hb
  have he3 : w3.cell? ⟨w.heap.size, 3, none⟩ = some (.slice (some ⟨g, 0, none⟩) 1 c) := by rw [cell_of 3 hb.2.1]; rfl
  clear hb I2
  go_wp2_with fail
  go_loopg [19] (1) (fun gh i wr => (Hid (gh = 1) ∧ i = .int .i64 0 ∧ Hid (EvI g c [115, 116, 97, 114, 116, 32, 123, 117, 125, 97, 10] w wr)) ∨ (Hid (gh = 0) ∧ i = .int .i64 1 ∧ Hid (EvI g c [115, 116, 97, 114, 116, 32, 123, 117, 125, 97, 10, 97, 116, 116, 114, 32, 98, 61, 38, 108, 116, 59, 10] w wr)))
  case atStart => exact Or.inl ⟨Lib.hid rfl, rfl, I3⟩
  case round =>
    rcases hrel with ⟨hgh, rfl, HI⟩ | ⟨hgh, rfl, HI⟩
    · obtain ⟨hc0, hc1, hc2⟩ := HC.out wr HI.out.1
      have hJ : Hid (EvJ g c wr.heap.size w (wr.alloc (.cells #[.string ⟨#[]⟩, .string ⟨#[98]⟩, .string ⟨#[60]⟩] 51)).drew) := Lib.hid ⟨(HI.out.alloc _).drew, ⟨by show (wr.alloc _).cell? _ = _; rw [cell_of 0 (hp_new wr _)]; rfl, by show (wr.alloc _).cell? _ = _; rw [cell_of 1 (hp_new wr _)]; rfl, by show (wr.alloc _).cell? _ = _; rw [cell_of 2 (hp_new wr _)]; rfl⟩, by simp⟩
      have hq : w.heap.size + 2 ≤ wr.heap.size := HI.out.2.2.2
      have NJ : Hid (∀ w1, Hid (EvJ g c wr.heap.size w w1) → Calls Tryd.prog 25 #[.agg #[.string ⟨#[]⟩, .string ⟨#[98]⟩]] w1 fun e w' => e = .returned (.string ⟨#[98]⟩) ∧ AtC wr.heap.size w' ∧ Hid (EvJ g c wr.heap.size w w')) := Lib.hid fun w1 h => (N2.out w1).mono fun e w' ⟨he, hb⟩ => ⟨he, (h.out.kept hb).2.1, Lib.hid (h.out.kept hb)⟩
      have EJ : Hid (∀ w1, Hid (EvJ g c wr.heap.size w w1) → Calls Tryd.prog 26 #[.string ⟨#[60]⟩] w1 fun e w' => e = .returned (.string ⟨#[38, 108, 116, 59]⟩) ∧ AtC wr.heap.size w' ∧ Hid (EvJ g c wr.heap.size w w') ∧ Hid (EvJ g c wr.heap.size w (w'.alloc (.cells #[.string ⟨#[97, 116, 116, 114]⟩, .string ⟨#[98, 61, 38, 108, 116, 59]⟩] 9))) ∧ AtC wr.heap.size (w'.alloc (.cells #[.string ⟨#[97, 116, 116, 114]⟩, .string ⟨#[98, 61, 38, 108, 116, 59]⟩] 9))) := Lib.hid fun w1 h => (E1.out w1).mono fun e w' ⟨he, hb⟩ => by
        have h1 := h.out.kept hb
        have h2 := h1.kept ((Below.refl _ w').alloc (Nat.le_refl _) (.cells #[.string ⟨#[97, 116, 116, 114]⟩, .string ⟨#[98, 61, 38, 108, 116, 59]⟩] 9))
        exact ⟨he, h1.2.1, Lib.hid h1, Lib.hid h2, h2.2.1⟩
      have LJ : Hid (∀ w1, Hid (EvJ g c wr.heap.size w w1) → Calls Tryd.prog 24 #[.slice (some ⟨w1.heap.size, 0, none⟩) 2 2] (w1.alloc (.cells #[.string ⟨#[97, 116, 116, 114]⟩, .string ⟨#[98, 61, 38, 108, 116, 59]⟩] 9)) fun e w' => e = .returned (.string ⟨#[97, 116, 116, 114, 32, 98, 61, 38, 108, 116, 59, 10]⟩) ∧ AtC wr.heap.size w' ∧ Hid (EvJ g c wr.heap.size w w')) := Lib.hid fun w1 h => (L2.out w1).mono fun e w' ⟨he, hb⟩ => ⟨he, (h.out.kept hb).2.1, Lib.hid (h.out.kept hb)⟩
      have WJ : Hid (∀ w1, Hid (EvJ g c wr.heap.size w w1) → Calls Tryd.prog 23 #[.pointer (some ⟨w.heap.size + 1, 0, none⟩), .string ⟨#[97, 116, 116, 114, 32, 98, 61, 38, 108, 116, 59, 10]⟩] w1 fun e w' => e = .returned (.tuple #[.int .i64 12, .nilIface]) ∧ Hid (EvI g c [115, 116, 97, 114, 116, 32, 123, 117, 125, 97, 10, 97, 116, 116, 114, 32, 98, 61, 38, 108, 116, 59, 10] w w')) := Lib.hid fun w1 h => (writeString_b (w.heap.size + 2) (w.heap.size + 1) [115, 116, 97, 114, 116, 32, 123, 117, 125, 97, 10] [97, 116, 116, 114, 32, 98, 61, 38, 108, 116, 59, 10] w1 h.out.1.2.2.1 (by decide) h.out.1.2.2.2).mono fun e w' ⟨he, hB, hf⟩ => ⟨he, Lib.hid (h.out.1.wrote hB hf)⟩
      clear N1 N2 E1 L1 L2 WS HC HI
      unfold AtC at NJ EJ LJ WJ
      go_wp2_with fail
      obtain ⟨a0, a1, a2⟩ := hJ.out.2.1
      go_region_with (first
          | (go_at_call 25; refine (NJ.out _ (by assumption)).mono ?_; rintro e w4 ⟨rfl, ⟨b0, b1, b2⟩, hj4⟩)
          | (go_at_call 26; refine (EJ.out _ (by assumption)).mono ?_; rintro e w5 ⟨rfl, hat5, hj5, hj5a, hat5a⟩)
          | (go_at_call 24; refine (LJ.out _ (by assumption)).mono ?_; rintro e w6 ⟨rfl, hat6, hj6⟩)
          | (go_at_call 23; refine (WJ.out _ (by assumption)).mono ?_; rintro e w7 ⟨rfl, I7⟩))
      all_goals (
        go_wp2
        go_roundg 0
        case measure => have := hgh.out; omega
        case rel => exact Or.inr ⟨Lib.hid rfl, rfl, I7⟩)
    · go_wp2_with fail
      refine (string_b _ _ _ wr HI.out.2.2.1).mono ?_
      rintro e w5 ⟨rfl, hb⟩
      have HB := Lib.hid (HI.out.1.trans (hb.mono (by omega)))
      clear hb
      go_wp2
      go_ret
      exact ⟨rfl, HB.out⟩
end Go.Proofs.YtocbofeanfdggaaDoor
/- ReportWords: the walk -/
namespace Go.Proofs.YtocbofeanfdggaaDoor
open Go.ChangeShapes Go.WideShapes Go.ChangeAt Go.RowKit
set_option linter.unusedVariables false
set_option maxRecDepth 100000 in
set_option maxHeartbeats 1000000 in
theorem live44_c (w : World) : Calls Tryd.prog 7 #[] w fun e w' => e = .returned (.bool true) ∧ Below w.heap.size w w' := by
  have C := Lib.hid (event_ex w.heap.size 1 (w.alloc (.cells #[.string ⟨#[]⟩, .string ⟨#[98]⟩, .string ⟨#[60]⟩] 51)) (by simp) (by decide) (by rw [cell_of 0 (hp_new w _)]; rfl) (by rw [cell_of 1 (hp_new w _)]; rfl) (by rw [cell_of 2 (hp_new w _)]; rfl))
  go_enter Tryd.func7, Tryd.ntmps7
  go_wp2_with fail
  refine C.out.mono ?_
  rintro e w1 ⟨rfl, hb⟩
  have HB := Lib.hid (((Below.refl _ w).alloc (Nat.le_refl _) _).trans (hb.mono (by simp)))
  clear hb C
  go_wp2
  go_ret
  exact ⟨rfl, HB.out⟩
/-- In the midst of ReportWords: the name's own block. -/
def NaC (q : Nat) (l0 l1 : List UInt8) (w' : World) : Prop := w'.cell? ⟨q, 0, none⟩ = some (.string ⟨l0.toArray⟩) ∧ w'.cell? ⟨q, 1, none⟩ = some (.string ⟨l1.toArray⟩)
def NaJ (l0 l1 : List UInt8) (w w' : World) : Prop := Below w.heap.size w w' ∧ NaC w.heap.size l0 l1 w' ∧ w.heap.size < w'.heap.size
theorem NaJ.kept {l0 l1 : List UInt8} {w w1 w2 : World} (h : NaJ l0 l1 w w1) (hb : Below w1.heap.size w1 w2) : NaJ l0 l1 w w2 :=
  ⟨h.1.trans (hb.mono h.1.size), ⟨(hb.cell (p := ⟨w.heap.size, 0, none⟩) h.2.2).trans h.2.1.1, (hb.cell (p := ⟨w.heap.size, 1, none⟩) h.2.2).trans h.2.1.2⟩, Nat.lt_of_lt_of_le h.2.2 hb.size⟩
theorem NaJ.drew {l0 l1 : List UInt8} {w w1 : World} (h : NaJ l0 l1 w w1) : NaJ l0 l1 w w1.drew := ⟨h.1.drew, h.2.1, h.2.2⟩
theorem NaJ.start (l0 l1 : List UInt8) (w : World) : NaJ l0 l1 w (w.alloc (.cells #[.string ⟨l0.toArray⟩, .string ⟨l1.toArray⟩] 37)) :=
  ⟨(Below.refl _ w).alloc (Nat.le_refl _) _, ⟨by rw [cell_of 0 (hp_new w _)]; rfl, by rw [cell_of 1 (hp_new w _)]; rfl⟩, by simp⟩
end Go.Proofs.YtocbofeanfdggaaDoor
/- Rows of strings of the call's own. -/
namespace Go.Proofs.YtocbofeanfdggaaDoor
open Go.ChangeShapes Go.WideShapes Go.ChangeAt Go.RowKit
set_option linter.unusedVariables false
theorem ownsRow_keep {w w' : World} {base : Nat} {e : TypeId} {c n : Nat} {v : Value} {xs : List Value} (h : w.ownsRow base e c v n xs) (hk : ∀ g, base ≤ g → g < w.heap.size → w'.heap[g]? = w.heap[g]?) : w'.ownsRow base e c v n xs := by
  obtain ⟨hl, h2 | ⟨g, cap, cur, hv, hg, hh, r⟩⟩ := h
  · exact ⟨hl, Or.inl h2⟩
  · exact ⟨hl, Or.inr ⟨g, cap, cur, hv, hg, (hk g hg (lt_of hh)).trans hh, r⟩⟩
def strV (s : List UInt8) : Value := .string ⟨s.toArray⟩
/-- A row of strings of the call's own. -/
def OwnS (w : World) (base : Nat) (v : Value) (op : List (List UInt8)) : Prop := w.ownsRow base 9 1 v op.length (op.map strV)
theorem OwnS.start (w : World) (base : Nat) : OwnS w base (.slice none 0 0) [] := ⟨rfl, .inl ⟨rfl, rfl⟩⟩
theorem OwnS.kept {w w' : World} {base : Nat} {v : Value} {op : List (List UInt8)} (h : OwnS w base v op) (hb : Below w.heap.size w w') : OwnS w' base v op := ownsRow_keep h fun g _ hg => hb.block g hg
theorem OwnS.cells {w : World} {base : Nat} {ad : Addr} {n c : Nat} {op : List (List UInt8)} (h : OwnS w base (.slice (some ad) n c) op) : ∀ (j : Nat) u, (op.map strV)[j]? = some u → w.cell? (ad.add j) = some u := by
  obtain ⟨hl, ⟨hv, _⟩ | ⟨g, cap, cur, hv, hg, hh, hn, hc, hs, ht⟩⟩ := h
  · cases hv
  · injection hv with h1 h2 h3
    cases h1
    intro j u hu
    have hj : j < op.length := by have := (List.getElem?_eq_some_iff.1 hu).1; rwa [List.length_map] at this
    rw [addr_add, cell_of _ hh, Nat.zero_add]
    rw [← ht, List.getElem?_take_of_lt (by omega)] at hu
    simpa using hu
theorem OwnS.lit (w : World) (base : Nat) (hb : base ≤ w.heap.size) : OwnS (w.alloc (.cells #[] 9)) base (.slice (some ⟨w.heap.size, 0, none⟩) 0 0) [] :=
  ⟨rfl, .inr ⟨w.heap.size, 0, #[], rfl, hb, hp_new _ _, Nat.le_refl _, Nat.zero_le _, rfl, rfl⟩⟩

end Go.Proofs.YtocbofeanfdggaaDoor
/- check.names. -/
namespace Go.Proofs.YtocbofeanfdggaaDoor
open Go.ChangeShapes Go.WideShapes Go.ChangeAt Go.RowKit
set_option linter.unusedVariables false
/-- A row of names of the call's own. -/
def OwnN (w : World) (base : Nat) (v : Value) (l : List (List UInt8 × List UInt8)) : Prop := w.ownsRow base 37 2 v l.length (l.flatMap cN)
theorem OwnN.kept {w w' : World} {base : Nat} {v : Value} {l : List (List UInt8 × List UInt8)} (h : OwnN w base v l) (hb : Below w.heap.size w w') : OwnN w' base v l := ownsRow_keep h fun g _ hg => hb.block g hg
end Go.Proofs.YtocbofeanfdggaaDoor
/- slices.ContainsFunc of names. -/
namespace Go.Proofs.YtocbofeanfdggaaDoor
open Go.ChangeShapes Go.WideShapes Go.ChangeAt Go.RowKit
set_option linter.unusedVariables false
end Go.Proofs.YtocbofeanfdggaaDoor
/- check.named, check.short. -/
namespace Go.Proofs.YtocbofeanfdggaaDoor
open Go.ChangeShapes Go.WideShapes Go.ChangeAt Go.RowKit
set_option linter.unusedVariables false
end Go.Proofs.YtocbofeanfdggaaDoor
/- utf.all: an iterator. -/
namespace Go.Proofs.YtocbofeanfdggaaDoor
open Go.ChangeShapes Go.WideShapes Go.ChangeAt Go.RowKit
set_option linter.unusedVariables false
attribute [local go_sem] Oper.semAt_some
/-- What a round keeps for the iterator: what lay below S, and the block Bn. -/
def KpB (S Bn : Nat) (W W' : World) : Prop := Below S W W' ∧ W'.heap[Bn]? = W.heap[Bn]?
theorem KpB.trans {S Bn : Nat} {X Y Z : World} (h : KpB S Bn X Y) (k : KpB S Bn Y Z) : KpB S Bn X Z := ⟨h.1.trans k.1, k.2.trans h.2⟩
end Go.Proofs.YtocbofeanfdggaaDoor
/- utf.Runes. -/
namespace Go.Proofs.YtocbofeanfdggaaDoor
open Go.ChangeShapes Go.WideShapes Go.ChangeAt Go.RowKit
set_option linter.unusedVariables false
attribute [local go_sem] Oper.semAt_some
end Go.Proofs.YtocbofeanfdggaaDoor
/- Are all characters of bytes such as a document may hold? Of the program, and of the document. -/
namespace Go.Proofs.YtocbofeanfdggaaDoor
open Go.ChangeShapes Go.WideShapes Go.ChangeAt Go.RowKit
set_option linter.unusedVariables false
end Go.Proofs.YtocbofeanfdggaaDoor
/- check.may, a closure of spaced. -/
namespace Go.Proofs.YtocbofeanfdggaaDoor
open Go.ChangeShapes Go.WideShapes Go.ChangeAt Go.RowKit
set_option linter.unusedVariables false
end Go.Proofs.YtocbofeanfdggaaDoor
/- The document's Names. -/
namespace Go.Proofs.YtocbofeanfdggaaDoor
open Go.ChangeShapes Go.WideShapes Go.ChangeAt Go.RowKit
set_option linter.unusedVariables false
end Go.Proofs.YtocbofeanfdggaaDoor
/- The document's digits. -/
namespace Go.Proofs.YtocbofeanfdggaaDoor
open Go.ChangeShapes Go.WideShapes Go.ChangeAt Go.RowKit
set_option linter.unusedVariables false
end Go.Proofs.YtocbofeanfdggaaDoor
/- cref.Char. -/
namespace Go.Proofs.YtocbofeanfdggaaDoor
open Go.ChangeShapes Go.WideShapes Go.ChangeAt Go.RowKit
set_option linter.unusedVariables false
end Go.Proofs.YtocbofeanfdggaaDoor
/- cref.Char. -/
namespace Go.Proofs.YtocbofeanfdggaaDoor
open Go.ChangeShapes Go.WideShapes Go.ChangeAt Go.RowKit
set_option linter.unusedVariables false
end Go.Proofs.YtocbofeanfdggaaDoor
/- narthexref06.Char. -/
namespace Go.Proofs.YtocbofeanfdggaaDoor
open Go.ChangeShapes Go.WideShapes Go.ChangeAt Go.RowKit
set_option linter.unusedVariables false
end Go.Proofs.YtocbofeanfdggaaDoor
/- lit.Quoted. -/
namespace Go.Proofs.YtocbofeanfdggaaDoor
open Go.ChangeShapes Go.WideShapes Go.ChangeAt Go.RowKit
set_option linter.unusedVariables false
end Go.Proofs.YtocbofeanfdggaaDoor
/- lit.Refs. -/
namespace Go.Proofs.YtocbofeanfdggaaDoor
open Go.ChangeShapes Go.WideShapes Go.ChangeAt Go.RowKit
set_option linter.unusedVariables false
end Go.Proofs.YtocbofeanfdggaaDoor
/- narthexref07.Refs. -/
namespace Go.Proofs.YtocbofeanfdggaaDoor
open Go.ChangeShapes Go.WideShapes Go.ChangeAt Go.RowKit
set_option linter.unusedVariables false
end Go.Proofs.YtocbofeanfdggaaDoor
/- lit.read, Value. -/
namespace Go.Proofs.YtocbofeanfdggaaDoor
open Go.ChangeShapes Go.WideShapes Go.ChangeAt Go.RowKit
set_option linter.unusedVariables false
end Go.Proofs.YtocbofeanfdggaaDoor
/- narthexref07.Quoted, Has, Strict; lit.Entity. -/
namespace Go.Proofs.YtocbofeanfdggaaDoor
open Go.ChangeShapes Go.WideShapes Go.ChangeAt Go.RowKit
set_option linter.unusedVariables false
end Go.Proofs.YtocbofeanfdggaaDoor
/- narthexref08.PutPi. -/
namespace Go.Proofs.YtocbofeanfdggaaDoor
open Go.ChangeShapes Go.WideShapes Go.ChangeAt Go.RowKit
set_option linter.unusedVariables false
end Go.Proofs.YtocbofeanfdggaaDoor
/- The document's text (of layer 40). -/
namespace Go.Proofs.YtocbofeanfdggaaDoor
open Go.ChangeShapes Go.WideShapes Go.ChangeAt Go.RowKit
set_option linter.unusedVariables false
end Go.Proofs.YtocbofeanfdggaaDoor
/- An entry of a map of the call's own, laid and stored. -/
namespace Go.Proofs.YtocbofeanfdggaaDoor
open Go.ChangeShapes Go.WideShapes Go.ChangeAt Go.RowKit
set_option linter.unusedVariables false
section
open Go.MapKept Go.ChangeMaps Go.WideElems
variable {H : Type} {P : Program} {w : World} {t k e : TypeId} {b n : Nat} {D : DataW H}
end
end Go.Proofs.YtocbofeanfdggaaDoor
/- A map that counts names (its key is a struct). -/
namespace Go.Proofs.YtocbofeanfdggaaDoor
open Go.ChangeShapes Go.WideShapes Go.ChangeAt Go.RowKit
set_option linter.unusedVariables false
/-- A name as a map's key. -/
def keyNm (x : List UInt8 × List UInt8) : Lit := .string (keyBytes [.string x.1, .string x.2])
def shortNm (x : List UInt8 × List UInt8) : Prop := x.1.length ≤ 1000000 ∧ x.2.length ≤ 1000000
/-- The names so far, in a map that counts them. -/
def CntN (w : World) (b : Nat) (acc : List (List UInt8 × List UInt8)) : Prop := ∃ D : DataW Unit, w.ownsMap Tryd.prog 37 (Go.plainElem Tryd.prog 3) b acc.length D ∧
  ∀ x, shortNm x → ∃ c : Nat, c ≤ acc.length ∧ D.atKey (keyNm x) (.lit (.int .i64 0)) = .lit (.int .i64 (c : Int)) ∧ hasNm acc x = decide (0 < c)
theorem CntN.start (w : World) : CntN (w.alloc (.map #[] 0)) w.heap.size [] := ⟨.map [], World.ownsMap_made _ _ _ _, fun x _ => ⟨0, Nat.le_refl _, rfl, rfl⟩⟩
theorem nmMap_keep {H : Type} {w w' : World} {k : TypeId} {R : Value → Option (DataW H × List MemPlace)} {b n : Nat} {D : DataW H} (h : w.ownsMap Tryd.prog k R b n D) (hk : w'.heap[b]? = w.heap[b]?) : w'.ownsMap Tryd.prog k R b n D := by
  obtain ⟨es, clock, hb, r⟩ := h
  exact ⟨es, clock, hk.trans hb, r⟩
theorem nmMap_at {H : Type} {w : World} {k : TypeId} {R : Value → Option (DataW H × List MemPlace)} {b n : Nat} {D : DataW H} (h : w.ownsMap Tryd.prog k R b n D) : b < w.heap.size := by
  obtain ⟨es, clock, hb, r⟩ := h
  exact lt_of hb
end Go.Proofs.YtocbofeanfdggaaDoor
/- check.texts. -/
namespace Go.Proofs.YtocbofeanfdggaaDoor
open Go.ChangeShapes Go.WideShapes Go.ChangeAt Go.RowKit
set_option linter.unusedVariables false
/-- What is asked of the world. -/
structure WC (w : World) : Prop where
  put : W8F w
  tabs : Tabs w
theorem WC.below {w w' : World} (h : WC w) (hb : Below w.heap.size w w') : WC w' := ⟨h.put.below hb, h.tabs.below hb (h.tabs.low h.put.forms)⟩
end Go.Proofs.YtocbofeanfdggaaDoor
/- check.rules, One. -/
namespace Go.Proofs.YtocbofeanfdggaaDoor
open Go.ChangeShapes Go.WideShapes Go.ChangeAt Go.RowKit
set_option linter.unusedVariables false
end Go.Proofs.YtocbofeanfdggaaDoor
/- check.spaced. -/
namespace Go.Proofs.YtocbofeanfdggaaDoor
open Go.ChangeShapes Go.WideShapes Go.ChangeAt Go.RowKit
set_option linter.unusedVariables false
/-- While the attributes' names are counted: the event's block, the map's. -/
def SpJ (w W : World) (cs : Array Value) (acc : List (List UInt8 × List UInt8)) : Prop := Below w.heap.size w W ∧ W.heap[w.heap.size]? = some (.cells cs 40) ∧ CntN W (w.heap.size + 1) acc
theorem SpJ.kept {w W W' : World} {cs : Array Value} {acc : List (List UInt8 × List UInt8)} (h : SpJ w W cs acc) (hb : Below W.heap.size W W') : SpJ w W' cs acc := by
  obtain ⟨h1, h2, D, h3, h4⟩ := h
  have hlt := nmMap_at h3
  exact ⟨h1.trans (hb.mono h1.size), by rw [hb.block _ (lt_of h2)]; exact h2, D, nmMap_keep h3 (hb.block _ hlt), h4⟩
theorem SpJ.start (w : World) (cs : Array Value) : SpJ w ((w.alloc (.cells cs 40)).alloc (.map #[] 0)) cs [] := by
  have h1 : Below w.heap.size w (w.alloc (.cells cs 40)) := (Below.refl _ w).alloc (Nat.le_refl _) _
  have h2 := CntN.start (w.alloc (.cells cs 40))
  rw [World.size_alloc] at h2
  exact ⟨h1.alloc h1.size _, by rw [Below.heap_alloc _ _ _ (by simp)]; exact hp_new _ _, h2⟩
theorem SpJ.drew {w W : World} {cs : Array Value} {acc : List (List UInt8 × List UInt8)} (h : SpJ w W cs acc) : SpJ w W.drew cs acc := ⟨below_drewN' (n := 1) h.1, h.2⟩
end Go.Proofs.YtocbofeanfdggaaDoor
/- check.next. -/
namespace Go.Proofs.YtocbofeanfdggaaDoor
open Go.ChangeShapes Go.WideShapes Go.ChangeAt Go.RowKit
set_option linter.unusedVariables false
theorem OwnN.start (w : World) (base : Nat) : OwnN w base (.slice none 0 0) [] := ⟨rfl, .inl ⟨rfl, rfl⟩⟩
end Go.Proofs.YtocbofeanfdggaaDoor
