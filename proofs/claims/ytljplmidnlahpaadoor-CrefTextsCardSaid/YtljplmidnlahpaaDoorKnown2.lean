/- cref.Known. -/
import Derived.Test.YtljplmidnlahpaaDoorRows
import Derived.WalkKit
import Derived.ProofKit
import Derived.OpenShut
import Derived.ShutString
import Derived.ChangeOld
import Derived.Below
import Derived.BigQuiet
import Derived.Deep.QuietTactic
import Derived.Lib.Hide
import Derived.Deep.RegionHeld3
import Derived.Lib.SlBytesConst
import Derived.Laws.CopyOwn
import Derived.Laws.CopyRow
import Derived.Lib.Bytes
import Derived.Deep.LoopGhost
import Derived.Deep.DeepFit
import Derived.Deep.DeepMust
import Derived.WalkSpells
import Derived.WalkLawsBesides
import Derived.Test.YtljplmidnlahpaaDoorBase
import Derived.Test.YtljplmidnlahpaaDoorShelf
import Derived.Test.YtljplmidnlahpaaDoorCharPlain
import Derived.Test.YtljplmidnlahpaaDoorUtf1
import Derived.Test.YtljplmidnlahpaaDoorUtf2
import Derived.Test.YtljplmidnlahpaaDoorUtf3
import Derived.Test.YtljplmidnlahpaaDoorChars1
import Derived.Test.YtljplmidnlahpaaDoorName1
import Derived.Test.YtljplmidnlahpaaDoorKnown
namespace Go.Proofs.YtljplmidnlahpaaDoor
open Go.ChangeShapes Go.WideShapes Go.ChangeAt Go.RowKit
set_option linter.unusedVariables false
/-- The table of the entities that are always known is laid. -/
def KnownT (w : World) : Prop := ∃ T f, w.heap[0]? = some (.cells #[.string ⟨#[108, 116]⟩, .int .i64 60, .string ⟨#[103, 116]⟩, .int .i64 62, .string ⟨#[97, 109, 112]⟩, .int .i64 38, .string ⟨#[97, 112, 111, 115]⟩, .int .i64 39, .string ⟨#[113, 117, 111, 116]⟩, .int .i64 34] T f)
theorem KnownT.lt {w : World} (h : KnownT w) : 0 < w.heap.size := by
  obtain ⟨T, f, h⟩ := h
  exact lt_of h
theorem KnownT.below {w w' : World} (h : KnownT w) (hb : Below w.heap.size w w') : KnownT w' := by
  have hl := h.lt
  obtain ⟨T, f, h⟩ := h
  exact ⟨T, f, (hb.block _ hl).trans h⟩
def knownV (n : Nat) : Value := .tuple #[.int .i64 n, .bool (decide (0 < n))]
set_option maxRecDepth 100000 in
set_option maxHeartbeats 4000000 in
theorem crefKnown_c (s : ByteArray) (w : World) (h : KnownT w) : Calls Tryd.prog 32 #[.string s] w fun e w' => e = .returned (knownV (knownOf s)) ∧ Below w.heap.size w w' := by
  obtain ⟨T, f, hb⟩ := h
  have hi : (Tryd.prog.info? 72).map (·.size) = some 10 := by kernel_rfl
  have hu := Tryd.underlying72
  have hld := run_loadVar_row (P := Tryd.prog) w 0 T 72 #[.string ⟨#[108, 116]⟩, .int .i64 60, .string ⟨#[103, 116]⟩, .int .i64 62, .string ⟨#[97, 109, 112]⟩, .int .i64 38, .string ⟨#[97, 112, 111, 115]⟩, .int .i64 39, .string ⟨#[113, 117, 111, 116]⟩, .int .i64 34] f _ hb hu rfl hi
  have hu1 : ∃ d1, Tryd.prog.underlying 71 = some (.struct d1) := isStruct_of (by kernel_rfl)
  have c0 : w.cell? ⟨0, 0, none⟩ = some (.string ⟨#[108, 116]⟩) := by rw [cell_of 0 hb]; rfl
  have c1 : w.cell? ⟨0, 1, none⟩ = some (.int .i64 60) := by rw [cell_of 1 hb]; rfl
  have c2 : w.cell? ⟨0, 2, none⟩ = some (.string ⟨#[103, 116]⟩) := by rw [cell_of 2 hb]; rfl
  have c3 : w.cell? ⟨0, 3, none⟩ = some (.int .i64 62) := by rw [cell_of 3 hb]; rfl
  have c4 : w.cell? ⟨0, 4, none⟩ = some (.string ⟨#[97, 109, 112]⟩) := by rw [cell_of 4 hb]; rfl
  have c5 : w.cell? ⟨0, 5, none⟩ = some (.int .i64 38) := by rw [cell_of 5 hb]; rfl
  have c6 : w.cell? ⟨0, 6, none⟩ = some (.string ⟨#[97, 112, 111, 115]⟩) := by rw [cell_of 6 hb]; rfl
  have c7 : w.cell? ⟨0, 7, none⟩ = some (.int .i64 39) := by rw [cell_of 7 hb]; rfl
  have c8 : w.cell? ⟨0, 8, none⟩ = some (.string ⟨#[113, 117, 111, 116]⟩) := by rw [cell_of 8 hb]; rfl
  have c9 : w.cell? ⟨0, 9, none⟩ = some (.int .i64 34) := by rw [cell_of 9 hb]; rfl
  have ix0 : ∀ w : World, (Instr.index 72 (.agg #[.string ⟨#[108, 116]⟩, .int .i64 60, .string ⟨#[103, 116]⟩, .int .i64 62, .string ⟨#[97, 109, 112]⟩, .int .i64 38, .string ⟨#[97, 112, 111, 115]⟩, .int .i64 39, .string ⟨#[113, 117, 111, 116]⟩, .int .i64 34]) (.int .i64 0)).run Tryd.prog w = .ok (.agg #[.string ⟨#[108, 116]⟩, .int .i64 60]) w := fun _ => by kernel_rfl
  have ix1 : ∀ w : World, (Instr.index 72 (.agg #[.string ⟨#[108, 116]⟩, .int .i64 60, .string ⟨#[103, 116]⟩, .int .i64 62, .string ⟨#[97, 109, 112]⟩, .int .i64 38, .string ⟨#[97, 112, 111, 115]⟩, .int .i64 39, .string ⟨#[113, 117, 111, 116]⟩, .int .i64 34]) (.int .i64 1)).run Tryd.prog w = .ok (.agg #[.string ⟨#[103, 116]⟩, .int .i64 62]) w := fun _ => by kernel_rfl
  have ix2 : ∀ w : World, (Instr.index 72 (.agg #[.string ⟨#[108, 116]⟩, .int .i64 60, .string ⟨#[103, 116]⟩, .int .i64 62, .string ⟨#[97, 109, 112]⟩, .int .i64 38, .string ⟨#[97, 112, 111, 115]⟩, .int .i64 39, .string ⟨#[113, 117, 111, 116]⟩, .int .i64 34]) (.int .i64 2)).run Tryd.prog w = .ok (.agg #[.string ⟨#[97, 109, 112]⟩, .int .i64 38]) w := fun _ => by kernel_rfl
  have ix3 : ∀ w : World, (Instr.index 72 (.agg #[.string ⟨#[108, 116]⟩, .int .i64 60, .string ⟨#[103, 116]⟩, .int .i64 62, .string ⟨#[97, 109, 112]⟩, .int .i64 38, .string ⟨#[97, 112, 111, 115]⟩, .int .i64 39, .string ⟨#[113, 117, 111, 116]⟩, .int .i64 34]) (.int .i64 3)).run Tryd.prog w = .ok (.agg #[.string ⟨#[97, 112, 111, 115]⟩, .int .i64 39]) w := fun _ => by kernel_rfl
  have ix4 : ∀ w : World, (Instr.index 72 (.agg #[.string ⟨#[108, 116]⟩, .int .i64 60, .string ⟨#[103, 116]⟩, .int .i64 62, .string ⟨#[97, 109, 112]⟩, .int .i64 38, .string ⟨#[97, 112, 111, 115]⟩, .int .i64 39, .string ⟨#[113, 117, 111, 116]⟩, .int .i64 34]) (.int .i64 4)).run Tryd.prog w = .ok (.agg #[.string ⟨#[113, 117, 111, 116]⟩, .int .i64 34]) w := fun _ => by kernel_rfl
  clear hb hu hi hu1 hld
  go_enter Tryd.func32, Tryd.ntmps32
  go_wp2
  go_loopg [7] (5) (fun g i wr => ∃ k : Nat, k ≤ 5 ∧ Hid (g + k = 5) ∧ i = .int .i64 k ∧ Hid (Below w.heap.size w wr) ∧ Hid (∀ j < k, ∀ x, [(⟨#[108, 116]⟩ : ByteArray), ⟨#[103, 116]⟩, ⟨#[97, 109, 112]⟩, ⟨#[97, 112, 111, 115]⟩, ⟨#[113, 117, 111, 116]⟩][j]? = some x → s ≠ x))
  case atStart => exact ⟨0, by omega, Lib.hid rfl, rfl, Lib.hid (Below.refl _ _), Lib.hid (fun j hj => absurd hj (Nat.not_lt_zero _))⟩
  case round =>
    obtain ⟨k, hk, hg, rfl, HB, HN⟩ := hrel
    have hfz : ∀ o b i, wr.heap.size = b → (wr.alloc o).frozen? ⟨b, i, none⟩ = (wr.alloc o).frozen? ⟨wr.heap.size, i, none⟩ := fun o b i e => by rw [e]
    clear hfz
    rcases (show k = 0 ∨ k = 1 ∨ k = 2 ∨ k = 3 ∨ k = 4 ∨ k = 5 by omega) with rfl | rfl | rfl | rfl | rfl | rfl
    · by_cases hs : s = ⟨#[108, 116]⟩
      · have HE : Hid (knownOf s = 60) := Lib.hid (by rw [hs]; decide +kernel)
        have HBA : Hid (Below w.heap.size w (wr.alloc (.cells #[.string ⟨#[108, 116]⟩, .int .i64 60] 71))) := Lib.hid (HB.out.alloc (by have := HB.out.size; omega) _)
        subst hs
        go_wp2
        go_ret2
        rw [HE.out]
        exact ⟨rfl, HBA.out⟩
      · have a0 : (s.toList == [108, 116]) = false := ba_ne2 s [108, 116] hs
        have a0' : ([108, 116] == s.toList) = false := by rw [← a0]; exact Bool.beq_comm
        have HBA : Hid (Below w.heap.size w (wr.alloc (.cells #[.string ⟨#[108, 116]⟩, .int .i64 60] 71))) := Lib.hid (HB.out.alloc (by have := HB.out.size; omega) _)
        have HS := Lib.hid hs
        clear hs
        go_wp2
        go_roundg (4)
        case measure => have := hg.out; omega
        case rel => exact ⟨1, by omega, Lib.hid (by omega), rfl, HBA, Lib.hid (fun j hj x hx => by
          rcases (show j < 0 ∨ j = 0 by omega) with h | rfl
          · exact HN.out j h x hx
          · simp at hx; rw [← hx]; exact HS.out)⟩
    · by_cases hs : s = ⟨#[103, 116]⟩
      · have HE : Hid (knownOf s = 62) := Lib.hid (by rw [hs]; decide +kernel)
        have HBA : Hid (Below w.heap.size w (wr.alloc (.cells #[.string ⟨#[103, 116]⟩, .int .i64 62] 71))) := Lib.hid (HB.out.alloc (by have := HB.out.size; omega) _)
        subst hs
        go_wp2
        go_ret2
        rw [HE.out]
        exact ⟨rfl, HBA.out⟩
      · have a1 : (s.toList == [103, 116]) = false := ba_ne2 s [103, 116] hs
        have a1' : ([103, 116] == s.toList) = false := by rw [← a1]; exact Bool.beq_comm
        have HBA : Hid (Below w.heap.size w (wr.alloc (.cells #[.string ⟨#[103, 116]⟩, .int .i64 62] 71))) := Lib.hid (HB.out.alloc (by have := HB.out.size; omega) _)
        have HS := Lib.hid hs
        clear hs
        go_wp2
        go_roundg (3)
        case measure => have := hg.out; omega
        case rel => exact ⟨2, by omega, Lib.hid (by omega), rfl, HBA, Lib.hid (fun j hj x hx => by
          rcases (show j < 1 ∨ j = 1 by omega) with h | rfl
          · exact HN.out j h x hx
          · simp at hx; rw [← hx]; exact HS.out)⟩
    · by_cases hs : s = ⟨#[97, 109, 112]⟩
      · have HE : Hid (knownOf s = 38) := Lib.hid (by rw [hs]; decide +kernel)
        have HBA : Hid (Below w.heap.size w (wr.alloc (.cells #[.string ⟨#[97, 109, 112]⟩, .int .i64 38] 71))) := Lib.hid (HB.out.alloc (by have := HB.out.size; omega) _)
        subst hs
        go_wp2
        go_ret2
        rw [HE.out]
        exact ⟨rfl, HBA.out⟩
      · have a2 : (s.toList == [97, 109, 112]) = false := ba_ne2 s [97, 109, 112] hs
        have a2' : ([97, 109, 112] == s.toList) = false := by rw [← a2]; exact Bool.beq_comm
        have HBA : Hid (Below w.heap.size w (wr.alloc (.cells #[.string ⟨#[97, 109, 112]⟩, .int .i64 38] 71))) := Lib.hid (HB.out.alloc (by have := HB.out.size; omega) _)
        have HS := Lib.hid hs
        clear hs
        go_wp2
        go_roundg (2)
        case measure => have := hg.out; omega
        case rel => exact ⟨3, by omega, Lib.hid (by omega), rfl, HBA, Lib.hid (fun j hj x hx => by
          rcases (show j < 2 ∨ j = 2 by omega) with h | rfl
          · exact HN.out j h x hx
          · simp at hx; rw [← hx]; exact HS.out)⟩
    · by_cases hs : s = ⟨#[97, 112, 111, 115]⟩
      · have HE : Hid (knownOf s = 39) := Lib.hid (by rw [hs]; decide +kernel)
        have HBA : Hid (Below w.heap.size w (wr.alloc (.cells #[.string ⟨#[97, 112, 111, 115]⟩, .int .i64 39] 71))) := Lib.hid (HB.out.alloc (by have := HB.out.size; omega) _)
        subst hs
        go_wp2
        go_ret2
        rw [HE.out]
        exact ⟨rfl, HBA.out⟩
      · have a3 : (s.toList == [97, 112, 111, 115]) = false := ba_ne2 s [97, 112, 111, 115] hs
        have a3' : ([97, 112, 111, 115] == s.toList) = false := by rw [← a3]; exact Bool.beq_comm
        have HBA : Hid (Below w.heap.size w (wr.alloc (.cells #[.string ⟨#[97, 112, 111, 115]⟩, .int .i64 39] 71))) := Lib.hid (HB.out.alloc (by have := HB.out.size; omega) _)
        have HS := Lib.hid hs
        clear hs
        go_wp2
        go_roundg (1)
        case measure => have := hg.out; omega
        case rel => exact ⟨4, by omega, Lib.hid (by omega), rfl, HBA, Lib.hid (fun j hj x hx => by
          rcases (show j < 3 ∨ j = 3 by omega) with h | rfl
          · exact HN.out j h x hx
          · simp at hx; rw [← hx]; exact HS.out)⟩
    · by_cases hs : s = ⟨#[113, 117, 111, 116]⟩
      · have HE : Hid (knownOf s = 34) := Lib.hid (by rw [hs]; decide +kernel)
        have HBA : Hid (Below w.heap.size w (wr.alloc (.cells #[.string ⟨#[113, 117, 111, 116]⟩, .int .i64 34] 71))) := Lib.hid (HB.out.alloc (by have := HB.out.size; omega) _)
        subst hs
        go_wp2
        go_ret2
        rw [HE.out]
        exact ⟨rfl, HBA.out⟩
      · have a4 : (s.toList == [113, 117, 111, 116]) = false := ba_ne2 s [113, 117, 111, 116] hs
        have a4' : ([113, 117, 111, 116] == s.toList) = false := by rw [← a4]; exact Bool.beq_comm
        have HBA : Hid (Below w.heap.size w (wr.alloc (.cells #[.string ⟨#[113, 117, 111, 116]⟩, .int .i64 34] 71))) := Lib.hid (HB.out.alloc (by have := HB.out.size; omega) _)
        have HS := Lib.hid hs
        clear hs
        go_wp2
        go_roundg (0)
        case measure => have := hg.out; omega
        case rel => exact ⟨5, by omega, Lib.hid (by omega), rfl, HBA, Lib.hid (fun j hj x hx => by
          rcases (show j < 4 ∨ j = 4 by omega) with h | rfl
          · exact HN.out j h x hx
          · simp at hx; rw [← hx]; exact HS.out)⟩
    · have HE : Hid (knownOf s = 0) := Lib.hid (by
        have n0 := HN.out 0 (by omega) _ rfl
        have n1 := HN.out 1 (by omega) _ rfl
        have n2 := HN.out 2 (by omega) _ rfl
        have n3 := HN.out 3 (by omega) _ rfl
        have n4 := HN.out 4 (by omega) _ rfl
        unfold knownOf
        rw [if_neg n0, if_neg n1, if_neg n2, if_neg n3, if_neg n4])
      go_wp2
      go_ret2
      rw [HE.out]
      exact ⟨rfl, HB.out⟩
end Go.Proofs.YtljplmidnlahpaaDoor
