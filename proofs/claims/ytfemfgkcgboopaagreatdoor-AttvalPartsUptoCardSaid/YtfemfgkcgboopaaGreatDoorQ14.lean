/- Texts of ours, joined: Known, Known2, Shelf2, Build. -/
import Derived.Test.YtfemfgkcgboopaaGreatDoorRows
import Derived.WalkKit
import Derived.ProofKit
import Derived.OpenShut
import Derived.ShutString
import Derived.ChangeOld
import Derived.Below
import Derived.BigQuiet
import Derived.Deep.QuietTactic
import Derived.Lib.Hide
import Derived.Deep.RegionHeld3
import Derived.Lib.SlBytesConst
import Derived.Laws.CopyOwn
import Derived.Laws.CopyRow
import Derived.Lib.Bytes
import Derived.Deep.LoopGhost
import Derived.Deep.DeepFit
import Derived.Deep.DeepMust
import Derived.WalkSpells
import Derived.WalkLawsBesides
import Derived.Laws.EntriesVeiled
import Derived.Laws.Rows
import Derived.Test.YtfemfgkcgboopaaGreatDoorQ1
import Derived.Test.YtfemfgkcgboopaaGreatDoorQ2
import Derived.Test.YtfemfgkcgboopaaGreatDoorQ3
import Derived.Shelf.Strings.Builder1
import Derived.Lib.Builder
import Derived.Lib.AppendStr
import Derived.Lib.UnsafeStr
import Derived.Laws.Externs
/- Entities that are always known. -/
namespace Go.Proofs.YtfemfgkcgboopaaGreatDoor
open Go.ChangeShapes Go.WideShapes Go.ChangeAt Go.RowKit
set_option linter.unusedVariables false
theorem ba_ne2 (s : ByteArray) (l : List UInt8) (h : s ≠ ⟨l.toArray⟩) : (s.toList == l) = false :=
  beq_false_of_ne fun e => h (by rw [← e, Go.Lib.toList_data])
/-- The number of an entity that is always known; 0: it is none. -/
def knownOf (s : ByteArray) : Nat := if s = ⟨#[108, 116]⟩ then 60 else if s = ⟨#[103, 116]⟩ then 62 else if s = ⟨#[97, 109, 112]⟩ then 38 else if s = ⟨#[97, 112, 111, 115]⟩ then 39 else if s = ⟨#[113, 117, 111, 116]⟩ then 34 else 0
set_option maxRecDepth 100000 in
set_option maxHeartbeats 4000000 in
theorem refKnown_c (s : ByteArray) (w : World) : Calls Tryz.prog 39 #[.string s] w fun e w' => e = .returned (.int .i64 (knownOf s)) ∧ w = w' := by
  by_cases h0 : s = ⟨#[108, 116]⟩
  · have e : knownOf s = 60 := by rw [h0]; decide +kernel
    rw [e]
    subst h0
    clear e
    go_enter Tryz.func39, Tryz.ntmps39
    go_wp2
    go_ret
    exact ⟨rfl, rfl⟩
  · have a0 : (s.toList == [108, 116]) = false := ba_ne2 s [108, 116] h0
    by_cases h1 : s = ⟨#[103, 116]⟩
    · have e : knownOf s = 62 := by rw [h1]; decide +kernel
      rw [e]
      subst h1
      clear e
      go_enter Tryz.func39, Tryz.ntmps39
      go_wp2
      go_ret
      exact ⟨rfl, rfl⟩
    · have a1 : (s.toList == [103, 116]) = false := ba_ne2 s [103, 116] h1
      by_cases h2 : s = ⟨#[97, 109, 112]⟩
      · have e : knownOf s = 38 := by rw [h2]; decide +kernel
        rw [e]
        subst h2
        clear e
        go_enter Tryz.func39, Tryz.ntmps39
        go_wp2
        go_ret
        exact ⟨rfl, rfl⟩
      · have a2 : (s.toList == [97, 109, 112]) = false := ba_ne2 s [97, 109, 112] h2
        by_cases h3 : s = ⟨#[97, 112, 111, 115]⟩
        · have e : knownOf s = 39 := by rw [h3]; decide +kernel
          rw [e]
          subst h3
          clear e
          go_enter Tryz.func39, Tryz.ntmps39
          go_wp2
          go_ret
          exact ⟨rfl, rfl⟩
        · have a3 : (s.toList == [97, 112, 111, 115]) = false := ba_ne2 s [97, 112, 111, 115] h3
          by_cases h4 : s = ⟨#[113, 117, 111, 116]⟩
          · have e : knownOf s = 34 := by rw [h4]; decide +kernel
            rw [e]
            subst h4
            clear e
            go_enter Tryz.func39, Tryz.ntmps39
            go_wp2
            go_ret
            exact ⟨rfl, rfl⟩
          · have a4 : (s.toList == [113, 117, 111, 116]) = false := ba_ne2 s [113, 117, 111, 116] h4
            have e : knownOf s = 0 := by unfold knownOf; rw [if_neg h0, if_neg h1, if_neg h2, if_neg h3, if_neg h4]
            rw [e]
            clear e
            go_enter Tryz.func39, Tryz.ntmps39
            go_wp2
            go_ret
            exact ⟨rfl, rfl⟩
end Go.Proofs.YtfemfgkcgboopaaGreatDoor
/- cref.Known. -/
namespace Go.Proofs.YtfemfgkcgboopaaGreatDoor
open Go.ChangeShapes Go.WideShapes Go.ChangeAt Go.RowKit
set_option linter.unusedVariables false
/-- The table of the entities that are always known is laid. -/
def KnownT (w : World) : Prop := ∃ T f, w.heap[1]? = some (.cells #[.string ⟨#[108, 116]⟩, .int .i64 60, .string ⟨#[103, 116]⟩, .int .i64 62, .string ⟨#[97, 109, 112]⟩, .int .i64 38, .string ⟨#[97, 112, 111, 115]⟩, .int .i64 39, .string ⟨#[113, 117, 111, 116]⟩, .int .i64 34] T f)
theorem KnownT.lt {w : World} (h : KnownT w) : 1 < w.heap.size := by
  obtain ⟨T, f, h⟩ := h
  exact lt_of h
theorem KnownT.below {w w' : World} (h : KnownT w) (hb : Below w.heap.size w w') : KnownT w' := by
  have hl := h.lt
  obtain ⟨T, f, h⟩ := h
  exact ⟨T, f, (hb.block _ hl).trans h⟩
def knownV (n : Nat) : Value := .tuple #[.int .i64 n, .bool (decide (0 < n))]
set_option maxRecDepth 100000 in
set_option maxHeartbeats 4000000 in
theorem crefKnown_c (s : ByteArray) (w : World) (h : KnownT w) : Calls Tryz.prog 70 #[.string s] w fun e w' => e = .returned (knownV (knownOf s)) ∧ Below w.heap.size w w' := by
  obtain ⟨T, f, hb⟩ := h
  have hi : (Tryz.prog.info? 153).map (·.size) = some 10 := by kernel_rfl
  have hu := Tryz.underlying153
  have hld := run_loadVar_row (P := Tryz.prog) w 1 T 153 #[.string ⟨#[108, 116]⟩, .int .i64 60, .string ⟨#[103, 116]⟩, .int .i64 62, .string ⟨#[97, 109, 112]⟩, .int .i64 38, .string ⟨#[97, 112, 111, 115]⟩, .int .i64 39, .string ⟨#[113, 117, 111, 116]⟩, .int .i64 34] f _ hb hu rfl hi
  have hu1 : ∃ d1, Tryz.prog.underlying 152 = some (.struct d1) := isStruct_of (by kernel_rfl)
  have c0 : w.cell? ⟨1, 0, none⟩ = some (.string ⟨#[108, 116]⟩) := by rw [cell_of 0 hb]; rfl
  have c1 : w.cell? ⟨1, 1, none⟩ = some (.int .i64 60) := by rw [cell_of 1 hb]; rfl
  have c2 : w.cell? ⟨1, 2, none⟩ = some (.string ⟨#[103, 116]⟩) := by rw [cell_of 2 hb]; rfl
  have c3 : w.cell? ⟨1, 3, none⟩ = some (.int .i64 62) := by rw [cell_of 3 hb]; rfl
  have c4 : w.cell? ⟨1, 4, none⟩ = some (.string ⟨#[97, 109, 112]⟩) := by rw [cell_of 4 hb]; rfl
  have c5 : w.cell? ⟨1, 5, none⟩ = some (.int .i64 38) := by rw [cell_of 5 hb]; rfl
  have c6 : w.cell? ⟨1, 6, none⟩ = some (.string ⟨#[97, 112, 111, 115]⟩) := by rw [cell_of 6 hb]; rfl
  have c7 : w.cell? ⟨1, 7, none⟩ = some (.int .i64 39) := by rw [cell_of 7 hb]; rfl
  have c8 : w.cell? ⟨1, 8, none⟩ = some (.string ⟨#[113, 117, 111, 116]⟩) := by rw [cell_of 8 hb]; rfl
  have c9 : w.cell? ⟨1, 9, none⟩ = some (.int .i64 34) := by rw [cell_of 9 hb]; rfl
  have ix0 : ∀ w : World, (Instr.index 153 (.agg #[.string ⟨#[108, 116]⟩, .int .i64 60, .string ⟨#[103, 116]⟩, .int .i64 62, .string ⟨#[97, 109, 112]⟩, .int .i64 38, .string ⟨#[97, 112, 111, 115]⟩, .int .i64 39, .string ⟨#[113, 117, 111, 116]⟩, .int .i64 34]) (.int .i64 0)).run Tryz.prog w = .ok (.agg #[.string ⟨#[108, 116]⟩, .int .i64 60]) w := fun _ => by kernel_rfl
  have ix1 : ∀ w : World, (Instr.index 153 (.agg #[.string ⟨#[108, 116]⟩, .int .i64 60, .string ⟨#[103, 116]⟩, .int .i64 62, .string ⟨#[97, 109, 112]⟩, .int .i64 38, .string ⟨#[97, 112, 111, 115]⟩, .int .i64 39, .string ⟨#[113, 117, 111, 116]⟩, .int .i64 34]) (.int .i64 1)).run Tryz.prog w = .ok (.agg #[.string ⟨#[103, 116]⟩, .int .i64 62]) w := fun _ => by kernel_rfl
  have ix2 : ∀ w : World, (Instr.index 153 (.agg #[.string ⟨#[108, 116]⟩, .int .i64 60, .string ⟨#[103, 116]⟩, .int .i64 62, .string ⟨#[97, 109, 112]⟩, .int .i64 38, .string ⟨#[97, 112, 111, 115]⟩, .int .i64 39, .string ⟨#[113, 117, 111, 116]⟩, .int .i64 34]) (.int .i64 2)).run Tryz.prog w = .ok (.agg #[.string ⟨#[97, 109, 112]⟩, .int .i64 38]) w := fun _ => by kernel_rfl
  have ix3 : ∀ w : World, (Instr.index 153 (.agg #[.string ⟨#[108, 116]⟩, .int .i64 60, .string ⟨#[103, 116]⟩, .int .i64 62, .string ⟨#[97, 109, 112]⟩, .int .i64 38, .string ⟨#[97, 112, 111, 115]⟩, .int .i64 39, .string ⟨#[113, 117, 111, 116]⟩, .int .i64 34]) (.int .i64 3)).run Tryz.prog w = .ok (.agg #[.string ⟨#[97, 112, 111, 115]⟩, .int .i64 39]) w := fun _ => by kernel_rfl
  have ix4 : ∀ w : World, (Instr.index 153 (.agg #[.string ⟨#[108, 116]⟩, .int .i64 60, .string ⟨#[103, 116]⟩, .int .i64 62, .string ⟨#[97, 109, 112]⟩, .int .i64 38, .string ⟨#[97, 112, 111, 115]⟩, .int .i64 39, .string ⟨#[113, 117, 111, 116]⟩, .int .i64 34]) (.int .i64 4)).run Tryz.prog w = .ok (.agg #[.string ⟨#[113, 117, 111, 116]⟩, .int .i64 34]) w := fun _ => by kernel_rfl
  clear hb hu hi hu1 hld
  go_enter Tryz.func70, Tryz.ntmps70
  go_wp2
  go_loopg [7] (5) (fun g i wr => ∃ k : Nat, k ≤ 5 ∧ Hid (g + k = 5) ∧ i = .int .i64 k ∧ Hid (Below w.heap.size w wr) ∧ Hid (∀ j < k, ∀ x, [(⟨#[108, 116]⟩ : ByteArray), ⟨#[103, 116]⟩, ⟨#[97, 109, 112]⟩, ⟨#[97, 112, 111, 115]⟩, ⟨#[113, 117, 111, 116]⟩][j]? = some x → s ≠ x))
  case atStart => exact ⟨0, by omega, Lib.hid rfl, rfl, Lib.hid (Below.refl _ _), Lib.hid (fun j hj => absurd hj (Nat.not_lt_zero _))⟩
  case round =>
    obtain ⟨k, hk, hg, rfl, HB, HN⟩ := hrel
    have hfz : ∀ o b i, wr.heap.size = b → (wr.alloc o).frozen? ⟨b, i, none⟩ = (wr.alloc o).frozen? ⟨wr.heap.size, i, none⟩ := fun o b i e => by rw [e]
    clear hfz
    rcases (show k = 0 ∨ k = 1 ∨ k = 2 ∨ k = 3 ∨ k = 4 ∨ k = 5 by omega) with rfl | rfl | rfl | rfl | rfl | rfl
    · by_cases hs : s = ⟨#[108, 116]⟩
      · have HE : Hid (knownOf s = 60) := Lib.hid (by rw [hs]; decide +kernel)
        have HBA : Hid (Below w.heap.size w (wr.alloc (.cells #[.string ⟨#[108, 116]⟩, .int .i64 60] 152))) := Lib.hid (HB.out.alloc (by have := HB.out.size; omega) _)
        subst hs
        go_wp2
        go_ret2
        rw [HE.out]
        exact ⟨rfl, HBA.out⟩
      · have a0 : (s.toList == [108, 116]) = false := ba_ne2 s [108, 116] hs
        have a0' : ([108, 116] == s.toList) = false := by rw [← a0]; exact Bool.beq_comm
        have HBA : Hid (Below w.heap.size w (wr.alloc (.cells #[.string ⟨#[108, 116]⟩, .int .i64 60] 152))) := Lib.hid (HB.out.alloc (by have := HB.out.size; omega) _)
        have HS := Lib.hid hs
        clear hs
        go_wp2
        go_roundg (4)
        case measure => have := hg.out; omega
        case rel => exact ⟨1, by omega, Lib.hid (by omega), rfl, HBA, Lib.hid (fun j hj x hx => by
          rcases (show j < 0 ∨ j = 0 by omega) with h | rfl
          · exact HN.out j h x hx
          · simp at hx; rw [← hx]; exact HS.out)⟩
    · by_cases hs : s = ⟨#[103, 116]⟩
      · have HE : Hid (knownOf s = 62) := Lib.hid (by rw [hs]; decide +kernel)
        have HBA : Hid (Below w.heap.size w (wr.alloc (.cells #[.string ⟨#[103, 116]⟩, .int .i64 62] 152))) := Lib.hid (HB.out.alloc (by have := HB.out.size; omega) _)
        subst hs
        go_wp2
        go_ret2
        rw [HE.out]
        exact ⟨rfl, HBA.out⟩
      · have a1 : (s.toList == [103, 116]) = false := ba_ne2 s [103, 116] hs
        have a1' : ([103, 116] == s.toList) = false := by rw [← a1]; exact Bool.beq_comm
        have HBA : Hid (Below w.heap.size w (wr.alloc (.cells #[.string ⟨#[103, 116]⟩, .int .i64 62] 152))) := Lib.hid (HB.out.alloc (by have := HB.out.size; omega) _)
        have HS := Lib.hid hs
        clear hs
        go_wp2
        go_roundg (3)
        case measure => have := hg.out; omega
        case rel => exact ⟨2, by omega, Lib.hid (by omega), rfl, HBA, Lib.hid (fun j hj x hx => by
          rcases (show j < 1 ∨ j = 1 by omega) with h | rfl
          · exact HN.out j h x hx
          · simp at hx; rw [← hx]; exact HS.out)⟩
    · by_cases hs : s = ⟨#[97, 109, 112]⟩
      · have HE : Hid (knownOf s = 38) := Lib.hid (by rw [hs]; decide +kernel)
        have HBA : Hid (Below w.heap.size w (wr.alloc (.cells #[.string ⟨#[97, 109, 112]⟩, .int .i64 38] 152))) := Lib.hid (HB.out.alloc (by have := HB.out.size; omega) _)
        subst hs
        go_wp2
        go_ret2
        rw [HE.out]
        exact ⟨rfl, HBA.out⟩
      · have a2 : (s.toList == [97, 109, 112]) = false := ba_ne2 s [97, 109, 112] hs
        have a2' : ([97, 109, 112] == s.toList) = false := by rw [← a2]; exact Bool.beq_comm
        have HBA : Hid (Below w.heap.size w (wr.alloc (.cells #[.string ⟨#[97, 109, 112]⟩, .int .i64 38] 152))) := Lib.hid (HB.out.alloc (by have := HB.out.size; omega) _)
        have HS := Lib.hid hs
        clear hs
        go_wp2
        go_roundg (2)
        case measure => have := hg.out; omega
        case rel => exact ⟨3, by omega, Lib.hid (by omega), rfl, HBA, Lib.hid (fun j hj x hx => by
          rcases (show j < 2 ∨ j = 2 by omega) with h | rfl
          · exact HN.out j h x hx
          · simp at hx; rw [← hx]; exact HS.out)⟩
    · by_cases hs : s = ⟨#[97, 112, 111, 115]⟩
      · have HE : Hid (knownOf s = 39) := Lib.hid (by rw [hs]; decide +kernel)
        have HBA : Hid (Below w.heap.size w (wr.alloc (.cells #[.string ⟨#[97, 112, 111, 115]⟩, .int .i64 39] 152))) := Lib.hid (HB.out.alloc (by have := HB.out.size; omega) _)
        subst hs
        go_wp2
        go_ret2
        rw [HE.out]
        exact ⟨rfl, HBA.out⟩
      · have a3 : (s.toList == [97, 112, 111, 115]) = false := ba_ne2 s [97, 112, 111, 115] hs
        have a3' : ([97, 112, 111, 115] == s.toList) = false := by rw [← a3]; exact Bool.beq_comm
        have HBA : Hid (Below w.heap.size w (wr.alloc (.cells #[.string ⟨#[97, 112, 111, 115]⟩, .int .i64 39] 152))) := Lib.hid (HB.out.alloc (by have := HB.out.size; omega) _)
        have HS := Lib.hid hs
        clear hs
        go_wp2
        go_roundg (1)
        case measure => have := hg.out; omega
        case rel => exact ⟨4, by omega, Lib.hid (by omega), rfl, HBA, Lib.hid (fun j hj x hx => by
          rcases (show j < 3 ∨ j = 3 by omega) with h | rfl
          · exact HN.out j h x hx
          · simp at hx; rw [← hx]; exact HS.out)⟩
    · by_cases hs : s = ⟨#[113, 117, 111, 116]⟩
      · have HE : Hid (knownOf s = 34) := Lib.hid (by rw [hs]; decide +kernel)
        have HBA : Hid (Below w.heap.size w (wr.alloc (.cells #[.string ⟨#[113, 117, 111, 116]⟩, .int .i64 34] 152))) := Lib.hid (HB.out.alloc (by have := HB.out.size; omega) _)
        subst hs
        go_wp2
        go_ret2
        rw [HE.out]
        exact ⟨rfl, HBA.out⟩
      · have a4 : (s.toList == [113, 117, 111, 116]) = false := ba_ne2 s [113, 117, 111, 116] hs
        have a4' : ([113, 117, 111, 116] == s.toList) = false := by rw [← a4]; exact Bool.beq_comm
        have HBA : Hid (Below w.heap.size w (wr.alloc (.cells #[.string ⟨#[113, 117, 111, 116]⟩, .int .i64 34] 152))) := Lib.hid (HB.out.alloc (by have := HB.out.size; omega) _)
        have HS := Lib.hid hs
        clear hs
        go_wp2
        go_roundg (0)
        case measure => have := hg.out; omega
        case rel => exact ⟨5, by omega, Lib.hid (by omega), rfl, HBA, Lib.hid (fun j hj x hx => by
          rcases (show j < 4 ∨ j = 4 by omega) with h | rfl
          · exact HN.out j h x hx
          · simp at hx; rw [← hx]; exact HS.out)⟩
    · have HE : Hid (knownOf s = 0) := Lib.hid (by
        have n0 := HN.out 0 (by omega) _ rfl
        have n1 := HN.out 1 (by omega) _ rfl
        have n2 := HN.out 2 (by omega) _ rfl
        have n3 := HN.out 3 (by omega) _ rfl
        have n4 := HN.out 4 (by omega) _ rfl
        unfold knownOf
        rw [if_neg n0, if_neg n1, if_neg n2, if_neg n3, if_neg n4])
      go_wp2
      go_ret2
      rw [HE.out]
      exact ⟨rfl, HB.out⟩
end Go.Proofs.YtfemfgkcgboopaaGreatDoor
/- What the shelf of contracts says of a builder's string. -/
namespace Go.Proofs
open Go.Shelf
def Tryz.lays169_ren : Go.Shelf.Ren := ⟨fun | 169 => 28 | n => n, fun | 70 => 64 | 9 => 9 | 0 => 0 | 72 => 67 | 37 => 65 | 127 => 109 | 3 => 3 | 5 => 5 | n => n, fun | n => n⟩
theorem Tryz.lays169 : Go.Proofs.Lays.n169 Tryz.prog Tryz.lays169_ren := {
  mixed := by kernel_rfl
  f169 := Tryz.func28.trans (congrArg some (by kernel_rfl))
  t0 := Tryz.underlying0
  a0 := Tryz.isAgg0
  z0 := Tryz.sizeOf0
  v0 := Tryz.zeroValue0
  t3 := Tryz.underlying3
  a3 := Tryz.isAgg3
  z3 := Tryz.sizeOf3
  v3 := Tryz.zeroValue3
  t9 := Tryz.underlying9
  a9 := Tryz.isAgg9
  z9 := Tryz.sizeOf9
  v9 := Tryz.zeroValue9
  t37 := Tryz.underlying65
  a37 := Tryz.isAgg65
  z37 := Tryz.sizeOf65
  v37 := Tryz.zeroValue65
  t70 := Tryz.underlying64
  a70 := Tryz.isAgg64
  z70 := Tryz.sizeOf64
  v70 := Tryz.zeroValue64
  t72 := Tryz.underlying67
  a72 := Tryz.isAgg67
  z72 := Tryz.sizeOf67
  v72 := Tryz.zeroValue67
  t127 := Tryz.underlying109
  a127 := Tryz.isAgg109
  z127 := Tryz.sizeOf109
  v127 := Tryz.zeroValue109 }
theorem Tryz.Builder_Extra_169 : Builder.Extra Tryz.prog Tryz.lays169_ren := {
  sizeBuilder := by kernel_rfl
  liesBuilder := by kernel_rfl
  t5 := Tryz.underlying5
  a5 := Tryz.isAgg5
  z5 := Tryz.sizeOf5
  v5 := Tryz.zeroValue5
  infoByte := by kernel_rfl
  cellsByte := by kernel_rfl
  sizeByte := by kernel_rfl
  neB5 := by decide }
open Go.RowKit in
/-- (*strings.Builder).String: "String returns the accumulated string.": WHATEVER THE BUILDER HOLDS. (LAID: no walk: one application.) -/
theorem Tryz.Builder_String_any (B b : Nat) (l : List UInt8) (w : World) (h : Lib.IsBuilder 67 5 B b (Lib.byteCells l) w) (hBw : B ≤ w.heap.size) :
    Calls Tryz.prog 28 #[.pointer (some ⟨b, 0, none⟩)] w fun e w' => e = .returned (.string ⟨l.toArray⟩) ∧ Below B w w' := Any.Builder_String_any Tryz.lays169 Tryz.Builder_Extra_169 B b l w h hBw
end Go.Proofs
/- strings.Builder: what its methods do to a builder that the call has made. -/
namespace Go.Proofs.YtfemfgkcgboopaaGreatDoor
open Go.ChangeShapes Go.WideShapes Go.ChangeAt Go.RowKit
set_option linter.unusedVariables false
/-- A strings.Builder that the call has made, in block b, that holds the bytes l; its row of bytes lies at R or behind; p: what 'addr' holds. -/
def BldP (p : Value) (R b : Nat) (l : List UInt8) (w : World) : Prop :=
  b < R ∧ ∃ v, w.heap[b]? = some (.cells #[p, v] 67 (0, 0)) ∧ w.ownsRow R 5 1 v l.length (Lib.byteCells l)
/-- .. fresh or used. -/
def Bld (R b : Nat) (l : List UInt8) (w : World) : Prop := BldP (.pointer none) R b l w ∨ BldP (.pointer (some ⟨b, 0, none⟩)) R b l w
/-- Below R every block but b stands. -/
structure Fr (R b : Nat) (w w' : World) : Prop where
  os : w'.os = w.os
  tape : w'.tape = w.tape
  output : w'.output = w.output
  size : w.heap.size ≤ w'.heap.size
  block : ∀ k, k < R → k ≠ b → w'.heap[k]? = w.heap[k]?
theorem Fr.refl (R b : Nat) (w : World) : Fr R b w w := ⟨rfl, rfl, rfl, Nat.le_refl _, fun _ _ _ => rfl⟩
theorem Fr.trans {R b : Nat} {x y z : World} (h : Fr R b x y) (k : Fr R b y z) : Fr R b x z :=
  ⟨k.os.trans h.os, k.tape.trans h.tape, k.output.trans h.output, Nat.le_trans h.size k.size, fun i hi hb => (k.block i hi hb).trans (h.block i hi hb)⟩
theorem Fr.below {R b B : Nat} {w w' : World} (h : Fr R b w w') (hR : B ≤ R) (hb : B ≤ b) : Below B w w' := ⟨h.os, h.tape, h.output, h.size, fun k hk => h.block k (by omega) (by omega)⟩
theorem Fr.mono {R R' b : Nat} {w w' : World} (h : Fr R b w w') (hR : R' ≤ R) : Fr R' b w w' := ⟨h.os, h.tape, h.output, h.size, fun k hk hb => h.block k (by omega) hb⟩
theorem Fr.set {R b : Nat} {w w' : World} (h : Fr R b w w') (i : Nat) (v : Value) : Fr R b w (w'.setCell ⟨b, i, none⟩ v) :=
  ⟨h.os, h.tape, h.output, by have := h.size; simpa [World.setCell] using this, fun k hk hb => by rw [hp_other hb]; exact h.block k hk hb⟩
theorem ownsRow_base {w : World} {B B' : Nat} {e : TypeId} {c : Nat} {v : Value} {n : Nat} {xs : List Value} (h : w.ownsRow B e c v n xs) (hB : B' ≤ B) : w.ownsRow B' e c v n xs := by
  obtain ⟨hl, h2 | ⟨g, cap, cur, hv, hg, r⟩⟩ := h
  · exact ⟨hl, Or.inl h2⟩
  · exact ⟨hl, Or.inr ⟨g, cap, cur, hv, by omega, r⟩⟩
theorem Bld.p {R b : Nat} {l : List UInt8} {w : World} (h : Bld R b l w) : ∃ p, BldP p R b l w := by
  rcases h with h | h
  · exact ⟨_, h⟩
  · exact ⟨_, h⟩
theorem Bld.lt {R b : Nat} {l : List UInt8} {w : World} (h : Bld R b l w) : b < w.heap.size := by
  obtain ⟨p, hb, v, hh, ho⟩ := h.p
  exact lt_of hh
theorem BldP.alloc {p : Value} {R b : Nat} {l : List UInt8} {w : World} (h : BldP p R b l w) (o : Obj) : BldP p R b l (w.alloc o) := by
  obtain ⟨hb, v, hh, ho⟩ := h
  exact ⟨hb, v, hp_old hh, ho.alloc _⟩
theorem Bld.alloc {R b : Nat} {l : List UInt8} {w : World} (h : Bld R b l w) (o : Obj) : Bld R b l (w.alloc o) := by
  rcases h with h | h
  · exact Or.inl (h.alloc o)
  · exact Or.inr (h.alloc o)
theorem Bld.drewN {R b : Nat} {l : List UInt8} {w : World} (h : Bld R b l w) (n : Nat) : Bld R b l (w.drewN n) := h
/-- Below the heap's size every block stands: so does the builder. -/
theorem BldP.kept {p : Value} {R b : Nat} {l : List UInt8} {w w' : World} (h : BldP p R b l w) (hb : Below w.heap.size w w') : BldP p R b l w' := by
  obtain ⟨hb', v, hh, ho⟩ := h
  refine ⟨hb', v, (hb.block b (lt_of hh)).trans hh, ho.kept (row := none) (hb.gr none) ?_⟩
  cases hv : v.ownBlock with
  | none => exact Or.inl rfl
  | some k => exact Or.inr (by simp)
theorem Bld.kept {R b : Nat} {l : List UInt8} {w w' : World} (h : Bld R b l w) (hb : Below w.heap.size w w') : Bld R b l w' := by
  rcases h with h | h
  · exact Or.inl (h.kept hb)
  · exact Or.inr (h.kept hb)
theorem Bld.fresh (R : Nat) (w : World) (hR : w.heap.size < R) : Bld R w.heap.size [] (w.alloc (.cells #[.pointer none, .slice none 0 0] 67)) :=
  Or.inl ⟨hR, .slice none 0 0, hp_new w _, World.ownsRow_nil _ _ _ _⟩
theorem Bld.is {R b : Nat} {l : List UInt8} {w : World} (h : Bld R b l w) : Lib.IsBuilder 67 5 b b (Lib.byteCells l) w := by
  have aux : ∀ p, BldP p R b l w → Lib.BuilderAt 67 5 b b p (Lib.byteCells l) w := by
    rintro p ⟨hb, v, hh, ho⟩
    refine ⟨Nat.le_refl _, v, hh, ?_, ?_⟩
    · rw [Lib.byteCells_length]; exact ownsRow_base ho (by omega)
    · intro e
      have := (ho.lt b e).1
      omega
  rcases h with h | h
  · exact Or.inl (aux _ h)
  · exact Or.inr (aux _ h)
theorem sizeBuilder : (Tryz.prog.info? 67).map (·.size) = some 2 := by kernel_rfl
theorem liesBuilder : liesAt Tryz.prog Tryz.prog.depth 67 (2 / Tryz.prog.cellsOf 67) 0 67 1 = true := by kernel_rfl
set_option maxHeartbeats 2000000 in
set_option maxRecDepth 100000 in
theorem copyCheck_used (b : Nat) (w : World) (h0 : w.cell? ⟨b, 0, none⟩ = some (.pointer (some ⟨b, 0, none⟩))) :
    Calls Tryz.prog 72 #[.pointer (some ⟨b, 0, none⟩)] w fun e w' => e = .returned (.tuple #[]) ∧ w' = w := by
  obtain ⟨j, hj, _⟩ := Option.map_eq_some_iff.1 sizeBuilder
  go_enter Tryz.func72, Tryz.ntmps72
  go_wp2
  rw [Lib.run_neq_ptr_same w _ Tryz.underlying64 hj]
  go_wp2
  go_end0
  exact ⟨rfl, rfl⟩
set_option maxHeartbeats 2000000 in
set_option maxRecDepth 100000 in
theorem copyCheck_fresh (b : Nat) (w : World) (h0 : w.cell? ⟨b, 0, none⟩ = some (.pointer none)) (hsh : w.shape? b = some (67, 2)) (hfz : w.frozen? ⟨b, 0, none⟩ = false) :
    Calls Tryz.prog 72 #[.pointer (some ⟨b, 0, none⟩)] w fun e w' => e = .returned (.tuple #[]) ∧ w' = w.setCell ⟨b, 0, none⟩ (.pointer (some ⟨b, 0, none⟩)) := by
  obtain ⟨j, hj, hjs⟩ := Option.map_eq_some_iff.1 sizeBuilder
  go_enter Tryz.func72, Tryz.ntmps72
  go_wp2
  rw [Lib.run_to_unsafe w ⟨b, 0, none⟩ Tryz.underlying64 Tryz.underlying155 hj (by rw [hjs]; decide) hsh (Nat.zero_lt_succ 1)]
  simp only [Result.andThen]
  rw [Oper.upon_value]
  go_wp2
  rw [run_callFunc_extern Tryz.func94 (by kernel_rfl) (by kernel_rfl) (by kernel_rfl) (e := Extern.AbiNoEscape.same) (by kernel_rfl)]
  rw [Lib.run_noEscape]
  simp only [Result.andThen]
  rw [Oper.upon_value]
  go_wp2
  rw [Lib.run_from_unsafe w ⟨b, 0, none⟩ Tryz.underlying155 Tryz.underlying64 hj hsh liesBuilder]
  simp only [Result.andThen]
  rw [Oper.upon_value]
  go_wp2
  go_end0
  exact ⟨rfl, rfl⟩
/-- (*strings.Builder).copyCheck: behind it the builder is used. -/
theorem copyCheck_b (R b : Nat) (l : List UInt8) (w : World) (h : Bld R b l w) :
    Calls Tryz.prog 72 #[.pointer (some ⟨b, 0, none⟩)] w fun e w' => e = .returned (.tuple #[]) ∧ BldP (.pointer (some ⟨b, 0, none⟩)) R b l w' ∧ Fr R b w w' := by
  rcases h with ⟨hb, v, hh, ho⟩ | h
  · refine (copyCheck_fresh b w (by rw [cell_of 0 hh]; rfl) (by simp [World.shape?, hh]) (free_of 0 hh)).mono ?_
    rintro e w' ⟨rfl, rfl⟩
    refine ⟨rfl, ⟨hb, v, ?_, ?_⟩, (Fr.refl R b w).set 0 _⟩
    · rw [hp_set hh]; rfl
    · refine ho.kept (row := some b) ((gr_refl w (some b)).setCell 0 _) (Or.inr ?_)
      intro e
      have := (ho.lt b e).1
      omega
  · obtain ⟨hb, v, hh, ho⟩ := h
    refine (copyCheck_used b w (by rw [cell_of 0 hh]; rfl)).mono ?_
    rintro e w' ⟨rfl, rfl⟩
    exact ⟨rfl, ⟨hb, v, hh, ho⟩, Fr.refl R b _⟩
theorem byteCells_snoc (l : List UInt8) (c : UInt8) : Lib.byteCells l ++ [.int .u8 (c.toNat : Int)] = Lib.byteCells (l ++ [c]) := by simp [Lib.byteCells]
set_option maxHeartbeats 4000000 in
set_option maxRecDepth 100000 in
/-- (*strings.Builder).WriteByte. -/
theorem writeByte_b (R b : Nat) (l : List UInt8) (c : UInt8) (w : World) (h : Bld R b l w) (hlen : l.length + 1 ≤ 140737488355328) (hRw : R ≤ w.heap.size) :
    Calls Tryz.prog 48 #[.pointer (some ⟨b, 0, none⟩), .int .u8 c.toNat] w fun e w' => e = .returned .nilIface ∧ Bld R b (l ++ [c]) w' ∧ Fr R b w w' := by
  obtain ⟨i0, hi, hz0, hz1, hz2⟩ := info_parts (show (Tryz.prog.info? 5).map (fun i => (i.zero, i.size, i.bytes)) = some (some (.int .u8 0), 1, 1) by kernel_rfl)
  have hsn := byteCells_snoc l c
  have HSN := Lib.hid hsn
  clear hsn
  generalize (c.toNat : Int) = cn at *
  go_enter Tryz.func48, Tryz.ntmps48
  go_wp2_with fail
  refine (copyCheck_b R b l _ h).mono ?_
  rintro e w1 ⟨rfl, ⟨hbR, v, hbk, hown⟩, hf1⟩
  have c0 : w1.cell? ⟨b, 0, none⟩ = some (.pointer (some ⟨b, 0, none⟩)) := by rw [cell_of 0 hbk]; rfl
  have c1 : w1.cell? ⟨b, 1, none⟩ = some v := by rw [cell_of 1 hbk]; rfl
  have hs1 := hf1.size
  go_wp2_with (at_builtin; refine wpList_append_own _ rfl _ _ 65 rfl R 5 i0 (.int .u8 0) 1 1 Tryz.underlying65 hi hz0 hz1 hz2 rfl (by decide) _ _ _ rfl (hown.alloc _) ⟨w1.heap.size, 0, none⟩ 1 1 [.int .u8 cn] rfl rfl ?c1 ?c2 ?c3 ?c4 ?c5 ?_)
  case c1 =>
    intro j u hj
    match j, hj with
    | 0, hj => simp at hj; subst hj; simp [Addr.add]
  case c2 => intro u hu; simp at hu; subst hu; rfl
  case c3 => unfold maxLen; omega
  case c4 => omega
  case c5 => simp; omega
  intro v' w2 hown' hgrow _
  have hlt : b < w1.heap.size := lt_of hbk
  have hne : some b ≠ v.ownBlock := by
    intro e
    have := (hown.lt b e.symm).1
    omega
  have hb2 : w2.heap[b]? = some (.cells #[.pointer (some ⟨b, 0, none⟩), v] 67 (0, 0)) := by
    rw [hgrow.block b (by simp; omega) hne]
    exact hp_old hbk
  have d0 : w2.cell? ⟨b, 0, none⟩ = some (.pointer (some ⟨b, 0, none⟩)) := by rw [cell_of 0 hb2]; rfl
  have d1 : w2.cell? ⟨b, 1, none⟩ = some v := by rw [cell_of 1 hb2]; rfl
  have f1 : w2.frozen? ⟨b, 1, none⟩ = false := free_of 1 hb2
  have hF2 : Fr R b w w2 := hf1.trans ⟨hgrow.os, hgrow.tape, hgrow.output, by have := hgrow.size; simp at this; omega, fun k hk hkb => by
    rw [hgrow.block k (by simp; omega) (fun e => by have := (hown.lt k e.symm).1; omega)]
    exact Below.heap_alloc _ _ _ (by omega)⟩
  obtain ⟨g, cap, rfl⟩ : ∃ g cap, v' = .slice (some ⟨g, 0, none⟩) (l.length + 1) cap := by
    rcases hown'.2 with ⟨_, h0⟩ | ⟨g, cap, cur, hv, _⟩
    · omega
    · exact ⟨g, cap, hv⟩
  have HF2 := Lib.hid hF2
  have HO := Lib.hid hown'
  clear hF2 hown' hgrow hown h hf1 hbk
  go_wp2
  go_ret
  refine ⟨rfl, Or.inr ⟨hbR, _, by rw [hp_set hb2]; rfl, ?_⟩, HF2.out.set 1 _⟩
  have ho2 := HO.out
  rw [HSN.out] at ho2
  rw [List.length_append]
  refine ho2.kept (row := some b) ((gr_refl w2 (some b)).setCell 1 _) (Or.inr ?_)
  intro e
  have := (ho2.lt b e).1
  omega
set_option maxHeartbeats 4000000 in
set_option maxRecDepth 100000 in
/-- (*strings.Builder).WriteString. -/
theorem writeString_b (R b : Nat) (l s : List UInt8) (w : World) (h : Bld R b l w) (hlen : l.length + s.length ≤ 140737488355328) (hRw : R ≤ w.heap.size) :
    Calls Tryz.prog 55 #[.pointer (some ⟨b, 0, none⟩), .string ⟨s.toArray⟩] w fun e w' => e = .returned (.tuple #[.int .i64 s.length, .nilIface]) ∧ Bld R b (l ++ s) w' ∧ Fr R b w w' := by
  obtain ⟨i0, hi, hz0, hz1, hz2⟩ := info_parts (show (Tryz.prog.info? 5).map (fun i => (i.zero, i.size, i.bytes)) = some (some (.int .u8 0), 1, 1) by kernel_rfl)
  have hss : (⟨s.toArray⟩ : ByteArray).size = s.length := by simp [ByteArray.size]
  have HSS := Lib.hid hss
  have hsc : Lib.strCells ⟨s.toArray⟩ = Lib.byteCells s := by simp [Lib.strCells, Lib.byteCells]
  have HSC := Lib.hid hsc
  have hle : (⟨s.toArray⟩ : ByteArray).size + l.length ≤ 140737488355328 := by omega
  have hsn : Lib.byteCells l ++ Lib.byteCells s = Lib.byteCells (l ++ s) := by simp [Lib.byteCells]
  have HSN := Lib.hid hsn
  rw [← hss]
  clear hss hsn hsc hlen
  generalize (⟨s.toArray⟩ : ByteArray) = sa at *
  go_enter Tryz.func55, Tryz.ntmps55
  go_wp2_with fail
  refine (copyCheck_b R b l _ h).mono ?_
  rintro e w1 ⟨rfl, ⟨hbR, v, hbk, hown⟩, hf1⟩
  have c0 : w1.cell? ⟨b, 0, none⟩ = some (.pointer (some ⟨b, 0, none⟩)) := by rw [cell_of 0 hbk]; rfl
  have c1 : w1.cell? ⟨b, 1, none⟩ = some v := by rw [cell_of 1 hbk]; rfl
  have hs1 := hf1.size
  go_wp2_with (at_builtin; refine Lib.wpList_append_own_string _ rfl _ _ 65 9 rfl R 5 i0 Tryz.underlying65 Tryz.underlying9 hi hz0 hz1 hz2 _ _ _ rfl hown sa rfl ?c3 ?c4 ?c5 ?_)
  case c3 => unfold maxLen; omega
  case c4 => omega
  case c5 => omega
  intro v' w2 hown' hgrow _
  have hlt : b < w1.heap.size := lt_of hbk
  have hne : some b ≠ v.ownBlock := by
    intro e
    have := (hown.lt b e.symm).1
    omega
  have hb2 : w2.heap[b]? = some (.cells #[.pointer (some ⟨b, 0, none⟩), v] 67 (0, 0)) := by
    rw [hgrow.block b hlt hne]
    exact hbk
  have d0 : w2.cell? ⟨b, 0, none⟩ = some (.pointer (some ⟨b, 0, none⟩)) := by rw [cell_of 0 hb2]; rfl
  have d1 : w2.cell? ⟨b, 1, none⟩ = some v := by rw [cell_of 1 hb2]; rfl
  have f1 : w2.frozen? ⟨b, 1, none⟩ = false := free_of 1 hb2
  have hF2 : Fr R b w w2 := hf1.trans ⟨hgrow.os, hgrow.tape, hgrow.output, hgrow.size, fun k hk hkb => hgrow.block k (by omega) (fun e => by have := (hown.lt k e.symm).1; omega)⟩
  obtain ⟨ao, n', cap, rfl⟩ : ∃ ao n' cap, v' = .slice ao n' cap := by
    rcases hown'.2 with ⟨hv, _⟩ | ⟨g, cap, cur, hv, _⟩
    · exact ⟨_, _, _, hv⟩
    · exact ⟨_, _, _, hv⟩
  have HF2 := Lib.hid hF2
  have HO := Lib.hid hown'
  clear hF2 hown' hgrow hown h hf1 hbk
  go_wp2
  go_ret2
  refine ⟨rfl, Or.inr ⟨hbR, _, by rw [hp_set hb2]; rfl, ?_⟩, HF2.out.set 1 _⟩
  have ho2 := HO.out
  rw [HSC.out, HSN.out, HSS.out] at ho2
  rw [List.length_append]
  refine ho2.kept (row := some b) ((gr_refl w2 (some b)).setCell 1 _) (Or.inr ?_)
  intro e
  have := (ho2.lt b e).1
  omega
/-- (*strings.Builder).String. -/
theorem string_b (R b : Nat) (l : List UInt8) (w : World) (h : Bld R b l w) :
    Calls Tryz.prog 28 #[.pointer (some ⟨b, 0, none⟩)] w fun e w' => e = .returned (.string ⟨l.toArray⟩) ∧ Below b w w' := Tryz.Builder_String_any b b l w h.is (by have := h.lt; omega)
end Go.Proofs.YtfemfgkcgboopaaGreatDoor
