/- Texts of ours, joined: CnO, CnF, CnU, CnR, RpC. -/
import Derived.Test.YthihkbcdihochaaGreatDoorRows
import Derived.WalkKit
import Derived.ProofKit
import Derived.OpenShut
import Derived.ShutString
import Derived.ChangeOld
import Derived.Below
import Derived.BigQuiet
import Derived.Deep.QuietTactic
import Derived.Lib.Hide
import Derived.Deep.RegionHeld3
import Derived.Lib.SlBytesConst
import Derived.Laws.CopyOwn
import Derived.Laws.CopyRow
import Derived.Lib.Bytes
import Derived.Deep.LoopGhost
import Derived.Deep.DeepFit
import Derived.Deep.DeepMust
import Derived.WalkSpells
import Derived.WalkLawsBesides
import Derived.Maps.OwnOps
import Derived.Maps.OwnSet
import Derived.Maps.Views
import Derived.Laws.EntriesVeiled
import Derived.Laws.Rows
import Derived.Maps.AppendAt
import Derived.Lib.SmallJoins
import Derived.Deep.AppendLies
import Derived.DeepKeys4
import Derived.MapViews
import Derived.Maps.Keyed
import Derived.Carry
import Derived.Lib.ItoaNum
import Derived.Lib.AppendIntMem
import Derived.Deep.RegionWith
import Derived.Test.YthihkbcdihochaaGreatDoorC1
import Derived.Test.YthihkbcdihochaaGreatDoorC2
import Derived.Test.YthihkbcdihochaaGreatDoorC5
import Derived.Test.YthihkbcdihochaaGreatDoorC6
import Derived.Test.YthihkbcdihochaaGreatDoorC7
/- canon.One. -/
namespace Go.Proofs.YthihkbcdihochaaGreatDoor
open Go.ChangeShapes Go.WideShapes Go.ChangeAt Go.RowKit
set_option linter.unusedVariables false
set_option maxRecDepth 100000 in
set_option maxHeartbeats 8000000 in
theorem cnOne_end (sp lo tx space : List UInt8) (A : Option Addr) (n cap : Nat) (w : World) (h1 : sp.length ≤ 5000) (h2 : lo.length ≤ 5000) (h3 : tx.length ≤ 5000) (h4 : space.length ≤ 5000) :
    Calls Tryz.prog 17 #[.agg #[.int .i64 2, .string ⟨sp.toArray⟩, .string ⟨lo.toArray⟩, .slice A n cap, .string ⟨tx.toArray⟩], .string ⟨space.toArray⟩] w fun e w' => e = .returned (.tuple #[.string ⟨([60, 47] ++ elemL sp lo ++ [62]).toArray⟩, .string ⟨space.toArray⟩]) ∧ Below w.heap.size w w' := by
  have J0 := Lib.hid (CJ.start 41 w #[.int .i64 2, .string ⟨sp.toArray⟩, .string ⟨lo.toArray⟩, .slice A n cap, .string ⟨tx.toArray⟩])
  have z0 := cell_of 0 J0.out.2
  have z1 := cell_of 1 J0.out.2
  have z2 := cell_of 2 J0.out.2
  have z3 := cell_of 3 J0.out.2
  have z4 := cell_of 4 J0.out.2
  have C1 := Lib.hid (cnElem_c sp lo (w.alloc (.cells #[.int .i64 2, .string ⟨sp.toArray⟩, .string ⟨lo.toArray⟩, .slice A n cap, .string ⟨tx.toArray⟩] 41)) (by omega))
  have hl : (elemL sp lo).length ≤ 5004 := by
    unfold elemL
    split
    · simp
      omega
    · omega
  obtain ⟨E, hE⟩ : ∃ q, elemL sp lo = q := ⟨_, rfl⟩
  rw [hE] at C1 hl ⊢
  have p1 : ∀ w : World, (Op.stringOp .add ⟨#[60, 47]⟩ ⟨E.toArray⟩).run Tryz.prog w = .ok (.string ⟨([60, 47] ++ E).toArray⟩) w := fun w => run_sop (w := w) [60, 47] E (by simp; omega)
  have p2 : ∀ w : World, (Op.stringOp .add ⟨([60, 47] ++ E).toArray⟩ ⟨#[62]⟩).run Tryz.prog w = .ok (.string ⟨(([60, 47] ++ E) ++ [62]).toArray⟩) w := fun w => run_sop (w := w) ([60, 47] ++ E) [62] (by simp; omega)
  obtain ⟨X2, hX2⟩ : ∃ q, [60, 47] ++ E ++ [62] = q := ⟨_, rfl⟩
  obtain ⟨X1, hX1⟩ : ∃ q, [60, 47] ++ E = q := ⟨_, rfl⟩
  rw [hX2] at p2 ⊢
  rw [hX1] at p1 p2
  clear hE hX2 hX1 hl h1 h2 h3 h4
  go_enter Tryz.func17, Tryz.ntmps17
  go_wp2_with fail
  refine C1.out.mono ?_
  rintro e w1 ⟨rfl, hb⟩
  have HB := Lib.hid (J0.out.1.trans (hb.mono J0.out.1.size))
  clear hb
  go_wp2
  go_ret2
  exact ⟨rfl, HB.out⟩
set_option maxRecDepth 100000 in
set_option maxHeartbeats 8000000 in
theorem cnOne_text (sp lo tx space : List UInt8) (A : Option Addr) (n cap : Nat) (w : World) (h1 : sp.length ≤ 5000) (h2 : lo.length ≤ 5000) (h3 : tx.length ≤ 5000) (h4 : space.length ≤ 5000) :
    Calls Tryz.prog 17 #[.agg #[.int .i64 3, .string ⟨sp.toArray⟩, .string ⟨lo.toArray⟩, .slice A n cap, .string ⟨tx.toArray⟩], .string ⟨space.toArray⟩] w fun e w' => e = .returned (.tuple #[.string ⟨(esc tx).toArray⟩, .string ⟨space.toArray⟩]) ∧ Below w.heap.size w w' := by
  have J0 := Lib.hid (CJ.start 41 w #[.int .i64 3, .string ⟨sp.toArray⟩, .string ⟨lo.toArray⟩, .slice A n cap, .string ⟨tx.toArray⟩])
  have z0 := cell_of 0 J0.out.2
  have z1 := cell_of 1 J0.out.2
  have z2 := cell_of 2 J0.out.2
  have z3 := cell_of 3 J0.out.2
  have z4 := cell_of 4 J0.out.2
  have C1 := Lib.hid (escape_c tx (w.alloc (.cells #[.int .i64 3, .string ⟨sp.toArray⟩, .string ⟨lo.toArray⟩, .slice A n cap, .string ⟨tx.toArray⟩] 41)) (by omega))
  obtain ⟨E, hE⟩ : ∃ q, esc tx = q := ⟨_, rfl⟩
  rw [hE] at C1 ⊢
  clear hE h1 h2 h3 h4
  go_enter Tryz.func17, Tryz.ntmps17
  go_wp2_with fail
  refine C1.out.mono ?_
  rintro e w1 ⟨rfl, hb⟩
  have HB := Lib.hid (J0.out.1.trans (hb.mono J0.out.1.size))
  clear hb
  go_wp2
  go_ret2
  exact ⟨rfl, HB.out⟩
set_option maxRecDepth 100000 in
set_option maxHeartbeats 8000000 in
theorem cnOne_comment (sp lo tx space : List UInt8) (A : Option Addr) (n cap : Nat) (w : World) (h1 : sp.length ≤ 5000) (h2 : lo.length ≤ 5000) (h3 : tx.length ≤ 5000) (h4 : space.length ≤ 5000) :
    Calls Tryz.prog 17 #[.agg #[.int .i64 5, .string ⟨sp.toArray⟩, .string ⟨lo.toArray⟩, .slice A n cap, .string ⟨tx.toArray⟩], .string ⟨space.toArray⟩] w fun e w' => e = .returned (.tuple #[.string ⟨([60, 33, 45, 45] ++ tx ++ [45, 45, 62]).toArray⟩, .string ⟨space.toArray⟩]) ∧ Below w.heap.size w w' := by
  have J0 := Lib.hid (CJ.start 41 w #[.int .i64 5, .string ⟨sp.toArray⟩, .string ⟨lo.toArray⟩, .slice A n cap, .string ⟨tx.toArray⟩])
  have z0 := cell_of 0 J0.out.2
  have z1 := cell_of 1 J0.out.2
  have z2 := cell_of 2 J0.out.2
  have z3 := cell_of 3 J0.out.2
  have z4 := cell_of 4 J0.out.2
  have p1 : ∀ w : World, (Op.stringOp .add ⟨#[60, 33, 45, 45]⟩ ⟨tx.toArray⟩).run Tryz.prog w = .ok (.string ⟨([60, 33, 45, 45] ++ tx).toArray⟩) w := fun w => run_sop (w := w) [60, 33, 45, 45] tx (by simp; omega)
  have p2 : ∀ w : World, (Op.stringOp .add ⟨([60, 33, 45, 45] ++ tx).toArray⟩ ⟨#[45, 45, 62]⟩).run Tryz.prog w = .ok (.string ⟨(([60, 33, 45, 45] ++ tx) ++ [45, 45, 62]).toArray⟩) w := fun w => run_sop (w := w) ([60, 33, 45, 45] ++ tx) [45, 45, 62] (by simp; omega)
  obtain ⟨X2, hX2⟩ : ∃ q, [60, 33, 45, 45] ++ tx ++ [45, 45, 62] = q := ⟨_, rfl⟩
  obtain ⟨X1, hX1⟩ : ∃ q, [60, 33, 45, 45] ++ tx = q := ⟨_, rfl⟩
  rw [hX2] at p2 ⊢
  rw [hX1] at p1 p2
  clear hX2 hX1 h1 h2 h3 h4
  go_enter Tryz.func17, Tryz.ntmps17
  go_wp2
  go_ret2
  exact ⟨rfl, J0.out.1⟩
set_option maxRecDepth 100000 in
set_option maxHeartbeats 8000000 in
theorem cnOne_pi (sp lo tx space : List UInt8) (A : Option Addr) (n cap : Nat) (w : World) (h1 : sp.length ≤ 5000) (h2 : lo.length ≤ 5000) (h3 : tx.length ≤ 5000) (h4 : space.length ≤ 5000) :
    Calls Tryz.prog 17 #[.agg #[.int .i64 4, .string ⟨sp.toArray⟩, .string ⟨lo.toArray⟩, .slice A n cap, .string ⟨tx.toArray⟩], .string ⟨space.toArray⟩] w fun e w' => e = .returned (.tuple #[.string ⟨([60, 63] ++ lo ++ (if tx = [] then [] else [32] ++ tx) ++ [63, 62]).toArray⟩, .string ⟨space.toArray⟩]) ∧ Below w.heap.size w w' := by
  have J0 := Lib.hid (CJ.start 41 w #[.int .i64 4, .string ⟨sp.toArray⟩, .string ⟨lo.toArray⟩, .slice A n cap, .string ⟨tx.toArray⟩])
  have z0 := cell_of 0 J0.out.2
  have z1 := cell_of 1 J0.out.2
  have z2 := cell_of 2 J0.out.2
  have z3 := cell_of 3 J0.out.2
  have z4 := cell_of 4 J0.out.2
  cases tx with
  | nil =>
    have p1 : ∀ w : World, (Op.stringOp .add ⟨#[60, 63]⟩ ⟨lo.toArray⟩).run Tryz.prog w = .ok (.string ⟨([60, 63] ++ lo).toArray⟩) w := fun w => run_sop (w := w) [60, 63] lo (by simp; omega)
    have p2 : ∀ w : World, (Op.stringOp .add ⟨([60, 63] ++ lo).toArray⟩ ⟨#[]⟩).run Tryz.prog w = .ok (.string ⟨([60, 63] ++ lo).toArray⟩) w := fun w => by have := run_sop (w := w) ([60, 63] ++ lo) [] (by simp; omega); simpa using this
    have p3 : ∀ w : World, (Op.stringOp .add ⟨([60, 63] ++ lo).toArray⟩ ⟨#[63, 62]⟩).run Tryz.prog w = .ok (.string ⟨([60, 63] ++ lo ++ [63, 62]).toArray⟩) w := fun w => run_sop (w := w) ([60, 63] ++ lo) [63, 62] (by simp; omega)
    rw [if_pos rfl, List.append_nil]
    obtain ⟨X2, hX2⟩ : ∃ q, [60, 63] ++ lo ++ [63, 62] = q := ⟨_, rfl⟩
    obtain ⟨X1, hX1⟩ : ∃ q, [60, 63] ++ lo = q := ⟨_, rfl⟩
    rw [hX2] at p3 ⊢
    rw [hX1] at p1 p2 p3
    clear hX2 hX1 h1 h2 h3 h4
    go_enter Tryz.func17, Tryz.ntmps17
    go_wp2
    go_ret2
    exact ⟨rfl, J0.out.1⟩
  | cons t0 tl =>
    have p0 : ∀ w : World, (Op.stringOp .add ⟨#[32]⟩ ⟨(t0 :: tl).toArray⟩).run Tryz.prog w = .ok (.string ⟨([32] ++ (t0 :: tl)).toArray⟩) w := fun w => run_sop (w := w) [32] (t0 :: tl) (by simp at h3 ⊢; omega)
    have p1 : ∀ w : World, (Op.stringOp .add ⟨#[60, 63]⟩ ⟨lo.toArray⟩).run Tryz.prog w = .ok (.string ⟨([60, 63] ++ lo).toArray⟩) w := fun w => run_sop (w := w) [60, 63] lo (by simp; omega)
    have p2 : ∀ w : World, (Op.stringOp .add ⟨([60, 63] ++ lo).toArray⟩ ⟨([32] ++ (t0 :: tl)).toArray⟩).run Tryz.prog w = .ok (.string ⟨([60, 63] ++ lo ++ ([32] ++ (t0 :: tl))).toArray⟩) w := fun w => run_sop (w := w) ([60, 63] ++ lo) ([32] ++ (t0 :: tl)) (by simp at h3 ⊢; omega)
    have p3 : ∀ w : World, (Op.stringOp .add ⟨([60, 63] ++ lo ++ ([32] ++ (t0 :: tl))).toArray⟩ ⟨#[63, 62]⟩).run Tryz.prog w = .ok (.string ⟨([60, 63] ++ lo ++ ([32] ++ (t0 :: tl)) ++ [63, 62]).toArray⟩) w := fun w => run_sop (w := w) ([60, 63] ++ lo ++ ([32] ++ (t0 :: tl))) [63, 62] (by simp at h3 ⊢; omega)
    rw [if_neg (by simp)]
    obtain ⟨X3, hX3⟩ : ∃ q, [60, 63] ++ lo ++ ([32] ++ (t0 :: tl)) ++ [63, 62] = q := ⟨_, rfl⟩
    obtain ⟨X2, hX2⟩ : ∃ q, [60, 63] ++ lo ++ ([32] ++ (t0 :: tl)) = q := ⟨_, rfl⟩
    obtain ⟨X1, hX1⟩ : ∃ q, [60, 63] ++ lo = q := ⟨_, rfl⟩
    obtain ⟨X0, hX0⟩ : ∃ q, [32] ++ (t0 :: tl) = q := ⟨_, rfl⟩
    rw [hX3] at p3 ⊢
    rw [hX2] at p2 p3
    rw [hX1] at p1 p2
    rw [hX0] at p0 p2
    clear hX3 hX2 hX1 hX0 h1 h2 h3 h4
    go_enter Tryz.func17, Tryz.ntmps17
    go_wp2
    go_ret2
    exact ⟨rfl, J0.out.1⟩
set_option maxRecDepth 100000 in
set_option maxHeartbeats 8000000 in
theorem cnOne_other (sp lo tx space : List UInt8) (A : Option Addr) (n cap : Nat) (k : Int) (w : World) (h1 : sp.length ≤ 5000) (h2 : lo.length ≤ 5000) (h3 : tx.length ≤ 5000) (h4 : space.length ≤ 5000) (k1 : ¬ k = 1) (k2 : ¬ k = 2) (k3 : ¬ k = 3) (k4 : ¬ k = 4) (k5 : ¬ k = 5) :
    Calls Tryz.prog 17 #[.agg #[.int .i64 k, .string ⟨sp.toArray⟩, .string ⟨lo.toArray⟩, .slice A n cap, .string ⟨tx.toArray⟩], .string ⟨space.toArray⟩] w fun e w' => e = .returned (.tuple #[.string ⟨(([] : List UInt8)).toArray⟩, .string ⟨space.toArray⟩]) ∧ Below w.heap.size w w' := by
  have J0 := Lib.hid (CJ.start 41 w #[.int .i64 k, .string ⟨sp.toArray⟩, .string ⟨lo.toArray⟩, .slice A n cap, .string ⟨tx.toArray⟩])
  have z0 := cell_of 0 J0.out.2
  have z1 := cell_of 1 J0.out.2
  have z2 := cell_of 2 J0.out.2
  have z3 := cell_of 3 J0.out.2
  have z4 := cell_of 4 J0.out.2
  clear h1 h2 h3 h4
  go_enter Tryz.func17, Tryz.ntmps17
  go_wp2
  go_ret2
  exact ⟨rfl, J0.out.1⟩
set_option maxRecDepth 100000 in
set_option maxHeartbeats 8000000 in
theorem cnOne_start (sp lo tx space : List UInt8) (A : Option Addr) (n cap : Nat) (ats : List (List UInt8 × List UInt8 × List UInt8)) (w : World) (h : RRd cA 3 w w.heap.size A n cap ats) (hle : EvLe 5000 ⟨⟨1, sp, lo, ats, tx⟩, A, n, cap⟩) (h4 : space.length ≤ 5000) (hp : Lib.TabIs Tryz.prog w "internal/strconv.uint64pow10" .u64 Lib.pow10Tab) :
    Calls Tryz.prog 17 #[.agg #[.int .i64 1, .string ⟨sp.toArray⟩, .string ⟨lo.toArray⟩, .slice A n cap, .string ⟨tx.toArray⟩], .string ⟨space.toArray⟩] w fun e w' => e = .returned (.tuple #[.string ⟨(cnStart sp lo ats space).toArray⟩, .string ⟨(spOf sp space).toArray⟩]) ∧ Below w.heap.size w w' := by
  have J0 := Lib.hid (CJ.start 41 w #[.int .i64 1, .string ⟨sp.toArray⟩, .string ⟨lo.toArray⟩, .slice A n cap, .string ⟨tx.toArray⟩])
  have z0 := cell_of 0 J0.out.2
  have z1 := cell_of 1 J0.out.2
  have z2 := cell_of 2 J0.out.2
  have z3 := cell_of 3 J0.out.2
  have z4 := cell_of 4 J0.out.2
  have C1 := Lib.hid (cnStart_c sp lo tx space A n cap ats (w.alloc (.cells #[.int .i64 1, .string ⟨sp.toArray⟩, .string ⟨lo.toArray⟩, .slice A n cap, .string ⟨tx.toArray⟩] 41)) (h.up J0.out.1) hle h4 (TabIs_below41 hp J0.out.1))
  clear h hle h4 hp
  go_enter Tryz.func17, Tryz.ntmps17
  go_wp2_with fail
  refine C1.out.mono ?_
  rintro e w1 ⟨rfl, hb⟩
  have HB := Lib.hid (J0.out.1.trans (hb.mono J0.out.1.size))
  clear hb
  go_wp2
  go_ret2
  exact ⟨rfl, HB.out⟩
theorem cnOne_c (k : Int) (sp lo tx space : List UInt8) (A : Option Addr) (n cap : Nat) (ats : List (List UInt8 × List UInt8 × List UInt8)) (w : World) (h : RRd cA 3 w w.heap.size A n cap ats) (hle : EvLe 5000 ⟨⟨k, sp, lo, ats, tx⟩, A, n, cap⟩) (h4 : space.length ≤ 5000) (hp : Lib.TabIs Tryz.prog w "internal/strconv.uint64pow10" .u64 Lib.pow10Tab) :
    Calls Tryz.prog 17 #[.agg #[.int .i64 k, .string ⟨sp.toArray⟩, .string ⟨lo.toArray⟩, .slice A n cap, .string ⟨tx.toArray⟩], .string ⟨space.toArray⟩] w fun e w' => e = .returned (.tuple #[.string ⟨(cnOne ⟨k, sp, lo, ats, tx⟩ space).1.toArray⟩, .string ⟨(cnOne ⟨k, sp, lo, ats, tx⟩ space).2.toArray⟩]) ∧ Below w.heap.size w w' := by
  have h1 : sp.length ≤ 5000 := hle.sp
  have h2 : lo.length ≤ 5000 := hle.lo
  have h3 : tx.length ≤ 5000 := hle.tx
  by_cases k1 : k = 1
  · subst k1; exact cnOne_start sp lo tx space A n cap ats w h hle h4 hp
  · by_cases k2 : k = 2
    · subst k2; exact cnOne_end sp lo tx space A n cap w h1 h2 h3 h4
    · by_cases k3 : k = 3
      · subst k3; exact cnOne_text sp lo tx space A n cap w h1 h2 h3 h4
      · by_cases k4 : k = 4
        · subst k4; exact cnOne_pi sp lo tx space A n cap w h1 h2 h3 h4
        · by_cases k5 : k = 5
          · subst k5; exact cnOne_comment sp lo tx space A n cap w h1 h2 h3 h4
          · have he : cnOne ⟨k, sp, lo, ats, tx⟩ space = ([], space) := by simp [cnOne, k1, k2, k3, k4, k5]
            rw [he]
            exact cnOne_other sp lo tx space A n cap k w h1 h2 h3 h4 k1 k2 k3 k4 k5
end Go.Proofs.YthihkbcdihochaaGreatDoor
/- The documents find. -/
namespace Go.Proofs.YthihkbcdihochaaGreatDoor
open Go.ChangeShapes Go.WideShapes Go.ChangeAt Go.RowKit
set_option linter.unusedVariables false
theorem idxOf_le_at : ∀ (l : List (List UInt8)) (t : Nat) (x : List UInt8), l[t]? = some x → l.idxOf x ≤ t
  | [], t, x, h => by simp at h
  | y :: l, 0, x, h => by
    simp at h
    subst h
    simp
  | y :: l, t + 1, x, h => by
    have := idxOf_le_at l t x (by simpa using h)
    rw [List.idxOf_cons]
    cases (y == x) <;> simp <;> omega
/-- The document's find. -/
def fndL (l : List (List UInt8)) (s : List UInt8) : Int := if s ∈ l then (l.idxOf s : Nat) else -1
set_option maxRecDepth 100000 in
set_option maxHeartbeats 4000000 in
theorem rfFind_c (A : Option Addr) (n cap : Nat) (l : List (List UInt8)) (s : List UInt8) (w : World) (h : RRd cSn 1 w w.heap.size A n cap l) (hm : n ≤ 1000000) :
    Calls Tryz.prog 57 #[.slice A n cap, .string ⟨s.toArray⟩] w fun e w' => e = .returned (.int .i64 (fndL l s)) ∧ w = w' := by
  have HP := Lib.hid h
  have HL : Hid (l.length = n) := Lib.hid h.len
  clear h
  go_enter Tryz.func57, Tryz.ntmps57
  go_wp2
  go_loopg [5] (n) (fun g i wr => wr = w ∧ ∃ t : Nat, i = .int .i64 (t : Int) ∧ t ≤ n ∧ Hid (g + t = n) ∧ Hid (∀ i < t, ∀ x, l[i]? = some x → x ≠ s))
  case atStart => exact ⟨rfl, 0, rfl, Nat.zero_le _, Lib.hid rfl, Lib.hid fun i hi => absurd hi (by omega)⟩
  case round =>
    obtain ⟨rfl, t, rfl, ht, hg, HN⟩ := hrel
    have ht0 : (0 : Int) ≤ (t : Int) := by omega
    have ht9 : (t : Int) ≤ 1000000 := by omega
    by_cases htn : t < n
    · have hti : (t : Int) < (n : Int) := by omega
      obtain ⟨b1, o1, x, rfl, hb1, hx, hc1⟩ := HP.out.cell htn
      have y0 : wr.cell? ⟨b1, o1 + t, none⟩ = some (.string ⟨x.toArray⟩) := by rw [show o1 + t = o1 + (t * 1 + 0) by omega]; exact hc1 0 _ rfl
      have HX := Lib.hid hx
      have he := eqv x s
      obtain ⟨b, hb⟩ : ∃ q, decide (x = s) = q := ⟨_, rfl⟩
      rw [hb] at he
      clear hb1 hx hc1
      cases b with
      | true =>
        have HF : Hid (fndL l s = (t : Int)) := Lib.hid (by
          have e := of_decide_eq_true hb
          subst e
          have hlt : t < l.length := (List.getElem?_eq_some_iff.1 HX.out).1
          have hxe : l[t] = x := (List.getElem?_eq_some_iff.1 HX.out).2
          have hmem : x ∈ l := hxe ▸ List.getElem_mem hlt
          unfold fndL
          rw [if_pos hmem]
          have h1 : l.idxOf x ≤ t := idxOf_le_at l t x HX.out
          have h2 : l.idxOf x < l.length := List.idxOf_lt_length_iff.2 hmem
          have h3 : ¬ l.idxOf x < t := fun h => HN.out _ h x (by rw [List.getElem?_eq_getElem h2]; simp) rfl
          omega)
        clear hb
        go_wp2
        go_ret
        exact ⟨by rw [HF.out]; rfl, rfl⟩
      | false =>
        have hne := of_decide_eq_false hb
        clear hb
        go_wp2
        go_roundg (n - (t + 1))
        case measure => have := hg.out; omega
        case rel => exact ⟨rfl, t + 1, by go_num, by omega, Lib.hid (by have := hg.out; omega), Lib.hid fun i hi y hy => by
          rcases Nat.lt_or_ge i t with h | h
          · exact HN.out i h y hy
          · obtain rfl : i = t := by omega
            rw [HX.out] at hy
            cases hy
            exact hne⟩
    · have hti : ¬ (t : Int) < (n : Int) := by omega
      have HF : Hid (fndL l s = -1) := Lib.hid (by
        unfold fndL
        rw [if_neg]
        intro hmem
        obtain ⟨i, hi, e⟩ := List.getElem_of_mem hmem
        exact HN.out i (by have := HL.out; omega) _ (List.getElem?_eq_getElem hi) e)
      go_wp2
      go_ret
      exact ⟨by rw [HF.out]; rfl, rfl⟩
end Go.Proofs.YthihkbcdihochaaGreatDoor
/- The documents Spaces. -/
namespace Go.Proofs.YthihkbcdihochaaGreatDoor
open Go.ChangeShapes Go.WideShapes Go.ChangeAt Go.RowKit
set_option linter.unusedVariables false
set_option maxRecDepth 100000 in
set_option maxHeartbeats 8000000 in
theorem rfSpaces_c (A : Option Addr) (n cap : Nat) (ats : List (List UInt8 × List UInt8 × List UInt8)) (w : World) (h : RRd cA 3 w w.heap.size A n cap ats) (hm : n ≤ 5000) (hs : ∀ a ∈ ats, a.1.length ≤ 5000) :
    Calls Tryz.prog 55 #[.slice A n cap] w fun e w' => ∃ OA oc, e = .returned (.slice OA (spcs [] ats).length oc) ∧ OwnX w' w.heap.size (.slice OA (spcs [] ats).length oc) (spcs [] ats) ∧ Below w.heap.size w w' := by
  have HP : Hid (∀ W, Below w.heap.size w W → RRd cA 3 W W.heap.size A n cap ats) := Lib.hid fun W hb => (h.below hb).more hb.size
  have HLN : Hid (ats.length = n) := Lib.hid h.len
  have HS := Lib.hid hs
  have J0 : Hid (Below w.heap.size w w ∧ OwnX w w.heap.size (.slice none 0 0) []) := Lib.hid ⟨Below.refl _ w, rfl, .inl ⟨rfl, rfl⟩⟩
  clear h hs
  go_enter Tryz.func55, Tryz.ntmps55
  go_wp2
  go_loopg [3, 4] (n) (fun g v i wr => ∃ t : Nat, i = .int .i64 (t : Int) ∧ t ≤ n ∧ Hid (g + t = n) ∧ Hid (Below w.heap.size w wr ∧ OwnX wr w.heap.size v (spcs [] (ats.take t))))
  case atStart => exact ⟨0, rfl, Nat.zero_le _, Lib.hid rfl, J0⟩
  case round =>
    obtain ⟨t, rfl, ht, hg, HJ⟩ := hrel
    have ht0 : (0 : Int) ≤ (t : Int) := by omega
    have ht9 : (t : Int) ≤ 5000 := by omega
    by_cases htn : t < n
    · have hti : (t : Int) < (n : Int) := by omega
      obtain ⟨b1, o1, x, rfl, hb1, hx, hc1⟩ := (HP.out _ HJ.out.1).cell htn
      have hsx := HS.out x (List.mem_of_getElem? hx)
      have HSS := Lib.hid (spcs_take hx)
      have hal := spcs_len [] (ats.take t)
      have hal2 : (spcs [] (ats.take t)).length ≤ 5000 := by rw [List.length_take] at hal; simp at hal; omega
      obtain ⟨xs, xl, xv⟩ := x
      simp only at hsx HSS
      have y0 : wr.cell? ⟨b1, o1 + t * 3, none⟩ = some (.string ⟨xs.toArray⟩) := by rw [show o1 + t * 3 = o1 + (t * 3 + 0) by omega]; exact hc1 0 _ rfl
      clear hb1 hx hc1 hal
      obtain ⟨acc, hacc⟩ : ∃ q, spcs [] (ats.take t) = q := ⟨_, rfl⟩
      rw [hacc] at HSS hal2 HJ
      clear hacc
      obtain ⟨bh, hbh⟩ : ∃ q, acc.contains xs = q := ⟨_, rfl⟩
      have he := xml_eq xs
      obtain ⟨bx, hbx⟩ : ∃ q, decide (xs = xmlSp) = q := ⟨_, rfl⟩
      rw [hbx] at he
      unfold xmlSp at he
      have HBX := Lib.hid hbx
      have HBH := Lib.hid hbh
      obtain ⟨AV, cV, hv, hr⟩ := RRd.ofOwn (c := cSn) (fun _ => rfl) (by decide) HJ.out.2
      subst hv
      have FD := Lib.hid (rfFind_c AV acc.length cV acc xs wr hr (by omega))
      have HFN : Hid (fndL acc xs = if bh = true then ((acc.idxOf xs : Nat) : Int) else -1) := Lib.hid (by
        unfold fndL
        rw [← hbh]
        simp)
      clear hbh hbx hr
      have hstay : bh = true ∨ xs = [] ∨ bx = true → spcs [] (ats.take (t + 1)) = acc := fun hq => by
        rw [HSS.out, if_neg]
        unfold ownSp
        rw [HBX.out, HBH.out]
        rcases hq with rfl | rfl | rfl <;> simp
      have HST := Lib.hid hstay
      clear hstay
      have hxs : xs = [] ∨ ∃ a tl, xs = a :: tl := by cases xs <;> simp
      rcases hxs with rfl | ⟨a0, tl0, rfl⟩
      · clear FD HFN HBX he
        go_wp2
        go_roundg (n - (t + 1))
        case measure => have := hg.out; omega
        case rel => exact ⟨t + 1, by go_num, by omega, Lib.hid (by have := hg.out; omega), Lib.hid (by rw [HST.out (by simp)]; exact HJ.out)⟩
      · cases bx with
        | true =>
          clear FD HFN
          go_wp2
          go_roundg (n - (t + 1))
          case measure => have := hg.out; omega
          case rel => exact ⟨t + 1, by go_num, by omega, Lib.hid (by have := hg.out; omega), Lib.hid (by rw [HST.out (by simp)]; exact HJ.out)⟩
        | false =>
          cases bh with
          | true =>
            have hF := HFN.out
            rw [if_pos rfl] at hF
            rw [hF] at FD
            obtain ⟨ix, hix⟩ : ∃ q, acc.idxOf (a0 :: tl0) = q := ⟨_, rfl⟩
            rw [hix] at FD
            have hix0 : ¬ ((ix : Nat) : Int) < 0 := by omega
            clear hF hix HFN
            go_wp2_with fail
            refine FD.out.mono ?_
            rintro e w1 ⟨rfl, rfl⟩
            go_wp2
            go_roundg (n - (t + 1))
            case measure => have := hg.out; omega
            case rel => exact ⟨t + 1, by go_num, by omega, Lib.hid (by have := hg.out; omega), Lib.hid (by rw [HST.out (by simp)]; exact HJ.out)⟩
          | false =>
            have hF := HFN.out
            rw [if_neg (by simp)] at hF
            rw [hF] at FD
            have HNX : Hid (spcs [] (ats.take (t + 1)) = acc ++ [a0 :: tl0]) := Lib.hid (by
              rw [HSS.out, if_pos]
              unfold ownSp
              rw [HBX.out, HBH.out]
              simp)
            have hO3 : wr.ownsRow w.heap.size 9 1 (.slice AV acc.length cV) acc.length (acc.flatMap cSn) := HJ.out.2
            have hal3 : acc.length ≤ 1000000000 := by omega
            have hbs3 : w.heap.size ≤ wr.heap.size := HJ.out.1.size
            clear hF HFN HSS HST
            go_wp2_with fail
            refine FD.out.mono ?_
            rintro e w1 ⟨rfl, rfl⟩
            go_wp2_with (first
              | (at_builtin; refine wpList_appK rfl (.tmp 30) (.tmp 32) 51 9 rfl (.string ⟨#[]⟩) 1 16 Tryz.underlying51 info_str rfl (by decide) _ _ _ _ rfl hO3 (cSn (a0 :: tl0)) _ rfl rfl rfl (by simp [cSn, Value.oneCell']) hal3 (by decide) hbs3 ?_))
            intro v6 w6 hown6 hg6 hat6
            have O6 := Lib.hid (OwnX.snoc (l := acc) (x := a0 :: tl0) hown6)
            have kb := (Below.refl wr.heap.size wr).alloc (Nat.le_refl _) (.cells (cSn (a0 :: tl0)).toArray 9)
            have HB6 := Lib.hid ((HJ.out.1.trans (kb.mono HJ.out.1.size)).grown hg6 (by rw [World.size_alloc wr]; omega) (fun j hj => OwnX.ge (l := acc) hO3 hj))
            have HJ6 := Lib.hid (And.intro HB6.out O6.out)
            clear hown6 hg6 hat6 hO3 kb hbs3 hal3
            go_wp2
            go_roundg (n - (t + 1))
            case measure => have := hg.out; omega
            case rel => exact ⟨t + 1, by go_num, by omega, Lib.hid (by have := hg.out; omega), Lib.hid (by rw [HNX.out]; exact HJ6.out)⟩
    · have hti : ¬ (t : Int) < (n : Int) := by omega
      have hJ := HJ.out
      rw [List.take_of_length_le (by rw [HLN.out]; omega)] at hJ
      obtain ⟨A2, c2, hv⟩ := OwnX.form hJ.2
      subst hv
      have HJ2 := Lib.hid hJ
      clear hJ HJ
      go_wp2
      go_ret
      exact ⟨A2, c2, rfl, HJ2.out.2, HJ2.out.1⟩
end Go.Proofs.YthihkbcdihochaaGreatDoor
/- The documents One, but for a start. -/
namespace Go.Proofs.YthihkbcdihochaaGreatDoor
open Go.ChangeShapes Go.WideShapes Go.ChangeAt Go.RowKit
set_option linter.unusedVariables false
set_option maxRecDepth 100000 in
set_option maxHeartbeats 8000000 in
theorem rfOne_end (sp lo tx space : List UInt8) (A : Option Addr) (n cap : Nat) (w : World) (h1 : sp.length ≤ 5000) (h2 : lo.length ≤ 5000) (h3 : tx.length ≤ 5000) (h4 : space.length ≤ 5000) :
    Calls Tryz.prog 18 #[.agg #[.int .i64 2, .string ⟨sp.toArray⟩, .string ⟨lo.toArray⟩, .slice A n cap, .string ⟨tx.toArray⟩], .string ⟨space.toArray⟩] w fun e w' => e = .returned (.tuple #[.string ⟨([60, 47] ++ elemL sp lo ++ [62]).toArray⟩, .string ⟨space.toArray⟩]) ∧ Below w.heap.size w w' := by
  have J0 := Lib.hid (CJ.start 41 w #[.int .i64 2, .string ⟨sp.toArray⟩, .string ⟨lo.toArray⟩, .slice A n cap, .string ⟨tx.toArray⟩])
  have z0 := cell_of 0 J0.out.2
  have z1 := cell_of 1 J0.out.2
  have z2 := cell_of 2 J0.out.2
  have z3 := cell_of 3 J0.out.2
  have z4 := cell_of 4 J0.out.2
  have C1 := Lib.hid (refElem41_c sp lo (w.alloc (.cells #[.int .i64 2, .string ⟨sp.toArray⟩, .string ⟨lo.toArray⟩, .slice A n cap, .string ⟨tx.toArray⟩] 41)) (by omega))
  have hl : (elemL sp lo).length ≤ 5004 := by
    unfold elemL
    split
    · simp
      omega
    · omega
  obtain ⟨E, hE⟩ : ∃ q, elemL sp lo = q := ⟨_, rfl⟩
  rw [hE] at C1 hl ⊢
  have p1 : ∀ w : World, (Op.stringOp .add ⟨#[60, 47]⟩ ⟨E.toArray⟩).run Tryz.prog w = .ok (.string ⟨([60, 47] ++ E).toArray⟩) w := fun w => run_sop (w := w) [60, 47] E (by simp; omega)
  have p2 : ∀ w : World, (Op.stringOp .add ⟨([60, 47] ++ E).toArray⟩ ⟨#[62]⟩).run Tryz.prog w = .ok (.string ⟨(([60, 47] ++ E) ++ [62]).toArray⟩) w := fun w => run_sop (w := w) ([60, 47] ++ E) [62] (by simp; omega)
  obtain ⟨X2, hX2⟩ : ∃ q, [60, 47] ++ E ++ [62] = q := ⟨_, rfl⟩
  obtain ⟨X1, hX1⟩ : ∃ q, [60, 47] ++ E = q := ⟨_, rfl⟩
  rw [hX2] at p2 ⊢
  rw [hX1] at p1 p2
  clear hE hX2 hX1 hl h1 h2 h3 h4
  go_enter Tryz.func18, Tryz.ntmps18
  go_wp2_with fail
  refine C1.out.mono ?_
  rintro e w1 ⟨rfl, hb⟩
  have HB := Lib.hid (J0.out.1.trans (hb.mono J0.out.1.size))
  clear hb
  go_wp2
  go_ret2
  exact ⟨rfl, HB.out⟩
set_option maxRecDepth 100000 in
set_option maxHeartbeats 8000000 in
theorem rfOne_text (sp lo tx space : List UInt8) (A : Option Addr) (n cap : Nat) (w : World) (h1 : sp.length ≤ 5000) (h2 : lo.length ≤ 5000) (h3 : tx.length ≤ 5000) (h4 : space.length ≤ 5000) :
    Calls Tryz.prog 18 #[.agg #[.int .i64 3, .string ⟨sp.toArray⟩, .string ⟨lo.toArray⟩, .slice A n cap, .string ⟨tx.toArray⟩], .string ⟨space.toArray⟩] w fun e w' => e = .returned (.tuple #[.string ⟨(esc tx).toArray⟩, .string ⟨space.toArray⟩]) ∧ Below w.heap.size w w' := by
  have J0 := Lib.hid (CJ.start 41 w #[.int .i64 3, .string ⟨sp.toArray⟩, .string ⟨lo.toArray⟩, .slice A n cap, .string ⟨tx.toArray⟩])
  have z0 := cell_of 0 J0.out.2
  have z1 := cell_of 1 J0.out.2
  have z2 := cell_of 2 J0.out.2
  have z3 := cell_of 3 J0.out.2
  have z4 := cell_of 4 J0.out.2
  have C1 := Lib.hid ((refEscape_c tx (w.alloc (.cells #[.int .i64 3, .string ⟨sp.toArray⟩, .string ⟨lo.toArray⟩, .slice A n cap, .string ⟨tx.toArray⟩] 41)) (by omega)).mono fun e w' h => (⟨h.1, h.2 ▸ Below.refl _ _⟩ : e = .returned (.string ⟨(esc tx).toArray⟩) ∧ Below (w.alloc (.cells #[.int .i64 3, .string ⟨sp.toArray⟩, .string ⟨lo.toArray⟩, .slice A n cap, .string ⟨tx.toArray⟩] 41)).heap.size (w.alloc (.cells #[.int .i64 3, .string ⟨sp.toArray⟩, .string ⟨lo.toArray⟩, .slice A n cap, .string ⟨tx.toArray⟩] 41)) w'))
  obtain ⟨E, hE⟩ : ∃ q, esc tx = q := ⟨_, rfl⟩
  rw [hE] at C1 ⊢
  clear hE h1 h2 h3 h4
  go_enter Tryz.func18, Tryz.ntmps18
  go_wp2_with fail
  refine C1.out.mono ?_
  rintro e w1 ⟨rfl, hb⟩
  have HB := Lib.hid (J0.out.1.trans (hb.mono J0.out.1.size))
  clear hb
  go_wp2
  go_ret2
  exact ⟨rfl, HB.out⟩
set_option maxRecDepth 100000 in
set_option maxHeartbeats 8000000 in
theorem rfOne_comment (sp lo tx space : List UInt8) (A : Option Addr) (n cap : Nat) (w : World) (h1 : sp.length ≤ 5000) (h2 : lo.length ≤ 5000) (h3 : tx.length ≤ 5000) (h4 : space.length ≤ 5000) :
    Calls Tryz.prog 18 #[.agg #[.int .i64 5, .string ⟨sp.toArray⟩, .string ⟨lo.toArray⟩, .slice A n cap, .string ⟨tx.toArray⟩], .string ⟨space.toArray⟩] w fun e w' => e = .returned (.tuple #[.string ⟨([60, 33, 45, 45] ++ tx ++ [45, 45, 62]).toArray⟩, .string ⟨space.toArray⟩]) ∧ Below w.heap.size w w' := by
  have J0 := Lib.hid (CJ.start 41 w #[.int .i64 5, .string ⟨sp.toArray⟩, .string ⟨lo.toArray⟩, .slice A n cap, .string ⟨tx.toArray⟩])
  have z0 := cell_of 0 J0.out.2
  have z1 := cell_of 1 J0.out.2
  have z2 := cell_of 2 J0.out.2
  have z3 := cell_of 3 J0.out.2
  have z4 := cell_of 4 J0.out.2
  have p1 : ∀ w : World, (Op.stringOp .add ⟨#[60, 33, 45, 45]⟩ ⟨tx.toArray⟩).run Tryz.prog w = .ok (.string ⟨([60, 33, 45, 45] ++ tx).toArray⟩) w := fun w => run_sop (w := w) [60, 33, 45, 45] tx (by simp; omega)
  have p2 : ∀ w : World, (Op.stringOp .add ⟨([60, 33, 45, 45] ++ tx).toArray⟩ ⟨#[45, 45, 62]⟩).run Tryz.prog w = .ok (.string ⟨(([60, 33, 45, 45] ++ tx) ++ [45, 45, 62]).toArray⟩) w := fun w => run_sop (w := w) ([60, 33, 45, 45] ++ tx) [45, 45, 62] (by simp; omega)
  obtain ⟨X2, hX2⟩ : ∃ q, [60, 33, 45, 45] ++ tx ++ [45, 45, 62] = q := ⟨_, rfl⟩
  obtain ⟨X1, hX1⟩ : ∃ q, [60, 33, 45, 45] ++ tx = q := ⟨_, rfl⟩
  rw [hX2] at p2 ⊢
  rw [hX1] at p1 p2
  clear hX2 hX1 h1 h2 h3 h4
  go_enter Tryz.func18, Tryz.ntmps18
  go_wp2
  go_ret2
  exact ⟨rfl, J0.out.1⟩
set_option maxRecDepth 100000 in
set_option maxHeartbeats 8000000 in
theorem rfOne_pi (sp lo tx space : List UInt8) (A : Option Addr) (n cap : Nat) (w : World) (h1 : sp.length ≤ 5000) (h2 : lo.length ≤ 5000) (h3 : tx.length ≤ 5000) (h4 : space.length ≤ 5000) :
    Calls Tryz.prog 18 #[.agg #[.int .i64 4, .string ⟨sp.toArray⟩, .string ⟨lo.toArray⟩, .slice A n cap, .string ⟨tx.toArray⟩], .string ⟨space.toArray⟩] w fun e w' => e = .returned (.tuple #[.string ⟨([60, 63] ++ lo ++ (if tx = [] then [] else [32] ++ tx) ++ [63, 62]).toArray⟩, .string ⟨space.toArray⟩]) ∧ Below w.heap.size w w' := by
  have J0 := Lib.hid (CJ.start 41 w #[.int .i64 4, .string ⟨sp.toArray⟩, .string ⟨lo.toArray⟩, .slice A n cap, .string ⟨tx.toArray⟩])
  have z0 := cell_of 0 J0.out.2
  have z1 := cell_of 1 J0.out.2
  have z2 := cell_of 2 J0.out.2
  have z3 := cell_of 3 J0.out.2
  have z4 := cell_of 4 J0.out.2
  cases tx with
  | nil =>
    have p1 : ∀ w : World, (Op.stringOp .add ⟨#[60, 63]⟩ ⟨lo.toArray⟩).run Tryz.prog w = .ok (.string ⟨([60, 63] ++ lo).toArray⟩) w := fun w => run_sop (w := w) [60, 63] lo (by simp; omega)
    have p3 : ∀ w : World, (Op.stringOp .add ⟨([60, 63] ++ lo).toArray⟩ ⟨#[63, 62]⟩).run Tryz.prog w = .ok (.string ⟨([60, 63] ++ lo ++ [63, 62]).toArray⟩) w := fun w => run_sop (w := w) ([60, 63] ++ lo) [63, 62] (by simp; omega)
    rw [if_pos rfl, List.append_nil]
    obtain ⟨X2, hX2⟩ : ∃ q, [60, 63] ++ lo ++ [63, 62] = q := ⟨_, rfl⟩
    obtain ⟨X1, hX1⟩ : ∃ q, [60, 63] ++ lo = q := ⟨_, rfl⟩
    rw [hX2] at p3 ⊢
    rw [hX1] at p1 p3
    clear hX2 hX1 h1 h2 h3 h4
    go_enter Tryz.func18, Tryz.ntmps18
    go_wp2
    go_ret2
    exact ⟨rfl, J0.out.1⟩
  | cons t0 tl =>
    have p1 : ∀ w : World, (Op.stringOp .add ⟨#[60, 63]⟩ ⟨lo.toArray⟩).run Tryz.prog w = .ok (.string ⟨([60, 63] ++ lo).toArray⟩) w := fun w => run_sop (w := w) [60, 63] lo (by simp; omega)
    have p2 : ∀ w : World, (Op.stringOp .add ⟨([60, 63] ++ lo).toArray⟩ ⟨#[32]⟩).run Tryz.prog w = .ok (.string ⟨([60, 63] ++ lo ++ [32]).toArray⟩) w := fun w => run_sop (w := w) ([60, 63] ++ lo) [32] (by simp; omega)
    have p3 : ∀ w : World, (Op.stringOp .add ⟨([60, 63] ++ lo ++ [32]).toArray⟩ ⟨(t0 :: tl).toArray⟩).run Tryz.prog w = .ok (.string ⟨([60, 63] ++ lo ++ [32] ++ (t0 :: tl)).toArray⟩) w := fun w => run_sop (w := w) ([60, 63] ++ lo ++ [32]) (t0 :: tl) (by simp at h3 ⊢; omega)
    have p4 : ∀ w : World, (Op.stringOp .add ⟨([60, 63] ++ lo ++ [32] ++ (t0 :: tl)).toArray⟩ ⟨#[63, 62]⟩).run Tryz.prog w = .ok (.string ⟨([60, 63] ++ lo ++ [32] ++ (t0 :: tl) ++ [63, 62]).toArray⟩) w := fun w => run_sop (w := w) ([60, 63] ++ lo ++ [32] ++ (t0 :: tl)) [63, 62] (by simp at h3 ⊢; omega)
    rw [if_neg (by simp), ← List.append_assoc]
    obtain ⟨X4, hX4⟩ : ∃ q, [60, 63] ++ lo ++ [32] ++ (t0 :: tl) ++ [63, 62] = q := ⟨_, rfl⟩
    obtain ⟨X3, hX3⟩ : ∃ q, [60, 63] ++ lo ++ [32] ++ (t0 :: tl) = q := ⟨_, rfl⟩
    obtain ⟨X2, hX2⟩ : ∃ q, [60, 63] ++ lo ++ [32] = q := ⟨_, rfl⟩
    obtain ⟨X1, hX1⟩ : ∃ q, [60, 63] ++ lo = q := ⟨_, rfl⟩
    rw [hX4] at p4 ⊢
    rw [hX3] at p3 p4
    rw [hX2] at p2 p3
    rw [hX1] at p1 p2
    clear hX4 hX3 hX2 hX1 h1 h2 h3 h4
    go_enter Tryz.func18, Tryz.ntmps18
    go_wp2
    go_ret2
    exact ⟨rfl, J0.out.1⟩
set_option maxRecDepth 100000 in
set_option maxHeartbeats 8000000 in
theorem rfOne_other (sp lo tx space : List UInt8) (A : Option Addr) (n cap : Nat) (k : Int) (w : World) (h1 : sp.length ≤ 5000) (h2 : lo.length ≤ 5000) (h3 : tx.length ≤ 5000) (h4 : space.length ≤ 5000) (k1 : ¬ k = 1) (k2 : ¬ k = 2) (k3 : ¬ k = 3) (k4 : ¬ k = 4) (k5 : ¬ k = 5) :
    Calls Tryz.prog 18 #[.agg #[.int .i64 k, .string ⟨sp.toArray⟩, .string ⟨lo.toArray⟩, .slice A n cap, .string ⟨tx.toArray⟩], .string ⟨space.toArray⟩] w fun e w' => e = .returned (.tuple #[.string ⟨(([] : List UInt8)).toArray⟩, .string ⟨space.toArray⟩]) ∧ Below w.heap.size w w' := by
  have J0 := Lib.hid (CJ.start 41 w #[.int .i64 k, .string ⟨sp.toArray⟩, .string ⟨lo.toArray⟩, .slice A n cap, .string ⟨tx.toArray⟩])
  have z0 := cell_of 0 J0.out.2
  have z1 := cell_of 1 J0.out.2
  have z2 := cell_of 2 J0.out.2
  have z3 := cell_of 3 J0.out.2
  have z4 := cell_of 4 J0.out.2
  clear h1 h2 h3 h4
  go_enter Tryz.func18, Tryz.ntmps18
  go_wp2
  go_ret2
  exact ⟨rfl, J0.out.1⟩
end Go.Proofs.YthihkbcdihochaaGreatDoor
/- Numbers, as the document writes them. -/
namespace Go.Proofs.YthihkbcdihochaaGreatDoor
open Go.ChangeShapes Go.WideShapes Go.ChangeAt Go.RowKit
set_option linter.unusedVariables false
theorem decDigits_le20 (n : Nat) (h : n ≤ 9223372036854775808) : (Lib.decDigits n).length ≤ 20 := by
  have key : ∀ (k n : Nat), n < 10 ^ (k + 1) → (Lib.decDigits n).length ≤ k + 1 := by
    intro k
    induction k with
    | zero =>
      intro n h
      rw [Lib.decDigits, dif_pos (by omega)]
      simp
    | succ k ih =>
      intro n h
      rw [Lib.decDigits]
      split
      · simp
      · rw [List.length_append]
        have := ih (n / 10) (by rw [Nat.pow_succ] at h; omega)
        simp
        omega
  exact key 19 n (by omega)
set_option maxRecDepth 100000 in
set_option maxHeartbeats 4000000 in
theorem refDigitsAll_c (n : Nat) (hn : n ≤ 9223372036854775807) (w : World) :
    Calls Tryz.prog 56 #[.int .i64 n] w fun e w' => e = .returned (.string ⟨(Lib.decDigits n).toArray⟩) ∧ w = w' := by
  have HL := Lib.hid (decDigits_le20 n (by omega))
  go_enter Tryz.func56, Tryz.ntmps56
  go_wp2
  go_loop [0, 3] (fun x s => ∃ (m : Nat) (t : List UInt8), m ≤ 9223372036854775807 ∧ x = .int .i64 m ∧ s = .string ⟨t.toArray⟩ ∧ Hid (Lib.decDigits n = Lib.decDigits m ++ t)) (fun x _ => (intOf x).toNat)
  case atStart => exact ⟨n, [], hn, rfl, rfl, Lib.hid (by simp)⟩
  case round =>
    obtain ⟨m, t, hm, rfl, rfl, hd⟩ := hrel
    have HT : Hid (t.length ≤ 20) := Lib.hid (by have := HL.out; rw [hd.out, List.length_append] at this; omega)
    have hm0 : (0 : Int) ≤ (m : Int) := by omega
    have hm1 : (m : Int) ≤ 9223372036854775807 := by omega
    by_cases h9 : 9 < m
    · have h9' : (9 : Int) < (m : Int) := by omega
      have hsl := run_digitAt (m % 10) (by omega) w
      rw [show ((m % 10 : Nat) : Int) = (m : Int) % 10 by omega] at hsl
      have hct : (Op.stringOp .add ⟨#[UInt8.ofNat (48 + m % 10)]⟩ ⟨t.toArray⟩).run Tryz.prog w = .ok (.string ⟨(UInt8.ofNat (48 + m % 10) :: t).toArray⟩) w := run_sop (w := w) [UInt8.ofNat (48 + m % 10)] t (by have := HT.out; simp; omega)
      have HD : Hid (Lib.decDigits n = Lib.decDigits (m / 10) ++ (UInt8.ofNat (48 + m % 10) :: t)) := Lib.hid (by
        rw [hd.out, Lib.decDigits, dif_neg (by omega)]; simp)
      generalize UInt8.ofNat (48 + m % 10) = u at *
      go_wp2
      go_round
      case rel => exact ⟨m / 10, u :: t, by omega, by go_num, rfl, HD⟩
      case measure => simp [intOf]; omega
    · have h9' : ¬ (9 : Int) < (m : Int) := by omega
      have hsl := run_digitAt m (by omega) w
      have hct : (Op.stringOp .add ⟨#[UInt8.ofNat (48 + m)]⟩ ⟨t.toArray⟩).run Tryz.prog w = .ok (.string ⟨(UInt8.ofNat (48 + m) :: t).toArray⟩) w := run_sop (w := w) [UInt8.ofNat (48 + m)] t (by have := HT.out; simp; omega)
      have HD : Hid (Lib.decDigits n = [UInt8.ofNat (48 + m)] ++ t) := Lib.hid (by
        rw [hd.out, Lib.decDigits, dif_pos (by omega)])
      generalize UInt8.ofNat (48 + m) = u at *
      clear hm1
      go_wp2
      go_ret
      exact ⟨by rw [HD.out]; rfl, rfl⟩
end Go.Proofs.YthihkbcdihochaaGreatDoor
