/- Texts of ours, joined: FtD, FtE, PgL, PgN, PgD, PgO. -/
import Derived.Test.YtgenpgfhjhcahaaGreatDoorRows
import Derived.WalkKit
import Derived.ProofKit
import Derived.OpenShut
import Derived.ShutString
import Derived.ChangeOld
import Derived.Below
import Derived.BigQuiet
import Derived.Deep.QuietTactic
import Derived.Lib.Hide
import Derived.Deep.RegionHeld3
import Derived.Lib.SlBytesConst
import Derived.Laws.CopyOwn
import Derived.Laws.CopyRow
import Derived.Lib.Bytes
import Derived.Deep.LoopGhost
import Derived.Deep.DeepFit
import Derived.Deep.DeepMust
import Derived.WalkSpells
import Derived.WalkLawsBesides
import Derived.Maps.OwnOps
import Derived.Maps.OwnSet
import Derived.Maps.Views
import Derived.Laws.EntriesVeiled
import Derived.Laws.Rows
import Derived.Maps.AppendAt
import Derived.Lib.SmallJoins
import Derived.Deep.AppendLies
import Derived.Deep.RegionLaw
import Derived.Deep.RegionWith
import Derived.Test.YtgenpgfhjhcahaaGreatDoorQ1
import Derived.Test.YtgenpgfhjhcahaaGreatDoorQ2
import Derived.Test.YtgenpgfhjhcahaaGreatDoorQ11
import Derived.Test.YtgenpgfhjhcahaaGreatDoorQ28
import Derived.Test.YtgenpgfhjhcahaaGreatDoorQ21
import Derived.Test.YtgenpgfhjhcahaaGreatDoorQ4
import Derived.DeepKeys4
import Derived.MapViews
import Derived.Maps.Keyed
import Derived.StillTailTactics
import Derived.Deep.CutRange
import Derived.IntWalk
import Derived.Laws.MakeOwn
import Derived.Laws.OwnMore
import Derived.Deep.MidRow
import Derived.Test.YtgenpgfhjhcahaaGreatDoorQ7
import Derived.Test.YtgenpgfhjhcahaaGreatDoorQ8
import Derived.Test.YtgenpgfhjhcahaaGreatDoorQ3
import Derived.Test.YtgenpgfhjhcahaaGreatDoorQ5
import Derived.Test.YtgenpgfhjhcahaaGreatDoorQ9
import Derived.Test.YtgenpgfhjhcahaaGreatDoorQ10
import Derived.Test.YtgenpgfhjhcahaaGreatDoorQ12
import Derived.Test.YtgenpgfhjhcahaaGreatDoorQ14
import Derived.Test.YtgenpgfhjhcahaaGreatDoorQ15
import Derived.Test.YtgenpgfhjhcahaaGreatDoorQ16
import Derived.Test.YtgenpgfhjhcahaaGreatDoorQ17
import Derived.Test.YtgenpgfhjhcahaaGreatDoorQ18
import Derived.Test.YtgenpgfhjhcahaaGreatDoorQ20
import Derived.Test.YtgenpgfhjhcahaaGreatDoorQ22
import Derived.Test.YtgenpgfhjhcahaaGreatDoorQ25
import Derived.Test.YtgenpgfhjhcahaaGreatDoorQ26
import Derived.Test.YtgenpgfhjhcahaaGreatDoorQ27
import Derived.RangeFuncNested
import Derived.RangeFuncBound
import Derived.RangeFuncCalls
import Derived.RangeFuncLeaves
import Derived.RangeFuncBox
import Derived.RangeFuncWrites
import Derived.Shelf.Abstract
import Derived.Shelf.RegionOpen
import Derived.OwnWalkIn
import Derived.TacticsInMore
import Derived.LoopNIn
import Derived.LoopIn
import Derived.Maps.OwnIn
import Derived.Test.YtgenpgfhjhcahaaGreatDoorQ13
/- meter.Check, allow.Check, fetch.limit of small configurations, four. -/
namespace Go.Proofs.YtgenpgfhjhcahaaGreatDoor
open Go.ChangeShapes Go.WideShapes Go.ChangeAt Go.RowKit
set_option linter.unusedVariables false
/-- The configuration in its block, over a world that grows. -/
def FtJ (s o d a f b : Int) (w W : World) : Prop := Below w.heap.size w W ∧ w.heap.size < W.heap.size ∧ W.heap[w.heap.size]? = some (.cells #[.int .i64 s, .int .i64 o, .int .i64 d, .int .i64 a, .int .i64 f, .int .i64 b, .slice none 0 0] 39 (0, 0))
theorem FtJ.drew {s o d a f b : Int} {w W : World} (h : FtJ s o d a f b w W) : FtJ s o d a f b w W.drew := ⟨h.1.drew, h.2.1, h.2.2⟩
theorem FtJ.alloc {s o d a f b : Int} {w W : World} (h : FtJ s o d a f b w W) (x : Obj) : FtJ s o d a f b w (W.alloc x) := ⟨h.1.alloc h.1.size _, by rw [World.size_alloc]; have := h.2.1; omega, hp_old h.2.2⟩
theorem FtJ.all {s o d a f b : Int} {w W : World} (h : FtJ s o d a f b w W) : W.cell? ⟨w.heap.size, 4, none⟩ = some (.int .i64 f) ∧ W.cell? ⟨w.heap.size, 5, none⟩ = some (.int .i64 b) ∧ W.cell? ⟨w.heap.size, 6, none⟩ = some (.slice none 0 0) ∧ Hid (FtJ s o d a f b w W) :=
  ⟨by rw [cell_of 4 h.2.2]; rfl, by rw [cell_of 5 h.2.2]; rfl, by rw [cell_of 6 h.2.2]; rfl, Lib.hid h⟩
set_option maxRecDepth 100000 in
set_option maxHeartbeats 4000000 in
theorem fetchNew_c (s o d a f b : Int) (h : Lims [s, o, d, a, f, b]) (w : World) : Calls Tryz.prog 19 #[cfgV s o d a f b, .slice none 0 0] w fun e w' => (∃ m, e = .returned (.tuple #[.pointer (some ⟨m, 0, none⟩), .int .i64 0])) ∧ Below w.heap.size w w' := by
  have CF : Hid (∀ W, Calls Tryz.prog 40 #[.int .i64 f] W fun e w' => e = .returned (.bool true) ∧ W = w') := Lib.hid fun W => limit_ok f (h f (by simp)).1 (h f (by simp)).2 W
  have CB : Hid (∀ W, Calls Tryz.prog 40 #[.int .i64 b] W fun e w' => e = .returned (.bool true) ∧ W = w') := Lib.hid fun W => limit_ok b (h b (by simp)).1 (h b (by simp)).2 W
  have CA : Hid (∀ W, Calls Tryz.prog 41 #[.slice none 0 0] W fun e w' => e = .returned (.int .i64 0) ∧ Below W.heap.size W w') := Lib.hid fun W => allowCheck_nil W
  have CC : Hid (∀ W, Hid (FtJ s o d a f b w W) → Calls Tryz.prog 42 #[.slice none 0 0] W fun e w' => e = .returned (.slice none 0 0) ∧ Hid (FtJ s o d a f b w w')) := Lib.hid fun W hW => (clone_nil W).mono fun e w' ⟨he, hb⟩ =>
    ⟨he, Lib.hid ⟨hW.out.1.trans (hb.mono hW.out.1.size), Nat.lt_of_lt_of_le hW.out.2.1 hb.size, (hb.block _ hW.out.2.1).trans hW.out.2.2⟩⟩
  have CP : Hid (∀ W, Hid (FtJ s o d a f b w W) → Calls Tryz.prog 43 #[.slice none 0 0] W fun e w' => e = .returned (.slice none 0 0) ∧ Hid (FtJ s o d a f b w w')) := Lib.hid fun W hW => (oraclePut_nil W).mono fun e w' ⟨he, hb⟩ =>
    ⟨he, Lib.hid ⟨hW.out.1.trans (hb.mono hW.out.1.size), Nat.lt_of_lt_of_le hW.out.2.1 hb.size, (hb.block _ hW.out.2.1).trans hW.out.2.2⟩⟩
  have AT : Hid (∀ W, Hid (FtJ s o d a f b w W) → W.cell? ⟨w.heap.size, 4, none⟩ = some (.int .i64 f) ∧ W.cell? ⟨w.heap.size, 5, none⟩ = some (.int .i64 b) ∧ W.cell? ⟨w.heap.size, 6, none⟩ = some (.slice none 0 0)) := Lib.hid fun W hW => ⟨by rw [cell_of 4 hW.out.2.2]; rfl, by rw [cell_of 5 hW.out.2.2]; rfl, by rw [cell_of 6 hW.out.2.2]; rfl⟩
  clear h
  unfold cfgV
  have hmm := @run_makeMap Tryz.prog
  have hx := hp_new w (.cells #[.int .i64 s, .int .i64 o, .int .i64 d, .int .i64 a, .int .i64 f, .int .i64 b, .slice none 0 0] 39)
  have hb0 := (Below.refl w.heap.size w).alloc (Nat.le_refl _) (.cells #[.int .i64 s, .int .i64 o, .int .i64 d, .int .i64 a, .int .i64 f, .int .i64 b, .slice none 0 0] 39)
  obtain ⟨w0, hw0⟩ : ∃ w0, w.alloc (.cells #[.int .i64 s, .int .i64 o, .int .i64 d, .int .i64 a, .int .i64 f, .int .i64 b, .slice none 0 0] 39) = w0 := ⟨_, rfl⟩
  rw [hw0] at hx hb0
  obtain ⟨q4, q5, q6⟩ := AT.out w0 (Lib.hid ⟨hb0, lt_of hx, hx⟩)
  have HX := Lib.hid (And.intro hx hb0)
  clear hx hb0
  go_enter Tryz.func19, Tryz.ntmps19
  go_wp2_with fail
  refine (CF.out _).mono ?_
  rintro e w1 ⟨rfl, rfl⟩
  go_wp2_with fail
  refine (CB.out _).mono ?_
  rintro e w1 ⟨rfl, rfl⟩
  go_wp2_with fail
  refine (CA.out _).mono ?_
  rintro e w2 ⟨rfl, hb2⟩
  have hc := (hb2.block _ (lt_of HX.out.1)).trans HX.out.1
  have hl2 : w.heap.size < w2.heap.size := lt_of hc
  have hb3 := HX.out.2.trans (hb2.mono HX.out.2.size)
  have JG : FtJ s o d a f b w w2 := ⟨hb3, hl2, hc⟩
  have JG0 := Lib.hid JG
  have JG1 : Hid (FtJ s o d a f b w w2.drew) := Lib.hid JG.drew
  obtain ⟨q4, q5, q6⟩ := AT.out w2 JG0
  obtain ⟨r4, r5, r6⟩ := AT.out _ JG1
  clear hb2 hb3 hc hl2 CF CB CA JG
  go_wp2_with fail
  go_region_held3 (fun w' => w'.cell? ⟨w.heap.size, 4, none⟩ = some (.int .i64 f) ∧ w'.cell? ⟨w.heap.size, 5, none⟩ = some (.int .i64 b) ∧ w'.cell? ⟨w.heap.size, 6, none⟩ = some (.slice none 0 0) ∧ Hid (FtJ s o d a f b w w')) (first | exact ⟨by assumption, by assumption, by assumption, by assumption⟩ | exact (JG0.out.alloc _).all | exact (JG1.out.alloc _).all | exact (HJ4.out.alloc _).all | exact (HJ5.out.alloc _).all | exact ((HJ5.out.alloc _).alloc _).all) (first
    | (go_at_call 42; refine (CC.out _ (by first | assumption | exact Lib.hid (JG1.out.alloc _))).mono ?_; rintro e w4 ⟨rfl, HJ4⟩; obtain ⟨s4, s5, s6, _⟩ := HJ4.out.all)
    | (go_at_call 43; refine (CP.out _ (by first | assumption | exact Lib.hid (HJ4.out.alloc _))).mono ?_; rintro e w5 ⟨rfl, HJ5⟩; obtain ⟨t4, t5, t6, _⟩ := HJ5.out.all))
  all_goals
    go_wp2
    exact bodyPost_ret (results_tmp2 rfl _ _ _) rfl ⟨⟨_, rfl⟩, by first | exact (HJ5.out.alloc _).1 | exact ((HJ5.out.alloc _).alloc _).1⟩
end Go.Proofs.YtgenpgfhjhcahaaGreatDoor
/- meter.Check, allow.Check, fetch.limit of small configurations, five. -/
namespace Go.Proofs.YtgenpgfhjhcahaaGreatDoor
open Go.ChangeShapes Go.WideShapes Go.ChangeAt Go.RowKit
set_option linter.unusedVariables false
theorem results_tmp4m {fn : Func} {t u v x : Tmp} (h : fn.results = #[.tmp t, .tmp u, .tmp v, .tmp x]) (tmps : Array Value) (P : Program) (w : World) :
    (results fn tmps).run P w = .ok (.tuple #[tmps.getD t undef, tmps.getD u undef, tmps.getD v undef, tmps.getD x undef]) w := by
  simp [results, h]
set_option maxRecDepth 100000 in
set_option maxHeartbeats 4000000 in
theorem make_c (s o d a f b : Int) (h : Lims [s, o, d, a, f, b]) (w : World) : Calls Tryz.prog 9 #[cfgV s o d a f b, .slice none 0 0] w fun e w' => (∃ t g m, e = .returned (.tuple #[.pointer (some ⟨t, 0, none⟩), .pointer (some ⟨g, 0, none⟩), .pointer (some ⟨m, 0, none⟩), .bool true])) ∧ Below w.heap.size w w' := by
  have CD : Hid (∀ W, Calls Tryz.prog 18 #[] W fun e w' => (∃ t, e = .returned (.pointer (some ⟨t, 0, none⟩))) ∧ Below W.heap.size W w') := Lib.hid fun W => dtdNew_c W
  have CF : Hid (∀ W, Calls Tryz.prog 19 #[cfgV s o d a f b, .slice none 0 0] W fun e w' => (∃ m, e = .returned (.tuple #[.pointer (some ⟨m, 0, none⟩), .int .i64 0])) ∧ Below W.heap.size W w') := Lib.hid fun W => fetchNew_c s o d a f b h W
  have CM : Hid (∀ W, Calls Tryz.prog 20 #[cfgV s o d a f b] W fun e w' => (∃ m, e = .returned (.tuple #[.pointer (some ⟨m, 0, none⟩), .int .i64 0])) ∧ Below W.heap.size W w') := Lib.hid fun W => metNew_c s o d a f b h W
  clear h
  unfold cfgV at CF CM ⊢
  have hx := hp_new w (.cells #[.int .i64 s, .int .i64 o, .int .i64 d, .int .i64 a, .int .i64 f, .int .i64 b, .slice none 0 0] 39)
  have hb0 := (Below.refl w.heap.size w).alloc (Nat.le_refl _) (.cells #[.int .i64 s, .int .i64 o, .int .i64 d, .int .i64 a, .int .i64 f, .int .i64 b, .slice none 0 0] 39)
  obtain ⟨w0, hw0⟩ : ∃ w0, w.alloc (.cells #[.int .i64 s, .int .i64 o, .int .i64 d, .int .i64 a, .int .i64 f, .int .i64 b, .slice none 0 0] 39) = w0 := ⟨_, rfl⟩
  rw [hw0] at hx hb0
  have HX := Lib.hid (And.intro hx hb0)
  clear hx hb0
  go_enter Tryz.func9, Tryz.ntmps9
  go_wp2_with fail
  refine (CD.out _).mono ?_
  rintro e w1 ⟨⟨t, rfl⟩, hb1⟩
  have HC1 : Hid (w1.heap[w.heap.size]? = some (.cells #[.int .i64 s, .int .i64 o, .int .i64 d, .int .i64 a, .int .i64 f, .int .i64 b, .slice none 0 0] 39)) := Lib.hid ((hb1.block _ (lt_of HX.out.1)).trans HX.out.1)
  have HB1 := Lib.hid (HX.out.2.trans (hb1.mono HX.out.2.size))
  have q0 : w1.cell? ⟨w.heap.size, 0, none⟩ = some (.int .i64 s) := by rw [cell_of 0 HC1.out]; rfl
  have q1 : w1.cell? ⟨w.heap.size, 1, none⟩ = some (.int .i64 o) := by rw [cell_of 1 HC1.out]; rfl
  have q2 : w1.cell? ⟨w.heap.size, 2, none⟩ = some (.int .i64 d) := by rw [cell_of 2 HC1.out]; rfl
  have q3 : w1.cell? ⟨w.heap.size, 3, none⟩ = some (.int .i64 a) := by rw [cell_of 3 HC1.out]; rfl
  have q4 : w1.cell? ⟨w.heap.size, 4, none⟩ = some (.int .i64 f) := by rw [cell_of 4 HC1.out]; rfl
  have q5 : w1.cell? ⟨w.heap.size, 5, none⟩ = some (.int .i64 b) := by rw [cell_of 5 HC1.out]; rfl
  have q6 : w1.cell? ⟨w.heap.size, 6, none⟩ = some (.slice none 0 0) := by rw [cell_of 6 HC1.out]; rfl
  clear hb1 HX
  go_wp2_with fail
  refine (CF.out _).mono ?_
  rintro e w2 ⟨⟨g, rfl⟩, hb2⟩
  clear q0 q1 q2 q3 q4 q5 q6
  have HC2 : Hid (w2.heap[w.heap.size]? = some (.cells #[.int .i64 s, .int .i64 o, .int .i64 d, .int .i64 a, .int .i64 f, .int .i64 b, .slice none 0 0] 39)) := Lib.hid ((hb2.block _ (lt_of HC1.out)).trans HC1.out)
  have HB2 := Lib.hid (HB1.out.trans (hb2.mono HB1.out.size))
  have q0 : w2.cell? ⟨w.heap.size, 0, none⟩ = some (.int .i64 s) := by rw [cell_of 0 HC2.out]; rfl
  have q1 : w2.cell? ⟨w.heap.size, 1, none⟩ = some (.int .i64 o) := by rw [cell_of 1 HC2.out]; rfl
  have q2 : w2.cell? ⟨w.heap.size, 2, none⟩ = some (.int .i64 d) := by rw [cell_of 2 HC2.out]; rfl
  have q3 : w2.cell? ⟨w.heap.size, 3, none⟩ = some (.int .i64 a) := by rw [cell_of 3 HC2.out]; rfl
  have q4 : w2.cell? ⟨w.heap.size, 4, none⟩ = some (.int .i64 f) := by rw [cell_of 4 HC2.out]; rfl
  have q5 : w2.cell? ⟨w.heap.size, 5, none⟩ = some (.int .i64 b) := by rw [cell_of 5 HC2.out]; rfl
  have q6 : w2.cell? ⟨w.heap.size, 6, none⟩ = some (.slice none 0 0) := by rw [cell_of 6 HC2.out]; rfl
  clear hb2 HC1
  go_wp2_with fail
  refine (CM.out _).mono ?_
  rintro e w3 ⟨⟨m, rfl⟩, hb3⟩
  have HB3 := Lib.hid (HB2.out.trans (hb3.mono HB2.out.size))
  clear hb3 HC2 q0 q1 q2 q3 q4 q5 q6
  go_wp2
  exact bodyPost_ret (results_tmp4m rfl _ _ _) rfl ⟨⟨_, _, _, rfl⟩, HB3.out⟩
end Go.Proofs.YtgenpgfhjhcahaaGreatDoor
/- The page's example. -/
namespace Go.Proofs.YtgenpgfhjhcahaaGreatDoor
open Go.ChangeShapes Go.WideShapes Go.ChangeAt Go.RowKit
set_option linter.unusedVariables false
/-- The page's example. -/
def doc29 : List UInt8 := [60, 63, 120, 109, 108, 32, 118, 101, 114, 115, 105, 111, 110, 61, 34, 49, 46, 48, 34, 63, 62, 60, 33, 45, 45, 97, 45, 45, 62, 60, 33, 68, 79, 67, 84, 89, 80, 69, 32, 114, 32, 91, 93, 62, 60, 114, 47, 62]
theorem doc29_dt : DtAt doc29 29 39 40 41 [114] := ⟨by decide, by decide, by decide, by kernel_rfl, by decide, by decide, by decide⟩
theorem doc29_at : RdAt doc29 ⟨true, [49, 46, 48], [], []⟩ 21 [⟨5, [], [97]⟩] 29 39 40 41 [114] 42 43 [] 44 :=
  ⟨by kernel_rfl, by decide, by kernel_rfl, doc29_dt, by kernel_rfl, by decide, by decide, by decide, by kernel_rfl, by decide⟩
set_option maxRecDepth 100000 in
set_option maxHeartbeats 8000000 in
theorem live29_c (w : World) (hW : W29 w) (hWd : WordsD w) : Calls Tryz.prog 5 #[] w fun e w' => e = .returned (.bool true) ∧ Below w.heap.size w w' := by
  have kc := fun (w : World) (C : Array Value) (n c : Nat) => Lib.run_convert_bytes_const (P := Tryz.prog) w 22 5 C n c Tryz.underlying22 Tryz.underlying5
  have CM := Lib.hid (make_c 99 0 9 0 0 0 (by intro x hx; simp at hx; rcases hx with rfl | rfl | rfl | rfl | rfl | rfl <;> omega) w)
  have HW := Lib.hid (And.intro hW hWd)
  clear hW hWd
  go_enter Tryz.func5, Tryz.ntmps5
  go_wp2_with fail
  refine CM.out.mono ?_
  rintro e w1 ⟨⟨t, g, m, rfl⟩, hb1⟩
  have HB1 := Lib.hid hb1
  clear hb1 CM
  go_wp2_with fail
  have hac := alloc_const w1 doc29 (48, 49) (by decide)
  have hb2 : Below w.heap.size w (w1.alloc (.cells (doc29.map bv).toArray 5 (48, 49))) := HB1.out.trans (hac.1.mono HB1.out.size)
  have CR : Hid (Calls Tryz.prog 10 #[.slice (some ⟨w1.heap.size, 0, none⟩) 48 48, .pointer (some ⟨t, 0, none⟩), .pointer (some ⟨g, 0, none⟩), .pointer (some ⟨m, 0, none⟩)] (w1.alloc (.cells #[.int .u8 60, .int .u8 63, .int .u8 120, .int .u8 109, .int .u8 108, .int .u8 32, .int .u8 118, .int .u8 101, .int .u8 114, .int .u8 115, .int .u8 105, .int .u8 111, .int .u8 110, .int .u8 61, .int .u8 34, .int .u8 49, .int .u8 46, .int .u8 48, .int .u8 34, .int .u8 63, .int .u8 62, .int .u8 60, .int .u8 33, .int .u8 45, .int .u8 45, .int .u8 97, .int .u8 45, .int .u8 45, .int .u8 62, .int .u8 60, .int .u8 33, .int .u8 68, .int .u8 79, .int .u8 67, .int .u8 84, .int .u8 89, .int .u8 80, .int .u8 69, .int .u8 32, .int .u8 114, .int .u8 32, .int .u8 91, .int .u8 93, .int .u8 62, .int .u8 60, .int .u8 114, .int .u8 47, .int .u8 62] 5 (48, 49))) fun e w' => ∃ OA oc, e = .returned (.tuple #[.agg #[.bool true, .string ⟨#[49, 46, 48]⟩, .string ⟨#[]⟩, .string ⟨#[]⟩, .bool true, .string ⟨#[114]⟩, .string ⟨#[]⟩, .string ⟨#[]⟩, .bool false, .bool true, .slice OA 1 oc, .int .i64 44], .int .i64 0]) ∧ Below w.heap.size w w') := Lib.hid (by
    have := prRead_c (some ⟨w1.heap.size, 0, none⟩) 48 48 doc29 _ _ _ _ _ _ _ _ _ _ _ _ t g m (w1.alloc (.cells (doc29.map bv).toArray 5 (48, 49))) (hac.2.more (by rw [World.size_alloc]; exact Nat.le_refl _)) (HW.out.1.below hb2) (HW.out.2.below hb2 HW.out.2.lt) (by decide) doc29_at
    exact this.mono fun e w' ⟨OA, oc, he, _, hb⟩ => ⟨OA, oc, he, hb2.trans (hb.mono hb2.size)⟩)
  clear hac hb2
  refine CR.out.mono ?_
  rintro e w2 ⟨OA, oc, rfl, hb⟩
  have HB2 := Lib.hid hb
  clear hb CR
  obtain ⟨w3, hw3⟩ : ∃ w3, w2.alloc (.cells #[.bool true, .string ⟨#[49, 46, 48]⟩, .string ⟨#[]⟩, .string ⟨#[]⟩, .bool true, .string ⟨#[114]⟩, .string ⟨#[]⟩, .string ⟨#[]⟩, .bool false, .bool true, .slice OA 1 oc, .int .i64 44] 47) = w3 := ⟨_, rfl⟩
  have hc : w3.heap[w2.heap.size]? = some (.cells #[.bool true, .string ⟨#[49, 46, 48]⟩, .string ⟨#[]⟩, .string ⟨#[]⟩, .bool true, .string ⟨#[114]⟩, .string ⟨#[]⟩, .string ⟨#[]⟩, .bool false, .bool true, .slice OA 1 oc, .int .i64 44] 47) := by rw [← hw3]; exact hp_new _ _
  have HB3 : Hid (Below w.heap.size w w3) := Lib.hid (by rw [← hw3]; exact HB2.out.alloc HB2.out.size _)
  have q1 := cell_of 1 hc
  have q5 := cell_of 5 hc
  have q10 := cell_of 10 hc
  have q11 := cell_of 11 hc
  clear hc
  go_wp2
  go_ret
  exact ⟨rfl, HB3.out⟩
end Go.Proofs.YtgenpgfhjhcahaaGreatDoor
/- prolog.Misc out of range; the document's Misc. -/
namespace Go.Proofs.YtgenpgfhjhcahaaGreatDoor
open Go.ChangeShapes Go.WideShapes Go.ChangeAt Go.RowKit
set_option linter.unusedVariables false
set_option maxRecDepth 100000 in
set_option maxHeartbeats 4000000 in
theorem pgMisc_range (A : Option Addr) (n cap : Nat) (at_ : Int) (w : World) (ha : at_ < 0 ∨ (n : Int) < at_) :
    Calls Tryz.prog 6 #[.slice A n cap, .int .i64 at_] w fun e w' => e = .returned (.tuple #[.slice none 0 0, .int .i64 0, .int .i64 3]) ∧ Below w.heap.size w w' := by
  refine (callsIn_wide (n := 5)).1 ?_
  refine callsIn_of_wp_marks Tryz.func6 rfl trivial ?_ rfl
  simp only [Tryz.ntmps6, List.size_toArray, List.length_cons, List.length_nil, Nat.reduceAdd, Nat.reduceSub, Array.replicate_succ, Array.replicate_zero, List.push_toArray, List.append_toArray, List.nil_append, List.cons_append]
  have hB0 : Below w.heap.size w ((((w.alloc (.cells #[.int .i64 at_] 3)).alloc (.cells #[.slice none 0 0] 24)).alloc (.cells #[.int .i64 0] 3)).alloc (.cells #[.int .i64 3] 25)) :=
    ((((Below.refl _ w).alloc (Nat.le_refl _) _).alloc (by simp) _).alloc (by simp; omega) _).alloc (by simp; omega) _
  have u1 := hp_old (o := .cells #[.int .i64 3] 25) (hp_old (o := .cells #[.int .i64 0] 3) (hp_at (w.alloc (.cells #[.int .i64 at_] 3)) (.cells #[.slice none 0 0] 24) (g := w.heap.size + 1) (by simp)))
  have u2 := hp_old (o := .cells #[.int .i64 3] 25) (hp_at ((w.alloc (.cells #[.int .i64 at_] 3)).alloc (.cells #[.slice none 0 0] 24)) (.cells #[.int .i64 0] 3) (g := w.heap.size + 1 + 1) (by simp))
  have u3 := hp_at (((w.alloc (.cells #[.int .i64 at_] 3)).alloc (.cells #[.slice none 0 0] 24)).alloc (.cells #[.int .i64 0] 3)) (.cells #[.int .i64 3] 25) (g := w.heap.size + 1 + 1 + 1) (by simp)
  have c1 := cell_of 0 u1
  have c2 := cell_of 0 u2
  have c3 := cell_of 0 u3
  have HB := Lib.hid (And.intro hB0 (And.intro c1 (And.intro c2 c3)))
  clear hB0 u1 u2 u3 c1 c2 c3
  by_cases h0 : at_ < 0
  · clear ha
    gi_wp2
    refine ⟨.tuple #[.slice none 0 0, .int .i64 0, .int .i64 3], ?_, ⟨rfl, HB.out.1⟩⟩
    obtain ⟨_, c1, c2, c3⟩ := HB.out
    simp [results, Tryz.f6, go_sem, c1, c2, c3]
  · have h1 : (n : Int) < at_ := by omega
    clear ha
    gi_wp2
    refine ⟨.tuple #[.slice none 0 0, .int .i64 0, .int .i64 3], ?_, ⟨rfl, HB.out.1⟩⟩
    obtain ⟨_, c1, c2, c3⟩ := HB.out
    simp [results, Tryz.f6, go_sem, c1, c2, c3]
end Go.Proofs.YtgenpgfhjhcahaaGreatDoor
/- The document's Misc. -/
namespace Go.Proofs.YtgenpgfhjhcahaaGreatDoor
open Go.ChangeShapes Go.WideShapes Go.ChangeAt Go.RowKit
set_option linter.unusedVariables false
set_option maxRecDepth 100000 in
set_option maxHeartbeats 4000000 in
theorem refMisc_range (A : Option Addr) (n cap : Nat) (at_ : Int) (w : World) (ha : at_ < 0 ∨ (n : Int) < at_) :
    Calls Tryz.prog 7 #[.slice A n cap, .int .i64 at_] w fun e w' => e = .returned (.tuple #[.slice none 0 0, .int .i64 0, .int .i64 3]) ∧ w = w' := by
  by_cases h0 : at_ < 0
  · clear ha
    go_enter Tryz.func7, Tryz.ntmps7
    go_wp2
    go_ret3
    exact ⟨rfl, rfl⟩
  · have h1 : (n : Int) < at_ := by omega
    clear ha
    go_enter Tryz.func7, Tryz.ntmps7
    go_wp2
    go_ret3
    exact ⟨rfl, rfl⟩
theorem infoC_evD : ∃ i, Tryz.prog.info? 54 = some i ∧ i.zero = some (.agg #[.int .i64 0, .string ⟨#[]⟩, .string ⟨#[]⟩, .slice none 0 0, .string ⟨#[]⟩]) ∧ i.size = 5 ∧ i.bytes = 80 := by
  have h : (Tryz.prog.info? 54).map (fun i => (i.zero, i.size, i.bytes)) = some (some (.agg #[.int .i64 0, .string ⟨#[]⟩, .string ⟨#[]⟩, .slice none 0 0, .string ⟨#[]⟩]), 5, 80) := by kernel_rfl
  obtain ⟨i, h1, h2, h3, h4⟩ := info_parts h
  exact ⟨i, h1, h2, h3, h4⟩
set_option maxRecDepth 100000 in
set_option maxHeartbeats 8000000 in
theorem refMisc_c (A : Option Addr) (n cap : Nat) (l : List UInt8) (k0 : Nat) (w : World) (h : Byt w w.heap.size A n cap l) (hm : n ≤ 50000) (hk0 : k0 ≤ n) :
    Calls Tryz.prog 7 #[.slice A n cap, .int .i64 (k0 : Nat)] w fun e w' => ∃ OA oc, e = .returned (.tuple #[.slice OA (miscOut l k0).1.length oc, .int .i64 ((miscOut l k0).2.1 : Nat), .int .i64 ((miscOut l k0).2.2 : Nat)]) ∧ OwnC cMis 5 54 w' w.heap.size (.slice OA (miscOut l k0).1.length oc) (miscOut l k0).1 ∧ Below w.heap.size w w' := by
  have HB := Lib.hid h
  have HN : Hid (l.length = n) := Lib.hid h.length
  have hz0 : (0 : Int) ≤ (k0 : Int) := by omega
  have hz1 : ¬ (n : Int) < (k0 : Int) := by omega
  clear h
  go_enter Tryz.func7, Tryz.ntmps7
  go_wp2
  go_loopg [1, 7] (n - k0) (fun g i v wr => ∃ (k : Nat) (acc : List MisT), i = .int .i64 (k : Nat) ∧ k ≤ n ∧ Hid (g + k = n) ∧ Hid (outM l (evsM l k) acc k = miscOut l k0) ∧ Hid (acc.length ≤ k) ∧ Hid (Below w.heap.size w wr ∧ OwnC cMis 5 54 wr w.heap.size v acc))
  case atStart => exact ⟨k0, [], rfl, hk0, Lib.hid (by omega), Lib.hid rfl, Lib.hid (by simp), Lib.hid ⟨Below.refl _ _, OwnC.start _ _ _ _ _⟩⟩
  case round =>
    clear hz0 hz1
    obtain ⟨k, acc, rfl, hk, hg, HE, HA, HJ⟩ := hrel
    obtain ⟨A0, c0, hv0⟩ := HJ.out.2.form
    subst hv0
    have hbl := blankTo_le l k (by rw [HN.out]; exact hk)
    rw [HN.out] at hbl
    have CB : Hid (Calls Tryz.prog 14 #[.slice A n cap, .int .i64 (k : Nat)] wr fun e w' => e = .returned (.int .i64 (blankTo l k : Nat)) ∧ wr = w') := Lib.hid (refBlanks_c A n cap l k w.heap.size wr (HB.out.below HJ.out.1) (by omega) hk)
    obtain ⟨t, ht⟩ : ∃ t, blankTo l k = t := ⟨_, rfl⟩
    rw [ht] at CB hbl
    have HT := Lib.hid ht
    clear ht
    have CA : Hid (∀ (p : List UInt8), p ≠ [] → p.length ≤ 1000000 → Calls Tryz.prog 15 #[.slice A n cap, .int .i64 (t : Nat), .string ⟨p.toArray⟩] wr fun e w' => e = .returned (.bool (p.isPrefixOf (l.drop t))) ∧ wr = w') := Lib.hid fun p h1 h2 => refAt8_c A n cap l t p w.heap.size wr (HB.out.below HJ.out.1) h1 (by omega) h2 (by omega)
    have CC : Hid (Calls Tryz.prog 16 #[.slice A n cap, .int .i64 (t : Nat)] wr fun e w' => e = .returned (outV (commentOut l t)) ∧ wr = w') := Lib.hid (refComment_c A n cap l t w.heap.size wr (HB.out.below HJ.out.1) (by omega) hbl.2)
    have CP : Hid (Calls Tryz.prog 17 #[.slice A n cap, .int .i64 (t : Nat)] wr fun e w' => e = .returned (out4V (piOut l t)) ∧ Below wr.heap.size wr w') := Lib.hid (refPi_in A n cap l t wr ((HB.out.below HJ.out.1).more HJ.out.1.size) hm hbl.2 fun W _ => (refReserved_c _ W).mono fun e w' ⟨he, hw⟩ => ⟨he, hw ▸ Below.refl _ _⟩)
    have C1 := Lib.hid (CA.out [60, 33, 45, 45] (by decide) (by decide))
    have C2 := Lib.hid (CA.out [60, 63] (by decide) (by decide))
    obtain ⟨p1, hp1⟩ : ∃ p, [60, 33, 45, 45].isPrefixOf (l.drop t) = p := ⟨_, rfl⟩
    obtain ⟨p2, hp2⟩ : ∃ p, [60, 63].isPrefixOf (l.drop t) = p := ⟨_, rfl⟩
    rw [hp1] at C1
    rw [hp2] at C2
    have HP := Lib.hid (And.intro hp1 hp2)
    clear CA hp1 hp2
    have hfirst : p1 = true ∨ (p1 = false ∧ p2 = true) ∨ (p1 = false ∧ p2 = false) := by cases p1 <;> cases p2 <;> simp
    rcases hfirst with rfl | ⟨rfl, rfl⟩ | ⟨rfl, rfl⟩
    · have hx : misAt l t = some (⟨5, [], (commentOut l t).1⟩, (commentOut l t).2.1, (commentOut l t).2.2) := by unfold misAt; rw [if_pos HP.out.1]
      obtain ⟨⟨tx, nx, f⟩, hX⟩ : ∃ x, commentOut l t = x := ⟨_, rfl⟩
      rw [hX] at hx CC
      dsimp only at hx
      have HX := Lib.hid hx
      have HNX : Hid (f = 0 → k < nx ∧ nx ≤ n) := Lib.hid fun hf => by
        subst hf
        have := misAt_ok (by rw [HN.out]; exact hbl.2) hx
        rw [HN.out] at this
        omega
      unfold outV at CC
      clear hX hx CP C2
      · by_cases hf : f = 0
        · subst hf
          have hnx := HNX.out rfl
          have HNX2 := Lib.hid hnx
          have HRS : Hid (outM l (evsM l nx) (acc ++ [⟨5, [], tx⟩]) nx = miscOut l k0) := Lib.hid (by rw [← HE.out, outM_more (t := k) (nx := nx) (acc := acc) (by rw [HN.out]; exact hk) (by rw [HT.out]; exact HX.out)])
          clear hnx
          go_wp2_with fail
          refine CB.out.mono ?_
          rintro e w2 ⟨rfl, rfl⟩
          go_wp2_with fail
          refine C1.out.mono ?_
          rintro e w2 ⟨rfl, rfl⟩
          go_wp2_with fail
          refine CC.out.mono ?_
          rintro e w2 ⟨rfl, rfl⟩
          have HJ1 := HJ
          clear CB C1 CC
          have hown : wr.ownsRow w.heap.size 54 5 (.slice A0 acc.length c0) acc.length (acc.flatMap cMis) := HJ1.out.2
          have hpl : acc.length ≤ 1000000000 := by have := HA.out; omega
          have hba : w.heap.size ≤ wr.heap.size := HJ1.out.1.size
          go_wp2_with (at_builtin; refine wpList_appK rfl (.tmp 39) (.tmp 42) 24 54 rfl (.agg #[.int .i64 0, .string ⟨#[]⟩, .string ⟨#[]⟩, .slice none 0 0, .string ⟨#[]⟩]) 5 80 Tryz.underlying24 infoC_evD rfl (by decide) _ _ _ _ rfl hown (cMis ⟨5, [], tx⟩) _ rfl rfl rfl (by simp [cMis, Value.oneCell']) hpl (by decide) hba ?_)
          intro v6 w6 hown6 hg6 hat6
          have O6 := Lib.hid (OwnC.snoc (c := cMis) (x := ⟨5, [], tx⟩) hown6)
          have kb := (Below.refl wr.heap.size wr).alloc (Nat.le_refl _) (.cells (cMis ⟨5, [], tx⟩).toArray 54)
          have HB6 := Lib.hid ((HJ1.out.1.trans (kb.mono HJ1.out.1.size)).grown hg6 (by rw [World.size_alloc wr]; omega) (fun j hj => (HJ1.out.2.ge hj).2))
          clear hown6 hg6 hat6 hown kb hba
          go_wp2
          go_roundg (n - nx)
          case measure => have := hg.out; have := HNX2.out; omega
          case rel => exact ⟨nx, acc ++ [⟨5, [], tx⟩], by go_num, HNX2.out.2, Lib.hid (by have := hg.out; have := HNX2.out; omega), HRS, Lib.hid (by have := HA.out; have := HNX2.out; rw [List.length_append]; simp; omega), Lib.hid ⟨HB6.out, O6.out⟩⟩
        · have hf2 : ((f : Int) != 0) = true := by simpa using hf
          have hf3 : ¬ ((f : Nat) : Int) = 0 := by omega
          have HRS : Hid (miscOut l k0 = ([], 0, f)) := Lib.hid (by rw [← HE.out, outM_bad (t := k) (nx := nx) (acc := acc) (by rw [HT.out]; exact HX.out) hf])
          clear hf
          go_wp2_with fail
          refine CB.out.mono ?_
          rintro e w2 ⟨rfl, rfl⟩
          go_wp2_with fail
          refine C1.out.mono ?_
          rintro e w2 ⟨rfl, rfl⟩
          go_wp2_with fail
          refine CC.out.mono ?_
          rintro e w2 ⟨rfl, rfl⟩
          have HJ1 := HJ
          clear CB C1 CC
          go_wp2
          go_ret3
          exact ⟨none, 0, by rw [HRS.out]; rfl, by rw [HRS.out]; exact OwnC.start _ _ _ _ _, HJ1.out.1⟩
    · have hx : misAt l t = some (⟨4, (piOut l t).1, (piOut l t).2.1⟩, (piOut l t).2.2.1, (piOut l t).2.2.2) := by unfold misAt; rw [if_neg (by rw [HP.out.1]; simp), if_pos HP.out.2]
      obtain ⟨⟨nm, tx, nx, f⟩, hX⟩ : ∃ x, piOut l t = x := ⟨_, rfl⟩
      rw [hX] at hx CP
      dsimp only at hx
      have HX := Lib.hid hx
      have HNX : Hid (f = 0 → k < nx ∧ nx ≤ n) := Lib.hid fun hf => by
        subst hf
        have := misAt_ok (by rw [HN.out]; exact hbl.2) hx
        rw [HN.out] at this
        omega
      unfold out4V at CP
      clear hX hx CC
      · by_cases hf : f = 0
        · subst hf
          have hnx := HNX.out rfl
          have HNX2 := Lib.hid hnx
          have HRS : Hid (outM l (evsM l nx) (acc ++ [⟨4, nm, tx⟩]) nx = miscOut l k0) := Lib.hid (by rw [← HE.out, outM_more (t := k) (nx := nx) (acc := acc) (by rw [HN.out]; exact hk) (by rw [HT.out]; exact HX.out)])
          clear hnx
          go_wp2_with fail
          refine CB.out.mono ?_
          rintro e w2 ⟨rfl, rfl⟩
          go_wp2_with fail
          refine C1.out.mono ?_
          rintro e w2 ⟨rfl, rfl⟩
          go_wp2_with fail
          refine C2.out.mono ?_
          rintro e w2 ⟨rfl, rfl⟩
          go_wp2_with fail
          refine CP.out.mono ?_
          rintro e w9 ⟨rfl, hb9⟩
          have HJ1 := Lib.hid (And.intro (HJ.out.1.trans (hb9.mono HJ.out.1.size)) (HJ.out.2.kept hb9))
          clear CB C1 C2 CP hb9
          have hown : w9.ownsRow w.heap.size 54 5 (.slice A0 acc.length c0) acc.length (acc.flatMap cMis) := HJ1.out.2
          have hpl : acc.length ≤ 1000000000 := by have := HA.out; omega
          have hba : w.heap.size ≤ w9.heap.size := HJ1.out.1.size
          go_wp2_with (at_builtin; refine wpList_appK rfl (.tmp 59) (.tmp 64) 24 54 rfl (.agg #[.int .i64 0, .string ⟨#[]⟩, .string ⟨#[]⟩, .slice none 0 0, .string ⟨#[]⟩]) 5 80 Tryz.underlying24 infoC_evD rfl (by decide) _ _ _ _ rfl hown (cMis ⟨4, nm, tx⟩) _ rfl rfl rfl (by simp [cMis, Value.oneCell']) hpl (by decide) hba ?_)
          intro v6 w6 hown6 hg6 hat6
          have O6 := Lib.hid (OwnC.snoc (c := cMis) (x := ⟨4, nm, tx⟩) hown6)
          have kb := (Below.refl w9.heap.size w9).alloc (Nat.le_refl _) (.cells (cMis ⟨4, nm, tx⟩).toArray 54)
          have HB6 := Lib.hid ((HJ1.out.1.trans (kb.mono HJ1.out.1.size)).grown hg6 (by rw [World.size_alloc w9]; omega) (fun j hj => (HJ1.out.2.ge hj).2))
          clear hown6 hg6 hat6 hown kb hba
          go_wp2
          go_roundg (n - nx)
          case measure => have := hg.out; have := HNX2.out; omega
          case rel => exact ⟨nx, acc ++ [⟨4, nm, tx⟩], by go_num, HNX2.out.2, Lib.hid (by have := hg.out; have := HNX2.out; omega), HRS, Lib.hid (by have := HA.out; have := HNX2.out; rw [List.length_append]; simp; omega), Lib.hid ⟨HB6.out, O6.out⟩⟩
        · have hf2 : ((f : Int) != 0) = true := by simpa using hf
          have hf3 : ¬ ((f : Nat) : Int) = 0 := by omega
          have HRS : Hid (miscOut l k0 = ([], 0, f)) := Lib.hid (by rw [← HE.out, outM_bad (t := k) (nx := nx) (acc := acc) (by rw [HT.out]; exact HX.out) hf])
          clear hf
          go_wp2_with fail
          refine CB.out.mono ?_
          rintro e w2 ⟨rfl, rfl⟩
          go_wp2_with fail
          refine C1.out.mono ?_
          rintro e w2 ⟨rfl, rfl⟩
          go_wp2_with fail
          refine C2.out.mono ?_
          rintro e w2 ⟨rfl, rfl⟩
          go_wp2_with fail
          refine CP.out.mono ?_
          rintro e w9 ⟨rfl, hb9⟩
          have HJ1 := Lib.hid (And.intro (HJ.out.1.trans (hb9.mono HJ.out.1.size)) (HJ.out.2.kept hb9))
          clear CB C1 C2 CP hb9
          go_wp2
          go_ret3
          exact ⟨none, 0, by rw [HRS.out]; rfl, by rw [HRS.out]; exact OwnC.start _ _ _ _ _, HJ1.out.1⟩
    · have HRS : Hid (miscOut l k0 = (acc, t, 0)) := Lib.hid (by rw [← HE.out, outM_none (by rw [HT.out]; unfold misAt; rw [if_neg (by rw [HP.out.1]; simp), if_neg (by rw [HP.out.2]; simp)]), HT.out])
      clear CC CP
      go_wp2_with fail
      refine CB.out.mono ?_
      rintro e w2 ⟨rfl, rfl⟩
      go_wp2_with fail
      refine C1.out.mono ?_
      rintro e w2 ⟨rfl, rfl⟩
      go_wp2_with fail
      refine C2.out.mono ?_
      rintro e w2 ⟨rfl, rfl⟩
      go_wp2
      go_ret3
      exact ⟨A0, c0, by rw [HRS.out]; rfl, by rw [HRS.out]; exact HJ.out.2, HJ.out.1⟩
end Go.Proofs.YtgenpgfhjhcahaaGreatDoor
/- The document's One and Same, of what is the same. -/
namespace Go.Proofs.YtgenpgfhjhcahaaGreatDoor
open Go.ChangeShapes Go.WideShapes Go.ChangeAt Go.RowKit
set_option linter.unusedVariables false
theorem cMis_len : ∀ x : MisT, (cMis x).length = 5 := fun _ => rfl
set_option maxRecDepth 100000 in
set_option maxHeartbeats 4000000 in
theorem refOne_c (kd : Nat) (nm tx : List UInt8) (w : World) : Calls Tryz.prog 11 #[.agg #[.int .i64 (kd : Nat), .string ⟨#[]⟩, .string ⟨nm.toArray⟩, .slice none 0 0, .string ⟨tx.toArray⟩], .agg #[.int .i64 (kd : Nat), .string ⟨#[]⟩, .string ⟨nm.toArray⟩, .slice none 0 0, .string ⟨tx.toArray⟩]] w fun e w' => e = .returned (.bool true) ∧ Below w.heap.size w w' := by
  obtain ⟨W1, hW1⟩ : ∃ W1, w.alloc (.cells #[.int .i64 (kd : Nat), .string ⟨#[]⟩, .string ⟨nm.toArray⟩, .slice none 0 0, .string ⟨tx.toArray⟩] 54) = W1 := ⟨_, rfl⟩
  obtain ⟨W2, hW2⟩ : ∃ W2, W1.alloc (.cells #[.int .i64 (kd : Nat), .string ⟨#[]⟩, .string ⟨nm.toArray⟩, .slice none 0 0, .string ⟨tx.toArray⟩] 54) = W2 := ⟨_, rfl⟩
  have h1 : W2.heap[w.heap.size]? = some (.cells #[.int .i64 (kd : Nat), .string ⟨#[]⟩, .string ⟨nm.toArray⟩, .slice none 0 0, .string ⟨tx.toArray⟩] 54) := by rw [← hW2]; exact hp_old (by rw [← hW1]; exact hp_new _ _)
  have h2 : W2.heap[W1.heap.size]? = some (.cells #[.int .i64 (kd : Nat), .string ⟨#[]⟩, .string ⟨nm.toArray⟩, .slice none 0 0, .string ⟨tx.toArray⟩] 54) := by rw [← hW2]; exact hp_new _ _
  have hB : Below w.heap.size w W2 := by
    have := (Below.refl w.heap.size w).alloc (Nat.le_refl _) (.cells #[.int .i64 (kd : Nat), .string ⟨#[]⟩, .string ⟨nm.toArray⟩, .slice none 0 0, .string ⟨tx.toArray⟩] 54)
    rw [hW1] at this
    rw [← hW2]
    exact this.alloc this.size _
  have a0 := cell_of 0 h1
  have a1 := cell_of 1 h1
  have a2 := cell_of 2 h1
  have a3 := cell_of 3 h1
  have a4 := cell_of 4 h1
  have b0 := cell_of 0 h2
  have b1 := cell_of 1 h2
  have b2 := cell_of 2 h2
  have b3 := cell_of 3 h2
  have b4 := cell_of 4 h2
  have HB := Lib.hid hB
  clear h1 h2 hB
  go_enter Tryz.func11, Tryz.ntmps11
  go_wp2
  go_loopg [5] (0) (fun g i wr => i = .int .i64 0 ∧ wr = W2)
  case atStart => exact ⟨rfl, rfl⟩
  case round =>
    obtain ⟨rfl, rfl⟩ := hrel
    go_wp2
    go_ret
    exact ⟨rfl, HB.out⟩
end Go.Proofs.YtgenpgfhjhcahaaGreatDoor
