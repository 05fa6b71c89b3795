/- Texts of ours, joined: TkR, TkG, Tok2. -/
import Derived.Test.YtmclngahdklfkaaGreatDoorRows
import Derived.WalkKit
import Derived.ProofKit
import Derived.OpenShut
import Derived.ShutString
import Derived.ChangeOld
import Derived.Below
import Derived.BigQuiet
import Derived.Deep.QuietTactic
import Derived.Lib.Hide
import Derived.Deep.RegionHeld3
import Derived.Lib.SlBytesConst
import Derived.Laws.CopyOwn
import Derived.Laws.CopyRow
import Derived.Lib.Bytes
import Derived.Deep.LoopGhost
import Derived.Deep.DeepFit
import Derived.Deep.DeepMust
import Derived.WalkSpells
import Derived.WalkLawsBesides
import Derived.Maps.OwnOps
import Derived.Maps.OwnSet
import Derived.Maps.Views
import Derived.Laws.EntriesVeiled
import Derived.Laws.Rows
import Derived.Maps.AppendAt
import Derived.Lib.SmallJoins
import Derived.Deep.AppendLies
import Derived.Deep.RegionLaw
import Derived.Deep.RegionWith
import Derived.Test.YtmclngahdklfkaaGreatDoorT1
import Derived.Test.YtmclngahdklfkaaGreatDoorT6
import Derived.Test.YtmclngahdklfkaaGreatDoorT2
import Derived.Test.YtmclngahdklfkaaGreatDoorT4
import Derived.Test.YtmclngahdklfkaaGreatDoorT5
import Derived.Test.YtmclngahdklfkaaGreatDoorT7
import Derived.Test.YtmclngahdklfkaaGreatDoorT8
import Derived.Test.YtmclngahdklfkaaGreatDoorT9
import Derived.Test.YtmclngahdklfkaaGreatDoorT10
import Derived.Test.YtmclngahdklfkaaGreatDoorT11
import Derived.Test.YtmclngahdklfkaaGreatDoorT12
import Derived.Test.YtmclngahdklfkaaGreatDoorT13
/- The document's Put of tokens. -/
namespace Go.Proofs.YtmclngahdklfkaaGreatDoor
open Go.ChangeShapes Go.WideShapes Go.ChangeAt Go.RowKit
set_option linter.unusedVariables false
theorem find_any (s : List UInt8) : (s.any (amL.contains ·) || Lib.contains s [93, 93, 62]) = (decide (0 ≤ findI s 0 [60]) || decide (0 ≤ findI s 0 [38]) || decide (0 ≤ findI s 0 [93, 93, 62])) := by
  rw [any_two, contains_findI, contains_findI, contains_findI]
set_option maxRecDepth 100000 in
set_option maxHeartbeats 4000000 in
theorem refPut1_c (fro to_ r : Int) (name text : List UInt8) (PA : Option Addr) (pn pc : Nat) (ps : List PairL) (w : World) (ht : text.length ≤ 5000) :
    Calls Tryz.prog 28 #[.agg #[.int .i64 1, .int .i64 fro, .int .i64 to_, .string ⟨name.toArray⟩, .string ⟨text.toArray⟩, .slice PA pn pc, .int .i64 r]] w fun e w' => e = .returned (out2V (putTok ⟨1, fro, to_, name, text, ps, r⟩)) ∧ Below w.heap.size w w' := by
  have j0 := CJ.start 30 w #[.int .i64 1, .int .i64 fro, .int .i64 to_, .string ⟨name.toArray⟩, .string ⟨text.toArray⟩, .slice PA pn pc, .int .i64 r]
  have cv := run_toBytes (w.alloc (.cells #[.int .i64 1, .int .i64 fro, .int .i64 to_, .string ⟨name.toArray⟩, .string ⟨text.toArray⟩, .slice PA pn pc, .int .i64 r] 30)) text
  have hby := byt_new (w.alloc (.cells #[.int .i64 1, .int .i64 fro, .int .i64 to_, .string ⟨name.toArray⟩, .string ⟨text.toArray⟩, .slice PA pn pc, .int .i64 r] 30)) text (by omega)
  have j1 := j0.kept (Lib.bytesWorld_below (w.alloc (.cells #[.int .i64 1, .int .i64 fro, .int .i64 to_, .string ⟨name.toArray⟩, .string ⟨text.toArray⟩, .slice PA pn pc, .int .i64 r] 30)) 5 ⟨text.toArray⟩)
  obtain ⟨V, hV⟩ : ∃ V, Lib.bytesWorld (w.alloc (.cells #[.int .i64 1, .int .i64 fro, .int .i64 to_, .string ⟨name.toArray⟩, .string ⟨text.toArray⟩, .slice PA pn pc, .int .i64 r] 30)) 5 ⟨text.toArray⟩ = V := ⟨_, rfl⟩
  rw [hV] at cv hby j1
  rw [World.size_alloc] at cv hby
  generalize grownCap (w.alloc (.cells #[.int .i64 1, .int .i64 fro, .int .i64 to_, .string ⟨name.toArray⟩, .string ⟨text.toArray⟩, .slice PA pn pc, .int .i64 r] 30)) text.length 0 5 = gc at cv hby
  have J0 := Lib.hid j0
  have J1 := Lib.hid j1
  have HBY := Lib.hid hby
  have y0 := cell_of 0 J0.out.2
  have y4 := cell_of 4 J0.out.2
  clear j0 j1 hby hV
  have C1 : Hid (Calls Tryz.prog 38 #[.slice (some ⟨w.heap.size + 1, 0, none⟩) text.length gc, .int .i64 0, .string ⟨#[60]⟩] V fun e w' => e = .returned (.int .i64 (findI text 0 [60])) ∧ V = w') := Lib.hid (refFind_c _ _ _ text 0 [60] _ _ HBY.out (by simp) (by omega) (by simp) (Nat.zero_le _))
  have C2 : Hid (Calls Tryz.prog 38 #[.slice (some ⟨w.heap.size + 1, 0, none⟩) text.length gc, .int .i64 0, .string ⟨#[38]⟩] V fun e w' => e = .returned (.int .i64 (findI text 0 [38])) ∧ V = w') := Lib.hid (refFind_c _ _ _ text 0 [38] _ _ HBY.out (by simp) (by omega) (by simp) (Nat.zero_le _))
  have C3 : Hid (Calls Tryz.prog 38 #[.slice (some ⟨w.heap.size + 1, 0, none⟩) text.length gc, .int .i64 0, .string ⟨#[93, 93, 62]⟩] V fun e w' => e = .returned (.int .i64 (findI text 0 [93, 93, 62])) ∧ V = w') := Lib.hid (refFind_c _ _ _ text 0 [93, 93, 62] _ _ HBY.out (by simp) (by omega) (by simp) (Nat.zero_le _))
  have HE : putTok ⟨1, fro, to_, name, text, ps, r⟩ = if (decide (0 ≤ findI text 0 [60]) || decide (0 ≤ findI text 0 [38]) || decide (0 ≤ findI text 0 [93, 93, 62])) = true then ([], 7) else (text, 0) := by
    unfold putTok
    rw [if_pos rfl, find_any]
  rw [HE]
  clear HE HBY ht
  have z0 := cell_of 0 J1.out.2
  have z4 := cell_of 4 J1.out.2
  generalize findI text 0 [60] = f1 at *
  generalize findI text 0 [38] = f2 at *
  generalize findI text 0 [93, 93, 62] = f3 at *
  by_cases h1 : 0 ≤ f1
  · rw [if_pos (by simp [h1])]
    go_enter Tryz.func28, Tryz.ntmps28
    go_wp2_with fail
    refine C1.out.mono ?_
    rintro e wq ⟨rfl, hwq⟩
    subst hwq
    go_wp2
    go_ret2
    exact ⟨rfl, J1.out.1⟩
  · by_cases h2 : 0 ≤ f2
    · rw [if_pos (by simp [h2])]
      go_enter Tryz.func28, Tryz.ntmps28
      go_wp2_with fail
      refine C1.out.mono ?_
      rintro e wq ⟨rfl, hwq⟩
      subst hwq
      go_wp2_with fail
      refine C2.out.mono ?_
      rintro e wq ⟨rfl, hwq⟩
      subst hwq
      go_wp2
      go_ret2
      exact ⟨rfl, J1.out.1⟩
    · by_cases h3 : 0 ≤ f3
      · rw [if_pos (by simp [h3])]
        go_enter Tryz.func28, Tryz.ntmps28
        go_wp2_with fail
        refine C1.out.mono ?_
        rintro e wq ⟨rfl, hwq⟩
        subst hwq
        go_wp2_with fail
        refine C2.out.mono ?_
        rintro e wq ⟨rfl, hwq⟩
        subst hwq
        go_wp2_with fail
        refine C3.out.mono ?_
        rintro e wq ⟨rfl, hwq⟩
        subst hwq
        go_wp2
        go_ret2
        exact ⟨rfl, J1.out.1⟩
      · rw [if_neg (by simp [h1, h2, h3])]
        go_enter Tryz.func28, Tryz.ntmps28
        go_wp2_with fail
        refine C1.out.mono ?_
        rintro e wq ⟨rfl, hwq⟩
        subst hwq
        go_wp2_with fail
        refine C2.out.mono ?_
        rintro e wq ⟨rfl, hwq⟩
        subst hwq
        go_wp2_with fail
        refine C3.out.mono ?_
        rintro e wq ⟨rfl, hwq⟩
        subst hwq
        go_wp2
        go_ret2
        exact ⟨rfl, J1.out.1⟩
set_option maxRecDepth 100000 in
set_option maxHeartbeats 4000000 in
theorem refPut2_c (fro to_ r : Int) (name text : List UInt8) (PA : Option Addr) (pn pc : Nat) (ps : List PairL) (w : World) (ht : text.length ≤ 5000) :
    Calls Tryz.prog 28 #[.agg #[.int .i64 2, .int .i64 fro, .int .i64 to_, .string ⟨name.toArray⟩, .string ⟨text.toArray⟩, .slice PA pn pc, .int .i64 r]] w fun e w' => e = .returned (out2V (putTok ⟨2, fro, to_, name, text, ps, r⟩)) ∧ Below w.heap.size w w' := by
  have j0 := CJ.start 30 w #[.int .i64 2, .int .i64 fro, .int .i64 to_, .string ⟨name.toArray⟩, .string ⟨text.toArray⟩, .slice PA pn pc, .int .i64 r]
  have cv := run_toBytes (w.alloc (.cells #[.int .i64 2, .int .i64 fro, .int .i64 to_, .string ⟨name.toArray⟩, .string ⟨text.toArray⟩, .slice PA pn pc, .int .i64 r] 30)) text
  have hby := byt_new (w.alloc (.cells #[.int .i64 2, .int .i64 fro, .int .i64 to_, .string ⟨name.toArray⟩, .string ⟨text.toArray⟩, .slice PA pn pc, .int .i64 r] 30)) text (by omega)
  have j1 := j0.kept (Lib.bytesWorld_below (w.alloc (.cells #[.int .i64 2, .int .i64 fro, .int .i64 to_, .string ⟨name.toArray⟩, .string ⟨text.toArray⟩, .slice PA pn pc, .int .i64 r] 30)) 5 ⟨text.toArray⟩)
  obtain ⟨V, hV⟩ : ∃ V, Lib.bytesWorld (w.alloc (.cells #[.int .i64 2, .int .i64 fro, .int .i64 to_, .string ⟨name.toArray⟩, .string ⟨text.toArray⟩, .slice PA pn pc, .int .i64 r] 30)) 5 ⟨text.toArray⟩ = V := ⟨_, rfl⟩
  rw [hV] at cv hby j1
  rw [World.size_alloc] at cv hby
  generalize grownCap (w.alloc (.cells #[.int .i64 2, .int .i64 fro, .int .i64 to_, .string ⟨name.toArray⟩, .string ⟨text.toArray⟩, .slice PA pn pc, .int .i64 r] 30)) text.length 0 5 = gc at cv hby
  have J0 := Lib.hid j0
  have J1 := Lib.hid j1
  have HBY := Lib.hid hby
  have y0 := cell_of 0 J0.out.2
  have y4 := cell_of 4 J0.out.2
  clear j0 j1 hby hV
  have C1 := Lib.hid (refChar_c r V)
  have HE : putTok ⟨2, fro, to_, name, text, ps, r⟩ = (textOut r, if isDoc r = true then 0 else 6) := by
    unfold putTok
    rw [if_neg (by simp), if_pos rfl]
  rw [HE]
  clear HE HBY ht
  have z0 := cell_of 0 J1.out.2
  have z6 := cell_of 6 J1.out.2
  unfold textOut
  cases hd : isDoc r with
  | false =>
    rw [hd] at C1
    rw [if_neg (by decide), if_neg (by decide)]
    clear hd
    go_enter Tryz.func28, Tryz.ntmps28
    go_wp2_with fail
    refine C1.out.mono ?_
    rintro e wq ⟨rfl, hwq⟩
    subst hwq
    go_wp2
    go_ret2
    exact ⟨rfl, J1.out.1⟩
  | true =>
    rw [hd] at C1
    rw [if_pos rfl, if_pos rfl]
    have hr := (isDoc_iff r).1 hd
    obtain ⟨n, rfl⟩ : ∃ n : Nat, r = (n : Int) := ⟨r.toNat, by omega⟩
    have hn : n ≤ 2000000 := by omega
    rw [Int.toNat_natCast]
    have C2 := Lib.hid (refDigits_c n hn V)
    have hle := decDigits_le n hn
    have sp0 : ∀ w : World, (Op.stringOp .add ⟨#[38, 35]⟩ ⟨(Lib.decDigits n).toArray⟩).run Tryz.prog w = .ok (.string ⟨([38, 35] ++ Lib.decDigits n).toArray⟩) w := fun w => run_sop (w := w) [38, 35] (Lib.decDigits n) (by simp; omega)
    have sp1 : ∀ w : World, (Op.stringOp .add ⟨([38, 35] ++ Lib.decDigits n).toArray⟩ ⟨#[59]⟩).run Tryz.prog w = .ok (.string ⟨([38, 35] ++ Lib.decDigits n ++ [59]).toArray⟩) w := fun w => run_sop (w := w) ([38, 35] ++ Lib.decDigits n) [59] (by simp; omega)
    have HE : Hid ([38, 35] ++ Lib.decDigits n ++ [59] = 38 :: 35 :: (Lib.decDigits n ++ [59])) := Lib.hid (by simp)
    rw [← HE.out]
    clear hd hr hle
    generalize [38, 35] ++ Lib.decDigits n ++ [59] = T2 at *
    generalize [38, 35] ++ Lib.decDigits n = T1 at *
    generalize Lib.decDigits n = T0 at *
    go_enter Tryz.func28, Tryz.ntmps28
    go_wp2_with fail
    refine C1.out.mono ?_
    rintro e wq ⟨rfl, hwq⟩
    subst hwq
    go_wp2_with fail
    refine C2.out.mono ?_
    rintro e wq ⟨rfl, hwq⟩
    subst hwq
    go_wp2
    go_ret2
    exact ⟨rfl, J1.out.1⟩
set_option maxRecDepth 100000 in
set_option maxHeartbeats 4000000 in
theorem refPut3_c (fro to_ r : Int) (name text : List UInt8) (PA : Option Addr) (pn pc : Nat) (ps : List PairL) (w : World) (ht : text.length ≤ 5000) (hn : name.length ≤ 5000) :
    Calls Tryz.prog 28 #[.agg #[.int .i64 3, .int .i64 fro, .int .i64 to_, .string ⟨name.toArray⟩, .string ⟨text.toArray⟩, .slice PA pn pc, .int .i64 r]] w fun e w' => e = .returned (out2V (putTok ⟨3, fro, to_, name, text, ps, r⟩)) ∧ Below w.heap.size w w' := by
  have j0 := CJ.start 30 w #[.int .i64 3, .int .i64 fro, .int .i64 to_, .string ⟨name.toArray⟩, .string ⟨text.toArray⟩, .slice PA pn pc, .int .i64 r]
  have cv := run_toBytes (w.alloc (.cells #[.int .i64 3, .int .i64 fro, .int .i64 to_, .string ⟨name.toArray⟩, .string ⟨text.toArray⟩, .slice PA pn pc, .int .i64 r] 30)) text
  have hby := byt_new (w.alloc (.cells #[.int .i64 3, .int .i64 fro, .int .i64 to_, .string ⟨name.toArray⟩, .string ⟨text.toArray⟩, .slice PA pn pc, .int .i64 r] 30)) text (by omega)
  have j1 := j0.kept (Lib.bytesWorld_below (w.alloc (.cells #[.int .i64 3, .int .i64 fro, .int .i64 to_, .string ⟨name.toArray⟩, .string ⟨text.toArray⟩, .slice PA pn pc, .int .i64 r] 30)) 5 ⟨text.toArray⟩)
  obtain ⟨V, hV⟩ : ∃ V, Lib.bytesWorld (w.alloc (.cells #[.int .i64 3, .int .i64 fro, .int .i64 to_, .string ⟨name.toArray⟩, .string ⟨text.toArray⟩, .slice PA pn pc, .int .i64 r] 30)) 5 ⟨text.toArray⟩ = V := ⟨_, rfl⟩
  rw [hV] at cv hby j1
  rw [World.size_alloc] at cv hby
  generalize grownCap (w.alloc (.cells #[.int .i64 3, .int .i64 fro, .int .i64 to_, .string ⟨name.toArray⟩, .string ⟨text.toArray⟩, .slice PA pn pc, .int .i64 r] 30)) text.length 0 5 = gc at cv hby
  have J0 := Lib.hid j0
  have J1 := Lib.hid j1
  have HBY := Lib.hid hby
  have y0 := cell_of 0 J0.out.2
  have y4 := cell_of 4 J0.out.2
  clear j0 j1 hby hV
  have C1 : Hid (Calls Tryz.prog 55 #[.string ⟨name.toArray⟩, .bool true] V fun e w' => e = .returned (.bool (isPl name)) ∧ Below V.heap.size V w') := Lib.hid (by
    have := refIs_c5 true name V (by omega)
    rw [okTrue, okTrue] at this
    exact this)
  have HE : putTok ⟨3, fro, to_, name, text, ps, r⟩ = if isPl name = true then ([38] ++ name ++ [59], 0) else ([], 7) := by
    unfold putTok
    rw [if_neg (by simp), if_neg (by simp), if_pos rfl]
    simp
  have sp0 : ∀ W : World, (Op.stringOp .add ⟨#[38]⟩ ⟨name.toArray⟩).run Tryz.prog W = .ok (.string ⟨([38] ++ name).toArray⟩) W := fun W => run_sop (w := W) [38] name (by simp; omega)
  have sp1 : ∀ W : World, (Op.stringOp .add ⟨([38] ++ name).toArray⟩ ⟨#[59]⟩).run Tryz.prog W = .ok (.string ⟨([38] ++ name ++ [59]).toArray⟩) W := fun W => run_sop (w := W) ([38] ++ name) [59] (by simp; omega)
  rw [HE]
  clear HE HBY ht hn
  have z0 := cell_of 0 J1.out.2
  have z3 := cell_of 3 J1.out.2
  generalize [38] ++ name ++ [59] = T2 at *
  generalize [38] ++ name = T1 at *
  generalize isPl name = b at *
  cases b
  all_goals
    go_enter Tryz.func28, Tryz.ntmps28
    go_wp2_with fail
    refine C1.out.mono ?_
    rintro e w1 ⟨rfl, hb⟩
    have J2 := Lib.hid (J1.out.kept hb)
    clear hb z0 z3
    have z3 := cell_of 3 J2.out.2
    go_wp2
    go_ret2
    exact ⟨rfl, J2.out.1⟩
set_option maxRecDepth 100000 in
set_option maxHeartbeats 4000000 in
theorem refPut4_c (fro to_ r : Int) (name text : List UInt8) (PA : Option Addr) (pn pc : Nat) (ps : List PairL) (w : World) (ht : text.length ≤ 5000) :
    Calls Tryz.prog 28 #[.agg #[.int .i64 4, .int .i64 fro, .int .i64 to_, .string ⟨name.toArray⟩, .string ⟨text.toArray⟩, .slice PA pn pc, .int .i64 r]] w fun e w' => e = .returned (out2V (putTok ⟨4, fro, to_, name, text, ps, r⟩)) ∧ Below w.heap.size w w' := by
  have j0 := CJ.start 30 w #[.int .i64 4, .int .i64 fro, .int .i64 to_, .string ⟨name.toArray⟩, .string ⟨text.toArray⟩, .slice PA pn pc, .int .i64 r]
  have cv := run_toBytes (w.alloc (.cells #[.int .i64 4, .int .i64 fro, .int .i64 to_, .string ⟨name.toArray⟩, .string ⟨text.toArray⟩, .slice PA pn pc, .int .i64 r] 30)) text
  have hby := byt_new (w.alloc (.cells #[.int .i64 4, .int .i64 fro, .int .i64 to_, .string ⟨name.toArray⟩, .string ⟨text.toArray⟩, .slice PA pn pc, .int .i64 r] 30)) text (by omega)
  have j1 := j0.kept (Lib.bytesWorld_below (w.alloc (.cells #[.int .i64 4, .int .i64 fro, .int .i64 to_, .string ⟨name.toArray⟩, .string ⟨text.toArray⟩, .slice PA pn pc, .int .i64 r] 30)) 5 ⟨text.toArray⟩)
  obtain ⟨V, hV⟩ : ∃ V, Lib.bytesWorld (w.alloc (.cells #[.int .i64 4, .int .i64 fro, .int .i64 to_, .string ⟨name.toArray⟩, .string ⟨text.toArray⟩, .slice PA pn pc, .int .i64 r] 30)) 5 ⟨text.toArray⟩ = V := ⟨_, rfl⟩
  rw [hV] at cv hby j1
  rw [World.size_alloc] at cv hby
  generalize grownCap (w.alloc (.cells #[.int .i64 4, .int .i64 fro, .int .i64 to_, .string ⟨name.toArray⟩, .string ⟨text.toArray⟩, .slice PA pn pc, .int .i64 r] 30)) text.length 0 5 = gc at cv hby
  have J0 := Lib.hid j0
  have J1 := Lib.hid j1
  have HBY := Lib.hid hby
  have y0 := cell_of 0 J0.out.2
  have y4 := cell_of 4 J0.out.2
  clear j0 j1 hby hV
  have C1 : Hid (Calls Tryz.prog 38 #[.slice (some ⟨w.heap.size + 1, 0, none⟩) text.length gc, .int .i64 0, .string ⟨#[93, 93, 62]⟩] V fun e w' => e = .returned (.int .i64 (findI text 0 [93, 93, 62])) ∧ V = w') := Lib.hid (refFind_c _ _ _ text 0 [93, 93, 62] _ _ HBY.out (by simp) (by omega) (by simp) (Nat.zero_le _))
  have HE : putTok ⟨4, fro, to_, name, text, ps, r⟩ = if 0 ≤ findI text 0 [93, 93, 62] then ([], 7) else ([60, 33, 91, 67, 68, 65, 84, 65, 91] ++ text ++ [93, 93, 62], 0) := by
    unfold putTok
    rw [if_neg (by simp), if_neg (by simp), if_neg (by simp), if_pos rfl]
    unfold putCDataOut mayCData
    rw [contains_findI]
    by_cases h : 0 ≤ findI text 0 [93, 93, 62]
    · rw [if_pos h, if_neg (by simp [h])]
    · rw [if_neg h, if_pos (by simp [h])]
  rw [HE]
  have sp0 : ∀ W : World, (Op.stringOp .add ⟨#[60, 33, 91, 67, 68, 65, 84, 65, 91]⟩ ⟨text.toArray⟩).run Tryz.prog W = .ok (.string ⟨([60, 33, 91, 67, 68, 65, 84, 65, 91] ++ text).toArray⟩) W := fun W => run_sop (w := W) [60, 33, 91, 67, 68, 65, 84, 65, 91] text (by simp; omega)
  have sp1 : ∀ W : World, (Op.stringOp .add ⟨([60, 33, 91, 67, 68, 65, 84, 65, 91] ++ text).toArray⟩ ⟨#[93, 93, 62]⟩).run Tryz.prog W = .ok (.string ⟨([60, 33, 91, 67, 68, 65, 84, 65, 91] ++ text ++ [93, 93, 62]).toArray⟩) W := fun W => run_sop (w := W) ([60, 33, 91, 67, 68, 65, 84, 65, 91] ++ text) [93, 93, 62] (by simp; omega)
  clear HE HBY ht
  have z0 := cell_of 0 J1.out.2
  have z4 := cell_of 4 J1.out.2
  generalize [60, 33, 91, 67, 68, 65, 84, 65, 91] ++ text ++ [93, 93, 62] = T2 at *
  generalize [60, 33, 91, 67, 68, 65, 84, 65, 91] ++ text = T1 at *
  generalize findI text 0 [93, 93, 62] = f1 at *
  by_cases h1 : 0 ≤ f1
  · rw [if_pos h1]
    go_enter Tryz.func28, Tryz.ntmps28
    go_wp2_with fail
    refine C1.out.mono ?_
    rintro e wq ⟨rfl, hwq⟩
    subst hwq
    go_wp2
    go_ret2
    exact ⟨rfl, J1.out.1⟩
  · rw [if_neg h1]
    go_enter Tryz.func28, Tryz.ntmps28
    go_wp2_with fail
    refine C1.out.mono ?_
    rintro e wq ⟨rfl, hwq⟩
    subst hwq
    go_wp2
    go_ret2
    exact ⟨rfl, J1.out.1⟩
set_option maxRecDepth 100000 in
set_option maxHeartbeats 4000000 in
theorem refPut5_c (fro to_ r : Int) (name text : List UInt8) (PA : Option Addr) (pn pc : Nat) (ps : List PairL) (w : World) (ht : text.length ≤ 5000) :
    Calls Tryz.prog 28 #[.agg #[.int .i64 5, .int .i64 fro, .int .i64 to_, .string ⟨name.toArray⟩, .string ⟨text.toArray⟩, .slice PA pn pc, .int .i64 r]] w fun e w' => e = .returned (out2V (putTok ⟨5, fro, to_, name, text, ps, r⟩)) ∧ Below w.heap.size w w' := by
  have j0 := CJ.start 30 w #[.int .i64 5, .int .i64 fro, .int .i64 to_, .string ⟨name.toArray⟩, .string ⟨text.toArray⟩, .slice PA pn pc, .int .i64 r]
  have cv := run_toBytes (w.alloc (.cells #[.int .i64 5, .int .i64 fro, .int .i64 to_, .string ⟨name.toArray⟩, .string ⟨text.toArray⟩, .slice PA pn pc, .int .i64 r] 30)) text
  have hby := byt_new (w.alloc (.cells #[.int .i64 5, .int .i64 fro, .int .i64 to_, .string ⟨name.toArray⟩, .string ⟨text.toArray⟩, .slice PA pn pc, .int .i64 r] 30)) text (by omega)
  have j1 := j0.kept (Lib.bytesWorld_below (w.alloc (.cells #[.int .i64 5, .int .i64 fro, .int .i64 to_, .string ⟨name.toArray⟩, .string ⟨text.toArray⟩, .slice PA pn pc, .int .i64 r] 30)) 5 ⟨text.toArray⟩)
  obtain ⟨V, hV⟩ : ∃ V, Lib.bytesWorld (w.alloc (.cells #[.int .i64 5, .int .i64 fro, .int .i64 to_, .string ⟨name.toArray⟩, .string ⟨text.toArray⟩, .slice PA pn pc, .int .i64 r] 30)) 5 ⟨text.toArray⟩ = V := ⟨_, rfl⟩
  rw [hV] at cv hby j1
  rw [World.size_alloc] at cv hby
  generalize grownCap (w.alloc (.cells #[.int .i64 5, .int .i64 fro, .int .i64 to_, .string ⟨name.toArray⟩, .string ⟨text.toArray⟩, .slice PA pn pc, .int .i64 r] 30)) text.length 0 5 = gc at cv hby
  have J0 := Lib.hid j0
  have J1 := Lib.hid j1
  have HBY := Lib.hid hby
  have y0 := cell_of 0 J0.out.2
  have y4 := cell_of 4 J0.out.2
  clear j0 j1 hby hV
  have sp9 : ∀ W : World, (Op.stringOp .add ⟨text.toArray⟩ ⟨#[45]⟩).run Tryz.prog W = .ok (.string ⟨(text ++ [45]).toArray⟩) W := fun W => run_sop (w := W) text [45] (by simp; omega)
  have HE : putTok ⟨5, fro, to_, name, text, ps, r⟩ = if 0 ≤ findI (text ++ [45]) 0 [45, 45] then ([], 7) else ([60, 33, 45, 45] ++ text ++ [45, 45, 62], 0) := by
    unfold putTok
    rw [if_neg (by simp), if_neg (by simp), if_neg (by simp), if_neg (by simp), if_pos rfl]
    unfold putCommentOut mayComment
    rw [contains_findI]
    by_cases h : 0 ≤ findI (text ++ [45]) 0 [45, 45]
    · rw [if_pos h, if_neg (by simp [h])]
    · rw [if_neg h, if_pos (by simp [h])]
  rw [HE]
  have sp0 : ∀ W : World, (Op.stringOp .add ⟨#[60, 33, 45, 45]⟩ ⟨text.toArray⟩).run Tryz.prog W = .ok (.string ⟨([60, 33, 45, 45] ++ text).toArray⟩) W := fun W => run_sop (w := W) [60, 33, 45, 45] text (by simp; omega)
  have sp1 : ∀ W : World, (Op.stringOp .add ⟨([60, 33, 45, 45] ++ text).toArray⟩ ⟨#[45, 45, 62]⟩).run Tryz.prog W = .ok (.string ⟨([60, 33, 45, 45] ++ text ++ [45, 45, 62]).toArray⟩) W := fun W => run_sop (w := W) ([60, 33, 45, 45] ++ text) [45, 45, 62] (by simp; omega)
  have cv2 := run_toBytes V (text ++ [45])
  have hby2 := byt_new V (text ++ [45]) (by simp; omega)
  have j2 := J1.out.kept (Lib.bytesWorld_below V 5 ⟨(text ++ [45]).toArray⟩)
  obtain ⟨V2, hV2⟩ : ∃ V2, Lib.bytesWorld V 5 ⟨(text ++ [45]).toArray⟩ = V2 := ⟨_, rfl⟩
  rw [hV2] at cv2 hby2 j2
  generalize grownCap V (text ++ [45]).length 0 5 = gc2 at cv2 hby2
  have HT9 : (text ++ [45]).length ≤ 6000 := by simp; omega
  have J2 := Lib.hid j2
  have HBY2 := Lib.hid hby2
  generalize text ++ [45] = text9 at *
  have C1 : Hid (Calls Tryz.prog 38 #[.slice (some ⟨V.heap.size, 0, none⟩) text9.length gc2, .int .i64 0, .string ⟨#[45, 45]⟩] V2 fun e w' => e = .returned (.int .i64 (findI text9 0 [45, 45])) ∧ V2 = w') := Lib.hid (refFind_c _ _ _ text9 0 [45, 45] _ _ HBY2.out (by simp) (by omega) (by simp) (Nat.zero_le _))
  clear HE HBY HBY2 ht HT9 j2 hby2 hV2
  have z0 := cell_of 0 J1.out.2
  have z4 := cell_of 4 J1.out.2
  have x4 := cell_of 4 J2.out.2
  generalize [60, 33, 45, 45] ++ text ++ [45, 45, 62] = T2 at *
  generalize [60, 33, 45, 45] ++ text = T1 at *
  generalize findI text9 0 [45, 45] = f1 at *
  by_cases h1 : 0 ≤ f1
  · rw [if_pos h1]
    go_enter Tryz.func28, Tryz.ntmps28
    go_wp2_with fail
    refine C1.out.mono ?_
    rintro e wq ⟨rfl, hwq⟩
    subst hwq
    go_wp2
    go_ret2
    exact ⟨rfl, J2.out.1⟩
  · rw [if_neg h1]
    go_enter Tryz.func28, Tryz.ntmps28
    go_wp2_with fail
    refine C1.out.mono ?_
    rintro e wq ⟨rfl, hwq⟩
    subst hwq
    go_wp2
    go_ret2
    exact ⟨rfl, J2.out.1⟩
set_option maxRecDepth 100000 in
set_option maxHeartbeats 4000000 in
theorem refPut6_c (fro to_ r : Int) (name text : List UInt8) (PA : Option Addr) (pn pc : Nat) (ps : List PairL) (w : World) (ht : text.length ≤ 5000) (hn : name.length ≤ 5000) :
    Calls Tryz.prog 28 #[.agg #[.int .i64 6, .int .i64 fro, .int .i64 to_, .string ⟨name.toArray⟩, .string ⟨text.toArray⟩, .slice PA pn pc, .int .i64 r]] w fun e w' => e = .returned (out2V (putTok ⟨6, fro, to_, name, text, ps, r⟩)) ∧ Below w.heap.size w w' := by
  have j0 := CJ.start 30 w #[.int .i64 6, .int .i64 fro, .int .i64 to_, .string ⟨name.toArray⟩, .string ⟨text.toArray⟩, .slice PA pn pc, .int .i64 r]
  have cv := run_toBytes (w.alloc (.cells #[.int .i64 6, .int .i64 fro, .int .i64 to_, .string ⟨name.toArray⟩, .string ⟨text.toArray⟩, .slice PA pn pc, .int .i64 r] 30)) text
  have hby := byt_new (w.alloc (.cells #[.int .i64 6, .int .i64 fro, .int .i64 to_, .string ⟨name.toArray⟩, .string ⟨text.toArray⟩, .slice PA pn pc, .int .i64 r] 30)) text (by omega)
  have j1 := j0.kept (Lib.bytesWorld_below (w.alloc (.cells #[.int .i64 6, .int .i64 fro, .int .i64 to_, .string ⟨name.toArray⟩, .string ⟨text.toArray⟩, .slice PA pn pc, .int .i64 r] 30)) 5 ⟨text.toArray⟩)
  obtain ⟨V, hV⟩ : ∃ V, Lib.bytesWorld (w.alloc (.cells #[.int .i64 6, .int .i64 fro, .int .i64 to_, .string ⟨name.toArray⟩, .string ⟨text.toArray⟩, .slice PA pn pc, .int .i64 r] 30)) 5 ⟨text.toArray⟩ = V := ⟨_, rfl⟩
  rw [hV] at cv hby j1
  rw [World.size_alloc] at cv hby
  generalize grownCap (w.alloc (.cells #[.int .i64 6, .int .i64 fro, .int .i64 to_, .string ⟨name.toArray⟩, .string ⟨text.toArray⟩, .slice PA pn pc, .int .i64 r] 30)) text.length 0 5 = gc at cv hby
  have J0 := Lib.hid j0
  have J1 := Lib.hid j1
  have HBY := Lib.hid hby
  have y0 := cell_of 0 J0.out.2
  have y4 := cell_of 4 J0.out.2
  clear j0 j1 hby hV
  have C1 := Lib.hid (refPutPi_c name text V hn ht)
  have HE : putTok ⟨6, fro, to_, name, text, ps, r⟩ = putPiOut name text := by
    unfold putTok
    simp
  rw [HE]
  clear HE HBY ht hn
  have z0 := cell_of 0 J1.out.2
  have z3 := cell_of 3 J1.out.2
  have z4 := cell_of 4 J1.out.2
  unfold out2V at *
  generalize putPiOut name text = R at *
  go_enter Tryz.func28, Tryz.ntmps28
  go_wp2_with fail
  refine C1.out.mono ?_
  rintro e w1 ⟨rfl, hb⟩
  have J2 := Lib.hid (J1.out.kept hb)
  clear hb
  go_wp2
  go_ret2
  exact ⟨rfl, J2.out.1⟩
set_option maxRecDepth 100000 in
set_option maxHeartbeats 4000000 in
theorem refPut7_c (fro to_ r : Int) (name text : List UInt8) (PA : Option Addr) (pn pc : Nat) (ps : List PairL) (w : World) (ht : text.length ≤ 5000) (h : PRd w w.heap.size PA pn pc ps) (hn : name.length ≤ 5000) (hp : pn ≤ 5000) (hps : ∀ p ∈ ps, p.1.length ≤ 40000 ∧ p.2.length ≤ 40000) :
    Calls Tryz.prog 28 #[.agg #[.int .i64 7, .int .i64 fro, .int .i64 to_, .string ⟨name.toArray⟩, .string ⟨text.toArray⟩, .slice PA pn pc, .int .i64 r]] w fun e w' => e = .returned (out2V (putTok ⟨7, fro, to_, name, text, ps, r⟩)) ∧ Below w.heap.size w w' := by
  have j0 := CJ.start 30 w #[.int .i64 7, .int .i64 fro, .int .i64 to_, .string ⟨name.toArray⟩, .string ⟨text.toArray⟩, .slice PA pn pc, .int .i64 r]
  have cv := run_toBytes (w.alloc (.cells #[.int .i64 7, .int .i64 fro, .int .i64 to_, .string ⟨name.toArray⟩, .string ⟨text.toArray⟩, .slice PA pn pc, .int .i64 r] 30)) text
  have hby := byt_new (w.alloc (.cells #[.int .i64 7, .int .i64 fro, .int .i64 to_, .string ⟨name.toArray⟩, .string ⟨text.toArray⟩, .slice PA pn pc, .int .i64 r] 30)) text (by omega)
  have j1 := j0.kept (Lib.bytesWorld_below (w.alloc (.cells #[.int .i64 7, .int .i64 fro, .int .i64 to_, .string ⟨name.toArray⟩, .string ⟨text.toArray⟩, .slice PA pn pc, .int .i64 r] 30)) 5 ⟨text.toArray⟩)
  obtain ⟨V, hV⟩ : ∃ V, Lib.bytesWorld (w.alloc (.cells #[.int .i64 7, .int .i64 fro, .int .i64 to_, .string ⟨name.toArray⟩, .string ⟨text.toArray⟩, .slice PA pn pc, .int .i64 r] 30)) 5 ⟨text.toArray⟩ = V := ⟨_, rfl⟩
  rw [hV] at cv hby j1
  rw [World.size_alloc] at cv hby
  generalize grownCap (w.alloc (.cells #[.int .i64 7, .int .i64 fro, .int .i64 to_, .string ⟨name.toArray⟩, .string ⟨text.toArray⟩, .slice PA pn pc, .int .i64 r] 30)) text.length 0 5 = gc at cv hby
  have J0 := Lib.hid j0
  have J1 := Lib.hid j1
  have HBY := Lib.hid hby
  have y0 := cell_of 0 J0.out.2
  have y4 := cell_of 4 J0.out.2
  clear j0 j1 hby hV
  have HP : Hid (∀ W, Below w.heap.size w W → PRd W W.heap.size PA pn pc ps) := Lib.hid fun W hb => (h.below hb).more hb.size
  have ka := (Below.refl V.heap.size V).alloc (Nat.le_refl _) (.cells #[.string ⟨name.toArray⟩, .slice PA pn pc, .bool false] 63)
  have HQ := Lib.hid (CJ.start 63 V #[.string ⟨name.toArray⟩, .slice PA pn pc, .bool false])
  have J2 := Lib.hid (J1.out.kept ka)
  have C1 := Lib.hid (refCheck10_c name PA pn pc ps false (V.alloc (.cells #[.string ⟨name.toArray⟩, .slice PA pn pc, .bool false] 63)) (HP.out _ J2.out.1) (by omega) (by omega) hps)
  have C2 : Hid (∀ W, Below w.heap.size w W → Calls Tryz.prog 58 #[.agg #[.string ⟨name.toArray⟩, .slice PA pn pc, .bool false]] W fun e w' => e = .returned (.string ⟨(tagT ⟨name, ps, false⟩).toArray⟩) ∧ Below W.heap.size W w') := Lib.hid fun W hb => refPut10_c name PA pn pc ps false W (HP.out W hb) (by omega) (by omega) hps
  have HE : putTok ⟨7, fro, to_, name, text, ps, r⟩ = if checkT name ps = 0 then (tagT ⟨name, ps, false⟩, 0) else ([], checkT name ps) := by
    unfold putTok
    simp [putOut]
  rw [HE]
  have q0 := cell_of 0 HQ.out.2
  have q1 := cell_of 1 HQ.out.2
  have q2 := cell_of 2 HQ.out.2
  clear HE HBY ht hn h hp hps ka
  have z0 := cell_of 0 J1.out.2
  have z3 := cell_of 3 J1.out.2
  have z5 := cell_of 5 J1.out.2
  generalize tagT ⟨name, ps, false⟩ = T at *
  generalize checkT name ps = K at *
  by_cases hk : K = 0
  · subst hk
    rw [if_pos rfl]
    go_enter Tryz.func28, Tryz.ntmps28
    go_wp2_with fail
    refine C1.out.mono ?_
    rintro e w1 ⟨rfl, hb⟩
    have J3 := Lib.hid (J2.out.kept hb)
    have Q3 := Lib.hid (HQ.out.kept hb)
    clear hb q0 q1 q2
    have q0 := cell_of 0 Q3.out.2
    have q1 := cell_of 1 Q3.out.2
    have q2 := cell_of 2 Q3.out.2
    go_wp2_with fail
    refine (C2.out _ J3.out.1).mono ?_
    rintro e w2 ⟨rfl, hb⟩
    have J4 := Lib.hid (J3.out.kept hb)
    clear hb
    go_wp2
    go_ret2
    exact ⟨rfl, J4.out.1⟩
  · rw [if_neg hk]
    have hki : ((K : Int) != 0) = true := by simp; omega
    have hkj : ¬ (K : Int) = 0 := by omega
    clear hk
    go_enter Tryz.func28, Tryz.ntmps28
    go_wp2_with fail
    refine C1.out.mono ?_
    rintro e w1 ⟨rfl, hb⟩
    have J3 := Lib.hid (J2.out.kept hb)
    clear hb q0 q1 q2
    go_wp2
    go_ret2
    exact ⟨rfl, J3.out.1⟩
set_option maxRecDepth 100000 in
set_option maxHeartbeats 4000000 in
theorem refPut8_c (fro to_ r : Int) (name text : List UInt8) (PA : Option Addr) (pn pc : Nat) (ps : List PairL) (w : World) (ht : text.length ≤ 5000) (h : PRd w w.heap.size PA pn pc ps) (hn : name.length ≤ 5000) (hp : pn ≤ 5000) (hps : ∀ p ∈ ps, p.1.length ≤ 40000 ∧ p.2.length ≤ 40000) :
    Calls Tryz.prog 28 #[.agg #[.int .i64 8, .int .i64 fro, .int .i64 to_, .string ⟨name.toArray⟩, .string ⟨text.toArray⟩, .slice PA pn pc, .int .i64 r]] w fun e w' => e = .returned (out2V (putTok ⟨8, fro, to_, name, text, ps, r⟩)) ∧ Below w.heap.size w w' := by
  have j0 := CJ.start 30 w #[.int .i64 8, .int .i64 fro, .int .i64 to_, .string ⟨name.toArray⟩, .string ⟨text.toArray⟩, .slice PA pn pc, .int .i64 r]
  have cv := run_toBytes (w.alloc (.cells #[.int .i64 8, .int .i64 fro, .int .i64 to_, .string ⟨name.toArray⟩, .string ⟨text.toArray⟩, .slice PA pn pc, .int .i64 r] 30)) text
  have hby := byt_new (w.alloc (.cells #[.int .i64 8, .int .i64 fro, .int .i64 to_, .string ⟨name.toArray⟩, .string ⟨text.toArray⟩, .slice PA pn pc, .int .i64 r] 30)) text (by omega)
  have j1 := j0.kept (Lib.bytesWorld_below (w.alloc (.cells #[.int .i64 8, .int .i64 fro, .int .i64 to_, .string ⟨name.toArray⟩, .string ⟨text.toArray⟩, .slice PA pn pc, .int .i64 r] 30)) 5 ⟨text.toArray⟩)
  obtain ⟨V, hV⟩ : ∃ V, Lib.bytesWorld (w.alloc (.cells #[.int .i64 8, .int .i64 fro, .int .i64 to_, .string ⟨name.toArray⟩, .string ⟨text.toArray⟩, .slice PA pn pc, .int .i64 r] 30)) 5 ⟨text.toArray⟩ = V := ⟨_, rfl⟩
  rw [hV] at cv hby j1
  rw [World.size_alloc] at cv hby
  generalize grownCap (w.alloc (.cells #[.int .i64 8, .int .i64 fro, .int .i64 to_, .string ⟨name.toArray⟩, .string ⟨text.toArray⟩, .slice PA pn pc, .int .i64 r] 30)) text.length 0 5 = gc at cv hby
  have J0 := Lib.hid j0
  have J1 := Lib.hid j1
  have HBY := Lib.hid hby
  have y0 := cell_of 0 J0.out.2
  have y4 := cell_of 4 J0.out.2
  clear j0 j1 hby hV
  have HP : Hid (∀ W, Below w.heap.size w W → PRd W W.heap.size PA pn pc ps) := Lib.hid fun W hb => (h.below hb).more hb.size
  have ka := (Below.refl V.heap.size V).alloc (Nat.le_refl _) (.cells #[.string ⟨name.toArray⟩, .slice PA pn pc, .bool true] 63)
  have HQ := Lib.hid (CJ.start 63 V #[.string ⟨name.toArray⟩, .slice PA pn pc, .bool true])
  have J2 := Lib.hid (J1.out.kept ka)
  have C1 := Lib.hid (refCheck10_c name PA pn pc ps true (V.alloc (.cells #[.string ⟨name.toArray⟩, .slice PA pn pc, .bool true] 63)) (HP.out _ J2.out.1) (by omega) (by omega) hps)
  have C2 : Hid (∀ W, Below w.heap.size w W → Calls Tryz.prog 58 #[.agg #[.string ⟨name.toArray⟩, .slice PA pn pc, .bool true]] W fun e w' => e = .returned (.string ⟨(tagT ⟨name, ps, true⟩).toArray⟩) ∧ Below W.heap.size W w') := Lib.hid fun W hb => refPut10_c name PA pn pc ps true W (HP.out W hb) (by omega) (by omega) hps
  have HE : putTok ⟨8, fro, to_, name, text, ps, r⟩ = if checkT name ps = 0 then (tagT ⟨name, ps, true⟩, 0) else ([], checkT name ps) := by
    unfold putTok
    simp [putOut]
  rw [HE]
  have q0 := cell_of 0 HQ.out.2
  have q1 := cell_of 1 HQ.out.2
  have q2 := cell_of 2 HQ.out.2
  clear HE HBY ht hn h hp hps ka
  have z0 := cell_of 0 J1.out.2
  have z3 := cell_of 3 J1.out.2
  have z5 := cell_of 5 J1.out.2
  generalize tagT ⟨name, ps, true⟩ = T at *
  generalize checkT name ps = K at *
  by_cases hk : K = 0
  · subst hk
    rw [if_pos rfl]
    go_enter Tryz.func28, Tryz.ntmps28
    go_wp2_with fail
    refine C1.out.mono ?_
    rintro e w1 ⟨rfl, hb⟩
    have J3 := Lib.hid (J2.out.kept hb)
    have Q3 := Lib.hid (HQ.out.kept hb)
    clear hb q0 q1 q2
    have q0 := cell_of 0 Q3.out.2
    have q1 := cell_of 1 Q3.out.2
    have q2 := cell_of 2 Q3.out.2
    go_wp2_with fail
    refine (C2.out _ J3.out.1).mono ?_
    rintro e w2 ⟨rfl, hb⟩
    have J4 := Lib.hid (J3.out.kept hb)
    clear hb
    go_wp2
    go_ret2
    exact ⟨rfl, J4.out.1⟩
  · rw [if_neg hk]
    have hki : ((K : Int) != 0) = true := by simp; omega
    have hkj : ¬ (K : Int) = 0 := by omega
    clear hk
    go_enter Tryz.func28, Tryz.ntmps28
    go_wp2_with fail
    refine C1.out.mono ?_
    rintro e w1 ⟨rfl, hb⟩
    have J3 := Lib.hid (J2.out.kept hb)
    clear hb q0 q1 q2
    go_wp2
    go_ret2
    exact ⟨rfl, J3.out.1⟩
set_option maxRecDepth 100000 in
set_option maxHeartbeats 4000000 in
theorem refPut9_c (fro to_ r : Int) (name text : List UInt8) (PA : Option Addr) (pn pc : Nat) (ps : List PairL) (w : World) (ht : text.length ≤ 5000) (hn : name.length ≤ 5000) :
    Calls Tryz.prog 28 #[.agg #[.int .i64 9, .int .i64 fro, .int .i64 to_, .string ⟨name.toArray⟩, .string ⟨text.toArray⟩, .slice PA pn pc, .int .i64 r]] w fun e w' => e = .returned (out2V (putTok ⟨9, fro, to_, name, text, ps, r⟩)) ∧ Below w.heap.size w w' := by
  have j0 := CJ.start 30 w #[.int .i64 9, .int .i64 fro, .int .i64 to_, .string ⟨name.toArray⟩, .string ⟨text.toArray⟩, .slice PA pn pc, .int .i64 r]
  have cv := run_toBytes (w.alloc (.cells #[.int .i64 9, .int .i64 fro, .int .i64 to_, .string ⟨name.toArray⟩, .string ⟨text.toArray⟩, .slice PA pn pc, .int .i64 r] 30)) text
  have hby := byt_new (w.alloc (.cells #[.int .i64 9, .int .i64 fro, .int .i64 to_, .string ⟨name.toArray⟩, .string ⟨text.toArray⟩, .slice PA pn pc, .int .i64 r] 30)) text (by omega)
  have j1 := j0.kept (Lib.bytesWorld_below (w.alloc (.cells #[.int .i64 9, .int .i64 fro, .int .i64 to_, .string ⟨name.toArray⟩, .string ⟨text.toArray⟩, .slice PA pn pc, .int .i64 r] 30)) 5 ⟨text.toArray⟩)
  obtain ⟨V, hV⟩ : ∃ V, Lib.bytesWorld (w.alloc (.cells #[.int .i64 9, .int .i64 fro, .int .i64 to_, .string ⟨name.toArray⟩, .string ⟨text.toArray⟩, .slice PA pn pc, .int .i64 r] 30)) 5 ⟨text.toArray⟩ = V := ⟨_, rfl⟩
  rw [hV] at cv hby j1
  rw [World.size_alloc] at cv hby
  generalize grownCap (w.alloc (.cells #[.int .i64 9, .int .i64 fro, .int .i64 to_, .string ⟨name.toArray⟩, .string ⟨text.toArray⟩, .slice PA pn pc, .int .i64 r] 30)) text.length 0 5 = gc at cv hby
  have J0 := Lib.hid j0
  have J1 := Lib.hid j1
  have HBY := Lib.hid hby
  have y0 := cell_of 0 J0.out.2
  have y4 := cell_of 4 J0.out.2
  clear j0 j1 hby hV
  have C1 := Lib.hid (refCheck10_c name none 0 0 [] false V (PRd.nilR V _) (by omega) (Nat.zero_le _) (fun p hp => by cases hp))
  have HE : putTok ⟨9, fro, to_, name, text, ps, r⟩ = (if checkT name [] = 0 then [60, 47] ++ name ++ [62] else [], checkT name []) := by
    unfold putTok
    simp [closeT]
  have sp0 : ∀ W : World, (Op.stringOp .add ⟨#[60, 47]⟩ ⟨name.toArray⟩).run Tryz.prog W = .ok (.string ⟨([60, 47] ++ name).toArray⟩) W := fun W => run_sop (w := W) [60, 47] name (by simp; omega)
  have sp1 : ∀ W : World, (Op.stringOp .add ⟨([60, 47] ++ name).toArray⟩ ⟨#[62]⟩).run Tryz.prog W = .ok (.string ⟨([60, 47] ++ name ++ [62]).toArray⟩) W := fun W => run_sop (w := W) ([60, 47] ++ name) [62] (by simp; omega)
  rw [HE]
  clear HE HBY ht hn
  have z0 := cell_of 0 J1.out.2
  have z3 := cell_of 3 J1.out.2
  generalize [60, 47] ++ name ++ [62] = T2 at *
  generalize [60, 47] ++ name = T1 at *
  generalize checkT name [] = K at *
  by_cases hk : K = 0
  · subst hk
    rw [if_pos rfl]
    go_enter Tryz.func28, Tryz.ntmps28
    go_wp2_with fail
    refine C1.out.mono ?_
    rintro e w1 ⟨rfl, hb⟩
    have J2 := Lib.hid (J1.out.kept hb)
    clear hb z0 z3
    have z3 := cell_of 3 J2.out.2
    go_wp2
    go_ret2
    exact ⟨rfl, J2.out.1⟩
  · rw [if_neg hk]
    have hki : ((K : Int) != 0) = true := by simp; omega
    have hkj : ¬ (K : Int) = 0 := by omega
    clear hk
    go_enter Tryz.func28, Tryz.ntmps28
    go_wp2_with fail
    refine C1.out.mono ?_
    rintro e w1 ⟨rfl, hb⟩
    have J2 := Lib.hid (J1.out.kept hb)
    clear hb z0 z3
    go_wp2
    go_ret2
    exact ⟨rfl, J2.out.1⟩
set_option maxRecDepth 100000 in
set_option maxHeartbeats 4000000 in
theorem refPutX_c (k fro to_ r : Int) (name text : List UInt8) (PA : Option Addr) (pn pc : Nat) (ps : List PairL) (w : World) (ht : text.length ≤ 5000)  (hk : ∀ j : Int, 1 ≤ j → j ≤ 9 → k ≠ j) :
    Calls Tryz.prog 28 #[.agg #[.int .i64 k, .int .i64 fro, .int .i64 to_, .string ⟨name.toArray⟩, .string ⟨text.toArray⟩, .slice PA pn pc, .int .i64 r]] w fun e w' => e = .returned (out2V (putTok ⟨k, fro, to_, name, text, ps, r⟩)) ∧ Below w.heap.size w w' := by
  have j0 := CJ.start 30 w #[.int .i64 k, .int .i64 fro, .int .i64 to_, .string ⟨name.toArray⟩, .string ⟨text.toArray⟩, .slice PA pn pc, .int .i64 r]
  have cv := run_toBytes (w.alloc (.cells #[.int .i64 k, .int .i64 fro, .int .i64 to_, .string ⟨name.toArray⟩, .string ⟨text.toArray⟩, .slice PA pn pc, .int .i64 r] 30)) text
  have hby := byt_new (w.alloc (.cells #[.int .i64 k, .int .i64 fro, .int .i64 to_, .string ⟨name.toArray⟩, .string ⟨text.toArray⟩, .slice PA pn pc, .int .i64 r] 30)) text (by omega)
  have j1 := j0.kept (Lib.bytesWorld_below (w.alloc (.cells #[.int .i64 k, .int .i64 fro, .int .i64 to_, .string ⟨name.toArray⟩, .string ⟨text.toArray⟩, .slice PA pn pc, .int .i64 r] 30)) 5 ⟨text.toArray⟩)
  obtain ⟨V, hV⟩ : ∃ V, Lib.bytesWorld (w.alloc (.cells #[.int .i64 k, .int .i64 fro, .int .i64 to_, .string ⟨name.toArray⟩, .string ⟨text.toArray⟩, .slice PA pn pc, .int .i64 r] 30)) 5 ⟨text.toArray⟩ = V := ⟨_, rfl⟩
  rw [hV] at cv hby j1
  rw [World.size_alloc] at cv hby
  generalize grownCap (w.alloc (.cells #[.int .i64 k, .int .i64 fro, .int .i64 to_, .string ⟨name.toArray⟩, .string ⟨text.toArray⟩, .slice PA pn pc, .int .i64 r] 30)) text.length 0 5 = gc at cv hby
  have J0 := Lib.hid j0
  have J1 := Lib.hid j1
  have HBY := Lib.hid hby
  have y0 := cell_of 0 J0.out.2
  have y4 := cell_of 4 J0.out.2
  clear j0 j1 hby hV
  have HE : putTok ⟨k, fro, to_, name, text, ps, r⟩ = ([], 7) := put_none hk
  rw [HE]
  clear HE HBY ht
  have z0 := cell_of 0 J1.out.2
  have k1 : (k == 1) = false := by simpa using hk 1 (by omega) (by omega)
  have k2 : (k == 2) = false := by simpa using hk 2 (by omega) (by omega)
  have k3 : (k == 3) = false := by simpa using hk 3 (by omega) (by omega)
  have k4 : (k == 4) = false := by simpa using hk 4 (by omega) (by omega)
  have k5 : (k == 5) = false := by simpa using hk 5 (by omega) (by omega)
  have k6 : (k == 6) = false := by simpa using hk 6 (by omega) (by omega)
  have k7 : (k == 7) = false := by simpa using hk 7 (by omega) (by omega)
  have k8 : (k == 8) = false := by simpa using hk 8 (by omega) (by omega)
  have k9 : (k == 9) = false := by simpa using hk 9 (by omega) (by omega)
  clear hk
  go_enter Tryz.func28, Tryz.ntmps28
  go_wp2
  go_ret2
  exact ⟨rfl, J1.out.1⟩
/-- The document's: a token is put. -/
theorem refPutTok_c (t : TokL) (PA : Option Addr) (pn pc : Nat) (w : World) (h : PRd w w.heap.size PA pn pc t.pairs) (hn : t.name.length ≤ 5000) (ht : t.text.length ≤ 5000) (hp : pn ≤ 5000) (hps : ∀ p ∈ t.pairs, p.1.length ≤ 40000 ∧ p.2.length ≤ 40000) :
    Calls Tryz.prog 28 #[.agg #[.int .i64 t.kind, .int .i64 t.fro, .int .i64 t.to_, .string ⟨t.name.toArray⟩, .string ⟨t.text.toArray⟩, .slice PA pn pc, .int .i64 t.r]] w fun e w' => e = .returned (out2V (putTok t)) ∧ Below w.heap.size w w' := by
  obtain ⟨k, fro, to_, name, text, ps, r⟩ := t
  simp only at h hn ht hps ⊢
  by_cases h1 : k = 1
  · subst h1; exact refPut1_c fro to_ r name text PA pn pc ps w ht 
  by_cases h2 : k = 2
  · subst h2; exact refPut2_c fro to_ r name text PA pn pc ps w ht 
  by_cases h3 : k = 3
  · subst h3; exact refPut3_c fro to_ r name text PA pn pc ps w ht hn
  by_cases h4 : k = 4
  · subst h4; exact refPut4_c fro to_ r name text PA pn pc ps w ht 
  by_cases h5 : k = 5
  · subst h5; exact refPut5_c fro to_ r name text PA pn pc ps w ht 
  by_cases h6 : k = 6
  · subst h6; exact refPut6_c fro to_ r name text PA pn pc ps w ht hn
  by_cases h7 : k = 7
  · subst h7; exact refPut7_c fro to_ r name text PA pn pc ps w ht h hn hp hps
  by_cases h8 : k = 8
  · subst h8; exact refPut8_c fro to_ r name text PA pn pc ps w ht h hn hp hps
  by_cases h9 : k = 9
  · subst h9; exact refPut9_c fro to_ r name text PA pn pc ps w ht hn
  exact refPutX_c k fro to_ r name text PA pn pc ps w ht fun j hj1 hj2 => by omega
end Go.Proofs.YtmclngahdklfkaaGreatDoor
/- Great of a token. -/
namespace Go.Proofs.YtmclngahdklfkaaGreatDoor
open Go.ChangeShapes Go.WideShapes Go.ChangeAt Go.RowKit
set_option linter.unusedVariables false
def greatK (name text : List UInt8) (ps : List PairL) : Bool := ((ps.take 40).any greatP) || (decide (1200 < name.length) || (decide (300 < text.length) || decide (20 < ps.length)))
theorem greatK_no {name text : List UInt8} {ps : List PairL} (h : greatK name text ps = false) : name.length ≤ 1200 ∧ text.length ≤ 300 ∧ ps.length ≤ 20 ∧ ∀ p ∈ ps, p.1.length ≤ 1200 ∧ p.2.length ≤ 300 := by
  unfold greatK at h
  simp only [Bool.or_eq_false_iff, decide_eq_false_iff_not] at h
  have hl : ps.length ≤ 20 := by omega
  rw [List.take_of_length_le (by omega)] at h
  refine ⟨by omega, by omega, hl, fun p hp => ?_⟩
  have := List.any_eq_false.1 h.1 p hp
  simp only [greatP, Bool.or_eq_true, decide_eq_true_eq, not_or] at this
  omega
set_option maxRecDepth 100000 in
set_option maxHeartbeats 8000000 in
theorem great11_c (k fro to_ r : Int) (name text : List UInt8) (A : Option Addr) (n cap : Nat) (ps : List PairL) (w : World) (h : PRd w w.heap.size A n cap ps) :
    Calls Tryz.prog 25 #[.agg #[.int .i64 k, .int .i64 fro, .int .i64 to_, .string ⟨name.toArray⟩, .string ⟨text.toArray⟩, .slice A n cap, .int .i64 r]] w fun e w' => e = .returned (.bool (greatK name text ps)) ∧ Below w.heap.size w w' := by
  have J0 := Lib.hid (CJ.start 30 w #[.int .i64 k, .int .i64 fro, .int .i64 to_, .string ⟨name.toArray⟩, .string ⟨text.toArray⟩, .slice A n cap, .int .i64 r])
  have HP := Lib.hid (h.below J0.out.1)
  have HLN : Hid (ps.length = n) := Lib.hid h.len
  have z3 := cell_of 3 J0.out.2
  have z4 := cell_of 4 J0.out.2
  have z5 := cell_of 5 J0.out.2
  have HG : Hid (greatK name text ps = (((ps.take 40).any greatP) || (decide (1200 < name.length) || (decide (300 < text.length) || decide (20 < ps.length))))) := Lib.hid rfl
  obtain ⟨G, hG⟩ : ∃ b, greatK name text ps = b := ⟨_, rfl⟩
  rw [hG] at HG ⊢
  clear h hG
  go_enter Tryz.func25, Tryz.ntmps25
  go_wp2
  generalize w.alloc (.cells #[.int .i64 k, .int .i64 fro, .int .i64 to_, .string ⟨name.toArray⟩, .string ⟨text.toArray⟩, .slice A n cap, .int .i64 r] 30) = wa at *
  go_loopg [3] (n) (fun g i wr => ∃ t : Nat, t ≤ n ∧ t ≤ 40 ∧ Hid (g + t = n) ∧ i = .int .i64 (t : Int) ∧ wa = wr ∧ Hid ((ps.take t).any greatP = false))
  case atStart => exact ⟨0, Nat.zero_le _, Nat.zero_le _, Lib.hid (by omega), rfl, rfl, Lib.hid rfl⟩
  case round =>
    obtain ⟨t, ht, ht4, hg, rfl, rfl, HN⟩ := hrel
    have ht0 : (0 : Int) ≤ (t : Int) := by omega
    have htb : (t : Int) ≤ 40 := by omega
    by_cases htn : t < n ∧ t < 40
    · have htni : (t : Int) < (n : Int) := by omega
      have htn4 : (t : Int) < 40 := by omega
      obtain ⟨b, o, p, rfl, hb, hp, hc0, hc1⟩ := HP.out.cell htn.1
      have htk := take_snoc' hp
      have HAN : Hid ((ps.take (t + 1)).any greatP = ((ps.take t).any greatP || greatP p)) := Lib.hid (by rw [htk, List.any_append]; simp)
      have HT : Hid (greatP p = true → G = true) := Lib.hid fun h0 => by
        rw [HG.out]
        have : (ps.take 40).any greatP = true := List.any_eq_true.2 ⟨p, by
          have h1 : (ps.take 40)[t]? = some p := by rw [List.getElem?_take_of_lt htn.2]; exact hp
          exact List.mem_of_getElem? h1, h0⟩
        rw [this]; rfl
      clear hb hp htk
      obtain ⟨pn, pv⟩ := p
      simp only at hc0 hc1
      by_cases h1 : 300 < pv.length
      · have h1i : (300 : Int) < (pv.length : Int) := by omega
        have HE := HT.out (by unfold greatP; simp [h1])
        subst HE
        go_wp2
        go_ret
        exact ⟨rfl, J0.out.1⟩
      · have h1i : ¬ (300 : Int) < (pv.length : Int) := by omega
        by_cases h2 : 1200 < pn.length
        · have h2i : (1200 : Int) < (pn.length : Int) := by omega
          have HE := HT.out (by unfold greatP; simp [h2])
          subst HE
          go_wp2
          go_ret
          exact ⟨rfl, J0.out.1⟩
        · have h2i : ¬ (1200 : Int) < (pn.length : Int) := by omega
          have HN2 : Hid ((ps.take (t + 1)).any greatP = false) := Lib.hid (by rw [HAN.out, HN.out]; unfold greatP; simp [h1, h2])
          go_wp2
          go_roundg (n - (t + 1))
          case measure => have := hg.out; omega
          case rel => exact ⟨t + 1, by omega, by omega, Lib.hid (by have := hg.out; omega), by go_num, rfl, HN2⟩
    · have HF : Hid (G = (decide (1200 < name.length) || (decide (300 < text.length) || decide (20 < n)))) := Lib.hid (by
        rw [HG.out, HLN.out]
        have h0 : (ps.take 40).any greatP = false := by
          have := HN.out
          by_cases h4 : t = 40
          · rwa [h4] at this
          · have hn : n ≤ t := by omega
            rw [List.take_of_length_le (by rw [HLN.out]; exact hn)] at this
            rw [List.take_of_length_le (by rw [HLN.out]; omega)]
            exact this
        rw [h0, Bool.false_or])
      by_cases h1 : 1200 < name.length
      · have h1i : (1200 : Int) < (name.length : Int) := by omega
        have hGG : G = true := by rw [HF.out, decide_eq_true h1]; rfl
        by_cases hc : t < n
        · have hci : (t : Int) < (n : Int) := by omega
          have h4i : ¬ (t : Int) < 40 := by omega
          clear htn
          subst hGG
          go_wp2
          go_ret
          exact ⟨rfl, J0.out.1⟩
        · have hci : ¬ (t : Int) < (n : Int) := by omega
          clear htn
          subst hGG
          go_wp2
          go_ret
          exact ⟨rfl, J0.out.1⟩
      · have h1i : ¬ (1200 : Int) < (name.length : Int) := by omega
        by_cases h2 : 300 < text.length
        · have h2i : (300 : Int) < (text.length : Int) := by omega
          have hGG : G = true := by rw [HF.out, decide_eq_false h1, decide_eq_true h2]; rfl
          by_cases hc : t < n
          · have hci : (t : Int) < (n : Int) := by omega
            have h4i : ¬ (t : Int) < 40 := by omega
            clear htn
            subst hGG
            go_wp2
            go_ret
            exact ⟨rfl, J0.out.1⟩
          · have hci : ¬ (t : Int) < (n : Int) := by omega
            clear htn
            subst hGG
            go_wp2
            go_ret
            exact ⟨rfl, J0.out.1⟩
        · have h2i : ¬ (300 : Int) < (text.length : Int) := by omega
          by_cases h20 : 20 < n
          · have hni : (20 : Int) < (n : Int) := by omega
            have hGG : G = true := by rw [HF.out, decide_eq_false h1, decide_eq_false h2, decide_eq_true h20]; rfl
            by_cases hc : t < n
            · have hci : (t : Int) < (n : Int) := by omega
              have h4i : ¬ (t : Int) < 40 := by omega
              clear htn
              subst hGG
              go_wp2
              go_ret
              exact ⟨rfl, J0.out.1⟩
            · have hci : ¬ (t : Int) < (n : Int) := by omega
              clear htn
              subst hGG
              go_wp2
              go_ret
              exact ⟨rfl, J0.out.1⟩
          · have hni : ¬ (20 : Int) < (n : Int) := by omega
            have hGG : G = false := by rw [HF.out, decide_eq_false h1, decide_eq_false h2, decide_eq_false h20]; rfl
            by_cases hc : t < n
            · exfalso
              omega
            · have hci : ¬ (t : Int) < (n : Int) := by omega
              clear htn
              subst hGG
              go_wp2
              go_ret
              exact ⟨rfl, J0.out.1⟩
end Go.Proofs.YtmclngahdklfkaaGreatDoor
/- tok.read, arm by arm. -/
namespace Go.Proofs.YtmclngahdklfkaaGreatDoor
open Go.ChangeShapes Go.WideShapes Go.ChangeAt Go.RowKit
set_option linter.unusedVariables false
/-- While a token is read: the boxes of the bytes and of the place, the token's own block. -/
structure RJ (A : Option Addr) (n cap k : Nat) (w W : World) (rs : Array Value) : Prop where
  below : Below w.heap.size w W
  size : w.heap.size + 1 + 1 < W.heap.size
  bs : W.heap[w.heap.size]? = some (.cells #[.slice A n cap] 22)
  at_ : W.heap[w.heap.size + 1]? = some (.cells #[.int .i64 (k : Int)] 3)
  tok : W.heap[w.heap.size + 1 + 1]? = some (.cells rs 26)
theorem RJ.start (A : Option Addr) (n cap k : Nat) (w : World) : RJ A n cap k w (((w.alloc (.cells #[.slice A n cap] 22)).alloc (.cells #[.int .i64 (k : Int)] 3)).alloc (.cells #[.int .i64 0, .int .i64 0, .int .i64 0, .string ⟨#[]⟩, .string ⟨#[]⟩, .slice none 0 0, .int .i64 0] 26)) #[.int .i64 0, .int .i64 0, .int .i64 0, .string ⟨#[]⟩, .string ⟨#[]⟩, .slice none 0 0, .int .i64 0] := by
  have b1 := (Below.refl w.heap.size w).alloc (Nat.le_refl _) (.cells #[.slice A n cap] 22)
  have b2 := b1.alloc (by simp) (.cells #[.int .i64 (k : Int)] 3)
  refine ⟨b2.alloc (by simp; omega) (.cells #[.int .i64 0, .int .i64 0, .int .i64 0, .string ⟨#[]⟩, .string ⟨#[]⟩, .slice none 0 0, .int .i64 0] 26), by simp, ?_, ?_, ?_⟩
  · rw [Below.heap_alloc _ _ _ (by simp; omega), Below.heap_alloc _ _ _ (by simp)]; exact hp_new _ _
  · rw [Below.heap_alloc _ _ _ (by simp)]
    have := hp_new (w.alloc (.cells #[.slice A n cap] 22)) (.cells #[.int .i64 (k : Int)] 3)
    rwa [World.size_alloc] at this
  · have := hp_new ((w.alloc (.cells #[.slice A n cap] 22)).alloc (.cells #[.int .i64 (k : Int)] 3)) (.cells #[.int .i64 0, .int .i64 0, .int .i64 0, .string ⟨#[]⟩, .string ⟨#[]⟩, .slice none 0 0, .int .i64 0] 26)
    rwa [World.size_alloc, World.size_alloc] at this
theorem RJ.kept {A : Option Addr} {n cap k : Nat} {w W W' : World} {rs : Array Value} (h : RJ A n cap k w W rs) (hb : Below W.heap.size W W') : RJ A n cap k w W' rs :=
  ⟨h.below.trans (hb.mono h.below.size), by have := hb.size; have := h.size; omega, by rw [hb.block _ (by have := h.size; omega)]; exact h.bs, by rw [hb.block _ (by have := h.size; omega)]; exact h.at_, by rw [hb.block _ h.size]; exact h.tok⟩
theorem RJ.set {A : Option Addr} {n cap k : Nat} {w W : World} {rs : Array Value} (h : RJ A n cap k w W rs) (i : Nat) (v : Value) : RJ A n cap k w (W.setCell ⟨w.heap.size + 1 + 1, i, none⟩ v) (rs.setIfInBounds i v) :=
  ⟨h.below.setCell (p := ⟨w.heap.size + 1 + 1, i, none⟩) (by show w.heap.size ≤ w.heap.size + 1 + 1; omega) v, by simpa using h.size, by rw [hp_other (by omega)]; exact h.bs, by rw [hp_other (by omega)]; exact h.at_, hp_set h.tok⟩
theorem RJ.row {A : Option Addr} {n cap k : Nat} {w W : World} {rs : Array Value} (h : RJ A n cap k w W rs) (cs : Array Value) : RJ A n cap k w (W.setRow (w.heap.size + 1 + 1) cs) cs := by
  refine ⟨⟨h.below.os, h.below.tape, h.below.output, ?_, fun j hj => ?_⟩, ?_, ?_, ?_, setRow_heap _ _ _ _ _ _ h.tok⟩
  · have := h.below.size; simpa [World.setRow] using this
  · rw [setRow_other _ _ _ _ (by omega)]; exact h.below.block j hj
  · simpa [World.setRow] using h.size
  · rw [setRow_other _ _ _ _ (by omega)]; exact h.bs
  · rw [setRow_other _ _ _ _ (by omega)]; exact h.at_
/-- What the reading of a token leaves, of a token without attributes. -/
theorem TokPost.plain {t : TokL} {x : Nat} {w w' : World} {e : Ending} (hp : t.pairs = []) (he : e = .returned (.tuple #[.agg (TokV.cells ⟨t, none, 0, 0⟩).toArray, .int .i64 (x : Int)])) (hb : Below w.heap.size w w') : TokPost (t, x) w e w' :=
  ⟨⟨t, none, 0, 0⟩, rfl, he, by rw [hp]; exact PRd.nilR _ _, hb, fun b i h => by cases h⟩
set_option maxRecDepth 100000 in
set_option maxHeartbeats 8000000 in
theorem tokRead_comment (A : Option Addr) (n cap : Nat) (l : List UInt8) (k : Nat) (w : World) (h : Byt w w.heap.size A n cap l) (hW : W11 w) (hm : n ≤ 40000) (hk : k ≤ n) (h0 : [60, 33, 45, 45].isPrefixOf (l.drop k) = true) :
    Calls Tryz.prog 29 #[.slice A n cap, .int .i64 (k : Int)] w fun e w' => TokPost (readTok l k) w e w' := by
  have hln := h.length
  have HK : Hid (∀ W rs, RJ A n cap k w W rs → Byt W W.heap.size A n cap l ∧ W11 W) := Lib.hid fun W rs hJ => ⟨(h.below hJ.below).more hJ.below.size, hW.below hJ.below⟩
  have S0 : Hid (∀ W rs, RJ A n cap k w W rs → Calls Tryz.prog 59 #[.string ⟨#[60, 33, 45, 45]⟩, .pointer (some ⟨w.heap.size, 0, none⟩), .pointer (some ⟨w.heap.size + 1, 0, none⟩)] W fun e w' => e = .returned (.bool true) ∧ Below W.heap.size W w') := Lib.hid fun W rs hJ => by
    have := stands1_c A n cap l k w.heap.size (w.heap.size + 1) [60, 33, 45, 45] W (HK.out W rs hJ).1 hk (by decide) (cell_of 0 hJ.bs) (cell_of 0 hJ.at_)
    rwa [h0] at this
  have C : Hid (∀ W rs, RJ A n cap k w W rs → Calls Tryz.prog 61 #[.slice A n cap, .int .i64 (k : Int)] W fun e w' => e = .returned (outV (commentOut l k)) ∧ Below W.heap.size W w') := Lib.hid fun W rs hJ => by
    have hB := (HK.out W rs hJ).1
    have hW := (HK.out W rs hJ).2
    have := miscComment_c A n cap l k W hB hW.maxl (by omega)
    have he : anyAt commentOut l k = commentOut l k := by
      unfold anyAt
      rw [hln, if_neg (by omega), Int.toNat_natCast]
    rwa [he] at this
  unfold readTok
  rw [if_pos h0]
  generalize commentOut l k = o at *
  obtain ⟨s, t, e⟩ := o
  unfold outV at C
  simp only at C ⊢
  have J0 := Lib.hid (RJ.start A n cap k w)
  have hi : (Tryz.prog.info? 26).map (·.size) = some 7 := by kernel_rfl
  obtain ⟨sd, hu⟩ := isStruct_of (P := Tryz.prog) (t := 26) (by kernel_rfl)
  have HU := Lib.hid (And.intro hi hu)
  have hk0 : (0 : Int) ≤ (k : Int) := by omega
  have hk1 : (k : Int) ≤ 40000 := by omega
  clear h hW hln HK hi hu h0
  go_enter Tryz.func29, Tryz.ntmps29
  go_wp2_with fail
  refine (S0.out _ _ J0.out).mono ?_
  rintro e0 w1 ⟨rfl, hb⟩
  have J1 := Lib.hid (J0.out.kept hb)
  clear hb
  have z0 := cell_of 0 J1.out.tok
  have y0 := free_of 0 J1.out.tok
  have JA : Hid (RJ A n cap k w (w1.setCell ⟨w.heap.size + 1 + 1, 0, none⟩ (.int .i64 5)) #[.int .i64 5, .int .i64 0, .int .i64 0, .string ⟨#[]⟩, .string ⟨#[]⟩, .slice none 0 0, .int .i64 0]) := Lib.hid (J1.out.set 0 (.int .i64 5))
  have zb := cell_of 0 JA.out.bs
  have za := cell_of 0 JA.out.at_
  go_wp2_with fail
  clear z0 y0
  generalize w1.setCell ⟨w.heap.size + 1 + 1, 0, none⟩ (.int .i64 5) = v1 at *
  refine (C.out _ _ JA.out).mono ?_
  rintro e0 u0 ⟨rfl, hb⟩
  have K0 := Lib.hid (JA.out.kept hb)
  clear hb zb za
  have z1 := cell_of 4 K0.out.tok
  have y1 := free_of 4 K0.out.tok
  have K1 : Hid (RJ A n cap k w (u0.setCell ⟨w.heap.size + 1 + 1, 4, none⟩ (.string ⟨s.toArray⟩)) #[.int .i64 5, .int .i64 0, .int .i64 0, .string ⟨#[]⟩, .string ⟨s.toArray⟩, .slice none 0 0, .int .i64 0]) := Lib.hid (K0.out.set 4 (.string ⟨s.toArray⟩))
  have z2 := cell_of 2 K1.out.tok
  have y2 := free_of 2 K1.out.tok
  have K2 : Hid (RJ A n cap k w ((u0.setCell ⟨w.heap.size + 1 + 1, 4, none⟩ (.string ⟨s.toArray⟩)).setCell ⟨w.heap.size + 1 + 1, 2, none⟩ (.int .i64 (t : Int))) #[.int .i64 5, .int .i64 0, .int .i64 (t : Int), .string ⟨#[]⟩, .string ⟨s.toArray⟩, .slice none 0 0, .int .i64 0]) := Lib.hid (K1.out.set 2 (.int .i64 (t : Int)))
  have JF := Lib.hid (K2.out.row #[.int .i64 5, .int .i64 0, .int .i64 (t : Int), .string ⟨#[]⟩, .string ⟨s.toArray⟩, .slice none 0 0, .int .i64 0])
  go_wp2_with (first | (refine wpList_load_row rfl _ _ rfl (w.heap.size + 1 + 1) rfl _ _ _ _ K2.out.tok HU.out.2 rfl HU.out.1 ?_) | (refine wpList_store_row rfl _ _ _ rfl (w.heap.size + 1 + 1) #[.int .i64 5, .int .i64 0, .int .i64 (t : Int), .string ⟨#[]⟩, .string ⟨s.toArray⟩, .slice none 0 0, .int .i64 0] rfl rfl _ _ K2.out.tok (by kernel_rfl) rfl (by kernel_rfl) ?_))
  (try simp only [Exit.inBlock, Exit.then])
  exact bodyPost_ret (results_cell2 rfl _ _ (w.heap.size + 1 + 1) _ _ _ _ rfl JF.out.tok HU.out.2 rfl HU.out.1) rfl (TokPost.plain rfl rfl JF.out.below)
set_option maxRecDepth 100000 in
set_option maxHeartbeats 8000000 in
theorem tokRead_cdata (A : Option Addr) (n cap : Nat) (l : List UInt8) (k : Nat) (w : World) (h : Byt w w.heap.size A n cap l) (hW : W11 w) (hm : n ≤ 40000) (hk : k ≤ n) (h0 : [60, 33, 45, 45].isPrefixOf (l.drop k) = false) (h1 : [60, 33, 91, 67, 68, 65, 84, 65, 91].isPrefixOf (l.drop k) = true) :
    Calls Tryz.prog 29 #[.slice A n cap, .int .i64 (k : Int)] w fun e w' => TokPost (readTok l k) w e w' := by
  have hln := h.length
  have HK : Hid (∀ W rs, RJ A n cap k w W rs → Byt W W.heap.size A n cap l ∧ W11 W) := Lib.hid fun W rs hJ => ⟨(h.below hJ.below).more hJ.below.size, hW.below hJ.below⟩
  have S0 : Hid (∀ W rs, RJ A n cap k w W rs → Calls Tryz.prog 59 #[.string ⟨#[60, 33, 45, 45]⟩, .pointer (some ⟨w.heap.size, 0, none⟩), .pointer (some ⟨w.heap.size + 1, 0, none⟩)] W fun e w' => e = .returned (.bool false) ∧ Below W.heap.size W w') := Lib.hid fun W rs hJ => by
    have := stands1_c A n cap l k w.heap.size (w.heap.size + 1) [60, 33, 45, 45] W (HK.out W rs hJ).1 hk (by decide) (cell_of 0 hJ.bs) (cell_of 0 hJ.at_)
    rwa [h0] at this
  have S1 : Hid (∀ W rs, RJ A n cap k w W rs → Calls Tryz.prog 59 #[.string ⟨#[60, 33, 91, 67, 68, 65, 84, 65, 91]⟩, .pointer (some ⟨w.heap.size, 0, none⟩), .pointer (some ⟨w.heap.size + 1, 0, none⟩)] W fun e w' => e = .returned (.bool true) ∧ Below W.heap.size W w') := Lib.hid fun W rs hJ => by
    have := stands1_c A n cap l k w.heap.size (w.heap.size + 1) [60, 33, 91, 67, 68, 65, 84, 65, 91] W (HK.out W rs hJ).1 hk (by decide) (cell_of 0 hJ.bs) (cell_of 0 hJ.at_)
    rwa [h1] at this
  have C : Hid (∀ W rs, RJ A n cap k w W rs → Calls Tryz.prog 62 #[.slice A n cap, .int .i64 (k : Int)] W fun e w' => e = .returned (outV (cdataOut l k)) ∧ Below W.heap.size W w') := Lib.hid fun W rs hJ => by
    have hB := (HK.out W rs hJ).1
    have hW := (HK.out W rs hJ).2
    have := miscCData_c A n cap l k W hB hW.maxl (by omega)
    have he : anyAt cdataOut l k = cdataOut l k := by
      unfold anyAt
      rw [hln, if_neg (by omega), Int.toNat_natCast]
    rwa [he] at this
  unfold readTok
  rw [if_neg (by rw [h0]; simp), if_pos h1]
  generalize cdataOut l k = o at *
  obtain ⟨s, t, e⟩ := o
  unfold outV at C
  simp only at C ⊢
  have J0 := Lib.hid (RJ.start A n cap k w)
  have hi : (Tryz.prog.info? 26).map (·.size) = some 7 := by kernel_rfl
  obtain ⟨sd, hu⟩ := isStruct_of (P := Tryz.prog) (t := 26) (by kernel_rfl)
  have HU := Lib.hid (And.intro hi hu)
  have hk0 : (0 : Int) ≤ (k : Int) := by omega
  have hk1 : (k : Int) ≤ 40000 := by omega
  clear h hW hln HK hi hu h0 h1
  go_enter Tryz.func29, Tryz.ntmps29
  go_wp2_with fail
  refine (S0.out _ _ J0.out).mono ?_
  rintro e0 w1 ⟨rfl, hb⟩
  have J1 := Lib.hid (J0.out.kept hb)
  clear hb
  go_wp2_with fail
  refine (S1.out _ _ J1.out).mono ?_
  rintro e0 w2 ⟨rfl, hb⟩
  have J2 := Lib.hid (J1.out.kept hb)
  clear hb
  have z0 := cell_of 0 J2.out.tok
  have y0 := free_of 0 J2.out.tok
  have JA : Hid (RJ A n cap k w (w2.setCell ⟨w.heap.size + 1 + 1, 0, none⟩ (.int .i64 4)) #[.int .i64 4, .int .i64 0, .int .i64 0, .string ⟨#[]⟩, .string ⟨#[]⟩, .slice none 0 0, .int .i64 0]) := Lib.hid (J2.out.set 0 (.int .i64 4))
  have zb := cell_of 0 JA.out.bs
  have za := cell_of 0 JA.out.at_
  go_wp2_with fail
  clear z0 y0
  generalize w2.setCell ⟨w.heap.size + 1 + 1, 0, none⟩ (.int .i64 4) = v1 at *
  refine (C.out _ _ JA.out).mono ?_
  rintro e0 u0 ⟨rfl, hb⟩
  have K0 := Lib.hid (JA.out.kept hb)
  clear hb zb za
  have z1 := cell_of 4 K0.out.tok
  have y1 := free_of 4 K0.out.tok
  have K1 : Hid (RJ A n cap k w (u0.setCell ⟨w.heap.size + 1 + 1, 4, none⟩ (.string ⟨s.toArray⟩)) #[.int .i64 4, .int .i64 0, .int .i64 0, .string ⟨#[]⟩, .string ⟨s.toArray⟩, .slice none 0 0, .int .i64 0]) := Lib.hid (K0.out.set 4 (.string ⟨s.toArray⟩))
  have z2 := cell_of 2 K1.out.tok
  have y2 := free_of 2 K1.out.tok
  have K2 : Hid (RJ A n cap k w ((u0.setCell ⟨w.heap.size + 1 + 1, 4, none⟩ (.string ⟨s.toArray⟩)).setCell ⟨w.heap.size + 1 + 1, 2, none⟩ (.int .i64 (t : Int))) #[.int .i64 4, .int .i64 0, .int .i64 (t : Int), .string ⟨#[]⟩, .string ⟨s.toArray⟩, .slice none 0 0, .int .i64 0]) := Lib.hid (K1.out.set 2 (.int .i64 (t : Int)))
  have JF := Lib.hid (K2.out.row #[.int .i64 4, .int .i64 0, .int .i64 (t : Int), .string ⟨#[]⟩, .string ⟨s.toArray⟩, .slice none 0 0, .int .i64 0])
  go_wp2_with (first | (refine wpList_load_row rfl _ _ rfl (w.heap.size + 1 + 1) rfl _ _ _ _ K2.out.tok HU.out.2 rfl HU.out.1 ?_) | (refine wpList_store_row rfl _ _ _ rfl (w.heap.size + 1 + 1) #[.int .i64 4, .int .i64 0, .int .i64 (t : Int), .string ⟨#[]⟩, .string ⟨s.toArray⟩, .slice none 0 0, .int .i64 0] rfl rfl _ _ K2.out.tok (by kernel_rfl) rfl (by kernel_rfl) ?_))
  (try simp only [Exit.inBlock, Exit.then])
  exact bodyPost_ret (results_cell2 rfl _ _ (w.heap.size + 1 + 1) _ _ _ _ rfl JF.out.tok HU.out.2 rfl HU.out.1) rfl (TokPost.plain rfl rfl JF.out.below)
set_option maxRecDepth 100000 in
set_option maxHeartbeats 8000000 in
theorem tokRead_pi (A : Option Addr) (n cap : Nat) (l : List UInt8) (k : Nat) (w : World) (h : Byt w w.heap.size A n cap l) (hW : W11 w) (hm : n ≤ 40000) (hk : k ≤ n) (h0 : [60, 33, 45, 45].isPrefixOf (l.drop k) = false) (h1 : [60, 33, 91, 67, 68, 65, 84, 65, 91].isPrefixOf (l.drop k) = false) (h2 : [60, 63].isPrefixOf (l.drop k) = true) :
    Calls Tryz.prog 29 #[.slice A n cap, .int .i64 (k : Int)] w fun e w' => TokPost (readTok l k) w e w' := by
  have hln := h.length
  have HK : Hid (∀ W rs, RJ A n cap k w W rs → Byt W W.heap.size A n cap l ∧ W11 W) := Lib.hid fun W rs hJ => ⟨(h.below hJ.below).more hJ.below.size, hW.below hJ.below⟩
  have S0 : Hid (∀ W rs, RJ A n cap k w W rs → Calls Tryz.prog 59 #[.string ⟨#[60, 33, 45, 45]⟩, .pointer (some ⟨w.heap.size, 0, none⟩), .pointer (some ⟨w.heap.size + 1, 0, none⟩)] W fun e w' => e = .returned (.bool false) ∧ Below W.heap.size W w') := Lib.hid fun W rs hJ => by
    have := stands1_c A n cap l k w.heap.size (w.heap.size + 1) [60, 33, 45, 45] W (HK.out W rs hJ).1 hk (by decide) (cell_of 0 hJ.bs) (cell_of 0 hJ.at_)
    rwa [h0] at this
  have S1 : Hid (∀ W rs, RJ A n cap k w W rs → Calls Tryz.prog 59 #[.string ⟨#[60, 33, 91, 67, 68, 65, 84, 65, 91]⟩, .pointer (some ⟨w.heap.size, 0, none⟩), .pointer (some ⟨w.heap.size + 1, 0, none⟩)] W fun e w' => e = .returned (.bool false) ∧ Below W.heap.size W w') := Lib.hid fun W rs hJ => by
    have := stands1_c A n cap l k w.heap.size (w.heap.size + 1) [60, 33, 91, 67, 68, 65, 84, 65, 91] W (HK.out W rs hJ).1 hk (by decide) (cell_of 0 hJ.bs) (cell_of 0 hJ.at_)
    rwa [h1] at this
  have S2 : Hid (∀ W rs, RJ A n cap k w W rs → Calls Tryz.prog 59 #[.string ⟨#[60, 63]⟩, .pointer (some ⟨w.heap.size, 0, none⟩), .pointer (some ⟨w.heap.size + 1, 0, none⟩)] W fun e w' => e = .returned (.bool true) ∧ Below W.heap.size W w') := Lib.hid fun W rs hJ => by
    have := stands1_c A n cap l k w.heap.size (w.heap.size + 1) [60, 63] W (HK.out W rs hJ).1 hk (by decide) (cell_of 0 hJ.bs) (cell_of 0 hJ.at_)
    rwa [h2] at this
  have C : Hid (∀ W rs, RJ A n cap k w W rs → Calls Tryz.prog 63 #[.slice A n cap, .int .i64 (k : Int)] W fun e w' => e = .returned (out4V (piOut l k)) ∧ Below W.heap.size W w') := Lib.hid fun W rs hJ => by
    have hB := (HK.out W rs hJ).1
    have hW := (HK.out W rs hJ).2
    have := miscPiAt_c A n cap l k W hB hW.w8f (by omega)
    have he : piAt l k = piOut l k := by
      unfold piAt
      rw [hln, if_neg (by omega), Int.toNat_natCast]
    rwa [he] at this
  unfold readTok
  rw [if_neg (by rw [h0]; simp), if_neg (by rw [h1]; simp), if_pos h2]
  generalize piOut l k = o at *
  obtain ⟨s, d, t, e⟩ := o
  unfold out4V at C
  simp only at C ⊢
  have J0 := Lib.hid (RJ.start A n cap k w)
  have hi : (Tryz.prog.info? 26).map (·.size) = some 7 := by kernel_rfl
  obtain ⟨sd, hu⟩ := isStruct_of (P := Tryz.prog) (t := 26) (by kernel_rfl)
  have HU := Lib.hid (And.intro hi hu)
  have hk0 : (0 : Int) ≤ (k : Int) := by omega
  have hk1 : (k : Int) ≤ 40000 := by omega
  clear h hW hln HK hi hu h0 h1 h2
  go_enter Tryz.func29, Tryz.ntmps29
  go_wp2_with fail
  refine (S0.out _ _ J0.out).mono ?_
  rintro e0 w1 ⟨rfl, hb⟩
  have J1 := Lib.hid (J0.out.kept hb)
  clear hb
  go_wp2_with fail
  refine (S1.out _ _ J1.out).mono ?_
  rintro e0 w2 ⟨rfl, hb⟩
  have J2 := Lib.hid (J1.out.kept hb)
  clear hb
  go_wp2_with fail
  refine (S2.out _ _ J2.out).mono ?_
  rintro e0 w3 ⟨rfl, hb⟩
  have J3 := Lib.hid (J2.out.kept hb)
  clear hb
  have z0 := cell_of 0 J3.out.tok
  have y0 := free_of 0 J3.out.tok
  have JA : Hid (RJ A n cap k w (w3.setCell ⟨w.heap.size + 1 + 1, 0, none⟩ (.int .i64 6)) #[.int .i64 6, .int .i64 0, .int .i64 0, .string ⟨#[]⟩, .string ⟨#[]⟩, .slice none 0 0, .int .i64 0]) := Lib.hid (J3.out.set 0 (.int .i64 6))
  have zb := cell_of 0 JA.out.bs
  have za := cell_of 0 JA.out.at_
  go_wp2_with fail
  clear z0 y0
  generalize w3.setCell ⟨w.heap.size + 1 + 1, 0, none⟩ (.int .i64 6) = v1 at *
  refine (C.out _ _ JA.out).mono ?_
  rintro e0 u0 ⟨rfl, hb⟩
  have K0 := Lib.hid (JA.out.kept hb)
  clear hb zb za
  have z1 := cell_of 3 K0.out.tok
  have y1 := free_of 3 K0.out.tok
  have K1 : Hid (RJ A n cap k w (u0.setCell ⟨w.heap.size + 1 + 1, 3, none⟩ (.string ⟨s.toArray⟩)) #[.int .i64 6, .int .i64 0, .int .i64 0, .string ⟨s.toArray⟩, .string ⟨#[]⟩, .slice none 0 0, .int .i64 0]) := Lib.hid (K0.out.set 3 (.string ⟨s.toArray⟩))
  have z2 := cell_of 4 K1.out.tok
  have y2 := free_of 4 K1.out.tok
  have K2 : Hid (RJ A n cap k w ((u0.setCell ⟨w.heap.size + 1 + 1, 3, none⟩ (.string ⟨s.toArray⟩)).setCell ⟨w.heap.size + 1 + 1, 4, none⟩ (.string ⟨d.toArray⟩)) #[.int .i64 6, .int .i64 0, .int .i64 0, .string ⟨s.toArray⟩, .string ⟨d.toArray⟩, .slice none 0 0, .int .i64 0]) := Lib.hid (K1.out.set 4 (.string ⟨d.toArray⟩))
  have z3 := cell_of 2 K2.out.tok
  have y3 := free_of 2 K2.out.tok
  have K3 : Hid (RJ A n cap k w (((u0.setCell ⟨w.heap.size + 1 + 1, 3, none⟩ (.string ⟨s.toArray⟩)).setCell ⟨w.heap.size + 1 + 1, 4, none⟩ (.string ⟨d.toArray⟩)).setCell ⟨w.heap.size + 1 + 1, 2, none⟩ (.int .i64 (t : Int))) #[.int .i64 6, .int .i64 0, .int .i64 (t : Int), .string ⟨s.toArray⟩, .string ⟨d.toArray⟩, .slice none 0 0, .int .i64 0]) := Lib.hid (K2.out.set 2 (.int .i64 (t : Int)))
  have JF := Lib.hid (K3.out.row #[.int .i64 6, .int .i64 0, .int .i64 (t : Int), .string ⟨s.toArray⟩, .string ⟨d.toArray⟩, .slice none 0 0, .int .i64 0])
  go_wp2_with (first | (refine wpList_load_row rfl _ _ rfl (w.heap.size + 1 + 1) rfl _ _ _ _ K3.out.tok HU.out.2 rfl HU.out.1 ?_) | (refine wpList_store_row rfl _ _ _ rfl (w.heap.size + 1 + 1) #[.int .i64 6, .int .i64 0, .int .i64 (t : Int), .string ⟨s.toArray⟩, .string ⟨d.toArray⟩, .slice none 0 0, .int .i64 0] rfl rfl _ _ K3.out.tok (by kernel_rfl) rfl (by kernel_rfl) ?_))
  (try simp only [Exit.inBlock, Exit.then])
  exact bodyPost_ret (results_cell2 rfl _ _ (w.heap.size + 1 + 1) _ _ _ _ rfl JF.out.tok HU.out.2 rfl HU.out.1) rfl (TokPost.plain rfl rfl JF.out.below)
set_option maxRecDepth 100000 in
set_option maxHeartbeats 8000000 in
theorem tokRead_close (A : Option Addr) (n cap : Nat) (l : List UInt8) (k : Nat) (w : World) (h : Byt w w.heap.size A n cap l) (hW : W11 w) (hm : n ≤ 40000) (hk : k ≤ n) (h0 : [60, 33, 45, 45].isPrefixOf (l.drop k) = false) (h1 : [60, 33, 91, 67, 68, 65, 84, 65, 91].isPrefixOf (l.drop k) = false) (h2 : [60, 63].isPrefixOf (l.drop k) = false) (h3 : [60, 47].isPrefixOf (l.drop k) = true) :
    Calls Tryz.prog 29 #[.slice A n cap, .int .i64 (k : Int)] w fun e w' => TokPost (readTok l k) w e w' := by
  have hln := h.length
  have HK : Hid (∀ W rs, RJ A n cap k w W rs → Byt W W.heap.size A n cap l ∧ W11 W) := Lib.hid fun W rs hJ => ⟨(h.below hJ.below).more hJ.below.size, hW.below hJ.below⟩
  have S0 : Hid (∀ W rs, RJ A n cap k w W rs → Calls Tryz.prog 59 #[.string ⟨#[60, 33, 45, 45]⟩, .pointer (some ⟨w.heap.size, 0, none⟩), .pointer (some ⟨w.heap.size + 1, 0, none⟩)] W fun e w' => e = .returned (.bool false) ∧ Below W.heap.size W w') := Lib.hid fun W rs hJ => by
    have := stands1_c A n cap l k w.heap.size (w.heap.size + 1) [60, 33, 45, 45] W (HK.out W rs hJ).1 hk (by decide) (cell_of 0 hJ.bs) (cell_of 0 hJ.at_)
    rwa [h0] at this
  have S1 : Hid (∀ W rs, RJ A n cap k w W rs → Calls Tryz.prog 59 #[.string ⟨#[60, 33, 91, 67, 68, 65, 84, 65, 91]⟩, .pointer (some ⟨w.heap.size, 0, none⟩), .pointer (some ⟨w.heap.size + 1, 0, none⟩)] W fun e w' => e = .returned (.bool false) ∧ Below W.heap.size W w') := Lib.hid fun W rs hJ => by
    have := stands1_c A n cap l k w.heap.size (w.heap.size + 1) [60, 33, 91, 67, 68, 65, 84, 65, 91] W (HK.out W rs hJ).1 hk (by decide) (cell_of 0 hJ.bs) (cell_of 0 hJ.at_)
    rwa [h1] at this
  have S2 : Hid (∀ W rs, RJ A n cap k w W rs → Calls Tryz.prog 59 #[.string ⟨#[60, 63]⟩, .pointer (some ⟨w.heap.size, 0, none⟩), .pointer (some ⟨w.heap.size + 1, 0, none⟩)] W fun e w' => e = .returned (.bool false) ∧ Below W.heap.size W w') := Lib.hid fun W rs hJ => by
    have := stands1_c A n cap l k w.heap.size (w.heap.size + 1) [60, 63] W (HK.out W rs hJ).1 hk (by decide) (cell_of 0 hJ.bs) (cell_of 0 hJ.at_)
    rwa [h2] at this
  have S3 : Hid (∀ W rs, RJ A n cap k w W rs → Calls Tryz.prog 59 #[.string ⟨#[60, 47]⟩, .pointer (some ⟨w.heap.size, 0, none⟩), .pointer (some ⟨w.heap.size + 1, 0, none⟩)] W fun e w' => e = .returned (.bool true) ∧ Below W.heap.size W w') := Lib.hid fun W rs hJ => by
    have := stands1_c A n cap l k w.heap.size (w.heap.size + 1) [60, 47] W (HK.out W rs hJ).1 hk (by decide) (cell_of 0 hJ.bs) (cell_of 0 hJ.at_)
    rwa [h3] at this
  have C : Hid (∀ W rs, RJ A n cap k w W rs → Calls Tryz.prog 64 #[.slice A n cap, .int .i64 (k : Int)] W fun e w' => e = .returned (outV (closeOut l k)) ∧ Below W.heap.size W w') := Lib.hid fun W rs hJ => by
    have hB := (HK.out W rs hJ).1
    have hW := (HK.out W rs hJ).2
    have := tagClose_in A n cap l k W hB hW.w10 hm hk
    exact this
  unfold readTok
  rw [if_neg (by rw [h0]; simp), if_neg (by rw [h1]; simp), if_neg (by rw [h2]; simp), if_pos h3]
  generalize closeOut l k = o at *
  obtain ⟨s, t, e⟩ := o
  unfold outV at C
  simp only at C ⊢
  have J0 := Lib.hid (RJ.start A n cap k w)
  have hi : (Tryz.prog.info? 26).map (·.size) = some 7 := by kernel_rfl
  obtain ⟨sd, hu⟩ := isStruct_of (P := Tryz.prog) (t := 26) (by kernel_rfl)
  have HU := Lib.hid (And.intro hi hu)
  have hk0 : (0 : Int) ≤ (k : Int) := by omega
  have hk1 : (k : Int) ≤ 40000 := by omega
  clear h hW hln HK hi hu h0 h1 h2 h3
  go_enter Tryz.func29, Tryz.ntmps29
  go_wp2_with fail
  refine (S0.out _ _ J0.out).mono ?_
  rintro e0 w1 ⟨rfl, hb⟩
  have J1 := Lib.hid (J0.out.kept hb)
  clear hb
  go_wp2_with fail
  refine (S1.out _ _ J1.out).mono ?_
  rintro e0 w2 ⟨rfl, hb⟩
  have J2 := Lib.hid (J1.out.kept hb)
  clear hb
  go_wp2_with fail
  refine (S2.out _ _ J2.out).mono ?_
  rintro e0 w3 ⟨rfl, hb⟩
  have J3 := Lib.hid (J2.out.kept hb)
  clear hb
  go_wp2_with fail
  refine (S3.out _ _ J3.out).mono ?_
  rintro e0 w4 ⟨rfl, hb⟩
  have J4 := Lib.hid (J3.out.kept hb)
  clear hb
  have z0 := cell_of 0 J4.out.tok
  have y0 := free_of 0 J4.out.tok
  have JA : Hid (RJ A n cap k w (w4.setCell ⟨w.heap.size + 1 + 1, 0, none⟩ (.int .i64 9)) #[.int .i64 9, .int .i64 0, .int .i64 0, .string ⟨#[]⟩, .string ⟨#[]⟩, .slice none 0 0, .int .i64 0]) := Lib.hid (J4.out.set 0 (.int .i64 9))
  have zb := cell_of 0 JA.out.bs
  have za := cell_of 0 JA.out.at_
  go_wp2_with fail
  clear z0 y0
  generalize w4.setCell ⟨w.heap.size + 1 + 1, 0, none⟩ (.int .i64 9) = v1 at *
  refine (C.out _ _ JA.out).mono ?_
  rintro e0 u0 ⟨rfl, hb⟩
  have K0 := Lib.hid (JA.out.kept hb)
  clear hb zb za
  have z1 := cell_of 3 K0.out.tok
  have y1 := free_of 3 K0.out.tok
  have K1 : Hid (RJ A n cap k w (u0.setCell ⟨w.heap.size + 1 + 1, 3, none⟩ (.string ⟨s.toArray⟩)) #[.int .i64 9, .int .i64 0, .int .i64 0, .string ⟨s.toArray⟩, .string ⟨#[]⟩, .slice none 0 0, .int .i64 0]) := Lib.hid (K0.out.set 3 (.string ⟨s.toArray⟩))
  have z2 := cell_of 2 K1.out.tok
  have y2 := free_of 2 K1.out.tok
  have K2 : Hid (RJ A n cap k w ((u0.setCell ⟨w.heap.size + 1 + 1, 3, none⟩ (.string ⟨s.toArray⟩)).setCell ⟨w.heap.size + 1 + 1, 2, none⟩ (.int .i64 (t : Int))) #[.int .i64 9, .int .i64 0, .int .i64 (t : Int), .string ⟨s.toArray⟩, .string ⟨#[]⟩, .slice none 0 0, .int .i64 0]) := Lib.hid (K1.out.set 2 (.int .i64 (t : Int)))
  have JF := Lib.hid (K2.out.row #[.int .i64 9, .int .i64 0, .int .i64 (t : Int), .string ⟨s.toArray⟩, .string ⟨#[]⟩, .slice none 0 0, .int .i64 0])
  go_wp2_with (first | (refine wpList_load_row rfl _ _ rfl (w.heap.size + 1 + 1) rfl _ _ _ _ K2.out.tok HU.out.2 rfl HU.out.1 ?_) | (refine wpList_store_row rfl _ _ _ rfl (w.heap.size + 1 + 1) #[.int .i64 9, .int .i64 0, .int .i64 (t : Int), .string ⟨s.toArray⟩, .string ⟨#[]⟩, .slice none 0 0, .int .i64 0] rfl rfl _ _ K2.out.tok (by kernel_rfl) rfl (by kernel_rfl) ?_))
  (try simp only [Exit.inBlock, Exit.then])
  exact bodyPost_ret (results_cell2 rfl _ _ (w.heap.size + 1 + 1) _ _ _ _ rfl JF.out.tok HU.out.2 rfl HU.out.1) rfl (TokPost.plain rfl rfl JF.out.below)
end Go.Proofs.YtmclngahdklfkaaGreatDoor
