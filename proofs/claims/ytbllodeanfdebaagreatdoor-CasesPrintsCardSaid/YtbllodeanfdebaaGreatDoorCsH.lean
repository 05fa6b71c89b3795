/- The reader of lines: fail, peek. -/
import Derived.Test.YtbllodeanfdebaaGreatDoorRows
import Derived.WalkKit
import Derived.ProofKit
import Derived.OpenShut
import Derived.ShutString
import Derived.ChangeOld
import Derived.Below
import Derived.BigQuiet
import Derived.Deep.QuietTactic
import Derived.Lib.Hide
import Derived.Deep.RegionHeld3
import Derived.Lib.SlBytesConst
import Derived.Laws.CopyOwn
import Derived.Laws.CopyRow
import Derived.Lib.Bytes
import Derived.Deep.LoopGhost
import Derived.Deep.DeepFit
import Derived.Deep.DeepMust
import Derived.WalkSpells
import Derived.WalkLawsBesides
import Derived.Laws.EntriesVeiled
import Derived.Laws.Rows
import Derived.Lib.Replace
import Derived.Lib.Split
import Derived.Lib.ItoaNum
import Derived.Lib.AtoiAllCases
import Derived.Test.YtbllodeanfdebaaGreatDoorShelf
import Derived.Test.YtbllodeanfdebaaGreatDoorBase
import Derived.Test.YtbllodeanfdebaaGreatDoorCsE
import Derived.Test.YtbllodeanfdebaaGreatDoorCsG
namespace Go.Proofs.YtbllodeanfdebaaGreatDoor
open Go.ChangeShapes Go.WideShapes Go.ChangeAt Go.RowKit
set_option linter.unusedVariables false
theorem bodyPost_pan {P : Program} {fn : Func} {R : Ending → World → Prop} {ch : List PanicEntry} {a : Act} {w : World} (h : a.defers = []) (h2 : R (.panicked ch) w) : bodyPost P fn R (.panic ch) a w := ⟨h, h2⟩
theorem cut_c (s : List UInt8) (w : World) (hs : s.length ≤ 1000000) (hm : ∃ m : Int, w.cell? ⟨2, 0, none⟩ = some (.int .i64 m)) :
    Calls Tryz.prog 60 #[.string ⟨s.toArray⟩, .string ⟨#[10]⟩] w fun e w' => e = .returned (.tuple #[.string ⟨(Lib.cut s [10]).1.toArray⟩, .string ⟨(Lib.cut s [10]).2.1.toArray⟩, .bool (Lib.cut s [10]).2.2]) ∧ ∃ n, w' = w.drewN n := by
  obtain ⟨m, hm⟩ := hm
  exact Tryz.strings_Cut ⟨s.toArray⟩ ⟨#[10]⟩ m w (by show s.toArray.size < _; simp; omega) hm
theorem pfx_c (s p : List UInt8) (w : World) : Calls Tryz.prog 48 #[.string ⟨s.toArray⟩, .string ⟨p.toArray⟩] w fun e w' => e = .returned (.bool (p.isPrefixOf s)) ∧ w = w' :=
  (Tryz.strings_HasPrefix ⟨s.toArray⟩ ⟨p.toArray⟩ w).mono fun e w' ⟨he, hw⟩ => ⟨he, hw.symm⟩
set_option maxRecDepth 100000 in
set_option maxHeartbeats 4000000 in
theorem fail_c (lb t : Nat) (r : List UInt8) (w : World) (h : LnAt w lb r t) (ht : t ≤ 1000000) :
    Calls Tryz.prog 21 #[.pointer (some ⟨lb, 0, none⟩)] w fun e w' => e = .panicked (lineV (t + 1)) ∧ w = w' := by
  have c1 : w.cell? ⟨lb, 1, none⟩ = some (.int .i64 (t : Int)) := by rw [cell_of 1 h]; rfl
  clear h
  go_enter Tryz.func21, Tryz.ntmps21
  go_wp2
  refine bodyPost_pan rfl ?_
  refine ⟨?_, rfl⟩
  unfold lineV
  rw [show ((t + 1 : Nat) : Int) = (t : Int) + 1 by omega]
set_option maxRecDepth 100000 in
set_option maxHeartbeats 4000000 in
theorem peek_c (B lb t : Nat) (r : List UInt8) (w : World) (h : LnAt w lb r t) (hw : WC B w) (hr : r.length ≤ 1000000) :
    Calls Tryz.prog 47 #[.pointer (some ⟨lb, 0, none⟩)] w fun e w' => e = .returned (.tuple #[.string ⟨(Lib.cut r [10]).1.toArray⟩, .bool (Lib.cut r [10]).2.2]) ∧ ∃ n, w' = w.drewN n := by
  have c0 : w.cell? ⟨lb, 0, none⟩ = some (.string ⟨r.toArray⟩) := by rw [cell_of 0 h]; rfl
  have CC := Lib.hid (cut_c r w hr hw.max)
  clear h hw
  go_enter Tryz.func47, Tryz.ntmps47
  go_wp2_with fail
  refine (CC.out).mono ?_
  rintro e w1 ⟨rfl, n, rfl⟩
  go_wp2
  go_ret2
  exact ⟨rfl, n, rfl⟩
end Go.Proofs.YtbllodeanfdebaaGreatDoor
