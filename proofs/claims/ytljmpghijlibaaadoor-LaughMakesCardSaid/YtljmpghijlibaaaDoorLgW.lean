/- laugh: references, declarations, their twins. -/
import Derived.Test.YtljmpghijlibaaaDoorRows
import Derived.WalkKit
import Derived.ProofKit
import Derived.OpenShut
import Derived.ShutString
import Derived.ChangeOld
import Derived.Below
import Derived.BigQuiet
import Derived.Deep.QuietTactic
import Derived.Lib.Hide
import Derived.Deep.RegionHeld3
import Derived.Lib.SlBytesConst
import Derived.Laws.CopyOwn
import Derived.Laws.CopyRow
import Derived.Lib.Bytes
import Derived.Deep.LoopGhost
import Derived.Deep.DeepFit
import Derived.Deep.DeepMust
import Derived.WalkSpells
import Derived.WalkLawsBesides
import Derived.Laws.EntriesVeiled
import Derived.Laws.Rows
import Derived.Test.YtljmpghijlibaaaDoorShelf
import Derived.Test.YtljmpghijlibaaaDoorBase
import Derived.Test.YtljmpghijlibaaaDoorCharPlain
import Derived.Test.YtljmpghijlibaaaDoorChars1
import Derived.Test.YtljmpghijlibaaaDoorUtf1
import Derived.Test.YtljmpghijlibaaaDoorUtf2
import Derived.Test.YtljmpghijlibaaaDoorUtf3
import Derived.Test.YtljmpghijlibaaaDoorName1
import Derived.Test.YtljmpghijlibaaaDoorName2
import Derived.Test.YtljmpghijlibaaaDoorName3
import Derived.Test.YtljmpghijlibaaaDoorCref1
import Derived.Test.YtljmpghijlibaaaDoorY2
import Derived.Test.YtljmpghijlibaaaDoorStr
import Derived.Test.YtljmpghijlibaaaDoorY3
import Derived.Test.YtljmpghijlibaaaDoorMiscP
import Derived.Test.YtljmpghijlibaaaDoorEnc
import Derived.Test.YtljmpghijlibaaaDoorEvP
import Derived.Test.YtljmpghijlibaaaDoorEvP2
import Derived.Test.YtljmpghijlibaaaDoorEscP
import Derived.Test.YtljmpghijlibaaaDoorPlainP
import Derived.Test.YtljmpghijlibaaaDoorKnown
import Derived.Test.YtljmpghijlibaaaDoorEvP3
import Derived.Test.YtljmpghijlibaaaDoorEvP4
import Derived.Test.YtljmpghijlibaaaDoorPub
import Derived.Test.YtljmpghijlibaaaDoorRun
import Derived.Test.YtljmpghijlibaaaDoorRunU
import Derived.Test.YtljmpghijlibaaaDoorRunV
import Derived.Test.YtljmpghijlibaaaDoorEv2
import Derived.Test.YtljmpghijlibaaaDoorEv3
import Derived.Test.YtljmpghijlibaaaDoorLibB
import Derived.Test.YtljmpghijlibaaaDoorText
import Derived.Test.YtljmpghijlibaaaDoorEv1
import Derived.Test.YtljmpghijlibaaaDoorEv6
import Derived.Test.YtljmpghijlibaaaDoorEv7
import Derived.Test.YtljmpghijlibaaaDoorZ3
import Derived.Test.YtljmpghijlibaaaDoorLgP
namespace Go.Proofs.YtljmpghijlibaaaDoor
open Go.ChangeShapes Go.WideShapes Go.ChangeAt Go.RowKit
set_option linter.unusedVariables false
set_option maxRecDepth 100000 in
set_option maxHeartbeats 4000000 in
theorem lref_c (i : Nat) (hi : i ≤ 200) (w : World) (hp : Lib.TabIs Tryd.prog w "internal/strconv.uint64pow10" .u64 Lib.pow10Tab) :
    Calls Tryd.prog 28 #[.int .i64 i] w fun e w' => e = .returned (.string ⟨(refB i).toArray⟩) ∧ Below w.heap.size w w' := by
  have CI := Lib.hid (itoa_c i (by omega) w hp)
  have hle := dec_le200 i (by omega)
  have hs1 : ∀ w : World, (Op.stringOp .add ⟨#[38, 101]⟩ ⟨(Lib.decDigits i).toArray⟩).run Tryd.prog w = .ok (.string ⟨([38, 101] ++ Lib.decDigits i).toArray⟩) w := fun w => run_sop (w := w) [38, 101] (Lib.decDigits i) (by simp; omega)
  have hs2 : ∀ w : World, (Op.stringOp .add ⟨([38, 101] ++ Lib.decDigits i).toArray⟩ ⟨#[59]⟩).run Tryd.prog w = .ok (.string ⟨([38, 101] ++ Lib.decDigits i ++ [59]).toArray⟩) w := fun w => run_sop (w := w) ([38, 101] ++ Lib.decDigits i) [59] (by simp; omega)
  have HE : Hid (refB i = [38, 101] ++ Lib.decDigits i ++ [59]) := Lib.hid rfl
  clear hp hle
  generalize [38, 101] ++ Lib.decDigits i ++ [59] = T2 at *
  generalize [38, 101] ++ Lib.decDigits i = T1 at *
  generalize Lib.decDigits i = T0 at *
  go_enter Tryd.func28, Tryd.ntmps28
  go_wp2_with fail
  refine (CI.out).mono ?_
  rintro e w1 ⟨rfl, hb⟩
  have B1 := Lib.hid hb
  clear hb
  go_wp2
  go_ret
  rw [HE.out]
  exact ⟨rfl, B1.out⟩
set_option maxRecDepth 100000 in
set_option maxHeartbeats 4000000 in
theorem rref_c (i : Nat) (hi : i ≤ 200) (w : World) :
    Calls Tryd.prog 39 #[.int .i64 i] w fun e w' => e = .returned (.string ⟨(refB i).toArray⟩) ∧ w = w' := by
  have CI := Lib.hid (refDigits_c i (by omega) w)
  have hle := dec_le200 i (by omega)
  have hs1 : ∀ w : World, (Op.stringOp .add ⟨#[38, 101]⟩ ⟨(Lib.decDigits i).toArray⟩).run Tryd.prog w = .ok (.string ⟨([38, 101] ++ Lib.decDigits i).toArray⟩) w := fun w => run_sop (w := w) [38, 101] (Lib.decDigits i) (by simp; omega)
  have hs2 : ∀ w : World, (Op.stringOp .add ⟨([38, 101] ++ Lib.decDigits i).toArray⟩ ⟨#[59]⟩).run Tryd.prog w = .ok (.string ⟨([38, 101] ++ Lib.decDigits i ++ [59]).toArray⟩) w := fun w => run_sop (w := w) ([38, 101] ++ Lib.decDigits i) [59] (by simp; omega)
  have HE : Hid (refB i = [38, 101] ++ Lib.decDigits i ++ [59]) := Lib.hid rfl
  clear hle
  generalize [38, 101] ++ Lib.decDigits i ++ [59] = T2 at *
  generalize [38, 101] ++ Lib.decDigits i = T1 at *
  generalize Lib.decDigits i = T0 at *
  go_enter Tryd.func39, Tryd.ntmps39
  go_wp2_with fail
  refine (CI.out).mono ?_
  rintro e wq ⟨rfl, rfl⟩
  go_wp2
  go_ret
  rw [HE.out]
  exact ⟨rfl, rfl⟩
set_option maxRecDepth 100000 in
set_option maxHeartbeats 4000000 in
theorem ldecl_c (i : Nat) (v : List UInt8) (hi : i ≤ 200) (hv : v.length ≤ 100000) (w : World) (hp : Lib.TabIs Tryd.prog w "internal/strconv.uint64pow10" .u64 Lib.pow10Tab) :
    Calls Tryd.prog 27 #[.int .i64 i, .string ⟨v.toArray⟩] w fun e w' => e = .returned (.string ⟨(declB i v).toArray⟩) ∧ Below w.heap.size w w' := by
  have CI := Lib.hid (itoa_c i (by omega) w hp)
  have hle := dec_le200 i (by omega)
  have hs1 : ∀ w : World, (Op.stringOp .add ⟨#[60, 33, 69, 78, 84, 73, 84, 89, 32, 101]⟩ ⟨(Lib.decDigits i).toArray⟩).run Tryd.prog w = .ok (.string ⟨([60, 33, 69, 78, 84, 73, 84, 89, 32, 101] ++ Lib.decDigits i).toArray⟩) w := fun w => run_sop (w := w) [60, 33, 69, 78, 84, 73, 84, 89, 32, 101] (Lib.decDigits i) (by simp; omega)
  have hs2 : ∀ w : World, (Op.stringOp .add ⟨([60, 33, 69, 78, 84, 73, 84, 89, 32, 101] ++ Lib.decDigits i).toArray⟩ ⟨#[32, 34]⟩).run Tryd.prog w = .ok (.string ⟨([60, 33, 69, 78, 84, 73, 84, 89, 32, 101] ++ Lib.decDigits i ++ [32, 34]).toArray⟩) w := fun w => run_sop (w := w) _ [32, 34] (by simp; omega)
  have hs3 : ∀ w : World, (Op.stringOp .add ⟨([60, 33, 69, 78, 84, 73, 84, 89, 32, 101] ++ Lib.decDigits i ++ [32, 34]).toArray⟩ ⟨v.toArray⟩).run Tryd.prog w = .ok (.string ⟨([60, 33, 69, 78, 84, 73, 84, 89, 32, 101] ++ Lib.decDigits i ++ [32, 34] ++ v).toArray⟩) w := fun w => run_sop (w := w) _ v (by simp; omega)
  have hs4 : ∀ w : World, (Op.stringOp .add ⟨([60, 33, 69, 78, 84, 73, 84, 89, 32, 101] ++ Lib.decDigits i ++ [32, 34] ++ v).toArray⟩ ⟨#[34, 62]⟩).run Tryd.prog w = .ok (.string ⟨([60, 33, 69, 78, 84, 73, 84, 89, 32, 101] ++ Lib.decDigits i ++ [32, 34] ++ v ++ [34, 62]).toArray⟩) w := fun w => run_sop (w := w) _ [34, 62] (by simp; omega)
  have HE : Hid (declB i v = [60, 33, 69, 78, 84, 73, 84, 89, 32, 101] ++ Lib.decDigits i ++ [32, 34] ++ v ++ [34, 62]) := Lib.hid rfl
  clear hp hle
  generalize [60, 33, 69, 78, 84, 73, 84, 89, 32, 101] ++ Lib.decDigits i ++ [32, 34] ++ v ++ [34, 62] = T4 at *
  generalize [60, 33, 69, 78, 84, 73, 84, 89, 32, 101] ++ Lib.decDigits i ++ [32, 34] ++ v = T3 at *
  generalize [60, 33, 69, 78, 84, 73, 84, 89, 32, 101] ++ Lib.decDigits i ++ [32, 34] = T2 at *
  generalize [60, 33, 69, 78, 84, 73, 84, 89, 32, 101] ++ Lib.decDigits i = T1 at *
  generalize Lib.decDigits i = T0 at *
  go_enter Tryd.func27, Tryd.ntmps27
  go_wp2_with fail
  refine (CI.out).mono ?_
  rintro e w1 ⟨rfl, hb⟩
  have B1 := Lib.hid hb
  clear hb
  go_wp2
  go_ret
  rw [HE.out]
  exact ⟨rfl, B1.out⟩
end Go.Proofs.YtljmpghijlibaaaDoor
