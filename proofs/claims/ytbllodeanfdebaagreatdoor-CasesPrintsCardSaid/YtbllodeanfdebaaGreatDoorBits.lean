/- Bytes of a string, of a constant. -/
import Derived.Test.YtbllodeanfdebaaGreatDoorRows
import Derived.WalkKit
import Derived.ProofKit
import Derived.OpenShut
import Derived.ShutString
import Derived.ChangeOld
import Derived.Below
import Derived.BigQuiet
import Derived.Deep.QuietTactic
import Derived.Lib.Hide
import Derived.Deep.RegionHeld3
import Derived.Lib.SlBytesConst
import Derived.Laws.CopyOwn
import Derived.Laws.CopyRow
import Derived.Lib.Bytes
import Derived.Deep.LoopGhost
import Derived.Deep.DeepFit
import Derived.Deep.DeepMust
import Derived.WalkSpells
import Derived.WalkLawsBesides
import Derived.Lib.ConvBytes
import Derived.Test.YtbllodeanfdebaaGreatDoorBase
import Derived.Test.YtbllodeanfdebaaGreatDoorShelf
import Derived.Test.YtbllodeanfdebaaGreatDoorCharPlain
import Derived.Test.YtbllodeanfdebaaGreatDoorStr
namespace Go.Proofs.YtbllodeanfdebaaGreatDoor
open Go.ChangeShapes Go.WideShapes Go.ChangeAt Go.RowKit
set_option linter.unusedVariables false
theorem byt_new (w : World) (l : List UInt8) (hl : l.length ≤ 1000000) : Byt (Lib.bytesWorld w 5 ⟨l.toArray⟩) (w.heap.size + 1) (some ⟨w.heap.size, 0, none⟩) l.length (grownCap w l.length 0 5) l := by
  have hsz : (⟨l.toArray⟩ : ByteArray).size = l.length := by simp [ByteArray.size]
  refine ⟨by simp, grownCap_ge _ _ _ _, grownCap_le_maxLen _ _ _ _ (by unfold maxLen; omega), (fun e => by cases e), fun _ => ⟨_, _, rfl, by omega, fun i u hu => ?_⟩⟩
  have hi : i < l.length := by
    rcases Nat.lt_or_ge i l.length with h' | h'
    · exact h'
    · rw [List.getElem?_eq_none (by simpa using h')] at hu; cases hu
  rw [Nat.zero_add, Lib.bytesWorld_cell _ _ _ _ (by rw [hsz]; exact hi)]
  rw [List.getElem?_map, List.getElem?_eq_getElem hi] at hu
  simp only [Option.map_some, Option.some.injEq] at hu
  rw [← hu]
  simp [bv, hi]
theorem run_toBytes (w : World) (l : List UInt8) : (convert 9 23 (.string ⟨l.toArray⟩)).run Tryz.prog w = .ok (.slice (some ⟨w.heap.size, 0, none⟩) l.length (grownCap w l.length 0 5)) (Lib.bytesWorld w 5 ⟨l.toArray⟩) := by
  have hsz : (⟨l.toArray⟩ : ByteArray).size = l.length := by simp [ByteArray.size]
  have := Lib.run_convert_string_bytes (P := Tryz.prog) w 9 23 5 ⟨l.toArray⟩ Tryz.underlying9 Tryz.underlying23 Tryz.underlying5
  rwa [hsz] at this
theorem run_upTo {w : World} (A : Option Addr) (n cap t : Nat) (ht : t ≤ cap) : (Instr.slice 23 (.slice A n cap) none (some (.int .i64 (t : Int))) none).run Tryz.prog w = .ok (.slice A t cap) w := by
  rw [run_slice_h (P := Tryz.prog) (w := w) 23 A n cap (by kernel_rfl) .i64 (t : Int) (by omega) (by omega), size_u8]
  simp [sliced]
  intro _
  cases A with
  | none => rfl
  | some a => simp [Addr.add]
theorem alloc_const (w : World) (l : List UInt8) (f : Nat × Nat) (hl : l.length ≤ 1000000) : Below w.heap.size w (w.alloc (.cells (l.map bv).toArray 5 f)) ∧ Byt (w.alloc (.cells (l.map bv).toArray 5 f)) (w.heap.size + 1) (some ⟨w.heap.size, 0, none⟩) l.length l.length l :=
  ⟨(Below.refl _ _).alloc (Nat.le_refl _) _, Byt.const w l f hl⟩
end Go.Proofs.YtbllodeanfdebaaGreatDoor
