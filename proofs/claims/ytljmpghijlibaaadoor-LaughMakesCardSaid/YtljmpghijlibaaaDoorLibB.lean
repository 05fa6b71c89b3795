/- Go's library, by its contracts off the shelf, in this seat's words. -/
import Derived.Test.YtljmpghijlibaaaDoorRows
import Derived.WalkKit
import Derived.ProofKit
import Derived.OpenShut
import Derived.ShutString
import Derived.ChangeOld
import Derived.Below
import Derived.BigQuiet
import Derived.Deep.QuietTactic
import Derived.Lib.Hide
import Derived.Deep.RegionHeld3
import Derived.Lib.SlBytesConst
import Derived.Laws.CopyOwn
import Derived.Laws.CopyRow
import Derived.Lib.Bytes
import Derived.Deep.LoopGhost
import Derived.Deep.DeepFit
import Derived.Deep.DeepMust
import Derived.WalkSpells
import Derived.WalkLawsBesides
import Derived.Test.YtljmpghijlibaaaDoorBase
import Derived.Test.YtljmpghijlibaaaDoorShelf
import Derived.Test.YtljmpghijlibaaaDoorCharPlain
import Derived.Test.YtljmpghijlibaaaDoorPfx
namespace Go.Proofs.YtljmpghijlibaaaDoor
open Go.ChangeShapes Go.WideShapes Go.ChangeAt Go.RowKit
set_option linter.unusedVariables false
/-- What internal/bytealg.MaxLen holds: some number. -/
def MaxL (w : World) : Prop := ∃ m : Int, w.cell? ⟨1, 0, none⟩ = some (.int .i64 m)
theorem MaxL.lt {w : World} (h : MaxL w) : 1 < w.heap.size := by
  obtain ⟨m, hm⟩ := h
  exact World.block_lt_of_cell? w _ hm
theorem MaxL.below {w w' : World} {B : Nat} (h : MaxL w) (hb : Below B w w') (hB : 1 < B) : MaxL w' := by
  obtain ⟨m, hm⟩ := h
  exact ⟨m, by rw [hb.cell hB]; exact hm⟩
theorem MaxL.drewN {w : World} (h : MaxL w) (n : Nat) : MaxL (w.drewN n) := h
theorem lib_hasPrefix (a b : List UInt8) : Lib.hasPrefix a b = b.isPrefixOf a := rfl
theorem cutA_none (c k : Nat) : cutA none c k = none := by unfold cutA; split <;> rfl
theorem Rd.someA {w : World} {B n cap : Nat} {A : Option Addr} {us : List Value} (h : Rd w B A n cap us) (hn : 0 < n) : ∃ a, A = some a := by
  obtain ⟨b, o, e, _⟩ := h.at_ (by have := h.le; omega)
  exact ⟨_, e⟩
/-- bytes.CutPrefix: the prefix stands there. -/
theorem cutPrefix_yes (A1 A2 : Option Addr) (n1 c1 n2 c2 : Nat) (l1 l2 : List UInt8) (w : World) (B1 B2 : Nat) (h1 : Byt w B1 A1 n1 c1 l1) (h2 : Byt w B2 A2 n2 c2 l2) (hn : 0 < n2) (hp : l2.isPrefixOf l1 = true) :
    Calls Tryd.prog 120 #[.slice A1 n1 c1, .slice A2 n2 c2] w fun e w' => e = .returned (.tuple #[.slice (cutA A1 c1 n2) (n1 - n2) (c1 - n2), .bool true]) ∧ w = w' := by
  refine (Tryd.bytes_CutPrefix_all A1 A2 n1 c1 n2 c2 (nums l1) (nums l2) w (by rw [nums_length, h1.length]) (by rw [nums_length, h2.length]) h1.le h1.bytesIn h2.bytesIn).mono fun e w' ⟨he, hw⟩ => ⟨?_, hw.symm⟩
  have hln : n2 ≤ n1 := by
    have := (List.isPrefixOf_iff_prefix.1 hp).length_le
    rw [h1.length, h2.length] at this
    exact this
  obtain ⟨b, o, rfl, _⟩ := h1.at_ (by have := h1.le; omega)
  rw [he, bytesOf_nums, bytesOf_nums, lib_hasPrefix, hp]
  congr 3
  have key : Lib.trimPrefixV (some ⟨b, o, none⟩) n1 c1 (nums l1) (nums l2) = Lib.bytesTrimPrefix b o n1 c1 (nums l1) (nums l2) := by
    cases hy : nums l2 with
    | nil =>
      have : (nums l2).length = 0 := by rw [hy]; rfl
      rw [nums_length, h2.length] at this
      omega
    | cons y ys => rfl
  rw [key]
  unfold Lib.bytesTrimPrefix
  rw [bytesOf_nums, bytesOf_nums, lib_hasPrefix, hp, if_pos rfl, nums_length, h2.length]
  unfold Lib.sliceFrom cutA
  rw [Option.map_some, addr_add]
/-- .. it does not. -/
theorem cutPrefix_no (A1 A2 : Option Addr) (n1 c1 n2 c2 : Nat) (l1 l2 : List UInt8) (w : World) (B1 B2 : Nat) (h1 : Byt w B1 A1 n1 c1 l1) (h2 : Byt w B2 A2 n2 c2 l2) (hp : l2.isPrefixOf l1 = false) :
    Calls Tryd.prog 120 #[.slice A1 n1 c1, .slice A2 n2 c2] w fun e w' => e = .returned (.tuple #[.slice A1 n1 c1, .bool false]) ∧ w = w' := by
  refine (Tryd.bytes_CutPrefix_all A1 A2 n1 c1 n2 c2 (nums l1) (nums l2) w (by rw [nums_length, h1.length]) (by rw [nums_length, h2.length]) h1.le h1.bytesIn h2.bytesIn).mono fun e w' ⟨he, hw⟩ => ⟨?_, hw.symm⟩
  rw [he, bytesOf_nums, bytesOf_nums, lib_hasPrefix, hp]
  congr 3
  unfold Lib.trimPrefixV
  split <;> simp [Lib.bytesTrimPrefix, bytesOf_nums, lib_hasPrefix, hp]
/-- strings.Contains. -/
theorem contains_c (l1 l2 : List UInt8) (w : World) (hM : MaxL w) (hm1 : l1.length ≤ 1000000) :
    Calls Tryd.prog 32 #[.string ⟨l1.toArray⟩, .string ⟨l2.toArray⟩] w fun e w' => e = .returned (.bool (Lib.contains l1 l2)) ∧ w = w' := by
  obtain ⟨m, hm⟩ := hM
  exact (Tryd.strings_Contains ⟨l1.toArray⟩ ⟨l2.toArray⟩ m w (by simp [ByteArray.size]; omega) hm).mono fun e w' ⟨he, hw⟩ => ⟨he, hw.symm⟩
end Go.Proofs.YtljmpghijlibaaaDoor
