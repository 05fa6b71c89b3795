/- Go's library, by its contracts off the shelf, in this seat's words. -/
import Derived.Test.YtpblphddpcogcaaDoorRows
import Derived.WalkKit
import Derived.ProofKit
import Derived.OpenShut
import Derived.ShutString
import Derived.ChangeOld
import Derived.Below
import Derived.BigQuiet
import Derived.Deep.QuietTactic
import Derived.Lib.Hide
import Derived.Deep.RegionHeld3
import Derived.Lib.SlBytesConst
import Derived.Laws.CopyOwn
import Derived.Laws.CopyRow
import Derived.Lib.Bytes
import Derived.Deep.LoopGhost
import Derived.Deep.DeepFit
import Derived.Deep.DeepMust
import Derived.WalkSpells
import Derived.WalkLawsBesides
import Derived.Test.YtpblphddpcogcaaDoorBase
import Derived.Test.YtpblphddpcogcaaDoorShelf
import Derived.Test.YtpblphddpcogcaaDoorCharPlain
import Derived.Test.YtpblphddpcogcaaDoorPfx
namespace Go.Proofs.YtpblphddpcogcaaDoor
open Go.ChangeShapes Go.WideShapes Go.ChangeAt Go.RowKit
set_option linter.unusedVariables false
/-- What internal/bytealg.MaxLen holds: some number. -/
def MaxL (w : World) : Prop := ∃ m : Int, w.cell? ⟨2, 0, none⟩ = some (.int .i64 m)
theorem MaxL.lt {w : World} (h : MaxL w) : 2 < w.heap.size := by
  obtain ⟨m, hm⟩ := h
  exact World.block_lt_of_cell? w _ hm
theorem MaxL.below {w w' : World} {B : Nat} (h : MaxL w) (hb : Below B w w') (hB : 2 < B) : MaxL w' := by
  obtain ⟨m, hm⟩ := h
  exact ⟨m, by rw [hb.cell hB]; exact hm⟩
theorem MaxL.drewN {w : World} (h : MaxL w) (n : Nat) : MaxL (w.drewN n) := h
theorem lib_hasPrefix (a b : List UInt8) : Lib.hasPrefix a b = b.isPrefixOf a := rfl
theorem cutA_none (c k : Nat) : cutA none c k = none := by unfold cutA; split <;> rfl
theorem Rd.someA {w : World} {B n cap : Nat} {A : Option Addr} {us : List Value} (h : Rd w B A n cap us) (hn : 0 < n) : ∃ a, A = some a := by
  obtain ⟨b, o, e, _⟩ := h.at_ (by have := h.le; omega)
  exact ⟨_, e⟩
/-- strings.Contains. -/
theorem contains_c (l1 l2 : List UInt8) (w : World) (hM : MaxL w) (hm1 : l1.length ≤ 1000000) :
    Calls Tryd.prog 48 #[.string ⟨l1.toArray⟩, .string ⟨l2.toArray⟩] w fun e w' => e = .returned (.bool (Lib.contains l1 l2)) ∧ w = w' := by
  obtain ⟨m, hm⟩ := hM
  exact (Tryd.strings_Contains ⟨l1.toArray⟩ ⟨l2.toArray⟩ m w (by simp [ByteArray.size]; omega) hm).mono fun e w' ⟨he, hw⟩ => ⟨he, hw.symm⟩
end Go.Proofs.YtpblphddpcogcaaDoor
