/- bytes.HasPrefix. -/
import Derived.Test.YtljmpghijlibaaaDoorRows
import Derived.WalkKit
import Derived.ProofKit
import Derived.OpenShut
import Derived.ShutString
import Derived.ChangeOld
import Derived.Below
import Derived.BigQuiet
import Derived.Deep.QuietTactic
import Derived.Lib.Hide
import Derived.Deep.RegionHeld3
import Derived.Lib.SlBytesConst
import Derived.Laws.CopyOwn
import Derived.Laws.CopyRow
import Derived.Lib.Bytes
import Derived.Deep.LoopGhost
import Derived.Deep.DeepFit
import Derived.Deep.DeepMust
import Derived.WalkSpells
import Derived.WalkLawsBesides
import Derived.Test.YtljmpghijlibaaaDoorBase
import Derived.Test.YtljmpghijlibaaaDoorShelf
import Derived.Test.YtljmpghijlibaaaDoorCharPlain
namespace Go.Proofs.YtljmpghijlibaaaDoor
open Go.ChangeShapes Go.WideShapes Go.ChangeAt Go.RowKit
set_option linter.unusedVariables false
theorem Byt.bytesIn {w : World} {B n cap : Nat} {A : Option Addr} {l : List UInt8} (h : Byt w B A n cap l) : Lib.BytesIn w A n (nums l) := fun hn => by
  obtain ⟨b, o, e, hc⟩ := h.cells (by have := h.le; omega)
  exact ⟨b, o, e, hc⟩
theorem hasPrefix_c (A1 A2 : Option Addr) (n1 c1 n2 c2 : Nat) (l1 l2 : List UInt8) (w : World) (B1 B2 : Nat) (h1 : Byt w B1 A1 n1 c1 l1) (h2 : Byt w B2 A2 n2 c2 l2) :
    Calls Tryd.prog 53 #[.slice A1 n1 c1, .slice A2 n2 c2] w fun e w' => e = .returned (.bool (l2.isPrefixOf l1)) ∧ w = w' := by
  refine (Tryd.bytes_HasPrefix_all A1 A2 n1 c1 n2 c2 (nums l1) (nums l2) w (by rw [nums_length, h1.length]) (by rw [nums_length, h2.length]) h1.le h1.bytesIn h2.bytesIn).mono fun e w' ⟨he, hw⟩ => ⟨?_, hw.symm⟩
  rw [he, bytesOf_nums, bytesOf_nums]
  rfl
end Go.Proofs.YtljmpghijlibaaaDoor
