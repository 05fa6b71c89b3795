/- Go's library, by its contracts off the shelf, in this seat's words. -/
import Derived.Test.YteighjiocgdgaaaDoorRows
import Derived.WalkKit
import Derived.ProofKit
import Derived.OpenShut
import Derived.ShutString
import Derived.ChangeOld
import Derived.Below
import Derived.BigQuiet
import Derived.Deep.QuietTactic
import Derived.Lib.Hide
import Derived.Deep.RegionHeld3
import Derived.Lib.SlBytesConst
import Derived.Laws.CopyOwn
import Derived.Laws.CopyRow
import Derived.Lib.Bytes
import Derived.Deep.LoopGhost
import Derived.Deep.DeepFit
import Derived.Deep.DeepMust
import Derived.WalkSpells
import Derived.WalkLawsBesides
import Derived.Test.YteighjiocgdgaaaDoorBase
import Derived.Test.YteighjiocgdgaaaDoorShelf
import Derived.Test.YteighjiocgdgaaaDoorCharPlain
import Derived.Test.YteighjiocgdgaaaDoorPfx
namespace Go.Proofs.YteighjiocgdgaaaDoor
open Go.ChangeShapes Go.WideShapes Go.ChangeAt Go.RowKit
set_option linter.unusedVariables false
/-- What internal/bytealg.MaxLen holds: some number. -/
def MaxL (w : World) : Prop := ∃ m : Int, w.cell? ⟨0, 0, none⟩ = some (.int .i64 m)
theorem MaxL.lt {w : World} (h : MaxL w) : 0 < w.heap.size := by
  obtain ⟨m, hm⟩ := h
  exact World.block_lt_of_cell? w _ hm
theorem MaxL.below {w w' : World} {B : Nat} (h : MaxL w) (hb : Below B w w') (hB : 0 < B) : MaxL w' := by
  obtain ⟨m, hm⟩ := h
  exact ⟨m, by rw [hb.cell hB]; exact hm⟩
theorem MaxL.drewN {w : World} (h : MaxL w) (n : Nat) : MaxL (w.drewN n) := h
theorem lib_hasPrefix (a b : List UInt8) : Lib.hasPrefix a b = b.isPrefixOf a := rfl
theorem cutA_none (c k : Nat) : cutA none c k = none := by unfold cutA; split <;> rfl
theorem Rd.someA {w : World} {B n cap : Nat} {A : Option Addr} {us : List Value} (h : Rd w B A n cap us) (hn : 0 < n) : ∃ a, A = some a := by
  obtain ⟨b, o, e, _⟩ := h.at_ (by have := h.le; omega)
  exact ⟨_, e⟩
/-- bytes.CutPrefix: the prefix stands there. -/
theorem cutPrefix_yes (A1 A2 : Option Addr) (n1 c1 n2 c2 : Nat) (l1 l2 : List UInt8) (w : World) (B1 B2 : Nat) (h1 : Byt w B1 A1 n1 c1 l1) (h2 : Byt w B2 A2 n2 c2 l2) (hn : 0 < n2) (hp : l2.isPrefixOf l1 = true) :
    Calls Tryd.prog 78 #[.slice A1 n1 c1, .slice A2 n2 c2] w fun e w' => e = .returned (.tuple #[.slice (cutA A1 c1 n2) (n1 - n2) (c1 - n2), .bool true]) ∧ w = w' := by
  refine (Tryd.bytes_CutPrefix_all A1 A2 n1 c1 n2 c2 (nums l1) (nums l2) w (by rw [nums_length, h1.length]) (by rw [nums_length, h2.length]) h1.le h1.bytesIn h2.bytesIn).mono fun e w' ⟨he, hw⟩ => ⟨?_, hw.symm⟩
  have hln : n2 ≤ n1 := by
    have := (List.isPrefixOf_iff_prefix.1 hp).length_le
    rw [h1.length, h2.length] at this
    exact this
  obtain ⟨b, o, rfl, _⟩ := h1.at_ (by have := h1.le; omega)
  rw [he, bytesOf_nums, bytesOf_nums, lib_hasPrefix, hp]
  congr 3
  have key : Lib.trimPrefixV (some ⟨b, o, none⟩) n1 c1 (nums l1) (nums l2) = Lib.bytesTrimPrefix b o n1 c1 (nums l1) (nums l2) := by
    cases hy : nums l2 with
    | nil =>
      have : (nums l2).length = 0 := by rw [hy]; rfl
      rw [nums_length, h2.length] at this
      omega
    | cons y ys => rfl
  rw [key]
  unfold Lib.bytesTrimPrefix
  rw [bytesOf_nums, bytesOf_nums, lib_hasPrefix, hp, if_pos rfl, nums_length, h2.length]
  unfold Lib.sliceFrom cutA
  rw [Option.map_some, addr_add]
/-- .. it does not. -/
theorem cutPrefix_no (A1 A2 : Option Addr) (n1 c1 n2 c2 : Nat) (l1 l2 : List UInt8) (w : World) (B1 B2 : Nat) (h1 : Byt w B1 A1 n1 c1 l1) (h2 : Byt w B2 A2 n2 c2 l2) (hp : l2.isPrefixOf l1 = false) :
    Calls Tryd.prog 78 #[.slice A1 n1 c1, .slice A2 n2 c2] w fun e w' => e = .returned (.tuple #[.slice A1 n1 c1, .bool false]) ∧ w = w' := by
  refine (Tryd.bytes_CutPrefix_all A1 A2 n1 c1 n2 c2 (nums l1) (nums l2) w (by rw [nums_length, h1.length]) (by rw [nums_length, h2.length]) h1.le h1.bytesIn h2.bytesIn).mono fun e w' ⟨he, hw⟩ => ⟨?_, hw.symm⟩
  rw [he, bytesOf_nums, bytesOf_nums, lib_hasPrefix, hp]
  congr 3
  unfold Lib.trimPrefixV
  split <;> simp [Lib.bytesTrimPrefix, bytesOf_nums, lib_hasPrefix, hp]
/-- bytes.Index. -/
theorem bindex_c (A1 A2 : Option Addr) (n1 c1 n2 c2 : Nat) (l1 l2 : List UInt8) (w : World) (B1 B2 : Nat) (h1 : Byt w B1 A1 n1 c1 l1) (h2 : Byt w B2 A2 n2 c2 l2) (hM : MaxL w) (hn : 0 < n2) (hm1 : n1 ≤ 1000000) (hm2 : n2 ≤ 1000000) :
    Calls Tryd.prog 86 #[.slice A1 n1 c1, .slice A2 n2 c2] w fun e w' => e = .returned (.int .i64 (Lib.index l1 l2)) ∧ ∃ q, w' = w.drewN q := by
  obtain ⟨b2, o2, rfl, _, hc2⟩ := h2.at_ (by have := h2.le; omega)
  have hc2' : ∀ i, i < n2 → w.cell? ((⟨b2, o2, none⟩ : Addr).add i) = some (.int .u8 ((nums l2).getD i 0)) := by
    obtain ⟨b, o, e, hc⟩ := h2.cells (by have := h2.le; omega)
    cases e
    intro i hi
    rw [addr_add]
    exact hc i hi
  cases A1 with
  | none =>
    have h0 := h1.nil rfl
    subst h0
    have h00 : n1 = 0 := by have := h1.le; omega
    subst h00
    have hl : l1 = [] := List.length_eq_zero_iff.1 h1.length
    subst hl
    refine (Tryd.bytes_Index_nil _ n2 c2 w (by omega) (fun e1 => ⟨b2, o2, _, rfl, by have := hc2' 0 hn; rwa [addr_add] at this⟩)).mono fun e w' ⟨he, hw⟩ => ⟨?_, 0, hw⟩
    rw [he, if_neg (by omega)]
    have hl2 : l2 ≠ [] := by intro e; subst e; have := h2.length; simp at this; omega
    cases l2 with
    | nil => exact absurd rfl hl2
    | cons a t => rfl
  | some a =>
    obtain ⟨m, hm⟩ := hM
    have hc1' : ∀ i, i < n1 → w.cell? (a.add i) = some (.int .u8 ((nums l1).getD i 0)) := by
      intro i hi
      obtain ⟨b, o, e, hc⟩ := h1.cells (by have := h1.le; omega)
      cases e
      rw [addr_add]
      exact hc i hi
    refine (Tryd.bytes_Index_at a ⟨b2, o2, none⟩ n1 c1 n2 c2 (nums l1) (nums l2) m w (by rw [nums_length, h1.length]) (by rw [nums_length, h2.length]) (nums_range l1) (nums_range l2) hc1' hc2' h1.le (by omega) (by omega) hm).mono fun e w' ⟨he, hw⟩ => ⟨?_, hw⟩
    rw [he, bytesOf_nums, bytesOf_nums]
/-- strings.Contains. -/
theorem contains_c (l1 l2 : List UInt8) (w : World) (hM : MaxL w) (hm1 : l1.length ≤ 1000000) :
    Calls Tryd.prog 89 #[.string ⟨l1.toArray⟩, .string ⟨l2.toArray⟩] w fun e w' => e = .returned (.bool (Lib.contains l1 l2)) ∧ w = w' := by
  obtain ⟨m, hm⟩ := hM
  exact (Tryd.strings_Contains ⟨l1.toArray⟩ ⟨l2.toArray⟩ m w (by simp [ByteArray.size]; omega) hm).mono fun e w' ⟨he, hw⟩ => ⟨he, hw.symm⟩
end Go.Proofs.YteighjiocgdgaaaDoor
