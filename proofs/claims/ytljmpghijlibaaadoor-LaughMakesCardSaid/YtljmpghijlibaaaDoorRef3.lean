/- The document's character at a place: its parts. -/
import Derived.Test.YtljmpghijlibaaaDoorRows
import Derived.WalkKit
import Derived.ProofKit
import Derived.OpenShut
import Derived.ShutString
import Derived.ChangeOld
import Derived.Below
import Derived.BigQuiet
import Derived.Deep.QuietTactic
import Derived.Lib.Hide
import Derived.Deep.RegionHeld3
import Derived.Lib.SlBytesConst
import Derived.Laws.CopyOwn
import Derived.Laws.CopyRow
import Derived.Lib.Bytes
import Derived.Deep.LoopGhost
import Derived.Deep.DeepFit
import Derived.Deep.DeepMust
import Derived.WalkSpells
import Derived.WalkLawsBesides
import Derived.Laws.EntriesVeiled
import Derived.Laws.Rows
import Derived.Test.YtljmpghijlibaaaDoorBase
import Derived.Test.YtljmpghijlibaaaDoorShelf
import Derived.Test.YtljmpghijlibaaaDoorCharPlain
import Derived.Test.YtljmpghijlibaaaDoorUtf1
import Derived.Test.YtljmpghijlibaaaDoorUtf2
import Derived.Test.YtljmpghijlibaaaDoorUtf3
import Derived.Test.YtljmpghijlibaaaDoorChars1
import Derived.Test.YtljmpghijlibaaaDoorRef1
namespace Go.Proofs.YtljmpghijlibaaaDoor
open Go.ChangeShapes Go.WideShapes Go.ChangeAt Go.RowKit
set_option linter.unusedVariables false
/-- What a byte behind a first one says; below 0: it is none. -/
def restOf (l : List UInt8) (k : Nat) : Int := match l[k]? with
  | some c => if 128 ≤ c.toNat ∧ c.toNat < 192 then (c.toNat : Int) - 128 else -1
  | none => -1
set_option maxRecDepth 100000 in
theorem rest_c (A : Option Addr) (n cap : Nat) (l : List UInt8) (k : Nat) (w : World) (B : Nat) (h : Byt w B A n cap l) :
    Calls Tryd.prog 104 #[.slice A n cap, .int .i64 k] w fun e w' => e = .returned (.int .i64 (restOf l k)) ∧ w = w' := by
  by_cases hk : k < n
  · obtain ⟨b, o, c, rfl, hb, hc, hcell⟩ := h.cell hk
    have hkn : (k : Int) < (n : Int) := by omega
    have hkd : decide ((n : Int) ≤ (k : Int)) = false := by simp; omega
    have hcl := c.toNat_lt
    unfold restOf
    rw [hc]
    simp only
    clear hc h hk
    generalize c.toNat = x at *
    rcases (show x < 128 ∨ (128 ≤ x ∧ x < 192) ∨ 191 < x by omega) with h1 | h1 | h1
    · rw [if_neg (by omega)]
      have a1 : decide ((x : Int) < 128) = true := by simp; omega
      go_enter Tryd.func104, Tryd.ntmps104
      go_wp2
      go_ret
      exact ⟨rfl, rfl⟩
    · rw [if_pos h1]
      have a1 : decide ((x : Int) < 128) = false := by simp; omega
      have a2 : decide (191 < (x : Int)) = false := by simp; omega
      go_enter Tryd.func104, Tryd.ntmps104
      go_wp2
      go_ret
      exact ⟨rfl, rfl⟩
    · rw [if_neg (by omega)]
      have a1 : decide ((x : Int) < 128) = false := by simp; omega
      have a2 : decide (191 < (x : Int)) = true := by simp; omega
      go_enter Tryd.func104, Tryd.ntmps104
      go_wp2
      go_ret
      exact ⟨rfl, rfl⟩
  · have hr : restOf l k = -1 := by unfold restOf; rw [List.getElem?_eq_none (by rw [h.length]; omega)]
    have hkd : decide ((n : Int) ≤ (k : Int)) = true := by simp; omega
    have hkd2 : decide (n ≤ k) = true := by simp; omega
    have hkd3 : n ≤ k := by omega
    rw [hr]
    clear h hk hr
    go_enter Tryd.func104, Tryd.ntmps104
    go_wp2
    go_ret
    exact ⟨rfl, rfl⟩
theorem isR_iff (r : Int) : isR r = true ↔ ((0 ≤ r ∧ r ≤ 55295) ∨ (57344 ≤ r ∧ r ≤ 1114111)) := by
  simp [isR]; omega
set_option maxRecDepth 100000 in
set_option maxHeartbeats 4000000 in
theorem ref02Is_c (r : Int) (w : World) : Calls Tryd.prog 105 #[.int .i64 r] w fun e w' => e = .returned (.bool (isR r)) ∧ w = w' := by
  rcases (show r ≤ -1 ∨ (0 ≤ r ∧ r ≤ 55295) ∨ (55296 ≤ r ∧ r ≤ 57343) ∨ (57344 ≤ r ∧ r ≤ 1114111) ∨ 1114112 ≤ r by omega) with h | h | h | h | h
  · have e : isR r = false := by
      rw [Bool.eq_false_iff, Ne, isR_iff]; omega
    rw [e]
    have a0 : decide (0 ≤ r) = false := by first | (simp; omega) | (simp [h]; done)
    have a1 : decide (r ≤ 1114111) = true := by first | (simp; omega) | (simp [h]; done)
    have a2 : decide (55296 ≤ r) = false := by first | (simp; omega) | (simp [h]; done)
    have a3 : decide (r ≤ 57343) = true := by first | (simp; omega) | (simp [h]; done)
    clear e h
    go_enter Tryd.func105, Tryd.ntmps105
    go_wp2
    go_ret
    exact ⟨rfl, rfl⟩
  · have e : isR r = true := by
      rw [isR_iff]; omega
    rw [e]
    have a0 : decide (0 ≤ r) = true := by first | (simp; omega) | (simp [h]; done)
    have a1 : decide (r ≤ 1114111) = true := by first | (simp; omega) | (simp [h]; done)
    have a2 : decide (55296 ≤ r) = false := by first | (simp; omega) | (simp [h]; done)
    have a3 : decide (r ≤ 57343) = true := by first | (simp; omega) | (simp [h]; done)
    clear e h
    go_enter Tryd.func105, Tryd.ntmps105
    go_wp2
    go_ret
    exact ⟨rfl, rfl⟩
  · have e : isR r = false := by
      rw [Bool.eq_false_iff, Ne, isR_iff]; omega
    rw [e]
    have a0 : decide (0 ≤ r) = true := by first | (simp; omega) | (simp [h]; done)
    have a1 : decide (r ≤ 1114111) = true := by first | (simp; omega) | (simp [h]; done)
    have a2 : decide (55296 ≤ r) = true := by first | (simp; omega) | (simp [h]; done)
    have a3 : decide (r ≤ 57343) = true := by first | (simp; omega) | (simp [h]; done)
    clear e h
    go_enter Tryd.func105, Tryd.ntmps105
    go_wp2
    go_ret
    exact ⟨rfl, rfl⟩
  · have e : isR r = true := by
      rw [isR_iff]; omega
    rw [e]
    have a0 : decide (0 ≤ r) = true := by first | (simp; omega) | (simp [h]; done)
    have a1 : decide (r ≤ 1114111) = true := by first | (simp; omega) | (simp [h]; done)
    have a2 : decide (55296 ≤ r) = true := by first | (simp; omega) | (simp [h]; done)
    have a3 : decide (r ≤ 57343) = false := by first | (simp; omega) | (simp [h]; done)
    clear e h
    go_enter Tryd.func105, Tryd.ntmps105
    go_wp2
    go_ret
    exact ⟨rfl, rfl⟩
  · have e : isR r = false := by
      rw [Bool.eq_false_iff, Ne, isR_iff]; omega
    rw [e]
    have a0 : decide (0 ≤ r) = true := by first | (simp; omega) | (simp [h]; done)
    have a1 : decide (r ≤ 1114111) = false := by first | (simp; omega) | (simp [h]; done)
    have a2 : decide (55296 ≤ r) = true := by first | (simp; omega) | (simp [h]; done)
    have a3 : decide (r ≤ 57343) = false := by first | (simp; omega) | (simp [h]; done)
    clear e h
    go_enter Tryd.func105, Tryd.ntmps105
    go_wp2
    go_ret
    exact ⟨rfl, rfl⟩
/-- How many bytes a number has. -/
def bytesN (r : Int) : Nat := if r < 128 then 1 else if r < 2048 then 2 else if r < 65536 then 3 else 4
set_option maxRecDepth 100000 in
set_option maxHeartbeats 4000000 in
theorem bytes_c (r : Int) (w : World) (h0 : 0 ≤ r) (h1 : r ≤ 1114111) : Calls Tryd.prog 106 #[.int .i64 r] w fun e w' => (∃ a, e = .returned (.slice (some a) (bytesN r) (bytesN r))) ∧ Below w.heap.size w w' := by
  have hal : ∀ o : Obj, Hid (Below w.heap.size w (w.alloc o)) := fun o => Lib.hid (Below.alloc (Below.refl _ _) (Nat.le_refl _) o)
  rcases (show r ≤ 127 ∨ (128 ≤ r ∧ r ≤ 2047) ∨ (2048 ≤ r ∧ r ≤ 65535) ∨ 65536 ≤ r by omega) with h | h | h | h
  · have e : bytesN r = 1 := by unfold bytesN; rw [if_pos (by omega)]
    have a1 : decide (r < 128) = true := by simp; omega
    rw [e]
    go_enter Tryd.func106, Tryd.ntmps106
    go_wp2
    go_ret
    exact ⟨⟨_, rfl⟩, (hal _).out⟩
  · have e : bytesN r = 2 := by unfold bytesN; rw [if_neg (by omega), if_pos (by omega)]
    have a1 : decide (r < 128) = false := by simp; omega
    have a2 : decide (r < 2048) = true := by simp; omega
    rw [e]
    go_enter Tryd.func106, Tryd.ntmps106
    go_wp2
    go_ret
    exact ⟨⟨_, rfl⟩, (hal _).out⟩
  · have e : bytesN r = 3 := by unfold bytesN; rw [if_neg (by omega), if_neg (by omega), if_pos (by omega)]
    have a1 : decide (r < 128) = false := by simp; omega
    have a2 : decide (r < 2048) = false := by simp; omega
    have a3 : decide (r < 65536) = true := by simp; omega
    rw [e]
    go_enter Tryd.func106, Tryd.ntmps106
    go_wp2
    go_ret
    exact ⟨⟨_, rfl⟩, (hal _).out⟩
  · have e : bytesN r = 4 := by unfold bytesN; rw [if_neg (by omega), if_neg (by omega), if_neg (by omega)]
    have a1 : decide (r < 128) = false := by simp; omega
    have a2 : decide (r < 2048) = false := by simp; omega
    have a3 : decide (r < 65536) = false := by simp; omega
    rw [e]
    go_enter Tryd.func106, Tryd.ntmps106
    go_wp2
    go_ret
    exact ⟨⟨_, rfl⟩, (hal _).out⟩
end Go.Proofs.YtljmpghijlibaaaDoor
