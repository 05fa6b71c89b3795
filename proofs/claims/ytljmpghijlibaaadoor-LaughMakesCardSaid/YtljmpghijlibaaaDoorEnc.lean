/- A character's bytes, of the program and of the document. -/
import Derived.Test.YtljmpghijlibaaaDoorRows
import Derived.WalkKit
import Derived.ProofKit
import Derived.OpenShut
import Derived.ShutString
import Derived.ChangeOld
import Derived.Below
import Derived.BigQuiet
import Derived.Deep.QuietTactic
import Derived.Lib.Hide
import Derived.Deep.RegionHeld3
import Derived.Lib.SlBytesConst
import Derived.Laws.CopyOwn
import Derived.Laws.CopyRow
import Derived.Lib.Bytes
import Derived.Deep.LoopGhost
import Derived.Deep.DeepFit
import Derived.Deep.DeepMust
import Derived.WalkSpells
import Derived.WalkLawsBesides
import Derived.Lib.VarintBits
import Derived.Test.YtljmpghijlibaaaDoorShelf
import Derived.Test.YtljmpghijlibaaaDoorBase
import Derived.Test.YtljmpghijlibaaaDoorCharPlain
import Derived.Test.YtljmpghijlibaaaDoorUtf1
import Derived.Test.YtljmpghijlibaaaDoorUtf2
import Derived.Test.YtljmpghijlibaaaDoorRef1
import Derived.Test.YtljmpghijlibaaaDoorRef3
namespace Go.Proofs.YtljmpghijlibaaaDoor
open Go.ChangeShapes Go.WideShapes Go.ChangeAt Go.RowKit
set_option linter.unusedVariables false
theorem and63 (n : Nat) (h : n < 67108864) : bits .and .i64 (n : Int) 63 = ((n % 64 : Nat) : Int) := by
  have := bits_mask .i64 62 (by decide) (fun n h0 h1 => by rw [IntKind.wrap_i64]; omega) 6 (by decide) (n : Int) (by omega) (by omega)
  exact this.trans (by omega)
theorem or128 : ∀ x : Fin 64, bits .or .u8 128 (x.val : Int) = ((128 + x.val : Nat) : Int) := by decide +kernel
theorem or192 : ∀ x : Fin 32, bits .or .u8 192 (x.val : Int) = ((192 + x.val : Nat) : Int) := by decide +kernel
theorem or224 : ∀ x : Fin 16, bits .or .u8 224 (x.val : Int) = ((224 + x.val : Nat) : Int) := by decide +kernel
theorem or240 : ∀ x : Fin 8, bits .or .u8 240 (x.val : Int) = ((240 + x.val : Nat) : Int) := by decide +kernel
theorem or0 : ∀ x : Fin 128, bits .or .u8 0 (x.val : Int) = (x.val : Int) := by decide +kernel
/-- A character's bytes. -/
def encL (r : Nat) : List UInt8 :=
  if r < 128 then [UInt8.ofNat r]
  else if r < 2048 then [UInt8.ofNat (192 + r / 64), UInt8.ofNat (128 + r % 64)]
  else if r < 65536 then [UInt8.ofNat (224 + r / 4096), UInt8.ofNat (128 + r / 64 % 64), UInt8.ofNat (128 + r % 64)]
  else [UInt8.ofNat (240 + r / 262144), UInt8.ofNat (128 + r / 4096 % 64), UInt8.ofNat (128 + r / 64 % 64), UInt8.ofNat (128 + r % 64)]
theorem encL_len (r : Nat) : 0 < (encL r).length ∧ (encL r).length ≤ 4 := by
  unfold encL
  split
  · simp
  · split
    · simp
    · split <;> simp
theorem bv_nat (k : Nat) (h : k < 256) : bv (UInt8.ofNat k) = .int .u8 (k : Int) := by
  unfold bv
  rw [UInt8.toNat_ofNat_of_lt' (by show k < 256; exact h)]
theorem byt_cells (w : World) (B g : Nat) (l : List UInt8) (hg : w.heap[g]? = some (.cells (l.map bv).toArray 5)) (hB : g < B) (hl : l.length ≤ 1000000) : Byt w B (some ⟨g, 0, none⟩) l.length l.length l :=
  ⟨by simp, Nat.le_refl _, by unfold maxLen; omega, (fun e => by cases e), fun _ => ⟨g, 0, rfl, hB, fun i u hu => by
    rw [Nat.zero_add, cell_of _ hg, List.getElem?_toArray]; exact hu⟩⟩
/-- The document's bytes of a character. -/
def EncP (l : List UInt8) (w : World) (e : Ending) (w' : World) (f : Value → Value) : Prop :=
  ∃ g, e = .returned (f (.slice (some ⟨g, 0, none⟩) l.length l.length)) ∧ w.heap.size ≤ g ∧ w'.heap[g]? = some (.cells (l.map bv).toArray 5) ∧ Below w.heap.size w w'
theorem encL_1 (r : Nat) (h : r < 128) : encL r = [UInt8.ofNat (r)] := by
  unfold encL
  rw [if_pos (by omega)]
theorem encV_1 (r : Nat) (h : r < 128) : ((encL r).map bv).toArray = #[.int .u8 ((r : Nat) : Int)] := by
  rw [encL_1 r h]
  simp only [List.map_cons, List.map_nil, bv_nat (r) (by omega)]
theorem encL_2 (r : Nat) (h : 128 ≤ r ∧ r < 2048) : encL r = [UInt8.ofNat (192 + r / 64), UInt8.ofNat (128 + r % 64)] := by
  unfold encL
  rw [if_neg (by omega)]
  rw [if_pos (by omega)]
theorem encV_2 (r : Nat) (h : 128 ≤ r ∧ r < 2048) : ((encL r).map bv).toArray = #[.int .u8 ((192 + r / 64 : Nat) : Int), .int .u8 ((128 + r % 64 : Nat) : Int)] := by
  rw [encL_2 r h]
  simp only [List.map_cons, List.map_nil, bv_nat (192 + r / 64) (by omega), bv_nat (128 + r % 64) (by omega)]
theorem encL_3 (r : Nat) (h : 2048 ≤ r ∧ r < 65536) : encL r = [UInt8.ofNat (224 + r / 4096), UInt8.ofNat (128 + r / 64 % 64), UInt8.ofNat (128 + r % 64)] := by
  unfold encL
  rw [if_neg (by omega)]
  rw [if_neg (by omega)]
  rw [if_pos (by omega)]
theorem encV_3 (r : Nat) (h : 2048 ≤ r ∧ r < 65536) : ((encL r).map bv).toArray = #[.int .u8 ((224 + r / 4096 : Nat) : Int), .int .u8 ((128 + r / 64 % 64 : Nat) : Int), .int .u8 ((128 + r % 64 : Nat) : Int)] := by
  rw [encL_3 r h]
  simp only [List.map_cons, List.map_nil, bv_nat (224 + r / 4096) (by omega), bv_nat (128 + r / 64 % 64) (by omega), bv_nat (128 + r % 64) (by omega)]
theorem encL_4 (r : Nat) (h : 65536 ≤ r ∧ r ≤ 1114111) : encL r = [UInt8.ofNat (240 + r / 262144), UInt8.ofNat (128 + r / 4096 % 64), UInt8.ofNat (128 + r / 64 % 64), UInt8.ofNat (128 + r % 64)] := by
  unfold encL
  rw [if_neg (by omega)]
  rw [if_neg (by omega)]
  rw [if_neg (by omega)]
theorem encV_4 (r : Nat) (h : 65536 ≤ r ∧ r ≤ 1114111) : ((encL r).map bv).toArray = #[.int .u8 ((240 + r / 262144 : Nat) : Int), .int .u8 ((128 + r / 4096 % 64 : Nat) : Int), .int .u8 ((128 + r / 64 % 64 : Nat) : Int), .int .u8 ((128 + r % 64 : Nat) : Int)] := by
  rw [encL_4 r h]
  simp only [List.map_cons, List.map_nil, bv_nat (240 + r / 262144) (by omega), bv_nat (128 + r / 4096 % 64) (by omega), bv_nat (128 + r / 64 % 64) (by omega), bv_nat (128 + r % 64) (by omega)]
set_option maxRecDepth 100000 in
set_option maxHeartbeats 4000000 in
theorem utfBytes_c (r : Nat) (w : World) (h1 : r ≤ 1114111) : Calls Tryd.prog 106 #[.int .i64 r] w fun e w' => EncP (encL r) w e w' id := by
  have hB : ∀ o : Obj, Below w.heap.size w (w.alloc o) := fun o => Below.alloc (Below.refl _ _) (Nat.le_refl _) o
  have HAL := Lib.hid hB
  clear hB
  by_cases c1 : r < 128
  · have hc : r < 128 := by omega
    have HV := Lib.hid (encV_1 r hc)
    have HL : Hid ((encL r).length = 1) := Lib.hid (by rw [encL_1 r hc]; rfl)
    have a0 : (r : Int) < 128 := by omega
    go_enter Tryd.func106, Tryd.ntmps106
    go_wp2
    go_ret
    refine ⟨w.heap.size, ?_, Nat.le_refl _, ?_, HAL.out _⟩
    · rw [HL.out]; rfl
    · rw [hp_new, HV.out] <;> (try simp) <;> (try omega)
  by_cases c2 : r < 2048
  · have hc : 128 ≤ r ∧ r < 2048 := by omega
    have HV := Lib.hid (encV_2 r hc)
    have HL : Hid ((encL r).length = 2) := Lib.hid (by rw [encL_2 r hc]; rfl)
    have a0 : ¬ (r : Int) < 128 := by omega
    have a1 : (r : Int) < 2048 := by omega
    go_enter Tryd.func106, Tryd.ntmps106
    go_wp2
    go_ret
    refine ⟨w.heap.size, ?_, Nat.le_refl _, ?_, HAL.out _⟩
    · rw [HL.out]; rfl
    · rw [hp_new, HV.out] <;> (try simp) <;> (try omega)
  by_cases c3 : r < 65536
  · have hc : 2048 ≤ r ∧ r < 65536 := by omega
    have HV := Lib.hid (encV_3 r hc)
    have HL : Hid ((encL r).length = 3) := Lib.hid (by rw [encL_3 r hc]; rfl)
    have a0 : ¬ (r : Int) < 128 := by omega
    have a1 : ¬ (r : Int) < 2048 := by omega
    have a2 : (r : Int) < 65536 := by omega
    go_enter Tryd.func106, Tryd.ntmps106
    go_wp2
    go_ret
    refine ⟨w.heap.size, ?_, Nat.le_refl _, ?_, HAL.out _⟩
    · rw [HL.out]; rfl
    · rw [hp_new, HV.out] <;> (try simp) <;> (try omega)
  have hc : 65536 ≤ r ∧ r ≤ 1114111 := by omega
  have HV := Lib.hid (encV_4 r hc)
  have HL : Hid ((encL r).length = 4) := Lib.hid (by rw [encL_4 r hc]; rfl)
  have a0 : ¬ (r : Int) < 128 := by omega
  have a1 : ¬ (r : Int) < 2048 := by omega
  have a2 : ¬ (r : Int) < 65536 := by omega
  go_enter Tryd.func106, Tryd.ntmps106
  go_wp2
  go_ret
  refine ⟨w.heap.size, ?_, Nat.le_refl _, ?_, HAL.out _⟩
  · rw [HL.out]; rfl
  · rw [hp_new, HV.out] <;> (try simp) <;> (try omega)
end Go.Proofs.YtljmpghijlibaaaDoor
