/- Texts of ours, joined: Str, Pfx, Bits, Shelf2, LibB, Utf1. -/
import Derived.Test.YtgenpgfhjhcahaaGreatDoorRows
import Derived.WalkKit
import Derived.ProofKit
import Derived.OpenShut
import Derived.ShutString
import Derived.ChangeOld
import Derived.Below
import Derived.BigQuiet
import Derived.Deep.QuietTactic
import Derived.Lib.Hide
import Derived.Deep.RegionHeld3
import Derived.Lib.SlBytesConst
import Derived.Laws.CopyOwn
import Derived.Laws.CopyRow
import Derived.Lib.Bytes
import Derived.Deep.LoopGhost
import Derived.Deep.DeepFit
import Derived.Deep.DeepMust
import Derived.WalkSpells
import Derived.WalkLawsBesides
import Derived.Lib.ItoaNum
import Derived.Test.YtgenpgfhjhcahaaGreatDoorQ1
import Derived.Shelf.Bytes.SlSmallAll
import Derived.Lib.ConvBytes
/- Strings: pieces; narthexref06.Digits. -/
namespace Go.Proofs.YtgenpgfhjhcahaaGreatDoor
open Go.ChangeShapes Go.WideShapes Go.ChangeAt Go.RowKit
set_option linter.unusedVariables false
/-- 's[k]' of a string. -/
theorem run_strIndex (l : List UInt8) (k : Nat) (hk : k < l.length) (w : World) :
    (Instr.index 9 (.string ⟨l.toArray⟩) (.int .i64 (k : Int))).run Tryz.prog w = .ok (.int .u8 (UInt8.toNat (l.getD k 0) : Int)) w := by
  have hsz : (⟨l.toArray⟩ : ByteArray).size = l.length := by simp [ByteArray.size]
  have hb : ((⟨l.toArray⟩ : ByteArray)[k]'(by rw [hsz]; exact hk)) = l.getD k 0 := by
    simp [ByteArray.getElem_eq_getElem_data, hk]
  rw [run_index_string (P := Tryz.prog) w 9 ⟨l.toArray⟩ .i64 (k : Int) Tryz.underlying9, dif_pos ⟨by omega, by rw [hsz]; omega⟩]
  simp only [Int.toNat_natCast, hb]
theorem run_sop {w : World} (a b : List UInt8) (h : a.length + b.length ≤ 9223372036854775807) : (Op.stringOp .add ⟨a.toArray⟩ ⟨b.toArray⟩).run Tryz.prog w = .ok (.string ⟨(a ++ b).toArray⟩) w := by
  rw [run_string_add_sum w _ _ (by simp [ByteArray.size]; omega), ByteArray.mk_append_mk]
end Go.Proofs.YtgenpgfhjhcahaaGreatDoor
/- bytes.HasPrefix. -/
namespace Go.Proofs.YtgenpgfhjhcahaaGreatDoor
open Go.ChangeShapes Go.WideShapes Go.ChangeAt Go.RowKit
set_option linter.unusedVariables false
theorem Byt.bytesIn {w : World} {B n cap : Nat} {A : Option Addr} {l : List UInt8} (h : Byt w B A n cap l) : Lib.BytesIn w A n (nums l) := fun hn => by
  obtain ⟨b, o, e, hc⟩ := h.cells (by have := h.le; omega)
  exact ⟨b, o, e, hc⟩
theorem hasPrefix_c (A1 A2 : Option Addr) (n1 c1 n2 c2 : Nat) (l1 l2 : List UInt8) (w : World) (B1 B2 : Nat) (h1 : Byt w B1 A1 n1 c1 l1) (h2 : Byt w B2 A2 n2 c2 l2) :
    Calls Tryz.prog 53 #[.slice A1 n1 c1, .slice A2 n2 c2] w fun e w' => e = .returned (.bool (l2.isPrefixOf l1)) ∧ w = w' := by
  refine (Tryz.bytes_HasPrefix_all A1 A2 n1 c1 n2 c2 (nums l1) (nums l2) w (by rw [nums_length, h1.length]) (by rw [nums_length, h2.length]) h1.le h1.bytesIn h2.bytesIn).mono fun e w' ⟨he, hw⟩ => ⟨?_, hw.symm⟩
  rw [he, bytesOf_nums, bytesOf_nums]
  rfl
end Go.Proofs.YtgenpgfhjhcahaaGreatDoor
/- Bytes of a string, of a constant. -/
namespace Go.Proofs.YtgenpgfhjhcahaaGreatDoor
open Go.ChangeShapes Go.WideShapes Go.ChangeAt Go.RowKit
set_option linter.unusedVariables false
theorem byt_new (w : World) (l : List UInt8) (hl : l.length ≤ 1000000) : Byt (Lib.bytesWorld w 5 ⟨l.toArray⟩) (w.heap.size + 1) (some ⟨w.heap.size, 0, none⟩) l.length (grownCap w l.length 0 5) l := by
  have hsz : (⟨l.toArray⟩ : ByteArray).size = l.length := by simp [ByteArray.size]
  refine ⟨by simp, grownCap_ge _ _ _ _, grownCap_le_maxLen _ _ _ _ (by unfold maxLen; omega), (fun e => by cases e), fun _ => ⟨_, _, rfl, by omega, fun i u hu => ?_⟩⟩
  have hi : i < l.length := by
    rcases Nat.lt_or_ge i l.length with h' | h'
    · exact h'
    · rw [List.getElem?_eq_none (by simpa using h')] at hu; cases hu
  rw [Nat.zero_add, Lib.bytesWorld_cell _ _ _ _ (by rw [hsz]; exact hi)]
  rw [List.getElem?_map, List.getElem?_eq_getElem hi] at hu
  simp only [Option.map_some, Option.some.injEq] at hu
  rw [← hu]
  simp [bv, hi]
theorem run_toBytes (w : World) (l : List UInt8) : (convert 9 22 (.string ⟨l.toArray⟩)).run Tryz.prog w = .ok (.slice (some ⟨w.heap.size, 0, none⟩) l.length (grownCap w l.length 0 5)) (Lib.bytesWorld w 5 ⟨l.toArray⟩) := by
  have hsz : (⟨l.toArray⟩ : ByteArray).size = l.length := by simp [ByteArray.size]
  have := Lib.run_convert_string_bytes (P := Tryz.prog) w 9 22 5 ⟨l.toArray⟩ Tryz.underlying9 Tryz.underlying22 Tryz.underlying5
  rwa [hsz] at this
theorem run_upTo {w : World} (A : Option Addr) (n cap t : Nat) (ht : t ≤ cap) : (Instr.slice 22 (.slice A n cap) none (some (.int .i64 (t : Int))) none).run Tryz.prog w = .ok (.slice A t cap) w := by
  rw [run_slice_h (P := Tryz.prog) (w := w) 22 A n cap (by kernel_rfl) .i64 (t : Int) (by omega) (by omega), size_u8]
  simp [sliced]
  intro _
  cases A with
  | none => rfl
  | some a => simp [Addr.add]
theorem alloc_const (w : World) (l : List UInt8) (f : Nat × Nat) (hl : l.length ≤ 1000000) : Below w.heap.size w (w.alloc (.cells (l.map bv).toArray 5 f)) ∧ Byt (w.alloc (.cells (l.map bv).toArray 5 f)) (w.heap.size + 1) (some ⟨w.heap.size, 0, none⟩) l.length l.length l :=
  ⟨(Below.refl _ _).alloc (Nat.le_refl _) _, Byt.const w l f hl⟩
end Go.Proofs.YtgenpgfhjhcahaaGreatDoor

/- Go's library, by its contracts off the shelf, in this seat's words. -/
namespace Go.Proofs.YtgenpgfhjhcahaaGreatDoor
open Go.ChangeShapes Go.WideShapes Go.ChangeAt Go.RowKit
set_option linter.unusedVariables false
/-- What internal/bytealg.MaxLen holds: some number. -/
def MaxL (w : World) : Prop := ∃ m : Int, w.cell? ⟨1, 0, none⟩ = some (.int .i64 m)
theorem MaxL.lt {w : World} (h : MaxL w) : 1 < w.heap.size := by
  obtain ⟨m, hm⟩ := h
  exact World.block_lt_of_cell? w _ hm
theorem MaxL.below {w w' : World} {B : Nat} (h : MaxL w) (hb : Below B w w') (hB : 1 < B) : MaxL w' := by
  obtain ⟨m, hm⟩ := h
  exact ⟨m, by rw [hb.cell hB]; exact hm⟩
theorem MaxL.drewN {w : World} (h : MaxL w) (n : Nat) : MaxL (w.drewN n) := h
theorem lib_hasPrefix (a b : List UInt8) : Lib.hasPrefix a b = b.isPrefixOf a := rfl
/-- bytes.CutPrefix: the prefix stands there. -/
theorem cutPrefix_yes (A1 A2 : Option Addr) (n1 c1 n2 c2 : Nat) (l1 l2 : List UInt8) (w : World) (B1 B2 : Nat) (h1 : Byt w B1 A1 n1 c1 l1) (h2 : Byt w B2 A2 n2 c2 l2) (hn : 0 < n2) (hp : l2.isPrefixOf l1 = true) :
    Calls Tryz.prog 91 #[.slice A1 n1 c1, .slice A2 n2 c2] w fun e w' => e = .returned (.tuple #[.slice (cutA A1 c1 n2) (n1 - n2) (c1 - n2), .bool true]) ∧ w = w' := by
  refine (Tryz.bytes_CutPrefix_all A1 A2 n1 c1 n2 c2 (nums l1) (nums l2) w (by rw [nums_length, h1.length]) (by rw [nums_length, h2.length]) h1.le h1.bytesIn h2.bytesIn).mono fun e w' ⟨he, hw⟩ => ⟨?_, hw.symm⟩
  have hln : n2 ≤ n1 := by
    have := (List.isPrefixOf_iff_prefix.1 hp).length_le
    rw [h1.length, h2.length] at this
    exact this
  obtain ⟨b, o, rfl, _⟩ := h1.at_ (by have := h1.le; omega)
  rw [he, bytesOf_nums, bytesOf_nums, lib_hasPrefix, hp]
  congr 3
  have key : Lib.trimPrefixV (some ⟨b, o, none⟩) n1 c1 (nums l1) (nums l2) = Lib.bytesTrimPrefix b o n1 c1 (nums l1) (nums l2) := by
    cases hy : nums l2 with
    | nil =>
      have : (nums l2).length = 0 := by rw [hy]; rfl
      rw [nums_length, h2.length] at this
      omega
    | cons y ys => rfl
  rw [key]
  unfold Lib.bytesTrimPrefix
  rw [bytesOf_nums, bytesOf_nums, lib_hasPrefix, hp, if_pos rfl, nums_length, h2.length]
  unfold Lib.sliceFrom cutA
  rw [Option.map_some, addr_add]
/-- .. it does not. -/
theorem cutPrefix_no (A1 A2 : Option Addr) (n1 c1 n2 c2 : Nat) (l1 l2 : List UInt8) (w : World) (B1 B2 : Nat) (h1 : Byt w B1 A1 n1 c1 l1) (h2 : Byt w B2 A2 n2 c2 l2) (hp : l2.isPrefixOf l1 = false) :
    Calls Tryz.prog 91 #[.slice A1 n1 c1, .slice A2 n2 c2] w fun e w' => e = .returned (.tuple #[.slice A1 n1 c1, .bool false]) ∧ w = w' := by
  refine (Tryz.bytes_CutPrefix_all A1 A2 n1 c1 n2 c2 (nums l1) (nums l2) w (by rw [nums_length, h1.length]) (by rw [nums_length, h2.length]) h1.le h1.bytesIn h2.bytesIn).mono fun e w' ⟨he, hw⟩ => ⟨?_, hw.symm⟩
  rw [he, bytesOf_nums, bytesOf_nums, lib_hasPrefix, hp]
  congr 3
  unfold Lib.trimPrefixV
  split <;> simp [Lib.bytesTrimPrefix, bytesOf_nums, lib_hasPrefix, hp]
/-- bytes.Index. -/
theorem bindex_c (A1 A2 : Option Addr) (n1 c1 n2 c2 : Nat) (l1 l2 : List UInt8) (w : World) (B1 B2 : Nat) (h1 : Byt w B1 A1 n1 c1 l1) (h2 : Byt w B2 A2 n2 c2 l2) (hM : MaxL w) (hn : 0 < n2) (hm1 : n1 ≤ 1000000) (hm2 : n2 ≤ 1000000) :
    Calls Tryz.prog 82 #[.slice A1 n1 c1, .slice A2 n2 c2] w fun e w' => e = .returned (.int .i64 (Lib.index l1 l2)) ∧ ∃ q, w' = w.drewN q := by
  obtain ⟨b2, o2, rfl, _, hc2⟩ := h2.at_ (by have := h2.le; omega)
  have hc2' : ∀ i, i < n2 → w.cell? ((⟨b2, o2, none⟩ : Addr).add i) = some (.int .u8 ((nums l2).getD i 0)) := by
    obtain ⟨b, o, e, hc⟩ := h2.cells (by have := h2.le; omega)
    cases e
    intro i hi
    rw [addr_add]
    exact hc i hi
  cases A1 with
  | none =>
    have h0 := h1.nil rfl
    subst h0
    have h00 : n1 = 0 := by have := h1.le; omega
    subst h00
    have hl : l1 = [] := List.length_eq_zero_iff.1 h1.length
    subst hl
    refine (Tryz.bytes_Index_nil _ n2 c2 w (by omega) (fun e1 => ⟨b2, o2, _, rfl, by have := hc2' 0 hn; rwa [addr_add] at this⟩)).mono fun e w' ⟨he, hw⟩ => ⟨?_, 0, hw⟩
    rw [he, if_neg (by omega)]
    have hl2 : l2 ≠ [] := by intro e; subst e; have := h2.length; simp at this; omega
    cases l2 with
    | nil => exact absurd rfl hl2
    | cons a t => rfl
  | some a =>
    obtain ⟨m, hm⟩ := hM
    have hc1' : ∀ i, i < n1 → w.cell? (a.add i) = some (.int .u8 ((nums l1).getD i 0)) := by
      intro i hi
      obtain ⟨b, o, e, hc⟩ := h1.cells (by have := h1.le; omega)
      cases e
      rw [addr_add]
      exact hc i hi
    refine (Tryz.bytes_Index_at a ⟨b2, o2, none⟩ n1 c1 n2 c2 (nums l1) (nums l2) m w (by rw [nums_length, h1.length]) (by rw [nums_length, h2.length]) (nums_range l1) (nums_range l2) hc1' hc2' h1.le (by omega) (by omega) hm).mono fun e w' ⟨he, hw⟩ => ⟨?_, hw⟩
    rw [he, bytesOf_nums, bytesOf_nums]
/-- strings.Contains. -/
theorem contains_c (l1 l2 : List UInt8) (w : World) (hM : MaxL w) (hm1 : l1.length ≤ 1000000) :
    Calls Tryz.prog 124 #[.string ⟨l1.toArray⟩, .string ⟨l2.toArray⟩] w fun e w' => e = .returned (.bool (Lib.contains l1 l2)) ∧ w = w' := by
  obtain ⟨m, hm⟩ := hM
  exact (Tryz.strings_Contains ⟨l1.toArray⟩ ⟨l2.toArray⟩ m w (by simp [ByteArray.size]; omega) hm).mono fun e w' ⟨he, hw⟩ => ⟨he, hw.symm⟩
end Go.Proofs.YtgenpgfhjhcahaaGreatDoor
/- The first byte of a character, and whether a number is one: the walks. -/
namespace Go.Proofs.YtgenpgfhjhcahaaGreatDoor
open Go.ChangeShapes Go.WideShapes Go.ChangeAt Go.RowKit
set_option linter.unusedVariables false
theorem length_c (c : UInt8) (w : World) : Calls Tryz.prog 234 #[.int .u8 c.toNat] w fun e w' => e = .returned (.int .i64 (lenB c.toNat)) ∧ w = w' := by
  have hc := c.toNat_lt
  generalize c.toNat = x at *
  unfold lenB
  by_cases h1 : x < 128
  · have h1' : (x : Int) < 128 := by omega
    rw [if_pos h1]
    go_enter Tryz.func234, Tryz.ntmps234
    go_wp2
    go_ret
    exact ⟨rfl, rfl⟩
  · have h1' : ¬ (x : Int) < 128 := by omega
    rw [if_neg h1]
    by_cases h2 : x < 192
    · have h2' : (x : Int) < 192 := by omega
      rw [if_pos h2]
      go_enter Tryz.func234, Tryz.ntmps234
      go_wp2
      go_ret
      exact ⟨rfl, rfl⟩
    · have h2' : ¬ (x : Int) < 192 := by omega
      rw [if_neg h2]
      by_cases h3 : x < 224
      · have h3' : (x : Int) < 224 := by omega
        rw [if_pos h3]
        go_enter Tryz.func234, Tryz.ntmps234
        go_wp2
        go_ret
        exact ⟨rfl, rfl⟩
      · have h3' : ¬ (x : Int) < 224 := by omega
        rw [if_neg h3]
        by_cases h4 : x < 240
        · have h4' : (x : Int) < 240 := by omega
          rw [if_pos h4]
          go_enter Tryz.func234, Tryz.ntmps234
          go_wp2
          go_ret
          exact ⟨rfl, rfl⟩
        · have h4' : ¬ (x : Int) < 240 := by omega
          rw [if_neg h4]
          by_cases h5 : x < 248
          · have h5' : (x : Int) < 248 := by omega
            rw [if_pos h5]
            go_enter Tryz.func234, Tryz.ntmps234
            go_wp2
            go_ret
            exact ⟨rfl, rfl⟩
          · have h5' : ¬ (x : Int) < 248 := by omega
            rw [if_neg h5]
            go_enter Tryz.func234, Tryz.ntmps234
            go_wp2
            go_ret
            exact ⟨rfl, rfl⟩

theorem utfIs_c (r : Int) (w : World) : Calls Tryz.prog 235 #[.int .i64 r] w fun e w' => e = .returned (.bool (isR r)) ∧ w = w' := by
  have hf : isR r = true ∨ isR r = false := by cases isR r <;> simp
  by_cases h0 : 0 ≤ r
  · by_cases h1 : r ≤ 1114111
    · by_cases h2 : r < 55296
      · have e : isR r = true := by simp [isR, h0, h1, h2]
        rw [e]
        clear hf e
        go_enter Tryz.func235, Tryz.ntmps235
        go_wp2
        go_ret
        exact ⟨rfl, rfl⟩
      · by_cases h3 : 57343 < r
        · have e : isR r = true := by simp [isR, h0, h1, h3]
          rw [e]
          clear hf e
          go_enter Tryz.func235, Tryz.ntmps235
          go_wp2
          go_ret
          exact ⟨rfl, rfl⟩
        · have e : isR r = false := by simp [isR, h2, h3]
          rw [e]
          clear hf e
          have h3' : r ≤ 57343 := by omega
          have h2' : 55296 ≤ r := by omega
          go_enter Tryz.func235, Tryz.ntmps235
          go_wp2
          go_ret
          exact ⟨rfl, rfl⟩
    · have e : isR r = false := by simp [isR, h1]
      rw [e]
      clear hf e
      have h1' : 1114111 < r := by omega
      have hd1 : decide (r ≤ 1114111) = false := by simp; omega
      have hd0 : decide (0 ≤ r) = true := by simpa using h0
      go_enter Tryz.func235, Tryz.ntmps235
      go_wp2
      go_ret
      exact ⟨rfl, rfl⟩
  · have e : isR r = false := by simp [isR, h0]
    rw [e]
    clear hf e
    have hd0 : decide (0 ≤ r) = false := by simpa using h0
    have h0' : r < 0 := by omega
    go_enter Tryz.func235, Tryz.ntmps235
    go_wp2
    go_ret
    exact ⟨rfl, rfl⟩
end Go.Proofs.YtgenpgfhjhcahaaGreatDoor
