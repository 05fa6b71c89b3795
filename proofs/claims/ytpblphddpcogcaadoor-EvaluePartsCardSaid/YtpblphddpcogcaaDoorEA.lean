/- Values, in plain Lean; utf.Encode. -/
import Derived.Test.YtpblphddpcogcaaDoorRows
import Derived.WalkKit
import Derived.ProofKit
import Derived.OpenShut
import Derived.ShutString
import Derived.ChangeOld
import Derived.Below
import Derived.BigQuiet
import Derived.Deep.QuietTactic
import Derived.Lib.Hide
import Derived.Deep.RegionHeld3
import Derived.Lib.SlBytesConst
import Derived.Laws.CopyOwn
import Derived.Laws.CopyRow
import Derived.Lib.Bytes
import Derived.Deep.LoopGhost
import Derived.Deep.DeepFit
import Derived.Deep.DeepMust
import Derived.WalkSpells
import Derived.WalkLawsBesides
import Derived.Lib.VarintBits
import Derived.Laws.MakeOwn
import Derived.Test.YtpblphddpcogcaaDoorShelf
import Derived.Test.YtpblphddpcogcaaDoorBase
import Derived.Test.YtpblphddpcogcaaDoorCharPlain
import Derived.Test.YtpblphddpcogcaaDoorUtf1
import Derived.Test.YtpblphddpcogcaaDoorUtf2
import Derived.Test.YtpblphddpcogcaaDoorRef1
import Derived.Test.YtpblphddpcogcaaDoorRef3
import Derived.Test.YtpblphddpcogcaaDoorChars1
import Derived.Test.YtpblphddpcogcaaDoorUtf3
import Derived.Test.YtpblphddpcogcaaDoorName1
import Derived.Test.YtpblphddpcogcaaDoorName2
import Derived.Test.YtpblphddpcogcaaDoorName3
import Derived.Test.YtpblphddpcogcaaDoorCref1
import Derived.Test.YtpblphddpcogcaaDoorNum
import Derived.Test.YtpblphddpcogcaaDoorLitP
import Derived.Test.YtpblphddpcogcaaDoorMiscP
import Derived.Test.YtpblphddpcogcaaDoorEscP
import Derived.Test.YtpblphddpcogcaaDoorPlainP
import Derived.Test.YtpblphddpcogcaaDoorKnown
namespace Go.Proofs.YtpblphddpcogcaaDoor
open Go.ChangeShapes Go.WideShapes Go.ChangeAt Go.RowKit
set_option linter.unusedVariables false
theorem and63 (n : Nat) (h : n < 67108864) : bits .and .i64 (n : Int) 63 = ((n % 64 : Nat) : Int) := by
  have := bits_mask .i64 62 (by decide) (fun n h0 h1 => by rw [IntKind.wrap_i64]; omega) 6 (by decide) (n : Int) (by omega) (by omega)
  exact this.trans (by omega)
theorem or128 : ∀ x : Fin 64, bits .or .u8 128 (x.val : Int) = ((128 + x.val : Nat) : Int) := by decide +kernel
theorem or192 : ∀ x : Fin 32, bits .or .u8 192 (x.val : Int) = ((192 + x.val : Nat) : Int) := by decide +kernel
theorem or224 : ∀ x : Fin 16, bits .or .u8 224 (x.val : Int) = ((224 + x.val : Nat) : Int) := by decide +kernel
theorem or240 : ∀ x : Fin 8, bits .or .u8 240 (x.val : Int) = ((240 + x.val : Nat) : Int) := by decide +kernel
theorem or0 : ∀ x : Fin 128, bits .or .u8 0 (x.val : Int) = (x.val : Int) := by decide +kernel
/-- A character's bytes. -/
def encL (r : Nat) : List UInt8 :=
  if r < 128 then [UInt8.ofNat r]
  else if r < 2048 then [UInt8.ofNat (192 + r / 64), UInt8.ofNat (128 + r % 64)]
  else if r < 65536 then [UInt8.ofNat (224 + r / 4096), UInt8.ofNat (128 + r / 64 % 64), UInt8.ofNat (128 + r % 64)]
  else [UInt8.ofNat (240 + r / 262144), UInt8.ofNat (128 + r / 4096 % 64), UInt8.ofNat (128 + r / 64 % 64), UInt8.ofNat (128 + r % 64)]
theorem encL_len (r : Nat) : 0 < (encL r).length ∧ (encL r).length ≤ 4 := by
  unfold encL
  split
  · simp
  · split
    · simp
    · split <;> simp
theorem bv_nat (k : Nat) (h : k < 256) : bv (UInt8.ofNat k) = .int .u8 (k : Int) := by
  unfold bv
  rw [UInt8.toNat_ofNat_of_lt' (by show k < 256; exact h)]
theorem byt_cells (w : World) (B g : Nat) (l : List UInt8) (hg : w.heap[g]? = some (.cells (l.map bv).toArray 5)) (hB : g < B) (hl : l.length ≤ 1000000) : Byt w B (some ⟨g, 0, none⟩) l.length l.length l :=
  ⟨by simp, Nat.le_refl _, by unfold maxLen; omega, (fun e => by cases e), fun _ => ⟨g, 0, rfl, hB, fun i u hu => by
    rw [Nat.zero_add, cell_of _ hg, List.getElem?_toArray]; exact hu⟩⟩
/-- The document's bytes of a character. -/
def EncP (l : List UInt8) (w : World) (e : Ending) (w' : World) (f : Value → Value) : Prop :=
  ∃ g, e = .returned (f (.slice (some ⟨g, 0, none⟩) l.length l.length)) ∧ w.heap.size ≤ g ∧ w'.heap[g]? = some (.cells (l.map bv).toArray 5) ∧ Below w.heap.size w w'
theorem encL_1 (r : Nat) (h : r < 128) : encL r = [UInt8.ofNat (r)] := by
  unfold encL
  rw [if_pos (by omega)]
theorem encV_1 (r : Nat) (h : r < 128) : ((encL r).map bv).toArray = #[.int .u8 ((r : Nat) : Int)] := by
  rw [encL_1 r h]
  simp only [List.map_cons, List.map_nil, bv_nat (r) (by omega)]
theorem encL_2 (r : Nat) (h : 128 ≤ r ∧ r < 2048) : encL r = [UInt8.ofNat (192 + r / 64), UInt8.ofNat (128 + r % 64)] := by
  unfold encL
  rw [if_neg (by omega)]
  rw [if_pos (by omega)]
theorem encV_2 (r : Nat) (h : 128 ≤ r ∧ r < 2048) : ((encL r).map bv).toArray = #[.int .u8 ((192 + r / 64 : Nat) : Int), .int .u8 ((128 + r % 64 : Nat) : Int)] := by
  rw [encL_2 r h]
  simp only [List.map_cons, List.map_nil, bv_nat (192 + r / 64) (by omega), bv_nat (128 + r % 64) (by omega)]
theorem encL_3 (r : Nat) (h : 2048 ≤ r ∧ r < 65536) : encL r = [UInt8.ofNat (224 + r / 4096), UInt8.ofNat (128 + r / 64 % 64), UInt8.ofNat (128 + r % 64)] := by
  unfold encL
  rw [if_neg (by omega)]
  rw [if_neg (by omega)]
  rw [if_pos (by omega)]
theorem encV_3 (r : Nat) (h : 2048 ≤ r ∧ r < 65536) : ((encL r).map bv).toArray = #[.int .u8 ((224 + r / 4096 : Nat) : Int), .int .u8 ((128 + r / 64 % 64 : Nat) : Int), .int .u8 ((128 + r % 64 : Nat) : Int)] := by
  rw [encL_3 r h]
  simp only [List.map_cons, List.map_nil, bv_nat (224 + r / 4096) (by omega), bv_nat (128 + r / 64 % 64) (by omega), bv_nat (128 + r % 64) (by omega)]
theorem encL_4 (r : Nat) (h : 65536 ≤ r ∧ r ≤ 1114111) : encL r = [UInt8.ofNat (240 + r / 262144), UInt8.ofNat (128 + r / 4096 % 64), UInt8.ofNat (128 + r / 64 % 64), UInt8.ofNat (128 + r % 64)] := by
  unfold encL
  rw [if_neg (by omega)]
  rw [if_neg (by omega)]
  rw [if_neg (by omega)]
theorem encV_4 (r : Nat) (h : 65536 ≤ r ∧ r ≤ 1114111) : ((encL r).map bv).toArray = #[.int .u8 ((240 + r / 262144 : Nat) : Int), .int .u8 ((128 + r / 4096 % 64 : Nat) : Int), .int .u8 ((128 + r / 64 % 64 : Nat) : Int), .int .u8 ((128 + r % 64 : Nat) : Int)] := by
  rw [encL_4 r h]
  simp only [List.map_cons, List.map_nil, bv_nat (240 + r / 262144) (by omega), bv_nat (128 + r / 4096 % 64) (by omega), bv_nat (128 + r / 64 % 64) (by omega), bv_nat (128 + r % 64) (by omega)]
set_option maxRecDepth 100000 in
set_option maxHeartbeats 4000000 in
theorem utfBytes_c (r : Nat) (w : World) (h1 : r ≤ 1114111) : Calls Tryd.prog 50 #[.int .i64 r] w fun e w' => EncP (encL r) w e w' id := by
  have hB : ∀ o : Obj, Below w.heap.size w (w.alloc o) := fun o => Below.alloc (Below.refl _ _) (Nat.le_refl _) o
  have HAL := Lib.hid hB
  clear hB
  by_cases c1 : r < 128
  · have hc : r < 128 := by omega
    have HV := Lib.hid (encV_1 r hc)
    have HL : Hid ((encL r).length = 1) := Lib.hid (by rw [encL_1 r hc]; rfl)
    have a0 : (r : Int) < 128 := by omega
    go_enter Tryd.func50, Tryd.ntmps50
    go_wp2
    go_ret
    refine ⟨w.heap.size, ?_, Nat.le_refl _, ?_, HAL.out _⟩
    · rw [HL.out]; rfl
    · rw [hp_new, HV.out] <;> (try simp) <;> (try omega)
  by_cases c2 : r < 2048
  · have hc : 128 ≤ r ∧ r < 2048 := by omega
    have HV := Lib.hid (encV_2 r hc)
    have HL : Hid ((encL r).length = 2) := Lib.hid (by rw [encL_2 r hc]; rfl)
    have a0 : ¬ (r : Int) < 128 := by omega
    have a1 : (r : Int) < 2048 := by omega
    go_enter Tryd.func50, Tryd.ntmps50
    go_wp2
    go_ret
    refine ⟨w.heap.size, ?_, Nat.le_refl _, ?_, HAL.out _⟩
    · rw [HL.out]; rfl
    · rw [hp_new, HV.out] <;> (try simp) <;> (try omega)
  by_cases c3 : r < 65536
  · have hc : 2048 ≤ r ∧ r < 65536 := by omega
    have HV := Lib.hid (encV_3 r hc)
    have HL : Hid ((encL r).length = 3) := Lib.hid (by rw [encL_3 r hc]; rfl)
    have a0 : ¬ (r : Int) < 128 := by omega
    have a1 : ¬ (r : Int) < 2048 := by omega
    have a2 : (r : Int) < 65536 := by omega
    go_enter Tryd.func50, Tryd.ntmps50
    go_wp2
    go_ret
    refine ⟨w.heap.size, ?_, Nat.le_refl _, ?_, HAL.out _⟩
    · rw [HL.out]; rfl
    · rw [hp_new, HV.out] <;> (try simp) <;> (try omega)
  have hc : 65536 ≤ r ∧ r ≤ 1114111 := by omega
  have HV := Lib.hid (encV_4 r hc)
  have HL : Hid ((encL r).length = 4) := Lib.hid (by rw [encL_4 r hc]; rfl)
  have a0 : ¬ (r : Int) < 128 := by omega
  have a1 : ¬ (r : Int) < 2048 := by omega
  have a2 : ¬ (r : Int) < 65536 := by omega
  go_enter Tryd.func50, Tryd.ntmps50
  go_wp2
  go_ret
  refine ⟨w.heap.size, ?_, Nat.le_refl _, ?_, HAL.out _⟩
  · rw [HL.out]; rfl
  · rw [hp_new, HV.out] <;> (try simp) <;> (try omega)
set_option maxRecDepth 100000 in
set_option maxHeartbeats 4000000 in
theorem utfSize_c (r : Nat) (w : World) (hF : Forms w) (h1 : r ≤ 1114111) : Calls Tryd.prog 72 #[.int .i64 r] w fun e w' => e = .returned (.int .i64 ((encL r).length : Nat)) ∧ w = w' := by
  have f8 := hF 8 _ rfl
  have f11 := hF 11 _ rfl
  have f14 := hF 14 _ rfl
  clear hF
  by_cases c1 : r < 128
  · have hc : r < 128 := by omega
    rw [show (encL r).length = 1 by rw [encL_1 r hc]; rfl]
    have a0 : decide ((r : Int) < 128) = true := by simp; omega
    have a1 : decide ((r : Int) < 2048) = true := by simp; omega
    have a2 : decide ((r : Int) < 65536) = true := by simp; omega
    clear hc h1 c1
    go_enter Tryd.func72, Tryd.ntmps72
    go_wp2_with fail
    refine wp_loop_rounds 4 ?_
    rw [rounds_succ]
    go_wp2
    rw [rounds_succ]
    go_wp2
    rw [rounds_succ]
    go_wp2
    rw [rounds_succ]
    go_wp2
    go_ret
    exact ⟨rfl, rfl⟩
  by_cases c2 : r < 2048
  · have hc : 128 ≤ r ∧ r < 2048 := by omega
    rw [show (encL r).length = 2 by rw [encL_2 r hc]; rfl]
    have a0 : decide ((r : Int) < 128) = false := by simp; omega
    have a1 : decide ((r : Int) < 2048) = true := by simp; omega
    have a2 : decide ((r : Int) < 65536) = true := by simp; omega
    clear hc h1 c1 c2
    go_enter Tryd.func72, Tryd.ntmps72
    go_wp2_with fail
    refine wp_loop_rounds 4 ?_
    rw [rounds_succ]
    go_wp2
    rw [rounds_succ]
    go_wp2
    rw [rounds_succ]
    go_wp2
    go_ret
    exact ⟨rfl, rfl⟩
  by_cases c3 : r < 65536
  · have hc : 2048 ≤ r ∧ r < 65536 := by omega
    rw [show (encL r).length = 3 by rw [encL_3 r hc]; rfl]
    have a0 : decide ((r : Int) < 128) = false := by simp; omega
    have a1 : decide ((r : Int) < 2048) = false := by simp; omega
    have a2 : decide ((r : Int) < 65536) = true := by simp; omega
    clear hc h1 c1 c2 c3
    go_enter Tryd.func72, Tryd.ntmps72
    go_wp2_with fail
    refine wp_loop_rounds 4 ?_
    rw [rounds_succ]
    go_wp2
    rw [rounds_succ]
    go_wp2
    go_ret
    exact ⟨rfl, rfl⟩
  have hc : 65536 ≤ r ∧ r ≤ 1114111 := by omega
  rw [show (encL r).length = 4 by rw [encL_4 r hc]; rfl]
  have a0 : decide ((r : Int) < 128) = false := by simp; omega
  have a1 : decide ((r : Int) < 2048) = false := by simp; omega
  have a2 : decide ((r : Int) < 65536) = false := by simp; omega
  clear hc h1 c1 c2 c3
  go_enter Tryd.func72, Tryd.ntmps72
  go_wp2_with fail
  refine wp_loop_rounds 4 ?_
  rw [rounds_succ]
  go_wp2
  go_ret
  exact ⟨rfl, rfl⟩
theorem wpList_shr {P : Program} {ops : Array Oper} {rest : List Oper} {o : Oper} {a : Act} {Q : Exit → Act → World → Prop} {w : World} (hgd : o.guard = none) (x y : Operand) (t u : TypeId) (ho : o.op = .binOp .shr t x y u) (m : Int)
    (hx : a.eval x = .int .i64 m) (hy : a.eval y = .int .u64 6) (h : wpList P ops Q rest (a.put o.dst (.int .i64 (m / 64))) w) : wpList P ops Q (o :: rest) a w := by
  refine wpList_plain hgd fun K' hK' => ?_
  unfold Oper.wp
  simp [execOp, ho, hx, hy, binOp_shr, shift_shr_i64, Result.andThen]
  exact hK' _ _ h
theorem mk_u8_1 (w : World) : (Instr.makeSlice 22 (.int .i64 1) (.int .i64 1)).run Tryd.prog w = .ok (.slice (some ⟨w.heap.size, 0, none⟩) 1 1) (w.alloc (.cells #[.int .u8 0] 5)) := by
  obtain ⟨i, h1, h2, h3, h4⟩ := info_u8
  have := run_makeSlice (w := w) 22 5 i (.int .u8 0) Tryd.underlying22 h1 h2 .i64 .i64 1 1 (by omega) (by omega) (by rw [h3]; decide) (by rw [h4]; decide) (by omega)
  rw [h3] at this
  rw [show madeCells (Value.int .u8 0).cells (Int.toNat 1 * 1) = #[.int .u8 0] by kernel_rfl] at this
  exact this
theorem mk_u8_2 (w : World) : (Instr.makeSlice 22 (.int .i64 2) (.int .i64 2)).run Tryd.prog w = .ok (.slice (some ⟨w.heap.size, 0, none⟩) 2 2) (w.alloc (.cells #[.int .u8 0, .int .u8 0] 5)) := by
  obtain ⟨i, h1, h2, h3, h4⟩ := info_u8
  have := run_makeSlice (w := w) 22 5 i (.int .u8 0) Tryd.underlying22 h1 h2 .i64 .i64 2 2 (by omega) (by omega) (by rw [h3]; decide) (by rw [h4]; decide) (by omega)
  rw [h3] at this
  rw [show madeCells (Value.int .u8 0).cells (Int.toNat 2 * 1) = #[.int .u8 0, .int .u8 0] by kernel_rfl] at this
  exact this
theorem mk_u8_3 (w : World) : (Instr.makeSlice 22 (.int .i64 3) (.int .i64 3)).run Tryd.prog w = .ok (.slice (some ⟨w.heap.size, 0, none⟩) 3 3) (w.alloc (.cells #[.int .u8 0, .int .u8 0, .int .u8 0] 5)) := by
  obtain ⟨i, h1, h2, h3, h4⟩ := info_u8
  have := run_makeSlice (w := w) 22 5 i (.int .u8 0) Tryd.underlying22 h1 h2 .i64 .i64 3 3 (by omega) (by omega) (by rw [h3]; decide) (by rw [h4]; decide) (by omega)
  rw [h3] at this
  rw [show madeCells (Value.int .u8 0).cells (Int.toNat 3 * 1) = #[.int .u8 0, .int .u8 0, .int .u8 0] by kernel_rfl] at this
  exact this
theorem mk_u8_4 (w : World) : (Instr.makeSlice 22 (.int .i64 4) (.int .i64 4)).run Tryd.prog w = .ok (.slice (some ⟨w.heap.size, 0, none⟩) 4 4) (w.alloc (.cells #[.int .u8 0, .int .u8 0, .int .u8 0, .int .u8 0] 5)) := by
  obtain ⟨i, h1, h2, h3, h4⟩ := info_u8
  have := run_makeSlice (w := w) 22 5 i (.int .u8 0) Tryd.underlying22 h1 h2 .i64 .i64 4 4 (by omega) (by omega) (by rw [h3]; decide) (by rw [h4]; decide) (by omega)
  rw [h3] at this
  rw [show madeCells (Value.int .u8 0).cells (Int.toNat 4 * 1) = #[.int .u8 0, .int .u8 0, .int .u8 0, .int .u8 0] by kernel_rfl] at this
  exact this
set_option maxRecDepth 100000 in
set_option maxHeartbeats 4000000 in
theorem utfEncode_c (r : Nat) (w : World) (hF : Forms w) (h1 : r ≤ 1114111) (hr : isR (r : Int) = true) : Calls Tryd.prog 46 #[.int .i64 r] w fun e w' => EncP (encL r) w e w' fun v => .tuple #[v, .int .i64 0] := by
  have CI : Hid (∀ W, Calls Tryd.prog 71 #[.int .i64 r] W fun e w' => e = .returned (.bool true) ∧ W = w') := Lib.hid fun W => by have := utfIs_c r W; rwa [hr] at this
  have CS := Lib.hid (utfSize_c r w hF h1)
  have HF := Lib.hid hF
  clear hF hr
  by_cases c1 : r < 128
  · have hc : r < 128 := by omega
    have hl : (encL r).length = 1 := by rw [encL_1 r hc]; rfl
    have HV := Lib.hid (encV_1 r hc)
    have HL := Lib.hid hl
    rw [hl] at CS
    have f0 : ∀ C : Array Value, (w.alloc (.cells C 5)).cell? ⟨1, 3, none⟩ = some (.int .u8 0) := fun C => by
      rw [((Below.refl w.heap.size w).alloc (Nat.le_refl _) _).cell HF.out.lt]; exact HF.out 3 _ rfl
    have om : bits .or .u8 0 ((r : Int)) = (r : Int) := by have := or0 ⟨r, by omega⟩; simp only at this; rw [show ((r : Nat) : Int) = (r : Int) by omega] at this; rw [this] <;> omega
    have hb : 0 ≤ (r : Int) ∧ (r : Int) < 256 := by omega
    obtain ⟨ha1, ha2⟩ := hb
    clear hc h1 c1 hl
    have mk := mk_u8_1 w
    go_enter Tryd.func46, Tryd.ntmps46
    go_wp2_with fail
    refine (CI.out _).mono ?_
    rintro e wq ⟨rfl, rfl⟩
    go_wp2_with fail
    refine CS.out.mono ?_
    rintro e wq ⟨rfl, rfl⟩
    go_wp2
    refine wp_loop_rounds 5 ?_
    rw [rounds_succ]
    go_wp2
    go_ret2
    refine ⟨w.heap.size, ?_, Nat.le_refl _, ?_, (Below.refl w.heap.size w).alloc (Nat.le_refl _) _⟩
    · rw [HL.out]; rfl
    · rw [hp_new, HV.out] <;> (try simp) <;> (try omega)
  by_cases c2 : r < 2048
  · have hc : 128 ≤ r ∧ r < 2048 := by omega
    have hl : (encL r).length = 2 := by rw [encL_2 r hc]; rfl
    have HV := Lib.hid (encV_2 r hc)
    have HL := Lib.hid hl
    rw [hl] at CS
    have f0 : ∀ C : Array Value, (w.alloc (.cells C 5)).cell? ⟨1, 6, none⟩ = some (.int .u8 192) := fun C => by
      rw [((Below.refl w.heap.size w).alloc (Nat.le_refl _) _).cell HF.out.lt]; exact HF.out 6 _ rfl
    have n0 : bits .and .i64 ((r : Int)) 63 = ((r : Int)) % 64 := by have := and63 (r) (by omega); rw [show ((r : Nat) : Int) = (r : Int) by omega] at this; rw [this] <;> omega
    have o0 : bits .or .u8 128 (((r : Int)) % 64) = 128 + ((r : Int)) % 64 := by have := or128 ⟨r % 64, by omega⟩; simp only at this; rw [show ((r % 64 : Nat) : Int) = ((r : Int)) % 64 by omega] at this; rw [this] <;> omega
    have p0 : 0 ≤ ((r : Int)) % 64 ∧ ((r : Int)) % 64 < 64 := by omega
    have om : bits .or .u8 192 ((r : Int) / 64) = 192 + (r : Int) / 64 := by have := or192 ⟨r / 64, by omega⟩; simp only at this; rw [show ((r / 64 : Nat) : Int) = (r : Int) / 64 by omega] at this; rw [this] <;> omega
    have hb : 0 ≤ (r : Int) / 64 ∧ (r : Int) / 64 < 256 := by omega
    obtain ⟨pa0, pb0⟩ := p0
    obtain ⟨ha1, ha2⟩ := hb
    clear hc h1 c1 c2 hl
    have mk := mk_u8_2 w
    go_enter Tryd.func46, Tryd.ntmps46
    go_wp2_with fail
    refine (CI.out _).mono ?_
    rintro e wq ⟨rfl, rfl⟩
    go_wp2_with fail
    refine CS.out.mono ?_
    rintro e wq ⟨rfl, rfl⟩
    go_wp2
    refine wp_loop_rounds 5 ?_
    rw [rounds_succ]
    go_wp2_with (refine wpList_shr rfl _ _ _ _ rfl _ rfl rfl ?_)
    (try dsimp only [Act.put])
    (try simp only [List.setIfInBounds_toArray, List.set_cons_succ, List.set_cons_zero])
    go_wp2
    rw [rounds_succ]
    go_wp2
    go_ret2
    refine ⟨w.heap.size, ?_, Nat.le_refl _, ?_, (Below.refl w.heap.size w).alloc (Nat.le_refl _) _⟩
    · rw [HL.out]; rfl
    · rw [hp_new, HV.out] <;> (try simp) <;> (try omega)
  by_cases c3 : r < 65536
  · have hc : 2048 ≤ r ∧ r < 65536 := by omega
    have hl : (encL r).length = 3 := by rw [encL_3 r hc]; rfl
    have HV := Lib.hid (encV_3 r hc)
    have HL := Lib.hid hl
    rw [hl] at CS
    have f0 : ∀ C : Array Value, (w.alloc (.cells C 5)).cell? ⟨1, 9, none⟩ = some (.int .u8 224) := fun C => by
      rw [((Below.refl w.heap.size w).alloc (Nat.le_refl _) _).cell HF.out.lt]; exact HF.out 9 _ rfl
    have n0 : bits .and .i64 ((r : Int)) 63 = ((r : Int)) % 64 := by have := and63 (r) (by omega); rw [show ((r : Nat) : Int) = (r : Int) by omega] at this; rw [this] <;> omega
    have o0 : bits .or .u8 128 (((r : Int)) % 64) = 128 + ((r : Int)) % 64 := by have := or128 ⟨r % 64, by omega⟩; simp only at this; rw [show ((r % 64 : Nat) : Int) = ((r : Int)) % 64 by omega] at this; rw [this] <;> omega
    have p0 : 0 ≤ ((r : Int)) % 64 ∧ ((r : Int)) % 64 < 64 := by omega
    have n1 : bits .and .i64 ((r : Int) / 64) 63 = ((r : Int) / 64) % 64 := by have := and63 (r / 64) (by omega); rw [show ((r / 64 : Nat) : Int) = (r : Int) / 64 by omega] at this; rw [this] <;> omega
    have o1 : bits .or .u8 128 (((r : Int) / 64) % 64) = 128 + ((r : Int) / 64) % 64 := by have := or128 ⟨r / 64 % 64, by omega⟩; simp only at this; rw [show ((r / 64 % 64 : Nat) : Int) = ((r : Int) / 64) % 64 by omega] at this; rw [this] <;> omega
    have p1 : 0 ≤ ((r : Int) / 64) % 64 ∧ ((r : Int) / 64) % 64 < 64 := by omega
    have om : bits .or .u8 224 ((r : Int) / 64 / 64) = 224 + (r : Int) / 64 / 64 := by have := or224 ⟨r / 4096, by omega⟩; simp only at this; rw [show ((r / 4096 : Nat) : Int) = (r : Int) / 64 / 64 by omega] at this; rw [this] <;> omega
    have hb : 0 ≤ (r : Int) / 64 / 64 ∧ (r : Int) / 64 / 64 < 256 := by omega
    obtain ⟨pa0, pb0⟩ := p0
    obtain ⟨pa1, pb1⟩ := p1
    obtain ⟨ha1, ha2⟩ := hb
    clear hc h1 c1 c2 c3 hl
    have mk := mk_u8_3 w
    go_enter Tryd.func46, Tryd.ntmps46
    go_wp2_with fail
    refine (CI.out _).mono ?_
    rintro e wq ⟨rfl, rfl⟩
    go_wp2_with fail
    refine CS.out.mono ?_
    rintro e wq ⟨rfl, rfl⟩
    go_wp2
    refine wp_loop_rounds 5 ?_
    rw [rounds_succ]
    go_wp2_with (refine wpList_shr rfl _ _ _ _ rfl _ rfl rfl ?_)
    (try dsimp only [Act.put])
    (try simp only [List.setIfInBounds_toArray, List.set_cons_succ, List.set_cons_zero])
    go_wp2
    rw [rounds_succ]
    go_wp2_with (refine wpList_shr rfl _ _ _ _ rfl _ rfl rfl ?_)
    (try dsimp only [Act.put])
    (try simp only [List.setIfInBounds_toArray, List.set_cons_succ, List.set_cons_zero])
    go_wp2
    rw [rounds_succ]
    go_wp2
    go_ret2
    refine ⟨w.heap.size, ?_, Nat.le_refl _, ?_, (Below.refl w.heap.size w).alloc (Nat.le_refl _) _⟩
    · rw [HL.out]; rfl
    · rw [hp_new, HV.out] <;> (try simp) <;> (try omega)
  have hc : 65536 ≤ r ∧ r ≤ 1114111 := by omega
  have hl : (encL r).length = 4 := by rw [encL_4 r hc]; rfl
  have HV := Lib.hid (encV_4 r hc)
  have HL := Lib.hid hl
  rw [hl] at CS
  have f0 : ∀ C : Array Value, (w.alloc (.cells C 5)).cell? ⟨1, 12, none⟩ = some (.int .u8 240) := fun C => by
    rw [((Below.refl w.heap.size w).alloc (Nat.le_refl _) _).cell HF.out.lt]; exact HF.out 12 _ rfl
  have n0 : bits .and .i64 ((r : Int)) 63 = ((r : Int)) % 64 := by have := and63 (r) (by omega); rw [show ((r : Nat) : Int) = (r : Int) by omega] at this; rw [this] <;> omega
  have o0 : bits .or .u8 128 (((r : Int)) % 64) = 128 + ((r : Int)) % 64 := by have := or128 ⟨r % 64, by omega⟩; simp only at this; rw [show ((r % 64 : Nat) : Int) = ((r : Int)) % 64 by omega] at this; rw [this] <;> omega
  have p0 : 0 ≤ ((r : Int)) % 64 ∧ ((r : Int)) % 64 < 64 := by omega
  have n1 : bits .and .i64 ((r : Int) / 64) 63 = ((r : Int) / 64) % 64 := by have := and63 (r / 64) (by omega); rw [show ((r / 64 : Nat) : Int) = (r : Int) / 64 by omega] at this; rw [this] <;> omega
  have o1 : bits .or .u8 128 (((r : Int) / 64) % 64) = 128 + ((r : Int) / 64) % 64 := by have := or128 ⟨r / 64 % 64, by omega⟩; simp only at this; rw [show ((r / 64 % 64 : Nat) : Int) = ((r : Int) / 64) % 64 by omega] at this; rw [this] <;> omega
  have p1 : 0 ≤ ((r : Int) / 64) % 64 ∧ ((r : Int) / 64) % 64 < 64 := by omega
  have n2 : bits .and .i64 ((r : Int) / 64 / 64) 63 = ((r : Int) / 64 / 64) % 64 := by have := and63 (r / 4096) (by omega); rw [show ((r / 4096 : Nat) : Int) = (r : Int) / 64 / 64 by omega] at this; rw [this] <;> omega
  have o2 : bits .or .u8 128 (((r : Int) / 64 / 64) % 64) = 128 + ((r : Int) / 64 / 64) % 64 := by have := or128 ⟨r / 4096 % 64, by omega⟩; simp only at this; rw [show ((r / 4096 % 64 : Nat) : Int) = ((r : Int) / 64 / 64) % 64 by omega] at this; rw [this] <;> omega
  have p2 : 0 ≤ ((r : Int) / 64 / 64) % 64 ∧ ((r : Int) / 64 / 64) % 64 < 64 := by omega
  have om : bits .or .u8 240 ((r : Int) / 64 / 64 / 64) = 240 + (r : Int) / 64 / 64 / 64 := by have := or240 ⟨r / 262144, by omega⟩; simp only at this; rw [show ((r / 262144 : Nat) : Int) = (r : Int) / 64 / 64 / 64 by omega] at this; rw [this] <;> omega
  have hb : 0 ≤ (r : Int) / 64 / 64 / 64 ∧ (r : Int) / 64 / 64 / 64 < 256 := by omega
  obtain ⟨pa0, pb0⟩ := p0
  obtain ⟨pa1, pb1⟩ := p1
  obtain ⟨pa2, pb2⟩ := p2
  obtain ⟨ha1, ha2⟩ := hb
  clear hc h1 c1 c2 c3 hl
  have mk := mk_u8_4 w
  go_enter Tryd.func46, Tryd.ntmps46
  go_wp2_with fail
  refine (CI.out _).mono ?_
  rintro e wq ⟨rfl, rfl⟩
  go_wp2_with fail
  refine CS.out.mono ?_
  rintro e wq ⟨rfl, rfl⟩
  go_wp2
  refine wp_loop_rounds 5 ?_
  rw [rounds_succ]
  go_wp2_with (refine wpList_shr rfl _ _ _ _ rfl _ rfl rfl ?_)
  (try dsimp only [Act.put])
  (try simp only [List.setIfInBounds_toArray, List.set_cons_succ, List.set_cons_zero])
  go_wp2
  rw [rounds_succ]
  go_wp2_with (refine wpList_shr rfl _ _ _ _ rfl _ rfl rfl ?_)
  (try dsimp only [Act.put])
  (try simp only [List.setIfInBounds_toArray, List.set_cons_succ, List.set_cons_zero])
  go_wp2
  rw [rounds_succ]
  go_wp2_with (refine wpList_shr rfl _ _ _ _ rfl _ rfl rfl ?_)
  (try dsimp only [Act.put])
  (try simp only [List.setIfInBounds_toArray, List.set_cons_succ, List.set_cons_zero])
  go_wp2
  rw [rounds_succ]
  go_wp2
  go_ret2
  refine ⟨w.heap.size, ?_, Nat.le_refl _, ?_, (Below.refl w.heap.size w).alloc (Nat.le_refl _) _⟩
  · rw [HL.out]; rfl
  · rw [hp_new, HV.out] <;> (try simp) <;> (try omega)
theorem digs_drop (b : Int) (l : List UInt8) (k j : Nat) : digs b ((l.drop k).drop j) = digs b (l.drop (k + j)) := by rw [List.drop_drop]
/-- What is read of a reference to a character hangs on what stands from its place on. -/
theorem charBody_drop (b cap : Int) (l : List UInt8) (k j : Nat) : charBody b cap l (k + j) = ((charBody b cap (l.drop k) j).1, (if (charBody b cap (l.drop k) j).2.2 = 0 then k + (charBody b cap (l.drop k) j).2.1 else 0), (charBody b cap (l.drop k) j).2.2) := by
  unfold charBody
  simp only [List.drop_drop, List.getElem?_drop]
  rw [show k + (j + (digs b (l.drop (k + j))).length) = k + j + (digs b (l.drop (k + j))).length by omega]
  split
  · simp
  · split
    · simp; omega
    · simp
theorem charOut_drop (l : List UInt8) (k : Nat) : charOut l k = ((charOut (l.drop k) 0).1, (if (charOut (l.drop k) 0).2.2 = 0 then k + (charOut (l.drop k) 0).2.1 else 0), (charOut (l.drop k) 0).2.2) := by
  unfold charOut
  simp only [List.getElem?_drop, Nat.add_zero, Nat.zero_add]
  split
  · split
    · exact charBody_drop 16 2097152 l k 3
    · exact charBody_drop 10 2097152 l k 2
  · simp
theorem charOut_no (l : List UInt8) (h : ¬ (l[0]? = some 38 ∧ l[1]? = some 35)) : charOut l 0 = (0, 0, 7) := by
  unfold charOut
  rw [if_neg (by simpa using h)]
/-- Is each '&#' a reference to a character? -/
def cgood (l : List UInt8) : Prop := ∀ j, l[j]? = some 38 → l[j + 1]? = some 35 → (charOut l j).2.2 = 0
theorem cgood_drop {l : List UInt8} (h : cgood l) (k : Nat) : cgood (l.drop k) := fun j h1 h2 => by
  rw [List.getElem?_drop] at h1 h2
  have h3 := h (k + j) h1 (by rw [← h2]; congr 1)
  rw [charOut_drop] at h3
  have h4 := charOut_drop (l.drop k) j
  rw [List.drop_drop] at h4
  rw [h4]
  exact h3
/-- The text of a value, and how many characters' references it has. -/
def txtL : Nat → List UInt8 → List UInt8 × Nat
  | 0, _ => ([], 0)
  | _ + 1, [] => ([], 0)
  | f + 1, c :: t => if (charOut (c :: t) 0).2.2 = 0 then (encL (charOut (c :: t) 0).1.toNat ++ (txtL f ((c :: t).drop (charOut (c :: t) 0).2.1)).1, (txtL f ((c :: t).drop (charOut (c :: t) 0).2.1)).2 + 1)
    else (c :: (txtL f t).1, (txtL f t).2)
def txtOut (l : List UInt8) : List UInt8 × Nat := txtL l.length l
theorem txtL_nil (f : Nat) : txtL f [] = ([], 0) := by cases f <;> rfl
theorem txtL_fuel : ∀ (f g : Nat) (l : List UInt8), l.length ≤ f → l.length ≤ g → txtL f l = txtL g l
  | 0, g, l, h, _ => by
    have : l = [] := List.length_eq_zero_iff.1 (by omega)
    subst this
    rw [txtL_nil, txtL_nil]
  | f + 1, 0, l, _, h => by
    have : l = [] := List.length_eq_zero_iff.1 (by omega)
    subst this
    rw [txtL_nil, txtL_nil]
  | f + 1, g + 1, [], _, _ => rfl
  | f + 1, g + 1, c :: t, h1, h2 => by
    simp only [List.length_cons] at h1 h2
    unfold txtL
    split
    · rename_i h0
      have hn := charOut_next (c :: t) 0 h0
      have e := txtL_fuel f g ((c :: t).drop (charOut (c :: t) 0).2.1) (by rw [List.length_drop, List.length_cons]; omega) (by rw [List.length_drop, List.length_cons]; omega)
      rw [e]
    · rw [txtL_fuel f g t (by omega) (by omega)]
theorem txt_ok {l : List UInt8} (h : (charOut l 0).2.2 = 0) (f : Nat) (hf : l.length ≤ f) : txtL f l = (encL (charOut l 0).1.toNat ++ (txtL f (l.drop (charOut l 0).2.1)).1, (txtL f (l.drop (charOut l 0).2.1)).2 + 1) := by
  have hn := charOut_next l 0 h
  cases l with
  | nil => simp at hn; omega
  | cons c t =>
    cases f with
    | zero => simp at hf
    | succ f =>
      simp only [List.length_cons] at hf hn
      conv => lhs; unfold txtL
      rw [if_pos h]
      rw [txtL_fuel f (f + 1) ((c :: t).drop (charOut (c :: t) 0).2.1) (by rw [List.length_drop, List.length_cons]; omega) (by rw [List.length_drop, List.length_cons]; omega)]
theorem txt_no {c : UInt8} {t : List UInt8} (h : (charOut (c :: t) 0).2.2 ≠ 0) (f : Nat) (hf : t.length + 1 ≤ f) : txtL f (c :: t) = (c :: (txtL f t).1, (txtL f t).2) := by
  cases f with
  | zero => omega
  | succ f =>
    conv => lhs; unfold txtL
    rw [if_neg h, txtL_fuel f (f + 1) t (by omega) (by omega)]
/-- Bytes that begin no reference to a character stand for themselves. -/
theorem txt_skip : ∀ (k : Nat) (l : List UInt8) (f : Nat), l.length ≤ f → k ≤ l.length → (∀ j, j < k → ¬ (l[j]? = some 38 ∧ l[j + 1]? = some 35)) → txtL f l = (l.take k ++ (txtL f (l.drop k)).1, (txtL f (l.drop k)).2)
  | 0, l, f, _, _, _ => by simp
  | k + 1, [], f, _, h, _ => by simp at h
  | k + 1, c :: t, f, hf, hk, h => by
    have h0 := charOut_no (c :: t) (h 0 (by omega))
    simp only [List.length_cons] at hf hk
    rw [txt_no (by rw [h0]; simp) f hf, txt_skip k t f (by omega) (by omega) (fun j hj hh => h (j + 1) (by omega) (by simpa using hh))]
    simp
/-- The parts of a value, as the program finds them. -/
def pcs : Nat → List UInt8 → List (List UInt8 × Int × Bool)
  | 0, _ => []
  | _ + 1, [] => []
  | f + 1, c :: t => if Lib.index (c :: t) [38, 35] < 0 then [(c :: t, 0, false)]
    else if Lib.index (c :: t) [38, 35] = 0 then ([], (charOut (c :: t) 0).1, true) :: pcs f ((c :: t).drop (max (charOut (c :: t) 0).2.1 1))
    else ((c :: t).take (Lib.index (c :: t) [38, 35]).toNat, 0, false) :: pcs f ((c :: t).drop (Lib.index (c :: t) [38, 35]).toNat)
def pieceB (p : List UInt8 × Int × Bool) : List UInt8 := if p.2.2 then encL p.2.1.toNat else p.1
theorem pre_two (l : List UInt8) (j : Nat) : [38, 35].isPrefixOf (l.drop j) = true ↔ l[j]? = some 38 ∧ l[j + 1]? = some 35 := by
  constructor
  · intro h
    have h0 := pre_get h 0 (by simp)
    have h1 := pre_get h 1 (by simp)
    exact ⟨by simpa using h0, by simpa using h1⟩
  · rintro ⟨h0, h1⟩
    refine pre_of_get fun i hi => ?_
    simp at hi
    rcases (by omega : i = 0 ∨ i = 1) with rfl | rfl
    · simpa using h0
    · simpa using h1
/-- The parts of a value whose references are right are its text. -/
theorem pcs_txt : ∀ (f : Nat) (l : List UInt8) (g : Nat), l.length ≤ f → l.length ≤ g → cgood l → (pcs f l).flatMap pieceB = (txtL g l).1 ∧ ((pcs f l).countP fun p => p.2.2) = (txtL g l).2
  | 0, l, g, h, _, _ => by
    have : l = [] := List.length_eq_zero_iff.1 (by omega)
    subst this
    rw [txtL_nil]
    exact ⟨rfl, rfl⟩
  | f + 1, [], g, _, _, _ => by rw [txtL_nil]; exact ⟨rfl, rfl⟩
  | f + 1, c :: t, g, h1, h2, hc => by
    have hsp := findI_spec (c :: t) [38, 35] 0 (Nat.zero_le _)
    unfold findI at hsp
    rw [List.drop_zero] at hsp
    have hz : ((0 : Nat) : Int) + Lib.index (c :: t) [38, 35] = Lib.index (c :: t) [38, 35] := by omega
    unfold pcs
    by_cases hi : Lib.index (c :: t) [38, 35] < 0
    · rw [if_pos hi]
      rw [if_pos hi] at hsp
      have hno : ∀ j, j < (c :: t).length → ¬ ((c :: t)[j]? = some 38 ∧ (c :: t)[j + 1]? = some 35) := fun j hj hh => by
        rcases hsp with ⟨_, hn⟩ | ⟨i, h, _⟩
        · have := hn j (Nat.zero_le _) (by omega)
          rw [(pre_two _ _).2 hh] at this
          cases this
        · omega
      rw [txt_skip (c :: t).length (c :: t) g h2 (Nat.le_refl _) hno]
      rw [List.drop_length, txtL_nil]
      simp [pieceB]
    · rw [if_neg hi]
      rw [if_neg hi, hz] at hsp
      rcases hsp with ⟨h, _⟩ | ⟨i, h, _, hil, ho, hn⟩
      · omega
      · have hh := (pre_two _ _).1 ho
        rw [h]
        by_cases hi0 : i = 0
        · subst hi0
          rw [if_pos (show ((0 : Nat) : Int) = 0 from rfl)]
          have hok := hc 0 hh.1 hh.2
          have hnx := charOut_next (c :: t) 0 hok
          rw [show max (charOut (c :: t) 0).2.1 1 = (charOut (c :: t) 0).2.1 by omega]
          have ih := pcs_txt f ((c :: t).drop (charOut (c :: t) 0).2.1) g (by rw [List.length_drop]; simp only [List.length_cons] at *; omega) (by rw [List.length_drop]; omega) (cgood_drop hc _)
          rw [txt_ok hok g h2]
          simp [pieceB, ih.1, ih.2]
        · rw [if_neg (by omega), Int.toNat_natCast]
          have hil' : i ≤ (c :: t).length := by simp only [List.length_cons, List.length_nil] at hil ⊢; omega
          have ih := pcs_txt f ((c :: t).drop i) g (by rw [List.length_drop]; simp only [List.length_cons] at *; omega) (by rw [List.length_drop]; omega) (cgood_drop hc _)
          rw [txt_skip i (c :: t) g h2 hil' (fun j hj hh2 => by
            have := hn j (Nat.zero_le _) hj
            rw [(pre_two _ _).2 hh2] at this
            cases this)]
          simp [pieceB, ih.1, ih.2]
/-- Is each '&' a reference? -/
def mgood (l : List UInt8) : Prop := ∀ j, l[j]? = some 38 → (markOut l j).2 = 0
theorem dec_38 (l : List UInt8) (r n i : Nat) (h : dec l = some (r, n)) (hi : i < n) (h38 : l[i]? = some 38) : r = 38 := by
  cases l with
  | nil => simp [dec] at h
  | cons c t =>
    simp only [dec] at h
    split at h
    · cases h
    · rename_i h0
      simp only [not_or, Nat.not_lt] at h0
      split at h
      · rename_i r' hr
        split at h
        · cases h
          cases i with
          | zero =>
            simp at h38
            subst h38
            have hl : lenB (38 : UInt8).toNat = 1 := by decide
            rw [hl] at hr
            simp [cont, msk] at hr
            omega
          | succ i =>
            exfalso
            have h2 : (t.take (lenB c.toNat - 1))[i]? = some 38 := by
              rw [List.getElem?_take_of_lt (by omega)]
              simpa using h38
            have key : ∀ (u : List UInt8) (a b : Nat), cont a u = some b → ∀ i : Nat, u[i]? = some 38 → False := by
              intro u
              induction u with
              | nil => intro a b _ i hi; simp at hi
              | cons d v ih =>
                intro a b hc i hi
                unfold cont at hc
                split at hc
                · rename_i hd
                  cases i with
                  | zero =>
                    simp at hi
                    subst hi
                    simp at hd
                  | succ i => exact ih _ _ hc i (by simpa using hi)
                · cases hc
            exact key _ _ _ hr i h2
        · cases h
      · cases h
/-- No '&' stands in a name. -/
theorem endL_38 : ∀ (K : Nat) (f g : Int → Bool) (l : List UInt8) (i : Nat), f 38 = false → g 38 = false → i < endL f g K l → l[i]? ≠ some 38
  | 0, f, g, l, i, _, _, hi => by simp [endL] at hi
  | K + 1, f, g, l, i, hf, hg, hi => by
    intro h38
    unfold endL at hi
    cases hd : dec l with
    | none => rw [hd] at hi; simp at hi
    | some x =>
      obtain ⟨r, n⟩ := x
      rw [hd] at hi
      simp only at hi
      split at hi
      · rename_i hfr
        by_cases hin : i < n
        · have := dec_38 l r n i hd hin h38
          subst this
          have : f ((38 : Nat) : Int) = true := hfr
          rw [show ((38 : Nat) : Int) = 38 from rfl, hf] at this
          cases this
        · exact endL_38 K g g (l.drop n) (i - n) hg hg (by omega) (by rw [List.getElem?_drop, show n + (i - n) = i by omega]; exact h38)
      · omega
theorem no38 : noColon isStart 38 = false ∧ noColon isMore 38 = false := by constructor <;> decide +kernel
theorem digs_38 (b : Int) (hb : b = 10 ∨ b = 16) (l : List UInt8) (i : Nat) (hi : i < (digs b l).length) : l[i]? ≠ some 38 := by
  intro h
  have h1 := digs_take b l
  have h2 : (digs b l)[i]? = some 38 := by rw [h1, List.getElem?_take_of_lt hi]; exact h
  have h3 := digs_mem b l 38 (List.mem_of_getElem? h2)
  rcases hb with rfl | rfl
  · exact absurd h3 (by decide +kernel)
  · exact absurd h3 (by decide +kernel)
theorem charBody_38 (b cap : Int) (hb : b = 10 ∨ b = 16) (l : List UInt8) (k j : Nat) (h : (charBody b cap l k).2.2 = 0) (h1 : k ≤ j) (h2 : j < (charBody b cap l k).2.1) : l[j]? ≠ some 38 := by
  unfold charBody at h h2
  simp only at h h2
  split at h
  · cases h
  · rename_i h3
    rw [if_neg h3] at h2
    simp only [not_or, Decidable.not_not] at h3
    split at h
    · rename_i h4
      rw [if_pos h4] at h2
      simp only at h2
      intro h38
      by_cases hj : j < k + (digs b (l.drop k)).length
      · exact digs_38 b hb (l.drop k) (j - k) (by omega) (by rw [List.getElem?_drop, show k + (j - k) = j by omega]; exact h38)
      · have : j = k + (digs b (l.drop k)).length := by omega
        rw [this, h3.2] at h38
        cases h38
    · cases h
theorem markOut_38 (l : List UInt8) (k j : Nat) (h : (markOut l k).2 = 0) (h1 : k < j) (h2 : j < (markOut l k).1) : l[j]? ≠ some 38 := by
  unfold markOut at h h2
  by_cases h35 : l[k + 1]? = some 35
  · rw [if_pos h35] at h h2
    unfold charOut at h h2
    split at h
    · rename_i hh
      rw [if_pos hh] at h2
      intro h38
      have hj1 : j ≠ k + 1 := fun e => by rw [e, h35] at h38; cases h38
      split at h
      · rename_i hx
        rw [if_pos hx] at h2
        have hj2 : j ≠ k + 2 := fun e => by rw [e, hx] at h38; cases h38
        exact charBody_38 16 2097152 (Or.inr rfl) l (k + 3) j h (by omega) h2 h38
      · rename_i hx
        rw [if_neg hx] at h2
        exact charBody_38 10 2097152 (Or.inl rfl) l (k + 2) j h (by omega) h2 h38
    · cases h
  · rw [if_neg h35] at h h2
    unfold refOut at h h2
    cases hc : l[k]? with
    | none => rw [hc] at h; cases h
    | some c =>
      rw [hc] at h h2
      simp only at h h2
      split at h
      · rename_i hm
        rw [if_pos hm] at h2
        split at h
        · rename_i h3; exact absurd h h3
        · rename_i h3
          rw [if_neg h3] at h2
          cases hd : l[(plainOut l (k + 1)).2.1]? with
          | none => rw [hd] at h; cases h
          | some d =>
            rw [hd] at h h2
            simp only at h h2
            split at h
            · rename_i h59
              rw [if_pos h59] at h2
              simp only at h2
              intro h38
              by_cases hj : j < (plainOut l (k + 1)).2.1
              · unfold plainOut at hj h3
                simp only at hj h3
                split at hj
                · simp at hj
                · split at hj
                  · simp at hj
                  · simp only at hj
                    exact endL_38 l.length _ _ (l.drop (k + 1)) (j - (k + 1)) no38.1 no38.2 (by omega) (by rw [List.getElem?_drop, show k + 1 + (j - (k + 1)) = j by omega]; exact h38)
              · have : j = (plainOut l (k + 1)).2.1 := by omega
                rw [this, hd, h59] at h38
                cases h38
            · cases h
      · cases h
/-- References are right just where each '&' is one. -/
theorem refs_all (l : List UInt8) : ∀ (f k : Nat), l.length < f + k → (refsF l f k).2 = 0 → ∀ j, k ≤ j → l[j]? = some 38 → (markOut l j).2 = 0
  | 0, k, hf, _, j, hk, hj => by
    have := (List.getElem?_eq_some_iff.1 hj).1
    omega
  | f + 1, k, hf, h, j, hk, hj => by
    have hjl := (List.getElem?_eq_some_iff.1 hj).1
    unfold refsF at h
    rw [if_neg (by omega)] at h
    split at h
    · rename_i h1
      have : j ≠ k := fun e => h1 (by rw [← e]; exact hj)
      exact refs_all l f (k + 1) (by omega) h j (by omega) hj
    · split at h
      · rename_i h2; exact absurd h h2
      · rename_i h2
        have h2' : (markOut l k).2 = 0 := by simpa using h2
        by_cases e : j = k
        · rw [e]; exact h2'
        · have hn := markOut_next l k h2'
          by_cases hlt : j < (markOut l k).1
          · exact absurd hj (markOut_38 l k j h2' (by omega) hlt)
          · exact refs_all l f _ (by omega) h j (by omega) hj
theorem refs_of_all (l : List UInt8) : ∀ (f k : Nat), (∀ j, k ≤ j → l[j]? = some 38 → (markOut l j).2 = 0) → (refsF l f k).2 = 0
  | 0, k, _ => rfl
  | f + 1, k, h => by
    unfold refsF
    split
    · rfl
    · split
      · exact refs_of_all l f (k + 1) fun j hj => h j (by omega)
      · rename_i h1 h2
        have h38 : l[k]? = some 38 := by simpa using h2
        have h3 := h k (Nat.le_refl _) h38
        rw [if_neg (by simpa using h3)]
        have hn := markOut_next l k h3
        exact refs_of_all l f _ fun j hj => h j (by omega)
theorem refs_mgood (l : List UInt8) : (refsOut l).2 = 0 ↔ mgood l := by
  constructor
  · intro h j hj
    exact refs_all l (l.length + 1) 0 (by omega) h j (Nat.zero_le _) hj
  · intro h
    exact refs_of_all l _ 0 fun j _ hj => h j hj
theorem mgood_c {l : List UInt8} (h : mgood l) : cgood l := fun j h1 h2 => by
  have := h j h1
  unfold markOut at this
  rwa [if_pos h2] at this
theorem endL_fuel : ∀ (K K' : Nat) (f g : Int → Bool) (l : List UInt8), l.length ≤ K → l.length ≤ K' → endL f g K l = endL f g K' l
  | 0, K', f, g, l, h, _ => by
    have : l = [] := List.length_eq_zero_iff.1 (by omega)
    subst this
    rw [endL_none f g 0 [] rfl, endL_none f g K' [] rfl]
  | K + 1, 0, f, g, l, _, h => by
    have : l = [] := List.length_eq_zero_iff.1 (by omega)
    subst this
    rw [endL_none f g (K + 1) [] rfl, endL_none f g 0 [] rfl]
  | K + 1, K' + 1, f, g, l, h1, h2 => by
    unfold endL
    cases hd : dec l with
    | none => rfl
    | some x =>
      obtain ⟨r, n⟩ := x
      have hle := dec_le l r n hd
      simp only
      rw [endL_fuel K K' g g (l.drop n) (by rw [List.length_drop]; omega) (by rw [List.length_drop]; omega)]
theorem charOut_shift (l : List UInt8) (k j : Nat) : (charOut l (k + j)).2.2 = (charOut (l.drop k) j).2.2 := by
  have h1 := charOut_drop l (k + j)
  have h2 := charOut_drop (l.drop k) j
  rw [List.drop_drop] at h2
  rw [h1, h2]
theorem plainOut_shift (l : List UInt8) (k j : Nat) (hj : k + j ≤ l.length) : plainOut l (k + j) = ((plainOut (l.drop k) j).1, (if (plainOut (l.drop k) j).2.2 = 0 then k + (plainOut (l.drop k) j).2.1 else 0), (plainOut (l.drop k) j).2.2) := by
  have e : endL (noColon isStart) (noColon isMore) (l.drop k).length ((l.drop k).drop j) = endL (noColon isStart) (noColon isMore) l.length (l.drop (k + j)) := by
    rw [List.drop_drop]
    exact endL_fuel _ _ _ _ _ (by rw [List.length_drop, List.length_drop]; omega) (by rw [List.length_drop]; omega)
  rw [List.drop_drop] at e
  unfold plainOut
  simp only [List.drop_drop, e]
  split
  · simp
  · split
    · simp
    · simp; omega
theorem refOut_shift (l : List UInt8) (k j : Nat) (hj : k + j < l.length) : (refOut 38 l (k + j)).2.2 = (refOut 38 (l.drop k) j).2.2 := by
  have hp := plainOut_shift l k (j + 1) (by omega)
  unfold refOut
  rw [List.getElem?_drop]
  cases hc : l[k + j]? with
  | none => rfl
  | some c =>
    simp only
    split
    · rw [show k + j + 1 = k + (j + 1) by omega, hp]
      simp only
      split
      · rfl
      · rename_i h0
        have h0' : (plainOut (l.drop k) (j + 1)).2.2 = 0 := by simpa using h0
        rw [if_pos h0', List.getElem?_drop]
        cases l[k + (plainOut (l.drop k) (j + 1)).2.1]? with
        | none => rfl
        | some d =>
          simp only
          split <;> rfl
    · rfl
theorem markOut_shift (l : List UInt8) (k j : Nat) (hj : k + j < l.length) : (markOut l (k + j)).2 = (markOut (l.drop k) j).2 := by
  unfold markOut
  rw [List.getElem?_drop, show k + (j + 1) = k + j + 1 by omega]
  split
  · exact charOut_shift l k j
  · exact refOut_shift l k j hj
theorem mgood_drop {l : List UInt8} (h : mgood l) (k : Nat) : mgood (l.drop k) := fun j hj => by
  rw [List.getElem?_drop] at hj
  have hl := (List.getElem?_eq_some_iff.1 hj).1
  rw [← markOut_shift l k j hl]
  exact h _ hj
theorem digs_app (b : Int) (x y : List UInt8) : (digs b x).length < x.length → digs b (x ++ y) = digs b x := by
  induction x with
  | nil => intro h; simp at h
  | cons c t ih =>
    intro h
    rw [List.cons_append]
    unfold digs at h ⊢
    split
    · rename_i hc
      rw [if_pos hc] at h
      simp only [List.length_cons] at h
      rw [ih (by omega)]
    · rfl
theorem charBody_app (b cap : Int) (a y : List UInt8) (k : Nat) (h : (charBody b cap a k).2.2 = 0) : charBody b cap (a ++ y) k = charBody b cap a k := by
  have h' := h
  unfold charBody at h'
  simp only at h'
  split at h'
  · cases h'
  · rename_i h3
    simp only [not_or, Decidable.not_not] at h3
    have hl := (List.getElem?_eq_some_iff.1 h3.2).1
    have hd : (a ++ y).drop k = a.drop k ++ y := List.drop_append_of_le_length (by omega)
    have he : digs b ((a ++ y).drop k) = digs b (a.drop k) := by
      rw [hd]
      exact digs_app b _ _ (by rw [List.length_drop]; omega)
    unfold charBody
    simp only [he]
    rw [List.getElem?_append_left hl]
theorem charOut_app (a y : List UInt8) (k : Nat) (h : (charOut a k).2.2 = 0) : charOut (a ++ y) k = charOut a k := by
  have hn := charOut_next a k h
  have key : k + 2 < a.length := by
    unfold charOut charBody at h hn
    simp only at h hn
    split at h
    · rename_i h1
      rw [if_pos h1] at hn
      split at h
      · rename_i h2
        rw [if_pos h2] at hn
        exact (List.getElem?_eq_some_iff.1 h2).1
      · rename_i h2
        rw [if_neg h2] at hn
        split at h
        · cases h
        · rename_i h3
          simp only [not_or, Decidable.not_not] at h3
          have := (List.getElem?_eq_some_iff.1 h3.2).1
          omega
    · cases h
  unfold charOut at h ⊢
  rw [List.getElem?_append_left (by omega), List.getElem?_append_left (by omega), List.getElem?_append_left key]
  split
  · rename_i h1
    rw [if_pos h1] at h
    split
    · rename_i h2
      rw [if_pos h2] at h
      exact charBody_app _ _ _ _ _ h
    · rename_i h2
      rw [if_neg h2] at h
      exact charBody_app _ _ _ _ _ h
  · rfl
/-- A name up to a sign that is none of it stays so, whatever stands behind. -/
theorem endL_app59 (f0 : Int → Bool) (h0 : f0 59 = false) : ∀ (K : Nat) (f : Int → Bool) (x y : List UInt8) (K' : Nat), f 59 = false → endL f f0 K x ≤ K' → x[endL f f0 K x]? = some 59 → x.length ≤ K → endL f f0 K' (x ++ y) = endL f f0 K x
  | 0, f, x, y, K', _, _, h59, hK => by
    have : x = [] := List.length_eq_zero_iff.1 (by omega)
    subst this
    simp at h59
  | K + 1, f, x, y, K', hf, hK', h59, hK => by
    unfold endL at hK' h59 ⊢
    cases hd : dec x with
    | none =>
      rw [hd] at hK' h59
      simp only at h59
      cases x with
      | nil => simp at h59
      | cons c t =>
        simp at h59
        subst h59
        rw [dec_ascii 59 t (by decide)] at hd
        cases hd
    | some p =>
      obtain ⟨r, n⟩ := p
      have hle := dec_le x r n hd
      rw [hd] at hK' h59
      simp only at hK' h59
      split at h59
      · rename_i hfr
        rw [if_pos hfr] at hK'
        obtain ⟨K2, rfl⟩ : ∃ m, K' = m + 1 := ⟨K' - 1, by omega⟩
        simp only
        rw [dec_append x y r n hd]
        simp only
        rw [if_pos hfr, if_pos hfr]
        have ih := endL_app59 f0 h0 K f0 (x.drop n) y K2 h0 (by omega) (by rw [List.getElem?_drop]; exact h59) (by rw [List.length_drop]; omega)
        rw [List.drop_append_of_le_length (by omega), ih]
      · rename_i hfr
        cases K' with
        | zero => simp [hfr]
        | succ K2 =>
          simp only
          rw [dec_append x y r n hd]
          simp [hfr]
theorem no59 : noColon isStart 59 = false ∧ noColon isMore 59 = false := by constructor <;> decide +kernel
theorem refOut_app (a y : List UInt8) (k : Nat) (h : (refOut 38 a k).2.2 = 0) : (refOut 38 (a ++ y) k).2.2 = 0 ∧ k + 1 < a.length := by
  unfold refOut at h
  cases hc : a[k]? with
  | none => rw [hc] at h; cases h
  | some c =>
    have hk := (List.getElem?_eq_some_iff.1 hc).1
    rw [hc] at h
    simp only at h
    split at h
    · rename_i hm
      split at h
      · rename_i h3; exact absurd h h3
      · rename_i h3
        have h3' : (plainOut a (k + 1)).2.2 = 0 := by simpa using h3
        have hle := plainOut_le a (k + 1) (by omega) h3'
        cases hd : a[(plainOut a (k + 1)).2.1]? with
        | none => rw [hd] at h; cases h
        | some d =>
          rw [hd] at h
          simp only at h
          split at h
          · rename_i h59
            subst h59
            have hlt := (List.getElem?_eq_some_iff.1 hd).1
            refine ⟨?_, by omega⟩
            have hp : plainOut (a ++ y) (k + 1) = plainOut a (k + 1) := by
              have hpo := h3'
              unfold plainOut at hpo hd
              simp only at hpo hd
              split at hpo
              · cases hpo
              · rename_i e0
                rw [if_neg e0] at hd
                split at hpo
                · cases hpo
                · rename_i e1
                  rw [if_neg e1] at hd
                  simp only at hd
                  have e := endL_app59 (noColon isMore) no59.2 a.length (noColon isStart) (a.drop (k + 1)) y (a ++ y).length no59.1 (by have := endL_le a.length (noColon isStart) (noColon isMore) (a.drop (k + 1)); rw [List.length_drop] at this; rw [List.length_append]; omega) (by rw [List.getElem?_drop]; exact hd) (by rw [List.length_drop]; omega)
                  have hdr : (a ++ y).drop (k + 1) = a.drop (k + 1) ++ y := List.drop_append_of_le_length (by omega)
                  have hle2 := endL_le a.length (noColon isStart) (noColon isMore) (a.drop (k + 1))
                  unfold plainOut
                  simp only [hdr, e]
                  rw [if_neg e0, if_neg e1, if_neg e0, if_neg e1, List.take_append_of_le_length hle2]
            unfold refOut
            rw [List.getElem?_append_left hk, hc]
            simp only
            rw [if_pos hm, hp, if_neg (by simpa using h3'), List.getElem?_append_left hlt, hd]
            simp
          · cases h
    · cases h
theorem markOut_app (a y : List UInt8) (k : Nat) (h : (markOut a k).2 = 0) : (markOut (a ++ y) k).2 = 0 := by
  unfold markOut at h ⊢
  by_cases h35 : a[k + 1]? = some 35
  · have hl := (List.getElem?_eq_some_iff.1 h35).1
    rw [if_pos h35] at h
    rw [List.getElem?_append_left hl, if_pos h35, charOut_app a y k h]
    exact h
  · rw [if_neg h35] at h
    have := refOut_app a y k h
    rw [List.getElem?_append_left this.2, if_neg h35]
    exact this.1
theorem mgood_app {a b : List UInt8} (ha : mgood a) (hb : mgood b) : mgood (a ++ b) := fun j hj => by
  by_cases h : j < a.length
  · rw [List.getElem?_append_left h] at hj
    exact markOut_app a b j (ha j hj)
  · have hl := (List.getElem?_eq_some_iff.1 hj).1
    rw [List.getElem?_append_right (by omega)] at hj
    have := markOut_shift (a ++ b) a.length (j - a.length) (by omega)
    rw [show a.length + (j - a.length) = j by omega, List.drop_left] at this
    rw [this]
    exact hb _ hj
/-- The text of two values, one behind the other. -/
theorem txt_app : ∀ (f : Nat) (a b : List UInt8) (g h : Nat), a.length ≤ f → a.length + b.length ≤ g → b.length ≤ h → mgood a → txtL g (a ++ b) = ((txtL f a).1 ++ (txtL h b).1, (txtL f a).2 + (txtL h b).2)
  | 0, a, b, g, h, h1, h2, h3, _ => by
    have : a = [] := List.length_eq_zero_iff.1 (by omega)
    subst this
    rw [txtL_nil, List.nil_append, txtL_fuel g h b (by simpa using h2) h3]
    simp
  | f + 1, [], b, g, h, h1, h2, h3, _ => by
    rw [txtL_nil, List.nil_append, txtL_fuel g h b (by simpa using h2) h3]
    simp
  | f + 1, c :: t, b, g, h, h1, h2, h3, hm => by
    simp only [List.length_cons] at h1 h2
    by_cases h0 : (charOut (c :: t) 0).2.2 = 0
    · have hn := charOut_next (c :: t) 0 h0
      have ha := charOut_app (c :: t) b 0 h0
      simp only [List.length_cons] at hn
      rw [txt_ok (by rw [ha]; exact h0) g (by simp; omega), ha, txt_ok h0 (f + 1) (by simpa using h1)]
      rw [List.drop_append_of_le_length (by simp only [List.length_cons]; omega)]
      rw [txtL_fuel (f + 1) f ((c :: t).drop (charOut (c :: t) 0).2.1) (by rw [List.length_drop, List.length_cons]; omega) (by rw [List.length_drop, List.length_cons]; omega)]
      rw [txt_app f _ b g h (by rw [List.length_drop, List.length_cons]; omega) (by rw [List.length_drop, List.length_cons]; omega) h3 (mgood_drop hm _)]
      simp
      omega
    · have h0' : (charOut (c :: t ++ b) 0).2.2 ≠ 0 := by
        have hno : ¬ ((c :: t ++ b)[0]? = some 38 ∧ (c :: t ++ b)[1]? = some 35) := by
          rintro ⟨e1, e2⟩
          have hc : (c :: t)[0]? = some 38 := by simpa using e1
          have hmk := hm 0 hc
          unfold markOut at hmk
          by_cases h35 : (c :: t)[0 + 1]? = some 35
          · rw [if_pos h35] at hmk; exact h0 hmk
          · rw [if_neg h35] at hmk
            have := refOut_app (c :: t) b 0 hmk
            rw [List.getElem?_append_left this.2] at e2
            exact h35 e2
        rw [charOut_no _ hno]
        simp
      rw [List.cons_append] at h0' ⊢
      rw [txt_no h0' g (by rw [List.length_append]; omega), txt_no h0 (f + 1) (by omega), txtL_fuel (f + 1) f t (by omega) (by omega)]
      have hmt : mgood t := by have := mgood_drop hm 1; simpa using this
      rw [txt_app f t b g h (by omega) (by omega) h3 hmt]
      simp
def setV : List UInt8 := [38, 37, 34, 39, 13, 10, 9]
def escV (c : UInt8) : List UInt8 := if setV.contains c = true then 38 :: 35 :: (Lib.decDigits c.toNat ++ [59]) else [c]
/-- A value of a text. -/
def putV (s : List UInt8) : List UInt8 := s.flatMap escV
theorem set_facts : ∀ c ∈ setV, isDoc (c.toNat : Int) = true ∧ c.toNat < 128 := by decide +kernel
theorem mem_set {c : UInt8} (h : setV.contains c = true) : c ∈ setV := by simpa using h
theorem esc_char {c : UInt8} (h : setV.contains c = true) (r : List UInt8) : charOut (escV c ++ r) 0 = ((c.toNat : Int), (escV c).length, 0) := by
  obtain ⟨h1, h2, h3⟩ := dec_digits c.toNat
  have e : escV c = 38 :: 35 :: (Lib.decDigits c.toNat ++ [59]) := by unfold escV; rw [if_pos h]
  have := char_num (Lib.decDigits c.toNat) r (escV c ++ r) 0 (by rw [e]; simp) h3 h1
  rw [this, h2, if_pos (set_facts c (mem_set h)).1, e]
  simp
theorem digs_no (n : Nat) : ∀ c ∈ Lib.decDigits n, 48 ≤ c.toNat ∧ c.toNat ≤ 57 := by
  induction n using Nat.strongRecOn with
  | _ n ih =>
    have key : ∀ d : Nat, d < 10 → 48 ≤ (UInt8.ofNat (48 + d)).toNat ∧ (UInt8.ofNat (48 + d)).toNat ≤ 57 := fun d hd => by
      have : (UInt8.ofNat (48 + d)).toNat = 48 + d := UInt8.toNat_ofNat_of_lt' (by show 48 + d < 256; omega)
      omega
    by_cases h : n < 10
    · rw [Lib.decDigits, dif_pos h]
      intro c hc
      rw [List.mem_singleton.1 hc]
      exact key n h
    · rw [Lib.decDigits, dif_neg h]
      intro c hc
      rcases List.mem_append.1 hc with hc | hc
      · exact ih (n / 10) (by omega) c hc
      · rw [List.mem_singleton.1 hc]
        exact key _ (by omega)
theorem esc_no (c x : UInt8) (hx : x ∈ escV c) : x = c ∧ setV.contains c = false ∨ setV.contains c = true ∧ (x = 38 ∨ x = 35 ∨ x = 59 ∨ 48 ≤ x.toNat ∧ x.toNat ≤ 57) := by
  unfold escV at hx
  split at hx
  · rename_i h
    refine Or.inr ⟨h, ?_⟩
    simp only [List.mem_cons, List.mem_append, List.not_mem_nil, or_false] at hx
    rcases hx with h1 | h1 | h1 | h1
    · exact Or.inl h1
    · exact Or.inr (Or.inl h1)
    · exact Or.inr (Or.inr (Or.inr (digs_no _ _ h1)))
    · exact Or.inr (Or.inr (Or.inl h1))
  · rename_i h
    exact Or.inl ⟨by simpa using hx, by simpa using h⟩
/-- What is put has no sign in it that would stand for something else. -/
theorem put_no (s : List UInt8) (x : UInt8) (hx : x ∈ putV s) : x ≠ 37 ∧ x ≠ 34 ∧ x ≠ 39 ∧ x ≠ 13 ∧ x ≠ 10 ∧ x ≠ 9 := by
  obtain ⟨c, _, hc⟩ := List.mem_flatMap.1 hx
  rcases esc_no c x hc with ⟨rfl, h⟩ | ⟨_, h⟩
  · refine ⟨?_, ?_, ?_, ?_, ?_, ?_⟩ <;> (intro e; subst e; revert h; decide)
  · rcases h with rfl | rfl | rfl | h
    · decide
    · decide
    · decide
    · refine ⟨?_, ?_, ?_, ?_, ?_, ?_⟩ <;> (intro e; subst e; revert h; decide)
theorem esc_mgood (c : UInt8) : mgood (escV c) := fun j hj => by
  by_cases h : setV.contains c = true
  · have e : escV c = 38 :: 35 :: (Lib.decDigits c.toNat ++ [59]) := by unfold escV; rw [if_pos h]
    have hc := esc_char h []
    rw [List.append_nil] at hc
    cases j with
    | zero =>
      unfold markOut
      rw [if_pos (by rw [e]; rfl), hc]
    | succ j =>
      exfalso
      rw [e, List.getElem?_cons_succ] at hj
      have hm := List.mem_of_getElem? hj
      simp only [List.mem_cons, List.mem_append, List.not_mem_nil, or_false] at hm
      rcases hm with h1 | h1 | h1
      · cases h1
      · have := digs_no _ _ h1
        revert this
        decide
      · cases h1
  · exfalso
    unfold escV at hj
    rw [if_neg h] at hj
    cases j with
    | zero =>
      simp at hj
      subst hj
      exact h rfl
    | succ j => simp at hj
theorem put_mgood : ∀ s : List UInt8, mgood (putV s)
  | [] => fun j hj => by simp [putV] at hj
  | c :: t => by
    have e : putV (c :: t) = escV c ++ putV t := by simp [putV]
    rw [e]
    exact mgood_app (esc_mgood c) (put_mgood t)
theorem enc_ascii (c : UInt8) (h : c.toNat < 128) : encL ((c.toNat : Int)).toNat = [c] := by
  rw [Int.toNat_natCast]
  unfold encL
  rw [if_pos h]
  simp
theorem esc_txt (c : UInt8) : (txtL (escV c).length (escV c)).1 = [c] := by
  by_cases h : setV.contains c = true
  · have hc := esc_char h []
    rw [List.append_nil] at hc
    rw [txt_ok (by rw [hc]) _ (Nat.le_refl _), hc]
    simp only [List.drop_length, txtL_nil, List.append_nil]
    exact enc_ascii c (set_facts c (mem_set h)).2
  · unfold escV
    rw [if_neg h]
    have hno : charOut [c] 0 = (0, 0, 7) := charOut_no _ (by simp)
    rw [txt_no (by rw [hno]; simp) _ (by simp), txtL_nil]
/-- .. and is read as the text. -/
theorem put_txt : ∀ (s : List UInt8) (f : Nat), (putV s).length ≤ f → (txtL f (putV s)).1 = s
  | [], f, _ => by simp [putV, txtL_nil]
  | c :: t, f, hf => by
    have e : putV (c :: t) = escV c ++ putV t := by simp [putV]
    rw [e] at hf ⊢
    rw [List.length_append] at hf
    rw [txt_app (escV c).length (escV c) (putV t) f (putV t).length (Nat.le_refl _) hf (Nat.le_refl _) (esc_mgood c)]
    simp only
    rw [esc_txt, put_txt t _ (Nat.le_refl _)]
    rfl
/-- The error of a value. -/
def checkV (s : List UInt8) : Nat := if 0 ≤ Lib.indexByte s 37 then 7 else (refsOut s).2
theorem checkV_ok {s : List UInt8} (h : checkV s = 0) : mgood s ∧ Lib.indexByte s 37 < 0 := by
  unfold checkV at h
  split at h
  · cases h
  · exact ⟨(refs_mgood s).1 h, by omega⟩
theorem checkV_of {s : List UInt8} (h1 : mgood s) (h2 : ∀ i : Nat, s[i]? ≠ some 37) : checkV s = 0 := by
  unfold checkV
  rw [if_neg (by rw [ix_eq_none 37 s h2]; omega)]
  exact (refs_mgood s).2 h1
theorem checkV_put (s : List UInt8) : checkV (putV s) = 0 := checkV_of (put_mgood s) fun i hi => (put_no s 37 (List.mem_of_getElem? hi)).1 rfl
theorem checkV_app {a b : List UInt8} (ha : checkV a = 0) (hb : checkV b = 0) : checkV (a ++ b) = 0 := by
  obtain ⟨a1, a2⟩ := checkV_ok ha
  obtain ⟨b1, b2⟩ := checkV_ok hb
  refine checkV_of (mgood_app a1 b1) fun i hi => ?_
  have hm := List.mem_of_getElem? hi
  rcases List.mem_append.1 hm with h | h
  · obtain ⟨j, hj, e⟩ := List.getElem_of_mem h
    exact ix_none 37 a a2 j (by rw [List.getElem?_eq_getElem hj, e])
  · obtain ⟨j, hj, e⟩ := List.getElem_of_mem h
    exact ix_none 37 b b2 j (by rw [List.getElem?_eq_getElem hj, e])
end Go.Proofs.YtpblphddpcogcaaDoor
