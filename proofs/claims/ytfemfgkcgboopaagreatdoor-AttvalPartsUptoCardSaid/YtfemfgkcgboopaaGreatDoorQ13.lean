/- Texts of ours, joined: Enc, Enc2, Str, Pub, Blank. -/
import Derived.Test.YtfemfgkcgboopaaGreatDoorRows
import Derived.WalkKit
import Derived.ProofKit
import Derived.OpenShut
import Derived.ShutString
import Derived.ChangeOld
import Derived.Below
import Derived.BigQuiet
import Derived.Deep.QuietTactic
import Derived.Lib.Hide
import Derived.Deep.RegionHeld3
import Derived.Lib.SlBytesConst
import Derived.Laws.CopyOwn
import Derived.Laws.CopyRow
import Derived.Lib.Bytes
import Derived.Deep.LoopGhost
import Derived.Deep.DeepFit
import Derived.Deep.DeepMust
import Derived.WalkSpells
import Derived.WalkLawsBesides
import Derived.Lib.VarintBits
import Derived.Test.YtfemfgkcgboopaaGreatDoorQ1
import Derived.Test.YtfemfgkcgboopaaGreatDoorQ2
import Derived.Test.YtfemfgkcgboopaaGreatDoorQ4
import Derived.Test.YtfemfgkcgboopaaGreatDoorQ6
import Derived.Laws.MakeOwn
import Derived.Lib.ItoaNum
import Derived.Test.YtfemfgkcgboopaaGreatDoorQ3
import Derived.Test.YtfemfgkcgboopaaGreatDoorQ5
import Derived.Test.YtfemfgkcgboopaaGreatDoorQ8
import Derived.Test.YtfemfgkcgboopaaGreatDoorQ9
/- A character's bytes, of the program and of the document. -/
namespace Go.Proofs.YtfemfgkcgboopaaGreatDoor
open Go.ChangeShapes Go.WideShapes Go.ChangeAt Go.RowKit
set_option linter.unusedVariables false
theorem and63 (n : Nat) (h : n < 67108864) : bits .and .i64 (n : Int) 63 = ((n % 64 : Nat) : Int) := by
  have := bits_mask .i64 62 (by decide) (fun n h0 h1 => by rw [IntKind.wrap_i64]; omega) 6 (by decide) (n : Int) (by omega) (by omega)
  exact this.trans (by omega)
theorem or128 : ∀ x : Fin 64, bits .or .u8 128 (x.val : Int) = ((128 + x.val : Nat) : Int) := by decide +kernel
theorem or192 : ∀ x : Fin 32, bits .or .u8 192 (x.val : Int) = ((192 + x.val : Nat) : Int) := by decide +kernel
theorem or224 : ∀ x : Fin 16, bits .or .u8 224 (x.val : Int) = ((224 + x.val : Nat) : Int) := by decide +kernel
theorem or240 : ∀ x : Fin 8, bits .or .u8 240 (x.val : Int) = ((240 + x.val : Nat) : Int) := by decide +kernel
theorem or0 : ∀ x : Fin 128, bits .or .u8 0 (x.val : Int) = (x.val : Int) := by decide +kernel
/-- A character's bytes. -/
def encL (r : Nat) : List UInt8 :=
  if r < 128 then [UInt8.ofNat r]
  else if r < 2048 then [UInt8.ofNat (192 + r / 64), UInt8.ofNat (128 + r % 64)]
  else if r < 65536 then [UInt8.ofNat (224 + r / 4096), UInt8.ofNat (128 + r / 64 % 64), UInt8.ofNat (128 + r % 64)]
  else [UInt8.ofNat (240 + r / 262144), UInt8.ofNat (128 + r / 4096 % 64), UInt8.ofNat (128 + r / 64 % 64), UInt8.ofNat (128 + r % 64)]
theorem encL_len (r : Nat) : 0 < (encL r).length ∧ (encL r).length ≤ 4 := by
  unfold encL
  split
  · simp
  · split
    · simp
    · split <;> simp
theorem bv_nat (k : Nat) (h : k < 256) : bv (UInt8.ofNat k) = .int .u8 (k : Int) := by
  unfold bv
  rw [UInt8.toNat_ofNat_of_lt' (by show k < 256; exact h)]
theorem byt_cells (w : World) (B g : Nat) (l : List UInt8) (hg : w.heap[g]? = some (.cells (l.map bv).toArray 5)) (hB : g < B) (hl : l.length ≤ 1000000) : Byt w B (some ⟨g, 0, none⟩) l.length l.length l :=
  ⟨by simp, Nat.le_refl _, by unfold maxLen; omega, (fun e => by cases e), fun _ => ⟨g, 0, rfl, hB, fun i u hu => by
    rw [Nat.zero_add, cell_of _ hg, List.getElem?_toArray]; exact hu⟩⟩
/-- The document's bytes of a character. -/
def EncP (l : List UInt8) (w : World) (e : Ending) (w' : World) (f : Value → Value) : Prop :=
  ∃ g, e = .returned (f (.slice (some ⟨g, 0, none⟩) l.length l.length)) ∧ w.heap.size ≤ g ∧ w'.heap[g]? = some (.cells (l.map bv).toArray 5) ∧ Below w.heap.size w w'
theorem encL_1 (r : Nat) (h : r < 128) : encL r = [UInt8.ofNat (r)] := by
  unfold encL
  rw [if_pos (by omega)]
theorem encV_1 (r : Nat) (h : r < 128) : ((encL r).map bv).toArray = #[.int .u8 ((r : Nat) : Int)] := by
  rw [encL_1 r h]
  simp only [List.map_cons, List.map_nil, bv_nat (r) (by omega)]
theorem encL_2 (r : Nat) (h : 128 ≤ r ∧ r < 2048) : encL r = [UInt8.ofNat (192 + r / 64), UInt8.ofNat (128 + r % 64)] := by
  unfold encL
  rw [if_neg (by omega)]
  rw [if_pos (by omega)]
theorem encV_2 (r : Nat) (h : 128 ≤ r ∧ r < 2048) : ((encL r).map bv).toArray = #[.int .u8 ((192 + r / 64 : Nat) : Int), .int .u8 ((128 + r % 64 : Nat) : Int)] := by
  rw [encL_2 r h]
  simp only [List.map_cons, List.map_nil, bv_nat (192 + r / 64) (by omega), bv_nat (128 + r % 64) (by omega)]
theorem encL_3 (r : Nat) (h : 2048 ≤ r ∧ r < 65536) : encL r = [UInt8.ofNat (224 + r / 4096), UInt8.ofNat (128 + r / 64 % 64), UInt8.ofNat (128 + r % 64)] := by
  unfold encL
  rw [if_neg (by omega)]
  rw [if_neg (by omega)]
  rw [if_pos (by omega)]
theorem encV_3 (r : Nat) (h : 2048 ≤ r ∧ r < 65536) : ((encL r).map bv).toArray = #[.int .u8 ((224 + r / 4096 : Nat) : Int), .int .u8 ((128 + r / 64 % 64 : Nat) : Int), .int .u8 ((128 + r % 64 : Nat) : Int)] := by
  rw [encL_3 r h]
  simp only [List.map_cons, List.map_nil, bv_nat (224 + r / 4096) (by omega), bv_nat (128 + r / 64 % 64) (by omega), bv_nat (128 + r % 64) (by omega)]
theorem encL_4 (r : Nat) (h : 65536 ≤ r ∧ r ≤ 1114111) : encL r = [UInt8.ofNat (240 + r / 262144), UInt8.ofNat (128 + r / 4096 % 64), UInt8.ofNat (128 + r / 64 % 64), UInt8.ofNat (128 + r % 64)] := by
  unfold encL
  rw [if_neg (by omega)]
  rw [if_neg (by omega)]
  rw [if_neg (by omega)]
theorem encV_4 (r : Nat) (h : 65536 ≤ r ∧ r ≤ 1114111) : ((encL r).map bv).toArray = #[.int .u8 ((240 + r / 262144 : Nat) : Int), .int .u8 ((128 + r / 4096 % 64 : Nat) : Int), .int .u8 ((128 + r / 64 % 64 : Nat) : Int), .int .u8 ((128 + r % 64 : Nat) : Int)] := by
  rw [encL_4 r h]
  simp only [List.map_cons, List.map_nil, bv_nat (240 + r / 262144) (by omega), bv_nat (128 + r / 4096 % 64) (by omega), bv_nat (128 + r / 64 % 64) (by omega), bv_nat (128 + r % 64) (by omega)]
set_option maxRecDepth 100000 in
set_option maxHeartbeats 4000000 in
theorem utfBytes_c (r : Nat) (w : World) (h1 : r ≤ 1114111) : Calls Tryz.prog 53 #[.int .i64 r] w fun e w' => EncP (encL r) w e w' id := by
  have hB : ∀ o : Obj, Below w.heap.size w (w.alloc o) := fun o => Below.alloc (Below.refl _ _) (Nat.le_refl _) o
  have HAL := Lib.hid hB
  clear hB
  by_cases c1 : r < 128
  · have hc : r < 128 := by omega
    have HV := Lib.hid (encV_1 r hc)
    have HL : Hid ((encL r).length = 1) := Lib.hid (by rw [encL_1 r hc]; rfl)
    have a0 : (r : Int) < 128 := by omega
    go_enter Tryz.func53, Tryz.ntmps53
    go_wp2
    go_ret
    refine ⟨w.heap.size, ?_, Nat.le_refl _, ?_, HAL.out _⟩
    · rw [HL.out]; rfl
    · rw [hp_new, HV.out] <;> (try simp) <;> (try omega)
  by_cases c2 : r < 2048
  · have hc : 128 ≤ r ∧ r < 2048 := by omega
    have HV := Lib.hid (encV_2 r hc)
    have HL : Hid ((encL r).length = 2) := Lib.hid (by rw [encL_2 r hc]; rfl)
    have a0 : ¬ (r : Int) < 128 := by omega
    have a1 : (r : Int) < 2048 := by omega
    go_enter Tryz.func53, Tryz.ntmps53
    go_wp2
    go_ret
    refine ⟨w.heap.size, ?_, Nat.le_refl _, ?_, HAL.out _⟩
    · rw [HL.out]; rfl
    · rw [hp_new, HV.out] <;> (try simp) <;> (try omega)
  by_cases c3 : r < 65536
  · have hc : 2048 ≤ r ∧ r < 65536 := by omega
    have HV := Lib.hid (encV_3 r hc)
    have HL : Hid ((encL r).length = 3) := Lib.hid (by rw [encL_3 r hc]; rfl)
    have a0 : ¬ (r : Int) < 128 := by omega
    have a1 : ¬ (r : Int) < 2048 := by omega
    have a2 : (r : Int) < 65536 := by omega
    go_enter Tryz.func53, Tryz.ntmps53
    go_wp2
    go_ret
    refine ⟨w.heap.size, ?_, Nat.le_refl _, ?_, HAL.out _⟩
    · rw [HL.out]; rfl
    · rw [hp_new, HV.out] <;> (try simp) <;> (try omega)
  have hc : 65536 ≤ r ∧ r ≤ 1114111 := by omega
  have HV := Lib.hid (encV_4 r hc)
  have HL : Hid ((encL r).length = 4) := Lib.hid (by rw [encL_4 r hc]; rfl)
  have a0 : ¬ (r : Int) < 128 := by omega
  have a1 : ¬ (r : Int) < 2048 := by omega
  have a2 : ¬ (r : Int) < 65536 := by omega
  go_enter Tryz.func53, Tryz.ntmps53
  go_wp2
  go_ret
  refine ⟨w.heap.size, ?_, Nat.le_refl _, ?_, HAL.out _⟩
  · rw [HL.out]; rfl
  · rw [hp_new, HV.out] <;> (try simp) <;> (try omega)
set_option maxRecDepth 100000 in
set_option maxHeartbeats 4000000 in
theorem utfSize_c (r : Nat) (w : World) (hF : Forms w) (h1 : r ≤ 1114111) : Calls Tryz.prog 91 #[.int .i64 r] w fun e w' => e = .returned (.int .i64 ((encL r).length : Nat)) ∧ w = w' := by
  have f8 := hF 8 _ rfl
  have f11 := hF 11 _ rfl
  have f14 := hF 14 _ rfl
  clear hF
  by_cases c1 : r < 128
  · have hc : r < 128 := by omega
    rw [show (encL r).length = 1 by rw [encL_1 r hc]; rfl]
    have a0 : decide ((r : Int) < 128) = true := by simp; omega
    have a1 : decide ((r : Int) < 2048) = true := by simp; omega
    have a2 : decide ((r : Int) < 65536) = true := by simp; omega
    clear hc h1 c1
    go_enter Tryz.func91, Tryz.ntmps91
    go_wp2_with fail
    refine wp_loop_rounds 4 ?_
    rw [rounds_succ]
    go_wp2
    rw [rounds_succ]
    go_wp2
    rw [rounds_succ]
    go_wp2
    rw [rounds_succ]
    go_wp2
    go_ret
    exact ⟨rfl, rfl⟩
  by_cases c2 : r < 2048
  · have hc : 128 ≤ r ∧ r < 2048 := by omega
    rw [show (encL r).length = 2 by rw [encL_2 r hc]; rfl]
    have a0 : decide ((r : Int) < 128) = false := by simp; omega
    have a1 : decide ((r : Int) < 2048) = true := by simp; omega
    have a2 : decide ((r : Int) < 65536) = true := by simp; omega
    clear hc h1 c1 c2
    go_enter Tryz.func91, Tryz.ntmps91
    go_wp2_with fail
    refine wp_loop_rounds 4 ?_
    rw [rounds_succ]
    go_wp2
    rw [rounds_succ]
    go_wp2
    rw [rounds_succ]
    go_wp2
    go_ret
    exact ⟨rfl, rfl⟩
  by_cases c3 : r < 65536
  · have hc : 2048 ≤ r ∧ r < 65536 := by omega
    rw [show (encL r).length = 3 by rw [encL_3 r hc]; rfl]
    have a0 : decide ((r : Int) < 128) = false := by simp; omega
    have a1 : decide ((r : Int) < 2048) = false := by simp; omega
    have a2 : decide ((r : Int) < 65536) = true := by simp; omega
    clear hc h1 c1 c2 c3
    go_enter Tryz.func91, Tryz.ntmps91
    go_wp2_with fail
    refine wp_loop_rounds 4 ?_
    rw [rounds_succ]
    go_wp2
    rw [rounds_succ]
    go_wp2
    go_ret
    exact ⟨rfl, rfl⟩
  have hc : 65536 ≤ r ∧ r ≤ 1114111 := by omega
  rw [show (encL r).length = 4 by rw [encL_4 r hc]; rfl]
  have a0 : decide ((r : Int) < 128) = false := by simp; omega
  have a1 : decide ((r : Int) < 2048) = false := by simp; omega
  have a2 : decide ((r : Int) < 65536) = false := by simp; omega
  clear hc h1 c1 c2 c3
  go_enter Tryz.func91, Tryz.ntmps91
  go_wp2_with fail
  refine wp_loop_rounds 4 ?_
  rw [rounds_succ]
  go_wp2
  go_ret
  exact ⟨rfl, rfl⟩
end Go.Proofs.YtfemfgkcgboopaaGreatDoor
/- utf.Encode. -/
namespace Go.Proofs.YtfemfgkcgboopaaGreatDoor
open Go.ChangeShapes Go.WideShapes Go.ChangeAt Go.RowKit
set_option linter.unusedVariables false
theorem wpList_shr {P : Program} {ops : Array Oper} {rest : List Oper} {o : Oper} {a : Act} {Q : Exit → Act → World → Prop} {w : World} (hgd : o.guard = none) (x y : Operand) (t u : TypeId) (ho : o.op = .binOp .shr t x y u) (m : Int)
    (hx : a.eval x = .int .i64 m) (hy : a.eval y = .int .u64 6) (h : wpList P ops Q rest (a.put o.dst (.int .i64 (m / 64))) w) : wpList P ops Q (o :: rest) a w := by
  refine wpList_plain hgd fun K' hK' => ?_
  unfold Oper.wp
  simp [execOp, ho, hx, hy, binOp_shr, shift_shr_i64, Result.andThen]
  exact hK' _ _ h
theorem mk_u8_1 (w : World) : (Instr.makeSlice 65 (.int .i64 1) (.int .i64 1)).run Tryz.prog w = .ok (.slice (some ⟨w.heap.size, 0, none⟩) 1 1) (w.alloc (.cells #[.int .u8 0] 5)) := by
  obtain ⟨i, h1, h2, h3, h4⟩ := info_u8
  have := run_makeSlice (w := w) 65 5 i (.int .u8 0) Tryz.underlying65 h1 h2 .i64 .i64 1 1 (by omega) (by omega) (by rw [h3]; decide) (by rw [h4]; decide) (by omega)
  rw [h3] at this
  rw [show madeCells (Value.int .u8 0).cells (Int.toNat 1 * 1) = #[.int .u8 0] by kernel_rfl] at this
  exact this
theorem mk_u8_2 (w : World) : (Instr.makeSlice 65 (.int .i64 2) (.int .i64 2)).run Tryz.prog w = .ok (.slice (some ⟨w.heap.size, 0, none⟩) 2 2) (w.alloc (.cells #[.int .u8 0, .int .u8 0] 5)) := by
  obtain ⟨i, h1, h2, h3, h4⟩ := info_u8
  have := run_makeSlice (w := w) 65 5 i (.int .u8 0) Tryz.underlying65 h1 h2 .i64 .i64 2 2 (by omega) (by omega) (by rw [h3]; decide) (by rw [h4]; decide) (by omega)
  rw [h3] at this
  rw [show madeCells (Value.int .u8 0).cells (Int.toNat 2 * 1) = #[.int .u8 0, .int .u8 0] by kernel_rfl] at this
  exact this
theorem mk_u8_3 (w : World) : (Instr.makeSlice 65 (.int .i64 3) (.int .i64 3)).run Tryz.prog w = .ok (.slice (some ⟨w.heap.size, 0, none⟩) 3 3) (w.alloc (.cells #[.int .u8 0, .int .u8 0, .int .u8 0] 5)) := by
  obtain ⟨i, h1, h2, h3, h4⟩ := info_u8
  have := run_makeSlice (w := w) 65 5 i (.int .u8 0) Tryz.underlying65 h1 h2 .i64 .i64 3 3 (by omega) (by omega) (by rw [h3]; decide) (by rw [h4]; decide) (by omega)
  rw [h3] at this
  rw [show madeCells (Value.int .u8 0).cells (Int.toNat 3 * 1) = #[.int .u8 0, .int .u8 0, .int .u8 0] by kernel_rfl] at this
  exact this
theorem mk_u8_4 (w : World) : (Instr.makeSlice 65 (.int .i64 4) (.int .i64 4)).run Tryz.prog w = .ok (.slice (some ⟨w.heap.size, 0, none⟩) 4 4) (w.alloc (.cells #[.int .u8 0, .int .u8 0, .int .u8 0, .int .u8 0] 5)) := by
  obtain ⟨i, h1, h2, h3, h4⟩ := info_u8
  have := run_makeSlice (w := w) 65 5 i (.int .u8 0) Tryz.underlying65 h1 h2 .i64 .i64 4 4 (by omega) (by omega) (by rw [h3]; decide) (by rw [h4]; decide) (by omega)
  rw [h3] at this
  rw [show madeCells (Value.int .u8 0).cells (Int.toNat 4 * 1) = #[.int .u8 0, .int .u8 0, .int .u8 0, .int .u8 0] by kernel_rfl] at this
  exact this
set_option maxRecDepth 100000 in
set_option maxHeartbeats 4000000 in
theorem utfEncode_c (r : Nat) (w : World) (hF : Forms w) (h1 : r ≤ 1114111) (hr : isR (r : Int) = true) : Calls Tryz.prog 67 #[.int .i64 r] w fun e w' => EncP (encL r) w e w' fun v => .tuple #[v, .int .i64 0] := by
  have CI : Hid (∀ W, Calls Tryz.prog 90 #[.int .i64 r] W fun e w' => e = .returned (.bool true) ∧ W = w') := Lib.hid fun W => by have := utfIs_c r W; rwa [hr] at this
  have CS := Lib.hid (utfSize_c r w hF h1)
  have HF := Lib.hid hF
  clear hF hr
  by_cases c1 : r < 128
  · have hc : r < 128 := by omega
    have hl : (encL r).length = 1 := by rw [encL_1 r hc]; rfl
    have HV := Lib.hid (encV_1 r hc)
    have HL := Lib.hid hl
    rw [hl] at CS
    have f0 : ∀ C : Array Value, (w.alloc (.cells C 5)).cell? ⟨0, 3, none⟩ = some (.int .u8 0) := fun C => by
      rw [((Below.refl w.heap.size w).alloc (Nat.le_refl _) _).cell HF.out.lt]; exact HF.out 3 _ rfl
    have om : bits .or .u8 0 ((r : Int)) = (r : Int) := by have := or0 ⟨r, by omega⟩; simp only at this; rw [show ((r : Nat) : Int) = (r : Int) by omega] at this; rw [this] <;> omega
    have hb : 0 ≤ (r : Int) ∧ (r : Int) < 256 := by omega
    obtain ⟨ha1, ha2⟩ := hb
    clear hc h1 c1 hl
    have mk := mk_u8_1 w
    go_enter Tryz.func67, Tryz.ntmps67
    go_wp2_with fail
    refine (CI.out _).mono ?_
    rintro e wq ⟨rfl, rfl⟩
    go_wp2_with fail
    refine CS.out.mono ?_
    rintro e wq ⟨rfl, rfl⟩
    go_wp2
    refine wp_loop_rounds 5 ?_
    rw [rounds_succ]
    go_wp2
    go_ret2
    refine ⟨w.heap.size, ?_, Nat.le_refl _, ?_, (Below.refl w.heap.size w).alloc (Nat.le_refl _) _⟩
    · rw [HL.out]; rfl
    · rw [hp_new, HV.out] <;> (try simp) <;> (try omega)
  by_cases c2 : r < 2048
  · have hc : 128 ≤ r ∧ r < 2048 := by omega
    have hl : (encL r).length = 2 := by rw [encL_2 r hc]; rfl
    have HV := Lib.hid (encV_2 r hc)
    have HL := Lib.hid hl
    rw [hl] at CS
    have f0 : ∀ C : Array Value, (w.alloc (.cells C 5)).cell? ⟨0, 6, none⟩ = some (.int .u8 192) := fun C => by
      rw [((Below.refl w.heap.size w).alloc (Nat.le_refl _) _).cell HF.out.lt]; exact HF.out 6 _ rfl
    have n0 : bits .and .i64 ((r : Int)) 63 = ((r : Int)) % 64 := by have := and63 (r) (by omega); rw [show ((r : Nat) : Int) = (r : Int) by omega] at this; rw [this] <;> omega
    have o0 : bits .or .u8 128 (((r : Int)) % 64) = 128 + ((r : Int)) % 64 := by have := or128 ⟨r % 64, by omega⟩; simp only at this; rw [show ((r % 64 : Nat) : Int) = ((r : Int)) % 64 by omega] at this; rw [this] <;> omega
    have p0 : 0 ≤ ((r : Int)) % 64 ∧ ((r : Int)) % 64 < 64 := by omega
    have om : bits .or .u8 192 ((r : Int) / 64) = 192 + (r : Int) / 64 := by have := or192 ⟨r / 64, by omega⟩; simp only at this; rw [show ((r / 64 : Nat) : Int) = (r : Int) / 64 by omega] at this; rw [this] <;> omega
    have hb : 0 ≤ (r : Int) / 64 ∧ (r : Int) / 64 < 256 := by omega
    obtain ⟨pa0, pb0⟩ := p0
    obtain ⟨ha1, ha2⟩ := hb
    clear hc h1 c1 c2 hl
    have mk := mk_u8_2 w
    go_enter Tryz.func67, Tryz.ntmps67
    go_wp2_with fail
    refine (CI.out _).mono ?_
    rintro e wq ⟨rfl, rfl⟩
    go_wp2_with fail
    refine CS.out.mono ?_
    rintro e wq ⟨rfl, rfl⟩
    go_wp2
    refine wp_loop_rounds 5 ?_
    rw [rounds_succ]
    go_wp2_with (refine wpList_shr rfl _ _ _ _ rfl _ rfl rfl ?_)
    (try dsimp only [Act.put])
    (try simp only [List.setIfInBounds_toArray, List.set_cons_succ, List.set_cons_zero])
    go_wp2
    rw [rounds_succ]
    go_wp2
    go_ret2
    refine ⟨w.heap.size, ?_, Nat.le_refl _, ?_, (Below.refl w.heap.size w).alloc (Nat.le_refl _) _⟩
    · rw [HL.out]; rfl
    · rw [hp_new, HV.out] <;> (try simp) <;> (try omega)
  by_cases c3 : r < 65536
  · have hc : 2048 ≤ r ∧ r < 65536 := by omega
    have hl : (encL r).length = 3 := by rw [encL_3 r hc]; rfl
    have HV := Lib.hid (encV_3 r hc)
    have HL := Lib.hid hl
    rw [hl] at CS
    have f0 : ∀ C : Array Value, (w.alloc (.cells C 5)).cell? ⟨0, 9, none⟩ = some (.int .u8 224) := fun C => by
      rw [((Below.refl w.heap.size w).alloc (Nat.le_refl _) _).cell HF.out.lt]; exact HF.out 9 _ rfl
    have n0 : bits .and .i64 ((r : Int)) 63 = ((r : Int)) % 64 := by have := and63 (r) (by omega); rw [show ((r : Nat) : Int) = (r : Int) by omega] at this; rw [this] <;> omega
    have o0 : bits .or .u8 128 (((r : Int)) % 64) = 128 + ((r : Int)) % 64 := by have := or128 ⟨r % 64, by omega⟩; simp only at this; rw [show ((r % 64 : Nat) : Int) = ((r : Int)) % 64 by omega] at this; rw [this] <;> omega
    have p0 : 0 ≤ ((r : Int)) % 64 ∧ ((r : Int)) % 64 < 64 := by omega
    have n1 : bits .and .i64 ((r : Int) / 64) 63 = ((r : Int) / 64) % 64 := by have := and63 (r / 64) (by omega); rw [show ((r / 64 : Nat) : Int) = (r : Int) / 64 by omega] at this; rw [this] <;> omega
    have o1 : bits .or .u8 128 (((r : Int) / 64) % 64) = 128 + ((r : Int) / 64) % 64 := by have := or128 ⟨r / 64 % 64, by omega⟩; simp only at this; rw [show ((r / 64 % 64 : Nat) : Int) = ((r : Int) / 64) % 64 by omega] at this; rw [this] <;> omega
    have p1 : 0 ≤ ((r : Int) / 64) % 64 ∧ ((r : Int) / 64) % 64 < 64 := by omega
    have om : bits .or .u8 224 ((r : Int) / 64 / 64) = 224 + (r : Int) / 64 / 64 := by have := or224 ⟨r / 4096, by omega⟩; simp only at this; rw [show ((r / 4096 : Nat) : Int) = (r : Int) / 64 / 64 by omega] at this; rw [this] <;> omega
    have hb : 0 ≤ (r : Int) / 64 / 64 ∧ (r : Int) / 64 / 64 < 256 := by omega
    obtain ⟨pa0, pb0⟩ := p0
    obtain ⟨pa1, pb1⟩ := p1
    obtain ⟨ha1, ha2⟩ := hb
    clear hc h1 c1 c2 c3 hl
    have mk := mk_u8_3 w
    go_enter Tryz.func67, Tryz.ntmps67
    go_wp2_with fail
    refine (CI.out _).mono ?_
    rintro e wq ⟨rfl, rfl⟩
    go_wp2_with fail
    refine CS.out.mono ?_
    rintro e wq ⟨rfl, rfl⟩
    go_wp2
    refine wp_loop_rounds 5 ?_
    rw [rounds_succ]
    go_wp2_with (refine wpList_shr rfl _ _ _ _ rfl _ rfl rfl ?_)
    (try dsimp only [Act.put])
    (try simp only [List.setIfInBounds_toArray, List.set_cons_succ, List.set_cons_zero])
    go_wp2
    rw [rounds_succ]
    go_wp2_with (refine wpList_shr rfl _ _ _ _ rfl _ rfl rfl ?_)
    (try dsimp only [Act.put])
    (try simp only [List.setIfInBounds_toArray, List.set_cons_succ, List.set_cons_zero])
    go_wp2
    rw [rounds_succ]
    go_wp2
    go_ret2
    refine ⟨w.heap.size, ?_, Nat.le_refl _, ?_, (Below.refl w.heap.size w).alloc (Nat.le_refl _) _⟩
    · rw [HL.out]; rfl
    · rw [hp_new, HV.out] <;> (try simp) <;> (try omega)
  have hc : 65536 ≤ r ∧ r ≤ 1114111 := by omega
  have hl : (encL r).length = 4 := by rw [encL_4 r hc]; rfl
  have HV := Lib.hid (encV_4 r hc)
  have HL := Lib.hid hl
  rw [hl] at CS
  have f0 : ∀ C : Array Value, (w.alloc (.cells C 5)).cell? ⟨0, 12, none⟩ = some (.int .u8 240) := fun C => by
    rw [((Below.refl w.heap.size w).alloc (Nat.le_refl _) _).cell HF.out.lt]; exact HF.out 12 _ rfl
  have n0 : bits .and .i64 ((r : Int)) 63 = ((r : Int)) % 64 := by have := and63 (r) (by omega); rw [show ((r : Nat) : Int) = (r : Int) by omega] at this; rw [this] <;> omega
  have o0 : bits .or .u8 128 (((r : Int)) % 64) = 128 + ((r : Int)) % 64 := by have := or128 ⟨r % 64, by omega⟩; simp only at this; rw [show ((r % 64 : Nat) : Int) = ((r : Int)) % 64 by omega] at this; rw [this] <;> omega
  have p0 : 0 ≤ ((r : Int)) % 64 ∧ ((r : Int)) % 64 < 64 := by omega
  have n1 : bits .and .i64 ((r : Int) / 64) 63 = ((r : Int) / 64) % 64 := by have := and63 (r / 64) (by omega); rw [show ((r / 64 : Nat) : Int) = (r : Int) / 64 by omega] at this; rw [this] <;> omega
  have o1 : bits .or .u8 128 (((r : Int) / 64) % 64) = 128 + ((r : Int) / 64) % 64 := by have := or128 ⟨r / 64 % 64, by omega⟩; simp only at this; rw [show ((r / 64 % 64 : Nat) : Int) = ((r : Int) / 64) % 64 by omega] at this; rw [this] <;> omega
  have p1 : 0 ≤ ((r : Int) / 64) % 64 ∧ ((r : Int) / 64) % 64 < 64 := by omega
  have n2 : bits .and .i64 ((r : Int) / 64 / 64) 63 = ((r : Int) / 64 / 64) % 64 := by have := and63 (r / 4096) (by omega); rw [show ((r / 4096 : Nat) : Int) = (r : Int) / 64 / 64 by omega] at this; rw [this] <;> omega
  have o2 : bits .or .u8 128 (((r : Int) / 64 / 64) % 64) = 128 + ((r : Int) / 64 / 64) % 64 := by have := or128 ⟨r / 4096 % 64, by omega⟩; simp only at this; rw [show ((r / 4096 % 64 : Nat) : Int) = ((r : Int) / 64 / 64) % 64 by omega] at this; rw [this] <;> omega
  have p2 : 0 ≤ ((r : Int) / 64 / 64) % 64 ∧ ((r : Int) / 64 / 64) % 64 < 64 := by omega
  have om : bits .or .u8 240 ((r : Int) / 64 / 64 / 64) = 240 + (r : Int) / 64 / 64 / 64 := by have := or240 ⟨r / 262144, by omega⟩; simp only at this; rw [show ((r / 262144 : Nat) : Int) = (r : Int) / 64 / 64 / 64 by omega] at this; rw [this] <;> omega
  have hb : 0 ≤ (r : Int) / 64 / 64 / 64 ∧ (r : Int) / 64 / 64 / 64 < 256 := by omega
  obtain ⟨pa0, pb0⟩ := p0
  obtain ⟨pa1, pb1⟩ := p1
  obtain ⟨pa2, pb2⟩ := p2
  obtain ⟨ha1, ha2⟩ := hb
  clear hc h1 c1 c2 c3 hl
  have mk := mk_u8_4 w
  go_enter Tryz.func67, Tryz.ntmps67
  go_wp2_with fail
  refine (CI.out _).mono ?_
  rintro e wq ⟨rfl, rfl⟩
  go_wp2_with fail
  refine CS.out.mono ?_
  rintro e wq ⟨rfl, rfl⟩
  go_wp2
  refine wp_loop_rounds 5 ?_
  rw [rounds_succ]
  go_wp2_with (refine wpList_shr rfl _ _ _ _ rfl _ rfl rfl ?_)
  (try dsimp only [Act.put])
  (try simp only [List.setIfInBounds_toArray, List.set_cons_succ, List.set_cons_zero])
  go_wp2
  rw [rounds_succ]
  go_wp2_with (refine wpList_shr rfl _ _ _ _ rfl _ rfl rfl ?_)
  (try dsimp only [Act.put])
  (try simp only [List.setIfInBounds_toArray, List.set_cons_succ, List.set_cons_zero])
  go_wp2
  rw [rounds_succ]
  go_wp2_with (refine wpList_shr rfl _ _ _ _ rfl _ rfl rfl ?_)
  (try dsimp only [Act.put])
  (try simp only [List.setIfInBounds_toArray, List.set_cons_succ, List.set_cons_zero])
  go_wp2
  rw [rounds_succ]
  go_wp2
  go_ret2
  refine ⟨w.heap.size, ?_, Nat.le_refl _, ?_, (Below.refl w.heap.size w).alloc (Nat.le_refl _) _⟩
  · rw [HL.out]; rfl
  · rw [hp_new, HV.out] <;> (try simp) <;> (try omega)
end Go.Proofs.YtfemfgkcgboopaaGreatDoor
/- Strings: pieces; narthexref06.Digits. -/
namespace Go.Proofs.YtfemfgkcgboopaaGreatDoor
open Go.ChangeShapes Go.WideShapes Go.ChangeAt Go.RowKit
set_option linter.unusedVariables false
/-- 's[i:j]' of a string. -/
theorem run_strSlice (l : List UInt8) (i j : Nat) (h : i ≤ j) (hj : j ≤ l.length) (w : World) :
    (Instr.slice 9 (.string ⟨l.toArray⟩) (some (.int .i64 (i : Int))) (some (.int .i64 (j : Int))) none).run Tryz.prog w = .ok (.string ⟨((l.drop i).take (j - i)).toArray⟩) w := by
  have hsz : (⟨l.toArray⟩ : ByteArray).size = l.length := by simp [ByteArray.size]
  rw [run_slice_string w 9 ⟨l.toArray⟩ .i64 .i64 i j Tryz.underlying9 (by omega) (by omega) (by rw [hsz]; omega)]
  congr 2
  refine ByteArray.ext (Array.toList_inj.1 ?_)
  rw [Lib.extract_data]
  simp
/-- 's[k]' of a string. -/
theorem run_strIndex (l : List UInt8) (k : Nat) (hk : k < l.length) (w : World) :
    (Instr.index 9 (.string ⟨l.toArray⟩) (.int .i64 (k : Int))).run Tryz.prog w = .ok (.int .u8 (UInt8.toNat (l.getD k 0) : Int)) w := by
  have hsz : (⟨l.toArray⟩ : ByteArray).size = l.length := by simp [ByteArray.size]
  have hb : ((⟨l.toArray⟩ : ByteArray)[k]'(by rw [hsz]; exact hk)) = l.getD k 0 := by
    simp [ByteArray.getElem_eq_getElem_data, hk]
  rw [run_index_string (P := Tryz.prog) w 9 ⟨l.toArray⟩ .i64 (k : Int) Tryz.underlying9, dif_pos ⟨by omega, by rw [hsz]; omega⟩]
  simp only [Int.toNat_natCast, hb]
theorem run_sop {w : World} (a b : List UInt8) (h : a.length + b.length ≤ 9223372036854775807) : (Op.stringOp .add ⟨a.toArray⟩ ⟨b.toArray⟩).run Tryz.prog w = .ok (.string ⟨(a ++ b).toArray⟩) w := by
  rw [run_string_add_sum w _ _ (by simp [ByteArray.size]; omega), ByteArray.mk_append_mk]
set_option maxRecDepth 100000 in
/-- The ten digits. -/
theorem run_digitAt (d : Nat) (h : d < 10) (w : World) :
    (Instr.slice 9 (.string ⟨#[48, 49, 50, 51, 52, 53, 54, 55, 56, 57]⟩) (some (.int .i64 (d : Int))) (some (.int .i64 ((d : Int) + 1))) none).run Tryz.prog w = .ok (.string ⟨[UInt8.ofNat (48 + d)].toArray⟩) w := by
  have := run_strSlice [48, 49, 50, 51, 52, 53, 54, 55, 56, 57] d (d + 1) (by omega) (by simp; omega) w
  rw [show ((d + 1 : Nat) : Int) = (d : Int) + 1 by omega] at this
  have key : (([48, 49, 50, 51, 52, 53, 54, 55, 56, 57] : List UInt8).drop d).take (d + 1 - d) = [UInt8.ofNat (48 + d)] := by
    have : d = 0 ∨ d = 1 ∨ d = 2 ∨ d = 3 ∨ d = 4 ∨ d = 5 ∨ d = 6 ∨ d = 7 ∨ d = 8 ∨ d = 9 := by omega
    rcases this with rfl | rfl | rfl | rfl | rfl | rfl | rfl | rfl | rfl | rfl <;> decide +kernel
  rw [key] at this
  exact this
theorem decDigits_le (n : Nat) (h : n ≤ 2000000) : (Lib.decDigits n).length ≤ 7 := by
  rw [Lib.decDigits]; split
  · simp
  rw [Lib.decDigits]; split
  · simp
  rw [Lib.decDigits]; split
  · simp
  rw [Lib.decDigits]; split
  · simp
  rw [Lib.decDigits]; split
  · simp
  rw [Lib.decDigits]; split
  · simp
  rw [Lib.decDigits]; split
  · simp
  omega
set_option maxRecDepth 100000 in
set_option maxHeartbeats 2000000 in
theorem refDigits_c (n : Nat) (hn : n ≤ 2000000) (w : World) :
    Calls Tryz.prog 31 #[.int .i64 n] w fun e w' => e = .returned (.string ⟨(Lib.decDigits n).toArray⟩) ∧ w = w' := by
  have HL := Lib.hid (decDigits_le n hn)
  go_enter Tryz.func31, Tryz.ntmps31
  go_wp2
  go_loop [0, 3] (fun x s => ∃ (m : Nat) (t : List UInt8), m ≤ 2000000 ∧ x = .int .i64 m ∧ s = .string ⟨t.toArray⟩ ∧ Hid (Lib.decDigits n = Lib.decDigits m ++ t)) (fun x _ => (intOf x).toNat)
  case atStart => exact ⟨n, [], hn, rfl, rfl, Lib.hid (by simp)⟩
  case round =>
    obtain ⟨m, t, hm, rfl, rfl, hd⟩ := hrel
    have HT : Hid (t.length ≤ 7) := Lib.hid (by have := HL.out; rw [hd.out, List.length_append] at this; omega)
    have hm0 : (0 : Int) ≤ (m : Int) := by omega
    have hm1 : (m : Int) ≤ 2000000 := by omega
    by_cases h9 : 9 < m
    · have h9' : (9 : Int) < (m : Int) := by omega
      have hsl := run_digitAt (m % 10) (by omega) w
      rw [show ((m % 10 : Nat) : Int) = (m : Int) % 10 by omega] at hsl
      have hct : (Op.stringOp .add ⟨#[UInt8.ofNat (48 + m % 10)]⟩ ⟨t.toArray⟩).run Tryz.prog w = .ok (.string ⟨(UInt8.ofNat (48 + m % 10) :: t).toArray⟩) w := run_sop (w := w) [UInt8.ofNat (48 + m % 10)] t (by have := HT.out; simp; omega)
      have HD : Hid (Lib.decDigits n = Lib.decDigits (m / 10) ++ (UInt8.ofNat (48 + m % 10) :: t)) := Lib.hid (by
        rw [hd.out, Lib.decDigits, dif_neg (by omega)]; simp)
      generalize UInt8.ofNat (48 + m % 10) = u at *
      go_wp2
      go_round
      case rel => exact ⟨m / 10, u :: t, by omega, by go_num, rfl, HD⟩
      case measure => simp [intOf]; omega
    · have h9' : ¬ (9 : Int) < (m : Int) := by omega
      have hsl := run_digitAt m (by omega) w
      have hct : (Op.stringOp .add ⟨#[UInt8.ofNat (48 + m)]⟩ ⟨t.toArray⟩).run Tryz.prog w = .ok (.string ⟨(UInt8.ofNat (48 + m) :: t).toArray⟩) w := run_sop (w := w) [UInt8.ofNat (48 + m)] t (by have := HT.out; simp; omega)
      have HD : Hid (Lib.decDigits n = [UInt8.ofNat (48 + m)] ++ t) := Lib.hid (by
        rw [hd.out, Lib.decDigits, dif_pos (by omega)])
      generalize UInt8.ofNat (48 + m) = u at *
      go_wp2
      go_ret
      exact ⟨by rw [HD.out]; rfl, rfl⟩
end Go.Proofs.YtfemfgkcgboopaaGreatDoor
/- Characters of public identifiers; classes. -/
namespace Go.Proofs.YtfemfgkcgboopaaGreatDoor
open Go.ChangeShapes Go.WideShapes Go.ChangeAt Go.RowKit
set_option linter.unusedVariables false
def isBlank (r : Int) : Bool := r == 32 || r == 9 || r == 13 || r == 10
set_option maxRecDepth 100000 in
set_option maxHeartbeats 4000000 in
theorem refBlank_c (r : Int) (w : World) : Calls Tryz.prog 33 #[.int .i64 r] w fun e w' => e = .returned (.bool (isBlank r)) ∧ w = w' := by
  rcases (show (r = 32) ∨ (r = 9) ∨ (r = 13) ∨ (r = 10) ∨ (r ≤ 8) ∨ (11 ≤ r ∧ r ≤ 12) ∨ (14 ≤ r ∧ r ≤ 31) ∨ (33 ≤ r) by omega) with h | h | h | h | h | h | h | h
  · have a0 : (r == 32) = true := by simp; omega
    have a1 : (r == 9) = false := by simp; omega
    have a2 : (r == 13) = false := by simp; omega
    have a3 : (r == 10) = false := by simp; omega
    have e : isBlank r = true := by unfold isBlank; rw [a0, a1, a2, a3]; rfl
    rw [e]
    clear e h
    go_enter Tryz.func33, Tryz.ntmps33
    go_wp2
    go_ret
    exact ⟨rfl, rfl⟩
  · have a0 : (r == 32) = false := by simp; omega
    have a1 : (r == 9) = true := by simp; omega
    have a2 : (r == 13) = false := by simp; omega
    have a3 : (r == 10) = false := by simp; omega
    have e : isBlank r = true := by unfold isBlank; rw [a0, a1, a2, a3]; rfl
    rw [e]
    clear e h
    go_enter Tryz.func33, Tryz.ntmps33
    go_wp2
    go_ret
    exact ⟨rfl, rfl⟩
  · have a0 : (r == 32) = false := by simp; omega
    have a1 : (r == 9) = false := by simp; omega
    have a2 : (r == 13) = true := by simp; omega
    have a3 : (r == 10) = false := by simp; omega
    have e : isBlank r = true := by unfold isBlank; rw [a0, a1, a2, a3]; rfl
    rw [e]
    clear e h
    go_enter Tryz.func33, Tryz.ntmps33
    go_wp2
    go_ret
    exact ⟨rfl, rfl⟩
  · have a0 : (r == 32) = false := by simp; omega
    have a1 : (r == 9) = false := by simp; omega
    have a2 : (r == 13) = false := by simp; omega
    have a3 : (r == 10) = true := by simp; omega
    have e : isBlank r = true := by unfold isBlank; rw [a0, a1, a2, a3]; rfl
    rw [e]
    clear e h
    go_enter Tryz.func33, Tryz.ntmps33
    go_wp2
    go_ret
    exact ⟨rfl, rfl⟩
  · have a0 : (r == 32) = false := by simp; omega
    have a1 : (r == 9) = false := by simp; omega
    have a2 : (r == 13) = false := by simp; omega
    have a3 : (r == 10) = false := by simp; omega
    have e : isBlank r = false := by unfold isBlank; rw [a0, a1, a2, a3]; rfl
    rw [e]
    clear e h
    go_enter Tryz.func33, Tryz.ntmps33
    go_wp2
    go_ret
    exact ⟨rfl, rfl⟩
  · have a0 : (r == 32) = false := by simp; omega
    have a1 : (r == 9) = false := by simp; omega
    have a2 : (r == 13) = false := by simp; omega
    have a3 : (r == 10) = false := by simp; omega
    have e : isBlank r = false := by unfold isBlank; rw [a0, a1, a2, a3]; rfl
    rw [e]
    clear e h
    go_enter Tryz.func33, Tryz.ntmps33
    go_wp2
    go_ret
    exact ⟨rfl, rfl⟩
  · have a0 : (r == 32) = false := by simp; omega
    have a1 : (r == 9) = false := by simp; omega
    have a2 : (r == 13) = false := by simp; omega
    have a3 : (r == 10) = false := by simp; omega
    have e : isBlank r = false := by unfold isBlank; rw [a0, a1, a2, a3]; rfl
    rw [e]
    clear e h
    go_enter Tryz.func33, Tryz.ntmps33
    go_wp2
    go_ret
    exact ⟨rfl, rfl⟩
  · have a0 : (r == 32) = false := by simp; omega
    have a1 : (r == 9) = false := by simp; omega
    have a2 : (r == 13) = false := by simp; omega
    have a3 : (r == 10) = false := by simp; omega
    have e : isBlank r = false := by unfold isBlank; rw [a0, a1, a2, a3]; rfl
    rw [e]
    clear e h
    go_enter Tryz.func33, Tryz.ntmps33
    go_wp2
    go_ret
    exact ⟨rfl, rfl⟩
end Go.Proofs.YtfemfgkcgboopaaGreatDoor
/- Blanks. -/
namespace Go.Proofs.YtfemfgkcgboopaaGreatDoor
open Go.ChangeShapes Go.WideShapes Go.ChangeAt Go.RowKit
set_option linter.unusedVariables false
def isBl (c : UInt8) : Bool := isBlank (c.toNat : Int)
set_option maxRecDepth 100000 in
set_option maxHeartbeats 4000000 in
theorem blank_c (r : Int) (w : World) : Calls Tryz.prog 32 #[.int .i64 r] w fun e w' => e = .returned (.bool (isBlank r)) ∧ w = w' := by
  rcases (show (r = 32) ∨ (r = 9) ∨ (r = 13) ∨ (r = 10) ∨ (r ≠ 32 ∧ r ≠ 9 ∧ r ≠ 13 ∧ r ≠ 10) by omega) with h | h | h | h | h
  all_goals
    first
    | (subst h
       go_enter Tryz.func32, Tryz.ntmps32
       go_wp2
       go_ret
       exact ⟨rfl, rfl⟩)
    | (have a0 : (r == 32) = false := by simp; omega
       have a1 : (r == 9) = false := by simp; omega
       have a2 : (r == 13) = false := by simp; omega
       have a3 : (r == 10) = false := by simp; omega
       have e : isBlank r = false := by unfold isBlank; rw [a0, a1, a2, a3]; rfl
       rw [e]
       clear e h
       go_enter Tryz.func32, Tryz.ntmps32
       go_wp2
       go_ret
       exact ⟨rfl, rfl⟩)
end Go.Proofs.YtfemfgkcgboopaaGreatDoor
