/- Texts of ours, joined: RpH. -/
import Derived.Test.YtocbofeanfdggaaDoorRows
import Derived.WalkKit
import Derived.ProofKit
import Derived.OpenShut
import Derived.ShutString
import Derived.ChangeOld
import Derived.Below
import Derived.BigQuiet
import Derived.Deep.QuietTactic
import Derived.Lib.Hide
import Derived.Deep.RegionHeld3
import Derived.Lib.SlBytesConst
import Derived.Laws.CopyOwn
import Derived.Laws.CopyRow
import Derived.Lib.Bytes
import Derived.Deep.LoopGhost
import Derived.Deep.DeepFit
import Derived.Deep.DeepMust
import Derived.WalkSpells
import Derived.WalkLawsBesides
import Derived.Laws.EntriesVeiled
import Derived.Laws.Rows
import Derived.Deep.RegionWith
import Derived.Lib.ItoaNum
import Derived.Lib.AppendIntMem
import Derived.Test.YtocbofeanfdggaaDoorS1
import Derived.Test.YtocbofeanfdggaaDoorS2
import Derived.Test.YtocbofeanfdggaaDoorS3
import Derived.Test.YtocbofeanfdggaaDoorS5
import Derived.Test.YtocbofeanfdggaaDoorS6
import Derived.Test.YtocbofeanfdggaaDoorS7
import Derived.Test.YtocbofeanfdggaaDoorS8
import Derived.Test.YtocbofeanfdggaaDoorS9
import Derived.Test.YtocbofeanfdggaaDoorS10
import Derived.Test.YtocbofeanfdggaaDoorS11
import Derived.Test.YtocbofeanfdggaaDoorS12
/- Lines of a result (plain). -/
namespace Go.Proofs.YtocbofeanfdggaaDoor
open Go.ChangeShapes Go.WideShapes Go.ChangeAt Go.RowKit
set_option linter.unusedVariables false
theorem TabIs_below44 {w w' : World} {name : String} {k : IntKind} {zs : List Int} (h : Lib.TabIs Tryd.prog w name k zs) (hb : Below w.heap.size w w') : Lib.TabIs Tryd.prog w' name k zs := by
  unfold Lib.TabIs World.var? at *
  obtain ⟨g, hg, h⟩ := Option.bind_eq_some_iff.1 h
  rw [hg, Option.bind_some]
  cases ho : w.heap[g]? with
  | none => rw [ho] at h; cases h
  | some o =>
    rw [hb.block g (lt_of ho), ho]
    rw [ho] at h
    exact h
theorem grow_below44 {w w' : World} (h : ∃ k os, w' = Sort.grow (w.drewN k) os) : Below w.heap.size w w' := by
  obtain ⟨k, os, rfl⟩ := h
  exact Lib.below_grow _ w (Nat.le_refl _) k os
def cSt (s : List UInt8) : List Value := [.string ⟨s.toArray⟩]
/-- What is asked of the world where results are told. -/
structure W44 (w : World) : Prop where
  cls : TabS w 0 classL
  wrd : TabS w 1 wordL
  pow : Lib.TabIs Tryd.prog w "internal/strconv.uint64pow10" .u64 Lib.pow10Tab
theorem W44.below {w w' : World} (h : W44 w) (hb : Below w.heap.size w w') : W44 w' := ⟨h.cls.below hb (h.cls.lt (by decide)), h.wrd.below hb (h.wrd.lt (by decide)), TabIs_below44 h.pow hb⟩
theorem join_three (a b c : List UInt8) : joinB [a, b, c] = a ++ [32] ++ b ++ [32] ++ c := by simp [joinB]
theorem evs_le9 {vs : List EvV} (h : ∀ v ∈ vs, EvLe 5000 v ∧ v.e.ats.length = v.n) (hn : vs.length ≤ 100) (t : Nat) : ((vs.take t).flatMap evS).length ≤ 60000000000 := by
  have g1 := evs_le (vs.take t) fun v hv => h v (List.mem_of_mem_take hv)
  have g2 : (vs.take t).length ≤ 100 := by rw [List.length_take]; omega
  have g3 : (vs.take t).length * 600000000 ≤ 100 * 600000000 := Nat.mul_le_mul_right _ g2
  omega
theorem fets_le9 {ss : List (List UInt8)} (h : ∀ s ∈ ss, s.length ≤ 200) (hn : ss.length ≤ 30) (t : Nat) : ((ss.take t).flatMap fetL).length ≤ 60000 := by
  have g1 := fets_le (ss.take t) fun v hv => h v (List.mem_of_mem_take hv)
  have g2 : (ss.take t).length ≤ 30 := by rw [List.length_take]; omega
  have g3 : (ss.take t).length * 2000 ≤ 30 * 2000 := Nat.mul_le_mul_right _ g2
  omega
theorem resL_le (c e : Int) : (resL c e).length ≤ 60 := by
  have h1 := ofL_class_le c
  have h2 := ofL_word_le e
  unfold resL
  simp only [List.length_append, List.length_cons, List.length_nil]
  omega
theorem numL_le (j : Nat) (z : Int) (h1 : -9223372036854775808 ≤ z) (h2 : z ≤ 9223372036854775807) : (numL j z).length ≤ 40 := by
  have h := itoa_len z h1 h2
  unfold numL
  repeat' split
  all_goals
    simp only [List.length_append, List.length_cons, List.length_nil]
    omega
/-- A number that an int can be. -/
def I64 (z : Int) : Prop := -9223372036854775808 ≤ z ∧ z ≤ 9223372036854775807
/-- The first t of four numbers' lines. -/
def numsT (z0 z1 z2 z3 : Int) : Nat → List UInt8
  | 0 => []
  | 1 => numL 0 z0
  | 2 => numL 0 z0 ++ numL 1 z1
  | 3 => numL 0 z0 ++ numL 1 z1 ++ numL 2 z2
  | _ => numL 0 z0 ++ numL 1 z1 ++ numL 2 z2 ++ numL 3 z3
theorem numsT_le (z0 z1 z2 z3 : Int) (h0 : I64 z0) (h1 : I64 z1) (h2 : I64 z2) (h3 : I64 z3) (t : Nat) : (numsT z0 z1 z2 z3 t).length ≤ 200 := by
  have a0 := numL_le 0 z0 h0.1 h0.2
  have a1 := numL_le 1 z1 h1.1 h1.2
  have a2 := numL_le 2 z2 h2.1 h2.2
  have a3 := numL_le 3 z3 h3.1 h3.2
  unfold numsT
  split
  all_goals (try simp only [List.length_append, List.length_nil])
  all_goals omega
theorem ixB0 (z0 z1 z2 z3 : Int) : ∀ w : World, (Instr.index 24 (.agg #[.int .i64 z0, .int .i64 z1, .int .i64 z2, .int .i64 z3]) (.int .i64 0)).run Tryd.prog w = .ok (.int .i64 z0) w := fun w => by kernel_rfl
theorem iyB0 : ∀ w : World, (Instr.index 66 (.agg #[.string ⟨#[114, 101, 97, 100]⟩, .string ⟨#[115, 112, 101, 110, 116]⟩, .string ⟨#[111, 117, 116]⟩, .string ⟨#[119, 111, 114, 107]⟩]) (.int .i64 0)).run Tryd.prog w = .ok (.string ⟨#[114, 101, 97, 100]⟩) w := fun w => by kernel_rfl
theorem ixB1 (z0 z1 z2 z3 : Int) : ∀ w : World, (Instr.index 24 (.agg #[.int .i64 z0, .int .i64 z1, .int .i64 z2, .int .i64 z3]) (.int .i64 1)).run Tryd.prog w = .ok (.int .i64 z1) w := fun w => by kernel_rfl
theorem iyB1 : ∀ w : World, (Instr.index 66 (.agg #[.string ⟨#[114, 101, 97, 100]⟩, .string ⟨#[115, 112, 101, 110, 116]⟩, .string ⟨#[111, 117, 116]⟩, .string ⟨#[119, 111, 114, 107]⟩]) (.int .i64 1)).run Tryd.prog w = .ok (.string ⟨#[115, 112, 101, 110, 116]⟩) w := fun w => by kernel_rfl
theorem ixB2 (z0 z1 z2 z3 : Int) : ∀ w : World, (Instr.index 24 (.agg #[.int .i64 z0, .int .i64 z1, .int .i64 z2, .int .i64 z3]) (.int .i64 2)).run Tryd.prog w = .ok (.int .i64 z2) w := fun w => by kernel_rfl
theorem iyB2 : ∀ w : World, (Instr.index 66 (.agg #[.string ⟨#[114, 101, 97, 100]⟩, .string ⟨#[115, 112, 101, 110, 116]⟩, .string ⟨#[111, 117, 116]⟩, .string ⟨#[119, 111, 114, 107]⟩]) (.int .i64 2)).run Tryd.prog w = .ok (.string ⟨#[111, 117, 116]⟩) w := fun w => by kernel_rfl
theorem ixB3 (z0 z1 z2 z3 : Int) : ∀ w : World, (Instr.index 24 (.agg #[.int .i64 z0, .int .i64 z1, .int .i64 z2, .int .i64 z3]) (.int .i64 3)).run Tryd.prog w = .ok (.int .i64 z3) w := fun w => by kernel_rfl
theorem iyB3 : ∀ w : World, (Instr.index 66 (.agg #[.string ⟨#[114, 101, 97, 100]⟩, .string ⟨#[115, 112, 101, 110, 116]⟩, .string ⟨#[111, 117, 116]⟩, .string ⟨#[119, 111, 114, 107]⟩]) (.int .i64 3)).run Tryd.prog w = .ok (.string ⟨#[119, 111, 114, 107]⟩) w := fun w => by kernel_rfl
end Go.Proofs.YtocbofeanfdggaaDoor
