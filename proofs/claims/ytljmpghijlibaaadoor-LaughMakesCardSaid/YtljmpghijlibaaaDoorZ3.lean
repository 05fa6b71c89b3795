/- Several texts of ours in one: SatP, SatW, SatW2. -/
import Derived.Test.YtljmpghijlibaaaDoorRows
import Derived.WalkKit
import Derived.ProofKit
import Derived.OpenShut
import Derived.ShutString
import Derived.ChangeOld
import Derived.Below
import Derived.BigQuiet
import Derived.Deep.QuietTactic
import Derived.Lib.Hide
import Derived.Deep.RegionHeld3
import Derived.Lib.SlBytesConst
import Derived.Laws.CopyOwn
import Derived.Laws.CopyRow
import Derived.Lib.Bytes
import Derived.Deep.LoopGhost
import Derived.Deep.DeepFit
import Derived.Deep.DeepMust
import Derived.WalkSpells
import Derived.WalkLawsBesides
import Derived.Laws.EntriesVeiled
import Derived.Laws.Rows
import Derived.Test.YtljmpghijlibaaaDoorBase
import Derived.Test.YtljmpghijlibaaaDoorShelf
namespace Go.Proofs.YtljmpghijlibaaaDoor
open Go.ChangeShapes Go.WideShapes Go.ChangeAt Go.RowKit
set_option linter.unusedVariables false
/-- Where all numbers end. -/
def capN : Nat := 9223372036854775807
def satN (n : Nat) : Nat := min n capN
theorem satN_le (n : Nat) : satN n ≤ 9223372036854775807 := Nat.min_le_right _ _
theorem satN_id {n : Nat} (h : n ≤ 9223372036854775807) : satN n = n := Nat.min_eq_left h
theorem satN_add (a b : Nat) : satN (satN a + satN b) = satN (a + b) := by unfold satN capN; omega
theorem satN_sat (a : Nat) : satN (satN a) = satN a := by unfold satN capN; omega
theorem satN_mul_r (a b : Nat) : satN (a * satN b) = satN (a * b) := by
  by_cases ha : a = 0
  · subst ha; simp
  · by_cases hb : b ≤ capN
    · rw [show satN b = b from Nat.min_eq_left hb]
    · have e : satN b = capN := Nat.min_eq_right (by omega)
      rw [e]
      have h1 : capN ≤ a * capN := Nat.le_mul_of_pos_left _ (by omega)
      have h2 : capN ≤ a * b := Nat.le_trans (Nat.le_of_lt (Nat.lt_of_not_le hb)) (Nat.le_mul_of_pos_left _ (by omega))
      unfold satN
      rw [Nat.min_eq_right h1, Nat.min_eq_right h2]
theorem satN_mul_l (a b : Nat) : satN (satN a * b) = satN (a * b) := by rw [Nat.mul_comm, satN_mul_r, Nat.mul_comm]
theorem satN_pow (o a : Nat) : ∀ n, satN (o * satN a ^ n) = satN (o * a ^ n)
  | 0 => rfl
  | n + 1 => by
    rw [Nat.pow_succ, ← Nat.mul_assoc, satN_mul_r, ← satN_mul_l, satN_pow o a n, satN_mul_l, Nat.mul_assoc, ← Nat.pow_succ]
/-- One step of a power by squares. -/
theorem pow_step (o a n : Nat) : satN (satN (if n % 2 = 1 then o * a else o) * satN (a * a) ^ (n / 2)) = satN (o * a ^ n) := by
  rw [satN_mul_l, satN_pow, ← Nat.pow_two, ← Nat.pow_mul]
  split
  · rename_i h
    rw [Nat.mul_assoc, ← Nat.pow_succ']
    congr 3
    omega
  · rename_i h
    congr 3
    omega
/-- One step of a product, bit by bit. -/
theorem bit_step (x y k : Nat) : satN (satN (satN ((x / 2 ^ (k + 1)) * y) + satN ((x / 2 ^ (k + 1)) * y)) + (if x / 2 ^ k % 2 = 1 then satN y else 0)) = satN ((x / 2 ^ k) * y) := by
  rw [satN_add]
  have h : x / 2 ^ (k + 1) = x / 2 ^ k / 2 := by rw [Nat.pow_succ, Nat.div_div_eq_div_mul]
  rw [h]
  generalize x / 2 ^ k = z
  split
  · rename_i hz
    rw [satN_add]
    congr 1
    obtain ⟨q, rfl⟩ : ∃ q, z = 2 * q + 1 := ⟨z / 2, by omega⟩
    rw [show (2 * q + 1) / 2 = q by omega, Nat.add_mul, Nat.mul_assoc, Nat.two_mul]
    omega
  · rename_i hz
    rw [Nat.add_zero, satN_sat]
    congr 1
    obtain ⟨q, rfl⟩ : ∃ q, z = 2 * q := ⟨z / 2, by omega⟩
    rw [show (2 * q) / 2 = q by omega, Nat.mul_assoc, Nat.two_mul]
set_option maxRecDepth 100000 in
set_option maxHeartbeats 4000000 in
theorem hold_c (x : Nat) (w : World) : Calls Tryd.prog 67 #[.int .i64 x] w fun e w' => e = .returned (.int .i64 x) ∧ w = w' := by
  have h : max (x : Int) 0 = x := by omega
  go_enter Tryd.func67, Tryd.ntmps67
  go_wp2
  go_ret
  exact ⟨by simp, rfl⟩
set_option maxRecDepth 100000 in
set_option maxHeartbeats 4000000 in
theorem rhold_c (x : Nat) (w : World) : Calls Tryd.prog 68 #[.int .i64 x] w fun e w' => e = .returned (.int .i64 x) ∧ w = w' := by
  have h : ¬ (x : Int) < 0 := by omega
  go_enter Tryd.func68, Tryd.ntmps68
  go_wp2
  go_ret
  exact ⟨by simp, rfl⟩
set_option maxRecDepth 100000 in
set_option maxHeartbeats 4000000 in
theorem satAdd_c (x y : Nat) (hx : x ≤ 9223372036854775807) (hy : y ≤ 9223372036854775807) (w : World) : Calls Tryd.prog 37 #[.int .i64 x, .int .i64 y] w fun e w' => e = .returned (.int .i64 (satN (x + y) : Nat)) ∧ w = w' := by
  have CX : Hid (∀ W, Calls Tryd.prog 67 #[.int .i64 x] W fun e w' => e = .returned (.int .i64 x) ∧ W = w') := Lib.hid fun W => hold_c x W
  have CY : Hid (∀ W, Calls Tryd.prog 67 #[.int .i64 y] W fun e w' => e = .returned (.int .i64 y) ∧ W = w') := Lib.hid fun W => hold_c y W
  have HS : Hid (((satN (x + y) : Nat) : Int) = min ((x : Int) + y) 9223372036854775807) := Lib.hid (by unfold satN capN; omega)
  go_enter Tryd.func37, Tryd.ntmps37
  go_wp2_with fail
  refine (CX.out _).mono ?_
  rintro e wq ⟨rfl, rfl⟩
  go_wp2_with fail
  refine (CY.out _).mono ?_
  rintro e wq ⟨rfl, rfl⟩
  go_wp2
  go_ret
  exact ⟨by rw [HS.out]; rfl, rfl⟩
set_option maxRecDepth 100000 in
set_option maxHeartbeats 4000000 in
theorem rAdd_c (x y : Nat) (hx : x ≤ 9223372036854775807) (hy : y ≤ 9223372036854775807) (w : World) : Calls Tryd.prog 42 #[.int .i64 x, .int .i64 y] w fun e w' => e = .returned (.int .i64 (satN (x + y) : Nat)) ∧ w = w' := by
  have CX : Hid (∀ W, Calls Tryd.prog 68 #[.int .i64 x] W fun e w' => e = .returned (.int .i64 x) ∧ W = w') := Lib.hid fun W => rhold_c x W
  have CY : Hid (∀ W, Calls Tryd.prog 68 #[.int .i64 y] W fun e w' => e = .returned (.int .i64 y) ∧ W = w') := Lib.hid fun W => rhold_c y W
  by_cases hxy : 9223372036854775807 - (y : Int) < (x : Int)
  · have HS : Hid (((satN (x + y) : Nat) : Int) = 9223372036854775807) := Lib.hid (by unfold satN capN; omega)
    go_enter Tryd.func42, Tryd.ntmps42
    go_wp2_with fail
    refine (CX.out _).mono ?_
    rintro e wq ⟨rfl, rfl⟩
    go_wp2_with fail
    refine (CY.out _).mono ?_
    rintro e wq ⟨rfl, rfl⟩
    go_wp2
    go_ret
    exact ⟨by rw [HS.out]; rfl, rfl⟩
  · have HS : Hid (((satN (x + y) : Nat) : Int) = (x : Int) + y) := Lib.hid (by unfold satN capN; omega)
    go_enter Tryd.func42, Tryd.ntmps42
    go_wp2_with fail
    refine (CX.out _).mono ?_
    rintro e wq ⟨rfl, rfl⟩
    go_wp2_with fail
    refine (CY.out _).mono ?_
    rintro e wq ⟨rfl, rfl⟩
    go_wp2
    go_ret
    exact ⟨by rw [HS.out]; rfl, rfl⟩
set_option maxRecDepth 100000 in
set_option maxHeartbeats 4000000 in
theorem satMul_c (x y : Nat) (hx : x ≤ 9223372036854775807) (hy : y ≤ 9223372036854775807) (w : World) : Calls Tryd.prog 34 #[.int .i64 x, .int .i64 y] w fun e w' => e = .returned (.int .i64 (satN (x * y) : Nat)) ∧ w = w' := by
  have CX : Hid (∀ W, Calls Tryd.prog 67 #[.int .i64 x] W fun e w' => e = .returned (.int .i64 x) ∧ W = w') := Lib.hid fun W => hold_c x W
  have CY : Hid (∀ W, Calls Tryd.prog 67 #[.int .i64 y] W fun e w' => e = .returned (.int .i64 y) ∧ W = w') := Lib.hid fun W => hold_c y W
  have CM : Hid (∀ W, Calls Tryd.prog 66 #[.int .u64 x, .int .u64 y] W fun e w' => e = .returned (.tuple #[.int .u64 ((x * y / 18446744073709551616 : Nat) : Int), .int .u64 ((x * y % 18446744073709551616 : Nat) : Int)]) ∧ W = w') := Lib.hid fun W => (Tryd.bits_Mul64 x y (by omega) (by omega) W).mono fun e w' ⟨he, hw⟩ => ⟨he, hw.symm⟩
  have hlo : x * y % 18446744073709551616 < 18446744073709551616 := Nat.mod_lt _ (by omega)
  have HD := Lib.hid (Nat.div_add_mod (x * y) 18446744073709551616)
  by_cases hz : x * y / 18446744073709551616 = 0
  · have HS : Hid (((satN (x * y) : Nat) : Int) = min ((x * y % 18446744073709551616 : Nat) : Int) 9223372036854775807) := Lib.hid (by have := HD.out; unfold satN capN; omega)
    rw [hz] at CM
    clear hz HD
    generalize x * y % 18446744073709551616 = lo at *
    generalize satN (x * y) = s at *
    go_enter Tryd.func34, Tryd.ntmps34
    go_wp2_with fail
    refine (CX.out _).mono ?_
    rintro e wq ⟨rfl, rfl⟩
    go_wp2_with fail
    refine (CY.out _).mono ?_
    rintro e wq ⟨rfl, rfl⟩
    go_wp2_with fail
    refine (CM.out _).mono ?_
    rintro e wq ⟨rfl, rfl⟩
    go_wp2
    go_ret
    exact ⟨by rw [HS.out]; rfl, rfl⟩
  · have HS : Hid (((satN (x * y) : Nat) : Int) = 9223372036854775807) := Lib.hid (by have := HD.out; unfold satN capN; omega)
    clear HD
    generalize x * y / 18446744073709551616 = hi at *
    have hz2 : ((hi : Int) == 0) = false := by simpa using hz
    clear hz
    generalize x * y % 18446744073709551616 = lo at *
    generalize satN (x * y) = s at *
    go_enter Tryd.func34, Tryd.ntmps34
    go_wp2_with fail
    refine (CX.out _).mono ?_
    rintro e wq ⟨rfl, rfl⟩
    go_wp2_with fail
    refine (CY.out _).mono ?_
    rintro e wq ⟨rfl, rfl⟩
    go_wp2_with fail
    refine (CM.out _).mono ?_
    rintro e wq ⟨rfl, rfl⟩
    go_wp2
    go_ret
    exact ⟨by rw [HS.out]; rfl, rfl⟩
set_option maxRecDepth 100000 in
set_option maxHeartbeats 4000000 in
theorem satPow_c (a n : Nat) (ha : a ≤ 9223372036854775807) (hn : n ≤ 1000000) (w : World) : Calls Tryd.prog 35 #[.int .i64 a, .int .i64 n] w fun e w' => e = .returned (.int .i64 (satN (a ^ n) : Nat)) ∧ w = w' := by
  have CX : Hid (∀ W, Calls Tryd.prog 67 #[.int .i64 n] W fun e w' => e = .returned (.int .i64 n) ∧ W = w') := Lib.hid fun W => hold_c n W
  have H0 : Hid (satN (a ^ n) = satN (1 * a ^ n)) := Lib.hid (by rw [Nat.one_mul])
  go_enter Tryd.func35, Tryd.ntmps35
  go_wp2_with fail
  refine (CX.out _).mono ?_
  rintro e wq ⟨rfl, rfl⟩
  go_wp2
  go_loop [0, 1, 5] (fun x y z => ∃ (b m o : Nat), b ≤ 9223372036854775807 ∧ m ≤ 1000000 ∧ o ≤ 9223372036854775807 ∧ x = .int .i64 b ∧ y = .int .i64 m ∧ z = .int .i64 o ∧ Hid (satN (a ^ n) = satN (o * b ^ m))) (fun _ y _ => (intOf y).toNat)
  case atStart => exact ⟨a, n, 1, ha, hn, by omega, rfl, rfl, rfl, H0⟩
  case round =>
    obtain ⟨b, m, o, hb, hm, ho, rfl, rfl, rfl, HI⟩ := hrel
    by_cases hm0 : 0 < m
    · have hm1 : (0 : Int) < (m : Int) := by omega
      have CB : Hid (∀ W, Calls Tryd.prog 34 #[.int .i64 b, .int .i64 b] W fun e w' => e = .returned (.int .i64 (satN (b * b) : Nat)) ∧ W = w') := Lib.hid fun W => satMul_c b b hb hb W
      have HP := Lib.hid (pow_step o b m)
      have HL := Lib.hid (satN_le (b * b))
      by_cases hp : m % 2 = 1
      · have CO : Hid (∀ W, Calls Tryd.prog 34 #[.int .i64 o, .int .i64 b] W fun e w' => e = .returned (.int .i64 (satN (o * b) : Nat)) ∧ W = w') := Lib.hid fun W => satMul_c o b ho hb W
        have HI2 : Hid (satN (a ^ n) = satN (satN (o * b) * satN (b * b) ^ (m / 2))) := Lib.hid (by have := HP.out; rw [if_pos hp] at this; rw [HI.out, this])
        have HL2 := Lib.hid (satN_le (o * b))
        have hp2 : (m : Int) % 2 = 1 := by omega
        clear hp
        generalize satN (b * b) = b2 at *
        generalize satN (o * b) = o2 at *
        go_wp2_with fail
        refine (CO.out _).mono ?_
        rintro e wq ⟨rfl, rfl⟩
        go_wp2_with fail
        refine (CB.out _).mono ?_
        rintro e wq ⟨rfl, rfl⟩
        go_wp2
        go_round
        case rel => exact ⟨b2, m / 2, o2, HL.out, by omega, HL2.out, rfl, by go_num, rfl, HI2⟩
        case measure => simp [intOf]; omega
      · have HI2 : Hid (satN (a ^ n) = satN (o * satN (b * b) ^ (m / 2))) := Lib.hid (by have := HP.out; rw [if_neg hp, satN_id ho] at this; rw [HI.out, this])
        have hp2 : (m : Int) % 2 = 0 := by omega
        clear hp
        generalize satN (b * b) = b2 at *
        go_wp2_with fail
        refine (CB.out _).mono ?_
        rintro e wq ⟨rfl, rfl⟩
        go_wp2
        go_round
        case rel => exact ⟨b2, m / 2, o, HL.out, by omega, ho, rfl, by go_num, rfl, HI2⟩
        case measure => simp [intOf]; omega
    · obtain rfl : m = 0 := by omega
      have HE : Hid (satN (a ^ n) = o) := Lib.hid (by rw [HI.out, Nat.pow_zero, Nat.mul_one, satN_id ho])
      go_wp2
      go_ret
      exact ⟨by rw [HE.out]; rfl, rfl⟩
theorem wpList_shrK {P : Program} {ops : Array Oper} {rest : List Oper} {o : Oper} {a : Act} {Q : Exit → Act → World → Prop} {w : World} (hgd : o.guard = none) (x y : Operand) (t u : TypeId) (ho : o.op = .binOp .shr t x y u) (m k : Nat) (kk : IntKind) (hk : k ≤ 62)
    (hx : a.eval x = .int .i64 m) (hy : a.eval y = .int kk k) (q : Nat) (hq : m / 2 ^ k = q) (h : wpList P ops Q rest (a.put o.dst (.int .i64 (q : Int))) w) : wpList P ops Q (o :: rest) a w := by
  refine wpList_plain hgd fun K' hK' => ?_
  unfold Oper.wp
  have e : ((m : Int) / 2 ^ k) = (q : Int) := by rw [← hq]; simp [Int.natCast_ediv]
  rw [← e] at h
  simp [execOp, ho, hx, hy, binOp_shr, Result.andThen]
  exact hK' _ _ h
set_option maxRecDepth 100000 in
set_option maxHeartbeats 4000000 in
theorem rMul_c (x y : Nat) (hx : x ≤ 9223372036854775807) (hy : y ≤ 9223372036854775807) (w : World) : Calls Tryd.prog 41 #[.int .i64 x, .int .i64 y] w fun e w' => e = .returned (.int .i64 (satN (x * y) : Nat)) ∧ w = w' := by
  have CX : Hid (∀ W, Calls Tryd.prog 68 #[.int .i64 x] W fun e w' => e = .returned (.int .i64 x) ∧ W = w') := Lib.hid fun W => rhold_c x W
  have CY : Hid (∀ W, Calls Tryd.prog 68 #[.int .i64 y] W fun e w' => e = .returned (.int .i64 y) ∧ W = w') := Lib.hid fun W => rhold_c y W
  have H0 : Hid (0 = satN ((x / 2 ^ 63) * y)) := Lib.hid (by rw [Nat.div_eq_of_lt (by omega), Nat.zero_mul]; rfl)
  go_enter Tryd.func41, Tryd.ntmps41
  go_wp2_with fail
  refine (CX.out _).mono ?_
  rintro e wq ⟨rfl, rfl⟩
  go_wp2_with fail
  refine (CY.out _).mono ?_
  rintro e wq ⟨rfl, rfl⟩
  go_wp2
  go_loop [7, 8] (fun a b => ∃ (s j : Nat), s ≤ 9223372036854775807 ∧ j ≤ 63 ∧ a = .int .i64 s ∧ b = .int .i64 ((j : Int) - 1) ∧ Hid (s = satN ((x / 2 ^ j) * y))) (fun _ b => (intOf b + 1).toNat)
  case atStart => exact ⟨0, 63, by omega, by omega, rfl, rfl, H0⟩
  case round =>
    obtain ⟨s, j, hs, hj, rfl, rfl, HI⟩ := hrel
    cases j with
    | zero =>
      have HE : Hid (satN (x * y) = s) := Lib.hid (by rw [HI.out]; simp)
      go_wp2
      go_ret
      exact ⟨by rw [HE.out]; rfl, rfl⟩
    | succ k =>
      rw [show ((k + 1 : Nat) : Int) - 1 = (k : Int) by omega]
      have hk0 : (0 : Int) ≤ (k : Int) := by omega
      have CA : Hid (∀ W, Calls Tryd.prog 42 #[.int .i64 s, .int .i64 s] W fun e w' => e = .returned (.int .i64 (satN (s + s) : Nat)) ∧ W = w') := Lib.hid fun W => rAdd_c s s hs hs W
      have HL := Lib.hid (satN_le (s + s))
      have HB := Lib.hid (bit_step x y k)
      have HS1 : Hid (satN s = s) := Lib.hid (satN_id hs)
      obtain ⟨q, hq⟩ : ∃ q, x / 2 ^ k = q := ⟨_, rfl⟩
      by_cases hb : q % 2 = 1
      · have CB : Hid (∀ W, Calls Tryd.prog 42 #[.int .i64 (satN (s + s) : Nat), .int .i64 y] W fun e w' => e = .returned (.int .i64 (satN (satN (s + s) + y) : Nat)) ∧ W = w') := Lib.hid fun W => rAdd_c _ y (satN_le _) hy W
        have HN : Hid (satN (satN (s + s) + y) = satN ((x / 2 ^ k) * y)) := Lib.hid (by
          have := HB.out
          rw [hq, if_pos hb, ← HI.out, satN_id hy] at this
          rw [hq, ← this])
        have HL2 := Lib.hid (satN_le (satN (s + s) + y))
        have hb2 : (q : Int) % 2 = 1 := by omega
        clear hb HB HI
        generalize satN (satN (s + s) + y) = s3 at *
        generalize satN (s + s) = s2 at *
        go_wp2_with fail
        refine (CA.out _).mono ?_
        rintro e wq ⟨rfl, rfl⟩
        go_wp2_with (refine wpList_shrK rfl _ _ _ _ rfl x k _ (by omega) rfl rfl q hq ?_)
        (try dsimp only [Act.put])
        (try simp only [List.setIfInBounds_toArray, List.set_cons_succ, List.set_cons_zero])
        go_wp2_with fail
        refine (CB.out _).mono ?_
        rintro e wq ⟨rfl, rfl⟩
        go_wp2
        go_round
        case rel => exact ⟨s3, k, HL2.out, by omega, rfl, by go_num, HN⟩
        case measure => simp [intOf]
      · have HN : Hid (satN (s + s) = satN ((x / 2 ^ k) * y)) := Lib.hid (by
          have := HB.out
          rw [hq, if_neg hb, ← HI.out, Nat.add_zero, satN_sat] at this
          rw [hq, ← this])
        have hb2 : (q : Int) % 2 = 0 := by omega
        clear hb HB HI
        generalize satN (s + s) = s2 at *
        go_wp2_with fail
        refine (CA.out _).mono ?_
        rintro e wq ⟨rfl, rfl⟩
        go_wp2_with (refine wpList_shrK rfl _ _ _ _ rfl x k _ (by omega) rfl rfl q hq ?_)
        (try dsimp only [Act.put])
        (try simp only [List.setIfInBounds_toArray, List.set_cons_succ, List.set_cons_zero])
        go_wp2
        go_round
        case rel => exact ⟨s2, k, HL.out, by omega, rfl, by go_num, HN⟩
        case measure => simp [intOf]
end Go.Proofs.YtljmpghijlibaaaDoor
