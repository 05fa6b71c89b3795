/- The document's stack. -/
import Derived.Test.YtpblphddpcogcaaRows
import Derived.WalkKit
import Derived.ProofKit
import Derived.OpenShut
import Derived.ShutString
import Derived.ChangeOld
import Derived.Below
import Derived.BigQuiet
import Derived.Deep.QuietTactic
import Derived.Lib.Hide
import Derived.Deep.RegionHeld3
import Derived.Lib.SlBytesConst
import Derived.Laws.CopyOwn
import Derived.Laws.CopyRow
import Derived.Lib.Bytes
import Derived.Deep.LoopGhost
import Derived.Deep.DeepFit
import Derived.Deep.DeepMust
import Derived.WalkSpells
import Derived.WalkLawsBesides
import Derived.Test.YtpblphddpcogcaaShelf
import Derived.Test.YtpblphddpcogcaaBase
import Derived.Test.YtpblphddpcogcaaStk
namespace Go.Proofs.Ytpblphddpcogcaa
open Go.ChangeShapes Go.WideShapes Go.ChangeAt Go.RowKit
set_option linter.unusedVariables false
def iz (x : Int) : Value := .int .i64 x
theorem size_int (w : World) : (sizeOf (Try.prog.elem 30)).run Try.prog w = .ok 1 w := by kernel_rfl
theorem run_upToI {w : World} (A : Option Addr) (n cap t : Nat) (ht : t ≤ cap) : (Instr.slice 30 (.slice A n cap) none (some (.int .i64 (t : Int))) none).run Try.prog w = .ok (.slice A t cap) w := by
  rw [run_slice_h (P := Try.prog) (w := w) 30 A n cap (by kernel_rfl) .i64 (t : Int) (by omega) (by omega), size_int]
  simp [sliced]
  intro _
  cases A with
  | none => rfl
  | some a => simp [Addr.add]
theorem Rd.getI {w : World} {B : Nat} {A : Option Addr} {n cap : Nat} {z : List Int} {i : Nat} (h : Rd w B A n cap (z.map iz)) (hi : i < n) : ∃ b o, A = some ⟨b, o, none⟩ ∧ b < B ∧ w.cell? ⟨b, o + i, none⟩ = some (.int .i64 (z.getD i 0)) ∧ z[i]? = some (z.getD i 0) := by
  obtain ⟨b, o, e, hb, hc⟩ := h.at_ (by have := h.le; omega)
  have hl : z.length = n := by have := h.len; simpa using this
  have hz : z[i]? = some (z.getD i 0) := by rw [List.getElem?_eq_getElem (by omega)]; simp [show i < z.length by omega]
  exact ⟨b, o, e, hb, hc i _ (by rw [List.getElem?_map, hz]; rfl), hz⟩
set_option maxRecDepth 100000 in
set_option maxHeartbeats 2000000 in
theorem ints_c (A1 A2 : Option Addr) (n c1 c2 : Nat) (z : List Int) (w : World) (h1 : Rd w w.heap.size A1 n c1 (z.map iz)) (h2 : Rd w w.heap.size A2 n c2 (z.map iz)) (hm : n ≤ 1000000) :
    Calls Try.prog 19 #[.slice A1 n c1, .slice A2 n c2] w fun e w' => e = .returned (.bool true) ∧ ∃ q, w' = w.drewN q := by
  have HB := Lib.hid (And.intro h1 h2)
  clear h1 h2
  go_enter Try.func19, Try.ntmps19
  go_wp2
  go_loopg [5] (n) (fun g i wr => ∃ t : Nat, t ≤ n ∧ Hid (g + t = n) ∧ i = .int .i64 (t : Int) ∧ Hid (∃ q, wr = w.drewN q))
  case atStart => exact ⟨0, Nat.zero_le _, Lib.hid (by omega), rfl, Lib.hid ⟨0, rfl⟩⟩
  case round =>
    obtain ⟨t, ht, hg, rfl, HW⟩ := hrel
    have HR : Rd wr w.heap.size A1 n c1 (z.map iz) ∧ Rd wr w.heap.size A2 n c2 (z.map iz) := by
      obtain ⟨q, hq⟩ := HW.out
      rw [hq]
      exact ⟨HB.out.1.drewN, HB.out.2.drewN⟩
    have ht0 : (0 : Int) ≤ (t : Int) := by omega
    have htb : (t : Int) ≤ 1000000 := by omega
    by_cases htn : t < n
    · have htni : (t : Int) < (n : Int) := by omega
      obtain ⟨b, o, rfl, hb, hc, _⟩ := HR.1.getI htn
      obtain ⟨b2, o2, rfl, hb2, hd, _⟩ := HR.2.getI htn
      clear hb hb2 HR
      generalize z.getD t 0 = y at *
      go_wp2
      go_quiet (fail)
      have HW2 : Hid (∃ q, wr.drewN nq = w.drewN q) := Lib.hid (by obtain ⟨q, hq⟩ := HW.out; exact ⟨q + nq, by rw [hq]; simp⟩)
      clear hc hd
      generalize wr.drewN nq = wq at *
      go_wp2
      go_roundg (n - (t + 1))
      case measure => have := hg.out; omega
      case rel => exact ⟨t + 1, by omega, Lib.hid (by omega), by go_num, HW2⟩
    · have htni : ¬ (t : Int) < (n : Int) := by omega
      clear HR
      go_wp2
      go_ret
      exact ⟨rfl, HW.out⟩
theorem refIs12_c (room : Int) (w : World) : Calls Try.prog 6 #[.int .i64 room] w fun e w' => e = .returned (.bool (decide (0 ≤ room) && decide (room ≤ 1099511627776))) ∧ w = w' := by
  by_cases h0 : 0 ≤ room
  · by_cases h1 : room ≤ 1099511627776
    · have e1 : (decide (0 ≤ room) && decide (room ≤ 1099511627776)) = true := by simp [h0, h1]
      rw [e1]
      clear e1
      go_enter Try.func6, Try.ntmps6
      go_wp2
      go_ret
      exact ⟨rfl, rfl⟩
    · have e1 : (decide (0 ≤ room) && decide (room ≤ 1099511627776)) = false := by simp [h1]
      rw [e1]
      clear e1
      go_enter Try.func6, Try.ntmps6
      go_wp2
      go_ret
      exact ⟨rfl, rfl⟩
  · have e1 : (decide (0 ≤ room) && decide (room ≤ 1099511627776)) = false := by simp [h0]
    rw [e1]
    clear e1
    go_enter Try.func6, Try.ntmps6
    go_wp2
    go_ret
    exact ⟨rfl, rfl⟩
set_option maxRecDepth 100000 in
set_option maxHeartbeats 2000000 in
theorem refPop_c (A : Option Addr) (n cap : Nat) (z : List Int) (w : World) (h : Rd w w.heap.size A n cap (z.map iz)) (hm : n ≤ 1000000) :
    Calls Try.prog 10 #[.slice A n cap] w fun e w' => e = .returned (.tuple #[.slice A (n - 1) cap, .int .i64 (z.getLastD 0), .bool (decide (0 < n))]) ∧ ∃ q, w' = w.drewN q := by
  have hl : z.length = n := by have := h.len; simpa using this
  by_cases hn : n = 0
  · subst hn
    have hz : z = [] := List.length_eq_zero_iff.1 hl
    subst hz
    clear h hl
    go_enter Try.func10, Try.ntmps10
    go_wp2
    go_ret3
    exact ⟨rfl, 0, rfl⟩
  · obtain ⟨b, o, rfl, hb, hc, hz⟩ := h.getI (i := n - 1) (by omega)
    have hla : z.getLastD 0 = z.getD (n - 1) 0 := by
      rw [List.getLastD_eq_getLast?, List.getLast?_eq_getElem?, hl, hz]; rfl
    have hle := h.le
    have hup := fun W : World => run_upToI (w := W) (some ⟨b, o, none⟩) n cap (n - 1) (by omega)
    have hn1 : ((n - 1 : Nat) : Int) = (n : Int) - 1 := by omega
    rw [hn1] at hup
    have hn0 : ((n : Int) == 0) = false := by simp; omega
    have hd : decide (0 < n) = true := by simp; omega
    have hi0 : (0 : Int) ≤ (n : Int) - 1 := by omega
    have hi1 : (n : Int) - 1 < (n : Int) := by omega
    have hi2 : (n : Int) ≤ 1000000 := by omega
    have hnt : ((n : Int) - 1).toNat = n - 1 := by omega
    rw [hla, hd]
    generalize z.getD (n - 1) 0 = x at *
    clear h hl hz hla hb hd hn hle
    go_enter Try.func10, Try.ntmps10
    go_wp2
    go_quiet (fail)
    go_wp2
    go_ret3
    exact ⟨rfl, _, rfl⟩
set_option maxRecDepth 100000 in
set_option maxHeartbeats 2000000 in
theorem refCut_c (A : Option Addr) (n cap : Nat) (x : Int) (w : World) (hle : n ≤ cap) (hm : n ≤ 1000000) :
    Calls Try.prog 12 #[.slice A n cap, .int .i64 x] w fun e w' => e = .returned (.slice A (min n x.toNat) cap) ∧ w = w' := by
  by_cases h0 : x < 0
  · have hup := fun W : World => run_upToI (w := W) A n cap 0 (by omega)
    have hn : ¬ ((n : Int) < 0) := by omega
    rw [show min n x.toNat = 0 by omega]
    simp only [Int.natCast_zero] at hup
    go_enter Try.func12, Try.ntmps12
    go_wp2
    go_ret
    exact ⟨rfl, rfl⟩
  · have h0' : ¬ x < 0 := h0
    by_cases h1 : (n : Int) < x
    · have hup := fun W : World => run_upToI (w := W) A n cap n (by omega)
      rw [show min n x.toNat = n by omega]
      go_enter Try.func12, Try.ntmps12
      go_wp2
      go_ret
      exact ⟨rfl, rfl⟩
    · obtain ⟨k, rfl⟩ : ∃ k : Nat, x = (k : Int) := ⟨x.toNat, by omega⟩
      have hup := fun W : World => run_upToI (w := W) A n cap k (by omega)
      rw [show min n (k : Int).toNat = k by omega]
      go_enter Try.func12, Try.ntmps12
      go_wp2
      go_ret
      exact ⟨rfl, rfl⟩
/-- The highest place of a number in a row. -/
def fndR (x : Int) : List Int → Nat → Int × Bool
  | z, 0 => (0, false)
  | z, k + 1 => if z[k]? = some x then ((k : Int), true) else fndR x z k
set_option maxRecDepth 100000 in
set_option maxHeartbeats 2000000 in
theorem refFind_c (A : Option Addr) (n cap : Nat) (z : List Int) (x : Int) (w : World) (h : Rd w w.heap.size A n cap (z.map iz)) (hm : n ≤ 1000000) :
    Calls Try.prog 17 #[.slice A n cap, .int .i64 x] w fun e w' => e = .returned (.tuple #[.int .i64 (fndR x z n).1, .bool (fndR x z n).2]) ∧ w = w' := by
  have HB := Lib.hid h
  clear h
  go_enter Try.func17, Try.ntmps17
  go_wp2
  go_loopg [6] (n) (fun g i wr => ∃ t : Nat, t ≤ n ∧ g = t ∧ i = .int .i64 ((t : Int) - 1) ∧ w = wr ∧ Hid (fndR x z n = fndR x z t))
  case atStart => exact ⟨n, Nat.le_refl _, rfl, rfl, rfl, Lib.hid rfl⟩
  case round =>
    obtain ⟨t, ht, rfl, rfl, rfl, HE⟩ := hrel
    cases gk with
    | zero =>
      have HE0 : Hid (fndR x z n = (0, false)) := Lib.hid (by rw [HE.out]; rfl)
      go_wp2
      go_ret2
      rw [HE0.out]
      exact ⟨rfl, rfl⟩
    | succ t =>
      have ht0 : (0 : Int) ≤ ((t + 1 : Nat) : Int) - 1 := by omega
      have htb : ((t + 1 : Nat) : Int) - 1 < (n : Int) := by omega
      have htc : (t : Int) ≤ 1000000 := by omega
      have hti : ((t + 1 : Nat) : Int) - 1 = (t : Int) := by omega
      have htn : (t : Int) < (n : Int) := by omega
      obtain ⟨b, o, rfl, hb, hc, hz⟩ := HB.out.getI (i := t) (by omega)
      have HX : Hid (fndR x z (t + 1) = if z.getD t 0 = x then ((t : Int), true) else fndR x z t) := Lib.hid (by
        show (if z[t]? = some x then ((t : Int), true) else fndR x z t) = _
        rw [hz]; simp only [Option.some.injEq])
      rw [hti] at *
      clear hb hz hti
      generalize z.getD t 0 = y at *
      by_cases hy : y = x
      · subst hy
        have HE0 : Hid (fndR y z n = ((t : Int), true)) := Lib.hid (by rw [HE.out, HX.out, if_pos rfl])
        go_wp2
        go_ret2
        rw [HE0.out]
        exact ⟨rfl, rfl⟩
      · have hyi : (y == x) = false := by simpa using hy
        have HE0 : Hid (fndR x z n = fndR x z t) := Lib.hid (by rw [HE.out, HX.out, if_neg hy])
        go_wp2
        go_roundg t
        case measure => omega
        case rel => exact ⟨t, by omega, rfl, by go_num, rfl, HE0⟩
end Go.Proofs.Ytpblphddpcogcaa
