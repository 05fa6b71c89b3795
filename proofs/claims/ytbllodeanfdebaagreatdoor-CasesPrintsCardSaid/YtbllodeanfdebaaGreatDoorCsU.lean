/- Whether a case is too much. -/
import Derived.Test.YtbllodeanfdebaaGreatDoorRows
import Derived.WalkKit
import Derived.ProofKit
import Derived.OpenShut
import Derived.ShutString
import Derived.ChangeOld
import Derived.Below
import Derived.BigQuiet
import Derived.Deep.QuietTactic
import Derived.Lib.Hide
import Derived.Deep.RegionHeld3
import Derived.Lib.SlBytesConst
import Derived.Laws.CopyOwn
import Derived.Laws.CopyRow
import Derived.Lib.Bytes
import Derived.Deep.LoopGhost
import Derived.Deep.DeepFit
import Derived.Deep.DeepMust
import Derived.WalkSpells
import Derived.WalkLawsBesides
import Derived.Laws.EntriesVeiled
import Derived.Laws.Rows
import Derived.Lib.Replace
import Derived.Lib.Split
import Derived.Lib.ItoaNum
import Derived.Lib.AtoiAllCases
import Derived.Lib.AtoiErrMem
import Derived.Lib.AppendIntMem
import Derived.Maps.OwnOps
import Derived.Maps.OwnSet
import Derived.Maps.Views
import Derived.Maps.AppendAt
import Derived.Deep.AppendLies
import Derived.Defers
import Derived.Recover
import Derived.Laws.Pointers
import Derived.Test.YtbllodeanfdebaaGreatDoorShelf
import Derived.Test.YtbllodeanfdebaaGreatDoorBase
import Derived.Test.YtbllodeanfdebaaGreatDoorCsE
import Derived.Test.YtbllodeanfdebaaGreatDoorCsG
import Derived.Test.YtbllodeanfdebaaGreatDoorCsH
import Derived.Test.YtbllodeanfdebaaGreatDoorCsI
import Derived.Test.YtbllodeanfdebaaGreatDoorCsJ
import Derived.Test.YtbllodeanfdebaaGreatDoorCalm
import Derived.Test.YtbllodeanfdebaaGreatDoorCsL
import Derived.Test.YtbllodeanfdebaaGreatDoorRowS
import Derived.Test.YtbllodeanfdebaaGreatDoorRowG
import Derived.Test.YtbllodeanfdebaaGreatDoorCsO
import Derived.Test.YtbllodeanfdebaaGreatDoorCsM
import Derived.Test.YtbllodeanfdebaaGreatDoorCsN2
import Derived.Test.YtbllodeanfdebaaGreatDoorStL
import Derived.Test.YtbllodeanfdebaaGreatDoorCsO2
import Derived.Test.YtbllodeanfdebaaGreatDoorCsQ
import Derived.Test.YtbllodeanfdebaaGreatDoorStr
import Derived.Test.YtbllodeanfdebaaGreatDoorCsR
import Derived.Test.YtbllodeanfdebaaGreatDoorCsS
import Derived.Test.YtbllodeanfdebaaGreatDoorCsT
namespace Go.Proofs.YtbllodeanfdebaaGreatDoor
open Go.ChangeShapes Go.WideShapes Go.ChangeAt Go.RowKit
set_option linter.unusedVariables false
/-- A case's cells. -/
def caseV (dv : Value) (l : List Nat) (va vs : Value) : Array Value := #[dv, .int .i64 (l.getD 0 0 : Nat), .int .i64 (l.getD 1 0 : Nat), .int .i64 (l.getD 2 0 : Nat), .int .i64 (l.getD 3 0 : Nat), .int .i64 (l.getD 4 0 : Nat), .int .i64 (l.getD 5 0 : Nat), va, vs]
theorem limV_case (l : List Nat) : limV l = caseV (.slice none 0 0) l (.slice none 0 0) (.slice none 0 0) := rfl
def sumD (ys : List AnV) : Nat := (ys.map (fun x => x.a.data.length)).sum
theorem sumD_at {ys : List AnV} {k : Nat} {x : AnV} (h : ys[k]? = some x) : sumD (ys.take (k + 1)) = sumD (ys.take k) + x.a.data.length ∧ sumD (ys.take k) + x.a.data.length ≤ sumD ys := by
  have hk := (List.getElem?_eq_some_iff.1 h).1
  have e1 : ys.take (k + 1) = ys.take k ++ [x] := by
    rw [List.take_add_one, h]
    rfl
  have e2 : ys = ys.take (k + 1) ++ ys.drop (k + 1) := (List.take_append_drop _ _).symm
  refine ⟨by rw [e1]; simp [sumD], ?_⟩
  conv => rhs; rw [e2, e1]
  simp [sumD]
set_option linter.unusedSimpArgs false in
set_option maxRecDepth 100000 in
set_option maxHeartbeats 8000000 in
theorem big_c (A1 A2 A3 : Option Addr) (n1 c1 n2 c2 n3 c3 : Nat) (lim : List Nat) (ys : List AnV) (w : World) (h : RRd cAn 3 w w.heap.size A3 n3 c3 ys) (hs : n1 + sumD ys ≤ 1048576) (h2 : n2 ≤ 1000000) (h3 : n3 ≤ 1000000) :
    Calls Tryz.prog 23 #[.agg (caseV (.slice A1 n1 c1) lim (.slice A2 n2 c2) (.slice A3 n3 c3))] w fun e w' => e = .returned (.bool (decide (64 < n2 ∨ 256 < n3))) ∧ Below w.heap.size w w' := by
  have HR := Lib.hid h
  have HS := Lib.hid hs
  have HL := Lib.hid h.len
  have hs1 : (n1 : Int) ≤ 1048576 := by omega
  have h31 : (n3 : Int) ≤ 1000000 := by omega
  have h21 : (n2 : Int) ≤ 1000000 := by omega
  clear h hs
  unfold caseV
  generalize ((lim.getD 0 0 : Nat) : Int) = m0
  generalize ((lim.getD 1 0 : Nat) : Int) = m1
  generalize ((lim.getD 2 0 : Nat) : Int) = m2
  generalize ((lim.getD 3 0 : Nat) : Int) = m3
  generalize ((lim.getD 4 0 : Nat) : Int) = m4
  generalize ((lim.getD 5 0 : Nat) : Int) = m5
  go_enter Tryz.func23, Tryz.ntmps23
  go_wp2_with fail
  go_loopg [3, 12] n3 (fun g s i wr => ∃ (k : Nat) (z : Int), i = .int .i64 (k : Int) ∧ k ≤ n3 ∧ s = .int .i64 z ∧ Hid (z = ((n1 + sumD (ys.take k) : Nat) : Int)) ∧ Hid (g + k = n3) ∧ Hid (Below w.heap.size w wr ∧ wr.heap[w.heap.size]? = some (.cells #[.slice A1 n1 c1, .int .i64 m0, .int .i64 m1, .int .i64 m2, .int .i64 m3, .int .i64 m4, .int .i64 m5, .slice A2 n2 c2, .slice A3 n3 c3] 29)))
  case atStart => exact ⟨0, (n1 : Int), rfl, Nat.zero_le _, rfl, Lib.hid (by simp [sumD]), Lib.hid rfl, Lib.hid ⟨(Below.refl _ _).alloc (Nat.le_refl _) _, hp_new _ _⟩⟩
  case round =>
    obtain ⟨k, z, rfl, hk, rfl, HZ, hg, HB⟩ := hrel
    by_cases hkn : k < n3
    · have hk1 : (k : Int) < (n3 : Int) := by omega
      obtain ⟨b, o, x, rfl, hbB, hx, hc⟩ := (HR.out.below HB.out.1).cell hkn
      have z0 : wr.cell? ⟨b, o + k * 3, none⟩ = some (.string ⟨x.a.id.toArray⟩) := by rw [show o + k * 3 = o + (k * 3 + 0) by omega]; exact hc 0 _ rfl
      have z1 : wr.cell? ⟨b, o + k * 3 + 1, none⟩ = some (.bool x.a.ok) := by rw [show o + k * 3 + 1 = o + (k * 3 + 1) by omega]; exact hc 1 _ rfl
      have z2 : wr.cell? ⟨b, o + k * 3 + 2, none⟩ = some (.slice x.A x.a.data.length x.cap) := by rw [show o + k * 3 + 2 = o + (k * 3 + 2) by omega]; exact hc 2 _ rfl
      have y8 : wr.cell? ⟨w.heap.size, 8, none⟩ = some (.slice (some ⟨b, o, none⟩) n3 c3) := by rw [cell_of 8 HB.out.2]; rfl
      have ka := (Below.refl _ wr).alloc (Nat.le_refl _) (.cells #[.string ⟨x.a.id.toArray⟩, .bool x.a.ok, .slice x.A x.a.data.length x.cap] 71)
      have HB2 := Lib.hid (And.intro (HB.out.1.trans (ka.mono HB.out.1.size)) ((ka.block _ (lt_of HB.out.2)).trans HB.out.2))
      have hsum := sumD_at hx
      have HZ2 : Hid (z + (x.a.data.length : Int) = ((n1 + sumD (ys.take (k + 1)) : Nat) : Int)) := Lib.hid (by rw [HZ.out, hsum.1]; omega)
      have hzb : z + (x.a.data.length : Int) ≤ 1048576 := by have := HS.out; have := hsum.2; rw [HZ.out]; omega
      have hz0 : 0 ≤ z := by rw [HZ.out]; omega
      clear hc hx ka hsum
      go_wp2
      go_roundg (n3 - (k + 1))
      case measure => have := hg.out; omega
      case rel => exact ⟨k + 1, _, by go_num, by omega, rfl, HZ2, Lib.hid (by omega), HB2⟩
    · obtain rfl : k = n3 := by omega
      have hk1 : ¬ (k : Int) < (k : Int) := by omega
      have hz9 : z ≤ 1048576 := by rw [HZ.out]; rw [List.take_of_length_le (by rw [HL.out]; exact Nat.le_refl _)]; have := HS.out; omega
      have y7 : wr.cell? ⟨w.heap.size, 7, none⟩ = some (.slice A2 n2 c2) := by rw [cell_of 7 HB.out.2]; rfl
      have y8 : wr.cell? ⟨w.heap.size, 8, none⟩ = some (.slice A3 k c3) := by rw [cell_of 8 HB.out.2]; rfl
      by_cases ha : 64 < n2
      · have ha1 : (64 : Int) < (n2 : Int) := by omega
        go_wp2
        go_ret
        exact ⟨by simp [ha], HB.out.1⟩
      · have ha1 : ¬ (64 : Int) < (n2 : Int) := by omega
        by_cases hb : 256 < k
        · have hb1 : (256 : Int) < (k : Int) := by omega
          go_wp2
          go_ret
          exact ⟨by simp [ha, hb], HB.out.1⟩
        · have hb1 : ¬ (256 : Int) < (k : Int) := by omega
          have hc1 : ¬ (1048576 : Int) < z := by omega
          go_wp2
          go_ret
          exact ⟨by simp [ha, hb], HB.out.1⟩
end Go.Proofs.YtbllodeanfdebaaGreatDoor
