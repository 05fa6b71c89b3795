/- The document: too much; two texts, two answers the same. -/
import Derived.Test.YtbllodeanfdebaaGreatDoorRows
import Derived.WalkKit
import Derived.ProofKit
import Derived.OpenShut
import Derived.ShutString
import Derived.ChangeOld
import Derived.Below
import Derived.BigQuiet
import Derived.Deep.QuietTactic
import Derived.Lib.Hide
import Derived.Deep.RegionHeld3
import Derived.Lib.SlBytesConst
import Derived.Laws.CopyOwn
import Derived.Laws.CopyRow
import Derived.Lib.Bytes
import Derived.Deep.LoopGhost
import Derived.Deep.DeepFit
import Derived.Deep.DeepMust
import Derived.WalkSpells
import Derived.WalkLawsBesides
import Derived.Laws.EntriesVeiled
import Derived.Lib.IndexBytes
import Derived.Deep.RegionWith
import Derived.Tactics2
import Derived.Laws.Rows
import Derived.Lib.Replace
import Derived.Lib.Split
import Derived.Lib.ItoaNum
import Derived.Lib.AtoiAllCases
import Derived.Lib.AtoiErrMem
import Derived.Lib.AppendIntMem
import Derived.Maps.OwnOps
import Derived.Maps.OwnSet
import Derived.Maps.Views
import Derived.Maps.AppendAt
import Derived.Deep.AppendLies
import Derived.Defers
import Derived.Recover
import Derived.Laws.Pointers
import Derived.Test.YtbllodeanfdebaaGreatDoorShelf
import Derived.Test.YtbllodeanfdebaaGreatDoorBase
import Derived.Test.YtbllodeanfdebaaGreatDoorCsE
import Derived.Test.YtbllodeanfdebaaGreatDoorCsG
import Derived.Test.YtbllodeanfdebaaGreatDoorCsH
import Derived.Test.YtbllodeanfdebaaGreatDoorCsI
import Derived.Test.YtbllodeanfdebaaGreatDoorCsJ
import Derived.Test.YtbllodeanfdebaaGreatDoorCalm
import Derived.Test.YtbllodeanfdebaaGreatDoorCsL
import Derived.Test.YtbllodeanfdebaaGreatDoorRowS
import Derived.Test.YtbllodeanfdebaaGreatDoorRowG
import Derived.Test.YtbllodeanfdebaaGreatDoorCsO
import Derived.Test.YtbllodeanfdebaaGreatDoorCsM
import Derived.Test.YtbllodeanfdebaaGreatDoorCsN2
import Derived.Test.YtbllodeanfdebaaGreatDoorStL
import Derived.Test.YtbllodeanfdebaaGreatDoorCsO2
import Derived.Test.YtbllodeanfdebaaGreatDoorCsQ
import Derived.Test.YtbllodeanfdebaaGreatDoorStr
import Derived.Test.YtbllodeanfdebaaGreatDoorCsR
import Derived.Test.YtbllodeanfdebaaGreatDoorCsS
import Derived.Test.YtbllodeanfdebaaGreatDoorCsT
import Derived.Test.YtbllodeanfdebaaGreatDoorCsU
import Derived.Test.YtbllodeanfdebaaGreatDoorCsV
import Derived.Test.YtbllodeanfdebaaGreatDoorCsW
import Derived.Test.YtbllodeanfdebaaGreatDoorCsY
import Derived.Test.YtbllodeanfdebaaGreatDoorCsZ
import Derived.Test.YtbllodeanfdebaaGreatDoorCsPa
import Derived.Test.YtbllodeanfdebaaGreatDoorRpC
namespace Go.Proofs.YtbllodeanfdebaaGreatDoor
open Go.ChangeShapes Go.WideShapes Go.ChangeAt Go.RowKit
set_option linter.unusedVariables false
set_option linter.unusedSimpArgs false in
set_option maxRecDepth 100000 in
set_option maxHeartbeats 8000000 in
theorem refBig_c (doc : List UInt8) (A2 A3 : Option Addr) (n2 c2 n3 c3 : Nat) (lim : List Nat) (ys : List AnV) (w : World) (h : RRd cAn 3 w w.heap.size A3 n3 c3 ys) (hs : doc.length + sumD ys ≤ 1048576) (h2 : n2 ≤ 1000000) (h3 : n3 ≤ 1000000) :
    Calls Tryz.prog 28 #[.agg (caseV (.string ⟨doc.toArray⟩) lim (.slice A2 n2 c2) (.slice A3 n3 c3))] w fun e w' => e = .returned (.bool (decide (64 < n2 ∨ 256 < n3))) ∧ Below w.heap.size w w' := by
  have HR := Lib.hid h
  have HS := Lib.hid hs
  have HL := Lib.hid h.len
  have hs1 : (doc.length : Int) ≤ 1048576 := by omega
  have h31 : (n3 : Int) ≤ 1000000 := by omega
  have h21 : (n2 : Int) ≤ 1000000 := by omega
  clear h hs
  unfold caseV
  generalize ((lim.getD 0 0 : Nat) : Int) = m0
  generalize ((lim.getD 1 0 : Nat) : Int) = m1
  generalize ((lim.getD 2 0 : Nat) : Int) = m2
  generalize ((lim.getD 3 0 : Nat) : Int) = m3
  generalize ((lim.getD 4 0 : Nat) : Int) = m4
  generalize ((lim.getD 5 0 : Nat) : Int) = m5
  go_enter Tryz.func28, Tryz.ntmps28
  go_wp2_with fail
  go_loopg [3, 4] n3 (fun g s i wr => ∃ (k : Nat) (z : Int), i = .int .i64 (k : Int) ∧ k ≤ n3 ∧ s = .int .i64 z ∧ Hid (z = ((doc.length + sumD (ys.take k) : Nat) : Int)) ∧ Hid (g + k = n3) ∧ Hid (Below w.heap.size w wr ∧ wr.heap[w.heap.size]? = some (.cells #[.string ⟨doc.toArray⟩, .int .i64 m0, .int .i64 m1, .int .i64 m2, .int .i64 m3, .int .i64 m4, .int .i64 m5, .slice A2 n2 c2, .slice A3 n3 c3] 34)))
  case atStart => exact ⟨0, (doc.length : Int), rfl, Nat.zero_le _, rfl, Lib.hid (by simp [sumD]), Lib.hid rfl, Lib.hid ⟨(Below.refl _ _).alloc (Nat.le_refl _) _, hp_new _ _⟩⟩
  case round =>
    obtain ⟨k, z, rfl, hk, rfl, HZ, hg, HB⟩ := hrel
    by_cases hkn : k < n3
    · have hk1 : (k : Int) < (n3 : Int) := by omega
      obtain ⟨b, o, x, rfl, hbB, hx, hc⟩ := (HR.out.below HB.out.1).cell hkn
      have z0 : wr.cell? ⟨b, o + k * 3, none⟩ = some (.string ⟨x.a.id.toArray⟩) := by rw [show o + k * 3 = o + (k * 3 + 0) by omega]; exact hc 0 _ rfl
      have z1 : wr.cell? ⟨b, o + k * 3 + 1, none⟩ = some (.bool x.a.ok) := by rw [show o + k * 3 + 1 = o + (k * 3 + 1) by omega]; exact hc 1 _ rfl
      have z2 : wr.cell? ⟨b, o + k * 3 + 2, none⟩ = some (.slice x.A x.a.data.length x.cap) := by rw [show o + k * 3 + 2 = o + (k * 3 + 2) by omega]; exact hc 2 _ rfl
      have y8 : wr.cell? ⟨w.heap.size, 8, none⟩ = some (.slice (some ⟨b, o, none⟩) n3 c3) := by rw [cell_of 8 HB.out.2]; rfl
      have hsum := sumD_at hx
      have HZ2 : Hid (z + (x.a.data.length : Int) = ((doc.length + sumD (ys.take (k + 1)) : Nat) : Int)) := Lib.hid (by rw [HZ.out, hsum.1]; omega)
      have hzb : z + (x.a.data.length : Int) ≤ 1048576 := by have := HS.out; have := hsum.2; rw [HZ.out]; omega
      have hz0 : 0 ≤ z := by rw [HZ.out]; omega
      clear hc hx hsum
      go_wp2
      go_roundg (n3 - (k + 1))
      case measure => have := hg.out; omega
      case rel => exact ⟨k + 1, _, by go_num, by omega, rfl, HZ2, Lib.hid (by omega), HB⟩
    · obtain rfl : k = n3 := by omega
      have hk1 : ¬ (k : Int) < (k : Int) := by omega
      have hz9 : z ≤ 1048576 := by rw [HZ.out]; rw [List.take_of_length_le (by rw [HL.out]; exact Nat.le_refl _)]; have := HS.out; omega
      have y7 : wr.cell? ⟨w.heap.size, 7, none⟩ = some (.slice A2 n2 c2) := by rw [cell_of 7 HB.out.2]; rfl
      have y8 : wr.cell? ⟨w.heap.size, 8, none⟩ = some (.slice A3 k c3) := by rw [cell_of 8 HB.out.2]; rfl
      by_cases ha : 64 < n2
      · have ha1 : (64 : Int) < (n2 : Int) := by omega
        go_wp2
        go_ret
        exact ⟨by simp [ha], HB.out.1⟩
      · have ha1 : ¬ (64 : Int) < (n2 : Int) := by omega
        by_cases hb : 256 < k
        · have hb1 : (256 : Int) < (k : Int) := by omega
          go_wp2
          go_ret
          exact ⟨by simp [ha, hb], HB.out.1⟩
        · have hb1 : ¬ (256 : Int) < (k : Int) := by omega
          have hc1 : ¬ (1048576 : Int) < z := by omega
          go_wp2
          go_ret
          exact ⟨by simp [ha, hb], HB.out.1⟩

set_option linter.unusedSimpArgs false in
set_option maxRecDepth 100000 in
set_option maxHeartbeats 8000000 in
theorem refTexts_yes (A1 A2 : Option Addr) (n c1 c2 : Nat) (l : List (List UInt8)) (w : World) (h1 : RRd cS1 1 w w.heap.size A1 n c1 l) (h2 : RRd cS1 1 w w.heap.size A2 n c2 l) (hn : n ≤ 1000000) :
    Calls Tryz.prog 30 #[.slice A1 n c1, .slice A2 n c2] w fun e w' => e = .returned (.bool true) ∧ Below w.heap.size w w' := by
  have HP1 : Hid (∀ W, Below w.heap.size w W → RRd cS1 1 W W.heap.size A1 n c1 l) := Lib.hid fun W hb => (h1.below hb).more hb.size
  have HP2 : Hid (∀ W, Below w.heap.size w W → RRd cS1 1 W W.heap.size A2 n c2 l) := Lib.hid fun W hb => (h2.below hb).more hb.size
  have hn1 : (n : Int) ≤ 1000000 := by omega
  clear h1 h2
  go_enter Tryz.func30, Tryz.ntmps30
  go_wp2_with fail
  go_loopg [5] n (fun g i wr => ∃ k : Nat, i = .int .i64 (k : Int) ∧ k ≤ n ∧ Hid (g + k = n) ∧ Hid (Below w.heap.size w wr))
  case atStart => exact ⟨0, rfl, Nat.zero_le _, Lib.hid rfl, Lib.hid (Below.refl _ _)⟩
  case round =>
    obtain ⟨k, rfl, hk, hg, HB⟩ := hrel
    by_cases hkn : k < n
    · have hk1 : (k : Int) < (n : Int) := by omega
      have hk9 : (k : Int) ≤ 1000000 := by omega
      obtain ⟨b1, o1, x, rfl, hb1, hx, hc1⟩ := (HP1.out _ HB.out).cell hkn
      obtain ⟨b2, o2, y, rfl, hb2, hy, hc2⟩ := (HP2.out _ HB.out).cell hkn
      obtain rfl : x = y := by rw [hx] at hy; exact Option.some.inj hy
      have y1 : wr.cell? ⟨b1, o1 + k, none⟩ = some (.string ⟨x.toArray⟩) := by rw [show o1 + k = o1 + (k * 1 + 0) by omega]; exact hc1 0 _ rfl
      have y2 : wr.cell? ⟨b2, o2 + k, none⟩ = some (.string ⟨x.toArray⟩) := by rw [show o2 + k = o2 + (k * 1 + 0) by omega]; exact hc2 0 _ rfl
      have hse := str_beqC x
      clear hb1 hb2 hx hy hc1 hc2
      go_wp2
      go_quiet (fail)
      go_wp2
      go_roundg (n - (k + 1))
      case measure => have := hg.out; omega
      case rel => exact ⟨k + 1, by go_num, by omega, Lib.hid (by have := hg.out; omega), Lib.hid (below_drewN' HB.out)⟩
    · have hk1 : ¬ (k : Int) < (n : Int) := by omega
      go_wp2
      go_ret
      exact ⟨rfl, HB.out⟩
set_option linter.unusedSimpArgs false in
set_option maxRecDepth 100000 in
set_option maxHeartbeats 8000000 in
theorem refOne_yes (A1 A2 : Option Addr) (c1 c2 : Nat) (a : AnsC) (w : World) (h1 : Byt w w.heap.size A1 a.data.length c1 a.data) (h2 : Byt w w.heap.size A2 a.data.length c2 a.data) :
    Calls Tryz.prog 52 #[.agg #[.string ⟨a.id.toArray⟩, .bool a.ok, .slice A1 a.data.length c1], .agg #[.string ⟨a.id.toArray⟩, .bool a.ok, .slice A2 a.data.length c2]] w fun e w' => e = .returned (.bool true) ∧ Below w.heap.size w w' := by
  obtain ⟨id, ok, d⟩ := a
  simp only at h1 h2 ⊢
  obtain ⟨n, hn⟩ : ∃ n, d.length = n := ⟨_, rfl⟩
  rw [hn] at h1 h2 ⊢
  obtain ⟨w1, hw1⟩ : ∃ w1, w.alloc (.cells #[.string ⟨id.toArray⟩, .bool ok, .slice A1 n c1] 71) = w1 := ⟨_, rfl⟩
  obtain ⟨w2, hw2⟩ : ∃ w2, w1.alloc (.cells #[.string ⟨id.toArray⟩, .bool ok, .slice A2 n c2] 71) = w2 := ⟨_, rfl⟩
  have hb1 : Below w.heap.size w w1 := by rw [← hw1]; exact (Below.refl _ _).alloc (Nat.le_refl _) _
  have hb2 : Below w1.heap.size w1 w2 := by rw [← hw2]; exact (Below.refl _ _).alloc (Nat.le_refl _) _
  have hbb : Below w.heap.size w w2 := hb1.trans (hb2.mono hb1.size)
  have hs1 := (h1.below hbb).str
  have hs2 := (h2.below hbb).str
  have k1 : w2.heap[w.heap.size]? = some (.cells #[.string ⟨id.toArray⟩, .bool ok, .slice A1 n c1] 71) := by rw [← hw2, ← hw1]; exact hp_old (hp_new _ _)
  have k2 : w2.heap[w1.heap.size]? = some (.cells #[.string ⟨id.toArray⟩, .bool ok, .slice A2 n c2] 71) := by rw [← hw2]; exact hp_new _ _
  have x0 : w2.cell? ⟨w.heap.size, 0, none⟩ = some (.string ⟨id.toArray⟩) := by rw [cell_of 0 k1]; rfl
  have x1 : w2.cell? ⟨w.heap.size, 1, none⟩ = some (.bool ok) := by rw [cell_of 1 k1]; rfl
  have x2 : w2.cell? ⟨w.heap.size, 2, none⟩ = some (.slice A1 n c1) := by rw [cell_of 2 k1]; rfl
  have z0 : w2.cell? ⟨w1.heap.size, 0, none⟩ = some (.string ⟨id.toArray⟩) := by rw [cell_of 0 k2]; rfl
  have z1 : w2.cell? ⟨w1.heap.size, 1, none⟩ = some (.bool ok) := by rw [cell_of 1 k2]; rfl
  have z2 : w2.cell? ⟨w1.heap.size, 2, none⟩ = some (.slice A2 n c2) := by rw [cell_of 2 k2]; rfl
  have hse := str_beqC id
  have hse2 := str_beqC d
  have HBB := Lib.hid hbb
  clear h1 h2 hb1 hb2 hbb k1 k2 hn
  cases ok
  all_goals
    go_enter Tryz.func52, Tryz.ntmps52
    go_wp2
    go_ret
    exact ⟨rfl, HBB.out⟩
end Go.Proofs.YtbllodeanfdebaaGreatDoor
