/- The document: Has, Check at any case. -/
import Derived.Test.YtbllodeanfdebaaGreatDoorRows
import Derived.WalkKit
import Derived.ProofKit
import Derived.OpenShut
import Derived.ShutString
import Derived.ChangeOld
import Derived.Below
import Derived.BigQuiet
import Derived.Deep.QuietTactic
import Derived.Lib.Hide
import Derived.Deep.RegionHeld3
import Derived.Lib.SlBytesConst
import Derived.Laws.CopyOwn
import Derived.Laws.CopyRow
import Derived.Lib.Bytes
import Derived.Deep.LoopGhost
import Derived.Deep.DeepFit
import Derived.Deep.DeepMust
import Derived.WalkSpells
import Derived.WalkLawsBesides
import Derived.Laws.EntriesVeiled
import Derived.Lib.IndexBytes
import Derived.Deep.RegionWith
import Derived.Tactics2
import Derived.Laws.Rows
import Derived.Lib.Replace
import Derived.Lib.Split
import Derived.Lib.ItoaNum
import Derived.Lib.AtoiAllCases
import Derived.Lib.AtoiErrMem
import Derived.Lib.AppendIntMem
import Derived.Maps.OwnOps
import Derived.Maps.OwnSet
import Derived.Maps.Views
import Derived.Maps.AppendAt
import Derived.Deep.AppendLies
import Derived.Defers
import Derived.Recover
import Derived.Laws.Pointers
import Derived.Test.YtbllodeanfdebaaGreatDoorShelf
import Derived.Test.YtbllodeanfdebaaGreatDoorBase
import Derived.Test.YtbllodeanfdebaaGreatDoorCsE
import Derived.Test.YtbllodeanfdebaaGreatDoorCsG
import Derived.Test.YtbllodeanfdebaaGreatDoorCsH
import Derived.Test.YtbllodeanfdebaaGreatDoorCsI
import Derived.Test.YtbllodeanfdebaaGreatDoorCsJ
import Derived.Test.YtbllodeanfdebaaGreatDoorCalm
import Derived.Test.YtbllodeanfdebaaGreatDoorCsL
import Derived.Test.YtbllodeanfdebaaGreatDoorRowS
import Derived.Test.YtbllodeanfdebaaGreatDoorRowG
import Derived.Test.YtbllodeanfdebaaGreatDoorCsO
import Derived.Test.YtbllodeanfdebaaGreatDoorCsM
import Derived.Test.YtbllodeanfdebaaGreatDoorCsN2
import Derived.Test.YtbllodeanfdebaaGreatDoorStL
import Derived.Test.YtbllodeanfdebaaGreatDoorCsO2
import Derived.Test.YtbllodeanfdebaaGreatDoorCsQ
import Derived.Test.YtbllodeanfdebaaGreatDoorStr
import Derived.Test.YtbllodeanfdebaaGreatDoorCsR
import Derived.Test.YtbllodeanfdebaaGreatDoorCsS
import Derived.Test.YtbllodeanfdebaaGreatDoorCsT
import Derived.Test.YtbllodeanfdebaaGreatDoorCsU
import Derived.Test.YtbllodeanfdebaaGreatDoorCsV
import Derived.Test.YtbllodeanfdebaaGreatDoorCsW
import Derived.Test.YtbllodeanfdebaaGreatDoorCsY
import Derived.Test.YtbllodeanfdebaaGreatDoorCuA
import Derived.Test.YtbllodeanfdebaaGreatDoorCuB
import Derived.Test.YtbllodeanfdebaaGreatDoorCtD
import Derived.Test.YtbllodeanfdebaaGreatDoorCtE
import Derived.Test.YtbllodeanfdebaaGreatDoorRpC
namespace Go.Proofs.YtbllodeanfdebaaGreatDoor
open Go.ChangeShapes Go.WideShapes Go.ChangeAt Go.RowKit
set_option linter.unusedVariables false
theorem mem_take_step {s : List UInt8} {k : Nat} {c : UInt8} (h : s[k]? = some c) (hn : (10 : UInt8) ∉ s.take k) (hc : c ≠ 10) : (10 : UInt8) ∉ s.take (k + 1) := by
  rw [List.take_add_one, h]
  intro hm
  rcases List.mem_append.1 hm with hm | hm
  · exact hn hm
  · simp at hm
    exact hc hm.symm
set_option linter.unusedSimpArgs false in
set_option maxRecDepth 100000 in
set_option maxHeartbeats 4000000 in
theorem refHas_c (s : List UInt8) (w : World) (hs : s.length ≤ 1000000) : Calls Tryz.prog 38 #[.string ⟨s.toArray⟩, .int .u8 10] w fun e w' => e = .returned (.bool (decide ((10 : UInt8) ∈ s))) ∧ w = w' := by
  have hs1 : (s.length : Int) ≤ 1000000 := by omega
  go_enter Tryz.func38, Tryz.ntmps38
  go_wp2_with fail
  go_loopg [5] s.length (fun g i wr => ∃ k : Nat, i = .int .i64 (k : Int) ∧ k ≤ s.length ∧ Hid (g + k = s.length) ∧ Hid ((10 : UInt8) ∉ s.take k) ∧ wr = w)
  case atStart => exact ⟨0, rfl, Nat.zero_le _, Lib.hid rfl, Lib.hid (by simp), rfl⟩
  case round =>
    obtain ⟨k, rfl, hk, hg, HN, rfl⟩ := hrel
    by_cases hkn : k < s.length
    · have hk1 : (k : Int) < (s.length : Int) := by omega
      obtain ⟨c, hc⟩ : ∃ c, s[k]? = some c := ⟨_, List.getElem?_eq_getElem hkn⟩
      have hix := fun W => run_strIndex s k hkn W
      rw [List.getD_eq_getElem?_getD, hc, Option.getD_some] at hix
      by_cases h10 : c = 10
      · subst h10
        have HM := Lib.hid (List.mem_of_getElem? hc)
        have e10 : ((UInt8.toNat 10 : Nat) : Int) = 10 := rfl
        rw [e10] at hix
        clear hc e10
        go_wp2
        go_ret
        exact ⟨by rw [decide_eq_true HM.out]; rfl, rfl⟩
      · have hz : ¬ ((c.toNat : Nat) : Int) = 10 := fun e => h10 (UInt8.toNat_inj.1 (by show c.toNat = 10; omega))
        have HM := Lib.hid (mem_take_step hc HN.out h10)
        clear hc h10
        generalize ((c.toNat : Nat) : Int) = z at *
        go_wp2
        go_roundg (s.length - (k + 1))
        case measure => have := hg.out; omega
        case rel => exact ⟨k + 1, by go_num, by omega, Lib.hid (by have := hg.out; omega), HM, rfl⟩
    · have hk1 : ¬ (k : Int) < (s.length : Int) := by omega
      have HM : Hid ((10 : UInt8) ∉ s) := Lib.hid (by have h9 := HN.out; rw [List.take_of_length_le (by omega)] at h9; exact h9)
      go_wp2
      go_ret
      exact ⟨by rw [decide_eq_false HM.out]; rfl, rfl⟩
set_option linter.unusedSimpArgs false in
set_option maxRecDepth 100000 in
set_option maxHeartbeats 8000000 in
theorem refBigI_c (doc : List UInt8) (A2 A3 : Option Addr) (n2 c2 n3 c3 : Nat) (m0 m1 m2 m3 m4 m5 : Int) (ys : List AnV) (w : World) (h : RRd cAn 3 w w.heap.size A3 n3 c3 ys) (hs : doc.length + sumD ys ≤ 1048576) (h2 : n2 ≤ 1000000) (h3 : n3 ≤ 1000000) :
    Calls Tryz.prog 28 #[.agg #[.string ⟨doc.toArray⟩, .int .i64 m0, .int .i64 m1, .int .i64 m2, .int .i64 m3, .int .i64 m4, .int .i64 m5, .slice A2 n2 c2, .slice A3 n3 c3]] w fun e w' => e = .returned (.bool (decide (64 < n2 ∨ 256 < n3))) ∧ Below w.heap.size w w' := by
  have HR := Lib.hid h
  have HS := Lib.hid hs
  have HL := Lib.hid h.len
  have hs1 : (doc.length : Int) ≤ 1048576 := by omega
  have h31 : (n3 : Int) ≤ 1000000 := by omega
  have h21 : (n2 : Int) ≤ 1000000 := by omega
  clear h hs
  go_enter Tryz.func28, Tryz.ntmps28
  go_wp2_with fail
  go_loopg [3, 4] n3 (fun g s i wr => ∃ (k : Nat) (z : Int), i = .int .i64 (k : Int) ∧ k ≤ n3 ∧ s = .int .i64 z ∧ Hid (z = ((doc.length + sumD (ys.take k) : Nat) : Int)) ∧ Hid (g + k = n3) ∧ Hid (Below w.heap.size w wr ∧ wr.heap[w.heap.size]? = some (.cells #[.string ⟨doc.toArray⟩, .int .i64 m0, .int .i64 m1, .int .i64 m2, .int .i64 m3, .int .i64 m4, .int .i64 m5, .slice A2 n2 c2, .slice A3 n3 c3] 34)))
  case atStart => exact ⟨0, (doc.length : Int), rfl, Nat.zero_le _, rfl, Lib.hid (by simp [sumD]), Lib.hid rfl, Lib.hid ⟨(Below.refl _ _).alloc (Nat.le_refl _) _, hp_new _ _⟩⟩
  case round =>
    obtain ⟨k, z, rfl, hk, rfl, HZ, hg, HB⟩ := hrel
    by_cases hkn : k < n3
    · have hk1 : (k : Int) < (n3 : Int) := by omega
      obtain ⟨b, o, x, rfl, hbB, hx, hc⟩ := (HR.out.below HB.out.1).cell hkn
      have z0 : wr.cell? ⟨b, o + k * 3, none⟩ = some (.string ⟨x.a.id.toArray⟩) := by rw [show o + k * 3 = o + (k * 3 + 0) by omega]; exact hc 0 _ rfl
      have z1 : wr.cell? ⟨b, o + k * 3 + 1, none⟩ = some (.bool x.a.ok) := by rw [show o + k * 3 + 1 = o + (k * 3 + 1) by omega]; exact hc 1 _ rfl
      have z2 : wr.cell? ⟨b, o + k * 3 + 2, none⟩ = some (.slice x.A x.a.data.length x.cap) := by rw [show o + k * 3 + 2 = o + (k * 3 + 2) by omega]; exact hc 2 _ rfl
      have y8 : wr.cell? ⟨w.heap.size, 8, none⟩ = some (.slice (some ⟨b, o, none⟩) n3 c3) := by rw [cell_of 8 HB.out.2]; rfl
      have hsum := sumD_at hx
      have HZ2 : Hid (z + (x.a.data.length : Int) = ((doc.length + sumD (ys.take (k + 1)) : Nat) : Int)) := Lib.hid (by rw [HZ.out, hsum.1]; omega)
      have hzb : z + (x.a.data.length : Int) ≤ 1048576 := by have := HS.out; have := hsum.2; rw [HZ.out]; omega
      have hz0 : 0 ≤ z := by rw [HZ.out]; omega
      clear hc hx hsum
      go_wp2
      go_roundg (n3 - (k + 1))
      case measure => have := hg.out; omega
      case rel => exact ⟨k + 1, _, by go_num, by omega, rfl, HZ2, Lib.hid (by omega), HB⟩
    · obtain rfl : k = n3 := by omega
      have hk1 : ¬ (k : Int) < (k : Int) := by omega
      have hz9 : z ≤ 1048576 := by rw [HZ.out]; rw [List.take_of_length_le (by rw [HL.out]; exact Nat.le_refl _)]; have := HS.out; omega
      have y7 : wr.cell? ⟨w.heap.size, 7, none⟩ = some (.slice A2 n2 c2) := by rw [cell_of 7 HB.out.2]; rfl
      have y8 : wr.cell? ⟨w.heap.size, 8, none⟩ = some (.slice A3 k c3) := by rw [cell_of 8 HB.out.2]; rfl
      by_cases ha : 64 < n2
      · have ha1 : (64 : Int) < (n2 : Int) := by omega
        go_wp2
        go_ret
        exact ⟨by simp [ha], HB.out.1⟩
      · have ha1 : ¬ (64 : Int) < (n2 : Int) := by omega
        by_cases hb : 256 < k
        · have hb1 : (256 : Int) < (k : Int) := by omega
          go_wp2
          go_ret
          exact ⟨by simp [ha, hb], HB.out.1⟩
        · have hb1 : ¬ (256 : Int) < (k : Int) := by omega
          have hc1 : ¬ (1048576 : Int) < z := by omega
          go_wp2
          go_ret
          exact ⟨by simp [ha, hb], HB.out.1⟩

/-- A case of the document's in memory, its limits any numbers. -/
structure RInI (w : World) (al : List (List UInt8)) (A2 A3 : Option Addr) (c2 c3 : Nat) (ys : List AnV) : Prop where
  al : RRd cS1 1 w w.heap.size A2 al.length c2 al
  sc : RRd cAn 3 w w.heap.size A3 ys.length c3 ys
  dat : ∀ y ∈ ys, Byt w w.heap.size y.A y.a.data.length y.cap y.a.data
theorem RInI.up {w w' : World} {al : List (List UInt8)} {A2 A3 : Option Addr} {c2 c3 : Nat} {ys : List AnV} (h : RInI w al A2 A3 c2 c3 ys) (hb : Below w.heap.size w w') : RInI w' al A2 A3 c2 c3 ys :=
  ⟨(h.al.below hb).more hb.size, (h.sc.below hb).more hb.size, fun y hy => ((h.dat y hy).below hb).more hb.size⟩
set_option linter.unusedSimpArgs false in
set_option maxRecDepth 100000 in
set_option maxHeartbeats 40000000 in
theorem refCheckI_c (w : World) (doc : List UInt8) (al : List (List UInt8)) (A2 A3 : Option Addr) (c2 c3 : Nat) (ys : List AnV) (m0 m1 m2 m3 m4 m5 : Int) (h : RInI w al A2 A3 c2 c3 ys) (ha : al.length ≤ 1000000) (hy : ys.length ≤ 1000000) (hs : doc.length + sumD ys ≤ 1048576) (hal : ∀ p ∈ al, p.length ≤ 1000000) (hid : ∀ y ∈ ys, y.a.id.length ≤ 1000000) :
    Calls Tryz.prog 13 #[.agg #[.string ⟨doc.toArray⟩, .int .i64 m0, .int .i64 m1, .int .i64 m2, .int .i64 m3, .int .i64 m4, .int .i64 m5, .slice A2 al.length c2, .slice A3 ys.length c3]] w fun e w' => e = .returned (.int .i64 (checkK [m0, m1, m2, m3, m4, m5] al (ys.map AnV.a))) ∧ Below w.heap.size w w' := by
  obtain ⟨N, hN⟩ : ∃ N, w.heap.size = N := ⟨_, rfl⟩
  obtain ⟨w1, hw1⟩ : ∃ w1, w.alloc (.cells #[.string ⟨doc.toArray⟩, .int .i64 m0, .int .i64 m1, .int .i64 m2, .int .i64 m3, .int .i64 m4, .int .i64 m5, .slice A2 al.length c2, .slice A3 ys.length c3] 34) = w1 := ⟨_, rfl⟩
  have hc1 : w1.heap[N]? = some (.cells #[.string ⟨doc.toArray⟩, .int .i64 m0, .int .i64 m1, .int .i64 m2, .int .i64 m3, .int .i64 m4, .int .i64 m5, .slice A2 al.length c2, .slice A3 ys.length c3] 34) := by rw [← hw1, ← hN]; exact hp_new _ _
  have hb1 : Below w.heap.size w w1 := by rw [← hw1]; exact (Below.refl _ _).alloc (Nat.le_refl _) _
  have hcell : ∀ k, k < 6 → ∃ v : Int, [m0, m1, m2, m3, m4, m5][k]? = some v ∧ (#[.int .i64 m0, .int .i64 m1, .int .i64 m2, .int .i64 m3, .int .i64 m4, .int .i64 m5] : Array Value)[k]? = some (.int .i64 v) := fun k hk => by
    rcases (show k = 0 ∨ k = 1 ∨ k = 2 ∨ k = 3 ∨ k = 4 ∨ k = 5 by omega) with rfl | rfl | rfl | rfl | rfl | rfl <;> exact ⟨_, rfl, rfl⟩
  have HC1 := Lib.hid (And.intro hc1 (And.intro hb1 hcell))
  have HI1 := Lib.hid (h.up hb1)
  have q1 : w1.cell? ⟨N, 1, none⟩ = some (.int .i64 m0) := by rw [cell_of 1 hc1]; rfl
  have q2 : w1.cell? ⟨N, 2, none⟩ = some (.int .i64 m1) := by rw [cell_of 2 hc1]; rfl
  have q3 : w1.cell? ⟨N, 3, none⟩ = some (.int .i64 m2) := by rw [cell_of 3 hc1]; rfl
  have q4 : w1.cell? ⟨N, 4, none⟩ = some (.int .i64 m3) := by rw [cell_of 4 hc1]; rfl
  have q5 : w1.cell? ⟨N, 5, none⟩ = some (.int .i64 m4) := by rw [cell_of 5 hc1]; rfl
  have q6 : w1.cell? ⟨N, 6, none⟩ = some (.int .i64 m5) := by rw [cell_of 6 hc1]; rfl
  have q7 : w1.cell? ⟨N, 7, none⟩ = some (.slice A2 al.length c2) := by rw [cell_of 7 hc1]; rfl
  have HA := Lib.hid ha
  have HY := Lib.hid hy
  have HS := Lib.hid hs
  have HAL := Lib.hid hal
  have HID := Lib.hid hid
  obtain ⟨MS, hMS⟩ : ∃ MS, [m0, m1, m2, m3, m4, m5] = MS := ⟨_, rfl⟩
  have HMS := Lib.hid hMS
  have HNN := Lib.hid hN
  rw [hMS] at HC1 ⊢
  clear h hcell hc1 hb1 ha hy hs hMS hal hid
  go_enter Tryz.func13, Tryz.ntmps13
  go_wp2_with fail
  refine (refLimits_c m0 m1 m2 m3 m4 m5 A2 al.length c2 w1).mono ?_
  rintro e w3 ⟨p, rfl, hl3⟩
  have HP3 := Lib.hid (And.intro hl3.out.1 (And.intro hl3.out.2 (And.intro ((hl3.out.2.block _ (lt_of HC1.out.1)).trans HC1.out.1) (HI1.out.up hl3.out.2))))
  clear hl3 q1 q2 q3 q4 q5 q6 q7
  go_wp2_with fail
  go_loopg [3, 5] 6 (fun g b i wr => ∃ (k : Nat) (bb : Bool), i = .int .i64 (k : Int) ∧ k ≤ 6 ∧ b = .bool bb ∧ Hid (bb = (MS.take k).any badM) ∧ Hid (g + k = 6) ∧ w3 = wr)
  case atStart => exact ⟨0, false, rfl, by omega, rfl, Lib.hid (by simp), Lib.hid rfl, rfl⟩
  case round =>
    obtain ⟨k, bb, rfl, hk, rfl, HBB, hg, rfl⟩ := hrel
    by_cases hkn : k < 6
    · obtain ⟨v, hv, hcv⟩ := HC1.out.2.2 k hkn
      have hk1 : (k : Int) < 6 := by omega
      have a1 : w3.cell? ⟨p, k, none⟩ = some (.int .i64 v) := by rw [cell_of k HP3.out.1]; exact hcv
      have HST : Hid ((MS.take (k + 1)).any badM = (bb || badM v)) := Lib.hid (by rw [any_step badM hv, HBB.out])
      clear hv hcv
      cases bb with
      | true =>
        go_wp2
        go_roundg (6 - (k + 1))
        case measure => have := hg.out; omega
        case rel => exact ⟨k + 1, true, by go_num, by omega, rfl, Lib.hid (by rw [HST.out]; rfl), Lib.hid (by have := hg.out; omega), rfl⟩
      | false =>
        by_cases v0 : v < 0
        · have HBM : Hid (badM v = true) := Lib.hid (by unfold badM; rw [decide_eq_true v0]; rfl)
          go_wp2
          go_roundg (6 - (k + 1))
          case measure => have := hg.out; omega
          case rel => exact ⟨k + 1, true, by go_num, by omega, rfl, Lib.hid (by rw [HST.out, HBM.out]; rfl), Lib.hid (by have := hg.out; omega), rfl⟩
        · by_cases v1 : (1099511627776 : Int) < v
          · have HBM : Hid (badM v = true) := Lib.hid (by unfold badM; rw [decide_eq_true v1]; simp)
            go_wp2
            go_roundg (6 - (k + 1))
            case measure => have := hg.out; omega
            case rel => exact ⟨k + 1, true, by go_num, by omega, rfl, Lib.hid (by rw [HST.out, HBM.out]; rfl), Lib.hid (by have := hg.out; omega), rfl⟩
          · have HBM : Hid (badM v = false) := Lib.hid (by unfold badM; rw [decide_eq_false v0, decide_eq_false v1]; rfl)
            go_wp2
            go_roundg (6 - (k + 1))
            case measure => have := hg.out; omega
            case rel => exact ⟨k + 1, false, by go_num, by omega, rfl, Lib.hid (by rw [HST.out, HBM.out]; rfl), Lib.hid (by have := hg.out; omega), rfl⟩
    · have hk1 : ¬ (k : Int) < 6 := by omega
      have q7 : w3.cell? ⟨N, 7, none⟩ = some (.slice A2 al.length c2) := by rw [cell_of 7 HP3.out.2.2.1]; rfl
      have q8 : w3.cell? ⟨N, 8, none⟩ = some (.slice A3 ys.length c3) := by rw [cell_of 8 HP3.out.2.2.1]; rfl
      have HB1 : Hid (bb = MS.any badM) := Lib.hid (by have h9 := HBB.out; rw [List.take_of_length_le (by rw [← HMS.out]; simp; omega)] at h9; exact h9)
      clear hkn hk hg HBB
      go_wp2_with fail
      go_loopg [3, 6] al.length (fun g b i wr => ∃ (k : Nat) (b2 : Bool), i = .int .i64 (k : Int) ∧ k ≤ al.length ∧ b = .bool b2 ∧ Hid (b2 = (bb || (al.take k).any oddB)) ∧ Hid (g + k = al.length) ∧ w3 = wr)
      case atStart => exact ⟨0, bb, rfl, by omega, rfl, Lib.hid (by simp), Lib.hid rfl, rfl⟩
      case round =>
        obtain ⟨k, b2, rfl, hk, rfl, HBB, hg, rfl⟩ := hrel
        by_cases hkn : k < al.length
        · have hk1 : (k : Int) < (al.length : Int) := by omega
          have hk9 : (k : Int) ≤ 1000000 := by have := HA.out; omega
          obtain ⟨b, o, x, rfl, hbB, hx, hc⟩ := HP3.out.2.2.2.al.cell hkn
          have z0 : w3.cell? ⟨b, o + k, none⟩ = some (.string ⟨x.toArray⟩) := by rw [show o + k = o + (k * 1 + 0) by omega]; exact hc 0 _ rfl
          have HST : Hid ((bb || (al.take (k + 1)).any oddB) = (b2 || oddB x)) := Lib.hid (by rw [any_step oddB hx, HBB.out, Bool.or_assoc])
          have HAS := Lib.hid (refHas_c x w3 (HAL.out x (List.mem_of_getElem? hx)))
          clear hc hx
          cases b2 with
          | true =>
            go_wp2
            go_roundg (al.length - (k + 1))
            case measure => have := hg.out; omega
            case rel => exact ⟨k + 1, true, by go_num, by omega, rfl, Lib.hid (by rw [HST.out]; rfl), Lib.hid (by have := hg.out; omega), rfl⟩
          | false =>
            by_cases hxe : x = []
            · subst hxe
              go_wp2
              go_roundg (al.length - (k + 1))
              case measure => have := hg.out; omega
              case rel => exact ⟨k + 1, true, by go_num, by omega, rfl, Lib.hid (by rw [HST.out]; rfl), Lib.hid (by have := hg.out; omega), rfl⟩
            · have hse := str_bneC hxe
              have hie : x.isEmpty = false := by simpa using hxe
              have hod : oddB x = decide ((10 : UInt8) ∈ x) := by unfold oddB; rw [hie]; rfl
              rw [hod] at HST
              clear hod
              obtain ⟨od, hod⟩ : ∃ od, decide ((10 : UInt8) ∈ x) = od := ⟨_, rfl⟩
              rw [hod] at HST HAS
              clear hod hxe
              go_wp2_with fail
              refine HAS.out.mono ?_
              rintro e w10 ⟨rfl, rfl⟩
              go_wp2
              go_roundg (al.length - (k + 1))
              case measure => have := hg.out; omega
              case rel => exact ⟨k + 1, od, by go_num, by omega, rfl, Lib.hid (by rw [HST.out]; cases od <;> rfl), Lib.hid (by have := hg.out; omega), rfl⟩
        · have hk1 : ¬ (k : Int) < (al.length : Int) := by omega
          have HB2 : Hid (b2 = (bb || al.any oddB)) := Lib.hid (by have h9 := HBB.out; rw [List.take_of_length_le (by omega)] at h9; exact h9)
          clear hkn hk hg HBB
          go_wp2_with fail
          go_loopg [3, 7] ys.length (fun g b i wr => ∃ (k : Nat) (b3 : Bool), i = .int .i64 (k : Int) ∧ k ≤ ys.length ∧ b = .bool b3 ∧ Hid (b3 = (b2 || ((ys.map AnV.a).take k).any badA)) ∧ Hid (g + k = ys.length) ∧ Hid (Below w3.heap.size w3 wr))
          case atStart => exact ⟨0, b2, rfl, by omega, rfl, Lib.hid (by simp), Lib.hid rfl, Lib.hid (Below.refl _ _)⟩
          case round =>
            obtain ⟨k, b3, rfl, hk, rfl, HBB, hg, HB⟩ := hrel
            have hcs := (HB.out.block _ (lt_of HP3.out.2.2.1)).trans HP3.out.2.2.1
            have y8 : wr.cell? ⟨N, 8, none⟩ = some (.slice A3 ys.length c3) := by rw [cell_of 8 hcs]; rfl
            by_cases hkn : k < ys.length
            · have hk1 : (k : Int) < (ys.length : Int) := by omega
              have hk9 : (k : Int) ≤ 1000000 := by have := HY.out; omega
              obtain ⟨b, o, x, rfl, hbB, hx, hc⟩ := (HP3.out.2.2.2.up HB.out).sc.cell hkn
              have z0 : wr.cell? ⟨b, o + k * 3, none⟩ = some (.string ⟨x.a.id.toArray⟩) := by rw [show o + k * 3 = o + (k * 3 + 0) by omega]; exact hc 0 _ rfl
              have z1 : wr.cell? ⟨b, o + k * 3 + 1, none⟩ = some (.bool x.a.ok) := by rw [show o + k * 3 + 1 = o + (k * 3 + 1) by omega]; exact hc 1 _ rfl
              have z2 : wr.cell? ⟨b, o + k * 3 + 2, none⟩ = some (.slice x.A x.a.data.length x.cap) := by rw [show o + k * 3 + 2 = o + (k * 3 + 2) by omega]; exact hc 2 _ rfl
              have hxa : (ys.map AnV.a)[k]? = some x.a := by rw [List.getElem?_map, hx]; rfl
              have HST : Hid ((b2 || ((ys.map AnV.a).take (k + 1)).any badA) = (b3 || (oddB x.a.id || !x.a.ok && decide (0 < x.a.data.length)))) := Lib.hid (by rw [any_step badA hxa, HBB.out, Bool.or_assoc]; rfl)
              have HAS := Lib.hid (fun W => refHas_c x.a.id W (HID.out x (List.mem_of_getElem? hx)))
              have ka := (Below.refl _ wr).alloc (Nat.le_refl _) (.cells #[.string ⟨x.a.id.toArray⟩, .bool x.a.ok, .slice x.A x.a.data.length x.cap] 71)
              have HB2 := Lib.hid (HB.out.trans (ka.mono HB.out.size))
              clear hc hx hxa ka hcs
              cases b3 with
              | true =>
                go_wp2
                go_roundg (ys.length - (k + 1))
                case measure => have := hg.out; omega
                case rel => exact ⟨k + 1, true, by go_num, by omega, rfl, Lib.hid (by rw [HST.out]; rfl), Lib.hid (by have := hg.out; omega), HB2⟩
              | false =>
                by_cases hxe : x.a.id = []
                · have hod : oddB x.a.id = true := by unfold oddB; rw [hxe]; rfl
                  rw [hod] at HST
                  rw [hxe] at z0 HB2
                  clear hod hxe HAS
                  go_wp2
                  go_roundg (ys.length - (k + 1))
                  case measure => have := hg.out; omega
                  case rel => exact ⟨k + 1, true, by go_num, by omega, rfl, Lib.hid (by rw [HST.out]; rfl), Lib.hid (by have := hg.out; omega), HB2⟩
                · have hse := str_bneC hxe
                  have hie : x.a.id.isEmpty = false := by simpa using hxe
                  have hod : oddB x.a.id = decide ((10 : UInt8) ∈ x.a.id) := by unfold oddB; rw [hie]; rfl
                  rw [hod] at HST
                  clear hod
                  obtain ⟨od, hod⟩ : ∃ od, decide ((10 : UInt8) ∈ x.a.id) = od := ⟨_, rfl⟩
                  rw [hod] at HST HAS
                  clear hod hxe
                  cases od with
                  | true =>
                    go_wp2_with fail
                    refine (HAS.out _).mono ?_
                    rintro e w10 ⟨rfl, rfl⟩
                    go_wp2
                    go_roundg (ys.length - (k + 1))
                    case measure => have := hg.out; omega
                    case rel => exact ⟨k + 1, true, by go_num, by omega, rfl, Lib.hid (by rw [HST.out]; rfl), Lib.hid (by have := hg.out; omega), HB2⟩
                  | false =>
                    cases hxo : x.a.ok with
                    | true =>
                      rw [hxo] at z1 HB2 HST
                      clear hxo
                      go_wp2_with fail
                      refine (HAS.out _).mono ?_
                      rintro e w10 ⟨rfl, rfl⟩
                      go_wp2
                      go_roundg (ys.length - (k + 1))
                      case measure => have := hg.out; omega
                      case rel => exact ⟨k + 1, false, by go_num, by omega, rfl, Lib.hid (by rw [HST.out]; rfl), Lib.hid (by have := hg.out; omega), HB2⟩
                    | false =>
                      rw [hxo] at z1 HB2 HST
                      clear hxo
                      by_cases hd : 0 < x.a.data.length
                      · have hd0 : (0 : Int) < (x.a.data.length : Int) := by omega
                        have HHD := Lib.hid (decide_eq_true hd)
                        clear hd
                        go_wp2_with fail
                        refine (HAS.out _).mono ?_
                        rintro e w10 ⟨rfl, rfl⟩
                        go_wp2
                        go_roundg (ys.length - (k + 1))
                        case measure => have := hg.out; omega
                        case rel => exact ⟨k + 1, true, by go_num, by omega, by first | rfl | rw [HHD.out], Lib.hid (by rw [HST.out, HHD.out]; rfl), Lib.hid (by have := hg.out; omega), HB2⟩
                      · have hd0 : ¬ (0 : Int) < (x.a.data.length : Int) := by omega
                        have HHD := Lib.hid (decide_eq_false hd)
                        clear hd
                        go_wp2_with fail
                        refine (HAS.out _).mono ?_
                        rintro e w10 ⟨rfl, rfl⟩
                        go_wp2
                        go_roundg (ys.length - (k + 1))
                        case measure => have := hg.out; omega
                        case rel => exact ⟨k + 1, false, by go_num, by omega, by first | rfl | rw [HHD.out], Lib.hid (by rw [HST.out, HHD.out]; rfl), Lib.hid (by have := hg.out; omega), HB2⟩
            · have hk1 : ¬ (k : Int) < (ys.length : Int) := by omega
              have HBF := Lib.hid (HC1.out.2.1.trans ((HP3.out.2.1.trans (HB.out.mono HP3.out.2.1.size)).mono HC1.out.2.1.size))
              have HW : Hid (b3 = wrongB MS al (ys.map AnV.a)) := Lib.hid (by have h9 := HBB.out; rw [List.take_of_length_le (by rw [List.length_map]; omega), HB2.out, HB1.out] at h9; rw [h9]; unfold wrongB; rw [Bool.or_comm (MS.any badM)])
              cases b3 with
              | true =>
                have HK : Hid (checkK MS al (ys.map AnV.a) = 2) := Lib.hid (by unfold checkK; rw [← HW.out]; rfl)
                clear hcs
                go_wp2
                go_ret
                exact ⟨by rw [HK.out]; rfl, by first | exact HBF.out | (rw [← HNN.out]; exact HBF.out)⟩
              | false =>
                have HK : Hid (checkK MS al (ys.map AnV.a) = if 64 < al.length ∨ 256 < ys.length then 13 else 0) := Lib.hid (by unfold checkK; rw [← HW.out, List.length_map]; rfl)
                have BG := Lib.hid (refBigI_c doc A2 A3 al.length c2 ys.length c3 m0 m1 m2 m3 m4 m5 ys wr (HP3.out.2.2.2.up HB.out).sc HS.out HA.out HY.out)
                have q0 : wr.cell? ⟨N, 0, none⟩ = some (.string ⟨doc.toArray⟩) := by rw [cell_of 0 hcs]; rfl
                have q1 : wr.cell? ⟨N, 1, none⟩ = some (.int .i64 m0) := by rw [cell_of 1 hcs]; rfl
                have q2 : wr.cell? ⟨N, 2, none⟩ = some (.int .i64 m1) := by rw [cell_of 2 hcs]; rfl
                have q3 : wr.cell? ⟨N, 3, none⟩ = some (.int .i64 m2) := by rw [cell_of 3 hcs]; rfl
                have q4 : wr.cell? ⟨N, 4, none⟩ = some (.int .i64 m3) := by rw [cell_of 4 hcs]; rfl
                have q5 : wr.cell? ⟨N, 5, none⟩ = some (.int .i64 m4) := by rw [cell_of 5 hcs]; rfl
                have q6 : wr.cell? ⟨N, 6, none⟩ = some (.int .i64 m5) := by rw [cell_of 6 hcs]; rfl
                have q77 : wr.cell? ⟨N, 7, none⟩ = some (.slice A2 al.length c2) := by rw [cell_of 7 hcs]; rfl
                clear hcs
                by_cases hbig : 64 < al.length ∨ 256 < ys.length
                · rw [decide_eq_true hbig] at BG
                  rw [if_pos hbig] at HK
                  clear hbig
                  go_wp2_with fail
                  refine BG.out.mono ?_
                  rintro e w10 ⟨rfl, hb10⟩
                  have HBG := Lib.hid (HBF.out.trans (hb10.mono HBF.out.size))
                  clear hb10
                  go_wp2
                  go_ret
                  exact ⟨by rw [HK.out]; rfl, by first | exact HBG.out | (rw [← HNN.out]; exact HBG.out)⟩
                · rw [decide_eq_false hbig] at BG
                  rw [if_neg hbig] at HK
                  clear hbig
                  go_wp2_with fail
                  refine BG.out.mono ?_
                  rintro e w10 ⟨rfl, hb10⟩
                  have HBG := Lib.hid (HBF.out.trans (hb10.mono HBF.out.size))
                  clear hb10
                  go_wp2
                  go_ret
                  exact ⟨by rw [HK.out]; rfl, by first | exact HBG.out | (rw [← HNN.out]; exact HBG.out)⟩
end Go.Proofs.YtbllodeanfdebaaGreatDoor
