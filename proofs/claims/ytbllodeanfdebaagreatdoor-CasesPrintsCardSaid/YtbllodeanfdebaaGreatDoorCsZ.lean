/- check: a case that can be printed passes. -/
import Derived.Test.YtbllodeanfdebaaGreatDoorRows
import Derived.WalkKit
import Derived.ProofKit
import Derived.OpenShut
import Derived.ShutString
import Derived.ChangeOld
import Derived.Below
import Derived.BigQuiet
import Derived.Deep.QuietTactic
import Derived.Lib.Hide
import Derived.Deep.RegionHeld3
import Derived.Lib.SlBytesConst
import Derived.Laws.CopyOwn
import Derived.Laws.CopyRow
import Derived.Lib.Bytes
import Derived.Deep.LoopGhost
import Derived.Deep.DeepFit
import Derived.Deep.DeepMust
import Derived.WalkSpells
import Derived.WalkLawsBesides
import Derived.Laws.EntriesVeiled
import Derived.Lib.IndexBytes
import Derived.Deep.RegionWith
import Derived.Tactics2
import Derived.Laws.Rows
import Derived.Lib.Replace
import Derived.Lib.Split
import Derived.Lib.ItoaNum
import Derived.Lib.AtoiAllCases
import Derived.Lib.AtoiErrMem
import Derived.Lib.AppendIntMem
import Derived.Maps.OwnOps
import Derived.Maps.OwnSet
import Derived.Maps.Views
import Derived.Maps.AppendAt
import Derived.Deep.AppendLies
import Derived.Defers
import Derived.Recover
import Derived.Laws.Pointers
import Derived.Test.YtbllodeanfdebaaGreatDoorShelf
import Derived.Test.YtbllodeanfdebaaGreatDoorBase
import Derived.Test.YtbllodeanfdebaaGreatDoorCsE
import Derived.Test.YtbllodeanfdebaaGreatDoorCsG
import Derived.Test.YtbllodeanfdebaaGreatDoorCsH
import Derived.Test.YtbllodeanfdebaaGreatDoorCsI
import Derived.Test.YtbllodeanfdebaaGreatDoorCsJ
import Derived.Test.YtbllodeanfdebaaGreatDoorCalm
import Derived.Test.YtbllodeanfdebaaGreatDoorCsL
import Derived.Test.YtbllodeanfdebaaGreatDoorRowS
import Derived.Test.YtbllodeanfdebaaGreatDoorRowG
import Derived.Test.YtbllodeanfdebaaGreatDoorCsO
import Derived.Test.YtbllodeanfdebaaGreatDoorCsM
import Derived.Test.YtbllodeanfdebaaGreatDoorCsN2
import Derived.Test.YtbllodeanfdebaaGreatDoorStL
import Derived.Test.YtbllodeanfdebaaGreatDoorCsO2
import Derived.Test.YtbllodeanfdebaaGreatDoorCsQ
import Derived.Test.YtbllodeanfdebaaGreatDoorStr
import Derived.Test.YtbllodeanfdebaaGreatDoorCsR
import Derived.Test.YtbllodeanfdebaaGreatDoorCsS
import Derived.Test.YtbllodeanfdebaaGreatDoorCsT
import Derived.Test.YtbllodeanfdebaaGreatDoorCsU
import Derived.Test.YtbllodeanfdebaaGreatDoorCsV
import Derived.Test.YtbllodeanfdebaaGreatDoorCsW
import Derived.Test.YtbllodeanfdebaaGreatDoorCsY
namespace Go.Proofs.YtbllodeanfdebaaGreatDoor
open Go.ChangeShapes Go.WideShapes Go.ChangeAt Go.RowKit
set_option linter.unusedVariables false
set_option linter.unusedSimpArgs false in
set_option maxRecDepth 100000 in
set_option maxHeartbeats 110000000 in
theorem check_c (w : World) (c : CaseC) (A1 A2 A3 : Option Addr) (c1 c2 c3 : Nat) (ys : List AnV) (h : CIn w c A1 A2 A3 c1 c2 c3 ys) (hg : CGood c) :
    Calls Tryz.prog 32 #[caseW c A1 A2 A3 c1 c2 c3] w fun e w' => e = .returned (.int .i64 0) ∧ Below w.heap.size w w' := by
  obtain ⟨m0, m1, m2, m3, m4, m5, HCV⟩ := caseV_ints c.lim
  obtain ⟨N, hN⟩ : ∃ N, w.heap.size = N := ⟨_, rfl⟩
  obtain ⟨w1, hw1⟩ : ∃ w1, w.alloc (.cells #[.slice A1 c.doc.length c1, .int .i64 m0, .int .i64 m1, .int .i64 m2, .int .i64 m3, .int .i64 m4, .int .i64 m5, .slice A2 c.allow.length c2, .slice A3 c.script.length c3] 29) = w1 := ⟨_, rfl⟩
  have hc1 : w1.heap[N]? = some (.cells #[.slice A1 c.doc.length c1, .int .i64 m0, .int .i64 m1, .int .i64 m2, .int .i64 m3, .int .i64 m4, .int .i64 m5, .slice A2 c.allow.length c2, .slice A3 c.script.length c3] 29) := by rw [← hw1, ← hN]; exact hp_new _ _
  have hb1 : Below w.heap.size w w1 := by rw [← hw1]; exact (Below.refl _ _).alloc (Nat.le_refl _) _
  have hlim : ∀ k : Nat, k < 6 → ∃ (v : Nat), c.lim[k]? = some v ∧ v ≤ 1099511627776 := fun k hk => by
    refine ⟨c.lim[k]'(by rw [hg.six]; exact hk), List.getElem?_eq_getElem _, hg.nums _ (List.getElem_mem _)⟩
  have hcs : w1.heap[N]? = some (.cells (caseV (.slice A1 c.doc.length c1) c.lim (.slice A2 c.allow.length c2) (.slice A3 c.script.length c3)) 29) := by rw [HCV]; exact hc1
  have hcell : ∀ k v, k < 6 → c.lim[k]? = some v → (caseV (.slice A1 c.doc.length c1) c.lim (.slice A2 c.allow.length c2) (.slice A3 c.script.length c3))[1 + k]? = some (.int .i64 (v : Nat)) := fun k v hk hv => by
    have e : c.lim.getD k 0 = v := by rw [List.getD_eq_getElem?_getD, hv]; rfl
    rw [← e]
    rcases (show k = 0 ∨ k = 1 ∨ k = 2 ∨ k = 3 ∨ k = 4 ∨ k = 5 by omega) with rfl | rfl | rfl | rfl | rfl | rfl <;> rfl
  have HC1 := Lib.hid (And.intro hcs (And.intro hb1 (And.intro hlim hcell)))
  have HI1 := Lib.hid (h.up hb1)
  have HG := Lib.hid hg
  have HNN := Lib.hid hN
  have q7 : w1.cell? ⟨N, 7, none⟩ = some (.slice A2 c.allow.length c2) := by rw [cell_of 7 hc1]; rfl
  have CO := Lib.hid (oddContains_no A2 c.allow.length c2 c.allow w1 HI1.out.al (by have := hg.na; omega) hg.allow)
  unfold caseW
  rw [HCV]
  clear h hg hlim hcell hcs hb1 hc1
  go_enter Tryz.func32, Tryz.ntmps32
  go_wp2_with fail
  refine CO.out.mono ?_
  rintro e w2 ⟨rfl, hw2⟩
  subst hw2
  clear CO q7
  go_wp2_with fail
  refine (limits_c N w1).mono ?_
  rintro e w3 ⟨rfl, hpt, hb3⟩
  have HP3 := Lib.hid (And.intro hpt (And.intro hb3 (And.intro ((hb3.block _ (lt_of HC1.out.1)).trans HC1.out.1) (HI1.out.up hb3))))
  clear hpt hb3
  go_wp2_with fail
  go_loopg [3, 15] 6 (fun g b i wr => ∃ k : Nat, i = .int .i64 (k : Int) ∧ k ≤ 6 ∧ b = .bool false ∧ Hid (g + k = 6) ∧ w3 = wr)
  case atStart => exact ⟨0, rfl, by omega, rfl, Lib.hid rfl, rfl⟩
  case round =>
    obtain ⟨k, rfl, hk, rfl, hg, rfl⟩ := hrel
    by_cases hkn : k < 6
    · obtain ⟨v, hv, hvb⟩ := HC1.out.2.2.1 k hkn
      have hk1 : (k : Int) < 6 := by omega
      have a1 : w3.cell? ⟨w1.heap.size, k, none⟩ = some (.pointer (some ⟨N, 1 + k, none⟩)) := by rw [cell_of k HP3.out.1, ptrs_get N k hkn]
      have a2 : w3.cell? ⟨N, 1 + k, none⟩ = some (.int .i64 (v : Nat)) := by rw [cell_of _ HP3.out.2.2.1]; exact HC1.out.2.2.2 k v hkn hv
      have v0 : ¬ (v : Int) < 0 := by omega
      have v1 : ¬ (1099511627776 : Int) < (v : Int) := by omega
      clear hv hvb
      go_wp2
      go_roundg (6 - (k + 1))
      case measure => have := hg.out; omega
      case rel => exact ⟨k + 1, by go_num, by omega, rfl, Lib.hid (by omega), rfl⟩
    · have hk1 : ¬ (k : Int) < 6 := by omega
      have q8 : w3.cell? ⟨N, 8, none⟩ = some (.slice A3 c.script.length c3) := by rw [cell_of 8 HP3.out.2.2.1]; rfl
      clear hkn hk hg
      go_wp2_with fail
      go_loopg [3, 36] c.script.length (fun g b i wr => ∃ k : Nat, i = .int .i64 (k : Int) ∧ k ≤ c.script.length ∧ b = .bool false ∧ Hid (g + k = c.script.length) ∧ Hid (Below w3.heap.size w3 wr))
      case atStart => exact ⟨0, rfl, by omega, rfl, Lib.hid rfl, Lib.hid (Below.refl _ _)⟩
      case round =>
        obtain ⟨k, rfl, hk, rfl, hg, HB⟩ := hrel
        by_cases hkn : k < c.script.length
        · have hk1 : (k : Int) < (c.script.length : Int) := by omega
          have hk9 : (k : Int) ≤ 256 := by have := HG.out.ns; omega
          obtain ⟨b, o, x, rfl, hbB, hx, hc⟩ := (HP3.out.2.2.2.up HB.out).sc.cell hkn
          have z0 : wr.cell? ⟨b, o + k * 3, none⟩ = some (.string ⟨x.a.id.toArray⟩) := by rw [show o + k * 3 = o + (k * 3 + 0) by omega]; exact hc 0 _ rfl
          have z1 : wr.cell? ⟨b, o + k * 3 + 1, none⟩ = some (.bool x.a.ok) := by rw [show o + k * 3 + 1 = o + (k * 3 + 1) by omega]; exact hc 1 _ rfl
          have z2 : wr.cell? ⟨b, o + k * 3 + 2, none⟩ = some (.slice x.A x.a.data.length x.cap) := by rw [show o + k * 3 + 2 = o + (k * 3 + 2) by omega]; exact hc 2 _ rfl
          have hxm : x.a ∈ c.script := by rw [← HI1.out.ym]; exact List.mem_map.2 ⟨x, List.mem_of_getElem? hx, rfl⟩
          have hxs := HG.out.script x.a hxm
          have OC := Lib.hid (fun W => odd_no x.a.id W hxs.1 hxs.2.1)
          have ka := (Below.refl _ wr).alloc (Nat.le_refl _) (.cells #[.string ⟨x.a.id.toArray⟩, .bool x.a.ok, .slice x.A x.a.data.length x.cap] 71)
          have HB2 := Lib.hid (HB.out.trans (ka.mono HB.out.size))
          have hok := hxs.2.2
          clear hc hx hxm hxs ka
          cases hxo : x.a.ok with
          | true =>
            rw [hxo] at z1 HB2
            clear hok hxo
            go_wp2_with fail
            refine (OC.out _).mono ?_
            rintro e w10 ⟨rfl, rfl⟩
            go_wp2
            go_roundg (c.script.length - (k + 1))
            case measure => have := hg.out; omega
            case rel => exact ⟨k + 1, by go_num, by omega, rfl, Lib.hid (by have := hg.out; omega), HB2⟩
          | false =>
            rw [hxo] at z1 HB2
            have hd0 : ¬ (0 : Int) < (x.a.data.length : Int) := by rw [hok hxo]; simp
            have HDL : Hid (decide (0 < x.a.data.length) = false) := Lib.hid (by rw [hok hxo]; rfl)
            clear hok hxo
            go_wp2_with fail
            refine (OC.out _).mono ?_
            rintro e w10 ⟨rfl, rfl⟩
            go_wp2
            go_roundg (c.script.length - (k + 1))
            case measure => have := hg.out; omega
            case rel => exact ⟨k + 1, by go_num, by omega, by rw [HDL.out], Lib.hid (by have := hg.out; omega), HB2⟩
        · have hk1 : ¬ (k : Int) < (c.script.length : Int) := by omega
          have hcs := (HB.out.block _ (lt_of HP3.out.2.2.1)).trans HP3.out.2.2.1
          have BG := Lib.hid (big_c A1 A2 A3 c.doc.length c1 c.allow.length c2 c.script.length c3 c.lim ys wr (HP3.out.2.2.2.up HB.out).sc (by have := HG.out.sum; rw [HI1.out.sum]; omega) (by have := HG.out.na; omega) (by have := HG.out.ns; omega))
          rw [HCV, decide_eq_false (show ¬ (64 < c.allow.length ∨ 256 < c.script.length) by have := HG.out.na; have := HG.out.ns; omega)] at BG
          rw [HCV] at hcs
          have q0 : wr.cell? ⟨N, 0, none⟩ = some (.slice A1 c.doc.length c1) := by rw [cell_of 0 hcs]; rfl
          have q1 : wr.cell? ⟨N, 1, none⟩ = some (.int .i64 m0) := by rw [cell_of 1 hcs]; rfl
          have q2 : wr.cell? ⟨N, 2, none⟩ = some (.int .i64 m1) := by rw [cell_of 2 hcs]; rfl
          have q3 : wr.cell? ⟨N, 3, none⟩ = some (.int .i64 m2) := by rw [cell_of 3 hcs]; rfl
          have q4 : wr.cell? ⟨N, 4, none⟩ = some (.int .i64 m3) := by rw [cell_of 4 hcs]; rfl
          have q5 : wr.cell? ⟨N, 5, none⟩ = some (.int .i64 m4) := by rw [cell_of 5 hcs]; rfl
          have q6 : wr.cell? ⟨N, 6, none⟩ = some (.int .i64 m5) := by rw [cell_of 6 hcs]; rfl
          have q7 : wr.cell? ⟨N, 7, none⟩ = some (.slice A2 c.allow.length c2) := by rw [cell_of 7 hcs]; rfl
          have q8 : wr.cell? ⟨N, 8, none⟩ = some (.slice A3 c.script.length c3) := by rw [cell_of 8 hcs]; rfl
          have HBF := Lib.hid (HC1.out.2.1.trans ((HP3.out.2.1.trans (HB.out.mono HP3.out.2.1.size)).mono HC1.out.2.1.size))
          clear hcs
          go_wp2_with fail
          refine BG.out.mono ?_
          rintro e w10 ⟨rfl, hb10⟩
          have HBG := Lib.hid (HBF.out.trans (hb10.mono HBF.out.size))
          clear hb10
          go_wp2
          go_ret
          exact ⟨rfl, HBG.out⟩
end Go.Proofs.YtbllodeanfdebaaGreatDoor
