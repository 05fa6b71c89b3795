/- The document: bars, Print. -/
import Derived.Test.YtbllodeanfdebaaGreatDoorRows
import Derived.WalkKit
import Derived.ProofKit
import Derived.OpenShut
import Derived.ShutString
import Derived.ChangeOld
import Derived.Below
import Derived.BigQuiet
import Derived.Deep.QuietTactic
import Derived.Lib.Hide
import Derived.Deep.RegionHeld3
import Derived.Lib.SlBytesConst
import Derived.Laws.CopyOwn
import Derived.Laws.CopyRow
import Derived.Lib.Bytes
import Derived.Deep.LoopGhost
import Derived.Deep.DeepFit
import Derived.Deep.DeepMust
import Derived.WalkSpells
import Derived.WalkLawsBesides
import Derived.Laws.EntriesVeiled
import Derived.Lib.IndexBytes
import Derived.Deep.RegionWith
import Derived.Tactics2
import Derived.Laws.Rows
import Derived.Lib.Replace
import Derived.Lib.Split
import Derived.Lib.ItoaNum
import Derived.Lib.AtoiAllCases
import Derived.Lib.AtoiErrMem
import Derived.Lib.AppendIntMem
import Derived.Maps.OwnOps
import Derived.Maps.OwnSet
import Derived.Maps.Views
import Derived.Maps.AppendAt
import Derived.Deep.AppendLies
import Derived.Defers
import Derived.Recover
import Derived.Laws.Pointers
import Derived.Test.YtbllodeanfdebaaGreatDoorShelf
import Derived.Test.YtbllodeanfdebaaGreatDoorBase
import Derived.Test.YtbllodeanfdebaaGreatDoorCsE
import Derived.Test.YtbllodeanfdebaaGreatDoorCsG
import Derived.Test.YtbllodeanfdebaaGreatDoorCsH
import Derived.Test.YtbllodeanfdebaaGreatDoorCsI
import Derived.Test.YtbllodeanfdebaaGreatDoorCsJ
import Derived.Test.YtbllodeanfdebaaGreatDoorCalm
import Derived.Test.YtbllodeanfdebaaGreatDoorCsL
import Derived.Test.YtbllodeanfdebaaGreatDoorRowS
import Derived.Test.YtbllodeanfdebaaGreatDoorRowG
import Derived.Test.YtbllodeanfdebaaGreatDoorCsO
import Derived.Test.YtbllodeanfdebaaGreatDoorCsM
import Derived.Test.YtbllodeanfdebaaGreatDoorCsN2
import Derived.Test.YtbllodeanfdebaaGreatDoorStL
import Derived.Test.YtbllodeanfdebaaGreatDoorCsO2
import Derived.Test.YtbllodeanfdebaaGreatDoorCsQ
import Derived.Test.YtbllodeanfdebaaGreatDoorStr
import Derived.Test.YtbllodeanfdebaaGreatDoorCsR
import Derived.Test.YtbllodeanfdebaaGreatDoorCsS
import Derived.Test.YtbllodeanfdebaaGreatDoorCsT
import Derived.Test.YtbllodeanfdebaaGreatDoorCsU
import Derived.Test.YtbllodeanfdebaaGreatDoorCsV
import Derived.Test.YtbllodeanfdebaaGreatDoorCsW
import Derived.Test.YtbllodeanfdebaaGreatDoorCsY
import Derived.Test.YtbllodeanfdebaaGreatDoorCsZ
import Derived.Test.YtbllodeanfdebaaGreatDoorCsPa
import Derived.Test.YtbllodeanfdebaaGreatDoorCtD
import Derived.Test.YtbllodeanfdebaaGreatDoorCtE
import Derived.Test.YtbllodeanfdebaaGreatDoorRpC
import Derived.Test.YtbllodeanfdebaaGreatDoorCsB2
import Derived.Test.YtbllodeanfdebaaGreatDoorBuild
import Derived.Test.YtbllodeanfdebaaGreatDoorCsPb
namespace Go.Proofs.YtbllodeanfdebaaGreatDoor
open Go.ChangeShapes Go.WideShapes Go.ChangeAt Go.RowKit
set_option linter.unusedVariables false
theorem drop_consE {s : List UInt8} {k : Nat} {c : UInt8} (h : s[k]? = some c) : s.drop k = c :: s.drop (k + 1) := by
  obtain ⟨hk, e⟩ := List.getElem?_eq_some_iff.1 h
  rw [List.drop_eq_getElem_cons hk, e]
def barF (c : UInt8) : List UInt8 := if c = 10 then [10, 124] else [c]
theorem barF_len (c : UInt8) : (barF c).length ≤ 2 := by unfold barF; split <;> simp
theorem bar_le (s : List UInt8) : (s.flatMap barF).length ≤ 2 * s.length := bar_len s
theorem barT_F (s : List UInt8) : barT s = [124] ++ s.flatMap barF ++ [10] := rfl
set_option linter.unusedSimpArgs false in
set_option maxRecDepth 100000 in
set_option maxHeartbeats 8000000 in
theorem refBars_c (s : List UInt8) (w : World) (hs : s.length ≤ 100000) : Calls Tryz.prog 40 #[.string ⟨s.toArray⟩] w fun e w' => e = .returned (.string ⟨(barT s).toArray⟩) ∧ w = w' := by
  have hs1 : (s.length : Int) ≤ 100000 := by omega
  have HF := Lib.hid (barT_F s)
  have HLE := Lib.hid (fun k => bar_le (s.take k))
  have HS := Lib.hid hs
  go_enter Tryz.func40, Tryz.ntmps40
  go_wp2_with fail
  go_loopg [3, 4] s.length (fun g o i wr => ∃ (k : Nat) (acc : List UInt8), i = .int .i64 (k : Int) ∧ k ≤ s.length ∧ o = .string ⟨acc.toArray⟩ ∧ Hid (acc = [124] ++ (s.take k).flatMap barF) ∧ Hid (g + k = s.length) ∧ wr = w)
  case atStart => exact ⟨0, [124], rfl, Nat.zero_le _, rfl, Lib.hid (by simp), Lib.hid rfl, rfl⟩
  case round =>
    obtain ⟨k, acc, rfl, hk, rfl, HA, hg, rfl⟩ := hrel
    have hal : acc.length ≤ 200001 := by
      have h1 := HLE.out k
      rw [HA.out, List.length_append]
      rw [List.length_take] at h1
      simp only [List.length_cons, List.length_nil]
      have := HS.out
      omega
    by_cases hkn : k < s.length
    · have hk1 : (k : Int) < (s.length : Int) := by omega
      obtain ⟨c, hc⟩ : ∃ c, s[k]? = some c := ⟨_, List.getElem?_eq_getElem hkn⟩
      have hix := fun W => run_strIndex s k hkn W
      rw [List.getD_eq_getElem?_getD, hc, Option.getD_some] at hix
      have hsl := fun W => run_strSlice s k (k + 1) (by omega) (by omega) W
      rw [show ((k + 1 : Nat) : Int) = (k : Int) + 1 by omega, show (s.drop k).take (k + 1 - k) = [c] by rw [drop_consE hc, show k + 1 - k = 1 by omega]; rfl] at hsl
      have hop := fun W => run_sop (w := W) acc [c] (by simp; omega)
      have hop2 := fun W => run_catC (w := W) acc [c] (by simp; omega)
      have hop3 := fun W => run_sop (w := W) (acc ++ [c]) [124] (by simp; omega)
      have hop4 := fun W => run_catC (w := W) (acc ++ [c]) [124] (by simp; omega)
      have hft := (flat_take barF hc).1
      by_cases h10 : c = 10
      · subst h10
        have e10 : ((UInt8.toNat 10 : Nat) : Int) = 10 := rfl
        rw [e10] at hix
        have HN : Hid (acc ++ [10] ++ [124] = [124] ++ (s.take (k + 1)).flatMap barF) := Lib.hid (by rw [hft, HA.out]; simp [barF])
        clear hc e10 hft hal
        generalize (acc ++ [10] : List UInt8) = a1 at *
        generalize (a1 ++ [124] : List UInt8) = a2 at *
        go_wp2
        go_roundg (s.length - (k + 1))
        case measure => have := hg.out; omega
        case rel => exact ⟨k + 1, _, by go_num, by omega, rfl, HN, Lib.hid (by have := hg.out; omega), rfl⟩
      · have hz : ¬ ((c.toNat : Nat) : Int) = 10 := fun e => h10 (UInt8.toNat_inj.1 (by show c.toNat = 10; omega))
        have HN : Hid (acc ++ [c] = [124] ++ (s.take (k + 1)).flatMap barF) := Lib.hid (by rw [hft, HA.out]; simp [barF, h10])
        clear hc hft hal h10 hop3 hop4
        generalize ((c.toNat : Nat) : Int) = z at *
        generalize (acc ++ [c] : List UInt8) = a1 at *
        go_wp2
        go_roundg (s.length - (k + 1))
        case measure => have := hg.out; omega
        case rel => exact ⟨k + 1, _, by go_num, by omega, rfl, HN, Lib.hid (by have := hg.out; omega), rfl⟩
    · have hk1 : ¬ (k : Int) < (s.length : Int) := by omega
      have HN : Hid (acc ++ [10] = barT s) := Lib.hid (by rw [HF.out, HA.out, List.take_of_length_le (by omega)])
      have hop := fun W => run_sop (w := W) acc [10] (by simp; omega)
      have hop2 := fun W => run_catC (w := W) acc [10] (by simp; omega)
      generalize (acc ++ [10] : List UInt8) = a1 at *
      go_wp2
      go_ret
      exact ⟨by rw [HN.out]; rfl, rfl⟩
set_option linter.unusedSimpArgs false in
set_option maxRecDepth 100000 in
set_option maxHeartbeats 40000000 in
theorem refPrint_c (w : World) (c : CaseC) (A2 A3 : Option Addr) (c2 c3 : Nat) (ys : List AnV) (h : RIn w c A2 A3 c2 c3 ys) (hg : CGood c) :
    Calls Tryz.prog 14 #[rcaseW c A2 A3 c2 c3] w fun e w' => e = .returned (.string ⟨(printC Lib.decDigits c).toArray⟩) ∧ Below w.heap.size w w' := by
  obtain ⟨m0, m1, m2, m3, m4, m5, HCV⟩ := caseV_ints c.lim
  obtain ⟨N, hN⟩ : ∃ N, w.heap.size = N := ⟨_, rfl⟩
  obtain ⟨w1, hw1⟩ : ∃ w1, w.alloc (.cells #[.string ⟨c.doc.toArray⟩, .int .i64 m0, .int .i64 m1, .int .i64 m2, .int .i64 m3, .int .i64 m4, .int .i64 m5, .slice A2 c.allow.length c2, .slice A3 c.script.length c3] 34) = w1 := ⟨_, rfl⟩
  have hc1 : w1.heap[N]? = some (.cells #[.string ⟨c.doc.toArray⟩, .int .i64 m0, .int .i64 m1, .int .i64 m2, .int .i64 m3, .int .i64 m4, .int .i64 m5, .slice A2 c.allow.length c2, .slice A3 c.script.length c3] 34) := by rw [← hw1, ← hN]; exact hp_new _ _
  have hb1 : Below w.heap.size w w1 := by rw [← hw1]; exact (Below.refl _ _).alloc (Nat.le_refl _) _
  have hlim : ∀ k : Nat, k < 6 → ∃ (v : Nat), c.lim[k]? = some v ∧ v ≤ 1099511627776 := fun k hk => by
    refine ⟨c.lim[k]'(by rw [hg.six]; exact hk), List.getElem?_eq_getElem _, hg.nums _ (List.getElem_mem _)⟩
  have hcell : ∀ k v, k < 6 → c.lim[k]? = some v → (#[.int .i64 m0, .int .i64 m1, .int .i64 m2, .int .i64 m3, .int .i64 m4, .int .i64 m5] : Array Value)[k]? = some (.int .i64 (v : Nat)) := fun k v hk hv => by
    have e : c.lim.getD k 0 = v := by rw [List.getD_eq_getElem?_getD, hv]; rfl
    have e2 : (caseV .nilIface c.lim .nilIface .nilIface)[1 + k]? = some (.int .i64 (v : Nat)) := by
      rw [← e]
      rcases (show k = 0 ∨ k = 1 ∨ k = 2 ∨ k = 3 ∨ k = 4 ∨ k = 5 by omega) with rfl | rfl | rfl | rfl | rfl | rfl <;> rfl
    rw [HCV] at e2
    rw [← e2]
    rcases (show k = 0 ∨ k = 1 ∨ k = 2 ∨ k = 3 ∨ k = 4 ∨ k = 5 by omega) with rfl | rfl | rfl | rfl | rfl | rfl <;> rfl
  have hpf := print_flat c (fun e => by have := hg.six; rw [e] at this; cases this)
  obtain ⟨T, hT⟩ : ∃ T, printC Lib.decDigits c = T := ⟨_, rfl⟩
  have hTl : T.length ≤ 100000 := by rw [← hT]; exact hg.len
  rw [hT] at hpf ⊢
  have HC1 := Lib.hid (And.intro hc1 (And.intro hb1 (And.intro hlim hcell)))
  have HI1 := Lib.hid (h.up hb1)
  have HG := Lib.hid hg
  have q1 : w1.cell? ⟨N, 1, none⟩ = some (.int .i64 m0) := by rw [cell_of 1 hc1]; rfl
  have q2 : w1.cell? ⟨N, 2, none⟩ = some (.int .i64 m1) := by rw [cell_of 2 hc1]; rfl
  have q3 : w1.cell? ⟨N, 3, none⟩ = some (.int .i64 m2) := by rw [cell_of 3 hc1]; rfl
  have q4 : w1.cell? ⟨N, 4, none⟩ = some (.int .i64 m3) := by rw [cell_of 4 hc1]; rfl
  have q5 : w1.cell? ⟨N, 5, none⟩ = some (.int .i64 m4) := by rw [cell_of 5 hc1]; rfl
  have q6 : w1.cell? ⟨N, 6, none⟩ = some (.int .i64 m5) := by rw [cell_of 6 hc1]; rfl
  have q7 : w1.cell? ⟨N, 7, none⟩ = some (.slice A2 c.allow.length c2) := by rw [cell_of 7 hc1]; rfl
  obtain ⟨L1, hL1⟩ : ∃ L1, c.lim.flatMap (fun n => [32] ++ Lib.decDigits n) = L1 := ⟨_, rfl⟩
  obtain ⟨L2, hL2⟩ : ∃ L2, c.allow.flatMap (fun p => wAllow ++ p ++ [10]) = L2 := ⟨_, rfl⟩
  obtain ⟨L3, hL3⟩ : ∃ L3, c.script.flatMap ansT = L3 := ⟨_, rfl⟩
  rw [hL1, hL2, hL3] at hpf
  have HTs := Lib.hid hpf
  have hlen := hTl
  rw [hpf] at hlen
  simp only [List.length_append] at hlen
  have HLN := Lib.hid hlen
  have HL1 := Lib.hid hL1
  have HL2 := Lib.hid hL2
  have HL3 := Lib.hid hL3
  have HNN := Lib.hid hN
  have hla : c.allow.length ≤ 64 := hg.na
  have hls : c.script.length ≤ 256 := hg.ns
  have HLA := Lib.hid hla
  have HLS := Lib.hid hls
  unfold rcaseW
  rw [HCV]
  clear h hg hlim hcell hc1 hb1 hpf hT hTl hlen hL1 hL2 hL3 hla hls
  go_enter Tryz.func14, Tryz.ntmps14
  go_wp2_with fail
  refine (refLimits_c m0 m1 m2 m3 m4 m5 A2 c.allow.length c2 w1).mono ?_
  rintro e w3 ⟨p, rfl, hl3⟩
  have HP3 := Lib.hid (And.intro hl3.out.1 (And.intro hl3.out.2 (And.intro ((hl3.out.2.block _ (lt_of HC1.out.1)).trans HC1.out.1) (HI1.out.up hl3.out.2))))
  clear hl3 q1 q2 q3 q4 q5 q6 q7
  go_wp2_with fail
  go_loopg [3, 5] 6 (fun g s i wr => ∃ (k : Nat) (acc : List UInt8), i = .int .i64 (k : Int) ∧ k ≤ 6 ∧ s = .string ⟨acc.toArray⟩ ∧ Hid (acc = wLims ++ (c.lim.take k).flatMap (fun n => [32] ++ Lib.decDigits n)) ∧ Hid (g + k = 6) ∧ w3 = wr)
  case atStart => exact ⟨0, wLims, rfl, by omega, rfl, Lib.hid (by simp), Lib.hid rfl, rfl⟩
  case round =>
    obtain ⟨k, acc, rfl, hk, rfl, HA, hg, rfl⟩ := hrel
    by_cases hkn : k < 6
    · obtain ⟨v, hv, hvb⟩ := HC1.out.2.2.1 k hkn
      have hk1 : (k : Int) < 6 := by omega
      have a1 : w3.cell? ⟨p, k, none⟩ = some (.int .i64 (v : Nat)) := by rw [cell_of k HP3.out.1]; exact HC1.out.2.2.2 k v hkn hv
      have DG := Lib.hid (refDigitsAll_c v (by omega) w3)
      have hft := flat_take (fun n => [32] ++ Lib.decDigits n) hv
      rw [HL1.out] at hft
      obtain ⟨D, hD⟩ : ∃ D, Lib.decDigits v = D := ⟨_, rfl⟩
      simp only [hD] at DG hft
      have hal : acc.length + D.length ≤ 100000 := by have h1 := HLN.out; have h2 := hft.2; rw [HA.out]; simp only [List.length_append] at *; omega
      have h1 : ∀ W, (Op.stringOp .add ⟨acc.toArray⟩ ⟨#[32]⟩).run Tryz.prog W = .ok (.string ⟨(acc ++ [32]).toArray⟩) W := fun W => run_sop acc [32] (by simp; omega)
      have h2 : ∀ W, (binOp .add 9 (.string ⟨acc.toArray⟩) (.string ⟨#[32]⟩)).run Tryz.prog W = .ok (.string ⟨(acc ++ [32]).toArray⟩) W := fun W => run_catC acc [32] (by simp; omega)
      have h3 : ∀ W, (Op.stringOp .add ⟨(acc ++ [32]).toArray⟩ ⟨D.toArray⟩).run Tryz.prog W = .ok (.string ⟨(acc ++ [32] ++ D).toArray⟩) W := fun W => run_sop (acc ++ [32]) D (by simp; omega)
      have h4 : ∀ W, (binOp .add 9 (.string ⟨(acc ++ [32]).toArray⟩) (.string ⟨D.toArray⟩)).run Tryz.prog W = .ok (.string ⟨(acc ++ [32] ++ D).toArray⟩) W := fun W => run_catC (acc ++ [32]) D (by simp; omega)
      have HN : Hid (acc ++ [32] ++ D = wLims ++ (c.lim.take (k + 1)).flatMap (fun n => [32] ++ Lib.decDigits n)) := Lib.hid (by rw [hft.1, HA.out]; simp)
      clear hv hvb hft hD hal
      generalize (acc ++ [32] : List UInt8) = p1 at *
      generalize (p1 ++ D : List UInt8) = p2 at *
      go_wp2_with fail
      refine DG.out.mono ?_
      rintro e w6 ⟨rfl, rfl⟩
      go_wp2
      go_roundg (6 - (k + 1))
      case measure => have := hg.out; omega
      case rel => exact ⟨k + 1, _, by go_num, by omega, rfl, HN, Lib.hid (by have := hg.out; omega), rfl⟩
    · have hk1 : ¬ (k : Int) < 6 := by omega
      have HA1 : Hid (acc = wLims ++ L1) := Lib.hid (by have h9 := HA.out; rw [List.take_of_length_le (by rw [HG.out.six]; omega), HL1.out] at h9; exact h9)
      have hal : acc.length ≤ 100000 := by have h1 := HLN.out; rw [HA1.out]; simp only [List.length_append] at *; omega
      have h1 : ∀ W, (Op.stringOp .add ⟨acc.toArray⟩ ⟨#[10]⟩).run Tryz.prog W = .ok (.string ⟨(acc ++ [10]).toArray⟩) W := fun W => run_sop acc [10] (by simp; omega)
      have h2 : ∀ W, (binOp .add 9 (.string ⟨acc.toArray⟩) (.string ⟨#[10]⟩)).run Tryz.prog W = .ok (.string ⟨(acc ++ [10]).toArray⟩) W := fun W => run_catC acc [10] (by simp; omega)
      have HA2 : Hid (acc ++ [10] = wLims ++ L1 ++ [10]) := Lib.hid (by rw [HA1.out])
      have q7 : w3.cell? ⟨N, 7, none⟩ = some (.slice A2 c.allow.length c2) := by rw [cell_of 7 HP3.out.2.2.1]; rfl
      have q8 : w3.cell? ⟨N, 8, none⟩ = some (.slice A3 c.script.length c3) := by rw [cell_of 8 HP3.out.2.2.1]; rfl
      generalize (acc ++ [10] : List UInt8) = b0 at *
      clear hkn hk hg HA HA1 hal
      go_wp2_with fail
      go_loopg [3, 6] c.allow.length (fun g s i wr => ∃ (k : Nat) (acc : List UInt8), i = .int .i64 (k : Int) ∧ k ≤ c.allow.length ∧ s = .string ⟨acc.toArray⟩ ∧ Hid (acc = wLims ++ L1 ++ [10] ++ (c.allow.take k).flatMap (fun p => wAllow ++ p ++ [10])) ∧ Hid (g + k = c.allow.length) ∧ w3 = wr)
      case atStart => exact ⟨0, _, rfl, by omega, rfl, Lib.hid (by rw [HA2.out]; simp), Lib.hid rfl, rfl⟩
      case round =>
        obtain ⟨k, acc, rfl, hk, rfl, HA, hg, rfl⟩ := hrel
        by_cases hkn : k < c.allow.length
        · have hk1 : (k : Int) < (c.allow.length : Int) := by omega
          have hk9 : (k : Int) ≤ 64 := by have := HLA.out; omega
          obtain ⟨b, o, x, rfl, hbB, hx, hc⟩ := HP3.out.2.2.2.al.cell hkn
          have z0 : w3.cell? ⟨b, o + k, none⟩ = some (.string ⟨x.toArray⟩) := by rw [show o + k = o + (k * 1 + 0) by omega]; exact hc 0 _ rfl
          have hft := flat_take (fun p => wAllow ++ p ++ [10]) hx
          rw [HL2.out] at hft
          have hal : acc.length + x.length ≤ 100000 := by have h1 := HLN.out; have h2 := hft.2; rw [HA.out]; simp only [List.length_append] at *; omega
          have h1 : ∀ W, (Op.stringOp .add ⟨acc.toArray⟩ ⟨#[97, 108, 108, 111, 119, 32]⟩).run Tryz.prog W = .ok (.string ⟨(acc ++ wAllow).toArray⟩) W := fun W => run_sop acc wAllow (by simp [wAllow]; omega)
          have h2 : ∀ W, (binOp .add 9 (.string ⟨acc.toArray⟩) (.string ⟨#[97, 108, 108, 111, 119, 32]⟩)).run Tryz.prog W = .ok (.string ⟨(acc ++ wAllow).toArray⟩) W := fun W => run_catC acc wAllow (by simp [wAllow]; omega)
          have h3 : ∀ W, (Op.stringOp .add ⟨(acc ++ wAllow).toArray⟩ ⟨x.toArray⟩).run Tryz.prog W = .ok (.string ⟨(acc ++ wAllow ++ x).toArray⟩) W := fun W => run_sop (acc ++ wAllow) x (by simp [wAllow]; omega)
          have h4 : ∀ W, (binOp .add 9 (.string ⟨(acc ++ wAllow).toArray⟩) (.string ⟨x.toArray⟩)).run Tryz.prog W = .ok (.string ⟨(acc ++ wAllow ++ x).toArray⟩) W := fun W => run_catC (acc ++ wAllow) x (by simp [wAllow]; omega)
          have h5 : ∀ W, (Op.stringOp .add ⟨(acc ++ wAllow ++ x).toArray⟩ ⟨#[10]⟩).run Tryz.prog W = .ok (.string ⟨(acc ++ wAllow ++ x ++ [10]).toArray⟩) W := fun W => run_sop (acc ++ wAllow ++ x) [10] (by simp [wAllow]; omega)
          have h6 : ∀ W, (binOp .add 9 (.string ⟨(acc ++ wAllow ++ x).toArray⟩) (.string ⟨#[10]⟩)).run Tryz.prog W = .ok (.string ⟨(acc ++ wAllow ++ x ++ [10]).toArray⟩) W := fun W => run_catC (acc ++ wAllow ++ x) [10] (by simp [wAllow]; omega)
          have HN : Hid (acc ++ wAllow ++ x ++ [10] = wLims ++ L1 ++ [10] ++ (c.allow.take (k + 1)).flatMap (fun p => wAllow ++ p ++ [10])) := Lib.hid (by rw [hft.1, HA.out]; simp)
          clear hc hx hft hal
          generalize (acc ++ wAllow : List UInt8) = p1 at *
          generalize (p1 ++ x : List UInt8) = p2 at *
          generalize (p2 ++ [10] : List UInt8) = p3 at *
          go_wp2
          go_roundg (c.allow.length - (k + 1))
          case measure => have := hg.out; omega
          case rel => exact ⟨k + 1, _, by go_num, by omega, rfl, HN, Lib.hid (by have := hg.out; omega), rfl⟩
        · have hk1 : ¬ (k : Int) < (c.allow.length : Int) := by omega
          have HA3 : Hid (acc = wLims ++ L1 ++ [10] ++ L2) := Lib.hid (by have h9 := HA.out; rw [List.take_of_length_le (by omega), HL2.out] at h9; exact h9)
          clear hkn hk hg HA HA2
          go_wp2_with fail
          go_loopg [3, 7] c.script.length (fun g s i wr => ∃ (k : Nat) (acc : List UInt8), i = .int .i64 (k : Int) ∧ k ≤ c.script.length ∧ s = .string ⟨acc.toArray⟩ ∧ Hid (acc = wLims ++ L1 ++ [10] ++ L2 ++ (c.script.take k).flatMap ansT) ∧ Hid (g + k = c.script.length) ∧ Hid (Below w3.heap.size w3 wr))
          case atStart => exact ⟨0, acc, rfl, by omega, rfl, Lib.hid (by rw [HA3.out]; simp), Lib.hid rfl, Lib.hid (Below.refl _ _)⟩
          case round =>
            obtain ⟨k, acc, rfl, hk, rfl, HA, hg, HB⟩ := hrel
            have hcs := (HB.out.block _ (lt_of HP3.out.2.2.1)).trans HP3.out.2.2.1
            have y8 : wr.cell? ⟨N, 8, none⟩ = some (.slice A3 c.script.length c3) := by rw [cell_of 8 hcs]; rfl
            have HCS := Lib.hid hcs
            clear hcs
            by_cases hkn : k < c.script.length
            · have hk1 : (k : Int) < (c.script.length : Int) := by omega
              have hk9 : (k : Int) ≤ 256 := by have := HLS.out; omega
              have hup := HP3.out.2.2.2.up HB.out
              obtain ⟨b, o, x, rfl, hbB, hx, hc⟩ := hup.sc.cell hkn
              have hxd := hup.dat x (List.mem_of_getElem? hx)
              have z0 : wr.cell? ⟨b, o + k * 3, none⟩ = some (.string ⟨x.a.id.toArray⟩) := by rw [show o + k * 3 = o + (k * 3 + 0) by omega]; exact hc 0 _ rfl
              have z1 : wr.cell? ⟨b, o + k * 3 + 1, none⟩ = some (.bool x.a.ok) := by rw [show o + k * 3 + 1 = o + (k * 3 + 1) by omega]; exact hc 1 _ rfl
              have z2 : wr.cell? ⟨b, o + k * 3 + 2, none⟩ = some (.slice x.A x.a.data.length x.cap) := by rw [show o + k * 3 + 2 = o + (k * 3 + 2) by omega]; exact hc 2 _ rfl
              have hxa : c.script[k]? = some x.a := by rw [← HP3.out.2.2.2.ym, List.getElem?_map, hx]; rfl
              have hft := flat_take ansT hxa
              rw [HL3.out] at hft
              have HXD := Lib.hid hxd
              clear hc hx hxa hup hxd
              cases hxo : x.a.ok with
              | false =>
                rw [hxo] at z1
                have hans : ansT x.a = wNo ++ x.a.id ++ [10] := by unfold ansT; rw [hxo]; rfl
                rw [hans] at hft
                obtain ⟨q, hq⟩ : ∃ q, x.a.id = q := ⟨_, rfl⟩
                rw [hq] at hft z0
                have hal : acc.length + q.length ≤ 100000 := by have h1 := HLN.out; have h2 := hft.2; rw [HA.out]; simp only [List.length_append] at *; omega
                have h1 : ∀ W, (Op.stringOp .add ⟨acc.toArray⟩ ⟨#[97, 110, 115, 119, 101, 114, 32, 110, 111, 32]⟩).run Tryz.prog W = .ok (.string ⟨(acc ++ wNo).toArray⟩) W := fun W => run_sop acc wNo (by simp [wNo]; omega)
                have h2 : ∀ W, (binOp .add 9 (.string ⟨acc.toArray⟩) (.string ⟨#[97, 110, 115, 119, 101, 114, 32, 110, 111, 32]⟩)).run Tryz.prog W = .ok (.string ⟨(acc ++ wNo).toArray⟩) W := fun W => run_catC acc wNo (by simp [wNo]; omega)
                have h3 : ∀ W, (Op.stringOp .add ⟨(acc ++ wNo).toArray⟩ ⟨q.toArray⟩).run Tryz.prog W = .ok (.string ⟨(acc ++ wNo ++ q).toArray⟩) W := fun W => run_sop (acc ++ wNo) q (by simp [wNo]; omega)
                have h4 : ∀ W, (binOp .add 9 (.string ⟨(acc ++ wNo).toArray⟩) (.string ⟨q.toArray⟩)).run Tryz.prog W = .ok (.string ⟨(acc ++ wNo ++ q).toArray⟩) W := fun W => run_catC (acc ++ wNo) q (by simp [wNo]; omega)
                have h5 : ∀ W, (Op.stringOp .add ⟨(acc ++ wNo ++ q).toArray⟩ ⟨#[10]⟩).run Tryz.prog W = .ok (.string ⟨(acc ++ wNo ++ q ++ [10]).toArray⟩) W := fun W => run_sop (acc ++ wNo ++ q) [10] (by simp [wNo]; omega)
                have h6 : ∀ W, (binOp .add 9 (.string ⟨(acc ++ wNo ++ q).toArray⟩) (.string ⟨#[10]⟩)).run Tryz.prog W = .ok (.string ⟨(acc ++ wNo ++ q ++ [10]).toArray⟩) W := fun W => run_catC (acc ++ wNo ++ q) [10] (by simp [wNo]; omega)
                have HN : Hid (acc ++ wNo ++ q ++ [10] = wLims ++ L1 ++ [10] ++ L2 ++ (c.script.take (k + 1)).flatMap ansT) := Lib.hid (by rw [hft.1, HA.out]; simp)
                clear hft hal hans hq hxo z2 HXD
                generalize (acc ++ wNo : List UInt8) = p1 at *
                generalize (p1 ++ q : List UInt8) = p2 at *
                generalize (p2 ++ [10] : List UInt8) = p3 at *
                go_wp2
                go_roundg (c.script.length - (k + 1))
                case measure => have := hg.out; omega
                case rel => exact ⟨k + 1, _, by go_num, by omega, rfl, HN, Lib.hid (by have := hg.out; omega), HB⟩
              | true =>
                rw [hxo] at z1
                have hans : ansT x.a = wOk ++ x.a.id ++ [10] ++ barT x.a.data := by unfold ansT; rw [hxo]; rfl
                rw [hans] at hft
                obtain ⟨q, hq⟩ : ∃ q, x.a.id = q := ⟨_, rfl⟩
                rw [hq] at hft z0
                obtain ⟨D, hD⟩ : ∃ D, barT x.a.data = D := ⟨_, rfl⟩
                have hdl : x.a.data.length ≤ 100000 := by have := HLN.out; have := hft.2; have := bar_lo x.a.data; simp only [List.length_append] at *; omega
                have BC := fun W => refBars_c x.a.data W hdl
                rw [hD] at hft BC
                have hst := fun W (hW : Below wr.heap.size wr W) => ((HXD.out.below hW).more hW.size).str
                have hal : acc.length + q.length + D.length ≤ 100000 := by have h1 := HLN.out; have h2 := hft.2; rw [HA.out]; simp only [List.length_append] at *; omega
                have h1 : ∀ W, (Op.stringOp .add ⟨acc.toArray⟩ ⟨#[97, 110, 115, 119, 101, 114, 32, 111, 107, 32]⟩).run Tryz.prog W = .ok (.string ⟨(acc ++ wOk).toArray⟩) W := fun W => run_sop acc wOk (by simp [wOk]; omega)
                have h2 : ∀ W, (binOp .add 9 (.string ⟨acc.toArray⟩) (.string ⟨#[97, 110, 115, 119, 101, 114, 32, 111, 107, 32]⟩)).run Tryz.prog W = .ok (.string ⟨(acc ++ wOk).toArray⟩) W := fun W => run_catC acc wOk (by simp [wOk]; omega)
                have h3 : ∀ W, (Op.stringOp .add ⟨(acc ++ wOk).toArray⟩ ⟨q.toArray⟩).run Tryz.prog W = .ok (.string ⟨(acc ++ wOk ++ q).toArray⟩) W := fun W => run_sop (acc ++ wOk) q (by simp [wOk]; omega)
                have h4 : ∀ W, (binOp .add 9 (.string ⟨(acc ++ wOk).toArray⟩) (.string ⟨q.toArray⟩)).run Tryz.prog W = .ok (.string ⟨(acc ++ wOk ++ q).toArray⟩) W := fun W => run_catC (acc ++ wOk) q (by simp [wOk]; omega)
                have h5 : ∀ W, (Op.stringOp .add ⟨(acc ++ wOk ++ q).toArray⟩ ⟨#[10]⟩).run Tryz.prog W = .ok (.string ⟨(acc ++ wOk ++ q ++ [10]).toArray⟩) W := fun W => run_sop (acc ++ wOk ++ q) [10] (by simp [wOk]; omega)
                have h6 : ∀ W, (binOp .add 9 (.string ⟨(acc ++ wOk ++ q).toArray⟩) (.string ⟨#[10]⟩)).run Tryz.prog W = .ok (.string ⟨(acc ++ wOk ++ q ++ [10]).toArray⟩) W := fun W => run_catC (acc ++ wOk ++ q) [10] (by simp [wOk]; omega)
                have h7 : ∀ W, (Op.stringOp .add ⟨(acc ++ wOk ++ q ++ [10]).toArray⟩ ⟨D.toArray⟩).run Tryz.prog W = .ok (.string ⟨(acc ++ wOk ++ q ++ [10] ++ D).toArray⟩) W := fun W => run_sop (acc ++ wOk ++ q ++ [10]) D (by simp [wOk]; omega)
                have h8 : ∀ W, (binOp .add 9 (.string ⟨(acc ++ wOk ++ q ++ [10]).toArray⟩) (.string ⟨D.toArray⟩)).run Tryz.prog W = .ok (.string ⟨(acc ++ wOk ++ q ++ [10] ++ D).toArray⟩) W := fun W => run_catC (acc ++ wOk ++ q ++ [10]) D (by simp [wOk]; omega)
                have HN : Hid (acc ++ wOk ++ q ++ [10] ++ D = wLims ++ L1 ++ [10] ++ L2 ++ (c.script.take (k + 1)).flatMap ansT) := Lib.hid (by rw [hft.1, HA.out]; simp)
                obtain ⟨n9, hn9⟩ : ∃ n9, x.a.data.length = n9 := ⟨_, rfl⟩
                rw [hn9] at z2 hst
                have hzz := And.intro y8 (And.intro z0 (And.intro z1 z2))
                have AT : Hid (∀ W, Hid (Below wr.heap.size wr W) → W.cell? ⟨N, 8, none⟩ = some (.slice (some ⟨b, o, none⟩) c.script.length c3) ∧ W.cell? ⟨b, o + k * 3, none⟩ = some (.string ⟨q.toArray⟩) ∧ W.cell? ⟨b, o + k * 3 + 2, none⟩ = some (.slice x.A n9 x.cap) ∧ (convert 23 9 (.slice x.A n9 x.cap)).run Tryz.prog W = .ok (.string ⟨x.a.data.toArray⟩) W) := Lib.hid fun W hW => by
                  have hb9 : b < wr.heap.size := hbB
                  exact ⟨(hW.out.cell (lt_of HCS.out)).trans hzz.1, (hW.out.cell hb9).trans hzz.2.1, (hW.out.cell hb9).trans hzz.2.2.2, hst W hW.out⟩
                have S1 : Hid (∀ W, Hid (Below wr.heap.size wr W) → Calls Tryz.prog 40 #[.string ⟨x.a.data.toArray⟩] W fun e w' => e = .returned (.string ⟨D.toArray⟩) ∧ Hid (Below wr.heap.size wr w')) := Lib.hid fun W hW =>
                  (BC W).mono fun e w' ⟨he, hb⟩ => ⟨he, hb ▸ hW⟩
                have JG : Hid (Below wr.heap.size wr wr.drew) := Lib.hid (Below.refl _ _).drew
                clear hft hal hans hq hxo hdl hst BC hD hn9 HXD hzz
                generalize (acc ++ wOk : List UInt8) = p1 at *
                generalize (p1 ++ q : List UInt8) = p2 at *
                generalize (p2 ++ [10] : List UInt8) = p3 at *
                generalize (p3 ++ D : List UInt8) = p4 at *
                go_wp2_with fail
                refine wp_region_calm (fun W => Hid (Below wr.heap.size wr W)) 19 (by kernel_rfl) (by kernel_rfl) JG ?_
                simp only [List.take_succ_cons, List.take_zero, List.drop_succ_cons, List.drop_zero]
                repeat
                  refine wpQuiet_step (fun K hK => ?_)
                  go_simp
                  first
                    | (refine hK _ ?_; clear hK K)
                    | (apply Exists.intro
                       refine ⟨fun W hW => ?_, hK _ ?_⟩
                       · first
                           | exact rfl
                           | (with_reducible exact S1.out W hW)
                           | (obtain ⟨a0, a1, a2, a3⟩ := AT.out W hW; go_simp; done)
                           | (obtain ⟨a0, a1, a2, a3⟩ := AT.out W hW; go_simp; exact rfl)
                       clear hK K)
                refine wpQuiet_nil ?_
                intro w9 hw9
                have HB9 := Lib.hid (HB.out.trans (hw9.out.mono HB.out.size))
                clear hw9 S1 AT JG
                go_wp2
                go_roundg (c.script.length - (k + 1))
                case measure => have := hg.out; omega
                case rel => exact ⟨k + 1, _, by go_num, by omega, rfl, HN, Lib.hid (by have := hg.out; omega), HB9⟩
            · have hk1 : ¬ (k : Int) < (c.script.length : Int) := by omega
              have HA4 : Hid (acc = wLims ++ L1 ++ [10] ++ L2 ++ L3) := Lib.hid (by have h9 := HA.out; rw [List.take_of_length_le (by omega), HL3.out] at h9; exact h9)
              obtain ⟨D, hD⟩ : ∃ D, barT c.doc = D := ⟨_, rfl⟩
              have hdl : c.doc.length ≤ 100000 := by have := HG.out.sum; omega
              have BC := Lib.hid (refBars_c c.doc wr hdl)
              have hts := HTs.out
              rw [hD] at BC hts
              have hal : acc.length + D.length ≤ 100000 := by have h1 := HLN.out; rw [hD] at h1; rw [HA4.out]; simp only [List.length_append] at *; omega
              have y0 : wr.cell? ⟨N, 0, none⟩ = some (.string ⟨c.doc.toArray⟩) := by rw [cell_of 0 HCS.out]; rfl
              have h1 : ∀ W, (Op.stringOp .add ⟨acc.toArray⟩ ⟨#[100, 111, 99, 10]⟩).run Tryz.prog W = .ok (.string ⟨(acc ++ (wDoc ++ [10])).toArray⟩) W := fun W => run_sop acc (wDoc ++ [10]) (by simp [wDoc]; omega)
              have h2 : ∀ W, (binOp .add 9 (.string ⟨acc.toArray⟩) (.string ⟨#[100, 111, 99, 10]⟩)).run Tryz.prog W = .ok (.string ⟨(acc ++ (wDoc ++ [10])).toArray⟩) W := fun W => run_catC acc (wDoc ++ [10]) (by simp [wDoc]; omega)
              have h3 : ∀ W, (Op.stringOp .add ⟨(acc ++ (wDoc ++ [10])).toArray⟩ ⟨D.toArray⟩).run Tryz.prog W = .ok (.string ⟨(acc ++ (wDoc ++ [10]) ++ D).toArray⟩) W := fun W => run_sop (acc ++ (wDoc ++ [10])) D (by simp [wDoc]; omega)
              have h4 : ∀ W, (binOp .add 9 (.string ⟨(acc ++ (wDoc ++ [10])).toArray⟩) (.string ⟨D.toArray⟩)).run Tryz.prog W = .ok (.string ⟨(acc ++ (wDoc ++ [10]) ++ D).toArray⟩) W := fun W => run_catC (acc ++ (wDoc ++ [10])) D (by simp [wDoc]; omega)
              have HN : Hid (acc ++ (wDoc ++ [10]) ++ D = T) := Lib.hid (by rw [hts, HA4.out]; simp)
              have HF : Hid (Below w.heap.size w wr) := Lib.hid (HC1.out.2.1.trans ((HP3.out.2.1.trans (HB.out.mono HP3.out.2.1.size)).mono HC1.out.2.1.size))
              clear hD hts hal hdl
              generalize (acc ++ (wDoc ++ [10]) : List UInt8) = p1 at *
              generalize (p1 ++ D : List UInt8) = p2 at *
              go_wp2_with fail
              refine BC.out.mono ?_
              rintro e w6 ⟨rfl, rfl⟩
              go_wp2
              go_ret
              exact ⟨by rw [HN.out]; rfl, by first | exact HF.out | (rw [← HNN.out]; exact HF.out)⟩
end Go.Proofs.YtbllodeanfdebaaGreatDoor
