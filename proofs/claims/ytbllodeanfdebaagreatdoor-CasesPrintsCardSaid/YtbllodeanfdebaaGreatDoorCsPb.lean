/- A case printed, walked. -/
import Derived.Test.YtbllodeanfdebaaGreatDoorRows
import Derived.WalkKit
import Derived.ProofKit
import Derived.OpenShut
import Derived.ShutString
import Derived.ChangeOld
import Derived.Below
import Derived.BigQuiet
import Derived.Deep.QuietTactic
import Derived.Lib.Hide
import Derived.Deep.RegionHeld3
import Derived.Lib.SlBytesConst
import Derived.Laws.CopyOwn
import Derived.Laws.CopyRow
import Derived.Lib.Bytes
import Derived.Deep.LoopGhost
import Derived.Deep.DeepFit
import Derived.Deep.DeepMust
import Derived.WalkSpells
import Derived.WalkLawsBesides
import Derived.Laws.EntriesVeiled
import Derived.Lib.IndexBytes
import Derived.Deep.RegionWith
import Derived.Tactics2
import Derived.Laws.Rows
import Derived.Lib.Replace
import Derived.Lib.Split
import Derived.Lib.ItoaNum
import Derived.Lib.AtoiAllCases
import Derived.Lib.AtoiErrMem
import Derived.Lib.AppendIntMem
import Derived.Maps.OwnOps
import Derived.Maps.OwnSet
import Derived.Maps.Views
import Derived.Maps.AppendAt
import Derived.Deep.AppendLies
import Derived.Defers
import Derived.Recover
import Derived.Laws.Pointers
import Derived.Test.YtbllodeanfdebaaGreatDoorShelf
import Derived.Test.YtbllodeanfdebaaGreatDoorBase
import Derived.Test.YtbllodeanfdebaaGreatDoorCsE
import Derived.Test.YtbllodeanfdebaaGreatDoorCsG
import Derived.Test.YtbllodeanfdebaaGreatDoorCsH
import Derived.Test.YtbllodeanfdebaaGreatDoorCsI
import Derived.Test.YtbllodeanfdebaaGreatDoorCsJ
import Derived.Test.YtbllodeanfdebaaGreatDoorCalm
import Derived.Test.YtbllodeanfdebaaGreatDoorCsL
import Derived.Test.YtbllodeanfdebaaGreatDoorRowS
import Derived.Test.YtbllodeanfdebaaGreatDoorRowG
import Derived.Test.YtbllodeanfdebaaGreatDoorCsO
import Derived.Test.YtbllodeanfdebaaGreatDoorCsM
import Derived.Test.YtbllodeanfdebaaGreatDoorCsN2
import Derived.Test.YtbllodeanfdebaaGreatDoorStL
import Derived.Test.YtbllodeanfdebaaGreatDoorCsO2
import Derived.Test.YtbllodeanfdebaaGreatDoorCsQ
import Derived.Test.YtbllodeanfdebaaGreatDoorStr
import Derived.Test.YtbllodeanfdebaaGreatDoorCsR
import Derived.Test.YtbllodeanfdebaaGreatDoorCsS
import Derived.Test.YtbllodeanfdebaaGreatDoorCsT
import Derived.Test.YtbllodeanfdebaaGreatDoorCsU
import Derived.Test.YtbllodeanfdebaaGreatDoorCsV
import Derived.Test.YtbllodeanfdebaaGreatDoorCsW
import Derived.Test.YtbllodeanfdebaaGreatDoorCsY
import Derived.Test.YtbllodeanfdebaaGreatDoorCsZ
import Derived.Test.YtbllodeanfdebaaGreatDoorCsPa
import Derived.Test.YtbllodeanfdebaaGreatDoorBuild
import Derived.Test.YtbllodeanfdebaaGreatDoorCsB2
namespace Go.Proofs.YtbllodeanfdebaaGreatDoor
open Go.ChangeShapes Go.WideShapes Go.ChangeAt Go.RowKit
set_option linter.unusedVariables false
/-- Printing on its way: what the builder holds; below it all stands. -/
structure PrJ (b : Nat) (acc : List UInt8) (w2 W : World) : Prop where
  bl : Bld (b + 1) b acc W
  bb : Below b w2 W
theorem PrJ.kept {b : Nat} {acc : List UInt8} {w2 W W' : World} (h : PrJ b acc w2 W) (hb : Below W.heap.size W W') : PrJ b acc w2 W' :=
  ⟨h.bl.kept hb, h.bb.trans (hb.mono (Nat.le_of_lt h.bl.lt))⟩
theorem write_c (b : Nat) (acc s : List UInt8) (w2 W : World) (h : PrJ b acc w2 W) (hl : acc.length + s.length ≤ 200000) :
    Calls Tryz.prog 33 #[.pointer (some ⟨b, 0, none⟩), .string ⟨s.toArray⟩] W fun e w' => e = .returned (.tuple #[.int .i64 (s.length : Int), .nilIface]) ∧ PrJ b (acc ++ s) w2 w' ∧ Kp b W w' :=
  (writeString_k b acc s W h.bl (by omega)).mono fun e w' ⟨he, hb, hf, hk⟩ => ⟨he, ⟨hb, h.bb.trans (hf.below (by omega) (Nat.le_refl _))⟩, hk⟩
theorem flat_take {α : Type} {l : List α} {k : Nat} {x : α} (f : α → List UInt8) (h : l[k]? = some x) : (l.take (k + 1)).flatMap f = (l.take k).flatMap f ++ f x ∧ ((l.take k).flatMap f).length + (f x).length ≤ (l.flatMap f).length := by
  have e1 : l.take (k + 1) = l.take k ++ [x] := by rw [List.take_add_one, h]; rfl
  have e2 : (l.take (k + 1)).flatMap f = (l.take k).flatMap f ++ f x := by rw [e1, List.flatMap_append]; simp
  refine ⟨e2, ?_⟩
  have e3 : l.flatMap f = (l.take (k + 1)).flatMap f ++ (l.drop (k + 1)).flatMap f := by rw [← List.flatMap_append, List.take_append_drop]
  rw [e3, e2]
  simp only [List.length_append]
  omega
set_option linter.unusedSimpArgs false in
set_option maxRecDepth 100000 in
set_option maxHeartbeats 40000000 in
theorem print_c (B : Nat) (w : World) (c : CaseC) (A1 A2 A3 : Option Addr) (c1 c2 c3 : Nat) (ys : List AnV) (h : CIn w c A1 A2 A3 c1 c2 c3 ys) (hg : CGood c) (hw : WC B w) :
    Calls Tryz.prog 10 #[caseW c A1 A2 A3 c1 c2 c3] w fun e w' => e = .returned (.tuple #[.string ⟨(printC Lib.decDigits c).toArray⟩, .int .i64 0]) ∧ Below w.heap.size w w' := by
  obtain ⟨m0, m1, m2, m3, m4, m5, HCV⟩ := caseV_ints c.lim
  obtain ⟨N, hN⟩ : ∃ N, w.heap.size = N := ⟨_, rfl⟩
  obtain ⟨w1, hw1⟩ : ∃ w1, w.alloc (.cells #[.slice A1 c.doc.length c1, .int .i64 m0, .int .i64 m1, .int .i64 m2, .int .i64 m3, .int .i64 m4, .int .i64 m5, .slice A2 c.allow.length c2, .slice A3 c.script.length c3] 29) = w1 := ⟨_, rfl⟩
  have hc1 : w1.heap[N]? = some (.cells #[.slice A1 c.doc.length c1, .int .i64 m0, .int .i64 m1, .int .i64 m2, .int .i64 m3, .int .i64 m4, .int .i64 m5, .slice A2 c.allow.length c2, .slice A3 c.script.length c3] 29) := by rw [← hw1, ← hN]; exact hp_new _ _
  have hb1 : Below w.heap.size w w1 := by rw [← hw1]; exact (Below.refl _ _).alloc (Nat.le_refl _) _
  have hlim : ∀ k : Nat, k < 6 → ∃ (v : Nat), c.lim[k]? = some v ∧ v ≤ 1099511627776 := fun k hk => by
    refine ⟨c.lim[k]'(by rw [hg.six]; exact hk), List.getElem?_eq_getElem _, hg.nums _ (List.getElem_mem _)⟩
  have hcs : w1.heap[N]? = some (.cells (caseV (.slice A1 c.doc.length c1) c.lim (.slice A2 c.allow.length c2) (.slice A3 c.script.length c3)) 29) := by rw [HCV]; exact hc1
  have hcell : ∀ k v, k < 6 → c.lim[k]? = some v → (caseV (.slice A1 c.doc.length c1) c.lim (.slice A2 c.allow.length c2) (.slice A3 c.script.length c3))[1 + k]? = some (.int .i64 (v : Nat)) := fun k v hk hv => by
    have e : c.lim.getD k 0 = v := by rw [List.getD_eq_getElem?_getD, hv]; rfl
    rw [← e]
    rcases (show k = 0 ∨ k = 1 ∨ k = 2 ∨ k = 3 ∨ k = 4 ∨ k = 5 by omega) with rfl | rfl | rfl | rfl | rfl | rfl <;> rfl
  have hpf := print_flat c (fun e => by have := hg.six; rw [e] at this; cases this)
  obtain ⟨T, hT⟩ : ∃ T, printC Lib.decDigits c = T := ⟨_, rfl⟩
  have hTl : T.length ≤ 100000 := by rw [← hT]; exact hg.len
  rw [hT] at hpf ⊢
  have HPF := Lib.hid hpf
  have HTL := Lib.hid hTl
  have HC1 := Lib.hid (And.intro hcs (And.intro hb1 (And.intro hlim hcell)))
  have HI1 := Lib.hid (h.up hb1)
  have HW1 := Lib.hid (hw.up hb1)
  have HG := Lib.hid hg
  have q0 : w1.cell? ⟨N, 0, none⟩ = some (.slice A1 c.doc.length c1) := by rw [cell_of 0 hc1]; rfl
  have q1 : w1.cell? ⟨N, 1, none⟩ = some (.int .i64 m0) := by rw [cell_of 1 hc1]; rfl
  have q2 : w1.cell? ⟨N, 2, none⟩ = some (.int .i64 m1) := by rw [cell_of 2 hc1]; rfl
  have q3 : w1.cell? ⟨N, 3, none⟩ = some (.int .i64 m2) := by rw [cell_of 3 hc1]; rfl
  have q4 : w1.cell? ⟨N, 4, none⟩ = some (.int .i64 m3) := by rw [cell_of 4 hc1]; rfl
  have q5 : w1.cell? ⟨N, 5, none⟩ = some (.int .i64 m4) := by rw [cell_of 5 hc1]; rfl
  have q6 : w1.cell? ⟨N, 6, none⟩ = some (.int .i64 m5) := by rw [cell_of 6 hc1]; rfl
  have q7 : w1.cell? ⟨N, 7, none⟩ = some (.slice A2 c.allow.length c2) := by rw [cell_of 7 hc1]; rfl
  have q8 : w1.cell? ⟨N, 8, none⟩ = some (.slice A3 c.script.length c3) := by rw [cell_of 8 hc1]; rfl
  have CK := Lib.hid (check_c w1 c A1 A2 A3 c1 c2 c3 ys HI1.out hg)
  unfold caseW at CK
  rw [HCV] at CK
  unfold caseW
  rw [HCV]
  clear h hg hw hlim hcell hcs hb1 hc1 hpf hT hTl
  go_enter Tryz.func10, Tryz.ntmps10
  go_wp2_with fail
  refine CK.out.mono ?_
  rintro e w2 ⟨rfl, hb2⟩
  have hsz2 : w1.heap.size ≤ w2.heap.size := hb2.size
  have HB2 := Lib.hid (And.intro ((hb2.block _ (lt_of HC1.out.1)).trans HC1.out.1) (And.intro (HI1.out.up hb2) (And.intro (HW1.out.up hb2) (HC1.out.2.1.trans (hb2.mono HC1.out.2.1.size)))))
  have HNB : Hid (N < w2.heap.size) := Lib.hid (lt_of HB2.out.1)
  have HJ3 : Hid (PrJ w2.heap.size [] w2 (w2.alloc (.cells #[.pointer none, .slice none 0 0] 81))) := Lib.hid ⟨Bld.fresh _ _ (by omega), (Below.refl _ _).alloc (Nat.le_refl _) _⟩
  clear hb2 hsz2 CK q0 q1 q2 q3 q4 q5 q6 q7 q8
  obtain ⟨b, hbz⟩ : ∃ b, w2.heap.size = b := ⟨_, rfl⟩
  rw [hbz] at HJ3 HNB
  have HBZ := Lib.hid hbz
  go_wp2_with fail
  refine (write_c b [] wLims w2 _ HJ3.out (by decide)).mono ?_
  rintro e w4 ⟨rfl, hJ4, _⟩
  have HJ4 := Lib.hid hJ4
  clear hJ4 HJ3
  go_wp2_with fail
  refine (limits_c N w4).mono ?_
  rintro e w5 ⟨rfl, hpt, hb5⟩
  have HJ5 := Lib.hid (And.intro (HJ4.out.kept hb5) (And.intro hpt (show b < w4.heap.size from HJ4.out.bl.lt)))
  clear hpt hb5 HJ4
  obtain ⟨pb, hpb⟩ : ∃ pb, w4.heap.size = pb := ⟨_, rfl⟩
  rw [hpb] at HJ5 ⊢
  clear hpb
  obtain ⟨L1, hL1⟩ : ∃ L1, c.lim.flatMap (fun n => [32] ++ Lib.decDigits n) = L1 := ⟨_, rfl⟩
  obtain ⟨L2, hL2⟩ : ∃ L2, c.allow.flatMap (fun p => wAllow ++ p ++ [10]) = L2 := ⟨_, rfl⟩
  obtain ⟨L3, hL3⟩ : ∃ L3, c.script.flatMap ansT = L3 := ⟨_, rfl⟩
  have hTs := HPF.out
  rw [hL1, hL2, hL3] at hTs
  have HTs := Lib.hid hTs
  have hlen := HTL.out
  rw [hTs] at hlen
  simp only [List.length_append] at hlen
  have HLN := Lib.hid hlen
  have HL1 := Lib.hid hL1
  have HL2 := Lib.hid hL2
  have HL3 := Lib.hid hL3
  clear HPF HTL hTs hlen hL1 hL2 hL3
  have UP : Hid (∀ W, Below b w2 W → W.heap[N]? = some (.cells (caseV (.slice A1 c.doc.length c1) c.lim (.slice A2 c.allow.length c2) (.slice A3 c.script.length c3)) 29) ∧ CIn W c A1 A2 A3 c1 c2 c3 ys ∧ WC B W) := Lib.hid fun W hb => by
    have hb' : Below w2.heap.size w2 W := by rw [HBZ.out]; exact hb
    exact ⟨(hb.block _ HNB.out).trans HB2.out.1, HB2.out.2.1.up hb', HB2.out.2.2.1.up hb'⟩
  have HPB : Hid (pb ≠ b) := Lib.hid (by have := HJ5.out.2.2; omega)
  go_wp2_with fail
  go_loopg [21] 6 (fun g i wr => ∃ k : Nat, i = .int .i64 (k : Int) ∧ k ≤ 6 ∧ Hid (g + k = 6) ∧ Hid (PrJ b (wLims ++ (c.lim.take k).flatMap (fun n => [32] ++ Lib.decDigits n)) w2 wr ∧ wr.heap[pb]? = some (.cells (ptrsV N 1) 88)))
  case atStart => exact ⟨0, rfl, by omega, Lib.hid rfl, Lib.hid ⟨HJ5.out.1, HJ5.out.2.1⟩⟩
  case round =>
    obtain ⟨k, rfl, hk, hg, HJ⟩ := hrel
    have HU := Lib.hid (UP.out _ HJ.out.1.bb)
    by_cases hkn : k < 6
    · obtain ⟨v, hv, hvb⟩ := HC1.out.2.2.1 k hkn
      have hk1 : (k : Int) < 6 := by omega
      have a1 : wr.cell? ⟨pb, k, none⟩ = some (.pointer (some ⟨N, 1 + k, none⟩)) := by rw [cell_of k HJ.out.2, ptrs_get N k hkn]
      have a2 : wr.cell? ⟨N, 1 + k, none⟩ = some (.int .i64 (v : Nat)) := by rw [cell_of _ HU.out.1]; exact HC1.out.2.2.2 k v hkn hv
      have IT := Lib.hid (itoaC_c B (v : Int) (by omega) (by omega) wr HU.out.2.2)
      have hit : Lib.itoa (v : Int) = Lib.decDigits v := by unfold Lib.itoa; rw [if_neg (by omega)]; simp
      rw [hit] at IT
      have hft := flat_take (fun n => [32] ++ Lib.decDigits n) hv
      rw [HL1.out] at hft
      obtain ⟨D, hD⟩ : ∃ D, Lib.decDigits v = D := ⟨_, rfl⟩
      simp only [hD] at IT hft
      have hdl : D.length ≤ 100000 := by have := HLN.out; have := hft.2; simp at this; omega
      have hcat : ∀ W, (binOp .add 9 (.string ⟨#[32]⟩) (.string ⟨D.toArray⟩)).run Tryz.prog W = .ok (.string ⟨([32] ++ D).toArray⟩) W := fun W => run_catC [32] D (by simp; omega)
      have hsop : ∀ W, (Op.stringOp .add ⟨#[32]⟩ ⟨D.toArray⟩).run Tryz.prog W = .ok (.string ⟨([32] ++ D).toArray⟩) W := fun W => run_sop [32] D (by simp; omega)
      have HFT := Lib.hid hft
      clear hv hvb hit hft hD
      go_wp2_with fail
      refine IT.out.mono ?_
      rintro e w6 ⟨rfl, hb6⟩
      have HJ6 := Lib.hid (And.intro (HJ.out.1.kept hb6) ((hb6.block _ (lt_of HJ.out.2)).trans HJ.out.2))
      clear hb6 IT
      have WR := Lib.hid (write_c b _ ([32] ++ D) w2 w6 HJ6.out.1 (by have := HLN.out; have := HFT.out.2; simp only [List.length_append] at *; omega))
      go_wp2_with fail
      refine WR.out.mono ?_
      rintro e w7 ⟨rfl, hJ7, hk7⟩
      have HJ7 : Hid (PrJ b (wLims ++ (c.lim.take (k + 1)).flatMap (fun n => [32] ++ Lib.decDigits n)) w2 w7 ∧ w7.heap[pb]? = some (.cells (ptrsV N 1) 88)) := Lib.hid ⟨by rw [HFT.out.1, ← List.append_assoc]; exact hJ7, hk7 pb _ _ _ HPB.out (by decide) HJ6.out.2⟩
      clear hJ7 hk7 WR HJ6
      go_wp2
      go_roundg (6 - (k + 1))
      case measure => have := hg.out; omega
      case rel => exact ⟨k + 1, by go_num, by omega, Lib.hid (by omega), HJ7⟩
    · have hk1 : ¬ (k : Int) < 6 := by omega
      have HJ8 : Hid (PrJ b (wLims ++ L1) w2 wr) := Lib.hid (by have h9 := HJ.out.1; rw [List.take_of_length_le (by rw [HG.out.six]; omega), HL1.out] at h9; exact h9)
      clear HJ HJ5 HPB
      have WR := Lib.hid (write_c b _ [10] w2 wr HJ8.out (by have := HLN.out; simp only [List.length_append] at *; omega))
      go_wp2_with fail
      refine WR.out.mono ?_
      rintro e w6 ⟨rfl, hJ6, _⟩
      have HJ6 := Lib.hid hJ6
      have q7 : w6.cell? ⟨N, 7, none⟩ = some (.slice A2 c.allow.length c2) := by rw [cell_of 7 (UP.out _ HJ6.out.bb).1]; rfl
      clear hJ6 WR HJ8 HU
      go_wp2_with fail
      go_loopg [37] c.allow.length (fun g i wr => ∃ k : Nat, i = .int .i64 (k : Int) ∧ k ≤ c.allow.length ∧ Hid (g + k = c.allow.length) ∧ Hid (PrJ b (wLims ++ L1 ++ [10] ++ (c.allow.take k).flatMap (fun p => wAllow ++ p ++ [10])) w2 wr))
      case atStart => exact ⟨0, rfl, by omega, Lib.hid rfl, Lib.hid (by simpa using HJ6.out)⟩
      case round =>
        obtain ⟨k, rfl, hk, hg, HJ⟩ := hrel
        have HU := Lib.hid (UP.out _ HJ.out.bb)
        by_cases hkn : k < c.allow.length
        · have hk1 : (k : Int) < (c.allow.length : Int) := by omega
          have hk9 : (k : Int) ≤ 256 := by have := HG.out.na; omega
          obtain ⟨b1, o1, p, rfl, hb1, hp, hc⟩ := HU.out.2.1.al.cell hkn
          have y0 : wr.cell? ⟨b1, o1 + k, none⟩ = some (.string ⟨p.toArray⟩) := by rw [show o1 + k = o1 + (k * 1 + 0) by omega]; exact hc 0 _ rfl
          have hft := flat_take (fun p => wAllow ++ p ++ [10]) hp
          rw [HL2.out] at hft
          have hpl : p.length ≤ 100000 := by have := HLN.out; have := hft.2; simp only [List.length_append] at this; omega
          have h1 : ∀ W, (Op.stringOp .add ⟨#[97, 108, 108, 111, 119, 32]⟩ ⟨p.toArray⟩).run Tryz.prog W = .ok (.string ⟨(wAllow ++ p).toArray⟩) W := fun W => run_sop wAllow p (by simp [wAllow]; omega)
          have h2 : ∀ W, (Op.stringOp .add ⟨(wAllow ++ p).toArray⟩ ⟨#[10]⟩).run Tryz.prog W = .ok (.string ⟨(wAllow ++ p ++ [10]).toArray⟩) W := fun W => run_sop (wAllow ++ p) [10] (by simp [wAllow]; omega)
          have h3 : ∀ W, (binOp .add 9 (.string ⟨#[97, 108, 108, 111, 119, 32]⟩) (.string ⟨p.toArray⟩)).run Tryz.prog W = .ok (.string ⟨(wAllow ++ p).toArray⟩) W := fun W => run_catC wAllow p (by simp [wAllow]; omega)
          have h4 : ∀ W, (binOp .add 9 (.string ⟨(wAllow ++ p).toArray⟩) (.string ⟨#[10]⟩)).run Tryz.prog W = .ok (.string ⟨(wAllow ++ p ++ [10]).toArray⟩) W := fun W => run_catC (wAllow ++ p) [10] (by simp [wAllow]; omega)
          have WR := Lib.hid (write_c b _ (wAllow ++ p ++ [10]) w2 wr HJ.out (by have := HLN.out; have := hft.2; simp only [List.length_append] at *; omega))
          have HFT := Lib.hid hft
          clear hb1 hp hc hft hpl
          generalize (wAllow ++ p : List UInt8) = p1 at *
          generalize (p1 ++ [10] : List UInt8) = p2 at *
          go_wp2_with fail
          refine WR.out.mono ?_
          rintro e w7 ⟨rfl, hJ7, _⟩
          have HJ7 : Hid (PrJ b (wLims ++ L1 ++ [10] ++ (c.allow.take (k + 1)).flatMap (fun p => wAllow ++ p ++ [10])) w2 w7) := Lib.hid (by rw [HFT.out.1, ← List.append_assoc]; exact hJ7)
          clear hJ7 WR
          go_wp2
          go_roundg (c.allow.length - (k + 1))
          case measure => have := hg.out; omega
          case rel => exact ⟨k + 1, by go_num, by omega, Lib.hid (by have := hg.out; omega), HJ7⟩
        · have hk1 : ¬ (k : Int) < (c.allow.length : Int) := by omega
          have HJ8 : Hid (PrJ b (wLims ++ L1 ++ [10] ++ L2) w2 wr) := Lib.hid (by have h9 := HJ.out; rw [List.take_of_length_le (by omega), HL2.out] at h9; exact h9)
          have q8 : wr.cell? ⟨N, 8, none⟩ = some (.slice A3 c.script.length c3) := by rw [cell_of 8 HU.out.1]; rfl
          clear HJ HJ6 HU
          go_wp2_with fail
          go_loopg [49] c.script.length (fun g i wr => ∃ k : Nat, i = .int .i64 (k : Int) ∧ k ≤ c.script.length ∧ Hid (g + k = c.script.length) ∧ Hid (PrJ b (wLims ++ L1 ++ [10] ++ L2 ++ (c.script.take k).flatMap ansT) w2 wr))
          case atStart => exact ⟨0, rfl, by omega, Lib.hid rfl, Lib.hid (by simpa using HJ8.out)⟩
          case round =>
            obtain ⟨k, rfl, hk, hg, HJ⟩ := hrel
            have HU := Lib.hid (UP.out _ HJ.out.bb)
            by_cases hkn : k < c.script.length
            · have hk1 : (k : Int) < (c.script.length : Int) := by omega
              have hk9 : (k : Int) ≤ 256 := by have := HG.out.ns; omega
              obtain ⟨b1, o1, x, rfl, hb1, hx, hc⟩ := HU.out.2.1.sc.cell hkn
              have z0 : wr.cell? ⟨b1, o1 + k * 3, none⟩ = some (.string ⟨x.a.id.toArray⟩) := by rw [show o1 + k * 3 = o1 + (k * 3 + 0) by omega]; exact hc 0 _ rfl
              have z1 : wr.cell? ⟨b1, o1 + k * 3 + 1, none⟩ = some (.bool x.a.ok) := by rw [show o1 + k * 3 + 1 = o1 + (k * 3 + 1) by omega]; exact hc 1 _ rfl
              have z2 : wr.cell? ⟨b1, o1 + k * 3 + 2, none⟩ = some (.slice x.A x.a.data.length x.cap) := by rw [show o1 + k * 3 + 2 = o1 + (k * 3 + 2) by omega]; exact hc 2 _ rfl
              have hxa : c.script[k]? = some x.a := by rw [← HU.out.2.1.ym, List.getElem?_map, hx]; rfl
              have hft := flat_take ansT hxa
              rw [HL3.out] at hft
              have hxd := HU.out.2.1.dat x (List.mem_of_getElem? hx)
              obtain ⟨wa, hwa⟩ : ∃ wa, wr.alloc (.cells #[.string ⟨x.a.id.toArray⟩, .bool x.a.ok, .slice x.A x.a.data.length x.cap] 71) = wa := ⟨_, rfl⟩
              have ka : Below wr.heap.size wr wa := by rw [← hwa]; exact (Below.refl _ wr).alloc (Nat.le_refl _) _
              have hcp : wa.heap[wr.heap.size]? = some (.cells #[.string ⟨x.a.id.toArray⟩, .bool x.a.ok, .slice x.A x.a.data.length x.cap] 71) := by rw [← hwa]; exact hp_new _ _
              have HJ2 := Lib.hid (HJ.out.kept ka)
              have HCP := Lib.hid hcp
              have HXD := Lib.hid ((hxd.below ka).more ka.size)
              have HU2 := Lib.hid (UP.out _ HJ2.out.bb)
              obtain ⟨cp, hcpz⟩ : ∃ cp, wr.heap.size = cp := ⟨_, rfl⟩
              rw [hcpz] at HCP
              have HCZ := Lib.hid hcpz
              clear hb1 hc hx hxa hxd ka hcp
              cases hxo : x.a.ok with
              | false =>
                rw [hxo] at z1 HCP hwa
                have hans : ansT x.a = wNo ++ x.a.id ++ [10] := by unfold ansT; rw [hxo, if_neg (by simp)]
                rw [hans] at hft
                have hpl : x.a.id.length ≤ 100000 := by have := HLN.out; have := hft.2; simp only [List.length_append] at this; omega
                have y0 : wa.cell? ⟨cp, 0, none⟩ = some (.string ⟨x.a.id.toArray⟩) := by rw [cell_of 0 HCP.out]; rfl
                have y1 : wa.cell? ⟨cp, 1, none⟩ = some (.bool false) := by rw [cell_of 1 HCP.out]; rfl
                obtain ⟨p, hp⟩ : ∃ p, x.a.id = p := ⟨_, rfl⟩
                rw [hp] at hft hpl y0 z0 hwa
                have h1 : ∀ W, (Op.stringOp .add ⟨#[97, 110, 115, 119, 101, 114, 32, 110, 111, 32]⟩ ⟨p.toArray⟩).run Tryz.prog W = .ok (.string ⟨(wNo ++ p).toArray⟩) W := fun W => run_sop wNo p (by simp [wNo]; omega)
                have h2 : ∀ W, (Op.stringOp .add ⟨(wNo ++ p).toArray⟩ ⟨#[10]⟩).run Tryz.prog W = .ok (.string ⟨(wNo ++ p ++ [10]).toArray⟩) W := fun W => run_sop (wNo ++ p) [10] (by simp [wNo]; omega)
                have h3 : ∀ W, (binOp .add 9 (.string ⟨#[97, 110, 115, 119, 101, 114, 32, 110, 111, 32]⟩) (.string ⟨p.toArray⟩)).run Tryz.prog W = .ok (.string ⟨(wNo ++ p).toArray⟩) W := fun W => run_catC wNo p (by simp [wNo]; omega)
                have h4 : ∀ W, (binOp .add 9 (.string ⟨(wNo ++ p).toArray⟩) (.string ⟨#[10]⟩)).run Tryz.prog W = .ok (.string ⟨(wNo ++ p ++ [10]).toArray⟩) W := fun W => run_catC (wNo ++ p) [10] (by simp [wNo]; omega)
                have WR := Lib.hid (write_c b _ (wNo ++ p ++ [10]) w2 wa HJ2.out (by have := HLN.out; have := hft.2; simp only [List.length_append] at *; omega))
                have HFT := Lib.hid hft
                clear hft hpl hp hxo hans
                generalize (wNo ++ p : List UInt8) = p1 at *
                generalize (p1 ++ [10] : List UInt8) = p2 at *
                go_wp2_with fail
                refine WR.out.mono ?_
                rintro e w7 ⟨rfl, hJ7, _⟩
                have HJ7 : Hid (PrJ b (wLims ++ L1 ++ [10] ++ L2 ++ (c.script.take (k + 1)).flatMap ansT) w2 w7) := Lib.hid (by rw [HFT.out.1, ← List.append_assoc]; exact hJ7)
                clear hJ7 WR
                go_wp2
                go_roundg (c.script.length - (k + 1))
                case measure => have := hg.out; omega
                case rel => exact ⟨k + 1, by go_num, by omega, Lib.hid (by have := hg.out; omega), HJ7⟩
              | true =>
                rw [hxo] at z1 HCP hwa
                have hans : ansT x.a = wOk ++ x.a.id ++ [10] ++ barT x.a.data := by unfold ansT; rw [hxo, if_pos rfl]
                rw [hans] at hft
                have hpl : x.a.id.length + (barT x.a.data).length ≤ 100000 := by have := HLN.out; have := hft.2; simp only [List.length_append] at this; omega
                have y1 : wa.cell? ⟨cp, 1, none⟩ = some (.bool true) := by rw [cell_of 1 HCP.out]; rfl
                have hdl : x.a.data.length ≤ 100000 := by have := HLN.out; have := hft.2; have := (bar_lo x.a.data); omega
                have hxm : ∀ W, Below wa.heap.size wa W → Byt W W.heap.size x.A x.a.data.length x.cap x.a.data := fun W hb => (HXD.out.below hb).more hb.size
                obtain ⟨D, hD⟩ : ∃ D, barT x.a.data = D := ⟨_, rfl⟩
                have BC0 := fun W hb (hW : WC B W) => bars_c B x.A x.a.data.length x.cap x.a.data W (hxm W hb) hdl hW
                rw [hD] at hft hpl BC0
                obtain ⟨p, hp⟩ : ∃ p, x.a.id = p := ⟨_, rfl⟩
                rw [hp] at hft hpl HCP z0 hwa
                have h1 : ∀ W, (Op.stringOp .add ⟨#[97, 110, 115, 119, 101, 114, 32, 111, 107, 32]⟩ ⟨p.toArray⟩).run Tryz.prog W = .ok (.string ⟨(wOk ++ p).toArray⟩) W := fun W => run_sop wOk p (by simp [wOk]; omega)
                have h2 : ∀ W, (Op.stringOp .add ⟨(wOk ++ p).toArray⟩ ⟨#[10]⟩).run Tryz.prog W = .ok (.string ⟨(wOk ++ p ++ [10]).toArray⟩) W := fun W => run_sop (wOk ++ p) [10] (by simp [wOk]; omega)
                have h3 : ∀ W, (binOp .add 9 (.string ⟨#[97, 110, 115, 119, 101, 114, 32, 111, 107, 32]⟩) (.string ⟨p.toArray⟩)).run Tryz.prog W = .ok (.string ⟨(wOk ++ p).toArray⟩) W := fun W => run_catC wOk p (by simp [wOk]; omega)
                have h4 : ∀ W, (binOp .add 9 (.string ⟨(wOk ++ p).toArray⟩) (.string ⟨#[10]⟩)).run Tryz.prog W = .ok (.string ⟨(wOk ++ p ++ [10]).toArray⟩) W := fun W => run_catC (wOk ++ p) [10] (by simp [wOk]; omega)
                have h5 : ∀ W, (Op.stringOp .add ⟨(wOk ++ p ++ [10]).toArray⟩ ⟨D.toArray⟩).run Tryz.prog W = .ok (.string ⟨(wOk ++ p ++ [10] ++ D).toArray⟩) W := fun W => run_sop (wOk ++ p ++ [10]) D (by simp [wOk]; omega)
                have h6 : ∀ W, (binOp .add 9 (.string ⟨(wOk ++ p ++ [10]).toArray⟩) (.string ⟨D.toArray⟩)).run Tryz.prog W = .ok (.string ⟨(wOk ++ p ++ [10] ++ D).toArray⟩) W := fun W => run_catC (wOk ++ p ++ [10]) D (by simp [wOk]; omega)
                have HWR : Hid (∀ W, PrJ b (wLims ++ L1 ++ [10] ++ L2 ++ (c.script.take k).flatMap ansT) w2 W → _) := Lib.hid (fun W hJ => write_c b _ (wOk ++ p ++ [10] ++ D) w2 W hJ (by have := HLN.out; have := hft.2; simp only [List.length_append] at *; omega))
                have HFT := Lib.hid hft
                obtain ⟨n9, hn9⟩ : ∃ n9, x.a.data.length = n9 := ⟨_, rfl⟩
                rw [hn9] at HCP z2 hwa BC0 hdl
                obtain ⟨acc, hacc⟩ : ∃ acc, wLims ++ L1 ++ [10] ++ L2 ++ (c.script.take k).flatMap ansT = acc := ⟨_, rfl⟩
                rw [hacc] at HJ2 HWR
                have HACC := Lib.hid hacc
                have AT : Hid (∀ W, Hid (PrJ b acc w2 W ∧ Below wa.heap.size wa W) → W.cell? ⟨cp, 0, none⟩ = some (.string ⟨p.toArray⟩) ∧ W.cell? ⟨cp, 2, none⟩ = some (.slice x.A n9 x.cap)) := Lib.hid fun W hW => by
                  have h9 := (hW.out.2.block _ (lt_of HCP.out)).trans HCP.out
                  exact ⟨by rw [cell_of 0 h9]; rfl, by rw [cell_of 2 h9]; rfl⟩
                have S1 : Hid (∀ W, Hid (PrJ b acc w2 W ∧ Below wa.heap.size wa W) → Calls Tryz.prog 36 #[.slice x.A n9 x.cap] W fun e w' => e = .returned (.string ⟨D.toArray⟩) ∧ Hid (PrJ b acc w2 w' ∧ Below wa.heap.size wa w')) := Lib.hid fun W hW =>
                  (BC0 W hW.out.2 (UP.out _ hW.out.1.bb).2.2).mono fun e w' ⟨he, hb⟩ => ⟨he, Lib.hid ⟨hW.out.1.kept hb, hW.out.2.trans (hb.mono hW.out.2.size)⟩⟩
                have JG : Hid (PrJ b acc w2 wa.drew ∧ Below wa.heap.size wa wa.drew) := Lib.hid ⟨HJ2.out.kept (Below.refl _ _).drew, (Below.refl _ _).drew⟩
                clear hft hpl hp hxo hans hD hdl hxm BC0 hacc hn9
                generalize (wOk ++ p : List UInt8) = p1 at *
                generalize (p1 ++ [10] : List UInt8) = p2 at *
                generalize (p2 ++ D : List UInt8) = p3 at *
                go_wp2_with fail
                refine wp_region_calm (fun W => Hid (PrJ b acc w2 W ∧ Below wa.heap.size wa W)) 8 (by kernel_rfl) (by kernel_rfl) JG ?_
                simp only [List.take_succ_cons, List.take_zero, List.drop_succ_cons, List.drop_zero]
                repeat
                  refine wpQuiet_step (fun K hK => ?_)
                  go_simp
                  first
                    | (refine hK _ ?_; clear hK K)
                    | (apply Exists.intro
                       refine ⟨fun W hW => ?_, hK _ ?_⟩
                       · first
                           | exact rfl
                           | (with_reducible exact S1.out W hW)
                           | (obtain ⟨a0, a2⟩ := AT.out W hW; go_simp; done)
                           | (obtain ⟨a0, a2⟩ := AT.out W hW; go_simp; exact rfl)
                       clear hK K)
                refine wpQuiet_nil ?_
                intro w9 hw9
                have WR := Lib.hid (HWR.out w9 hw9.out.1)
                clear S1 AT JG
                go_wp2_with fail
                refine WR.out.mono ?_
                rintro e w7 ⟨rfl, hJ7, _⟩
                have HJ7 : Hid (PrJ b (wLims ++ L1 ++ [10] ++ L2 ++ (c.script.take (k + 1)).flatMap ansT) w2 w7) := Lib.hid (by rw [HFT.out.1, ← List.append_assoc, HACC.out]; exact hJ7)
                clear hJ7 WR
                go_wp2
                go_roundg (c.script.length - (k + 1))
                case measure => have := hg.out; omega
                case rel => exact ⟨k + 1, by go_num, by omega, Lib.hid (by have := hg.out; omega), HJ7⟩
            · have hk1 : ¬ (k : Int) < (c.script.length : Int) := by omega
              have HJ9 : Hid (PrJ b (wLims ++ L1 ++ [10] ++ L2 ++ L3) w2 wr) := Lib.hid (by have h9 := HJ.out; rw [List.take_of_length_le (by omega), HL3.out] at h9; exact h9)
              have q0 : wr.cell? ⟨N, 0, none⟩ = some (.slice A1 c.doc.length c1) := by rw [cell_of 0 HU.out.1]; rfl
              have BC := Lib.hid (bars_c B A1 c.doc.length c1 c.doc wr HU.out.2.1.doc (by have := HG.out.sum; omega) HU.out.2.2)
              obtain ⟨L4, hL4⟩ : ∃ L4, barT c.doc = L4 := ⟨_, rfl⟩
              have HL4 := Lib.hid hL4
              have hl4 : L4.length ≤ 100000 := by have := HLN.out; rw [hL4] at this; omega
              rw [hL4] at BC
              have h1 : ∀ W, (Op.stringOp .add ⟨#[100, 111, 99, 10]⟩ ⟨L4.toArray⟩).run Tryz.prog W = .ok (.string ⟨(wDoc ++ [10] ++ L4).toArray⟩) W := fun W => run_sop (wDoc ++ [10]) L4 (by simp [wDoc]; omega)
              have h3 : ∀ W, (binOp .add 9 (.string ⟨#[100, 111, 99, 10]⟩) (.string ⟨L4.toArray⟩)).run Tryz.prog W = .ok (.string ⟨(wDoc ++ [10] ++ L4).toArray⟩) W := fun W => run_catC (wDoc ++ [10]) L4 (by simp [wDoc]; omega)
              clear HJ HJ8 hL4
              go_wp2_with fail
              refine BC.out.mono ?_
              rintro e w6 ⟨rfl, hb6⟩
              have HJ6 := Lib.hid (HJ9.out.kept hb6)
              clear hb6 BC HJ9
              have WR := Lib.hid (write_c b _ (wDoc ++ [10] ++ L4) w2 w6 HJ6.out (by have := HLN.out; rw [HL4.out] at this; simp only [List.length_append] at *; omega))
              go_wp2_with fail
              refine WR.out.mono ?_
              rintro e w7 ⟨rfl, hJ7, _⟩
              have HT7 : Hid (Bld (b + 1) b T w7 ∧ Below b w2 w7) := Lib.hid ⟨by have h9 := hJ7.bl; rw [← HL4.out, ← HTs.out] at h9; exact h9, hJ7.bb⟩
              clear hJ7 WR HJ6 h1 h3
              go_wp2_with fail
              refine (string_b (b + 1) b T w7 HT7.out.1).mono ?_
              rintro e w8 ⟨rfl, hb8⟩
              have HF : Hid (Below w.heap.size w w8) := Lib.hid (HB2.out.2.2.2.trans ((HT7.out.2.trans hb8).mono (by have := HB2.out.2.2.2.size; have := HBZ.out; omega)))
              clear hb8
              go_wp2
              go_ret2
              exact ⟨rfl, HF.out⟩
end Go.Proofs.YtbllodeanfdebaaGreatDoor
