/- CasesPrints walked. -/
import Derived.Test.YtbllodeanfdebaaGreatDoorRows
import Derived.WalkKit
import Derived.ProofKit
import Derived.OpenShut
import Derived.ShutString
import Derived.ChangeOld
import Derived.Below
import Derived.BigQuiet
import Derived.Deep.QuietTactic
import Derived.Lib.Hide
import Derived.Deep.RegionHeld3
import Derived.Lib.SlBytesConst
import Derived.Laws.CopyOwn
import Derived.Laws.CopyRow
import Derived.Lib.Bytes
import Derived.Deep.LoopGhost
import Derived.Deep.DeepFit
import Derived.Deep.DeepMust
import Derived.WalkSpells
import Derived.WalkLawsBesides
import Derived.Laws.EntriesVeiled
import Derived.Lib.IndexBytes
import Derived.Deep.RegionWith
import Derived.Tactics2
import Derived.Laws.Rows
import Derived.Lib.Replace
import Derived.Lib.Split
import Derived.Lib.ItoaNum
import Derived.Lib.AtoiAllCases
import Derived.Lib.AtoiErrMem
import Derived.Lib.AppendIntMem
import Derived.Maps.OwnOps
import Derived.Maps.OwnSet
import Derived.Maps.Views
import Derived.Maps.AppendAt
import Derived.Deep.AppendLies
import Derived.Defers
import Derived.Recover
import Derived.Laws.Pointers
import Derived.ArgAppend
import Derived.Deep.AppendSrc
import Derived.Deep.Upon
import Derived.Test.YtbllodeanfdebaaGreatDoorShelf
import Derived.Test.YtbllodeanfdebaaGreatDoorBase
import Derived.Test.YtbllodeanfdebaaGreatDoorCsE
import Derived.Test.YtbllodeanfdebaaGreatDoorCsG
import Derived.Test.YtbllodeanfdebaaGreatDoorCsH
import Derived.Test.YtbllodeanfdebaaGreatDoorCsI
import Derived.Test.YtbllodeanfdebaaGreatDoorCsJ
import Derived.Test.YtbllodeanfdebaaGreatDoorCalm
import Derived.Test.YtbllodeanfdebaaGreatDoorCsL
import Derived.Test.YtbllodeanfdebaaGreatDoorRowS
import Derived.Test.YtbllodeanfdebaaGreatDoorRowG
import Derived.Test.YtbllodeanfdebaaGreatDoorCsO
import Derived.Test.YtbllodeanfdebaaGreatDoorCsM
import Derived.Test.YtbllodeanfdebaaGreatDoorCsN2
import Derived.Test.YtbllodeanfdebaaGreatDoorStL
import Derived.Test.YtbllodeanfdebaaGreatDoorCsO2
import Derived.Test.YtbllodeanfdebaaGreatDoorCsQ
import Derived.Test.YtbllodeanfdebaaGreatDoorStr
import Derived.Test.YtbllodeanfdebaaGreatDoorCsR
import Derived.Test.YtbllodeanfdebaaGreatDoorCsS
import Derived.Test.YtbllodeanfdebaaGreatDoorCsT
import Derived.Test.YtbllodeanfdebaaGreatDoorCsU
import Derived.Test.YtbllodeanfdebaaGreatDoorCsV
import Derived.Test.YtbllodeanfdebaaGreatDoorCsW
import Derived.Test.YtbllodeanfdebaaGreatDoorCsY
import Derived.Test.YtbllodeanfdebaaGreatDoorCsZ
import Derived.Test.YtbllodeanfdebaaGreatDoorCsPa
import Derived.Test.YtbllodeanfdebaaGreatDoorRpC
import Derived.Test.YtbllodeanfdebaaGreatDoorCtD
import Derived.Test.YtbllodeanfdebaaGreatDoorCtE
import Derived.Test.YtbllodeanfdebaaGreatDoorCsB2
import Derived.Test.YtbllodeanfdebaaGreatDoorBuild
import Derived.Test.YtbllodeanfdebaaGreatDoorCsPb
import Derived.Test.YtbllodeanfdebaaGreatDoorCtF
import Derived.Test.YtbllodeanfdebaaGreatDoorCuA
import Derived.Test.YtbllodeanfdebaaGreatDoorCuB
import Derived.Test.YtbllodeanfdebaaGreatDoorCuE
import Derived.Test.YtbllodeanfdebaaGreatDoorBits
import Derived.Test.YtbllodeanfdebaaGreatDoorCuC
import Derived.Test.YtbllodeanfdebaaGreatDoorCuF
import Derived.Test.YtbllodeanfdebaaGreatDoorCuJ
import Derived.Test.YtbllodeanfdebaaGreatDoorCsX
namespace Go.Proofs.YtbllodeanfdebaaGreatDoor
open Go.ChangeShapes Go.WideShapes Go.ChangeAt Go.RowKit
set_option linter.unusedVariables false
set_option linter.unusedSimpArgs false in
set_option maxRecDepth 100000 in
set_option maxHeartbeats 16000000 in
theorem casesPrints_live (W : World) (doc : List UInt8) (al : List (List UInt8)) (A1 A2 A3 : Option Addr) (c1 c2 c3 n3 : Nat) (ys : List AnV) (m0 m1 m2 m3 m4 m5 : Int) (hw : WC W.heap.size W) (h : CInI W doc al A1 A2 A3 c1 c2 c3 ys) (hn3 : ys.length = n3) (hd : 600 < doc.length) :
    Calls Tryz.prog 4 #[.slice A1 doc.length c1, .agg #[.int .i64 m0, .int .i64 m1, .int .i64 m2, .int .i64 m3, .int .i64 m4, .int .i64 m5, .slice A2 al.length c2, .slice A3 n3 c3]] W fun e w' => e = .returned (.bool true) ∧ Below W.heap.size W w' := by
  obtain ⟨N, hN⟩ : ∃ N, W.heap.size = N := ⟨_, rfl⟩
  obtain ⟨w1, hw1⟩ : ∃ w1, W.alloc (.cells #[.int .i64 m0, .int .i64 m1, .int .i64 m2, .int .i64 m3, .int .i64 m4, .int .i64 m5, .slice A2 al.length c2, .slice A3 n3 c3] 43) = w1 := ⟨_, rfl⟩
  have hc1 : w1.heap[N]? = some (.cells #[.int .i64 m0, .int .i64 m1, .int .i64 m2, .int .i64 m3, .int .i64 m4, .int .i64 m5, .slice A2 al.length c2, .slice A3 n3 c3] 43) := by rw [← hw1, ← hN]; exact hp_new _ _
  have hb1 : Below W.heap.size W w1 := by rw [← hw1]; exact (Below.refl _ _).alloc (Nat.le_refl _) _
  have q0 : w1.cell? ⟨N, 0, none⟩ = some (.int .i64 m0) := by rw [cell_of 0 hc1]; rfl
  have q1 : w1.cell? ⟨N, 1, none⟩ = some (.int .i64 m1) := by rw [cell_of 1 hc1]; rfl
  have q2 : w1.cell? ⟨N, 2, none⟩ = some (.int .i64 m2) := by rw [cell_of 2 hc1]; rfl
  have q3 : w1.cell? ⟨N, 3, none⟩ = some (.int .i64 m3) := by rw [cell_of 3 hc1]; rfl
  have q4 : w1.cell? ⟨N, 4, none⟩ = some (.int .i64 m4) := by rw [cell_of 4 hc1]; rfl
  have q5 : w1.cell? ⟨N, 5, none⟩ = some (.int .i64 m5) := by rw [cell_of 5 hc1]; rfl
  have q6 : w1.cell? ⟨N, 6, none⟩ = some (.slice A2 al.length c2) := by rw [cell_of 6 hc1]; rfl
  have q7 : w1.cell? ⟨N, 7, none⟩ = some (.slice A3 n3 c3) := by rw [cell_of 7 hc1]; rfl
  have LV := Lib.hid (live43_c W.heap.size w1 (hw.up hb1))
  have HB1 := Lib.hid hb1
  have hd1 : (600 : Int) < (doc.length : Int) := by omega
  clear h hw hc1 hb1 hn3 hd
  go_enter Tryz.func4, Tryz.ntmps4
  go_wp2_with fail
  refine LV.out.mono ?_
  rintro e w2 ⟨rfl, hb⟩
  have HB := Lib.hid (HB1.out.trans (hb.mono HB1.out.size))
  clear hb q0 q1 q2 q3 q4 q5 q6 q7
  go_wp2
  go_ret
  exact ⟨rfl, HB.out⟩
set_option linter.unusedSimpArgs false in
set_option maxRecDepth 100000 in
set_option maxHeartbeats 80000000 in
theorem casesPrints_no (W : World) (doc : List UInt8) (al : List (List UInt8)) (A1 A2 A3 : Option Addr) (c1 c2 c3 n3 : Nat) (ys : List AnV) (m0 m1 m2 m3 m4 m5 : Int) (hw : WC W.heap.size W) (h : CInI W doc al A1 A2 A3 c1 c2 c3 ys) (hn3 : ys.length = n3) (hd : doc.length ≤ 600) (K : Int) (hK : checkK [m0, m1, m2, m3, m4, m5] al (ys.map AnV.a) = K) (hK0 : ¬ K = 0) :
    Calls Tryz.prog 4 #[.slice A1 doc.length c1, .agg #[.int .i64 m0, .int .i64 m1, .int .i64 m2, .int .i64 m3, .int .i64 m4, .int .i64 m5, .slice A2 al.length c2, .slice A3 n3 c3]] W fun e w' => e = .returned (.bool true) ∧ Below W.heap.size W w' := by
  obtain ⟨N, hN⟩ : ∃ N, W.heap.size = N := ⟨_, rfl⟩
  obtain ⟨w1, hw1⟩ : ∃ w1, W.alloc (.cells #[.int .i64 m0, .int .i64 m1, .int .i64 m2, .int .i64 m3, .int .i64 m4, .int .i64 m5, .slice A2 al.length c2, .slice A3 n3 c3] 43) = w1 := ⟨_, rfl⟩
  have hc1 : w1.heap[N]? = some (.cells #[.int .i64 m0, .int .i64 m1, .int .i64 m2, .int .i64 m3, .int .i64 m4, .int .i64 m5, .slice A2 al.length c2, .slice A3 n3 c3] 43) := by rw [← hw1, ← hN]; exact hp_new _ _
  have hb1 : Below W.heap.size W w1 := by rw [← hw1]; exact (Below.refl _ _).alloc (Nat.le_refl _) _
  have q0 : w1.cell? ⟨N, 0, none⟩ = some (.int .i64 m0) := by rw [cell_of 0 hc1]; rfl
  have q1 : w1.cell? ⟨N, 1, none⟩ = some (.int .i64 m1) := by rw [cell_of 1 hc1]; rfl
  have q2 : w1.cell? ⟨N, 2, none⟩ = some (.int .i64 m2) := by rw [cell_of 2 hc1]; rfl
  have q3 : w1.cell? ⟨N, 3, none⟩ = some (.int .i64 m3) := by rw [cell_of 3 hc1]; rfl
  have q4 : w1.cell? ⟨N, 4, none⟩ = some (.int .i64 m4) := by rw [cell_of 4 hc1]; rfl
  have q5 : w1.cell? ⟨N, 5, none⟩ = some (.int .i64 m5) := by rw [cell_of 5 hc1]; rfl
  have q6 : w1.cell? ⟨N, 6, none⟩ = some (.slice A2 al.length c2) := by rw [cell_of 6 hc1]; rfl
  have q7 : w1.cell? ⟨N, 7, none⟩ = some (.slice A3 n3 c3) := by rw [cell_of 7 hc1]; rfl
  have G1 := Lib.hid (great23_c A3 n3 c3 ys w1 (by have := (h.up hb1).sc; rw [hn3] at this; exact this))
  have G2 := Lib.hid (great22_c A2 al.length c2 al w1 (h.up hb1).al)
  have LV := Lib.hid (fun w (hb : Below W.heap.size W w) => live43_c W.heap.size w (hw.up hb))
  have HB1 := Lib.hid hb1
  have HI := Lib.hid h
  have HW := Lib.hid hw
  have HN3 := Lib.hid hn3
  have HD := Lib.hid hd
  have HKK := Lib.hid hK
  have HNN := Lib.hid hN
  have hd1 : ¬ (600 : Int) < (doc.length : Int) := by omega
  clear h hw hc1 hb1 hn3 hd hK
  go_enter Tryz.func4, Tryz.ntmps4
  go_wp2_with fail
  refine G1.out.mono ?_
  rintro e w2 ⟨g1, rfl, hg1, rfl⟩
  have HG1 := Lib.hid hg1
  clear hg1 G1
  cases g1 with
  | true =>
    clear HG1 G2
    go_wp2_with fail
    refine (LV.out _ HB1.out).mono ?_
    rintro e w2 ⟨rfl, hb⟩
    have HB := Lib.hid (HB1.out.trans (hb.mono HB1.out.size))
    clear hb q0 q1 q2 q3 q4 q5 q6 q7
    go_wp2
    go_ret
    exact ⟨rfl, HB.out⟩
  | false =>
    have GA := Lib.hid (HG1.out (by trivial))
    clear HG1
    go_wp2_with fail
    refine G2.out.mono ?_
    rintro e w2 ⟨g2, rfl, hg2, rfl⟩
    have HG2 := Lib.hid hg2
    clear hg2 G2
    cases g2 with
    | true =>
      go_wp2_with fail
      refine (LV.out _ HB1.out).mono ?_
      rintro e w2 ⟨rfl, hb⟩
      have HB := Lib.hid (HB1.out.trans (hb.mono HB1.out.size))
      clear hb q0 q1 q2 q3 q4 q5 q6 q7
      go_wp2
      go_ret
      exact ⟨rfl, HB.out⟩
    | false =>
      have GB := Lib.hid (And.intro GA.out (HG2.out (by trivial)))
      clear GA HG2
      obtain ⟨P1, hP1⟩ : ∃ P1, w1.heap.size = P1 := ⟨_, rfl⟩
      obtain ⟨w2, hw2⟩ : ∃ w2, (w1.alloc (.cells #[.slice none 0 0, .int .i64 0, .int .i64 0, .int .i64 0, .int .i64 0, .int .i64 0, .int .i64 0, .slice none 0 0, .slice none 0 0] 29)).setRow P1 #[.slice A1 doc.length c1, .int .i64 m0, .int .i64 m1, .int .i64 m2, .int .i64 m3, .int .i64 m4, .int .i64 m5, .slice A2 al.length c2, .slice A3 n3 c3] = w2 := ⟨_, rfl⟩
      have hz1 : (w1.alloc (.cells #[.slice none 0 0, .int .i64 0, .int .i64 0, .int .i64 0, .int .i64 0, .int .i64 0, .int .i64 0, .slice none 0 0, .slice none 0 0] 29)).heap[P1]? = some (.cells #[.slice none 0 0, .int .i64 0, .int .i64 0, .int .i64 0, .int .i64 0, .int .i64 0, .int .i64 0, .slice none 0 0, .slice none 0 0] 29) := by rw [← hP1]; exact hp_new _ _
      have hc2 : w2.heap[P1]? = some (.cells #[.slice A1 doc.length c1, .int .i64 m0, .int .i64 m1, .int .i64 m2, .int .i64 m3, .int .i64 m4, .int .i64 m5, .slice A2 al.length c2, .slice A3 n3 c3] 29) := by rw [← hw2]; exact setRow_heap _ _ _ _ _ _ hz1
      have hb2 : Below w1.heap.size w1 w2 := by rw [← hw2]; exact below_setRow ((Below.refl _ _).alloc (Nat.le_refl _) _) (by omega) _
      have H2 := Lib.hid (And.intro hc2 (And.intro (HB1.out.trans (hb2.mono HB1.out.size)) (show N < P1 by rw [← hP1, ← hw1, ← HNN.out]; simp)))
      clear hc2 hb2
      have AT1 : Hid (∀ W', Below w2.heap.size w2 W' → W'.cell? ⟨P1, 0, none⟩ = some (.slice A1 doc.length c1) ∧ W'.cell? ⟨P1, 1, none⟩ = some (.int .i64 m0) ∧ W'.cell? ⟨P1, 2, none⟩ = some (.int .i64 m1) ∧ W'.cell? ⟨P1, 3, none⟩ = some (.int .i64 m2) ∧ W'.cell? ⟨P1, 4, none⟩ = some (.int .i64 m3) ∧ W'.cell? ⟨P1, 5, none⟩ = some (.int .i64 m4) ∧ W'.cell? ⟨P1, 6, none⟩ = some (.int .i64 m5) ∧ W'.cell? ⟨P1, 7, none⟩ = some (.slice A2 al.length c2) ∧ W'.cell? ⟨P1, 8, none⟩ = some (.slice A3 n3 c3)) := Lib.hid fun W' hb => by
        have e1 := (hb.block _ (lt_of H2.out.1)).trans H2.out.1
        exact ⟨by rw [cell_of 0 e1]; rfl, by rw [cell_of 1 e1]; rfl, by rw [cell_of 2 e1]; rfl, by rw [cell_of 3 e1]; rfl, by rw [cell_of 4 e1]; rfl, by rw [cell_of 5 e1]; rfl, by rw [cell_of 6 e1]; rfl, by rw [cell_of 7 e1]; rfl, by rw [cell_of 8 e1]; rfl⟩
      have HIup := Lib.hid (fun w (hb : Below W.heap.size W w) => HI.out.up hb)
      have hal9 : al.length ≤ 1000000 := by have := GB.out.2.1; omega
      have hys9 : ys.length ≤ 1000000 := by have := GB.out.1.1; have := HN3.out; omega
      have hsum9 : doc.length + sumD ys ≤ 1048576 := by
        have h1 := sum_le (fun y : AnV => y.a.data.length) 2000 ys (fun y hy => (GB.out.1.2 y hy).2)
        have h2 := HD.out
        have h3 := GB.out.1.1
        have h4 := HN3.out
        unfold sumD
        omega
      have HSZ := Lib.hid (And.intro hal9 (And.intro hys9 hsum9))
      clear hal9 hys9 hsum9
      have PR := Lib.hid (printNo_c w2 doc al A1 A2 A3 c1 c2 c3 ys m0 m1 m2 m3 m4 m5 (HIup.out _ H2.out.2.1) HSZ.out.1 HSZ.out.2.1 HSZ.out.2.2 K HKK.out hK0)
      rw [HN3.out] at PR
      have LK := Lib.hid (fun w (hb : Below W.heap.size W w) => likeI_c w doc al A1 A2 A3 c1 c2 c3 ys m0 m1 m2 m3 m4 m5 (HIup.out _ hb))
      have RC := Lib.hid (fun w (hb : Below W.heap.size W w) => refCheckI_c w doc al A2 A3 c2 c3 ys m0 m1 m2 m3 m4 m5 ⟨(HIup.out _ hb).al, (HIup.out _ hb).sc, (HIup.out _ hb).dat⟩ HSZ.out.1 HSZ.out.2.1 HSZ.out.2.2 (fun p hp => by have := GB.out.2.2 p hp; omega) (fun y hy => by have := (GB.out.1.2 y hy).1; omega))
      rw [HN3.out, HKK.out] at RC
      rw [HN3.out] at LK
      obtain ⟨x0, x1, x2, x3, x4, x5, x6, x7, x8⟩ := AT1.out w2 (Below.refl _ _)
      have hse : ((⟨#[]⟩ : ByteArray).toList == (⟨#[]⟩ : ByteArray).toList) = true := str_beqC []
      go_wp2_with (first | (refine wpList_store_row rfl _ _ _ rfl P1 #[.slice A1 doc.length c1, .int .i64 m0, .int .i64 m1, .int .i64 m2, .int .i64 m3, .int .i64 m4, .int .i64 m5, .slice A2 al.length c2, .slice A3 n3 c3] rfl rfl _ _ hz1 (by kernel_rfl) rfl (by kernel_rfl) ?_))
      refine PR.out.mono ?_
      rintro e w3 ⟨rfl, hb3⟩
      have HB3 := Lib.hid (And.intro (H2.out.2.1.trans (hb3.mono H2.out.2.1.size)) hb3)
      clear hb3 PR x0 x1 x2 x3 x4 x5 x6 x7 x8 q0 q1 q2 q3 q4 q5 q6 q7 hz1 hw2
      obtain ⟨x0, x1, x2, x3, x4, x5, x6, x7, x8⟩ := AT1.out w3 HB3.out.2
      have L1 := Lib.hid (LK.out w3 HB3.out.1)
      go_wp2_with fail
      refine L1.out.mono ?_
      rintro e w4 ⟨rfl, hb4⟩
      have HB4 := Lib.hid (HB3.out.1.trans (hb4.mono HB3.out.1.size))
      have R1 := Lib.hid (RC.out w4 HB4.out)
      clear hb4 L1 x0 x1 x2 x3 x4 x5 x6 x7 x8
      go_wp2_with fail
      refine R1.out.mono ?_
      rintro e w5 ⟨rfl, hb5⟩
      have HB5 := Lib.hid (HB4.out.trans (hb5.mono HB4.out.size))
      have L2 := Lib.hid (LV.out w5 HB5.out)
      clear hb5 R1
      go_wp2_with fail
      refine L2.out.mono ?_
      rintro e w6 ⟨rfl, hb6⟩
      have HB6 := Lib.hid (HB5.out.trans (hb6.mono HB5.out.size))
      clear hb6
      go_wp2
      go_ret
      exact ⟨rfl, HB6.out⟩
set_option linter.unusedSimpArgs false in
set_option maxRecDepth 100000 in
set_option maxHeartbeats 80000000 in
theorem casesPrints_ok (W : World) (doc : List UInt8) (al : List (List UInt8)) (A1 A2 A3 : Option Addr) (c1 c2 c3 n3 : Nat) (ys : List AnV) (k0 k1 k2 k3 k4 k5 : Nat) (hw : WC W.heap.size W) (h : CInI W doc al A1 A2 A3 c1 c2 c3 ys) (hn3 : ys.length = n3) (hd : doc.length ≤ 600) (hK : checkK [(k0 : Int), (k1 : Int), (k2 : Int), (k3 : Int), (k4 : Int), (k5 : Int)] al (ys.map AnV.a) = 0) :
    Calls Tryz.prog 4 #[.slice A1 doc.length c1, .agg #[.int .i64 (k0 : Nat), .int .i64 (k1 : Nat), .int .i64 (k2 : Nat), .int .i64 (k3 : Nat), .int .i64 (k4 : Nat), .int .i64 (k5 : Nat), .slice A2 al.length c2, .slice A3 n3 c3]] W fun e w' => e = .returned (.bool true) ∧ Below W.heap.size W w' := by
  obtain ⟨N, hN⟩ : ∃ N, W.heap.size = N := ⟨_, rfl⟩
  obtain ⟨w1, hw1⟩ : ∃ w1, W.alloc (.cells #[.int .i64 (k0 : Nat), .int .i64 (k1 : Nat), .int .i64 (k2 : Nat), .int .i64 (k3 : Nat), .int .i64 (k4 : Nat), .int .i64 (k5 : Nat), .slice A2 al.length c2, .slice A3 n3 c3] 43) = w1 := ⟨_, rfl⟩
  have hc1 : w1.heap[N]? = some (.cells #[.int .i64 (k0 : Nat), .int .i64 (k1 : Nat), .int .i64 (k2 : Nat), .int .i64 (k3 : Nat), .int .i64 (k4 : Nat), .int .i64 (k5 : Nat), .slice A2 al.length c2, .slice A3 n3 c3] 43) := by rw [← hw1, ← hN]; exact hp_new _ _
  have hb1 : Below W.heap.size W w1 := by rw [← hw1]; exact (Below.refl _ _).alloc (Nat.le_refl _) _
  have q0 : w1.cell? ⟨N, 0, none⟩ = some (.int .i64 (k0 : Nat)) := by rw [cell_of 0 hc1]; rfl
  have q1 : w1.cell? ⟨N, 1, none⟩ = some (.int .i64 (k1 : Nat)) := by rw [cell_of 1 hc1]; rfl
  have q2 : w1.cell? ⟨N, 2, none⟩ = some (.int .i64 (k2 : Nat)) := by rw [cell_of 2 hc1]; rfl
  have q3 : w1.cell? ⟨N, 3, none⟩ = some (.int .i64 (k3 : Nat)) := by rw [cell_of 3 hc1]; rfl
  have q4 : w1.cell? ⟨N, 4, none⟩ = some (.int .i64 (k4 : Nat)) := by rw [cell_of 4 hc1]; rfl
  have q5 : w1.cell? ⟨N, 5, none⟩ = some (.int .i64 (k5 : Nat)) := by rw [cell_of 5 hc1]; rfl
  have q6 : w1.cell? ⟨N, 6, none⟩ = some (.slice A2 al.length c2) := by rw [cell_of 6 hc1]; rfl
  have q7 : w1.cell? ⟨N, 7, none⟩ = some (.slice A3 n3 c3) := by rw [cell_of 7 hc1]; rfl
  have G1 := Lib.hid (great23_c A3 n3 c3 ys w1 (by have := (h.up hb1).sc; rw [hn3] at this; exact this))
  have G2 := Lib.hid (great22_c A2 al.length c2 al w1 (h.up hb1).al)
  have LV := Lib.hid (fun w (hb : Below W.heap.size W w) => live43_c W.heap.size w (hw.up hb))
  have HB1 := Lib.hid hb1
  have HI := Lib.hid h
  have HW := Lib.hid hw
  have HN3 := Lib.hid hn3
  have HD := Lib.hid hd
  have HKK := Lib.hid hK
  have HNN := Lib.hid hN
  have hd1 : ¬ (600 : Int) < (doc.length : Int) := by omega
  clear h hw hc1 hb1 hn3 hd hK
  go_enter Tryz.func4, Tryz.ntmps4
  go_wp2_with fail
  refine G1.out.mono ?_
  rintro e w2 ⟨g1, rfl, hg1, rfl⟩
  have HG1 := Lib.hid hg1
  clear hg1 G1
  cases g1 with
  | true =>
    clear HG1 G2
    go_wp2_with fail
    refine (LV.out _ HB1.out).mono ?_
    rintro e w2 ⟨rfl, hb⟩
    have HB := Lib.hid (HB1.out.trans (hb.mono HB1.out.size))
    clear hb q0 q1 q2 q3 q4 q5 q6 q7
    go_wp2
    go_ret
    exact ⟨rfl, HB.out⟩
  | false =>
    have GA := Lib.hid (HG1.out (by trivial))
    clear HG1
    go_wp2_with fail
    refine G2.out.mono ?_
    rintro e w2 ⟨g2, rfl, hg2, rfl⟩
    have HG2 := Lib.hid hg2
    clear hg2 G2
    cases g2 with
    | true =>
      go_wp2_with fail
      refine (LV.out _ HB1.out).mono ?_
      rintro e w2 ⟨rfl, hb⟩
      have HB := Lib.hid (HB1.out.trans (hb.mono HB1.out.size))
      clear hb q0 q1 q2 q3 q4 q5 q6 q7
      go_wp2
      go_ret
      exact ⟨rfl, HB.out⟩
    | false =>
      have GB := Lib.hid (And.intro GA.out (HG2.out (by trivial)))
      clear GA HG2
      obtain ⟨P1, hP1⟩ : ∃ P1, w1.heap.size = P1 := ⟨_, rfl⟩
      obtain ⟨w2, hw2⟩ : ∃ w2, (w1.alloc (.cells #[.slice none 0 0, .int .i64 0, .int .i64 0, .int .i64 0, .int .i64 0, .int .i64 0, .int .i64 0, .slice none 0 0, .slice none 0 0] 29)).setRow P1 #[.slice A1 doc.length c1, .int .i64 (k0 : Nat), .int .i64 (k1 : Nat), .int .i64 (k2 : Nat), .int .i64 (k3 : Nat), .int .i64 (k4 : Nat), .int .i64 (k5 : Nat), .slice A2 al.length c2, .slice A3 n3 c3] = w2 := ⟨_, rfl⟩
      have hz1 : (w1.alloc (.cells #[.slice none 0 0, .int .i64 0, .int .i64 0, .int .i64 0, .int .i64 0, .int .i64 0, .int .i64 0, .slice none 0 0, .slice none 0 0] 29)).heap[P1]? = some (.cells #[.slice none 0 0, .int .i64 0, .int .i64 0, .int .i64 0, .int .i64 0, .int .i64 0, .int .i64 0, .slice none 0 0, .slice none 0 0] 29) := by rw [← hP1]; exact hp_new _ _
      have hc2 : w2.heap[P1]? = some (.cells #[.slice A1 doc.length c1, .int .i64 (k0 : Nat), .int .i64 (k1 : Nat), .int .i64 (k2 : Nat), .int .i64 (k3 : Nat), .int .i64 (k4 : Nat), .int .i64 (k5 : Nat), .slice A2 al.length c2, .slice A3 n3 c3] 29) := by rw [← hw2]; exact setRow_heap _ _ _ _ _ _ hz1
      have hb2 : Below w1.heap.size w1 w2 := by rw [← hw2]; exact below_setRow ((Below.refl _ _).alloc (Nat.le_refl _) _) (by omega) _
      have H2 := Lib.hid (And.intro hc2 (And.intro (HB1.out.trans (hb2.mono HB1.out.size)) (show N < P1 by rw [← hP1, ← hw1, ← HNN.out]; simp)))
      clear hc2 hb2
      have AT1 : Hid (∀ W', Below w2.heap.size w2 W' → W'.cell? ⟨P1, 0, none⟩ = some (.slice A1 doc.length c1) ∧ W'.cell? ⟨P1, 1, none⟩ = some (.int .i64 (k0 : Nat)) ∧ W'.cell? ⟨P1, 2, none⟩ = some (.int .i64 (k1 : Nat)) ∧ W'.cell? ⟨P1, 3, none⟩ = some (.int .i64 (k2 : Nat)) ∧ W'.cell? ⟨P1, 4, none⟩ = some (.int .i64 (k3 : Nat)) ∧ W'.cell? ⟨P1, 5, none⟩ = some (.int .i64 (k4 : Nat)) ∧ W'.cell? ⟨P1, 6, none⟩ = some (.int .i64 (k5 : Nat)) ∧ W'.cell? ⟨P1, 7, none⟩ = some (.slice A2 al.length c2) ∧ W'.cell? ⟨P1, 8, none⟩ = some (.slice A3 n3 c3)) := Lib.hid fun W' hb => by
        have e1 := (hb.block _ (lt_of H2.out.1)).trans H2.out.1
        exact ⟨by rw [cell_of 0 e1]; rfl, by rw [cell_of 1 e1]; rfl, by rw [cell_of 2 e1]; rfl, by rw [cell_of 3 e1]; rfl, by rw [cell_of 4 e1]; rfl, by rw [cell_of 5 e1]; rfl, by rw [cell_of 6 e1]; rfl, by rw [cell_of 7 e1]; rfl, by rw [cell_of 8 e1]; rfl⟩
      have HIup := Lib.hid (fun w (hb : Below W.heap.size W w) => HI.out.up hb)
      have hal9 : al.length ≤ 1000000 := by have := GB.out.2.1; omega
      have hys9 : ys.length ≤ 1000000 := by have := GB.out.1.1; have := HN3.out; omega
      have hsum9 : doc.length + sumD ys ≤ 1048576 := by
        have h1 := sum_le (fun y : AnV => y.a.data.length) 2000 ys (fun y hy => (GB.out.1.2 y hy).2)
        have h2 := HD.out
        have h3 := GB.out.1.1
        have h4 := HN3.out
        unfold sumD
        omega
      have HSZ := Lib.hid (And.intro hal9 (And.intro hys9 hsum9))
      clear hal9 hys9 hsum9
      obtain ⟨cc, hcc⟩ : ∃ cc : CaseC, cc = ⟨doc, [k0, k1, k2, k3, k4, k5], al, ys.map AnV.a⟩ := ⟨_, rfl⟩
      have hz := checkK_zero HKK.out
      have hgp : CGood cc ∧ (printC Lib.decDigits cc).length ≤ 90000 ∧ parseC numD bigS (printC Lib.decDigits cc) = .ok cc := by
        rw [hcc]
        refine good_print rfl (fun n hn => ?_) (fun p hp => oddB_false (any_no hz.1 p hp)) (fun a ha => badA_false (any_no hz.2.2.1 a ha)) HD.out hz.2.2.2.1 GB.out.2.2 ?_ (fun a ha => ?_)
        · have h9 := badM_false (any_no hz.2.1 (n : Int) (by
            rcases List.mem_cons.1 hn with rfl | hn
            · simp
            rcases List.mem_cons.1 hn with rfl | hn
            · simp
            rcases List.mem_cons.1 hn with rfl | hn
            · simp
            rcases List.mem_cons.1 hn with rfl | hn
            · simp
            rcases List.mem_cons.1 hn with rfl | hn
            · simp
            rcases List.mem_cons.1 hn with rfl | hn
            · simp
            cases hn))
          omega
        · have h8 := hz.2.2.2.2
          have h9 := GB.out.1.1
          have h10 := HN3.out
          rw [List.length_map] at h8 ⊢
          omega
        · obtain ⟨y, hy, rfl⟩ := List.mem_map.1 ha
          exact GB.out.1.2 y hy
      have HGP := Lib.hid hgp
      clear hz hgp
      obtain ⟨T, hT⟩ : ∃ T, printC Lib.decDigits cc = T := ⟨_, rfl⟩
      have HCI := Lib.hid (fun w (hb : Below W.heap.size W w) => (show CIn w cc A1 A2 A3 c1 c2 c3 ys by
        rw [hcc]
        have h9 := HIup.out w hb
        exact ⟨h9.doc, h9.al, rfl, by rw [List.length_map]; exact h9.sc, h9.dat⟩))
      have hcw : caseW cc A1 A2 A3 c1 c2 c3 = .agg #[.slice A1 doc.length c1, .int .i64 (k0 : Nat), .int .i64 (k1 : Nat), .int .i64 (k2 : Nat), .int .i64 (k3 : Nat), .int .i64 (k4 : Nat), .int .i64 (k5 : Nat), .slice A2 al.length c2, .slice A3 n3 c3] := by rw [hcc, ← HN3.out, ← List.length_map (f := AnV.a)]; rfl
      have hrw : rcaseW cc A2 A3 c2 c3 = .agg #[.string ⟨doc.toArray⟩, .int .i64 (k0 : Nat), .int .i64 (k1 : Nat), .int .i64 (k2 : Nat), .int .i64 (k3 : Nat), .int .i64 (k4 : Nat), .int .i64 (k5 : Nat), .slice A2 al.length c2, .slice A3 n3 c3] := by rw [hcc, ← HN3.out, ← List.length_map (f := AnV.a)]; rfl
      have PR := Lib.hid (fun w (hb : Below W.heap.size W w) => print_c W.heap.size w cc A1 A2 A3 c1 c2 c3 ys (HCI.out w hb) HGP.out.1 (HW.out.up hb))
      rw [hcw, hT] at PR
      have LK := Lib.hid (fun w (hb : Below W.heap.size W w) => like_c w cc A1 A2 A3 c1 c2 c3 ys (HCI.out w hb))
      rw [hcw, hrw] at LK
      have RC := Lib.hid (fun w (hb : Below W.heap.size W w) => refCheckI_c w doc al A2 A3 c2 c3 ys k0 k1 k2 k3 k4 k5 ⟨(HIup.out _ hb).al, (HIup.out _ hb).sc, (HIup.out _ hb).dat⟩ HSZ.out.1 HSZ.out.2.1 HSZ.out.2.2 (fun p hp => by have := GB.out.2.2 p hp; omega) (fun y hy => by have := (GB.out.1.2 y hy).1; omega))
      rw [HN3.out, HKK.out] at RC
      have RP := Lib.hid (fun w (hb : Below W.heap.size W w) => refPrint_c w cc A2 A3 c2 c3 ys ⟨(HCI.out w hb).al, (HCI.out w hb).ym, (HCI.out w hb).sc, (HCI.out w hb).dat⟩ HGP.out.1)
      rw [hrw, hT] at RP
      have PA := Lib.hid (fun w (hb : Below W.heap.size W w) => parse_c T w ((HW.out.up hb).big hb.size (Nat.le_refl _)) (by rw [← hT]; exact HGP.out.2.1))
      rw [← hT, HGP.out.2.2, hT] at PA
      have hse := str_beqC T
      have HCC := Lib.hid hcc
      have HRW := Lib.hid hrw
      clear hcw hrw hcc hT
      obtain ⟨x0, x1, x2, x3, x4, x5, x6, x7, x8⟩ := AT1.out w2 (Below.refl _ _)
      have PR2 := Lib.hid (PR.out w2 H2.out.2.1)
      go_wp2_with (first | (refine wpList_store_row rfl _ _ _ rfl P1 #[.slice A1 doc.length c1, .int .i64 (k0 : Nat), .int .i64 (k1 : Nat), .int .i64 (k2 : Nat), .int .i64 (k3 : Nat), .int .i64 (k4 : Nat), .int .i64 (k5 : Nat), .slice A2 al.length c2, .slice A3 n3 c3] rfl rfl _ _ hz1 (by kernel_rfl) rfl (by kernel_rfl) ?_))
      refine PR2.out.mono ?_
      rintro e w3 ⟨rfl, hb3⟩
      have HB3 := Lib.hid (And.intro (H2.out.2.1.trans (hb3.mono H2.out.2.1.size)) hb3)
      clear hb3 PR PR2 x0 x1 x2 x3 x4 x5 x6 x7 x8 q0 q1 q2 q3 q4 q5 q6 q7 hz1 hw2
      obtain ⟨x0, x1, x2, x3, x4, x5, x6, x7, x8⟩ := AT1.out w3 HB3.out.2
      have L1 := Lib.hid (LK.out w3 HB3.out.1)
      go_wp2_with fail
      refine L1.out.mono ?_
      rintro e w4 ⟨rfl, hb4⟩
      have HB4 := Lib.hid (And.intro (HB3.out.1.trans (hb4.mono HB3.out.1.size)) (HB3.out.2.trans (hb4.mono HB3.out.2.size)))
      have R1 := Lib.hid (RC.out w4 HB4.out.1)
      clear hb4 L1 x0 x1 x2 x3 x4 x5 x6 x7 x8 RC
      go_wp2_with fail
      refine R1.out.mono ?_
      rintro e w5 ⟨rfl, hb5⟩
      have HB5 := Lib.hid (And.intro (HB4.out.1.trans (hb5.mono HB4.out.1.size)) (HB4.out.2.trans (hb5.mono HB4.out.2.size)))
      have PA1 := Lib.hid (PA.out w5 HB5.out.1)
      clear hb5 R1 PA HB3 HB4
      go_wp2_with fail
      refine PA1.out.mono ?_
      rintro e w6 hpost
      obtain ⟨hb6, B1, B2, B3, d1, d2, d3, zs, rfl, hin⟩ := ps_all hpost.out
      have hcwB : caseW (resI (.ok cc)).1 B1 B2 B3 d1 d2 d3 = .agg #[.slice B1 doc.length d1, .int .i64 (k0 : Nat), .int .i64 (k1 : Nat), .int .i64 (k2 : Nat), .int .i64 (k3 : Nat), .int .i64 (k4 : Nat), .int .i64 (k5 : Nat), .slice B2 al.length d2, .slice B3 n3 d3] := by show caseW cc B1 B2 B3 d1 d2 d3 = _; rw [HCC.out, ← HN3.out, ← List.length_map (f := AnV.a)]; rfl
      rw [hcwB]
      have hin' : CIn w6 cc B1 B2 B3 d1 d2 d3 zs := hin
      have hzs : zs.map AnV.a = ys.map AnV.a := by have := hin'.ym; rw [HCC.out] at this; exact this
      have H6 := Lib.hid (And.intro (HB5.out.1.trans (hb6.mono HB5.out.1.size)) (And.intro (HB5.out.2.trans (hb6.mono HB5.out.2.size)) (And.intro hin' hzs)))
      clear hb6 hin hpost PA1 hcwB hin' hzs HB5
      obtain ⟨P2, hP2⟩ : ∃ P2, w6.heap.size = P2 := ⟨_, rfl⟩
      obtain ⟨w7, hw7⟩ : ∃ w7, (w6.alloc (.cells #[.slice none 0 0, .int .i64 0, .int .i64 0, .int .i64 0, .int .i64 0, .int .i64 0, .int .i64 0, .slice none 0 0, .slice none 0 0] 29)).setRow P2 #[.slice B1 doc.length d1, .int .i64 (k0 : Nat), .int .i64 (k1 : Nat), .int .i64 (k2 : Nat), .int .i64 (k3 : Nat), .int .i64 (k4 : Nat), .int .i64 (k5 : Nat), .slice B2 al.length d2, .slice B3 n3 d3] = w7 := ⟨_, rfl⟩
      have hz2 : (w6.alloc (.cells #[.slice none 0 0, .int .i64 0, .int .i64 0, .int .i64 0, .int .i64 0, .int .i64 0, .int .i64 0, .slice none 0 0, .slice none 0 0] 29)).heap[P2]? = some (.cells #[.slice none 0 0, .int .i64 0, .int .i64 0, .int .i64 0, .int .i64 0, .int .i64 0, .int .i64 0, .slice none 0 0, .slice none 0 0] 29) := by rw [← hP2]; exact hp_new _ _
      have hc7 : w7.heap[P2]? = some (.cells #[.slice B1 doc.length d1, .int .i64 (k0 : Nat), .int .i64 (k1 : Nat), .int .i64 (k2 : Nat), .int .i64 (k3 : Nat), .int .i64 (k4 : Nat), .int .i64 (k5 : Nat), .slice B2 al.length d2, .slice B3 n3 d3] 29) := by rw [← hw7]; exact setRow_heap _ _ _ _ _ _ hz2
      have hb7 : Below w6.heap.size w6 w7 := by rw [← hw7]; exact below_setRow ((Below.refl _ _).alloc (Nat.le_refl _) _) (by omega) _
      have H7 := Lib.hid (And.intro hc7 (And.intro (H6.out.1.trans (hb7.mono H6.out.1.size)) (And.intro (H6.out.2.1.trans (hb7.mono H6.out.2.1.size)) (H6.out.2.2.1.up hb7))))
      have HZS := Lib.hid H6.out.2.2.2
      clear hc7 hb7 H6
      obtain ⟨P3, hP3⟩ : ∃ P3, w7.heap.size = P3 := ⟨_, rfl⟩
      obtain ⟨w8, hw8⟩ : ∃ w8, (w7.alloc (.cells #[.slice none 0 0, .int .i64 0, .int .i64 0, .int .i64 0, .int .i64 0, .int .i64 0, .int .i64 0, .slice none 0 0, .slice none 0 0] 29)).setRow P3 #[.slice A1 doc.length c1, .int .i64 (k0 : Nat), .int .i64 (k1 : Nat), .int .i64 (k2 : Nat), .int .i64 (k3 : Nat), .int .i64 (k4 : Nat), .int .i64 (k5 : Nat), .slice A2 al.length c2, .slice A3 n3 c3] = w8 := ⟨_, rfl⟩
      have hz3 : (w7.alloc (.cells #[.slice none 0 0, .int .i64 0, .int .i64 0, .int .i64 0, .int .i64 0, .int .i64 0, .int .i64 0, .slice none 0 0, .slice none 0 0] 29)).heap[P3]? = some (.cells #[.slice none 0 0, .int .i64 0, .int .i64 0, .int .i64 0, .int .i64 0, .int .i64 0, .int .i64 0, .slice none 0 0, .slice none 0 0] 29) := by rw [← hP3]; exact hp_new _ _
      have hc8 : w8.heap[P3]? = some (.cells #[.slice A1 doc.length c1, .int .i64 (k0 : Nat), .int .i64 (k1 : Nat), .int .i64 (k2 : Nat), .int .i64 (k3 : Nat), .int .i64 (k4 : Nat), .int .i64 (k5 : Nat), .slice A2 al.length c2, .slice A3 n3 c3] 29) := by rw [← hw8]; exact setRow_heap _ _ _ _ _ _ hz3
      have hb8 : Below w7.heap.size w7 w8 := by rw [← hw8]; exact below_setRow ((Below.refl _ _).alloc (Nat.le_refl _) _) (by omega) _
      have H8 := Lib.hid (And.intro hc8 (And.intro ((hb8.block _ (lt_of H7.out.1)).trans H7.out.1) (And.intro (H7.out.2.1.trans (hb8.mono H7.out.2.1.size)) (And.intro (H7.out.2.2.1.trans (hb8.mono H7.out.2.2.1.size)) (And.intro (H7.out.2.2.2.up hb8) (show P2 < P3 by rw [← hP3]; exact lt_of H7.out.1))))))
      have HB78 := Lib.hid hb8
      clear hc8 hb8
      obtain ⟨P4, hP4⟩ : ∃ P4, w8.heap.size = P4 := ⟨_, rfl⟩
      obtain ⟨wa, hwa⟩ : ∃ wa, w8.alloc (.cells #[.int .u8 120] 5) = wa := ⟨_, rfl⟩
      obtain ⟨w9, hw9⟩ : ∃ w9, w8.alloc (.cells #[.int .u8 120] 5 (1, 2)) = w9 := ⟨_, rfl⟩
      have kc := Lib.run_convert_bytes_const (P := Tryz.prog) w8 23 5 #[.int .u8 120] 1 1 Tryz.underlying23 Tryz.underlying5
      have kc1 : (convert 23 23 (.slice (some ⟨P4, 0, none⟩) 1 1)).run Tryz.prog wa = .ok (.slice (some ⟨P4, 0, none⟩) 1 1) w9 := by rw [← hwa, ← hw9, ← hP4]; exact kc
      have h94 : w9.heap[P4]? = some (.cells #[.int .u8 120] 5 (1, 2)) := by rw [← hw9, ← hP4]; exact hp_new _ _
      have hb9 : Below w8.heap.size w8 w9 := by rw [← hw9]; exact (Below.refl _ _).alloc (Nat.le_refl _) _
      have hdoc9 := (HIup.out w9 (H8.out.2.2.1.trans (hb9.mono H8.out.2.2.1.size))).doc
      obtain ⟨A', c', w10, hrun, hb10, hby10, hne10⟩ := append_x w9 P4 (1, 2) A1 doc.length c1 doc h94 hdoc9 (by have := HD.out; omega) 23
      have hb810 : Below w8.heap.size w8 w10 := hb9.trans (hb10.mono hb9.size)
      have g3 := (hb810.block _ (lt_of H8.out.1)).trans H8.out.1
      have hP34 : P3 < P4 := by rw [← hP4]; exact lt_of H8.out.1
      obtain ⟨wb, hwb⟩ : ∃ wb, w10.setCell ⟨P3, 0, none⟩ (.slice A' (doc.length + 1) c') = wb := ⟨_, rfl⟩
      have s1 : w10.cell? ⟨P3, 0, none⟩ = some (.slice A1 doc.length c1) := by rw [cell_of 0 g3]; rfl
      have s2 : w10.frozen? ⟨P3, 0, none⟩ = false := free_of 0 g3
      have gb3 : wb.heap[P3]? = some (.cells #[.slice A' (doc.length + 1) c', .int .i64 (k0 : Nat), .int .i64 (k1 : Nat), .int .i64 (k2 : Nat), .int .i64 (k3 : Nat), .int .i64 (k4 : Nat), .int .i64 (k5 : Nat), .slice A2 al.length c2, .slice A3 n3 c3] 29) := by rw [← hwb]; exact hp_set g3
      have gb2 : wb.heap[P2]? = some (.cells #[.slice B1 doc.length d1, .int .i64 (k0 : Nat), .int .i64 (k1 : Nat), .int .i64 (k2 : Nat), .int .i64 (k3 : Nat), .int .i64 (k4 : Nat), .int .i64 (k5 : Nat), .slice B2 al.length d2, .slice B3 n3 d3] 29) := by
        rw [← hwb]
        exact (hp_other (Nat.ne_of_lt H8.out.2.2.2.2.2)).trans ((hb810.block _ (lt_of H8.out.2.1)).trans H8.out.2.1)
      have hb78 : Below w7.heap.size w7 w8 := HB78.out
      have hb7b : Below w7.heap.size w7 wb := by
        rw [← hwb]
        exact (hb78.trans (hb810.mono hb78.size)).setCell (p := ⟨P3, 0, none⟩) (by show w7.heap.size ≤ P3; omega) _
      have hbWb : Below W.heap.size W wb := H7.out.2.1.trans (hb7b.mono H7.out.2.1.size)
      have hb2b : Below w2.heap.size w2 wb := H7.out.2.2.1.trans (hb7b.mono H7.out.2.2.1.size)
      have hbyb : Byt wb wb.heap.size A' (doc.length + 1) c' (120 :: doc) := by
        rw [← hwb]
        exact hby10.set_other fun a e => by have := hne10 a e; omega
      have gb1 := (hb2b.block _ (lt_of H2.out.1)).trans H2.out.1
      have HX := Lib.hid (And.intro hbWb (And.intro hbyb (H7.out.2.2.2.up hb7b)))
      have AT : Hid (∀ W', Hid (Below wb.heap.size wb W') → (W'.cell? ⟨P1, 0, none⟩ = some (.slice A1 doc.length c1) ∧ W'.cell? ⟨P1, 1, none⟩ = some (.int .i64 (k0 : Nat)) ∧ W'.cell? ⟨P1, 2, none⟩ = some (.int .i64 (k1 : Nat)) ∧ W'.cell? ⟨P1, 3, none⟩ = some (.int .i64 (k2 : Nat)) ∧ W'.cell? ⟨P1, 4, none⟩ = some (.int .i64 (k3 : Nat)) ∧ W'.cell? ⟨P1, 5, none⟩ = some (.int .i64 (k4 : Nat)) ∧ W'.cell? ⟨P1, 6, none⟩ = some (.int .i64 (k5 : Nat)) ∧ W'.cell? ⟨P1, 7, none⟩ = some (.slice A2 al.length c2) ∧ W'.cell? ⟨P1, 8, none⟩ = some (.slice A3 n3 c3)) ∧ (W'.cell? ⟨P2, 0, none⟩ = some (.slice B1 doc.length d1) ∧ W'.cell? ⟨P2, 1, none⟩ = some (.int .i64 (k0 : Nat)) ∧ W'.cell? ⟨P2, 2, none⟩ = some (.int .i64 (k1 : Nat)) ∧ W'.cell? ⟨P2, 3, none⟩ = some (.int .i64 (k2 : Nat)) ∧ W'.cell? ⟨P2, 4, none⟩ = some (.int .i64 (k3 : Nat)) ∧ W'.cell? ⟨P2, 5, none⟩ = some (.int .i64 (k4 : Nat)) ∧ W'.cell? ⟨P2, 6, none⟩ = some (.int .i64 (k5 : Nat)) ∧ W'.cell? ⟨P2, 7, none⟩ = some (.slice B2 al.length d2) ∧ W'.cell? ⟨P2, 8, none⟩ = some (.slice B3 n3 d3)) ∧ (W'.cell? ⟨P3, 0, none⟩ = some (.slice A' (doc.length + 1) c') ∧ W'.cell? ⟨P3, 1, none⟩ = some (.int .i64 (k0 : Nat)) ∧ W'.cell? ⟨P3, 2, none⟩ = some (.int .i64 (k1 : Nat)) ∧ W'.cell? ⟨P3, 3, none⟩ = some (.int .i64 (k2 : Nat)) ∧ W'.cell? ⟨P3, 4, none⟩ = some (.int .i64 (k3 : Nat)) ∧ W'.cell? ⟨P3, 5, none⟩ = some (.int .i64 (k4 : Nat)) ∧ W'.cell? ⟨P3, 6, none⟩ = some (.int .i64 (k5 : Nat)) ∧ W'.cell? ⟨P3, 7, none⟩ = some (.slice A2 al.length c2) ∧ W'.cell? ⟨P3, 8, none⟩ = some (.slice A3 n3 c3))) := Lib.hid fun W' hb => by
        have e1 := (hb.out.block _ (lt_of gb1)).trans gb1
        have e2 := (hb.out.block _ (lt_of gb2)).trans gb2
        have e3 := (hb.out.block _ (lt_of gb3)).trans gb3
        exact ⟨⟨by rw [cell_of 0 e1]; rfl, by rw [cell_of 1 e1]; rfl, by rw [cell_of 2 e1]; rfl, by rw [cell_of 3 e1]; rfl, by rw [cell_of 4 e1]; rfl, by rw [cell_of 5 e1]; rfl, by rw [cell_of 6 e1]; rfl, by rw [cell_of 7 e1]; rfl, by rw [cell_of 8 e1]; rfl⟩, ⟨by rw [cell_of 0 e2]; rfl, by rw [cell_of 1 e2]; rfl, by rw [cell_of 2 e2]; rfl, by rw [cell_of 3 e2]; rfl, by rw [cell_of 4 e2]; rfl, by rw [cell_of 5 e2]; rfl, by rw [cell_of 6 e2]; rfl, by rw [cell_of 7 e2]; rfl, by rw [cell_of 8 e2]; rfl⟩, ⟨by rw [cell_of 0 e3]; rfl, by rw [cell_of 1 e3]; rfl, by rw [cell_of 2 e3]; rfl, by rw [cell_of 3 e3]; rfl, by rw [cell_of 4 e3]; rfl, by rw [cell_of 5 e3]; rfl, by rw [cell_of 6 e3]; rfl, by rw [cell_of 7 e3]; rfl, by rw [cell_of 8 e3]; rfl⟩⟩
      obtain ⟨y0, y1, y2, y3, y4, y5, y6, y7, y8⟩ := AT1.out w7 H7.out.2.2.1
      have HUP := Lib.hid (fun W' (hb : Hid (Below wb.heap.size wb W')) => HX.out.1.trans (hb.out.mono HX.out.1.size))
      have HOI := Lib.hid (fun W' (hb : Hid (Below wb.heap.size wb W')) => (show CInI W' doc al A1 A2 A3 c1 c2 c3 ys from HIup.out W' (HUP.out W' hb)))
      have HBI := Lib.hid (fun W' (hb : Hid (Below wb.heap.size wb W')) => HX.out.2.2.up hb.out)
      have hzl : zs.length = n3 := by have := congrArg List.length HZS.out; simp only [List.length_map] at this; rw [this]; exact HN3.out
      have HBI2 := Lib.hid (fun W' (hb : Hid (Below wb.heap.size wb W')) => (show CInI W' doc al B1 B2 B3 d1 d2 d3 zs by
        have h9 := HBI.out W' hb
        rw [HCC.out] at h9
        exact ⟨h9.doc, h9.al, by have h8 := h9.sc; simp only [List.length_map] at h8; rw [HN3.out, ← hzl] at h8; exact h8, h9.dat⟩))
      have HOO := Lib.hid (fun W' (hb : Hid (Below wb.heap.size wb W')) => (show CInI W' (120 :: doc) al A' A2 A3 c' c2 c3 ys from ⟨((HX.out.2.1.below hb.out).more hb.out.size), (HOI.out W' hb).al, (HOI.out W' hb).sc, (HOI.out W' hb).dat⟩))
      have S1 : Hid (∀ W', Hid (Below wb.heap.size wb W') → Calls Tryz.prog 9 #[.agg #[.slice A1 doc.length c1, .int .i64 (k0 : Nat), .int .i64 (k1 : Nat), .int .i64 (k2 : Nat), .int .i64 (k3 : Nat), .int .i64 (k4 : Nat), .int .i64 (k5 : Nat), .slice A2 al.length c2, .slice A3 n3 c3]] W' fun e w' => e = .returned (.agg #[.string ⟨doc.toArray⟩, .int .i64 (k0 : Nat), .int .i64 (k1 : Nat), .int .i64 (k2 : Nat), .int .i64 (k3 : Nat), .int .i64 (k4 : Nat), .int .i64 (k5 : Nat), .slice A2 al.length c2, .slice A3 n3 c3]) ∧ Hid (Below wb.heap.size wb w')) := Lib.hid fun W' hb =>
        (LK.out W' (HUP.out W' hb)).mono fun e w' ⟨he, h8⟩ => ⟨he, Lib.hid (hb.out.trans (h8.mono hb.out.size))⟩
      have S2 : Hid (∀ W', Hid (Below wb.heap.size wb W') → Calls Tryz.prog 14 #[.agg #[.string ⟨doc.toArray⟩, .int .i64 (k0 : Nat), .int .i64 (k1 : Nat), .int .i64 (k2 : Nat), .int .i64 (k3 : Nat), .int .i64 (k4 : Nat), .int .i64 (k5 : Nat), .slice A2 al.length c2, .slice A3 n3 c3]] W' fun e w' => e = .returned (.string ⟨T.toArray⟩) ∧ Hid (Below wb.heap.size wb w')) := Lib.hid fun W' hb =>
        (RP.out W' (HUP.out W' hb)).mono fun e w' ⟨he, h8⟩ => ⟨he, Lib.hid (hb.out.trans (h8.mono hb.out.size))⟩
      have S3 : Hid (∀ W', Hid (Below wb.heap.size wb W') → Calls Tryz.prog 9 #[.agg #[.slice B1 doc.length d1, .int .i64 (k0 : Nat), .int .i64 (k1 : Nat), .int .i64 (k2 : Nat), .int .i64 (k3 : Nat), .int .i64 (k4 : Nat), .int .i64 (k5 : Nat), .slice B2 al.length d2, .slice B3 n3 d3]] W' fun e w' => e = .returned (.agg #[.string ⟨doc.toArray⟩, .int .i64 (k0 : Nat), .int .i64 (k1 : Nat), .int .i64 (k2 : Nat), .int .i64 (k3 : Nat), .int .i64 (k4 : Nat), .int .i64 (k5 : Nat), .slice B2 al.length d2, .slice B3 n3 d3]) ∧ Hid (Below wb.heap.size wb w')) := Lib.hid fun W' hb => by
        have h9 := like_c W' cc B1 B2 B3 d1 d2 d3 zs (HBI.out W' hb)
        have e1 : caseW cc B1 B2 B3 d1 d2 d3 = .agg #[.slice B1 doc.length d1, .int .i64 (k0 : Nat), .int .i64 (k1 : Nat), .int .i64 (k2 : Nat), .int .i64 (k3 : Nat), .int .i64 (k4 : Nat), .int .i64 (k5 : Nat), .slice B2 al.length d2, .slice B3 n3 d3] := by rw [HCC.out, ← HN3.out, ← List.length_map (f := AnV.a)]; rfl
        have e2 : rcaseW cc B2 B3 d2 d3 = .agg #[.string ⟨doc.toArray⟩, .int .i64 (k0 : Nat), .int .i64 (k1 : Nat), .int .i64 (k2 : Nat), .int .i64 (k3 : Nat), .int .i64 (k4 : Nat), .int .i64 (k5 : Nat), .slice B2 al.length d2, .slice B3 n3 d3] := by rw [HCC.out, ← HN3.out, ← List.length_map (f := AnV.a)]; rfl
        rw [e1, e2] at h9
        exact h9.mono fun e w' ⟨he, h8⟩ => ⟨he, Lib.hid (hb.out.trans (h8.mono hb.out.size))⟩
      have S4 : Hid (∀ W', Hid (Below wb.heap.size wb W') → Calls Tryz.prog 8 #[.agg #[.string ⟨doc.toArray⟩, .int .i64 (k0 : Nat), .int .i64 (k1 : Nat), .int .i64 (k2 : Nat), .int .i64 (k3 : Nat), .int .i64 (k4 : Nat), .int .i64 (k5 : Nat), .slice B2 al.length d2, .slice B3 n3 d3], .agg #[.string ⟨doc.toArray⟩, .int .i64 (k0 : Nat), .int .i64 (k1 : Nat), .int .i64 (k2 : Nat), .int .i64 (k3 : Nat), .int .i64 (k4 : Nat), .int .i64 (k5 : Nat), .slice A2 al.length c2, .slice A3 n3 c3]] W' fun e w' => e = .returned (.bool true) ∧ Hid (Below wb.heap.size wb w')) := Lib.hid fun W' hb => by
        have h9 := refSame_yes W' cc B2 B3 A2 A3 d2 d3 c2 c3 zs ys ⟨(HBI.out W' hb).al, (HBI.out W' hb).ym, (HBI.out W' hb).sc, (HBI.out W' hb).dat⟩ ⟨(HCI.out W' (HUP.out W' hb)).al, (HCI.out W' (HUP.out W' hb)).ym, (HCI.out W' (HUP.out W' hb)).sc, (HCI.out W' (HUP.out W' hb)).dat⟩ ⟨Nat.le_trans HGP.out.1.na (by decide), Nat.le_trans HGP.out.1.ns (by decide)⟩
        have e2 : rcaseW cc B2 B3 d2 d3 = .agg #[.string ⟨doc.toArray⟩, .int .i64 (k0 : Nat), .int .i64 (k1 : Nat), .int .i64 (k2 : Nat), .int .i64 (k3 : Nat), .int .i64 (k4 : Nat), .int .i64 (k5 : Nat), .slice B2 al.length d2, .slice B3 n3 d3] := by rw [HCC.out, ← HN3.out, ← List.length_map (f := AnV.a)]; rfl
        rw [HRW.out, e2] at h9
        exact h9.mono fun e w' ⟨he, h8⟩ => ⟨he, Lib.hid (hb.out.trans (h8.mono hb.out.size))⟩
      have S5 : Hid (∀ W', Hid (Below wb.heap.size wb W') → Calls Tryz.prog 15 #[.agg #[.slice B1 doc.length d1, .int .i64 (k0 : Nat), .int .i64 (k1 : Nat), .int .i64 (k2 : Nat), .int .i64 (k3 : Nat), .int .i64 (k4 : Nat), .int .i64 (k5 : Nat), .slice B2 al.length d2, .slice B3 n3 d3], .agg #[.slice A1 doc.length c1, .int .i64 (k0 : Nat), .int .i64 (k1 : Nat), .int .i64 (k2 : Nat), .int .i64 (k3 : Nat), .int .i64 (k4 : Nat), .int .i64 (k5 : Nat), .slice A2 al.length c2, .slice A3 n3 c3]] W' fun e w' => e = .returned (.bool true) ∧ Hid (Below wb.heap.size wb w')) := Lib.hid fun W' hb => by
        have h9 := csSame_c W' doc doc al B1 B2 B3 A1 A2 A3 d1 d2 d3 c1 c2 c3 zs ys k0 k1 k2 k3 k4 k5 (HBI2.out W' hb) (HOI.out W' hb) HZS.out ⟨HSZ.out.1, by rw [hzl, ← HN3.out]; exact HSZ.out.2.1⟩
        rw [hzl, HN3.out, decide_eq_true rfl] at h9
        exact h9.mono fun e w' ⟨he, h8⟩ => ⟨he, Lib.hid (hb.out.trans (h8.mono hb.out.size))⟩
      have S6 : Hid (∀ W', Hid (Below wb.heap.size wb W') → Calls Tryz.prog 15 #[.agg #[.slice B1 doc.length d1, .int .i64 (k0 : Nat), .int .i64 (k1 : Nat), .int .i64 (k2 : Nat), .int .i64 (k3 : Nat), .int .i64 (k4 : Nat), .int .i64 (k5 : Nat), .slice B2 al.length d2, .slice B3 n3 d3], .agg #[.slice A' (doc.length + 1) c', .int .i64 (k0 : Nat), .int .i64 (k1 : Nat), .int .i64 (k2 : Nat), .int .i64 (k3 : Nat), .int .i64 (k4 : Nat), .int .i64 (k5 : Nat), .slice A2 al.length c2, .slice A3 n3 c3]] W' fun e w' => e = .returned (.bool false) ∧ Hid (Below wb.heap.size wb w')) := Lib.hid fun W' hb => by
        have h9 := csSame_c W' doc (120 :: doc) al B1 B2 B3 A' A2 A3 d1 d2 d3 c' c2 c3 zs ys k0 k1 k2 k3 k4 k5 (HBI2.out W' hb) (HOO.out W' hb) HZS.out ⟨HSZ.out.1, by rw [hzl, ← HN3.out]; exact HSZ.out.2.1⟩
        rw [hzl, HN3.out, decide_eq_false (fun e => by have := congrArg List.length e; simp at this), List.length_cons] at h9
        exact h9.mono fun e w' ⟨he, h8⟩ => ⟨he, Lib.hid (hb.out.trans (h8.mono hb.out.size))⟩
      have S7 : Hid (∀ W', Hid (Below wb.heap.size wb W') → Calls Tryz.prog 5 #[] W' fun e w' => e = .returned (.bool true) ∧ Hid (Below wb.heap.size wb w')) := Lib.hid fun W' hb =>
        (LV.out W' (HUP.out W' hb)).mono fun e w' ⟨he, h8⟩ => ⟨he, Lib.hid (hb.out.trans (h8.mono hb.out.size))⟩
      have JG : Hid (Below wb.heap.size wb wb.drew) := Lib.hid (Below.refl _ _).drew
      clear h94 hb9 hdoc9 hb10 hby10 hne10 hb810 g3 hP34 gb3 gb2 gb1 hb78 hb7b hbWb hb2b hbyb kc LK RP LV
      go_wp2_with (first
        | (refine wpList_store_row rfl _ _ _ rfl P2 #[.slice B1 doc.length d1, .int .i64 (k0 : Nat), .int .i64 (k1 : Nat), .int .i64 (k2 : Nat), .int .i64 (k3 : Nat), .int .i64 (k4 : Nat), .int .i64 (k5 : Nat), .slice B2 al.length d2, .slice B3 n3 d3] rfl rfl _ _ hz2 (by kernel_rfl) rfl (by kernel_rfl) ?_)
        | (refine wpList_store_row rfl _ _ _ rfl P3 #[.slice A1 doc.length c1, .int .i64 (k0 : Nat), .int .i64 (k1 : Nat), .int .i64 (k2 : Nat), .int .i64 (k3 : Nat), .int .i64 (k4 : Nat), .int .i64 (k5 : Nat), .slice A2 al.length c2, .slice A3 n3 c3] rfl rfl _ _ hz3 (by kernel_rfl) rfl (by kernel_rfl) ?_)
        | (at_builtin; refine wpList_appRun rfl _ _ _ rfl _ _ rfl rfl _ _ hrun ?_))
      refine wp_region_calm (fun W' => Hid (Below wb.heap.size wb W')) 38 (by kernel_rfl) (by kernel_rfl) JG ?_
      clear hz2 hz3 hw7 hw8 hwa hw9 hwb kc1 hrun s1 s2
      simp only [List.take_succ_cons, List.take_zero, List.drop_succ_cons, List.drop_zero]
      repeat
        refine wpQuiet_step (fun K hK => ?_)
        go_simp
        first
          | (refine hK _ ?_; clear hK K)
          | (apply Exists.intro
             refine ⟨fun W hW => ?_, hK _ ?_⟩
             · first
                 | exact rfl
                 | (with_reducible exact S1.out W hW)
                 | (with_reducible exact S2.out W hW)
                 | (with_reducible exact S3.out W hW)
                 | (with_reducible exact S4.out W hW)
                 | (with_reducible exact S5.out W hW)
                 | (with_reducible exact S6.out W hW)
                 | (with_reducible exact S7.out W hW)
                 | (obtain ⟨⟨x0, x1, x2, x3, x4, x5, x6, x7, x8⟩, ⟨z0, z1, z2, z3, z4, z5, z6, z7, z8⟩, v0, v1, v2, v3, v4, v5, v6, v7, v8⟩ := AT.out W hW; go_simp; done)
                 | (obtain ⟨⟨x0, x1, x2, x3, x4, x5, x6, x7, x8⟩, ⟨z0, z1, z2, z3, z4, z5, z6, z7, z8⟩, v0, v1, v2, v3, v4, v5, v6, v7, v8⟩ := AT.out W hW; go_simp; exact rfl)
             clear hK K)
      refine wpQuiet_nil ?_
      intro wz hwz
      have HBZ := Lib.hid (HX.out.1.trans (hwz.out.mono HX.out.1.size))
      clear hwz S1 S2 S3 S4 S5 S6 S7 AT
      go_wp2
      go_ret
      exact ⟨rfl, HBZ.out⟩
theorem nat_of {m : Int} (h : 0 ≤ m) : ∃ k : Nat, m = (k : Int) := ⟨m.toNat, by omega⟩
theorem casesPrints_law (W : World) (doc : List UInt8) (al : List (List UInt8)) (A1 A2 A3 : Option Addr) (c1 c2 c3 n1 n2 n3 : Nat) (ys : List AnV) (m0 m1 m2 m3 m4 m5 : Int) (hw : WC W.heap.size W) (h1 : Byt W W.heap.size A1 n1 c1 doc) (h2 : RRd cS1 1 W W.heap.size A2 n2 c2 al) (h3 : RRd cAn 3 W W.heap.size A3 n3 c3 ys) (h4 : ∀ y ∈ ys, Byt W W.heap.size y.A y.a.data.length y.cap y.a.data) :
    Calls Tryz.prog 4 #[.slice A1 n1 c1, .agg #[.int .i64 m0, .int .i64 m1, .int .i64 m2, .int .i64 m3, .int .i64 m4, .int .i64 m5, .slice A2 n2 c2, .slice A3 n3 c3]] W fun e w' => e = .returned (.bool true) ∧ Below W.heap.size W w' := by
  obtain rfl : doc.length = n1 := h1.length
  obtain rfl : al.length = n2 := h2.len
  have hn3 : ys.length = n3 := h3.len
  have h : CInI W doc al A1 A2 A3 c1 c2 c3 ys := ⟨h1, h2, by rw [hn3]; exact h3, h4⟩
  by_cases hd : doc.length ≤ 600
  · obtain ⟨K, hK⟩ : ∃ K, checkK [m0, m1, m2, m3, m4, m5] al (ys.map AnV.a) = K := ⟨_, rfl⟩
    by_cases h0 : K = 0
    · subst h0
      have hz := checkK_zero hK
      have hm := any_no hz.2.1
      obtain ⟨k0, rfl⟩ := nat_of (badM_false (hm m0 (by simp))).1
      obtain ⟨k1, rfl⟩ := nat_of (badM_false (hm m1 (by simp))).1
      obtain ⟨k2, rfl⟩ := nat_of (badM_false (hm m2 (by simp))).1
      obtain ⟨k3, rfl⟩ := nat_of (badM_false (hm m3 (by simp))).1
      obtain ⟨k4, rfl⟩ := nat_of (badM_false (hm m4 (by simp))).1
      obtain ⟨k5, rfl⟩ := nat_of (badM_false (hm m5 (by simp))).1
      exact casesPrints_ok W doc al A1 A2 A3 c1 c2 c3 n3 ys k0 k1 k2 k3 k4 k5 hw h hn3 hd hK
    · exact casesPrints_no W doc al A1 A2 A3 c1 c2 c3 n3 ys m0 m1 m2 m3 m4 m5 hw h hn3 hd K hK h0
  · exact casesPrints_live W doc al A1 A2 A3 c1 c2 c3 n3 ys m0 m1 m2 m3 m4 m5 hw h hn3 (by omega)
end Go.Proofs.YtbllodeanfdebaaGreatDoor
