/- Texts of ours, joined: Tok8. -/
import Derived.Test.YtmclngahdklfkaaGreatDoorRows
import Derived.WalkKit
import Derived.ProofKit
import Derived.OpenShut
import Derived.ShutString
import Derived.ChangeOld
import Derived.Below
import Derived.BigQuiet
import Derived.Deep.QuietTactic
import Derived.Lib.Hide
import Derived.Deep.RegionHeld3
import Derived.Lib.SlBytesConst
import Derived.Laws.CopyOwn
import Derived.Laws.CopyRow
import Derived.Lib.Bytes
import Derived.Deep.LoopGhost
import Derived.Deep.DeepFit
import Derived.Deep.DeepMust
import Derived.WalkSpells
import Derived.WalkLawsBesides
import Derived.Maps.OwnOps
import Derived.Maps.OwnSet
import Derived.Maps.Views
import Derived.Laws.EntriesVeiled
import Derived.Laws.Rows
import Derived.Maps.AppendAt
import Derived.Lib.SmallJoins
import Derived.Deep.AppendLies
import Derived.Deep.RegionLaw
import Derived.Deep.RegionWith
import Derived.Test.YtmclngahdklfkaaGreatDoorQ1
import Derived.Test.YtmclngahdklfkaaGreatDoorQ6
import Derived.Test.YtmclngahdklfkaaGreatDoorQ2
import Derived.Test.YtmclngahdklfkaaGreatDoorQ4
import Derived.Test.YtmclngahdklfkaaGreatDoorQ5
import Derived.Test.YtmclngahdklfkaaGreatDoorQ8
import Derived.Test.YtmclngahdklfkaaGreatDoorQ9
import Derived.Test.YtmclngahdklfkaaGreatDoorQ10
import Derived.Test.YtmclngahdklfkaaGreatDoorQ11
import Derived.Test.YtmclngahdklfkaaGreatDoorQ12
import Derived.Test.YtmclngahdklfkaaGreatDoorQ13
import Derived.Test.YtmclngahdklfkaaGreatDoorQ14
import Derived.Test.YtmclngahdklfkaaGreatDoorQ15
import Derived.Test.YtmclngahdklfkaaGreatDoorQ16
import Derived.Test.YtmclngahdklfkaaGreatDoorQ17
import Derived.Test.YtmclngahdklfkaaGreatDoorQ18
import Derived.Test.YtmclngahdklfkaaGreatDoorQ19
import Derived.Test.YtmclngahdklfkaaGreatDoorQ20
import Derived.Test.YtmclngahdklfkaaGreatDoorQ21
import Derived.Test.YtmclngahdklfkaaGreatDoorQ24
import Derived.Test.YtmclngahdklfkaaGreatDoorQ22
import Derived.Test.YtmclngahdklfkaaGreatDoorQ23
import Derived.Test.YtmclngahdklfkaaGreatDoorQ7
/- The law TokNexts: the page's example, the walk. -/
namespace Go.Proofs.YtmclngahdklfkaaGreatDoor
open Go.ChangeShapes Go.WideShapes Go.ChangeAt Go.RowKit
set_option linter.unusedVariables false
/-- While two tokens are compared: their blocks, their rows of attributes. -/
structure RQ (w W : World) (b1 b2 : Nat) (k : TokL) (A1 A2 : Option Addr) (pn c1 c2 : Nat) : Prop where
  below : Below w.heap.size w W
  q1 : W.heap[b1]? = some (.cells #[.int .i64 k.kind, .int .i64 k.fro, .int .i64 k.to_, .string ⟨k.name.toArray⟩, .string ⟨k.text.toArray⟩, .slice A1 pn c1, .int .i64 k.r] 26)
  q2 : W.heap[b2]? = some (.cells #[.int .i64 k.kind, .int .i64 k.fro, .int .i64 k.to_, .string ⟨k.name.toArray⟩, .string ⟨k.text.toArray⟩, .slice A2 pn c2, .int .i64 k.r] 30)
  p1 : PRd W W.heap.size A1 pn c1 k.pairs
  p2 : PRd W W.heap.size A2 pn c2 k.pairs
theorem RQ.kept {w W W' : World} {b1 b2 : Nat} {k : TokL} {A1 A2 : Option Addr} {pn c1 c2 : Nat} (h : RQ w W b1 b2 k A1 A2 pn c1 c2) (hb : Below W.heap.size W W') : RQ w W' b1 b2 k A1 A2 pn c1 c2 :=
  ⟨h.below.trans (hb.mono h.below.size), by rw [hb.block _ (lt_of h.q1)]; exact h.q1, by rw [hb.block _ (lt_of h.q2)]; exact h.q2, (h.p1.below hb).more hb.size, (h.p2.below hb).more hb.size⟩
theorem pairsR_len (l : List UInt8) : ∀ (f : Nat) (acc : List PairL) (t : Nat), (pairsR l f acc t).1.length ≤ acc.length + f
  | 0, acc, t => Nat.zero_le _
  | f + 1, acc, t => by
    cases hs : stopB l (blankTo l t) t with
    | true => rw [pairs_stop hs]; show acc.length ≤ _; omega
    | false =>
      by_cases he : (pairOut l (blankTo l t)).2.2 = 0
      · cases hh : hasN acc (pairOut l (blankTo l t)).1.1 with
        | true => rw [pairs_twice hs he hh]; exact Nat.zero_le _
        | false =>
          rw [pairs_more hs he hh]
          have := pairsR_len l f (acc ++ [(pairOut l (blankTo l t)).1]) (pairOut l (blankTo l t)).2.1
          simp only [List.length_append, List.length_cons, List.length_nil] at this
          omega
      · rw [pairs_bad hs rfl he]
        exact Nat.zero_le _
theorem pairsOut_len (l : List UInt8) (k : Nat) : (pairsOut l k).1.length ≤ l.length + 1 := by
  have := pairsR_len l (l.length + 1) [] k
  simp only [List.length_nil] at this
  unfold pairsOut
  omega
theorem openOut_len (l : List UInt8) (k : Nat) : (openOut l k).1.pairs.length ≤ l.length + 1 := by
  unfold openOut
  repeat' split
  all_goals first | exact pairsOut_len l _ | simp [noTag]
theorem nextAt_len (l : List UInt8) (at_ : Int) : (nextAt l at_).1.pairs.length ≤ l.length + 1 := by
  have key : ∀ k, (nextOut l k).1.pairs.length ≤ l.length + 1 := fun k => by
    unfold nextOut
    split
    · show (readTok l k).1.pairs.length ≤ _
      unfold readTok
      repeat' split
      all_goals first | exact Nat.zero_le _ | exact openOut_len l k | (unfold textTok; split <;> exact Nat.zero_le _)
    · exact Nat.zero_le _
  unfold nextAt
  repeat' split
  all_goals first | exact Nat.zero_le _ | exact key _
set_option maxRecDepth 100000 in
set_option maxHeartbeats 8000000 in
theorem tokNexts_walk (A : Option Addr) (n cap : Nat) (l : List UInt8) (at_ : Int) (w : World) (h : Byt w w.heap.size A n cap l) (hW : W11 w) :
    Calls Tryz.prog 3 #[.slice A n cap, .int .i64 at_] w fun e w' => e = .returned (.bool true) ∧ Below w.heap.size w w' := by
  have LV : Hid (∀ W, Below w.heap.size w W → Calls Tryz.prog 9 #[] W fun e w' => e = .returned (.bool true) ∧ Below W.heap.size W w') := Lib.hid fun W hb => live11_c W (hW.below hb)
  by_cases hn : n ≤ 300
  · have hn' : ¬ (300 : Int) < (n : Int) := by omega
    have HK : Hid (∀ W, Below w.heap.size w W → Byt W W.heap.size A n cap l ∧ W11 W) := Lib.hid fun W hb => ⟨(h.below hb).more hb.size, hW.below hb⟩
    have C1 : Hid (∀ W, Below w.heap.size w W → Calls Tryz.prog 10 #[.slice A n cap, .int .i64 at_] W fun e w' => TokPost (nextAt l at_) W e w') := Lib.hid fun W hb => tokNext_c A n cap l at_ W (HK.out W hb).1 (HK.out W hb).2 (by omega)
    have C2 : Hid (∀ W, Below w.heap.size w W → Calls Tryz.prog 11 #[.slice A n cap, .int .i64 at_] W fun e w' => TokPost (nextAt l at_) W e w') := Lib.hid fun W hb => refNext_c A n cap l at_ W (HK.out W hb).1 (by omega)
    have hpl := nextAt_len l at_
    rw [h.length] at hpl
    generalize nextAt l at_ = o at *
    obtain ⟨k, x⟩ := o
    simp only at hpl
    have HPL := Lib.hid (show k.pairs.length ≤ 1000000 by omega)
    clear HK h hW hn hpl
    go_enter Tryz.func3, Tryz.ntmps3
    go_wp2_with fail
    refine (C1.out _ (Below.refl _ _)).mono ?_
    intro e0 w1 hp
    obtain ⟨A1, pn, c1, rfl, hpr, B1, _⟩ := hp.out
    simp only at hpr
    have k1 := (Below.refl _ w1).alloc (Nat.le_refl _) (.cells #[.int .i64 k.kind, .int .i64 k.fro, .int .i64 k.to_, .string ⟨k.name.toArray⟩, .string ⟨k.text.toArray⟩, .slice A1 pn c1, .int .i64 k.r] 26)
    have q1 := hp_new w1 (.cells #[.int .i64 k.kind, .int .i64 k.fro, .int .i64 k.to_, .string ⟨k.name.toArray⟩, .string ⟨k.text.toArray⟩, .slice A1 pn c1, .int .i64 k.r] 26)
    have B1a := Lib.hid (B1.trans (k1.mono B1.size))
    have H1 := Lib.hid (And.intro ((hpr.below k1).more k1.size) q1)
    clear hpr k1 q1 B1 hp
    go_wp2_with fail
    refine (C2.out _ B1a.out).mono ?_
    intro e0 w2 hp
    obtain ⟨A2, pn2, c2, rfl, hpr, b2, _⟩ := hp.out
    simp only at hpr
    obtain rfl : pn = pn2 := H1.out.1.len.symm.trans hpr.len
    have hpn : pn ≤ 1000000 := by have := hpr.len; have := HPL.out; omega
    have k2 := (Below.refl _ w2).alloc (Nat.le_refl _) (.cells #[.int .i64 k.kind, .int .i64 k.fro, .int .i64 k.to_, .string ⟨k.name.toArray⟩, .string ⟨k.text.toArray⟩, .slice A2 pn c2, .int .i64 k.r] 30)
    have q2 := hp_new w2 (.cells #[.int .i64 k.kind, .int .i64 k.fro, .int .i64 k.to_, .string ⟨k.name.toArray⟩, .string ⟨k.text.toArray⟩, .slice A2 pn c2, .int .i64 k.r] 30)
    have bb := b2.trans (k2.mono b2.size)
    have J0 : RQ w (w2.alloc (.cells #[.int .i64 k.kind, .int .i64 k.fro, .int .i64 k.to_, .string ⟨k.name.toArray⟩, .string ⟨k.text.toArray⟩, .slice A2 pn c2, .int .i64 k.r] 30)) w1.heap.size w2.heap.size k A1 A2 pn c1 c2 :=
      ⟨B1a.out.trans (bb.mono B1a.out.size), by rw [bb.block _ (lt_of H1.out.2)]; exact H1.out.2, q2, (H1.out.1.below bb).more bb.size, (hpr.below k2).more k2.size⟩
    clear hpr k2 q2 b2 bb H1 hp
    have CL : Hid (∀ W, Hid (RQ w W w1.heap.size w2.heap.size k A1 A2 pn c1 c2) → Calls Tryz.prog 13 #[.agg #[.int .i64 k.kind, .int .i64 k.fro, .int .i64 k.to_, .string ⟨k.name.toArray⟩, .string ⟨k.text.toArray⟩, .slice A1 pn c1, .int .i64 k.r]] W fun e w' => e = .returned (.agg #[.int .i64 k.kind, .int .i64 k.fro, .int .i64 k.to_, .string ⟨k.name.toArray⟩, .string ⟨k.text.toArray⟩, .slice A1 pn c1, .int .i64 k.r]) ∧ Hid (RQ w w' w1.heap.size w2.heap.size k A1 A2 pn c1 c2) ∧ w'.cell? ⟨w2.heap.size, 0, none⟩ = some (.int .i64 k.kind) ∧ w'.cell? ⟨w2.heap.size, 1, none⟩ = some (.int .i64 k.fro) ∧ w'.cell? ⟨w2.heap.size, 2, none⟩ = some (.int .i64 k.to_) ∧ w'.cell? ⟨w2.heap.size, 3, none⟩ = some (.string ⟨k.name.toArray⟩) ∧ w'.cell? ⟨w2.heap.size, 4, none⟩ = some (.string ⟨k.text.toArray⟩) ∧ w'.cell? ⟨w2.heap.size, 5, none⟩ = some (.slice A2 pn c2) ∧ w'.cell? ⟨w2.heap.size, 6, none⟩ = some (.int .i64 k.r)) := Lib.hid fun W hJ => (like_c k A1 pn c1 W).mono fun e w' ⟨he, hb⟩ => by
      have J := hJ.out.kept hb
      exact ⟨he, Lib.hid J, cell_of 0 J.q2, cell_of 1 J.q2, cell_of 2 J.q2, cell_of 3 J.q2, cell_of 4 J.q2, cell_of 5 J.q2, cell_of 6 J.q2⟩
    have CS : Hid (∀ W, Hid (RQ w W w1.heap.size w2.heap.size k A1 A2 pn c1 c2) → Calls Tryz.prog 12 #[.agg #[.int .i64 k.kind, .int .i64 k.fro, .int .i64 k.to_, .string ⟨k.name.toArray⟩, .string ⟨k.text.toArray⟩, .slice A1 pn c1, .int .i64 k.r], .agg #[.int .i64 k.kind, .int .i64 k.fro, .int .i64 k.to_, .string ⟨k.name.toArray⟩, .string ⟨k.text.toArray⟩, .slice A2 pn c2, .int .i64 k.r]] W fun e w' => e = .returned (.bool true) ∧ Hid (RQ w w' w1.heap.size w2.heap.size k A1 A2 pn c1 c2)) := Lib.hid fun W hJ => (same11_c k A1 A2 pn c1 c2 W hJ.out.p1 hJ.out.p2 hpn).mono fun e w' ⟨he, hb⟩ => ⟨he, Lib.hid (hJ.out.kept hb)⟩
    have CV : Hid (∀ W, Hid (RQ w W w1.heap.size w2.heap.size k A1 A2 pn c1 c2) → Calls Tryz.prog 9 #[] W fun e w' => e = .returned (.bool true) ∧ Hid (RQ w w' w1.heap.size w2.heap.size k A1 A2 pn c1 c2)) := Lib.hid fun W hJ => (LV.out W hJ.out.below).mono fun e w' ⟨he, hb⟩ => ⟨he, Lib.hid (hJ.out.kept hb)⟩
    go_wp2_with fail
    generalize w2.alloc (.cells #[.int .i64 k.kind, .int .i64 k.fro, .int .i64 k.to_, .string ⟨k.name.toArray⟩, .string ⟨k.text.toArray⟩, .slice A2 pn c2, .int .i64 k.r] 30) = v3 at *
    have JD : RQ w v3.drew w1.heap.size w2.heap.size k A1 A2 pn c1 c2 := J0.kept (below_drewN' (n := 1) (Below.refl _ _))
    have x0 := cell_of 0 JD.q1
    have y0 := cell_of 0 JD.q2
    have x1 := cell_of 1 JD.q1
    have y1 := cell_of 1 JD.q2
    have x2 := cell_of 2 JD.q1
    have y2 := cell_of 2 JD.q2
    have x3 := cell_of 3 JD.q1
    have y3 := cell_of 3 JD.q2
    have x4 := cell_of 4 JD.q1
    have y4 := cell_of 4 JD.q2
    have x5 := cell_of 5 JD.q1
    have y5 := cell_of 5 JD.q2
    have x6 := cell_of 6 JD.q1
    have y6 := cell_of 6 JD.q2
    have HD := Lib.hid JD
    clear J0 JD
    go_region_with (first
      | (go_at_call 13; refine (CL.out _ (by assumption)).mono ?_; rintro e W1 ⟨rfl, HQ1, g0, g1, g2, g3, g4, g5, g6⟩)
      | (go_at_call 12; refine (CS.out _ (by assumption)).mono ?_; rintro e W2 ⟨rfl, HQ2⟩)
      | (go_at_call 9; refine (CV.out _ (by assumption)).mono ?_; rintro e W3 ⟨rfl, HQ3⟩))
    all_goals
      go_wp2
      go_ret
      exact ⟨rfl, HQ3.out.below⟩
  · have hn' : (300 : Int) < (n : Int) := by omega
    clear hW hn h
    go_enter Tryz.func3, Tryz.ntmps3
    go_wp2_with fail
    refine (LV.out _ (Below.refl _ _)).mono ?_
    rintro e w1 ⟨rfl, hb⟩
    have B1 := Lib.hid hb
    clear hb
    go_wp2
    go_ret
    exact ⟨rfl, B1.out⟩
end Go.Proofs.YtmclngahdklfkaaGreatDoor
