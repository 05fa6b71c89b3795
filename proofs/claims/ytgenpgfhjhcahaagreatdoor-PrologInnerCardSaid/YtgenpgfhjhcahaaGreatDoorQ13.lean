/- Texts of ours, joined: EvX. -/
import Derived.Test.YtgenpgfhjhcahaaGreatDoorRows
import Derived.WalkKit
import Derived.ProofKit
import Derived.OpenShut
import Derived.ShutString
import Derived.ChangeOld
import Derived.Below
import Derived.BigQuiet
import Derived.Deep.QuietTactic
import Derived.Lib.Hide
import Derived.Deep.RegionHeld3
import Derived.Lib.SlBytesConst
import Derived.Laws.CopyOwn
import Derived.Laws.CopyRow
import Derived.Lib.Bytes
import Derived.Deep.LoopGhost
import Derived.Deep.DeepFit
import Derived.Deep.DeepMust
import Derived.WalkSpells
import Derived.WalkLawsBesides
import Derived.Laws.EntriesVeiled
import Derived.Laws.Rows
import Derived.RangeFuncNested
import Derived.RangeFuncBound
import Derived.RangeFuncCalls
import Derived.RangeFuncLeaves
import Derived.RangeFuncBox
import Derived.RangeFuncWrites
import Derived.Shelf.Abstract
import Derived.Shelf.RegionOpen
import Derived.OwnWalkIn
import Derived.TacticsInMore
import Derived.LoopNIn
import Derived.LoopIn
import Derived.Maps.AppendAt
import Derived.Test.YtgenpgfhjhcahaaGreatDoorQ1
import Derived.Test.YtgenpgfhjhcahaaGreatDoorQ2
import Derived.Test.YtgenpgfhjhcahaaGreatDoorQ7
import Derived.Test.YtgenpgfhjhcahaaGreatDoorQ8
import Derived.Test.YtgenpgfhjhcahaaGreatDoorQ4
import Derived.Test.YtgenpgfhjhcahaaGreatDoorQ3
import Derived.Test.YtgenpgfhjhcahaaGreatDoorQ5
import Derived.Test.YtgenpgfhjhcahaaGreatDoorQ9
import Derived.Test.YtgenpgfhjhcahaaGreatDoorQ10
import Derived.Test.YtgenpgfhjhcahaaGreatDoorQ11
import Derived.Test.YtgenpgfhjhcahaaGreatDoorQ12
/- prolog.events$1: what the iterator hands out. -/
namespace Go.Proofs.YtgenpgfhjhcahaaGreatDoor
open Go.ChangeShapes Go.WideShapes Go.ChangeAt Go.RowKit
set_option linter.unusedVariables false
attribute [local go_sem] Oper.semAt_some
set_option maxRecDepth 100000 in
set_option maxHeartbeats 8000000 in
theorem events1_in (m : Nat) (hm1 : 1 ≤ m) (lr Bb Bn : Nat) (A : Option Addr) (n cap : Nat) (l : List UInt8) (t0 : Nat) (J Jx : List (MisT × Nat × Nat) → World → Prop) (w W : World) (hJ : StandsBox Bn J)
    (hY : ∀ pre x W1, J pre W1 → (pre ++ [x] <+: evsM l t0) → YieldAt Fence.wide (m - 1) Tryz.prog lr (encE x) W1 fun e W' => (e = .returned (.bool true) ∧ J (pre ++ [x]) W' ∧ KpE w.heap.size Bb Bn W1 W') ∨ (e = .returned (.bool false) ∧ Jx (pre ++ [x]) W'))
    (hbb : Boxed W Bb 22 (.slice A n cap)) (hbn : Boxed W Bn 3 (.int .i64 (t0 : Nat))) (hSB : w.heap.size ≤ Bn) (hne : Bb ≠ Bn) (h : Byt w w.heap.size A n cap l) (hW : W29 w) (hB : Below w.heap.size w W) (hm : n ≤ 50000) (ht0 : t0 ≤ n) (h0 : J [] W) :
    CallsIn Fence.wide m Tryz.prog 30 #[.func (.yield lr) #[] #[], .pointer (some ⟨Bb, 0, none⟩), .pointer (some ⟨Bn, 0, none⟩)] W fun e W' => (∃ v, e = .returned v) ∧ (J (evsM l t0) W' ∨ ∃ p, p <+: evsM l t0 ∧ Jx p W') := by
  have HJ := Lib.hid hJ
  have HY := Lib.hid hY
  have HB := Lib.hid (And.intro h hW)
  have HSB := Lib.hid hSB
  have HNE := Lib.hid hne
  have HL : Hid (l.length = n) := Lib.hid h.length
  have HI0 : Hid (evsM l t0 = [] ++ evsM l t0 ∧ J [] W ∧ Below w.heap.size w W ∧ W.heap[Bb]? = some (.cells #[.slice A n cap] 22)) := Lib.hid ⟨rfl, h0, hB, hbb⟩
  obtain ⟨d9, hu⟩ := isStruct_of (P := Tryz.prog) (t := 54) (by kernel_rfl)
  have hi : (Tryz.prog.info? 54).map (·.size) = some 5 := by kernel_rfl
  have HU := Lib.hid (And.intro hi hu)
  clear hJ hY h hW hSB hne hB h0 hbb hi hu
  refine callsIn_of_wp Tryz.func30 rfl trivial ?_ rfl
  simp only [Tryz.ntmps30, List.size_toArray, List.length_cons, List.length_nil, Nat.reduceAdd, Nat.reduceSub, Array.replicate_succ, Array.replicate_zero, List.push_toArray, List.append_toArray, List.nil_append, List.cons_append]
  gi_wp2
  gi_loopw [5] (fun _ wr => ∃ (k : Nat) (pre : List (MisT × Nat × Nat)), Boxed wr Bn 3 (.int .i64 (k : Nat)) ∧ k ≤ n ∧ Hid (evsM l t0 = pre ++ evsM l k ∧ J pre wr ∧ Below w.heap.size w wr ∧ wr.heap[Bb]? = some (.cells #[.slice A n cap] 22)))
    (fun _ wr => match wr.cell? ⟨Bn, 0, none⟩ with | some (.int _ v) => n + 1 - v.toNat | _ => 0)
  case atStart => exact ⟨t0, [], hbn, ht0, HI0⟩
  case round =>
    clear HI0 hbn ht0
    obtain ⟨k, pre, hbx, hk, HI⟩ := hrel
    have d0 := hbx.cell
    have e0 := hbx.frozen
    have b0 : wr.cell? ⟨Bb, 0, none⟩ = some (.slice A n cap) := by rw [cell_of 0 HI.out.2.2.2]; rfl
    have hbl := blankTo_le l k (by rw [HL.out]; exact hk)
    rw [HL.out] at hbl
    have CB : Hid (Calls Tryz.prog 13 #[.slice A n cap, .int .i64 (k : Nat)] wr fun e w' => e = .returned (.int .i64 (blankTo l k : Nat)) ∧ wr = w') := Lib.hid (blanks_c A n cap l k w.heap.size wr (HB.out.1.below HI.out.2.2.1) (by omega) hk)
    have HM : Hid ((match wr.cell? ⟨Bn, 0, none⟩ with | some (.int _ v) => n + 1 - v.toNat | _ => 0) = n + 1 - k) := Lib.hid (by rw [d0]; simp)
    obtain ⟨t, ht⟩ : ∃ t, blankTo l k = t := ⟨_, rfl⟩
    rw [ht] at CB hbl
    have HT := Lib.hid ht
    clear ht
    obtain ⟨W1, hW1⟩ : ∃ W1, wr.setCell ⟨Bn, 0, none⟩ (.int .i64 (t : Nat)) = W1 := ⟨_, rfl⟩
    have H1 : Hid (Below w.heap.size w W1 ∧ J pre W1 ∧ W1.heap[Bb]? = some (.cells #[.slice A n cap] 22) ∧ W1.heap[Bn]? = some (.cells #[.int .i64 (t : Nat)] 3)) := Lib.hid (by
      rw [← hW1]
      exact ⟨HI.out.2.2.1.setCell (p := ⟨Bn, 0, none⟩) HSB.out _, HJ.out _ _ _ (some Bn) HI.out.2.1 (grownBy_setCell' wr Bn _) (fun r e => by cases e; rfl), by rw [hp_other HNE.out]; exact HI.out.2.2.2, hbx.set _⟩)
    have g0 : W1.cell? ⟨Bb, 0, none⟩ = some (.slice A n cap) := by rw [cell_of 0 H1.out.2.2.1]; rfl
    have g1 : W1.cell? ⟨Bn, 0, none⟩ = some (.int .i64 (t : Nat)) := by rw [cell_of 0 H1.out.2.2.2]; rfl
    have KC : Hid (∀ W2, Below W1.heap.size W1 W2 → W2.cell? ⟨Bb, 0, none⟩ = some (.slice A n cap) ∧ W2.cell? ⟨Bn, 0, none⟩ = some (.int .i64 (t : Nat))) := Lib.hid fun W2 hb => ⟨(hb.cell (p := ⟨Bb, 0, none⟩) (lt_of H1.out.2.2.1)).trans g0, (hb.cell (p := ⟨Bn, 0, none⟩) (lt_of H1.out.2.2.2)).trans g1⟩
    have CS : Hid (∀ (p : List UInt8) W2, p.length ≤ 1000000 → Below W1.heap.size W1 W2 → Calls Tryz.prog 29 #[.slice A n cap, .int .i64 (t : Nat), .string ⟨p.toArray⟩] W2 fun e w' => e = .returned (.bool (p.isPrefixOf (l.drop t))) ∧ Below W2.heap.size W2 w') := Lib.hid fun p W2 hp hb => by
      have hb2 : Below w.heap.size w W2 := H1.out.1.trans (hb.mono H1.out.1.size)
      exact pgStands_c A n cap l t p W2 ((HB.out.1.below hb2).more hb2.size) hbl.2 hp
    have CO : Hid (∀ x W2, misAt l t = some x → Below W1.heap.size W1 W2 → Calls Tryz.prog 31 #[.slice A n cap, .int .i64 (t : Nat)] W2 fun e w' => e = .returned (oneV x) ∧ Below W2.heap.size W2 w') := Lib.hid fun x W2 hx hb => by
      have hb2 : Below w.heap.size w W2 := H1.out.1.trans (hb.mono H1.out.1.size)
      exact pgOne_c A n cap l t x W2 ((HB.out.1.below hb2).more hb2.size) (HB.out.2.below hb2) hm hbl.2 hx
    have C1 := Lib.hid (CS.out [60, 33, 45, 45] W1 (by decide) (Below.refl _ _))
    have C2 := Lib.hid (CS.out [60, 63])
    obtain ⟨p1, hp1⟩ : ∃ p, [60, 33, 45, 45].isPrefixOf (l.drop t) = p := ⟨_, rfl⟩
    obtain ⟨p2, hp2⟩ : ∃ p, [60, 63].isPrefixOf (l.drop t) = p := ⟨_, rfl⟩
    rw [hp1] at C1
    rw [hp2] at C2
    have HP := Lib.hid (And.intro hp1 hp2)
    clear CS hp1 hp2
    have hfirst : p1 = true ∨ (p1 = false ∧ p2 = true) ∨ (p1 = false ∧ p2 = false) := by cases p1 <;> cases p2 <;> simp
    rcases hfirst with rfl | ⟨rfl, rfl⟩ | ⟨rfl, rfl⟩
    · have hx : misAt l t = some (⟨5, [], (commentOut l t).1⟩, (commentOut l t).2.1, (commentOut l t).2.2) := by unfold misAt; rw [if_pos HP.out.1]
      obtain ⟨⟨⟨kd, nm, tx⟩, nx, f⟩, hX⟩ : ∃ x : MisT × Nat × Nat, (⟨5, [], (commentOut l t).1⟩, (commentOut l t).2.1, (commentOut l t).2.2) = x := ⟨_, rfl⟩
      rw [hX] at hx
      clear hX
      have C3 : Hid (∀ W2, Below W1.heap.size W1 W2 → Calls Tryz.prog 31 #[.slice A n cap, .int .i64 (t : Nat)] W2 fun e w' => e = .returned (.tuple #[.agg #[.int .i64 (kd : Nat), .string ⟨#[]⟩, .string ⟨nm.toArray⟩, .slice none 0 0, .string ⟨tx.toArray⟩], .int .i64 (nx : Nat), .int .i64 (f : Nat)]) ∧ Below W2.heap.size W2 w') := Lib.hid fun W2 hb => CO.out _ W2 hx hb
      have HE : Hid (evsM l t0 = pre ++ evsM l k ∧ (f ≠ 0 → evsM l k = [(⟨kd, nm, tx⟩, nx, f)]) ∧ (f = 0 → evsM l k = (⟨kd, nm, tx⟩, nx, 0) :: evsM l nx)) := Lib.hid ⟨HI.out.1, fun hf => evsM_bad (by rw [HT.out]; exact hx) hf, fun hf => evsM_more (by rw [HL.out]; exact hk) (by rw [HT.out, hx, hf])⟩
      have HPX : Hid (pre ++ [(⟨kd, nm, tx⟩, nx, f)] <+: evsM l t0) := Lib.hid (by
        rw [HE.out.1]
        by_cases hf : f = 0
        · rw [HE.out.2.2 hf, hf]; exact ⟨evsM l nx, by simp⟩
        · rw [HE.out.2.1 hf]; exact List.prefix_rfl)
      have HNX : Hid (f = 0 → k < nx ∧ nx ≤ n) := Lib.hid fun hf => by
        subst hf
        have := misAt_ok (by rw [HL.out]; exact hbl.2) hx
        rw [HL.out] at this
        omega
      clear hx CO
      gi_wp2_with fail
      refine ⟨trivial, (callsIn_wide.2 CB.out).mono ?_⟩
      rintro e w2 ⟨rfl, rfl⟩
      gi_wp2_with fail
      refine ⟨trivial, (callsIn_wide.2 C1.out).mono ?_⟩
      rintro e w2 ⟨rfl, hb2⟩
      obtain ⟨u0, u1⟩ := KC.out _ hb2
      have C4 := Lib.hid (C3.out w2 hb2)
      have HB2 := Lib.hid hb2
      clear hb2 C1 C2 CB C3
      gi_wp2_with fail
      refine ⟨trivial, ?_⟩
      gi_wp2_with fail
      refine ⟨trivial, (callsIn_wide.2 C4.out).mono ?_⟩
      rintro e w4 ⟨rfl, hb⟩
      have hb4 := HB2.out.trans (hb.mono HB2.out.size)
      clear hb C4
      have hb5 : Below W1.heap.size W1 (w4.alloc (.cells #[.int .i64 (kd : Nat), .string ⟨#[]⟩, .string ⟨nm.toArray⟩, .slice none 0 0, .string ⟨tx.toArray⟩] 54)) := hb4.alloc hb4.size _
      obtain ⟨W5, hW5⟩ : ∃ W5, w4.alloc (.cells #[.int .i64 (kd : Nat), .string ⟨#[]⟩, .string ⟨nm.toArray⟩, .slice none 0 0, .string ⟨tx.toArray⟩] 54) = W5 := ⟨_, rfl⟩
      rw [hW5] at hb5
      have J5 : J pre W5 := HJ.out pre W1 W5 none H1.out.2.1 (hb5.gr none) (fun r e => by cases e)
      obtain ⟨fn, tmps, assign, body, hy, hR⟩ := HY.out pre (⟨kd, nm, tx⟩, nx, f) W5 J5 HPX.out
      unfold encE at hy
      dsimp only at hy
      have HRR := Lib.hid hR
      have B5 : Hid (Below w.heap.size w W5 ∧ W5.heap[Bb]? = some (.cells #[.slice A n cap] 22) ∧ Boxed W5 Bn 3 (.int .i64 (t : Nat))) := Lib.hid ⟨H1.out.1.trans (hb5.mono H1.out.1.size), (hb5.block _ (lt_of H1.out.2.2.1)).trans H1.out.2.2.1, (hb5.block _ (lt_of H1.out.2.2.2)).trans H1.out.2.2.2⟩
      have l54 : w4.heap.size < W5.heap.size := by rw [← hW5, World.size_alloc]; omega
      have C54 : W5.heap[w4.heap.size]? = some (.cells #[.int .i64 (kd : Nat), .string ⟨#[]⟩, .string ⟨nm.toArray⟩, .slice none 0 0, .string ⟨tx.toArray⟩] 54) := by rw [← hW5]; exact hp_new _ _
      have q0 := cell_of 0 C54
      have q1 := cell_of 1 C54
      have q2 := cell_of 2 C54
      have q3 := cell_of 3 C54
      have q4 := cell_of 4 C54
      clear hR J5 hb5 C54 l54
      gi_wp2
      refine HRR.out.mono ?_
      rintro e W3 (⟨rfl, hJ3, hk3⟩ | ⟨rfl, hJ3⟩)
      · by_cases hf : f = 0
        · have hnx := HNX.out hf
          subst hf
          have BX3 : Boxed W3 Bn 3 (.int .i64 (t : Nat)) := hk3.2.2.trans B5.out.2.2
          have d3 := BX3.cell
          have e3 := BX3.frozen
          have HF : Hid (evsM l t0 = (pre ++ [(⟨kd, nm, tx⟩, nx, 0)]) ++ evsM l nx ∧ J (pre ++ [(⟨kd, nm, tx⟩, nx, 0)]) (W3.setCell ⟨Bn, 0, none⟩ (.int .i64 (nx : Nat))) ∧ Below w.heap.size w (W3.setCell ⟨Bn, 0, none⟩ (.int .i64 (nx : Nat))) ∧ (W3.setCell ⟨Bn, 0, none⟩ (.int .i64 (nx : Nat))).heap[Bb]? = some (.cells #[.slice A n cap] 22)) := Lib.hid ⟨by
              rw [HE.out.1, HE.out.2.2 rfl]
              simp, HJ.out _ _ _ (some Bn) hJ3 (grownBy_setCell' W3 Bn _) (fun r e => by cases e; rfl), (B5.out.1.trans hk3.1).setCell (p := ⟨Bn, 0, none⟩) HSB.out _, by rw [hp_other HNE.out]; exact hk3.2.1.trans B5.out.2.1⟩
          clear hJ3 hk3 hy
          gi_wp2
          refine ⟨⟨nx, pre ++ [(⟨kd, nm, tx⟩, nx, 0)], BX3.set _, hnx.2, HF⟩, ?_⟩
          rw [(BX3.set (.int .i64 (nx : Nat))).cell, HM.out]
          simp
          omega
        · have hfb : ((f : Int) != 0) = true := by simpa using hf
          have HF : Hid (evsM l t0 = pre ++ [(⟨kd, nm, tx⟩, nx, f)]) := Lib.hid (by rw [HE.out.1]; exact congrArg _ (HE.out.2.1 hf))
          clear hk3 hy hf
          gi_wp2
          exact bodyPost_ret (results_none (by rfl) _ _ _) rfl ⟨⟨_, rfl⟩, .inl (by rw [HF.out]; exact hJ3)⟩
      · clear hy
        gi_wp2
        exact bodyPost_ret (results_none (by rfl) _ _ _) rfl ⟨⟨_, rfl⟩, .inr ⟨_, HPX.out, hJ3⟩⟩
    · have hx : misAt l t = some (⟨4, (piOut l t).1, (piOut l t).2.1⟩, (piOut l t).2.2.1, (piOut l t).2.2.2) := by unfold misAt; rw [if_neg (by rw [HP.out.1]; simp), if_pos HP.out.2]
      obtain ⟨⟨⟨kd, nm, tx⟩, nx, f⟩, hX⟩ : ∃ x : MisT × Nat × Nat, (⟨4, (piOut l t).1, (piOut l t).2.1⟩, (piOut l t).2.2.1, (piOut l t).2.2.2) = x := ⟨_, rfl⟩
      rw [hX] at hx
      clear hX
      have C3 : Hid (∀ W2, Below W1.heap.size W1 W2 → Calls Tryz.prog 31 #[.slice A n cap, .int .i64 (t : Nat)] W2 fun e w' => e = .returned (.tuple #[.agg #[.int .i64 (kd : Nat), .string ⟨#[]⟩, .string ⟨nm.toArray⟩, .slice none 0 0, .string ⟨tx.toArray⟩], .int .i64 (nx : Nat), .int .i64 (f : Nat)]) ∧ Below W2.heap.size W2 w') := Lib.hid fun W2 hb => CO.out _ W2 hx hb
      have HE : Hid (evsM l t0 = pre ++ evsM l k ∧ (f ≠ 0 → evsM l k = [(⟨kd, nm, tx⟩, nx, f)]) ∧ (f = 0 → evsM l k = (⟨kd, nm, tx⟩, nx, 0) :: evsM l nx)) := Lib.hid ⟨HI.out.1, fun hf => evsM_bad (by rw [HT.out]; exact hx) hf, fun hf => evsM_more (by rw [HL.out]; exact hk) (by rw [HT.out, hx, hf])⟩
      have HPX : Hid (pre ++ [(⟨kd, nm, tx⟩, nx, f)] <+: evsM l t0) := Lib.hid (by
        rw [HE.out.1]
        by_cases hf : f = 0
        · rw [HE.out.2.2 hf, hf]; exact ⟨evsM l nx, by simp⟩
        · rw [HE.out.2.1 hf]; exact List.prefix_rfl)
      have HNX : Hid (f = 0 → k < nx ∧ nx ≤ n) := Lib.hid fun hf => by
        subst hf
        have := misAt_ok (by rw [HL.out]; exact hbl.2) hx
        rw [HL.out] at this
        omega
      clear hx CO
      gi_wp2_with fail
      refine ⟨trivial, (callsIn_wide.2 CB.out).mono ?_⟩
      rintro e w2 ⟨rfl, rfl⟩
      gi_wp2_with fail
      refine ⟨trivial, (callsIn_wide.2 C1.out).mono ?_⟩
      rintro e w2 ⟨rfl, hb2⟩
      obtain ⟨u0, u1⟩ := KC.out _ hb2
      have C5 := Lib.hid (C2.out w2 (by decide) hb2)
      have HB2 := Lib.hid hb2
      clear hb2 C1 C2 CB
      gi_wp2_with fail
      refine ⟨trivial, (callsIn_wide.2 C5.out).mono ?_⟩
      rintro e w3 ⟨rfl, hb⟩
      have hb3 := HB2.out.trans (hb.mono HB2.out.size)
      obtain ⟨u0, u1⟩ := KC.out _ hb3
      have C4 := Lib.hid (C3.out w3 hb3)
      have HB3 := Lib.hid hb3
      clear hb hb3 C5 C3
      gi_wp2_with fail
      refine ⟨trivial, (callsIn_wide.2 C4.out).mono ?_⟩
      rintro e w4 ⟨rfl, hb⟩
      have hb4 := HB3.out.trans (hb.mono HB3.out.size)
      clear hb C4
      have hb5 : Below W1.heap.size W1 (w4.alloc (.cells #[.int .i64 (kd : Nat), .string ⟨#[]⟩, .string ⟨nm.toArray⟩, .slice none 0 0, .string ⟨tx.toArray⟩] 54)) := hb4.alloc hb4.size _
      obtain ⟨W5, hW5⟩ : ∃ W5, w4.alloc (.cells #[.int .i64 (kd : Nat), .string ⟨#[]⟩, .string ⟨nm.toArray⟩, .slice none 0 0, .string ⟨tx.toArray⟩] 54) = W5 := ⟨_, rfl⟩
      rw [hW5] at hb5
      have J5 : J pre W5 := HJ.out pre W1 W5 none H1.out.2.1 (hb5.gr none) (fun r e => by cases e)
      obtain ⟨fn, tmps, assign, body, hy, hR⟩ := HY.out pre (⟨kd, nm, tx⟩, nx, f) W5 J5 HPX.out
      unfold encE at hy
      dsimp only at hy
      have HRR := Lib.hid hR
      have B5 : Hid (Below w.heap.size w W5 ∧ W5.heap[Bb]? = some (.cells #[.slice A n cap] 22) ∧ Boxed W5 Bn 3 (.int .i64 (t : Nat))) := Lib.hid ⟨H1.out.1.trans (hb5.mono H1.out.1.size), (hb5.block _ (lt_of H1.out.2.2.1)).trans H1.out.2.2.1, (hb5.block _ (lt_of H1.out.2.2.2)).trans H1.out.2.2.2⟩
      have l54 : w4.heap.size < W5.heap.size := by rw [← hW5, World.size_alloc]; omega
      have C54 : W5.heap[w4.heap.size]? = some (.cells #[.int .i64 (kd : Nat), .string ⟨#[]⟩, .string ⟨nm.toArray⟩, .slice none 0 0, .string ⟨tx.toArray⟩] 54) := by rw [← hW5]; exact hp_new _ _
      have q0 := cell_of 0 C54
      have q1 := cell_of 1 C54
      have q2 := cell_of 2 C54
      have q3 := cell_of 3 C54
      have q4 := cell_of 4 C54
      clear hR J5 hb5 C54 l54
      gi_wp2
      refine HRR.out.mono ?_
      rintro e W3 (⟨rfl, hJ3, hk3⟩ | ⟨rfl, hJ3⟩)
      · by_cases hf : f = 0
        · have hnx := HNX.out hf
          subst hf
          have BX3 : Boxed W3 Bn 3 (.int .i64 (t : Nat)) := hk3.2.2.trans B5.out.2.2
          have d3 := BX3.cell
          have e3 := BX3.frozen
          have HF : Hid (evsM l t0 = (pre ++ [(⟨kd, nm, tx⟩, nx, 0)]) ++ evsM l nx ∧ J (pre ++ [(⟨kd, nm, tx⟩, nx, 0)]) (W3.setCell ⟨Bn, 0, none⟩ (.int .i64 (nx : Nat))) ∧ Below w.heap.size w (W3.setCell ⟨Bn, 0, none⟩ (.int .i64 (nx : Nat))) ∧ (W3.setCell ⟨Bn, 0, none⟩ (.int .i64 (nx : Nat))).heap[Bb]? = some (.cells #[.slice A n cap] 22)) := Lib.hid ⟨by
              rw [HE.out.1, HE.out.2.2 rfl]
              simp, HJ.out _ _ _ (some Bn) hJ3 (grownBy_setCell' W3 Bn _) (fun r e => by cases e; rfl), (B5.out.1.trans hk3.1).setCell (p := ⟨Bn, 0, none⟩) HSB.out _, by rw [hp_other HNE.out]; exact hk3.2.1.trans B5.out.2.1⟩
          clear hJ3 hk3 hy
          gi_wp2
          refine ⟨⟨nx, pre ++ [(⟨kd, nm, tx⟩, nx, 0)], BX3.set _, hnx.2, HF⟩, ?_⟩
          rw [(BX3.set (.int .i64 (nx : Nat))).cell, HM.out]
          simp
          omega
        · have hfb : ((f : Int) != 0) = true := by simpa using hf
          have HF : Hid (evsM l t0 = pre ++ [(⟨kd, nm, tx⟩, nx, f)]) := Lib.hid (by rw [HE.out.1]; exact congrArg _ (HE.out.2.1 hf))
          clear hk3 hy hf
          gi_wp2
          exact bodyPost_ret (results_none (by rfl) _ _ _) rfl ⟨⟨_, rfl⟩, .inl (by rw [HF.out]; exact hJ3)⟩
      · clear hy
        gi_wp2
        exact bodyPost_ret (results_none (by rfl) _ _ _) rfl ⟨⟨_, rfl⟩, .inr ⟨_, HPX.out, hJ3⟩⟩
    · have HN : Hid (evsM l t0 = pre) := Lib.hid (by
        rw [HI.out.1, evsM_none (by rw [HT.out]; unfold misAt; rw [if_neg (by rw [HP.out.1]; simp), if_neg (by rw [HP.out.2]; simp)]), List.append_nil])
      gi_wp2_with fail
      refine ⟨trivial, (callsIn_wide.2 CB.out).mono ?_⟩
      rintro e w2 ⟨rfl, rfl⟩
      gi_wp2_with fail
      refine ⟨trivial, (callsIn_wide.2 C1.out).mono ?_⟩
      rintro e w2 ⟨rfl, hb2⟩
      obtain ⟨u0, u1⟩ := KC.out _ hb2
      have C5 := Lib.hid (C2.out w2 (by decide) hb2)
      have HB2 := Lib.hid hb2
      clear hb2 C1 C2 CB
      gi_wp2_with fail
      refine ⟨trivial, (callsIn_wide.2 C5.out).mono ?_⟩
      rintro e w3 ⟨rfl, hb⟩
      have HB3 := Lib.hid (HB2.out.trans (hb.mono HB2.out.size))
      clear hb C5
      gi_wp2
      exact bodyPost_ret (results_none (by rfl) _ _ _) rfl ⟨⟨_, rfl⟩, .inl (by rw [HN.out]; exact HJ.out pre W1 _ none H1.out.2.1 (HB3.out.gr none) (fun r e => by cases e))⟩
end Go.Proofs.YtgenpgfhjhcahaaGreatDoor
