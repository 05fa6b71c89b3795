/- The law ReportTells. -/
import Derived.Test.YtocbofeanfdggaaDoorRows
import Derived.WalkKit
import Derived.ProofKit
import Derived.OpenShut
import Derived.ShutString
import Derived.ChangeOld
import Derived.Below
import Derived.BigQuiet
import Derived.Deep.QuietTactic
import Derived.Lib.Hide
import Derived.Deep.RegionHeld3
import Derived.Lib.SlBytesConst
import Derived.Laws.CopyOwn
import Derived.Laws.CopyRow
import Derived.Lib.Bytes
import Derived.Deep.LoopGhost
import Derived.Deep.DeepFit
import Derived.Deep.DeepMust
import Derived.WalkSpells
import Derived.WalkLawsBesides
import Derived.Laws.EntriesVeiled
import Derived.Laws.Rows
import Derived.Deep.RegionWith
import Derived.Lib.ItoaNum
import Derived.Lib.AppendIntMem
import Derived.Test.YtocbofeanfdggaaDoorS1
import Derived.Test.YtocbofeanfdggaaDoorS2
import Derived.Test.YtocbofeanfdggaaDoorS3
import Derived.Test.YtocbofeanfdggaaDoorS5
import Derived.Test.YtocbofeanfdggaaDoorS6
import Derived.Test.YtocbofeanfdggaaDoorS7
import Derived.Test.YtocbofeanfdggaaDoorS8
import Derived.Test.YtocbofeanfdggaaDoorS9
import Derived.Test.YtocbofeanfdggaaDoorS10
import Derived.Test.YtocbofeanfdggaaDoorS11
import Derived.Test.YtocbofeanfdggaaDoorS12
import Derived.Test.YtocbofeanfdggaaDoorS14
import Derived.Test.YtocbofeanfdggaaDoorS15
import Derived.Test.YtocbofeanfdggaaDoorS16
import Derived.Test.YtocbofeanfdggaaDoorS17
namespace Go.Proofs.YtocbofeanfdggaaDoor
open Go.ChangeShapes Go.WideShapes Go.ChangeAt Go.RowKit
set_option linter.unusedVariables false
/-- While the law goes on: the sheet's block, the result's. -/
def ShJ (cs : Array Value) (qb : Nat) (w W : World) : Prop := CJ 26 w W cs ∧ W.heap[qb]? = some (.cells cs 31 (0, 0))
theorem ShJ.kept {cs : Array Value} {qb : Nat} {w W W' : World} (h : ShJ cs qb w W) (hb : Below W.heap.size W W') : ShJ cs qb w W' := ⟨h.1.kept hb, (hb.block _ (lt_of h.2)).trans h.2⟩
set_option maxRecDepth 100000 in
set_option maxHeartbeats 32000000 in
theorem reportTells_walk (EA : Option Addr) (en ec : Nat) (vs : List EvV) (e c : Int) (SA : Option Addr) (sn sc : Nat) (ss : List (List UInt8)) (z0 z1 z2 z3 : Int) (w : World) (hE : ERd w w.heap.size EA en ec vs) (hen : en ≤ 1048576) (hle : ∀ v ∈ vs, EvLe 1048576 v) (hS : RRd cSt 1 w w.heap.size SA sn sc ss) (h0 : I64 z0) (h1 : I64 z1) (h2 : I64 z2) (h3 : I64 z3) (hW : W44 w) :
    Calls Tryd.prog 3 #[.agg #[.slice EA en ec, .int .i64 e, .int .i64 c, .slice SA sn sc, .int .i64 z0, .int .i64 z1, .int .i64 z2, .int .i64 z3]] w fun e' w' => e' = .returned (.bool true) ∧ Below w.heap.size w w' := by
  have HP : Hid (∀ W, Below w.heap.size w W → ERd W W.heap.size EA en ec vs) := Lib.hid fun W hb => (hE.below hb).more hb.size
  have HQ : Hid (∀ W, Below w.heap.size w W → RRd cSt 1 W W.heap.size SA sn sc ss) := Lib.hid fun W hb => (hS.below hb).more hb.size
  have HLS : Hid (ss.length = sn) := Lib.hid hS.len
  have HWW : Hid (∀ W, Below w.heap.size w W → W44 W) := Lib.hid fun W hb => hW.below hb
  have LV : Hid (∀ W, Calls Tryd.prog 7 #[] W fun e' w' => e' = .returned (.bool true) ∧ Below W.heap.size W w') := Lib.hid fun W => live44_c W
  have J0 := Lib.hid (CJ.start 26 w #[.slice EA en ec, .int .i64 e, .int .i64 c, .slice SA sn sc, .int .i64 z0, .int .i64 z1, .int .i64 z2, .int .i64 z3])
  have CG := Lib.hid (refGreat_c EA en ec vs _ (HP.out _ J0.out.1) hen hle)
  have hnum : vs.length = en := hE.row.len
  have hats : ∀ v ∈ vs, v.e.ats.length = v.n := fun v hv => (hE.ats v hv).len
  have hI := Lib.hid (And.intro h0 (And.intro h1 (And.intro h2 h3)))
  have x0 := cell_of 0 J0.out.2
  clear hE hle hS hW h0 h1 h2 h3
  cases hg : greatE (vs.map EvV.e) with
  | true =>
    rw [hg] at CG
    clear hg
    go_enter Tryd.func3, Tryd.ntmps3
    go_wp2_with fail
    refine CG.out.mono ?_
    rintro e' w1 ⟨rfl, hb⟩
    have B1 := Lib.hid (J0.out.1.trans (hb.mono J0.out.1.size))
    clear hb CG
    go_wp2_with fail
    refine (LV.out _).mono ?_
    rintro e' u9 ⟨rfl, hb⟩
    have HB9 := Lib.hid (B1.out.trans (hb.mono B1.out.size))
    clear hb
    go_wp2
    go_ret
    exact ⟨rfl, HB9.out⟩
  | false =>
    rw [hg] at CG
    obtain ⟨hl, hsm⟩ := greatE_no hg hats
    have hen2 : en ≤ 100 := by omega
    have HSM := Lib.hid hsm
    clear hg hats hl hsm hen
    by_cases h30 : 30 < sn
    · have h30i : (30 : Int) < (sn : Int) := by omega
      go_enter Tryd.func3, Tryd.ntmps3
      go_wp2_with fail
      refine CG.out.mono ?_
      rintro e' w1 ⟨rfl, hb⟩
      have J1 := Lib.hid (J0.out.kept hb)
      have x3 := cell_of 3 J1.out.2
      clear hb CG x0
      go_wp2_with fail
      refine (LV.out _).mono ?_
      rintro e' u9 ⟨rfl, hb⟩
      have HB9 := Lib.hid (J1.out.1.trans (hb.mono J1.out.1.size))
      clear hb
      go_wp2
      go_ret
      exact ⟨rfl, HB9.out⟩
    · have h30i : ¬ (30 : Int) < (sn : Int) := by omega
      go_enter Tryd.func3, Tryd.ntmps3
      go_wp2_with fail
      refine CG.out.mono ?_
      rintro e' w1 ⟨rfl, hb⟩
      have J1 := Lib.hid (J0.out.kept hb)
      have x3 := cell_of 3 J1.out.2
      clear hb CG x0
      go_wp2
      go_loopg [3] (sn) (fun g i wr => ∃ t : Nat, i = .int .i64 (t : Int) ∧ t ≤ sn ∧ Hid (g + t = sn) ∧ Hid (∀ s ∈ ss.take t, s.length ≤ 200) ∧ w1 = wr)
      case atStart => exact ⟨0, rfl, Nat.zero_le _, Lib.hid rfl, Lib.hid (fun s hs => by simp at hs), rfl⟩
      case round =>
        obtain ⟨t, rfl, ht, hg, HA, rfl⟩ := hrel
        have ht0 : (0 : Int) ≤ (t : Int) := by omega
        have ht9 : (t : Int) ≤ 30 := by omega
        by_cases htn : t < sn
        · have hti : (t : Int) < (sn : Int) := by omega
          obtain ⟨q1, o1, x, rfl, hq1, hx, hc1⟩ := (HQ.out _ J1.out.1).cell htn
          have y0 : w1.cell? ⟨q1, o1 + t, none⟩ = some (.string ⟨x.toArray⟩) := by rw [show o1 + t = o1 + (t * 1 + 0) by omega]; exact hc1 0 _ rfl
          have HSS : Hid (ss.take (t + 1) = ss.take t ++ [x]) := Lib.hid (by rw [List.take_add_one, hx]; rfl)
          clear hq1 hx hc1
          by_cases h200 : 200 < x.length
          · have h2i : (200 : Int) < (x.length : Int) := by omega
            go_wp2_with fail
            refine (LV.out _).mono ?_
            rintro e' u9 ⟨rfl, hb⟩
            have HB9 := Lib.hid (J1.out.1.trans (hb.mono J1.out.1.size))
            clear hb
            go_wp2
            go_ret
            exact ⟨rfl, HB9.out⟩
          · have h2i : ¬ (200 : Int) < (x.length : Int) := by omega
            go_wp2
            go_roundg (sn - (t + 1))
            case measure => have := hg.out; omega
            case rel => exact ⟨t + 1, by go_num, by omega, Lib.hid (by have := hg.out; omega), Lib.hid (fun s hs => by
              rw [HSS.out] at hs
              rcases List.mem_append.1 hs with h | h
              · exact HA.out s h
              · rw [List.mem_singleton] at h; subst h; omega), rfl⟩
        · have hti : ¬ (t : Int) < (sn : Int) := by omega
          obtain rfl : sn = t := by omega
          have hsl : ∀ s ∈ ss, s.length ≤ 200 := fun s hs => HA.out s (by rw [List.take_of_length_le (by rw [HLS.out]; exact Nat.le_refl _)]; exact hs)
          have hts : sn ≤ 30 := by omega
          have CA1 : Hid (∀ W, Below w.heap.size w W → Calls Tryd.prog 11 #[.agg #[.slice EA en ec, .int .i64 e, .int .i64 c, .slice SA sn sc, .int .i64 z0, .int .i64 z1, .int .i64 z2, .int .i64 z3]] W fun e' w' => e' = .returned (.string ⟨(allL vs e c ss z0 z1 z2 z3).toArray⟩) ∧ Below W.heap.size W w') := Lib.hid fun W hb => repAll_c EA en ec vs e c SA sn sc ss z0 z1 z2 z3 W (HP.out W hb) hen2 HSM.out (HQ.out W hb) hts hsl hI.out.1 hI.out.2.1 hI.out.2.2.1 hI.out.2.2.2 (HWW.out W hb)
          have CA2 : Hid (∀ W, Below w.heap.size w W → Calls Tryd.prog 8 #[.agg #[.slice EA en ec, .int .i64 e, .int .i64 c, .slice SA sn sc, .int .i64 z0, .int .i64 z1, .int .i64 z2, .int .i64 z3]] W fun e' w' => e' = .returned (.string ⟨(allL vs e c ss z0 z1 z2 z3).toArray⟩) ∧ Below W.heap.size W w') := Lib.hid fun W hb => refAll44_c EA en ec vs e c SA sn sc ss z0 z1 z2 z3 W (HP.out W hb) hen2 HSM.out (HQ.out W hb) hts hsl hI.out.1 hI.out.2.1 hI.out.2.2.1 hI.out.2.2.2
          obtain ⟨R, hR⟩ : ∃ q, allL vs e c ss z0 z1 z2 z3 = q := ⟨_, rfl⟩
          rw [hR] at CA1 CA2
          have x0 := cell_of 0 J1.out.2
          have x1 := cell_of 1 J1.out.2
          have x2 := cell_of 2 J1.out.2
          have x4 := cell_of 4 J1.out.2
          have x5 := cell_of 5 J1.out.2
          have x6 := cell_of 6 J1.out.2
          have x7 := cell_of 7 J1.out.2
          have ka := (Below.refl w1.heap.size w1).alloc (Nat.le_refl _) (.cells #[.slice EA en ec, .int .i64 e, .int .i64 c, .slice SA sn sc, .int .i64 z0, .int .i64 z1, .int .i64 z2, .int .i64 z3] 31)
          have JA0 : Hid (ShJ #[.slice EA en ec, .int .i64 e, .int .i64 c, .slice SA sn sc, .int .i64 z0, .int .i64 z1, .int .i64 z2, .int .i64 z3] w1.heap.size w (w1.alloc (.cells #[.slice EA en ec, .int .i64 e, .int .i64 c, .slice SA sn sc, .int .i64 z0, .int .i64 z1, .int .i64 z2, .int .i64 z3] 31))) := Lib.hid ⟨J1.out.kept ka, hp_new _ _⟩
          have C2 := Lib.hid (CA2.out _ JA0.out.1.1)
          have u0 := cell_of 0 JA0.out.1.2
          have u1 := cell_of 1 JA0.out.1.2
          have u2 := cell_of 2 JA0.out.1.2
          have u3 := cell_of 3 JA0.out.1.2
          have u4 := cell_of 4 JA0.out.1.2
          have u5 := cell_of 5 JA0.out.1.2
          have u6 := cell_of 6 JA0.out.1.2
          have u7 := cell_of 7 JA0.out.1.2
          clear hR HQ HA hsl hts ka CA2 hI HLS hg hti htn ht ht0 ht9 h30 h30i J0
          go_wp2_with fail
          refine C2.out.mono ?_
          rintro e' w2 ⟨rfl, hb⟩
          have JA := Lib.hid (JA0.out.kept hb)
          clear hb JA0 C2 x0 x1 x2 x3 x4 x5 x6 x7 u0 u1 u2 u3 u4 u5 u6 u7 J1
          generalize w1.heap.size = qb at *
          go_wp2
          go_loopg [6] (en) (fun g i wr => ∃ t' : Nat, i = .int .i64 (t' : Int) ∧ t' ≤ en ∧ Hid (g + t' = en) ∧ Hid (ShJ #[.slice EA en ec, .int .i64 e, .int .i64 c, .slice SA sn sc, .int .i64 z0, .int .i64 z1, .int .i64 z2, .int .i64 z3] qb w wr))
          case atStart => exact ⟨0, rfl, Nat.zero_le _, Lib.hid rfl, JA⟩
          case round =>
            clear JA
            obtain ⟨t', rfl, ht, hg, HJ⟩ := hrel
            have ht0 : (0 : Int) ≤ (t' : Int) := by omega
            have ht9 : (t' : Int) ≤ 100 := by omega
            have x0 := cell_of 0 HJ.out.1.2
            by_cases htn : t' < en
            · have hti : (t' : Int) < (en : Int) := by omega
              obtain ⟨b1, o1, x, hAe, hb1, hx, hc1⟩ := (HP.out _ HJ.out.1.1).row.cell htn
              have hmem := List.mem_of_getElem? hx
              have hex := HSM.out x hmem
              subst hAe
              have HCC : Hid (∀ W, Hid (ShJ #[.slice (some ⟨b1, o1, none⟩) en ec, .int .i64 e, .int .i64 c, .slice SA sn sc, .int .i64 z0, .int .i64 z1, .int .i64 z2, .int .i64 z3] qb w W) → W.cell? ⟨w.heap.size, 0, none⟩ = some (.slice (some ⟨b1, o1, none⟩) en ec) ∧ W.cell? ⟨b1, o1 + t' * 5, none⟩ = some (.int .i64 x.e.kind) ∧ W.cell? ⟨b1, o1 + t' * 5 + 1, none⟩ = some (.string ⟨x.e.sp.toArray⟩) ∧ W.cell? ⟨b1, o1 + t' * 5 + 2, none⟩ = some (.string ⟨x.e.lo.toArray⟩) ∧ W.cell? ⟨b1, o1 + t' * 5 + 3, none⟩ = some (.slice x.A x.n x.c) ∧ W.cell? ⟨b1, o1 + t' * 5 + 4, none⟩ = some (.string ⟨x.e.tx.toArray⟩)) := Lib.hid fun W hW => by
                obtain ⟨b2, o2, y, e2, _, hy, hc2⟩ := (HP.out _ hW.out.1.1).row.cell htn
                cases e2
                rw [hx] at hy
                cases hy
                exact ⟨cell_of 0 hW.out.1.2, hc2 0 _ rfl, hc2 1 _ rfl, hc2 2 _ rfl, hc2 3 _ rfl, hc2 4 _ rfl⟩
              have HRX : Hid (∀ W, Hid (ShJ #[.slice (some ⟨b1, o1, none⟩) en ec, .int .i64 e, .int .i64 c, .slice SA sn sc, .int .i64 z0, .int .i64 z1, .int .i64 z2, .int .i64 z3] qb w W) → RRd cA 3 W W.heap.size x.A x.n x.c x.e.ats) := Lib.hid fun W hW => (HP.out _ hW.out.1.1).ats x hmem
              obtain ⟨⟨k, sp, lo, ats, tx⟩, XA, xn, xc⟩ := x
              simp only at HCC HRX
              have CE1 : Hid (∀ W, Hid (ShJ #[.slice (some ⟨b1, o1, none⟩) en ec, .int .i64 e, .int .i64 c, .slice SA sn sc, .int .i64 z0, .int .i64 z1, .int .i64 z2, .int .i64 z3] qb w W) → Calls Tryd.prog 9 #[.agg #[.int .i64 k, .string ⟨sp.toArray⟩, .string ⟨lo.toArray⟩, .slice XA xn xc, .string ⟨tx.toArray⟩]] W fun e' w' => e' = .returned (.string ⟨(evL k sp lo ats tx).toArray⟩) ∧ Hid (ShJ #[.slice (some ⟨b1, o1, none⟩) en ec, .int .i64 e, .int .i64 c, .slice SA sn sc, .int .i64 z0, .int .i64 z1, .int .i64 z2, .int .i64 z3] qb w w') ∧ w'.cell? ⟨w.heap.size, 0, none⟩ = some (.slice (some ⟨b1, o1, none⟩) en ec) ∧ w'.cell? ⟨b1, o1 + t' * 5, none⟩ = some (.int .i64 k) ∧ w'.cell? ⟨b1, o1 + t' * 5 + 1, none⟩ = some (.string ⟨sp.toArray⟩) ∧ w'.cell? ⟨b1, o1 + t' * 5 + 2, none⟩ = some (.string ⟨lo.toArray⟩) ∧ w'.cell? ⟨b1, o1 + t' * 5 + 3, none⟩ = some (.slice XA xn xc) ∧ w'.cell? ⟨b1, o1 + t' * 5 + 4, none⟩ = some (.string ⟨tx.toArray⟩)) := Lib.hid fun W hW => (repEvent_c k sp lo tx XA xn xc ats W (HRX.out W hW) hex).mono fun e' w' ⟨he, hb⟩ => ⟨he, Lib.hid (hW.out.kept hb), HCC.out _ (Lib.hid (hW.out.kept hb))⟩
              have CE2 : Hid (∀ W, Hid (ShJ #[.slice (some ⟨b1, o1, none⟩) en ec, .int .i64 e, .int .i64 c, .slice SA sn sc, .int .i64 z0, .int .i64 z1, .int .i64 z2, .int .i64 z3] qb w W) → Calls Tryd.prog 10 #[.agg #[.int .i64 k, .string ⟨sp.toArray⟩, .string ⟨lo.toArray⟩, .slice XA xn xc, .string ⟨tx.toArray⟩]] W fun e' w' => e' = .returned (.string ⟨(evL k sp lo ats tx).toArray⟩) ∧ Hid (ShJ #[.slice (some ⟨b1, o1, none⟩) en ec, .int .i64 e, .int .i64 c, .slice SA sn sc, .int .i64 z0, .int .i64 z1, .int .i64 z2, .int .i64 z3] qb w w') ∧ w'.cell? ⟨w.heap.size, 0, none⟩ = some (.slice (some ⟨b1, o1, none⟩) en ec) ∧ w'.cell? ⟨b1, o1 + t' * 5, none⟩ = some (.int .i64 k) ∧ w'.cell? ⟨b1, o1 + t' * 5 + 1, none⟩ = some (.string ⟨sp.toArray⟩) ∧ w'.cell? ⟨b1, o1 + t' * 5 + 2, none⟩ = some (.string ⟨lo.toArray⟩) ∧ w'.cell? ⟨b1, o1 + t' * 5 + 3, none⟩ = some (.slice XA xn xc) ∧ w'.cell? ⟨b1, o1 + t' * 5 + 4, none⟩ = some (.string ⟨tx.toArray⟩)) := Lib.hid fun W hW => (refEvent44_c k sp lo tx XA xn xc ats W (HRX.out W hW) hex).mono fun e' w' ⟨he, hb⟩ => ⟨he, Lib.hid (hW.out.kept hb), HCC.out _ (Lib.hid (hW.out.kept hb))⟩
              obtain ⟨EL, hEL⟩ : ∃ q, evL k sp lo ats tx = q := ⟨_, rfl⟩
              rw [hEL] at CE1 CE2
              obtain ⟨c0, c1, c2, c3, c4, c5⟩ := HCC.out wr HJ
              have d0 : wr.drew.cell? ⟨w.heap.size, 0, none⟩ = some (.slice (some ⟨b1, o1, none⟩) en ec) := c0
              have d1 : wr.drew.cell? ⟨b1, o1 + t' * 5, none⟩ = some (.int .i64 k) := c1
              have d2 : wr.drew.cell? ⟨b1, o1 + t' * 5 + 1, none⟩ = some (.string ⟨sp.toArray⟩) := c2
              have d3 : wr.drew.cell? ⟨b1, o1 + t' * 5 + 2, none⟩ = some (.string ⟨lo.toArray⟩) := c3
              have d4 : wr.drew.cell? ⟨b1, o1 + t' * 5 + 3, none⟩ = some (.slice XA xn xc) := c4
              have d5 : wr.drew.cell? ⟨b1, o1 + t' * 5 + 4, none⟩ = some (.string ⟨tx.toArray⟩) := c5
              have HJd : Hid (ShJ #[.slice (some ⟨b1, o1, none⟩) en ec, .int .i64 e, .int .i64 c, .slice SA sn sc, .int .i64 z0, .int .i64 z1, .int .i64 z2, .int .i64 z3] qb w wr.drew) := Lib.hid ⟨⟨below_drewN' (n := 1) HJ.out.1.1, HJ.out.1.2⟩, HJ.out.2⟩
              have HFB : ∀ W, Hid (ShJ #[.slice (some ⟨b1, o1, none⟩) en ec, .int .i64 e, .int .i64 c, .slice SA sn sc, .int .i64 z0, .int .i64 z1, .int .i64 z2, .int .i64 z3] qb w W) → Hid (ShJ #[.slice (some ⟨b1, o1, none⟩) en ec, .int .i64 e, .int .i64 c, .slice SA sn sc, .int .i64 z0, .int .i64 z1, .int .i64 z2, .int .i64 z3] qb w W) := fun _ h => h
              clear hEL HCC HRX hb1 hx hc1 hmem hex x0
              go_wp2_with fail
              go_region_held3 (fun w' => w'.cell? ⟨w.heap.size, 0, none⟩ = some (.slice (some ⟨b1, o1, none⟩) en ec) ∧ w'.cell? ⟨b1, o1 + t' * 5, none⟩ = some (.int .i64 k) ∧ w'.cell? ⟨b1, o1 + t' * 5 + 1, none⟩ = some (.string ⟨sp.toArray⟩) ∧ w'.cell? ⟨b1, o1 + t' * 5 + 2, none⟩ = some (.string ⟨lo.toArray⟩) ∧ w'.cell? ⟨b1, o1 + t' * 5 + 3, none⟩ = some (.slice XA xn xc) ∧ w'.cell? ⟨b1, o1 + t' * 5 + 4, none⟩ = some (.string ⟨tx.toArray⟩) ∧ Hid (ShJ #[.slice (some ⟨b1, o1, none⟩) en ec, .int .i64 e, .int .i64 c, .slice SA sn sc, .int .i64 z0, .int .i64 z1, .int .i64 z2, .int .i64 z3] qb w w')) (first | exact ⟨by assumption, by assumption, by assumption, by assumption, by assumption, by assumption, by assumption⟩) (first
                | (go_at_call 9; refine (CE1.out _ (by assumption)).mono ?_; rintro e' W2 ⟨rfl, HQ2, g0, g1, g2, g3, g4, g5⟩)
                | (go_at_call 10; refine (CE2.out _ (by assumption)).mono ?_; rintro e' W2 ⟨rfl, HQ2, g0, g1, g2, g3, g4, g5⟩))
              all_goals
                go_wp2
                go_roundg (en - (t' + 1))
                case measure => have := hg.out; omega
                case rel => exact ⟨t' + 1, by go_num, by omega, Lib.hid (by have := hg.out; omega), HFB _ (by assumption)⟩
            · have hti : ¬ (t' : Int) < (en : Int) := by omega
              have v0 := cell_of 0 HJ.out.2
              have v1 := cell_of 1 HJ.out.2
              have v2 := cell_of 2 HJ.out.2
              have v3 := cell_of 3 HJ.out.2
              have v4 := cell_of 4 HJ.out.2
              have v5 := cell_of 5 HJ.out.2
              have v6 := cell_of 6 HJ.out.2
              have v7 := cell_of 7 HJ.out.2
              have C1 := Lib.hid (CA1.out wr HJ.out.1.1)
              clear CA1
              go_wp2_with fail
              refine C1.out.mono ?_
              rintro e' w5 ⟨rfl, hb⟩
              have HB5 := Lib.hid (HJ.out.1.1.trans (hb.mono HJ.out.1.1.size))
              clear hb C1
              go_wp2_with fail
              refine (LV.out _).mono ?_
              rintro e' u9 ⟨rfl, hb⟩
              have HB9 := Lib.hid (HB5.out.trans (hb.mono HB5.out.size))
              clear hb
              go_wp2
              go_ret
              exact ⟨rfl, HB9.out⟩
end Go.Proofs.YtocbofeanfdggaaDoor
