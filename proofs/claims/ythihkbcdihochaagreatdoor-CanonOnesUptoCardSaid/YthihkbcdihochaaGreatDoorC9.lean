/- Texts of ours, joined: CnV, CnY. -/
import Derived.Test.YthihkbcdihochaaGreatDoorRows
import Derived.WalkKit
import Derived.ProofKit
import Derived.OpenShut
import Derived.ShutString
import Derived.ChangeOld
import Derived.Below
import Derived.BigQuiet
import Derived.Deep.QuietTactic
import Derived.Lib.Hide
import Derived.Deep.RegionHeld3
import Derived.Lib.SlBytesConst
import Derived.Laws.CopyOwn
import Derived.Laws.CopyRow
import Derived.Lib.Bytes
import Derived.Deep.LoopGhost
import Derived.Deep.DeepFit
import Derived.Deep.DeepMust
import Derived.WalkSpells
import Derived.WalkLawsBesides
import Derived.Maps.OwnOps
import Derived.Maps.OwnSet
import Derived.Maps.Views
import Derived.Laws.EntriesVeiled
import Derived.Laws.Rows
import Derived.Maps.AppendAt
import Derived.Lib.SmallJoins
import Derived.Deep.AppendLies
import Derived.DeepKeys4
import Derived.MapViews
import Derived.Maps.Keyed
import Derived.Carry
import Derived.Lib.ItoaNum
import Derived.Lib.AppendIntMem
import Derived.Deep.RegionWith
import Derived.Test.YthihkbcdihochaaGreatDoorC1
import Derived.Test.YthihkbcdihochaaGreatDoorC2
import Derived.Test.YthihkbcdihochaaGreatDoorC5
import Derived.Test.YthihkbcdihochaaGreatDoorC6
import Derived.Test.YthihkbcdihochaaGreatDoorC7
import Derived.Test.YthihkbcdihochaaGreatDoorC8
/- The documents One of a start. -/
namespace Go.Proofs.YthihkbcdihochaaGreatDoor
open Go.ChangeShapes Go.WideShapes Go.ChangeAt Go.RowKit
set_option linter.unusedVariables false
/-- While the document writes a start: the event's block, the namespaces. -/
def VK (cs : Array Value) (OA : Option Addr) (m oc : Nat) (sps : List (List UInt8)) (w W : World) : Prop := CJ 41 w W cs ∧ RRd cSn 1 W W.heap.size OA m oc sps
theorem VK.kept {cs : Array Value} {OA : Option Addr} {m oc : Nat} {sps : List (List UInt8)} {w W W' : World} (h : VK cs OA m oc sps w W) (hb : Below W.heap.size W W') : VK cs OA m oc sps w W' := ⟨h.1.kept hb, h.2.up hb⟩
theorem VK.drewN {cs : Array Value} {OA : Option Addr} {m oc : Nat} {sps : List (List UInt8)} {w W : World} (h : VK cs OA m oc sps w W) (k : Nat) : VK cs OA m oc sps w (W.drewN k) := ⟨⟨⟨h.1.1.os, h.1.1.tape, h.1.1.output, h.1.1.size, h.1.1.block⟩, h.1.2⟩, h.2.drewN⟩
set_option maxRecDepth 100000 in
set_option maxHeartbeats 16000000 in
theorem rfOne_start (sp lo tx space : List UInt8) (A : Option Addr) (n cap : Nat) (ats : List (List UInt8 × List UInt8 × List UInt8)) (w : World) (h : RRd cA 3 w w.heap.size A n cap ats) (hle : EvLe 5000 ⟨⟨1, sp, lo, ats, tx⟩, A, n, cap⟩) (hspc : space.length ≤ 5000) :
    Calls Tryz.prog 18 #[.agg #[.int .i64 1, .string ⟨sp.toArray⟩, .string ⟨lo.toArray⟩, .slice A n cap, .string ⟨tx.toArray⟩], .string ⟨space.toArray⟩] w fun e w' => e = .returned (.tuple #[.string ⟨(cnStart sp lo ats space).toArray⟩, .string ⟨(spOf sp space).toArray⟩]) ∧ Below w.heap.size w w' := by
  have h1 : sp.length ≤ 5000 := hle.sp
  have h2 : lo.length ≤ 5000 := hle.lo
  have hn : n ≤ 5000 := hle.n
  have HP : Hid (∀ W, Below w.heap.size w W → RRd cA 3 W W.heap.size A n cap ats) := Lib.hid fun W hb => (h.below hb).more hb.size
  have HLN : Hid (ats.length = n) := Lib.hid h.len
  have HAL : Hid (∀ a ∈ ats, a.1.length ≤ 5000 ∧ a.2.1.length ≤ 5000 ∧ a.2.2.length ≤ 5000) := Lib.hid hle.ats
  have NM : Hid (∀ W, Below w.heap.size w W → Calls Tryz.prog 55 #[.slice A n cap] W fun e w' => ∃ OA oc, e = .returned (.slice OA (spcs [] ats).length oc) ∧ OwnX w' W.heap.size (.slice OA (spcs [] ats).length oc) (spcs [] ats) ∧ Below W.heap.size W w') := Lib.hid fun W hb => rfSpaces_c A n cap ats W (HP.out W hb) hn (fun a ha => (HAL.out a ha).1)
  have hsm : (spcs [] ats).length ≤ 5000 := by have h5 := spcs_len [] ats; have := HLN.out; simp only [List.length_nil] at h5; omega
  have HSM : Hid (∀ s ∈ spcs [] ats, s.length ≤ 5000) := Lib.hid fun s hs => by
    rcases spcs_mem hs with h | ⟨a, ha, rfl⟩
    · cases h
    · exact (HAL.out a ha).1
  have HHS : Hid (∀ a ∈ ats, a.1 = [] ∨ a.1 = xmlSp ∨ a.1 ∈ spcs [] ats) := Lib.hid fun a ha => by
    by_cases e1 : a.1 = []
    · exact .inl e1
    · by_cases e2 : a.1 = xmlSp
      · exact .inr (.inl e2)
      · exact .inr (.inr (spcs_has.2 a ha (by unfold ownSp; simp [e1, e2])))
  have EL := Lib.hid (fun W => refElem41_c sp lo W (by omega))
  have LW : Hid (∀ (s : List UInt8) W, s.length ≤ 5000 → Calls Tryz.prog 54 #[.string ⟨s.toArray⟩] W fun e w' => e = .returned (.string ⟨(valL s).toArray⟩) ∧ w' = W) := Lib.hid fun s W a => (refValue41_c s W (by omega)).mono fun e w' h => ⟨h.1, h.2.symm⟩
  have DG : Hid (∀ (t : Nat) W, t ≤ 5000 → Calls Tryz.prog 56 #[.int .i64 (t : Int)] W fun e w' => e = .returned (.string ⟨(Lib.decDigits t).toArray⟩) ∧ w' = W) := Lib.hid fun t W a => (refDigitsAll_c t (by omega) W).mono fun e w' h => ⟨h.1, h.2.symm⟩
  have I0 := Lib.hid (CJ.start 41 w #[.int .i64 1, .string ⟨sp.toArray⟩, .string ⟨lo.toArray⟩, .slice A n cap, .string ⟨tx.toArray⟩])
  have hel : (elemL sp lo).length ≤ 5004 := by
    unfold elemL
    split
    · simp
      omega
    · omega
  have hvl : (valL sp).length ≤ 30002 := by have := esc_le sp; unfold valL; simp; omega
  have HR : Hid (cnStart sp lo ats space = ([60] ++ elemL sp lo) ++ (if (decide (sp = xmlSp) || decide (sp = space)) = true then [] else [32, 120, 109, 108, 110, 115, 61] ++ valL sp) ++ nsT (spcs [] ats) (spcs [] ats).length ++ (ats.take n).flatMap (cnAt (spcs [] ats)) ++ [62]) := Lib.hid (by unfold cnStart; rw [List.take_of_length_le (by rw [h.len]; exact Nat.le_refl _)])
  have HSO : Hid (spOf sp space = if (decide (sp = xmlSp) || decide (sp = space)) = true then space else sp) := Lib.hid rfl
  obtain ⟨R, hR⟩ : ∃ q, cnStart sp lo ats space = q := ⟨_, rfl⟩
  obtain ⟨SO, hSO⟩ : ∃ q, spOf sp space = q := ⟨_, rfl⟩
  rw [hR] at HR ⊢
  rw [hSO] at HSO ⊢
  obtain ⟨e1, he1⟩ : ∃ q, elemL sp lo = q := ⟨_, rfl⟩
  rw [he1] at EL HR hel
  have LX := Lib.hid (fun W => LW.out sp W h1)
  obtain ⟨V0, hV0⟩ : ∃ q, valL sp = q := ⟨_, rfl⟩
  rw [hV0] at LX HR hvl
  have p1 : ∀ w : World, (Op.stringOp .add ⟨#[60]⟩ ⟨e1.toArray⟩).run Tryz.prog w = .ok (.string ⟨([60] ++ e1).toArray⟩) w := fun w => run_sop (w := w) [60] e1 (by simp; omega)
  obtain ⟨P1, hP1⟩ : ∃ q, [60] ++ e1 = q := ⟨_, rfl⟩
  rw [hP1] at p1 HR
  have hP1l : P1.length ≤ 6000 := by rw [← hP1]; simp; omega
  have p2 : ∀ w : World, (Op.stringOp .add ⟨P1.toArray⟩ ⟨#[32, 120, 109, 108, 110, 115, 61]⟩).run Tryz.prog w = .ok (.string ⟨(P1 ++ [32, 120, 109, 108, 110, 115, 61]).toArray⟩) w := fun w => run_sop (w := w) P1 [32, 120, 109, 108, 110, 115, 61] (by simp; omega)
  have p3 : ∀ w : World, (Op.stringOp .add ⟨(P1 ++ [32, 120, 109, 108, 110, 115, 61]).toArray⟩ ⟨V0.toArray⟩).run Tryz.prog w = .ok (.string ⟨(P1 ++ [32, 120, 109, 108, 110, 115, 61] ++ V0).toArray⟩) w := fun w => run_sop (w := w) (P1 ++ [32, 120, 109, 108, 110, 115, 61]) V0 (by simp; omega)
  obtain ⟨P3, hP3⟩ : ∃ q, P1 ++ [32, 120, 109, 108, 110, 115, 61] ++ V0 = q := ⟨_, rfl⟩
  obtain ⟨P2, hP2⟩ : ∃ q, P1 ++ [32, 120, 109, 108, 110, 115, 61] = q := ⟨_, rfl⟩
  have HP3 : Hid (P1 ++ ([32, 120, 109, 108, 110, 115, 61] ++ V0) = P3) := Lib.hid (by rw [← hP3, List.append_assoc])
  have hP3l : P3.length ≤ 100000 := by rw [← hP3]; simp; omega
  rw [hP3] at p3
  rw [hP2] at p2 p3
  have HPL := Lib.hid (And.intro hP1l hP3l)
  have hx := xml_eq sp
  have hy := eqv sp space
  obtain ⟨bx, hbx⟩ : ∃ q, decide (sp = xmlSp) = q := ⟨_, rfl⟩
  obtain ⟨by_, hby⟩ : ∃ q, decide (sp = space) = q := ⟨_, rfl⟩
  rw [hbx] at hx HR HSO
  rw [hby] at hy HR HSO
  unfold xmlSp at hx
  have z0 := cell_of 0 I0.out.2
  have z1 := cell_of 1 I0.out.2
  have z2 := cell_of 2 I0.out.2
  clear h hle hR hSO he1 hV0 hP1 hP2 hP3 h1 h2 hP1l hP3l hel hvl hbx hby hspc z0 z1 z2
  have z0 := cell_of 0 I0.out.2
  have z1 := cell_of 1 I0.out.2
  have z2 := cell_of 2 I0.out.2
  go_enter Tryz.func18, Tryz.ntmps18
  go_wp2_with fail
  refine (EL.out _).mono ?_
  rintro e w1 ⟨rfl, hb⟩
  have I1 := Lib.hid (I0.out.kept hb)
  clear hb I0 EL z0 z1 z2
  have z1 := cell_of 1 I1.out.2
  have z3 := cell_of 3 I1.out.2
  cases bx with
  | true =>
    have HR3 : Hid (R = P1 ++ nsT (spcs [] ats) (spcs [] ats).length ++ (ats.take n).flatMap (cnAt (spcs [] ats)) ++ [62]) := Lib.hid (by rw [HR.out]; simp)
    have HSP : space = SO := by rw [HSO.out]; simp
    subst HSP
    clear HR HSO HP3 p2 p3
    have HR := Lib.hid HR3.out
    clear HR3
    go_wp2_with fail
    refine (NM.out _ I1.out.1).mono ?_
    rintro e w4 ⟨OA, oc, rfl, hO, hb⟩
    obtain ⟨A2, c2, hv, hr⟩ := RRd.ofOwn (c := cSn) (fun _ => rfl) (by decide) hO
    injection hv with hv1 hv2 hv3
    subst hv1
    subst hv3
    have K4 : Hid (VK #[.int .i64 1, .string ⟨sp.toArray⟩, .string ⟨lo.toArray⟩, .slice A n cap, .string ⟨tx.toArray⟩] OA (spcs [] ats).length oc (spcs [] ats) w w4) := Lib.hid ⟨I1.out.kept hb, hr⟩
    have HST : Hid (P1 = P1 ++ nsT (spcs [] ats) 0) := Lib.hid (by simp [nsT])
    obtain ⟨sps, hsps⟩ : ∃ q, spcs [] ats = q := ⟨_, rfl⟩
    rw [hsps] at K4 HHS HSM hsm HR HST ⊢
    obtain ⟨m, hm⟩ : ∃ q, sps.length = q := ⟨_, rfl⟩
    rw [hm] at K4 hsm HR ⊢
    have HM := Lib.hid hm
    have hm0 : (0 : Int) ≤ (m : Int) := by omega
    have hm9 : (m : Int) ≤ 5000 := by omega
    clear hO hb hsps hm I1 NM hr hv2 z1 z3 LX
    go_wp2_with fail
    go_loopg [6, 8] (m) (fun g sv i wr => ∃ t : Nat, i = .int .i64 (t : Int) ∧ sv = .string ⟨(P1 ++ nsT sps t).toArray⟩ ∧ t ≤ m ∧ Hid (g + t = m) ∧ Hid (VK #[.int .i64 1, .string ⟨sp.toArray⟩, .string ⟨lo.toArray⟩, .slice A n cap, .string ⟨tx.toArray⟩] OA m oc sps w wr))
    case atStart => exact ⟨0, rfl, by rw [← HST.out], Nat.zero_le _, Lib.hid rfl, K4⟩
    case round =>
      obtain ⟨t, rfl, rfl, ht, hg, HK⟩ := hrel
      have ht0 : (0 : Int) ≤ (t : Int) := by omega
      have ht9 : (t : Int) ≤ 5000 := by omega
      have hnl := nsT_le (b := 5000) sps HSM.out (by rw [HM.out]; exact hsm) t (by rw [HM.out]; exact ht)
      have hnl2 : (nsT sps t).length ≤ 500000000 := by
        have : t * (6 * 5000 + 100) ≤ 5000 * (6 * 5000 + 100) := Nat.mul_le_mul_right _ (by omega)
        omega
      by_cases htn : t < m
      · have hti : (t : Int) < (m : Int) := by omega
        obtain ⟨b2, o2, s, rfl, hb2, hs, hc2⟩ := HK.out.2.cell htn
        have y0 : wr.cell? ⟨b2, o2 + t, none⟩ = some (.string ⟨s.toArray⟩) := by rw [show o2 + t = o2 + (t * 1 + 0) by omega]; exact hc2 0 _ rfl
        have hsl := HSM.out s (List.mem_of_getElem? hs)
        have HN1 : Hid (P1 ++ nsT sps (t + 1) = P1 ++ nsT sps t ++ [32, 120, 109, 108, 110, 115, 58, 110] ++ Lib.decDigits t ++ [61] ++ valL s) := Lib.hid (by rw [nsT, List.getD_eq_getElem?_getD, hs, Option.getD_some]; unfold nsOne; simp only [List.append_assoc])
        have IT := Lib.hid (fun W => DG.out t W (by omega))
        have LT := Lib.hid (fun W => LW.out s W hsl)
        have hE := decD_le t (by omega)
        have hV : (valL s).length ≤ 30002 := by have := esc_le s; unfold valL; simp; omega
        obtain ⟨E, heE⟩ : ∃ q, Lib.decDigits t = q := ⟨_, rfl⟩
        obtain ⟨V, hVe⟩ : ∃ q, valL s = q := ⟨_, rfl⟩
        rw [heE] at IT hE HN1
        rw [hVe] at LT hV HN1
        obtain ⟨D, hD⟩ : ∃ q, P1 ++ nsT sps t = q := ⟨_, rfl⟩
        have hDl : D.length ≤ 600000000 := by rw [← hD, List.length_append]; have := HPL.out; omega
        rw [hD] at HN1 ⊢
        have q1 : ∀ w : World, (Op.stringOp .add ⟨D.toArray⟩ ⟨#[32, 120, 109, 108, 110, 115, 58, 110]⟩).run Tryz.prog w = .ok (.string ⟨(D ++ [32, 120, 109, 108, 110, 115, 58, 110]).toArray⟩) w := fun w => run_sop (w := w) D [32, 120, 109, 108, 110, 115, 58, 110] (by simp; omega)
        have q2 : ∀ w : World, (Op.stringOp .add ⟨(D ++ [32, 120, 109, 108, 110, 115, 58, 110]).toArray⟩ ⟨E.toArray⟩).run Tryz.prog w = .ok (.string ⟨(D ++ [32, 120, 109, 108, 110, 115, 58, 110] ++ E).toArray⟩) w := fun w => run_sop (w := w) (D ++ [32, 120, 109, 108, 110, 115, 58, 110]) E (by simp; omega)
        have q3 : ∀ w : World, (Op.stringOp .add ⟨(D ++ [32, 120, 109, 108, 110, 115, 58, 110] ++ E).toArray⟩ ⟨#[61]⟩).run Tryz.prog w = .ok (.string ⟨(D ++ [32, 120, 109, 108, 110, 115, 58, 110] ++ E ++ [61]).toArray⟩) w := fun w => run_sop (w := w) (D ++ [32, 120, 109, 108, 110, 115, 58, 110] ++ E) [61] (by simp; omega)
        have q4 : ∀ w : World, (Op.stringOp .add ⟨(D ++ [32, 120, 109, 108, 110, 115, 58, 110] ++ E ++ [61]).toArray⟩ ⟨V.toArray⟩).run Tryz.prog w = .ok (.string ⟨(D ++ [32, 120, 109, 108, 110, 115, 58, 110] ++ E ++ [61] ++ V).toArray⟩) w := fun w => run_sop (w := w) (D ++ [32, 120, 109, 108, 110, 115, 58, 110] ++ E ++ [61]) V (by simp; omega)
        obtain ⟨Y4, hY4⟩ : ∃ q, D ++ [32, 120, 109, 108, 110, 115, 58, 110] ++ E ++ [61] ++ V = q := ⟨_, rfl⟩
        obtain ⟨Y3, hY3⟩ : ∃ q, D ++ [32, 120, 109, 108, 110, 115, 58, 110] ++ E ++ [61] = q := ⟨_, rfl⟩
        obtain ⟨Y2, hY2⟩ : ∃ q, D ++ [32, 120, 109, 108, 110, 115, 58, 110] ++ E = q := ⟨_, rfl⟩
        obtain ⟨Y1, hY1⟩ : ∃ q, D ++ [32, 120, 109, 108, 110, 115, 58, 110] = q := ⟨_, rfl⟩
        rw [hY4] at q4 HN1
        rw [hY3] at q3 q4
        rw [hY2] at q2 q3
        rw [hY1] at q1 q2
        clear hb2 hs hc2 hsl hnl hnl2 hE hV heE hVe hY4 hY3 hY2 hY1 hD hDl
        go_wp2_with fail
        go_quiet (first | (go_at_call 56; exact Calls.quiet_of_same (IT.out _)) | (go_at_call 54; exact Calls.quiet_of_same (LT.out _)))
        have K5 := Lib.hid (HK.out.drewN nq)
        clear HK y0
        generalize wr.drewN nq = wq at *
        go_wp2
        go_roundg (m - (t + 1))
        case measure => have := hg.out; omega
        case rel => exact ⟨t + 1, by go_num, by rw [HN1.out], by omega, Lib.hid (by have := hg.out; omega), K5⟩
      · have hti : ¬ (t : Int) < (m : Int) := by omega
        obtain rfl : t = m := by omega
        obtain ⟨D1, hD1⟩ : ∃ q, P1 ++ nsT sps t = q := ⟨_, rfl⟩
        have HD1 : Hid (D1.length ≤ 600000000) := Lib.hid (by rw [← hD1, List.length_append]; have := HPL.out; omega)
        rw [hD1] at HR ⊢
        have HST2 : Hid (D1 = D1 ++ (ats.take 0).flatMap (cnAt sps)) := Lib.hid (by simp)
        have z3 : wr.cell? ⟨w.heap.size, 3, none⟩ = some (.slice A n cap) := by rw [cell_of 3 HK.out.1.2]; rfl
        clear hnl hnl2 hD1 HPL HSM ht0 ht9 HST
        go_wp2_with fail
        go_loopg [6, 9] (n) (fun g sv i wr => ∃ t2 : Nat, i = .int .i64 (t2 : Int) ∧ sv = .string ⟨(D1 ++ (ats.take t2).flatMap (cnAt sps)).toArray⟩ ∧ t2 ≤ n ∧ Hid (g + t2 = n) ∧ Hid (VK #[.int .i64 1, .string ⟨sp.toArray⟩, .string ⟨lo.toArray⟩, .slice A n cap, .string ⟨tx.toArray⟩] OA t oc sps w wr))
        case atStart => exact ⟨0, rfl, by rw [← HST2.out], Nat.zero_le _, Lib.hid rfl, HK⟩
        case round =>
          clear z3 HK
          obtain ⟨t2, rfl, rfl, ht2, hg2, HK⟩ := hrel
          have ht0 : (0 : Int) ≤ (t2 : Int) := by omega
          have ht9 : (t2 : Int) ≤ 5000 := by omega
          have z3 : wr.cell? ⟨w.heap.size, 3, none⟩ = some (.slice A n cap) := by rw [cell_of 3 HK.out.1.2]; rfl
          have hlen := cnAts_le (b := 5000) sps (by rw [HM.out]; exact hsm) (ats.take t2) fun a ha => (HAL.out a (List.mem_of_mem_take ha)).2
          have hlt : (ats.take t2).length ≤ 5000 := by have := HLN.out; rw [List.length_take]; omega
          have hll : ((ats.take t2).flatMap (cnAt sps)).length ≤ 500000000 := by
            have : (ats.take t2).length * (7 * 5000 + 100) ≤ 5000 * (7 * 5000 + 100) := Nat.mul_le_mul_right _ hlt
            omega
          by_cases htn2 : t2 < n
          · have hti2 : (t2 : Int) < (n : Int) := by omega
            obtain ⟨b1, o1, x, hAe, hb1, hx, hc1⟩ := (HP.out _ HK.out.1.1).cell htn2
            obtain ⟨hx1, hx2, hx3⟩ := HAL.out x (List.mem_of_getElem? hx)
            have hmem := HHS.out x (List.mem_of_getElem? hx)
            have HSS := Lib.hid (cnAts_snoc (l := sps) hx)
            obtain ⟨xs, xl, xv⟩ := x
            simp only at hx1 hx2 hx3 hmem
            have y0 : wr.cell? ⟨b1, o1 + t2 * 3, none⟩ = some (.string ⟨xs.toArray⟩) := by rw [show o1 + t2 * 3 = o1 + (t2 * 3 + 0) by omega]; exact hc1 0 _ rfl
            have y1 : wr.cell? ⟨b1, o1 + t2 * 3 + 1, none⟩ = some (.string ⟨xl.toArray⟩) := by rw [show o1 + t2 * 3 + 1 = o1 + (t2 * 3 + 1) by omega]; exact hc1 1 _ rfl
            have y2 : wr.cell? ⟨b1, o1 + t2 * 3 + 2, none⟩ = some (.string ⟨xv.toArray⟩) := by rw [show o1 + t2 * 3 + 2 = o1 + (t2 * 3 + 2) by omega]; exact hc1 2 _ rfl
            subst hAe
            have K2 := Lib.hid (HK.out.kept ((Below.refl _ wr).alloc (Nat.le_refl _) (.cells #[.string ⟨xs.toArray⟩, .string ⟨xl.toArray⟩] 38)))
            have c0 := cell_of 0 (hp_new wr (.cells #[.string ⟨xs.toArray⟩, .string ⟨xl.toArray⟩] 38))
            have c1 := cell_of 1 (hp_new wr (.cells #[.string ⟨xs.toArray⟩, .string ⟨xl.toArray⟩] 38))
            have f3 : (wr.alloc (.cells #[.string ⟨xs.toArray⟩, .string ⟨xl.toArray⟩] 38)).cell? ⟨w.heap.size, 3, none⟩ = some (.slice (some ⟨b1, o1, none⟩) n cap) := by rw [cell_of 3 K2.out.1.2]; rfl
            have v2 : (wr.alloc (.cells #[.string ⟨xs.toArray⟩, .string ⟨xl.toArray⟩] 38)).cell? ⟨b1, o1 + t2 * 3 + 2, none⟩ = some (.string ⟨xv.toArray⟩) := (((Below.refl _ wr).alloc (Nat.le_refl _) (.cells #[.string ⟨xs.toArray⟩, .string ⟨xl.toArray⟩] 38)).cell (p := ⟨b1, o1 + t2 * 3 + 2, none⟩) hb1).trans y2
            have VX := Lib.hid (fun w1 => LW.out xv w1 hx3)
            have hV : (valL xv).length ≤ 30002 := by have := esc_le xv; unfold valL; simp; omega
            obtain ⟨D, hD⟩ : ∃ q, D1 ++ (ats.take t2).flatMap (cnAt sps) = q := ⟨_, rfl⟩
            have hDl : D.length ≤ 2000000000 := by rw [← hD, List.length_append]; have := HD1.out; omega
            have HSD : Hid (D1 ++ (ats.take (t2 + 1)).flatMap (cnAt sps) = D ++ [32] ++ prefL sps xs ++ xl ++ [61] ++ valL xv) := Lib.hid (by rw [HSS.out, ← List.append_assoc, hD]; unfold cnAt; simp only [List.append_assoc])
            rw [hD]
            obtain ⟨V, hVe⟩ : ∃ q, valL xv = q := ⟨_, rfl⟩
            rw [hVe] at VX hV HSD
            have q0 : ∀ w : World, (Op.stringOp .add ⟨D.toArray⟩ ⟨#[32]⟩).run Tryz.prog w = .ok (.string ⟨(D ++ [32]).toArray⟩) w := fun w => run_sop (w := w) D [32] (by simp; omega)
            obtain ⟨S0, hS0⟩ : ∃ q, D ++ [32] = q := ⟨_, rfl⟩
            have hSl : S0.length ≤ 2000000001 := by rw [← hS0]; simp; omega
            rw [hS0] at q0 HSD
            have he := xml_eq xs
            obtain ⟨bx, hbx⟩ : ∃ q, decide (xs = xmlSp) = q := ⟨_, rfl⟩
            rw [hbx] at he
            unfold xmlSp at he
            clear hlen hlt hll hb1 hx hc1 HSS hD hVe hS0 hDl hx3
            cases bx with
            | true =>
              have HPF : Hid (prefL sps xs = [120, 109, 108, 58]) := Lib.hid (by
                have := of_decide_eq_true hbx
                subst this
                unfold prefL
                rw [if_neg (by unfold xmlSp; simp), if_pos rfl])
              have q1 : ∀ w : World, (Op.stringOp .add ⟨S0.toArray⟩ ⟨#[120, 109, 108, 58]⟩).run Tryz.prog w = .ok (.string ⟨(S0 ++ [120, 109, 108, 58]).toArray⟩) w := fun w => run_sop (w := w) S0 [120, 109, 108, 58] (by simp; omega)
              have hS1l : (S0 ++ [120, 109, 108, 58]).length ≤ 2000000100 := by simp; omega
              rw [HPF.out] at HSD
              clear hbx hmem
              obtain ⟨S1, hS1⟩ : ∃ q, S0 ++ [120, 109, 108, 58] = q := ⟨_, rfl⟩
              rw [hS1] at q1 hS1l HSD
              clear hS1
              have r1 : ∀ w : World, (Op.stringOp .add ⟨S1.toArray⟩ ⟨xl.toArray⟩).run Tryz.prog w = .ok (.string ⟨(S1 ++ xl).toArray⟩) w := fun w => run_sop (w := w) S1 xl (by omega)
              have r2 : ∀ w : World, (Op.stringOp .add ⟨(S1 ++ xl).toArray⟩ ⟨#[61]⟩).run Tryz.prog w = .ok (.string ⟨(S1 ++ xl ++ [61]).toArray⟩) w := fun w => run_sop (w := w) (S1 ++ xl) [61] (by simp; omega)
              have r3 : ∀ w : World, (Op.stringOp .add ⟨(S1 ++ xl ++ [61]).toArray⟩ ⟨V.toArray⟩).run Tryz.prog w = .ok (.string ⟨(S1 ++ xl ++ [61] ++ V).toArray⟩) w := fun w => run_sop (w := w) (S1 ++ xl ++ [61]) V (by simp; omega)
              obtain ⟨Z3, hZ3⟩ : ∃ q, S1 ++ xl ++ [61] ++ V = q := ⟨_, rfl⟩
              obtain ⟨Z2, hZ2⟩ : ∃ q, S1 ++ xl ++ [61] = q := ⟨_, rfl⟩
              obtain ⟨Z1, hZ1⟩ : ∃ q, S1 ++ xl = q := ⟨_, rfl⟩
              rw [hZ3] at r3 HSD
              rw [hZ2] at r2 r3
              rw [hZ1] at r1 r2
              clear hZ3 hZ2 hZ1 hS1l hSl hV hx1 hx2 HK
              go_wp2_with fail
              go_quiet ((go_at_call 54; exact Calls.quiet_of_same (VX.out _)))
              have K5 := Lib.hid (K2.out.drewN nq)
              clear K2 c0 c1 f3 v2 y0 y1 y2 z3
              generalize (World.alloc wr _).drewN nq = wq at *
              go_wp2
              go_roundg (n - (t2 + 1))
              case measure => have := hg2.out; omega
              case rel => exact ⟨t2 + 1, by go_num, by rw [HSD.out], by omega, Lib.hid (by have := hg2.out; omega), K5⟩
            | false =>
              have hnx := of_decide_eq_false hbx
              clear hbx
              have hxs : xs = [] ∨ ∃ a tl, xs = a :: tl := by cases xs <;> simp
              rcases hxs with rfl | ⟨a0, tl0, rfl⟩
              · have HPF : Hid (prefL sps [] = []) := Lib.hid (by unfold prefL; rw [if_pos rfl])
                rw [HPF.out, List.append_nil] at HSD
                obtain ⟨S1, hS1⟩ : ∃ q, S0 = q := ⟨_, rfl⟩
                have hS1l : S0.length ≤ 2000000100 := by omega
                rw [hS1] at q0 hSl HSD hS1l
                clear hS1 hmem hnx
                have r1 : ∀ w : World, (Op.stringOp .add ⟨S1.toArray⟩ ⟨xl.toArray⟩).run Tryz.prog w = .ok (.string ⟨(S1 ++ xl).toArray⟩) w := fun w => run_sop (w := w) S1 xl (by omega)
                have r2 : ∀ w : World, (Op.stringOp .add ⟨(S1 ++ xl).toArray⟩ ⟨#[61]⟩).run Tryz.prog w = .ok (.string ⟨(S1 ++ xl ++ [61]).toArray⟩) w := fun w => run_sop (w := w) (S1 ++ xl) [61] (by simp; omega)
                have r3 : ∀ w : World, (Op.stringOp .add ⟨(S1 ++ xl ++ [61]).toArray⟩ ⟨V.toArray⟩).run Tryz.prog w = .ok (.string ⟨(S1 ++ xl ++ [61] ++ V).toArray⟩) w := fun w => run_sop (w := w) (S1 ++ xl ++ [61]) V (by simp; omega)
                obtain ⟨Z3, hZ3⟩ : ∃ q, S1 ++ xl ++ [61] ++ V = q := ⟨_, rfl⟩
                obtain ⟨Z2, hZ2⟩ : ∃ q, S1 ++ xl ++ [61] = q := ⟨_, rfl⟩
                obtain ⟨Z1, hZ1⟩ : ∃ q, S1 ++ xl = q := ⟨_, rfl⟩
                rw [hZ3] at r3 HSD
                rw [hZ2] at r2 r3
                rw [hZ1] at r1 r2
                clear hZ3 hZ2 hZ1 hS1l hSl hV hx1 hx2 HK
                go_wp2_with fail
                go_quiet ((go_at_call 54; exact Calls.quiet_of_same (VX.out _)))
                have K5 := Lib.hid (K2.out.drewN nq)
                clear K2 c0 c1 f3 v2 y0 y1 y2 z3
                generalize (World.alloc wr _).drewN nq = wq at *
                go_wp2
                go_roundg (n - (t2 + 1))
                case measure => have := hg2.out; omega
                case rel => exact ⟨t2 + 1, by go_num, by rw [HSD.out], by omega, Lib.hid (by have := hg2.out; omega), K5⟩
              · have hm2 : (a0 :: tl0) ∈ sps := by
                  rcases hmem with h | h | h
                  · cases h
                  · exact absurd h hnx
                  · exact h
                have HPF : Hid (prefL sps (a0 :: tl0) = [110] ++ Lib.decDigits (sps.idxOf (a0 :: tl0)) ++ [58]) := Lib.hid (by unfold prefL; rw [if_neg (by simp), if_neg hnx])
                have hix : sps.idxOf (a0 :: tl0) < sps.length := List.idxOf_lt_length_iff.2 hm2
                have FD := Lib.hid (rfFind_c OA t oc sps (a0 :: tl0) _ K2.out.2 (by omega))
                have hfn : fndL sps (a0 :: tl0) = ((sps.idxOf (a0 :: tl0) : Nat) : Int) := by unfold fndL; rw [if_pos hm2]
                rw [hfn] at FD
                rw [HPF.out] at HSD
                rw [HM.out] at hix
                obtain ⟨ix, hixe⟩ : ∃ q, sps.idxOf (a0 :: tl0) = q := ⟨_, rfl⟩
                rw [hixe] at FD HSD hix
                have DX := Lib.hid (fun W => DG.out ix W (by omega))
                have hE := decD_le ix (by omega)
                obtain ⟨E, hEe⟩ : ∃ q, Lib.decDigits ix = q := ⟨_, rfl⟩
                rw [hEe] at DX HSD hE
                have HSD2 : Hid (D1 ++ (ats.take (t2 + 1)).flatMap (cnAt sps) = S0 ++ [110] ++ E ++ [58] ++ xl ++ [61] ++ V) := Lib.hid (by rw [HSD.out]; simp only [List.append_assoc])
                have u1 : ∀ w : World, (Op.stringOp .add ⟨S0.toArray⟩ ⟨#[110]⟩).run Tryz.prog w = .ok (.string ⟨(S0 ++ [110]).toArray⟩) w := fun w => run_sop (w := w) S0 [110] (by simp; omega)
                have u2 : ∀ w : World, (Op.stringOp .add ⟨(S0 ++ [110]).toArray⟩ ⟨E.toArray⟩).run Tryz.prog w = .ok (.string ⟨(S0 ++ [110] ++ E).toArray⟩) w := fun w => run_sop (w := w) (S0 ++ [110]) E (by simp; omega)
                have u3 : ∀ w : World, (Op.stringOp .add ⟨(S0 ++ [110] ++ E).toArray⟩ ⟨#[58]⟩).run Tryz.prog w = .ok (.string ⟨(S0 ++ [110] ++ E ++ [58]).toArray⟩) w := fun w => run_sop (w := w) (S0 ++ [110] ++ E) [58] (by simp; omega)
                have hS1l : (S0 ++ [110] ++ E ++ [58]).length ≤ 2000000100 := by simp; omega
                obtain ⟨S1, hS1⟩ : ∃ q, S0 ++ [110] ++ E ++ [58] = q := ⟨_, rfl⟩
                obtain ⟨U2, hU2⟩ : ∃ q, S0 ++ [110] ++ E = q := ⟨_, rfl⟩
                obtain ⟨U1, hU1⟩ : ∃ q, S0 ++ [110] = q := ⟨_, rfl⟩
                rw [hS1] at u3 hS1l HSD2
                rw [hU2] at u2 u3
                rw [hU1] at u1 u2
                clear HSD
                have HSD := Lib.hid HSD2.out
                clear HSD2 hS1 hU2 hU1 hEe hE hixe hix hfn HPF hm2 hmem hnx
                have r1 : ∀ w : World, (Op.stringOp .add ⟨S1.toArray⟩ ⟨xl.toArray⟩).run Tryz.prog w = .ok (.string ⟨(S1 ++ xl).toArray⟩) w := fun w => run_sop (w := w) S1 xl (by omega)
                have r2 : ∀ w : World, (Op.stringOp .add ⟨(S1 ++ xl).toArray⟩ ⟨#[61]⟩).run Tryz.prog w = .ok (.string ⟨(S1 ++ xl ++ [61]).toArray⟩) w := fun w => run_sop (w := w) (S1 ++ xl) [61] (by simp; omega)
                have r3 : ∀ w : World, (Op.stringOp .add ⟨(S1 ++ xl ++ [61]).toArray⟩ ⟨V.toArray⟩).run Tryz.prog w = .ok (.string ⟨(S1 ++ xl ++ [61] ++ V).toArray⟩) w := fun w => run_sop (w := w) (S1 ++ xl ++ [61]) V (by simp; omega)
                obtain ⟨Z3, hZ3⟩ : ∃ q, S1 ++ xl ++ [61] ++ V = q := ⟨_, rfl⟩
                obtain ⟨Z2, hZ2⟩ : ∃ q, S1 ++ xl ++ [61] = q := ⟨_, rfl⟩
                obtain ⟨Z1, hZ1⟩ : ∃ q, S1 ++ xl = q := ⟨_, rfl⟩
                rw [hZ3] at r3 HSD
                rw [hZ2] at r2 r3
                rw [hZ1] at r1 r2
                clear hZ3 hZ2 hZ1 hS1l hSl hV hx1 hx2 HK
                go_wp2_with fail
                refine FD.out.mono ?_
                rintro e w5 ⟨rfl, rfl⟩
                go_wp2_with fail
                refine (DX.out _).mono ?_
                rintro e w5 ⟨rfl, rfl⟩
                go_wp2_with fail
                go_quiet ((go_at_call 54; exact Calls.quiet_of_same (VX.out _)))
                have K5 := Lib.hid (K2.out.drewN nq)
                clear K2 c0 c1 f3 v2 y0 y1 y2 z3
                generalize (World.alloc wr _).drewN nq = wq at *
                go_wp2
                go_roundg (n - (t2 + 1))
                case measure => have := hg2.out; omega
                case rel => exact ⟨t2 + 1, by go_num, by rw [HSD.out], by omega, Lib.hid (by have := hg2.out; omega), K5⟩
          · have hti2 : ¬ (t2 : Int) < (n : Int) := by omega
            obtain rfl : t2 = n := by omega
            obtain ⟨D, hD⟩ : ∃ q, D1 ++ (ats.take t2).flatMap (cnAt sps) = q := ⟨_, rfl⟩
            have hDl : D.length ≤ 2000000000 := by rw [← hD, List.length_append]; have := HD1.out; omega
            rw [hD] at HR ⊢
            have hRR : R = D ++ [62] := HR.out
            subst hRR
            have q1 : ∀ w : World, (Op.stringOp .add ⟨D.toArray⟩ ⟨#[62]⟩).run Tryz.prog w = .ok (.string ⟨(D ++ [62]).toArray⟩) w := fun w => run_sop (w := w) D [62] (by simp; omega)
            have HB := Lib.hid HK.out.1.1
            clear hlen hlt hll hD hDl HR
            go_wp2
            go_ret2
            exact ⟨rfl, HB.out⟩
  | false =>
    cases by_ with
    | true =>
      have HR3 : Hid (R = P1 ++ nsT (spcs [] ats) (spcs [] ats).length ++ (ats.take n).flatMap (cnAt (spcs [] ats)) ++ [62]) := Lib.hid (by rw [HR.out]; simp)
      have HSP : space = SO := by rw [HSO.out]; simp
      subst HSP
      clear HR HSO HP3 p2 p3
      have HR := Lib.hid HR3.out
      clear HR3
      go_wp2_with fail
      refine (NM.out _ I1.out.1).mono ?_
      rintro e w4 ⟨OA, oc, rfl, hO, hb⟩
      obtain ⟨A2, c2, hv, hr⟩ := RRd.ofOwn (c := cSn) (fun _ => rfl) (by decide) hO
      injection hv with hv1 hv2 hv3
      subst hv1
      subst hv3
      have K4 : Hid (VK #[.int .i64 1, .string ⟨sp.toArray⟩, .string ⟨lo.toArray⟩, .slice A n cap, .string ⟨tx.toArray⟩] OA (spcs [] ats).length oc (spcs [] ats) w w4) := Lib.hid ⟨I1.out.kept hb, hr⟩
      have HST : Hid (P1 = P1 ++ nsT (spcs [] ats) 0) := Lib.hid (by simp [nsT])
      obtain ⟨sps, hsps⟩ : ∃ q, spcs [] ats = q := ⟨_, rfl⟩
      rw [hsps] at K4 HHS HSM hsm HR HST ⊢
      obtain ⟨m, hm⟩ : ∃ q, sps.length = q := ⟨_, rfl⟩
      rw [hm] at K4 hsm HR ⊢
      have HM := Lib.hid hm
      have hm0 : (0 : Int) ≤ (m : Int) := by omega
      have hm9 : (m : Int) ≤ 5000 := by omega
      clear hO hb hsps hm I1 NM hr hv2 z1 z3 LX
      go_wp2_with fail
      go_loopg [6, 8] (m) (fun g sv i wr => ∃ t : Nat, i = .int .i64 (t : Int) ∧ sv = .string ⟨(P1 ++ nsT sps t).toArray⟩ ∧ t ≤ m ∧ Hid (g + t = m) ∧ Hid (VK #[.int .i64 1, .string ⟨sp.toArray⟩, .string ⟨lo.toArray⟩, .slice A n cap, .string ⟨tx.toArray⟩] OA m oc sps w wr))
      case atStart => exact ⟨0, rfl, by rw [← HST.out], Nat.zero_le _, Lib.hid rfl, K4⟩
      case round =>
        obtain ⟨t, rfl, rfl, ht, hg, HK⟩ := hrel
        have ht0 : (0 : Int) ≤ (t : Int) := by omega
        have ht9 : (t : Int) ≤ 5000 := by omega
        have hnl := nsT_le (b := 5000) sps HSM.out (by rw [HM.out]; exact hsm) t (by rw [HM.out]; exact ht)
        have hnl2 : (nsT sps t).length ≤ 500000000 := by
          have : t * (6 * 5000 + 100) ≤ 5000 * (6 * 5000 + 100) := Nat.mul_le_mul_right _ (by omega)
          omega
        by_cases htn : t < m
        · have hti : (t : Int) < (m : Int) := by omega
          obtain ⟨b2, o2, s, rfl, hb2, hs, hc2⟩ := HK.out.2.cell htn
          have y0 : wr.cell? ⟨b2, o2 + t, none⟩ = some (.string ⟨s.toArray⟩) := by rw [show o2 + t = o2 + (t * 1 + 0) by omega]; exact hc2 0 _ rfl
          have hsl := HSM.out s (List.mem_of_getElem? hs)
          have HN1 : Hid (P1 ++ nsT sps (t + 1) = P1 ++ nsT sps t ++ [32, 120, 109, 108, 110, 115, 58, 110] ++ Lib.decDigits t ++ [61] ++ valL s) := Lib.hid (by rw [nsT, List.getD_eq_getElem?_getD, hs, Option.getD_some]; unfold nsOne; simp only [List.append_assoc])
          have IT := Lib.hid (fun W => DG.out t W (by omega))
          have LT := Lib.hid (fun W => LW.out s W hsl)
          have hE := decD_le t (by omega)
          have hV : (valL s).length ≤ 30002 := by have := esc_le s; unfold valL; simp; omega
          obtain ⟨E, heE⟩ : ∃ q, Lib.decDigits t = q := ⟨_, rfl⟩
          obtain ⟨V, hVe⟩ : ∃ q, valL s = q := ⟨_, rfl⟩
          rw [heE] at IT hE HN1
          rw [hVe] at LT hV HN1
          obtain ⟨D, hD⟩ : ∃ q, P1 ++ nsT sps t = q := ⟨_, rfl⟩
          have hDl : D.length ≤ 600000000 := by rw [← hD, List.length_append]; have := HPL.out; omega
          rw [hD] at HN1 ⊢
          have q1 : ∀ w : World, (Op.stringOp .add ⟨D.toArray⟩ ⟨#[32, 120, 109, 108, 110, 115, 58, 110]⟩).run Tryz.prog w = .ok (.string ⟨(D ++ [32, 120, 109, 108, 110, 115, 58, 110]).toArray⟩) w := fun w => run_sop (w := w) D [32, 120, 109, 108, 110, 115, 58, 110] (by simp; omega)
          have q2 : ∀ w : World, (Op.stringOp .add ⟨(D ++ [32, 120, 109, 108, 110, 115, 58, 110]).toArray⟩ ⟨E.toArray⟩).run Tryz.prog w = .ok (.string ⟨(D ++ [32, 120, 109, 108, 110, 115, 58, 110] ++ E).toArray⟩) w := fun w => run_sop (w := w) (D ++ [32, 120, 109, 108, 110, 115, 58, 110]) E (by simp; omega)
          have q3 : ∀ w : World, (Op.stringOp .add ⟨(D ++ [32, 120, 109, 108, 110, 115, 58, 110] ++ E).toArray⟩ ⟨#[61]⟩).run Tryz.prog w = .ok (.string ⟨(D ++ [32, 120, 109, 108, 110, 115, 58, 110] ++ E ++ [61]).toArray⟩) w := fun w => run_sop (w := w) (D ++ [32, 120, 109, 108, 110, 115, 58, 110] ++ E) [61] (by simp; omega)
          have q4 : ∀ w : World, (Op.stringOp .add ⟨(D ++ [32, 120, 109, 108, 110, 115, 58, 110] ++ E ++ [61]).toArray⟩ ⟨V.toArray⟩).run Tryz.prog w = .ok (.string ⟨(D ++ [32, 120, 109, 108, 110, 115, 58, 110] ++ E ++ [61] ++ V).toArray⟩) w := fun w => run_sop (w := w) (D ++ [32, 120, 109, 108, 110, 115, 58, 110] ++ E ++ [61]) V (by simp; omega)
          obtain ⟨Y4, hY4⟩ : ∃ q, D ++ [32, 120, 109, 108, 110, 115, 58, 110] ++ E ++ [61] ++ V = q := ⟨_, rfl⟩
          obtain ⟨Y3, hY3⟩ : ∃ q, D ++ [32, 120, 109, 108, 110, 115, 58, 110] ++ E ++ [61] = q := ⟨_, rfl⟩
          obtain ⟨Y2, hY2⟩ : ∃ q, D ++ [32, 120, 109, 108, 110, 115, 58, 110] ++ E = q := ⟨_, rfl⟩
          obtain ⟨Y1, hY1⟩ : ∃ q, D ++ [32, 120, 109, 108, 110, 115, 58, 110] = q := ⟨_, rfl⟩
          rw [hY4] at q4 HN1
          rw [hY3] at q3 q4
          rw [hY2] at q2 q3
          rw [hY1] at q1 q2
          clear hb2 hs hc2 hsl hnl hnl2 hE hV heE hVe hY4 hY3 hY2 hY1 hD hDl
          go_wp2_with fail
          go_quiet (first | (go_at_call 56; exact Calls.quiet_of_same (IT.out _)) | (go_at_call 54; exact Calls.quiet_of_same (LT.out _)))
          have K5 := Lib.hid (HK.out.drewN nq)
          clear HK y0
          generalize wr.drewN nq = wq at *
          go_wp2
          go_roundg (m - (t + 1))
          case measure => have := hg.out; omega
          case rel => exact ⟨t + 1, by go_num, by rw [HN1.out], by omega, Lib.hid (by have := hg.out; omega), K5⟩
        · have hti : ¬ (t : Int) < (m : Int) := by omega
          obtain rfl : t = m := by omega
          obtain ⟨D1, hD1⟩ : ∃ q, P1 ++ nsT sps t = q := ⟨_, rfl⟩
          have HD1 : Hid (D1.length ≤ 600000000) := Lib.hid (by rw [← hD1, List.length_append]; have := HPL.out; omega)
          rw [hD1] at HR ⊢
          have HST2 : Hid (D1 = D1 ++ (ats.take 0).flatMap (cnAt sps)) := Lib.hid (by simp)
          have z3 : wr.cell? ⟨w.heap.size, 3, none⟩ = some (.slice A n cap) := by rw [cell_of 3 HK.out.1.2]; rfl
          clear hnl hnl2 hD1 HPL HSM ht0 ht9 HST
          go_wp2_with fail
          go_loopg [6, 9] (n) (fun g sv i wr => ∃ t2 : Nat, i = .int .i64 (t2 : Int) ∧ sv = .string ⟨(D1 ++ (ats.take t2).flatMap (cnAt sps)).toArray⟩ ∧ t2 ≤ n ∧ Hid (g + t2 = n) ∧ Hid (VK #[.int .i64 1, .string ⟨sp.toArray⟩, .string ⟨lo.toArray⟩, .slice A n cap, .string ⟨tx.toArray⟩] OA t oc sps w wr))
          case atStart => exact ⟨0, rfl, by rw [← HST2.out], Nat.zero_le _, Lib.hid rfl, HK⟩
          case round =>
            clear z3 HK
            obtain ⟨t2, rfl, rfl, ht2, hg2, HK⟩ := hrel
            have ht0 : (0 : Int) ≤ (t2 : Int) := by omega
            have ht9 : (t2 : Int) ≤ 5000 := by omega
            have z3 : wr.cell? ⟨w.heap.size, 3, none⟩ = some (.slice A n cap) := by rw [cell_of 3 HK.out.1.2]; rfl
            have hlen := cnAts_le (b := 5000) sps (by rw [HM.out]; exact hsm) (ats.take t2) fun a ha => (HAL.out a (List.mem_of_mem_take ha)).2
            have hlt : (ats.take t2).length ≤ 5000 := by have := HLN.out; rw [List.length_take]; omega
            have hll : ((ats.take t2).flatMap (cnAt sps)).length ≤ 500000000 := by
              have : (ats.take t2).length * (7 * 5000 + 100) ≤ 5000 * (7 * 5000 + 100) := Nat.mul_le_mul_right _ hlt
              omega
            by_cases htn2 : t2 < n
            · have hti2 : (t2 : Int) < (n : Int) := by omega
              obtain ⟨b1, o1, x, hAe, hb1, hx, hc1⟩ := (HP.out _ HK.out.1.1).cell htn2
              obtain ⟨hx1, hx2, hx3⟩ := HAL.out x (List.mem_of_getElem? hx)
              have hmem := HHS.out x (List.mem_of_getElem? hx)
              have HSS := Lib.hid (cnAts_snoc (l := sps) hx)
              obtain ⟨xs, xl, xv⟩ := x
              simp only at hx1 hx2 hx3 hmem
              have y0 : wr.cell? ⟨b1, o1 + t2 * 3, none⟩ = some (.string ⟨xs.toArray⟩) := by rw [show o1 + t2 * 3 = o1 + (t2 * 3 + 0) by omega]; exact hc1 0 _ rfl
              have y1 : wr.cell? ⟨b1, o1 + t2 * 3 + 1, none⟩ = some (.string ⟨xl.toArray⟩) := by rw [show o1 + t2 * 3 + 1 = o1 + (t2 * 3 + 1) by omega]; exact hc1 1 _ rfl
              have y2 : wr.cell? ⟨b1, o1 + t2 * 3 + 2, none⟩ = some (.string ⟨xv.toArray⟩) := by rw [show o1 + t2 * 3 + 2 = o1 + (t2 * 3 + 2) by omega]; exact hc1 2 _ rfl
              subst hAe
              have K2 := Lib.hid (HK.out.kept ((Below.refl _ wr).alloc (Nat.le_refl _) (.cells #[.string ⟨xs.toArray⟩, .string ⟨xl.toArray⟩] 38)))
              have c0 := cell_of 0 (hp_new wr (.cells #[.string ⟨xs.toArray⟩, .string ⟨xl.toArray⟩] 38))
              have c1 := cell_of 1 (hp_new wr (.cells #[.string ⟨xs.toArray⟩, .string ⟨xl.toArray⟩] 38))
              have f3 : (wr.alloc (.cells #[.string ⟨xs.toArray⟩, .string ⟨xl.toArray⟩] 38)).cell? ⟨w.heap.size, 3, none⟩ = some (.slice (some ⟨b1, o1, none⟩) n cap) := by rw [cell_of 3 K2.out.1.2]; rfl
              have v2 : (wr.alloc (.cells #[.string ⟨xs.toArray⟩, .string ⟨xl.toArray⟩] 38)).cell? ⟨b1, o1 + t2 * 3 + 2, none⟩ = some (.string ⟨xv.toArray⟩) := (((Below.refl _ wr).alloc (Nat.le_refl _) (.cells #[.string ⟨xs.toArray⟩, .string ⟨xl.toArray⟩] 38)).cell (p := ⟨b1, o1 + t2 * 3 + 2, none⟩) hb1).trans y2
              have VX := Lib.hid (fun w1 => LW.out xv w1 hx3)
              have hV : (valL xv).length ≤ 30002 := by have := esc_le xv; unfold valL; simp; omega
              obtain ⟨D, hD⟩ : ∃ q, D1 ++ (ats.take t2).flatMap (cnAt sps) = q := ⟨_, rfl⟩
              have hDl : D.length ≤ 2000000000 := by rw [← hD, List.length_append]; have := HD1.out; omega
              have HSD : Hid (D1 ++ (ats.take (t2 + 1)).flatMap (cnAt sps) = D ++ [32] ++ prefL sps xs ++ xl ++ [61] ++ valL xv) := Lib.hid (by rw [HSS.out, ← List.append_assoc, hD]; unfold cnAt; simp only [List.append_assoc])
              rw [hD]
              obtain ⟨V, hVe⟩ : ∃ q, valL xv = q := ⟨_, rfl⟩
              rw [hVe] at VX hV HSD
              have q0 : ∀ w : World, (Op.stringOp .add ⟨D.toArray⟩ ⟨#[32]⟩).run Tryz.prog w = .ok (.string ⟨(D ++ [32]).toArray⟩) w := fun w => run_sop (w := w) D [32] (by simp; omega)
              obtain ⟨S0, hS0⟩ : ∃ q, D ++ [32] = q := ⟨_, rfl⟩
              have hSl : S0.length ≤ 2000000001 := by rw [← hS0]; simp; omega
              rw [hS0] at q0 HSD
              have he := xml_eq xs
              obtain ⟨bx, hbx⟩ : ∃ q, decide (xs = xmlSp) = q := ⟨_, rfl⟩
              rw [hbx] at he
              unfold xmlSp at he
              clear hlen hlt hll hb1 hx hc1 HSS hD hVe hS0 hDl hx3
              cases bx with
              | true =>
                have HPF : Hid (prefL sps xs = [120, 109, 108, 58]) := Lib.hid (by
                  have := of_decide_eq_true hbx
                  subst this
                  unfold prefL
                  rw [if_neg (by unfold xmlSp; simp), if_pos rfl])
                have q1 : ∀ w : World, (Op.stringOp .add ⟨S0.toArray⟩ ⟨#[120, 109, 108, 58]⟩).run Tryz.prog w = .ok (.string ⟨(S0 ++ [120, 109, 108, 58]).toArray⟩) w := fun w => run_sop (w := w) S0 [120, 109, 108, 58] (by simp; omega)
                have hS1l : (S0 ++ [120, 109, 108, 58]).length ≤ 2000000100 := by simp; omega
                rw [HPF.out] at HSD
                clear hbx hmem
                obtain ⟨S1, hS1⟩ : ∃ q, S0 ++ [120, 109, 108, 58] = q := ⟨_, rfl⟩
                rw [hS1] at q1 hS1l HSD
                clear hS1
                have r1 : ∀ w : World, (Op.stringOp .add ⟨S1.toArray⟩ ⟨xl.toArray⟩).run Tryz.prog w = .ok (.string ⟨(S1 ++ xl).toArray⟩) w := fun w => run_sop (w := w) S1 xl (by omega)
                have r2 : ∀ w : World, (Op.stringOp .add ⟨(S1 ++ xl).toArray⟩ ⟨#[61]⟩).run Tryz.prog w = .ok (.string ⟨(S1 ++ xl ++ [61]).toArray⟩) w := fun w => run_sop (w := w) (S1 ++ xl) [61] (by simp; omega)
                have r3 : ∀ w : World, (Op.stringOp .add ⟨(S1 ++ xl ++ [61]).toArray⟩ ⟨V.toArray⟩).run Tryz.prog w = .ok (.string ⟨(S1 ++ xl ++ [61] ++ V).toArray⟩) w := fun w => run_sop (w := w) (S1 ++ xl ++ [61]) V (by simp; omega)
                obtain ⟨Z3, hZ3⟩ : ∃ q, S1 ++ xl ++ [61] ++ V = q := ⟨_, rfl⟩
                obtain ⟨Z2, hZ2⟩ : ∃ q, S1 ++ xl ++ [61] = q := ⟨_, rfl⟩
                obtain ⟨Z1, hZ1⟩ : ∃ q, S1 ++ xl = q := ⟨_, rfl⟩
                rw [hZ3] at r3 HSD
                rw [hZ2] at r2 r3
                rw [hZ1] at r1 r2
                clear hZ3 hZ2 hZ1 hS1l hSl hV hx1 hx2 HK
                go_wp2_with fail
                go_quiet ((go_at_call 54; exact Calls.quiet_of_same (VX.out _)))
                have K5 := Lib.hid (K2.out.drewN nq)
                clear K2 c0 c1 f3 v2 y0 y1 y2 z3
                generalize (World.alloc wr _).drewN nq = wq at *
                go_wp2
                go_roundg (n - (t2 + 1))
                case measure => have := hg2.out; omega
                case rel => exact ⟨t2 + 1, by go_num, by rw [HSD.out], by omega, Lib.hid (by have := hg2.out; omega), K5⟩
              | false =>
                have hnx := of_decide_eq_false hbx
                clear hbx
                have hxs : xs = [] ∨ ∃ a tl, xs = a :: tl := by cases xs <;> simp
                rcases hxs with rfl | ⟨a0, tl0, rfl⟩
                · have HPF : Hid (prefL sps [] = []) := Lib.hid (by unfold prefL; rw [if_pos rfl])
                  rw [HPF.out, List.append_nil] at HSD
                  obtain ⟨S1, hS1⟩ : ∃ q, S0 = q := ⟨_, rfl⟩
                  have hS1l : S0.length ≤ 2000000100 := by omega
                  rw [hS1] at q0 hSl HSD hS1l
                  clear hS1 hmem hnx
                  have r1 : ∀ w : World, (Op.stringOp .add ⟨S1.toArray⟩ ⟨xl.toArray⟩).run Tryz.prog w = .ok (.string ⟨(S1 ++ xl).toArray⟩) w := fun w => run_sop (w := w) S1 xl (by omega)
                  have r2 : ∀ w : World, (Op.stringOp .add ⟨(S1 ++ xl).toArray⟩ ⟨#[61]⟩).run Tryz.prog w = .ok (.string ⟨(S1 ++ xl ++ [61]).toArray⟩) w := fun w => run_sop (w := w) (S1 ++ xl) [61] (by simp; omega)
                  have r3 : ∀ w : World, (Op.stringOp .add ⟨(S1 ++ xl ++ [61]).toArray⟩ ⟨V.toArray⟩).run Tryz.prog w = .ok (.string ⟨(S1 ++ xl ++ [61] ++ V).toArray⟩) w := fun w => run_sop (w := w) (S1 ++ xl ++ [61]) V (by simp; omega)
                  obtain ⟨Z3, hZ3⟩ : ∃ q, S1 ++ xl ++ [61] ++ V = q := ⟨_, rfl⟩
                  obtain ⟨Z2, hZ2⟩ : ∃ q, S1 ++ xl ++ [61] = q := ⟨_, rfl⟩
                  obtain ⟨Z1, hZ1⟩ : ∃ q, S1 ++ xl = q := ⟨_, rfl⟩
                  rw [hZ3] at r3 HSD
                  rw [hZ2] at r2 r3
                  rw [hZ1] at r1 r2
                  clear hZ3 hZ2 hZ1 hS1l hSl hV hx1 hx2 HK
                  go_wp2_with fail
                  go_quiet ((go_at_call 54; exact Calls.quiet_of_same (VX.out _)))
                  have K5 := Lib.hid (K2.out.drewN nq)
                  clear K2 c0 c1 f3 v2 y0 y1 y2 z3
                  generalize (World.alloc wr _).drewN nq = wq at *
                  go_wp2
                  go_roundg (n - (t2 + 1))
                  case measure => have := hg2.out; omega
                  case rel => exact ⟨t2 + 1, by go_num, by rw [HSD.out], by omega, Lib.hid (by have := hg2.out; omega), K5⟩
                · have hm2 : (a0 :: tl0) ∈ sps := by
                    rcases hmem with h | h | h
                    · cases h
                    · exact absurd h hnx
                    · exact h
                  have HPF : Hid (prefL sps (a0 :: tl0) = [110] ++ Lib.decDigits (sps.idxOf (a0 :: tl0)) ++ [58]) := Lib.hid (by unfold prefL; rw [if_neg (by simp), if_neg hnx])
                  have hix : sps.idxOf (a0 :: tl0) < sps.length := List.idxOf_lt_length_iff.2 hm2
                  have FD := Lib.hid (rfFind_c OA t oc sps (a0 :: tl0) _ K2.out.2 (by omega))
                  have hfn : fndL sps (a0 :: tl0) = ((sps.idxOf (a0 :: tl0) : Nat) : Int) := by unfold fndL; rw [if_pos hm2]
                  rw [hfn] at FD
                  rw [HPF.out] at HSD
                  rw [HM.out] at hix
                  obtain ⟨ix, hixe⟩ : ∃ q, sps.idxOf (a0 :: tl0) = q := ⟨_, rfl⟩
                  rw [hixe] at FD HSD hix
                  have DX := Lib.hid (fun W => DG.out ix W (by omega))
                  have hE := decD_le ix (by omega)
                  obtain ⟨E, hEe⟩ : ∃ q, Lib.decDigits ix = q := ⟨_, rfl⟩
                  rw [hEe] at DX HSD hE
                  have HSD2 : Hid (D1 ++ (ats.take (t2 + 1)).flatMap (cnAt sps) = S0 ++ [110] ++ E ++ [58] ++ xl ++ [61] ++ V) := Lib.hid (by rw [HSD.out]; simp only [List.append_assoc])
                  have u1 : ∀ w : World, (Op.stringOp .add ⟨S0.toArray⟩ ⟨#[110]⟩).run Tryz.prog w = .ok (.string ⟨(S0 ++ [110]).toArray⟩) w := fun w => run_sop (w := w) S0 [110] (by simp; omega)
                  have u2 : ∀ w : World, (Op.stringOp .add ⟨(S0 ++ [110]).toArray⟩ ⟨E.toArray⟩).run Tryz.prog w = .ok (.string ⟨(S0 ++ [110] ++ E).toArray⟩) w := fun w => run_sop (w := w) (S0 ++ [110]) E (by simp; omega)
                  have u3 : ∀ w : World, (Op.stringOp .add ⟨(S0 ++ [110] ++ E).toArray⟩ ⟨#[58]⟩).run Tryz.prog w = .ok (.string ⟨(S0 ++ [110] ++ E ++ [58]).toArray⟩) w := fun w => run_sop (w := w) (S0 ++ [110] ++ E) [58] (by simp; omega)
                  have hS1l : (S0 ++ [110] ++ E ++ [58]).length ≤ 2000000100 := by simp; omega
                  obtain ⟨S1, hS1⟩ : ∃ q, S0 ++ [110] ++ E ++ [58] = q := ⟨_, rfl⟩
                  obtain ⟨U2, hU2⟩ : ∃ q, S0 ++ [110] ++ E = q := ⟨_, rfl⟩
                  obtain ⟨U1, hU1⟩ : ∃ q, S0 ++ [110] = q := ⟨_, rfl⟩
                  rw [hS1] at u3 hS1l HSD2
                  rw [hU2] at u2 u3
                  rw [hU1] at u1 u2
                  clear HSD
                  have HSD := Lib.hid HSD2.out
                  clear HSD2 hS1 hU2 hU1 hEe hE hixe hix hfn HPF hm2 hmem hnx
                  have r1 : ∀ w : World, (Op.stringOp .add ⟨S1.toArray⟩ ⟨xl.toArray⟩).run Tryz.prog w = .ok (.string ⟨(S1 ++ xl).toArray⟩) w := fun w => run_sop (w := w) S1 xl (by omega)
                  have r2 : ∀ w : World, (Op.stringOp .add ⟨(S1 ++ xl).toArray⟩ ⟨#[61]⟩).run Tryz.prog w = .ok (.string ⟨(S1 ++ xl ++ [61]).toArray⟩) w := fun w => run_sop (w := w) (S1 ++ xl) [61] (by simp; omega)
                  have r3 : ∀ w : World, (Op.stringOp .add ⟨(S1 ++ xl ++ [61]).toArray⟩ ⟨V.toArray⟩).run Tryz.prog w = .ok (.string ⟨(S1 ++ xl ++ [61] ++ V).toArray⟩) w := fun w => run_sop (w := w) (S1 ++ xl ++ [61]) V (by simp; omega)
                  obtain ⟨Z3, hZ3⟩ : ∃ q, S1 ++ xl ++ [61] ++ V = q := ⟨_, rfl⟩
                  obtain ⟨Z2, hZ2⟩ : ∃ q, S1 ++ xl ++ [61] = q := ⟨_, rfl⟩
                  obtain ⟨Z1, hZ1⟩ : ∃ q, S1 ++ xl = q := ⟨_, rfl⟩
                  rw [hZ3] at r3 HSD
                  rw [hZ2] at r2 r3
                  rw [hZ1] at r1 r2
                  clear hZ3 hZ2 hZ1 hS1l hSl hV hx1 hx2 HK
                  go_wp2_with fail
                  refine FD.out.mono ?_
                  rintro e w5 ⟨rfl, rfl⟩
                  go_wp2_with fail
                  refine (DX.out _).mono ?_
                  rintro e w5 ⟨rfl, rfl⟩
                  go_wp2_with fail
                  go_quiet ((go_at_call 54; exact Calls.quiet_of_same (VX.out _)))
                  have K5 := Lib.hid (K2.out.drewN nq)
                  clear K2 c0 c1 f3 v2 y0 y1 y2 z3
                  generalize (World.alloc wr _).drewN nq = wq at *
                  go_wp2
                  go_roundg (n - (t2 + 1))
                  case measure => have := hg2.out; omega
                  case rel => exact ⟨t2 + 1, by go_num, by rw [HSD.out], by omega, Lib.hid (by have := hg2.out; omega), K5⟩
            · have hti2 : ¬ (t2 : Int) < (n : Int) := by omega
              obtain rfl : t2 = n := by omega
              obtain ⟨D, hD⟩ : ∃ q, D1 ++ (ats.take t2).flatMap (cnAt sps) = q := ⟨_, rfl⟩
              have hDl : D.length ≤ 2000000000 := by rw [← hD, List.length_append]; have := HD1.out; omega
              rw [hD] at HR ⊢
              have hRR : R = D ++ [62] := HR.out
              subst hRR
              have q1 : ∀ w : World, (Op.stringOp .add ⟨D.toArray⟩ ⟨#[62]⟩).run Tryz.prog w = .ok (.string ⟨(D ++ [62]).toArray⟩) w := fun w => run_sop (w := w) D [62] (by simp; omega)
              have HB := Lib.hid HK.out.1.1
              clear hlen hlt hll hD hDl HR
              go_wp2
              go_ret2
              exact ⟨rfl, HB.out⟩
    | false =>
      have HR3 : Hid (R = P3 ++ nsT (spcs [] ats) (spcs [] ats).length ++ (ats.take n).flatMap (cnAt (spcs [] ats)) ++ [62]) := Lib.hid (by rw [HR.out, ← HP3.out]; simp)
      have HSP : sp = SO := by rw [HSO.out]; simp
      subst HSP
      clear HR HSO HP3
      have HR := Lib.hid HR3.out
      clear HR3
      go_wp2_with fail
      refine (LX.out _).mono ?_
      rintro e w3 ⟨rfl, rfl⟩
      go_wp2_with fail
      refine (NM.out _ I1.out.1).mono ?_
      rintro e w4 ⟨OA, oc, rfl, hO, hb⟩
      obtain ⟨A2, c2, hv, hr⟩ := RRd.ofOwn (c := cSn) (fun _ => rfl) (by decide) hO
      injection hv with hv1 hv2 hv3
      subst hv1
      subst hv3
      have K4 : Hid (VK #[.int .i64 1, .string ⟨sp.toArray⟩, .string ⟨lo.toArray⟩, .slice A n cap, .string ⟨tx.toArray⟩] OA (spcs [] ats).length oc (spcs [] ats) w w4) := Lib.hid ⟨I1.out.kept hb, hr⟩
      have HST : Hid (P3 = P3 ++ nsT (spcs [] ats) 0) := Lib.hid (by simp [nsT])
      obtain ⟨sps, hsps⟩ : ∃ q, spcs [] ats = q := ⟨_, rfl⟩
      rw [hsps] at K4 HHS HSM hsm HR HST ⊢
      obtain ⟨m, hm⟩ : ∃ q, sps.length = q := ⟨_, rfl⟩
      rw [hm] at K4 hsm HR ⊢
      have HM := Lib.hid hm
      have hm0 : (0 : Int) ≤ (m : Int) := by omega
      have hm9 : (m : Int) ≤ 5000 := by omega
      clear hO hb hsps hm I1 NM hr hv2 z1 z3 LX
      go_wp2_with fail
      go_loopg [6, 8] (m) (fun g sv i wr => ∃ t : Nat, i = .int .i64 (t : Int) ∧ sv = .string ⟨(P3 ++ nsT sps t).toArray⟩ ∧ t ≤ m ∧ Hid (g + t = m) ∧ Hid (VK #[.int .i64 1, .string ⟨sp.toArray⟩, .string ⟨lo.toArray⟩, .slice A n cap, .string ⟨tx.toArray⟩] OA m oc sps w wr))
      case atStart => exact ⟨0, rfl, by rw [← HST.out], Nat.zero_le _, Lib.hid rfl, K4⟩
      case round =>
        obtain ⟨t, rfl, rfl, ht, hg, HK⟩ := hrel
        have ht0 : (0 : Int) ≤ (t : Int) := by omega
        have ht9 : (t : Int) ≤ 5000 := by omega
        have hnl := nsT_le (b := 5000) sps HSM.out (by rw [HM.out]; exact hsm) t (by rw [HM.out]; exact ht)
        have hnl2 : (nsT sps t).length ≤ 500000000 := by
          have : t * (6 * 5000 + 100) ≤ 5000 * (6 * 5000 + 100) := Nat.mul_le_mul_right _ (by omega)
          omega
        by_cases htn : t < m
        · have hti : (t : Int) < (m : Int) := by omega
          obtain ⟨b2, o2, s, rfl, hb2, hs, hc2⟩ := HK.out.2.cell htn
          have y0 : wr.cell? ⟨b2, o2 + t, none⟩ = some (.string ⟨s.toArray⟩) := by rw [show o2 + t = o2 + (t * 1 + 0) by omega]; exact hc2 0 _ rfl
          have hsl := HSM.out s (List.mem_of_getElem? hs)
          have HN1 : Hid (P3 ++ nsT sps (t + 1) = P3 ++ nsT sps t ++ [32, 120, 109, 108, 110, 115, 58, 110] ++ Lib.decDigits t ++ [61] ++ valL s) := Lib.hid (by rw [nsT, List.getD_eq_getElem?_getD, hs, Option.getD_some]; unfold nsOne; simp only [List.append_assoc])
          have IT := Lib.hid (fun W => DG.out t W (by omega))
          have LT := Lib.hid (fun W => LW.out s W hsl)
          have hE := decD_le t (by omega)
          have hV : (valL s).length ≤ 30002 := by have := esc_le s; unfold valL; simp; omega
          obtain ⟨E, heE⟩ : ∃ q, Lib.decDigits t = q := ⟨_, rfl⟩
          obtain ⟨V, hVe⟩ : ∃ q, valL s = q := ⟨_, rfl⟩
          rw [heE] at IT hE HN1
          rw [hVe] at LT hV HN1
          obtain ⟨D, hD⟩ : ∃ q, P3 ++ nsT sps t = q := ⟨_, rfl⟩
          have hDl : D.length ≤ 600000000 := by rw [← hD, List.length_append]; have := HPL.out; omega
          rw [hD] at HN1 ⊢
          have q1 : ∀ w : World, (Op.stringOp .add ⟨D.toArray⟩ ⟨#[32, 120, 109, 108, 110, 115, 58, 110]⟩).run Tryz.prog w = .ok (.string ⟨(D ++ [32, 120, 109, 108, 110, 115, 58, 110]).toArray⟩) w := fun w => run_sop (w := w) D [32, 120, 109, 108, 110, 115, 58, 110] (by simp; omega)
          have q2 : ∀ w : World, (Op.stringOp .add ⟨(D ++ [32, 120, 109, 108, 110, 115, 58, 110]).toArray⟩ ⟨E.toArray⟩).run Tryz.prog w = .ok (.string ⟨(D ++ [32, 120, 109, 108, 110, 115, 58, 110] ++ E).toArray⟩) w := fun w => run_sop (w := w) (D ++ [32, 120, 109, 108, 110, 115, 58, 110]) E (by simp; omega)
          have q3 : ∀ w : World, (Op.stringOp .add ⟨(D ++ [32, 120, 109, 108, 110, 115, 58, 110] ++ E).toArray⟩ ⟨#[61]⟩).run Tryz.prog w = .ok (.string ⟨(D ++ [32, 120, 109, 108, 110, 115, 58, 110] ++ E ++ [61]).toArray⟩) w := fun w => run_sop (w := w) (D ++ [32, 120, 109, 108, 110, 115, 58, 110] ++ E) [61] (by simp; omega)
          have q4 : ∀ w : World, (Op.stringOp .add ⟨(D ++ [32, 120, 109, 108, 110, 115, 58, 110] ++ E ++ [61]).toArray⟩ ⟨V.toArray⟩).run Tryz.prog w = .ok (.string ⟨(D ++ [32, 120, 109, 108, 110, 115, 58, 110] ++ E ++ [61] ++ V).toArray⟩) w := fun w => run_sop (w := w) (D ++ [32, 120, 109, 108, 110, 115, 58, 110] ++ E ++ [61]) V (by simp; omega)
          obtain ⟨Y4, hY4⟩ : ∃ q, D ++ [32, 120, 109, 108, 110, 115, 58, 110] ++ E ++ [61] ++ V = q := ⟨_, rfl⟩
          obtain ⟨Y3, hY3⟩ : ∃ q, D ++ [32, 120, 109, 108, 110, 115, 58, 110] ++ E ++ [61] = q := ⟨_, rfl⟩
          obtain ⟨Y2, hY2⟩ : ∃ q, D ++ [32, 120, 109, 108, 110, 115, 58, 110] ++ E = q := ⟨_, rfl⟩
          obtain ⟨Y1, hY1⟩ : ∃ q, D ++ [32, 120, 109, 108, 110, 115, 58, 110] = q := ⟨_, rfl⟩
          rw [hY4] at q4 HN1
          rw [hY3] at q3 q4
          rw [hY2] at q2 q3
          rw [hY1] at q1 q2
          clear hb2 hs hc2 hsl hnl hnl2 hE hV heE hVe hY4 hY3 hY2 hY1 hD hDl
          go_wp2_with fail
          go_quiet (first | (go_at_call 56; exact Calls.quiet_of_same (IT.out _)) | (go_at_call 54; exact Calls.quiet_of_same (LT.out _)))
          have K5 := Lib.hid (HK.out.drewN nq)
          clear HK y0
          generalize wr.drewN nq = wq at *
          go_wp2
          go_roundg (m - (t + 1))
          case measure => have := hg.out; omega
          case rel => exact ⟨t + 1, by go_num, by rw [HN1.out], by omega, Lib.hid (by have := hg.out; omega), K5⟩
        · have hti : ¬ (t : Int) < (m : Int) := by omega
          obtain rfl : t = m := by omega
          obtain ⟨D1, hD1⟩ : ∃ q, P3 ++ nsT sps t = q := ⟨_, rfl⟩
          have HD1 : Hid (D1.length ≤ 600000000) := Lib.hid (by rw [← hD1, List.length_append]; have := HPL.out; omega)
          rw [hD1] at HR ⊢
          have HST2 : Hid (D1 = D1 ++ (ats.take 0).flatMap (cnAt sps)) := Lib.hid (by simp)
          have z3 : wr.cell? ⟨w.heap.size, 3, none⟩ = some (.slice A n cap) := by rw [cell_of 3 HK.out.1.2]; rfl
          clear hnl hnl2 hD1 HPL HSM ht0 ht9 HST
          go_wp2_with fail
          go_loopg [6, 9] (n) (fun g sv i wr => ∃ t2 : Nat, i = .int .i64 (t2 : Int) ∧ sv = .string ⟨(D1 ++ (ats.take t2).flatMap (cnAt sps)).toArray⟩ ∧ t2 ≤ n ∧ Hid (g + t2 = n) ∧ Hid (VK #[.int .i64 1, .string ⟨sp.toArray⟩, .string ⟨lo.toArray⟩, .slice A n cap, .string ⟨tx.toArray⟩] OA t oc sps w wr))
          case atStart => exact ⟨0, rfl, by rw [← HST2.out], Nat.zero_le _, Lib.hid rfl, HK⟩
          case round =>
            clear z3 HK
            obtain ⟨t2, rfl, rfl, ht2, hg2, HK⟩ := hrel
            have ht0 : (0 : Int) ≤ (t2 : Int) := by omega
            have ht9 : (t2 : Int) ≤ 5000 := by omega
            have z3 : wr.cell? ⟨w.heap.size, 3, none⟩ = some (.slice A n cap) := by rw [cell_of 3 HK.out.1.2]; rfl
            have hlen := cnAts_le (b := 5000) sps (by rw [HM.out]; exact hsm) (ats.take t2) fun a ha => (HAL.out a (List.mem_of_mem_take ha)).2
            have hlt : (ats.take t2).length ≤ 5000 := by have := HLN.out; rw [List.length_take]; omega
            have hll : ((ats.take t2).flatMap (cnAt sps)).length ≤ 500000000 := by
              have : (ats.take t2).length * (7 * 5000 + 100) ≤ 5000 * (7 * 5000 + 100) := Nat.mul_le_mul_right _ hlt
              omega
            by_cases htn2 : t2 < n
            · have hti2 : (t2 : Int) < (n : Int) := by omega
              obtain ⟨b1, o1, x, hAe, hb1, hx, hc1⟩ := (HP.out _ HK.out.1.1).cell htn2
              obtain ⟨hx1, hx2, hx3⟩ := HAL.out x (List.mem_of_getElem? hx)
              have hmem := HHS.out x (List.mem_of_getElem? hx)
              have HSS := Lib.hid (cnAts_snoc (l := sps) hx)
              obtain ⟨xs, xl, xv⟩ := x
              simp only at hx1 hx2 hx3 hmem
              have y0 : wr.cell? ⟨b1, o1 + t2 * 3, none⟩ = some (.string ⟨xs.toArray⟩) := by rw [show o1 + t2 * 3 = o1 + (t2 * 3 + 0) by omega]; exact hc1 0 _ rfl
              have y1 : wr.cell? ⟨b1, o1 + t2 * 3 + 1, none⟩ = some (.string ⟨xl.toArray⟩) := by rw [show o1 + t2 * 3 + 1 = o1 + (t2 * 3 + 1) by omega]; exact hc1 1 _ rfl
              have y2 : wr.cell? ⟨b1, o1 + t2 * 3 + 2, none⟩ = some (.string ⟨xv.toArray⟩) := by rw [show o1 + t2 * 3 + 2 = o1 + (t2 * 3 + 2) by omega]; exact hc1 2 _ rfl
              subst hAe
              have K2 := Lib.hid (HK.out.kept ((Below.refl _ wr).alloc (Nat.le_refl _) (.cells #[.string ⟨xs.toArray⟩, .string ⟨xl.toArray⟩] 38)))
              have c0 := cell_of 0 (hp_new wr (.cells #[.string ⟨xs.toArray⟩, .string ⟨xl.toArray⟩] 38))
              have c1 := cell_of 1 (hp_new wr (.cells #[.string ⟨xs.toArray⟩, .string ⟨xl.toArray⟩] 38))
              have f3 : (wr.alloc (.cells #[.string ⟨xs.toArray⟩, .string ⟨xl.toArray⟩] 38)).cell? ⟨w.heap.size, 3, none⟩ = some (.slice (some ⟨b1, o1, none⟩) n cap) := by rw [cell_of 3 K2.out.1.2]; rfl
              have v2 : (wr.alloc (.cells #[.string ⟨xs.toArray⟩, .string ⟨xl.toArray⟩] 38)).cell? ⟨b1, o1 + t2 * 3 + 2, none⟩ = some (.string ⟨xv.toArray⟩) := (((Below.refl _ wr).alloc (Nat.le_refl _) (.cells #[.string ⟨xs.toArray⟩, .string ⟨xl.toArray⟩] 38)).cell (p := ⟨b1, o1 + t2 * 3 + 2, none⟩) hb1).trans y2
              have VX := Lib.hid (fun w1 => LW.out xv w1 hx3)
              have hV : (valL xv).length ≤ 30002 := by have := esc_le xv; unfold valL; simp; omega
              obtain ⟨D, hD⟩ : ∃ q, D1 ++ (ats.take t2).flatMap (cnAt sps) = q := ⟨_, rfl⟩
              have hDl : D.length ≤ 2000000000 := by rw [← hD, List.length_append]; have := HD1.out; omega
              have HSD : Hid (D1 ++ (ats.take (t2 + 1)).flatMap (cnAt sps) = D ++ [32] ++ prefL sps xs ++ xl ++ [61] ++ valL xv) := Lib.hid (by rw [HSS.out, ← List.append_assoc, hD]; unfold cnAt; simp only [List.append_assoc])
              rw [hD]
              obtain ⟨V, hVe⟩ : ∃ q, valL xv = q := ⟨_, rfl⟩
              rw [hVe] at VX hV HSD
              have q0 : ∀ w : World, (Op.stringOp .add ⟨D.toArray⟩ ⟨#[32]⟩).run Tryz.prog w = .ok (.string ⟨(D ++ [32]).toArray⟩) w := fun w => run_sop (w := w) D [32] (by simp; omega)
              obtain ⟨S0, hS0⟩ : ∃ q, D ++ [32] = q := ⟨_, rfl⟩
              have hSl : S0.length ≤ 2000000001 := by rw [← hS0]; simp; omega
              rw [hS0] at q0 HSD
              have he := xml_eq xs
              obtain ⟨bx, hbx⟩ : ∃ q, decide (xs = xmlSp) = q := ⟨_, rfl⟩
              rw [hbx] at he
              unfold xmlSp at he
              clear hlen hlt hll hb1 hx hc1 HSS hD hVe hS0 hDl hx3
              cases bx with
              | true =>
                have HPF : Hid (prefL sps xs = [120, 109, 108, 58]) := Lib.hid (by
                  have := of_decide_eq_true hbx
                  subst this
                  unfold prefL
                  rw [if_neg (by unfold xmlSp; simp), if_pos rfl])
                have q1 : ∀ w : World, (Op.stringOp .add ⟨S0.toArray⟩ ⟨#[120, 109, 108, 58]⟩).run Tryz.prog w = .ok (.string ⟨(S0 ++ [120, 109, 108, 58]).toArray⟩) w := fun w => run_sop (w := w) S0 [120, 109, 108, 58] (by simp; omega)
                have hS1l : (S0 ++ [120, 109, 108, 58]).length ≤ 2000000100 := by simp; omega
                rw [HPF.out] at HSD
                clear hbx hmem
                obtain ⟨S1, hS1⟩ : ∃ q, S0 ++ [120, 109, 108, 58] = q := ⟨_, rfl⟩
                rw [hS1] at q1 hS1l HSD
                clear hS1
                have r1 : ∀ w : World, (Op.stringOp .add ⟨S1.toArray⟩ ⟨xl.toArray⟩).run Tryz.prog w = .ok (.string ⟨(S1 ++ xl).toArray⟩) w := fun w => run_sop (w := w) S1 xl (by omega)
                have r2 : ∀ w : World, (Op.stringOp .add ⟨(S1 ++ xl).toArray⟩ ⟨#[61]⟩).run Tryz.prog w = .ok (.string ⟨(S1 ++ xl ++ [61]).toArray⟩) w := fun w => run_sop (w := w) (S1 ++ xl) [61] (by simp; omega)
                have r3 : ∀ w : World, (Op.stringOp .add ⟨(S1 ++ xl ++ [61]).toArray⟩ ⟨V.toArray⟩).run Tryz.prog w = .ok (.string ⟨(S1 ++ xl ++ [61] ++ V).toArray⟩) w := fun w => run_sop (w := w) (S1 ++ xl ++ [61]) V (by simp; omega)
                obtain ⟨Z3, hZ3⟩ : ∃ q, S1 ++ xl ++ [61] ++ V = q := ⟨_, rfl⟩
                obtain ⟨Z2, hZ2⟩ : ∃ q, S1 ++ xl ++ [61] = q := ⟨_, rfl⟩
                obtain ⟨Z1, hZ1⟩ : ∃ q, S1 ++ xl = q := ⟨_, rfl⟩
                rw [hZ3] at r3 HSD
                rw [hZ2] at r2 r3
                rw [hZ1] at r1 r2
                clear hZ3 hZ2 hZ1 hS1l hSl hV hx1 hx2 HK
                go_wp2_with fail
                go_quiet ((go_at_call 54; exact Calls.quiet_of_same (VX.out _)))
                have K5 := Lib.hid (K2.out.drewN nq)
                clear K2 c0 c1 f3 v2 y0 y1 y2 z3
                generalize (World.alloc wr _).drewN nq = wq at *
                go_wp2
                go_roundg (n - (t2 + 1))
                case measure => have := hg2.out; omega
                case rel => exact ⟨t2 + 1, by go_num, by rw [HSD.out], by omega, Lib.hid (by have := hg2.out; omega), K5⟩
              | false =>
                have hnx := of_decide_eq_false hbx
                clear hbx
                have hxs : xs = [] ∨ ∃ a tl, xs = a :: tl := by cases xs <;> simp
                rcases hxs with rfl | ⟨a0, tl0, rfl⟩
                · have HPF : Hid (prefL sps [] = []) := Lib.hid (by unfold prefL; rw [if_pos rfl])
                  rw [HPF.out, List.append_nil] at HSD
                  obtain ⟨S1, hS1⟩ : ∃ q, S0 = q := ⟨_, rfl⟩
                  have hS1l : S0.length ≤ 2000000100 := by omega
                  rw [hS1] at q0 hSl HSD hS1l
                  clear hS1 hmem hnx
                  have r1 : ∀ w : World, (Op.stringOp .add ⟨S1.toArray⟩ ⟨xl.toArray⟩).run Tryz.prog w = .ok (.string ⟨(S1 ++ xl).toArray⟩) w := fun w => run_sop (w := w) S1 xl (by omega)
                  have r2 : ∀ w : World, (Op.stringOp .add ⟨(S1 ++ xl).toArray⟩ ⟨#[61]⟩).run Tryz.prog w = .ok (.string ⟨(S1 ++ xl ++ [61]).toArray⟩) w := fun w => run_sop (w := w) (S1 ++ xl) [61] (by simp; omega)
                  have r3 : ∀ w : World, (Op.stringOp .add ⟨(S1 ++ xl ++ [61]).toArray⟩ ⟨V.toArray⟩).run Tryz.prog w = .ok (.string ⟨(S1 ++ xl ++ [61] ++ V).toArray⟩) w := fun w => run_sop (w := w) (S1 ++ xl ++ [61]) V (by simp; omega)
                  obtain ⟨Z3, hZ3⟩ : ∃ q, S1 ++ xl ++ [61] ++ V = q := ⟨_, rfl⟩
                  obtain ⟨Z2, hZ2⟩ : ∃ q, S1 ++ xl ++ [61] = q := ⟨_, rfl⟩
                  obtain ⟨Z1, hZ1⟩ : ∃ q, S1 ++ xl = q := ⟨_, rfl⟩
                  rw [hZ3] at r3 HSD
                  rw [hZ2] at r2 r3
                  rw [hZ1] at r1 r2
                  clear hZ3 hZ2 hZ1 hS1l hSl hV hx1 hx2 HK
                  go_wp2_with fail
                  go_quiet ((go_at_call 54; exact Calls.quiet_of_same (VX.out _)))
                  have K5 := Lib.hid (K2.out.drewN nq)
                  clear K2 c0 c1 f3 v2 y0 y1 y2 z3
                  generalize (World.alloc wr _).drewN nq = wq at *
                  go_wp2
                  go_roundg (n - (t2 + 1))
                  case measure => have := hg2.out; omega
                  case rel => exact ⟨t2 + 1, by go_num, by rw [HSD.out], by omega, Lib.hid (by have := hg2.out; omega), K5⟩
                · have hm2 : (a0 :: tl0) ∈ sps := by
                    rcases hmem with h | h | h
                    · cases h
                    · exact absurd h hnx
                    · exact h
                  have HPF : Hid (prefL sps (a0 :: tl0) = [110] ++ Lib.decDigits (sps.idxOf (a0 :: tl0)) ++ [58]) := Lib.hid (by unfold prefL; rw [if_neg (by simp), if_neg hnx])
                  have hix : sps.idxOf (a0 :: tl0) < sps.length := List.idxOf_lt_length_iff.2 hm2
                  have FD := Lib.hid (rfFind_c OA t oc sps (a0 :: tl0) _ K2.out.2 (by omega))
                  have hfn : fndL sps (a0 :: tl0) = ((sps.idxOf (a0 :: tl0) : Nat) : Int) := by unfold fndL; rw [if_pos hm2]
                  rw [hfn] at FD
                  rw [HPF.out] at HSD
                  rw [HM.out] at hix
                  obtain ⟨ix, hixe⟩ : ∃ q, sps.idxOf (a0 :: tl0) = q := ⟨_, rfl⟩
                  rw [hixe] at FD HSD hix
                  have DX := Lib.hid (fun W => DG.out ix W (by omega))
                  have hE := decD_le ix (by omega)
                  obtain ⟨E, hEe⟩ : ∃ q, Lib.decDigits ix = q := ⟨_, rfl⟩
                  rw [hEe] at DX HSD hE
                  have HSD2 : Hid (D1 ++ (ats.take (t2 + 1)).flatMap (cnAt sps) = S0 ++ [110] ++ E ++ [58] ++ xl ++ [61] ++ V) := Lib.hid (by rw [HSD.out]; simp only [List.append_assoc])
                  have u1 : ∀ w : World, (Op.stringOp .add ⟨S0.toArray⟩ ⟨#[110]⟩).run Tryz.prog w = .ok (.string ⟨(S0 ++ [110]).toArray⟩) w := fun w => run_sop (w := w) S0 [110] (by simp; omega)
                  have u2 : ∀ w : World, (Op.stringOp .add ⟨(S0 ++ [110]).toArray⟩ ⟨E.toArray⟩).run Tryz.prog w = .ok (.string ⟨(S0 ++ [110] ++ E).toArray⟩) w := fun w => run_sop (w := w) (S0 ++ [110]) E (by simp; omega)
                  have u3 : ∀ w : World, (Op.stringOp .add ⟨(S0 ++ [110] ++ E).toArray⟩ ⟨#[58]⟩).run Tryz.prog w = .ok (.string ⟨(S0 ++ [110] ++ E ++ [58]).toArray⟩) w := fun w => run_sop (w := w) (S0 ++ [110] ++ E) [58] (by simp; omega)
                  have hS1l : (S0 ++ [110] ++ E ++ [58]).length ≤ 2000000100 := by simp; omega
                  obtain ⟨S1, hS1⟩ : ∃ q, S0 ++ [110] ++ E ++ [58] = q := ⟨_, rfl⟩
                  obtain ⟨U2, hU2⟩ : ∃ q, S0 ++ [110] ++ E = q := ⟨_, rfl⟩
                  obtain ⟨U1, hU1⟩ : ∃ q, S0 ++ [110] = q := ⟨_, rfl⟩
                  rw [hS1] at u3 hS1l HSD2
                  rw [hU2] at u2 u3
                  rw [hU1] at u1 u2
                  clear HSD
                  have HSD := Lib.hid HSD2.out
                  clear HSD2 hS1 hU2 hU1 hEe hE hixe hix hfn HPF hm2 hmem hnx
                  have r1 : ∀ w : World, (Op.stringOp .add ⟨S1.toArray⟩ ⟨xl.toArray⟩).run Tryz.prog w = .ok (.string ⟨(S1 ++ xl).toArray⟩) w := fun w => run_sop (w := w) S1 xl (by omega)
                  have r2 : ∀ w : World, (Op.stringOp .add ⟨(S1 ++ xl).toArray⟩ ⟨#[61]⟩).run Tryz.prog w = .ok (.string ⟨(S1 ++ xl ++ [61]).toArray⟩) w := fun w => run_sop (w := w) (S1 ++ xl) [61] (by simp; omega)
                  have r3 : ∀ w : World, (Op.stringOp .add ⟨(S1 ++ xl ++ [61]).toArray⟩ ⟨V.toArray⟩).run Tryz.prog w = .ok (.string ⟨(S1 ++ xl ++ [61] ++ V).toArray⟩) w := fun w => run_sop (w := w) (S1 ++ xl ++ [61]) V (by simp; omega)
                  obtain ⟨Z3, hZ3⟩ : ∃ q, S1 ++ xl ++ [61] ++ V = q := ⟨_, rfl⟩
                  obtain ⟨Z2, hZ2⟩ : ∃ q, S1 ++ xl ++ [61] = q := ⟨_, rfl⟩
                  obtain ⟨Z1, hZ1⟩ : ∃ q, S1 ++ xl = q := ⟨_, rfl⟩
                  rw [hZ3] at r3 HSD
                  rw [hZ2] at r2 r3
                  rw [hZ1] at r1 r2
                  clear hZ3 hZ2 hZ1 hS1l hSl hV hx1 hx2 HK
                  go_wp2_with fail
                  refine FD.out.mono ?_
                  rintro e w5 ⟨rfl, rfl⟩
                  go_wp2_with fail
                  refine (DX.out _).mono ?_
                  rintro e w5 ⟨rfl, rfl⟩
                  go_wp2_with fail
                  go_quiet ((go_at_call 54; exact Calls.quiet_of_same (VX.out _)))
                  have K5 := Lib.hid (K2.out.drewN nq)
                  clear K2 c0 c1 f3 v2 y0 y1 y2 z3
                  generalize (World.alloc wr _).drewN nq = wq at *
                  go_wp2
                  go_roundg (n - (t2 + 1))
                  case measure => have := hg2.out; omega
                  case rel => exact ⟨t2 + 1, by go_num, by rw [HSD.out], by omega, Lib.hid (by have := hg2.out; omega), K5⟩
            · have hti2 : ¬ (t2 : Int) < (n : Int) := by omega
              obtain rfl : t2 = n := by omega
              obtain ⟨D, hD⟩ : ∃ q, D1 ++ (ats.take t2).flatMap (cnAt sps) = q := ⟨_, rfl⟩
              have hDl : D.length ≤ 2000000000 := by rw [← hD, List.length_append]; have := HD1.out; omega
              rw [hD] at HR ⊢
              have hRR : R = D ++ [62] := HR.out
              subst hRR
              have q1 : ∀ w : World, (Op.stringOp .add ⟨D.toArray⟩ ⟨#[62]⟩).run Tryz.prog w = .ok (.string ⟨(D ++ [62]).toArray⟩) w := fun w => run_sop (w := w) D [62] (by simp; omega)
              have HB := Lib.hid HK.out.1.1
              clear hlen hlt hll hD hDl HR
              go_wp2
              go_ret2
              exact ⟨rfl, HB.out⟩
end Go.Proofs.YthihkbcdihochaaGreatDoor
/- The documents One. -/
namespace Go.Proofs.YthihkbcdihochaaGreatDoor
open Go.ChangeShapes Go.WideShapes Go.ChangeAt Go.RowKit
set_option linter.unusedVariables false
theorem rfOne_c (k : Int) (sp lo tx space : List UInt8) (A : Option Addr) (n cap : Nat) (ats : List (List UInt8 × List UInt8 × List UInt8)) (w : World) (h : RRd cA 3 w w.heap.size A n cap ats) (hle : EvLe 5000 ⟨⟨k, sp, lo, ats, tx⟩, A, n, cap⟩) (h4 : space.length ≤ 5000) :
    Calls Tryz.prog 18 #[.agg #[.int .i64 k, .string ⟨sp.toArray⟩, .string ⟨lo.toArray⟩, .slice A n cap, .string ⟨tx.toArray⟩], .string ⟨space.toArray⟩] w fun e w' => e = .returned (.tuple #[.string ⟨(cnOne ⟨k, sp, lo, ats, tx⟩ space).1.toArray⟩, .string ⟨(cnOne ⟨k, sp, lo, ats, tx⟩ space).2.toArray⟩]) ∧ Below w.heap.size w w' := by
  have h1 : sp.length ≤ 5000 := hle.sp
  have h2 : lo.length ≤ 5000 := hle.lo
  have h3 : tx.length ≤ 5000 := hle.tx
  by_cases k1 : k = 1
  · subst k1; exact rfOne_start sp lo tx space A n cap ats w h hle h4
  · by_cases k2 : k = 2
    · subst k2; exact rfOne_end sp lo tx space A n cap w h1 h2 h3 h4
    · by_cases k3 : k = 3
      · subst k3; exact rfOne_text sp lo tx space A n cap w h1 h2 h3 h4
      · by_cases k4 : k = 4
        · subst k4; exact rfOne_pi sp lo tx space A n cap w h1 h2 h3 h4
        · by_cases k5 : k = 5
          · subst k5; exact rfOne_comment sp lo tx space A n cap w h1 h2 h3 h4
          · have he : cnOne ⟨k, sp, lo, ats, tx⟩ space = ([], space) := by simp [cnOne, k1, k2, k3, k4, k5]
            rw [he]
            exact rfOne_other sp lo tx space A n cap k w h1 h2 h3 h4 k1 k2 k3 k4 k5
end Go.Proofs.YthihkbcdihochaaGreatDoor
