/- Texts of ours, joined: RpF. -/
import Derived.Test.YtocbofeanfdggaaDoorRows
import Derived.WalkKit
import Derived.ProofKit
import Derived.OpenShut
import Derived.ShutString
import Derived.ChangeOld
import Derived.Below
import Derived.BigQuiet
import Derived.Deep.QuietTactic
import Derived.Lib.Hide
import Derived.Deep.RegionHeld3
import Derived.Lib.SlBytesConst
import Derived.Laws.CopyOwn
import Derived.Laws.CopyRow
import Derived.Lib.Bytes
import Derived.Deep.LoopGhost
import Derived.Deep.DeepFit
import Derived.Deep.DeepMust
import Derived.WalkSpells
import Derived.WalkLawsBesides
import Derived.Laws.EntriesVeiled
import Derived.Laws.Rows
import Derived.Deep.RegionWith
import Derived.Lib.ItoaNum
import Derived.Lib.AppendIntMem
import Derived.Test.YtocbofeanfdggaaDoorS1
import Derived.Test.YtocbofeanfdggaaDoorS2
import Derived.Test.YtocbofeanfdggaaDoorS3
import Derived.Test.YtocbofeanfdggaaDoorS5
import Derived.Test.YtocbofeanfdggaaDoorS6
import Derived.Test.YtocbofeanfdggaaDoorS7
import Derived.Test.YtocbofeanfdggaaDoorS8
import Derived.Test.YtocbofeanfdggaaDoorS9
import Derived.Test.YtocbofeanfdggaaDoorS10
import Derived.Test.YtocbofeanfdggaaDoorS11
import Derived.Test.YtocbofeanfdggaaDoorS12
import Derived.Test.YtocbofeanfdggaaDoorS13
/- The document's All (of layer 44). -/
namespace Go.Proofs.YtocbofeanfdggaaDoor
open Go.ChangeShapes Go.WideShapes Go.ChangeAt Go.RowKit
set_option linter.unusedVariables false
set_option maxRecDepth 100000 in
set_option maxHeartbeats 32000000 in
theorem refAll44_c (EA : Option Addr) (en ec : Nat) (vs : List EvV) (e c : Int) (SA : Option Addr) (sn sc : Nat) (ss : List (List UInt8)) (z0 z1 z2 z3 : Int) (w : World) (hE : ERd w w.heap.size EA en ec vs) (hen : en ≤ 100) (hle : ∀ v ∈ vs, EvLe 5000 v) (hS : RRd cSt 1 w w.heap.size SA sn sc ss) (hsn : sn ≤ 30) (hsl : ∀ s ∈ ss, s.length ≤ 200) (h0 : I64 z0) (h1 : I64 z1) (h2 : I64 z2) (h3 : I64 z3) :
    Calls Tryd.prog 8 #[.agg #[.slice EA en ec, .int .i64 e, .int .i64 c, .slice SA sn sc, .int .i64 z0, .int .i64 z1, .int .i64 z2, .int .i64 z3]] w fun e' w' => e' = .returned (.string ⟨(allL vs e c ss z0 z1 z2 z3).toArray⟩) ∧ Below w.heap.size w w' := by
  have HP : Hid (∀ W, Below w.heap.size w W → ERd W W.heap.size EA en ec vs) := Lib.hid fun W hb => (hE.below hb).more hb.size
  have HQ : Hid (∀ W, Below w.heap.size w W → RRd cSt 1 W W.heap.size SA sn sc ss) := Lib.hid fun W hb => (hS.below hb).more hb.size
  have HLE : Hid (vs.length = en) := Lib.hid hE.row.len
  have HLS : Hid (ss.length = sn) := Lib.hid hS.len
  have HE := Lib.hid hle
  have HSL := Lib.hid hsl
  have HBE : Hid (∀ t, ((vs.take t).flatMap evS).length ≤ 60000000000) := Lib.hid (evs_le9 (fun v hv => ⟨hle v hv, (hE.ats v hv).len⟩) (by rw [hE.row.len]; exact hen))
  have HBS : Hid (∀ t, ((ss.take t).flatMap fetL).length ≤ 60000) := Lib.hid (fets_le9 hsl (by rw [hS.len]; exact hsn))
  have CD0 : Hid (∀ W, Calls Tryd.prog 22 #[.int .i64 z0] W fun e' w' => e' = .returned (.string ⟨(Lib.itoa z0).toArray⟩) ∧ w' = W) := Lib.hid fun W => (refDigits44_c z0 h0.1 h0.2 W).mono fun e' w' ⟨a, b⟩ => ⟨a, b.symm⟩
  have CD1 : Hid (∀ W, Calls Tryd.prog 22 #[.int .i64 z1] W fun e' w' => e' = .returned (.string ⟨(Lib.itoa z1).toArray⟩) ∧ w' = W) := Lib.hid fun W => (refDigits44_c z1 h1.1 h1.2 W).mono fun e' w' ⟨a, b⟩ => ⟨a, b.symm⟩
  have CD2 : Hid (∀ W, Calls Tryd.prog 22 #[.int .i64 z2] W fun e' w' => e' = .returned (.string ⟨(Lib.itoa z2).toArray⟩) ∧ w' = W) := Lib.hid fun W => (refDigits44_c z2 h2.1 h2.2 W).mono fun e' w' ⟨a, b⟩ => ⟨a, b.symm⟩
  have CD3 : Hid (∀ W, Calls Tryd.prog 22 #[.int .i64 z3] W fun e' w' => e' = .returned (.string ⟨(Lib.itoa z3).toArray⟩) ∧ w' = W) := Lib.hid fun W => (refDigits44_c z3 h3.1 h3.2 W).mono fun e' w' ⟨a, b⟩ => ⟨a, b.symm⟩
  have HIL : Hid ((Lib.itoa z0).length ≤ 21 ∧ (Lib.itoa z1).length ≤ 21 ∧ (Lib.itoa z2).length ≤ 21 ∧ (Lib.itoa z3).length ≤ 21) := Lib.hid ⟨itoa_len z0 h0.1 h0.2, itoa_len z1 h1.1 h1.2, itoa_len z2 h2.1 h2.2, itoa_len z3 h3.1 h3.2⟩
  have J0 := Lib.hid (CJ.start 34 w #[.slice EA en ec, .int .i64 e, .int .i64 c, .slice SA sn sc, .int .i64 z0, .int .i64 z1, .int .i64 z2, .int .i64 z3])
  have HR0 : Hid (allL vs e c ss z0 z1 z2 z3 = (vs.take en).flatMap evS ++ resL c e ++ (ss.take sn).flatMap fetL ++ numL 0 z0 ++ numL 1 z1 ++ numL 2 z2 ++ numL 3 z3) := Lib.hid (by rw [List.take_of_length_le (by rw [hE.row.len]; exact Nat.le_refl _), List.take_of_length_le (by rw [hS.len]; exact Nat.le_refl _)]; rfl)
  obtain ⟨R, hR⟩ : ∃ q, allL vs e c ss z0 z1 z2 z3 = q := ⟨_, rfl⟩
  rw [hR] at HR0 ⊢
  clear hE hle hS hsl h0 h1 h2 h3 hR
  go_enter Tryd.func8, Tryd.ntmps8
  go_wp2
  go_loopg [3, 4] (en) (fun g s i wr => ∃ t : Nat, i = .int .i64 (t : Int) ∧ s = .string ⟨((vs.take t).flatMap evS).toArray⟩ ∧ t ≤ en ∧ Hid (g + t = en) ∧ Hid (CJ 34 w wr #[.slice EA en ec, .int .i64 e, .int .i64 c, .slice SA sn sc, .int .i64 z0, .int .i64 z1, .int .i64 z2, .int .i64 z3]))
  case atStart => exact ⟨0, rfl, rfl, Nat.zero_le _, Lib.hid rfl, J0⟩
  case round =>
    obtain ⟨t, rfl, rfl, ht, hg, HI⟩ := hrel
    have ht0 : (0 : Int) ≤ (t : Int) := by omega
    have ht9 : (t : Int) ≤ 100 := by omega
    have x0 := cell_of 0 HI.out.2
    by_cases htn : t < en
    · have hti : (t : Int) < (en : Int) := by omega
      obtain ⟨b1, o1, x, rfl, hb1, hx, hc1⟩ := (HP.out _ HI.out.1).row.cell htn
      have hmem := List.mem_of_getElem? hx
      have hex := HE.out x hmem
      have hrx := (HP.out _ HI.out.1).ats x hmem
      have HSS := Lib.hid (evs_snoc hx)
      have hll := evL_le hex hrx.len
      obtain ⟨⟨k, sp, lo, ats, tx⟩, XA, xn, xc⟩ := x
      have HXE : Hid (evS ⟨⟨k, sp, lo, ats, tx⟩, XA, xn, xc⟩ = evL k sp lo ats tx) := Lib.hid rfl
      simp only at hll
      have y0 : wr.cell? ⟨b1, o1 + t * 5, none⟩ = some (.int .i64 k) := by rw [show o1 + t * 5 = o1 + (t * 5 + 0) by omega]; exact hc1 0 _ rfl
      have y1 : wr.cell? ⟨b1, o1 + t * 5 + 1, none⟩ = some (.string ⟨sp.toArray⟩) := by rw [show o1 + t * 5 + 1 = o1 + (t * 5 + 1) by omega]; exact hc1 1 _ rfl
      have y2 : wr.cell? ⟨b1, o1 + t * 5 + 2, none⟩ = some (.string ⟨lo.toArray⟩) := by rw [show o1 + t * 5 + 2 = o1 + (t * 5 + 2) by omega]; exact hc1 2 _ rfl
      have y3 : wr.cell? ⟨b1, o1 + t * 5 + 3, none⟩ = some (.slice XA xn xc) := by rw [show o1 + t * 5 + 3 = o1 + (t * 5 + 3) by omega]; exact hc1 3 _ rfl
      have y4 : wr.cell? ⟨b1, o1 + t * 5 + 4, none⟩ = some (.string ⟨tx.toArray⟩) := by rw [show o1 + t * 5 + 4 = o1 + (t * 5 + 4) by omega]; exact hc1 4 _ rfl
      have C1 := Lib.hid (refEvent44_c k sp lo tx XA xn xc ats wr hrx hex)
      have hdl := HBE.out t
      rw [HXE.out] at HSS
      clear hb1 hx hc1 hmem hex hrx HXE
      obtain ⟨EL, hEL⟩ : ∃ q, evL k sp lo ats tx = q := ⟨_, rfl⟩
      rw [hEL] at HSS hll C1
      clear hEL
      obtain ⟨D, hD⟩ : ∃ q, (vs.take t).flatMap evS = q := ⟨_, rfl⟩
      rw [hD] at HSS hdl ⊢
      have p1 : ∀ w : World, (Op.stringOp .add ⟨D.toArray⟩ ⟨EL.toArray⟩).run Tryd.prog w = .ok (.string ⟨(D ++ EL).toArray⟩) w := fun w => run_sop (w := w) D EL (by omega)
      obtain ⟨D1, hD1⟩ : ∃ q, D ++ EL = q := ⟨_, rfl⟩
      rw [hD1] at p1 HSS
      clear hD hD1 hdl hll
      go_wp2_with fail
      refine C1.out.mono ?_
      rintro e' w2 ⟨rfl, hb2⟩
      have HI3 := Lib.hid (HI.out.kept hb2)
      clear hb2 C1 HI y0 y1 y2 y3 y4 x0
      go_wp2
      go_roundg (en - (t + 1))
      case measure => have := hg.out; omega
      case rel => exact ⟨t + 1, by go_num, by rw [HSS.out], by omega, Lib.hid (by have := hg.out; omega), HI3⟩
    · have hti : ¬ (t : Int) < (en : Int) := by omega
      obtain rfl : en = t := by omega
      have hdl := HBE.out en
      obtain ⟨D, hD⟩ : ∃ q, (vs.take en).flatMap evS = q := ⟨_, rfl⟩
      rw [hD] at hdl HR0 ⊢
      clear hD HP HE HBE
      have n1 := ofL_class_le c
      have n2 := ofL_word_le e
      have HCC : Hid (∀ W, Hid (CJ 34 w W #[.slice EA en ec, .int .i64 e, .int .i64 c, .slice SA sn sc, .int .i64 z0, .int .i64 z1, .int .i64 z2, .int .i64 z3]) → W.cell? ⟨w.heap.size, 1, none⟩ = some (.int .i64 e) ∧ W.cell? ⟨w.heap.size, 2, none⟩ = some (.int .i64 c)) := Lib.hid fun W hW => ⟨cell_of 1 hW.out.2, cell_of 2 hW.out.2⟩
      have CJ1 : Hid (∀ W, Hid (CJ 34 w W #[.slice EA en ec, .int .i64 e, .int .i64 c, .slice SA sn sc, .int .i64 z0, .int .i64 z1, .int .i64 z2, .int .i64 z3]) → Calls Tryd.prog 19 #[.int .i64 c] W fun e' w' => e' = .returned (.string ⟨(ofL classL c).toArray⟩) ∧ Hid (CJ 34 w w' #[.slice EA en ec, .int .i64 e, .int .i64 c, .slice SA sn sc, .int .i64 z0, .int .i64 z1, .int .i64 z2, .int .i64 z3]) ∧ w'.cell? ⟨w.heap.size, 1, none⟩ = some (.int .i64 e) ∧ w'.cell? ⟨w.heap.size, 2, none⟩ = some (.int .i64 c)) := Lib.hid fun W hW => (refClass_c c W).mono fun e' w' ⟨he, hb⟩ => ⟨he, Lib.hid (hW.out.kept hb), HCC.out _ (Lib.hid (hW.out.kept hb))⟩
      have CJ2 : Hid (∀ W, Hid (CJ 34 w W #[.slice EA en ec, .int .i64 e, .int .i64 c, .slice SA sn sc, .int .i64 z0, .int .i64 z1, .int .i64 z2, .int .i64 z3]) → Calls Tryd.prog 20 #[.int .i64 e] W fun e' w' => e' = .returned (.string ⟨(ofL wordL e).toArray⟩) ∧ Hid (CJ 34 w w' #[.slice EA en ec, .int .i64 e, .int .i64 c, .slice SA sn sc, .int .i64 z0, .int .i64 z1, .int .i64 z2, .int .i64 z3]) ∧ w'.cell? ⟨w.heap.size, 1, none⟩ = some (.int .i64 e) ∧ w'.cell? ⟨w.heap.size, 2, none⟩ = some (.int .i64 c)) := Lib.hid fun W hW => (refWord_c e W).mono fun e' w' ⟨he, hb⟩ => ⟨he, Lib.hid (hW.out.kept hb), HCC.out _ (Lib.hid (hW.out.kept hb))⟩
      have HRE : Hid (resL c e = [114, 101, 115, 117, 108, 116, 32] ++ ofL classL c ++ [32] ++ ofL wordL e ++ [10]) := Lib.hid rfl
      have n3 := resL_le c e
      obtain ⟨RL, hRL⟩ : ∃ q, resL c e = q := ⟨_, rfl⟩
      rw [hRL] at HRE HR0 n3
      obtain ⟨CL, hCL⟩ : ∃ q, ofL classL c = q := ⟨_, rfl⟩
      obtain ⟨WL, hWL⟩ : ∃ q, ofL wordL e = q := ⟨_, rfl⟩
      rw [hCL] at CJ1 n1 HRE
      rw [hWL] at CJ2 n2 HRE
      have HD5 : Hid (D ++ RL = D ++ [114, 101, 115, 117, 108, 116, 32] ++ CL ++ [32] ++ WL ++ [10]) := Lib.hid (by rw [HRE.out]; simp)
      have hdr : (D ++ RL).length ≤ 61000000000 := by rw [List.length_append]; omega
      have HDR := Lib.hid hdr
      have p0 : ∀ w : World, (Op.stringOp .add ⟨(D).toArray⟩ ⟨#[114, 101, 115, 117, 108, 116, 32]⟩).run Tryd.prog w = .ok (.string ⟨(D ++ [114, 101, 115, 117, 108, 116, 32]).toArray⟩) w := fun w => run_sop (w := w) (D) [114, 101, 115, 117, 108, 116, 32] (by simp only [List.length_cons, List.length_nil]; omega)
      have p1 : ∀ w : World, (Op.stringOp .add ⟨(D ++ [114, 101, 115, 117, 108, 116, 32]).toArray⟩ ⟨CL.toArray⟩).run Tryd.prog w = .ok (.string ⟨(D ++ [114, 101, 115, 117, 108, 116, 32] ++ CL).toArray⟩) w := fun w => run_sop (w := w) (D ++ [114, 101, 115, 117, 108, 116, 32]) CL (by simp only [List.length_append, List.length_cons, List.length_nil]; omega)
      have p2 : ∀ w : World, (Op.stringOp .add ⟨(D ++ [114, 101, 115, 117, 108, 116, 32] ++ CL).toArray⟩ ⟨#[32]⟩).run Tryd.prog w = .ok (.string ⟨(D ++ [114, 101, 115, 117, 108, 116, 32] ++ CL ++ [32]).toArray⟩) w := fun w => run_sop (w := w) (D ++ [114, 101, 115, 117, 108, 116, 32] ++ CL) [32] (by simp only [List.length_append, List.length_cons, List.length_nil]; omega)
      have p3 : ∀ w : World, (Op.stringOp .add ⟨(D ++ [114, 101, 115, 117, 108, 116, 32] ++ CL ++ [32]).toArray⟩ ⟨WL.toArray⟩).run Tryd.prog w = .ok (.string ⟨(D ++ [114, 101, 115, 117, 108, 116, 32] ++ CL ++ [32] ++ WL).toArray⟩) w := fun w => run_sop (w := w) (D ++ [114, 101, 115, 117, 108, 116, 32] ++ CL ++ [32]) WL (by simp only [List.length_append, List.length_cons, List.length_nil]; omega)
      have p4 : ∀ w : World, (Op.stringOp .add ⟨(D ++ [114, 101, 115, 117, 108, 116, 32] ++ CL ++ [32] ++ WL).toArray⟩ ⟨#[10]⟩).run Tryd.prog w = .ok (.string ⟨(D ++ [114, 101, 115, 117, 108, 116, 32] ++ CL ++ [32] ++ WL ++ [10]).toArray⟩) w := fun w => run_sop (w := w) (D ++ [114, 101, 115, 117, 108, 116, 32] ++ CL ++ [32] ++ WL) [10] (by simp only [List.length_append, List.length_cons, List.length_nil]; omega)
      obtain ⟨S4, hS4⟩ : ∃ q, D ++ [114, 101, 115, 117, 108, 116, 32] ++ CL ++ [32] ++ WL ++ [10] = q := ⟨_, rfl⟩
      obtain ⟨S3, hS3⟩ : ∃ q, D ++ [114, 101, 115, 117, 108, 116, 32] ++ CL ++ [32] ++ WL = q := ⟨_, rfl⟩
      obtain ⟨S2, hS2⟩ : ∃ q, D ++ [114, 101, 115, 117, 108, 116, 32] ++ CL ++ [32] = q := ⟨_, rfl⟩
      obtain ⟨S1, hS1⟩ : ∃ q, D ++ [114, 101, 115, 117, 108, 116, 32] ++ CL = q := ⟨_, rfl⟩
      obtain ⟨S0, hS0⟩ : ∃ q, D ++ [114, 101, 115, 117, 108, 116, 32] = q := ⟨_, rfl⟩
      rw [hS4] at p4
      rw [hS3] at p3 p4
      rw [hS2] at p2 p3
      rw [hS1] at p1 p2
      rw [hS0] at p0 p1
      rw [hS4] at HD5
      have a1 := HCC.out wr HI
      obtain ⟨a1, a2⟩ := a1
      have b1 : wr.drew.cell? ⟨w.heap.size, 1, none⟩ = some (.int .i64 e) := a1
      have b2 : wr.drew.cell? ⟨w.heap.size, 2, none⟩ = some (.int .i64 c) := a2
      have HId : Hid (CJ 34 w wr.drew #[.slice EA en ec, .int .i64 e, .int .i64 c, .slice SA sn sc, .int .i64 z0, .int .i64 z1, .int .i64 z2, .int .i64 z3]) := Lib.hid ⟨below_drewN' (n := 1) HI.out.1, HI.out.2⟩
      have HFB : ∀ W, Hid (CJ 34 w W #[.slice EA en ec, .int .i64 e, .int .i64 c, .slice SA sn sc, .int .i64 z0, .int .i64 z1, .int .i64 z2, .int .i64 z3]) → Hid (CJ 34 w W #[.slice EA en ec, .int .i64 e, .int .i64 c, .slice SA sn sc, .int .i64 z0, .int .i64 z1, .int .i64 z2, .int .i64 z3]) := fun _ h => h
      clear hS0 hS1 hS2 hS3 hS4 hRL hCL hWL n1 n2 n3 hdl hdr HRE HCC
      go_wp2_with fail
      clear x0
      go_region_held3 (fun w' => w'.cell? ⟨w.heap.size, 1, none⟩ = some (.int .i64 e) ∧ w'.cell? ⟨w.heap.size, 2, none⟩ = some (.int .i64 c) ∧ Hid (CJ 34 w w' #[.slice EA en ec, .int .i64 e, .int .i64 c, .slice SA sn sc, .int .i64 z0, .int .i64 z1, .int .i64 z2, .int .i64 z3])) (first | exact ⟨by assumption, by assumption, by assumption⟩) (first
        | (go_at_call 19; refine (CJ1.out _ (by assumption)).mono ?_; rintro e' W2 ⟨rfl, HQ2, g0, g1⟩)
        | (go_at_call 20; refine (CJ2.out _ (by assumption)).mono ?_; rintro e' W2 ⟨rfl, HQ2, g0, g1⟩))
      all_goals
        obtain ⟨W9, hW9⟩ : ∃ q, q = S4 := ⟨_, rfl⟩
        have HST : Hid (S4 = D ++ RL ++ (ss.take 0).flatMap fetL) := Lib.hid (by rw [← HD5.out]; simp)
        obtain ⟨D2, hD2⟩ : ∃ q, D ++ RL = q := ⟨_, rfl⟩
        rw [hD2] at HST HDR HR0
        clear hD2 hW9 HD5 p0 p1 p2 p3 p4
        go_wp2
        go_loopg [3, 5] (sn) (fun g s i wr => ∃ t : Nat, i = .int .i64 (t : Int) ∧ s = .string ⟨(D2 ++ (ss.take t).flatMap fetL).toArray⟩ ∧ t ≤ sn ∧ Hid (g + t = sn) ∧ Hid (CJ 34 w wr #[.slice EA en ec, .int .i64 e, .int .i64 c, .slice SA sn sc, .int .i64 z0, .int .i64 z1, .int .i64 z2, .int .i64 z3]))
        case atStart => exact ⟨0, rfl, by rw [HST.out], Nat.zero_le _, Lib.hid rfl, HFB _ (by assumption)⟩
        case round =>
          obtain ⟨t, rfl, rfl, ht, hg, HI⟩ := hrel
          have ht0 : (0 : Int) ≤ (t : Int) := by omega
          have ht9 : (t : Int) ≤ 30 := by omega
          have hfl := HBS.out t
          have x3 := cell_of 3 HI.out.2
          obtain ⟨D3, hD3⟩ : ∃ q, D2 ++ (ss.take t).flatMap fetL = q := ⟨_, rfl⟩
          have hd3 : D3.length ≤ 62000000000 := by rw [← hD3, List.length_append]; have := HDR.out; omega
          by_cases htn : t < sn
          · have hti : (t : Int) < (sn : Int) := by omega
            obtain ⟨q1, o1, x, rfl, hq1, hx, hc1⟩ := (HQ.out _ HI.out.1).cell htn
            have hsx := HSL.out x (List.mem_of_getElem? hx)
            have HSS := Lib.hid (fets_snoc hx)
            have y0 : wr.cell? ⟨q1, o1 + t, none⟩ = some (.string ⟨x.toArray⟩) := by rw [show o1 + t = o1 + (t * 1 + 0) by omega]; exact hc1 0 _ rfl
            have C1 := Lib.hid (refEscape_c x wr (by omega))
            have m1 := esc_le x
            have HSD : Hid (D2 ++ (ss.take (t + 1)).flatMap fetL = D3 ++ [102, 101, 116, 99, 104, 101, 100, 32] ++ esc x ++ [10]) := Lib.hid (by rw [HSS.out, ← List.append_assoc, hD3]; simp [fetL])
            obtain ⟨X, hX⟩ : ∃ q, esc x = q := ⟨_, rfl⟩
            rw [hX] at C1 HSD m1
            rw [hD3]
            have p0 : ∀ w : World, (Op.stringOp .add ⟨(D3).toArray⟩ ⟨#[102, 101, 116, 99, 104, 101, 100, 32]⟩).run Tryd.prog w = .ok (.string ⟨(D3 ++ [102, 101, 116, 99, 104, 101, 100, 32]).toArray⟩) w := fun w => run_sop (w := w) (D3) [102, 101, 116, 99, 104, 101, 100, 32] (by simp only [List.length_cons, List.length_nil]; omega)
            have p1 : ∀ w : World, (Op.stringOp .add ⟨(D3 ++ [102, 101, 116, 99, 104, 101, 100, 32]).toArray⟩ ⟨X.toArray⟩).run Tryd.prog w = .ok (.string ⟨(D3 ++ [102, 101, 116, 99, 104, 101, 100, 32] ++ X).toArray⟩) w := fun w => run_sop (w := w) (D3 ++ [102, 101, 116, 99, 104, 101, 100, 32]) X (by simp only [List.length_append, List.length_cons, List.length_nil]; omega)
            have p2 : ∀ w : World, (Op.stringOp .add ⟨(D3 ++ [102, 101, 116, 99, 104, 101, 100, 32] ++ X).toArray⟩ ⟨#[10]⟩).run Tryd.prog w = .ok (.string ⟨(D3 ++ [102, 101, 116, 99, 104, 101, 100, 32] ++ X ++ [10]).toArray⟩) w := fun w => run_sop (w := w) (D3 ++ [102, 101, 116, 99, 104, 101, 100, 32] ++ X) [10] (by simp only [List.length_append, List.length_cons, List.length_nil]; omega)
            obtain ⟨T2, hT2⟩ : ∃ q, D3 ++ [102, 101, 116, 99, 104, 101, 100, 32] ++ X ++ [10] = q := ⟨_, rfl⟩
            obtain ⟨T1, hT1⟩ : ∃ q, D3 ++ [102, 101, 116, 99, 104, 101, 100, 32] ++ X = q := ⟨_, rfl⟩
            obtain ⟨T0, hT0⟩ : ∃ q, D3 ++ [102, 101, 116, 99, 104, 101, 100, 32] = q := ⟨_, rfl⟩
            rw [hT2] at p2
            rw [hT1] at p1 p2
            rw [hT0] at p0 p1
            rw [hT2] at HSD
            clear hX hD3 hq1 hx hc1 hsx HSS hfl hd3 m1 hT0 hT1 hT2
            go_wp2_with fail
            refine C1.out.mono ?_
            rintro e' u1 ⟨rfl, rfl⟩
            clear C1 x3 y0
            go_wp2
            go_roundg (sn - (t + 1))
            case measure => have := hg.out; omega
            case rel => exact ⟨t + 1, by go_num, by rw [HSD.out], by omega, Lib.hid (by have := hg.out; omega), HI⟩
          · have hti : ¬ (t : Int) < (sn : Int) := by omega
            obtain rfl : sn = t := by omega
            have f4 := cell_of 4 HI.out.2
            have f5 := cell_of 5 HI.out.2
            have f6 := cell_of 6 HI.out.2
            have f7 := cell_of 7 HI.out.2
            obtain ⟨i0, i1, i2, i3⟩ := HIL.out
            rw [hD3] at HR0 ⊢
            have HR9 : Hid (R = D3 ++ [114, 101, 97, 100, 32] ++ Lib.itoa z0 ++ [10, 115, 112, 101, 110, 116, 32] ++ Lib.itoa z1 ++ [10, 111, 117, 116, 32] ++ Lib.itoa z2 ++ [10, 119, 111, 114, 107, 32] ++ Lib.itoa z3 ++ [10]) := Lib.hid (by rw [HR0.out]; simp [numL])
            obtain ⟨I0, hI0⟩ : ∃ q, Lib.itoa z0 = q := ⟨_, rfl⟩
            obtain ⟨I1, hI1⟩ : ∃ q, Lib.itoa z1 = q := ⟨_, rfl⟩
            obtain ⟨I2, hI2⟩ : ∃ q, Lib.itoa z2 = q := ⟨_, rfl⟩
            obtain ⟨I3, hI3⟩ : ∃ q, Lib.itoa z3 = q := ⟨_, rfl⟩
            rw [hI0] at CD0 HR9 i0
            rw [hI1] at CD1 HR9 i1
            rw [hI2] at CD2 HR9 i2
            rw [hI3] at CD3 HR9 i3
            have p0 : ∀ w : World, (Op.stringOp .add ⟨(D3).toArray⟩ ⟨#[114, 101, 97, 100, 32]⟩).run Tryd.prog w = .ok (.string ⟨(D3 ++ [114, 101, 97, 100, 32]).toArray⟩) w := fun w => run_sop (w := w) (D3) [114, 101, 97, 100, 32] (by simp only [List.length_cons, List.length_nil]; omega)
            have p1 : ∀ w : World, (Op.stringOp .add ⟨(D3 ++ [114, 101, 97, 100, 32]).toArray⟩ ⟨I0.toArray⟩).run Tryd.prog w = .ok (.string ⟨(D3 ++ [114, 101, 97, 100, 32] ++ I0).toArray⟩) w := fun w => run_sop (w := w) (D3 ++ [114, 101, 97, 100, 32]) I0 (by simp only [List.length_append, List.length_cons, List.length_nil]; omega)
            have p2 : ∀ w : World, (Op.stringOp .add ⟨(D3 ++ [114, 101, 97, 100, 32] ++ I0).toArray⟩ ⟨#[10, 115, 112, 101, 110, 116, 32]⟩).run Tryd.prog w = .ok (.string ⟨(D3 ++ [114, 101, 97, 100, 32] ++ I0 ++ [10, 115, 112, 101, 110, 116, 32]).toArray⟩) w := fun w => run_sop (w := w) (D3 ++ [114, 101, 97, 100, 32] ++ I0) [10, 115, 112, 101, 110, 116, 32] (by simp only [List.length_append, List.length_cons, List.length_nil]; omega)
            have p3 : ∀ w : World, (Op.stringOp .add ⟨(D3 ++ [114, 101, 97, 100, 32] ++ I0 ++ [10, 115, 112, 101, 110, 116, 32]).toArray⟩ ⟨I1.toArray⟩).run Tryd.prog w = .ok (.string ⟨(D3 ++ [114, 101, 97, 100, 32] ++ I0 ++ [10, 115, 112, 101, 110, 116, 32] ++ I1).toArray⟩) w := fun w => run_sop (w := w) (D3 ++ [114, 101, 97, 100, 32] ++ I0 ++ [10, 115, 112, 101, 110, 116, 32]) I1 (by simp only [List.length_append, List.length_cons, List.length_nil]; omega)
            have p4 : ∀ w : World, (Op.stringOp .add ⟨(D3 ++ [114, 101, 97, 100, 32] ++ I0 ++ [10, 115, 112, 101, 110, 116, 32] ++ I1).toArray⟩ ⟨#[10, 111, 117, 116, 32]⟩).run Tryd.prog w = .ok (.string ⟨(D3 ++ [114, 101, 97, 100, 32] ++ I0 ++ [10, 115, 112, 101, 110, 116, 32] ++ I1 ++ [10, 111, 117, 116, 32]).toArray⟩) w := fun w => run_sop (w := w) (D3 ++ [114, 101, 97, 100, 32] ++ I0 ++ [10, 115, 112, 101, 110, 116, 32] ++ I1) [10, 111, 117, 116, 32] (by simp only [List.length_append, List.length_cons, List.length_nil]; omega)
            have p5 : ∀ w : World, (Op.stringOp .add ⟨(D3 ++ [114, 101, 97, 100, 32] ++ I0 ++ [10, 115, 112, 101, 110, 116, 32] ++ I1 ++ [10, 111, 117, 116, 32]).toArray⟩ ⟨I2.toArray⟩).run Tryd.prog w = .ok (.string ⟨(D3 ++ [114, 101, 97, 100, 32] ++ I0 ++ [10, 115, 112, 101, 110, 116, 32] ++ I1 ++ [10, 111, 117, 116, 32] ++ I2).toArray⟩) w := fun w => run_sop (w := w) (D3 ++ [114, 101, 97, 100, 32] ++ I0 ++ [10, 115, 112, 101, 110, 116, 32] ++ I1 ++ [10, 111, 117, 116, 32]) I2 (by simp only [List.length_append, List.length_cons, List.length_nil]; omega)
            have p6 : ∀ w : World, (Op.stringOp .add ⟨(D3 ++ [114, 101, 97, 100, 32] ++ I0 ++ [10, 115, 112, 101, 110, 116, 32] ++ I1 ++ [10, 111, 117, 116, 32] ++ I2).toArray⟩ ⟨#[10, 119, 111, 114, 107, 32]⟩).run Tryd.prog w = .ok (.string ⟨(D3 ++ [114, 101, 97, 100, 32] ++ I0 ++ [10, 115, 112, 101, 110, 116, 32] ++ I1 ++ [10, 111, 117, 116, 32] ++ I2 ++ [10, 119, 111, 114, 107, 32]).toArray⟩) w := fun w => run_sop (w := w) (D3 ++ [114, 101, 97, 100, 32] ++ I0 ++ [10, 115, 112, 101, 110, 116, 32] ++ I1 ++ [10, 111, 117, 116, 32] ++ I2) [10, 119, 111, 114, 107, 32] (by simp only [List.length_append, List.length_cons, List.length_nil]; omega)
            have p7 : ∀ w : World, (Op.stringOp .add ⟨(D3 ++ [114, 101, 97, 100, 32] ++ I0 ++ [10, 115, 112, 101, 110, 116, 32] ++ I1 ++ [10, 111, 117, 116, 32] ++ I2 ++ [10, 119, 111, 114, 107, 32]).toArray⟩ ⟨I3.toArray⟩).run Tryd.prog w = .ok (.string ⟨(D3 ++ [114, 101, 97, 100, 32] ++ I0 ++ [10, 115, 112, 101, 110, 116, 32] ++ I1 ++ [10, 111, 117, 116, 32] ++ I2 ++ [10, 119, 111, 114, 107, 32] ++ I3).toArray⟩) w := fun w => run_sop (w := w) (D3 ++ [114, 101, 97, 100, 32] ++ I0 ++ [10, 115, 112, 101, 110, 116, 32] ++ I1 ++ [10, 111, 117, 116, 32] ++ I2 ++ [10, 119, 111, 114, 107, 32]) I3 (by simp only [List.length_append, List.length_cons, List.length_nil]; omega)
            have p8 : ∀ w : World, (Op.stringOp .add ⟨(D3 ++ [114, 101, 97, 100, 32] ++ I0 ++ [10, 115, 112, 101, 110, 116, 32] ++ I1 ++ [10, 111, 117, 116, 32] ++ I2 ++ [10, 119, 111, 114, 107, 32] ++ I3).toArray⟩ ⟨#[10]⟩).run Tryd.prog w = .ok (.string ⟨(D3 ++ [114, 101, 97, 100, 32] ++ I0 ++ [10, 115, 112, 101, 110, 116, 32] ++ I1 ++ [10, 111, 117, 116, 32] ++ I2 ++ [10, 119, 111, 114, 107, 32] ++ I3 ++ [10]).toArray⟩) w := fun w => run_sop (w := w) (D3 ++ [114, 101, 97, 100, 32] ++ I0 ++ [10, 115, 112, 101, 110, 116, 32] ++ I1 ++ [10, 111, 117, 116, 32] ++ I2 ++ [10, 119, 111, 114, 107, 32] ++ I3) [10] (by simp only [List.length_append, List.length_cons, List.length_nil]; omega)
            obtain ⟨U8, hU8⟩ : ∃ q, D3 ++ [114, 101, 97, 100, 32] ++ I0 ++ [10, 115, 112, 101, 110, 116, 32] ++ I1 ++ [10, 111, 117, 116, 32] ++ I2 ++ [10, 119, 111, 114, 107, 32] ++ I3 ++ [10] = q := ⟨_, rfl⟩
            obtain ⟨U7, hU7⟩ : ∃ q, D3 ++ [114, 101, 97, 100, 32] ++ I0 ++ [10, 115, 112, 101, 110, 116, 32] ++ I1 ++ [10, 111, 117, 116, 32] ++ I2 ++ [10, 119, 111, 114, 107, 32] ++ I3 = q := ⟨_, rfl⟩
            obtain ⟨U6, hU6⟩ : ∃ q, D3 ++ [114, 101, 97, 100, 32] ++ I0 ++ [10, 115, 112, 101, 110, 116, 32] ++ I1 ++ [10, 111, 117, 116, 32] ++ I2 ++ [10, 119, 111, 114, 107, 32] = q := ⟨_, rfl⟩
            obtain ⟨U5, hU5⟩ : ∃ q, D3 ++ [114, 101, 97, 100, 32] ++ I0 ++ [10, 115, 112, 101, 110, 116, 32] ++ I1 ++ [10, 111, 117, 116, 32] ++ I2 = q := ⟨_, rfl⟩
            obtain ⟨U4, hU4⟩ : ∃ q, D3 ++ [114, 101, 97, 100, 32] ++ I0 ++ [10, 115, 112, 101, 110, 116, 32] ++ I1 ++ [10, 111, 117, 116, 32] = q := ⟨_, rfl⟩
            obtain ⟨U3, hU3⟩ : ∃ q, D3 ++ [114, 101, 97, 100, 32] ++ I0 ++ [10, 115, 112, 101, 110, 116, 32] ++ I1 = q := ⟨_, rfl⟩
            obtain ⟨U2, hU2⟩ : ∃ q, D3 ++ [114, 101, 97, 100, 32] ++ I0 ++ [10, 115, 112, 101, 110, 116, 32] = q := ⟨_, rfl⟩
            obtain ⟨U1, hU1⟩ : ∃ q, D3 ++ [114, 101, 97, 100, 32] ++ I0 = q := ⟨_, rfl⟩
            obtain ⟨U0, hU0⟩ : ∃ q, D3 ++ [114, 101, 97, 100, 32] = q := ⟨_, rfl⟩
            rw [hU8] at p8
            rw [hU7] at p7 p8
            rw [hU6] at p6 p7
            rw [hU5] at p5 p6
            rw [hU4] at p4 p5
            rw [hU3] at p3 p4
            rw [hU2] at p2 p3
            rw [hU1] at p1 p2
            rw [hU0] at p0 p1
            rw [hU8] at HR9
            clear hU0 hU1 hU2 hU3 hU4 hU5 hU6 hU7 hU8 i0 i1 i2 i3 hI0 hI1 hI2 hI3 hD3 hd3 hfl HR0 HIL HQ HSL HBS
            go_wp2_with fail
            go_quiet ((go_at_call 22; (first | with_reducible exact Calls.quiet_of_same (CD0.out _) | with_reducible exact Calls.quiet_of_same (CD1.out _) | with_reducible exact Calls.quiet_of_same (CD2.out _) | with_reducible exact Calls.quiet_of_same (CD3.out _))))
            go_wp2
            go_ret
            exact ⟨by rw [HR9.out]; rfl, below_drewN' HI.out.1⟩
end Go.Proofs.YtocbofeanfdggaaDoor
