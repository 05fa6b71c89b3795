/- Texts of ours, joined: RpE. -/
import Derived.Test.YtocbofeanfdggaaDoorRows
import Derived.WalkKit
import Derived.ProofKit
import Derived.OpenShut
import Derived.ShutString
import Derived.ChangeOld
import Derived.Below
import Derived.BigQuiet
import Derived.Deep.QuietTactic
import Derived.Lib.Hide
import Derived.Deep.RegionHeld3
import Derived.Lib.SlBytesConst
import Derived.Laws.CopyOwn
import Derived.Laws.CopyRow
import Derived.Lib.Bytes
import Derived.Deep.LoopGhost
import Derived.Deep.DeepFit
import Derived.Deep.DeepMust
import Derived.WalkSpells
import Derived.WalkLawsBesides
import Derived.Laws.EntriesVeiled
import Derived.Laws.Rows
import Derived.Deep.RegionWith
import Derived.Lib.ItoaNum
import Derived.Lib.AppendIntMem
import Derived.Test.YtocbofeanfdggaaDoorS1
import Derived.Test.YtocbofeanfdggaaDoorS2
import Derived.Test.YtocbofeanfdggaaDoorS3
import Derived.Test.YtocbofeanfdggaaDoorS5
import Derived.Test.YtocbofeanfdggaaDoorS6
import Derived.Test.YtocbofeanfdggaaDoorS7
import Derived.Test.YtocbofeanfdggaaDoorS8
import Derived.Test.YtocbofeanfdggaaDoorS9
import Derived.Test.YtocbofeanfdggaaDoorS10
import Derived.Test.YtocbofeanfdggaaDoorS11
import Derived.Test.YtocbofeanfdggaaDoorS12
import Derived.Test.YtocbofeanfdggaaDoorS13
/- report.All. -/
namespace Go.Proofs.YtocbofeanfdggaaDoor
open Go.ChangeShapes Go.WideShapes Go.ChangeAt Go.RowKit
set_option linter.unusedVariables false
set_option maxRecDepth 100000 in
set_option maxHeartbeats 32000000 in
theorem repAll_c (EA : Option Addr) (en ec : Nat) (vs : List EvV) (e c : Int) (SA : Option Addr) (sn sc : Nat) (ss : List (List UInt8)) (z0 z1 z2 z3 : Int) (w : World) (hE : ERd w w.heap.size EA en ec vs) (hen : en ≤ 100) (hle : ∀ v ∈ vs, EvLe 5000 v) (hS : RRd cSt 1 w w.heap.size SA sn sc ss) (hsn : sn ≤ 30) (hsl : ∀ s ∈ ss, s.length ≤ 200) (h0 : I64 z0) (h1 : I64 z1) (h2 : I64 z2) (h3 : I64 z3) (hW : W44 w) :
    Calls Tryd.prog 11 #[.agg #[.slice EA en ec, .int .i64 e, .int .i64 c, .slice SA sn sc, .int .i64 z0, .int .i64 z1, .int .i64 z2, .int .i64 z3]] w fun e' w' => e' = .returned (.string ⟨(allL vs e c ss z0 z1 z2 z3).toArray⟩) ∧ Below w.heap.size w w' := by
  have HP : Hid (∀ W, Below w.heap.size w W → ERd W W.heap.size EA en ec vs) := Lib.hid fun W hb => (hE.below hb).more hb.size
  have HQ : Hid (∀ W, Below w.heap.size w W → RRd cSt 1 W W.heap.size SA sn sc ss) := Lib.hid fun W hb => (hS.below hb).more hb.size
  have HLE : Hid (vs.length = en) := Lib.hid hE.row.len
  have HLS : Hid (ss.length = sn) := Lib.hid hS.len
  have HE := Lib.hid hle
  have HSL := Lib.hid hsl
  have HBE : Hid (∀ t, ((vs.take t).flatMap evS).length ≤ 60000000000) := Lib.hid (evs_le9 (fun v hv => ⟨hle v hv, (hE.ats v hv).len⟩) (by rw [hE.row.len]; exact hen))
  have HBS : Hid (∀ t, ((ss.take t).flatMap fetL).length ≤ 60000) := Lib.hid (fets_le9 hsl (by rw [hS.len]; exact hsn))
  have HW : Hid (∀ W, Below w.heap.size w W → W44 W) := Lib.hid fun W hb => hW.below hb
  have HI0 := Lib.hid h0
  have HI1 := Lib.hid h1
  have HI2 := Lib.hid h2
  have HI3 := Lib.hid h3
  have WS : Hid (∀ l s w1, EvG 31 #[.slice EA en ec, .int .i64 e, .int .i64 c, .slice SA sn sc, .int .i64 z0, .int .i64 z1, .int .i64 z2, .int .i64 z3] l w w1 → l.length ≤ 100000000000 → s.length ≤ 100000000000 → Calls Tryd.prog 23 #[.pointer (some ⟨w.heap.size + 1, 0, none⟩), .string ⟨s.toArray⟩] w1 fun e' w' => e' = .returned (.tuple #[.int .i64 s.length, .nilIface]) ∧ EvG 31 #[.slice EA en ec, .int .i64 e, .int .i64 c, .slice SA sn sc, .int .i64 z0, .int .i64 z1, .int .i64 z2, .int .i64 z3] (l ++ s) w w') := Lib.hid fun l s w1 h h1 h2 =>
    (writeString_b (w.heap.size + 2) (w.heap.size + 1) l s w1 h.2.2.1 (by omega) h.2.2.2).mono fun e' w' ⟨he, hB, hf⟩ => ⟨he, h.wrote hB hf⟩
  have EX : Hid (∀ (x : List UInt8) w1, x.length ≤ 200 → Calls Tryd.prog 26 #[.string ⟨x.toArray⟩] w1 fun e' w' => e' = .returned (.string ⟨(esc x).toArray⟩) ∧ Below w1.heap.size w1 w') := Lib.hid fun x w1 a => escape_c x w1 (by omega)
  have I0 := Lib.hid (EvG.start 31 #[.slice EA en ec, .int .i64 e, .int .i64 c, .slice SA sn sc, .int .i64 z0, .int .i64 z1, .int .i64 z2, .int .i64 z3] w)
  have x0 := cell_of 0 I0.out.2.1
  have HR0 : Hid (allL vs e c ss z0 z1 z2 z3 = (vs.take en).flatMap evS ++ resL c e ++ (ss.take sn).flatMap fetL ++ numL 0 z0 ++ numL 1 z1 ++ numL 2 z2 ++ numL 3 z3) := Lib.hid (by rw [List.take_of_length_le (by rw [hE.row.len]; exact Nat.le_refl _), List.take_of_length_le (by rw [hS.len]; exact Nat.le_refl _)]; rfl)
  obtain ⟨R, hR⟩ : ∃ q, allL vs e c ss z0 z1 z2 z3 = q := ⟨_, rfl⟩
  rw [hR] at HR0 ⊢
  clear hE hle hS hsl hW h0 h1 h2 h3 hR
  go_enter Tryd.func11, Tryd.ntmps11
  go_wp2_with fail
  go_loopg [13] (en) (fun g i wr => ∃ t : Nat, i = .int .i64 (t : Int) ∧ t ≤ en ∧ Hid (g + t = en) ∧ Hid (EvG 31 #[.slice EA en ec, .int .i64 e, .int .i64 c, .slice SA sn sc, .int .i64 z0, .int .i64 z1, .int .i64 z2, .int .i64 z3] ((vs.take t).flatMap evS) w wr))
  case atStart => exact ⟨0, rfl, Nat.zero_le _, Lib.hid rfl, I0⟩
  case round =>
    clear x0
    obtain ⟨t, rfl, ht, hg, HI⟩ := hrel
    have ht0 : (0 : Int) ≤ (t : Int) := by omega
    have ht9 : (t : Int) ≤ 100 := by omega
    by_cases htn : t < en
    · have hti : (t : Int) < (en : Int) := by omega
      obtain ⟨b1, o1, x, rfl, hb1, hx, hc1⟩ := (HP.out _ HI.out.1).row.cell htn
      have hmem := List.mem_of_getElem? hx
      have hex := HE.out x hmem
      have hrx := (HP.out _ HI.out.1).ats x hmem
      have HSS := Lib.hid (evs_snoc hx)
      have hll := evL_le hex hrx.len
      obtain ⟨⟨k, sp, lo, ats, tx⟩, XA, xn, xc⟩ := x
      have HXE : Hid (evS ⟨⟨k, sp, lo, ats, tx⟩, XA, xn, xc⟩ = evL k sp lo ats tx) := Lib.hid rfl
      simp only at hll
      have y0 : wr.cell? ⟨b1, o1 + t * 5, none⟩ = some (.int .i64 k) := by rw [show o1 + t * 5 = o1 + (t * 5 + 0) by omega]; exact hc1 0 _ rfl
      have y1 : wr.cell? ⟨b1, o1 + t * 5 + 1, none⟩ = some (.string ⟨sp.toArray⟩) := by rw [show o1 + t * 5 + 1 = o1 + (t * 5 + 1) by omega]; exact hc1 1 _ rfl
      have y2 : wr.cell? ⟨b1, o1 + t * 5 + 2, none⟩ = some (.string ⟨lo.toArray⟩) := by rw [show o1 + t * 5 + 2 = o1 + (t * 5 + 2) by omega]; exact hc1 2 _ rfl
      have y3 : wr.cell? ⟨b1, o1 + t * 5 + 3, none⟩ = some (.slice XA xn xc) := by rw [show o1 + t * 5 + 3 = o1 + (t * 5 + 3) by omega]; exact hc1 3 _ rfl
      have y4 : wr.cell? ⟨b1, o1 + t * 5 + 4, none⟩ = some (.string ⟨tx.toArray⟩) := by rw [show o1 + t * 5 + 4 = o1 + (t * 5 + 4) by omega]; exact hc1 4 _ rfl
      have ka := (Below.refl wr.heap.size wr).alloc (Nat.le_refl _) (.cells #[.int .i64 k, .string ⟨sp.toArray⟩, .string ⟨lo.toArray⟩, .slice XA xn xc, .string ⟨tx.toArray⟩] 40)
      have C1 := Lib.hid (repEvent_c k sp lo tx XA xn xc ats _ (hrx.up ka) hex)
      have HI2a := Lib.hid (HI.out.kept ka)
      have hdl := HBE.out t
      rw [HXE.out] at HSS
      clear hb1 hx hc1 hmem hex hrx ka HXE
      obtain ⟨EL, hEL⟩ : ∃ q, evL k sp lo ats tx = q := ⟨_, rfl⟩
      rw [hEL] at HSS hll C1
      clear hEL
      obtain ⟨D, hD⟩ : ∃ q, (vs.take t).flatMap evS = q := ⟨_, rfl⟩
      rw [hD] at HSS HI2a hdl
      clear hD HI
      go_wp2_with fail
      refine C1.out.mono ?_
      rintro e' w2 ⟨rfl, hb2⟩
      have HI3a := Lib.hid (HI2a.out.kept hb2)
      clear hb2 C1 HI2a y0 y1 y2 y3 y4
      go_wp2_with fail
      refine (WS.out D EL w2 HI3a.out (by omega) (by omega)).mono ?_
      rintro e' w3 ⟨rfl, hI⟩
      have HI4 := Lib.hid hI
      clear hI HI3a hdl hll
      go_wp2
      go_roundg (en - (t + 1))
      case measure => have := hg.out; omega
      case rel => exact ⟨t + 1, by go_num, by omega, Lib.hid (by have := hg.out; omega), Lib.hid (by rw [HSS.out]; exact HI4.out)⟩
    · have hti : ¬ (t : Int) < (en : Int) := by omega
      obtain rfl : en = t := by omega
      have hdl := HBE.out en
      obtain ⟨D, hD⟩ : ∃ q, (vs.take en).flatMap evS = q := ⟨_, rfl⟩
      rw [hD] at HI hdl HR0
      clear hD HP HE HBE
      have n1 := ofL_class_le c
      have n2 := ofL_word_le e
      have n3 := resL_le c e
      have HRL : Hid (joinB [[114, 101, 115, 117, 108, 116], ofL classL c, ofL wordL e] ++ [10] = resL c e) := Lib.hid (by rw [join_three]; simp [resL])
      have LX := Lib.hid (fun w1 => lnAt_3 [114, 101, 115, 117, 108, 116] (ofL classL c) (ofL wordL e) w1 (by simp) (by omega) (by omega))
      rw [HRL.out] at LX
      have CC0 : Hid (∀ W, Below w.heap.size w W → Calls Tryd.prog 29 #[.int .i64 c] W fun e' w' => e' = .returned (.string ⟨(ofL classL c).toArray⟩) ∧ W = w') := Lib.hid fun W hb => repClass_c c W (HW.out W hb).cls
      have CW0 : Hid (∀ W, Below w.heap.size w W → Calls Tryd.prog 30 #[.int .i64 e] W fun e' w' => e' = .returned (.string ⟨(ofL wordL e).toArray⟩) ∧ W = w') := Lib.hid fun W hb => repWord_c e W (HW.out W hb).wrd
      obtain ⟨CL, hCL⟩ : ∃ q, ofL classL c = q := ⟨_, rfl⟩
      obtain ⟨WL, hWL⟩ : ∃ q, ofL wordL e = q := ⟨_, rfl⟩
      obtain ⟨RL, hRL⟩ : ∃ q, resL c e = q := ⟨_, rfl⟩
      rw [hCL] at LX CC0
      rw [hWL] at LX CW0
      rw [hRL] at LX n3 HR0
      have HCC : Hid (∀ W, Hid (EvG 31 #[.slice EA en ec, .int .i64 e, .int .i64 c, .slice SA sn sc, .int .i64 z0, .int .i64 z1, .int .i64 z2, .int .i64 z3] D w W) → W.cell? ⟨w.heap.size, 1, none⟩ = some (.int .i64 e) ∧ W.cell? ⟨w.heap.size, 2, none⟩ = some (.int .i64 c)) := Lib.hid fun W hW => ⟨cell_of 1 hW.out.2.1, cell_of 2 hW.out.2.1⟩
      have CJ1 : Hid (∀ W, Hid (EvG 31 #[.slice EA en ec, .int .i64 e, .int .i64 c, .slice SA sn sc, .int .i64 z0, .int .i64 z1, .int .i64 z2, .int .i64 z3] D w W) → Calls Tryd.prog 29 #[.int .i64 c] W fun e' w' => e' = .returned (.string ⟨CL.toArray⟩) ∧ Hid (EvG 31 #[.slice EA en ec, .int .i64 e, .int .i64 c, .slice SA sn sc, .int .i64 z0, .int .i64 z1, .int .i64 z2, .int .i64 z3] D w w') ∧ w'.cell? ⟨w.heap.size, 1, none⟩ = some (.int .i64 e) ∧ w'.cell? ⟨w.heap.size, 2, none⟩ = some (.int .i64 c)) := Lib.hid fun W hW => (CC0.out W hW.out.1).mono fun e' w' ⟨he, hw⟩ => by subst hw; exact ⟨he, hW, HCC.out _ hW⟩
      have CJ2 : Hid (∀ W, Hid (EvG 31 #[.slice EA en ec, .int .i64 e, .int .i64 c, .slice SA sn sc, .int .i64 z0, .int .i64 z1, .int .i64 z2, .int .i64 z3] D w W) → Calls Tryd.prog 30 #[.int .i64 e] W fun e' w' => e' = .returned (.string ⟨WL.toArray⟩) ∧ Hid (EvG 31 #[.slice EA en ec, .int .i64 e, .int .i64 c, .slice SA sn sc, .int .i64 z0, .int .i64 z1, .int .i64 z2, .int .i64 z3] D w w') ∧ w'.cell? ⟨w.heap.size, 1, none⟩ = some (.int .i64 e) ∧ w'.cell? ⟨w.heap.size, 2, none⟩ = some (.int .i64 c)) := Lib.hid fun W hW => (CW0.out W hW.out.1).mono fun e' w' ⟨he, hw⟩ => by subst hw; exact ⟨he, hW, HCC.out _ hW⟩
      have LJ : Hid (∀ w1, Hid (EvG 31 #[.slice EA en ec, .int .i64 e, .int .i64 c, .slice SA sn sc, .int .i64 z0, .int .i64 z1, .int .i64 z2, .int .i64 z3] D w w1) → Calls Tryd.prog 24 #[.slice (some ⟨w1.heap.size, 0, none⟩) 3 3] (w1.alloc (.cells #[.string ⟨#[114, 101, 115, 117, 108, 116]⟩, .string ⟨CL.toArray⟩, .string ⟨WL.toArray⟩] 9)) fun e' w' => e' = .returned (.string ⟨RL.toArray⟩) ∧ Hid (EvG 31 #[.slice EA en ec, .int .i64 e, .int .i64 c, .slice SA sn sc, .int .i64 z0, .int .i64 z1, .int .i64 z2, .int .i64 z3] D w w')) := Lib.hid fun w1 h => (LX.out w1).mono fun e' w' ⟨he, hb⟩ => ⟨he, Lib.hid (h.out.kept hb)⟩
      have WJ : Hid (∀ w1, Hid (EvG 31 #[.slice EA en ec, .int .i64 e, .int .i64 c, .slice SA sn sc, .int .i64 z0, .int .i64 z1, .int .i64 z2, .int .i64 z3] D w w1) → Calls Tryd.prog 23 #[.pointer (some ⟨w.heap.size + 1, 0, none⟩), .string ⟨RL.toArray⟩] w1 fun e' w' => e' = .returned (.tuple #[.int .i64 RL.length, .nilIface]) ∧ Hid (EvG 31 #[.slice EA en ec, .int .i64 e, .int .i64 c, .slice SA sn sc, .int .i64 z0, .int .i64 z1, .int .i64 z2, .int .i64 z3] (D ++ RL) w w')) := Lib.hid fun w1 h => (WS.out D RL w1 h.out (by omega) (by omega)).mono fun e' w' ⟨he, hI⟩ => ⟨he, Lib.hid hI⟩
      have HId : Hid (EvG 31 #[.slice EA en ec, .int .i64 e, .int .i64 c, .slice SA sn sc, .int .i64 z0, .int .i64 z1, .int .i64 z2, .int .i64 z3] D w wr.drew) := Lib.hid HI.out.drew
      obtain ⟨a1, a2⟩ := HCC.out wr HI
      have b1 : wr.drew.cell? ⟨w.heap.size, 1, none⟩ = some (.int .i64 e) := a1
      have b2 : wr.drew.cell? ⟨w.heap.size, 2, none⟩ = some (.int .i64 c) := a2
      have hdr : (D ++ RL).length ≤ 61000000000 := by rw [List.length_append]; omega
      have HDR := Lib.hid hdr
      clear n1 n2 n3 HRL LX CC0 CW0 hCL hWL hRL HCC HI hdl hdr
      go_wp2_with fail
      go_region_with (first
          | (go_at_call 29; refine (CJ1.out _ (by assumption)).mono ?_; rintro e' w4 ⟨rfl, hj4, c1, c2⟩)
          | (go_at_call 30; refine (CJ2.out _ (by assumption)).mono ?_; rintro e' w5 ⟨rfl, hj5, d1, d2⟩)
          | (go_at_call 24; refine (LJ.out _ (by assumption)).mono ?_; rintro e' w6 ⟨rfl, hj6⟩)
          | (go_at_call 23; refine (WJ.out _ (by assumption)).mono ?_; rintro e' w7 ⟨rfl, I7⟩))
      all_goals
        obtain ⟨D2, hD2⟩ : ∃ q, D ++ RL = q := ⟨_, rfl⟩
        rw [hD2] at I7 HDR HR0
        have HI7 : Hid (EvG 31 #[.slice EA en ec, .int .i64 e, .int .i64 c, .slice SA sn sc, .int .i64 z0, .int .i64 z1, .int .i64 z2, .int .i64 z3] (D2 ++ (ss.take 0).flatMap fetL) w w7) := Lib.hid (by simpa using I7.out)
        have f3 := cell_of 3 I7.out.2.1
        clear hD2 I7
        go_wp2_with fail
        go_loopg [33] (sn) (fun g i wr => ∃ t : Nat, i = .int .i64 (t : Int) ∧ t ≤ sn ∧ Hid (g + t = sn) ∧ Hid (EvG 31 #[.slice EA en ec, .int .i64 e, .int .i64 c, .slice SA sn sc, .int .i64 z0, .int .i64 z1, .int .i64 z2, .int .i64 z3] (D2 ++ (ss.take t).flatMap fetL) w wr))
        case atStart => exact ⟨0, rfl, Nat.zero_le _, Lib.hid rfl, HI7⟩
        case round =>
          clear f3
          obtain ⟨t, rfl, ht, hg, HI⟩ := hrel
          have ht0 : (0 : Int) ≤ (t : Int) := by omega
          have ht9 : (t : Int) ≤ 30 := by omega
          have hfl := HBS.out t
          by_cases htn : t < sn
          · have hti : (t : Int) < (sn : Int) := by omega
            obtain ⟨q1, o1, x, rfl, hq1, hx, hc1⟩ := (HQ.out _ HI.out.1).cell htn
            have hsx := HSL.out x (List.mem_of_getElem? hx)
            have HSS := Lib.hid (fets_snoc hx)
            have y0 : wr.cell? ⟨q1, o1 + t, none⟩ = some (.string ⟨x.toArray⟩) := by rw [show o1 + t = o1 + (t * 1 + 0) by omega]; exact hc1 0 _ rfl
            have C1 := Lib.hid (EX.out x wr hsx)
            have m1 := esc_le x
            have m2 := fetL_le hsx
            have HFL : Hid (joinB [[102, 101, 116, 99, 104, 101, 100], esc x] ++ [10] = fetL x) := Lib.hid (by rw [join_two]; simp [fetL])
            have LX := Lib.hid (fun w1 => lnAt_2 [102, 101, 116, 99, 104, 101, 100] (esc x) w1 (by simp) (by omega))
            rw [HFL.out] at LX
            obtain ⟨X, hX⟩ : ∃ q, esc x = q := ⟨_, rfl⟩
            obtain ⟨FX, hFX⟩ : ∃ q, fetL x = q := ⟨_, rfl⟩
            obtain ⟨D3, hD3⟩ : ∃ q, D2 ++ (ss.take t).flatMap fetL = q := ⟨_, rfl⟩
            have hd3 : D3.length ≤ 62000000000 := by rw [← hD3, List.length_append]; have := HDR.out; omega
            rw [hX] at LX C1
            rw [hFX] at LX HSS m2
            have HSD : Hid (D2 ++ (ss.take (t + 1)).flatMap fetL = D3 ++ FX) := Lib.hid (by rw [HSS.out, ← List.append_assoc, hD3])
            rw [hD3] at HI
            clear hX hFX hD3 HFL hq1 hx hc1 hsx HSS hfl
            go_wp2_with fail
            refine C1.out.mono ?_
            rintro e' u1 ⟨rfl, hb⟩
            have HIa := Lib.hid (HI.out.kept hb)
            clear hb C1 HI y0
            go_wp2_with fail
            refine (LX.out u1).mono ?_
            rintro e' u2 ⟨rfl, hb⟩
            have HIb := Lib.hid (HIa.out.kept hb)
            clear hb LX HIa
            go_wp2_with fail
            refine (WS.out D3 FX u2 HIb.out (by omega) (by omega)).mono ?_
            rintro e' u3 ⟨rfl, hI⟩
            have HIc := Lib.hid hI
            clear hI HIb hd3 m2
            go_wp2
            go_roundg (sn - (t + 1))
            case measure => have := hg.out; omega
            case rel => exact ⟨t + 1, by go_num, by omega, Lib.hid (by have := hg.out; omega), Lib.hid (by rw [HSD.out]; exact HIc.out)⟩
          · have hti : ¬ (t : Int) < (sn : Int) := by omega
            obtain rfl : sn = t := by omega
            obtain ⟨D3, hD3⟩ : ∃ q, D2 ++ (ss.take sn).flatMap fetL = q := ⟨_, rfl⟩
            have hd3 : D3.length ≤ 62000000000 := by rw [← hD3, List.length_append]; have := HDR.out; omega
            rw [hD3] at HI HR0
            have HD3 := Lib.hid hd3
            have f4 := cell_of 4 HI.out.2.1
            have f5 := cell_of 5 HI.out.2.1
            have f6 := cell_of 6 HI.out.2.1
            have f7 := cell_of 7 HI.out.2.1
            clear hD3 hd3 hfl hti HQ HSL HBS EX
            go_wp2_with fail
            clear f4 f5 f6 f7
            go_loopg [52] (4) (fun g i wr => ∃ t : Nat, i = .int .i64 (t : Int) ∧ t ≤ 4 ∧ Hid (g + t = 4) ∧ Hid (EvG 31 #[.slice EA en ec, .int .i64 e, .int .i64 c, .slice SA sn sc, .int .i64 z0, .int .i64 z1, .int .i64 z2, .int .i64 z3] (D3 ++ numsT z0 z1 z2 z3 t) w wr))
            case atStart => exact ⟨0, rfl, Nat.zero_le _, Lib.hid rfl, Lib.hid (by simpa [numsT] using HI.out)⟩
            case round =>
              clear HI
              obtain ⟨t, rfl, ht, hg, HI⟩ := hrel
              have hnl := numsT_le z0 z1 z2 z3 HI0.out HI1.out HI2.out HI3.out t
              obtain rfl | rfl | rfl | rfl | rfl : t = 0 ∨ t = 1 ∨ t = 2 ∨ t = 3 ∨ t = 4 := by omega
              · have n1 := numL_le 0 z0 HI0.out.1 HI0.out.2
                have n2 := itoa_len z0 HI0.out.1 HI0.out.2
                have HNL : Hid (joinB [[114, 101, 97, 100], Lib.itoa z0] ++ [10] = numL 0 z0) := Lib.hid (by rw [join_two]; simp [numL])
                have LX := Lib.hid (fun w1 => lnAt_2 [114, 101, 97, 100] (Lib.itoa z0) w1 (by simp) (by omega))
                rw [HNL.out] at LX
                have IT0 : Hid (∀ W, Below w.heap.size w W → Calls Tryd.prog 31 #[.int .i64 z0] W fun e' w' => e' = .returned (.string ⟨(Lib.itoa z0).toArray⟩) ∧ Below W.heap.size W w') := Lib.hid fun W hb => (Tryd.strconv_Itoa z0 HI0.out.1 HI0.out.2 W (HW.out W hb).pow).mono fun e' w' ⟨he, hw⟩ => ⟨he, grow_below44 hw⟩
                have HSD : Hid (D3 ++ numsT z0 z1 z2 z3 1 = D3 ++ numsT z0 z1 z2 z3 0 ++ numL 0 z0) := Lib.hid (by simp [numsT])
                obtain ⟨IZ, hIZ⟩ : ∃ q, Lib.itoa z0 = q := ⟨_, rfl⟩
                obtain ⟨NL, hNL⟩ : ∃ q, numL 0 z0 = q := ⟨_, rfl⟩
                obtain ⟨D4, hD4⟩ : ∃ q, D3 ++ numsT z0 z1 z2 z3 0 = q := ⟨_, rfl⟩
                have hd4 : D4.length ≤ 63000000000 := by rw [← hD4, List.length_append]; have := HD3.out; omega
                rw [hIZ] at LX IT0
                rw [hNL] at LX n1 HSD
                rw [hD4] at HI HSD
                have ITJ : Hid (∀ W, Hid (EvG 31 #[.slice EA en ec, .int .i64 e, .int .i64 c, .slice SA sn sc, .int .i64 z0, .int .i64 z1, .int .i64 z2, .int .i64 z3] D4 w W) → Calls Tryd.prog 31 #[.int .i64 z0] W fun e' w' => e' = .returned (.string ⟨IZ.toArray⟩) ∧ Hid (EvG 31 #[.slice EA en ec, .int .i64 e, .int .i64 c, .slice SA sn sc, .int .i64 z0, .int .i64 z1, .int .i64 z2, .int .i64 z3] D4 w w')) := Lib.hid fun W hW => (IT0.out W hW.out.1).mono fun e' w' ⟨he, hb⟩ => ⟨he, Lib.hid (hW.out.kept hb)⟩
                have LJ : Hid (∀ w1, Hid (EvG 31 #[.slice EA en ec, .int .i64 e, .int .i64 c, .slice SA sn sc, .int .i64 z0, .int .i64 z1, .int .i64 z2, .int .i64 z3] D4 w w1) → Calls Tryd.prog 24 #[.slice (some ⟨w1.heap.size, 0, none⟩) 2 2] (w1.alloc (.cells #[.string ⟨#[114, 101, 97, 100]⟩, .string ⟨IZ.toArray⟩] 9)) fun e' w' => e' = .returned (.string ⟨NL.toArray⟩) ∧ Hid (EvG 31 #[.slice EA en ec, .int .i64 e, .int .i64 c, .slice SA sn sc, .int .i64 z0, .int .i64 z1, .int .i64 z2, .int .i64 z3] D4 w w')) := Lib.hid fun w1 h => (LX.out w1).mono fun e' w' ⟨he, hb⟩ => ⟨he, Lib.hid (h.out.kept hb)⟩
                have WJ : Hid (∀ w1, Hid (EvG 31 #[.slice EA en ec, .int .i64 e, .int .i64 c, .slice SA sn sc, .int .i64 z0, .int .i64 z1, .int .i64 z2, .int .i64 z3] D4 w w1) → Calls Tryd.prog 23 #[.pointer (some ⟨w.heap.size + 1, 0, none⟩), .string ⟨NL.toArray⟩] w1 fun e' w' => e' = .returned (.tuple #[.int .i64 NL.length, .nilIface]) ∧ Hid (EvG 31 #[.slice EA en ec, .int .i64 e, .int .i64 c, .slice SA sn sc, .int .i64 z0, .int .i64 z1, .int .i64 z2, .int .i64 z3] (D4 ++ NL) w w')) := Lib.hid fun w1 h => (WS.out D4 NL w1 h.out (by omega) (by omega)).mono fun e' w' ⟨he, hI⟩ => ⟨he, Lib.hid hI⟩
                have ixb := ixB0 z0 z1 z2 z3
                have iyb := iyB0
                have HId : Hid (EvG 31 #[.slice EA en ec, .int .i64 e, .int .i64 c, .slice SA sn sc, .int .i64 z0, .int .i64 z1, .int .i64 z2, .int .i64 z3] D4 w wr.drew) := Lib.hid HI.out.drew
                clear n1 n2 HNL LX IT0 hIZ hNL hD4 hd4 hnl HI
                go_wp2_with fail
                go_region_with (first
                    | (go_at_call 31; refine (ITJ.out _ (by assumption)).mono ?_; rintro e' v4 ⟨rfl, hj4⟩)
                    | (go_at_call 24; refine (LJ.out _ (by assumption)).mono ?_; rintro e' v6 ⟨rfl, hj6⟩)
                    | (go_at_call 23; refine (WJ.out _ (by assumption)).mono ?_; rintro e' v7 ⟨rfl, I9⟩))
                all_goals
                  go_wp2
                  go_roundg (3)
                  case measure => have := hg.out; omega
                  case rel => exact ⟨1, by go_num, by omega, Lib.hid (by omega), Lib.hid (by rw [HSD.out]; exact I9.out)⟩
              · have n1 := numL_le 1 z1 HI1.out.1 HI1.out.2
                have n2 := itoa_len z1 HI1.out.1 HI1.out.2
                have HNL : Hid (joinB [[115, 112, 101, 110, 116], Lib.itoa z1] ++ [10] = numL 1 z1) := Lib.hid (by rw [join_two]; simp [numL])
                have LX := Lib.hid (fun w1 => lnAt_2 [115, 112, 101, 110, 116] (Lib.itoa z1) w1 (by simp) (by omega))
                rw [HNL.out] at LX
                have IT0 : Hid (∀ W, Below w.heap.size w W → Calls Tryd.prog 31 #[.int .i64 z1] W fun e' w' => e' = .returned (.string ⟨(Lib.itoa z1).toArray⟩) ∧ Below W.heap.size W w') := Lib.hid fun W hb => (Tryd.strconv_Itoa z1 HI1.out.1 HI1.out.2 W (HW.out W hb).pow).mono fun e' w' ⟨he, hw⟩ => ⟨he, grow_below44 hw⟩
                have HSD : Hid (D3 ++ numsT z0 z1 z2 z3 2 = D3 ++ numsT z0 z1 z2 z3 1 ++ numL 1 z1) := Lib.hid (by simp [numsT])
                obtain ⟨IZ, hIZ⟩ : ∃ q, Lib.itoa z1 = q := ⟨_, rfl⟩
                obtain ⟨NL, hNL⟩ : ∃ q, numL 1 z1 = q := ⟨_, rfl⟩
                obtain ⟨D4, hD4⟩ : ∃ q, D3 ++ numsT z0 z1 z2 z3 1 = q := ⟨_, rfl⟩
                have hd4 : D4.length ≤ 63000000000 := by rw [← hD4, List.length_append]; have := HD3.out; omega
                rw [hIZ] at LX IT0
                rw [hNL] at LX n1 HSD
                rw [hD4] at HI HSD
                have ITJ : Hid (∀ W, Hid (EvG 31 #[.slice EA en ec, .int .i64 e, .int .i64 c, .slice SA sn sc, .int .i64 z0, .int .i64 z1, .int .i64 z2, .int .i64 z3] D4 w W) → Calls Tryd.prog 31 #[.int .i64 z1] W fun e' w' => e' = .returned (.string ⟨IZ.toArray⟩) ∧ Hid (EvG 31 #[.slice EA en ec, .int .i64 e, .int .i64 c, .slice SA sn sc, .int .i64 z0, .int .i64 z1, .int .i64 z2, .int .i64 z3] D4 w w')) := Lib.hid fun W hW => (IT0.out W hW.out.1).mono fun e' w' ⟨he, hb⟩ => ⟨he, Lib.hid (hW.out.kept hb)⟩
                have LJ : Hid (∀ w1, Hid (EvG 31 #[.slice EA en ec, .int .i64 e, .int .i64 c, .slice SA sn sc, .int .i64 z0, .int .i64 z1, .int .i64 z2, .int .i64 z3] D4 w w1) → Calls Tryd.prog 24 #[.slice (some ⟨w1.heap.size, 0, none⟩) 2 2] (w1.alloc (.cells #[.string ⟨#[115, 112, 101, 110, 116]⟩, .string ⟨IZ.toArray⟩] 9)) fun e' w' => e' = .returned (.string ⟨NL.toArray⟩) ∧ Hid (EvG 31 #[.slice EA en ec, .int .i64 e, .int .i64 c, .slice SA sn sc, .int .i64 z0, .int .i64 z1, .int .i64 z2, .int .i64 z3] D4 w w')) := Lib.hid fun w1 h => (LX.out w1).mono fun e' w' ⟨he, hb⟩ => ⟨he, Lib.hid (h.out.kept hb)⟩
                have WJ : Hid (∀ w1, Hid (EvG 31 #[.slice EA en ec, .int .i64 e, .int .i64 c, .slice SA sn sc, .int .i64 z0, .int .i64 z1, .int .i64 z2, .int .i64 z3] D4 w w1) → Calls Tryd.prog 23 #[.pointer (some ⟨w.heap.size + 1, 0, none⟩), .string ⟨NL.toArray⟩] w1 fun e' w' => e' = .returned (.tuple #[.int .i64 NL.length, .nilIface]) ∧ Hid (EvG 31 #[.slice EA en ec, .int .i64 e, .int .i64 c, .slice SA sn sc, .int .i64 z0, .int .i64 z1, .int .i64 z2, .int .i64 z3] (D4 ++ NL) w w')) := Lib.hid fun w1 h => (WS.out D4 NL w1 h.out (by omega) (by omega)).mono fun e' w' ⟨he, hI⟩ => ⟨he, Lib.hid hI⟩
                have ixb := ixB1 z0 z1 z2 z3
                have iyb := iyB1
                have HId : Hid (EvG 31 #[.slice EA en ec, .int .i64 e, .int .i64 c, .slice SA sn sc, .int .i64 z0, .int .i64 z1, .int .i64 z2, .int .i64 z3] D4 w wr.drew) := Lib.hid HI.out.drew
                clear n1 n2 HNL LX IT0 hIZ hNL hD4 hd4 hnl HI
                go_wp2_with fail
                go_region_with (first
                    | (go_at_call 31; refine (ITJ.out _ (by assumption)).mono ?_; rintro e' v4 ⟨rfl, hj4⟩)
                    | (go_at_call 24; refine (LJ.out _ (by assumption)).mono ?_; rintro e' v6 ⟨rfl, hj6⟩)
                    | (go_at_call 23; refine (WJ.out _ (by assumption)).mono ?_; rintro e' v7 ⟨rfl, I9⟩))
                all_goals
                  go_wp2
                  go_roundg (2)
                  case measure => have := hg.out; omega
                  case rel => exact ⟨2, by go_num, by omega, Lib.hid (by omega), Lib.hid (by rw [HSD.out]; exact I9.out)⟩
              · have n1 := numL_le 2 z2 HI2.out.1 HI2.out.2
                have n2 := itoa_len z2 HI2.out.1 HI2.out.2
                have HNL : Hid (joinB [[111, 117, 116], Lib.itoa z2] ++ [10] = numL 2 z2) := Lib.hid (by rw [join_two]; simp [numL])
                have LX := Lib.hid (fun w1 => lnAt_2 [111, 117, 116] (Lib.itoa z2) w1 (by simp) (by omega))
                rw [HNL.out] at LX
                have IT0 : Hid (∀ W, Below w.heap.size w W → Calls Tryd.prog 31 #[.int .i64 z2] W fun e' w' => e' = .returned (.string ⟨(Lib.itoa z2).toArray⟩) ∧ Below W.heap.size W w') := Lib.hid fun W hb => (Tryd.strconv_Itoa z2 HI2.out.1 HI2.out.2 W (HW.out W hb).pow).mono fun e' w' ⟨he, hw⟩ => ⟨he, grow_below44 hw⟩
                have HSD : Hid (D3 ++ numsT z0 z1 z2 z3 3 = D3 ++ numsT z0 z1 z2 z3 2 ++ numL 2 z2) := Lib.hid (by simp [numsT])
                obtain ⟨IZ, hIZ⟩ : ∃ q, Lib.itoa z2 = q := ⟨_, rfl⟩
                obtain ⟨NL, hNL⟩ : ∃ q, numL 2 z2 = q := ⟨_, rfl⟩
                obtain ⟨D4, hD4⟩ : ∃ q, D3 ++ numsT z0 z1 z2 z3 2 = q := ⟨_, rfl⟩
                have hd4 : D4.length ≤ 63000000000 := by rw [← hD4, List.length_append]; have := HD3.out; omega
                rw [hIZ] at LX IT0
                rw [hNL] at LX n1 HSD
                rw [hD4] at HI HSD
                have ITJ : Hid (∀ W, Hid (EvG 31 #[.slice EA en ec, .int .i64 e, .int .i64 c, .slice SA sn sc, .int .i64 z0, .int .i64 z1, .int .i64 z2, .int .i64 z3] D4 w W) → Calls Tryd.prog 31 #[.int .i64 z2] W fun e' w' => e' = .returned (.string ⟨IZ.toArray⟩) ∧ Hid (EvG 31 #[.slice EA en ec, .int .i64 e, .int .i64 c, .slice SA sn sc, .int .i64 z0, .int .i64 z1, .int .i64 z2, .int .i64 z3] D4 w w')) := Lib.hid fun W hW => (IT0.out W hW.out.1).mono fun e' w' ⟨he, hb⟩ => ⟨he, Lib.hid (hW.out.kept hb)⟩
                have LJ : Hid (∀ w1, Hid (EvG 31 #[.slice EA en ec, .int .i64 e, .int .i64 c, .slice SA sn sc, .int .i64 z0, .int .i64 z1, .int .i64 z2, .int .i64 z3] D4 w w1) → Calls Tryd.prog 24 #[.slice (some ⟨w1.heap.size, 0, none⟩) 2 2] (w1.alloc (.cells #[.string ⟨#[111, 117, 116]⟩, .string ⟨IZ.toArray⟩] 9)) fun e' w' => e' = .returned (.string ⟨NL.toArray⟩) ∧ Hid (EvG 31 #[.slice EA en ec, .int .i64 e, .int .i64 c, .slice SA sn sc, .int .i64 z0, .int .i64 z1, .int .i64 z2, .int .i64 z3] D4 w w')) := Lib.hid fun w1 h => (LX.out w1).mono fun e' w' ⟨he, hb⟩ => ⟨he, Lib.hid (h.out.kept hb)⟩
                have WJ : Hid (∀ w1, Hid (EvG 31 #[.slice EA en ec, .int .i64 e, .int .i64 c, .slice SA sn sc, .int .i64 z0, .int .i64 z1, .int .i64 z2, .int .i64 z3] D4 w w1) → Calls Tryd.prog 23 #[.pointer (some ⟨w.heap.size + 1, 0, none⟩), .string ⟨NL.toArray⟩] w1 fun e' w' => e' = .returned (.tuple #[.int .i64 NL.length, .nilIface]) ∧ Hid (EvG 31 #[.slice EA en ec, .int .i64 e, .int .i64 c, .slice SA sn sc, .int .i64 z0, .int .i64 z1, .int .i64 z2, .int .i64 z3] (D4 ++ NL) w w')) := Lib.hid fun w1 h => (WS.out D4 NL w1 h.out (by omega) (by omega)).mono fun e' w' ⟨he, hI⟩ => ⟨he, Lib.hid hI⟩
                have ixb := ixB2 z0 z1 z2 z3
                have iyb := iyB2
                have HId : Hid (EvG 31 #[.slice EA en ec, .int .i64 e, .int .i64 c, .slice SA sn sc, .int .i64 z0, .int .i64 z1, .int .i64 z2, .int .i64 z3] D4 w wr.drew) := Lib.hid HI.out.drew
                clear n1 n2 HNL LX IT0 hIZ hNL hD4 hd4 hnl HI
                go_wp2_with fail
                go_region_with (first
                    | (go_at_call 31; refine (ITJ.out _ (by assumption)).mono ?_; rintro e' v4 ⟨rfl, hj4⟩)
                    | (go_at_call 24; refine (LJ.out _ (by assumption)).mono ?_; rintro e' v6 ⟨rfl, hj6⟩)
                    | (go_at_call 23; refine (WJ.out _ (by assumption)).mono ?_; rintro e' v7 ⟨rfl, I9⟩))
                all_goals
                  go_wp2
                  go_roundg (1)
                  case measure => have := hg.out; omega
                  case rel => exact ⟨3, by go_num, by omega, Lib.hid (by omega), Lib.hid (by rw [HSD.out]; exact I9.out)⟩
              · have n1 := numL_le 3 z3 HI3.out.1 HI3.out.2
                have n2 := itoa_len z3 HI3.out.1 HI3.out.2
                have HNL : Hid (joinB [[119, 111, 114, 107], Lib.itoa z3] ++ [10] = numL 3 z3) := Lib.hid (by rw [join_two]; simp [numL])
                have LX := Lib.hid (fun w1 => lnAt_2 [119, 111, 114, 107] (Lib.itoa z3) w1 (by simp) (by omega))
                rw [HNL.out] at LX
                have IT0 : Hid (∀ W, Below w.heap.size w W → Calls Tryd.prog 31 #[.int .i64 z3] W fun e' w' => e' = .returned (.string ⟨(Lib.itoa z3).toArray⟩) ∧ Below W.heap.size W w') := Lib.hid fun W hb => (Tryd.strconv_Itoa z3 HI3.out.1 HI3.out.2 W (HW.out W hb).pow).mono fun e' w' ⟨he, hw⟩ => ⟨he, grow_below44 hw⟩
                have HSD : Hid (D3 ++ numsT z0 z1 z2 z3 4 = D3 ++ numsT z0 z1 z2 z3 3 ++ numL 3 z3) := Lib.hid (by simp [numsT])
                obtain ⟨IZ, hIZ⟩ : ∃ q, Lib.itoa z3 = q := ⟨_, rfl⟩
                obtain ⟨NL, hNL⟩ : ∃ q, numL 3 z3 = q := ⟨_, rfl⟩
                obtain ⟨D4, hD4⟩ : ∃ q, D3 ++ numsT z0 z1 z2 z3 3 = q := ⟨_, rfl⟩
                have hd4 : D4.length ≤ 63000000000 := by rw [← hD4, List.length_append]; have := HD3.out; omega
                rw [hIZ] at LX IT0
                rw [hNL] at LX n1 HSD
                rw [hD4] at HI HSD
                have ITJ : Hid (∀ W, Hid (EvG 31 #[.slice EA en ec, .int .i64 e, .int .i64 c, .slice SA sn sc, .int .i64 z0, .int .i64 z1, .int .i64 z2, .int .i64 z3] D4 w W) → Calls Tryd.prog 31 #[.int .i64 z3] W fun e' w' => e' = .returned (.string ⟨IZ.toArray⟩) ∧ Hid (EvG 31 #[.slice EA en ec, .int .i64 e, .int .i64 c, .slice SA sn sc, .int .i64 z0, .int .i64 z1, .int .i64 z2, .int .i64 z3] D4 w w')) := Lib.hid fun W hW => (IT0.out W hW.out.1).mono fun e' w' ⟨he, hb⟩ => ⟨he, Lib.hid (hW.out.kept hb)⟩
                have LJ : Hid (∀ w1, Hid (EvG 31 #[.slice EA en ec, .int .i64 e, .int .i64 c, .slice SA sn sc, .int .i64 z0, .int .i64 z1, .int .i64 z2, .int .i64 z3] D4 w w1) → Calls Tryd.prog 24 #[.slice (some ⟨w1.heap.size, 0, none⟩) 2 2] (w1.alloc (.cells #[.string ⟨#[119, 111, 114, 107]⟩, .string ⟨IZ.toArray⟩] 9)) fun e' w' => e' = .returned (.string ⟨NL.toArray⟩) ∧ Hid (EvG 31 #[.slice EA en ec, .int .i64 e, .int .i64 c, .slice SA sn sc, .int .i64 z0, .int .i64 z1, .int .i64 z2, .int .i64 z3] D4 w w')) := Lib.hid fun w1 h => (LX.out w1).mono fun e' w' ⟨he, hb⟩ => ⟨he, Lib.hid (h.out.kept hb)⟩
                have WJ : Hid (∀ w1, Hid (EvG 31 #[.slice EA en ec, .int .i64 e, .int .i64 c, .slice SA sn sc, .int .i64 z0, .int .i64 z1, .int .i64 z2, .int .i64 z3] D4 w w1) → Calls Tryd.prog 23 #[.pointer (some ⟨w.heap.size + 1, 0, none⟩), .string ⟨NL.toArray⟩] w1 fun e' w' => e' = .returned (.tuple #[.int .i64 NL.length, .nilIface]) ∧ Hid (EvG 31 #[.slice EA en ec, .int .i64 e, .int .i64 c, .slice SA sn sc, .int .i64 z0, .int .i64 z1, .int .i64 z2, .int .i64 z3] (D4 ++ NL) w w')) := Lib.hid fun w1 h => (WS.out D4 NL w1 h.out (by omega) (by omega)).mono fun e' w' ⟨he, hI⟩ => ⟨he, Lib.hid hI⟩
                have ixb := ixB3 z0 z1 z2 z3
                have iyb := iyB3
                have HId : Hid (EvG 31 #[.slice EA en ec, .int .i64 e, .int .i64 c, .slice SA sn sc, .int .i64 z0, .int .i64 z1, .int .i64 z2, .int .i64 z3] D4 w wr.drew) := Lib.hid HI.out.drew
                clear n1 n2 HNL LX IT0 hIZ hNL hD4 hd4 hnl HI
                go_wp2_with fail
                go_region_with (first
                    | (go_at_call 31; refine (ITJ.out _ (by assumption)).mono ?_; rintro e' v4 ⟨rfl, hj4⟩)
                    | (go_at_call 24; refine (LJ.out _ (by assumption)).mono ?_; rintro e' v6 ⟨rfl, hj6⟩)
                    | (go_at_call 23; refine (WJ.out _ (by assumption)).mono ?_; rintro e' v7 ⟨rfl, I9⟩))
                all_goals
                  go_wp2
                  go_roundg (0)
                  case measure => have := hg.out; omega
                  case rel => exact ⟨4, by go_num, by omega, Lib.hid (by omega), Lib.hid (by rw [HSD.out]; exact I9.out)⟩
              · have HR9 : Hid (R = D3 ++ numsT z0 z1 z2 z3 4) := Lib.hid (by rw [HR0.out]; simp [numsT])
                rw [← HR9.out] at HI
                go_wp2_with fail
                refine (string_b _ _ _ wr HI.out.2.2.1).mono ?_
                rintro e' v5 ⟨rfl, hb⟩
                have HB := Lib.hid (HI.out.1.trans (hb.mono (by omega)))
                clear hb
                go_wp2
                go_ret
                exact ⟨rfl, HB.out⟩
end Go.Proofs.YtocbofeanfdggaaDoor
