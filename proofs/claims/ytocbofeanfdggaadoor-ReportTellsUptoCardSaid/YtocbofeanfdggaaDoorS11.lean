/- Texts of ours, joined: RpB, RpC, Rep. -/
import Derived.Test.YtocbofeanfdggaaDoorRows
import Derived.WalkKit
import Derived.ProofKit
import Derived.OpenShut
import Derived.ShutString
import Derived.ChangeOld
import Derived.Below
import Derived.BigQuiet
import Derived.Deep.QuietTactic
import Derived.Lib.Hide
import Derived.Deep.RegionHeld3
import Derived.Lib.SlBytesConst
import Derived.Laws.CopyOwn
import Derived.Laws.CopyRow
import Derived.Lib.Bytes
import Derived.Deep.LoopGhost
import Derived.Deep.DeepFit
import Derived.Deep.DeepMust
import Derived.WalkSpells
import Derived.WalkLawsBesides
import Derived.Laws.EntriesVeiled
import Derived.Laws.Rows
import Derived.Deep.RegionWith
import Derived.Test.YtocbofeanfdggaaDoorS1
import Derived.Test.YtocbofeanfdggaaDoorS2
import Derived.Test.YtocbofeanfdggaaDoorS3
import Derived.Test.YtocbofeanfdggaaDoorS5
import Derived.Test.YtocbofeanfdggaaDoorS6
import Derived.Test.YtocbofeanfdggaaDoorS7
import Derived.Test.YtocbofeanfdggaaDoorS8
import Derived.Test.YtocbofeanfdggaaDoorS9
import Derived.Test.YtocbofeanfdggaaDoorS10
/- The document's Event, of a start. -/
namespace Go.Proofs.YtocbofeanfdggaaDoor
open Go.ChangeShapes Go.WideShapes Go.ChangeAt Go.RowKit
set_option linter.unusedVariables false
set_option maxRecDepth 100000 in
set_option maxHeartbeats 16000000 in
theorem refEvent_start (sp lo tx : List UInt8) (A : Option Addr) (n cap : Nat) (ats : List (List UInt8 × List UInt8 × List UInt8)) (w : World) (h : RRd cA 3 w w.heap.size A n cap ats) (hle : EvLe 5000 ⟨⟨1, sp, lo, ats, tx⟩, A, n, cap⟩) :
    Calls Tryd.prog 10 #[.agg #[.int .i64 1, .string ⟨sp.toArray⟩, .string ⟨lo.toArray⟩, .slice A n cap, .string ⟨tx.toArray⟩]] w fun e w' => e = .returned (.string ⟨(evL 1 sp lo ats tx).toArray⟩) ∧ Below w.heap.size w w' := by
  have h1 : sp.length ≤ 5000 := hle.sp
  have h2 : lo.length ≤ 5000 := hle.lo
  have hn : n ≤ 5000 := hle.n
  have HP : Hid (∀ W, Below w.heap.size w W → RRd cA 3 W W.heap.size A n cap ats) := Lib.hid fun W hb => (h.below hb).more hb.size
  have HLN : Hid (ats.length = n) := Lib.hid h.len
  have HAL : Hid (∀ a ∈ ats, a.1.length ≤ 5000 ∧ a.2.1.length ≤ 5000 ∧ a.2.2.length ≤ 5000) := Lib.hid hle.ats
  have J0 := Lib.hid (CJ.start 40 w #[.int .i64 1, .string ⟨sp.toArray⟩, .string ⟨lo.toArray⟩, .slice A n cap, .string ⟨tx.toArray⟩])
  have z0 := cell_of 0 J0.out.2
  have z1 := cell_of 1 J0.out.2
  have z2 := cell_of 2 J0.out.2
  have hnl := nameL_le sp lo
  have HSL : Hid (∀ t, (([115, 116, 97, 114, 116, 32] ++ nameL sp lo ++ [10]) ++ (ats.take t).flatMap attL).length ≤ 600000000) := Lib.hid fun t => by
    have g1 := atts_le (b := 5000) (ats.take t) fun a ha => hle.ats a (List.mem_of_mem_take ha)
    have g2 : (ats.take t).length ≤ 5000 := by have := h.len; rw [List.length_take]; omega
    have g3 : (ats.take t).length * (18 * 5000 + 10) ≤ 5000 * (18 * 5000 + 10) := Nat.mul_le_mul_right _ g2
    simp only [List.length_append, List.length_cons, List.length_nil]
    omega
  have NN := Lib.hid (refName_c sp lo (w.alloc (.cells #[.int .i64 1, .string ⟨sp.toArray⟩, .string ⟨lo.toArray⟩, .slice A n cap, .string ⟨tx.toArray⟩] 40)) (by omega) (by omega))
  have HR : Hid (evL 1 sp lo ats tx = ([115, 116, 97, 114, 116, 32] ++ nameL sp lo ++ [10]) ++ (ats.take n).flatMap attL) := Lib.hid (by unfold evL; rw [if_pos rfl, List.take_of_length_le (by rw [h.len]; exact Nat.le_refl _)])
  obtain ⟨R, hR⟩ : ∃ q, evL 1 sp lo ats tx = q := ⟨_, rfl⟩
  rw [hR] at HR ⊢
  obtain ⟨sn, hsn⟩ : ∃ q, nameL sp lo = q := ⟨_, rfl⟩
  rw [hsn] at hnl NN HR HSL
  have p1 : ∀ w : World, (Op.stringOp .add ⟨#[115, 116, 97, 114, 116, 32]⟩ ⟨sn.toArray⟩).run Tryd.prog w = .ok (.string ⟨([115, 116, 97, 114, 116, 32] ++ sn).toArray⟩) w := fun w => run_sop (w := w) [115, 116, 97, 114, 116, 32] sn (by simp; omega)
  have p2 : ∀ w : World, (Op.stringOp .add ⟨([115, 116, 97, 114, 116, 32] ++ sn).toArray⟩ ⟨#[10]⟩).run Tryd.prog w = .ok (.string ⟨([115, 116, 97, 114, 116, 32] ++ sn ++ [10]).toArray⟩) w := fun w => run_sop (w := w) _ [10] (by simp; omega)
  obtain ⟨P, hP⟩ : ∃ q, [115, 116, 97, 114, 116, 32] ++ sn ++ [10] = q := ⟨_, rfl⟩
  obtain ⟨P1, hP1⟩ : ∃ q, [115, 116, 97, 114, 116, 32] ++ sn = q := ⟨_, rfl⟩
  rw [hP] at HR HSL p2
  rw [hP1] at p1 p2
  have HST : Hid (P = P ++ (ats.take 0).flatMap attL) := Lib.hid (by simp)
  clear h hle hR hsn hnl hP hP1 h1 h2
  go_enter Tryd.func10, Tryd.ntmps10
  go_wp2_with fail
  refine NN.out.mono ?_
  rintro e w1 ⟨rfl, hb⟩
  have J1 := Lib.hid (J0.out.kept hb)
  clear hb NN J0 z0 z1 z2
  go_wp2
  clear p1 p2
  go_loopg [3, 4] (n) (fun g s i wr => ∃ t : Nat, i = .int .i64 (t : Int) ∧ s = .string ⟨(P ++ (ats.take t).flatMap attL).toArray⟩ ∧ t ≤ n ∧ Hid (g + t = n) ∧ Hid (CJ 40 w wr #[.int .i64 1, .string ⟨sp.toArray⟩, .string ⟨lo.toArray⟩, .slice A n cap, .string ⟨tx.toArray⟩]))
  case atStart => exact ⟨0, rfl, by rw [← HST.out], Nat.zero_le _, Lib.hid rfl, J1⟩
  case round =>
    obtain ⟨t, rfl, rfl, ht, hg, HJ⟩ := hrel
    have ht0 : (0 : Int) ≤ (t : Int) := by omega
    have ht9 : (t : Int) ≤ 5000 := by omega
    have z3 := cell_of 3 HJ.out.2
    by_cases htn : t < n
    · have hti : (t : Int) < (n : Int) := by omega
      obtain ⟨b1, o1, x, hAe, hb1, hx, hc1⟩ := (HP.out _ HJ.out.1).cell htn
      obtain ⟨hx1, hx2, hx3⟩ := HAL.out x (List.mem_of_getElem? hx)
      have HSS := Lib.hid (atts_snoc hx)
      have hDl := HSL.out t
      subst hAe
      have HCC : Hid (∀ W, Hid (CJ 40 w W #[.int .i64 1, .string ⟨sp.toArray⟩, .string ⟨lo.toArray⟩, .slice (some ⟨b1, o1, none⟩) n cap, .string ⟨tx.toArray⟩]) → W.cell? ⟨w.heap.size, 3, none⟩ = some (.slice (some ⟨b1, o1, none⟩) n cap) ∧ W.cell? ⟨b1, o1 + t * 3, none⟩ = some (.string ⟨x.1.toArray⟩) ∧ W.cell? ⟨b1, o1 + t * 3 + 1, none⟩ = some (.string ⟨x.2.1.toArray⟩) ∧ W.cell? ⟨b1, o1 + t * 3 + 2, none⟩ = some (.string ⟨x.2.2.toArray⟩)) := Lib.hid fun W hW => by
        obtain ⟨b2, o2, y, e2, _, hy, hc2⟩ := (HP.out _ hW.out.1).cell htn
        cases e2
        rw [hx] at hy
        cases hy
        exact ⟨cell_of 3 hW.out.2, hc2 0 _ rfl, hc2 1 _ rfl, hc2 2 _ rfl⟩
      obtain ⟨xs, xl, xv⟩ := x
      simp only at hx1 hx2 hx3 HCC
      have n1 := nameL_le xs xl
      have n2 := esc_le xv
      have NJ : Hid (∀ w1, Hid (CJ 40 w w1 #[.int .i64 1, .string ⟨sp.toArray⟩, .string ⟨lo.toArray⟩, .slice (some ⟨b1, o1, none⟩) n cap, .string ⟨tx.toArray⟩]) → Calls Tryd.prog 28 #[.agg #[.string ⟨xs.toArray⟩, .string ⟨xl.toArray⟩]] w1 fun e w' => e = .returned (.string ⟨(nameL xs xl).toArray⟩) ∧ Hid (CJ 40 w w' #[.int .i64 1, .string ⟨sp.toArray⟩, .string ⟨lo.toArray⟩, .slice (some ⟨b1, o1, none⟩) n cap, .string ⟨tx.toArray⟩]) ∧ w'.cell? ⟨w.heap.size, 3, none⟩ = some (.slice (some ⟨b1, o1, none⟩) n cap) ∧ w'.cell? ⟨b1, o1 + t * 3, none⟩ = some (.string ⟨xs.toArray⟩) ∧ w'.cell? ⟨b1, o1 + t * 3 + 1, none⟩ = some (.string ⟨xl.toArray⟩) ∧ w'.cell? ⟨b1, o1 + t * 3 + 2, none⟩ = some (.string ⟨xv.toArray⟩)) := Lib.hid fun w1 h => (refName_c xs xl w1 (by omega) (by omega)).mono fun e w' ⟨he, hb⟩ => ⟨he, Lib.hid (h.out.kept hb), HCC.out _ (Lib.hid (h.out.kept hb))⟩
      have EJ : Hid (∀ w1, Hid (CJ 40 w w1 #[.int .i64 1, .string ⟨sp.toArray⟩, .string ⟨lo.toArray⟩, .slice (some ⟨b1, o1, none⟩) n cap, .string ⟨tx.toArray⟩]) → Calls Tryd.prog 21 #[.string ⟨xv.toArray⟩] w1 fun e w' => e = .returned (.string ⟨(esc xv).toArray⟩) ∧ Hid (CJ 40 w w' #[.int .i64 1, .string ⟨sp.toArray⟩, .string ⟨lo.toArray⟩, .slice (some ⟨b1, o1, none⟩) n cap, .string ⟨tx.toArray⟩]) ∧ w'.cell? ⟨w.heap.size, 3, none⟩ = some (.slice (some ⟨b1, o1, none⟩) n cap) ∧ w'.cell? ⟨b1, o1 + t * 3, none⟩ = some (.string ⟨xs.toArray⟩) ∧ w'.cell? ⟨b1, o1 + t * 3 + 1, none⟩ = some (.string ⟨xl.toArray⟩) ∧ w'.cell? ⟨b1, o1 + t * 3 + 2, none⟩ = some (.string ⟨xv.toArray⟩)) := Lib.hid fun w1 h => (refEscape_c xv w1 (by omega)).mono fun e w' ⟨he, hw⟩ => by
        subst hw
        exact ⟨he, h, HCC.out _ h⟩
      obtain ⟨D, hD⟩ : ∃ q, P ++ (ats.take t).flatMap attL = q := ⟨_, rfl⟩
      rw [hD] at hDl
      obtain ⟨N, hN⟩ : ∃ q, nameL xs xl = q := ⟨_, rfl⟩
      obtain ⟨E, hE⟩ : ∃ q, esc xv = q := ⟨_, rfl⟩
      have HSD : Hid (P ++ (ats.take (t + 1)).flatMap attL = D ++ [97, 116, 116, 114, 32] ++ N ++ [61] ++ E ++ [10]) := Lib.hid (by rw [HSS.out, ← List.append_assoc, hD, ← hN, ← hE]; simp [attL])
      rw [hN] at NJ n1
      rw [hE] at EJ n2
      rw [hD]
      have p1 : ∀ w : World, (Op.stringOp .add ⟨D.toArray⟩ ⟨#[97, 116, 116, 114, 32]⟩).run Tryd.prog w = .ok (.string ⟨(D ++ [97, 116, 116, 114, 32]).toArray⟩) w := fun w => run_sop (w := w) D [97, 116, 116, 114, 32] (by simp; omega)
      have p2 : ∀ w : World, (Op.stringOp .add ⟨(D ++ [97, 116, 116, 114, 32]).toArray⟩ ⟨N.toArray⟩).run Tryd.prog w = .ok (.string ⟨(D ++ [97, 116, 116, 114, 32] ++ N).toArray⟩) w := fun w => run_sop (w := w) _ N (by simp; omega)
      have p3 : ∀ w : World, (Op.stringOp .add ⟨(D ++ [97, 116, 116, 114, 32] ++ N).toArray⟩ ⟨#[61]⟩).run Tryd.prog w = .ok (.string ⟨(D ++ [97, 116, 116, 114, 32] ++ N ++ [61]).toArray⟩) w := fun w => run_sop (w := w) _ [61] (by simp; omega)
      have p4 : ∀ w : World, (Op.stringOp .add ⟨(D ++ [97, 116, 116, 114, 32] ++ N ++ [61]).toArray⟩ ⟨E.toArray⟩).run Tryd.prog w = .ok (.string ⟨(D ++ [97, 116, 116, 114, 32] ++ N ++ [61] ++ E).toArray⟩) w := fun w => run_sop (w := w) _ E (by simp; omega)
      have p5 : ∀ w : World, (Op.stringOp .add ⟨(D ++ [97, 116, 116, 114, 32] ++ N ++ [61] ++ E).toArray⟩ ⟨#[10]⟩).run Tryd.prog w = .ok (.string ⟨(D ++ [97, 116, 116, 114, 32] ++ N ++ [61] ++ E ++ [10]).toArray⟩) w := fun w => run_sop (w := w) _ [10] (by simp; omega)
      obtain ⟨D5, hD5⟩ : ∃ q, D ++ [97, 116, 116, 114, 32] ++ N ++ [61] ++ E ++ [10] = q := ⟨_, rfl⟩
      obtain ⟨D4, hD4⟩ : ∃ q, D ++ [97, 116, 116, 114, 32] ++ N ++ [61] ++ E = q := ⟨_, rfl⟩
      obtain ⟨D3, hD3⟩ : ∃ q, D ++ [97, 116, 116, 114, 32] ++ N ++ [61] = q := ⟨_, rfl⟩
      obtain ⟨D2, hD2⟩ : ∃ q, D ++ [97, 116, 116, 114, 32] ++ N = q := ⟨_, rfl⟩
      obtain ⟨D1, hD1⟩ : ∃ q, D ++ [97, 116, 116, 114, 32] = q := ⟨_, rfl⟩
      rw [hD5] at p5 HSD
      rw [hD4] at p4 p5
      rw [hD3] at p3 p4
      rw [hD2] at p2 p3
      rw [hD1] at p1 p2
      have y0 := HCC.out wr HJ
      obtain ⟨c0, c1, c2, c3⟩ := y0
      have d0 : wr.drew.cell? ⟨w.heap.size, 3, none⟩ = some (.slice (some ⟨b1, o1, none⟩) n cap) := c0
      have d1 : wr.drew.cell? ⟨b1, o1 + t * 3, none⟩ = some (.string ⟨xs.toArray⟩) := c1
      have d2 : wr.drew.cell? ⟨b1, o1 + t * 3 + 1, none⟩ = some (.string ⟨xl.toArray⟩) := c2
      have d3 : wr.drew.cell? ⟨b1, o1 + t * 3 + 2, none⟩ = some (.string ⟨xv.toArray⟩) := c3
      have HJd : Hid (CJ 40 w wr.drew #[.int .i64 1, .string ⟨sp.toArray⟩, .string ⟨lo.toArray⟩, .slice (some ⟨b1, o1, none⟩) n cap, .string ⟨tx.toArray⟩]) := Lib.hid ⟨below_drewN' (n := 1) HJ.out.1, HJ.out.2⟩
      have HFB : ∀ W, Hid (CJ 40 w W #[.int .i64 1, .string ⟨sp.toArray⟩, .string ⟨lo.toArray⟩, .slice (some ⟨b1, o1, none⟩) n cap, .string ⟨tx.toArray⟩]) → Hid (CJ 40 w W #[.int .i64 1, .string ⟨sp.toArray⟩, .string ⟨lo.toArray⟩, .slice (some ⟨b1, o1, none⟩) n cap, .string ⟨tx.toArray⟩]) := fun _ h => h
      clear hD hN hE hD5 hD4 hD3 hD2 hD1 hDl n1 n2 hx1 hx2 hx3 hb1 hx hc1 HSS HCC z3
      go_wp2_with fail
      go_region_held3 (fun w' => w'.cell? ⟨w.heap.size, 3, none⟩ = some (.slice (some ⟨b1, o1, none⟩) n cap) ∧ w'.cell? ⟨b1, o1 + t * 3, none⟩ = some (.string ⟨xs.toArray⟩) ∧ w'.cell? ⟨b1, o1 + t * 3 + 1, none⟩ = some (.string ⟨xl.toArray⟩) ∧ w'.cell? ⟨b1, o1 + t * 3 + 2, none⟩ = some (.string ⟨xv.toArray⟩) ∧ Hid (CJ 40 w w' #[.int .i64 1, .string ⟨sp.toArray⟩, .string ⟨lo.toArray⟩, .slice (some ⟨b1, o1, none⟩) n cap, .string ⟨tx.toArray⟩])) (first | exact ⟨by assumption, by assumption, by assumption, by assumption, by assumption⟩) (first
        | (go_at_call 28; refine (NJ.out _ (by assumption)).mono ?_; rintro e W2 ⟨rfl, HQ2, g0, g1, g2, g3⟩)
        | (go_at_call 21; refine (EJ.out _ (by assumption)).mono ?_; rintro e W2 ⟨rfl, HQ2, g0, g1, g2, g3⟩))
      all_goals
        go_wp2
        go_roundg (n - (t + 1))
        case measure => have := hg.out; omega
        case rel => exact ⟨t + 1, by go_num, by rw [HSD.out], by omega, Lib.hid (by have := hg.out; omega), HFB _ (by assumption)⟩
    · have hti : ¬ (t : Int) < (n : Int) := by omega
      obtain rfl : t = n := by omega
      have HR2 := Lib.hid HR.out
      rw [← HR.out]
      go_wp2
      go_ret
      exact ⟨rfl, HJ.out.1⟩
end Go.Proofs.YtocbofeanfdggaaDoor
/- Numbers, as the document writes them. -/
namespace Go.Proofs.YtocbofeanfdggaaDoor
open Go.ChangeShapes Go.WideShapes Go.ChangeAt Go.RowKit
set_option linter.unusedVariables false
theorem decDigits_le20 (n : Nat) (h : n ≤ 9223372036854775808) : (Lib.decDigits n).length ≤ 20 := by
  have key : ∀ (k n : Nat), n < 10 ^ (k + 1) → (Lib.decDigits n).length ≤ k + 1 := by
    intro k
    induction k with
    | zero =>
      intro n h
      rw [Lib.decDigits, dif_pos (by omega)]
      simp
    | succ k ih =>
      intro n h
      rw [Lib.decDigits]
      split
      · simp
      · rw [List.length_append]
        have := ih (n / 10) (by rw [Nat.pow_succ] at h; omega)
        simp
        omega
  exact key 19 n (by omega)
set_option maxRecDepth 100000 in
set_option maxHeartbeats 4000000 in
theorem refDigitsAll_c (n : Nat) (hn : n ≤ 9223372036854775807) (w : World) :
    Calls Tryd.prog 37 #[.int .i64 n] w fun e w' => e = .returned (.string ⟨(Lib.decDigits n).toArray⟩) ∧ w = w' := by
  have HL := Lib.hid (decDigits_le20 n (by omega))
  go_enter Tryd.func37, Tryd.ntmps37
  go_wp2
  go_loop [0, 3] (fun x s => ∃ (m : Nat) (t : List UInt8), m ≤ 9223372036854775807 ∧ x = .int .i64 m ∧ s = .string ⟨t.toArray⟩ ∧ Hid (Lib.decDigits n = Lib.decDigits m ++ t)) (fun x _ => (intOf x).toNat)
  case atStart => exact ⟨n, [], hn, rfl, rfl, Lib.hid (by simp)⟩
  case round =>
    obtain ⟨m, t, hm, rfl, rfl, hd⟩ := hrel
    have HT : Hid (t.length ≤ 20) := Lib.hid (by have := HL.out; rw [hd.out, List.length_append] at this; omega)
    have hm0 : (0 : Int) ≤ (m : Int) := by omega
    have hm1 : (m : Int) ≤ 9223372036854775807 := by omega
    by_cases h9 : 9 < m
    · have h9' : (9 : Int) < (m : Int) := by omega
      have hsl := run_digitAt (m % 10) (by omega) w
      rw [show ((m % 10 : Nat) : Int) = (m : Int) % 10 by omega] at hsl
      have hct : (Op.stringOp .add ⟨#[UInt8.ofNat (48 + m % 10)]⟩ ⟨t.toArray⟩).run Tryd.prog w = .ok (.string ⟨(UInt8.ofNat (48 + m % 10) :: t).toArray⟩) w := run_sop (w := w) [UInt8.ofNat (48 + m % 10)] t (by have := HT.out; simp; omega)
      have HD : Hid (Lib.decDigits n = Lib.decDigits (m / 10) ++ (UInt8.ofNat (48 + m % 10) :: t)) := Lib.hid (by
        rw [hd.out, Lib.decDigits, dif_neg (by omega)]; simp)
      generalize UInt8.ofNat (48 + m % 10) = u at *
      go_wp2
      go_round
      case rel => exact ⟨m / 10, u :: t, by omega, by go_num, rfl, HD⟩
      case measure => simp [intOf]; omega
    · have h9' : ¬ (9 : Int) < (m : Int) := by omega
      have hsl := run_digitAt m (by omega) w
      have hct : (Op.stringOp .add ⟨#[UInt8.ofNat (48 + m)]⟩ ⟨t.toArray⟩).run Tryd.prog w = .ok (.string ⟨(UInt8.ofNat (48 + m) :: t).toArray⟩) w := run_sop (w := w) [UInt8.ofNat (48 + m)] t (by have := HT.out; simp; omega)
      have HD : Hid (Lib.decDigits n = [UInt8.ofNat (48 + m)] ++ t) := Lib.hid (by
        rw [hd.out, Lib.decDigits, dif_pos (by omega)])
      generalize UInt8.ofNat (48 + m) = u at *
      clear hm1
      go_wp2
      go_ret
      exact ⟨by rw [HD.out]; rfl, rfl⟩
theorem itoa_len (z : Int) (h1 : -9223372036854775808 ≤ z) (h2 : z ≤ 9223372036854775807) : (Lib.itoa z).length ≤ 21 := by
  unfold Lib.itoa
  split
  · have := decDigits_le20 z.natAbs (by omega)
    simp
    omega
  · have := decDigits_le20 z.toNat (by omega)
    omega
set_option maxRecDepth 100000 in
set_option maxHeartbeats 4000000 in
theorem refDigits44_c (z : Int) (h1 : -9223372036854775808 ≤ z) (h2 : z ≤ 9223372036854775807) (w : World) :
    Calls Tryd.prog 22 #[.int .i64 z] w fun e w' => e = .returned (.string ⟨(Lib.itoa z).toArray⟩) ∧ w = w' := by
  by_cases hz : 0 ≤ z
  · obtain ⟨n, rfl⟩ : ∃ n : Nat, z = n := ⟨z.toNat, by omega⟩
    have C1 := Lib.hid (refDigitsAll_c n (by omega) w)
    have HE : Hid (Lib.itoa (n : Int) = Lib.decDigits n) := Lib.hid (by unfold Lib.itoa; rw [if_neg (by omega)]; simp)
    rw [HE.out]
    clear HE h1 h2
    generalize Lib.decDigits n = D at *
    go_enter Tryd.func22, Tryd.ntmps22
    go_wp2_with fail
    refine C1.out.mono ?_
    rintro e w1 ⟨rfl, rfl⟩
    go_wp2
    go_ret
    exact ⟨rfl, rfl⟩
  · obtain ⟨m, rfl⟩ : ∃ m : Nat, z = -(m : Int) := ⟨z.natAbs, by omega⟩
    have hm1 : 1 ≤ m := by omega
    have hm2 : m ≤ 9223372036854775808 := by omega
    have HE : Hid (Lib.itoa (-(m : Int)) = 45 :: Lib.decDigits m) := Lib.hid (by unfold Lib.itoa; rw [if_pos (by omega)]; simp)
    have C1 := Lib.hid (refDigitsAll_c (m / 10) (by omega) w)
    have C2 := Lib.hid (refDigitsAll_c (m % 10) (by omega) w)
    have HD := decDigits_le20 m hm2
    have e1 : Int.tmod (-(m : Int)) 10 = -((m % 10 : Nat) : Int) := by rw [Int.neg_tmod]; rfl
    have e2 : Int.tdiv (-(m : Int)) 10 = -((m / 10 : Nat) : Int) := by rw [Int.neg_tdiv]; rfl
    have i1 : ((m % 10 : Nat) : Int) = (m : Int) % 10 := by omega
    have i2 : ((m / 10 : Nat) : Int) = (m : Int) / 10 := by omega
    rw [i1] at C2
    rw [i2] at C1
    have g0 : ¬ (0 : Int) ≤ -(m : Int) := by omega
    clear e1 e2 i1 i2 h1 h2 hz
    by_cases h9 : m < 10
    · have HF : Hid (Lib.decDigits m = Lib.decDigits (m % 10)) := Lib.hid (by rw [Nat.mod_eq_of_lt h9])
      rw [HE.out, HF.out]
      have hl : (Lib.decDigits (m % 10)).length ≤ 20 := decDigits_le20 _ (by omega)
      have p1 : ∀ w : World, (Op.stringOp .add ⟨#[45]⟩ ⟨(Lib.decDigits (m % 10)).toArray⟩).run Tryd.prog w = .ok (.string ⟨(45 :: Lib.decDigits (m % 10)).toArray⟩) w := fun w => run_sop (w := w) [45] _ (by simp; omega)
      have g1 : ¬ (0 : Int) < (m : Int) / 10 := by omega
      clear HF C1 HE HD hl h9
      generalize Lib.decDigits (m % 10) = D at *
      go_enter Tryd.func22, Tryd.ntmps22
      go_wp2_with fail
      refine C2.out.mono ?_
      rintro e w1 ⟨rfl, rfl⟩
      go_wp2
      go_ret
      exact ⟨rfl, rfl⟩
    · have HF : Hid (Lib.decDigits m = Lib.decDigits (m / 10) ++ Lib.decDigits (m % 10)) := Lib.hid (by
        rw [Lib.decDigits, dif_neg (by omega)]
        congr 1
        rw [Lib.decDigits, dif_pos (by omega)])
      rw [HE.out, HF.out]
      have hl : (Lib.decDigits (m % 10)).length ≤ 20 := decDigits_le20 _ (by omega)
      have hl2 : (Lib.decDigits (m / 10)).length ≤ 20 := decDigits_le20 _ (by omega)
      have p1 : ∀ w : World, (Op.stringOp .add ⟨#[45]⟩ ⟨(Lib.decDigits (m / 10)).toArray⟩).run Tryd.prog w = .ok (.string ⟨(45 :: Lib.decDigits (m / 10)).toArray⟩) w := fun w => run_sop (w := w) [45] _ (by simp; omega)
      have p2 : ∀ w : World, (Op.stringOp .add ⟨(45 :: Lib.decDigits (m / 10)).toArray⟩ ⟨(Lib.decDigits (m % 10)).toArray⟩).run Tryd.prog w = .ok (.string ⟨((45 :: Lib.decDigits (m / 10)) ++ Lib.decDigits (m % 10)).toArray⟩) w := fun w => run_sop (w := w) _ _ (by simp; omega)
      have g1 : (0 : Int) < (m : Int) / 10 := by omega
      clear HF HE HD hl hl2 h9
      rw [List.cons_append] at p2
      generalize Lib.decDigits (m % 10) = D at *
      generalize Lib.decDigits (m / 10) = D2 at *
      have HR : Hid (45 :: (D2 ++ D) = 45 :: (D2 ++ D)) := Lib.hid rfl
      generalize h7 : 45 :: (D2 ++ D) = R at *
      generalize h8 : 45 :: D2 = R2 at *
      clear h7 h8
      go_enter Tryd.func22, Tryd.ntmps22
      go_wp2_with fail
      refine C1.out.mono ?_
      rintro e w1 ⟨rfl, rfl⟩
      go_wp2_with fail
      refine C2.out.mono ?_
      rintro e w1 ⟨rfl, rfl⟩
      go_wp2
      go_ret
      exact ⟨rfl, rfl⟩
end Go.Proofs.YtocbofeanfdggaaDoor
/- report.Class, report.Word; the document's -/
namespace Go.Proofs.YtocbofeanfdggaaDoor
open Go.ChangeShapes Go.WideShapes Go.ChangeAt Go.RowKit
set_option linter.unusedVariables false
/-- The words by their numbers. -/
def classL : List (List UInt8) := [[110, 111, 110, 101], [109, 97, 108, 102, 111, 114, 109, 101, 100], [114, 101, 99, 117, 114, 115, 105, 118, 101], [110, 97, 109, 101, 115, 112, 97, 99, 101], [102, 101, 116, 99, 104], [108, 105, 109, 105, 116], [99, 111, 110, 102, 105, 103]]
def wordL : List (List UInt8) := [[111, 107], [110, 105, 108], [97, 114, 103], [114, 97, 110, 103, 101], [110, 111, 110, 101], [117, 116, 102], [99, 104, 97, 114], [102, 111, 114, 109], [108, 111, 111, 112], [115, 112, 97, 99, 101], [102, 101, 116, 99, 104], [108, 105, 109, 105, 116], [116, 119, 105, 99, 101], [98, 105, 103], [100, 111, 110, 101], [108, 105, 110, 101]]
def ofL (t : List (List UInt8)) (z : Int) : List UInt8 := if z < 0 ∨ (t.length : Int) ≤ z then [63] else t.getD z.toNat []
def classRow : List Value := [.string ⟨#[110, 111, 110, 101]⟩, .string ⟨#[109, 97, 108, 102, 111, 114, 109, 101, 100]⟩, .string ⟨#[114, 101, 99, 117, 114, 115, 105, 118, 101]⟩, .string ⟨#[110, 97, 109, 101, 115, 112, 97, 99, 101]⟩, .string ⟨#[102, 101, 116, 99, 104]⟩, .string ⟨#[108, 105, 109, 105, 116]⟩, .string ⟨#[99, 111, 110, 102, 105, 103]⟩]
def wordRow : List Value := [.string ⟨#[111, 107]⟩, .string ⟨#[110, 105, 108]⟩, .string ⟨#[97, 114, 103]⟩, .string ⟨#[114, 97, 110, 103, 101]⟩, .string ⟨#[110, 111, 110, 101]⟩, .string ⟨#[117, 116, 102]⟩, .string ⟨#[99, 104, 97, 114]⟩, .string ⟨#[102, 111, 114, 109]⟩, .string ⟨#[108, 111, 111, 112]⟩, .string ⟨#[115, 112, 97, 99, 101]⟩, .string ⟨#[102, 101, 116, 99, 104]⟩, .string ⟨#[108, 105, 109, 105, 116]⟩, .string ⟨#[116, 119, 105, 99, 101]⟩, .string ⟨#[98, 105, 103]⟩, .string ⟨#[100, 111, 110, 101]⟩, .string ⟨#[108, 105, 110, 101]⟩]
def TabS (w : World) (g : Nat) (t : List (List UInt8)) : Prop := ∀ i (x : List UInt8), t[i]? = some x → w.cell? ⟨g, i, none⟩ = some (.string ⟨x.toArray⟩)
theorem TabS.lt {w : World} {g : Nat} {t : List (List UInt8)} (h : TabS w g t) (hn : 0 < t.length) : g < w.heap.size := World.block_lt_of_cell? w _ (h 0 _ (List.getElem?_eq_getElem hn))
theorem TabS.below {w w' : World} {B g : Nat} {t : List (List UInt8)} (h : TabS w g t) (hb : Below B w w') (hB : g < B) : TabS w' g t := fun i x hx => by rw [hb.cell hB]; exact h i x hx
theorem TabS.of {w : World} {g : Nat} {T : TypeId} {f : Nat × Nat} (t : List (List UInt8)) (r : List Value) (hr : r = t.map fun x => Value.string ⟨x.toArray⟩) (h : w.heap[g]? = some (.cells r.toArray T f)) : TabS w g t := by
  intro i x hx
  rw [cell_of i h, hr]
  simp [hx]
theorem of_c (g n : Nat) (t : List (List UInt8)) (z : Int) (w : World) (hn : t.length = n) (hn' : n ≤ 1000) (h : TabS w g t) :
    Calls Tryd.prog 41 #[.slice (some ⟨g, 0, none⟩) n n, .int .i64 z] w fun e w' => e = .returned (.string ⟨(ofL t z).toArray⟩) ∧ w = w' := by
  by_cases h1 : z < 0
  · rw [show ofL t z = [63] by unfold ofL; rw [if_pos (Or.inl h1)]]
    clear h
    go_enter Tryd.func41, Tryd.ntmps41
    go_wp2
    go_ret
    exact ⟨rfl, rfl⟩
  · by_cases h2 : (n : Int) ≤ z
    · rw [show ofL t z = [63] by unfold ofL; rw [if_pos (Or.inr (by omega))]]
      clear h
      go_enter Tryd.func41, Tryd.ntmps41
      go_wp2
      go_ret
      exact ⟨rfl, rfl⟩
    · obtain ⟨k, rfl⟩ : ∃ k : Nat, z = k := ⟨z.toNat, by omega⟩
      have hk : k < t.length := by omega
      have hc := h k _ (List.getElem?_eq_getElem hk)
      rw [show ofL t (k : Int) = t[k] by unfold ofL; rw [if_neg (by omega)]; simp [List.getD, List.getElem?_eq_getElem hk]]
      generalize t[k] = x at hc
      clear h
      go_enter Tryd.func41, Tryd.ntmps41
      go_wp2
      go_ret
      exact ⟨rfl, rfl⟩
theorem repClass_c (z : Int) (w : World) (h : TabS w 0 classL) :
    Calls Tryd.prog 29 #[.int .i64 z] w fun e w' => e = .returned (.string ⟨(ofL classL z).toArray⟩) ∧ w = w' := by
  have c := Lib.hid (of_c 0 7 classL z w rfl (by decide) h)
  clear h
  generalize ofL classL z = r at *
  go_enter Tryd.func29, Tryd.ntmps29
  go_wp2_with fail
  refine c.out.mono ?_
  rintro e w' ⟨rfl, rfl⟩
  go_wp2
  go_ret
  exact ⟨rfl, rfl⟩
set_option maxRecDepth 100000 in
theorem refClass_c (z : Int) (w : World) :
    Calls Tryd.prog 19 #[.int .i64 z] w fun e w' => e = .returned (.string ⟨(ofL classL z).toArray⟩) ∧ Below w.heap.size w w' := by
  by_cases h1 : z < 0
  · rw [show ofL classL z = [63] by unfold ofL; rw [if_pos (Or.inl h1)]]
    go_enter Tryd.func19, Tryd.ntmps19
    go_wp2
    go_ret
    exact ⟨rfl, Below.refl _ _⟩
  · by_cases h2 : (6 : Int) < z
    · rw [show ofL classL z = [63] by unfold ofL; rw [if_pos (Or.inr (by simp [classL]; omega))]]
      go_enter Tryd.func19, Tryd.ntmps19
      go_wp2
      go_ret
      exact ⟨rfl, Below.refl _ _⟩
    · obtain ⟨k, rfl⟩ : ∃ k : Nat, z = k := ⟨z.toNat, by omega⟩
      have hk : k < classL.length := by simp [classL]; omega
      have hk' : k < 7 := hk
      rw [show ofL classL (k : Int) = classL[k] by unfold ofL; rw [if_neg (by omega), Int.toNat_natCast]; simp only [List.getD, List.getElem?_eq_getElem hk]; rfl]
      go_enter Tryd.func19, Tryd.ntmps19
      go_wp2
      go_ret
      refine ⟨?_, (Below.refl _ _).alloc (Nat.le_refl _) _⟩
      rcases (show k = 0 ∨ k = 1 ∨ k = 2 ∨ k = 3 ∨ k = 4 ∨ k = 5 ∨ k = 6 by omega) with rfl | rfl | rfl | rfl | rfl | rfl | rfl <;> rfl
theorem repWord_c (z : Int) (w : World) (h : TabS w 1 wordL) :
    Calls Tryd.prog 30 #[.int .i64 z] w fun e w' => e = .returned (.string ⟨(ofL wordL z).toArray⟩) ∧ w = w' := by
  have c := Lib.hid (of_c 1 16 wordL z w rfl (by decide) h)
  clear h
  generalize ofL wordL z = r at *
  go_enter Tryd.func30, Tryd.ntmps30
  go_wp2_with fail
  refine c.out.mono ?_
  rintro e w' ⟨rfl, rfl⟩
  go_wp2
  go_ret
  exact ⟨rfl, rfl⟩
set_option maxRecDepth 100000 in
theorem refWord_c (z : Int) (w : World) :
    Calls Tryd.prog 20 #[.int .i64 z] w fun e w' => e = .returned (.string ⟨(ofL wordL z).toArray⟩) ∧ Below w.heap.size w w' := by
  by_cases h1 : z < 0
  · rw [show ofL wordL z = [63] by unfold ofL; rw [if_pos (Or.inl h1)]]
    go_enter Tryd.func20, Tryd.ntmps20
    go_wp2
    go_ret
    exact ⟨rfl, Below.refl _ _⟩
  · by_cases h2 : (15 : Int) < z
    · rw [show ofL wordL z = [63] by unfold ofL; rw [if_pos (Or.inr (by simp [wordL]; omega))]]
      go_enter Tryd.func20, Tryd.ntmps20
      go_wp2
      go_ret
      exact ⟨rfl, Below.refl _ _⟩
    · obtain ⟨k, rfl⟩ : ∃ k : Nat, z = k := ⟨z.toNat, by omega⟩
      have hk : k < wordL.length := by simp [wordL]; omega
      have hk' : k < 16 := hk
      rw [show ofL wordL (k : Int) = wordL[k] by unfold ofL; rw [if_neg (by omega), Int.toNat_natCast]; simp only [List.getD, List.getElem?_eq_getElem hk]; rfl]
      go_enter Tryd.func20, Tryd.ntmps20
      go_wp2
      go_ret
      refine ⟨?_, (Below.refl _ _).alloc (Nat.le_refl _) _⟩
      rcases (show k = 0 ∨ k = 1 ∨ k = 2 ∨ k = 3 ∨ k = 4 ∨ k = 5 ∨ k = 6 ∨ k = 7 ∨ k = 8 ∨ k = 9 ∨ k = 10 ∨ k = 11 ∨ k = 12 ∨ k = 13 ∨ k = 14 ∨ k = 15 by omega) with rfl | rfl | rfl | rfl | rfl | rfl | rfl | rfl | rfl | rfl | rfl | rfl | rfl | rfl | rfl | rfl <;> rfl
end Go.Proofs.YtocbofeanfdggaaDoor
