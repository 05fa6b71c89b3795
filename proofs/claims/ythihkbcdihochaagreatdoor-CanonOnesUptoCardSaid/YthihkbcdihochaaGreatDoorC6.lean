/- Texts of ours, joined: Esc2, CnX, CnB, StO, EvR, Grow. -/
import Derived.Test.YthihkbcdihochaaGreatDoorRows
import Derived.WalkKit
import Derived.ProofKit
import Derived.OpenShut
import Derived.ShutString
import Derived.ChangeOld
import Derived.Below
import Derived.BigQuiet
import Derived.Deep.QuietTactic
import Derived.Lib.Hide
import Derived.Deep.RegionHeld3
import Derived.Lib.SlBytesConst
import Derived.Laws.CopyOwn
import Derived.Laws.CopyRow
import Derived.Lib.Bytes
import Derived.Deep.LoopGhost
import Derived.Deep.DeepFit
import Derived.Deep.DeepMust
import Derived.WalkSpells
import Derived.WalkLawsBesides
import Derived.Test.YthihkbcdihochaaGreatDoorC1
import Derived.Maps.OwnOps
import Derived.Maps.OwnSet
import Derived.Maps.Views
import Derived.Laws.EntriesVeiled
import Derived.Laws.Rows
import Derived.Maps.AppendAt
import Derived.Lib.SmallJoins
import Derived.Deep.AppendLies
import Derived.DeepKeys4
import Derived.MapViews
import Derived.Maps.Keyed
import Derived.Carry
import Derived.Lib.ItoaNum
import Derived.Lib.AppendIntMem
import Derived.Test.YthihkbcdihochaaGreatDoorC2
import Derived.Test.YthihkbcdihochaaGreatDoorC5
import Derived.Deep.RegionLaw
import Derived.Deep.RegionWith
import Derived.Deep.DeepHandedRow
import Derived.Deep.SlicePairs
import Derived.Deep.Slices
import Derived.ChangeArms
import Derived.Deep.Fields
import Derived.DataReads
import Derived.Test.YthihkbcdihochaaGreatDoorC4
import Derived.Test.YthihkbcdihochaaGreatDoorC3
import Derived.Lib.Builder
import Derived.Lib.AppendStr
import Derived.Lib.UnsafeStr
import Derived.Laws.Externs
/- narthexref06.Escape. -/
namespace Go.Proofs.YthihkbcdihochaaGreatDoor
open Go.ChangeShapes Go.WideShapes Go.ChangeAt Go.RowKit
set_option linter.unusedVariables false
set_option maxRecDepth 100000 in
set_option maxHeartbeats 4000000 in
theorem refEscape_c (l : List UInt8) (w : World) (hm : l.length ≤ 1000000) :
    Calls Tryz.prog 20 #[.string ⟨l.toArray⟩] w fun e w' => e = .returned (.string ⟨(esc l).toArray⟩) ∧ w = w' := by
  have hsz : (⟨l.toArray⟩ : ByteArray).size = l.length := by simp [ByteArray.size]
  go_enter Tryz.func20, Tryz.ntmps20
  go_wp2
  go_loop [4, 3] (fun i s => ∃ k : Nat, k ≤ l.length ∧ i = .int .i64 k ∧ s = .string ⟨(esc (l.take k)).toArray⟩) (fun i _ => l.length - (intOf i).toNat)
  case atStart => exact ⟨0, Nat.zero_le _, rfl, rfl⟩
  case round =>
    obtain ⟨k, hk, rfl, rfl⟩ := hrel
    have hk0 : (0 : Int) ≤ (k : Int) := by omega
    have hk1 : (k : Int) ≤ 1000000 := by omega
    by_cases hlt : k < l.length
    · have hix := run_strIndex l k hlt w
      have hsl := run_strSlice l k (k + 1) (by omega) (by omega) w
      rw [show ((k + 1 : Nat) : Int) = (k : Int) + 1 by omega, show k + 1 - k = 1 by omega, show (l.drop k).take 1 = [l.getD k 0] by
        rw [List.drop_eq_getElem_cons hlt, List.take_succ_cons, List.take_zero]; simp [hlt]] at hsl
      have HSN : Hid (esc (l.take (k + 1)) = esc (l.take k) ++ escB (l.getD k 0)) := Lib.hid (by
        rw [take_snoc l k (l.getD k 0) (by simp [hlt]), esc_snoc])
      have HLE : Hid ((esc (l.take k)).length ≤ 6000000) := Lib.hid (by have := esc_le (l.take k); rw [List.length_take] at this; omega)
      have HLT : Hid (k < l.length) := Lib.hid hlt
      generalize l.getD k 0 = d at *
      generalize esc (l.take k) = E at *
      have hd0 : (0 : Int) ≤ (d.toNat : Int) := by omega
      have hd1 : (d.toNat : Int) ≤ 255 := by have := d.toNat_lt; omega
      by_cases h0 : d = 38
      · have hdn : (d.toNat : Int) = 38 := by subst h0; rfl
        rw [hdn] at hix
        clear hdn hd0 hd1
        have HEB : Hid (escB d = [38, 97, 109, 112, 59]) := Lib.hid (by subst h0; rfl)
        have hsp : (Op.stringOp .add ⟨E.toArray⟩ ⟨#[38, 97, 109, 112, 59]⟩).run Tryz.prog w = .ok (.string ⟨(E ++ [38, 97, 109, 112, 59]).toArray⟩) w := run_sop (w := w) E [38, 97, 109, 112, 59] (by have := HLE.out; simp; omega)
        have HN : Hid (esc (l.take (k + 1)) = E ++ [38, 97, 109, 112, 59]) := Lib.hid (by rw [HSN.out, HEB.out])
        generalize E ++ [38, 97, 109, 112, 59] = E' at *
        go_wp2
        go_round
        case rel => exact ⟨k + 1, by omega, by go_num, by rw [HN.out]⟩
        case measure => simp [intOf]; omega
      · have e0 : ((d.toNat : Int) == 38) = false := ne_byte d 38 38 rfl h0
        by_cases h1 : d = 60
        · clear e0 h0
          have hdn : (d.toNat : Int) = 60 := by subst h1; rfl
          rw [hdn] at hix
          clear hdn hd0 hd1
          have HEB : Hid (escB d = [38, 108, 116, 59]) := Lib.hid (by subst h1; rfl)
          have hsp : (Op.stringOp .add ⟨E.toArray⟩ ⟨#[38, 108, 116, 59]⟩).run Tryz.prog w = .ok (.string ⟨(E ++ [38, 108, 116, 59]).toArray⟩) w := run_sop (w := w) E [38, 108, 116, 59] (by have := HLE.out; simp; omega)
          have HN : Hid (esc (l.take (k + 1)) = E ++ [38, 108, 116, 59]) := Lib.hid (by rw [HSN.out, HEB.out])
          generalize E ++ [38, 108, 116, 59] = E' at *
          go_wp2
          go_round
          case rel => exact ⟨k + 1, by omega, by go_num, by rw [HN.out]⟩
          case measure => simp [intOf]; omega
        · have e1 : ((d.toNat : Int) == 60) = false := ne_byte d 60 60 rfl h1
          by_cases h2 : d = 62
          · clear e1 h1
            clear e0 h0
            have hdn : (d.toNat : Int) = 62 := by subst h2; rfl
            rw [hdn] at hix
            clear hdn hd0 hd1
            have HEB : Hid (escB d = [38, 103, 116, 59]) := Lib.hid (by subst h2; rfl)
            have hsp : (Op.stringOp .add ⟨E.toArray⟩ ⟨#[38, 103, 116, 59]⟩).run Tryz.prog w = .ok (.string ⟨(E ++ [38, 103, 116, 59]).toArray⟩) w := run_sop (w := w) E [38, 103, 116, 59] (by have := HLE.out; simp; omega)
            have HN : Hid (esc (l.take (k + 1)) = E ++ [38, 103, 116, 59]) := Lib.hid (by rw [HSN.out, HEB.out])
            generalize E ++ [38, 103, 116, 59] = E' at *
            go_wp2
            go_round
            case rel => exact ⟨k + 1, by omega, by go_num, by rw [HN.out]⟩
            case measure => simp [intOf]; omega
          · have e2 : ((d.toNat : Int) == 62) = false := ne_byte d 62 62 rfl h2
            by_cases h3 : d = 34
            · clear e2 h2
              clear e1 h1
              clear e0 h0
              have hdn : (d.toNat : Int) = 34 := by subst h3; rfl
              rw [hdn] at hix
              clear hdn hd0 hd1
              have HEB : Hid (escB d = [38, 113, 117, 111, 116, 59]) := Lib.hid (by subst h3; rfl)
              have hsp : (Op.stringOp .add ⟨E.toArray⟩ ⟨#[38, 113, 117, 111, 116, 59]⟩).run Tryz.prog w = .ok (.string ⟨(E ++ [38, 113, 117, 111, 116, 59]).toArray⟩) w := run_sop (w := w) E [38, 113, 117, 111, 116, 59] (by have := HLE.out; simp; omega)
              have HN : Hid (esc (l.take (k + 1)) = E ++ [38, 113, 117, 111, 116, 59]) := Lib.hid (by rw [HSN.out, HEB.out])
              generalize E ++ [38, 113, 117, 111, 116, 59] = E' at *
              go_wp2
              go_round
              case rel => exact ⟨k + 1, by omega, by go_num, by rw [HN.out]⟩
              case measure => simp [intOf]; omega
            · have e3 : ((d.toNat : Int) == 34) = false := ne_byte d 34 34 rfl h3
              by_cases h4 : d = 13
              · clear e3 h3
                clear e2 h2
                clear e1 h1
                clear e0 h0
                have hdn : (d.toNat : Int) = 13 := by subst h4; rfl
                rw [hdn] at hix
                clear hdn hd0 hd1
                have HEB : Hid (escB d = [38, 35, 49, 51, 59]) := Lib.hid (by subst h4; rfl)
                have hsp : (Op.stringOp .add ⟨E.toArray⟩ ⟨#[38, 35]⟩).run Tryz.prog w = .ok (.string ⟨(E ++ [38, 35]).toArray⟩) w := run_sop (w := w) E [38, 35] (by have := HLE.out; simp; omega)
                have hsp2 : (Op.stringOp .add ⟨(E ++ [38, 35]).toArray⟩ ⟨#[49, 51]⟩).run Tryz.prog w = .ok (.string ⟨(E ++ [38, 35] ++ [49, 51]).toArray⟩) w := run_sop (w := w) (E ++ [38, 35]) [49, 51] (by have := HLE.out; simp; omega)
                have hsp3 : (Op.stringOp .add ⟨(E ++ [38, 35] ++ [49, 51]).toArray⟩ ⟨#[59]⟩).run Tryz.prog w = .ok (.string ⟨(E ++ [38, 35] ++ [49, 51] ++ [59]).toArray⟩) w := run_sop (w := w) (E ++ [38, 35] ++ [49, 51]) [59] (by have := HLE.out; simp; omega)
                have HN : Hid (esc (l.take (k + 1)) = E ++ [38, 35] ++ [49, 51] ++ [59]) := Lib.hid (by rw [HSN.out, HEB.out]; simp)
                generalize E ++ [38, 35] ++ [49, 51] ++ [59] = E3 at *
                generalize E ++ [38, 35] ++ [49, 51] = E2 at *
                generalize E ++ [38, 35] = E1 at *
                have hdg := refDigits_c 13 (by omega) w
                rw [show Lib.decDigits 13 = [49, 51] by decide +kernel] at hdg
                go_wp2_with fail
                refine hdg.mono ?_
                rintro e w1 ⟨rfl, rfl⟩
                clear hdg
                go_wp2
                go_round
                case rel => exact ⟨k + 1, by omega, by go_num, by rw [HN.out]⟩
                case measure => simp [intOf]; omega
              · have e4 : ((d.toNat : Int) == 13) = false := ne_byte d 13 13 rfl h4
                by_cases h5 : d = 10
                · clear e4 h4
                  clear e3 h3
                  clear e2 h2
                  clear e1 h1
                  clear e0 h0
                  have hdn : (d.toNat : Int) = 10 := by subst h5; rfl
                  rw [hdn] at hix
                  clear hdn hd0 hd1
                  have HEB : Hid (escB d = [38, 35, 49, 48, 59]) := Lib.hid (by subst h5; rfl)
                  have hsp : (Op.stringOp .add ⟨E.toArray⟩ ⟨#[38, 35]⟩).run Tryz.prog w = .ok (.string ⟨(E ++ [38, 35]).toArray⟩) w := run_sop (w := w) E [38, 35] (by have := HLE.out; simp; omega)
                  have hsp2 : (Op.stringOp .add ⟨(E ++ [38, 35]).toArray⟩ ⟨#[49, 48]⟩).run Tryz.prog w = .ok (.string ⟨(E ++ [38, 35] ++ [49, 48]).toArray⟩) w := run_sop (w := w) (E ++ [38, 35]) [49, 48] (by have := HLE.out; simp; omega)
                  have hsp3 : (Op.stringOp .add ⟨(E ++ [38, 35] ++ [49, 48]).toArray⟩ ⟨#[59]⟩).run Tryz.prog w = .ok (.string ⟨(E ++ [38, 35] ++ [49, 48] ++ [59]).toArray⟩) w := run_sop (w := w) (E ++ [38, 35] ++ [49, 48]) [59] (by have := HLE.out; simp; omega)
                  have HN : Hid (esc (l.take (k + 1)) = E ++ [38, 35] ++ [49, 48] ++ [59]) := Lib.hid (by rw [HSN.out, HEB.out]; simp)
                  generalize E ++ [38, 35] ++ [49, 48] ++ [59] = E3 at *
                  generalize E ++ [38, 35] ++ [49, 48] = E2 at *
                  generalize E ++ [38, 35] = E1 at *
                  have hdg := refDigits_c 10 (by omega) w
                  rw [show Lib.decDigits 10 = [49, 48] by decide +kernel] at hdg
                  go_wp2_with fail
                  refine hdg.mono ?_
                  rintro e w1 ⟨rfl, rfl⟩
                  clear hdg
                  go_wp2
                  go_round
                  case rel => exact ⟨k + 1, by omega, by go_num, by rw [HN.out]⟩
                  case measure => simp [intOf]; omega
                · have e5 : ((d.toNat : Int) == 10) = false := ne_byte d 10 10 rfl h5
                  by_cases h6 : d = 9
                  · clear e5 h5
                    clear e4 h4
                    clear e3 h3
                    clear e2 h2
                    clear e1 h1
                    clear e0 h0
                    have hdn : (d.toNat : Int) = 9 := by subst h6; rfl
                    rw [hdn] at hix
                    clear hdn hd0 hd1
                    have HEB : Hid (escB d = [38, 35, 57, 59]) := Lib.hid (by subst h6; rfl)
                    have hsp : (Op.stringOp .add ⟨E.toArray⟩ ⟨#[38, 35]⟩).run Tryz.prog w = .ok (.string ⟨(E ++ [38, 35]).toArray⟩) w := run_sop (w := w) E [38, 35] (by have := HLE.out; simp; omega)
                    have hsp2 : (Op.stringOp .add ⟨(E ++ [38, 35]).toArray⟩ ⟨#[57]⟩).run Tryz.prog w = .ok (.string ⟨(E ++ [38, 35] ++ [57]).toArray⟩) w := run_sop (w := w) (E ++ [38, 35]) [57] (by have := HLE.out; simp; omega)
                    have hsp3 : (Op.stringOp .add ⟨(E ++ [38, 35] ++ [57]).toArray⟩ ⟨#[59]⟩).run Tryz.prog w = .ok (.string ⟨(E ++ [38, 35] ++ [57] ++ [59]).toArray⟩) w := run_sop (w := w) (E ++ [38, 35] ++ [57]) [59] (by have := HLE.out; simp; omega)
                    have HN : Hid (esc (l.take (k + 1)) = E ++ [38, 35] ++ [57] ++ [59]) := Lib.hid (by rw [HSN.out, HEB.out]; simp)
                    generalize E ++ [38, 35] ++ [57] ++ [59] = E3 at *
                    generalize E ++ [38, 35] ++ [57] = E2 at *
                    generalize E ++ [38, 35] = E1 at *
                    have hdg := refDigits_c 9 (by omega) w
                    rw [show Lib.decDigits 9 = [57] by decide +kernel] at hdg
                    go_wp2_with fail
                    refine hdg.mono ?_
                    rintro e w1 ⟨rfl, rfl⟩
                    clear hdg
                    go_wp2
                    go_round
                    case rel => exact ⟨k + 1, by omega, by go_num, by rw [HN.out]⟩
                    case measure => simp [intOf]; omega
                  · have e6 : ((d.toNat : Int) == 9) = false := ne_byte d 9 9 rfl h6
                    have HEB : Hid (escB d = [d]) := Lib.hid (by unfold escB; simp [h0, h1, h2, h3, h4, h5, h6])
                    have hsp : (Op.stringOp .add ⟨E.toArray⟩ ⟨#[d]⟩).run Tryz.prog w = .ok (.string ⟨(E ++ [d]).toArray⟩) w := run_sop (w := w) E [d] (by have := HLE.out; simp; omega)
                    have HN : Hid (esc (l.take (k + 1)) = E ++ [d]) := Lib.hid (by rw [HSN.out, HEB.out])
                    generalize E ++ [d] = E' at *
                    clear h0 h1 h2 h3 h4 h5 h6
                    go_wp2
                    go_round
                    case rel => exact ⟨k + 1, by omega, by go_num, by rw [HN.out]⟩
                    case measure => simp [intOf]; omega
    · obtain rfl : k = l.length := by omega
      have HT : Hid (l.take l.length = l) := Lib.hid (List.take_length)
      go_wp2
      go_ret
      exact ⟨rfl, rfl⟩
end Go.Proofs.YthihkbcdihochaaGreatDoor
/- Small functions of layer 41. -/
namespace Go.Proofs.YthihkbcdihochaaGreatDoor
open Go.ChangeShapes Go.WideShapes Go.ChangeAt Go.RowKit
set_option linter.unusedVariables false
theorem decD_le (n : Nat) (h : n ≤ 1000000) : (Lib.decDigits n).length ≤ 20 := by
  have key : ∀ (k n : Nat), n < 10 ^ (k + 1) → (Lib.decDigits n).length ≤ k + 1 := by
    intro k
    induction k with
    | zero =>
      intro n h
      rw [Lib.decDigits, dif_pos (by omega)]
      simp
    | succ k ih =>
      intro n h
      rw [Lib.decDigits]
      split
      · simp
      · rw [List.length_append]
        have := ih (n / 10) (by rw [Nat.pow_succ] at h; omega)
        simp
        omega
  exact key 19 n (by omega)
set_option maxRecDepth 100000 in
set_option maxHeartbeats 4000000 in
theorem cnElem_c (sp lo : List UInt8) (w : World) (hl : lo.length ≤ 1000000) : Calls Tryz.prog 51 #[.agg #[.string ⟨sp.toArray⟩, .string ⟨lo.toArray⟩]] w fun e w' => e = .returned (.string ⟨(elemL sp lo).toArray⟩) ∧ Below w.heap.size w w' := by
  have J0 := Lib.hid (CJ.start 38 w #[.string ⟨sp.toArray⟩, .string ⟨lo.toArray⟩])
  have z0 := cell_of 0 J0.out.2
  have z1 := cell_of 1 J0.out.2
  have he := xml_eq sp
  unfold elemL
  obtain ⟨b, hb⟩ : ∃ b, decide (sp = xmlSp) = b := ⟨_, rfl⟩
  rw [hb] at he
  have p1 : ∀ w : World, (Op.stringOp .add ⟨#[120, 109, 108, 58]⟩ ⟨lo.toArray⟩).run Tryz.prog w = .ok (.string ⟨([120, 109, 108, 58] ++ lo).toArray⟩) w := fun w => run_sop (w := w) [120, 109, 108, 58] lo (by simp; omega)
  obtain ⟨X, hX⟩ : ∃ q, [120, 109, 108, 58] ++ lo = q := ⟨_, rfl⟩
  rw [hX] at p1
  cases b with
  | true =>
    rw [if_pos (of_decide_eq_true hb), hX]
    clear hb hX hl
    unfold xmlSp at he
    go_enter Tryz.func51, Tryz.ntmps51
    go_wp2
    go_ret
    exact ⟨rfl, J0.out.1⟩
  | false =>
    rw [if_neg (of_decide_eq_false hb)]
    clear hb hX hl
    unfold xmlSp at he
    go_enter Tryz.func51, Tryz.ntmps51
    go_wp2
    go_ret
    exact ⟨rfl, J0.out.1⟩
set_option maxRecDepth 100000 in
set_option maxHeartbeats 4000000 in
theorem refElem41_c (sp lo : List UInt8) (w : World) (hl : lo.length ≤ 1000000) : Calls Tryz.prog 53 #[.agg #[.string ⟨sp.toArray⟩, .string ⟨lo.toArray⟩]] w fun e w' => e = .returned (.string ⟨(elemL sp lo).toArray⟩) ∧ Below w.heap.size w w' := by
  have J0 := Lib.hid (CJ.start 38 w #[.string ⟨sp.toArray⟩, .string ⟨lo.toArray⟩])
  have z0 := cell_of 0 J0.out.2
  have z1 := cell_of 1 J0.out.2
  have he := xml_eq sp
  unfold elemL
  obtain ⟨b, hb⟩ : ∃ b, decide (sp = xmlSp) = b := ⟨_, rfl⟩
  rw [hb] at he
  have p1 : ∀ w : World, (Op.stringOp .add ⟨#[120, 109, 108, 58]⟩ ⟨lo.toArray⟩).run Tryz.prog w = .ok (.string ⟨([120, 109, 108, 58] ++ lo).toArray⟩) w := fun w => run_sop (w := w) [120, 109, 108, 58] lo (by simp; omega)
  obtain ⟨X, hX⟩ : ∃ q, [120, 109, 108, 58] ++ lo = q := ⟨_, rfl⟩
  rw [hX] at p1
  cases b with
  | true =>
    rw [if_pos (of_decide_eq_true hb), hX]
    clear hb hX hl
    unfold xmlSp at he
    go_enter Tryz.func53, Tryz.ntmps53
    go_wp2
    go_ret
    exact ⟨rfl, J0.out.1⟩
  | false =>
    rw [if_neg (of_decide_eq_false hb)]
    clear hb hX hl
    unfold xmlSp at he
    go_enter Tryz.func53, Tryz.ntmps53
    go_wp2
    go_ret
    exact ⟨rfl, J0.out.1⟩
set_option maxRecDepth 100000 in
set_option maxHeartbeats 4000000 in
theorem litWrite_c (s : List UInt8) (w : World) (hl : s.length ≤ 100000) : Calls Tryz.prog 114 #[.string ⟨s.toArray⟩] w fun e w' => e = .returned (.string ⟨(valL s).toArray⟩) ∧ Below w.heap.size w w' := by
  have C1 := Lib.hid (escape_c s w (by omega))
  have n1 := esc_le s
  unfold valL
  obtain ⟨E, hE⟩ : ∃ q, esc s = q := ⟨_, rfl⟩
  rw [hE] at C1 n1 ⊢
  have p1 : ∀ w : World, (Op.stringOp .add ⟨#[34]⟩ ⟨E.toArray⟩).run Tryz.prog w = .ok (.string ⟨([34] ++ E).toArray⟩) w := fun w => run_sop (w := w) [34] E (by simp; omega)
  have p2 : ∀ w : World, (Op.stringOp .add ⟨([34] ++ E).toArray⟩ ⟨#[34]⟩).run Tryz.prog w = .ok (.string ⟨([34] ++ E ++ [34]).toArray⟩) w := fun w => run_sop (w := w) ([34] ++ E) [34] (by simp; omega)
  obtain ⟨X2, hX2⟩ : ∃ q, [34] ++ E ++ [34] = q := ⟨_, rfl⟩
  obtain ⟨X1, hX1⟩ : ∃ q, [34] ++ E = q := ⟨_, rfl⟩
  rw [hX2] at p2 ⊢
  rw [hX1] at p1 p2
  clear hE hX2 hX1 n1 hl
  go_enter Tryz.func114, Tryz.ntmps114
  go_wp2_with fail
  refine C1.out.mono ?_
  rintro e w1 ⟨rfl, hb⟩
  have HB := Lib.hid hb
  clear hb
  go_wp2
  go_ret
  exact ⟨rfl, HB.out⟩
set_option maxRecDepth 100000 in
set_option maxHeartbeats 4000000 in
theorem refValue41_c (s : List UInt8) (w : World) (hl : s.length ≤ 100000) : Calls Tryz.prog 54 #[.string ⟨s.toArray⟩] w fun e w' => e = .returned (.string ⟨(valL s).toArray⟩) ∧ w = w' := by
  have C1 := Lib.hid (refEscape_c s w (by omega))
  have n1 := esc_le s
  unfold valL
  obtain ⟨E, hE⟩ : ∃ q, esc s = q := ⟨_, rfl⟩
  rw [hE] at C1 n1 ⊢
  have p1 : ∀ w : World, (Op.stringOp .add ⟨#[34]⟩ ⟨E.toArray⟩).run Tryz.prog w = .ok (.string ⟨([34] ++ E).toArray⟩) w := fun w => run_sop (w := w) [34] E (by simp; omega)
  have p2 : ∀ w : World, (Op.stringOp .add ⟨([34] ++ E).toArray⟩ ⟨#[34]⟩).run Tryz.prog w = .ok (.string ⟨([34] ++ E ++ [34]).toArray⟩) w := fun w => run_sop (w := w) ([34] ++ E) [34] (by simp; omega)
  obtain ⟨X2, hX2⟩ : ∃ q, [34] ++ E ++ [34] = q := ⟨_, rfl⟩
  obtain ⟨X1, hX1⟩ : ∃ q, [34] ++ E = q := ⟨_, rfl⟩
  rw [hX2] at p2 ⊢
  rw [hX1] at p1 p2
  clear hE hX2 hX1 n1 hl
  go_enter Tryz.func54, Tryz.ntmps54
  go_wp2_with fail
  refine C1.out.mono ?_
  rintro e w1 ⟨rfl, hb⟩
  subst hb
  skip
  go_wp2
  go_ret
  exact ⟨rfl, rfl⟩
theorem TabIs_below41 {w w' : World} {name : String} {k : IntKind} {zs : List Int} (h : Lib.TabIs Tryz.prog w name k zs) (hb : Below w.heap.size w w') : Lib.TabIs Tryz.prog w' name k zs := by
  unfold Lib.TabIs World.var? at *
  obtain ⟨g, hg, h⟩ := Option.bind_eq_some_iff.1 h
  rw [hg, Option.bind_some]
  cases ho : w.heap[g]? with
  | none => rw [ho] at h; cases h
  | some o =>
    rw [hb.block g (lt_of ho), ho]
    rw [ho] at h
    exact h
theorem grow_below41 {w w' : World} (h : ∃ k os, w' = Sort.grow (w.drewN k) os) : Below w.heap.size w w' := by
  obtain ⟨k, os, rfl⟩ := h
  exact Lib.below_grow _ w (Nat.le_refl _) k os
theorem itoa41_c (n : Nat) (hn : n ≤ 1000000) (w : World) (hp : Lib.TabIs Tryz.prog w "internal/strconv.uint64pow10" .u64 Lib.pow10Tab) : Calls Tryz.prog 79 #[.int .i64 (n : Int)] w fun e w' => e = .returned (.string ⟨(Lib.decDigits n).toArray⟩) ∧ Below w.heap.size w w' := by
  refine (Tryz.strconv_Itoa n (by omega) (by omega) w hp).mono fun e w' ⟨he, hw⟩ => ⟨?_, grow_below41 hw⟩
  rw [he]
  unfold Lib.itoa
  rw [if_neg (by omega)]
  simp
set_option maxRecDepth 100000 in
set_option maxHeartbeats 4000000 in
theorem cnPrefix_c (sp lo : List UInt8) (l : List (List UInt8)) (mb : Nat) (w : World) (hM : AtM w mb l) (hl : l.length ≤ 5000) (hs : sp.length ≤ 5000) (hm : sp = [] ∨ sp = xmlSp ∨ sp ∈ l) (hp : Lib.TabIs Tryz.prog w "internal/strconv.uint64pow10" .u64 Lib.pow10Tab) :
    Calls Tryz.prog 116 #[.agg #[.string ⟨sp.toArray⟩, .string ⟨lo.toArray⟩], .map (some mb)] w fun e w' => e = .returned (.string ⟨(prefL l sp).toArray⟩) ∧ Below w.heap.size w w' := by
  have J0 := Lib.hid (CJ.start 38 w #[.string ⟨sp.toArray⟩, .string ⟨lo.toArray⟩])
  have z0 := cell_of 0 J0.out.2
  have he := xml_eq sp
  obtain ⟨b, hb⟩ : ∃ b, decide (sp = xmlSp) = b := ⟨_, rfl⟩
  rw [hb] at he
  unfold xmlSp at he
  cases sp with
  | nil =>
    clear he hb hm
    go_enter Tryz.func116, Tryz.ntmps116
    go_wp2
    go_ret
    exact ⟨rfl, J0.out.1⟩
  | cons a0 tl0 =>
    unfold prefL
    rw [if_neg (by simp)]
    cases b with
    | true =>
      rw [if_pos (of_decide_eq_true hb)]
      clear hb hm
      go_enter Tryz.func116, Tryz.ntmps116
      go_wp2
      go_ret
      exact ⟨rfl, J0.out.1⟩
    | false =>
      have hx := of_decide_eq_false hb
      rw [if_neg hx]
      have hmem : (a0 :: tl0) ∈ l := by
        rcases hm with h | h | h
        · cases h
        · exact absurd h hx
        · exact h
      have hi : l.idxOf (a0 :: tl0) < l.length := List.idxOf_lt_length_iff.2 hmem
      have hJM : AtM (w.alloc (.cells #[.string ⟨(a0 :: tl0).toArray⟩, .string ⟨lo.toArray⟩] 38)) mb l := hM.kept (Below.heap_alloc _ _ _ hM.lt)
      obtain ⟨D, hown, hhas, hat⟩ := hJM
      have hat2 := hat _ hmem
      have HKEY := Lib.hid (keySn (s := a0 :: tl0) (by omega))
      obtain ⟨ix, hix⟩ : ∃ q, l.idxOf (a0 :: tl0) = q := ⟨_, rfl⟩
      rw [hix] at hat2 hi ⊢
      have HDk : Hid (∀ c' : Int, D.atKey (.string (a0 :: tl0)) (.lit (.int .i64 0)) = .lit (.int .i64 c') → c' = (ix : Int)) := Lib.hid fun c' h => by
        rw [hat2] at h
        simp at h
        exact h.symm
      have C1 := Lib.hid (itoa41_c ix (by omega) _ (TabIs_below41 hp J0.out.1))
      have n1 := decD_le ix (by omega)
      obtain ⟨E, hE⟩ : ∃ q, Lib.decDigits ix = q := ⟨_, rfl⟩
      rw [hE] at C1 n1 ⊢
      have p1 : ∀ w : World, (Op.stringOp .add ⟨#[110]⟩ ⟨E.toArray⟩).run Tryz.prog w = .ok (.string ⟨([110] ++ E).toArray⟩) w := fun w => run_sop (w := w) [110] E (by simp; omega)
      have p2 : ∀ w : World, (Op.stringOp .add ⟨([110] ++ E).toArray⟩ ⟨#[58]⟩).run Tryz.prog w = .ok (.string ⟨([110] ++ E ++ [58]).toArray⟩) w := fun w => run_sop (w := w) ([110] ++ E) [58] (by simp; omega)
      obtain ⟨X2, hX2⟩ : ∃ q, [110] ++ E ++ [58] = q := ⟨_, rfl⟩
      obtain ⟨X1, hX1⟩ : ∃ q, [110] ++ E = q := ⟨_, rfl⟩
      rw [hX2] at p2 ⊢
      rw [hX1] at p1 p2
      clear hE hX2 hX1 n1 hb hx hm hmem hM hhas hat hat2 hix hp
      go_enter Tryz.func116, Tryz.ntmps116
      go_wp2_with (at_lookup; refine wpList_lookup_own_int _ rfl _ _ 171 rfl 9 3 .i64 lawSn Tryz.underlying171 Tryz.underlying3 (zeroSn _) mb l.length _ rfl hown _ _ rfl HKEY.out ?_; intro c' hat hwc; obtain rfl := HDk.out c' hat)
      refine C1.out.mono ?_
      rintro e w1 ⟨rfl, hb⟩
      have HB := Lib.hid (J0.out.1.trans (hb.mono J0.out.1.size))
      clear hb
      go_wp2
      go_ret
      exact ⟨rfl, HB.out⟩
end Go.Proofs.YthihkbcdihochaaGreatDoor
/- A builder's write, and every block behind it. -/
namespace Go.Proofs.YthihkbcdihochaaGreatDoor
open Go.ChangeShapes Go.WideShapes Go.ChangeAt Go.RowKit
set_option linter.unusedVariables false
/-- Every block but b that holds no bytes stands, maps too. -/
def KO (b : Nat) (w w' : World) : Prop := ∀ k o, k ≠ b → (∀ vs f, o ≠ .cells vs 5 f) → w.heap[k]? = some o → w'.heap[k]? = some o
theorem KO.trans {b : Nat} {x y z : World} (h : KO b x y) (k : KO b y z) : KO b x z := fun j o h1 h2 h3 => k j o h1 h2 (h j o h1 h2 h3)
theorem ownsRow_typeO {w : World} {B : Nat} {e : TypeId} {c n : Nat} {v : Value} {xs : List Value} (h : w.ownsRow B e c v n xs) {k : Nat} {o : Obj} (hk : w.heap[k]? = some o) (hT : ∀ vs f, o ≠ .cells vs e f) : some k ≠ v.ownBlock := by
  obtain ⟨hl, ⟨hv, _⟩ | ⟨g, cap, cur, hv, hg, hh, r⟩⟩ := h
  · rw [hv]; simp [Value.ownBlock]
  · rw [hv]
    intro e'
    simp [Value.ownBlock] at e'
    subst e'
    rw [hh] at hk
    cases hk
    exact hT _ _ rfl
theorem OwnX.ko {w w' : World} {base b : Nat} {v : Value} {l : List (List UInt8)} (h : OwnX w base v l) (hk : KO b w w') (hb : b < base) : OwnX w' base v l := by
  obtain ⟨hl, hv | ⟨g, cap, cur, hv, hg, hh, r⟩⟩ := h
  · exact ⟨hl, .inl hv⟩
  · exact ⟨hl, .inr ⟨g, cap, cur, hv, hg, hk g _ (by omega) (fun vs f e => by injection e with _ e2 _; exact absurd e2 (by decide)) hh, r⟩⟩
theorem AtM.ko {w w' : World} {b m : Nat} {acc : List (List UInt8)} (h : AtM w m acc) (hk : KO b w w') (hb : b ≠ m) : AtM w' m acc := by
  obtain ⟨D, h1, h2, h3⟩ := h
  obtain ⟨es, clock, hq, r⟩ := h1
  exact ⟨D, ⟨es, clock, hk m _ (Ne.symm hb) (fun vs f e => by cases e) hq, r⟩, h2, h3⟩
/-- copyCheck, and what stands behind it. -/
theorem copyCheck_o (b : Nat) (l : List UInt8) (w : World) (h : Bld (b + 1) b l w) :
    Calls Tryz.prog 127 #[.pointer (some ⟨b, 0, none⟩)] w fun e w' => e = .returned (.tuple #[]) ∧ BldP (.pointer (some ⟨b, 0, none⟩)) (b + 1) b l w' ∧ Fr (b + 1) b w w' ∧ KO b w w' := by
  rcases h with ⟨hb, v, hh, ho⟩ | h
  · refine (copyCheck_fresh b w (by rw [cell_of 0 hh]; rfl) (by simp [World.shape?, hh]) (free_of 0 hh)).mono ?_
    rintro e w' ⟨rfl, rfl⟩
    refine ⟨rfl, ⟨hb, v, ?_, ?_⟩, (Fr.refl (b + 1) b w).set 0 _, fun k o h1 _ h3 => by rw [hp_other h1]; exact h3⟩
    · rw [hp_set hh]; rfl
    · refine ho.kept (row := some b) ((gr_refl w (some b)).setCell 0 _) (Or.inr ?_)
      intro e
      have := (ho.lt b e).1
      omega
  · obtain ⟨hb, v, hh, ho⟩ := h
    refine (copyCheck_used b w (by rw [cell_of 0 hh]; rfl)).mono ?_
    rintro e w' ⟨rfl, rfl⟩
    exact ⟨rfl, ⟨hb, v, hh, ho⟩, Fr.refl _ b _, fun k o _ _ h3 => h3⟩
set_option maxRecDepth 100000 in
set_option maxHeartbeats 4000000 in
/-- (*strings.Builder).WriteString, and what stands behind it. -/
theorem writeString_o (b : Nat) (l s : List UInt8) (w : World) (h : Bld (b + 1) b l w) (hlen : l.length + s.length ≤ 140737488355328) :
    Calls Tryz.prog 77 #[.pointer (some ⟨b, 0, none⟩), .string ⟨s.toArray⟩] w fun e w' => e = .returned (.tuple #[.int .i64 s.length, .nilIface]) ∧ Bld (b + 1) b (l ++ s) w' ∧ Fr (b + 1) b w w' ∧ KO b w w' := by
  obtain ⟨i0, hi, hz0, hz1, hz2⟩ := info_parts (show (Tryz.prog.info? 5).map (fun i => (i.zero, i.size, i.bytes)) = some (some (.int .u8 0), 1, 1) by kernel_rfl)
  have hRw : b + 1 ≤ w.heap.size := h.lt
  have hss : (⟨s.toArray⟩ : ByteArray).size = s.length := by simp [ByteArray.size]
  have HSS := Lib.hid hss
  have hsc : Lib.strCells ⟨s.toArray⟩ = Lib.byteCells s := by simp [Lib.strCells, Lib.byteCells]
  have HSC := Lib.hid hsc
  have hle : (⟨s.toArray⟩ : ByteArray).size + l.length ≤ 140737488355328 := by omega
  have hsn : Lib.byteCells l ++ Lib.byteCells s = Lib.byteCells (l ++ s) := by simp [Lib.byteCells]
  have HSN := Lib.hid hsn
  rw [← hss]
  clear hss hsn hsc hlen
  generalize (⟨s.toArray⟩ : ByteArray) = sa at *
  go_enter Tryz.func77, Tryz.ntmps77
  go_wp2_with fail
  refine (copyCheck_o b l _ h).mono ?_
  rintro e w1 ⟨rfl, ⟨hbR, v, hbk, hown⟩, hf1, hk1⟩
  have c0 : w1.cell? ⟨b, 0, none⟩ = some (.pointer (some ⟨b, 0, none⟩)) := by rw [cell_of 0 hbk]; rfl
  have c1 : w1.cell? ⟨b, 1, none⟩ = some v := by rw [cell_of 1 hbk]; rfl
  have hs1 := hf1.size
  go_wp2_with (at_builtin; refine Lib.wpList_append_own_string _ rfl _ _ 50 9 rfl (b + 1) 5 i0 Tryz.underlying50 Tryz.underlying9 hi hz0 hz1 hz2 _ _ _ rfl hown sa rfl ?c3 ?c4 ?c5 ?_)
  case c3 => unfold maxLen; omega
  case c4 => omega
  case c5 => omega
  intro v' w2 hown' hgrow _
  have hlt : b < w1.heap.size := lt_of hbk
  have hne : some b ≠ v.ownBlock := by
    intro e
    have := (hown.lt b e.symm).1
    omega
  have hb2 : w2.heap[b]? = some (.cells #[.pointer (some ⟨b, 0, none⟩), v] 100 (0, 0)) := by
    rw [hgrow.block b hlt hne]
    exact hbk
  have d0 : w2.cell? ⟨b, 0, none⟩ = some (.pointer (some ⟨b, 0, none⟩)) := by rw [cell_of 0 hb2]; rfl
  have d1 : w2.cell? ⟨b, 1, none⟩ = some v := by rw [cell_of 1 hb2]; rfl
  have f1 : w2.frozen? ⟨b, 1, none⟩ = false := free_of 1 hb2
  have hF2 : Fr (b + 1) b w w2 := hf1.trans ⟨hgrow.os, hgrow.tape, hgrow.output, hgrow.size, fun k hk hkb => hgrow.block k (by omega) (fun e => by have := (hown.lt k e.symm).1; omega)⟩
  have hK2 : KO b w w2 := hk1.trans fun k o _ h2 h3 => by rw [hgrow.block k (lt_of h3) (ownsRow_typeO hown h3 h2)]; exact h3
  obtain ⟨ao, n', cap, rfl⟩ : ∃ ao n' cap, v' = .slice ao n' cap := by
    rcases hown'.2 with ⟨hv, _⟩ | ⟨g, cap, cur, hv, _⟩
    · exact ⟨_, _, _, hv⟩
    · exact ⟨_, _, _, hv⟩
  have HF2 := Lib.hid hF2
  have HK2 := Lib.hid hK2
  have HO := Lib.hid hown'
  clear hF2 hK2 hown' hgrow hown h hf1 hk1 hbk
  go_wp2
  go_ret2
  refine ⟨rfl, Or.inr ⟨hbR, _, by rw [hp_set hb2]; rfl, ?_⟩, HF2.out.set 1 _, fun k o h1 h2 h3 => by rw [hp_other h1]; exact HK2.out k o h1 h2 h3⟩
  have ho2 := HO.out
  rw [HSC.out, HSN.out, HSS.out] at ho2
  rw [List.length_append]
  refine ho2.kept (row := some b) ((gr_refl w2 (some b)).setCell 1 _) (Or.inr ?_)
  intro e
  have := (ho2.lt b e).1
  omega
end Go.Proofs.YthihkbcdihochaaGreatDoor
/- A row of strings as a parameter. -/
namespace Go.Proofs.YthihkbcdihochaaGreatDoor
open Go.ChangeShapes Go.WideShapes Go.ChangeAt Go.RowKit
set_option linter.unusedVariables false
end Go.Proofs.YthihkbcdihochaaGreatDoor
/- Events read; their bulk. -/
namespace Go.Proofs.YthihkbcdihochaaGreatDoor
open Go.ChangeShapes Go.WideShapes Go.ChangeAt Go.RowKit
set_option linter.unusedVariables false
/-- An event where it lies, its row of attributes with it. -/
structure EvV where
  e : EvT
  A : Option Addr
  n : Nat
  c : Nat
def EvV.cells (v : EvV) : List Value := [.int .i64 v.e.kind, .string ⟨v.e.sp.toArray⟩, .string ⟨v.e.lo.toArray⟩, .slice v.A v.n v.c, .string ⟨v.e.tx.toArray⟩]
/-- A row of events that can be read. -/
structure ERd (w : World) (B : Nat) (A : Option Addr) (n cap : Nat) (vs : List EvV) : Prop where
  row : RRd EvV.cells 5 w B A n cap vs
  ats : ∀ v ∈ vs, RRd cA 3 w B v.A v.n v.c v.e.ats
theorem ERd.keep {w w' : World} {B n cap : Nat} {A : Option Addr} {vs : List EvV} (h : ERd w B A n cap vs) (hk : ∀ p : Addr, p.block < B → w'.cell? p = w.cell? p) : ERd w' B A n cap vs := ⟨h.row.keep hk, fun v hv => (h.ats v hv).keep hk⟩
theorem ERd.more {w : World} {B B' n cap : Nat} {A : Option Addr} {vs : List EvV} (h : ERd w B A n cap vs) (hB : B ≤ B') : ERd w B' A n cap vs := ⟨h.row.more hB, fun v hv => (h.ats v hv).more hB⟩
theorem ERd.below {w w' : World} {B n cap : Nat} {A : Option Addr} {vs : List EvV} (h : ERd w B A n cap vs) (hb : Below B w w') : ERd w' B A n cap vs := h.keep fun p hp => hb.cell hp
theorem ERd.up {w w' : World} {n cap : Nat} {A : Option Addr} {vs : List EvV} (h : ERd w w.heap.size A n cap vs) (hb : Below w.heap.size w w') : ERd w' w'.heap.size A n cap vs := (h.below hb).more hb.size
/-- No part of an event is longer than so. -/
structure EvLe (b : Nat) (v : EvV) : Prop where
  sp : v.e.sp.length ≤ b
  lo : v.e.lo.length ≤ b
  tx : v.e.tx.length ≤ b
  n : v.n ≤ b
  ats : ∀ a ∈ v.e.ats, a.1.length ≤ b ∧ a.2.1.length ≤ b ∧ a.2.2.length ≤ b
theorem EvLe.mono {b b' : Nat} {v : EvV} (h : EvLe b v) (hb : b ≤ b') : EvLe b' v :=
  ⟨Nat.le_trans h.sp hb, Nat.le_trans h.lo hb, Nat.le_trans h.tx hb, Nat.le_trans h.n hb, fun a ha => ⟨Nat.le_trans (h.ats a ha).1 hb, Nat.le_trans (h.ats a ha).2.1 hb, Nat.le_trans (h.ats a ha).2.2 hb⟩⟩
theorem bulk_part {H : Type} {d : DataW H} {l : List (DataW H)} (h : d ∈ l) : Rows.uptoBulk d ≤ Rows.uptoBulkAll l := by
  induction l with
  | nil => cases h
  | cons x r ih =>
    simp only [Rows.uptoBulkAll]
    cases List.mem_cons.1 h with
    | inl e => subst e; omega
    | inr e => have := ih e; omega
theorem bulk_pos {H : Type} (d : DataW H) : 1 ≤ Rows.uptoBulk d := by
  cases d with
  | lit l => cases l <;> simp [Rows.uptoBulk]
  | _ => simp [Rows.uptoBulk]
theorem bulk_len {H : Type} (l : List (DataW H)) : l.length ≤ Rows.uptoBulkAll l := by
  induction l with
  | nil => simp [Rows.uptoBulkAll]
  | cons x r ih => have := bulk_pos x; simp only [Rows.uptoBulkAll, List.length_cons]; omega
theorem cellsStr : Tryz.prog.cellsOf 9 = 1 := by kernel_rfl
theorem cellsNm : Tryz.prog.cellsOf 38 = 2 := by kernel_rfl
theorem cellsAt : Tryz.prog.cellsOf 112 = 3 := by kernel_rfl
theorem cellsEv : Tryz.prog.cellsOf 41 = 5 := by kernel_rfl
theorem cellsInt : Tryz.prog.cellsOf 3 = 1 := by kernel_rfl
theorem cellsAts : Tryz.prog.cellsOf 39 = 1 := by kernel_rfl
section
variable {H : Type} {enc : TypeId × Value → H} {W : World} {sp : Nat → Bool} {held : Bool}
theorem str_open {n : Nat} {cs : List Value} {x : DataW H × List MemPlace} (h : DataW.trod enc Tryz.prog W 0 sp held n 9 cs = some x) : ∃ s : List UInt8, cs = [.string ⟨s.toArray⟩] ∧ s.length ≤ Rows.uptoBulk x.1 := by
  obtain ⟨s0, e0, e1, z0⟩ := DataW.trod_string Tryz.underlying9 h
  refine ⟨s0.data.toList, by rw [e0], ?_⟩
  rw [e1]
  simp [Rows.uptoBulk]
set_option maxRecDepth 100000 in
set_option maxHeartbeats 4000000 in
theorem nm_open {n : Nat} {cs : List Value} {x : DataW H × List MemPlace} (h : DataW.trod enc Tryz.prog W 0 sp held n 38 cs = some x) : ∃ s l : List UInt8, cs = [.string ⟨s.toArray⟩, .string ⟨l.toArray⟩] ∧ s.length ≤ Rows.uptoBulk x.1 ∧ l.length ≤ Rows.uptoBulk x.1 := by
  obtain ⟨xs, k, _, hx, hl, hlen, hF⟩ := DataW.trod_struct Tryz.underlying38 h
  rw [cellsNm] at hl
  match xs, hlen, cs, hl with
  | [y0, y1], _, [c0, c1], _ =>
    have g0 := hF 0 _ rfl
    have g1 := hF 1 _ rfl
    simp [cellsStr] at g0 g1
    obtain ⟨s, e0, b0⟩ := str_open g0
    obtain ⟨l, e1, b1⟩ := str_open g1
    simp at e0 e1
    subst e0 e1
    refine ⟨s, l, rfl, ?_, ?_⟩
    · rw [hx]; simp [Rows.uptoBulk, Rows.uptoBulkAll]; omega
    · rw [hx]; simp [Rows.uptoBulk, Rows.uptoBulkAll]; omega
set_option maxRecDepth 100000 in
set_option maxHeartbeats 4000000 in
theorem at_open {n : Nat} {cs : List Value} {x : DataW H × List MemPlace} (h : DataW.trod enc Tryz.prog W 0 sp held n 112 cs = some x) : ∃ a : List UInt8 × List UInt8 × List UInt8, cs = cA a ∧ a.1.length ≤ Rows.uptoBulk x.1 ∧ a.2.1.length ≤ Rows.uptoBulk x.1 ∧ a.2.2.length ≤ Rows.uptoBulk x.1 := by
  obtain ⟨xs, k, _, hx, hl, hlen, hF⟩ := DataW.trod_struct Tryz.underlying112 h
  rw [cellsAt] at hl
  match xs, hlen, cs, hl with
  | [y0, y1], _, [c0, c1, c2], _ =>
    have g0 := hF 0 _ rfl
    have g1 := hF 1 _ rfl
    simp [cellsStr, cellsNm] at g0 g1
    obtain ⟨s, l, e0, b0, b1⟩ := nm_open g0
    obtain ⟨v, e1, b2⟩ := str_open g1
    simp at e0 e1
    obtain ⟨rfl, rfl⟩ := e0
    subst e1
    refine ⟨(s, l, v), rfl, ?_, ?_, ?_⟩ <;> rw [hx] <;> simp [Rows.uptoBulk, Rows.uptoBulkAll] <;> omega
open Go.Deep in
/-- A row read: what holds of each element (whatever is shown of one element's reading), the bulk. -/
theorem row_open {t e : TypeId} {k : Nat} {α : Type} {c : α → List Value} (Good : α → Nat → Prop) (hG : ∀ a b b', Good a b → b ≤ b' → Good a b') (ht : Tryz.prog.underlying t = some (.slice e)) (ce : Tryz.prog.cellsOf e = k) (hk0 : 0 < k) (hk : ∀ a, (c a).length = k)
    (ho : ∀ {n : Nat} {cs : List Value} {x : DataW H × List MemPlace}, DataW.trod enc Tryz.prog W 0 (fun _ => true) held n e cs = some x → ∃ a, cs = c a ∧ Good a (Rows.uptoBulk x.1))
    {n : Nat} {v : Value} {x : DataW H × List MemPlace} (h : DataW.trod enc Tryz.prog W 0 (fun _ => true) held n t [v] = some x) :
    ∃ A len cap xs, v = .slice A len cap ∧ RRd c k W W.heap.size A len cap xs ∧ len ≤ Rows.uptoBulk x.1 ∧ ∀ a ∈ xs, Good a (Rows.uptoBulk x.1) := by
  rcases open_slice ht h with ⟨hc, _⟩ | ⟨a, len, cap, m, k', D, Pl, hc, _, hl, hm, hmm, hx, hi⟩
  · simp at hc
    subst hc
    exact ⟨none, 0, 0, [], rfl, RRd.nilR c k W _, Nat.zero_le _, fun a ha => by cases ha⟩
  · simp at hc
    subst hc
    have hmc : m = cap := by simpa using hmm
    subst hmc
    have hbl : ∀ i, i < m → Rows.uptoBulk (D i) ≤ Rows.uptoBulk x.1 := fun i hil => by
      rw [hx]
      simp only [Rows.uptoBulk]
      by_cases hlt : i < len
      · have := bulk_part (d := D i) (l := (List.range len).map D) (List.mem_map.2 ⟨i, List.mem_range.2 hlt, rfl⟩)
        omega
      · have := bulk_part (d := D i) (l := (List.range (m - len)).map fun j => D (len + j)) (List.mem_map.2 ⟨i - len, List.mem_range.2 (by omega), by rw [show len + (i - len) = i by omega]⟩)
        omega
    have key : ∀ i, i < m → ∃ z : α, (∀ (j : Nat) u, (c z)[j]? = some u → W.cell? (a.add (i * k + j)) = some u) ∧ Good z (Rows.uptoBulk x.1) := by
      intro i hil
      obtain ⟨cs', h1, h2⟩ := hi i hil
      rw [ce] at h1
      obtain ⟨_, hlen, hcell⟩ := World.cells?_some h1
      obtain ⟨z, e0, b0⟩ := ho h2
      refine ⟨z, fun j u hu => ?_, hG _ _ _ b0 (hbl i hil)⟩
      have hj : j < k := by rw [← hk z]; exact (List.getElem?_eq_some_iff.1 hu).1
      have := hcell j hj
      rw [e0, hu, add_add] at this
      exact this
    rcases Nat.eq_zero_or_pos m with h00 | h00
    · subst h00
      obtain rfl : len = 0 := by omega
      exact ⟨some a, 0, 0, [], rfl, ⟨rfl, Nat.le_refl _, Nat.zero_le _, fun _ => rfl, fun h => absurd h (by omega)⟩, Nat.zero_le _, fun a ha => by cases ha⟩
    · obtain ⟨z0, _⟩ := key 0 h00
      have : Inhabited α := ⟨z0⟩
      obtain ⟨f, hf⟩ := choose_lt key
      refine ⟨some a, len, m, (List.range len).map f, rfl, ⟨by simp, hl, hm, (fun e => by cases e), fun h0 => ?_⟩, ?_, ?_⟩
      · obtain ⟨b, o, s⟩ := a
        have hz0 : ∃ u, (c (f 0))[0]? = some u := ⟨_, List.getElem?_eq_getElem (by rw [hk]; exact hk0)⟩
        obtain ⟨u0, hu0⟩ := hz0
        have h1 := (hf 0 h00).1 0 _ hu0
        have hs : s = none := by simpa [Addr.add] using World.cell?_spot h1
        subst hs
        refine ⟨b, o, rfl, by simpa [Addr.add] using World.block_lt_of_cell? W _ h1, fun i p hp j u hu => ?_⟩
        rw [List.getElem?_map] at hp
        have hil : i < len := by
          rcases Nat.lt_or_ge i len with h' | h'
          · exact h'
          · rw [List.getElem?_eq_none (by simp; omega)] at hp; cases hp
        rw [List.getElem?_range hil] at hp
        simp at hp
        subst hp
        have h2 := (hf i (by omega)).1 j u hu
        rwa [addr_add] at h2
      · rw [hx]
        simp only [Rows.uptoBulk]
        have := bulk_len ((List.range len).map D)
        simp at this
        omega
      · intro p hp
        obtain ⟨i, hi', rfl⟩ := List.mem_map.1 hp
        exact (hf i (by have := List.mem_range.1 hi'; omega)).2
theorem ats_open {n : Nat} {v : Value} {x : DataW H × List MemPlace} (h : DataW.trod enc Tryz.prog W 0 (fun _ => true) held n 39 [v] = some x) : ∃ A len cap ats, v = .slice A len cap ∧ RRd cA 3 W W.heap.size A len cap ats ∧ len ≤ Rows.uptoBulk x.1 ∧
    ∀ a ∈ ats, a.1.length ≤ Rows.uptoBulk x.1 ∧ a.2.1.length ≤ Rows.uptoBulk x.1 ∧ a.2.2.length ≤ Rows.uptoBulk x.1 :=
  row_open (c := cA) (k := 3) (fun (a : List UInt8 × List UInt8 × List UInt8) (b : Nat) => a.1.length ≤ b ∧ a.2.1.length ≤ b ∧ a.2.2.length ≤ b) (fun a b b' h hb => ⟨Nat.le_trans h.1 hb, Nat.le_trans h.2.1 hb, Nat.le_trans h.2.2 hb⟩) Tryz.underlying39 cellsAt (by decide) (fun _ => rfl) (fun h => at_open h) h
set_option maxRecDepth 100000 in
set_option maxHeartbeats 4000000 in
/-- An event read. -/
theorem ev_open {n : Nat} {cs : List Value} {x : DataW H × List MemPlace} (h : DataW.trod enc Tryz.prog W 0 (fun _ => true) held n 41 cs = some x) :
    ∃ v : EvV, cs = v.cells ∧ RRd cA 3 W W.heap.size v.A v.n v.c v.e.ats ∧ EvLe (Rows.uptoBulk x.1) v := by
  obtain ⟨xs, k, _, hx, hl, hlen, hF⟩ := DataW.trod_struct Tryz.underlying41 h
  rw [cellsEv] at hl
  match xs, hlen, cs, hl with
  | [y0, y1, y2, y3], _, [c0, c1, c2, c3, c4], _ =>
    have g0 := hF 0 _ rfl
    have g1 := hF 1 _ rfl
    have g2 := hF 2 _ rfl
    have g3 := hF 3 _ rfl
    simp [cellsStr, cellsNm, cellsInt, cellsAts] at g0 g1 g2 g3
    obtain ⟨z, e0, _⟩ := DataW.trod_int Tryz.underlying3 g0
    obtain ⟨s, l, e1, b0, b1⟩ := nm_open g1
    obtain ⟨A, len, cap, ats, e2, hr, b2, b3⟩ := ats_open g2
    obtain ⟨t, e3, b4⟩ := str_open g3
    simp at e0 e1 e3
    obtain ⟨rfl, rfl⟩ := e1
    subst e0 e2 e3
    have hb : Rows.uptoBulk y1.1 + Rows.uptoBulk y2.1 + Rows.uptoBulk y3.1 ≤ Rows.uptoBulk x.1 := by rw [hx]; simp [Rows.uptoBulk, Rows.uptoBulkAll]; omega
    exact ⟨⟨⟨z, s, l, ats, t⟩, A, len, cap⟩, rfl, hr, ⟨by simp only; omega, by simp only; omega, by simp only; omega, by simp only; omega, fun a ha => by
      have := b3 a ha
      omega⟩⟩
end
end Go.Proofs.YthihkbcdihochaaGreatDoor
/- strings.Join of two and of three parts -/
namespace Go.Proofs.YthihkbcdihochaaGreatDoor
open Go.ChangeShapes Go.WideShapes Go.ChangeAt Go.RowKit
set_option linter.unusedVariables false
set_option linter.unusedSimpArgs false
theorem sizeByte : (Tryz.prog.info? 5).map (·.size) = some 1 := by kernel_rfl
end Go.Proofs.YthihkbcdihochaaGreatDoor
