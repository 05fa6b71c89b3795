/- narthexref06.Escape. -/
import Derived.Test.YtljmpghijlibaaaDoorRows
import Derived.WalkKit
import Derived.ProofKit
import Derived.OpenShut
import Derived.ShutString
import Derived.ChangeOld
import Derived.Below
import Derived.BigQuiet
import Derived.Deep.QuietTactic
import Derived.Lib.Hide
import Derived.Deep.RegionHeld3
import Derived.Lib.SlBytesConst
import Derived.Laws.CopyOwn
import Derived.Laws.CopyRow
import Derived.Lib.Bytes
import Derived.Deep.LoopGhost
import Derived.Deep.DeepFit
import Derived.Deep.DeepMust
import Derived.WalkSpells
import Derived.WalkLawsBesides
import Derived.Test.YtljmpghijlibaaaDoorBase
import Derived.Test.YtljmpghijlibaaaDoorShelf
import Derived.Test.YtljmpghijlibaaaDoorCharPlain
import Derived.Test.YtljmpghijlibaaaDoorY3
import Derived.Test.YtljmpghijlibaaaDoorStr
namespace Go.Proofs.YtljmpghijlibaaaDoor
open Go.ChangeShapes Go.WideShapes Go.ChangeAt Go.RowKit
set_option linter.unusedVariables false
set_option maxRecDepth 100000 in
set_option maxHeartbeats 4000000 in
theorem refEscape_c (l : List UInt8) (w : World) (hm : l.length ≤ 1000000) :
    Calls Tryd.prog 38 #[.string ⟨l.toArray⟩] w fun e w' => e = .returned (.string ⟨(esc l).toArray⟩) ∧ w = w' := by
  have hsz : (⟨l.toArray⟩ : ByteArray).size = l.length := by simp [ByteArray.size]
  go_enter Tryd.func38, Tryd.ntmps38
  go_wp2
  go_loop [4, 3] (fun i s => ∃ k : Nat, k ≤ l.length ∧ i = .int .i64 k ∧ s = .string ⟨(esc (l.take k)).toArray⟩) (fun i _ => l.length - (intOf i).toNat)
  case atStart => exact ⟨0, Nat.zero_le _, rfl, rfl⟩
  case round =>
    obtain ⟨k, hk, rfl, rfl⟩ := hrel
    have hk0 : (0 : Int) ≤ (k : Int) := by omega
    have hk1 : (k : Int) ≤ 1000000 := by omega
    by_cases hlt : k < l.length
    · have hix := run_strIndex l k hlt w
      have hsl := run_strSlice l k (k + 1) (by omega) (by omega) w
      rw [show ((k + 1 : Nat) : Int) = (k : Int) + 1 by omega, show k + 1 - k = 1 by omega, show (l.drop k).take 1 = [l.getD k 0] by
        rw [List.drop_eq_getElem_cons hlt, List.take_succ_cons, List.take_zero]; simp [hlt]] at hsl
      have HSN : Hid (esc (l.take (k + 1)) = esc (l.take k) ++ escB (l.getD k 0)) := Lib.hid (by
        rw [take_snoc l k (l.getD k 0) (by simp [hlt]), esc_snoc])
      have HLE : Hid ((esc (l.take k)).length ≤ 6000000) := Lib.hid (by have := esc_le (l.take k); rw [List.length_take] at this; omega)
      have HLT : Hid (k < l.length) := Lib.hid hlt
      generalize l.getD k 0 = d at *
      generalize esc (l.take k) = E at *
      have hd0 : (0 : Int) ≤ (d.toNat : Int) := by omega
      have hd1 : (d.toNat : Int) ≤ 255 := by have := d.toNat_lt; omega
      by_cases h0 : d = 38
      · have hdn : (d.toNat : Int) = 38 := by subst h0; rfl
        rw [hdn] at hix
        clear hdn hd0 hd1
        have HEB : Hid (escB d = [38, 97, 109, 112, 59]) := Lib.hid (by subst h0; rfl)
        have hsp : (Op.stringOp .add ⟨E.toArray⟩ ⟨#[38, 97, 109, 112, 59]⟩).run Tryd.prog w = .ok (.string ⟨(E ++ [38, 97, 109, 112, 59]).toArray⟩) w := run_sop (w := w) E [38, 97, 109, 112, 59] (by have := HLE.out; simp; omega)
        have HN : Hid (esc (l.take (k + 1)) = E ++ [38, 97, 109, 112, 59]) := Lib.hid (by rw [HSN.out, HEB.out])
        generalize E ++ [38, 97, 109, 112, 59] = E' at *
        go_wp2
        go_round
        case rel => exact ⟨k + 1, by omega, by go_num, by rw [HN.out]⟩
        case measure => simp [intOf]; omega
      · have e0 : ((d.toNat : Int) == 38) = false := ne_byte d 38 38 rfl h0
        by_cases h1 : d = 60
        · clear e0 h0
          have hdn : (d.toNat : Int) = 60 := by subst h1; rfl
          rw [hdn] at hix
          clear hdn hd0 hd1
          have HEB : Hid (escB d = [38, 108, 116, 59]) := Lib.hid (by subst h1; rfl)
          have hsp : (Op.stringOp .add ⟨E.toArray⟩ ⟨#[38, 108, 116, 59]⟩).run Tryd.prog w = .ok (.string ⟨(E ++ [38, 108, 116, 59]).toArray⟩) w := run_sop (w := w) E [38, 108, 116, 59] (by have := HLE.out; simp; omega)
          have HN : Hid (esc (l.take (k + 1)) = E ++ [38, 108, 116, 59]) := Lib.hid (by rw [HSN.out, HEB.out])
          generalize E ++ [38, 108, 116, 59] = E' at *
          go_wp2
          go_round
          case rel => exact ⟨k + 1, by omega, by go_num, by rw [HN.out]⟩
          case measure => simp [intOf]; omega
        · have e1 : ((d.toNat : Int) == 60) = false := ne_byte d 60 60 rfl h1
          by_cases h2 : d = 62
          · clear e1 h1
            clear e0 h0
            have hdn : (d.toNat : Int) = 62 := by subst h2; rfl
            rw [hdn] at hix
            clear hdn hd0 hd1
            have HEB : Hid (escB d = [38, 103, 116, 59]) := Lib.hid (by subst h2; rfl)
            have hsp : (Op.stringOp .add ⟨E.toArray⟩ ⟨#[38, 103, 116, 59]⟩).run Tryd.prog w = .ok (.string ⟨(E ++ [38, 103, 116, 59]).toArray⟩) w := run_sop (w := w) E [38, 103, 116, 59] (by have := HLE.out; simp; omega)
            have HN : Hid (esc (l.take (k + 1)) = E ++ [38, 103, 116, 59]) := Lib.hid (by rw [HSN.out, HEB.out])
            generalize E ++ [38, 103, 116, 59] = E' at *
            go_wp2
            go_round
            case rel => exact ⟨k + 1, by omega, by go_num, by rw [HN.out]⟩
            case measure => simp [intOf]; omega
          · have e2 : ((d.toNat : Int) == 62) = false := ne_byte d 62 62 rfl h2
            by_cases h3 : d = 34
            · clear e2 h2
              clear e1 h1
              clear e0 h0
              have hdn : (d.toNat : Int) = 34 := by subst h3; rfl
              rw [hdn] at hix
              clear hdn hd0 hd1
              have HEB : Hid (escB d = [38, 113, 117, 111, 116, 59]) := Lib.hid (by subst h3; rfl)
              have hsp : (Op.stringOp .add ⟨E.toArray⟩ ⟨#[38, 113, 117, 111, 116, 59]⟩).run Tryd.prog w = .ok (.string ⟨(E ++ [38, 113, 117, 111, 116, 59]).toArray⟩) w := run_sop (w := w) E [38, 113, 117, 111, 116, 59] (by have := HLE.out; simp; omega)
              have HN : Hid (esc (l.take (k + 1)) = E ++ [38, 113, 117, 111, 116, 59]) := Lib.hid (by rw [HSN.out, HEB.out])
              generalize E ++ [38, 113, 117, 111, 116, 59] = E' at *
              go_wp2
              go_round
              case rel => exact ⟨k + 1, by omega, by go_num, by rw [HN.out]⟩
              case measure => simp [intOf]; omega
            · have e3 : ((d.toNat : Int) == 34) = false := ne_byte d 34 34 rfl h3
              by_cases h4 : d = 13
              · clear e3 h3
                clear e2 h2
                clear e1 h1
                clear e0 h0
                have hdn : (d.toNat : Int) = 13 := by subst h4; rfl
                rw [hdn] at hix
                clear hdn hd0 hd1
                have HEB : Hid (escB d = [38, 35, 49, 51, 59]) := Lib.hid (by subst h4; rfl)
                have hsp : (Op.stringOp .add ⟨E.toArray⟩ ⟨#[38, 35]⟩).run Tryd.prog w = .ok (.string ⟨(E ++ [38, 35]).toArray⟩) w := run_sop (w := w) E [38, 35] (by have := HLE.out; simp; omega)
                have hsp2 : (Op.stringOp .add ⟨(E ++ [38, 35]).toArray⟩ ⟨#[49, 51]⟩).run Tryd.prog w = .ok (.string ⟨(E ++ [38, 35] ++ [49, 51]).toArray⟩) w := run_sop (w := w) (E ++ [38, 35]) [49, 51] (by have := HLE.out; simp; omega)
                have hsp3 : (Op.stringOp .add ⟨(E ++ [38, 35] ++ [49, 51]).toArray⟩ ⟨#[59]⟩).run Tryd.prog w = .ok (.string ⟨(E ++ [38, 35] ++ [49, 51] ++ [59]).toArray⟩) w := run_sop (w := w) (E ++ [38, 35] ++ [49, 51]) [59] (by have := HLE.out; simp; omega)
                have HN : Hid (esc (l.take (k + 1)) = E ++ [38, 35] ++ [49, 51] ++ [59]) := Lib.hid (by rw [HSN.out, HEB.out]; simp)
                generalize E ++ [38, 35] ++ [49, 51] ++ [59] = E3 at *
                generalize E ++ [38, 35] ++ [49, 51] = E2 at *
                generalize E ++ [38, 35] = E1 at *
                have hdg := refDigits_c 13 (by omega) w
                rw [show Lib.decDigits 13 = [49, 51] by decide +kernel] at hdg
                go_wp2_with fail
                refine hdg.mono ?_
                rintro e w1 ⟨rfl, rfl⟩
                clear hdg
                go_wp2
                go_round
                case rel => exact ⟨k + 1, by omega, by go_num, by rw [HN.out]⟩
                case measure => simp [intOf]; omega
              · have e4 : ((d.toNat : Int) == 13) = false := ne_byte d 13 13 rfl h4
                by_cases h5 : d = 10
                · clear e4 h4
                  clear e3 h3
                  clear e2 h2
                  clear e1 h1
                  clear e0 h0
                  have hdn : (d.toNat : Int) = 10 := by subst h5; rfl
                  rw [hdn] at hix
                  clear hdn hd0 hd1
                  have HEB : Hid (escB d = [38, 35, 49, 48, 59]) := Lib.hid (by subst h5; rfl)
                  have hsp : (Op.stringOp .add ⟨E.toArray⟩ ⟨#[38, 35]⟩).run Tryd.prog w = .ok (.string ⟨(E ++ [38, 35]).toArray⟩) w := run_sop (w := w) E [38, 35] (by have := HLE.out; simp; omega)
                  have hsp2 : (Op.stringOp .add ⟨(E ++ [38, 35]).toArray⟩ ⟨#[49, 48]⟩).run Tryd.prog w = .ok (.string ⟨(E ++ [38, 35] ++ [49, 48]).toArray⟩) w := run_sop (w := w) (E ++ [38, 35]) [49, 48] (by have := HLE.out; simp; omega)
                  have hsp3 : (Op.stringOp .add ⟨(E ++ [38, 35] ++ [49, 48]).toArray⟩ ⟨#[59]⟩).run Tryd.prog w = .ok (.string ⟨(E ++ [38, 35] ++ [49, 48] ++ [59]).toArray⟩) w := run_sop (w := w) (E ++ [38, 35] ++ [49, 48]) [59] (by have := HLE.out; simp; omega)
                  have HN : Hid (esc (l.take (k + 1)) = E ++ [38, 35] ++ [49, 48] ++ [59]) := Lib.hid (by rw [HSN.out, HEB.out]; simp)
                  generalize E ++ [38, 35] ++ [49, 48] ++ [59] = E3 at *
                  generalize E ++ [38, 35] ++ [49, 48] = E2 at *
                  generalize E ++ [38, 35] = E1 at *
                  have hdg := refDigits_c 10 (by omega) w
                  rw [show Lib.decDigits 10 = [49, 48] by decide +kernel] at hdg
                  go_wp2_with fail
                  refine hdg.mono ?_
                  rintro e w1 ⟨rfl, rfl⟩
                  clear hdg
                  go_wp2
                  go_round
                  case rel => exact ⟨k + 1, by omega, by go_num, by rw [HN.out]⟩
                  case measure => simp [intOf]; omega
                · have e5 : ((d.toNat : Int) == 10) = false := ne_byte d 10 10 rfl h5
                  by_cases h6 : d = 9
                  · clear e5 h5
                    clear e4 h4
                    clear e3 h3
                    clear e2 h2
                    clear e1 h1
                    clear e0 h0
                    have hdn : (d.toNat : Int) = 9 := by subst h6; rfl
                    rw [hdn] at hix
                    clear hdn hd0 hd1
                    have HEB : Hid (escB d = [38, 35, 57, 59]) := Lib.hid (by subst h6; rfl)
                    have hsp : (Op.stringOp .add ⟨E.toArray⟩ ⟨#[38, 35]⟩).run Tryd.prog w = .ok (.string ⟨(E ++ [38, 35]).toArray⟩) w := run_sop (w := w) E [38, 35] (by have := HLE.out; simp; omega)
                    have hsp2 : (Op.stringOp .add ⟨(E ++ [38, 35]).toArray⟩ ⟨#[57]⟩).run Tryd.prog w = .ok (.string ⟨(E ++ [38, 35] ++ [57]).toArray⟩) w := run_sop (w := w) (E ++ [38, 35]) [57] (by have := HLE.out; simp; omega)
                    have hsp3 : (Op.stringOp .add ⟨(E ++ [38, 35] ++ [57]).toArray⟩ ⟨#[59]⟩).run Tryd.prog w = .ok (.string ⟨(E ++ [38, 35] ++ [57] ++ [59]).toArray⟩) w := run_sop (w := w) (E ++ [38, 35] ++ [57]) [59] (by have := HLE.out; simp; omega)
                    have HN : Hid (esc (l.take (k + 1)) = E ++ [38, 35] ++ [57] ++ [59]) := Lib.hid (by rw [HSN.out, HEB.out]; simp)
                    generalize E ++ [38, 35] ++ [57] ++ [59] = E3 at *
                    generalize E ++ [38, 35] ++ [57] = E2 at *
                    generalize E ++ [38, 35] = E1 at *
                    have hdg := refDigits_c 9 (by omega) w
                    rw [show Lib.decDigits 9 = [57] by decide +kernel] at hdg
                    go_wp2_with fail
                    refine hdg.mono ?_
                    rintro e w1 ⟨rfl, rfl⟩
                    clear hdg
                    go_wp2
                    go_round
                    case rel => exact ⟨k + 1, by omega, by go_num, by rw [HN.out]⟩
                    case measure => simp [intOf]; omega
                  · have e6 : ((d.toNat : Int) == 9) = false := ne_byte d 9 9 rfl h6
                    have HEB : Hid (escB d = [d]) := Lib.hid (by unfold escB; simp [h0, h1, h2, h3, h4, h5, h6])
                    have hsp : (Op.stringOp .add ⟨E.toArray⟩ ⟨#[d]⟩).run Tryd.prog w = .ok (.string ⟨(E ++ [d]).toArray⟩) w := run_sop (w := w) E [d] (by have := HLE.out; simp; omega)
                    have HN : Hid (esc (l.take (k + 1)) = E ++ [d]) := Lib.hid (by rw [HSN.out, HEB.out])
                    generalize E ++ [d] = E' at *
                    clear h0 h1 h2 h3 h4 h5 h6
                    go_wp2
                    go_round
                    case rel => exact ⟨k + 1, by omega, by go_num, by rw [HN.out]⟩
                    case measure => simp [intOf]; omega
    · obtain rfl : k = l.length := by omega
      have HT : Hid (l.take l.length = l) := Lib.hid (List.take_length)
      go_wp2
      go_ret
      exact ⟨rfl, rfl⟩
end Go.Proofs.YtljmpghijlibaaaDoor
