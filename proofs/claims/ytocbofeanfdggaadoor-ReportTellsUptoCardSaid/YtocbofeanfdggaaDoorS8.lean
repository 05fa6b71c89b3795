/- Texts of ours, joined: Esc2, Rep2, Rep5. -/
import Derived.Test.YtocbofeanfdggaaDoorRows
import Derived.WalkKit
import Derived.ProofKit
import Derived.OpenShut
import Derived.ShutString
import Derived.ChangeOld
import Derived.Below
import Derived.BigQuiet
import Derived.Deep.QuietTactic
import Derived.Lib.Hide
import Derived.Deep.RegionHeld3
import Derived.Lib.SlBytesConst
import Derived.Laws.CopyOwn
import Derived.Laws.CopyRow
import Derived.Lib.Bytes
import Derived.Deep.LoopGhost
import Derived.Deep.DeepFit
import Derived.Deep.DeepMust
import Derived.WalkSpells
import Derived.WalkLawsBesides
import Derived.Test.YtocbofeanfdggaaDoorS1
import Derived.Test.YtocbofeanfdggaaDoorS2
import Derived.Test.YtocbofeanfdggaaDoorS3
import Derived.Laws.EntriesVeiled
import Derived.Laws.Rows
import Derived.Deep.RegionWith
import Derived.Test.YtocbofeanfdggaaDoorS7
/- narthexref06.Escape. -/
namespace Go.Proofs.YtocbofeanfdggaaDoor
open Go.ChangeShapes Go.WideShapes Go.ChangeAt Go.RowKit
set_option linter.unusedVariables false
set_option maxRecDepth 100000 in
set_option maxHeartbeats 4000000 in
theorem refEscape_c (l : List UInt8) (w : World) (hm : l.length ≤ 1000000) :
    Calls Tryd.prog 21 #[.string ⟨l.toArray⟩] w fun e w' => e = .returned (.string ⟨(esc l).toArray⟩) ∧ w = w' := by
  have hsz : (⟨l.toArray⟩ : ByteArray).size = l.length := by simp [ByteArray.size]
  go_enter Tryd.func21, Tryd.ntmps21
  go_wp2
  go_loop [4, 3] (fun i s => ∃ k : Nat, k ≤ l.length ∧ i = .int .i64 k ∧ s = .string ⟨(esc (l.take k)).toArray⟩) (fun i _ => l.length - (intOf i).toNat)
  case atStart => exact ⟨0, Nat.zero_le _, rfl, rfl⟩
  case round =>
    obtain ⟨k, hk, rfl, rfl⟩ := hrel
    have hk0 : (0 : Int) ≤ (k : Int) := by omega
    have hk1 : (k : Int) ≤ 1000000 := by omega
    by_cases hlt : k < l.length
    · have hix := run_strIndex l k hlt w
      have hsl := run_strSlice l k (k + 1) (by omega) (by omega) w
      rw [show ((k + 1 : Nat) : Int) = (k : Int) + 1 by omega, show k + 1 - k = 1 by omega, show (l.drop k).take 1 = [l.getD k 0] by
        rw [List.drop_eq_getElem_cons hlt, List.take_succ_cons, List.take_zero]; simp [hlt]] at hsl
      have HSN : Hid (esc (l.take (k + 1)) = esc (l.take k) ++ escB (l.getD k 0)) := Lib.hid (by
        rw [take_snoc l k (l.getD k 0) (by simp [hlt]), esc_snoc])
      have HLE : Hid ((esc (l.take k)).length ≤ 6000000) := Lib.hid (by have := esc_le (l.take k); rw [List.length_take] at this; omega)
      have HLT : Hid (k < l.length) := Lib.hid hlt
      generalize l.getD k 0 = d at *
      generalize esc (l.take k) = E at *
      have hd0 : (0 : Int) ≤ (d.toNat : Int) := by omega
      have hd1 : (d.toNat : Int) ≤ 255 := by have := d.toNat_lt; omega
      by_cases h0 : d = 38
      · have hdn : (d.toNat : Int) = 38 := by subst h0; rfl
        rw [hdn] at hix
        clear hdn hd0 hd1
        have HEB : Hid (escB d = [38, 97, 109, 112, 59]) := Lib.hid (by subst h0; rfl)
        have hsp : (Op.stringOp .add ⟨E.toArray⟩ ⟨#[38, 97, 109, 112, 59]⟩).run Tryd.prog w = .ok (.string ⟨(E ++ [38, 97, 109, 112, 59]).toArray⟩) w := run_sop (w := w) E [38, 97, 109, 112, 59] (by have := HLE.out; simp; omega)
        have HN : Hid (esc (l.take (k + 1)) = E ++ [38, 97, 109, 112, 59]) := Lib.hid (by rw [HSN.out, HEB.out])
        generalize E ++ [38, 97, 109, 112, 59] = E' at *
        go_wp2
        go_round
        case rel => exact ⟨k + 1, by omega, by go_num, by rw [HN.out]⟩
        case measure => simp [intOf]; omega
      · have e0 : ((d.toNat : Int) == 38) = false := ne_byte d 38 38 rfl h0
        by_cases h1 : d = 60
        · clear e0 h0
          have hdn : (d.toNat : Int) = 60 := by subst h1; rfl
          rw [hdn] at hix
          clear hdn hd0 hd1
          have HEB : Hid (escB d = [38, 108, 116, 59]) := Lib.hid (by subst h1; rfl)
          have hsp : (Op.stringOp .add ⟨E.toArray⟩ ⟨#[38, 108, 116, 59]⟩).run Tryd.prog w = .ok (.string ⟨(E ++ [38, 108, 116, 59]).toArray⟩) w := run_sop (w := w) E [38, 108, 116, 59] (by have := HLE.out; simp; omega)
          have HN : Hid (esc (l.take (k + 1)) = E ++ [38, 108, 116, 59]) := Lib.hid (by rw [HSN.out, HEB.out])
          generalize E ++ [38, 108, 116, 59] = E' at *
          go_wp2
          go_round
          case rel => exact ⟨k + 1, by omega, by go_num, by rw [HN.out]⟩
          case measure => simp [intOf]; omega
        · have e1 : ((d.toNat : Int) == 60) = false := ne_byte d 60 60 rfl h1
          by_cases h2 : d = 62
          · clear e1 h1
            clear e0 h0
            have hdn : (d.toNat : Int) = 62 := by subst h2; rfl
            rw [hdn] at hix
            clear hdn hd0 hd1
            have HEB : Hid (escB d = [38, 103, 116, 59]) := Lib.hid (by subst h2; rfl)
            have hsp : (Op.stringOp .add ⟨E.toArray⟩ ⟨#[38, 103, 116, 59]⟩).run Tryd.prog w = .ok (.string ⟨(E ++ [38, 103, 116, 59]).toArray⟩) w := run_sop (w := w) E [38, 103, 116, 59] (by have := HLE.out; simp; omega)
            have HN : Hid (esc (l.take (k + 1)) = E ++ [38, 103, 116, 59]) := Lib.hid (by rw [HSN.out, HEB.out])
            generalize E ++ [38, 103, 116, 59] = E' at *
            go_wp2
            go_round
            case rel => exact ⟨k + 1, by omega, by go_num, by rw [HN.out]⟩
            case measure => simp [intOf]; omega
          · have e2 : ((d.toNat : Int) == 62) = false := ne_byte d 62 62 rfl h2
            by_cases h3 : d = 34
            · clear e2 h2
              clear e1 h1
              clear e0 h0
              have hdn : (d.toNat : Int) = 34 := by subst h3; rfl
              rw [hdn] at hix
              clear hdn hd0 hd1
              have HEB : Hid (escB d = [38, 113, 117, 111, 116, 59]) := Lib.hid (by subst h3; rfl)
              have hsp : (Op.stringOp .add ⟨E.toArray⟩ ⟨#[38, 113, 117, 111, 116, 59]⟩).run Tryd.prog w = .ok (.string ⟨(E ++ [38, 113, 117, 111, 116, 59]).toArray⟩) w := run_sop (w := w) E [38, 113, 117, 111, 116, 59] (by have := HLE.out; simp; omega)
              have HN : Hid (esc (l.take (k + 1)) = E ++ [38, 113, 117, 111, 116, 59]) := Lib.hid (by rw [HSN.out, HEB.out])
              generalize E ++ [38, 113, 117, 111, 116, 59] = E' at *
              go_wp2
              go_round
              case rel => exact ⟨k + 1, by omega, by go_num, by rw [HN.out]⟩
              case measure => simp [intOf]; omega
            · have e3 : ((d.toNat : Int) == 34) = false := ne_byte d 34 34 rfl h3
              by_cases h4 : d = 13
              · clear e3 h3
                clear e2 h2
                clear e1 h1
                clear e0 h0
                have hdn : (d.toNat : Int) = 13 := by subst h4; rfl
                rw [hdn] at hix
                clear hdn hd0 hd1
                have HEB : Hid (escB d = [38, 35, 49, 51, 59]) := Lib.hid (by subst h4; rfl)
                have hsp : (Op.stringOp .add ⟨E.toArray⟩ ⟨#[38, 35]⟩).run Tryd.prog w = .ok (.string ⟨(E ++ [38, 35]).toArray⟩) w := run_sop (w := w) E [38, 35] (by have := HLE.out; simp; omega)
                have hsp2 : (Op.stringOp .add ⟨(E ++ [38, 35]).toArray⟩ ⟨#[49, 51]⟩).run Tryd.prog w = .ok (.string ⟨(E ++ [38, 35] ++ [49, 51]).toArray⟩) w := run_sop (w := w) (E ++ [38, 35]) [49, 51] (by have := HLE.out; simp; omega)
                have hsp3 : (Op.stringOp .add ⟨(E ++ [38, 35] ++ [49, 51]).toArray⟩ ⟨#[59]⟩).run Tryd.prog w = .ok (.string ⟨(E ++ [38, 35] ++ [49, 51] ++ [59]).toArray⟩) w := run_sop (w := w) (E ++ [38, 35] ++ [49, 51]) [59] (by have := HLE.out; simp; omega)
                have HN : Hid (esc (l.take (k + 1)) = E ++ [38, 35] ++ [49, 51] ++ [59]) := Lib.hid (by rw [HSN.out, HEB.out]; simp)
                generalize E ++ [38, 35] ++ [49, 51] ++ [59] = E3 at *
                generalize E ++ [38, 35] ++ [49, 51] = E2 at *
                generalize E ++ [38, 35] = E1 at *
                have hdg := refDigits_c 13 (by omega) w
                rw [show Lib.decDigits 13 = [49, 51] by decide +kernel] at hdg
                go_wp2_with fail
                refine hdg.mono ?_
                rintro e w1 ⟨rfl, rfl⟩
                clear hdg
                go_wp2
                go_round
                case rel => exact ⟨k + 1, by omega, by go_num, by rw [HN.out]⟩
                case measure => simp [intOf]; omega
              · have e4 : ((d.toNat : Int) == 13) = false := ne_byte d 13 13 rfl h4
                by_cases h5 : d = 10
                · clear e4 h4
                  clear e3 h3
                  clear e2 h2
                  clear e1 h1
                  clear e0 h0
                  have hdn : (d.toNat : Int) = 10 := by subst h5; rfl
                  rw [hdn] at hix
                  clear hdn hd0 hd1
                  have HEB : Hid (escB d = [38, 35, 49, 48, 59]) := Lib.hid (by subst h5; rfl)
                  have hsp : (Op.stringOp .add ⟨E.toArray⟩ ⟨#[38, 35]⟩).run Tryd.prog w = .ok (.string ⟨(E ++ [38, 35]).toArray⟩) w := run_sop (w := w) E [38, 35] (by have := HLE.out; simp; omega)
                  have hsp2 : (Op.stringOp .add ⟨(E ++ [38, 35]).toArray⟩ ⟨#[49, 48]⟩).run Tryd.prog w = .ok (.string ⟨(E ++ [38, 35] ++ [49, 48]).toArray⟩) w := run_sop (w := w) (E ++ [38, 35]) [49, 48] (by have := HLE.out; simp; omega)
                  have hsp3 : (Op.stringOp .add ⟨(E ++ [38, 35] ++ [49, 48]).toArray⟩ ⟨#[59]⟩).run Tryd.prog w = .ok (.string ⟨(E ++ [38, 35] ++ [49, 48] ++ [59]).toArray⟩) w := run_sop (w := w) (E ++ [38, 35] ++ [49, 48]) [59] (by have := HLE.out; simp; omega)
                  have HN : Hid (esc (l.take (k + 1)) = E ++ [38, 35] ++ [49, 48] ++ [59]) := Lib.hid (by rw [HSN.out, HEB.out]; simp)
                  generalize E ++ [38, 35] ++ [49, 48] ++ [59] = E3 at *
                  generalize E ++ [38, 35] ++ [49, 48] = E2 at *
                  generalize E ++ [38, 35] = E1 at *
                  have hdg := refDigits_c 10 (by omega) w
                  rw [show Lib.decDigits 10 = [49, 48] by decide +kernel] at hdg
                  go_wp2_with fail
                  refine hdg.mono ?_
                  rintro e w1 ⟨rfl, rfl⟩
                  clear hdg
                  go_wp2
                  go_round
                  case rel => exact ⟨k + 1, by omega, by go_num, by rw [HN.out]⟩
                  case measure => simp [intOf]; omega
                · have e5 : ((d.toNat : Int) == 10) = false := ne_byte d 10 10 rfl h5
                  by_cases h6 : d = 9
                  · clear e5 h5
                    clear e4 h4
                    clear e3 h3
                    clear e2 h2
                    clear e1 h1
                    clear e0 h0
                    have hdn : (d.toNat : Int) = 9 := by subst h6; rfl
                    rw [hdn] at hix
                    clear hdn hd0 hd1
                    have HEB : Hid (escB d = [38, 35, 57, 59]) := Lib.hid (by subst h6; rfl)
                    have hsp : (Op.stringOp .add ⟨E.toArray⟩ ⟨#[38, 35]⟩).run Tryd.prog w = .ok (.string ⟨(E ++ [38, 35]).toArray⟩) w := run_sop (w := w) E [38, 35] (by have := HLE.out; simp; omega)
                    have hsp2 : (Op.stringOp .add ⟨(E ++ [38, 35]).toArray⟩ ⟨#[57]⟩).run Tryd.prog w = .ok (.string ⟨(E ++ [38, 35] ++ [57]).toArray⟩) w := run_sop (w := w) (E ++ [38, 35]) [57] (by have := HLE.out; simp; omega)
                    have hsp3 : (Op.stringOp .add ⟨(E ++ [38, 35] ++ [57]).toArray⟩ ⟨#[59]⟩).run Tryd.prog w = .ok (.string ⟨(E ++ [38, 35] ++ [57] ++ [59]).toArray⟩) w := run_sop (w := w) (E ++ [38, 35] ++ [57]) [59] (by have := HLE.out; simp; omega)
                    have HN : Hid (esc (l.take (k + 1)) = E ++ [38, 35] ++ [57] ++ [59]) := Lib.hid (by rw [HSN.out, HEB.out]; simp)
                    generalize E ++ [38, 35] ++ [57] ++ [59] = E3 at *
                    generalize E ++ [38, 35] ++ [57] = E2 at *
                    generalize E ++ [38, 35] = E1 at *
                    have hdg := refDigits_c 9 (by omega) w
                    rw [show Lib.decDigits 9 = [57] by decide +kernel] at hdg
                    go_wp2_with fail
                    refine hdg.mono ?_
                    rintro e w1 ⟨rfl, rfl⟩
                    clear hdg
                    go_wp2
                    go_round
                    case rel => exact ⟨k + 1, by omega, by go_num, by rw [HN.out]⟩
                    case measure => simp [intOf]; omega
                  · have e6 : ((d.toNat : Int) == 9) = false := ne_byte d 9 9 rfl h6
                    have HEB : Hid (escB d = [d]) := Lib.hid (by unfold escB; simp [h0, h1, h2, h3, h4, h5, h6])
                    have hsp : (Op.stringOp .add ⟨E.toArray⟩ ⟨#[d]⟩).run Tryd.prog w = .ok (.string ⟨(E ++ [d]).toArray⟩) w := run_sop (w := w) E [d] (by have := HLE.out; simp; omega)
                    have HN : Hid (esc (l.take (k + 1)) = E ++ [d]) := Lib.hid (by rw [HSN.out, HEB.out])
                    generalize E ++ [d] = E' at *
                    clear h0 h1 h2 h3 h4 h5 h6
                    go_wp2
                    go_round
                    case rel => exact ⟨k + 1, by omega, by go_num, by rw [HN.out]⟩
                    case measure => simp [intOf]; omega
    · obtain rfl : k = l.length := by omega
      have HT : Hid (l.take l.length = l) := Lib.hid (List.take_length)
      go_wp2
      go_ret
      exact ⟨rfl, rfl⟩
end Go.Proofs.YtocbofeanfdggaaDoor
/- report.Name; the document's -/
namespace Go.Proofs.YtocbofeanfdggaaDoor
open Go.ChangeShapes Go.WideShapes Go.ChangeAt Go.RowKit
set_option linter.unusedVariables false
/-- A name, told. -/
def nameL (sp lo : List UInt8) : List UInt8 := if sp = [] then esc lo else [123] ++ esc sp ++ [125] ++ esc lo
set_option maxRecDepth 100000 in
set_option maxHeartbeats 4000000 in
theorem repName_c (sp lo : List UInt8) (w : World) (h1 : sp.length ≤ 10000) (h2 : lo.length ≤ 10000) :
    Calls Tryd.prog 25 #[.agg #[.string ⟨sp.toArray⟩, .string ⟨lo.toArray⟩]] w fun e w' => e = .returned (.string ⟨(nameL sp lo).toArray⟩) ∧ Below w.heap.size w w' := by
  have c0 : Hid (∀ w1, Calls Tryd.prog 26 #[.string ⟨lo.toArray⟩] w1 fun e w' => e = .returned (.string ⟨(esc lo).toArray⟩) ∧ Below w1.heap.size w1 w') := Lib.hid fun w1 => escape_c lo w1 (by omega)
  have c1 : Hid (∀ w1, Calls Tryd.prog 26 #[.string ⟨sp.toArray⟩] w1 fun e w' => e = .returned (.string ⟨(esc sp).toArray⟩) ∧ Below w1.heap.size w1 w') := Lib.hid fun w1 => escape_c sp w1 (by omega)
  have l1 := esc_le sp
  have l2 := esc_le lo
  have HW : Hid (∀ w1, Below (w.alloc (.cells #[.string ⟨sp.toArray⟩, .string ⟨lo.toArray⟩] 37)).heap.size (w.alloc (.cells #[.string ⟨sp.toArray⟩, .string ⟨lo.toArray⟩] 37)) w1 → w1.cell? ⟨w.heap.size, 0, none⟩ = some (.string ⟨sp.toArray⟩) ∧ Below w.heap.size w w1) := Lib.hid fun w1 hb =>
    ⟨(hb.cell (p := ⟨w.heap.size, 0, none⟩) (by simp)).trans (cell_of 0 (hp_new w _)), ((Below.refl _ w).alloc (Nat.le_refl _) _).trans (hb.mono (by simp))⟩
  by_cases hs : sp = []
  · subst hs
    rw [show nameL [] lo = esc lo by simp [nameL]]
    clear l1 l2 h1 h2 c1
    generalize esc lo = E at *
    go_enter Tryd.func25, Tryd.ntmps25
    go_wp2_with fail
    refine (c0.out _).mono ?_
    rintro e w1 ⟨rfl, hb⟩
    obtain ⟨hc, hb1⟩ := HW.out w1 hb
    have HB := Lib.hid hb1
    clear hb hb1
    go_wp2
    go_ret
    exact ⟨rfl, HB.out⟩
  · have p1 : ∀ w : World, (Op.stringOp .add ⟨#[123]⟩ ⟨(esc sp).toArray⟩).run Tryd.prog w = .ok (.string ⟨([123] ++ esc sp).toArray⟩) w := fun w => run_sop (w := w) [123] _ (by simp; omega)
    have p2 : ∀ w : World, (Op.stringOp .add ⟨([123] ++ esc sp).toArray⟩ ⟨#[125]⟩).run Tryd.prog w = .ok (.string ⟨([123] ++ esc sp ++ [125]).toArray⟩) w := fun w => run_sop (w := w) _ [125] (by simp; omega)
    have p3 : ∀ w : World, (Op.stringOp .add ⟨([123] ++ esc sp ++ [125]).toArray⟩ ⟨(esc lo).toArray⟩).run Tryd.prog w = .ok (.string ⟨([123] ++ esc sp ++ [125] ++ esc lo).toArray⟩) w := fun w => run_sop (w := w) _ _ (by simp; omega)
    rw [show nameL sp lo = [123] ++ esc sp ++ [125] ++ esc lo by unfold nameL; rw [if_neg hs]]
    have he : (sp == []) = false := by simpa using hs
    clear l1 l2 h1 h2
    generalize [123] ++ esc sp ++ [125] ++ esc lo = S3 at *
    generalize [123] ++ esc sp ++ [125] = S2 at *
    generalize [123] ++ esc sp = S1 at *
    generalize esc lo = E at *
    generalize esc sp = E1 at *
    go_enter Tryd.func25, Tryd.ntmps25
    go_wp2_with fail
    refine (c0.out _).mono ?_
    rintro e w1 ⟨rfl, hb⟩
    obtain ⟨hc, hb1⟩ := HW.out w1 hb
    have HB := Lib.hid hb1
    clear hb hb1
    go_wp2_with fail
    refine (c1.out _).mono ?_
    rintro e w2 ⟨rfl, hb⟩
    have HB2 := Lib.hid (HB.out.trans (hb.mono HB.out.size))
    clear hb
    go_wp2
    go_ret
    exact ⟨rfl, HB2.out⟩
set_option maxRecDepth 100000 in
set_option maxHeartbeats 2000000 in
theorem refName_c (sp lo : List UInt8) (w : World) (h1 : sp.length ≤ 10000) (h2 : lo.length ≤ 10000) :
    Calls Tryd.prog 28 #[.agg #[.string ⟨sp.toArray⟩, .string ⟨lo.toArray⟩]] w fun e w' => e = .returned (.string ⟨(nameL sp lo).toArray⟩) ∧ Below w.heap.size w w' := by
  have c0 : Hid (∀ w1, Calls Tryd.prog 21 #[.string ⟨lo.toArray⟩] w1 fun e w' => e = .returned (.string ⟨(esc lo).toArray⟩) ∧ w1 = w') := Lib.hid fun w1 => refEscape_c lo w1 (by omega)
  have c1 : Hid (∀ w1, Calls Tryd.prog 21 #[.string ⟨sp.toArray⟩] w1 fun e w' => e = .returned (.string ⟨(esc sp).toArray⟩) ∧ w1 = w') := Lib.hid fun w1 => refEscape_c sp w1 (by omega)
  have l1 := esc_le sp
  have l2 := esc_le lo
  have HW : Hid (Below w.heap.size w (w.alloc (.cells #[.string ⟨sp.toArray⟩, .string ⟨lo.toArray⟩] 37))) := Lib.hid ((Below.refl _ w).alloc (Nat.le_refl _) _)
  by_cases hs : sp = []
  · subst hs
    rw [show nameL [] lo = esc lo by simp [nameL]]
    clear l1 l2 h1 h2 c1
    generalize esc lo = E at *
    go_enter Tryd.func28, Tryd.ntmps28
    go_wp2_with fail
    refine (c0.out _).mono ?_
    rintro e w1 ⟨rfl, rfl⟩
    go_wp2
    go_ret
    exact ⟨rfl, HW.out⟩
  · have p1 : ∀ w : World, (Op.stringOp .add ⟨#[123]⟩ ⟨(esc sp).toArray⟩).run Tryd.prog w = .ok (.string ⟨([123] ++ esc sp).toArray⟩) w := fun w => run_sop (w := w) [123] _ (by simp; omega)
    have p2 : ∀ w : World, (Op.stringOp .add ⟨([123] ++ esc sp).toArray⟩ ⟨#[125]⟩).run Tryd.prog w = .ok (.string ⟨([123] ++ esc sp ++ [125]).toArray⟩) w := fun w => run_sop (w := w) _ [125] (by simp; omega)
    have p3 : ∀ w : World, (Op.stringOp .add ⟨([123] ++ esc sp ++ [125]).toArray⟩ ⟨(esc lo).toArray⟩).run Tryd.prog w = .ok (.string ⟨([123] ++ esc sp ++ [125] ++ esc lo).toArray⟩) w := fun w => run_sop (w := w) _ _ (by simp; omega)
    rw [show nameL sp lo = [123] ++ esc sp ++ [125] ++ esc lo by unfold nameL; rw [if_neg hs]]
    have he : (sp == []) = false := by simpa using hs
    have hc0 : (w.alloc (.cells #[.string ⟨sp.toArray⟩, .string ⟨lo.toArray⟩] 37)).cell? ⟨w.heap.size, 0, none⟩ = some (.string ⟨sp.toArray⟩) := by rw [cell_of 0 (hp_new w _)]; rfl
    have hc1 : (w.alloc (.cells #[.string ⟨sp.toArray⟩, .string ⟨lo.toArray⟩] 37)).cell? ⟨w.heap.size, 1, none⟩ = some (.string ⟨lo.toArray⟩) := by rw [cell_of 1 (hp_new w _)]; rfl
    clear l1 l2 h1 h2
    generalize [123] ++ esc sp ++ [125] ++ esc lo = S3 at *
    generalize [123] ++ esc sp ++ [125] = S2 at *
    generalize [123] ++ esc sp = S1 at *
    generalize esc lo = E at *
    generalize esc sp = E1 at *
    go_enter Tryd.func28, Tryd.ntmps28
    go_wp2_with fail
    generalize w.alloc (.cells #[.string ⟨sp.toArray⟩, .string ⟨lo.toArray⟩] 37) = W1 at *
    have q1 : Hid (∀ m, Calls Tryd.prog 21 #[.string ⟨sp.toArray⟩] (W1.drewN m) fun e w' => e = .returned (.string ⟨E1.toArray⟩) ∧ w' = W1.drewN m) := Lib.hid fun m => (c1.out _).mono fun e w' ⟨he, hw⟩ => ⟨he, hw.symm⟩
    have q0 : Hid (∀ m, Calls Tryd.prog 21 #[.string ⟨lo.toArray⟩] (W1.drewN m) fun e w' => e = .returned (.string ⟨E.toArray⟩) ∧ w' = W1.drewN m) := Lib.hid fun m => (c0.out _).mono fun e w' ⟨he, hw⟩ => ⟨he, hw.symm⟩
    clear c0 c1
    go_quiet ((go_at_call 21; first | with_reducible exact Calls.quiet_of_same (q1.out _) | with_reducible exact Calls.quiet_of_same (q0.out _)))
    have HB : Hid (Below w.heap.size w (W1.drewN nq)) := Lib.hid ⟨HW.out.os, HW.out.tape, HW.out.output, HW.out.size, HW.out.block⟩
    generalize W1.drewN nq = wq at *
    go_wp2
    go_ret
    exact ⟨rfl, HB.out⟩
end Go.Proofs.YtocbofeanfdggaaDoor
/- report.line of one, two, three parts -/
namespace Go.Proofs.YtocbofeanfdggaaDoor
open Go.ChangeShapes Go.WideShapes Go.ChangeAt Go.RowKit
set_option linter.unusedVariables false
set_option maxRecDepth 100000 in
set_option maxHeartbeats 4000000 in
theorem ln_1 (g c : Nat) (x0 : List UInt8) (w : World) (hgl : g < w.heap.size) (hcap : 1 ≤ c) (hc0 : w.cell? ⟨g, 0, none⟩ = some (.string ⟨x0.toArray⟩)) (hl0 : x0.length ≤ 100000) :
    Calls Tryd.prog 24 #[.slice (some ⟨g, 0, none⟩) 1 c] w fun e w' => e = .returned (.string ⟨(joinB [x0] ++ [10]).toArray⟩) ∧ Below w.heap.size w w' := by
  have C : Hid (Calls Tryd.prog 39 #[.slice (some ⟨g, 0, none⟩) 1 c, .string ⟨#[32]⟩] w fun e w' => e = .returned (.string ⟨(joinB [x0]).toArray⟩) ∧ Below w.heap.size w w') := Lib.hid ((join_1 g c x0 w hc0).mono fun e w' ⟨he, hw⟩ => ⟨he, hw ▸ Below.refl _ _⟩)
  have hsp : ∀ w : World, (Op.stringOp .add ⟨(joinB [x0]).toArray⟩ ⟨#[10]⟩).run Tryd.prog w = .ok (.string ⟨(joinB [x0] ++ [10]).toArray⟩) w := fun w => run_sop (w := w) _ [10] (by simp [joinB]; omega)
  clear hgl hcap hc0 hl0
  generalize joinB [x0] = J at *
  generalize J ++ [10] = J' at *
  go_enter Tryd.func24, Tryd.ntmps24
  go_wp2_with fail
  refine C.out.mono ?_
  rintro e w1 ⟨rfl, hb⟩
  have HB := Lib.hid hb
  clear hb
  go_wp2
  go_ret
  exact ⟨rfl, HB.out⟩
/-- .. of parts that have just been laid down. -/
theorem lnAt_1 (x0 : List UInt8) (w1 : World) (hl0 : x0.length ≤ 100000) : Calls Tryd.prog 24 #[.slice (some ⟨w1.heap.size, 0, none⟩) 1 1] (w1.alloc (.cells #[.string ⟨x0.toArray⟩] 9)) fun e w' => e = .returned (.string ⟨(joinB [x0] ++ [10]).toArray⟩) ∧ Below w1.heap.size w1 w' :=
  (ln_1 w1.heap.size 1 x0 (w1.alloc (.cells #[.string ⟨x0.toArray⟩] 9)) (by simp) (Nat.le_refl _) (by rw [cell_of 0 (hp_new w1 _)]; rfl) hl0).mono fun e w' ⟨he, hb⟩ => ⟨he, ((Below.refl _ w1).alloc (Nat.le_refl _) _).trans (hb.mono (by simp))⟩
set_option maxRecDepth 100000 in
set_option maxHeartbeats 4000000 in
theorem ln_2 (g c : Nat) (x0 x1 : List UInt8) (w : World) (hgl : g < w.heap.size) (hcap : 2 ≤ c) (hc0 : w.cell? ⟨g, 0, none⟩ = some (.string ⟨x0.toArray⟩)) (hc1 : w.cell? ⟨g, 1, none⟩ = some (.string ⟨x1.toArray⟩)) (hl0 : x0.length ≤ 100000) (hl1 : x1.length ≤ 100000) :
    Calls Tryd.prog 24 #[.slice (some ⟨g, 0, none⟩) 2 c] w fun e w' => e = .returned (.string ⟨(joinB [x0, x1] ++ [10]).toArray⟩) ∧ Below w.heap.size w w' := by
  have C := Lib.hid (join_2 g c x0 x1 w hgl hcap hc0 hc1 (by omega) (by omega))
  have hsp : ∀ w : World, (Op.stringOp .add ⟨(joinB [x0, x1]).toArray⟩ ⟨#[10]⟩).run Tryd.prog w = .ok (.string ⟨(joinB [x0, x1] ++ [10]).toArray⟩) w := fun w => run_sop (w := w) _ [10] (by simp [joinB]; omega)
  clear hgl hcap hc0 hl0 hc1 hl1
  generalize joinB [x0, x1] = J at *
  generalize J ++ [10] = J' at *
  go_enter Tryd.func24, Tryd.ntmps24
  go_wp2_with fail
  refine C.out.mono ?_
  rintro e w1 ⟨rfl, hb⟩
  have HB := Lib.hid hb
  clear hb
  go_wp2
  go_ret
  exact ⟨rfl, HB.out⟩
/-- .. of parts that have just been laid down. -/
theorem lnAt_2 (x0 x1 : List UInt8) (w1 : World) (hl0 : x0.length ≤ 100000) (hl1 : x1.length ≤ 100000) : Calls Tryd.prog 24 #[.slice (some ⟨w1.heap.size, 0, none⟩) 2 2] (w1.alloc (.cells #[.string ⟨x0.toArray⟩, .string ⟨x1.toArray⟩] 9)) fun e w' => e = .returned (.string ⟨(joinB [x0, x1] ++ [10]).toArray⟩) ∧ Below w1.heap.size w1 w' :=
  (ln_2 w1.heap.size 2 x0 x1 (w1.alloc (.cells #[.string ⟨x0.toArray⟩, .string ⟨x1.toArray⟩] 9)) (by simp) (Nat.le_refl _) (by rw [cell_of 0 (hp_new w1 _)]; rfl) (by rw [cell_of 1 (hp_new w1 _)]; rfl) hl0 hl1).mono fun e w' ⟨he, hb⟩ => ⟨he, ((Below.refl _ w1).alloc (Nat.le_refl _) _).trans (hb.mono (by simp))⟩
set_option maxRecDepth 100000 in
set_option maxHeartbeats 4000000 in
theorem ln_3 (g c : Nat) (x0 x1 x2 : List UInt8) (w : World) (hgl : g < w.heap.size) (hcap : 3 ≤ c) (hc0 : w.cell? ⟨g, 0, none⟩ = some (.string ⟨x0.toArray⟩)) (hc1 : w.cell? ⟨g, 1, none⟩ = some (.string ⟨x1.toArray⟩)) (hc2 : w.cell? ⟨g, 2, none⟩ = some (.string ⟨x2.toArray⟩)) (hl0 : x0.length ≤ 100000) (hl1 : x1.length ≤ 100000) (hl2 : x2.length ≤ 100000) :
    Calls Tryd.prog 24 #[.slice (some ⟨g, 0, none⟩) 3 c] w fun e w' => e = .returned (.string ⟨(joinB [x0, x1, x2] ++ [10]).toArray⟩) ∧ Below w.heap.size w w' := by
  have C := Lib.hid (join_3 g c x0 x1 x2 w hgl hcap hc0 hc1 hc2 (by omega) (by omega) (by omega))
  have hsp : ∀ w : World, (Op.stringOp .add ⟨(joinB [x0, x1, x2]).toArray⟩ ⟨#[10]⟩).run Tryd.prog w = .ok (.string ⟨(joinB [x0, x1, x2] ++ [10]).toArray⟩) w := fun w => run_sop (w := w) _ [10] (by simp [joinB]; omega)
  clear hgl hcap hc0 hl0 hc1 hl1 hc2 hl2
  generalize joinB [x0, x1, x2] = J at *
  generalize J ++ [10] = J' at *
  go_enter Tryd.func24, Tryd.ntmps24
  go_wp2_with fail
  refine C.out.mono ?_
  rintro e w1 ⟨rfl, hb⟩
  have HB := Lib.hid hb
  clear hb
  go_wp2
  go_ret
  exact ⟨rfl, HB.out⟩
/-- .. of parts that have just been laid down. -/
theorem lnAt_3 (x0 x1 x2 : List UInt8) (w1 : World) (hl0 : x0.length ≤ 100000) (hl1 : x1.length ≤ 100000) (hl2 : x2.length ≤ 100000) : Calls Tryd.prog 24 #[.slice (some ⟨w1.heap.size, 0, none⟩) 3 3] (w1.alloc (.cells #[.string ⟨x0.toArray⟩, .string ⟨x1.toArray⟩, .string ⟨x2.toArray⟩] 9)) fun e w' => e = .returned (.string ⟨(joinB [x0, x1, x2] ++ [10]).toArray⟩) ∧ Below w1.heap.size w1 w' :=
  (ln_3 w1.heap.size 3 x0 x1 x2 (w1.alloc (.cells #[.string ⟨x0.toArray⟩, .string ⟨x1.toArray⟩, .string ⟨x2.toArray⟩] 9)) (by simp) (Nat.le_refl _) (by rw [cell_of 0 (hp_new w1 _)]; rfl) (by rw [cell_of 1 (hp_new w1 _)]; rfl) (by rw [cell_of 2 (hp_new w1 _)]; rfl) hl0 hl1 hl2).mono fun e w' ⟨he, hb⟩ => ⟨he, ((Below.refl _ w1).alloc (Nat.le_refl _) _).trans (hb.mono (by simp))⟩
end Go.Proofs.YtocbofeanfdggaaDoor
