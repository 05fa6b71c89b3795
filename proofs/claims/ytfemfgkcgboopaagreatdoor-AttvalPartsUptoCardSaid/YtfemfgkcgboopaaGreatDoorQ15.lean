/- Texts of ours, joined: Esc, Esc2. -/
import Derived.Test.YtfemfgkcgboopaaGreatDoorRows
import Derived.WalkKit
import Derived.ProofKit
import Derived.OpenShut
import Derived.ShutString
import Derived.ChangeOld
import Derived.Below
import Derived.BigQuiet
import Derived.Deep.QuietTactic
import Derived.Lib.Hide
import Derived.Deep.RegionHeld3
import Derived.Lib.SlBytesConst
import Derived.Laws.CopyOwn
import Derived.Laws.CopyRow
import Derived.Lib.Bytes
import Derived.Deep.LoopGhost
import Derived.Deep.DeepFit
import Derived.Deep.DeepMust
import Derived.WalkSpells
import Derived.WalkLawsBesides
import Derived.Laws.EntriesVeiled
import Derived.Laws.Rows
import Derived.Lib.ConvBytes
import Derived.Lib.AtoiErrMem
import Derived.Test.YtfemfgkcgboopaaGreatDoorQ1
import Derived.Test.YtfemfgkcgboopaaGreatDoorQ14
import Derived.Test.YtfemfgkcgboopaaGreatDoorQ13
/- cref.Escape. -/
namespace Go.Proofs.YtfemfgkcgboopaaGreatDoor
open Go.ChangeShapes Go.WideShapes Go.ChangeAt Go.RowKit
set_option linter.unusedVariables false
/-- '[]byte(s)'. -/
theorem toBytes (w : World) (l : List UInt8) (hl : l.length ≤ 1000000) : ∃ c w', (convert 9 65 (.string ⟨l.toArray⟩)).run Tryz.prog w = .ok (.slice (some ⟨w.heap.size, 0, none⟩) l.length c) w' ∧ Below w.heap.size w w' ∧ w'.heap.size = w.heap.size + 1 ∧ Byt w' (w.heap.size + 1) (some ⟨w.heap.size, 0, none⟩) l.length c l := by
  have hsz : (⟨l.toArray⟩ : ByteArray).size = l.length := by simp [ByteArray.size]
  refine ⟨_, _, (by have := Lib.run_convert_string_bytes (P := Tryz.prog) w 9 65 5 ⟨l.toArray⟩ Tryz.underlying9 Tryz.underlying65 Tryz.underlying5; rw [hsz] at this; exact this), Lib.bytesWorld_below _ _ _, Lib.bytesWorld_size _ _ _, ⟨by simp, grownCap_ge _ _ _ _, grownCap_le_maxLen _ _ _ _ (by unfold maxLen; omega), (fun e => by cases e), fun _ => ⟨_, _, rfl, by omega, fun i u hu => ?_⟩⟩⟩
  have hi : i < l.length := by
    rcases Nat.lt_or_ge i l.length with h' | h'
    · exact h'
    · rw [List.getElem?_eq_none (by simpa using h')] at hu; cases hu
  rw [Nat.zero_add, Lib.bytesWorld_cell _ _ _ _ (by rw [hsz]; exact hi)]
  rw [List.getElem?_map, List.getElem?_eq_getElem hi] at hu
  simp only [Option.map_some, Option.some.injEq] at hu
  rw [← hu]
  simp [bv, hi]
/-- One byte, escaped. -/
def escB (c : UInt8) : List UInt8 :=
  if c = 38 then [38, 97, 109, 112, 59] else if c = 60 then [38, 108, 116, 59] else if c = 62 then [38, 103, 116, 59] else if c = 34 then [38, 113, 117, 111, 116, 59]
  else if c = 13 then [38, 35, 49, 51, 59] else if c = 10 then [38, 35, 49, 48, 59] else if c = 9 then [38, 35, 57, 59] else [c]
def esc (l : List UInt8) : List UInt8 := l.flatMap escB
theorem escB_le (c : UInt8) : (escB c).length ≤ 6 ∧ 1 ≤ (escB c).length := by unfold escB; (repeat' split) <;> simp
theorem esc_le (l : List UInt8) : (esc l).length ≤ 6 * l.length := by
  induction l with
  | nil => simp [esc]
  | cons c t ih =>
    have := (escB_le c).1
    simp only [esc, List.flatMap_cons, List.length_append, List.length_cons] at *
    omega
theorem esc_snoc (l : List UInt8) (c : UInt8) : esc (l ++ [c]) = esc l ++ escB c := by simp [esc]
theorem ne_byte (c n : UInt8) (z : Int) (hz : z = (n.toNat : Int)) (h : ¬ c = n) : ((c.toNat : Int) == z) = false := by rw [hz, toNat_eq]; simp [h]
theorem itoa_small (i : Nat) (hi : i < 100) (w : World) : Calls Tryz.prog 56 #[.int .i64 i] w fun e w' => e = .returned (.string ⟨(Lib.decDigits i).toArray⟩) ∧ w = w' :=
  (Tryz.strconv_Itoa_small i hi w).mono fun e w' ⟨he, hw⟩ => ⟨he, hw.symm⟩
set_option maxRecDepth 100000 in
set_option maxHeartbeats 16000000 in
theorem escape_c (l : List UInt8) (w : World) (hm : l.length ≤ 1000000) :
    Calls Tryz.prog 30 #[.string ⟨l.toArray⟩] w fun e w' => e = .returned (.string ⟨(esc l).toArray⟩) ∧ Below w.heap.size w w' := by
  have hB := Bld.fresh (w.heap.size + 2) w (by omega)
  have hb0 : Below w.heap.size w (w.alloc (.cells #[.pointer none, .slice none 0 0] 67)) := (Below.refl _ _).alloc (Nat.le_refl _) _
  have hs0 : (w.alloc (.cells #[.pointer none, .slice none 0 0] 67)).heap.size = w.heap.size + 1 := by simp
  obtain ⟨c, w2, hcv, hb2, hs2, hby⟩ := toBytes (w.alloc (.cells #[.pointer none, .slice none 0 0] 67)) l hm
  rw [hs0] at hcv hb2 hs2 hby
  have hB2 := hB.kept (by rw [hs0]; exact hb2)
  have hbw := hb0.trans (hb2.mono (by omega))
  have hcell : ∀ (wr : World), Fr (w.heap.size + 2) w.heap.size w2 wr → ∀ k, k < l.length → wr.cell? ⟨w.heap.size + 1, k, none⟩ = some (.int .u8 (UInt8.toNat (l.getD k 0) : Int)) := fun wr hf k hk => by
    obtain ⟨b, o, c, e, hb, hc, hcl⟩ := hby.cell hk
    cases e
    rw [World.cell?_of_block (w := w2) (a := ⟨w.heap.size + 1, k, none⟩) (hf.block (w.heap.size + 1) (by omega) (by omega))]
    rw [Nat.zero_add] at hcl
    rw [hcl, List.getD_eq_getElem?_getD, hc]
    rfl
  have HC := Lib.hid hcell
  have HB2 := Lib.hid (And.intro hB2 hbw)
  have HS2 := Lib.hid hs2
  clear hB hb0 hs0 hB2 hb2 hs2 hby hbw hcell
  generalize hwS : w.heap.size = S at *
  go_enter Tryz.func30, Tryz.ntmps30
  go_wp2
  go_loopw [9] (fun i wr => ∃ k : Nat, k ≤ l.length ∧ i = .int .i64 k ∧ Hid (Bld (S + 2) S (esc (l.take k)) wr ∧ Fr (S + 2) S w2 wr)) (fun i _ => l.length - (intOf i).toNat)
  case atStart => exact ⟨0, Nat.zero_le _, rfl, Lib.hid ⟨HB2.out.1, Fr.refl _ _ _⟩⟩
  case round =>
    obtain ⟨k, hk, rfl, I⟩ := hrel
    by_cases hlt : k < l.length
    · have hcl := HC.out _ I.out.2 k hlt
      have HSN : Hid (esc (l.take (k + 1)) = esc (l.take k) ++ escB (l.getD k 0)) := Lib.hid (by
        rw [take_snoc l k (l.getD k 0) (by simp [hlt]), esc_snoc])
      have HLE : Hid ((esc (l.take k)).length + 6 ≤ 140737488355328) := Lib.hid (by have := esc_le (l.take k); rw [List.length_take] at this; omega)
      have HSZ : Hid (S + 2 ≤ wr.heap.size) := Lib.hid (by have := I.out.2.size; have := HS2.out; omega)
      generalize l.getD k 0 = d at *
      by_cases h0 : d = 38
      · have HEB : Hid (escB d = [38, 97, 109, 112, 59]) := Lib.hid (by subst h0; rfl)
        have hdn : (d.toNat : Int) = 38 := by subst h0; rfl
        rw [hdn] at hcl
        clear hdn
        go_wp2_with fail
        refine (writeString_b (S + 2) S (esc (l.take k)) [38, 97, 109, 112, 59] _ I.out.1 (by have := HLE.out; simp; omega) HSZ.out).mono ?_
        rintro e w3 ⟨rfl, hb3, hf3⟩
        have HN : Hid (Bld (S + 2) S (esc (l.take (k + 1))) w3 ∧ Fr (S + 2) S w2 w3) := Lib.hid ⟨by rw [HSN.out, HEB.out]; exact hb3, I.out.2.trans hf3⟩
        clear hb3 hf3
        go_wp2
        go_roundw
        case rel => exact ⟨k + 1, by omega, by go_num, HN⟩
        case measure => simp [intOf]; omega
      · have e0 : ((d.toNat : Int) == 38) = false := ne_byte d 38 38 rfl h0
        by_cases h1 : d = 60
        · have HEB : Hid (escB d = [38, 108, 116, 59]) := Lib.hid (by subst h1; rfl)
          have hdn : (d.toNat : Int) = 60 := by subst h1; rfl
          rw [hdn] at hcl
          clear hdn
          go_wp2_with fail
          refine (writeString_b (S + 2) S (esc (l.take k)) [38, 108, 116, 59] _ I.out.1 (by have := HLE.out; simp; omega) HSZ.out).mono ?_
          rintro e w3 ⟨rfl, hb3, hf3⟩
          have HN : Hid (Bld (S + 2) S (esc (l.take (k + 1))) w3 ∧ Fr (S + 2) S w2 w3) := Lib.hid ⟨by rw [HSN.out, HEB.out]; exact hb3, I.out.2.trans hf3⟩
          clear hb3 hf3
          go_wp2
          go_roundw
          case rel => exact ⟨k + 1, by omega, by go_num, HN⟩
          case measure => simp [intOf]; omega
        · have e1 : ((d.toNat : Int) == 60) = false := ne_byte d 60 60 rfl h1
          by_cases h2 : d = 62
          · have HEB : Hid (escB d = [38, 103, 116, 59]) := Lib.hid (by subst h2; rfl)
            have hdn : (d.toNat : Int) = 62 := by subst h2; rfl
            rw [hdn] at hcl
            clear hdn
            go_wp2_with fail
            refine (writeString_b (S + 2) S (esc (l.take k)) [38, 103, 116, 59] _ I.out.1 (by have := HLE.out; simp; omega) HSZ.out).mono ?_
            rintro e w3 ⟨rfl, hb3, hf3⟩
            have HN : Hid (Bld (S + 2) S (esc (l.take (k + 1))) w3 ∧ Fr (S + 2) S w2 w3) := Lib.hid ⟨by rw [HSN.out, HEB.out]; exact hb3, I.out.2.trans hf3⟩
            clear hb3 hf3
            go_wp2
            go_roundw
            case rel => exact ⟨k + 1, by omega, by go_num, HN⟩
            case measure => simp [intOf]; omega
          · have e2 : ((d.toNat : Int) == 62) = false := ne_byte d 62 62 rfl h2
            by_cases h3 : d = 34
            · have HEB : Hid (escB d = [38, 113, 117, 111, 116, 59]) := Lib.hid (by subst h3; rfl)
              have hdn : (d.toNat : Int) = 34 := by subst h3; rfl
              rw [hdn] at hcl
              clear hdn
              go_wp2_with fail
              refine (writeString_b (S + 2) S (esc (l.take k)) [38, 113, 117, 111, 116, 59] _ I.out.1 (by have := HLE.out; simp; omega) HSZ.out).mono ?_
              rintro e w3 ⟨rfl, hb3, hf3⟩
              have HN : Hid (Bld (S + 2) S (esc (l.take (k + 1))) w3 ∧ Fr (S + 2) S w2 w3) := Lib.hid ⟨by rw [HSN.out, HEB.out]; exact hb3, I.out.2.trans hf3⟩
              clear hb3 hf3
              go_wp2
              go_roundw
              case rel => exact ⟨k + 1, by omega, by go_num, HN⟩
              case measure => simp [intOf]; omega
            · have e3 : ((d.toNat : Int) == 34) = false := ne_byte d 34 34 rfl h3
              by_cases h4 : d = 13
              · have HEB : Hid (escB d = [38, 35, 49, 51, 59]) := Lib.hid (by subst h4; rfl)
                have hdn : (d.toNat : Int) = 13 := by subst h4; rfl
                rw [hdn] at hcl
                clear hdn
                go_wp2_with fail
                have hit := itoa_small 13 (by decide) wr
                rw [show Lib.decDigits 13 = [49, 51] by decide +kernel] at hit
                refine hit.mono ?_
                rintro e w4 ⟨rfl, rfl⟩
                clear hit
                go_wp2_with fail
                refine (writeString_b (S + 2) S (esc (l.take k)) [38, 35, 49, 51, 59] _ I.out.1 (by have := HLE.out; simp; omega) HSZ.out).mono ?_
                rintro e w3 ⟨rfl, hb3, hf3⟩
                have HN : Hid (Bld (S + 2) S (esc (l.take (k + 1))) w3 ∧ Fr (S + 2) S w2 w3) := Lib.hid ⟨by rw [HSN.out, HEB.out]; exact hb3, I.out.2.trans hf3⟩
                clear hb3 hf3
                go_wp2
                go_roundw
                case rel => exact ⟨k + 1, by omega, by go_num, HN⟩
                case measure => simp [intOf]; omega
              · have e4 : ((d.toNat : Int) == 13) = false := ne_byte d 13 13 rfl h4
                by_cases h5 : d = 10
                · have HEB : Hid (escB d = [38, 35, 49, 48, 59]) := Lib.hid (by subst h5; rfl)
                  have hdn : (d.toNat : Int) = 10 := by subst h5; rfl
                  rw [hdn] at hcl
                  clear hdn
                  go_wp2_with fail
                  have hit := itoa_small 10 (by decide) wr
                  rw [show Lib.decDigits 10 = [49, 48] by decide +kernel] at hit
                  refine hit.mono ?_
                  rintro e w4 ⟨rfl, rfl⟩
                  clear hit
                  go_wp2_with fail
                  refine (writeString_b (S + 2) S (esc (l.take k)) [38, 35, 49, 48, 59] _ I.out.1 (by have := HLE.out; simp; omega) HSZ.out).mono ?_
                  rintro e w3 ⟨rfl, hb3, hf3⟩
                  have HN : Hid (Bld (S + 2) S (esc (l.take (k + 1))) w3 ∧ Fr (S + 2) S w2 w3) := Lib.hid ⟨by rw [HSN.out, HEB.out]; exact hb3, I.out.2.trans hf3⟩
                  clear hb3 hf3
                  go_wp2
                  go_roundw
                  case rel => exact ⟨k + 1, by omega, by go_num, HN⟩
                  case measure => simp [intOf]; omega
                · have e5 : ((d.toNat : Int) == 10) = false := ne_byte d 10 10 rfl h5
                  by_cases h6 : d = 9
                  · have HEB : Hid (escB d = [38, 35, 57, 59]) := Lib.hid (by subst h6; rfl)
                    have hdn : (d.toNat : Int) = 9 := by subst h6; rfl
                    rw [hdn] at hcl
                    clear hdn
                    go_wp2_with fail
                    have hit := itoa_small 9 (by decide) wr
                    rw [show Lib.decDigits 9 = [57] by decide +kernel] at hit
                    refine hit.mono ?_
                    rintro e w4 ⟨rfl, rfl⟩
                    clear hit
                    go_wp2_with fail
                    refine (writeString_b (S + 2) S (esc (l.take k)) [38, 35, 57, 59] _ I.out.1 (by have := HLE.out; simp; omega) HSZ.out).mono ?_
                    rintro e w3 ⟨rfl, hb3, hf3⟩
                    have HN : Hid (Bld (S + 2) S (esc (l.take (k + 1))) w3 ∧ Fr (S + 2) S w2 w3) := Lib.hid ⟨by rw [HSN.out, HEB.out]; exact hb3, I.out.2.trans hf3⟩
                    clear hb3 hf3
                    go_wp2
                    go_roundw
                    case rel => exact ⟨k + 1, by omega, by go_num, HN⟩
                    case measure => simp [intOf]; omega
                  · have e6 : ((d.toNat : Int) == 9) = false := ne_byte d 9 9 rfl h6
                    have HEB : Hid (escB d = [d]) := Lib.hid (by unfold escB; simp [h0, h1, h2, h3, h4, h5, h6])
                    go_wp2_with fail
                    refine (writeByte_b (S + 2) S (esc (l.take k)) d _ I.out.1 (by have := HLE.out; omega) HSZ.out).mono ?_
                    rintro e w3 ⟨rfl, hb3, hf3⟩
                    have HN : Hid (Bld (S + 2) S (esc (l.take (k + 1))) w3 ∧ Fr (S + 2) S w2 w3) := Lib.hid ⟨by rw [HSN.out, HEB.out]; exact hb3, I.out.2.trans hf3⟩
                    clear hb3 hf3
                    go_wp2
                    go_roundw
                    case rel => exact ⟨k + 1, by omega, by go_num, HN⟩
                    case measure => simp [intOf]; omega
    · obtain rfl : k = l.length := by omega
      have hst := string_b (S + 2) S (esc l) wr (by have := I.out.1; rwa [List.take_length] at this)
      go_wp2_with fail
      refine hst.mono ?_
      rintro e w3 ⟨rfl, hb3⟩
      have HN : Hid (Below S w w3) := Lib.hid (HB2.out.2.trans ((I.out.2.below (by omega) (Nat.le_refl _)).trans hb3))
      clear hb3 hst
      go_wp2
      go_ret
      exact ⟨rfl, HN.out⟩
end Go.Proofs.YtfemfgkcgboopaaGreatDoor
/- narthexref06.Escape. -/
namespace Go.Proofs.YtfemfgkcgboopaaGreatDoor
open Go.ChangeShapes Go.WideShapes Go.ChangeAt Go.RowKit
set_option linter.unusedVariables false
set_option maxRecDepth 100000 in
set_option maxHeartbeats 4000000 in
theorem refEscape_c (l : List UInt8) (w : World) (hm : l.length ≤ 1000000) :
    Calls Tryz.prog 13 #[.string ⟨l.toArray⟩] w fun e w' => e = .returned (.string ⟨(esc l).toArray⟩) ∧ w = w' := by
  have hsz : (⟨l.toArray⟩ : ByteArray).size = l.length := by simp [ByteArray.size]
  go_enter Tryz.func13, Tryz.ntmps13
  go_wp2
  go_loop [4, 3] (fun i s => ∃ k : Nat, k ≤ l.length ∧ i = .int .i64 k ∧ s = .string ⟨(esc (l.take k)).toArray⟩) (fun i _ => l.length - (intOf i).toNat)
  case atStart => exact ⟨0, Nat.zero_le _, rfl, rfl⟩
  case round =>
    obtain ⟨k, hk, rfl, rfl⟩ := hrel
    have hk0 : (0 : Int) ≤ (k : Int) := by omega
    have hk1 : (k : Int) ≤ 1000000 := by omega
    by_cases hlt : k < l.length
    · have hix := run_strIndex l k hlt w
      have hsl := run_strSlice l k (k + 1) (by omega) (by omega) w
      rw [show ((k + 1 : Nat) : Int) = (k : Int) + 1 by omega, show k + 1 - k = 1 by omega, show (l.drop k).take 1 = [l.getD k 0] by
        rw [List.drop_eq_getElem_cons hlt, List.take_succ_cons, List.take_zero]; simp [hlt]] at hsl
      have HSN : Hid (esc (l.take (k + 1)) = esc (l.take k) ++ escB (l.getD k 0)) := Lib.hid (by
        rw [take_snoc l k (l.getD k 0) (by simp [hlt]), esc_snoc])
      have HLE : Hid ((esc (l.take k)).length ≤ 6000000) := Lib.hid (by have := esc_le (l.take k); rw [List.length_take] at this; omega)
      have HLT : Hid (k < l.length) := Lib.hid hlt
      generalize l.getD k 0 = d at *
      generalize esc (l.take k) = E at *
      have hd0 : (0 : Int) ≤ (d.toNat : Int) := by omega
      have hd1 : (d.toNat : Int) ≤ 255 := by have := d.toNat_lt; omega
      by_cases h0 : d = 38
      · have hdn : (d.toNat : Int) = 38 := by subst h0; rfl
        rw [hdn] at hix
        clear hdn hd0 hd1
        have HEB : Hid (escB d = [38, 97, 109, 112, 59]) := Lib.hid (by subst h0; rfl)
        have hsp : (Op.stringOp .add ⟨E.toArray⟩ ⟨#[38, 97, 109, 112, 59]⟩).run Tryz.prog w = .ok (.string ⟨(E ++ [38, 97, 109, 112, 59]).toArray⟩) w := run_sop (w := w) E [38, 97, 109, 112, 59] (by have := HLE.out; simp; omega)
        have HN : Hid (esc (l.take (k + 1)) = E ++ [38, 97, 109, 112, 59]) := Lib.hid (by rw [HSN.out, HEB.out])
        generalize E ++ [38, 97, 109, 112, 59] = E' at *
        go_wp2
        go_round
        case rel => exact ⟨k + 1, by omega, by go_num, by rw [HN.out]⟩
        case measure => simp [intOf]; omega
      · have e0 : ((d.toNat : Int) == 38) = false := ne_byte d 38 38 rfl h0
        by_cases h1 : d = 60
        · clear e0 h0
          have hdn : (d.toNat : Int) = 60 := by subst h1; rfl
          rw [hdn] at hix
          clear hdn hd0 hd1
          have HEB : Hid (escB d = [38, 108, 116, 59]) := Lib.hid (by subst h1; rfl)
          have hsp : (Op.stringOp .add ⟨E.toArray⟩ ⟨#[38, 108, 116, 59]⟩).run Tryz.prog w = .ok (.string ⟨(E ++ [38, 108, 116, 59]).toArray⟩) w := run_sop (w := w) E [38, 108, 116, 59] (by have := HLE.out; simp; omega)
          have HN : Hid (esc (l.take (k + 1)) = E ++ [38, 108, 116, 59]) := Lib.hid (by rw [HSN.out, HEB.out])
          generalize E ++ [38, 108, 116, 59] = E' at *
          go_wp2
          go_round
          case rel => exact ⟨k + 1, by omega, by go_num, by rw [HN.out]⟩
          case measure => simp [intOf]; omega
        · have e1 : ((d.toNat : Int) == 60) = false := ne_byte d 60 60 rfl h1
          by_cases h2 : d = 62
          · clear e1 h1
            clear e0 h0
            have hdn : (d.toNat : Int) = 62 := by subst h2; rfl
            rw [hdn] at hix
            clear hdn hd0 hd1
            have HEB : Hid (escB d = [38, 103, 116, 59]) := Lib.hid (by subst h2; rfl)
            have hsp : (Op.stringOp .add ⟨E.toArray⟩ ⟨#[38, 103, 116, 59]⟩).run Tryz.prog w = .ok (.string ⟨(E ++ [38, 103, 116, 59]).toArray⟩) w := run_sop (w := w) E [38, 103, 116, 59] (by have := HLE.out; simp; omega)
            have HN : Hid (esc (l.take (k + 1)) = E ++ [38, 103, 116, 59]) := Lib.hid (by rw [HSN.out, HEB.out])
            generalize E ++ [38, 103, 116, 59] = E' at *
            go_wp2
            go_round
            case rel => exact ⟨k + 1, by omega, by go_num, by rw [HN.out]⟩
            case measure => simp [intOf]; omega
          · have e2 : ((d.toNat : Int) == 62) = false := ne_byte d 62 62 rfl h2
            by_cases h3 : d = 34
            · clear e2 h2
              clear e1 h1
              clear e0 h0
              have hdn : (d.toNat : Int) = 34 := by subst h3; rfl
              rw [hdn] at hix
              clear hdn hd0 hd1
              have HEB : Hid (escB d = [38, 113, 117, 111, 116, 59]) := Lib.hid (by subst h3; rfl)
              have hsp : (Op.stringOp .add ⟨E.toArray⟩ ⟨#[38, 113, 117, 111, 116, 59]⟩).run Tryz.prog w = .ok (.string ⟨(E ++ [38, 113, 117, 111, 116, 59]).toArray⟩) w := run_sop (w := w) E [38, 113, 117, 111, 116, 59] (by have := HLE.out; simp; omega)
              have HN : Hid (esc (l.take (k + 1)) = E ++ [38, 113, 117, 111, 116, 59]) := Lib.hid (by rw [HSN.out, HEB.out])
              generalize E ++ [38, 113, 117, 111, 116, 59] = E' at *
              go_wp2
              go_round
              case rel => exact ⟨k + 1, by omega, by go_num, by rw [HN.out]⟩
              case measure => simp [intOf]; omega
            · have e3 : ((d.toNat : Int) == 34) = false := ne_byte d 34 34 rfl h3
              by_cases h4 : d = 13
              · clear e3 h3
                clear e2 h2
                clear e1 h1
                clear e0 h0
                have hdn : (d.toNat : Int) = 13 := by subst h4; rfl
                rw [hdn] at hix
                clear hdn hd0 hd1
                have HEB : Hid (escB d = [38, 35, 49, 51, 59]) := Lib.hid (by subst h4; rfl)
                have hsp : (Op.stringOp .add ⟨E.toArray⟩ ⟨#[38, 35]⟩).run Tryz.prog w = .ok (.string ⟨(E ++ [38, 35]).toArray⟩) w := run_sop (w := w) E [38, 35] (by have := HLE.out; simp; omega)
                have hsp2 : (Op.stringOp .add ⟨(E ++ [38, 35]).toArray⟩ ⟨#[49, 51]⟩).run Tryz.prog w = .ok (.string ⟨(E ++ [38, 35] ++ [49, 51]).toArray⟩) w := run_sop (w := w) (E ++ [38, 35]) [49, 51] (by have := HLE.out; simp; omega)
                have hsp3 : (Op.stringOp .add ⟨(E ++ [38, 35] ++ [49, 51]).toArray⟩ ⟨#[59]⟩).run Tryz.prog w = .ok (.string ⟨(E ++ [38, 35] ++ [49, 51] ++ [59]).toArray⟩) w := run_sop (w := w) (E ++ [38, 35] ++ [49, 51]) [59] (by have := HLE.out; simp; omega)
                have HN : Hid (esc (l.take (k + 1)) = E ++ [38, 35] ++ [49, 51] ++ [59]) := Lib.hid (by rw [HSN.out, HEB.out]; simp)
                generalize E ++ [38, 35] ++ [49, 51] ++ [59] = E3 at *
                generalize E ++ [38, 35] ++ [49, 51] = E2 at *
                generalize E ++ [38, 35] = E1 at *
                have hdg := refDigits_c 13 (by omega) w
                rw [show Lib.decDigits 13 = [49, 51] by decide +kernel] at hdg
                go_wp2_with fail
                refine hdg.mono ?_
                rintro e w1 ⟨rfl, rfl⟩
                clear hdg
                go_wp2
                go_round
                case rel => exact ⟨k + 1, by omega, by go_num, by rw [HN.out]⟩
                case measure => simp [intOf]; omega
              · have e4 : ((d.toNat : Int) == 13) = false := ne_byte d 13 13 rfl h4
                by_cases h5 : d = 10
                · clear e4 h4
                  clear e3 h3
                  clear e2 h2
                  clear e1 h1
                  clear e0 h0
                  have hdn : (d.toNat : Int) = 10 := by subst h5; rfl
                  rw [hdn] at hix
                  clear hdn hd0 hd1
                  have HEB : Hid (escB d = [38, 35, 49, 48, 59]) := Lib.hid (by subst h5; rfl)
                  have hsp : (Op.stringOp .add ⟨E.toArray⟩ ⟨#[38, 35]⟩).run Tryz.prog w = .ok (.string ⟨(E ++ [38, 35]).toArray⟩) w := run_sop (w := w) E [38, 35] (by have := HLE.out; simp; omega)
                  have hsp2 : (Op.stringOp .add ⟨(E ++ [38, 35]).toArray⟩ ⟨#[49, 48]⟩).run Tryz.prog w = .ok (.string ⟨(E ++ [38, 35] ++ [49, 48]).toArray⟩) w := run_sop (w := w) (E ++ [38, 35]) [49, 48] (by have := HLE.out; simp; omega)
                  have hsp3 : (Op.stringOp .add ⟨(E ++ [38, 35] ++ [49, 48]).toArray⟩ ⟨#[59]⟩).run Tryz.prog w = .ok (.string ⟨(E ++ [38, 35] ++ [49, 48] ++ [59]).toArray⟩) w := run_sop (w := w) (E ++ [38, 35] ++ [49, 48]) [59] (by have := HLE.out; simp; omega)
                  have HN : Hid (esc (l.take (k + 1)) = E ++ [38, 35] ++ [49, 48] ++ [59]) := Lib.hid (by rw [HSN.out, HEB.out]; simp)
                  generalize E ++ [38, 35] ++ [49, 48] ++ [59] = E3 at *
                  generalize E ++ [38, 35] ++ [49, 48] = E2 at *
                  generalize E ++ [38, 35] = E1 at *
                  have hdg := refDigits_c 10 (by omega) w
                  rw [show Lib.decDigits 10 = [49, 48] by decide +kernel] at hdg
                  go_wp2_with fail
                  refine hdg.mono ?_
                  rintro e w1 ⟨rfl, rfl⟩
                  clear hdg
                  go_wp2
                  go_round
                  case rel => exact ⟨k + 1, by omega, by go_num, by rw [HN.out]⟩
                  case measure => simp [intOf]; omega
                · have e5 : ((d.toNat : Int) == 10) = false := ne_byte d 10 10 rfl h5
                  by_cases h6 : d = 9
                  · clear e5 h5
                    clear e4 h4
                    clear e3 h3
                    clear e2 h2
                    clear e1 h1
                    clear e0 h0
                    have hdn : (d.toNat : Int) = 9 := by subst h6; rfl
                    rw [hdn] at hix
                    clear hdn hd0 hd1
                    have HEB : Hid (escB d = [38, 35, 57, 59]) := Lib.hid (by subst h6; rfl)
                    have hsp : (Op.stringOp .add ⟨E.toArray⟩ ⟨#[38, 35]⟩).run Tryz.prog w = .ok (.string ⟨(E ++ [38, 35]).toArray⟩) w := run_sop (w := w) E [38, 35] (by have := HLE.out; simp; omega)
                    have hsp2 : (Op.stringOp .add ⟨(E ++ [38, 35]).toArray⟩ ⟨#[57]⟩).run Tryz.prog w = .ok (.string ⟨(E ++ [38, 35] ++ [57]).toArray⟩) w := run_sop (w := w) (E ++ [38, 35]) [57] (by have := HLE.out; simp; omega)
                    have hsp3 : (Op.stringOp .add ⟨(E ++ [38, 35] ++ [57]).toArray⟩ ⟨#[59]⟩).run Tryz.prog w = .ok (.string ⟨(E ++ [38, 35] ++ [57] ++ [59]).toArray⟩) w := run_sop (w := w) (E ++ [38, 35] ++ [57]) [59] (by have := HLE.out; simp; omega)
                    have HN : Hid (esc (l.take (k + 1)) = E ++ [38, 35] ++ [57] ++ [59]) := Lib.hid (by rw [HSN.out, HEB.out]; simp)
                    generalize E ++ [38, 35] ++ [57] ++ [59] = E3 at *
                    generalize E ++ [38, 35] ++ [57] = E2 at *
                    generalize E ++ [38, 35] = E1 at *
                    have hdg := refDigits_c 9 (by omega) w
                    rw [show Lib.decDigits 9 = [57] by decide +kernel] at hdg
                    go_wp2_with fail
                    refine hdg.mono ?_
                    rintro e w1 ⟨rfl, rfl⟩
                    clear hdg
                    go_wp2
                    go_round
                    case rel => exact ⟨k + 1, by omega, by go_num, by rw [HN.out]⟩
                    case measure => simp [intOf]; omega
                  · have e6 : ((d.toNat : Int) == 9) = false := ne_byte d 9 9 rfl h6
                    have HEB : Hid (escB d = [d]) := Lib.hid (by unfold escB; simp [h0, h1, h2, h3, h4, h5, h6])
                    have hsp : (Op.stringOp .add ⟨E.toArray⟩ ⟨#[d]⟩).run Tryz.prog w = .ok (.string ⟨(E ++ [d]).toArray⟩) w := run_sop (w := w) E [d] (by have := HLE.out; simp; omega)
                    have HN : Hid (esc (l.take (k + 1)) = E ++ [d]) := Lib.hid (by rw [HSN.out, HEB.out])
                    generalize E ++ [d] = E' at *
                    clear h0 h1 h2 h3 h4 h5 h6
                    go_wp2
                    go_round
                    case rel => exact ⟨k + 1, by omega, by go_num, by rw [HN.out]⟩
                    case measure => simp [intOf]; omega
    · obtain rfl : k = l.length := by omega
      have HT : Hid (l.take l.length = l) := Lib.hid (List.take_length)
      go_wp2
      go_ret
      exact ⟨rfl, rfl⟩
end Go.Proofs.YtfemfgkcgboopaaGreatDoor
