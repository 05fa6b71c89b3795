/- misc.PutPi. -/
import Derived.Test.YteighjiocgdgaaaDoorRows
import Derived.WalkKit
import Derived.ProofKit
import Derived.OpenShut
import Derived.ShutString
import Derived.ChangeOld
import Derived.Below
import Derived.BigQuiet
import Derived.Deep.QuietTactic
import Derived.Lib.Hide
import Derived.Deep.RegionHeld3
import Derived.Lib.SlBytesConst
import Derived.Laws.CopyOwn
import Derived.Laws.CopyRow
import Derived.Lib.Bytes
import Derived.Deep.LoopGhost
import Derived.Deep.DeepFit
import Derived.Deep.DeepMust
import Derived.WalkSpells
import Derived.WalkLawsBesides
import Derived.Test.YteighjiocgdgaaaDoorBase
import Derived.Test.YteighjiocgdgaaaDoorShelf
import Derived.Test.YteighjiocgdgaaaDoorCharPlain
import Derived.Test.YteighjiocgdgaaaDoorUtf1
import Derived.Test.YteighjiocgdgaaaDoorUtf2
import Derived.Test.YteighjiocgdgaaaDoorUtf3
import Derived.Test.YteighjiocgdgaaaDoorChars1
import Derived.Test.YteighjiocgdgaaaDoorName1
import Derived.Test.YteighjiocgdgaaaDoorName2
import Derived.Test.YteighjiocgdgaaaDoorName3
import Derived.Test.YteighjiocgdgaaaDoorNameA
import Derived.Test.YteighjiocgdgaaaDoorPub
import Derived.Test.YteighjiocgdgaaaDoorBlank
import Derived.Test.YteighjiocgdgaaaDoorStr
import Derived.Test.YteighjiocgdgaaaDoorLibB
import Derived.Test.YteighjiocgdgaaaDoorMiscP
import Derived.Test.YteighjiocgdgaaaDoorMisc6
import Derived.Test.YteighjiocgdgaaaDoorMisc7
import Derived.Test.YteighjiocgdgaaaDoorLaw08
import Derived.Test.YteighjiocgdgaaaDoorFold
import Derived.Test.YteighjiocgdgaaaDoorMisc8
import Derived.Test.YteighjiocgdgaaaDoorLaw08b
import Derived.Test.YteighjiocgdgaaaDoorWhole
namespace Go.Proofs.YteighjiocgdgaaaDoor
open Go.ChangeShapes Go.WideShapes Go.ChangeAt Go.RowKit
set_option linter.unusedVariables false
def blankHead : List UInt8 → Bool
  | [] => false
  | c :: _ => isBl c
def dataOf : List UInt8 → List UInt8
  | [] => []
  | c :: d => 32 :: c :: d
def isPl (t : List UInt8) : Bool := wholeB (noColon isStart) (noColon isMore) t
def putPiOut (t d : List UInt8) : List UInt8 × Nat :=
  if isPl t = false ∨ resB t = true ∨ Lib.contains d [63, 62] = true ∨ blankHead d = true then ([], 7) else if 1024 < t.length then ([], 11) else ([60, 63] ++ t ++ dataOf d ++ [63, 62], 0)
theorem putPi_bad (t d : List UInt8) (h : isPl t = false ∨ resB t = true ∨ Lib.contains d [63, 62] = true ∨ blankHead d = true) : putPiOut t d = ([], 7) := by unfold putPiOut; rw [if_pos h]
theorem putPi_long (t d : List UInt8) (h1 : isPl t = true) (h2 : resB t = false) (h3 : Lib.contains d [63, 62] = false) (h4 : blankHead d = false) (h : 1024 < t.length) : putPiOut t d = ([], 11) := by
  unfold putPiOut
  rw [if_neg (by simp [h1, h2, h3, h4]), if_pos h]
theorem putPi_ok (t d : List UInt8) (h1 : isPl t = true) (h2 : resB t = false) (h3 : Lib.contains d [63, 62] = false) (h4 : blankHead d = false) (h : ¬ 1024 < t.length) : putPiOut t d = ([60, 63] ++ t ++ dataOf d ++ [63, 62], 0) := by
  unfold putPiOut
  rw [if_neg (by simp [h1, h2, h3, h4]), if_neg h]
def out2V (o : List UInt8 × Nat) : Value := .tuple #[.string ⟨o.1.toArray⟩, .int .i64 (o.2 : Int)]
set_option maxRecDepth 100000 in
set_option maxHeartbeats 4000000 in
theorem putPi_c (t d : List UInt8) (w : World) (hW : W8F w) (ht : t.length ≤ 5000) (hd : d.length ≤ 5000) :
    Calls Tryd.prog 45 #[.string ⟨t.toArray⟩, .string ⟨d.toArray⟩] w fun e w' => e = .returned (out2V (putPiOut t d)) ∧ Below w.heap.size w w' := by
  have C1 : Hid (Calls Tryd.prog 88 #[.string ⟨t.toArray⟩] w fun e w' => e = .returned (.bool (isPl t)) ∧ Below w.heap.size w w') := Lib.hid (isPlain_c t w hW.forms hW.tabs (by omega))
  have C2 : Hid (∀ W, Below w.heap.size w W → Calls Tryd.prog 47 #[.string ⟨t.toArray⟩] W fun e w' => e = .returned (.bool (resB t)) ∧ Below W.heap.size W w') := Lib.hid fun W hb => miscReserved_c t W (hW.below hb).fold
  have C3 : Hid (∀ W, Below w.heap.size w W → Calls Tryd.prog 89 #[.string ⟨d.toArray⟩, .string ⟨#[63, 62]⟩] W fun e w' => e = .returned (.bool (Lib.contains d [63, 62])) ∧ W = w') := Lib.hid fun W hb => contains_c d [63, 62] W (hW.below hb).maxl (by omega)
  clear hW
  by_cases h1 : isPl t = false
  · rw [putPi_bad t d (.inl h1)]
    rw [h1] at C1
    clear h1 C2 C3
    go_enter Tryd.func45, Tryd.ntmps45
    go_wp2_with fail
    refine (C1.out).mono ?_
    rintro e w1 ⟨rfl, hb⟩
    have B1 := Lib.hid hb
    clear hb
    go_wp2
    go_ret2
    exact ⟨rfl, B1.out⟩
  · have h1' : isPl t = true := by simpa using h1
    rw [h1'] at C1
    by_cases h2 : resB t = true
    · rw [putPi_bad t d (.inr (.inl h2))]
      rw [h2] at C2
      clear h1 h1' h2 C3
      go_enter Tryd.func45, Tryd.ntmps45
      go_wp2_with fail
      refine (C1.out).mono ?_
      rintro e w1 ⟨rfl, hb⟩
      have B1 := Lib.hid hb
      clear hb
      go_wp2_with fail
      refine (C2.out _ B1.out).mono ?_
      rintro e w2 ⟨rfl, hb⟩
      have B2 := Lib.hid (B1.out.trans (hb.mono B1.out.size))
      clear hb
      go_wp2
      go_ret2
      exact ⟨rfl, B2.out⟩
    · have h2' := bfalse h2
      rw [h2'] at C2
      by_cases h3 : Lib.contains d [63, 62] = true
      · rw [putPi_bad t d (.inr (.inr (.inl h3)))]
        rw [h3] at C3
        clear h1 h1' h2 h2' h3
        go_enter Tryd.func45, Tryd.ntmps45
        go_wp2_with fail
        refine (C1.out).mono ?_
        rintro e w1 ⟨rfl, hb⟩
        have B1 := Lib.hid hb
        clear hb
        go_wp2_with fail
        refine (C2.out _ B1.out).mono ?_
        rintro e w2 ⟨rfl, hb⟩
        have B2 := Lib.hid (B1.out.trans (hb.mono B1.out.size))
        clear hb
        go_wp2_with fail
        refine (C3.out _ B2.out).mono ?_
        rintro e wq ⟨rfl, rfl⟩
        go_wp2
        go_ret2
        exact ⟨rfl, B2.out⟩
      · have h3' := bfalse h3
        rw [h3'] at C3
        have ct1 : ∀ W, (Op.stringOp .add ⟨#[60, 63]⟩ ⟨t.toArray⟩).run Tryd.prog W = .ok (.string ⟨([60, 63] ++ t).toArray⟩) W := fun W => run_sop (w := W) [60, 63] t (by simp; omega)
        cases d with
        | nil =>
          have ct2 : ∀ W, (Op.stringOp .add ⟨([60, 63] ++ t).toArray⟩ ⟨#[]⟩).run Tryd.prog W = .ok (.string ⟨([60, 63] ++ t ++ []).toArray⟩) W := fun W => run_sop (w := W) ([60, 63] ++ t) [] (by simp; omega)
          have ct3 : ∀ W, (Op.stringOp .add ⟨([60, 63] ++ t ++ []).toArray⟩ ⟨#[63, 62]⟩).run Tryd.prog W = .ok (.string ⟨([60, 63] ++ t ++ [] ++ [63, 62]).toArray⟩) W := fun W => run_sop (w := W) ([60, 63] ++ t ++ []) [63, 62] (by simp; omega)
          by_cases hl : 1024 < t.length
          · rw [putPi_long t [] h1' h2' h3' rfl hl]
            have hl' : (1024 : Int) < (t.length : Int) := by omega
            clear h1 h1' h2 h2' h3 h3' hl
            go_enter Tryd.func45, Tryd.ntmps45
            go_wp2_with fail
            refine (C1.out).mono ?_
            rintro e w1 ⟨rfl, hb⟩
            have B1 := Lib.hid hb
            clear hb
            go_wp2_with fail
            refine (C2.out _ B1.out).mono ?_
            rintro e w2 ⟨rfl, hb⟩
            have B2 := Lib.hid (B1.out.trans (hb.mono B1.out.size))
            clear hb
            go_wp2_with fail
            refine (C3.out _ B2.out).mono ?_
            rintro e wq ⟨rfl, rfl⟩
            go_wp2
            go_ret2
            exact ⟨rfl, B2.out⟩
          · rw [putPi_ok t [] h1' h2' h3' rfl hl]
            have hl' : ¬ (1024 : Int) < (t.length : Int) := by omega
            clear h1 h1' h2 h2' h3 h3' hl
            unfold dataOf out2V
            generalize [60, 63] ++ t ++ [] ++ [63, 62] = r3 at *
            generalize [60, 63] ++ t ++ [] = r2 at *
            generalize [60, 63] ++ t = r1 at *
            go_enter Tryd.func45, Tryd.ntmps45
            go_wp2_with fail
            refine (C1.out).mono ?_
            rintro e w1 ⟨rfl, hb⟩
            have B1 := Lib.hid hb
            clear hb
            go_wp2_with fail
            refine (C2.out _ B1.out).mono ?_
            rintro e w2 ⟨rfl, hb⟩
            have B2 := Lib.hid (B1.out.trans (hb.mono B1.out.size))
            clear hb
            go_wp2_with fail
            refine (C3.out _ B2.out).mono ?_
            rintro e wq ⟨rfl, rfl⟩
            go_wp2
            go_ret2
            exact ⟨rfl, B2.out⟩
        | cons c d =>
          have hix : ∀ W, (Instr.index 9 (.string ⟨(c :: d).toArray⟩) (.int .i64 0)).run Tryd.prog W = .ok (.int .u8 (c.toNat : Int)) W := fun W => run_strIndex (c :: d) 0 (by simp) W
          have CB : Hid (∀ W, Calls Tryd.prog 79 #[.int .i64 (c.toNat : Int)] W fun e w' => e = .returned (.bool (isBl c)) ∧ W = w') := Lib.hid fun W => blank_c _ W
          have c0 : (0 : Int) ≤ (c.toNat : Int) := by omega
          have c1 : (c.toNat : Int) ≤ 255 := by have := c.toNat_lt; omega
          have ct0 : ∀ W, (Op.stringOp .add ⟨#[32]⟩ ⟨(c :: d).toArray⟩).run Tryd.prog W = .ok (.string ⟨(32 :: c :: d).toArray⟩) W := fun W => run_sop (w := W) [32] (c :: d) (by simp at hd ⊢; omega)
          have ct2 : ∀ W, (Op.stringOp .add ⟨([60, 63] ++ t).toArray⟩ ⟨(32 :: c :: d).toArray⟩).run Tryd.prog W = .ok (.string ⟨([60, 63] ++ t ++ 32 :: c :: d).toArray⟩) W := fun W => run_sop (w := W) ([60, 63] ++ t) (32 :: c :: d) (by simp at hd ⊢; omega)
          have ct3 : ∀ W, (Op.stringOp .add ⟨([60, 63] ++ t ++ 32 :: c :: d).toArray⟩ ⟨#[63, 62]⟩).run Tryd.prog W = .ok (.string ⟨([60, 63] ++ t ++ 32 :: c :: d ++ [63, 62]).toArray⟩) W := fun W => run_sop (w := W) ([60, 63] ++ t ++ 32 :: c :: d) [63, 62] (by simp at hd ⊢; omega)
          have hne : (c :: d).isEmpty = false := rfl
          have hl1 : 0 < (c :: d).length := by simp
          cases hbl : isBl c with
          | true =>
            rw [putPi_bad t (c :: d) (.inr (.inr (.inr hbl)))]
            rw [hbl] at CB
            clear h1 h1' h2 h2' h3 h3' hbl ct0 ct1 ct2 ct3
            generalize hD : c :: d = D at *
            clear hD
            generalize (c.toNat : Int) = cn at *
            by_cases hl : 1024 < t.length
            · have hl' : (1024 : Int) < (t.length : Int) := by omega
              clear hl
              go_enter Tryd.func45, Tryd.ntmps45
              go_wp2_with fail
              refine (C1.out).mono ?_
              rintro e w1 ⟨rfl, hb⟩
              have B1 := Lib.hid hb
              clear hb
              go_wp2_with fail
              refine (C2.out _ B1.out).mono ?_
              rintro e w2 ⟨rfl, hb⟩
              have B2 := Lib.hid (B1.out.trans (hb.mono B1.out.size))
              clear hb
              go_wp2_with fail
              refine (C3.out _ B2.out).mono ?_
              rintro e wq ⟨rfl, rfl⟩
              go_wp2_with fail
              refine (CB.out _).mono ?_
              rintro e wq ⟨rfl, rfl⟩
              go_wp2
              go_ret2
              exact ⟨rfl, B2.out⟩
            · have hl' : ¬ (1024 : Int) < (t.length : Int) := by omega
              clear hl
              go_enter Tryd.func45, Tryd.ntmps45
              go_wp2_with fail
              refine (C1.out).mono ?_
              rintro e w1 ⟨rfl, hb⟩
              have B1 := Lib.hid hb
              clear hb
              go_wp2_with fail
              refine (C2.out _ B1.out).mono ?_
              rintro e w2 ⟨rfl, hb⟩
              have B2 := Lib.hid (B1.out.trans (hb.mono B1.out.size))
              clear hb
              go_wp2_with fail
              refine (C3.out _ B2.out).mono ?_
              rintro e wq ⟨rfl, rfl⟩
              go_wp2_with fail
              refine (CB.out _).mono ?_
              rintro e wq ⟨rfl, rfl⟩
              go_wp2_with fail
              refine (CB.out _).mono ?_
              rintro e wq ⟨rfl, rfl⟩
              go_wp2
              go_ret2
              exact ⟨rfl, B2.out⟩
          | false =>
            rw [hbl] at CB
            by_cases hl : 1024 < t.length
            · rw [putPi_long t (c :: d) h1' h2' h3' hbl hl]
              have hl' : (1024 : Int) < (t.length : Int) := by omega
              clear h1 h1' h2 h2' h3 h3' hbl ct0 ct1 ct2 ct3 hl
              generalize hD : c :: d = D at *
              clear hD
              generalize (c.toNat : Int) = cn at *
              go_enter Tryd.func45, Tryd.ntmps45
              go_wp2_with fail
              refine (C1.out).mono ?_
              rintro e w1 ⟨rfl, hb⟩
              have B1 := Lib.hid hb
              clear hb
              go_wp2_with fail
              refine (C2.out _ B1.out).mono ?_
              rintro e w2 ⟨rfl, hb⟩
              have B2 := Lib.hid (B1.out.trans (hb.mono B1.out.size))
              clear hb
              go_wp2_with fail
              refine (C3.out _ B2.out).mono ?_
              rintro e wq ⟨rfl, rfl⟩
              go_wp2_with fail
              refine (CB.out _).mono ?_
              rintro e wq ⟨rfl, rfl⟩
              go_wp2
              go_ret2
              exact ⟨rfl, B2.out⟩
            · rw [putPi_ok t (c :: d) h1' h2' h3' hbl hl]
              have hl' : ¬ (1024 : Int) < (t.length : Int) := by omega
              clear h1 h1' h2 h2' h3 h3' hbl hl
              unfold dataOf out2V
              generalize [60, 63] ++ t ++ 32 :: c :: d ++ [63, 62] = r3 at *
              generalize [60, 63] ++ t ++ 32 :: c :: d = r2 at *
              generalize [60, 63] ++ t = r1 at *
              generalize hE : 32 :: c :: d = E at *
              generalize hD : c :: d = D at *
              clear hD hE
              generalize (c.toNat : Int) = cn at *
              go_enter Tryd.func45, Tryd.ntmps45
              go_wp2_with fail
              refine (C1.out).mono ?_
              rintro e w1 ⟨rfl, hb⟩
              have B1 := Lib.hid hb
              clear hb
              go_wp2_with fail
              refine (C2.out _ B1.out).mono ?_
              rintro e w2 ⟨rfl, hb⟩
              have B2 := Lib.hid (B1.out.trans (hb.mono B1.out.size))
              clear hb
              go_wp2_with fail
              refine (C3.out _ B2.out).mono ?_
              rintro e wq ⟨rfl, rfl⟩
              go_wp2_with fail
              refine (CB.out _).mono ?_
              rintro e wq ⟨rfl, rfl⟩
              go_wp2
              go_ret2
              exact ⟨rfl, B2.out⟩
end Go.Proofs.YteighjiocgdgaaaDoor
