/- Texts of ours, joined: Misc8, Law08b, PutPi. -/
import Derived.Test.YtocbofeanfdggaaDoorRows
import Derived.WalkKit
import Derived.ProofKit
import Derived.OpenShut
import Derived.ShutString
import Derived.ChangeOld
import Derived.Below
import Derived.BigQuiet
import Derived.Deep.QuietTactic
import Derived.Lib.Hide
import Derived.Deep.RegionHeld3
import Derived.Lib.SlBytesConst
import Derived.Laws.CopyOwn
import Derived.Laws.CopyRow
import Derived.Lib.Bytes
import Derived.Deep.LoopGhost
import Derived.Deep.DeepFit
import Derived.Deep.DeepMust
import Derived.WalkSpells
import Derived.WalkLawsBesides
import Derived.Lib.Fold
import Derived.Test.YtocbofeanfdggaaDoorQ15
import Derived.Test.YtocbofeanfdggaaDoorQ2
import Derived.Test.YtocbofeanfdggaaDoorQ1
import Derived.Test.YtocbofeanfdggaaDoorQ3
import Derived.Test.YtocbofeanfdggaaDoorQ4
import Derived.Test.YtocbofeanfdggaaDoorQ5
import Derived.Test.YtocbofeanfdggaaDoorQ6
import Derived.Test.YtocbofeanfdggaaDoorQ12
import Derived.Test.YtocbofeanfdggaaDoorQ13
import Derived.Test.YtocbofeanfdggaaDoorQ14
/- Reserved names. -/
namespace Go.Proofs.YtocbofeanfdggaaDoor
open Go.ChangeShapes Go.WideShapes Go.ChangeAt Go.RowKit
set_option linter.unusedVariables false
theorem resB_len (s : List UInt8) (h : s.length ≠ 3) : resB s = false := by
  unfold resB
  match s, h with
  | [], _ => rfl
  | [_], _ => simp [Lib.equalFold]
  | [_, _], _ => simp [Lib.equalFold]
  | [_, _, _], h => simp at h
  | _ :: _ :: _ :: _ :: _, _ => simp [Lib.equalFold]
theorem resB_three (a b c : UInt8) : resB [a, b, c] = (Lib.foldEq a 120 && (Lib.foldEq b 109 && Lib.foldEq c 108)) := by
  unfold resB
  simp [Lib.equalFold]
theorem fold_not (a u v : UInt8) (hu : 97 ≤ u.toNat) (hv : v.toNat + 32 = u.toNat) (h1 : ¬ a = u) (h2 : ¬ a = v) : Lib.foldEq a u = false := by
  unfold Lib.foldEq
  have n1 : ¬ a.toNat = u.toNat := fun e => h1 (UInt8.toNat_inj.1 e)
  have n2 : ¬ a.toNat = v.toNat := fun e => h2 (UInt8.toNat_inj.1 e)
  exact decide_eq_false (by omega)
set_option maxRecDepth 100000 in
set_option maxHeartbeats 4000000 in
theorem refReserved_len (s : List UInt8) (w : World) (hs : s.length ≠ 3) : Calls Tryd.prog 72 #[.string ⟨s.toArray⟩] w fun e w' => e = .returned (.bool (resB s)) ∧ w = w' := by
  rw [resB_len s hs]
  have hl : ((s.length : Int) != 3) = true := by simp; omega
  go_enter Tryd.func72, Tryd.ntmps72
  go_wp2
  go_ret
  exact ⟨rfl, rfl⟩
set_option maxRecDepth 100000 in
set_option maxHeartbeats 4000000 in
theorem refReserved_three (a b c : UInt8) (w : World) : Calls Tryd.prog 72 #[.string ⟨[a, b, c].toArray⟩] w fun e w' => e = .returned (.bool (resB [a, b, c])) ∧ w = w' := by
  rw [resB_three]
  have i0 : (Instr.index 9 (.string ⟨[a, b, c].toArray⟩) (.int .i64 0)).run Tryd.prog w = .ok (.int .u8 (a.toNat : Int)) w := run_strIndex [a, b, c] 0 (by simp) w
  have i1 : (Instr.index 9 (.string ⟨[a, b, c].toArray⟩) (.int .i64 1)).run Tryd.prog w = .ok (.int .u8 (b.toNat : Int)) w := run_strIndex [a, b, c] 1 (by simp) w
  have i2 : (Instr.index 9 (.string ⟨[a, b, c].toArray⟩) (.int .i64 2)).run Tryd.prog w = .ok (.int .u8 (c.toNat : Int)) w := run_strIndex [a, b, c] 2 (by simp) w
  have hsz : (⟨[a, b, c].toArray⟩ : ByteArray).size = 3 := rfl
  generalize (⟨[a, b, c].toArray⟩ : ByteArray) = S at *
  by_cases ha1 : a = 120
  · subst ha1
    have ea : Lib.foldEq 120 120 = true := by decide
    have ta : (UInt8.toNat 120 : Int) = 120 := rfl
    rw [ta] at i0
    by_cases hb1 : b = 109
    · subst hb1
      have eb : Lib.foldEq 109 109 = true := by decide
      have tb : (UInt8.toNat 109 : Int) = 109 := rfl
      rw [tb] at i1
      by_cases hc1 : c = 108
      · subst hc1
        have ec : Lib.foldEq 108 108 = true := by decide
        have tc : (UInt8.toNat 108 : Int) = 108 := rfl
        rw [tc] at i2
        rw [ea, eb, ec]
        clear ea ta eb tb ec tc
        go_enter Tryd.func72, Tryd.ntmps72
        go_wp2
        go_ret
        exact ⟨rfl, rfl⟩
      · by_cases hc2 : c = 76
        · subst hc2
          have ec : Lib.foldEq 76 108 = true := by decide
          have tc : (UInt8.toNat 76 : Int) = 76 := rfl
          rw [tc] at i2
          rw [ea, eb, ec]
          clear ea ta eb tb ec tc hc1
          go_enter Tryd.func72, Tryd.ntmps72
          go_wp2
          go_ret
          exact ⟨rfl, rfl⟩
        · have ec : Lib.foldEq c 108 = false := fold_not c 108 76 (by decide) (by decide) hc1 hc2
          have nc : ((c.toNat : Int) == 108) = false := ne_byte c 108 108 rfl hc1
          have mc : ((c.toNat : Int) == 76) = false := ne_byte c 76 76 rfl hc2
          rw [ea, eb, ec]
          clear ea ta eb tb ec hc1 hc2
          go_enter Tryd.func72, Tryd.ntmps72
          go_wp2
          go_ret
          exact ⟨rfl, rfl⟩
    · by_cases hb2 : b = 77
      · subst hb2
        have eb : Lib.foldEq 77 109 = true := by decide
        have tb : (UInt8.toNat 77 : Int) = 77 := rfl
        rw [tb] at i1
        by_cases hc1 : c = 108
        · subst hc1
          have ec : Lib.foldEq 108 108 = true := by decide
          have tc : (UInt8.toNat 108 : Int) = 108 := rfl
          rw [tc] at i2
          rw [ea, eb, ec]
          clear ea ta eb tb hb1 ec tc
          go_enter Tryd.func72, Tryd.ntmps72
          go_wp2
          go_ret
          exact ⟨rfl, rfl⟩
        · by_cases hc2 : c = 76
          · subst hc2
            have ec : Lib.foldEq 76 108 = true := by decide
            have tc : (UInt8.toNat 76 : Int) = 76 := rfl
            rw [tc] at i2
            rw [ea, eb, ec]
            clear ea ta eb tb hb1 ec tc hc1
            go_enter Tryd.func72, Tryd.ntmps72
            go_wp2
            go_ret
            exact ⟨rfl, rfl⟩
          · have ec : Lib.foldEq c 108 = false := fold_not c 108 76 (by decide) (by decide) hc1 hc2
            have nc : ((c.toNat : Int) == 108) = false := ne_byte c 108 108 rfl hc1
            have mc : ((c.toNat : Int) == 76) = false := ne_byte c 76 76 rfl hc2
            rw [ea, eb, ec]
            clear ea ta eb tb hb1 ec hc1 hc2
            go_enter Tryd.func72, Tryd.ntmps72
            go_wp2
            go_ret
            exact ⟨rfl, rfl⟩
      · have eb : Lib.foldEq b 109 = false := fold_not b 109 77 (by decide) (by decide) hb1 hb2
        have nb : ((b.toNat : Int) == 109) = false := ne_byte b 109 109 rfl hb1
        have mb : ((b.toNat : Int) == 77) = false := ne_byte b 77 77 rfl hb2
        rw [ea, eb]
        clear ea ta eb hb1 hb2
        go_enter Tryd.func72, Tryd.ntmps72
        go_wp2
        go_ret
        exact ⟨rfl, rfl⟩
  · by_cases ha2 : a = 88
    · subst ha2
      have ea : Lib.foldEq 88 120 = true := by decide
      have ta : (UInt8.toNat 88 : Int) = 88 := rfl
      rw [ta] at i0
      by_cases hb1 : b = 109
      · subst hb1
        have eb : Lib.foldEq 109 109 = true := by decide
        have tb : (UInt8.toNat 109 : Int) = 109 := rfl
        rw [tb] at i1
        by_cases hc1 : c = 108
        · subst hc1
          have ec : Lib.foldEq 108 108 = true := by decide
          have tc : (UInt8.toNat 108 : Int) = 108 := rfl
          rw [tc] at i2
          rw [ea, eb, ec]
          clear ea ta ha1 eb tb ec tc
          go_enter Tryd.func72, Tryd.ntmps72
          go_wp2
          go_ret
          exact ⟨rfl, rfl⟩
        · by_cases hc2 : c = 76
          · subst hc2
            have ec : Lib.foldEq 76 108 = true := by decide
            have tc : (UInt8.toNat 76 : Int) = 76 := rfl
            rw [tc] at i2
            rw [ea, eb, ec]
            clear ea ta ha1 eb tb ec tc hc1
            go_enter Tryd.func72, Tryd.ntmps72
            go_wp2
            go_ret
            exact ⟨rfl, rfl⟩
          · have ec : Lib.foldEq c 108 = false := fold_not c 108 76 (by decide) (by decide) hc1 hc2
            have nc : ((c.toNat : Int) == 108) = false := ne_byte c 108 108 rfl hc1
            have mc : ((c.toNat : Int) == 76) = false := ne_byte c 76 76 rfl hc2
            rw [ea, eb, ec]
            clear ea ta ha1 eb tb ec hc1 hc2
            go_enter Tryd.func72, Tryd.ntmps72
            go_wp2
            go_ret
            exact ⟨rfl, rfl⟩
      · by_cases hb2 : b = 77
        · subst hb2
          have eb : Lib.foldEq 77 109 = true := by decide
          have tb : (UInt8.toNat 77 : Int) = 77 := rfl
          rw [tb] at i1
          by_cases hc1 : c = 108
          · subst hc1
            have ec : Lib.foldEq 108 108 = true := by decide
            have tc : (UInt8.toNat 108 : Int) = 108 := rfl
            rw [tc] at i2
            rw [ea, eb, ec]
            clear ea ta ha1 eb tb hb1 ec tc
            go_enter Tryd.func72, Tryd.ntmps72
            go_wp2
            go_ret
            exact ⟨rfl, rfl⟩
          · by_cases hc2 : c = 76
            · subst hc2
              have ec : Lib.foldEq 76 108 = true := by decide
              have tc : (UInt8.toNat 76 : Int) = 76 := rfl
              rw [tc] at i2
              rw [ea, eb, ec]
              clear ea ta ha1 eb tb hb1 ec tc hc1
              go_enter Tryd.func72, Tryd.ntmps72
              go_wp2
              go_ret
              exact ⟨rfl, rfl⟩
            · have ec : Lib.foldEq c 108 = false := fold_not c 108 76 (by decide) (by decide) hc1 hc2
              have nc : ((c.toNat : Int) == 108) = false := ne_byte c 108 108 rfl hc1
              have mc : ((c.toNat : Int) == 76) = false := ne_byte c 76 76 rfl hc2
              rw [ea, eb, ec]
              clear ea ta ha1 eb tb hb1 ec hc1 hc2
              go_enter Tryd.func72, Tryd.ntmps72
              go_wp2
              go_ret
              exact ⟨rfl, rfl⟩
        · have eb : Lib.foldEq b 109 = false := fold_not b 109 77 (by decide) (by decide) hb1 hb2
          have nb : ((b.toNat : Int) == 109) = false := ne_byte b 109 109 rfl hb1
          have mb : ((b.toNat : Int) == 77) = false := ne_byte b 77 77 rfl hb2
          rw [ea, eb]
          clear ea ta ha1 eb hb1 hb2
          go_enter Tryd.func72, Tryd.ntmps72
          go_wp2
          go_ret
          exact ⟨rfl, rfl⟩
    · have ea : Lib.foldEq a 120 = false := fold_not a 120 88 (by decide) (by decide) ha1 ha2
      have na : ((a.toNat : Int) == 120) = false := ne_byte a 120 120 rfl ha1
      have ma : ((a.toNat : Int) == 88) = false := ne_byte a 88 88 rfl ha2
      rw [ea]
      clear ea ha1 ha2
      go_enter Tryd.func72, Tryd.ntmps72
      go_wp2
      go_ret
      exact ⟨rfl, rfl⟩
theorem refReserved_c (s : List UInt8) (w : World) : Calls Tryd.prog 72 #[.string ⟨s.toArray⟩] w fun e w' => e = .returned (.bool (resB s)) ∧ w = w' := by
  by_cases h : s.length = 3
  · match s, h with
    | [a, b, c], _ => exact refReserved_three a b c w
  · exact refReserved_len s w h
set_option maxRecDepth 100000 in
set_option maxHeartbeats 4000000 in
theorem miscReserved_c (s : List UInt8) (w : World) (hT : FoldT w) : Calls Tryd.prog 86 #[.string ⟨s.toArray⟩] w fun e w' => e = .returned (.bool (resB s)) ∧ Below w.heap.size w w' := by
  by_cases h : s.length = 3
  · have C1 := Lib.hid (equalFold_c s [120, 109, 108] w (by simp [h]) (by omega) xmlFold hT)
    have hl : ((s.length : Int) == 3) = true := by simp; omega
    unfold resB
    clear h hT
    generalize Lib.equalFold s [120, 109, 108] = r at *
    go_enter Tryd.func86, Tryd.ntmps86
    go_wp2_with fail
    refine (C1.out).mono ?_
    rintro e w1 ⟨rfl, hb⟩
    have B1 := Lib.hid hb
    clear hb
    go_wp2
    go_ret
    exact ⟨rfl, B1.out⟩
  · rw [resB_len s h]
    exact (reserved_len s w h).mono fun e w' ⟨he, hw⟩ => ⟨he, hw ▸ Below.refl _ _⟩
end Go.Proofs.YtocbofeanfdggaaDoor
/- The law MiscReads. -/
namespace Go.Proofs.YtocbofeanfdggaaDoor
open Go.ChangeShapes Go.WideShapes Go.ChangeAt Go.RowKit
set_option linter.unusedVariables false
structure W8F (w : World) : Prop extends W8 w where
  fold : FoldT w
theorem W8F.below {w w' : World} (h : W8F w) (hb : Below w.heap.size w w') : W8F w' := ⟨h.toW8.below hb, h.fold.below hb h.fold.lt⟩
end Go.Proofs.YtocbofeanfdggaaDoor
/- misc.PutPi. -/
namespace Go.Proofs.YtocbofeanfdggaaDoor
open Go.ChangeShapes Go.WideShapes Go.ChangeAt Go.RowKit
set_option linter.unusedVariables false
def blankHead : List UInt8 → Bool
  | [] => false
  | c :: _ => isBl c
def dataOf : List UInt8 → List UInt8
  | [] => []
  | c :: d => 32 :: c :: d
def isPl (t : List UInt8) : Bool := wholeB (noColon isStart) (noColon isMore) t
def putPiOut (t d : List UInt8) : List UInt8 × Nat :=
  if isPl t = false ∨ resB t = true ∨ Lib.contains d [63, 62] = true ∨ blankHead d = true then ([], 7) else if 1024 < t.length then ([], 11) else ([60, 63] ++ t ++ dataOf d ++ [63, 62], 0)
theorem putPi_bad (t d : List UInt8) (h : isPl t = false ∨ resB t = true ∨ Lib.contains d [63, 62] = true ∨ blankHead d = true) : putPiOut t d = ([], 7) := by unfold putPiOut; rw [if_pos h]
theorem putPi_long (t d : List UInt8) (h1 : isPl t = true) (h2 : resB t = false) (h3 : Lib.contains d [63, 62] = false) (h4 : blankHead d = false) (h : 1024 < t.length) : putPiOut t d = ([], 11) := by
  unfold putPiOut
  rw [if_neg (by simp [h1, h2, h3, h4]), if_pos h]
theorem putPi_ok (t d : List UInt8) (h1 : isPl t = true) (h2 : resB t = false) (h3 : Lib.contains d [63, 62] = false) (h4 : blankHead d = false) (h : ¬ 1024 < t.length) : putPiOut t d = ([60, 63] ++ t ++ dataOf d ++ [63, 62], 0) := by
  unfold putPiOut
  rw [if_neg (by simp [h1, h2, h3, h4]), if_neg h]
def out2V (o : List UInt8 × Nat) : Value := .tuple #[.string ⟨o.1.toArray⟩, .int .i64 (o.2 : Int)]
set_option maxRecDepth 100000 in
set_option maxHeartbeats 4000000 in
theorem putPi_c (t d : List UInt8) (w : World) (hW : W8F w) (ht : t.length ≤ 5000) (hd : d.length ≤ 5000) :
    Calls Tryd.prog 62 #[.string ⟨t.toArray⟩, .string ⟨d.toArray⟩] w fun e w' => e = .returned (out2V (putPiOut t d)) ∧ Below w.heap.size w w' := by
  have C1 : Hid (Calls Tryd.prog 59 #[.string ⟨t.toArray⟩] w fun e w' => e = .returned (.bool (isPl t)) ∧ Below w.heap.size w w') := Lib.hid (isPlain_c t w hW.forms hW.tabs (by omega))
  have C2 : Hid (∀ W, Below w.heap.size w W → Calls Tryd.prog 86 #[.string ⟨t.toArray⟩] W fun e w' => e = .returned (.bool (resB t)) ∧ Below W.heap.size W w') := Lib.hid fun W hb => miscReserved_c t W (hW.below hb).fold
  have C3 : Hid (∀ W, Below w.heap.size w W → Calls Tryd.prog 63 #[.string ⟨d.toArray⟩, .string ⟨#[63, 62]⟩] W fun e w' => e = .returned (.bool (Lib.contains d [63, 62])) ∧ W = w') := Lib.hid fun W hb => contains_c d [63, 62] W (hW.below hb).maxl (by omega)
  clear hW
  by_cases h1 : isPl t = false
  · rw [putPi_bad t d (.inl h1)]
    rw [h1] at C1
    clear h1 C2 C3
    go_enter Tryd.func62, Tryd.ntmps62
    go_wp2_with fail
    refine (C1.out).mono ?_
    rintro e w1 ⟨rfl, hb⟩
    have B1 := Lib.hid hb
    clear hb
    go_wp2
    go_ret2
    exact ⟨rfl, B1.out⟩
  · have h1' : isPl t = true := by simpa using h1
    rw [h1'] at C1
    by_cases h2 : resB t = true
    · rw [putPi_bad t d (.inr (.inl h2))]
      rw [h2] at C2
      clear h1 h1' h2 C3
      go_enter Tryd.func62, Tryd.ntmps62
      go_wp2_with fail
      refine (C1.out).mono ?_
      rintro e w1 ⟨rfl, hb⟩
      have B1 := Lib.hid hb
      clear hb
      go_wp2_with fail
      refine (C2.out _ B1.out).mono ?_
      rintro e w2 ⟨rfl, hb⟩
      have B2 := Lib.hid (B1.out.trans (hb.mono B1.out.size))
      clear hb
      go_wp2
      go_ret2
      exact ⟨rfl, B2.out⟩
    · have h2' := bfalse h2
      rw [h2'] at C2
      by_cases h3 : Lib.contains d [63, 62] = true
      · rw [putPi_bad t d (.inr (.inr (.inl h3)))]
        rw [h3] at C3
        clear h1 h1' h2 h2' h3
        go_enter Tryd.func62, Tryd.ntmps62
        go_wp2_with fail
        refine (C1.out).mono ?_
        rintro e w1 ⟨rfl, hb⟩
        have B1 := Lib.hid hb
        clear hb
        go_wp2_with fail
        refine (C2.out _ B1.out).mono ?_
        rintro e w2 ⟨rfl, hb⟩
        have B2 := Lib.hid (B1.out.trans (hb.mono B1.out.size))
        clear hb
        go_wp2_with fail
        refine (C3.out _ B2.out).mono ?_
        rintro e wq ⟨rfl, rfl⟩
        go_wp2
        go_ret2
        exact ⟨rfl, B2.out⟩
      · have h3' := bfalse h3
        rw [h3'] at C3
        have ct1 : ∀ W, (Op.stringOp .add ⟨#[60, 63]⟩ ⟨t.toArray⟩).run Tryd.prog W = .ok (.string ⟨([60, 63] ++ t).toArray⟩) W := fun W => run_sop (w := W) [60, 63] t (by simp; omega)
        cases d with
        | nil =>
          have ct2 : ∀ W, (Op.stringOp .add ⟨([60, 63] ++ t).toArray⟩ ⟨#[]⟩).run Tryd.prog W = .ok (.string ⟨([60, 63] ++ t ++ []).toArray⟩) W := fun W => run_sop (w := W) ([60, 63] ++ t) [] (by simp; omega)
          have ct3 : ∀ W, (Op.stringOp .add ⟨([60, 63] ++ t ++ []).toArray⟩ ⟨#[63, 62]⟩).run Tryd.prog W = .ok (.string ⟨([60, 63] ++ t ++ [] ++ [63, 62]).toArray⟩) W := fun W => run_sop (w := W) ([60, 63] ++ t ++ []) [63, 62] (by simp; omega)
          by_cases hl : 1024 < t.length
          · rw [putPi_long t [] h1' h2' h3' rfl hl]
            have hl' : (1024 : Int) < (t.length : Int) := by omega
            clear h1 h1' h2 h2' h3 h3' hl
            go_enter Tryd.func62, Tryd.ntmps62
            go_wp2_with fail
            refine (C1.out).mono ?_
            rintro e w1 ⟨rfl, hb⟩
            have B1 := Lib.hid hb
            clear hb
            go_wp2_with fail
            refine (C2.out _ B1.out).mono ?_
            rintro e w2 ⟨rfl, hb⟩
            have B2 := Lib.hid (B1.out.trans (hb.mono B1.out.size))
            clear hb
            go_wp2_with fail
            refine (C3.out _ B2.out).mono ?_
            rintro e wq ⟨rfl, rfl⟩
            go_wp2
            go_ret2
            exact ⟨rfl, B2.out⟩
          · rw [putPi_ok t [] h1' h2' h3' rfl hl]
            have hl' : ¬ (1024 : Int) < (t.length : Int) := by omega
            clear h1 h1' h2 h2' h3 h3' hl
            unfold dataOf out2V
            generalize [60, 63] ++ t ++ [] ++ [63, 62] = r3 at *
            generalize [60, 63] ++ t ++ [] = r2 at *
            generalize [60, 63] ++ t = r1 at *
            go_enter Tryd.func62, Tryd.ntmps62
            go_wp2_with fail
            refine (C1.out).mono ?_
            rintro e w1 ⟨rfl, hb⟩
            have B1 := Lib.hid hb
            clear hb
            go_wp2_with fail
            refine (C2.out _ B1.out).mono ?_
            rintro e w2 ⟨rfl, hb⟩
            have B2 := Lib.hid (B1.out.trans (hb.mono B1.out.size))
            clear hb
            go_wp2_with fail
            refine (C3.out _ B2.out).mono ?_
            rintro e wq ⟨rfl, rfl⟩
            go_wp2
            go_ret2
            exact ⟨rfl, B2.out⟩
        | cons c d =>
          have hix : ∀ W, (Instr.index 9 (.string ⟨(c :: d).toArray⟩) (.int .i64 0)).run Tryd.prog W = .ok (.int .u8 (c.toNat : Int)) W := fun W => run_strIndex (c :: d) 0 (by simp) W
          have CB : Hid (∀ W, Calls Tryd.prog 87 #[.int .i64 (c.toNat : Int)] W fun e w' => e = .returned (.bool (isBl c)) ∧ W = w') := Lib.hid fun W => blank_c _ W
          have c0 : (0 : Int) ≤ (c.toNat : Int) := by omega
          have c1 : (c.toNat : Int) ≤ 255 := by have := c.toNat_lt; omega
          have ct0 : ∀ W, (Op.stringOp .add ⟨#[32]⟩ ⟨(c :: d).toArray⟩).run Tryd.prog W = .ok (.string ⟨(32 :: c :: d).toArray⟩) W := fun W => run_sop (w := W) [32] (c :: d) (by simp at hd ⊢; omega)
          have ct2 : ∀ W, (Op.stringOp .add ⟨([60, 63] ++ t).toArray⟩ ⟨(32 :: c :: d).toArray⟩).run Tryd.prog W = .ok (.string ⟨([60, 63] ++ t ++ 32 :: c :: d).toArray⟩) W := fun W => run_sop (w := W) ([60, 63] ++ t) (32 :: c :: d) (by simp at hd ⊢; omega)
          have ct3 : ∀ W, (Op.stringOp .add ⟨([60, 63] ++ t ++ 32 :: c :: d).toArray⟩ ⟨#[63, 62]⟩).run Tryd.prog W = .ok (.string ⟨([60, 63] ++ t ++ 32 :: c :: d ++ [63, 62]).toArray⟩) W := fun W => run_sop (w := W) ([60, 63] ++ t ++ 32 :: c :: d) [63, 62] (by simp at hd ⊢; omega)
          have hne : (c :: d).isEmpty = false := rfl
          have hl1 : 0 < (c :: d).length := by simp
          cases hbl : isBl c with
          | true =>
            rw [putPi_bad t (c :: d) (.inr (.inr (.inr hbl)))]
            rw [hbl] at CB
            clear h1 h1' h2 h2' h3 h3' hbl ct0 ct1 ct2 ct3
            generalize hD : c :: d = D at *
            clear hD
            generalize (c.toNat : Int) = cn at *
            by_cases hl : 1024 < t.length
            · have hl' : (1024 : Int) < (t.length : Int) := by omega
              clear hl
              go_enter Tryd.func62, Tryd.ntmps62
              go_wp2_with fail
              refine (C1.out).mono ?_
              rintro e w1 ⟨rfl, hb⟩
              have B1 := Lib.hid hb
              clear hb
              go_wp2_with fail
              refine (C2.out _ B1.out).mono ?_
              rintro e w2 ⟨rfl, hb⟩
              have B2 := Lib.hid (B1.out.trans (hb.mono B1.out.size))
              clear hb
              go_wp2_with fail
              refine (C3.out _ B2.out).mono ?_
              rintro e wq ⟨rfl, rfl⟩
              go_wp2_with fail
              refine (CB.out _).mono ?_
              rintro e wq ⟨rfl, rfl⟩
              go_wp2
              go_ret2
              exact ⟨rfl, B2.out⟩
            · have hl' : ¬ (1024 : Int) < (t.length : Int) := by omega
              clear hl
              go_enter Tryd.func62, Tryd.ntmps62
              go_wp2_with fail
              refine (C1.out).mono ?_
              rintro e w1 ⟨rfl, hb⟩
              have B1 := Lib.hid hb
              clear hb
              go_wp2_with fail
              refine (C2.out _ B1.out).mono ?_
              rintro e w2 ⟨rfl, hb⟩
              have B2 := Lib.hid (B1.out.trans (hb.mono B1.out.size))
              clear hb
              go_wp2_with fail
              refine (C3.out _ B2.out).mono ?_
              rintro e wq ⟨rfl, rfl⟩
              go_wp2_with fail
              refine (CB.out _).mono ?_
              rintro e wq ⟨rfl, rfl⟩
              go_wp2_with fail
              refine (CB.out _).mono ?_
              rintro e wq ⟨rfl, rfl⟩
              go_wp2
              go_ret2
              exact ⟨rfl, B2.out⟩
          | false =>
            rw [hbl] at CB
            by_cases hl : 1024 < t.length
            · rw [putPi_long t (c :: d) h1' h2' h3' hbl hl]
              have hl' : (1024 : Int) < (t.length : Int) := by omega
              clear h1 h1' h2 h2' h3 h3' hbl ct0 ct1 ct2 ct3 hl
              generalize hD : c :: d = D at *
              clear hD
              generalize (c.toNat : Int) = cn at *
              go_enter Tryd.func62, Tryd.ntmps62
              go_wp2_with fail
              refine (C1.out).mono ?_
              rintro e w1 ⟨rfl, hb⟩
              have B1 := Lib.hid hb
              clear hb
              go_wp2_with fail
              refine (C2.out _ B1.out).mono ?_
              rintro e w2 ⟨rfl, hb⟩
              have B2 := Lib.hid (B1.out.trans (hb.mono B1.out.size))
              clear hb
              go_wp2_with fail
              refine (C3.out _ B2.out).mono ?_
              rintro e wq ⟨rfl, rfl⟩
              go_wp2_with fail
              refine (CB.out _).mono ?_
              rintro e wq ⟨rfl, rfl⟩
              go_wp2
              go_ret2
              exact ⟨rfl, B2.out⟩
            · rw [putPi_ok t (c :: d) h1' h2' h3' hbl hl]
              have hl' : ¬ (1024 : Int) < (t.length : Int) := by omega
              clear h1 h1' h2 h2' h3 h3' hbl hl
              unfold dataOf out2V
              generalize [60, 63] ++ t ++ 32 :: c :: d ++ [63, 62] = r3 at *
              generalize [60, 63] ++ t ++ 32 :: c :: d = r2 at *
              generalize [60, 63] ++ t = r1 at *
              generalize hE : 32 :: c :: d = E at *
              generalize hD : c :: d = D at *
              clear hD hE
              generalize (c.toNat : Int) = cn at *
              go_enter Tryd.func62, Tryd.ntmps62
              go_wp2_with fail
              refine (C1.out).mono ?_
              rintro e w1 ⟨rfl, hb⟩
              have B1 := Lib.hid hb
              clear hb
              go_wp2_with fail
              refine (C2.out _ B1.out).mono ?_
              rintro e w2 ⟨rfl, hb⟩
              have B2 := Lib.hid (B1.out.trans (hb.mono B1.out.size))
              clear hb
              go_wp2_with fail
              refine (C3.out _ B2.out).mono ?_
              rintro e wq ⟨rfl, rfl⟩
              go_wp2_with fail
              refine (CB.out _).mono ?_
              rintro e wq ⟨rfl, rfl⟩
              go_wp2
              go_ret2
              exact ⟨rfl, B2.out⟩
end Go.Proofs.YtocbofeanfdggaaDoor
