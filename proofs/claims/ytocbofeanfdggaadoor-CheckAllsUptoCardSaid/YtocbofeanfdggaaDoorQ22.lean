/- Texts of ours, joined: Lit4, Lit5, RPutPi. -/
import Derived.Test.YtocbofeanfdggaaDoorRows
import Derived.WalkKit
import Derived.ProofKit
import Derived.OpenShut
import Derived.ShutString
import Derived.ChangeOld
import Derived.Below
import Derived.BigQuiet
import Derived.Deep.QuietTactic
import Derived.Lib.Hide
import Derived.Deep.RegionHeld3
import Derived.Lib.SlBytesConst
import Derived.Laws.CopyOwn
import Derived.Laws.CopyRow
import Derived.Lib.Bytes
import Derived.Deep.LoopGhost
import Derived.Deep.DeepFit
import Derived.Deep.DeepMust
import Derived.WalkSpells
import Derived.WalkLawsBesides
import Derived.Test.YtocbofeanfdggaaDoorQ2
import Derived.Test.YtocbofeanfdggaaDoorQ1
import Derived.Test.YtocbofeanfdggaaDoorQ3
import Derived.Test.YtocbofeanfdggaaDoorQ4
import Derived.Test.YtocbofeanfdggaaDoorQ5
import Derived.Test.YtocbofeanfdggaaDoorQ6
import Derived.Test.YtocbofeanfdggaaDoorQ11
import Derived.Test.YtocbofeanfdggaaDoorQ21
import Derived.Laws.EntriesVeiled
import Derived.Laws.Rows
import Derived.Test.YtocbofeanfdggaaDoorQ13
import Derived.Test.YtocbofeanfdggaaDoorQ12
import Derived.Test.YtocbofeanfdggaaDoorQ14
import Derived.Test.YtocbofeanfdggaaDoorQ15
import Derived.Test.YtocbofeanfdggaaDoorQ16
/- lit.read, Value. -/
namespace Go.Proofs.YtocbofeanfdggaaDoor
open Go.ChangeShapes Go.WideShapes Go.ChangeAt Go.RowKit
set_option linter.unusedVariables false
end Go.Proofs.YtocbofeanfdggaaDoor
/- narthexref07.Quoted, Has, Strict; lit.Entity. -/
namespace Go.Proofs.YtocbofeanfdggaaDoor
open Go.ChangeShapes Go.WideShapes Go.ChangeAt Go.RowKit
set_option linter.unusedVariables false
set_option maxRecDepth 100000 in
set_option maxHeartbeats 2000000 in
theorem has_c (l : List UInt8) (c : UInt8) (w : World) (hm : l.length ≤ 1000000) :
    Calls Tryd.prog 52 #[.string ⟨l.toArray⟩, .int .u8 c.toNat] w fun e w' => e = .returned (.bool (decide (0 ≤ Lib.indexByte l c))) ∧ w = w' := by
  have hsz : (⟨l.toArray⟩ : ByteArray).size = l.length := by simp [ByteArray.size]
  have hc0 : (0 : Int) ≤ (c.toNat : Int) := by omega
  go_enter Tryd.func52, Tryd.ntmps52
  go_wp2
  go_loopg [5] (l.length) (fun g i wr => ∃ t : Nat, t ≤ l.length ∧ Hid (g + t = l.length) ∧ i = .int .i64 (t : Int) ∧ w = wr ∧ Hid (∀ j < t, l[j]? ≠ some c))
  case atStart => exact ⟨0, Nat.zero_le _, Lib.hid rfl, rfl, rfl, Lib.hid (fun j hj => absurd hj (Nat.not_lt_zero _))⟩
  case round =>
    obtain ⟨t, ht, hg, rfl, rfl, HN⟩ := hrel
    have ht0 : (0 : Int) ≤ (t : Int) := by omega
    have htb : (t : Int) ≤ 1000000 := by omega
    by_cases htn : t < l.length
    · have htni : (t : Int) < (l.length : Int) := by omega
      have hix := run_strIndex l t htn w
      have HD : Hid (l[t]? = some (l.getD t 0)) := Lib.hid (by rw [List.getElem?_eq_getElem htn]; simp [htn])
      generalize l.getD t 0 = d at *
      by_cases hdc : d = c
      · have HE : Hid (decide (0 ≤ Lib.indexByte l c) = true) := Lib.hid (by
          rw [ix_eq c l t (by rw [HD.out, hdc]) HN.out]; simp)
        subst hdc
        go_wp2
        go_ret
        rw [HE.out]
        exact ⟨rfl, rfl⟩
      · have e1 : ((d.toNat : Int) == (c.toNat : Int)) = false := ne_byte' d c _ rfl hdc
        have HN2 : Hid (∀ j < t + 1, l[j]? ≠ some c) := Lib.hid (fun j hj => by
          rcases (show j < t ∨ j = t by omega) with h | rfl
          · exact HN.out j h
          · rw [HD.out]; simpa using hdc)
        clear hdc
        go_wp2
        go_roundg (l.length - (t + 1))
        case measure => have := hg.out; omega
        case rel => exact ⟨t + 1, by omega, Lib.hid (by omega), by go_num, rfl, HN2⟩
    · have HE : Hid (decide (0 ≤ Lib.indexByte l c) = false) := Lib.hid (by
        rw [ix_eq_none c l (fun j => by
          rcases Nat.lt_or_ge j t with h | h
          · exact HN.out j h
          · rw [List.getElem?_eq_none (by omega)]; simp)]
        simp)
      go_wp2
      go_ret
      rw [HE.out]
      exact ⟨rfl, rfl⟩
end Go.Proofs.YtocbofeanfdggaaDoor
/- narthexref08.PutPi. -/
namespace Go.Proofs.YtocbofeanfdggaaDoor
open Go.ChangeShapes Go.WideShapes Go.ChangeAt Go.RowKit
set_option linter.unusedVariables false
set_option maxRecDepth 100000 in
set_option maxHeartbeats 4000000 in
theorem refPutPi_c (t d : List UInt8) (w : World) (ht : t.length ≤ 5000) (hd : d.length ≤ 5000) :
    Calls Tryd.prog 51 #[.string ⟨t.toArray⟩, .string ⟨d.toArray⟩] w fun e w' => e = .returned (out2V (putPiOut t d)) ∧ Below w.heap.size w w' := by
  have C1 : Hid (Calls Tryd.prog 34 #[.string ⟨t.toArray⟩, .bool true] w fun e w' => e = .returned (.bool (isPl t)) ∧ Below w.heap.size w w') := Lib.hid (by
    have := refIs_c5 true t w (by omega)
    rw [okTrue, okTrue] at this
    exact this)
  have C2 : Hid (∀ W, Calls Tryd.prog 72 #[.string ⟨t.toArray⟩] W fun e w' => e = .returned (.bool (resB t)) ∧ W = w') := Lib.hid fun W => refReserved_c t W
  have C3 : Hid (∀ W, Below w.heap.size w W → Calls Tryd.prog 50 #[.slice (some ⟨W.heap.size, 0, none⟩) d.length (grownCap W d.length 0 5), .int .i64 0, .string ⟨#[63, 62]⟩] (Lib.bytesWorld W 5 ⟨d.toArray⟩) fun e w' => e = .returned (.int .i64 (findI d 0 [63, 62])) ∧ Hid (Below w.heap.size w w')) := Lib.hid fun W hb => by
    have hb1 := hb.trans ((Lib.bytesWorld_below W 5 ⟨d.toArray⟩).mono hb.size)
    have := refFind_c _ _ _ d 0 [63, 62] _ _ (byt_new W d (by omega)) (by simp) (by omega) (by simp) (by omega)
    exact this.mono fun e w' ⟨he, hw⟩ => ⟨he, Lib.hid (hw ▸ hb1)⟩
  have hcv := fun W => run_toBytes W d
  have hfc := findI_contains d [63, 62]
  by_cases h1 : isPl t = false
  · rw [putPi_bad t d (.inl h1)]
    rw [h1] at C1
    clear h1 C2 C3 hcv hfc
    go_enter Tryd.func51, Tryd.ntmps51
    go_wp2_with fail
    refine (C1.out).mono ?_
    rintro e w1 ⟨rfl, hb⟩
    have B1 := Lib.hid hb
    clear hb
    go_wp2
    go_ret2
    exact ⟨rfl, B1.out⟩
  · have h1' : isPl t = true := by simpa using h1
    rw [h1'] at C1
    by_cases h2 : resB t = true
    · rw [putPi_bad t d (.inr (.inl h2))]
      rw [h2] at C2
      clear h1 h1' h2 C3 hcv hfc
      go_enter Tryd.func51, Tryd.ntmps51
      go_wp2_with fail
      refine (C1.out).mono ?_
      rintro e w1 ⟨rfl, hb⟩
      have B1 := Lib.hid hb
      clear hb
      go_wp2_with fail
      refine (C2.out _).mono ?_
      rintro e wq ⟨rfl, rfl⟩
      go_wp2
      go_ret2
      exact ⟨rfl, B1.out⟩
    · have h2' := bfalse h2
      rw [h2'] at C2
      by_cases h3 : Lib.contains d [63, 62] = true
      · rw [putPi_bad t d (.inr (.inr (.inl h3)))]
        have hf := hfc.2 h3
        clear h1 h1' h2 h2' h3 hfc
        generalize findI d 0 [63, 62] = fi at *
        go_enter Tryd.func51, Tryd.ntmps51
        go_wp2_with fail
        refine (C1.out).mono ?_
        rintro e w1 ⟨rfl, hb⟩
        have B1 := Lib.hid hb
        clear hb
        go_wp2_with fail
        refine (C2.out _).mono ?_
        rintro e wq ⟨rfl, rfl⟩
        go_wp2_with fail
        refine (C3.out _ B1.out).mono ?_
        rintro e w2 ⟨rfl, B2⟩
        clear hcv
        go_wp2
        go_ret2
        exact ⟨rfl, B2.out⟩
      · have h3' := bfalse h3
        have hf : ¬ 0 ≤ findI d 0 [63, 62] := fun h => h3 (hfc.1 h)
        have ct1 : ∀ W, (Op.stringOp .add ⟨#[60, 63]⟩ ⟨t.toArray⟩).run Tryd.prog W = .ok (.string ⟨([60, 63] ++ t).toArray⟩) W := fun W => run_sop (w := W) [60, 63] t (by simp; omega)
        clear hfc
        cases d with
        | nil =>
          have ct2 : ∀ W, (Op.stringOp .add ⟨([60, 63] ++ t).toArray⟩ ⟨#[]⟩).run Tryd.prog W = .ok (.string ⟨([60, 63] ++ t ++ []).toArray⟩) W := fun W => run_sop (w := W) ([60, 63] ++ t) [] (by simp; omega)
          have ct3 : ∀ W, (Op.stringOp .add ⟨([60, 63] ++ t ++ []).toArray⟩ ⟨#[63, 62]⟩).run Tryd.prog W = .ok (.string ⟨([60, 63] ++ t ++ [] ++ [63, 62]).toArray⟩) W := fun W => run_sop (w := W) ([60, 63] ++ t ++ []) [63, 62] (by simp; omega)
          by_cases hl : 1024 < t.length
          · rw [putPi_long t [] h1' h2' h3' rfl hl]
            have hl' : (1024 : Int) < (t.length : Int) := by omega
            clear h1 h1' h2 h2' h3 h3' hl ct1 ct2 ct3
            generalize findI [] 0 [63, 62] = fi at *
            go_enter Tryd.func51, Tryd.ntmps51
            go_wp2_with fail
            refine (C1.out).mono ?_
            rintro e w1 ⟨rfl, hb⟩
            have B1 := Lib.hid hb
            clear hb
            go_wp2_with fail
            refine (C2.out _).mono ?_
            rintro e wq ⟨rfl, rfl⟩
            go_wp2_with fail
            refine (C3.out _ B1.out).mono ?_
            rintro e w2 ⟨rfl, B2⟩
            clear hcv
            go_wp2
            go_ret2
            exact ⟨rfl, B2.out⟩
          · rw [putPi_ok t [] h1' h2' h3' rfl hl]
            have hl' : ¬ (1024 : Int) < (t.length : Int) := by omega
            clear h1 h1' h2 h2' h3 h3' hl
            unfold dataOf out2V
            generalize findI [] 0 [63, 62] = fi at *
            generalize [60, 63] ++ t ++ [] ++ [63, 62] = r3 at *
            generalize [60, 63] ++ t ++ [] = r2 at *
            generalize [60, 63] ++ t = r1 at *
            go_enter Tryd.func51, Tryd.ntmps51
            go_wp2_with fail
            refine (C1.out).mono ?_
            rintro e w1 ⟨rfl, hb⟩
            have B1 := Lib.hid hb
            clear hb
            go_wp2_with fail
            refine (C2.out _).mono ?_
            rintro e wq ⟨rfl, rfl⟩
            go_wp2_with fail
            refine (C3.out _ B1.out).mono ?_
            rintro e w2 ⟨rfl, B2⟩
            clear hcv
            go_wp2
            go_ret2
            exact ⟨rfl, B2.out⟩
        | cons c d =>
          have hix : ∀ W, (Instr.index 9 (.string ⟨(c :: d).toArray⟩) (.int .i64 0)).run Tryd.prog W = .ok (.int .u8 (c.toNat : Int)) W := fun W => run_strIndex (c :: d) 0 (by simp) W
          have CB : Hid (∀ W, Calls Tryd.prog 73 #[.int .i64 (c.toNat : Int)] W fun e w' => e = .returned (.bool (isBl c)) ∧ W = w') := Lib.hid fun W => refBlank_c _ W
          have c0 : (0 : Int) ≤ (c.toNat : Int) := by omega
          have c1 : (c.toNat : Int) ≤ 255 := by have := c.toNat_lt; omega
          have ct0 : ∀ W, (Op.stringOp .add ⟨#[32]⟩ ⟨(c :: d).toArray⟩).run Tryd.prog W = .ok (.string ⟨(32 :: c :: d).toArray⟩) W := fun W => run_sop (w := W) [32] (c :: d) (by simp at hd ⊢; omega)
          have ct2 : ∀ W, (Op.stringOp .add ⟨([60, 63] ++ t).toArray⟩ ⟨(32 :: c :: d).toArray⟩).run Tryd.prog W = .ok (.string ⟨([60, 63] ++ t ++ 32 :: c :: d).toArray⟩) W := fun W => run_sop (w := W) ([60, 63] ++ t) (32 :: c :: d) (by simp at hd ⊢; omega)
          have ct3 : ∀ W, (Op.stringOp .add ⟨([60, 63] ++ t ++ 32 :: c :: d).toArray⟩ ⟨#[63, 62]⟩).run Tryd.prog W = .ok (.string ⟨([60, 63] ++ t ++ 32 :: c :: d ++ [63, 62]).toArray⟩) W := fun W => run_sop (w := W) ([60, 63] ++ t ++ 32 :: c :: d) [63, 62] (by simp at hd ⊢; omega)
          have hne : (c :: d).isEmpty = false := rfl
          have hl1 : 0 < (c :: d).length := by simp
          cases hbl : isBl c with
          | true =>
            rw [putPi_bad t (c :: d) (.inr (.inr (.inr hbl)))]
            rw [hbl] at CB
            clear h1 h1' h2 h2' h3 h3' hbl ct0 ct1 ct2 ct3
            generalize findI (c :: d) 0 [63, 62] = fi at *
            generalize hD : c :: d = D at *
            clear hD
            generalize (c.toNat : Int) = cn at *
            go_enter Tryd.func51, Tryd.ntmps51
            go_wp2_with fail
            refine (C1.out).mono ?_
            rintro e w1 ⟨rfl, hb⟩
            have B1 := Lib.hid hb
            clear hb
            go_wp2_with fail
            refine (C2.out _).mono ?_
            rintro e wq ⟨rfl, rfl⟩
            go_wp2_with fail
            refine (C3.out _ B1.out).mono ?_
            rintro e w2 ⟨rfl, B2⟩
            clear hcv
            go_wp2_with fail
            refine (CB.out _).mono ?_
            rintro e wq ⟨rfl, rfl⟩
            go_wp2
            go_ret2
            exact ⟨rfl, B2.out⟩
          | false =>
            rw [hbl] at CB
            by_cases hl : 1024 < t.length
            · rw [putPi_long t (c :: d) h1' h2' h3' hbl hl]
              have hl' : (1024 : Int) < (t.length : Int) := by omega
              clear h1 h1' h2 h2' h3 h3' hbl ct0 ct1 ct2 ct3 hl
              generalize findI (c :: d) 0 [63, 62] = fi at *
              generalize hD : c :: d = D at *
              clear hD
              generalize (c.toNat : Int) = cn at *
              go_enter Tryd.func51, Tryd.ntmps51
              go_wp2_with fail
              refine (C1.out).mono ?_
              rintro e w1 ⟨rfl, hb⟩
              have B1 := Lib.hid hb
              clear hb
              go_wp2_with fail
              refine (C2.out _).mono ?_
              rintro e wq ⟨rfl, rfl⟩
              go_wp2_with fail
              refine (C3.out _ B1.out).mono ?_
              rintro e w2 ⟨rfl, B2⟩
              clear hcv
              go_wp2_with fail
              refine (CB.out _).mono ?_
              rintro e wq ⟨rfl, rfl⟩
              go_wp2
              go_ret2
              exact ⟨rfl, B2.out⟩
            · rw [putPi_ok t (c :: d) h1' h2' h3' hbl hl]
              have hl' : ¬ (1024 : Int) < (t.length : Int) := by omega
              clear h1 h1' h2 h2' h3 h3' hbl hl
              unfold dataOf out2V
              generalize findI (c :: d) 0 [63, 62] = fi at *
              generalize [60, 63] ++ t ++ 32 :: c :: d ++ [63, 62] = r3 at *
              generalize [60, 63] ++ t ++ 32 :: c :: d = r2 at *
              generalize [60, 63] ++ t = r1 at *
              generalize hE : 32 :: c :: d = E at *
              generalize hD : c :: d = D at *
              clear hD hE
              generalize (c.toNat : Int) = cn at *
              go_enter Tryd.func51, Tryd.ntmps51
              go_wp2_with fail
              refine (C1.out).mono ?_
              rintro e w1 ⟨rfl, hb⟩
              have B1 := Lib.hid hb
              clear hb
              go_wp2_with fail
              refine (C2.out _).mono ?_
              rintro e wq ⟨rfl, rfl⟩
              go_wp2_with fail
              refine (C3.out _ B1.out).mono ?_
              rintro e w2 ⟨rfl, B2⟩
              clear hcv
              go_wp2_with fail
              refine (CB.out _).mono ?_
              rintro e wq ⟨rfl, rfl⟩
              go_wp2
              go_ret2
              exact ⟨rfl, B2.out⟩
end Go.Proofs.YtocbofeanfdggaaDoor
