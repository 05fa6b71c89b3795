/- narthexref08.Pi. -/
import Derived.Test.YteighjiocgdgaaaDoorRows
import Derived.WalkKit
import Derived.ProofKit
import Derived.OpenShut
import Derived.ShutString
import Derived.ChangeOld
import Derived.Below
import Derived.BigQuiet
import Derived.Deep.QuietTactic
import Derived.Lib.Hide
import Derived.Deep.RegionHeld3
import Derived.Lib.SlBytesConst
import Derived.Laws.CopyOwn
import Derived.Laws.CopyRow
import Derived.Lib.Bytes
import Derived.Deep.LoopGhost
import Derived.Deep.DeepFit
import Derived.Deep.DeepMust
import Derived.WalkSpells
import Derived.WalkLawsBesides
import Derived.Laws.EntriesVeiled
import Derived.Laws.Rows
import Derived.Lib.Fold
import Derived.Test.YteighjiocgdgaaaDoorBase
import Derived.Test.YteighjiocgdgaaaDoorShelf
import Derived.Test.YteighjiocgdgaaaDoorCharPlain
import Derived.Test.YteighjiocgdgaaaDoorUtf1
import Derived.Test.YteighjiocgdgaaaDoorUtf2
import Derived.Test.YteighjiocgdgaaaDoorUtf3
import Derived.Test.YteighjiocgdgaaaDoorChars1
import Derived.Test.YteighjiocgdgaaaDoorName1
import Derived.Test.YteighjiocgdgaaaDoorName2
import Derived.Test.YteighjiocgdgaaaDoorName3
import Derived.Test.YteighjiocgdgaaaDoorRef1
import Derived.Test.YteighjiocgdgaaaDoorRef7
import Derived.Test.YteighjiocgdgaaaDoorRef8
import Derived.Test.YteighjiocgdgaaaDoorCref1
import Derived.Test.YteighjiocgdgaaaDoorPub
import Derived.Test.YteighjiocgdgaaaDoorBlank
import Derived.Test.YteighjiocgdgaaaDoorMiscP
import Derived.Test.YteighjiocgdgaaaDoorMisc1
namespace Go.Proofs.YteighjiocgdgaaaDoor
open Go.ChangeShapes Go.WideShapes Go.ChangeAt Go.RowKit
set_option linter.unusedVariables false
theorem results_tmp4 {fn : Func} {t u v x : Tmp} (h : fn.results = #[.tmp t, .tmp u, .tmp v, .tmp x]) (tmps : Array Value) (P : Program) (w : World) :
    (results fn tmps).run P w = .ok (.tuple #[tmps.getD t undef, tmps.getD u undef, tmps.getD v undef, tmps.getD x undef]) w := by
  simp [results, h]
/-- Is it xml, in letters of whatever size? -/
def resB (s : List UInt8) : Bool := Lib.equalFold s [120, 109, 108]
def out4V (o : List UInt8 × List UInt8 × Nat × Nat) : Value := .tuple #[.string ⟨o.1.toArray⟩, .string ⟨o.2.1.toArray⟩, .int .i64 (o.2.2.1 : Int), .int .i64 (o.2.2.2 : Int)]
/-- How a processing instruction reads, behind its target's name. -/
def piRest (l : List UInt8) (p : List UInt8 × Nat × Nat) : List UInt8 × List UInt8 × Nat × Nat :=
  if p.2.2 ≠ 0 then ([], [], 0, p.2.2) else if resB p.1 = true then ([], [], 0, 7) else
  if findI l (blankTo l p.2.1) [63, 62] < 0 ∨ (blankTo l p.2.1 = p.2.1 ∧ findI l (blankTo l p.2.1) [63, 62] ≠ p.2.1) then ([], [], 0, 7) else
  (p.1, (l.drop (blankTo l p.2.1)).take ((findI l (blankTo l p.2.1) [63, 62]).toNat - blankTo l p.2.1), (findI l (blankTo l p.2.1) [63, 62]).toNat + 2, 0)
def piOut (l : List UInt8) (k : Nat) : List UInt8 × List UInt8 × Nat × Nat :=
  if [60, 63].isPrefixOf (l.drop k) = false then ([], [], 0, 7) else piRest l (plainOut l (k + 2))
def piAt (l : List UInt8) (at_ : Int) : List UInt8 × List UInt8 × Nat × Nat := if at_ < 0 ∨ (l.length : Int) < at_ then ([], [], 0, 3) else piOut l at_.toNat
theorem piRest_err (l : List UInt8) (s : List UInt8) (t e : Nat) (h : e ≠ 0) : piRest l (s, t, e) = ([], [], 0, e) := by unfold piRest; rw [if_pos h]
theorem piRest_res (l : List UInt8) (s : List UInt8) (t : Nat) (h : resB s = true) : piRest l (s, t, 0) = ([], [], 0, 7) := by unfold piRest; rw [if_neg (by simp), if_pos h]
theorem piRest_no (l : List UInt8) (s : List UInt8) (t f : Nat) (h : resB s = false) (hf : blankTo l t = f) (hn : findI l f [63, 62] < 0) : piRest l (s, t, 0) = ([], [], 0, 7) := by
  subst hf
  unfold piRest
  rw [if_neg (by simp), if_neg (by rw [h]; simp), if_pos (.inl hn)]
theorem piRest_tight (l : List UInt8) (s : List UInt8) (t i : Nat) (h : resB s = false) (hf : blankTo l t = t) (hn : findI l t [63, 62] = i) (hi : i ≠ t) : piRest l (s, t, 0) = ([], [], 0, 7) := by
  unfold piRest
  simp only [hf]
  rw [if_neg (by simp), if_neg (by rw [h]; simp), if_pos (.inr ⟨trivial, by omega⟩)]
theorem piRest_yes (l : List UInt8) (s : List UInt8) (t f i : Nat) (h : resB s = false) (hf : blankTo l t = f) (hn : findI l f [63, 62] = i) (hi : f = t → i = t) : piRest l (s, t, 0) = (s, (l.drop f).take (i - f), i + 2, 0) := by
  subst hf
  unfold piRest
  rw [if_neg (by simp), if_neg (by rw [h]; simp), hn, if_neg, Int.toNat_natCast]
  rintro (h' | ⟨h1, h2⟩)
  · omega
  · exact h2 (by rw [hi h1])
set_option maxRecDepth 100000 in
set_option maxHeartbeats 4000000 in
theorem refPi_range (A : Option Addr) (n cap : Nat) (at_ : Int) (w : World) (ha : at_ < 0 ∨ (n : Int) < at_) :
    Calls Tryd.prog 41 #[.slice A n cap, .int .i64 at_] w fun e w' => e = .returned (out4V ([], [], 0, 3)) ∧ Below w.heap.size w w' := by
  by_cases h0 : at_ < 0
  · have hd : decide (at_ < 0) = true := by simpa using h0
    clear ha
    go_enter Tryd.func41, Tryd.ntmps41
    go_wp2
    (try simp only [Exit.inBlock, Exit.then])
    refine bodyPost_ret (results_tmp4 rfl _ _ _) rfl ?_
    exact ⟨rfl, Below.refl _ _⟩
  · have h1 : (n : Int) < at_ := by omega
    clear ha
    go_enter Tryd.func41, Tryd.ntmps41
    go_wp2
    (try simp only [Exit.inBlock, Exit.then])
    refine bodyPost_ret (results_tmp4 rfl _ _ _) rfl ?_
    exact ⟨rfl, Below.refl _ _⟩
/-- A reserved name's contract, for every later world. -/
def ResC (fn : Nat) (w : World) (s : List UInt8) : Prop := ∀ W, Below w.heap.size w W → Calls Tryd.prog fn #[.string ⟨s.toArray⟩] W fun e w' => e = .returned (.bool (resB s)) ∧ Below W.heap.size W w'
set_option maxRecDepth 100000 in
set_option maxHeartbeats 4000000 in
theorem refPi_in (A : Option Addr) (n cap : Nat) (l : List UInt8) (k : Nat) (w : World) (h : Byt w w.heap.size A n cap l) (hm : n ≤ 50000) (hk : k ≤ n) (hR : ResC 48 w (plainOut l (k + 2)).1) :
    Calls Tryd.prog 41 #[.slice A n cap, .int .i64 k] w fun e w' => e = .returned (out4V (piOut l k)) ∧ Below w.heap.size w w' := by
  have hk' : ¬ (n : Int) < (k : Int) := by omega
  have hk0 : (0 : Int) ≤ (k : Int) := by omega
  have hk1 : (k : Int) ≤ 50000 := by omega
  have c1 := refAt8_c A n cap l k [60, 63] _ w h (by simp) (by omega) (by simp) (by omega)
  have hln := h.length
  by_cases hp : [60, 63].isPrefixOf (l.drop k) = true
  · have hkl : k + 2 ≤ n := by have := pre_len hp; simp at this; omega
    have c2 := refRead_c A n cap l (k + 2) w h hm hkl
    rw [show ((k + 2 : Nat) : Int) = (k : Int) + 2 by omega] at c2
    rw [hp] at c1
    have C1 := Lib.hid c1
    have HO : Hid (piOut l k = piRest l (plainOut l (k + 2))) := Lib.hid (by unfold piOut; rw [if_neg (by rw [hp]; simp)])
    rw [HO.out]
    have hle := plainOut_le l (k + 2) (by omega)
    clear c1 HO hp
    generalize plainOut l (k + 2) = po at *
    obtain ⟨s, t, f⟩ := po
    unfold outV at c2
    simp only at c2 hle hR
    have C2 := Lib.hid c2
    have HR := Lib.hid hR
    clear c2 hR
    by_cases hf : f = 0
    · subst hf
      have htl := hle rfl
      clear hle
      have CB : Hid (∀ W, Below w.heap.size w W → Calls Tryd.prog 61 #[.slice A n cap, .int .i64 t] W fun e w' => e = .returned (.int .i64 (blankTo l t)) ∧ W = w') := Lib.hid fun W hb => refBlanks_c A n cap l t _ W (h.below hb) (by omega) (by omega)
      have hbt := blankTo_le l t (by omega)
      have CF : Hid (∀ W, Below w.heap.size w W → Calls Tryd.prog 43 #[.slice A n cap, .int .i64 (blankTo l t), .string ⟨#[63, 62]⟩] W fun e w' => e = .returned (.int .i64 (findI l (blankTo l t) [63, 62])) ∧ W = w') := Lib.hid fun W hb => refFind_c A n cap l (blankTo l t) [63, 62] _ W (h.below hb) (by simp) (by omega) (by simp) (by omega)
      have hsp := findI_spec l [63, 62] (blankTo l t) (by omega)
      have HH := Lib.hid h
      have hcap := h.le
      cases hrs : resB s with
      | true =>
        rw [piRest_res l s t hrs]
        unfold ResC at HR
        rw [hrs] at HR
        clear h hln hrs hsp hbt
        go_enter Tryd.func41, Tryd.ntmps41
        go_wp2_with fail
        refine (C1.out).mono ?_
        rintro e wq ⟨rfl, rfl⟩
        go_wp2_with fail
        refine (C2.out).mono ?_
        rintro e w1 ⟨rfl, hb⟩
        have B1 := Lib.hid hb
        clear hb
        go_wp2_with fail
        refine (HR.out _ B1.out).mono ?_
        rintro e w2 ⟨rfl, hb⟩
        have B2 := Lib.hid (B1.out.trans (hb.mono B1.out.size))
        clear hb
        go_wp2
        (try simp only [Exit.inBlock, Exit.then])
        refine bodyPost_ret (results_tmp4 rfl _ _ _) rfl ?_
        exact ⟨rfl, B2.out⟩
      | false =>
        unfold ResC at HR
        rw [hrs] at HR
        have HRS := Lib.hid hrs
        clear hrs
        rcases hsp with ⟨hf, _⟩ | ⟨i, hf, hki, hil, hpre, _⟩
        · rw [piRest_no l s t _ HRS.out rfl (by rw [hf]; omega)]
          rw [hf] at CF
          clear h hln hf hbt
          generalize blankTo l t = b at *
          go_enter Tryd.func41, Tryd.ntmps41
          go_wp2_with fail
          refine (C1.out).mono ?_
          rintro e wq ⟨rfl, rfl⟩
          go_wp2_with fail
          refine (C2.out).mono ?_
          rintro e w1 ⟨rfl, hb⟩
          have B1 := Lib.hid hb
          clear hb
          go_wp2_with fail
          refine (HR.out _ B1.out).mono ?_
          rintro e w2 ⟨rfl, hb⟩
          have B2 := Lib.hid (B1.out.trans (hb.mono B1.out.size))
          clear hb
          go_wp2_with fail
          refine (CB.out _ B2.out).mono ?_
          rintro e wq ⟨rfl, rfl⟩
          go_wp2_with fail
          refine (CF.out _ B2.out).mono ?_
          rintro e wq ⟨rfl, rfl⟩
          go_wp2
          (try simp only [Exit.inBlock, Exit.then])
          refine bodyPost_ret (results_tmp4 rfl _ _ _) rfl ?_
          exact ⟨rfl, B2.out⟩
        · simp at hil
          rw [hf] at CF
          have hi0 : ¬ (i : Int) < 0 := by omega
          have hi1 : (i : Int) ≤ 50000 := by omega
          have ht1 : (t : Int) ≤ 50000 := by omega
          by_cases hbe : blankTo l t = t
          · rw [hbe] at CF CB hf hki
            by_cases hit : i = t
            · subst hit
              rw [piRest_yes l s i i i HRS.out hbe hf (fun _ => rfl)]
              have HST : Hid (∀ W, Below w.heap.size w W → (convert 22 9 (.slice (cutA A cap i) (i - i) (cap - i))).run Tryd.prog W = .ok (.string ⟨((l.drop i).take (i - i)).toArray⟩) W) := Lib.hid fun W hb => (((h.below hb).drop (k := i) (by omega)).take (k := i - i) (by omega)).str
              have hrf : ∀ w2 : World, (Instr.slice 22 (.slice A n cap) (some (.int .i64 (i : Int))) (some (.int .i64 (i : Int))) none).run Tryd.prog w2 = .ok (.slice (cutA A cap i) (i - i) (cap - i)) w2 := fun w2 => run_fromTo (w := w2) A n cap i i (by omega) (by omega)
              clear h hln hf hbt hbe hki hpre hil hcap
              generalize (l.drop i).take (i - i) = T at *
              generalize i - i = ii at *
              go_enter Tryd.func41, Tryd.ntmps41
              go_wp2_with fail
              refine (C1.out).mono ?_
              rintro e wq ⟨rfl, rfl⟩
              go_wp2_with fail
              refine (C2.out).mono ?_
              rintro e w1 ⟨rfl, hb⟩
              have B1 := Lib.hid hb
              clear hb
              go_wp2_with fail
              refine (HR.out _ B1.out).mono ?_
              rintro e w2 ⟨rfl, hb⟩
              have B2 := Lib.hid (B1.out.trans (hb.mono B1.out.size))
              clear hb
              go_wp2_with fail
              refine (CB.out _ B2.out).mono ?_
              rintro e wq ⟨rfl, rfl⟩
              go_wp2_with fail
              refine (CF.out _ B2.out).mono ?_
              rintro e wq ⟨rfl, rfl⟩
              have hst : ∀ m, (convert 22 9 (.slice (cutA A cap i) ii (cap - i))).run Tryd.prog (w2.drewN m) = .ok (.string ⟨T.toArray⟩) (w2.drewN m) := fun m => HST.out _ (below_drewN' B2.out)
              go_wp2
              go_quiet (fail)
              have B3 := Lib.hid (below_drewN' (n := nq) B2.out)
              clear hst
              generalize w2.drewN nq = w3 at *
              go_wp2
              (try simp only [Exit.inBlock, Exit.then])
              refine bodyPost_ret (results_tmp4 rfl _ _ _) rfl ?_
              exact ⟨rfl, B3.out⟩
            · have hitb : ((i : Int) != (t : Int)) = true := by simp; omega
              rw [piRest_tight l s t i HRS.out hbe hf hit]
              clear h hln hf hbt hbe hki hpre hil hcap hit
              go_enter Tryd.func41, Tryd.ntmps41
              go_wp2_with fail
              refine (C1.out).mono ?_
              rintro e wq ⟨rfl, rfl⟩
              go_wp2_with fail
              refine (C2.out).mono ?_
              rintro e w1 ⟨rfl, hb⟩
              have B1 := Lib.hid hb
              clear hb
              go_wp2_with fail
              refine (HR.out _ B1.out).mono ?_
              rintro e w2 ⟨rfl, hb⟩
              have B2 := Lib.hid (B1.out.trans (hb.mono B1.out.size))
              clear hb
              go_wp2_with fail
              refine (CB.out _ B2.out).mono ?_
              rintro e wq ⟨rfl, rfl⟩
              go_wp2_with fail
              refine (CF.out _ B2.out).mono ?_
              rintro e wq ⟨rfl, rfl⟩
              go_wp2
              (try simp only [Exit.inBlock, Exit.then])
              refine bodyPost_ret (results_tmp4 rfl _ _ _) rfl ?_
              exact ⟨rfl, B2.out⟩
          · rw [piRest_yes l s t _ i HRS.out rfl hf (fun e => absurd e hbe)]
            have hbne : ((blankTo l t : Int) == (t : Int)) = false := by simp; omega
            have HST : Hid (∀ W, Below w.heap.size w W → (convert 22 9 (.slice (cutA A cap (blankTo l t)) (i - blankTo l t) (cap - blankTo l t))).run Tryd.prog W = .ok (.string ⟨((l.drop (blankTo l t)).take (i - blankTo l t)).toArray⟩) W) := Lib.hid fun W hb => (((h.below hb).drop (k := blankTo l t) (by omega)).take (k := i - blankTo l t) (by omega)).str
            have hrf : ∀ w2 : World, (Instr.slice 22 (.slice A n cap) (some (.int .i64 (blankTo l t : Int))) (some (.int .i64 (i : Int))) none).run Tryd.prog w2 = .ok (.slice (cutA A cap (blankTo l t)) (i - blankTo l t) (cap - blankTo l t)) w2 := fun w2 => run_fromTo (w := w2) A n cap (blankTo l t) i (by omega) (by omega)
            clear h hln hf hbt hbe hki hpre hil hcap
            generalize (l.drop (blankTo l t)).take (i - blankTo l t) = T at *
            generalize i - blankTo l t = ii at *
            generalize blankTo l t = b at *
            go_enter Tryd.func41, Tryd.ntmps41
            go_wp2_with fail
            refine (C1.out).mono ?_
            rintro e wq ⟨rfl, rfl⟩
            go_wp2_with fail
            refine (C2.out).mono ?_
            rintro e w1 ⟨rfl, hb⟩
            have B1 := Lib.hid hb
            clear hb
            go_wp2_with fail
            refine (HR.out _ B1.out).mono ?_
            rintro e w2 ⟨rfl, hb⟩
            have B2 := Lib.hid (B1.out.trans (hb.mono B1.out.size))
            clear hb
            go_wp2_with fail
            refine (CB.out _ B2.out).mono ?_
            rintro e wq ⟨rfl, rfl⟩
            go_wp2_with fail
            refine (CF.out _ B2.out).mono ?_
            rintro e wq ⟨rfl, rfl⟩
            have hst : ∀ m, (convert 22 9 (.slice (cutA A cap b) ii (cap - b))).run Tryd.prog (w2.drewN m) = .ok (.string ⟨T.toArray⟩) (w2.drewN m) := fun m => HST.out _ (below_drewN' B2.out)
            go_wp2
            go_quiet (fail)
            have B3 := Lib.hid (below_drewN' (n := nq) B2.out)
            clear hst
            generalize w2.drewN nq = w3 at *
            go_wp2
            (try simp only [Exit.inBlock, Exit.then])
            refine bodyPost_ret (results_tmp4 rfl _ _ _) rfl ?_
            exact ⟨rfl, B3.out⟩
    · have hfz : ((f : Int) != 0) = true := by simp; omega
      rw [piRest_err l s t f hf]
      clear h hln hf hle HR
      go_enter Tryd.func41, Tryd.ntmps41
      go_wp2_with fail
      refine (C1.out).mono ?_
      rintro e wq ⟨rfl, rfl⟩
      go_wp2_with fail
      refine (C2.out).mono ?_
      rintro e w1 ⟨rfl, hb⟩
      have B1 := Lib.hid hb
      clear hb
      go_wp2
      (try simp only [Exit.inBlock, Exit.then])
      refine bodyPost_ret (results_tmp4 rfl _ _ _) rfl ?_
      exact ⟨rfl, B1.out⟩
  · have hp' := bfalse hp
    rw [hp'] at c1
    have C1 := Lib.hid c1
    have HO : Hid (piOut l k = ([], [], 0, 7)) := Lib.hid (by unfold piOut; rw [if_pos hp'])
    rw [HO.out]
    clear c1 h hp hp' hln HO hR
    go_enter Tryd.func41, Tryd.ntmps41
    go_wp2_with fail
    refine (C1.out).mono ?_
    rintro e wq ⟨rfl, rfl⟩
    go_wp2
    (try simp only [Exit.inBlock, Exit.then])
    refine bodyPost_ret (results_tmp4 rfl _ _ _) rfl ?_
    exact ⟨rfl, Below.refl _ _⟩
end Go.Proofs.YteighjiocgdgaaaDoor
