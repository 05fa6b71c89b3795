/- Texts of ours, joined: Misc6, Misc7, MiscP2, Law08, Misc8, Law08b, PlainP, TagP, Tag0, Tag1, Tag2, Tag3. -/
import Derived.Test.YtmclngahdklfkaaGreatDoorRows
import Derived.WalkKit
import Derived.ProofKit
import Derived.OpenShut
import Derived.ShutString
import Derived.ChangeOld
import Derived.Below
import Derived.BigQuiet
import Derived.Deep.QuietTactic
import Derived.Lib.Hide
import Derived.Deep.RegionHeld3
import Derived.Lib.SlBytesConst
import Derived.Laws.CopyOwn
import Derived.Laws.CopyRow
import Derived.Lib.Bytes
import Derived.Deep.LoopGhost
import Derived.Deep.DeepFit
import Derived.Deep.DeepMust
import Derived.WalkSpells
import Derived.WalkLawsBesides
import Derived.Laws.EntriesVeiled
import Derived.Laws.Rows
import Derived.Lib.Fold
import Derived.Test.YtmclngahdklfkaaGreatDoorQ1
import Derived.Test.YtmclngahdklfkaaGreatDoorQ2
import Derived.Test.YtmclngahdklfkaaGreatDoorQ3
import Derived.Test.YtmclngahdklfkaaGreatDoorQ5
import Derived.Test.YtmclngahdklfkaaGreatDoorQ6
import Derived.Test.YtmclngahdklfkaaGreatDoorQ7
import Derived.Test.YtmclngahdklfkaaGreatDoorQ9
import Derived.Lib.IndexMore
import Derived.Lib.IndexLaws
import Derived.Test.YtmclngahdklfkaaGreatDoorQ8
import Derived.Maps.OwnOps
import Derived.Maps.Views
/- narthexref08.Pi. -/
namespace Go.Proofs.YtmclngahdklfkaaGreatDoor
open Go.ChangeShapes Go.WideShapes Go.ChangeAt Go.RowKit
set_option linter.unusedVariables false
theorem results_tmp4 {fn : Func} {t u v x : Tmp} (h : fn.results = #[.tmp t, .tmp u, .tmp v, .tmp x]) (tmps : Array Value) (P : Program) (w : World) :
    (results fn tmps).run P w = .ok (.tuple #[tmps.getD t undef, tmps.getD u undef, tmps.getD v undef, tmps.getD x undef]) w := by
  simp [results, h]
/-- Is it xml, in letters of whatever size? -/
def resB (s : List UInt8) : Bool := Lib.equalFold s [120, 109, 108]
def out4V (o : List UInt8 × List UInt8 × Nat × Nat) : Value := .tuple #[.string ⟨o.1.toArray⟩, .string ⟨o.2.1.toArray⟩, .int .i64 (o.2.2.1 : Int), .int .i64 (o.2.2.2 : Int)]
/-- How a processing instruction reads, behind its target's name. -/
def piRest (l : List UInt8) (p : List UInt8 × Nat × Nat) : List UInt8 × List UInt8 × Nat × Nat :=
  if p.2.2 ≠ 0 then ([], [], 0, p.2.2) else if resB p.1 = true then ([], [], 0, 7) else
  if findI l (blankTo l p.2.1) [63, 62] < 0 ∨ (blankTo l p.2.1 = p.2.1 ∧ findI l (blankTo l p.2.1) [63, 62] ≠ p.2.1) then ([], [], 0, 7) else
  (p.1, (l.drop (blankTo l p.2.1)).take ((findI l (blankTo l p.2.1) [63, 62]).toNat - blankTo l p.2.1), (findI l (blankTo l p.2.1) [63, 62]).toNat + 2, 0)
def piOut (l : List UInt8) (k : Nat) : List UInt8 × List UInt8 × Nat × Nat :=
  if [60, 63].isPrefixOf (l.drop k) = false then ([], [], 0, 7) else piRest l (plainOut l (k + 2))
def piAt (l : List UInt8) (at_ : Int) : List UInt8 × List UInt8 × Nat × Nat := if at_ < 0 ∨ (l.length : Int) < at_ then ([], [], 0, 3) else piOut l at_.toNat
theorem piRest_err (l : List UInt8) (s : List UInt8) (t e : Nat) (h : e ≠ 0) : piRest l (s, t, e) = ([], [], 0, e) := by unfold piRest; rw [if_pos h]
theorem piRest_res (l : List UInt8) (s : List UInt8) (t : Nat) (h : resB s = true) : piRest l (s, t, 0) = ([], [], 0, 7) := by unfold piRest; rw [if_neg (by simp), if_pos h]
theorem piRest_no (l : List UInt8) (s : List UInt8) (t f : Nat) (h : resB s = false) (hf : blankTo l t = f) (hn : findI l f [63, 62] < 0) : piRest l (s, t, 0) = ([], [], 0, 7) := by
  subst hf
  unfold piRest
  rw [if_neg (by simp), if_neg (by rw [h]; simp), if_pos (.inl hn)]
theorem piRest_tight (l : List UInt8) (s : List UInt8) (t i : Nat) (h : resB s = false) (hf : blankTo l t = t) (hn : findI l t [63, 62] = i) (hi : i ≠ t) : piRest l (s, t, 0) = ([], [], 0, 7) := by
  unfold piRest
  simp only [hf]
  rw [if_neg (by simp), if_neg (by rw [h]; simp), if_pos (.inr ⟨trivial, by omega⟩)]
theorem piRest_yes (l : List UInt8) (s : List UInt8) (t f i : Nat) (h : resB s = false) (hf : blankTo l t = f) (hn : findI l f [63, 62] = i) (hi : f = t → i = t) : piRest l (s, t, 0) = (s, (l.drop f).take (i - f), i + 2, 0) := by
  subst hf
  unfold piRest
  rw [if_neg (by simp), if_neg (by rw [h]; simp), hn, if_neg, Int.toNat_natCast]
  rintro (h' | ⟨h1, h2⟩)
  · omega
  · exact h2 (by rw [hi h1])
set_option maxRecDepth 100000 in
set_option maxHeartbeats 4000000 in
theorem refPi_range (A : Option Addr) (n cap : Nat) (at_ : Int) (w : World) (ha : at_ < 0 ∨ (n : Int) < at_) :
    Calls Tryz.prog 33 #[.slice A n cap, .int .i64 at_] w fun e w' => e = .returned (out4V ([], [], 0, 3)) ∧ Below w.heap.size w w' := by
  by_cases h0 : at_ < 0
  · have hd : decide (at_ < 0) = true := by simpa using h0
    clear ha
    go_enter Tryz.func33, Tryz.ntmps33
    go_wp2
    (try simp only [Exit.inBlock, Exit.then])
    refine bodyPost_ret (results_tmp4 rfl _ _ _) rfl ?_
    exact ⟨rfl, Below.refl _ _⟩
  · have h1 : (n : Int) < at_ := by omega
    clear ha
    go_enter Tryz.func33, Tryz.ntmps33
    go_wp2
    (try simp only [Exit.inBlock, Exit.then])
    refine bodyPost_ret (results_tmp4 rfl _ _ _) rfl ?_
    exact ⟨rfl, Below.refl _ _⟩
/-- A reserved name's contract, for every later world. -/
def ResC (fn : Nat) (w : World) (s : List UInt8) : Prop := ∀ W, Below w.heap.size w W → Calls Tryz.prog fn #[.string ⟨s.toArray⟩] W fun e w' => e = .returned (.bool (resB s)) ∧ Below W.heap.size W w'
set_option maxRecDepth 100000 in
set_option maxHeartbeats 4000000 in
theorem refPi_in (A : Option Addr) (n cap : Nat) (l : List UInt8) (k : Nat) (w : World) (h : Byt w w.heap.size A n cap l) (hm : n ≤ 50000) (hk : k ≤ n) (hR : ResC 70 w (plainOut l (k + 2)).1) :
    Calls Tryz.prog 33 #[.slice A n cap, .int .i64 k] w fun e w' => e = .returned (out4V (piOut l k)) ∧ Below w.heap.size w w' := by
  have hk' : ¬ (n : Int) < (k : Int) := by omega
  have hk0 : (0 : Int) ≤ (k : Int) := by omega
  have hk1 : (k : Int) ≤ 50000 := by omega
  have c1 := refAt8_c A n cap l k [60, 63] _ w h (by simp) (by omega) (by simp) (by omega)
  have hln := h.length
  by_cases hp : [60, 63].isPrefixOf (l.drop k) = true
  · have hkl : k + 2 ≤ n := by have := pre_len hp; simp at this; omega
    have c2 := refRead_c A n cap l (k + 2) w h hm hkl
    rw [show ((k + 2 : Nat) : Int) = (k : Int) + 2 by omega] at c2
    rw [hp] at c1
    have C1 := Lib.hid c1
    have HO : Hid (piOut l k = piRest l (plainOut l (k + 2))) := Lib.hid (by unfold piOut; rw [if_neg (by rw [hp]; simp)])
    rw [HO.out]
    have hle := plainOut_le l (k + 2) (by omega)
    clear c1 HO hp
    generalize plainOut l (k + 2) = po at *
    obtain ⟨s, t, f⟩ := po
    unfold outV at c2
    simp only at c2 hle hR
    have C2 := Lib.hid c2
    have HR := Lib.hid hR
    clear c2 hR
    by_cases hf : f = 0
    · subst hf
      have htl := hle rfl
      clear hle
      have CB : Hid (∀ W, Below w.heap.size w W → Calls Tryz.prog 42 #[.slice A n cap, .int .i64 t] W fun e w' => e = .returned (.int .i64 (blankTo l t)) ∧ W = w') := Lib.hid fun W hb => refBlanks_c A n cap l t _ W (h.below hb) (by omega) (by omega)
      have hbt := blankTo_le l t (by omega)
      have CF : Hid (∀ W, Below w.heap.size w W → Calls Tryz.prog 38 #[.slice A n cap, .int .i64 (blankTo l t), .string ⟨#[63, 62]⟩] W fun e w' => e = .returned (.int .i64 (findI l (blankTo l t) [63, 62])) ∧ W = w') := Lib.hid fun W hb => refFind_c A n cap l (blankTo l t) [63, 62] _ W (h.below hb) (by simp) (by omega) (by simp) (by omega)
      have hsp := findI_spec l [63, 62] (blankTo l t) (by omega)
      have HH := Lib.hid h
      have hcap := h.le
      cases hrs : resB s with
      | true =>
        rw [piRest_res l s t hrs]
        unfold ResC at HR
        rw [hrs] at HR
        clear h hln hrs hsp hbt
        go_enter Tryz.func33, Tryz.ntmps33
        go_wp2_with fail
        refine (C1.out).mono ?_
        rintro e wq ⟨rfl, rfl⟩
        go_wp2_with fail
        refine (C2.out).mono ?_
        rintro e w1 ⟨rfl, hb⟩
        have B1 := Lib.hid hb
        clear hb
        go_wp2_with fail
        refine (HR.out _ B1.out).mono ?_
        rintro e w2 ⟨rfl, hb⟩
        have B2 := Lib.hid (B1.out.trans (hb.mono B1.out.size))
        clear hb
        go_wp2
        (try simp only [Exit.inBlock, Exit.then])
        refine bodyPost_ret (results_tmp4 rfl _ _ _) rfl ?_
        exact ⟨rfl, B2.out⟩
      | false =>
        unfold ResC at HR
        rw [hrs] at HR
        have HRS := Lib.hid hrs
        clear hrs
        rcases hsp with ⟨hf, _⟩ | ⟨i, hf, hki, hil, hpre, _⟩
        · rw [piRest_no l s t _ HRS.out rfl (by rw [hf]; omega)]
          rw [hf] at CF
          clear h hln hf hbt
          generalize blankTo l t = b at *
          go_enter Tryz.func33, Tryz.ntmps33
          go_wp2_with fail
          refine (C1.out).mono ?_
          rintro e wq ⟨rfl, rfl⟩
          go_wp2_with fail
          refine (C2.out).mono ?_
          rintro e w1 ⟨rfl, hb⟩
          have B1 := Lib.hid hb
          clear hb
          go_wp2_with fail
          refine (HR.out _ B1.out).mono ?_
          rintro e w2 ⟨rfl, hb⟩
          have B2 := Lib.hid (B1.out.trans (hb.mono B1.out.size))
          clear hb
          go_wp2_with fail
          refine (CB.out _ B2.out).mono ?_
          rintro e wq ⟨rfl, rfl⟩
          go_wp2_with fail
          refine (CF.out _ B2.out).mono ?_
          rintro e wq ⟨rfl, rfl⟩
          go_wp2
          (try simp only [Exit.inBlock, Exit.then])
          refine bodyPost_ret (results_tmp4 rfl _ _ _) rfl ?_
          exact ⟨rfl, B2.out⟩
        · simp at hil
          rw [hf] at CF
          have hi0 : ¬ (i : Int) < 0 := by omega
          have hi1 : (i : Int) ≤ 50000 := by omega
          have ht1 : (t : Int) ≤ 50000 := by omega
          by_cases hbe : blankTo l t = t
          · rw [hbe] at CF CB hf hki
            by_cases hit : i = t
            · subst hit
              rw [piRest_yes l s i i i HRS.out hbe hf (fun _ => rfl)]
              have HST : Hid (∀ W, Below w.heap.size w W → (convert 22 9 (.slice (cutA A cap i) (i - i) (cap - i))).run Tryz.prog W = .ok (.string ⟨((l.drop i).take (i - i)).toArray⟩) W) := Lib.hid fun W hb => (((h.below hb).drop (k := i) (by omega)).take (k := i - i) (by omega)).str
              have hrf : ∀ w2 : World, (Instr.slice 22 (.slice A n cap) (some (.int .i64 (i : Int))) (some (.int .i64 (i : Int))) none).run Tryz.prog w2 = .ok (.slice (cutA A cap i) (i - i) (cap - i)) w2 := fun w2 => run_fromTo (w := w2) A n cap i i (by omega) (by omega)
              clear h hln hf hbt hbe hki hpre hil hcap
              generalize (l.drop i).take (i - i) = T at *
              generalize i - i = ii at *
              go_enter Tryz.func33, Tryz.ntmps33
              go_wp2_with fail
              refine (C1.out).mono ?_
              rintro e wq ⟨rfl, rfl⟩
              go_wp2_with fail
              refine (C2.out).mono ?_
              rintro e w1 ⟨rfl, hb⟩
              have B1 := Lib.hid hb
              clear hb
              go_wp2_with fail
              refine (HR.out _ B1.out).mono ?_
              rintro e w2 ⟨rfl, hb⟩
              have B2 := Lib.hid (B1.out.trans (hb.mono B1.out.size))
              clear hb
              go_wp2_with fail
              refine (CB.out _ B2.out).mono ?_
              rintro e wq ⟨rfl, rfl⟩
              go_wp2_with fail
              refine (CF.out _ B2.out).mono ?_
              rintro e wq ⟨rfl, rfl⟩
              have hst : ∀ m, (convert 22 9 (.slice (cutA A cap i) ii (cap - i))).run Tryz.prog (w2.drewN m) = .ok (.string ⟨T.toArray⟩) (w2.drewN m) := fun m => HST.out _ (below_drewN' B2.out)
              go_wp2
              go_quiet (fail)
              have B3 := Lib.hid (below_drewN' (n := nq) B2.out)
              clear hst
              generalize w2.drewN nq = w3 at *
              go_wp2
              (try simp only [Exit.inBlock, Exit.then])
              refine bodyPost_ret (results_tmp4 rfl _ _ _) rfl ?_
              exact ⟨rfl, B3.out⟩
            · have hitb : ((i : Int) != (t : Int)) = true := by simp; omega
              rw [piRest_tight l s t i HRS.out hbe hf hit]
              clear h hln hf hbt hbe hki hpre hil hcap hit
              go_enter Tryz.func33, Tryz.ntmps33
              go_wp2_with fail
              refine (C1.out).mono ?_
              rintro e wq ⟨rfl, rfl⟩
              go_wp2_with fail
              refine (C2.out).mono ?_
              rintro e w1 ⟨rfl, hb⟩
              have B1 := Lib.hid hb
              clear hb
              go_wp2_with fail
              refine (HR.out _ B1.out).mono ?_
              rintro e w2 ⟨rfl, hb⟩
              have B2 := Lib.hid (B1.out.trans (hb.mono B1.out.size))
              clear hb
              go_wp2_with fail
              refine (CB.out _ B2.out).mono ?_
              rintro e wq ⟨rfl, rfl⟩
              go_wp2_with fail
              refine (CF.out _ B2.out).mono ?_
              rintro e wq ⟨rfl, rfl⟩
              go_wp2
              (try simp only [Exit.inBlock, Exit.then])
              refine bodyPost_ret (results_tmp4 rfl _ _ _) rfl ?_
              exact ⟨rfl, B2.out⟩
          · rw [piRest_yes l s t _ i HRS.out rfl hf (fun e => absurd e hbe)]
            have hbne : ((blankTo l t : Int) == (t : Int)) = false := by simp; omega
            have HST : Hid (∀ W, Below w.heap.size w W → (convert 22 9 (.slice (cutA A cap (blankTo l t)) (i - blankTo l t) (cap - blankTo l t))).run Tryz.prog W = .ok (.string ⟨((l.drop (blankTo l t)).take (i - blankTo l t)).toArray⟩) W) := Lib.hid fun W hb => (((h.below hb).drop (k := blankTo l t) (by omega)).take (k := i - blankTo l t) (by omega)).str
            have hrf : ∀ w2 : World, (Instr.slice 22 (.slice A n cap) (some (.int .i64 (blankTo l t : Int))) (some (.int .i64 (i : Int))) none).run Tryz.prog w2 = .ok (.slice (cutA A cap (blankTo l t)) (i - blankTo l t) (cap - blankTo l t)) w2 := fun w2 => run_fromTo (w := w2) A n cap (blankTo l t) i (by omega) (by omega)
            clear h hln hf hbt hbe hki hpre hil hcap
            generalize (l.drop (blankTo l t)).take (i - blankTo l t) = T at *
            generalize i - blankTo l t = ii at *
            generalize blankTo l t = b at *
            go_enter Tryz.func33, Tryz.ntmps33
            go_wp2_with fail
            refine (C1.out).mono ?_
            rintro e wq ⟨rfl, rfl⟩
            go_wp2_with fail
            refine (C2.out).mono ?_
            rintro e w1 ⟨rfl, hb⟩
            have B1 := Lib.hid hb
            clear hb
            go_wp2_with fail
            refine (HR.out _ B1.out).mono ?_
            rintro e w2 ⟨rfl, hb⟩
            have B2 := Lib.hid (B1.out.trans (hb.mono B1.out.size))
            clear hb
            go_wp2_with fail
            refine (CB.out _ B2.out).mono ?_
            rintro e wq ⟨rfl, rfl⟩
            go_wp2_with fail
            refine (CF.out _ B2.out).mono ?_
            rintro e wq ⟨rfl, rfl⟩
            have hst : ∀ m, (convert 22 9 (.slice (cutA A cap b) ii (cap - b))).run Tryz.prog (w2.drewN m) = .ok (.string ⟨T.toArray⟩) (w2.drewN m) := fun m => HST.out _ (below_drewN' B2.out)
            go_wp2
            go_quiet (fail)
            have B3 := Lib.hid (below_drewN' (n := nq) B2.out)
            clear hst
            generalize w2.drewN nq = w3 at *
            go_wp2
            (try simp only [Exit.inBlock, Exit.then])
            refine bodyPost_ret (results_tmp4 rfl _ _ _) rfl ?_
            exact ⟨rfl, B3.out⟩
    · have hfz : ((f : Int) != 0) = true := by simp; omega
      rw [piRest_err l s t f hf]
      clear h hln hf hle HR
      go_enter Tryz.func33, Tryz.ntmps33
      go_wp2_with fail
      refine (C1.out).mono ?_
      rintro e wq ⟨rfl, rfl⟩
      go_wp2_with fail
      refine (C2.out).mono ?_
      rintro e w1 ⟨rfl, hb⟩
      have B1 := Lib.hid hb
      clear hb
      go_wp2
      (try simp only [Exit.inBlock, Exit.then])
      refine bodyPost_ret (results_tmp4 rfl _ _ _) rfl ?_
      exact ⟨rfl, B1.out⟩
  · have hp' := bfalse hp
    rw [hp'] at c1
    have C1 := Lib.hid c1
    have HO : Hid (piOut l k = ([], [], 0, 7)) := Lib.hid (by unfold piOut; rw [if_pos hp'])
    rw [HO.out]
    clear c1 h hp hp' hln HO hR
    go_enter Tryz.func33, Tryz.ntmps33
    go_wp2_with fail
    refine (C1.out).mono ?_
    rintro e wq ⟨rfl, rfl⟩
    go_wp2
    (try simp only [Exit.inBlock, Exit.then])
    refine bodyPost_ret (results_tmp4 rfl _ _ _) rfl ?_
    exact ⟨rfl, Below.refl _ _⟩
end Go.Proofs.YtmclngahdklfkaaGreatDoor
/- misc.Pi. -/
namespace Go.Proofs.YtmclngahdklfkaaGreatDoor
open Go.ChangeShapes Go.WideShapes Go.ChangeAt Go.RowKit
set_option linter.unusedVariables false
theorem findI_index (l p : List UInt8) (k : Nat) : (Lib.index (l.drop k) p < 0 ∧ findI l k p = -1 ∧ Lib.index (l.drop k) p = -1) ∨ ∃ j : Nat, Lib.index (l.drop k) p = (j : Int) ∧ findI l k p = ((k + j : Nat) : Int) := by
  have hge := Lib.index_ge (l.drop k) p
  by_cases h : Lib.index (l.drop k) p < 0
  · refine .inl ⟨h, ?_, by omega⟩
    unfold findI
    rw [if_pos h]
  · refine .inr ⟨(Lib.index (l.drop k) p).toNat, by omega, ?_⟩
    unfold findI
    rw [if_neg h]
    omega
set_option maxRecDepth 100000 in
set_option maxHeartbeats 4000000 in
theorem miscPi_range (A : Option Addr) (n cap : Nat) (at_ : Int) (w : World) (ha : at_ < 0 ∨ (n : Int) < at_) :
    Calls Tryz.prog 63 #[.slice A n cap, .int .i64 at_] w fun e w' => e = .returned (out4V ([], [], 0, 3)) ∧ Below w.heap.size w w' := by
  by_cases h0 : at_ < 0
  · have hd : decide (at_ < 0) = true := by simpa using h0
    clear ha
    go_enter Tryz.func63, Tryz.ntmps63
    go_wp2
    (try simp only [Exit.inBlock, Exit.then])
    refine bodyPost_ret (results_tmp4 rfl _ _ _) rfl ?_
    exact ⟨rfl, Below.refl _ _⟩
  · have h1 : (n : Int) < at_ := by omega
    clear ha
    go_enter Tryz.func63, Tryz.ntmps63
    go_wp2
    (try simp only [Exit.inBlock, Exit.then])
    refine bodyPost_ret (results_tmp4 rfl _ _ _) rfl ?_
    exact ⟨rfl, Below.refl _ _⟩
set_option maxRecDepth 100000 in
set_option maxHeartbeats 4000000 in
theorem miscPi_in (A : Option Addr) (n cap : Nat) (l : List UInt8) (k : Nat) (w : World) (h : Byt w w.heap.size A n cap l) (hF : Forms w) (hT : TabN w) (hM : MaxL w) (hm : n ≤ 50000) (hk : k ≤ n) (hR : ResC 85 w (plainOut l (k + 2)).1) :
    Calls Tryz.prog 63 #[.slice A n cap, .int .i64 k] w fun e w' => e = .returned (out4V (piOut l k)) ∧ Below w.heap.size w w' := by
  have kc := fun (w : World) (C : Array Value) (n c : Nat) => Lib.run_convert_bytes_const (P := Tryz.prog) w 22 5 C n c Tryz.underlying22 Tryz.underlying5
  have hk' : ¬ (n : Int) < (k : Int) := by omega
  have hk0 : (0 : Int) ≤ (k : Int) := by omega
  have hk1 : (k : Int) ≤ 50000 := by omega
  have hln := h.length
  have hrk : ∀ W : World, (Instr.slice 22 (.slice A n cap) (some (.int .i64 (k : Int))) none none).run Tryz.prog W = .ok (.slice (cutA A cap k) (n - k) (cap - k)) W := fun W => run_from A n cap k hk
  have hL := hT.low hF
  have hA0 := alloc_const w [60, 63] (2, 3) (by simp)
  have C1 := Lib.hid (hasPrefix_c _ _ _ _ _ _ _ _ _ _ _ ((h.below hA0.1).drop hk) hA0.2)
  have B0 := Lib.hid hA0.1
  have hcap := h.le
  have HH := Lib.hid (And.intro h (And.intro hF (And.intro hT (And.intro hM hL))))
  clear hA0
  by_cases hp : [60, 63].isPrefixOf (l.drop k) = true
  · have hkl : k + 2 ≤ n := by have := pre_len hp; simp at this; omega
    rw [hp] at C1
    have HO : Hid (piOut l k = piRest l (plainOut l (k + 2))) := Lib.hid (by unfold piOut; rw [if_neg (by rw [hp]; simp)])
    rw [HO.out]
    have hle := plainOut_le l (k + 2) (by omega)
    have C2 : Hid (∀ W, Below w.heap.size w W → Calls Tryz.prog 95 #[.slice A n cap, .int .i64 ((k : Int) + 2)] W fun e w' => e = .returned (outV (plainOut l (k + 2))) ∧ Below W.heap.size W w') := Lib.hid fun W hb => by
      have := plain_c A n cap l (k + 2) W ((h.below hb).more hb.size) (hF.below hb hF.lt) (hT.below hb hL) (by omega) hkl
      rwa [show ((k + 2 : Nat) : Int) = (k : Int) + 2 by omega] at this
    clear HO hp
    generalize plainOut l (k + 2) = po at *
    obtain ⟨s, t, f⟩ := po
    unfold outV at C2
    simp only at C2 hle hR
    have HR := Lib.hid hR
    clear hR
    by_cases hf : f = 0
    · subst hf
      have htl := hle rfl
      clear hle
      have CB : Hid (∀ W, Below w.heap.size w W → Calls Tryz.prog 43 #[.slice A n cap, .int .i64 t] W fun e w' => e = .returned (.int .i64 (blankTo l t)) ∧ W = w') := Lib.hid fun W hb => blanks_c A n cap l t _ W (h.below hb) (by omega) (by omega)
      have hbt := blankTo_le l t (by omega)
      cases hrs : resB s with
      | true =>
        rw [piRest_res l s t hrs]
        unfold ResC at HR
        rw [hrs] at HR
        clear h hF hT hM hL hln hrs hbt hcap
        go_enter Tryz.func63, Tryz.ntmps63
        go_wp2_with fail
        refine C1.out.mono ?_
        rintro e w1 ⟨rfl, rfl⟩
        clear kc
        go_wp2_with fail
        refine (C2.out _ B0.out).mono ?_
        rintro e w2 ⟨rfl, hb⟩
        have B1 := Lib.hid (B0.out.trans (hb.mono B0.out.size))
        clear hb
        go_wp2_with fail
        refine (HR.out _ B1.out).mono ?_
        rintro e w3 ⟨rfl, hb⟩
        have B2 := Lib.hid (B1.out.trans (hb.mono B1.out.size))
        clear hb
        go_wp2
        (try simp only [Exit.inBlock, Exit.then])
        refine bodyPost_ret (results_tmp4 rfl _ _ _) rfl ?_
        exact ⟨rfl, B2.out⟩
      | false =>
        unfold ResC at HR
        rw [hrs] at HR
        have HRS := Lib.hid hrs
        clear hrs
        have hrb : ∀ W : World, (Instr.slice 22 (.slice A n cap) (some (.int .i64 (blankTo l t : Int))) none none).run Tryz.prog W = .ok (.slice (cutA A cap (blankTo l t)) (n - blankTo l t) (cap - blankTo l t)) W := fun W => run_from A n cap (blankTo l t) (by omega)
        have CI : Hid (∀ W, Below w.heap.size w W → Calls Tryz.prog 96 #[.slice (cutA A cap (blankTo l t)) (n - blankTo l t) (cap - blankTo l t), .slice (some ⟨W.heap.size, 0, none⟩) 2 2] (W.alloc (.cells #[.int .u8 63, .int .u8 62] 5 (2, 3))) fun e w' => e = .returned (.int .i64 (Lib.index (l.drop (blankTo l t)) [63, 62])) ∧ Hid (Below w.heap.size w w')) := Lib.hid fun W hb => by
          have hA1 := alloc_const W [63, 62] (2, 3) (by simp)
          have hb1 := hb.trans (hA1.1.mono hb.size)
          exact (bindex_c _ _ _ _ _ _ _ _ _ _ _ ((h.below hb1).drop (k := blankTo l t) (by omega)) hA1.2 (hM.below hb1 hM.lt) (by simp) (by omega) (by simp)).mono fun e w' ⟨he, q, hq⟩ => ⟨he, Lib.hid (hq ▸ below_drewN' hb1)⟩
        rcases findI_index l [63, 62] (blankTo l t) with ⟨_, hf, hx⟩ | ⟨j, hx, hf⟩
        · rw [piRest_no l s t _ HRS.out rfl (by rw [hf]; omega)]
          rw [hx] at CI
          clear h hF hT hM hL hln hf hbt hcap hx
          generalize blankTo l t = b at *
          generalize n - b = nb at *
          generalize cap - b = cb at *
          go_enter Tryz.func63, Tryz.ntmps63
          go_wp2_with fail
          refine C1.out.mono ?_
          rintro e w1 ⟨rfl, rfl⟩
          go_wp2_with fail
          refine (C2.out _ B0.out).mono ?_
          rintro e w2 ⟨rfl, hb⟩
          have B1 := Lib.hid (B0.out.trans (hb.mono B0.out.size))
          clear hb
          go_wp2_with fail
          refine (HR.out _ B1.out).mono ?_
          rintro e w3 ⟨rfl, hb⟩
          have B2 := Lib.hid (B1.out.trans (hb.mono B1.out.size))
          clear hb
          go_wp2_with fail
          refine (CB.out _ B2.out).mono ?_
          rintro e wq ⟨rfl, rfl⟩
          go_wp2_with fail
          refine (CI.out _ B2.out).mono ?_
          rintro e w4 ⟨rfl, B3⟩
          clear kc
          go_wp2
          (try simp only [Exit.inBlock, Exit.then])
          refine bodyPost_ret (results_tmp4 rfl _ _ _) rfl ?_
          exact ⟨rfl, B3.out⟩
        · have hjl : blankTo l t + j + 2 ≤ l.length := by
            have := Lib.index_room (l.drop (blankTo l t)) [63, 62] (by rw [hx]; omega)
            rw [hx, List.length_drop] at this
            simp at this
            omega
          rw [hx] at CI
          have hj0 : ¬ (j : Int) < 0 := by omega
          have hj1 : (j : Int) ≤ 50000 := by omega
          have ht1 : (t : Int) ≤ 50000 := by omega
          have hb1 : (blankTo l t : Int) ≤ 50000 := by omega
          by_cases hjt : blankTo l t = t ∧ 0 < j
          · have hres : piRest l (s, t, 0) = ([], [], 0, 7) := piRest_tight l s t (t + j) HRS.out hjt.1 (by rw [← hjt.1, hf, hjt.1]) (by omega)
            rw [hres]
            have hbe : ((blankTo l t : Int) == (t : Int)) = true := by simp; omega
            have hjp : (0 : Int) < (j : Int) := by omega
            clear h hF hT hM hL hln hf hbt hcap hx hres hjl hjt
            generalize blankTo l t = b at *
            generalize n - b = nb at *
            generalize cap - b = cb at *
            go_enter Tryz.func63, Tryz.ntmps63
            go_wp2_with fail
            refine C1.out.mono ?_
            rintro e w1 ⟨rfl, rfl⟩
            go_wp2_with fail
            refine (C2.out _ B0.out).mono ?_
            rintro e w2 ⟨rfl, hb⟩
            have B1 := Lib.hid (B0.out.trans (hb.mono B0.out.size))
            clear hb
            go_wp2_with fail
            refine (HR.out _ B1.out).mono ?_
            rintro e w3 ⟨rfl, hb⟩
            have B2 := Lib.hid (B1.out.trans (hb.mono B1.out.size))
            clear hb
            go_wp2_with fail
            refine (CB.out _ B2.out).mono ?_
            rintro e wq ⟨rfl, rfl⟩
            go_wp2_with fail
            refine (CI.out _ B2.out).mono ?_
            rintro e w4 ⟨rfl, B3⟩
            clear kc
            go_wp2
            (try simp only [Exit.inBlock, Exit.then])
            refine bodyPost_ret (results_tmp4 rfl _ _ _) rfl ?_
            exact ⟨rfl, B3.out⟩
          · have hres : piRest l (s, t, 0) = (s, (l.drop (blankTo l t)).take j, blankTo l t + j + 2, 0) := by
              have := piRest_yes l s t (blankTo l t) (blankTo l t + j) HRS.out rfl hf (fun e => by
                rcases Nat.eq_zero_or_pos j with g | g
                · omega
                · exact absurd ⟨e, g⟩ hjt)
              rw [this, show blankTo l t + j - blankTo l t = j by omega]
            rw [hres]
            have HST : Hid (∀ W, Below w.heap.size w W → (convert 22 9 (.slice (cutA A cap (blankTo l t)) j (cap - blankTo l t))).run Tryz.prog W = .ok (.string ⟨((l.drop (blankTo l t)).take j).toArray⟩) W) := Lib.hid fun W hb => (((h.below hb).drop (k := blankTo l t) (by omega)).take (k := j) (by omega)).str
            have hrf : ∀ w2 : World, (Instr.slice 22 (.slice A n cap) (some (.int .i64 (blankTo l t : Int))) (some (.int .i64 ((blankTo l t : Int) + (j : Int)))) none).run Tryz.prog w2 = .ok (.slice (cutA A cap (blankTo l t)) j (cap - blankTo l t)) w2 := fun w2 => by
              have := run_fromTo (w := w2) A n cap (blankTo l t) (blankTo l t + j) (by omega) (by omega)
              rwa [show blankTo l t + j - blankTo l t = j by omega, show ((blankTo l t + j : Nat) : Int) = (blankTo l t : Int) + (j : Int) by omega] at this
            rcases (show blankTo l t ≠ t ∨ (blankTo l t = t ∧ j = 0) by omega) with hbne | ⟨hbe, hj00⟩
            · have hbe : ((blankTo l t : Int) == (t : Int)) = false := by simp; omega
              clear h hF hT hM hL hln hf hbt hcap hx hres hjl hjt hbne
              generalize (l.drop (blankTo l t)).take j = T at *
              generalize blankTo l t = b at *
              generalize n - b = nb at *
              generalize cap - b = cb at *
              go_enter Tryz.func63, Tryz.ntmps63
              go_wp2_with fail
              refine C1.out.mono ?_
              rintro e w1 ⟨rfl, rfl⟩
              go_wp2_with fail
              refine (C2.out _ B0.out).mono ?_
              rintro e w2 ⟨rfl, hb⟩
              have B1 := Lib.hid (B0.out.trans (hb.mono B0.out.size))
              clear hb
              go_wp2_with fail
              refine (HR.out _ B1.out).mono ?_
              rintro e w3 ⟨rfl, hb⟩
              have B2 := Lib.hid (B1.out.trans (hb.mono B1.out.size))
              clear hb
              go_wp2_with fail
              refine (CB.out _ B2.out).mono ?_
              rintro e wq ⟨rfl, rfl⟩
              go_wp2_with fail
              refine (CI.out _ B2.out).mono ?_
              rintro e w4 ⟨rfl, B3⟩
              clear kc
              have hst : ∀ m, (convert 22 9 (.slice (cutA A cap b) j cb)).run Tryz.prog (w4.drewN m) = .ok (.string ⟨T.toArray⟩) (w4.drewN m) := fun m => HST.out _ (below_drewN' B3.out)
              have hs1 : IntKind.i64.wrap ((b : Int) + (j : Int)) = (b : Int) + (j : Int) := by rw [IntKind.wrap_i64]; omega
              have hs2 : IntKind.i64.wrap ((b : Int) + (j : Int) + 2) = (b : Int) + (j : Int) + 2 := by rw [IntKind.wrap_i64]; omega
              go_wp2
              go_quiet (fail)
              have B4 := Lib.hid (below_drewN' (n := nq) B3.out)
              clear hst
              generalize w4.drewN nq = w5 at *
              go_wp2
              (try simp only [Exit.inBlock, Exit.then])
              refine bodyPost_ret (results_tmp4 rfl _ _ _) rfl ?_
              exact ⟨rfl, B4.out⟩
            · subst hj00
              have hbe' : ((blankTo l t : Int) == (t : Int)) = true := by simp; omega
              clear h hF hT hM hL hln hf hbt hcap hx hres hjl hjt hbe
              generalize (l.drop (blankTo l t)).take 0 = T at *
              generalize blankTo l t = b at *
              generalize n - b = nb at *
              generalize cap - b = cb at *
              go_enter Tryz.func63, Tryz.ntmps63
              go_wp2_with fail
              refine C1.out.mono ?_
              rintro e w1 ⟨rfl, rfl⟩
              go_wp2_with fail
              refine (C2.out _ B0.out).mono ?_
              rintro e w2 ⟨rfl, hb⟩
              have B1 := Lib.hid (B0.out.trans (hb.mono B0.out.size))
              clear hb
              go_wp2_with fail
              refine (HR.out _ B1.out).mono ?_
              rintro e w3 ⟨rfl, hb⟩
              have B2 := Lib.hid (B1.out.trans (hb.mono B1.out.size))
              clear hb
              go_wp2_with fail
              refine (CB.out _ B2.out).mono ?_
              rintro e wq ⟨rfl, rfl⟩
              go_wp2_with fail
              refine (CI.out _ B2.out).mono ?_
              rintro e w4 ⟨rfl, B3⟩
              clear kc
              have hst : ∀ m, (convert 22 9 (.slice (cutA A cap b) 0 cb)).run Tryz.prog (w4.drewN m) = .ok (.string ⟨T.toArray⟩) (w4.drewN m) := fun m => HST.out _ (below_drewN' B3.out)
              have hrf2 := hrf
              simp only [Int.natCast_zero, Int.add_zero] at hrf2
              go_wp2
              go_quiet (fail)
              have B4 := Lib.hid (below_drewN' (n := nq) B3.out)
              clear hst
              generalize w4.drewN nq = w5 at *
              go_wp2
              (try simp only [Exit.inBlock, Exit.then])
              refine bodyPost_ret (results_tmp4 rfl _ _ _) rfl ?_
              exact ⟨rfl, B4.out⟩
    · have hfz : ((f : Int) != 0) = true := by simp; omega
      rw [piRest_err l s t f hf]
      clear h hF hT hM hL hln hf hle HR hcap
      go_enter Tryz.func63, Tryz.ntmps63
      go_wp2_with fail
      refine C1.out.mono ?_
      rintro e w1 ⟨rfl, rfl⟩
      clear kc
      go_wp2_with fail
      refine (C2.out _ B0.out).mono ?_
      rintro e w2 ⟨rfl, hb⟩
      have B1 := Lib.hid (B0.out.trans (hb.mono B0.out.size))
      clear hb
      go_wp2
      (try simp only [Exit.inBlock, Exit.then])
      refine bodyPost_ret (results_tmp4 rfl _ _ _) rfl ?_
      exact ⟨rfl, B1.out⟩
  · have hp' := bfalse hp
    rw [hp'] at C1
    have HO : Hid (piOut l k = ([], [], 0, 7)) := Lib.hid (by unfold piOut; rw [if_pos hp'])
    rw [HO.out]
    clear h hF hT hM hL hp hp' hln HO hR hcap
    go_enter Tryz.func63, Tryz.ntmps63
    go_wp2_with fail
    refine C1.out.mono ?_
    rintro e w1 ⟨rfl, rfl⟩
    clear kc
    go_wp2
    (try simp only [Exit.inBlock, Exit.then])
    refine bodyPost_ret (results_tmp4 rfl _ _ _) rfl ?_
    exact ⟨rfl, B0.out⟩
end Go.Proofs.YtmclngahdklfkaaGreatDoor
/- Plain law: comments and marked texts as they are put. -/
namespace Go.Proofs.YtmclngahdklfkaaGreatDoor
open Go.ChangeShapes Go.WideShapes Go.ChangeAt Go.RowKit
set_option linter.unusedVariables false
end Go.Proofs.YtmclngahdklfkaaGreatDoor
/- Statements of chapter 8. -/
namespace Go.Proofs.YtmclngahdklfkaaGreatDoor
open Go.ChangeShapes Go.WideShapes Go.ChangeAt Go.RowKit
set_option linter.unusedVariables false
set_option maxRecDepth 100000 in
set_option maxHeartbeats 4000000 in
theorem reserved_len (s : List UInt8) (w : World) (hs : s.length ≠ 3) : Calls Tryz.prog 85 #[.string ⟨s.toArray⟩] w fun e w' => e = .returned (.bool false) ∧ w = w' := by
  have hl : ((s.length : Int) == 3) = false := by simp; omega
  go_enter Tryz.func85, Tryz.ntmps85
  go_wp2
  go_ret
  exact ⟨rfl, rfl⟩
/-- What is asked of the world. -/
structure W8 (w : World) : Prop where
  tabs : TabN w
  forms : Forms w
  maxl : MaxL w
theorem W8.below {w w' : World} (h : W8 w) (hb : Below w.heap.size w w') : W8 w' := ⟨h.tabs.below hb (h.tabs.low h.forms), h.forms.below hb h.forms.lt, h.maxl.below hb h.maxl.lt⟩
end Go.Proofs.YtmclngahdklfkaaGreatDoor
/- Reserved names. -/
namespace Go.Proofs.YtmclngahdklfkaaGreatDoor
open Go.ChangeShapes Go.WideShapes Go.ChangeAt Go.RowKit
set_option linter.unusedVariables false
theorem resB_len (s : List UInt8) (h : s.length ≠ 3) : resB s = false := by
  unfold resB
  match s, h with
  | [], _ => rfl
  | [_], _ => simp [Lib.equalFold]
  | [_, _], _ => simp [Lib.equalFold]
  | [_, _, _], h => simp at h
  | _ :: _ :: _ :: _ :: _, _ => simp [Lib.equalFold]
theorem resB_three (a b c : UInt8) : resB [a, b, c] = (Lib.foldEq a 120 && (Lib.foldEq b 109 && Lib.foldEq c 108)) := by
  unfold resB
  simp [Lib.equalFold]
theorem fold_not (a u v : UInt8) (hu : 97 ≤ u.toNat) (hv : v.toNat + 32 = u.toNat) (h1 : ¬ a = u) (h2 : ¬ a = v) : Lib.foldEq a u = false := by
  unfold Lib.foldEq
  have n1 : ¬ a.toNat = u.toNat := fun e => h1 (UInt8.toNat_inj.1 e)
  have n2 : ¬ a.toNat = v.toNat := fun e => h2 (UInt8.toNat_inj.1 e)
  exact decide_eq_false (by omega)
set_option maxRecDepth 100000 in
set_option maxHeartbeats 4000000 in
theorem refReserved_len (s : List UInt8) (w : World) (hs : s.length ≠ 3) : Calls Tryz.prog 70 #[.string ⟨s.toArray⟩] w fun e w' => e = .returned (.bool (resB s)) ∧ w = w' := by
  rw [resB_len s hs]
  have hl : ((s.length : Int) != 3) = true := by simp; omega
  go_enter Tryz.func70, Tryz.ntmps70
  go_wp2
  go_ret
  exact ⟨rfl, rfl⟩
set_option maxRecDepth 100000 in
set_option maxHeartbeats 4000000 in
theorem refReserved_three (a b c : UInt8) (w : World) : Calls Tryz.prog 70 #[.string ⟨[a, b, c].toArray⟩] w fun e w' => e = .returned (.bool (resB [a, b, c])) ∧ w = w' := by
  rw [resB_three]
  have i0 : (Instr.index 9 (.string ⟨[a, b, c].toArray⟩) (.int .i64 0)).run Tryz.prog w = .ok (.int .u8 (a.toNat : Int)) w := run_strIndex [a, b, c] 0 (by simp) w
  have i1 : (Instr.index 9 (.string ⟨[a, b, c].toArray⟩) (.int .i64 1)).run Tryz.prog w = .ok (.int .u8 (b.toNat : Int)) w := run_strIndex [a, b, c] 1 (by simp) w
  have i2 : (Instr.index 9 (.string ⟨[a, b, c].toArray⟩) (.int .i64 2)).run Tryz.prog w = .ok (.int .u8 (c.toNat : Int)) w := run_strIndex [a, b, c] 2 (by simp) w
  have hsz : (⟨[a, b, c].toArray⟩ : ByteArray).size = 3 := rfl
  generalize (⟨[a, b, c].toArray⟩ : ByteArray) = S at *
  by_cases ha1 : a = 120
  · subst ha1
    have ea : Lib.foldEq 120 120 = true := by decide
    have ta : (UInt8.toNat 120 : Int) = 120 := rfl
    rw [ta] at i0
    by_cases hb1 : b = 109
    · subst hb1
      have eb : Lib.foldEq 109 109 = true := by decide
      have tb : (UInt8.toNat 109 : Int) = 109 := rfl
      rw [tb] at i1
      by_cases hc1 : c = 108
      · subst hc1
        have ec : Lib.foldEq 108 108 = true := by decide
        have tc : (UInt8.toNat 108 : Int) = 108 := rfl
        rw [tc] at i2
        rw [ea, eb, ec]
        clear ea ta eb tb ec tc
        go_enter Tryz.func70, Tryz.ntmps70
        go_wp2
        go_ret
        exact ⟨rfl, rfl⟩
      · by_cases hc2 : c = 76
        · subst hc2
          have ec : Lib.foldEq 76 108 = true := by decide
          have tc : (UInt8.toNat 76 : Int) = 76 := rfl
          rw [tc] at i2
          rw [ea, eb, ec]
          clear ea ta eb tb ec tc hc1
          go_enter Tryz.func70, Tryz.ntmps70
          go_wp2
          go_ret
          exact ⟨rfl, rfl⟩
        · have ec : Lib.foldEq c 108 = false := fold_not c 108 76 (by decide) (by decide) hc1 hc2
          have nc : ((c.toNat : Int) == 108) = false := ne_byte c 108 108 rfl hc1
          have mc : ((c.toNat : Int) == 76) = false := ne_byte c 76 76 rfl hc2
          rw [ea, eb, ec]
          clear ea ta eb tb ec hc1 hc2
          go_enter Tryz.func70, Tryz.ntmps70
          go_wp2
          go_ret
          exact ⟨rfl, rfl⟩
    · by_cases hb2 : b = 77
      · subst hb2
        have eb : Lib.foldEq 77 109 = true := by decide
        have tb : (UInt8.toNat 77 : Int) = 77 := rfl
        rw [tb] at i1
        by_cases hc1 : c = 108
        · subst hc1
          have ec : Lib.foldEq 108 108 = true := by decide
          have tc : (UInt8.toNat 108 : Int) = 108 := rfl
          rw [tc] at i2
          rw [ea, eb, ec]
          clear ea ta eb tb hb1 ec tc
          go_enter Tryz.func70, Tryz.ntmps70
          go_wp2
          go_ret
          exact ⟨rfl, rfl⟩
        · by_cases hc2 : c = 76
          · subst hc2
            have ec : Lib.foldEq 76 108 = true := by decide
            have tc : (UInt8.toNat 76 : Int) = 76 := rfl
            rw [tc] at i2
            rw [ea, eb, ec]
            clear ea ta eb tb hb1 ec tc hc1
            go_enter Tryz.func70, Tryz.ntmps70
            go_wp2
            go_ret
            exact ⟨rfl, rfl⟩
          · have ec : Lib.foldEq c 108 = false := fold_not c 108 76 (by decide) (by decide) hc1 hc2
            have nc : ((c.toNat : Int) == 108) = false := ne_byte c 108 108 rfl hc1
            have mc : ((c.toNat : Int) == 76) = false := ne_byte c 76 76 rfl hc2
            rw [ea, eb, ec]
            clear ea ta eb tb hb1 ec hc1 hc2
            go_enter Tryz.func70, Tryz.ntmps70
            go_wp2
            go_ret
            exact ⟨rfl, rfl⟩
      · have eb : Lib.foldEq b 109 = false := fold_not b 109 77 (by decide) (by decide) hb1 hb2
        have nb : ((b.toNat : Int) == 109) = false := ne_byte b 109 109 rfl hb1
        have mb : ((b.toNat : Int) == 77) = false := ne_byte b 77 77 rfl hb2
        rw [ea, eb]
        clear ea ta eb hb1 hb2
        go_enter Tryz.func70, Tryz.ntmps70
        go_wp2
        go_ret
        exact ⟨rfl, rfl⟩
  · by_cases ha2 : a = 88
    · subst ha2
      have ea : Lib.foldEq 88 120 = true := by decide
      have ta : (UInt8.toNat 88 : Int) = 88 := rfl
      rw [ta] at i0
      by_cases hb1 : b = 109
      · subst hb1
        have eb : Lib.foldEq 109 109 = true := by decide
        have tb : (UInt8.toNat 109 : Int) = 109 := rfl
        rw [tb] at i1
        by_cases hc1 : c = 108
        · subst hc1
          have ec : Lib.foldEq 108 108 = true := by decide
          have tc : (UInt8.toNat 108 : Int) = 108 := rfl
          rw [tc] at i2
          rw [ea, eb, ec]
          clear ea ta ha1 eb tb ec tc
          go_enter Tryz.func70, Tryz.ntmps70
          go_wp2
          go_ret
          exact ⟨rfl, rfl⟩
        · by_cases hc2 : c = 76
          · subst hc2
            have ec : Lib.foldEq 76 108 = true := by decide
            have tc : (UInt8.toNat 76 : Int) = 76 := rfl
            rw [tc] at i2
            rw [ea, eb, ec]
            clear ea ta ha1 eb tb ec tc hc1
            go_enter Tryz.func70, Tryz.ntmps70
            go_wp2
            go_ret
            exact ⟨rfl, rfl⟩
          · have ec : Lib.foldEq c 108 = false := fold_not c 108 76 (by decide) (by decide) hc1 hc2
            have nc : ((c.toNat : Int) == 108) = false := ne_byte c 108 108 rfl hc1
            have mc : ((c.toNat : Int) == 76) = false := ne_byte c 76 76 rfl hc2
            rw [ea, eb, ec]
            clear ea ta ha1 eb tb ec hc1 hc2
            go_enter Tryz.func70, Tryz.ntmps70
            go_wp2
            go_ret
            exact ⟨rfl, rfl⟩
      · by_cases hb2 : b = 77
        · subst hb2
          have eb : Lib.foldEq 77 109 = true := by decide
          have tb : (UInt8.toNat 77 : Int) = 77 := rfl
          rw [tb] at i1
          by_cases hc1 : c = 108
          · subst hc1
            have ec : Lib.foldEq 108 108 = true := by decide
            have tc : (UInt8.toNat 108 : Int) = 108 := rfl
            rw [tc] at i2
            rw [ea, eb, ec]
            clear ea ta ha1 eb tb hb1 ec tc
            go_enter Tryz.func70, Tryz.ntmps70
            go_wp2
            go_ret
            exact ⟨rfl, rfl⟩
          · by_cases hc2 : c = 76
            · subst hc2
              have ec : Lib.foldEq 76 108 = true := by decide
              have tc : (UInt8.toNat 76 : Int) = 76 := rfl
              rw [tc] at i2
              rw [ea, eb, ec]
              clear ea ta ha1 eb tb hb1 ec tc hc1
              go_enter Tryz.func70, Tryz.ntmps70
              go_wp2
              go_ret
              exact ⟨rfl, rfl⟩
            · have ec : Lib.foldEq c 108 = false := fold_not c 108 76 (by decide) (by decide) hc1 hc2
              have nc : ((c.toNat : Int) == 108) = false := ne_byte c 108 108 rfl hc1
              have mc : ((c.toNat : Int) == 76) = false := ne_byte c 76 76 rfl hc2
              rw [ea, eb, ec]
              clear ea ta ha1 eb tb hb1 ec hc1 hc2
              go_enter Tryz.func70, Tryz.ntmps70
              go_wp2
              go_ret
              exact ⟨rfl, rfl⟩
        · have eb : Lib.foldEq b 109 = false := fold_not b 109 77 (by decide) (by decide) hb1 hb2
          have nb : ((b.toNat : Int) == 109) = false := ne_byte b 109 109 rfl hb1
          have mb : ((b.toNat : Int) == 77) = false := ne_byte b 77 77 rfl hb2
          rw [ea, eb]
          clear ea ta ha1 eb hb1 hb2
          go_enter Tryz.func70, Tryz.ntmps70
          go_wp2
          go_ret
          exact ⟨rfl, rfl⟩
    · have ea : Lib.foldEq a 120 = false := fold_not a 120 88 (by decide) (by decide) ha1 ha2
      have na : ((a.toNat : Int) == 120) = false := ne_byte a 120 120 rfl ha1
      have ma : ((a.toNat : Int) == 88) = false := ne_byte a 88 88 rfl ha2
      rw [ea]
      clear ea ha1 ha2
      go_enter Tryz.func70, Tryz.ntmps70
      go_wp2
      go_ret
      exact ⟨rfl, rfl⟩
theorem refReserved_c (s : List UInt8) (w : World) : Calls Tryz.prog 70 #[.string ⟨s.toArray⟩] w fun e w' => e = .returned (.bool (resB s)) ∧ w = w' := by
  by_cases h : s.length = 3
  · match s, h with
    | [a, b, c], _ => exact refReserved_three a b c w
  · exact refReserved_len s w h
set_option maxRecDepth 100000 in
set_option maxHeartbeats 4000000 in
theorem miscReserved_c (s : List UInt8) (w : World) (hT : FoldT w) : Calls Tryz.prog 85 #[.string ⟨s.toArray⟩] w fun e w' => e = .returned (.bool (resB s)) ∧ Below w.heap.size w w' := by
  by_cases h : s.length = 3
  · have C1 := Lib.hid (equalFold_c s [120, 109, 108] w (by simp [h]) (by omega) xmlFold hT)
    have hl : ((s.length : Int) == 3) = true := by simp; omega
    unfold resB
    clear h hT
    generalize Lib.equalFold s [120, 109, 108] = r at *
    go_enter Tryz.func85, Tryz.ntmps85
    go_wp2_with fail
    refine (C1.out).mono ?_
    rintro e w1 ⟨rfl, hb⟩
    have B1 := Lib.hid hb
    clear hb
    go_wp2
    go_ret
    exact ⟨rfl, B1.out⟩
  · rw [resB_len s h]
    exact (reserved_len s w h).mono fun e w' ⟨he, hw⟩ => ⟨he, hw ▸ Below.refl _ _⟩
end Go.Proofs.YtmclngahdklfkaaGreatDoor
/- The law MiscReads. -/
namespace Go.Proofs.YtmclngahdklfkaaGreatDoor
open Go.ChangeShapes Go.WideShapes Go.ChangeAt Go.RowKit
set_option linter.unusedVariables false
structure W8F (w : World) : Prop extends W8 w where
  fold : FoldT w
theorem W8F.below {w w' : World} (h : W8F w) (hb : Below w.heap.size w w') : W8F w' := ⟨h.toW8.below hb, h.fold.below hb h.fold.lt⟩
theorem miscPiAt_c (A : Option Addr) (n cap : Nat) (l : List UInt8) (at_ : Int) (w : World) (h : Byt w w.heap.size A n cap l) (hW : W8F w) (hm : n ≤ 50000) :
    Calls Tryz.prog 63 #[.slice A n cap, .int .i64 at_] w fun e w' => e = .returned (out4V (piAt l at_)) ∧ Below w.heap.size w w' := by
  unfold piAt
  rw [h.length]
  by_cases ha : at_ < 0 ∨ (n : Int) < at_
  · rw [if_pos ha]
    exact miscPi_range A n cap at_ w ha
  · rw [if_neg ha]
    obtain ⟨k, rfl⟩ : ∃ k : Nat, at_ = (k : Int) := ⟨at_.toNat, by omega⟩
    rw [Int.toNat_natCast]
    exact miscPi_in A n cap l k w h hW.forms hW.tabs hW.maxl hm (by omega) fun W hb => miscReserved_c _ W (hW.below hb).fold
theorem refPiAt_c (A : Option Addr) (n cap : Nat) (l : List UInt8) (at_ : Int) (w : World) (h : Byt w w.heap.size A n cap l) (hm : n ≤ 50000) :
    Calls Tryz.prog 33 #[.slice A n cap, .int .i64 at_] w fun e w' => e = .returned (out4V (piAt l at_)) ∧ Below w.heap.size w w' := by
  unfold piAt
  rw [h.length]
  by_cases ha : at_ < 0 ∨ (n : Int) < at_
  · rw [if_pos ha]
    exact refPi_range A n cap at_ w ha
  · rw [if_neg ha]
    obtain ⟨k, rfl⟩ : ∃ k : Nat, at_ = (k : Int) := ⟨at_.toNat, by omega⟩
    rw [Int.toNat_natCast]
    exact refPi_in A n cap l k w h hm (by omega) fun W hb => (refReserved_c _ W).mono fun e w' ⟨he, hw⟩ => ⟨he, hw ▸ Below.refl _ _⟩
end Go.Proofs.YtmclngahdklfkaaGreatDoor
/- Plain law of whole names. -/
namespace Go.Proofs.YtmclngahdklfkaaGreatDoor
open Go.ChangeShapes Go.WideShapes Go.ChangeAt Go.RowKit
set_option linter.unusedVariables false
end Go.Proofs.YtmclngahdklfkaaGreatDoor
/- Tags: what is read, in plain Lean. -/
namespace Go.Proofs.YtmclngahdklfkaaGreatDoor
open Go.ChangeShapes Go.WideShapes Go.ChangeAt Go.RowKit
set_option linter.unusedVariables false
/-- An attribute: its name, its value. -/
abbrev PairL := List UInt8 × List UInt8
/-- What is read of an attribute at a place: it, the place behind, the error. -/
def pairOut (l : List UInt8) (i : Nat) : PairL × Nat × Nat :=
  if (nameOut l i).2.2 = 0 then
    if l[blankTo l (nameOut l i).2.1]? = some 61 then
      (((nameOut l i).1, (strictAt 60 l (blankTo l (blankTo l (nameOut l i).2.1 + 1) : Nat)).1), (strictAt 60 l (blankTo l (blankTo l (nameOut l i).2.1 + 1) : Nat)).2.1, (strictAt 60 l (blankTo l (blankTo l (nameOut l i).2.1 + 1) : Nat)).2.2)
    else (([], []), 0, 7)
  else (([], []), 0, (nameOut l i).2.2)
def hasN (acc : List PairL) (s : List UInt8) : Bool := acc.any fun p => decide (p.1 = s)
/-- Do the attributes end there? -/
def stopB (l : List UInt8) (i t : Nat) : Bool := decide (i = t) || (match l[i]? with | none => true | some c => decide (c = 47) || decide (c = 62))
def pairsR (l : List UInt8) : Nat → List PairL → Nat → List PairL × Nat × Nat
  | 0, _, _ => ([], 0, 0)
  | f + 1, acc, t => if stopB l (blankTo l t) t = true then (acc, t, 0)
    else if (pairOut l (blankTo l t)).2.2 ≠ 0 then ([], 0, (pairOut l (blankTo l t)).2.2)
    else if hasN acc (pairOut l (blankTo l t)).1.1 = true then ([], 0, 12)
    else pairsR l f (acc ++ [(pairOut l (blankTo l t)).1]) (pairOut l (blankTo l t)).2.1
/-- What is read of attributes at a place. -/
def pairsOut (l : List UInt8) (k : Nat) : List PairL × Nat × Nat := pairsR l (l.length + 1) [] k
theorem pairs_stop {l : List UInt8} {f t : Nat} {acc : List PairL} (h : stopB l (blankTo l t) t = true) : pairsR l (f + 1) acc t = (acc, t, 0) := by rw [pairsR, if_pos h]
theorem pairs_bad {l : List UInt8} {f t : Nat} {acc : List PairL} (h : stopB l (blankTo l t) t = false) {e : Nat} (he : (pairOut l (blankTo l t)).2.2 = e) (h0 : e ≠ 0) : pairsR l (f + 1) acc t = ([], 0, e) := by
  rw [pairsR, if_neg (by simp [h]), if_pos (by rw [he]; exact h0), he]
theorem pairs_twice {l : List UInt8} {f t : Nat} {acc : List PairL} (h : stopB l (blankTo l t) t = false) (he : (pairOut l (blankTo l t)).2.2 = 0) (h0 : hasN acc (pairOut l (blankTo l t)).1.1 = true) : pairsR l (f + 1) acc t = ([], 0, 12) := by
  rw [pairsR, if_neg (by simp [h]), if_neg (by simp [he]), if_pos h0]
theorem pairs_more {l : List UInt8} {f t : Nat} {acc : List PairL} (h : stopB l (blankTo l t) t = false) (he : (pairOut l (blankTo l t)).2.2 = 0) (h0 : hasN acc (pairOut l (blankTo l t)).1.1 = false) :
    pairsR l (f + 1) acc t = pairsR l f (acc ++ [(pairOut l (blankTo l t)).1]) (pairOut l (blankTo l t)).2.1 := by
  rw [pairsR, if_neg (by simp [h]), if_neg (by simp [he]), if_neg (by simp [h0])]
theorem nameOut_ok (l : List UInt8) (k : Nat) (hk : k ≤ l.length) (h : (nameOut l k).2.2 = 0) : k < (nameOut l k).2.1 ∧ (nameOut l k).2.1 ≤ l.length ∧ (nameOut l k).1.length ≤ 1024 := by
  have hle := endL_le l.length isStart isMore (l.drop k)
  rw [List.length_drop] at hle
  unfold nameOut at h ⊢
  simp only at h ⊢
  split
  · rename_i h0; rw [if_pos h0] at h; cases h
  · rename_i h0
    rw [if_neg h0] at h
    split
    · rename_i h1; rw [if_pos h1] at h; cases h
    · rename_i h1
      refine ⟨by simp only; omega, by simp only; omega, ?_⟩
      simp only [List.length_take]
      omega
theorem quotedAt_next2 (l : List UInt8) (p : Nat) (h : (quotedAt l (p : Int)).2.2 = 0) : p < (quotedAt l (p : Int)).2.1 ∧ (quotedAt l (p : Int)).2.1 ≤ l.length := by
  unfold quotedAt at h ⊢
  split
  · rename_i h'
    rw [if_pos h'] at h
    cases h
  · rename_i h'
    rw [if_neg h'] at h
    rw [Int.toNat_natCast] at h ⊢
    unfold quotedOut at h ⊢
    cases hq : l[p]? with
    | none => rw [hq] at h; cases h
    | some q =>
      rw [hq] at h
      simp only at h ⊢
      have hpl : p < l.length := (List.getElem?_eq_some_iff.1 hq).1
      split
      · rename_i h2
        rw [if_pos h2] at h
        unfold quotedQ at h ⊢
        split
        · rename_i h3
          rw [if_pos h3] at h
          cases h
        · rename_i h3
          have := ix_lo q (l.drop (p + 1))
          rw [List.length_drop] at this
          simp only
          omega
      · rename_i h2
        rw [if_neg h2] at h
        cases h
theorem strictAt_next (but : UInt8) (l : List UInt8) (p : Nat) (h : (strictAt but l (p : Int)).2.2 = 0) : p < (strictAt but l (p : Int)).2.1 ∧ (strictAt but l (p : Int)).2.1 ≤ l.length := by
  unfold strictAt at h ⊢
  split
  · rename_i h0; rw [if_pos h0] at h; exact absurd h h0
  · rename_i h0
    rw [if_neg h0] at h
    have h0' : (quotedAt l (p : Int)).2.2 = 0 := by simpa using h0
    split
    · rename_i h1; rw [if_pos h1] at h; cases h
    · rename_i h1
      rw [if_neg h1] at h
      split
      · rename_i h2; rw [if_pos h2] at h; exact absurd h h2
      · exact quotedAt_next2 l p h0'
theorem strictAt_len (but : UInt8) (l : List UInt8) (p : Int) : (strictAt but l p).1.length ≤ l.length := by
  unfold strictAt
  split
  · simp
  · split
    · simp
    · split
      · simp
      · exact quotedAt_le l p
theorem pairOut_ok (l : List UInt8) (i : Nat) (hi : i ≤ l.length) (h : (pairOut l i).2.2 = 0) : i < (pairOut l i).2.1 ∧ (pairOut l i).2.1 ≤ l.length ∧ (pairOut l i).1.1.length ≤ 1024 ∧ (pairOut l i).1.2.length ≤ l.length := by
  unfold pairOut at h ⊢
  split
  · rename_i h0
    rw [if_pos h0] at h
    have hn := nameOut_ok l i hi h0
    have hb := blankTo_le l _ hn.2.1
    split
    · rename_i h1
      rw [if_pos h1] at h
      have hlt := (List.getElem?_eq_some_iff.1 h1).1
      have hb2 := blankTo_le l (blankTo l (nameOut l i).2.1 + 1) (by omega)
      have hs := strictAt_next 60 l _ h
      have hsl := strictAt_len 60 l (blankTo l (blankTo l (nameOut l i).2.1 + 1) : Nat)
      exact ⟨by show i < (strictAt 60 l _).2.1; omega, hs.2, hn.2.2, hsl⟩
    · rename_i h1
      rw [if_neg h1] at h
      cases h
  · rename_i h0
    rw [if_neg h0] at h
    exact absurd h h0
theorem hasN_snoc (acc : List PairL) (p : PairL) (s : List UInt8) : hasN (acc ++ [p]) s = (hasN acc s || decide (p.1 = s)) := by simp [hasN, List.any_append]
/-- An element's begin, as it is written. -/
structure TagL where
  name : List UInt8
  pairs : List PairL
  empty : Bool
def noTag : TagL := ⟨[], [], false⟩
/-- What is read of an element's begin at a place. -/
def openOut (l : List UInt8) (k : Nat) : TagL × Nat × Nat :=
  if l[k]? = some 60 then
    if (nameOut l (k + 1)).2.2 ≠ 0 then (noTag, 0, (nameOut l (k + 1)).2.2)
    else if (pairsOut l (nameOut l (k + 1)).2.1).2.2 ≠ 0 then (noTag, 0, (pairsOut l (nameOut l (k + 1)).2.1).2.2)
    else if [47, 62].isPrefixOf (l.drop (blankTo l (pairsOut l (nameOut l (k + 1)).2.1).2.1)) = true then
      (⟨(nameOut l (k + 1)).1, (pairsOut l (nameOut l (k + 1)).2.1).1, true⟩, blankTo l (pairsOut l (nameOut l (k + 1)).2.1).2.1 + 2, 0)
    else if [62].isPrefixOf (l.drop (blankTo l (pairsOut l (nameOut l (k + 1)).2.1).2.1)) = true then
      (⟨(nameOut l (k + 1)).1, (pairsOut l (nameOut l (k + 1)).2.1).1, false⟩, blankTo l (pairsOut l (nameOut l (k + 1)).2.1).2.1 + 1, 0)
    else (noTag, 0, 7)
  else (noTag, 0, 7)
/-- What is read of an element's end at a place. -/
def closeOut (l : List UInt8) (k : Nat) : List UInt8 × Nat × Nat :=
  if [60, 47].isPrefixOf (l.drop k) = true then
    if (nameOut l (k + 2)).2.2 ≠ 0 then ([], 0, (nameOut l (k + 2)).2.2)
    else if [62].isPrefixOf (l.drop (blankTo l (nameOut l (k + 2)).2.1)) = true then ((nameOut l (k + 2)).1, blankTo l (nameOut l (k + 2)).2.1 + 1, 0)
    else ([], 0, 7)
  else ([], 0, 7)
def tagAt {α : Type} (z : α) (f : List UInt8 → Nat → α × Nat × Nat) (l : List UInt8) (at_ : Int) : α × Nat × Nat := if at_ < 0 ∨ (l.length : Int) < at_ then (z, 0, 3) else f l at_.toNat
theorem pairsR_le (l : List UInt8) : ∀ (f : Nat) (acc : List PairL) (t : Nat), t ≤ l.length → (pairsR l f acc t).2.1 ≤ l.length
  | 0, acc, t, ht => Nat.zero_le _
  | f + 1, acc, t, ht => by
    have hb := blankTo_le l t ht
    cases hs : stopB l (blankTo l t) t with
    | true => rw [pairs_stop hs]; exact ht
    | false =>
      by_cases he : (pairOut l (blankTo l t)).2.2 = 0
      · cases hh : hasN acc (pairOut l (blankTo l t)).1.1 with
        | true => rw [pairs_twice hs he hh]; exact Nat.zero_le _
        | false =>
          rw [pairs_more hs he hh]
          exact pairsR_le l f _ _ (pairOut_ok l _ hb.2 he).2.1
      · rw [pairs_bad hs rfl he]
        exact Nat.zero_le _
theorem pairsOut_le (l : List UInt8) (k : Nat) (hk : k ≤ l.length) : (pairsOut l k).2.1 ≤ l.length := pairsR_le l _ [] k hk
/-- The cells of attributes. -/
def cellsP (ps : List PairL) : List Value := ps.flatMap fun p => [.string ⟨p.1.toArray⟩, .string ⟨p.2.toArray⟩]
theorem cellsP_length (ps : List PairL) : (cellsP ps).length = ps.length * 2 := by
  induction ps with
  | nil => rfl
  | cons p t ih => simp only [cellsP, List.flatMap_cons, List.length_append, List.length_cons, List.length_nil] at ih ⊢; omega
theorem cellsP_snoc (ps : List PairL) (p : PairL) : cellsP (ps ++ [p]) = cellsP ps ++ [.string ⟨p.1.toArray⟩, .string ⟨p.2.toArray⟩] := by simp [cellsP]
theorem cellsP_get : ∀ (ps : List PairL) (i : Nat) (p : PairL), ps[i]? = some p → (cellsP ps)[i * 2]? = some (.string ⟨p.1.toArray⟩) ∧ (cellsP ps)[i * 2 + 1]? = some (.string ⟨p.2.toArray⟩)
  | [], i, p, h => by cases h
  | q :: t, 0, p, h => by simp at h; subst h; exact ⟨rfl, rfl⟩
  | q :: t, i + 1, p, h => by
    have ih := cellsP_get t i p (by simpa using h)
    have e : cellsP (q :: t) = [.string ⟨q.1.toArray⟩, .string ⟨q.2.toArray⟩] ++ cellsP t := rfl
    rw [e, List.getElem?_append_right (by simp; omega), List.getElem?_append_right (by simp; omega)]
    simp only [List.length_cons, List.length_nil]
    rw [show (i + 1) * 2 - 2 = i * 2 by omega, show (i + 1) * 2 + 1 - 2 = i * 2 + 1 by omega]
    exact ih
/-- A row of attributes that can be read. -/
structure PRd (w : World) (B : Nat) (A : Option Addr) (n cap : Nat) (ps : List PairL) : Prop where
  len : ps.length = n
  le : n ≤ cap
  fit : cap ≤ maxLen
  nil : A = none → cap = 0
  at_ : 0 < cap → ∃ b o, A = some ⟨b, o, none⟩ ∧ b < B ∧ ∀ i p, ps[i]? = some p → w.cell? ⟨b, o + i * 2, none⟩ = some (.string ⟨p.1.toArray⟩) ∧ w.cell? ⟨b, o + i * 2 + 1, none⟩ = some (.string ⟨p.2.toArray⟩)
theorem PRd.keep {w w' : World} {B n cap : Nat} {A : Option Addr} {ps : List PairL} (h : PRd w B A n cap ps) (hk : ∀ p : Addr, p.block < B → w'.cell? p = w.cell? p) : PRd w' B A n cap ps :=
  ⟨h.len, h.le, h.fit, h.nil, fun h0 => by
    obtain ⟨b, o, e, hb, hc⟩ := h.at_ h0
    exact ⟨b, o, e, hb, fun i p hp => ⟨(hk ⟨b, _, none⟩ hb).trans (hc i p hp).1, (hk ⟨b, _, none⟩ hb).trans (hc i p hp).2⟩⟩⟩
theorem PRd.more {w : World} {B B' n cap : Nat} {A : Option Addr} {ps : List PairL} (h : PRd w B A n cap ps) (hB : B ≤ B') : PRd w B' A n cap ps :=
  ⟨h.len, h.le, h.fit, h.nil, fun h0 => by
    obtain ⟨b, o, e, hb, hc⟩ := h.at_ h0
    exact ⟨b, o, e, by omega, hc⟩⟩
theorem PRd.below {w w' : World} {B n cap : Nat} {A : Option Addr} {ps : List PairL} (h : PRd w B A n cap ps) (hb : Below B w w') : PRd w' B A n cap ps := h.keep fun p hp => hb.cell hp
theorem PRd.nilR (w : World) (B : Nat) : PRd w B none 0 0 [] := ⟨rfl, Nat.le_refl _, Nat.zero_le _, fun _ => rfl, fun h => absurd h (by omega)⟩
theorem PRd.ofOwn {w : World} {base : Nat} {e : TypeId} {v : Value} {n : Nat} {ps : List PairL} (h : w.ownsRow base e 2 v n (cellsP ps)) : ∃ A c, v = .slice A n c ∧ PRd w w.heap.size A n c ps := by
  obtain ⟨hl, h2 | ⟨g, cap, cur, hv, hg, hh, hn, hc, hs, ht⟩⟩ := h
  · obtain ⟨hv, hn⟩ := h2
    subst hn
    rw [cellsP_length] at hl
    have : ps = [] := List.length_eq_zero_iff.1 (by omega)
    subst this
    exact ⟨none, 0, hv, PRd.nilR w _⟩
  · rw [cellsP_length] at hl
    refine ⟨_, cap, hv, by omega, hn, hc, (fun e => by cases e), fun _ => ⟨g, 0, rfl, lt_of hh, fun i p hp => ?_⟩⟩
    have hi : i < ps.length := (List.getElem?_eq_some_iff.1 hp).1
    have hcp := cellsP_get ps i p hp
    rw [← ht, List.getElem?_take_of_lt (by omega), List.getElem?_take_of_lt (by omega)] at hcp
    rw [cell_of _ hh, cell_of _ hh, Nat.zero_add]
    simpa using hcp
theorem PRd.cell {w : World} {B n cap : Nat} {A : Option Addr} {ps : List PairL} {i : Nat} (h : PRd w B A n cap ps) (hi : i < n) :
    ∃ b o p, A = some ⟨b, o, none⟩ ∧ b < B ∧ ps[i]? = some p ∧ w.cell? ⟨b, o + i * 2, none⟩ = some (.string ⟨p.1.toArray⟩) ∧ w.cell? ⟨b, o + i * 2 + 1, none⟩ = some (.string ⟨p.2.toArray⟩) := by
  obtain ⟨b, o, e, hb, hc⟩ := h.at_ (by have := h.le; omega)
  have hl : i < ps.length := by rw [h.len]; exact hi
  have hp := List.getElem?_eq_getElem hl
  exact ⟨b, o, ps[i], e, hb, hp, (hc i _ hp).1, (hc i _ hp).2⟩
theorem PRd.take {w : World} {B n cap : Nat} {A : Option Addr} {ps : List PairL} {k : Nat} (h : PRd w B A n cap ps) (hk : k ≤ n) : PRd w B A k cap (ps.take k) :=
  ⟨by rw [List.length_take, h.len]; omega, by have := h.le; omega, h.fit, h.nil, fun h0 => by
    obtain ⟨b, o, e, hb, hc⟩ := h.at_ h0
    exact ⟨b, o, e, hb, fun i p hp => hc i p (by rw [List.getElem?_take] at hp; split at hp
                                                 · exact hp
                                                 · cases hp)⟩⟩
end Go.Proofs.YtmclngahdklfkaaGreatDoor
/- A result in a block of its own. -/
namespace Go.Proofs.YtmclngahdklfkaaGreatDoor
open Go.ChangeShapes Go.WideShapes Go.ChangeAt Go.RowKit
set_option linter.unusedVariables false
theorem results_c3 {P : Program} {fn : Func} {p u v : Tmp} {ty : TypeId} (h : fn.results = #[.cell p ty, .tmp u, .tmp v]) (tmps : Array Value) (w : World) (g : Nat) (t : TypeId) (cs : Array Value) (fr : Nat × Nat) (d : TypeDesc)
    (hp : tmps.getD p undef = .pointer (some ⟨g, 0, none⟩)) (hg : w.heap[g]? = some (.cells cs t fr))
    (hu : P.underlying ty = some d) (hd : (match d with | .struct _ | .array _ _ => true | _ => false) = true) (hi : (P.info? ty).map (·.size) = some cs.size) :
    (results fn tmps).run P w = .ok (.tuple #[.agg cs, tmps.getD u undef, tmps.getD v undef]) w := by
  have hp' : tmps[p]?.getD undef = .pointer (some ⟨g, 0, none⟩) := by simpa using hp
  simp [results, h, hp', asAddr, run_loadVar_row w g t ty cs fr d hg hu hd hi]
/-- While a result lies in a block of its own: below w all as it was, and that block. -/
def CJ (T : TypeId) (w W : World) (rs : Array Value) : Prop := Below w.heap.size w W ∧ W.heap[w.heap.size]? = some (.cells rs T)
theorem CJ.start (T : TypeId) (w : World) (rs : Array Value) : CJ T w (w.alloc (.cells rs T)) rs := ⟨(Below.refl _ _).alloc (Nat.le_refl _) _, hp_new _ _⟩
theorem CJ.kept {T : TypeId} {w W W' : World} {rs : Array Value} (h : CJ T w W rs) (hb : Below W.heap.size W W') : CJ T w W' rs :=
  ⟨h.1.trans (hb.mono h.1.size), by rw [hb.block _ (lt_of h.2)]; exact h.2⟩
theorem CJ.row {T : TypeId} {w W : World} {rs : Array Value} (h : CJ T w W rs) (cs : Array Value) : CJ T w (W.setRow w.heap.size cs) cs := by
  refine ⟨⟨h.1.os, h.1.tape, h.1.output, ?_, fun k hk => ?_⟩, setRow_heap _ _ _ _ _ _ h.2⟩
  · have := h.1.size; simpa [World.setRow] using this
  · rw [setRow_other _ _ _ _ (by omega)]; exact h.1.block k hk
theorem pre_one (a : UInt8) (l : List UInt8) (k : Nat) : [a].isPrefixOf (l.drop k) = decide (l[k]? = some a) := by
  rw [Bool.eq_iff_iff, decide_eq_true_eq]
  constructor
  · intro h
    have := pre_get h 0 (by simp)
    simpa using this
  · intro h
    exact pre_of_get fun i hi => by
      simp at hi
      subst hi
      simpa using h
end Go.Proofs.YtmclngahdklfkaaGreatDoor
/- narthex/tag.stands -/
namespace Go.Proofs.YtmclngahdklfkaaGreatDoor
open Go.ChangeShapes Go.WideShapes Go.ChangeAt Go.RowKit
set_option linter.unusedVariables false
/-- What stands at a place, as far as a mark is long. -/
theorem pre_short (p l : List UInt8) (k : Nat) : p.isPrefixOf ((l.drop k).take (min l.length (k + p.length) - k)) = p.isPrefixOf (l.drop k) := by
  rw [Bool.eq_iff_iff, List.isPrefixOf_iff_prefix, List.isPrefixOf_iff_prefix]
  constructor
  · intro h; exact h.trans (List.take_prefix _ _)
  · intro h
    have hl := h.length_le
    rw [List.length_drop] at hl
    by_cases hp : p = []
    · subst hp; exact List.nil_prefix
    · have : 0 < p.length := List.length_pos_iff.2 hp
      rw [List.prefix_iff_eq_take] at h ⊢
      rw [List.take_take, show min p.length (min l.length (k + p.length) - k) = p.length by omega]
      exact h
set_option maxRecDepth 100000 in
set_option maxHeartbeats 4000000 in
theorem stands_c (A : Option Addr) (n cap : Nat) (l : List UInt8) (k : Nat) (p : List UInt8) (B : Nat) (w : World) (h : Byt w B A n cap l) (hm : n ≤ 1000000) (hpl : p.length ≤ 1000000) (hk : k ≤ n) :
    Calls Tryz.prog 98 #[.slice A n cap, .int .i64 k, .string ⟨p.toArray⟩] w fun e w' => e = .returned (.bool (p.isPrefixOf (l.drop k))) ∧ w = w' := by
  have hk0 : (0 : Int) ≤ (k : Int) := by omega
  have hk1 : (k : Int) ≤ 1000000 := by omega
  have hn1 : (n : Int) ≤ 1000000 := by omega
  have hp1 : (p.length : Int) ≤ 1000000 := by omega
  have hcap := h.le
  have hln := h.length
  have HP := Lib.hid (pre_short p l k)
  rw [hln] at HP
  have hst := ((h.drop (k := k) hk).take (k := min n (k + p.length) - k) (by omega)).str
  have hx : ∀ W, Calls Tryz.prog 133 #[.string ⟨((l.drop k).take (min n (k + p.length) - k)).toArray⟩, .string ⟨p.toArray⟩] W fun e w' => e = .returned (.bool (p.isPrefixOf ((l.drop k).take (min n (k + p.length) - k)))) ∧ w' = W := fun W => Tryz.strings_HasPrefix ⟨((l.drop k).take (min n (k + p.length) - k)).toArray⟩ ⟨p.toArray⟩ W
  rw [HP.out] at hx
  have CX := Lib.hid hx
  by_cases hc : k + p.length < n
  · have hci : (k : Int) + (p.length : Int) < (n : Int) := by omega
    have hmi : min (n : Int) ((k : Int) + (p.length : Int)) = (k : Int) + (p.length : Int) := by omega
    have hmn : min n (k + p.length) - k = p.length := by omega
    rw [hmn] at hst CX
    have hrf : ∀ w2 : World, (Instr.slice 22 (.slice A n cap) (some (.int .i64 (k : Int))) (some (.int .i64 ((k : Int) + (p.length : Int)))) none).run Tryz.prog w2 = .ok (.slice (cutA A cap k) p.length (cap - k)) w2 := fun w2 => by
      have := run_fromTo (w := w2) A n cap k (k + p.length) (by omega) (by omega)
      rw [show k + p.length - k = p.length by omega, show ((k + p.length : Nat) : Int) = (k : Int) + (p.length : Int) by omega] at this
      exact this
    clear h hcap hln HP hx hc hmn
    generalize (l.drop k).take p.length = q at *
    generalize p.isPrefixOf (l.drop k) = r at *
    go_enter Tryz.func98, Tryz.ntmps98
    go_wp2_with fail
    refine (CX.out _).mono ?_
    rintro e wq ⟨rfl, hwq⟩
    subst hwq
    go_wp2
    go_ret
    exact ⟨rfl, rfl⟩
  · have hci : ¬ (k : Int) + (p.length : Int) < (n : Int) := by omega
    have hmi : min (n : Int) ((k : Int) + (p.length : Int)) = (n : Int) := by omega
    have hmn : min n (k + p.length) - k = n - k := by omega
    rw [hmn] at hst CX
    have hrf : ∀ w2 : World, (Instr.slice 22 (.slice A n cap) (some (.int .i64 (k : Int))) (some (.int .i64 (n : Int))) none).run Tryz.prog w2 = .ok (.slice (cutA A cap k) (n - k) (cap - k)) w2 := fun w2 => run_fromTo (w := w2) A n cap k n (by omega) (by omega)
    clear h hcap hln HP hx hmn
    generalize (l.drop k).take (n - k) = q at *
    generalize p.isPrefixOf (l.drop k) = r at *
    generalize n - k = m at *
    go_enter Tryz.func98, Tryz.ntmps98
    go_wp2_with fail
    refine (CX.out _).mono ?_
    rintro e wq ⟨rfl, hwq⟩
    subst hwq
    go_wp2
    go_ret
    exact ⟨rfl, rfl⟩
end Go.Proofs.YtmclngahdklfkaaGreatDoor
/- narthex/tag.pair -/
namespace Go.Proofs.YtmclngahdklfkaaGreatDoor
open Go.ChangeShapes Go.WideShapes Go.ChangeAt Go.RowKit
set_option linter.unusedVariables false
/-- What is asked of the world. -/
structure W10 (w : World) : Prop where
  tabs : Tabs w
  forms : Forms w
theorem W10.below {w w' : World} (h : W10 w) (hb : Below w.heap.size w w') : W10 w' := ⟨h.tabs.below hb (h.tabs.low h.forms), h.forms.below hb h.forms.lt⟩
def tpairV (o : PairL × Nat × Nat) : Value := .tuple #[.agg #[.string ⟨o.1.1.toArray⟩, .string ⟨o.1.2.toArray⟩], .int .i64 (o.2.1 : Int), .int .i64 (o.2.2 : Int)]
set_option maxRecDepth 100000 in
set_option maxHeartbeats 4000000 in
theorem tagPair_c (A : Option Addr) (n cap : Nat) (l : List UInt8) (k : Nat) (w : World) (h : Byt w w.heap.size A n cap l) (hW : W10 w) (hm : n ≤ 40000) (hk : k ≤ n) :
    Calls Tryz.prog 163 #[.slice A n cap, .int .i64 k] w fun e w' => e = .returned (tpairV (pairOut l k)) ∧ Below w.heap.size w w' := by
  have hln := h.length
  have hJ := CJ.start 81 w #[.string ⟨#[]⟩, .string ⟨#[]⟩]
  have hi : (Tryz.prog.info? 81).map (·.size) = some 2 := by kernel_rfl
  obtain ⟨d, hu⟩ := isStruct_of (P := Tryz.prog) (t := 81) (by kernel_rfl)
  have HU := Lib.hid (And.intro hi hu)
  have HK : Hid (∀ W rs, CJ 81 w W rs → Byt W W.heap.size A n cap l ∧ W10 W) := Lib.hid fun W rs hJ => ⟨(h.below hJ.1).more hJ.1.size, hW.below hJ.1⟩
  have c1 := name_c A n cap l k _ (HK.out _ _ hJ).1 (HK.out _ _ hJ).2.forms (HK.out _ _ hJ).2.tabs.n (by omega) hk
  have CB : Hid (∀ t, t ≤ n → ∀ W rs, CJ 81 w W rs → Calls Tryz.prog 43 #[.slice A n cap, .int .i64 (t : Int)] W fun e w' => e = .returned (.int .i64 (blankTo l t)) ∧ W = w') := Lib.hid fun t ht W rs hb => blanks_c A n cap l t _ W (HK.out W rs hb).1 (by omega) ht
  have CS : Hid (∀ t, t ≤ n → ∀ W rs, CJ 81 w W rs → Calls Tryz.prog 98 #[.slice A n cap, .int .i64 (t : Int), .string ⟨#[61]⟩] W fun e w' => e = .returned (.bool (decide (l[t]? = some 61))) ∧ W = w') := Lib.hid fun t ht W rs hb => by
    have := stands_c A n cap l t [61] _ W (HK.out W rs hb).1 (by omega) (by simp) ht
    rwa [pre_one] at this
  have CV : Hid (∀ t : Nat, ∀ W rs, CJ 81 w W rs → Calls Tryz.prog 176 #[.slice A n cap, .int .i64 (t : Int)] W fun e w' => e = .returned (outV (strictAt 60 l (t : Int))) ∧ Below W.heap.size W w') := Lib.hid fun t W rs hb => litValue_c A n cap l t W (HK.out W rs hb).1 (HK.out W rs hb).2.tabs (HK.out W rs hb).2.forms hm
  have hok := nameOut_ok l k (by omega)
  have J0 := Lib.hid hJ
  clear hi hu hJ
  unfold pairOut
  generalize nameOut l k = m at *
  obtain ⟨s, nx, e⟩ := m
  simp only at hok ⊢
  unfold outV at c1
  simp only at c1
  have C1 := Lib.hid c1
  clear c1
  by_cases he : e = 0
  · subst he
    obtain ⟨h1, h2, h3⟩ := hok rfl
    rw [if_pos rfl]
    have c2 := CB.out nx (by omega)
    have hb := blankTo_le l nx h2
    generalize blankTo l nx = b at *
    have c3 := CS.out b (by omega)
    have C2 := Lib.hid c2
    clear c2
    by_cases h61 : l[b]? = some 61
    · rw [if_pos h61]
      have hd : decide (l[b]? = some 61) = true := by simpa using h61
      rw [hd] at c3
      have hlt := (List.getElem?_eq_some_iff.1 h61).1
      have c4 := CB.out (b + 1) (by omega)
      rw [show ((b + 1 : Nat) : Int) = (b : Int) + 1 by omega] at c4
      have C3 := Lib.hid c3
      have C4 := Lib.hid c4
      have C5 := Lib.hid (CV.out (blankTo l (b + 1)))
      have hb0 : (0 : Int) ≤ (b : Int) := by omega
      have hb1 : (b : Int) ≤ 40000 := by omega
      clear c3 c4 CB CS CV HK h hW hln h61 hd hlt hok h1 h2 h3 hb
      generalize blankTo l (b + 1) = d at *
      generalize strictAt 60 l (d : Int) = v at *
      obtain ⟨vs, vn, ve⟩ := v
      unfold outV at C5
      simp only at C5
      go_enter Tryz.func163, Tryz.ntmps163
      go_wp2_with fail
      refine C1.out.mono ?_
      rintro e w1 ⟨rfl, hb⟩
      have J1 := Lib.hid (J0.out.kept hb)
      clear hb
      go_wp2_with fail
      refine (C2.out _ _ J1.out).mono ?_
      rintro e wq ⟨rfl, rfl⟩
      go_wp2_with fail
      refine (C3.out _ _ J1.out).mono ?_
      rintro e wq ⟨rfl, rfl⟩
      go_wp2_with fail
      refine (C4.out _ _ J1.out).mono ?_
      rintro e wq ⟨rfl, rfl⟩
      go_wp2_with fail
      refine (C5.out _ _ J1.out).mono ?_
      rintro e w2 ⟨rfl, hb⟩
      have J2 := Lib.hid (J1.out.kept hb)
      clear hb
      have JF := Lib.hid (J2.out.row #[.string ⟨s.toArray⟩, .string ⟨vs.toArray⟩])
      go_wp2_with (refine wpList_store_row rfl _ _ _ rfl w.heap.size #[.string ⟨s.toArray⟩, .string ⟨vs.toArray⟩] rfl rfl _ _ J2.out.2 (by kernel_rfl) rfl (by kernel_rfl) ?_)
      (try simp only [Exit.inBlock, Exit.then])
      exact bodyPost_ret (results_c3 rfl _ _ w.heap.size _ _ _ _ rfl JF.out.2 HU.out.2 rfl HU.out.1) rfl ⟨rfl, JF.out.1⟩
    · rw [if_neg h61]
      have hd : decide (l[b]? = some 61) = false := by simpa using h61
      rw [hd] at c3
      have C3 := Lib.hid c3
      clear c3 CB CS CV HK h hW hln h61 hd hok h1 h2 h3 hb
      go_enter Tryz.func163, Tryz.ntmps163
      go_wp2_with fail
      refine C1.out.mono ?_
      rintro e w1 ⟨rfl, hb⟩
      have J1 := Lib.hid (J0.out.kept hb)
      clear hb
      go_wp2_with fail
      refine (C2.out _ _ J1.out).mono ?_
      rintro e wq ⟨rfl, rfl⟩
      go_wp2_with fail
      refine (C3.out _ _ J1.out).mono ?_
      rintro e wq ⟨rfl, rfl⟩
      have JF := Lib.hid (J1.out.row #[.string ⟨#[]⟩, .string ⟨#[]⟩])
      go_wp2_with (refine wpList_store_row rfl _ _ _ rfl w.heap.size #[.string ⟨#[]⟩, .string ⟨#[]⟩] rfl rfl _ _ J1.out.2 (by kernel_rfl) rfl (by kernel_rfl) ?_)
      (try simp only [Exit.inBlock, Exit.then])
      exact bodyPost_ret (results_c3 rfl _ _ w.heap.size _ _ _ _ rfl JF.out.2 HU.out.2 rfl HU.out.1) rfl ⟨rfl, JF.out.1⟩
  · rw [if_neg he]
    have hei : ((e : Int) == 0) = false := by simp; omega
    clear CB CS CV HK h hW hln hok he
    go_enter Tryz.func163, Tryz.ntmps163
    go_wp2_with fail
    refine C1.out.mono ?_
    rintro e w1 ⟨rfl, hb⟩
    have J1 := Lib.hid (J0.out.kept hb)
    clear hb
    have JF := Lib.hid (J1.out.row #[.string ⟨#[]⟩, .string ⟨#[]⟩])
    go_wp2_with (refine wpList_store_row rfl _ _ _ rfl w.heap.size #[.string ⟨#[]⟩, .string ⟨#[]⟩] rfl rfl _ _ J1.out.2 (by kernel_rfl) rfl (by kernel_rfl) ?_)
    (try simp only [Exit.inBlock, Exit.then])
    exact bodyPost_ret (results_c3 rfl _ _ w.heap.size _ _ _ _ rfl JF.out.2 HU.out.2 rfl HU.out.1) rfl ⟨rfl, JF.out.1⟩
end Go.Proofs.YtmclngahdklfkaaGreatDoor
/- What a call owns: rows of pairs, a map of names. -/
namespace Go.Proofs.YtmclngahdklfkaaGreatDoor
open Go.ChangeShapes Go.WideShapes Go.ChangeAt Go.RowKit
set_option linter.unusedVariables false
theorem lawS : Go.Maps.Keyed Tryz.prog 9 := Go.Maps.string_keyed Tryz.underlying9
theorem zeroI (w : World) : (zeroValue 3).run Tryz.prog w = .ok (.int .i64 0) w := by kernel_rfl
theorem info_pair : ∃ i, Tryz.prog.info? 81 = some i ∧ i.zero = some (.agg #[.string ⟨#[]⟩, .string ⟨#[]⟩]) ∧ i.size = 2 ∧ i.bytes = 32 := by
  obtain ⟨i, h1, h2, h3, h4⟩ := info_parts (show (Tryz.prog.info? 81).map (fun i => (i.zero, i.size, i.bytes)) = some (some (.agg #[.string ⟨#[]⟩, .string ⟨#[]⟩]), 2, 32) by kernel_rfl)
  exact ⟨i, h1, h2, h3, h4⟩
theorem cell_new2 (w : World) (u1 u2 : Value) (T : TypeId) : ∀ (j : Nat) (v : Value), [u1, u2][j]? = some v → (w.alloc (.cells #[u1, u2] T)).cell? ((⟨w.heap.size, 0, none⟩ : Addr).add j) = some v := by
  intro j v hv
  match j with
  | 0 => simp at hv; subst hv; simp [Addr.add]
  | 1 => simp at hv; subst hv; rw [addr_add, cell_of _ (hp_new _ _)]; rfl
  | j + 2 => simp at hv
/-- 'out = append(out, u)' onto a row of the call's own, the elements of two cells each. -/
theorem wpList_app2 {P : Program} {ops : Array Oper} {rest : List Oper} {o : Oper} {a : Act} {Q : Exit → Act → World → Prop} {w : World} (hgd : o.guard = none) (s x : Operand) (t e : TypeId)
    (ho : o.op = .call { callee := .builtin .append, args := #[s, x], argTypes := #[t, t] }) (z : Value) (bytes : Nat) (ht : P.underlying t = some (.slice e))
    (hi : ∃ i, P.info? e = some i ∧ i.zero = some z ∧ i.size = 2 ∧ i.bytes = bytes) (hzs : z.cells.size = 2)
    (base : Nat) (v : Value) (n : Nat) (xs : List Value) (hs : a.eval s = v) (hown : w.ownsRow base e 2 v n xs) (u1 u2 : Value) (hx : a.eval x = .slice (some ⟨w.heap.size, 0, none⟩) 1 1)
    (h1 : u1.oneCell' = true) (h2 : u2.oneCell' = true) (hn : n ≤ 1000000000) (hby : bytes ≤ 1000) (hbase : base ≤ w.heap.size)
    (h : ∀ v' w', w'.ownsRow base e 2 v' (n + 1) (xs ++ [u1, u2]) → (w.alloc (.cells #[u1, u2] e)).grownBy w' v.ownBlock → wpList P ops Q rest (a.put o.dst v') w') : wpList P ops Q (o :: rest) a (w.alloc (.cells #[u1, u2] e)) := by
  obtain ⟨i, hi, hz, hsz, hbt⟩ := hi
  refine wpList_append_own _ hgd s x t ho base e i z 2 bytes ht hi hz hsz hbt hzs (by decide) v n xs hs (hown.alloc _) ⟨w.heap.size, 0, none⟩ 1 1 [u1, u2] hx rfl (cell_new2 w u1 u2 e) (by intro u hu; simp at hu; rcases hu with rfl | rfl <;> assumption) (by unfold maxLen; omega) ?_ (by simp; omega) fun v' w' hown' hgrow _ => h v' w' hown' hgrow
  have : (n + 1) * bytes ≤ 1000000001 * 1000 := Nat.mul_le_mul (by omega) hby
  omega
theorem ownsRow_keep {w w' : World} {base : Nat} {e : TypeId} {c n : Nat} {v : Value} {xs : List Value} (h : w.ownsRow base e c v n xs) (hk : ∀ g, base ≤ g → g < w.heap.size → w'.heap[g]? = w.heap[g]?) : w'.ownsRow base e c v n xs := by
  obtain ⟨hl, h2 | ⟨g, cap, cur, hv, hg, hh, r⟩⟩ := h
  · exact ⟨hl, Or.inl h2⟩
  · exact ⟨hl, Or.inr ⟨g, cap, cur, hv, hg, (hk g hg (lt_of hh)).trans hh, r⟩⟩
theorem ownsRow_lt {w : World} {base : Nat} {e : TypeId} {c n : Nat} {v : Value} {xs : List Value} (h : w.ownsRow base e c v n xs) (b : Nat) (hb : b < base) : some b ≠ v.ownBlock := by
  obtain ⟨hl, ⟨hv, _⟩ | ⟨g, cap, cur, hv, hg, hh, r⟩⟩ := h
  · rw [hv]; simp [Value.ownBlock]
  · rw [hv]; simp [Value.ownBlock]; omega
/-- The names met so far, in the map at block b. -/
def Seen (w : World) (b n : Nat) (acc : List PairL) : Prop := ∃ D : DataW Unit, w.ownsMap Tryz.prog 9 (Go.plainElem Tryz.prog 3) b n D ∧ ∀ s : List UInt8, D.atKey (.string s) (.lit (.int .i64 0)) = .lit (.int .i64 (if hasN acc s then 1 else 0))
theorem ownsMap_keep {H : Type} {w w' : World} {k : TypeId} {R : Value → Option (DataW H × List MemPlace)} {b n : Nat} {D : DataW H} (h : w.ownsMap Tryz.prog k R b n D) (hk : w'.heap[b]? = w.heap[b]?) : w'.ownsMap Tryz.prog k R b n D := by
  obtain ⟨es, clock, hb, r⟩ := h
  exact ⟨es, clock, hk.trans hb, r⟩
theorem ownsMap_is {H : Type} {w : World} {k : TypeId} {R : Value → Option (DataW H × List MemPlace)} {b n : Nat} {D : DataW H} (h : w.ownsMap Tryz.prog k R b n D) : Go.Maps.IsMap D := by
  obtain ⟨es, clock, hb, _, _, rfl⟩ := h
  exact ⟨_, rfl⟩
theorem Seen.start (w : World) : Seen (w.alloc (.map #[] 0)) w.heap.size 0 [] := ⟨.map [], World.ownsMap_made _ _ _ _, fun s => rfl⟩
theorem seen_snoc {D : DataW Unit} {acc : List PairL} {p : PairL} (hi : Go.Maps.IsMap D) (h : ∀ s : List UInt8, D.atKey (.string s) (.lit (.int .i64 0)) = .lit (.int .i64 (if hasN acc s then 1 else 0))) (hp : hasN acc p.1 = false) :
    ∀ s : List UInt8, (D.put (.string p.1) (.lit (.int .i64 1))).atKey (.string s) (.lit (.int .i64 0)) = .lit (.int .i64 (if hasN (acc ++ [p]) s then 1 else 0)) := by
  intro s
  rw [hasN_snoc]
  by_cases hs : p.1 = s
  · subst hs
    rw [Go.Maps.atKey_put_same hi (by simp [WideAt.IsKeyLit])]
    simp
  · rw [Go.Maps.atKey_put_other (by simpa using fun e => hs e.symm), h]
    simp [hs]
end Go.Proofs.YtmclngahdklfkaaGreatDoor
