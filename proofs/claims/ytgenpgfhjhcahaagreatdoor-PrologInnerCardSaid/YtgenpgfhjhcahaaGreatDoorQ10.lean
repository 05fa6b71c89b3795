/- Texts of ours, joined: Misc6, Misc7, MiscP2, Law08, Misc8, PlainP, Tag0. -/
import Derived.Test.YtgenpgfhjhcahaaGreatDoorRows
import Derived.WalkKit
import Derived.ProofKit
import Derived.OpenShut
import Derived.ShutString
import Derived.ChangeOld
import Derived.Below
import Derived.BigQuiet
import Derived.Deep.QuietTactic
import Derived.Lib.Hide
import Derived.Deep.RegionHeld3
import Derived.Lib.SlBytesConst
import Derived.Laws.CopyOwn
import Derived.Laws.CopyRow
import Derived.Lib.Bytes
import Derived.Deep.LoopGhost
import Derived.Deep.DeepFit
import Derived.Deep.DeepMust
import Derived.WalkSpells
import Derived.WalkLawsBesides
import Derived.Laws.EntriesVeiled
import Derived.Laws.Rows
import Derived.Lib.Fold
import Derived.Test.YtgenpgfhjhcahaaGreatDoorQ1
import Derived.Test.YtgenpgfhjhcahaaGreatDoorQ2
import Derived.Test.YtgenpgfhjhcahaaGreatDoorQ3
import Derived.Test.YtgenpgfhjhcahaaGreatDoorQ4
import Derived.Test.YtgenpgfhjhcahaaGreatDoorQ5
import Derived.Test.YtgenpgfhjhcahaaGreatDoorQ7
import Derived.Test.YtgenpgfhjhcahaaGreatDoorQ9
import Derived.Lib.IndexMore
import Derived.Lib.IndexLaws
import Derived.Test.YtgenpgfhjhcahaaGreatDoorQ8
/- narthexref08.Pi. -/
namespace Go.Proofs.YtgenpgfhjhcahaaGreatDoor
open Go.ChangeShapes Go.WideShapes Go.ChangeAt Go.RowKit
set_option linter.unusedVariables false
theorem results_tmp4 {fn : Func} {t u v x : Tmp} (h : fn.results = #[.tmp t, .tmp u, .tmp v, .tmp x]) (tmps : Array Value) (P : Program) (w : World) :
    (results fn tmps).run P w = .ok (.tuple #[tmps.getD t undef, tmps.getD u undef, tmps.getD v undef, tmps.getD x undef]) w := by
  simp [results, h]
/-- Is it xml, in letters of whatever size? -/
def resB (s : List UInt8) : Bool := Lib.equalFold s [120, 109, 108]
def out4V (o : List UInt8 × List UInt8 × Nat × Nat) : Value := .tuple #[.string ⟨o.1.toArray⟩, .string ⟨o.2.1.toArray⟩, .int .i64 (o.2.2.1 : Int), .int .i64 (o.2.2.2 : Int)]
/-- How a processing instruction reads, behind its target's name. -/
def piRest (l : List UInt8) (p : List UInt8 × Nat × Nat) : List UInt8 × List UInt8 × Nat × Nat :=
  if p.2.2 ≠ 0 then ([], [], 0, p.2.2) else if resB p.1 = true then ([], [], 0, 7) else
  if findI l (blankTo l p.2.1) [63, 62] < 0 ∨ (blankTo l p.2.1 = p.2.1 ∧ findI l (blankTo l p.2.1) [63, 62] ≠ p.2.1) then ([], [], 0, 7) else
  (p.1, (l.drop (blankTo l p.2.1)).take ((findI l (blankTo l p.2.1) [63, 62]).toNat - blankTo l p.2.1), (findI l (blankTo l p.2.1) [63, 62]).toNat + 2, 0)
def piOut (l : List UInt8) (k : Nat) : List UInt8 × List UInt8 × Nat × Nat :=
  if [60, 63].isPrefixOf (l.drop k) = false then ([], [], 0, 7) else piRest l (plainOut l (k + 2))
theorem piRest_err (l : List UInt8) (s : List UInt8) (t e : Nat) (h : e ≠ 0) : piRest l (s, t, e) = ([], [], 0, e) := by unfold piRest; rw [if_pos h]
theorem piRest_res (l : List UInt8) (s : List UInt8) (t : Nat) (h : resB s = true) : piRest l (s, t, 0) = ([], [], 0, 7) := by unfold piRest; rw [if_neg (by simp), if_pos h]
theorem piRest_no (l : List UInt8) (s : List UInt8) (t f : Nat) (h : resB s = false) (hf : blankTo l t = f) (hn : findI l f [63, 62] < 0) : piRest l (s, t, 0) = ([], [], 0, 7) := by
  subst hf
  unfold piRest
  rw [if_neg (by simp), if_neg (by rw [h]; simp), if_pos (.inl hn)]
theorem piRest_tight (l : List UInt8) (s : List UInt8) (t i : Nat) (h : resB s = false) (hf : blankTo l t = t) (hn : findI l t [63, 62] = i) (hi : i ≠ t) : piRest l (s, t, 0) = ([], [], 0, 7) := by
  unfold piRest
  simp only [hf]
  rw [if_neg (by simp), if_neg (by rw [h]; simp), if_pos (.inr ⟨trivial, by omega⟩)]
theorem piRest_yes (l : List UInt8) (s : List UInt8) (t f i : Nat) (h : resB s = false) (hf : blankTo l t = f) (hn : findI l f [63, 62] = i) (hi : f = t → i = t) : piRest l (s, t, 0) = (s, (l.drop f).take (i - f), i + 2, 0) := by
  subst hf
  unfold piRest
  rw [if_neg (by simp), if_neg (by rw [h]; simp), hn, if_neg, Int.toNat_natCast]
  rintro (h' | ⟨h1, h2⟩)
  · omega
  · exact h2 (by rw [hi h1])
/-- A reserved name's contract, for every later world. -/
def ResC (fn : Nat) (w : World) (s : List UInt8) : Prop := ∀ W, Below w.heap.size w W → Calls Tryz.prog fn #[.string ⟨s.toArray⟩] W fun e w' => e = .returned (.bool (resB s)) ∧ Below W.heap.size W w'
set_option maxRecDepth 100000 in
set_option maxHeartbeats 4000000 in
theorem refPi_in (A : Option Addr) (n cap : Nat) (l : List UInt8) (k : Nat) (w : World) (h : Byt w w.heap.size A n cap l) (hm : n ≤ 50000) (hk : k ≤ n) (hR : ResC 36 w (plainOut l (k + 2)).1) :
    Calls Tryz.prog 17 #[.slice A n cap, .int .i64 k] w fun e w' => e = .returned (out4V (piOut l k)) ∧ Below w.heap.size w w' := by
  have hk' : ¬ (n : Int) < (k : Int) := by omega
  have hk0 : (0 : Int) ≤ (k : Int) := by omega
  have hk1 : (k : Int) ≤ 50000 := by omega
  have c1 := refAt8_c A n cap l k [60, 63] _ w h (by simp) (by omega) (by simp) (by omega)
  have hln := h.length
  by_cases hp : [60, 63].isPrefixOf (l.drop k) = true
  · have hkl : k + 2 ≤ n := by have := pre_len hp; simp at this; omega
    have c2 := refRead_c A n cap l (k + 2) w h hm hkl
    rw [show ((k + 2 : Nat) : Int) = (k : Int) + 2 by omega] at c2
    rw [hp] at c1
    have C1 := Lib.hid c1
    have HO : Hid (piOut l k = piRest l (plainOut l (k + 2))) := Lib.hid (by unfold piOut; rw [if_neg (by rw [hp]; simp)])
    rw [HO.out]
    have hle := plainOut_le l (k + 2) (by omega)
    clear c1 HO hp
    generalize plainOut l (k + 2) = po at *
    obtain ⟨s, t, f⟩ := po
    unfold outV at c2
    simp only at c2 hle hR
    have C2 := Lib.hid c2
    have HR := Lib.hid hR
    clear c2 hR
    by_cases hf : f = 0
    · subst hf
      have htl := hle rfl
      clear hle
      have CB : Hid (∀ W, Below w.heap.size w W → Calls Tryz.prog 14 #[.slice A n cap, .int .i64 t] W fun e w' => e = .returned (.int .i64 (blankTo l t)) ∧ W = w') := Lib.hid fun W hb => refBlanks_c A n cap l t _ W (h.below hb) (by omega) (by omega)
      have hbt := blankTo_le l t (by omega)
      have CF : Hid (∀ W, Below w.heap.size w W → Calls Tryz.prog 34 #[.slice A n cap, .int .i64 (blankTo l t), .string ⟨#[63, 62]⟩] W fun e w' => e = .returned (.int .i64 (findI l (blankTo l t) [63, 62])) ∧ W = w') := Lib.hid fun W hb => refFind_c A n cap l (blankTo l t) [63, 62] _ W (h.below hb) (by simp) (by omega) (by simp) (by omega)
      have hsp := findI_spec l [63, 62] (blankTo l t) (by omega)
      have HH := Lib.hid h
      have hcap := h.le
      cases hrs : resB s with
      | true =>
        rw [piRest_res l s t hrs]
        unfold ResC at HR
        rw [hrs] at HR
        clear h hln hrs hsp hbt
        go_enter Tryz.func17, Tryz.ntmps17
        go_wp2_with fail
        refine (C1.out).mono ?_
        rintro e wq ⟨rfl, rfl⟩
        go_wp2_with fail
        refine (C2.out).mono ?_
        rintro e w1 ⟨rfl, hb⟩
        have B1 := Lib.hid hb
        clear hb
        go_wp2_with fail
        refine (HR.out _ B1.out).mono ?_
        rintro e w2 ⟨rfl, hb⟩
        have B2 := Lib.hid (B1.out.trans (hb.mono B1.out.size))
        clear hb
        go_wp2
        (try simp only [Exit.inBlock, Exit.then])
        refine bodyPost_ret (results_tmp4 rfl _ _ _) rfl ?_
        exact ⟨rfl, B2.out⟩
      | false =>
        unfold ResC at HR
        rw [hrs] at HR
        have HRS := Lib.hid hrs
        clear hrs
        rcases hsp with ⟨hf, _⟩ | ⟨i, hf, hki, hil, hpre, _⟩
        · rw [piRest_no l s t _ HRS.out rfl (by rw [hf]; omega)]
          rw [hf] at CF
          clear h hln hf hbt
          generalize blankTo l t = b at *
          go_enter Tryz.func17, Tryz.ntmps17
          go_wp2_with fail
          refine (C1.out).mono ?_
          rintro e wq ⟨rfl, rfl⟩
          go_wp2_with fail
          refine (C2.out).mono ?_
          rintro e w1 ⟨rfl, hb⟩
          have B1 := Lib.hid hb
          clear hb
          go_wp2_with fail
          refine (HR.out _ B1.out).mono ?_
          rintro e w2 ⟨rfl, hb⟩
          have B2 := Lib.hid (B1.out.trans (hb.mono B1.out.size))
          clear hb
          go_wp2_with fail
          refine (CB.out _ B2.out).mono ?_
          rintro e wq ⟨rfl, rfl⟩
          go_wp2_with fail
          refine (CF.out _ B2.out).mono ?_
          rintro e wq ⟨rfl, rfl⟩
          go_wp2
          (try simp only [Exit.inBlock, Exit.then])
          refine bodyPost_ret (results_tmp4 rfl _ _ _) rfl ?_
          exact ⟨rfl, B2.out⟩
        · simp at hil
          rw [hf] at CF
          have hi0 : ¬ (i : Int) < 0 := by omega
          have hi1 : (i : Int) ≤ 50000 := by omega
          have ht1 : (t : Int) ≤ 50000 := by omega
          by_cases hbe : blankTo l t = t
          · rw [hbe] at CF CB hf hki
            by_cases hit : i = t
            · subst hit
              rw [piRest_yes l s i i i HRS.out hbe hf (fun _ => rfl)]
              have HST : Hid (∀ W, Below w.heap.size w W → (convert 22 9 (.slice (cutA A cap i) (i - i) (cap - i))).run Tryz.prog W = .ok (.string ⟨((l.drop i).take (i - i)).toArray⟩) W) := Lib.hid fun W hb => (((h.below hb).drop (k := i) (by omega)).take (k := i - i) (by omega)).str
              have hrf : ∀ w2 : World, (Instr.slice 22 (.slice A n cap) (some (.int .i64 (i : Int))) (some (.int .i64 (i : Int))) none).run Tryz.prog w2 = .ok (.slice (cutA A cap i) (i - i) (cap - i)) w2 := fun w2 => run_fromTo (w := w2) A n cap i i (by omega) (by omega)
              clear h hln hf hbt hbe hki hpre hil hcap
              generalize (l.drop i).take (i - i) = T at *
              generalize i - i = ii at *
              go_enter Tryz.func17, Tryz.ntmps17
              go_wp2_with fail
              refine (C1.out).mono ?_
              rintro e wq ⟨rfl, rfl⟩
              go_wp2_with fail
              refine (C2.out).mono ?_
              rintro e w1 ⟨rfl, hb⟩
              have B1 := Lib.hid hb
              clear hb
              go_wp2_with fail
              refine (HR.out _ B1.out).mono ?_
              rintro e w2 ⟨rfl, hb⟩
              have B2 := Lib.hid (B1.out.trans (hb.mono B1.out.size))
              clear hb
              go_wp2_with fail
              refine (CB.out _ B2.out).mono ?_
              rintro e wq ⟨rfl, rfl⟩
              go_wp2_with fail
              refine (CF.out _ B2.out).mono ?_
              rintro e wq ⟨rfl, rfl⟩
              have hst : ∀ m, (convert 22 9 (.slice (cutA A cap i) ii (cap - i))).run Tryz.prog (w2.drewN m) = .ok (.string ⟨T.toArray⟩) (w2.drewN m) := fun m => HST.out _ (below_drewN' B2.out)
              go_wp2
              go_quiet (fail)
              have B3 := Lib.hid (below_drewN' (n := nq) B2.out)
              clear hst
              generalize w2.drewN nq = w3 at *
              go_wp2
              (try simp only [Exit.inBlock, Exit.then])
              refine bodyPost_ret (results_tmp4 rfl _ _ _) rfl ?_
              exact ⟨rfl, B3.out⟩
            · have hitb : ((i : Int) != (t : Int)) = true := by simp; omega
              rw [piRest_tight l s t i HRS.out hbe hf hit]
              clear h hln hf hbt hbe hki hpre hil hcap hit
              go_enter Tryz.func17, Tryz.ntmps17
              go_wp2_with fail
              refine (C1.out).mono ?_
              rintro e wq ⟨rfl, rfl⟩
              go_wp2_with fail
              refine (C2.out).mono ?_
              rintro e w1 ⟨rfl, hb⟩
              have B1 := Lib.hid hb
              clear hb
              go_wp2_with fail
              refine (HR.out _ B1.out).mono ?_
              rintro e w2 ⟨rfl, hb⟩
              have B2 := Lib.hid (B1.out.trans (hb.mono B1.out.size))
              clear hb
              go_wp2_with fail
              refine (CB.out _ B2.out).mono ?_
              rintro e wq ⟨rfl, rfl⟩
              go_wp2_with fail
              refine (CF.out _ B2.out).mono ?_
              rintro e wq ⟨rfl, rfl⟩
              go_wp2
              (try simp only [Exit.inBlock, Exit.then])
              refine bodyPost_ret (results_tmp4 rfl _ _ _) rfl ?_
              exact ⟨rfl, B2.out⟩
          · rw [piRest_yes l s t _ i HRS.out rfl hf (fun e => absurd e hbe)]
            have hbne : ((blankTo l t : Int) == (t : Int)) = false := by simp; omega
            have HST : Hid (∀ W, Below w.heap.size w W → (convert 22 9 (.slice (cutA A cap (blankTo l t)) (i - blankTo l t) (cap - blankTo l t))).run Tryz.prog W = .ok (.string ⟨((l.drop (blankTo l t)).take (i - blankTo l t)).toArray⟩) W) := Lib.hid fun W hb => (((h.below hb).drop (k := blankTo l t) (by omega)).take (k := i - blankTo l t) (by omega)).str
            have hrf : ∀ w2 : World, (Instr.slice 22 (.slice A n cap) (some (.int .i64 (blankTo l t : Int))) (some (.int .i64 (i : Int))) none).run Tryz.prog w2 = .ok (.slice (cutA A cap (blankTo l t)) (i - blankTo l t) (cap - blankTo l t)) w2 := fun w2 => run_fromTo (w := w2) A n cap (blankTo l t) i (by omega) (by omega)
            clear h hln hf hbt hbe hki hpre hil hcap
            generalize (l.drop (blankTo l t)).take (i - blankTo l t) = T at *
            generalize i - blankTo l t = ii at *
            generalize blankTo l t = b at *
            go_enter Tryz.func17, Tryz.ntmps17
            go_wp2_with fail
            refine (C1.out).mono ?_
            rintro e wq ⟨rfl, rfl⟩
            go_wp2_with fail
            refine (C2.out).mono ?_
            rintro e w1 ⟨rfl, hb⟩
            have B1 := Lib.hid hb
            clear hb
            go_wp2_with fail
            refine (HR.out _ B1.out).mono ?_
            rintro e w2 ⟨rfl, hb⟩
            have B2 := Lib.hid (B1.out.trans (hb.mono B1.out.size))
            clear hb
            go_wp2_with fail
            refine (CB.out _ B2.out).mono ?_
            rintro e wq ⟨rfl, rfl⟩
            go_wp2_with fail
            refine (CF.out _ B2.out).mono ?_
            rintro e wq ⟨rfl, rfl⟩
            have hst : ∀ m, (convert 22 9 (.slice (cutA A cap b) ii (cap - b))).run Tryz.prog (w2.drewN m) = .ok (.string ⟨T.toArray⟩) (w2.drewN m) := fun m => HST.out _ (below_drewN' B2.out)
            go_wp2
            go_quiet (fail)
            have B3 := Lib.hid (below_drewN' (n := nq) B2.out)
            clear hst
            generalize w2.drewN nq = w3 at *
            go_wp2
            (try simp only [Exit.inBlock, Exit.then])
            refine bodyPost_ret (results_tmp4 rfl _ _ _) rfl ?_
            exact ⟨rfl, B3.out⟩
    · have hfz : ((f : Int) != 0) = true := by simp; omega
      rw [piRest_err l s t f hf]
      clear h hln hf hle HR
      go_enter Tryz.func17, Tryz.ntmps17
      go_wp2_with fail
      refine (C1.out).mono ?_
      rintro e wq ⟨rfl, rfl⟩
      go_wp2_with fail
      refine (C2.out).mono ?_
      rintro e w1 ⟨rfl, hb⟩
      have B1 := Lib.hid hb
      clear hb
      go_wp2
      (try simp only [Exit.inBlock, Exit.then])
      refine bodyPost_ret (results_tmp4 rfl _ _ _) rfl ?_
      exact ⟨rfl, B1.out⟩
  · have hp' := bfalse hp
    rw [hp'] at c1
    have C1 := Lib.hid c1
    have HO : Hid (piOut l k = ([], [], 0, 7)) := Lib.hid (by unfold piOut; rw [if_pos hp'])
    rw [HO.out]
    clear c1 h hp hp' hln HO hR
    go_enter Tryz.func17, Tryz.ntmps17
    go_wp2_with fail
    refine (C1.out).mono ?_
    rintro e wq ⟨rfl, rfl⟩
    go_wp2
    (try simp only [Exit.inBlock, Exit.then])
    refine bodyPost_ret (results_tmp4 rfl _ _ _) rfl ?_
    exact ⟨rfl, Below.refl _ _⟩
end Go.Proofs.YtgenpgfhjhcahaaGreatDoor
/- misc.Pi. -/
namespace Go.Proofs.YtgenpgfhjhcahaaGreatDoor
open Go.ChangeShapes Go.WideShapes Go.ChangeAt Go.RowKit
set_option linter.unusedVariables false
theorem findI_index (l p : List UInt8) (k : Nat) : (Lib.index (l.drop k) p < 0 ∧ findI l k p = -1 ∧ Lib.index (l.drop k) p = -1) ∨ ∃ j : Nat, Lib.index (l.drop k) p = (j : Int) ∧ findI l k p = ((k + j : Nat) : Int) := by
  have hge := Lib.index_ge (l.drop k) p
  by_cases h : Lib.index (l.drop k) p < 0
  · refine .inl ⟨h, ?_, by omega⟩
    unfold findI
    rw [if_pos h]
  · refine .inr ⟨(Lib.index (l.drop k) p).toNat, by omega, ?_⟩
    unfold findI
    rw [if_neg h]
    omega
set_option maxRecDepth 100000 in
set_option maxHeartbeats 4000000 in
theorem miscPi_in (A : Option Addr) (n cap : Nat) (l : List UInt8) (k : Nat) (w : World) (h : Byt w w.heap.size A n cap l) (hF : Forms w) (hT : TabN w) (hM : MaxL w) (hm : n ≤ 50000) (hk : k ≤ n) (hR : ResC 81 w (plainOut l (k + 2)).1) :
    Calls Tryz.prog 55 #[.slice A n cap, .int .i64 k] w fun e w' => e = .returned (out4V (piOut l k)) ∧ Below w.heap.size w w' := by
  have kc := fun (w : World) (C : Array Value) (n c : Nat) => Lib.run_convert_bytes_const (P := Tryz.prog) w 22 5 C n c Tryz.underlying22 Tryz.underlying5
  have hk' : ¬ (n : Int) < (k : Int) := by omega
  have hk0 : (0 : Int) ≤ (k : Int) := by omega
  have hk1 : (k : Int) ≤ 50000 := by omega
  have hln := h.length
  have hrk : ∀ W : World, (Instr.slice 22 (.slice A n cap) (some (.int .i64 (k : Int))) none none).run Tryz.prog W = .ok (.slice (cutA A cap k) (n - k) (cap - k)) W := fun W => run_from A n cap k hk
  have hL := hT.low hF
  have hA0 := alloc_const w [60, 63] (2, 3) (by simp)
  have C1 := Lib.hid (hasPrefix_c _ _ _ _ _ _ _ _ _ _ _ ((h.below hA0.1).drop hk) hA0.2)
  have B0 := Lib.hid hA0.1
  have hcap := h.le
  have HH := Lib.hid (And.intro h (And.intro hF (And.intro hT (And.intro hM hL))))
  clear hA0
  by_cases hp : [60, 63].isPrefixOf (l.drop k) = true
  · have hkl : k + 2 ≤ n := by have := pre_len hp; simp at this; omega
    rw [hp] at C1
    have HO : Hid (piOut l k = piRest l (plainOut l (k + 2))) := Lib.hid (by unfold piOut; rw [if_neg (by rw [hp]; simp)])
    rw [HO.out]
    have hle := plainOut_le l (k + 2) (by omega)
    have C2 : Hid (∀ W, Below w.heap.size w W → Calls Tryz.prog 80 #[.slice A n cap, .int .i64 ((k : Int) + 2)] W fun e w' => e = .returned (outV (plainOut l (k + 2))) ∧ Below W.heap.size W w') := Lib.hid fun W hb => by
      have := plain_c A n cap l (k + 2) W ((h.below hb).more hb.size) (hF.below hb hF.lt) (hT.below hb hL) (by omega) hkl
      rwa [show ((k + 2 : Nat) : Int) = (k : Int) + 2 by omega] at this
    clear HO hp
    generalize plainOut l (k + 2) = po at *
    obtain ⟨s, t, f⟩ := po
    unfold outV at C2
    simp only at C2 hle hR
    have HR := Lib.hid hR
    clear hR
    by_cases hf : f = 0
    · subst hf
      have htl := hle rfl
      clear hle
      have CB : Hid (∀ W, Below w.heap.size w W → Calls Tryz.prog 13 #[.slice A n cap, .int .i64 t] W fun e w' => e = .returned (.int .i64 (blankTo l t)) ∧ W = w') := Lib.hid fun W hb => blanks_c A n cap l t _ W (h.below hb) (by omega) (by omega)
      have hbt := blankTo_le l t (by omega)
      cases hrs : resB s with
      | true =>
        rw [piRest_res l s t hrs]
        unfold ResC at HR
        rw [hrs] at HR
        clear h hF hT hM hL hln hrs hbt hcap
        go_enter Tryz.func55, Tryz.ntmps55
        go_wp2_with fail
        refine C1.out.mono ?_
        rintro e w1 ⟨rfl, rfl⟩
        clear kc
        go_wp2_with fail
        refine (C2.out _ B0.out).mono ?_
        rintro e w2 ⟨rfl, hb⟩
        have B1 := Lib.hid (B0.out.trans (hb.mono B0.out.size))
        clear hb
        go_wp2_with fail
        refine (HR.out _ B1.out).mono ?_
        rintro e w3 ⟨rfl, hb⟩
        have B2 := Lib.hid (B1.out.trans (hb.mono B1.out.size))
        clear hb
        go_wp2
        (try simp only [Exit.inBlock, Exit.then])
        refine bodyPost_ret (results_tmp4 rfl _ _ _) rfl ?_
        exact ⟨rfl, B2.out⟩
      | false =>
        unfold ResC at HR
        rw [hrs] at HR
        have HRS := Lib.hid hrs
        clear hrs
        have hrb : ∀ W : World, (Instr.slice 22 (.slice A n cap) (some (.int .i64 (blankTo l t : Int))) none none).run Tryz.prog W = .ok (.slice (cutA A cap (blankTo l t)) (n - blankTo l t) (cap - blankTo l t)) W := fun W => run_from A n cap (blankTo l t) (by omega)
        have CI : Hid (∀ W, Below w.heap.size w W → Calls Tryz.prog 82 #[.slice (cutA A cap (blankTo l t)) (n - blankTo l t) (cap - blankTo l t), .slice (some ⟨W.heap.size, 0, none⟩) 2 2] (W.alloc (.cells #[.int .u8 63, .int .u8 62] 5 (2, 3))) fun e w' => e = .returned (.int .i64 (Lib.index (l.drop (blankTo l t)) [63, 62])) ∧ Hid (Below w.heap.size w w')) := Lib.hid fun W hb => by
          have hA1 := alloc_const W [63, 62] (2, 3) (by simp)
          have hb1 := hb.trans (hA1.1.mono hb.size)
          exact (bindex_c _ _ _ _ _ _ _ _ _ _ _ ((h.below hb1).drop (k := blankTo l t) (by omega)) hA1.2 (hM.below hb1 hM.lt) (by simp) (by omega) (by simp)).mono fun e w' ⟨he, q, hq⟩ => ⟨he, Lib.hid (hq ▸ below_drewN' hb1)⟩
        rcases findI_index l [63, 62] (blankTo l t) with ⟨_, hf, hx⟩ | ⟨j, hx, hf⟩
        · rw [piRest_no l s t _ HRS.out rfl (by rw [hf]; omega)]
          rw [hx] at CI
          clear h hF hT hM hL hln hf hbt hcap hx
          generalize blankTo l t = b at *
          generalize n - b = nb at *
          generalize cap - b = cb at *
          go_enter Tryz.func55, Tryz.ntmps55
          go_wp2_with fail
          refine C1.out.mono ?_
          rintro e w1 ⟨rfl, rfl⟩
          go_wp2_with fail
          refine (C2.out _ B0.out).mono ?_
          rintro e w2 ⟨rfl, hb⟩
          have B1 := Lib.hid (B0.out.trans (hb.mono B0.out.size))
          clear hb
          go_wp2_with fail
          refine (HR.out _ B1.out).mono ?_
          rintro e w3 ⟨rfl, hb⟩
          have B2 := Lib.hid (B1.out.trans (hb.mono B1.out.size))
          clear hb
          go_wp2_with fail
          refine (CB.out _ B2.out).mono ?_
          rintro e wq ⟨rfl, rfl⟩
          go_wp2_with fail
          refine (CI.out _ B2.out).mono ?_
          rintro e w4 ⟨rfl, B3⟩
          clear kc
          go_wp2
          (try simp only [Exit.inBlock, Exit.then])
          refine bodyPost_ret (results_tmp4 rfl _ _ _) rfl ?_
          exact ⟨rfl, B3.out⟩
        · have hjl : blankTo l t + j + 2 ≤ l.length := by
            have := Lib.index_room (l.drop (blankTo l t)) [63, 62] (by rw [hx]; omega)
            rw [hx, List.length_drop] at this
            simp at this
            omega
          rw [hx] at CI
          have hj0 : ¬ (j : Int) < 0 := by omega
          have hj1 : (j : Int) ≤ 50000 := by omega
          have ht1 : (t : Int) ≤ 50000 := by omega
          have hb1 : (blankTo l t : Int) ≤ 50000 := by omega
          by_cases hjt : blankTo l t = t ∧ 0 < j
          · have hres : piRest l (s, t, 0) = ([], [], 0, 7) := piRest_tight l s t (t + j) HRS.out hjt.1 (by rw [← hjt.1, hf, hjt.1]) (by omega)
            rw [hres]
            have hbe : ((blankTo l t : Int) == (t : Int)) = true := by simp; omega
            have hjp : (0 : Int) < (j : Int) := by omega
            clear h hF hT hM hL hln hf hbt hcap hx hres hjl hjt
            generalize blankTo l t = b at *
            generalize n - b = nb at *
            generalize cap - b = cb at *
            go_enter Tryz.func55, Tryz.ntmps55
            go_wp2_with fail
            refine C1.out.mono ?_
            rintro e w1 ⟨rfl, rfl⟩
            go_wp2_with fail
            refine (C2.out _ B0.out).mono ?_
            rintro e w2 ⟨rfl, hb⟩
            have B1 := Lib.hid (B0.out.trans (hb.mono B0.out.size))
            clear hb
            go_wp2_with fail
            refine (HR.out _ B1.out).mono ?_
            rintro e w3 ⟨rfl, hb⟩
            have B2 := Lib.hid (B1.out.trans (hb.mono B1.out.size))
            clear hb
            go_wp2_with fail
            refine (CB.out _ B2.out).mono ?_
            rintro e wq ⟨rfl, rfl⟩
            go_wp2_with fail
            refine (CI.out _ B2.out).mono ?_
            rintro e w4 ⟨rfl, B3⟩
            clear kc
            go_wp2
            (try simp only [Exit.inBlock, Exit.then])
            refine bodyPost_ret (results_tmp4 rfl _ _ _) rfl ?_
            exact ⟨rfl, B3.out⟩
          · have hres : piRest l (s, t, 0) = (s, (l.drop (blankTo l t)).take j, blankTo l t + j + 2, 0) := by
              have := piRest_yes l s t (blankTo l t) (blankTo l t + j) HRS.out rfl hf (fun e => by
                rcases Nat.eq_zero_or_pos j with g | g
                · omega
                · exact absurd ⟨e, g⟩ hjt)
              rw [this, show blankTo l t + j - blankTo l t = j by omega]
            rw [hres]
            have HST : Hid (∀ W, Below w.heap.size w W → (convert 22 9 (.slice (cutA A cap (blankTo l t)) j (cap - blankTo l t))).run Tryz.prog W = .ok (.string ⟨((l.drop (blankTo l t)).take j).toArray⟩) W) := Lib.hid fun W hb => (((h.below hb).drop (k := blankTo l t) (by omega)).take (k := j) (by omega)).str
            have hrf : ∀ w2 : World, (Instr.slice 22 (.slice A n cap) (some (.int .i64 (blankTo l t : Int))) (some (.int .i64 ((blankTo l t : Int) + (j : Int)))) none).run Tryz.prog w2 = .ok (.slice (cutA A cap (blankTo l t)) j (cap - blankTo l t)) w2 := fun w2 => by
              have := run_fromTo (w := w2) A n cap (blankTo l t) (blankTo l t + j) (by omega) (by omega)
              rwa [show blankTo l t + j - blankTo l t = j by omega, show ((blankTo l t + j : Nat) : Int) = (blankTo l t : Int) + (j : Int) by omega] at this
            rcases (show blankTo l t ≠ t ∨ (blankTo l t = t ∧ j = 0) by omega) with hbne | ⟨hbe, hj00⟩
            · have hbe : ((blankTo l t : Int) == (t : Int)) = false := by simp; omega
              clear h hF hT hM hL hln hf hbt hcap hx hres hjl hjt hbne
              generalize (l.drop (blankTo l t)).take j = T at *
              generalize blankTo l t = b at *
              generalize n - b = nb at *
              generalize cap - b = cb at *
              go_enter Tryz.func55, Tryz.ntmps55
              go_wp2_with fail
              refine C1.out.mono ?_
              rintro e w1 ⟨rfl, rfl⟩
              go_wp2_with fail
              refine (C2.out _ B0.out).mono ?_
              rintro e w2 ⟨rfl, hb⟩
              have B1 := Lib.hid (B0.out.trans (hb.mono B0.out.size))
              clear hb
              go_wp2_with fail
              refine (HR.out _ B1.out).mono ?_
              rintro e w3 ⟨rfl, hb⟩
              have B2 := Lib.hid (B1.out.trans (hb.mono B1.out.size))
              clear hb
              go_wp2_with fail
              refine (CB.out _ B2.out).mono ?_
              rintro e wq ⟨rfl, rfl⟩
              go_wp2_with fail
              refine (CI.out _ B2.out).mono ?_
              rintro e w4 ⟨rfl, B3⟩
              clear kc
              have hst : ∀ m, (convert 22 9 (.slice (cutA A cap b) j cb)).run Tryz.prog (w4.drewN m) = .ok (.string ⟨T.toArray⟩) (w4.drewN m) := fun m => HST.out _ (below_drewN' B3.out)
              have hs1 : IntKind.i64.wrap ((b : Int) + (j : Int)) = (b : Int) + (j : Int) := by rw [IntKind.wrap_i64]; omega
              have hs2 : IntKind.i64.wrap ((b : Int) + (j : Int) + 2) = (b : Int) + (j : Int) + 2 := by rw [IntKind.wrap_i64]; omega
              go_wp2
              go_quiet (fail)
              have B4 := Lib.hid (below_drewN' (n := nq) B3.out)
              clear hst
              generalize w4.drewN nq = w5 at *
              go_wp2
              (try simp only [Exit.inBlock, Exit.then])
              refine bodyPost_ret (results_tmp4 rfl _ _ _) rfl ?_
              exact ⟨rfl, B4.out⟩
            · subst hj00
              have hbe' : ((blankTo l t : Int) == (t : Int)) = true := by simp; omega
              clear h hF hT hM hL hln hf hbt hcap hx hres hjl hjt hbe
              generalize (l.drop (blankTo l t)).take 0 = T at *
              generalize blankTo l t = b at *
              generalize n - b = nb at *
              generalize cap - b = cb at *
              go_enter Tryz.func55, Tryz.ntmps55
              go_wp2_with fail
              refine C1.out.mono ?_
              rintro e w1 ⟨rfl, rfl⟩
              go_wp2_with fail
              refine (C2.out _ B0.out).mono ?_
              rintro e w2 ⟨rfl, hb⟩
              have B1 := Lib.hid (B0.out.trans (hb.mono B0.out.size))
              clear hb
              go_wp2_with fail
              refine (HR.out _ B1.out).mono ?_
              rintro e w3 ⟨rfl, hb⟩
              have B2 := Lib.hid (B1.out.trans (hb.mono B1.out.size))
              clear hb
              go_wp2_with fail
              refine (CB.out _ B2.out).mono ?_
              rintro e wq ⟨rfl, rfl⟩
              go_wp2_with fail
              refine (CI.out _ B2.out).mono ?_
              rintro e w4 ⟨rfl, B3⟩
              clear kc
              have hst : ∀ m, (convert 22 9 (.slice (cutA A cap b) 0 cb)).run Tryz.prog (w4.drewN m) = .ok (.string ⟨T.toArray⟩) (w4.drewN m) := fun m => HST.out _ (below_drewN' B3.out)
              have hrf2 := hrf
              simp only [Int.natCast_zero, Int.add_zero] at hrf2
              go_wp2
              go_quiet (fail)
              have B4 := Lib.hid (below_drewN' (n := nq) B3.out)
              clear hst
              generalize w4.drewN nq = w5 at *
              go_wp2
              (try simp only [Exit.inBlock, Exit.then])
              refine bodyPost_ret (results_tmp4 rfl _ _ _) rfl ?_
              exact ⟨rfl, B4.out⟩
    · have hfz : ((f : Int) != 0) = true := by simp; omega
      rw [piRest_err l s t f hf]
      clear h hF hT hM hL hln hf hle HR hcap
      go_enter Tryz.func55, Tryz.ntmps55
      go_wp2_with fail
      refine C1.out.mono ?_
      rintro e w1 ⟨rfl, rfl⟩
      clear kc
      go_wp2_with fail
      refine (C2.out _ B0.out).mono ?_
      rintro e w2 ⟨rfl, hb⟩
      have B1 := Lib.hid (B0.out.trans (hb.mono B0.out.size))
      clear hb
      go_wp2
      (try simp only [Exit.inBlock, Exit.then])
      refine bodyPost_ret (results_tmp4 rfl _ _ _) rfl ?_
      exact ⟨rfl, B1.out⟩
  · have hp' := bfalse hp
    rw [hp'] at C1
    have HO : Hid (piOut l k = ([], [], 0, 7)) := Lib.hid (by unfold piOut; rw [if_pos hp'])
    rw [HO.out]
    clear h hF hT hM hL hp hp' hln HO hR hcap
    go_enter Tryz.func55, Tryz.ntmps55
    go_wp2_with fail
    refine C1.out.mono ?_
    rintro e w1 ⟨rfl, rfl⟩
    clear kc
    go_wp2
    (try simp only [Exit.inBlock, Exit.then])
    refine bodyPost_ret (results_tmp4 rfl _ _ _) rfl ?_
    exact ⟨rfl, B0.out⟩
end Go.Proofs.YtgenpgfhjhcahaaGreatDoor
/- Plain law: comments and marked texts as they are put. -/
namespace Go.Proofs.YtgenpgfhjhcahaaGreatDoor
open Go.ChangeShapes Go.WideShapes Go.ChangeAt Go.RowKit
set_option linter.unusedVariables false
end Go.Proofs.YtgenpgfhjhcahaaGreatDoor
/- Statements of chapter 8. -/
namespace Go.Proofs.YtgenpgfhjhcahaaGreatDoor
open Go.ChangeShapes Go.WideShapes Go.ChangeAt Go.RowKit
set_option linter.unusedVariables false
set_option maxRecDepth 100000 in
set_option maxHeartbeats 4000000 in
theorem reserved_len (s : List UInt8) (w : World) (hs : s.length ≠ 3) : Calls Tryz.prog 81 #[.string ⟨s.toArray⟩] w fun e w' => e = .returned (.bool false) ∧ w = w' := by
  have hl : ((s.length : Int) == 3) = false := by simp; omega
  go_enter Tryz.func81, Tryz.ntmps81
  go_wp2
  go_ret
  exact ⟨rfl, rfl⟩
/-- What is asked of the world. -/
structure W8 (w : World) : Prop where
  tabs : TabN w
  forms : Forms w
  maxl : MaxL w
theorem W8.below {w w' : World} (h : W8 w) (hb : Below w.heap.size w w') : W8 w' := ⟨h.tabs.below hb (h.tabs.low h.forms), h.forms.below hb h.forms.lt, h.maxl.below hb h.maxl.lt⟩
end Go.Proofs.YtgenpgfhjhcahaaGreatDoor
/- Reserved names. -/
namespace Go.Proofs.YtgenpgfhjhcahaaGreatDoor
open Go.ChangeShapes Go.WideShapes Go.ChangeAt Go.RowKit
set_option linter.unusedVariables false
theorem resB_len (s : List UInt8) (h : s.length ≠ 3) : resB s = false := by
  unfold resB
  match s, h with
  | [], _ => rfl
  | [_], _ => simp [Lib.equalFold]
  | [_, _], _ => simp [Lib.equalFold]
  | [_, _, _], h => simp at h
  | _ :: _ :: _ :: _ :: _, _ => simp [Lib.equalFold]
theorem resB_three (a b c : UInt8) : resB [a, b, c] = (Lib.foldEq a 120 && (Lib.foldEq b 109 && Lib.foldEq c 108)) := by
  unfold resB
  simp [Lib.equalFold]
theorem fold_not (a u v : UInt8) (hu : 97 ≤ u.toNat) (hv : v.toNat + 32 = u.toNat) (h1 : ¬ a = u) (h2 : ¬ a = v) : Lib.foldEq a u = false := by
  unfold Lib.foldEq
  have n1 : ¬ a.toNat = u.toNat := fun e => h1 (UInt8.toNat_inj.1 e)
  have n2 : ¬ a.toNat = v.toNat := fun e => h2 (UInt8.toNat_inj.1 e)
  exact decide_eq_false (by omega)
set_option maxRecDepth 100000 in
set_option maxHeartbeats 4000000 in
theorem refReserved_len (s : List UInt8) (w : World) (hs : s.length ≠ 3) : Calls Tryz.prog 36 #[.string ⟨s.toArray⟩] w fun e w' => e = .returned (.bool (resB s)) ∧ w = w' := by
  rw [resB_len s hs]
  have hl : ((s.length : Int) != 3) = true := by simp; omega
  go_enter Tryz.func36, Tryz.ntmps36
  go_wp2
  go_ret
  exact ⟨rfl, rfl⟩
set_option maxRecDepth 100000 in
set_option maxHeartbeats 4000000 in
theorem refReserved_three (a b c : UInt8) (w : World) : Calls Tryz.prog 36 #[.string ⟨[a, b, c].toArray⟩] w fun e w' => e = .returned (.bool (resB [a, b, c])) ∧ w = w' := by
  rw [resB_three]
  have i0 : (Instr.index 9 (.string ⟨[a, b, c].toArray⟩) (.int .i64 0)).run Tryz.prog w = .ok (.int .u8 (a.toNat : Int)) w := run_strIndex [a, b, c] 0 (by simp) w
  have i1 : (Instr.index 9 (.string ⟨[a, b, c].toArray⟩) (.int .i64 1)).run Tryz.prog w = .ok (.int .u8 (b.toNat : Int)) w := run_strIndex [a, b, c] 1 (by simp) w
  have i2 : (Instr.index 9 (.string ⟨[a, b, c].toArray⟩) (.int .i64 2)).run Tryz.prog w = .ok (.int .u8 (c.toNat : Int)) w := run_strIndex [a, b, c] 2 (by simp) w
  have hsz : (⟨[a, b, c].toArray⟩ : ByteArray).size = 3 := rfl
  generalize (⟨[a, b, c].toArray⟩ : ByteArray) = S at *
  by_cases ha1 : a = 120
  · subst ha1
    have ea : Lib.foldEq 120 120 = true := by decide
    have ta : (UInt8.toNat 120 : Int) = 120 := rfl
    rw [ta] at i0
    by_cases hb1 : b = 109
    · subst hb1
      have eb : Lib.foldEq 109 109 = true := by decide
      have tb : (UInt8.toNat 109 : Int) = 109 := rfl
      rw [tb] at i1
      by_cases hc1 : c = 108
      · subst hc1
        have ec : Lib.foldEq 108 108 = true := by decide
        have tc : (UInt8.toNat 108 : Int) = 108 := rfl
        rw [tc] at i2
        rw [ea, eb, ec]
        clear ea ta eb tb ec tc
        go_enter Tryz.func36, Tryz.ntmps36
        go_wp2
        go_ret
        exact ⟨rfl, rfl⟩
      · by_cases hc2 : c = 76
        · subst hc2
          have ec : Lib.foldEq 76 108 = true := by decide
          have tc : (UInt8.toNat 76 : Int) = 76 := rfl
          rw [tc] at i2
          rw [ea, eb, ec]
          clear ea ta eb tb ec tc hc1
          go_enter Tryz.func36, Tryz.ntmps36
          go_wp2
          go_ret
          exact ⟨rfl, rfl⟩
        · have ec : Lib.foldEq c 108 = false := fold_not c 108 76 (by decide) (by decide) hc1 hc2
          have nc : ((c.toNat : Int) == 108) = false := ne_byte c 108 108 rfl hc1
          have mc : ((c.toNat : Int) == 76) = false := ne_byte c 76 76 rfl hc2
          rw [ea, eb, ec]
          clear ea ta eb tb ec hc1 hc2
          go_enter Tryz.func36, Tryz.ntmps36
          go_wp2
          go_ret
          exact ⟨rfl, rfl⟩
    · by_cases hb2 : b = 77
      · subst hb2
        have eb : Lib.foldEq 77 109 = true := by decide
        have tb : (UInt8.toNat 77 : Int) = 77 := rfl
        rw [tb] at i1
        by_cases hc1 : c = 108
        · subst hc1
          have ec : Lib.foldEq 108 108 = true := by decide
          have tc : (UInt8.toNat 108 : Int) = 108 := rfl
          rw [tc] at i2
          rw [ea, eb, ec]
          clear ea ta eb tb hb1 ec tc
          go_enter Tryz.func36, Tryz.ntmps36
          go_wp2
          go_ret
          exact ⟨rfl, rfl⟩
        · by_cases hc2 : c = 76
          · subst hc2
            have ec : Lib.foldEq 76 108 = true := by decide
            have tc : (UInt8.toNat 76 : Int) = 76 := rfl
            rw [tc] at i2
            rw [ea, eb, ec]
            clear ea ta eb tb hb1 ec tc hc1
            go_enter Tryz.func36, Tryz.ntmps36
            go_wp2
            go_ret
            exact ⟨rfl, rfl⟩
          · have ec : Lib.foldEq c 108 = false := fold_not c 108 76 (by decide) (by decide) hc1 hc2
            have nc : ((c.toNat : Int) == 108) = false := ne_byte c 108 108 rfl hc1
            have mc : ((c.toNat : Int) == 76) = false := ne_byte c 76 76 rfl hc2
            rw [ea, eb, ec]
            clear ea ta eb tb hb1 ec hc1 hc2
            go_enter Tryz.func36, Tryz.ntmps36
            go_wp2
            go_ret
            exact ⟨rfl, rfl⟩
      · have eb : Lib.foldEq b 109 = false := fold_not b 109 77 (by decide) (by decide) hb1 hb2
        have nb : ((b.toNat : Int) == 109) = false := ne_byte b 109 109 rfl hb1
        have mb : ((b.toNat : Int) == 77) = false := ne_byte b 77 77 rfl hb2
        rw [ea, eb]
        clear ea ta eb hb1 hb2
        go_enter Tryz.func36, Tryz.ntmps36
        go_wp2
        go_ret
        exact ⟨rfl, rfl⟩
  · by_cases ha2 : a = 88
    · subst ha2
      have ea : Lib.foldEq 88 120 = true := by decide
      have ta : (UInt8.toNat 88 : Int) = 88 := rfl
      rw [ta] at i0
      by_cases hb1 : b = 109
      · subst hb1
        have eb : Lib.foldEq 109 109 = true := by decide
        have tb : (UInt8.toNat 109 : Int) = 109 := rfl
        rw [tb] at i1
        by_cases hc1 : c = 108
        · subst hc1
          have ec : Lib.foldEq 108 108 = true := by decide
          have tc : (UInt8.toNat 108 : Int) = 108 := rfl
          rw [tc] at i2
          rw [ea, eb, ec]
          clear ea ta ha1 eb tb ec tc
          go_enter Tryz.func36, Tryz.ntmps36
          go_wp2
          go_ret
          exact ⟨rfl, rfl⟩
        · by_cases hc2 : c = 76
          · subst hc2
            have ec : Lib.foldEq 76 108 = true := by decide
            have tc : (UInt8.toNat 76 : Int) = 76 := rfl
            rw [tc] at i2
            rw [ea, eb, ec]
            clear ea ta ha1 eb tb ec tc hc1
            go_enter Tryz.func36, Tryz.ntmps36
            go_wp2
            go_ret
            exact ⟨rfl, rfl⟩
          · have ec : Lib.foldEq c 108 = false := fold_not c 108 76 (by decide) (by decide) hc1 hc2
            have nc : ((c.toNat : Int) == 108) = false := ne_byte c 108 108 rfl hc1
            have mc : ((c.toNat : Int) == 76) = false := ne_byte c 76 76 rfl hc2
            rw [ea, eb, ec]
            clear ea ta ha1 eb tb ec hc1 hc2
            go_enter Tryz.func36, Tryz.ntmps36
            go_wp2
            go_ret
            exact ⟨rfl, rfl⟩
      · by_cases hb2 : b = 77
        · subst hb2
          have eb : Lib.foldEq 77 109 = true := by decide
          have tb : (UInt8.toNat 77 : Int) = 77 := rfl
          rw [tb] at i1
          by_cases hc1 : c = 108
          · subst hc1
            have ec : Lib.foldEq 108 108 = true := by decide
            have tc : (UInt8.toNat 108 : Int) = 108 := rfl
            rw [tc] at i2
            rw [ea, eb, ec]
            clear ea ta ha1 eb tb hb1 ec tc
            go_enter Tryz.func36, Tryz.ntmps36
            go_wp2
            go_ret
            exact ⟨rfl, rfl⟩
          · by_cases hc2 : c = 76
            · subst hc2
              have ec : Lib.foldEq 76 108 = true := by decide
              have tc : (UInt8.toNat 76 : Int) = 76 := rfl
              rw [tc] at i2
              rw [ea, eb, ec]
              clear ea ta ha1 eb tb hb1 ec tc hc1
              go_enter Tryz.func36, Tryz.ntmps36
              go_wp2
              go_ret
              exact ⟨rfl, rfl⟩
            · have ec : Lib.foldEq c 108 = false := fold_not c 108 76 (by decide) (by decide) hc1 hc2
              have nc : ((c.toNat : Int) == 108) = false := ne_byte c 108 108 rfl hc1
              have mc : ((c.toNat : Int) == 76) = false := ne_byte c 76 76 rfl hc2
              rw [ea, eb, ec]
              clear ea ta ha1 eb tb hb1 ec hc1 hc2
              go_enter Tryz.func36, Tryz.ntmps36
              go_wp2
              go_ret
              exact ⟨rfl, rfl⟩
        · have eb : Lib.foldEq b 109 = false := fold_not b 109 77 (by decide) (by decide) hb1 hb2
          have nb : ((b.toNat : Int) == 109) = false := ne_byte b 109 109 rfl hb1
          have mb : ((b.toNat : Int) == 77) = false := ne_byte b 77 77 rfl hb2
          rw [ea, eb]
          clear ea ta ha1 eb hb1 hb2
          go_enter Tryz.func36, Tryz.ntmps36
          go_wp2
          go_ret
          exact ⟨rfl, rfl⟩
    · have ea : Lib.foldEq a 120 = false := fold_not a 120 88 (by decide) (by decide) ha1 ha2
      have na : ((a.toNat : Int) == 120) = false := ne_byte a 120 120 rfl ha1
      have ma : ((a.toNat : Int) == 88) = false := ne_byte a 88 88 rfl ha2
      rw [ea]
      clear ea ha1 ha2
      go_enter Tryz.func36, Tryz.ntmps36
      go_wp2
      go_ret
      exact ⟨rfl, rfl⟩
theorem refReserved_c (s : List UInt8) (w : World) : Calls Tryz.prog 36 #[.string ⟨s.toArray⟩] w fun e w' => e = .returned (.bool (resB s)) ∧ w = w' := by
  by_cases h : s.length = 3
  · match s, h with
    | [a, b, c], _ => exact refReserved_three a b c w
  · exact refReserved_len s w h
set_option maxRecDepth 100000 in
set_option maxHeartbeats 4000000 in
theorem miscReserved_c (s : List UInt8) (w : World) (hT : FoldT w) : Calls Tryz.prog 81 #[.string ⟨s.toArray⟩] w fun e w' => e = .returned (.bool (resB s)) ∧ Below w.heap.size w w' := by
  by_cases h : s.length = 3
  · have C1 := Lib.hid (equalFold_c s [120, 109, 108] w (by simp [h]) (by omega) xmlFold hT)
    have hl : ((s.length : Int) == 3) = true := by simp; omega
    unfold resB
    clear h hT
    generalize Lib.equalFold s [120, 109, 108] = r at *
    go_enter Tryz.func81, Tryz.ntmps81
    go_wp2_with fail
    refine (C1.out).mono ?_
    rintro e w1 ⟨rfl, hb⟩
    have B1 := Lib.hid hb
    clear hb
    go_wp2
    go_ret
    exact ⟨rfl, B1.out⟩
  · rw [resB_len s h]
    exact (reserved_len s w h).mono fun e w' ⟨he, hw⟩ => ⟨he, hw ▸ Below.refl _ _⟩
end Go.Proofs.YtgenpgfhjhcahaaGreatDoor
/- Plain law of whole names. -/
namespace Go.Proofs.YtgenpgfhjhcahaaGreatDoor
open Go.ChangeShapes Go.WideShapes Go.ChangeAt Go.RowKit
set_option linter.unusedVariables false
end Go.Proofs.YtgenpgfhjhcahaaGreatDoor
/- A result in a block of its own. -/
namespace Go.Proofs.YtgenpgfhjhcahaaGreatDoor
open Go.ChangeShapes Go.WideShapes Go.ChangeAt Go.RowKit
set_option linter.unusedVariables false
/-- While a result lies in a block of its own: below w all as it was, and that block. -/
def CJ (T : TypeId) (w W : World) (rs : Array Value) : Prop := Below w.heap.size w W ∧ W.heap[w.heap.size]? = some (.cells rs T)
theorem CJ.start (T : TypeId) (w : World) (rs : Array Value) : CJ T w (w.alloc (.cells rs T)) rs := ⟨(Below.refl _ _).alloc (Nat.le_refl _) _, hp_new _ _⟩
theorem CJ.kept {T : TypeId} {w W W' : World} {rs : Array Value} (h : CJ T w W rs) (hb : Below W.heap.size W W') : CJ T w W' rs :=
  ⟨h.1.trans (hb.mono h.1.size), by rw [hb.block _ (lt_of h.2)]; exact h.2⟩
theorem CJ.row {T : TypeId} {w W : World} {rs : Array Value} (h : CJ T w W rs) (cs : Array Value) : CJ T w (W.setRow w.heap.size cs) cs := by
  refine ⟨⟨h.1.os, h.1.tape, h.1.output, ?_, fun k hk => ?_⟩, setRow_heap _ _ _ _ _ _ h.2⟩
  · have := h.1.size; simpa [World.setRow] using this
  · rw [setRow_other _ _ _ _ (by omega)]; exact h.1.block k hk
end Go.Proofs.YtgenpgfhjhcahaaGreatDoor
