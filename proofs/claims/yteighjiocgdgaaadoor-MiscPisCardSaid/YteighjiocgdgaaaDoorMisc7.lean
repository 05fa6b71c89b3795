/- misc.Pi. -/
import Derived.Test.YteighjiocgdgaaaDoorRows
import Derived.WalkKit
import Derived.ProofKit
import Derived.OpenShut
import Derived.ShutString
import Derived.ChangeOld
import Derived.Below
import Derived.BigQuiet
import Derived.Deep.QuietTactic
import Derived.Lib.Hide
import Derived.Deep.RegionHeld3
import Derived.Lib.SlBytesConst
import Derived.Laws.CopyOwn
import Derived.Laws.CopyRow
import Derived.Lib.Bytes
import Derived.Deep.LoopGhost
import Derived.Deep.DeepFit
import Derived.Deep.DeepMust
import Derived.WalkSpells
import Derived.WalkLawsBesides
import Derived.Laws.EntriesVeiled
import Derived.Laws.Rows
import Derived.Lib.Fold
import Derived.Test.YteighjiocgdgaaaDoorBase
import Derived.Test.YteighjiocgdgaaaDoorShelf
import Derived.Test.YteighjiocgdgaaaDoorCharPlain
import Derived.Test.YteighjiocgdgaaaDoorUtf1
import Derived.Test.YteighjiocgdgaaaDoorUtf2
import Derived.Test.YteighjiocgdgaaaDoorUtf3
import Derived.Test.YteighjiocgdgaaaDoorChars1
import Derived.Test.YteighjiocgdgaaaDoorName1
import Derived.Test.YteighjiocgdgaaaDoorName2
import Derived.Test.YteighjiocgdgaaaDoorName3
import Derived.Test.YteighjiocgdgaaaDoorCref1
import Derived.Test.YteighjiocgdgaaaDoorPub
import Derived.Test.YteighjiocgdgaaaDoorBlank
import Derived.Test.YteighjiocgdgaaaDoorLibB
import Derived.Test.YteighjiocgdgaaaDoorMiscP
import Derived.Test.YteighjiocgdgaaaDoorMisc6
namespace Go.Proofs.YteighjiocgdgaaaDoor
open Go.ChangeShapes Go.WideShapes Go.ChangeAt Go.RowKit
set_option linter.unusedVariables false
theorem findI_index (l p : List UInt8) (k : Nat) : (Lib.index (l.drop k) p < 0 ∧ findI l k p = -1 ∧ Lib.index (l.drop k) p = -1) ∨ ∃ j : Nat, Lib.index (l.drop k) p = (j : Int) ∧ findI l k p = ((k + j : Nat) : Int) := by
  have hge := Lib.index_ge (l.drop k) p
  by_cases h : Lib.index (l.drop k) p < 0
  · refine .inl ⟨h, ?_, by omega⟩
    unfold findI
    rw [if_pos h]
  · refine .inr ⟨(Lib.index (l.drop k) p).toNat, by omega, ?_⟩
    unfold findI
    rw [if_neg h]
    omega
set_option maxRecDepth 100000 in
set_option maxHeartbeats 4000000 in
theorem miscPi_range (A : Option Addr) (n cap : Nat) (at_ : Int) (w : World) (ha : at_ < 0 ∨ (n : Int) < at_) :
    Calls Tryd.prog 40 #[.slice A n cap, .int .i64 at_] w fun e w' => e = .returned (out4V ([], [], 0, 3)) ∧ Below w.heap.size w w' := by
  by_cases h0 : at_ < 0
  · have hd : decide (at_ < 0) = true := by simpa using h0
    clear ha
    go_enter Tryd.func40, Tryd.ntmps40
    go_wp2
    (try simp only [Exit.inBlock, Exit.then])
    refine bodyPost_ret (results_tmp4 rfl _ _ _) rfl ?_
    exact ⟨rfl, Below.refl _ _⟩
  · have h1 : (n : Int) < at_ := by omega
    clear ha
    go_enter Tryd.func40, Tryd.ntmps40
    go_wp2
    (try simp only [Exit.inBlock, Exit.then])
    refine bodyPost_ret (results_tmp4 rfl _ _ _) rfl ?_
    exact ⟨rfl, Below.refl _ _⟩
theorem alloc_const (w : World) (l : List UInt8) (f : Nat × Nat) (hl : l.length ≤ 1000000) : Below w.heap.size w (w.alloc (.cells (l.map bv).toArray 5 f)) ∧ Byt (w.alloc (.cells (l.map bv).toArray 5 f)) (w.heap.size + 1) (some ⟨w.heap.size, 0, none⟩) l.length l.length l :=
  ⟨(Below.refl _ _).alloc (Nat.le_refl _) _, Byt.const w l f hl⟩
set_option maxRecDepth 100000 in
set_option maxHeartbeats 4000000 in
theorem miscPi_in (A : Option Addr) (n cap : Nat) (l : List UInt8) (k : Nat) (w : World) (h : Byt w w.heap.size A n cap l) (hF : Forms w) (hT : TabN w) (hM : MaxL w) (hm : n ≤ 50000) (hk : k ≤ n) (hR : ResC 47 w (plainOut l (k + 2)).1) :
    Calls Tryd.prog 40 #[.slice A n cap, .int .i64 k] w fun e w' => e = .returned (out4V (piOut l k)) ∧ Below w.heap.size w w' := by
  have kc := fun (w : World) (C : Array Value) (n c : Nat) => Lib.run_convert_bytes_const (P := Tryd.prog) w 22 5 C n c Tryd.underlying22 Tryd.underlying5
  have hk' : ¬ (n : Int) < (k : Int) := by omega
  have hk0 : (0 : Int) ≤ (k : Int) := by omega
  have hk1 : (k : Int) ≤ 50000 := by omega
  have hln := h.length
  have hrk : ∀ W : World, (Instr.slice 22 (.slice A n cap) (some (.int .i64 (k : Int))) none none).run Tryd.prog W = .ok (.slice (cutA A cap k) (n - k) (cap - k)) W := fun W => run_from A n cap k hk
  have hL := hT.low hF
  have hA0 := alloc_const w [60, 63] (2, 3) (by simp)
  have C1 := Lib.hid (hasPrefix_c _ _ _ _ _ _ _ _ _ _ _ ((h.below hA0.1).drop hk) hA0.2)
  have B0 := Lib.hid hA0.1
  have hcap := h.le
  have HH := Lib.hid (And.intro h (And.intro hF (And.intro hT (And.intro hM hL))))
  clear hA0
  by_cases hp : [60, 63].isPrefixOf (l.drop k) = true
  · have hkl : k + 2 ≤ n := by have := pre_len hp; simp at this; omega
    rw [hp] at C1
    have HO : Hid (piOut l k = piRest l (plainOut l (k + 2))) := Lib.hid (by unfold piOut; rw [if_neg (by rw [hp]; simp)])
    rw [HO.out]
    have hle := plainOut_le l (k + 2) (by omega)
    have C2 : Hid (∀ W, Below w.heap.size w W → Calls Tryd.prog 85 #[.slice A n cap, .int .i64 ((k : Int) + 2)] W fun e w' => e = .returned (outV (plainOut l (k + 2))) ∧ Below W.heap.size W w') := Lib.hid fun W hb => by
      have := plain_c A n cap l (k + 2) W ((h.below hb).more hb.size) (hF.below hb hF.lt) (hT.below hb hL) (by omega) hkl
      rwa [show ((k + 2 : Nat) : Int) = (k : Int) + 2 by omega] at this
    clear HO hp
    generalize plainOut l (k + 2) = po at *
    obtain ⟨s, t, f⟩ := po
    unfold outV at C2
    simp only at C2 hle hR
    have HR := Lib.hid hR
    clear hR
    by_cases hf : f = 0
    · subst hf
      have htl := hle rfl
      clear hle
      have CB : Hid (∀ W, Below w.heap.size w W → Calls Tryd.prog 59 #[.slice A n cap, .int .i64 t] W fun e w' => e = .returned (.int .i64 (blankTo l t)) ∧ W = w') := Lib.hid fun W hb => blanks_c A n cap l t _ W (h.below hb) (by omega) (by omega)
      have hbt := blankTo_le l t (by omega)
      cases hrs : resB s with
      | true =>
        rw [piRest_res l s t hrs]
        unfold ResC at HR
        rw [hrs] at HR
        clear h hF hT hM hL hln hrs hbt hcap
        go_enter Tryd.func40, Tryd.ntmps40
        go_wp2_with fail
        refine C1.out.mono ?_
        rintro e w1 ⟨rfl, rfl⟩
        clear kc
        go_wp2_with fail
        refine (C2.out _ B0.out).mono ?_
        rintro e w2 ⟨rfl, hb⟩
        have B1 := Lib.hid (B0.out.trans (hb.mono B0.out.size))
        clear hb
        go_wp2_with fail
        refine (HR.out _ B1.out).mono ?_
        rintro e w3 ⟨rfl, hb⟩
        have B2 := Lib.hid (B1.out.trans (hb.mono B1.out.size))
        clear hb
        go_wp2
        (try simp only [Exit.inBlock, Exit.then])
        refine bodyPost_ret (results_tmp4 rfl _ _ _) rfl ?_
        exact ⟨rfl, B2.out⟩
      | false =>
        unfold ResC at HR
        rw [hrs] at HR
        have HRS := Lib.hid hrs
        clear hrs
        have hrb : ∀ W : World, (Instr.slice 22 (.slice A n cap) (some (.int .i64 (blankTo l t : Int))) none none).run Tryd.prog W = .ok (.slice (cutA A cap (blankTo l t)) (n - blankTo l t) (cap - blankTo l t)) W := fun W => run_from A n cap (blankTo l t) (by omega)
        have CI : Hid (∀ W, Below w.heap.size w W → Calls Tryd.prog 86 #[.slice (cutA A cap (blankTo l t)) (n - blankTo l t) (cap - blankTo l t), .slice (some ⟨W.heap.size, 0, none⟩) 2 2] (W.alloc (.cells #[.int .u8 63, .int .u8 62] 5 (2, 3))) fun e w' => e = .returned (.int .i64 (Lib.index (l.drop (blankTo l t)) [63, 62])) ∧ Hid (Below w.heap.size w w')) := Lib.hid fun W hb => by
          have hA1 := alloc_const W [63, 62] (2, 3) (by simp)
          have hb1 := hb.trans (hA1.1.mono hb.size)
          exact (bindex_c _ _ _ _ _ _ _ _ _ _ _ ((h.below hb1).drop (k := blankTo l t) (by omega)) hA1.2 (hM.below hb1 hM.lt) (by simp) (by omega) (by simp)).mono fun e w' ⟨he, q, hq⟩ => ⟨he, Lib.hid (hq ▸ below_drewN' hb1)⟩
        rcases findI_index l [63, 62] (blankTo l t) with ⟨_, hf, hx⟩ | ⟨j, hx, hf⟩
        · rw [piRest_no l s t _ HRS.out rfl (by rw [hf]; omega)]
          rw [hx] at CI
          clear h hF hT hM hL hln hf hbt hcap hx
          generalize blankTo l t = b at *
          generalize n - b = nb at *
          generalize cap - b = cb at *
          go_enter Tryd.func40, Tryd.ntmps40
          go_wp2_with fail
          refine C1.out.mono ?_
          rintro e w1 ⟨rfl, rfl⟩
          go_wp2_with fail
          refine (C2.out _ B0.out).mono ?_
          rintro e w2 ⟨rfl, hb⟩
          have B1 := Lib.hid (B0.out.trans (hb.mono B0.out.size))
          clear hb
          go_wp2_with fail
          refine (HR.out _ B1.out).mono ?_
          rintro e w3 ⟨rfl, hb⟩
          have B2 := Lib.hid (B1.out.trans (hb.mono B1.out.size))
          clear hb
          go_wp2_with fail
          refine (CB.out _ B2.out).mono ?_
          rintro e wq ⟨rfl, rfl⟩
          go_wp2_with fail
          refine (CI.out _ B2.out).mono ?_
          rintro e w4 ⟨rfl, B3⟩
          clear kc
          go_wp2
          (try simp only [Exit.inBlock, Exit.then])
          refine bodyPost_ret (results_tmp4 rfl _ _ _) rfl ?_
          exact ⟨rfl, B3.out⟩
        · have hjl : blankTo l t + j + 2 ≤ l.length := by
            have := Lib.index_room (l.drop (blankTo l t)) [63, 62] (by rw [hx]; omega)
            rw [hx, List.length_drop] at this
            simp at this
            omega
          rw [hx] at CI
          have hj0 : ¬ (j : Int) < 0 := by omega
          have hj1 : (j : Int) ≤ 50000 := by omega
          have ht1 : (t : Int) ≤ 50000 := by omega
          have hb1 : (blankTo l t : Int) ≤ 50000 := by omega
          by_cases hjt : blankTo l t = t ∧ 0 < j
          · have hres : piRest l (s, t, 0) = ([], [], 0, 7) := piRest_tight l s t (t + j) HRS.out hjt.1 (by rw [← hjt.1, hf, hjt.1]) (by omega)
            rw [hres]
            have hbe : ((blankTo l t : Int) == (t : Int)) = true := by simp; omega
            have hjp : (0 : Int) < (j : Int) := by omega
            clear h hF hT hM hL hln hf hbt hcap hx hres hjl hjt
            generalize blankTo l t = b at *
            generalize n - b = nb at *
            generalize cap - b = cb at *
            go_enter Tryd.func40, Tryd.ntmps40
            go_wp2_with fail
            refine C1.out.mono ?_
            rintro e w1 ⟨rfl, rfl⟩
            go_wp2_with fail
            refine (C2.out _ B0.out).mono ?_
            rintro e w2 ⟨rfl, hb⟩
            have B1 := Lib.hid (B0.out.trans (hb.mono B0.out.size))
            clear hb
            go_wp2_with fail
            refine (HR.out _ B1.out).mono ?_
            rintro e w3 ⟨rfl, hb⟩
            have B2 := Lib.hid (B1.out.trans (hb.mono B1.out.size))
            clear hb
            go_wp2_with fail
            refine (CB.out _ B2.out).mono ?_
            rintro e wq ⟨rfl, rfl⟩
            go_wp2_with fail
            refine (CI.out _ B2.out).mono ?_
            rintro e w4 ⟨rfl, B3⟩
            clear kc
            go_wp2
            (try simp only [Exit.inBlock, Exit.then])
            refine bodyPost_ret (results_tmp4 rfl _ _ _) rfl ?_
            exact ⟨rfl, B3.out⟩
          · have hres : piRest l (s, t, 0) = (s, (l.drop (blankTo l t)).take j, blankTo l t + j + 2, 0) := by
              have := piRest_yes l s t (blankTo l t) (blankTo l t + j) HRS.out rfl hf (fun e => by
                rcases Nat.eq_zero_or_pos j with g | g
                · omega
                · exact absurd ⟨e, g⟩ hjt)
              rw [this, show blankTo l t + j - blankTo l t = j by omega]
            rw [hres]
            have HST : Hid (∀ W, Below w.heap.size w W → (convert 22 9 (.slice (cutA A cap (blankTo l t)) j (cap - blankTo l t))).run Tryd.prog W = .ok (.string ⟨((l.drop (blankTo l t)).take j).toArray⟩) W) := Lib.hid fun W hb => (((h.below hb).drop (k := blankTo l t) (by omega)).take (k := j) (by omega)).str
            have hrf : ∀ w2 : World, (Instr.slice 22 (.slice A n cap) (some (.int .i64 (blankTo l t : Int))) (some (.int .i64 ((blankTo l t : Int) + (j : Int)))) none).run Tryd.prog w2 = .ok (.slice (cutA A cap (blankTo l t)) j (cap - blankTo l t)) w2 := fun w2 => by
              have := run_fromTo (w := w2) A n cap (blankTo l t) (blankTo l t + j) (by omega) (by omega)
              rwa [show blankTo l t + j - blankTo l t = j by omega, show ((blankTo l t + j : Nat) : Int) = (blankTo l t : Int) + (j : Int) by omega] at this
            rcases (show blankTo l t ≠ t ∨ (blankTo l t = t ∧ j = 0) by omega) with hbne | ⟨hbe, hj00⟩
            · have hbe : ((blankTo l t : Int) == (t : Int)) = false := by simp; omega
              clear h hF hT hM hL hln hf hbt hcap hx hres hjl hjt hbne
              generalize (l.drop (blankTo l t)).take j = T at *
              generalize blankTo l t = b at *
              generalize n - b = nb at *
              generalize cap - b = cb at *
              go_enter Tryd.func40, Tryd.ntmps40
              go_wp2_with fail
              refine C1.out.mono ?_
              rintro e w1 ⟨rfl, rfl⟩
              go_wp2_with fail
              refine (C2.out _ B0.out).mono ?_
              rintro e w2 ⟨rfl, hb⟩
              have B1 := Lib.hid (B0.out.trans (hb.mono B0.out.size))
              clear hb
              go_wp2_with fail
              refine (HR.out _ B1.out).mono ?_
              rintro e w3 ⟨rfl, hb⟩
              have B2 := Lib.hid (B1.out.trans (hb.mono B1.out.size))
              clear hb
              go_wp2_with fail
              refine (CB.out _ B2.out).mono ?_
              rintro e wq ⟨rfl, rfl⟩
              go_wp2_with fail
              refine (CI.out _ B2.out).mono ?_
              rintro e w4 ⟨rfl, B3⟩
              clear kc
              have hst : ∀ m, (convert 22 9 (.slice (cutA A cap b) j cb)).run Tryd.prog (w4.drewN m) = .ok (.string ⟨T.toArray⟩) (w4.drewN m) := fun m => HST.out _ (below_drewN' B3.out)
              have hs1 : IntKind.i64.wrap ((b : Int) + (j : Int)) = (b : Int) + (j : Int) := by rw [IntKind.wrap_i64]; omega
              have hs2 : IntKind.i64.wrap ((b : Int) + (j : Int) + 2) = (b : Int) + (j : Int) + 2 := by rw [IntKind.wrap_i64]; omega
              go_wp2
              go_quiet (fail)
              have B4 := Lib.hid (below_drewN' (n := nq) B3.out)
              clear hst
              generalize w4.drewN nq = w5 at *
              go_wp2
              (try simp only [Exit.inBlock, Exit.then])
              refine bodyPost_ret (results_tmp4 rfl _ _ _) rfl ?_
              exact ⟨rfl, B4.out⟩
            · subst hj00
              have hbe' : ((blankTo l t : Int) == (t : Int)) = true := by simp; omega
              clear h hF hT hM hL hln hf hbt hcap hx hres hjl hjt hbe
              generalize (l.drop (blankTo l t)).take 0 = T at *
              generalize blankTo l t = b at *
              generalize n - b = nb at *
              generalize cap - b = cb at *
              go_enter Tryd.func40, Tryd.ntmps40
              go_wp2_with fail
              refine C1.out.mono ?_
              rintro e w1 ⟨rfl, rfl⟩
              go_wp2_with fail
              refine (C2.out _ B0.out).mono ?_
              rintro e w2 ⟨rfl, hb⟩
              have B1 := Lib.hid (B0.out.trans (hb.mono B0.out.size))
              clear hb
              go_wp2_with fail
              refine (HR.out _ B1.out).mono ?_
              rintro e w3 ⟨rfl, hb⟩
              have B2 := Lib.hid (B1.out.trans (hb.mono B1.out.size))
              clear hb
              go_wp2_with fail
              refine (CB.out _ B2.out).mono ?_
              rintro e wq ⟨rfl, rfl⟩
              go_wp2_with fail
              refine (CI.out _ B2.out).mono ?_
              rintro e w4 ⟨rfl, B3⟩
              clear kc
              have hst : ∀ m, (convert 22 9 (.slice (cutA A cap b) 0 cb)).run Tryd.prog (w4.drewN m) = .ok (.string ⟨T.toArray⟩) (w4.drewN m) := fun m => HST.out _ (below_drewN' B3.out)
              have hrf2 := hrf
              simp only [Int.natCast_zero, Int.add_zero] at hrf2
              go_wp2
              go_quiet (fail)
              have B4 := Lib.hid (below_drewN' (n := nq) B3.out)
              clear hst
              generalize w4.drewN nq = w5 at *
              go_wp2
              (try simp only [Exit.inBlock, Exit.then])
              refine bodyPost_ret (results_tmp4 rfl _ _ _) rfl ?_
              exact ⟨rfl, B4.out⟩
    · have hfz : ((f : Int) != 0) = true := by simp; omega
      rw [piRest_err l s t f hf]
      clear h hF hT hM hL hln hf hle HR hcap
      go_enter Tryd.func40, Tryd.ntmps40
      go_wp2_with fail
      refine C1.out.mono ?_
      rintro e w1 ⟨rfl, rfl⟩
      clear kc
      go_wp2_with fail
      refine (C2.out _ B0.out).mono ?_
      rintro e w2 ⟨rfl, hb⟩
      have B1 := Lib.hid (B0.out.trans (hb.mono B0.out.size))
      clear hb
      go_wp2
      (try simp only [Exit.inBlock, Exit.then])
      refine bodyPost_ret (results_tmp4 rfl _ _ _) rfl ?_
      exact ⟨rfl, B1.out⟩
  · have hp' := bfalse hp
    rw [hp'] at C1
    have HO : Hid (piOut l k = ([], [], 0, 7)) := Lib.hid (by unfold piOut; rw [if_pos hp'])
    rw [HO.out]
    clear h hF hT hM hL hp hp' hln HO hR hcap
    go_enter Tryd.func40, Tryd.ntmps40
    go_wp2_with fail
    refine C1.out.mono ?_
    rintro e w1 ⟨rfl, rfl⟩
    clear kc
    go_wp2
    (try simp only [Exit.inBlock, Exit.then])
    refine bodyPost_ret (results_tmp4 rfl _ _ _) rfl ?_
    exact ⟨rfl, B0.out⟩
end Go.Proofs.YteighjiocgdgaaaDoor
