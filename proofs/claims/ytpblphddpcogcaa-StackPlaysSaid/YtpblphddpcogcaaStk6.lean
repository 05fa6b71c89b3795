/- The law StackPlays, walked. -/
import Derived.Test.YtpblphddpcogcaaRows
import Derived.WalkKit
import Derived.ProofKit
import Derived.OpenShut
import Derived.ShutString
import Derived.ChangeOld
import Derived.Below
import Derived.BigQuiet
import Derived.Deep.QuietTactic
import Derived.Lib.Hide
import Derived.Deep.RegionHeld3
import Derived.Lib.SlBytesConst
import Derived.Laws.CopyOwn
import Derived.Laws.CopyRow
import Derived.Lib.Bytes
import Derived.Deep.LoopGhost
import Derived.Deep.DeepFit
import Derived.Deep.DeepMust
import Derived.WalkSpells
import Derived.WalkLawsBesides
import Derived.Laws.OwnMore
import Derived.Deep.Upon
import Derived.Deep.AppendSrc
import Derived.Laws.IdiomCopy
import Derived.Lib.LazyBuf
import Derived.Test.YtpblphddpcogcaaShelf
import Derived.Test.YtpblphddpcogcaaBase
import Derived.Test.YtpblphddpcogcaaStk
import Derived.Test.YtpblphddpcogcaaStk2
import Derived.Test.YtpblphddpcogcaaStk3
import Derived.Test.YtpblphddpcogcaaStk4
import Derived.Test.YtpblphddpcogcaaStk5
namespace Go.Proofs.Ytpblphddpcogcaa
open Go.ChangeShapes Go.WideShapes Go.ChangeAt Go.RowKit
set_option linter.unusedVariables false
theorem live12_c (w : World) : Calls Try.prog 4 #[] w fun e w' => e = .returned (.bool true) ∧ Below w.heap.size w w' := by
  go_enter Try.func4, Try.ntmps4
  go_wp2_with fail
  refine (new_ok 2 w (by omega) (by omega)).mono ?_
  rintro e w1 ⟨rfl, s1, b1, z1⟩
  go_wp2_with fail
  refine (push_ok 2 1 _ _ _ s1 (by simp)).mono ?_
  rintro e w2 ⟨rfl, s2, g2⟩
  go_wp2_with fail
  refine (push_ok 2 2 _ _ _ s2 (by simp)).mono ?_
  rintro e w3 ⟨rfl, s3, g3⟩
  go_wp2_with fail
  refine (push_full 2 3 _ _ _ s3 (by simp)).mono ?_
  rintro e w4 ⟨rfl, n4, rfl⟩
  have s4 := s3.drewN (n := n4)
  go_wp2_with fail
  refine (pop_some 2 _ _ _ _ s4).mono ?_
  rintro e w5 ⟨rfl, s5, g5⟩
  go_wp2_with fail
  refine (len_of 2 _ _ _ s5).mono ?_
  rintro e w6 ⟨rfl, rfl⟩
  go_wp2
  go_ret
  have z2 := g2.size
  have z3 := g3.size
  exact ⟨rfl, (below_drewN ((b1.trans (g2.below (by omega) (Nat.le_refl _))).trans (g3.below (by omega) (Nat.le_refl _))) _).trans (g5.below (by simp; omega) (Nat.le_refl _))⟩
theorem closure12_c (k x : Int) (b o n cap t B0 bi : Nat) (w : World) (ht : t < n) (hn : n ≤ 1000) (h0 : w.cell? ⟨B0, 0, none⟩ = some (.slice (some ⟨b, o, none⟩) n cap)) (h1 : w.cell? ⟨bi, 0, none⟩ = some (.int .i64 (t : Int))) (h2 : w.cell? ⟨b, o + t * 2 + 1, none⟩ = some (.int .i64 x)) :
    Calls Try.prog 16 #[.int .i64 k, .pointer (some ⟨B0, 0, none⟩), .pointer (some ⟨bi, 0, none⟩)] w fun e w' => e = .returned (.bool (k == x)) ∧ w = w' := by
  have ht0 : (0 : Int) ≤ (t : Int) := by omega
  have ht1 : (t : Int) < (n : Int) := by omega
  have ht2 : (n : Int) ≤ 1000 := by omega
  go_enter Try.func16, Try.ntmps16
  go_wp2
  go_ret
  exact ⟨rfl, rfl⟩
set_option maxRecDepth 100000 in
set_option maxHeartbeats 16000000 in
theorem stackPlays_walk (room : Int) (A0 : Option Addr) (n0 c0 : Nat) (ps : List (Int × Int)) (w : World) (h : IPd w w.heap.size A0 n0 c0 ps) :
    Calls Try.prog 3 #[.int .i64 room, .slice A0 n0 c0] w fun e w' => e = .returned (.bool true) ∧ Below w.heap.size w w' := by
  have hb0 := (Below.refl _ w).alloc (Nat.le_refl _) (.cells #[.slice A0 n0 c0] 22)
  have q0 := hp_new w (.cells #[.slice A0 n0 c0] 22)
  have y0 := cell_of 0 q0
  have HB0 := Lib.hid hb0
  have LV : Hid (∀ W, Below w.heap.size w W → Calls Try.prog 4 #[] W fun e w' => e = .returned (.bool true) ∧ Below W.heap.size W w') := Lib.hid fun W hb => live12_c W
  by_cases hn : n0 ≤ 200
  · have hn' : ¬ (200 : Int) < (n0 : Int) := by omega
    by_cases hr : 0 ≤ room ∧ room ≤ 1099511627776
    · have cn := new_ok room (w.alloc (.cells #[.slice A0 n0 c0] 22)) hr.1 hr.2
      have hsz0 : (w.alloc (.cells #[.slice A0 n0 c0] 22)).heap.size = w.heap.size + 1 := by simp
      rw [hsz0] at cn
      have CN := Lib.hid cn
      have CI := Lib.hid fun W => refIs12_c room W
      have e1 : (decide (0 ≤ room) && decide (room ≤ 1099511627776)) = true := by simp [hr.1, hr.2]
      rw [e1] at CI
      have HPI := Lib.hid h
      have Q0 := Lib.hid q0
      have hrr : (room != room) = false := by simp
      have HR := Lib.hid hr
      clear cn e1 h q0 hb0 hsz0 hr
      go_enter Try.func3, Try.ntmps3
      go_wp2_with fail
      refine CN.out.mono ?_
      rintro e w1 ⟨rfl, s1, b1, hlt1⟩
      have Q1 := Lib.hid ((b1.block w.heap.size (Nat.lt_succ_self _)).trans Q0.out)
      have B1 := Lib.hid (HB0.out.trans (b1.mono (Nat.le_succ _)))
      have S1 := Lib.hid s1
      have HL1 := Lib.hid hlt1
      have CRM := Lib.hid (room_of room [] (w.heap.size + 1) w1 s1)
      have y1 := cell_of 0 Q1.out
      clear s1 b1 hlt1 y0
      go_wp2_with fail
      refine (CI.out _).mono ?_
      rintro e wq ⟨rfl, rfl⟩
      go_wp2_with fail
      refine CRM.out.mono ?_
      rintro e wq ⟨rfl, rfl⟩
      have J0 : Hid (SJ w (w1.alloc (.cells #[.int .i64 0] 3)) (.slice A0 n0 c0) room [] [] none 0 w1.heap.size 0) := Lib.hid (by
        have hb2 := (Below.refl _ w1).alloc (Nat.le_refl _) (.cells #[.int .i64 0] 3)
        exact ⟨B1.out.trans (hb2.mono B1.out.size), (hb2.block _ (by have := lt_of Q1.out; omega)).trans Q1.out, S1.out.below hb2 (Nat.le_refl _), Rd.nilR _ _, (fun hc => absurd hc (by omega)), hp_new _ _, HL1.out⟩)
      clear y1
      go_wp2
      go_loopg [7, 8] (n0) (fun g v p wr => ∃ (t bi : Nat) (z : List Int) (A : Option Addr) (cap : Nat), t ≤ n0 ∧ Hid (g + t = n0) ∧ z.length ≤ t ∧ v = .slice A z.length cap ∧ p = .pointer (some ⟨bi, 0, none⟩) ∧ Hid (SJ w wr (.slice A0 n0 c0) room z z A cap bi (t : Int)))
      case atStart => exact ⟨0, w1.heap.size, [], none, 0, Nat.zero_le _, Lib.hid (by omega), Nat.le_refl _, rfl, rfl, J0⟩
      case round =>
        clear J0
        obtain ⟨t, bi, z, A, cap, ht, hg, hz, rfl, rfl, J⟩ := hrel
        have zb := cell_of 0 J.out.2.1
        have zi := cell_of 0 J.out.2.2.2.2.2.1
        have ht0 : (0 : Int) ≤ (t : Int) := by omega
        have htb : (t : Int) ≤ 200 := by omega
        by_cases htn : t < n0
        · have htni : (t : Int) < (n0 : Int) := by omega
          obtain ⟨b, o, e, hbb, hcl⟩ := HPI.out.at_ (by have := HPI.out.le; omega)
          subst e
          have hp : ps[t]? = some (ps.getD t (0, 0)) := by rw [List.getElem?_eq_getElem (by rw [HPI.out.len]; exact htn)]; simp [show t < ps.length by rw [HPI.out.len]; exact htn]
          have HCX : Hid (∀ W, Below w.heap.size w W → W.cell? ⟨b, o + t * 2, none⟩ = some (.int .i64 (ps.getD t (0, 0)).1) ∧ W.cell? ⟨b, o + t * 2 + 1, none⟩ = some (.int .i64 (ps.getD t (0, 0)).2)) := Lib.hid fun W hb => ⟨(hb.cell (p := ⟨b, _, none⟩) hbb).trans (hcl t _ hp).1, (hb.cell (p := ⟨b, _, none⟩) hbb).trans (hcl t _ hp).2⟩
          clear hcl hbb hp
          generalize ps.getD t (0, 0) = p at *
          obtain ⟨d, x⟩ := p
          simp only at HCX
          have HCC : Hid (∀ (W : World) (z' zz : List Int) (A' : Option Addr) (cap' bi' : Nat), SJ w W (.slice (some ⟨b, o, none⟩) n0 c0) room z' zz A' cap' bi' (t : Int) → ∀ k : Int, Calls Try.prog 16 #[.int .i64 k, .pointer (some ⟨w.heap.size, 0, none⟩), .pointer (some ⟨bi', 0, none⟩)] W fun e w' => e = .returned (.bool (k == x)) ∧ W = w') := Lib.hid fun W z' zz A' cap' bi' hJ k =>
            closure12_c k x b o n0 c0 t w.heap.size bi' W htn (by omega) (cell_of 0 hJ.2.1) (cell_of 0 hJ.2.2.2.2.2.1) (HCX.out W hJ.1).2
          have hc0 := (HCX.out _ J.out.1).1
          have hc1 := (HCX.out _ J.out.1).2
          by_cases d0 : d = 0
          · subst d0
            have C1 := Lib.hid (refPush_c A cap z room x wr J.out.2.2.2.1 (by omega))
            go_wp2_with fail
            refine C1.out.mono ?_
            rintro e w3 ⟨AA, cc, rfl, hr3, hb3, hA3⟩
            have J3 : Hid (SJ w w3 (.slice (some ⟨b, o, none⟩) n0 c0) room z (pushZ room z x) AA cc bi (t : Int)) := Lib.hid ((J.out.kept hb3).row hr3 (by
              intro hc a ha
              rcases hA3 with ⟨h1, h2, _⟩ | h3
              · exact J.out.2.2.2.2.1 (by rw [← h2]; exact hc) a (by rw [← h1]; exact ha)
              · have hlt := h3 a ha
                have l1 := Stk.lt J.out.2.2.1
                have l2 := lt_of J.out.2.2.2.2.2.1
                exact ⟨by omega, by omega⟩))
            clear hr3 hb3 hA3 zb zi hc0 hc1
            have zb := cell_of 0 J3.out.2.1
            have zi := cell_of 0 J3.out.2.2.2.2.2.1
            have hx1 := (HCX.out _ J3.out.1).2
            have C2 := Lib.hid (push_c room x z (w.heap.size + 1) w3 J3.out.2.2.1)
            have ee : (pushE room z != pushE room z) = false := by simp
            have hzl : (pushZ room z x).length ≤ t + 1 := by
              unfold pushZ
              split
              · simp; omega
              · omega
            generalize pushE room z = pe at *
            go_wp2_with fail
            refine C2.out.mono ?_
            rintro e wt ⟨rfl, hs4, hg4⟩
            have JT := Lib.hid (J3.out.stack hg4 hs4)
            clear hs4 hg4 zb zi hx1 J3
            generalize hzz : pushZ room z x = zz at *
            clear hzz
            have zb := cell_of 0 JT.out.2.1
            have zi := cell_of 0 JT.out.2.2.2.2.2.1
            have hlz : (zz.length : Int) ≤ 1000 := by omega
            have P1 := Lib.hid (refPop_c AA zz.length cc zz wt JT.out.2.2.2.1 (by omega))
            go_wp2_with fail
            refine P1.out.mono ?_
            rintro e w2 ⟨rfl, hq2⟩
            have J2 : Hid (SJ w w2 (.slice (some ⟨b, o, none⟩) n0 c0) room zz zz AA cc bi (t : Int)) := Lib.hid (by obtain ⟨q, rfl⟩ := hq2; exact JT.out.drewN q)
            clear hq2
            have P2 := Lib.hid (top_c room zz (w.heap.size + 1) w2 J2.out.2.2.1)
            clear zb zi
            go_wp2_with fail
            refine P2.out.mono ?_
            rintro e wq ⟨rfl, rfl⟩
            have p3 := find_c x room zz.reverse (w.heap.size + 1) (.pointer (some ⟨w.heap.size, 0, none⟩)) (.pointer (some ⟨bi, 0, none⟩)) w2 J2.out.2.2.1 (by simp; omega) (fun k => HCC.out w2 zz zz AA cc bi J2.out k)
            rw [← fndR_all] at p3
            have P3 := Lib.hid p3
            have P4 := Lib.hid (refFind_c AA zz.length cc zz x w2 J2.out.2.2.2.1 (by omega))
            clear p3
            go_wp2_with fail
            refine P3.out.mono ?_
            rintro e wq ⟨rfl, rfl⟩
            have zb := cell_of 0 J2.out.2.1
            have zi := cell_of 0 J2.out.2.2.2.2.2.1
            have hx1 := (HCX.out _ J2.out.1).2
            go_wp2_with fail
            refine P4.out.mono ?_
            rintro e wq ⟨rfl, rfl⟩
            clear zb zi hx1
            have p5 := len_of room zz.reverse (w.heap.size + 1) w2 J2.out.2.2.1
            rw [List.length_reverse] at p5
            have P5 := Lib.hid p5
            have p6 := all_c room zz.reverse (w.heap.size + 1) w2 J2.out.2.2.1 (by simp; omega)
            rw [List.length_reverse, List.reverse_reverse] at p6
            have P6 := Lib.hid p6
            clear p5 p6
            have e1 : (zz.getLastD 0 != zz.getLastD 0) = false := by simp
            have e2 : (decide (0 < zz.length) != decide (0 < zz.length)) = false := by simp
            have e3 : ((fndR x zz zz.length).1 != (fndR x zz zz.length).1) = false := by simp
            have e4 : ((fndR x zz zz.length).2 != (fndR x zz zz.length).2) = false := by simp
            have e5 : ((zz.length : Int) != (zz.length : Int)) = false := by simp
            generalize fndR x zz zz.length = fr at *
            generalize zz.getLastD 0 = lst at *
            generalize decide (0 < zz.length) = dl at *
            obtain ⟨fr1, fr2⟩ := fr
            simp only at e3 e4
            go_wp2_with fail
            refine P5.out.mono ?_
            rintro e wq ⟨rfl, rfl⟩
            go_wp2_with fail
            refine P6.out.mono ?_
            rintro e w7 ⟨A7, c7, rfl, hr7, hb7⟩
            have J7 := Lib.hid (J2.out.kept hb7)
            have P7 := Lib.hid (ints_c A7 AA zz.length c7 cc zz w7 hr7 J7.out.2.2.2.1 (by omega))
            clear hr7 hb7
            go_wp2_with fail
            refine P7.out.mono ?_
            rintro e w8 ⟨rfl, hq8⟩
            have J8 : Hid (SJ w w8 (.slice (some ⟨b, o, none⟩) n0 c0) room zz zz AA cc bi (t : Int)) := Lib.hid (by obtain ⟨q, rfl⟩ := hq8; exact J7.out.drewN q)
            clear hq8
            have zi := cell_of 0 J8.out.2.2.2.2.2.1
            have J9 : Hid (SJ w (w8.alloc (.cells #[.int .i64 ((t : Int) + 1)] 3)) (.slice (some ⟨b, o, none⟩) n0 c0) room zz zz AA cc w8.heap.size ((t + 1 : Nat) : Int)) := Lib.hid (by rw [show ((t + 1 : Nat) : Int) = (t : Int) + 1 by omega]; exact J8.out.newbox _)
            go_wp2
            go_roundg (n0 - (t + 1))
            case measure => have := hg.out; omega
            case rel => exact ⟨t + 1, w8.heap.size, zz, AA, cc, by omega, Lib.hid (by have := hg.out; omega), by omega, rfl, rfl, J9⟩
          · by_cases d1 : d = 1
            · subst d1
              have C1 := Lib.hid (refPop_c A z.length cap z wr J.out.2.2.2.1 (by omega))
              go_wp2_with fail
              refine C1.out.mono ?_
              rintro e w3 ⟨rfl, hq3⟩
              have J3 : Hid (SJ w w3 (.slice (some ⟨b, o, none⟩) n0 c0) room z z A cap bi (t : Int)) := Lib.hid (by obtain ⟨q, rfl⟩ := hq3; exact J.out.drewN q)
              have hdl : z.length - 1 = z.dropLast.length := by simp
              have J4 : Hid (SJ w w3 (.slice (some ⟨b, o, none⟩) n0 c0) room z z.dropLast A cap bi (t : Int)) := Lib.hid (J3.out.row (by
                have := J3.out.2.2.2.1.take (k := z.length - 1) (by omega)
                rw [← List.map_take, show z.take (z.length - 1) = z.dropLast from List.dropLast_eq_take.symm, hdl] at this
                exact this) J3.out.2.2.2.2.1)
              have C2 := Lib.hid (pop_c room z (w.heap.size + 1) w3 J3.out.2.2.1)
              have ee1 : (z.getLastD 0 != z.getLastD 0) = false := by simp
              have ee2 : (decide (0 < z.length) != decide (0 < z.length)) = false := by simp
              have hzl : z.dropLast.length ≤ t + 1 := by simp; omega
              obtain ⟨zz, hzz⟩ : ∃ y, z.dropLast = y := ⟨_, rfl⟩
              rw [hzz] at J4 C2 hzl hdl
              rw [hdl]
              clear hzz
              generalize z.getLastD 0 = lst0 at *
              generalize decide (0 < z.length) = dl0 at *
              clear hq3 hdl J3 hc0 hc1 zb zi
              go_wp2_with fail
              refine C2.out.mono ?_
              rintro e wt ⟨rfl, hs4, hg4⟩
              have JT := Lib.hid (J4.out.stack hg4 hs4)
              obtain ⟨AA, rfl⟩ : ∃ a, A = a := ⟨_, rfl⟩
              obtain ⟨cc, rfl⟩ : ∃ a, cap = a := ⟨_, rfl⟩
              clear hs4 hg4 J4
              have zb := cell_of 0 JT.out.2.1
              have zi := cell_of 0 JT.out.2.2.2.2.2.1
              have hlz : (zz.length : Int) ≤ 1000 := by omega
              have P1 := Lib.hid (refPop_c A zz.length cap zz wt JT.out.2.2.2.1 (by omega))
              go_wp2_with fail
              refine P1.out.mono ?_
              rintro e w2 ⟨rfl, hq2⟩
              have J2 : Hid (SJ w w2 (.slice (some ⟨b, o, none⟩) n0 c0) room zz zz A cap bi (t : Int)) := Lib.hid (by obtain ⟨q, rfl⟩ := hq2; exact JT.out.drewN q)
              clear hq2
              have P2 := Lib.hid (top_c room zz (w.heap.size + 1) w2 J2.out.2.2.1)
              clear zb zi
              go_wp2_with fail
              refine P2.out.mono ?_
              rintro e wq ⟨rfl, rfl⟩
              have p3 := find_c x room zz.reverse (w.heap.size + 1) (.pointer (some ⟨w.heap.size, 0, none⟩)) (.pointer (some ⟨bi, 0, none⟩)) w2 J2.out.2.2.1 (by simp; omega) (fun k => HCC.out w2 zz zz A cap bi J2.out k)
              rw [← fndR_all] at p3
              have P3 := Lib.hid p3
              have P4 := Lib.hid (refFind_c A zz.length cap zz x w2 J2.out.2.2.2.1 (by omega))
              clear p3
              go_wp2_with fail
              refine P3.out.mono ?_
              rintro e wq ⟨rfl, rfl⟩
              have zb := cell_of 0 J2.out.2.1
              have zi := cell_of 0 J2.out.2.2.2.2.2.1
              have hx1 := (HCX.out _ J2.out.1).2
              go_wp2_with fail
              refine P4.out.mono ?_
              rintro e wq ⟨rfl, rfl⟩
              clear zb zi hx1
              have p5 := len_of room zz.reverse (w.heap.size + 1) w2 J2.out.2.2.1
              rw [List.length_reverse] at p5
              have P5 := Lib.hid p5
              have p6 := all_c room zz.reverse (w.heap.size + 1) w2 J2.out.2.2.1 (by simp; omega)
              rw [List.length_reverse, List.reverse_reverse] at p6
              have P6 := Lib.hid p6
              clear p5 p6
              have e1 : (zz.getLastD 0 != zz.getLastD 0) = false := by simp
              have e2 : (decide (0 < zz.length) != decide (0 < zz.length)) = false := by simp
              have e3 : ((fndR x zz zz.length).1 != (fndR x zz zz.length).1) = false := by simp
              have e4 : ((fndR x zz zz.length).2 != (fndR x zz zz.length).2) = false := by simp
              have e5 : ((zz.length : Int) != (zz.length : Int)) = false := by simp
              generalize fndR x zz zz.length = fr at *
              generalize zz.getLastD 0 = lst at *
              generalize decide (0 < zz.length) = dl at *
              obtain ⟨fr1, fr2⟩ := fr
              simp only at e3 e4
              go_wp2_with fail
              refine P5.out.mono ?_
              rintro e wq ⟨rfl, rfl⟩
              go_wp2_with fail
              refine P6.out.mono ?_
              rintro e w7 ⟨A7, c7, rfl, hr7, hb7⟩
              have J7 := Lib.hid (J2.out.kept hb7)
              have P7 := Lib.hid (ints_c A7 A zz.length c7 cap zz w7 hr7 J7.out.2.2.2.1 (by omega))
              clear hr7 hb7
              go_wp2_with fail
              refine P7.out.mono ?_
              rintro e w8 ⟨rfl, hq8⟩
              have J8 : Hid (SJ w w8 (.slice (some ⟨b, o, none⟩) n0 c0) room zz zz A cap bi (t : Int)) := Lib.hid (by obtain ⟨q, rfl⟩ := hq8; exact J7.out.drewN q)
              clear hq8
              have zi := cell_of 0 J8.out.2.2.2.2.2.1
              have J9 : Hid (SJ w (w8.alloc (.cells #[.int .i64 ((t : Int) + 1)] 3)) (.slice (some ⟨b, o, none⟩) n0 c0) room zz zz A cap w8.heap.size ((t + 1 : Nat) : Int)) := Lib.hid (by rw [show ((t + 1 : Nat) : Int) = (t : Int) + 1 by omega]; exact J8.out.newbox _)
              go_wp2
              go_roundg (n0 - (t + 1))
              case measure => have := hg.out; omega
              case rel => exact ⟨t + 1, w8.heap.size, zz, A, cap, by omega, Lib.hid (by have := hg.out; omega), by omega, rfl, rfl, J9⟩
            · by_cases d2 : d = 2
              · subst d2
                have C1 := Lib.hid (refCut_c A z.length cap x wr J.out.2.2.2.1.le (by omega))
                have hmn : min z.length x.toNat = (z.take x.toNat).length := by simp [Nat.min_comm]
                have J4 : Hid (SJ w wr (.slice (some ⟨b, o, none⟩) n0 c0) room z (z.take x.toNat) A cap bi (t : Int)) := Lib.hid (J.out.row (by
                  have := J.out.2.2.2.1.take (k := min z.length x.toNat) (by omega)
                  have e9 : (z.map iz).take (min z.length x.toNat) = (z.take x.toNat).map iz := by
                    rw [← List.map_take]
                    congr 1
                    rw [List.take_eq_take_iff]
                    omega
                  rw [e9, hmn] at this
                  exact this) J.out.2.2.2.2.1)
                have C2 := Lib.hid (cut_c room x z (w.heap.size + 1) wr J.out.2.2.1)
                have hzl : (z.take x.toNat).length ≤ t + 1 := by rw [← hmn]; omega
                obtain ⟨zz, hzz⟩ : ∃ y, z.take x.toNat = y := ⟨_, rfl⟩
                rw [hzz] at J4 C2 hzl hmn
                rw [hmn] at C1
                clear hmn hzz
                go_wp2_with fail
                refine C1.out.mono ?_
                rintro e wq ⟨rfl, rfl⟩
                go_wp2_with fail
                refine C2.out.mono ?_
                rintro e wt ⟨rfl, hs4, hg4⟩
                have JT := Lib.hid (J4.out.stack hg4 hs4)
                clear hs4 hg4 J4 zb zi hc0 hc1
                have zb := cell_of 0 JT.out.2.1
                have zi := cell_of 0 JT.out.2.2.2.2.2.1
                have hlz : (zz.length : Int) ≤ 1000 := by omega
                have P1 := Lib.hid (refPop_c A zz.length cap zz wt JT.out.2.2.2.1 (by omega))
                go_wp2_with fail
                refine P1.out.mono ?_
                rintro e w2 ⟨rfl, hq2⟩
                have J2 : Hid (SJ w w2 (.slice (some ⟨b, o, none⟩) n0 c0) room zz zz A cap bi (t : Int)) := Lib.hid (by obtain ⟨q, rfl⟩ := hq2; exact JT.out.drewN q)
                clear hq2
                have P2 := Lib.hid (top_c room zz (w.heap.size + 1) w2 J2.out.2.2.1)
                clear zb zi
                go_wp2_with fail
                refine P2.out.mono ?_
                rintro e wq ⟨rfl, rfl⟩
                have p3 := find_c x room zz.reverse (w.heap.size + 1) (.pointer (some ⟨w.heap.size, 0, none⟩)) (.pointer (some ⟨bi, 0, none⟩)) w2 J2.out.2.2.1 (by simp; omega) (fun k => HCC.out w2 zz zz A cap bi J2.out k)
                rw [← fndR_all] at p3
                have P3 := Lib.hid p3
                have P4 := Lib.hid (refFind_c A zz.length cap zz x w2 J2.out.2.2.2.1 (by omega))
                clear p3
                go_wp2_with fail
                refine P3.out.mono ?_
                rintro e wq ⟨rfl, rfl⟩
                have zb := cell_of 0 J2.out.2.1
                have zi := cell_of 0 J2.out.2.2.2.2.2.1
                have hx1 := (HCX.out _ J2.out.1).2
                go_wp2_with fail
                refine P4.out.mono ?_
                rintro e wq ⟨rfl, rfl⟩
                clear zb zi hx1
                have p5 := len_of room zz.reverse (w.heap.size + 1) w2 J2.out.2.2.1
                rw [List.length_reverse] at p5
                have P5 := Lib.hid p5
                have p6 := all_c room zz.reverse (w.heap.size + 1) w2 J2.out.2.2.1 (by simp; omega)
                rw [List.length_reverse, List.reverse_reverse] at p6
                have P6 := Lib.hid p6
                clear p5 p6
                have e1 : (zz.getLastD 0 != zz.getLastD 0) = false := by simp
                have e2 : (decide (0 < zz.length) != decide (0 < zz.length)) = false := by simp
                have e3 : ((fndR x zz zz.length).1 != (fndR x zz zz.length).1) = false := by simp
                have e4 : ((fndR x zz zz.length).2 != (fndR x zz zz.length).2) = false := by simp
                have e5 : ((zz.length : Int) != (zz.length : Int)) = false := by simp
                generalize fndR x zz zz.length = fr at *
                generalize zz.getLastD 0 = lst at *
                generalize decide (0 < zz.length) = dl at *
                obtain ⟨fr1, fr2⟩ := fr
                simp only at e3 e4
                go_wp2_with fail
                refine P5.out.mono ?_
                rintro e wq ⟨rfl, rfl⟩
                go_wp2_with fail
                refine P6.out.mono ?_
                rintro e w7 ⟨A7, c7, rfl, hr7, hb7⟩
                have J7 := Lib.hid (J2.out.kept hb7)
                have P7 := Lib.hid (ints_c A7 A zz.length c7 cap zz w7 hr7 J7.out.2.2.2.1 (by omega))
                clear hr7 hb7
                go_wp2_with fail
                refine P7.out.mono ?_
                rintro e w8 ⟨rfl, hq8⟩
                have J8 : Hid (SJ w w8 (.slice (some ⟨b, o, none⟩) n0 c0) room zz zz A cap bi (t : Int)) := Lib.hid (by obtain ⟨q, rfl⟩ := hq8; exact J7.out.drewN q)
                clear hq8
                have zi := cell_of 0 J8.out.2.2.2.2.2.1
                have J9 : Hid (SJ w (w8.alloc (.cells #[.int .i64 ((t : Int) + 1)] 3)) (.slice (some ⟨b, o, none⟩) n0 c0) room zz zz A cap w8.heap.size ((t + 1 : Nat) : Int)) := Lib.hid (by rw [show ((t + 1 : Nat) : Int) = (t : Int) + 1 by omega]; exact J8.out.newbox _)
                go_wp2
                go_roundg (n0 - (t + 1))
                case measure => have := hg.out; omega
                case rel => exact ⟨t + 1, w8.heap.size, zz, A, cap, by omega, Lib.hid (by have := hg.out; omega), by omega, rfl, rfl, J9⟩
              · have dd0 : (d == 0) = false := by simpa using d0
                have dd1 : (d == 1) = false := by simpa using d1
                have dd2 : (d == 2) = false := by simpa using d2
                have JT := J
                have hzl : z.length ≤ t + 1 := by omega
                obtain ⟨wt, rfl⟩ : ∃ a, wr = a := ⟨_, rfl⟩
                have zb := cell_of 0 JT.out.2.1
                have zi := cell_of 0 JT.out.2.2.2.2.2.1
                have hlz : (z.length : Int) ≤ 1000 := by omega
                have P1 := Lib.hid (refPop_c A z.length cap z wr JT.out.2.2.2.1 (by omega))
                go_wp2_with fail
                refine P1.out.mono ?_
                rintro e w2 ⟨rfl, hq2⟩
                have J2 : Hid (SJ w w2 (.slice (some ⟨b, o, none⟩) n0 c0) room z z A cap bi (t : Int)) := Lib.hid (by obtain ⟨q, rfl⟩ := hq2; exact JT.out.drewN q)
                clear hq2
                have P2 := Lib.hid (top_c room z (w.heap.size + 1) w2 J2.out.2.2.1)
                clear zb zi
                go_wp2_with fail
                refine P2.out.mono ?_
                rintro e wq ⟨rfl, rfl⟩
                have p3 := find_c x room z.reverse (w.heap.size + 1) (.pointer (some ⟨w.heap.size, 0, none⟩)) (.pointer (some ⟨bi, 0, none⟩)) w2 J2.out.2.2.1 (by simp; omega) (fun k => HCC.out w2 z z A cap bi J2.out k)
                rw [← fndR_all] at p3
                have P3 := Lib.hid p3
                have P4 := Lib.hid (refFind_c A z.length cap z x w2 J2.out.2.2.2.1 (by omega))
                clear p3
                go_wp2_with fail
                refine P3.out.mono ?_
                rintro e wq ⟨rfl, rfl⟩
                have zb := cell_of 0 J2.out.2.1
                have zi := cell_of 0 J2.out.2.2.2.2.2.1
                have hx1 := (HCX.out _ J2.out.1).2
                go_wp2_with fail
                refine P4.out.mono ?_
                rintro e wq ⟨rfl, rfl⟩
                clear zb zi hx1
                have p5 := len_of room z.reverse (w.heap.size + 1) w2 J2.out.2.2.1
                rw [List.length_reverse] at p5
                have P5 := Lib.hid p5
                have p6 := all_c room z.reverse (w.heap.size + 1) w2 J2.out.2.2.1 (by simp; omega)
                rw [List.length_reverse, List.reverse_reverse] at p6
                have P6 := Lib.hid p6
                clear p5 p6
                have e1 : (z.getLastD 0 != z.getLastD 0) = false := by simp
                have e2 : (decide (0 < z.length) != decide (0 < z.length)) = false := by simp
                have e3 : ((fndR x z z.length).1 != (fndR x z z.length).1) = false := by simp
                have e4 : ((fndR x z z.length).2 != (fndR x z z.length).2) = false := by simp
                have e5 : ((z.length : Int) != (z.length : Int)) = false := by simp
                generalize fndR x z z.length = fr at *
                generalize z.getLastD 0 = lst at *
                generalize decide (0 < z.length) = dl at *
                obtain ⟨fr1, fr2⟩ := fr
                simp only at e3 e4
                go_wp2_with fail
                refine P5.out.mono ?_
                rintro e wq ⟨rfl, rfl⟩
                go_wp2_with fail
                refine P6.out.mono ?_
                rintro e w7 ⟨A7, c7, rfl, hr7, hb7⟩
                have J7 := Lib.hid (J2.out.kept hb7)
                have P7 := Lib.hid (ints_c A7 A z.length c7 cap z w7 hr7 J7.out.2.2.2.1 (by omega))
                clear hr7 hb7
                go_wp2_with fail
                refine P7.out.mono ?_
                rintro e w8 ⟨rfl, hq8⟩
                have J8 : Hid (SJ w w8 (.slice (some ⟨b, o, none⟩) n0 c0) room z z A cap bi (t : Int)) := Lib.hid (by obtain ⟨q, rfl⟩ := hq8; exact J7.out.drewN q)
                clear hq8
                have zi := cell_of 0 J8.out.2.2.2.2.2.1
                have J9 : Hid (SJ w (w8.alloc (.cells #[.int .i64 ((t : Int) + 1)] 3)) (.slice (some ⟨b, o, none⟩) n0 c0) room z z A cap w8.heap.size ((t + 1 : Nat) : Int)) := Lib.hid (by rw [show ((t + 1 : Nat) : Int) = (t : Int) + 1 by omega]; exact J8.out.newbox _)
                go_wp2
                go_roundg (n0 - (t + 1))
                case measure => have := hg.out; omega
                case rel => exact ⟨t + 1, w8.heap.size, z, A, cap, by omega, Lib.hid (by have := hg.out; omega), by omega, rfl, rfl, J9⟩
        · have htni : ¬ (t : Int) < (n0 : Int) := by omega
          have BJ := Lib.hid J.out.1
          go_wp2_with fail
          refine (LV.out _ BJ.out).mono ?_
          rintro e w9 ⟨rfl, hb9⟩
          have B9 := Lib.hid (BJ.out.trans (hb9.mono BJ.out.size))
          clear hb9
          go_wp2
          go_ret
          exact ⟨rfl, B9.out⟩
    · have cn := new_no room (w.alloc (.cells #[.slice A0 n0 c0] 22)) (by omega)
      have CN := Lib.hid cn
      have CI := Lib.hid fun W => refIs12_c room W
      have e1 : (decide (0 ≤ room) && decide (room ≤ 1099511627776)) = false := by
        by_cases h1 : 0 ≤ room
        · have h2 : ¬ room ≤ 1099511627776 := fun h2 => hr ⟨h1, h2⟩
          simp [h2]
        · simp [h1]
      rw [e1] at CI
      clear cn e1 h q0 hb0 hr
      go_enter Try.func3, Try.ntmps3
      go_wp2_with fail
      refine CN.out.mono ?_
      rintro e w1 ⟨rfl, rfl⟩
      go_wp2_with fail
      refine (CI.out _).mono ?_
      rintro e wq ⟨rfl, rfl⟩
      go_wp2_with fail
      refine (LV.out _ HB0.out).mono ?_
      rintro e w9 ⟨rfl, hb9⟩
      have B9 := Lib.hid (HB0.out.trans (hb9.mono HB0.out.size))
      clear hb9
      go_wp2
      go_ret
      exact ⟨rfl, B9.out⟩
  · have hn' : (200 : Int) < (n0 : Int) := by omega
    clear h q0 hb0 hn
    go_enter Try.func3, Try.ntmps3
    go_wp2_with fail
    refine (LV.out _ HB0.out).mono ?_
    rintro e w9 ⟨rfl, hb9⟩
    have B9 := Lib.hid (HB0.out.trans (hb9.mono HB0.out.size))
    clear hb9
    go_wp2
    go_ret
    exact ⟨rfl, B9.out⟩
end Go.Proofs.Ytpblphddpcogcaa
