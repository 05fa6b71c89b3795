/- The law TagAgain, walked. -/
import Derived.Test.YtpblphddpcogcaaDoorRows
import Derived.WalkKit
import Derived.ProofKit
import Derived.OpenShut
import Derived.ShutString
import Derived.ChangeOld
import Derived.Below
import Derived.BigQuiet
import Derived.Deep.QuietTactic
import Derived.Lib.Hide
import Derived.Deep.RegionHeld3
import Derived.Lib.SlBytesConst
import Derived.Laws.CopyOwn
import Derived.Laws.CopyRow
import Derived.Lib.Bytes
import Derived.Deep.LoopGhost
import Derived.Deep.DeepFit
import Derived.Deep.DeepMust
import Derived.WalkSpells
import Derived.WalkLawsBesides
import Derived.Maps.OwnOps
import Derived.Maps.OwnSet
import Derived.Maps.Views
import Derived.Laws.EntriesVeiled
import Derived.Laws.Rows
import Derived.Test.YtpblphddpcogcaaDoorShelf
import Derived.Test.YtpblphddpcogcaaDoorBase
import Derived.Test.YtpblphddpcogcaaDoorCharPlain
import Derived.Test.YtpblphddpcogcaaDoorStr
import Derived.Test.YtpblphddpcogcaaDoorBits
import Derived.Test.YtpblphddpcogcaaDoorChars1
import Derived.Test.YtpblphddpcogcaaDoorUtf1
import Derived.Test.YtpblphddpcogcaaDoorUtf2
import Derived.Test.YtpblphddpcogcaaDoorUtf3
import Derived.Test.YtpblphddpcogcaaDoorName1
import Derived.Test.YtpblphddpcogcaaDoorName2
import Derived.Test.YtpblphddpcogcaaDoorName3
import Derived.Test.YtpblphddpcogcaaDoorNameA
import Derived.Test.YtpblphddpcogcaaDoorCref1
import Derived.Test.YtpblphddpcogcaaDoorLitP
import Derived.Test.YtpblphddpcogcaaDoorLit2
import Derived.Test.YtpblphddpcogcaaDoorLit4
import Derived.Test.YtpblphddpcogcaaDoorBlank
import Derived.Test.YtpblphddpcogcaaDoorPub
import Derived.Test.YtpblphddpcogcaaDoorMiscP
import Derived.Test.YtpblphddpcogcaaDoorNum
import Derived.Test.YtpblphddpcogcaaDoorCChar2
import Derived.Test.YtpblphddpcogcaaDoorPlainP
import Derived.Test.YtpblphddpcogcaaDoorWhole
import Derived.Test.YtpblphddpcogcaaDoorBuild
import Derived.Test.YtpblphddpcogcaaDoorBuild2
import Derived.Test.YtpblphddpcogcaaDoorTagM
namespace Go.Proofs.YtpblphddpcogcaaDoor
open Go.ChangeShapes Go.WideShapes Go.ChangeAt Go.RowKit
set_option linter.unusedVariables false
def Q34 (ps : List PairL) : Prop := ∀ p ∈ ps, ∀ c ∈ p.2, c ≠ 34
theorem Q34.snoc {ps : List PairL} {p : PairL} (h : Q34 ps) (hp : ∀ c ∈ p.2, c ≠ 34) : Q34 (ps ++ [p]) := fun q hq => by
  rcases List.mem_append.1 hq with h1 | h1
  · exact h q h1
  · rw [List.mem_singleton.1 h1]; exact hp
theorem tagAt_0 (l : List UInt8) : tagAt noTag openOut l 0 = openOut l 0 := by
  unfold tagAt
  rw [if_neg (by omega)]
  rfl
set_option maxRecDepth 100000 in
set_option maxHeartbeats 8000000 in
theorem tagAgain_walk (A : Option Addr) (n cap : Nat) (l : List UInt8) (w : World) (h : Byt w w.heap.size A n cap l) (hW : W10 w) :
    Calls Tryd.prog 3 #[.slice A n cap] w fun e w' => e = .returned (.bool true) ∧ Below w.heap.size w w' := by
  have LV : Hid (∀ W, Below w.heap.size w W → Calls Tryd.prog 8 #[] W fun e w' => e = .returned (.bool true) ∧ Below W.heap.size W w') := Lib.hid fun W hb => live10_c W (hW.below hb)
  by_cases hn : n ≤ 400
  · have hn' : ¬ (400 : Int) < (n : Int) := by omega
    have hll := h.length
    have c1 := tagOpen_c A n cap l 0 w h hW (by omega)
    rw [tagAt_0] at c1
    have CO := Lib.hid c1
    have HBAD := Lib.hid (open_bad l 0)
    have HRD := Lib.hid (read_tag l 0 (Nat.zero_le _))
    have hbk := tag_back (openOut l 0).1
    have HBK := Lib.hid hbk
    have htl := tag_len l 0 (Nat.zero_le _)
    rw [hll] at htl
    have HTL : Hid ((openOut l 0).2.2 = 0 → (tagT (openOut l 0).1).length ≤ 403) := Lib.hid fun h0 => by have := htl h0; omega
    have HW : Hid (∀ W, Below w.heap.size w W → W10 W) := Lib.hid fun W hb => hW.below hb
    clear h hW hn hll c1 hbk htl
    generalize openOut l 0 = o at *
    obtain ⟨⟨tn, tps, te⟩, i2, e2⟩ := o
    simp only at HBAD HRD HTL
    by_cases he : e2 = 0
    · subst he
      have htl := HTL.out rfl
      have hvb : ∀ p ∈ tps, p.1.length ≤ 40000 ∧ p.2.length ≤ 40000 := by
        intro p hp
        have := val_bound hp
        simp only [tagT, List.length_cons, List.length_append] at htl
        omega
      have hnb : tn.length ≤ 40000 ∧ tps.length ≤ 40000 := by
        have := pairsT_len tps
        simp only [tagT, List.length_cons, List.length_append] at htl
        omega
      have HV := Lib.hid (And.intro hvb hnb)
      have HTL2 := Lib.hid htl
      clear HTL htl HBAD hvb hnb
      go_enter Tryd.func3, Tryd.ntmps3
      go_wp2_with fail
      refine CO.out.mono ?_
      rintro e w1 ⟨A1, n1, c1, rfl, hr1, b1⟩
      simp only at hr1
      have k1 := (Below.refl _ w1).alloc (Nat.le_refl _) (.cells #[.string ⟨tn.toArray⟩, .slice A1 n1 c1, .bool te] 26)
      have q1 := hp_new w1 (.cells #[.string ⟨tn.toArray⟩, .slice A1 n1 c1, .bool te] 26)
      have HR := Lib.hid ((hr1.below k1).more k1.size)
      have B1 := Lib.hid (b1.trans (k1.mono b1.size))
      have Q1 := Lib.hid q1
      have HNL : Hid (tps.length = n1) := Lib.hid hr1.len
      have hn1 : n1 ≤ 40000 := by rw [← HNL.out]; exact HV.out.2.2
      have z0 := cell_of 0 q1
      have z1 := cell_of 1 q1
      have z2 := cell_of 2 q1
      have hlt1 : w1.heap.size < (w1.alloc (.cells #[.string ⟨tn.toArray⟩, .slice A1 n1 c1, .bool te] 26)).heap.size := by simp
      have HLT1 := Lib.hid hlt1
      clear hr1 k1 b1 q1 hlt1
      go_wp2
      generalize w1.alloc (.cells #[.string ⟨tn.toArray⟩, .slice A1 n1 c1, .bool te] 26) = wa at *
      go_loopg [6] (n1) (fun g i wr => ∃ t : Nat, t ≤ n1 ∧ Hid (g + t = n1) ∧ i = .int .i64 (t : Int) ∧ wa = wr ∧ Hid (Q34 (tps.take t)))
      case atStart => exact ⟨0, Nat.zero_le _, Lib.hid (by omega), rfl, rfl, Lib.hid (fun p hp => by simp at hp)⟩
      case round =>
        obtain ⟨t, ht, hg, rfl, rfl, HQ⟩ := hrel
        have ht0 : (0 : Int) ≤ (t : Int) := by omega
        have htb : (t : Int) ≤ 40000 := by omega
        by_cases htn : t < n1
        · have htni : (t : Int) < (n1 : Int) := by omega
          obtain ⟨b, o, p, rfl, hb, hp, hc0, hc1⟩ := HR.out.cell htn
          have htk : tps.take (t + 1) = tps.take t ++ [p] := by rw [List.take_add_one, hp]; rfl
          have HTK := Lib.hid htk
          have hpv : p.2.length ≤ 40000 := (HV.out.1 p (List.mem_of_getElem? hp)).2
          clear hb hp htk hc0
          obtain ⟨pn, pv⟩ := p
          simp only at hc1 hpv
          go_wp2
          go_loopg [7] (pv.length) (fun g i wr => ∃ u : Nat, u ≤ pv.length ∧ Hid (g + u = pv.length) ∧ i = .int .i64 (u : Int) ∧ wa = wr ∧ Hid (∀ c ∈ pv.take u, c ≠ 34))
          case atStart => exact ⟨0, Nat.zero_le _, Lib.hid (by omega), rfl, rfl, Lib.hid (fun p hp => by simp at hp)⟩
          case round =>
            obtain ⟨u, hu, hgu, rfl, rfl, HQu⟩ := hrel
            have hu0 : (0 : Int) ≤ (u : Int) := by omega
            have hub : (u : Int) ≤ 40000 := by omega
            by_cases hun : u < pv.length
            · have huni : (u : Int) < (pv.length : Int) := by omega
              have hix := run_strIndex pv u hun
              have hux : pv.take (u + 1) = pv.take u ++ [pv.getD u 0] := by rw [List.take_add_one, List.getElem?_eq_getElem hun]; simp [hun]
              have HUX := Lib.hid hux
              clear hux
              generalize pv.getD u 0 = c at *
              by_cases hc : c = 34
              · subst hc
                go_wp2_with fail
                refine (LV.out _ B1.out).mono ?_
                rintro e w9 ⟨rfl, hb9⟩
                have B9 := Lib.hid (B1.out.trans (hb9.mono B1.out.size))
                clear hb9
                go_wp2
                go_ret
                exact ⟨rfl, B9.out⟩
              · have hci : ((c.toNat : Int) == 34) = false := ne_byte' c 34 34 rfl hc
                have HQ2 : Hid (∀ x ∈ pv.take (u + 1), x ≠ 34) := Lib.hid fun x hx => by
                  rw [HUX.out] at hx
                  rcases List.mem_append.1 hx with h1 | h1
                  · exact HQu.out x h1
                  · rw [List.mem_singleton.1 h1]; exact hc
                clear hc
                go_wp2
                go_roundg (pv.length - (u + 1))
                case measure => have := hgu.out; omega
                case rel => exact ⟨u + 1, by omega, Lib.hid (by omega), by go_num, rfl, HQ2⟩
            · have huni : ¬ (u : Int) < (pv.length : Int) := by omega
              have HQ3 : Hid (Q34 (tps.take (t + 1))) := Lib.hid (by
                rw [HTK.out]
                have := HQu.out
                rw [List.take_of_length_le (by omega)] at this
                exact HQ.out.snoc this)
              go_wp2
              go_roundg (n1 - (t + 1))
              case measure => have := hg.out; omega
              case rel => exact ⟨t + 1, by omega, Lib.hid (by omega), by go_num, rfl, HQ3⟩
        · have htni : ¬ (t : Int) < (n1 : Int) := by omega
          have hq : Q34 tps := by
            have := HQ.out
            rwa [List.take_of_length_le (by rw [HNL.out]; omega)] at this
          obtain ⟨hok1, hok2⟩ := HRD.out (by trivial) hq
          have hck := checkT_of hok1 hok2
          have hpo : putOut tn tps te = (tagT ⟨tn, tps, te⟩, 0) := by unfold putOut; rw [if_pos hck]
          have hbk := HBK.out hok1 hok2
          have c2 := tagPut_c tn A1 n1 c1 tps te wa HR.out (HW.out _ B1.out) HV.out.2.1 hn1 HV.out.1
          rw [hpo] at c2
          have CP := Lib.hid c2
          have htl := HTL2.out
          have HBK2 := Lib.hid hbk
          clear hok1 hok2 hck hpo hbk c2 hq
          generalize tagT ⟨tn, tps, te⟩ = T at *
          go_wp2_with fail
          refine CP.out.mono ?_
          rintro e w2 ⟨rfl, hb2⟩
          have B2 := Lib.hid (B1.out.trans (hb2.mono B1.out.size))
          have q2 := (hb2.block w1.heap.size HLT1.out).trans Q1.out
          have hr2 := (HR.out.below hb2).more hb2.size
          have hby := byt_new w2 T (by omega)
          have hcv := run_toBytes w2 T
          have hb3 := Lib.bytesWorld_below w2 5 ⟨T.toArray⟩
          have c3 := tagOpen_c _ _ _ T 0 _ (hby.more (Nat.le_of_eq (Lib.bytesWorld_size _ _ _).symm)) (HW.out _ (B2.out.trans (hb3.mono B2.out.size))) (by omega)
          rw [tagAt_0, HBK2.out] at c3
          have C3 := Lib.hid c3
          have HB3 := Lib.hid (B2.out.trans (hb3.mono B2.out.size))
          have HR3 := Lib.hid ((hr2.below hb3).more hb3.size)
          have Q3 := Lib.hid ((hb3.block w1.heap.size (lt_of q2)).trans q2)
          have hTi : ((T.length : Int) == (T.length : Int)) = true := by simp
          clear hb2 q2 hr2 hby hb3 c3 z0 z1 z2 CP
          go_wp2_with fail
          refine C3.out.mono ?_
          rintro e w4 ⟨A4, n4, c4, rfl, hr4, b4⟩
          simp only at hr4
          obtain rfl : n1 = n4 := HNL.out.symm.trans hr4.len
          have k4 := (Below.refl _ w4).alloc (Nat.le_refl _) (.cells #[.string ⟨tn.toArray⟩, .slice A4 n1 c4, .bool te] 26)
          have q4 := hp_new w4 (.cells #[.string ⟨tn.toArray⟩, .slice A4 n1 c4, .bool te] 26)
          have q1' : (w4.alloc (.cells #[.string ⟨tn.toArray⟩, .slice A4 n1 c4, .bool te] 26)).heap[w1.heap.size]? = some (.cells #[.string ⟨tn.toArray⟩, .slice A1 n1 c1, .bool te] 26) := by
            have hl := lt_of Q3.out
            rw [Below.heap_alloc _ _ _ (by have := b4.size; omega), b4.block _ hl]
            exact Q3.out
          have z0 := cell_of 0 q1'
          have z1 := cell_of 1 q1'
          have z2 := cell_of 2 q1'
          have y0 := cell_of 0 q4
          have y1 := cell_of 1 q4
          have y2 := cell_of 2 q4
          have HS2 : Hid (Calls Tryd.prog 11 #[.slice A4 n1 c4, .slice A1 n1 c1] (w4.alloc (.cells #[.string ⟨tn.toArray⟩, .slice A4 n1 c4, .bool te] 26)) fun e w' => e = .returned (.bool true) ∧ w'.cell? ⟨w1.heap.size, 2, none⟩ = some (.bool te) ∧ w'.cell? ⟨w4.heap.size, 2, none⟩ = some (.bool te) ∧ Hid (Below w.heap.size w w')) := Lib.hid (by
            have h1 : PRd (w4.alloc (.cells #[.string ⟨tn.toArray⟩, .slice A4 n1 c4, .bool te] 26)) (w4.alloc (.cells #[.string ⟨tn.toArray⟩, .slice A4 n1 c4, .bool te] 26)).heap.size A4 n1 c4 tps := (hr4.below k4).more k4.size
            have h2 : PRd (w4.alloc (.cells #[.string ⟨tn.toArray⟩, .slice A4 n1 c4, .bool te] 26)) (w4.alloc (.cells #[.string ⟨tn.toArray⟩, .slice A4 n1 c4, .bool te] 26)).heap.size A1 n1 c1 tps := ((((HR3.out.below b4).more b4.size).below k4).more k4.size)
            refine (same10_c _ _ _ _ _ _ _ h1 h2 (by omega)).mono fun e w' ⟨he, hb5⟩ => ?_
            have hx4 := (hb5.block _ (lt_of q4)).trans q4
            have hx1 := (hb5.block _ (lt_of q1')).trans q1'
            exact ⟨he, cell_of 2 hx1, cell_of 2 hx4, Lib.hid (HB3.out.trans ((b4.trans ((k4.trans (hb5.mono k4.size)).mono b4.size)).mono HB3.out.size))⟩)
          clear q4 q1' k4 b4 hr4
          go_wp2_with fail
          refine HS2.out.mono ?_
          rintro e w6 ⟨rfl, x1, x4, B6⟩
          clear z0 z1 z2 y0 y1 y2
          go_wp2_with fail
          refine (LV.out _ B6.out).mono ?_
          rintro e w7 ⟨rfl, hb⟩
          have B7 := Lib.hid (B6.out.trans (hb.mono B6.out.size))
          clear hb
          go_wp2
          go_ret
          exact ⟨rfl, B7.out⟩
    · have hei : ((e2 : Int) != 0) = true := by simp; omega
      have hej : ¬ (e2 : Int) = 0 := by omega
      have hno := HBAD.out (by simpa using he)
      cases hno
      have HE : Hid (e2 ≠ 0) := Lib.hid he
      clear he HRD HBK HTL HBAD
      go_enter Tryd.func3, Tryd.ntmps3
      go_wp2_with fail
      refine CO.out.mono ?_
      rintro e w1 ⟨A1, n1, c1, rfl, hr1, b1⟩
      obtain rfl : n1 = 0 := hr1.len.symm
      have k1 := (Below.refl _ w1).alloc (Nat.le_refl _) (.cells #[.string ⟨#[]⟩, .slice A1 0 c1, .bool false] 26)
      have q1 := hp_new w1 (.cells #[.string ⟨#[]⟩, .slice A1 0 c1, .bool false] 26)
      have z0 := cell_of 0 q1
      have z1 := cell_of 1 q1
      have B1 := Lib.hid (b1.trans (k1.mono b1.size))
      clear hr1 b1 k1 q1
      go_wp2_with fail
      refine (LV.out _ B1.out).mono ?_
      rintro e w9 ⟨rfl, hb9⟩
      have B9 := Lib.hid (B1.out.trans (hb9.mono B1.out.size))
      clear hb9
      go_wp2
      go_ret
      exact ⟨rfl, B9.out⟩
  · have hn' : (400 : Int) < (n : Int) := by omega
    clear hW hn h
    go_enter Tryd.func3, Tryd.ntmps3
    go_wp2_with fail
    refine (LV.out _ (Below.refl _ _)).mono ?_
    rintro e w1 ⟨rfl, hb⟩
    have B1 := Lib.hid hb
    clear hb
    go_wp2
    go_ret
    exact ⟨rfl, B1.out⟩
end Go.Proofs.YtpblphddpcogcaaDoor
