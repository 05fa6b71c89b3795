/- chars.All; lit.Public. -/
import Derived.Test.YtljplmidnlahpaaDoorRows
import Derived.WalkKit
import Derived.ProofKit
import Derived.OpenShut
import Derived.ShutString
import Derived.ChangeOld
import Derived.Below
import Derived.BigQuiet
import Derived.Deep.QuietTactic
import Derived.Lib.Hide
import Derived.Deep.RegionHeld3
import Derived.Lib.SlBytesConst
import Derived.Laws.CopyOwn
import Derived.Laws.CopyRow
import Derived.Lib.Bytes
import Derived.Deep.LoopGhost
import Derived.Deep.DeepFit
import Derived.Deep.DeepMust
import Derived.WalkSpells
import Derived.WalkLawsBesides
import Derived.Laws.EntriesVeiled
import Derived.Laws.Rows
import Derived.Test.YtljplmidnlahpaaDoorBase
import Derived.Test.YtljplmidnlahpaaDoorShelf
import Derived.Test.YtljplmidnlahpaaDoorCharPlain
import Derived.Test.YtljplmidnlahpaaDoorUtf1
import Derived.Test.YtljplmidnlahpaaDoorUtf2
import Derived.Test.YtljplmidnlahpaaDoorUtf3
import Derived.Test.YtljplmidnlahpaaDoorChars1
import Derived.Test.YtljplmidnlahpaaDoorName1
import Derived.Test.YtljplmidnlahpaaDoorName2
import Derived.Test.YtljplmidnlahpaaDoorName3
import Derived.Test.YtljplmidnlahpaaDoorCref1
import Derived.Test.YtljplmidnlahpaaDoorCref2
import Derived.Test.YtljplmidnlahpaaDoorDig
import Derived.Test.YtljplmidnlahpaaDoorDig2
import Derived.Test.YtljplmidnlahpaaDoorRef1
import Derived.Test.YtljplmidnlahpaaDoorRef2
import Derived.Test.YtljplmidnlahpaaDoorRef3
import Derived.Test.YtljplmidnlahpaaDoorRef4
import Derived.Test.YtljplmidnlahpaaDoorRef5
import Derived.Test.YtljplmidnlahpaaDoorRef6
import Derived.Test.YtljplmidnlahpaaDoorRef9
import Derived.Test.YtljplmidnlahpaaDoorNum
import Derived.Test.YtljplmidnlahpaaDoorCChar
import Derived.Test.YtljplmidnlahpaaDoorCChar2
import Derived.Test.YtljplmidnlahpaaDoorRefC
import Derived.Test.YtljplmidnlahpaaDoorBuild
import Derived.Test.YtljplmidnlahpaaDoorEsc
import Derived.Test.YtljplmidnlahpaaDoorStr
import Derived.Test.YtljplmidnlahpaaDoorLitP
import Derived.Test.YtljplmidnlahpaaDoorLit1
import Derived.Test.YtljplmidnlahpaaDoorLit2
import Derived.Test.YtljplmidnlahpaaDoorLit3
import Derived.Test.YtljplmidnlahpaaDoorLit4
import Derived.Test.YtljplmidnlahpaaDoorLit5
import Derived.Test.YtljplmidnlahpaaDoorPub
import Derived.Test.YtljplmidnlahpaaDoorRun
import Derived.Test.YtljplmidnlahpaaDoorRunU
import Derived.Test.YtljplmidnlahpaaDoorRunV
namespace Go.Proofs.YtljplmidnlahpaaDoor
open Go.ChangeShapes Go.WideShapes Go.ChangeAt Go.RowKit
set_option linter.unusedVariables false
set_option maxRecDepth 100000 in
set_option maxHeartbeats 4000000 in
theorem charsAll_c (A : Option Addr) (n cap : Nat) (l : List UInt8) (w : World) (h : Byt w w.heap.size A n cap l) (hF : Forms w) (hm : n ≤ 50000) :
    Calls Tryd.prog 40 #[.slice A n cap, .func (.func 41) #[] #[]] w fun e w' => e = .returned (.bool (allOut isPub l)) ∧ Below w.heap.size w w' := by
  have HR := Lib.hid (utfRunes_c A n cap l w h hF hm)
  have hrl := runesL_le l.length l
  rw [h.length] at hrl
  have HRL : Hid ((runesOut l).1.length ≤ n) := Lib.hid (by unfold runesOut; rw [← h.length] at *; exact hrl.2)
  have HA : Hid (allOut isPub l = ((runesOut l).2 && (runesOut l).1.all fun r => isPub (r : Int))) := Lib.hid rfl
  have hnil : ∀ w : World, (binOp .eql 43 (.func (.func 41) #[] #[]) .nilFunc).run Tryd.prog w = .ok (.bool false) w := fun w => by kernel_rfl
  have ec : ∀ args w, (callFunc 41 args).run Tryd.prog w = .ok (.enter 41 args) w := enters_of Tryd.func41 (by kernel_rfl) rfl
  clear h hrl hF
  generalize allOut isPub l = res at *
  unfold RunesP at HR
  generalize runesOut l = ro at *
  obtain ⟨rs, ok⟩ := ro
  simp only at HR HRL HA
  go_enter Tryd.func40, Tryd.ntmps40
  go_wp2_with fail
  refine HR.out.mono ?_
  rintro e w1 ⟨hb, ⟨hok, A', c', rfl, hrd⟩ | ⟨hok, z, hz, rfl⟩⟩
  · have B1 := Lib.hid hb
    have HOK := Lib.hid hok
    have HRD := Lib.hid hrd
    clear hb hok hrd
    go_wp2
    go_loopg [22] (rs.length) (fun g i wr => ∃ t : Nat, t ≤ rs.length ∧ Hid (g + t = rs.length) ∧ i = .int .i64 (t : Int) ∧ w1 = wr ∧ Hid ((rs.take t).all (fun r => isPub (r : Int)) = true))
    case atStart => exact ⟨0, Nat.zero_le _, Lib.hid rfl, rfl, rfl, Lib.hid rfl⟩
    case round =>
      obtain ⟨t, ht, hg, rfl, rfl, HN⟩ := hrel
      have ht0 : (0 : Int) ≤ (t : Int) := by omega
      have htb : (t : Int) ≤ 50000 := by have := HRL.out; omega
      by_cases htn : t < rs.length
      · have htni : (t : Int) < (rs.length : Int) := by omega
        have hrt : rs[t]? = some (rs.getD t 0) := by rw [List.getElem?_eq_getElem htn]; simp [htn]
        obtain ⟨b, o, e, hbb, hcl⟩ := HRD.out.at_ (by have := HRD.out.le; omega)
        subst e
        have hcell := hcl t (iv (rs.getD t 0)) (by rw [List.getElem?_map, hrt]; rfl)
        have HAT := Lib.hid (all_take isPub rs t _ hrt)
        have HAL : Hid (isPub (rs.getD t 0 : Int) = false → (rs.all fun r => isPub (r : Int)) = false) := Lib.hid (fun h => by
          rw [List.all_eq_false]
          exact ⟨_, List.mem_of_getElem? hrt, by rw [h]; simp⟩)
        unfold iv at hcell
        clear hcl hrt hbb
        generalize rs.getD t 0 = r at *
        have HII := Lib.hid (pubid_c (r : Int) w1)
        cases hp : isPub (r : Int) with
        | true =>
          have HN2 : Hid ((rs.take (t + 1)).all (fun r => isPub (r : Int)) = true) := Lib.hid (by rw [HAT.out, HN.out, hp]; rfl)
          rw [hp] at HII
          clear hp
          go_wp2_with fail
          refine HII.out.mono ?_
          rintro e w2 ⟨rfl, rfl⟩
          go_wp2
          go_roundg (rs.length - (t + 1))
          case measure => have := hg.out; omega
          case rel => exact ⟨t + 1, by omega, Lib.hid (by omega), by go_num, rfl, HN2⟩
        | false =>
          have HE : Hid (res = false) := Lib.hid (by rw [HA.out, HAL.out hp]; simp)
          rw [hp] at HII
          clear hp
          go_wp2_with fail
          refine HII.out.mono ?_
          rintro e w2 ⟨rfl, rfl⟩
          go_wp2
          go_ret
          rw [HE.out]
          exact ⟨rfl, B1.out⟩
      · have htni : ¬ (t : Int) < (rs.length : Int) := by omega
        have HE : Hid (res = true) := Lib.hid (by
          have := HN.out
          rw [List.take_of_length_le (by omega)] at this
          rw [HA.out, HOK.out, this]; rfl)
        go_wp2
        go_ret
        rw [HE.out]
        exact ⟨rfl, B1.out⟩
  · have B1 := Lib.hid hb
    have HE : Hid (res = false) := Lib.hid (by rw [HA.out, hok]; rfl)
    subst hz
    clear hb hok
    go_wp2
    go_ret
    rw [HE.out]
    exact ⟨rfl, B1.out⟩
set_option maxRecDepth 100000 in
set_option maxHeartbeats 4000000 in
theorem public1_c (s : List UInt8) (w : World) (hF : Forms w) (hm : s.length ≤ 50000) :
    Calls Tryd.prog 39 #[.string ⟨s.toArray⟩] w fun e w' => e = .returned (.int .i64 (if allOut isPub s = true then 0 else 7)) ∧ Below w.heap.size w w' := by
  obtain ⟨c, w1, hcv, hb1, hs1, hby⟩ := toBytes w s (by omega)
  have C1 := Lib.hid (charsAll_c _ _ _ s w1 (hby.more (by omega)) (hF.below hb1 hF.lt) hm)
  have HB1 := Lib.hid hb1
  clear hF hb1 hs1 hby
  cases hp : allOut isPub s with
  | true =>
    rw [hp] at C1
    rw [if_pos rfl]
    clear hp
    go_enter Tryd.func39, Tryd.ntmps39
    go_wp2_with fail
    refine C1.out.mono ?_
    rintro e w2 ⟨rfl, hb⟩
    have B2 : Hid (Below w.heap.size w w2) := Lib.hid (HB1.out.trans (hb.mono HB1.out.size))
    clear hb hcv
    go_wp2
    go_ret
    exact ⟨rfl, B2.out⟩
  | false =>
    rw [hp] at C1
    rw [if_neg (by decide)]
    clear hp
    go_enter Tryd.func39, Tryd.ntmps39
    go_wp2_with fail
    refine C1.out.mono ?_
    rintro e w2 ⟨rfl, hb⟩
    have B2 : Hid (Below w.heap.size w w2) := Lib.hid (HB1.out.trans (hb.mono HB1.out.size))
    clear hb hcv
    go_wp2
    go_ret
    exact ⟨rfl, B2.out⟩
/-- A public identifier between quotes. -/
def publicAt (l : List UInt8) (at_ : Int) : List UInt8 × Nat × Nat :=
  if (quotedAt l at_).2.2 ≠ 0 then ([], 0, (quotedAt l at_).2.2)
  else if allOut isPub (quotedAt l at_).1 = true then ((quotedAt l at_).1, (quotedAt l at_).2.1, 0) else ([], 0, 7)
set_option maxRecDepth 100000 in
set_option maxHeartbeats 4000000 in
theorem litRead1_c (A : Option Addr) (n cap : Nat) (l : List UInt8) (at_ : Int) (g : Nat) (w : World) (h : Byt w w.heap.size A n cap l) (hF : Forms w) (hm : n ≤ 40000)
    (hg : w.heap[g]? = some (.cells #[.func (.func 39) #[] #[]] 54)) :
    Calls Tryd.prog 35 #[.slice A n cap, .int .i64 at_, .slice (some ⟨g, 0, none⟩) 1 1] w fun e w' => e = .returned (outV (publicAt l at_)) ∧ Below w.heap.size w w' := by
  have hgl := lt_of hg
  have HQ := Lib.hid (quoted_c A n cap l at_ w _ h (by omega))
  have hql := quotedAt_le l at_
  rw [h.length] at hql
  have HS : Hid (publicAt l at_ = if (quotedAt l at_).2.2 ≠ 0 then ([], 0, (quotedAt l at_).2.2) else if allOut isPub (quotedAt l at_).1 = true then ((quotedAt l at_).1, (quotedAt l at_).2.1, 0) else ([], 0, 7)) := Lib.hid rfl
  have HW : Hid (∀ w1, Below w.heap.size w w1 → Calls Tryd.prog 39 #[.string ⟨(quotedAt l at_).1.toArray⟩] w1 fun e w' => e = .returned (.int .i64 (if allOut isPub (quotedAt l at_).1 = true then 0 else 7)) ∧ Below w1.heap.size w1 w') := Lib.hid fun w1 hb => public1_c _ w1 (hF.below hb hF.lt) (by omega)
  have HG : Hid (∀ w1, Below w.heap.size w w1 → w1.cell? ⟨g, 0, none⟩ = some (.func (.func 39) #[] #[])) := Lib.hid fun w1 hb => by
    have := (hb.block g hgl).trans hg
    rw [cell_of 0 this]; rfl
  clear h hF hg hql hm
  generalize publicAt l at_ = res at *
  generalize quotedAt l at_ = q at *
  obtain ⟨s, k, f⟩ := q
  simp only at HS HW
  unfold outV at HQ
  by_cases hf : f = 0
  · subst hf
    go_enter Tryd.func35, Tryd.ntmps35
    go_wp2_with fail
    refine HQ.out.mono ?_
    rintro e w1 ⟨rfl, m, hw1⟩
    have B1 : Hid (Below w.heap.size w w1) := Lib.hid (by rw [hw1]; exact below_drewN' (Below.refl _ _))
    clear hw1
    go_wp2_with fail
    go_loopg [27] (2) (fun g i wr => ∃ j : Nat, j ≤ 1 ∧ Hid (g + j = 2) ∧ i = .int .i64 (j : Int) ∧ Hid (Below w.heap.size w wr) ∧ Hid (1 ≤ j → allOut isPub s = true))
    case atStart => exact ⟨0, by omega, Lib.hid rfl, rfl, B1, Lib.hid fun h => absurd h (by omega)⟩
    case round =>
      obtain ⟨j, hj, hg, rfl, BR, HJ⟩ := hrel
      have hg0 := HG.out wr BR.out
      rcases (show j = 0 ∨ j = 1 by omega) with rfl | rfl
      · have HWW := Lib.hid (HW.out wr BR.out)
        by_cases hb : allOut isPub s = true
        · rw [if_pos hb] at HWW
          have HB := Lib.hid hb
          clear hb
          go_wp2_with fail
          refine HWW.out.mono ?_
          rintro e w2 ⟨rfl, hb⟩
          have B2 : Hid (Below w.heap.size w w2) := Lib.hid (BR.out.trans (hb.mono BR.out.size))
          clear hb
          go_wp2
          go_roundg (1)
          case measure => have := hg.out; omega
          case rel => exact ⟨1, by omega, Lib.hid (by omega), rfl, B2, Lib.hid fun _ => HB.out⟩
        · rw [if_neg hb] at HWW
          have HE : Hid (res = ([], 0, 7)) := Lib.hid (by rw [HS.out, if_neg (by simp), if_neg hb])
          clear hb
          go_wp2_with fail
          refine HWW.out.mono ?_
          rintro e w2 ⟨rfl, hb⟩
          have B2 : Hid (Below w.heap.size w w2) := Lib.hid (BR.out.trans (hb.mono BR.out.size))
          clear hb
          go_wp2
          go_ret3
          rw [HE.out]
          exact ⟨rfl, B2.out⟩
      · have HE : Hid (res = (s, k, 0)) := Lib.hid (by rw [HS.out, if_neg (by simp), if_pos (HJ.out (by omega))])
        go_wp2
        go_ret3
        rw [HE.out]
        exact ⟨rfl, BR.out⟩
  · have HE : Hid (res = ([], 0, f)) := Lib.hid (by rw [HS.out, if_pos hf])
    have hfz : ((f : Int) != 0) = true := by simp; omega
    clear hf
    go_enter Tryd.func35, Tryd.ntmps35
    go_wp2_with fail
    refine HQ.out.mono ?_
    rintro e w1 ⟨rfl, m, hw1⟩
    have B1 : Hid (Below w.heap.size w w1) := Lib.hid (by rw [hw1]; exact below_drewN' (Below.refl _ _))
    clear hw1
    go_wp2
    go_ret3
    rw [HE.out]
    exact ⟨rfl, B1.out⟩
set_option maxRecDepth 100000 in
set_option maxHeartbeats 4000000 in
theorem litPublic_c (A : Option Addr) (n cap : Nat) (l : List UInt8) (at_ : Int) (w : World) (h : Byt w w.heap.size A n cap l) (hF : Forms w) (hm : n ≤ 40000) :
    Calls Tryd.prog 17 #[.slice A n cap, .int .i64 at_] w fun e w' => e = .returned (outV (publicAt l at_)) ∧ Below w.heap.size w w' := by
  have b1 : Below w.heap.size w (w.alloc (.cells #[.func (.func 39) #[] #[]] 54)) := (Below.refl _ _).alloc (Nat.le_refl _) _
  have hg := hp_new w (.cells #[.func (.func 39) #[] #[]] 54)
  have c1 := litRead1_c A n cap l at_ _ _ ((h.below b1).more b1.size) (hF.below b1 hF.lt) hm hg
  have hs2 : (w.alloc (.cells #[.func (.func 39) #[] #[]] 54)).heap.size = w.heap.size + 1 := by simp
  have C1 := Lib.hid c1
  have HB1 := Lib.hid b1
  have HS2 := Lib.hid hs2
  clear c1 b1 hg hs2 h hF
  generalize publicAt l at_ = res at *
  obtain ⟨s, k, f⟩ := res
  unfold outV at *
  go_enter Tryd.func17, Tryd.ntmps17
  go_wp2_with fail
  refine C1.out.mono ?_
  rintro e w2 ⟨rfl, hb⟩
  have B2 : Hid (Below w.heap.size w w2) := Lib.hid (HB1.out.trans (hb.mono (by rw [HS2.out]; omega)))
  clear hb
  go_wp2
  go_ret3
  exact ⟨rfl, B2.out⟩
set_option maxRecDepth 100000 in
set_option maxHeartbeats 4000000 in
theorem refPublic_c (A : Option Addr) (n cap : Nat) (l : List UInt8) (at_ : Int) (w : World) (h : Byt w w.heap.size A n cap l) (hm : n ≤ 40000) :
    Calls Tryd.prog 18 #[.slice A n cap, .int .i64 at_] w fun e w' => e = .returned (outV (publicAt l at_)) ∧ Below w.heap.size w w' := by
  have HQ := Lib.hid (refQuoted_c A n cap l at_ w _ h (by omega))
  have hql := quotedAt_le l at_
  rw [h.length] at hql
  have HS : Hid (publicAt l at_ = if (quotedAt l at_).2.2 ≠ 0 then ([], 0, (quotedAt l at_).2.2) else if allOut isPub (quotedAt l at_).1 = true then ((quotedAt l at_).1, (quotedAt l at_).2.1, 0) else ([], 0, 7)) := Lib.hid rfl
  have HQL : Hid ((quotedAt l at_).1.length ≤ 40000) := Lib.hid (by omega)
  clear h hql hm
  generalize publicAt l at_ = res at *
  generalize quotedAt l at_ = q at *
  obtain ⟨s, k, f⟩ := q
  simp only at HS HQL
  unfold outV at HQ
  by_cases hf : f = 0
  · subst hf
    cases hp : allOut isPub s with
    | true =>
      have HE : Hid (res = (s, k, 0)) := Lib.hid (by rw [HS.out, if_neg (by simp), if_pos hp])
      have HP := Lib.hid hp
      clear hp
      go_enter Tryd.func18, Tryd.ntmps18
      go_wp2_with fail
      refine HQ.out.mono ?_
      rintro e w1 ⟨rfl, m, hw1⟩
      have B1 : Hid (Below w.heap.size w w1) := Lib.hid (by rw [hw1]; exact below_drewN' (Below.refl _ _))
      clear hw1
      obtain ⟨c, w2, hcv, hb2, hs2, hby⟩ := toBytes w1 s (by have := HQL.out; omega)
      have C2 := Lib.hid (refAll_c _ _ _ s w2 (hby.more (by omega)) (by have := HQL.out; omega))
      rw [HP.out] at C2
      have B2 : Hid (Below w.heap.size w w2) := Lib.hid (B1.out.trans (hb2.mono B1.out.size))
      clear hb2 hs2 hby
      go_wp2_with fail
      refine C2.out.mono ?_
      rintro e w3 ⟨rfl, hb⟩
      have B3 : Hid (Below w.heap.size w w3) := Lib.hid (B2.out.trans (hb.mono B2.out.size))
      clear hb hcv
      go_wp2
      go_ret3
      rw [HE.out]
      exact ⟨rfl, B3.out⟩
    | false =>
      have HE : Hid (res = ([], 0, 7)) := Lib.hid (by rw [HS.out, if_neg (by simp), if_neg (by rw [hp]; decide)])
      have HP := Lib.hid hp
      clear hp
      go_enter Tryd.func18, Tryd.ntmps18
      go_wp2_with fail
      refine HQ.out.mono ?_
      rintro e w1 ⟨rfl, m, hw1⟩
      have B1 : Hid (Below w.heap.size w w1) := Lib.hid (by rw [hw1]; exact below_drewN' (Below.refl _ _))
      clear hw1
      obtain ⟨c, w2, hcv, hb2, hs2, hby⟩ := toBytes w1 s (by have := HQL.out; omega)
      have C2 := Lib.hid (refAll_c _ _ _ s w2 (hby.more (by omega)) (by have := HQL.out; omega))
      rw [HP.out] at C2
      have B2 : Hid (Below w.heap.size w w2) := Lib.hid (B1.out.trans (hb2.mono B1.out.size))
      clear hb2 hs2 hby
      go_wp2_with fail
      refine C2.out.mono ?_
      rintro e w3 ⟨rfl, hb⟩
      have B3 : Hid (Below w.heap.size w w3) := Lib.hid (B2.out.trans (hb.mono B2.out.size))
      clear hb hcv
      go_wp2
      go_ret3
      rw [HE.out]
      exact ⟨rfl, B3.out⟩
  · have HE : Hid (res = ([], 0, f)) := Lib.hid (by rw [HS.out, if_pos hf])
    have hfz : ((f : Int) != 0) = true := by simp; omega
    clear hf
    go_enter Tryd.func18, Tryd.ntmps18
    go_wp2_with fail
    refine HQ.out.mono ?_
    rintro e w1 ⟨rfl, m, hw1⟩
    have B1 : Hid (Below w.heap.size w w1) := Lib.hid (by rw [hw1]; exact below_drewN' (Below.refl _ _))
    clear hw1
    go_wp2
    go_ret3
    rw [HE.out]
    exact ⟨rfl, B1.out⟩
end Go.Proofs.YtljplmidnlahpaaDoor
