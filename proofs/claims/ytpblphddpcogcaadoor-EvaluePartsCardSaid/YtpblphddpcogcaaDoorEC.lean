/- Walks of layer 14: checks, the document's Text, both Puts. -/
import Derived.Test.YtpblphddpcogcaaDoorRows
import Derived.WalkKit
import Derived.ProofKit
import Derived.OpenShut
import Derived.ShutString
import Derived.ChangeOld
import Derived.Below
import Derived.BigQuiet
import Derived.Deep.QuietTactic
import Derived.Lib.Hide
import Derived.Deep.RegionHeld3
import Derived.Lib.SlBytesConst
import Derived.Laws.CopyOwn
import Derived.Laws.CopyRow
import Derived.Lib.Bytes
import Derived.Deep.LoopGhost
import Derived.Deep.DeepFit
import Derived.Deep.DeepMust
import Derived.WalkSpells
import Derived.WalkLawsBesides
import Derived.Laws.EntriesVeiled
import Derived.Laws.Rows
import Derived.RangeFuncNested
import Derived.RangeFuncBound
import Derived.RangeFuncCalls
import Derived.RangeFuncLeaves
import Derived.RangeFuncBox
import Derived.Shelf.Abstract
import Derived.Shelf.RegionOpen
import Derived.OwnWalkIn
import Derived.TacticsInMore
import Derived.LoopNIn
import Derived.LoopIn
import Derived.Maps.AppendAt
import Derived.Test.YtpblphddpcogcaaDoorShelf
import Derived.Test.YtpblphddpcogcaaDoorBase
import Derived.Test.YtpblphddpcogcaaDoorCharPlain
import Derived.Test.YtpblphddpcogcaaDoorStr
import Derived.Test.YtpblphddpcogcaaDoorChars1
import Derived.Test.YtpblphddpcogcaaDoorUtf1
import Derived.Test.YtpblphddpcogcaaDoorUtf2
import Derived.Test.YtpblphddpcogcaaDoorUtf3
import Derived.Test.YtpblphddpcogcaaDoorName1
import Derived.Test.YtpblphddpcogcaaDoorName2
import Derived.Test.YtpblphddpcogcaaDoorName3
import Derived.Test.YtpblphddpcogcaaDoorCref1
import Derived.Test.YtpblphddpcogcaaDoorNum
import Derived.Test.YtpblphddpcogcaaDoorLitP
import Derived.Test.YtpblphddpcogcaaDoorLit2
import Derived.Test.YtpblphddpcogcaaDoorLit3
import Derived.Test.YtpblphddpcogcaaDoorLit5
import Derived.Test.YtpblphddpcogcaaDoorLibB
import Derived.Test.YtpblphddpcogcaaDoorMiscP
import Derived.Test.YtpblphddpcogcaaDoorEA
import Derived.Test.YtpblphddpcogcaaDoorRef1
import Derived.Test.YtpblphddpcogcaaDoorRef3
import Derived.Test.YtpblphddpcogcaaDoorPub
import Derived.Test.YtpblphddpcogcaaDoorRun
import Derived.Test.YtpblphddpcogcaaDoorRunU
import Derived.Test.YtpblphddpcogcaaDoorRunV
import Derived.Test.YtpblphddpcogcaaDoorEsc
import Derived.Test.YtpblphddpcogcaaDoorRefC
import Derived.Test.YtpblphddpcogcaaDoorEscP
import Derived.Test.YtpblphddpcogcaaDoorBuild
import Derived.Test.YtpblphddpcogcaaDoorText
namespace Go.Proofs.YtpblphddpcogcaaDoor
open Go.ChangeShapes Go.WideShapes Go.ChangeAt Go.RowKit
set_option linter.unusedVariables false
structure W14 (w : World) : Prop where
  tabs : Tabs w
  forms : Forms w
  maxl : MaxL w
  lowl : 2 < w.heap.size
theorem W14.below {w w' : World} (h : W14 w) (hb : Below w.heap.size w w') : W14 w' := ⟨h.tabs.below hb (h.tabs.low h.forms), h.forms.below hb h.forms.lt, h.maxl.below hb h.lowl, Nat.lt_of_lt_of_le h.lowl hb.size⟩
set_option maxRecDepth 100000 in
set_option maxHeartbeats 4000000 in
theorem evCheck_c (s : List UInt8) (w : World) (hW : W14 w) (hm : s.length ≤ 40000) :
    Calls Tryd.prog 44 #[.string ⟨s.toArray⟩] w fun e w' => e = .returned (.int .i64 (checkV s)) ∧ Below w.heap.size w w' := by
  have C1 : Hid (∀ W, Calls Tryd.prog 48 #[.string ⟨s.toArray⟩, .string ⟨#[37]⟩] W fun e w' => e = .returned (.bool (decide (0 ≤ Lib.indexByte s 37))) ∧ w' = W) := Lib.hid fun W => Tryd.strings_Contains_one ⟨s.toArray⟩ 37 W
  have C2 := Lib.hid (refs_c s w hW.tabs hW.forms hm)
  unfold checkV
  clear hW hm
  by_cases h : 0 ≤ Lib.indexByte s 37
  · rw [decide_eq_true h] at C1
    rw [if_pos h]
    clear h
    go_enter Tryd.func44, Tryd.ntmps44
    go_wp2_with fail
    refine (C1.out _).mono ?_
    rintro e w1 ⟨rfl, rfl⟩
    go_wp2
    go_ret
    exact ⟨rfl, Below.refl _ _⟩
  · rw [decide_eq_false h] at C1
    rw [if_neg h]
    clear h
    generalize refsOut s = o at *
    obtain ⟨i, x⟩ := o
    go_enter Tryd.func44, Tryd.ntmps44
    go_wp2_with fail
    refine (C1.out _).mono ?_
    rintro e w1 ⟨rfl, rfl⟩
    go_wp2_with fail
    refine (C2.out).mono ?_
    rintro e w2 ⟨rfl, hb⟩
    have B2 := Lib.hid hb
    clear hb
    go_wp2
    go_ret
    exact ⟨rfl, B2.out⟩
set_option maxRecDepth 100000 in
set_option maxHeartbeats 4000000 in
theorem refCheck14_c (s : List UInt8) (w : World) (hm : s.length ≤ 40000) :
    Calls Tryd.prog 22 #[.string ⟨s.toArray⟩] w fun e w' => e = .returned (.int .i64 (checkV s)) ∧ Below w.heap.size w w' := by
  have C1 : Hid (∀ W, Calls Tryd.prog 21 #[.string ⟨s.toArray⟩, .int .u8 37] W fun e w' => e = .returned (.bool (decide (0 ≤ Lib.indexByte s 37))) ∧ W = w') := Lib.hid fun W => has_c s 37 W (by omega)
  have C2 := Lib.hid (refRefs_c s w hm)
  unfold checkV
  clear hm
  by_cases h : 0 ≤ Lib.indexByte s 37
  · rw [decide_eq_true h] at C1
    rw [if_pos h]
    clear h
    go_enter Tryd.func22, Tryd.ntmps22
    go_wp2_with fail
    refine (C1.out _).mono ?_
    rintro e w1 ⟨rfl, rfl⟩
    go_wp2
    go_ret
    exact ⟨rfl, Below.refl _ _⟩
  · rw [decide_eq_false h] at C1
    rw [if_neg h]
    clear h
    generalize refsOut s = o at *
    obtain ⟨i, x⟩ := o
    go_enter Tryd.func22, Tryd.ntmps22
    go_wp2_with fail
    refine (C1.out _).mono ?_
    rintro e w1 ⟨rfl, rfl⟩
    go_wp2_with fail
    refine (C2.out).mono ?_
    rintro e w2 ⟨rfl, hb⟩
    have B2 := Lib.hid hb
    clear hb
    go_wp2
    go_ret
    exact ⟨rfl, B2.out⟩
set_option maxRecDepth 100000 in
set_option maxHeartbeats 4000000 in
theorem stays_c (s : List UInt8) (w : World) (hW : W14 w) (hm : s.length ≤ 40000) :
    Calls Tryd.prog 23 #[.string ⟨s.toArray⟩] w fun e w' => e = .returned (.bool (decide (checkV s = 0) && !Lib.contains s [38, 35])) ∧ Below w.heap.size w w' := by
  have C1 := Lib.hid (evCheck_c s w hW hm)
  have C2 : Hid (∀ W, Below w.heap.size w W → Calls Tryd.prog 48 #[.string ⟨s.toArray⟩, .string ⟨#[38, 35]⟩] W fun e w' => e = .returned (.bool (Lib.contains s [38, 35])) ∧ W = w') := Lib.hid fun W hb => contains_c s [38, 35] W (hW.below hb).maxl (by omega)
  clear hW hm
  generalize checkV s = k at *
  generalize Lib.contains s [38, 35] = cb at *
  by_cases h : k = 0
  · subst h
    go_enter Tryd.func23, Tryd.ntmps23
    go_wp2_with fail
    refine (C1.out).mono ?_
    rintro e w1 ⟨rfl, hb⟩
    have B1 := Lib.hid hb
    clear hb
    go_wp2_with fail
    refine (C2.out _ B1.out).mono ?_
    rintro e w2 ⟨rfl, rfl⟩
    go_wp2
    go_ret
    exact ⟨by simp, B1.out⟩
  · have hk : ((k : Int) == 0) = false := by simp; omega
    have HD : Hid (decide (k = 0) = false) := Lib.hid (by simpa using h)
    clear h
    go_enter Tryd.func23, Tryd.ntmps23
    go_wp2_with fail
    refine (C1.out).mono ?_
    rintro e w1 ⟨rfl, hb⟩
    have B1 := Lib.hid hb
    clear hb
    go_wp2
    go_ret
    simp only [HD.out]
    exact ⟨by simp, B1.out⟩
theorem cls_doc (r : Int) : (clsN r / 2 ^ 0) % 2 = oneB (isDoc r) := by
  have l1 := oneB_le (isDoc r)
  unfold clsN
  omega
set_option maxRecDepth 100000 in
set_option maxHeartbeats 4000000 in
theorem refAllD_c (A : Option Addr) (n cap : Nat) (l : List UInt8) (w : World) (h : Byt w w.heap.size A n cap l) (hm : n ≤ 50000) :
    Calls Tryd.prog 42 #[.slice A n cap, .int .i64 0] w fun e w' => e = .returned (.bool (allOut isDoc l)) ∧ Below w.heap.size w w' := by
  have HR := Lib.hid (refRunes_c A n cap l w h hm)
  have hrl := runesL_le l.length l
  rw [h.length] at hrl
  have HIS : Hid (∀ (r : Nat) (w1 : World), r ≤ 1114111 → Calls Tryd.prog 66 #[.int .i64 0, .int .i64 (r : Int)] w1 fun e w' => e = .returned (.bool (isDoc (r : Int))) ∧ w1 = w') := Lib.hid fun r w1 hr => (refIs_c 0 (by omega) (r : Int) w1 (by omega) (by omega)).mono fun e w' ⟨he, hw⟩ => ⟨by
    rw [he, cls_doc]
    cases isDoc (r : Int) <;> rfl, hw⟩
  have HRL : Hid ((∀ r ∈ (runesOut l).1, r ≤ 1114111) ∧ (runesOut l).1.length ≤ n) := Lib.hid (by unfold runesOut; rw [← h.length] at *; exact hrl)
  have HA : Hid (allOut isDoc l = ((runesOut l).2 && (runesOut l).1.all fun r => isDoc (r : Int))) := Lib.hid rfl
  clear h hrl
  generalize allOut isDoc l = res at *
  unfold RunesP at HR
  generalize runesOut l = ro at *
  obtain ⟨rs, ok⟩ := ro
  simp only at HR HRL HA
  go_enter Tryd.func42, Tryd.ntmps42
  go_wp2_with fail
  refine HR.out.mono ?_
  rintro e w1 ⟨hb, ⟨hok, A', c', rfl, hrd⟩ | ⟨hok, z, hz, rfl⟩⟩
  · have B1 := Lib.hid hb
    have HOK := Lib.hid hok
    have HRD := Lib.hid hrd
    clear hb hok hrd
    go_wp2
    go_loopg [7] (rs.length) (fun g i wr => ∃ t : Nat, t ≤ rs.length ∧ Hid (g + t = rs.length) ∧ i = .int .i64 (t : Int) ∧ w1 = wr ∧ Hid ((rs.take t).all (fun r => isDoc (r : Int)) = true))
    case atStart => exact ⟨0, Nat.zero_le _, Lib.hid rfl, rfl, rfl, Lib.hid rfl⟩
    case round =>
      obtain ⟨t, ht, hg, rfl, rfl, HN⟩ := hrel
      have ht0 : (0 : Int) ≤ (t : Int) := by omega
      have htb : (t : Int) ≤ 50000 := by have := HRL.out.2; omega
      by_cases htn : t < rs.length
      · have htni : (t : Int) < (rs.length : Int) := by omega
        have hrt : rs[t]? = some (rs.getD t 0) := by rw [List.getElem?_eq_getElem htn]; simp [htn]
        obtain ⟨b, o, e, hbb, hcl⟩ := HRD.out.at_ (by have := HRD.out.le; omega)
        subst e
        have hcell := hcl t (iv (rs.getD t 0)) (by rw [List.getElem?_map, hrt]; rfl)
        have HAT := Lib.hid (all_take isDoc rs t _ hrt)
        have HMEM := Lib.hid (HRL.out.1 _ (List.mem_of_getElem? hrt))
        have HAL : Hid (isDoc (rs.getD t 0 : Int) = false → (rs.all fun r => isDoc (r : Int)) = false) := Lib.hid (fun h => by
          rw [List.all_eq_false]
          exact ⟨_, List.mem_of_getElem? hrt, by rw [h]; simp⟩)
        unfold iv at hcell
        clear hcl hrt hbb
        generalize rs.getD t 0 = r at *
        have HII := Lib.hid (HIS.out r w1 HMEM.out)
        cases hp : isDoc (r : Int) with
        | true =>
          have HN2 : Hid ((rs.take (t + 1)).all (fun r => isDoc (r : Int)) = true) := Lib.hid (by rw [HAT.out, HN.out, hp]; rfl)
          rw [hp] at HII
          clear hp
          go_wp2_with fail
          refine HII.out.mono ?_
          rintro e w2 ⟨rfl, rfl⟩
          go_wp2
          go_roundg (rs.length - (t + 1))
          case measure => have := hg.out; omega
          case rel => exact ⟨t + 1, by omega, Lib.hid (by omega), by go_num, rfl, HN2⟩
        | false =>
          have HE : Hid (res = false) := Lib.hid (by rw [HA.out, HAL.out hp]; simp)
          rw [hp] at HII
          clear hp
          go_wp2_with fail
          refine HII.out.mono ?_
          rintro e w2 ⟨rfl, rfl⟩
          go_wp2
          go_ret
          rw [HE.out]
          exact ⟨rfl, B1.out⟩
      · have htni : ¬ (t : Int) < (rs.length : Int) := by omega
        have HE : Hid (res = true) := Lib.hid (by
          have := HN.out
          rw [List.take_of_length_le (by omega)] at this
          rw [HA.out, HOK.out, this]; rfl)
        go_wp2
        go_ret
        rw [HE.out]
        exact ⟨rfl, B1.out⟩
  · have B1 := Lib.hid hb
    have HE : Hid (res = false) := Lib.hid (by rw [HA.out, hok]; rfl)
    have hd : decide (0 ≤ z) = true := by simpa using hz
    clear hb hok hz
    go_wp2
    go_ret
    rw [HE.out]
    exact ⟨rfl, B1.out⟩
set_option maxRecDepth 100000 in
set_option maxHeartbeats 4000000 in
theorem charsAllD_c (A : Option Addr) (n cap : Nat) (l : List UInt8) (w : World) (h : Byt w w.heap.size A n cap l) (hF : Forms w) (hT : Tabs w) (hm : n ≤ 50000) :
    Calls Tryd.prog 36 #[.slice A n cap, .func (.func 37) #[] #[]] w fun e w' => e = .returned (.bool (allOut isDoc l)) ∧ Below w.heap.size w w' := by
  have HR := Lib.hid (utfRunes_c A n cap l w h hF hm)
  have hrl := runesL_le l.length l
  rw [h.length] at hrl
  have HRL : Hid ((runesOut l).1.length ≤ n) := Lib.hid (by unfold runesOut; rw [← h.length] at *; exact hrl.2)
  have HA : Hid (allOut isDoc l = ((runesOut l).2 && (runesOut l).1.all fun r => isDoc (r : Int))) := Lib.hid rfl
  have hnil : ∀ w : World, (binOp .eql 71 (.func (.func 37) #[] #[]) .nilFunc).run Tryd.prog w = .ok (.bool false) w := fun w => by kernel_rfl
  have ec : ∀ args w, (callFunc 37 args).run Tryd.prog w = .ok (.enter 37 args) w := enters_of Tryd.func37 (by kernel_rfl) rfl
  have HT := Lib.hid hT
  have HTL := Lib.hid (hT.low hF)
  clear h hrl hF hT
  generalize allOut isDoc l = res at *
  unfold RunesP at HR
  generalize runesOut l = ro at *
  obtain ⟨rs, ok⟩ := ro
  simp only at HR HRL HA
  go_enter Tryd.func36, Tryd.ntmps36
  go_wp2_with fail
  refine HR.out.mono ?_
  rintro e w1 ⟨hb, ⟨hok, A', c', rfl, hrd⟩ | ⟨hok, z, hz, rfl⟩⟩
  · have B1 := Lib.hid hb
    have HOK := Lib.hid hok
    have HRD := Lib.hid hrd
    clear hb hok hrd
    go_wp2
    go_loopg [22] (rs.length) (fun g i wr => ∃ t : Nat, t ≤ rs.length ∧ Hid (g + t = rs.length) ∧ i = .int .i64 (t : Int) ∧ Hid (Below w1.heap.size w1 wr) ∧ Hid ((rs.take t).all (fun r => isDoc (r : Int)) = true))
    case atStart => exact ⟨0, Nat.zero_le _, Lib.hid rfl, rfl, Lib.hid (Below.refl _ _), Lib.hid rfl⟩
    case round =>
      obtain ⟨t, ht, hg, rfl, HBW, HN⟩ := hrel
      have HBA := Lib.hid (B1.out.trans (HBW.out.mono B1.out.size))
      have ht0 : (0 : Int) ≤ (t : Int) := by omega
      have htb : (t : Int) ≤ 50000 := by have := HRL.out; omega
      by_cases htn : t < rs.length
      · have htni : (t : Int) < (rs.length : Int) := by omega
        have hrt : rs[t]? = some (rs.getD t 0) := by rw [List.getElem?_eq_getElem htn]; simp [htn]
        obtain ⟨b, o, e, hbb, hcl⟩ := (HRD.out.below HBW.out).at_ (by have := HRD.out.le; omega)
        subst e
        have hcell := hcl t (iv (rs.getD t 0)) (by rw [List.getElem?_map, hrt]; rfl)
        have HAT := Lib.hid (all_take isDoc rs t _ hrt)
        have HAL : Hid (isDoc (rs.getD t 0 : Int) = false → (rs.all fun r => isDoc (r : Int)) = false) := Lib.hid (fun h => by
          rw [List.all_eq_false]
          exact ⟨_, List.mem_of_getElem? hrt, by rw [h]; simp⟩)
        unfold iv at hcell
        clear hcl hrt hbb
        generalize rs.getD t 0 = r at *
        have HII := Lib.hid (char_c (r : Int) wr (HT.out.below HBA.out HTL.out))
        cases hp : isDoc (r : Int) with
        | true =>
          have HN2 : Hid ((rs.take (t + 1)).all (fun r => isDoc (r : Int)) = true) := Lib.hid (by rw [HAT.out, HN.out, hp]; rfl)
          rw [hp] at HII
          clear hp
          go_wp2_with fail
          refine HII.out.mono ?_
          rintro e w2 ⟨rfl, hb2⟩
          have HBW2 := Lib.hid (HBW.out.trans (hb2.mono HBW.out.size))
          clear hb2
          go_wp2
          go_roundg (rs.length - (t + 1))
          case measure => have := hg.out; omega
          case rel => exact ⟨t + 1, by omega, Lib.hid (by omega), by go_num, HBW2, HN2⟩
        | false =>
          have HE : Hid (res = false) := Lib.hid (by rw [HA.out, HAL.out hp]; simp)
          rw [hp] at HII
          clear hp
          go_wp2_with fail
          refine HII.out.mono ?_
          rintro e w2 ⟨rfl, hb2⟩
          have HBE := Lib.hid (HBA.out.trans (hb2.mono HBA.out.size))
          clear hb2
          go_wp2
          go_ret
          rw [HE.out]
          exact ⟨rfl, HBE.out⟩
      · have htni : ¬ (t : Int) < (rs.length : Int) := by omega
        have HE : Hid (res = true) := Lib.hid (by
          have := HN.out
          rw [List.take_of_length_le (by omega)] at this
          rw [HA.out, HOK.out, this]; rfl)
        go_wp2
        go_ret
        rw [HE.out]
        exact ⟨rfl, HBA.out⟩
  · have B1 := Lib.hid hb
    have HE : Hid (res = false) := Lib.hid (by rw [HA.out, hok]; rfl)
    subst hz
    clear hb hok
    go_wp2
    go_ret
    rw [HE.out]
    exact ⟨rfl, B1.out⟩
attribute [local go_sem] Oper.semAt_some
def ChkI (S : Nat) (w : World) (bx : Value) (pre : List (Int × Int)) (W : World) : Prop :=
  (Boxed W S 3 (.int .i64 0) ∧ (Boxed W (S + 1) 27 (.int .i64 0) ∧ Boxed W (S + 1 + 1) 22 bx)) ∧ ((∀ x ∈ pre, x.2 = 0) ∧ Below S w W)
def ChkX (S : Nat) (w : World) (c : Code) (pre : List (Int × Int)) (W : World) : Prop :=
  ∃ x : Int × Int, (((Boxed W S 3 (.int .i64 x.1) ∧ Boxed W (S + 1) 27 (.int .i64 x.2)) ∧ (c = .ret ∧ x ∈ pre ∧ x.2 ≠ 0)) ∧ Below S w W)
theorem chkI_own (S B : Nat) (w : World) (bx : Value) (hS : S ≤ w.heap.size) (hB : S ≤ B) : OwnFrom B (ChkI S w bx) :=
  OwnFrom.and (OwnFrom.and (Own.from (boxed_own S 3 (fun _ : List (Int × Int) => .int .i64 0)) _)
    (OwnFrom.and (Own.from (boxed_own (S + 1) 27 (fun _ => .int .i64 0)) _) (Own.from (boxed_own (S + 1 + 1) 22 (fun _ => bx)) _))) (OwnFrom.and (ownFrom_pure _ fun pre : List (Int × Int) => ∀ x ∈ pre, x.2 = 0) (ownFrom_below hS hB))
theorem chkX_own (S B : Nat) (w : World) (hS : S ≤ w.heap.size) (hB : S ≤ B) (c : Code) : OwnFrom B (ChkX S w c) := by
  rintro s W W' row ⟨x, hx⟩ hg hr
  exact ⟨x, (OwnFrom.and (OwnFrom.and (OwnFrom.and (Own.from (boxed_own S 3 (fun _ : List (Int × Int) => .int .i64 x.1)) _) (Own.from (boxed_own (S + 1) 27 (fun _ => .int .i64 x.2)) _)) (ownFrom_pure _ fun pre : List (Int × Int) => c = .ret ∧ x ∈ pre ∧ x.2 ≠ 0)) (ownFrom_below hS hB)) s W W' row hx hg hr⟩
set_option maxRecDepth 100000 in
set_option maxHeartbeats 4000000 in
theorem utfCheck_c (A : Option Addr) (n cap : Nat) (l : List UInt8) (w : World) (h : Byt w w.heap.size A n cap l) (hF : Forms w) (hm : n ≤ 50000) :
    Calls Tryd.prog 35 #[.slice A n cap] w fun e w' => (∃ k : Int, e = .returned (.tuple #[.int .i64 k, .int .i64 (if (runesOut l).2 = true then 0 else 5)])) ∧ Below w.heap.size w w' := by
  have hln := h.length
  have HIN := Lib.hid (And.intro h (And.intro hF hln))
  have hlen : (itemsL l.length l 0).length ≤ n + 1 := by have := items_len l; omega
  have HLEN := Lib.hid hlen
  have hS := Lib.hid hF.lt
  clear h hF hlen hln
  obtain ⟨R, hR⟩ : ∃ R : Int, (if (runesOut l).2 = true then (0:Int) else 5) = R := ⟨_, rfl⟩
  rw [hR]
  have HR := Lib.hid hR
  clear hR
  refine (callsIn_wide (n := 5)).1 ?_
  refine callsIn_of_wp_marks Tryd.func35 rfl trivial ?_ rfl
  simp only [Tryd.ntmps35, List.size_toArray, List.length_cons, List.length_nil, Nat.reduceAdd, Nat.reduceSub, Array.replicate_succ, Array.replicate_zero, List.push_toArray, List.append_toArray, List.nil_append, List.cons_append]
  gi_wp2_with (first | (refine ⟨trivial, ?_⟩; gi_at_call 60; refine (callsIn_wide.2 (utfAll_c A n cap _)).mono ?_; rintro e w' ⟨rfl, rfl⟩) | (gi_at_call 60; refine (callsIn_wide.2 (utfAll_c A n cap _)).mono ?_; rintro e w' ⟨rfl, rfl⟩))
  have b2 := Boxed.new w 3 (.int .i64 0)
  have b3 := Boxed.new (w.alloc (.cells #[.int .i64 0] 3)) 27 (.int .i64 0)
  have bb := Boxed.new ((w.alloc (.cells #[.int .i64 0] 3)).alloc (.cells #[.int .i64 0] 27)) 22 (.slice A n cap)
  simp only [World.size_alloc] at b3 bb
  have b2' := (b2.alloc (.cells #[.int .i64 0] 27)).alloc (.cells #[.slice A n cap] 22)
  have b3' := b3.alloc (.cells #[.slice A n cap] 22)
  have hB0 : Below w.heap.size w (((w.alloc (.cells #[.int .i64 0] 3)).alloc (.cells #[.int .i64 0] 27)).alloc (.cells #[.slice A n cap] 22)) := (((Below.refl _ w).alloc (Nat.le_refl _) _).alloc (by simp) _).alloc (by simp; omega) _
  have hsz : (((w.alloc (.cells #[.int .i64 0] 3)).alloc (.cells #[.int .i64 0] 27)).alloc (.cells #[.slice A n cap] 22)).heap.size = w.heap.size + 3 := by simp
  clear b2 b3
  generalize hS0 : w.heap.size = S at *
  generalize hW0 : (((w.alloc (.cells #[.int .i64 0] 3)).alloc (.cells #[.int .i64 0] 27)).alloc (.cells #[.slice A n cap] 22)) = W0 at *
  have HSEQ : SeqStopsK Fence.wide (5 - 1) Tryd.prog 85 #[.pointer (some ⟨S + 1 + 1, 0, none⟩)] encI (KpB S (S + 1 + 1)) (fun ys => ys = itemsL l.length l 0) (fun pre => pre <+: itemsL l.length l 0) (n + 1) W0 := fun lr J Jx W hW hJ hJx hY h0 =>
    utfAll1_in 4 (by omega) lr (S + 1 + 1) S A n cap l J Jx W hJ hY hm ((hW.cell (p := ⟨S + 1 + 1, 0, none⟩) (by show S + 1 + 1 < W0.heap.size; omega)).trans bb.cell) ((HIN.out.1.below hB0).below (hW.mono (by omega))) ((HIN.out.2.1.below hB0 hS.out).below (hW.mono (show S ≤ W0.heap.size by omega)) hS.out) hS.out h0
  refine wpIn_rangeFunc_ownG rfl (by omega) (gf := 85) (lb := #[.pointer (some ⟨S + 1 + 1, 0, none⟩)]) rfl trivial (enters_of Tryd.func85 (by kernel_rfl) rfl) HSEQ KpB.trans
    (fun W l o o' hl ho _ _ => kpB_b (D := W0.heap.size) (by omega) (by omega) W l o o' hl ho) (Below.refl _ _) (fun _ => rfl)
    (ChkI S w (.slice A n cap)) (ChkX S w) (chkI_own S W0.heap.size w _ (by omega) (by omega)) (chkX_own S W0.heap.size w (by omega) (by omega))
    ⟨⟨b2', b3', bb⟩, by simp, hB0⟩
    (fun x => { tmps := #[.slice A n cap, undef, .pointer (some ⟨S, 0, none⟩), .pointer (some ⟨S + 1, 0, none⟩), .int .i64 x.1, .int .i64 x.2, .slice A n cap, .func (.func 85) #[] #[.pointer (some ⟨S + 1 + 1, 0, none⟩)], .int .i64 x.1, .int .i64 x.2, undef, undef, undef, undef, undef, undef], defers := [] }) ?assign ?body ?done ?stop
  case assign =>
    intro lr x W K hK
    unfold encI
    gi_wp2
    exact hK
  case body =>
    rintro lr pre ⟨x1, x2⟩ W ⟨⟨hv2, hv3, hvb⟩, hz, hB⟩ hlt
    simp only
    have hBs := hB.size
    rw [hS0] at hBs
    by_cases hx : x2 = 0
    · subst hx
      have HKEEP := Lib.hid (And.intro hv2 (And.intro hv3 (And.intro hvb (And.intro hz hB))))
      clear hv2 hv3 hvb hz hB
      gi_wp2
      refine ⟨(KeepsOthers.refl _).from _, ⟨Below.refl _ _, rfl⟩, ⟨HKEEP.out.1, HKEEP.out.2.1, HKEEP.out.2.2.1⟩, ?_, HKEEP.out.2.2.2.2⟩
      intro y hy
      rcases List.mem_append.1 hy with hy | hy
      · exact HKEEP.out.2.2.2.1 y hy
      · rw [List.mem_singleton.1 hy]
    · have hxz : (x2 != 0) = true := by simpa using hx
      have c2 := hv2.cell
      have f2 := hv2.frozen
      have c3 := hv3.cell
      have f3 := hv3.frozen
      have HX := Lib.hid hx
      have HKEEP := Lib.hid (And.intro hv2 (And.intro hv3 hB))
      clear hx hv2 hv3 hvb hz hB
      gi_wp2
      refine ⟨((KeepsOthers.setCell _ _ _).trans (KeepsOthers.setCell _ _ _)).from _, (x1, x2), ⟨⟨(HKEEP.out.1.set _).other (by omega) _, (HKEEP.out.2.1.other (by omega) _).set _⟩, rfl, by simp, HX.out⟩, ?_⟩
      exact (HKEEP.out.2.2.setCell (p := ⟨S, 0, none⟩) (by rw [← hS0]; exact Nat.le_refl _) _).setCell (p := ⟨S + 1, 0, none⟩) (by show S ≤ S + 1; omega) _
  case done =>
    rintro D ys W hD rfl ⟨⟨hv2, hv3, hvb⟩, hz, hB⟩ hK
    obtain ⟨hok, hln, hmp⟩ := items_fst l hz
    have c2 := hv2.cell
    have f2 := hv2.frozen
    have c3 := hv3.cell
    have f3 := hv3.frozen
    have HALL := Lib.hid (And.intro hv2 (And.intro hv3 (And.intro hB (And.intro hok (And.intro hD hK)))))
    clear hv2 hv3 hvb hz hB hok hln hmp hD hK
    gi_wp2
    obtain ⟨hv2, hv3, hB, hok, hD, hK⟩ := HALL.out
    have hK' := ((KeepsOthers.setCell W ⟨S, 0, none⟩ (.int .i64 (n : Int))).trans (KeepsOthers.setCell _ ⟨S + 1, 0, none⟩ (.int .i64 0))).same D _ hK rfl
    have hD2 : S + 3 ≤ D := by omega
    refine ⟨by simp, .inl ⟨_, _, rfl, run_takeDeferred hK', ?_⟩⟩
    have e2 := ((hv2.set (.int .i64 (n : Int))).other (B' := S + 1) (by omega) (.int .i64 0)).kept (grownBy_putObj' _ D (.deferred none)) (by intro e; cases e; omega)
    have e3 := ((hv3.other (B' := S) (by omega) (.int .i64 (n : Int))).set (.int .i64 0)).kept (grownBy_putObj' _ D (.deferred none)) (by intro e; cases e; omega)
    have hB3 := ((hB.setCell (p := ⟨S, 0, none⟩) (Nat.le_refl _) (.int .i64 (n : Int))).setCell (p := ⟨S + 1, 0, none⟩) (by show S ≤ S + 1; omega) (.int .i64 0)).trans (kpB_b (Bn := S) (D := W0.heap.size) (by omega) (by omega) _ D _ (.deferred none) hD hK').1
    have c5 := e2.cell
    have c6 := e3.cell
    refine ⟨.tuple #[.int .i64 (n : Int), .int .i64 0], ?_, ⟨⟨_, by rw [show R = 0 by rw [← HR.out, hok]; rfl]⟩, (congrArg (fun n => Below n w _) hS0).mpr hB3⟩⟩
    simp [results, Tryd.f35, go_sem, c5, c6]
  case stop =>
    rintro D c pre W hD hpre ⟨x, ⟨⟨hv2, hv3⟩, rfl, hin, hne⟩, hB⟩ hK
    obtain ⟨hok, h5⟩ := items_bad l pre hpre x hin hne
    have HALL := Lib.hid (And.intro hv2 (And.intro hv3 (And.intro hB (And.intro hok (And.intro h5 (And.intro hD hK))))))
    clear hv2 hv3 hB hok h5 hin hne hpre hD hK
    gi_wp2
    obtain ⟨hv2, hv3, hB, hok, h5, hD, hK⟩ := HALL.out
    have hD2 : S + 3 ≤ D := by omega
    refine ⟨by simp, .inl ⟨_, _, rfl, run_takeDeferred hK, ?_⟩⟩
    have e2 := hv2.kept (grownBy_putObj' _ D (.deferred none)) (by intro e; cases e; omega)
    have e3 := hv3.kept (grownBy_putObj' _ D (.deferred none)) (by intro e; cases e; omega)
    have hB3 := hB.trans (kpB_b (Bn := S) (D := W0.heap.size) (by omega) (by omega) _ D _ (.deferred none) hD hK).1
    have c5 := e2.cell
    have c6 := e3.cell
    refine ⟨.tuple #[.int .i64 x.1, .int .i64 x.2], ?_, ⟨⟨_, by rw [show R = x.2 by rw [← HR.out, hok, h5]; rfl]⟩, (congrArg (fun n => Below n w _) hS0).mpr hB3⟩⟩
    simp [results, Tryd.f35, go_sem, c5, c6]
theorem bv_one (l : List UInt8) : ∀ u ∈ l.map bv, u.oneCell' = true := by
  intro u hu
  obtain ⟨c, _, rfl⟩ := List.mem_map.1 hu
  rfl
/-- What is read as a reference to a character ends within the bytes. -/
theorem charOut_le (l : List UInt8) (k : Nat) : (charOut l k).2.1 ≤ l.length := by
  by_cases h : (charOut l k).2.2 = 0
  · exact (charOut_next l k h).2
  · have e : (charOut l k).2.1 = 0 := by
      revert h
      unfold charOut charBody
      dsimp only
      split <;> (try split) <;> (try split) <;> (try split) <;> simp
    omega
theorem charOut_doc (l : List UInt8) (k : Nat) (h : (charOut l k).2.2 = 0) : isDoc (charOut l k).1 = true := by
  revert h
  unfold charOut charBody
  dsimp only
  split <;> (try split) <;> (try split) <;> (try split) <;> (first | (intro _; assumption) | simp)
/-- One step of the text where a reference begins. -/
theorem txt_step_ok (s : List UInt8) (k : Nat) (h : (charOut s k).2.2 = 0) : txtL s.length (s.drop k) = (encL (charOut s k).1.toNat ++ (txtL s.length (s.drop (charOut s k).2.1)).1, (txtL s.length (s.drop (charOut s k).2.1)).2 + 1) := by
  have h0 := h
  rw [charOut_drop] at h0 ⊢
  simp only at h0 ⊢
  rw [if_pos h0, txt_ok h0 s.length (by rw [List.length_drop]; omega), List.drop_drop]
/-- One step of the text where none begins. -/
theorem txt_step_no (s : List UInt8) (k : Nat) (hk : k < s.length) (h : (charOut s k).2.2 ≠ 0) : txtL s.length (s.drop k) = (s.getD k 0 :: (txtL s.length (s.drop (k + 1))).1, (txtL s.length (s.drop (k + 1))).2) := by
  have h0 := h
  rw [charOut_drop] at h0
  simp only at h0
  have e : s.drop k = s.getD k 0 :: s.drop (k + 1) := by rw [List.drop_eq_getElem_cons hk]; simp [hk]
  rw [e] at h0 ⊢
  exact txt_no h0 s.length (by rw [List.length_drop]; omega)
set_option maxRecDepth 100000 in
set_option maxHeartbeats 8000000 in
theorem refText14_c (s : List UInt8) (w : World) (hm : s.length ≤ 40000) :
    Calls Tryd.prog 24 #[.string ⟨s.toArray⟩] w fun e w' => e = .returned (.tuple #[.string ⟨(txtOut s).1.toArray⟩, .int .i64 ((txtOut s).2 : Nat)]) ∧ Below w.heap.size w w' := by
  obtain ⟨i0, hi, hz0, hz1, hz2⟩ := info_u8
  obtain ⟨cp, w1, hcv, hb1, hs1, hby⟩ := toBytes w s (by omega)
  have HBY := Lib.hid (And.intro hby (And.intro hb1 hs1))
  have HT0 : Hid (txtOut s = ([] ++ (txtL s.length (s.drop 0)).1, 0 + (txtL s.length (s.drop 0)).2)) := Lib.hid (by simp [txtOut])
  clear hby hb1
  go_enter Tryd.func24, Tryd.ntmps24
  go_wp2
  go_loopg [5, 6, 7] (s.length) (fun g v c i wr => ∃ (k q : Nat) (acc : List UInt8), k ≤ s.length ∧ Hid (g + k = s.length) ∧ c = .int .i64 (q : Int) ∧ i = .int .i64 (k : Int) ∧ q ≤ k ∧ acc.length ≤ 4 * k ∧ Hid (wr.ownsRow w1.heap.size 5 1 v acc.length (acc.map bv)) ∧ Hid (Below w1.heap.size w1 wr) ∧ Hid (txtOut s = (acc ++ (txtL s.length (s.drop k)).1, q + (txtL s.length (s.drop k)).2)))
  case atStart => exact ⟨0, 0, [], Nat.zero_le _, Lib.hid rfl, rfl, rfl, Nat.le_refl _, Nat.le_refl _, Lib.hid (World.ownsRow_nil _ _ _ _), Lib.hid (Below.refl _ _), HT0⟩
  case round =>
    obtain ⟨k, q, acc, hk, hg, rfl, rfl, hq, hal, HO, BR, HT⟩ := hrel
    have hk0 : (0 : Int) ≤ (k : Int) := by omega
    have hk1 : (k : Int) ≤ 40000 := by omega
    have hq0 : (0 : Int) ≤ (q : Int) := by omega
    have hq1 : (q : Int) ≤ 40000 := by omega
    by_cases hkn : k < s.length
    · have hkni : (k : Int) < (s.length : Int) := by omega
      have hbr : Byt wr (w.heap.size + 1) (some ⟨w.heap.size, 0, none⟩) s.length cp s := HBY.out.1.below (BR.out.mono (by have := HBY.out.2.2; omega))
      have CC : Hid (Calls Tryd.prog 49 #[.slice (some ⟨w.heap.size, 0, none⟩) s.length cp, .int .i64 (k : Int)] wr fun e w' => e = .returned (numV (charOut s k)) ∧ wr = w') := Lib.hid (by
        have := refCharR_c _ _ _ s (k : Int) wr _ hbr (by omega)
        rwa [charAt_in s k hk] at this)
      have HSZ : Hid (w1.heap.size ≤ wr.heap.size) := Lib.hid BR.out.size
      by_cases h0 : (charOut s k).2.2 = 0
      · have hd := (isDoc_iff _).1 (charOut_doc s k h0)
        have hn := charOut_next s k h0
        have HS := Lib.hid (txt_step_ok s k h0)
        generalize charOut s k = co at *
        obtain ⟨c1, c2, c3⟩ := co
        dsimp only at h0 hd hn HS
        subst h0
        unfold numV at CC
        dsimp only at CC
        obtain ⟨r, rfl⟩ : ∃ r : Nat, c1 = (r : Int) := ⟨c1.toNat, by omega⟩
        rw [Int.toNat_natCast] at HS
        have CB := Lib.hid (utfBytes_c r wr (by omega))
        have HN := Lib.hid hn
        have hc0 : (0 : Int) ≤ (c2 : Int) := by omega
        have hc1 : (c2 : Int) ≤ 40000 := by omega
        have hel : (encL r).length ≤ 4 := by unfold encL; split <;> (try split) <;> (try split) <;> simp
        have HR : Hid (txtOut s = ((acc ++ encL r) ++ (txtL s.length (s.drop c2)).1, (q + 1) + (txtL s.length (s.drop c2)).2)) := Lib.hid (by rw [HT.out, HS.out]; simp; omega)
        clear hd hn hbr
        go_wp2_with fail
        refine CC.out.mono ?_
        rintro e w2 ⟨rfl, rfl⟩
        go_wp2_with fail
        refine CB.out.mono ?_
        rintro e w2 ⟨gb, rfl, hgb, hcell, hb2⟩
        have B2 := Lib.hid (BR.out.trans (hb2.mono BR.out.size))
        have HOW := Lib.hid (ownsRow_kept HO.out hb2)
        have HCE := Lib.hid hcell
        clear hb2 hcell hgb
        have HCL : Hid (∀ j u, ((encL r).map bv)[j]? = some u → w2.cell? ((⟨gb, 0, none⟩ : Addr).add j) = some u) := Lib.hid fun j u hu => by
          rw [show (⟨gb, 0, none⟩ : Addr).add j = ⟨gb, j, none⟩ by simp [Addr.add_lit], cell_of _ HCE.out, List.getElem?_toArray]
          exact hu
        have HLN : Hid (((encL r).map bv).length = (encL r).length * 1) := Lib.hid (by simp)
        have HS2 : Hid (w1.heap.size ≤ w2.heap.size) := Lib.hid B2.out.size
        have HR2 : Hid (acc.map bv ++ (encL r).map bv = (acc ++ encL r).map bv ∧ acc.length + (encL r).length = (acc ++ encL r).length) := Lib.hid ⟨by simp, by simp⟩
        have HRow : Hid (∀ v (n : Nat) xs (v' : Value) w', w2.ownsRow w1.heap.size 5 1 v n xs → w2.grownBy w' v.ownBlock → Below w1.heap.size w1 w') := Lib.hid fun v n xs v' w' ho hg => B2.out.grown hg HS2.out fun k hk => (ho.lt k hk).1
        have hel2 : (encL r).length ≤ 4 := hel
        generalize encL r = E at *
        go_wp2_with (at_builtin; refine Go.wpList_append_own _ rfl (.tmp 26) (.tmp 28) 22 rfl w1.heap.size 5 i0 (.int .u8 0) 1 1 Tryd.underlying22 hi hz0 hz1 hz2 rfl (by decide) _ acc.length (acc.map bv) rfl HOW.out ⟨gb, 0, none⟩ E.length E.length (E.map bv) rfl HLN.out HCL.out (bv_one _) ?c3 ?c4 ?c5 ?_)
        case c3 => unfold maxLen; omega
        case c4 => omega
        case c5 => exact HS2.out
        intro v' w3 hown' hgrow _
        have HO3 : Hid (w3.ownsRow w1.heap.size 5 1 v' (acc ++ E).length ((acc ++ E).map bv)) := Lib.hid (by rw [← HR2.out.1, ← HR2.out.2, hs1]; exact hown')
        have HB3 := Lib.hid (HRow.out _ _ _ v' _ HOW.out hgrow)
        clear hown' hgrow
        go_wp2
        go_roundg (s.length - c2)
        case measure => have := hg.out; have := HN.out; omega
        case rel => exact ⟨c2, q + 1, acc ++ E, by have := HN.out; omega, Lib.hid (by have := HN.out; omega), by go_num, rfl, by have := HN.out; omega, by have := HN.out; rw [List.length_append]; omega, HO3, HB3, HR⟩
      · have HS := Lib.hid (txt_step_no s k hkn h0)
        obtain ⟨b0, o0, d, e0, _, hd, hcl⟩ := hbr.cell hkn
        cases e0
        rw [Nat.zero_add] at hcl
        have hgd : s.getD k 0 = d := by rw [List.getD_eq_getElem?_getD, hd]; rfl
        rw [hgd] at HS
        have HR : Hid (txtOut s = ((acc ++ [d]) ++ (txtL s.length (s.drop (k + 1))).1, q + (txtL s.length (s.drop (k + 1))).2)) := Lib.hid (by rw [HT.out, HS.out]; simp)
        generalize charOut s k = co at *
        obtain ⟨c1, c2, c3⟩ := co
        dsimp only at h0
        unfold numV at CC
        dsimp only at CC
        have hz : ((c3 : Int) == 0) = false := by simpa using h0
        have HSn : Hid (∀ (v' : Value) (w' : World), w'.ownsRow w1.heap.size 5 1 v' (acc.length + 1) (acc.map bv ++ [Value.int .u8 (d.toNat : Int)]) → w'.ownsRow w1.heap.size 5 1 v' (acc ++ [d]).length ((acc ++ [d]).map bv)) := Lib.hid fun v' w' h => by
          rw [List.length_append, List.map_append]
          exact h
        have hal2 : acc.length ≤ 1000000000 := by omega
        have hd0 : (0 : Int) ≤ (d.toNat : Int) := by omega
        have hd1 : (d.toNat : Int) ≤ 255 := by have := d.toNat_lt; omega
        clear h0 hd hgd hbr
        go_wp2_with fail
        refine CC.out.mono ?_
        rintro e w2 ⟨rfl, rfl⟩
        go_wp2_with (at_builtin; refine wpList_app1 rfl (.tmp 33) (.tmp 38) 22 5 rfl (.int .u8 0) 1 Tryd.underlying22 info_u8 rfl w1.heap.size _ acc.length _ rfl HO.out (.int .u8 (d.toNat : Int)) rfl rfl ?c1 (by decide) HSZ.out w1 w1.heap.size BR.out (Nat.le_refl _) ?c2)
        case c1 => exact hal2
        case c2 =>
          intro v' w2 hown' hb2 hs2
          have HO2 := Lib.hid (HSn.out _ _ (by rw [hs1]; exact hown'))
          have HB2 : Hid (Below w1.heap.size w1 w2) := Lib.hid (by rw [hs1]; exact hb2)
          clear hown' hb2 hs2
          go_wp2
          go_roundg (s.length - (k + 1))
          case measure => have := hg.out; omega
          case rel => exact ⟨k + 1, q, acc ++ [d], by omega, Lib.hid (by omega), rfl, by go_num, by omega, by rw [List.length_append, List.length_cons, List.length_nil]; omega, HO2, HB2, HR⟩
    · obtain rfl : k = s.length := by omega
      have HE : Hid (txtOut s = (acc, q)) := Lib.hid (by rw [HT.out, List.drop_length, txtL_nil]; simp)
      obtain ⟨A', c', hv, hrd⟩ := own_form HO.out
      have hst := Byt.str (l := acc) hrd
      have HB := Lib.hid (HBY.out.2.1.trans (BR.out.mono (by have := HBY.out.2.2; omega)))
      subst hv
      clear hrd
      go_wp2
      go_ret2
      rw [HE.out]
      exact ⟨rfl, HB.out⟩
theorem ix_contains (l : List UInt8) (c : UInt8) : decide (0 ≤ Lib.indexByte l c) = l.contains c := by
  by_cases h : 0 ≤ Lib.indexByte l c
  · rw [decide_eq_true h]
    symm
    simpa using List.mem_of_getElem? (ix_at c l h).1
  · rw [decide_eq_false h]
    symm
    rw [Bool.eq_false_iff]
    intro hc
    obtain ⟨j, hj⟩ := List.mem_iff_getElem?.1 (show c ∈ l by simpa using hc)
    exact ix_none c l (by omega) j hj
/-- What a text is put as, and the error. -/
def putOut (s : List UInt8) : List UInt8 × Int := if (runesOut s).2 = true then (if allOut isDoc s = true then (putV s, 0) else ([], 6)) else ([], 5)
theorem putV_snoc (s : List UInt8) (c : UInt8) : putV (s ++ [c]) = putV s ++ escV c := by simp [putV]
theorem dec_le3 : ∀ n : Nat, n < 256 → (Lib.decDigits n).length ≤ 3 := by decide +kernel
theorem escV_le (c : UInt8) : (escV c).length ≤ 6 := by
  unfold escV
  split
  · have := dec_le3 c.toNat c.toNat_lt
    simp only [List.length_cons, List.length_append, List.length_nil]
    omega
  · simp
theorem putV_le (s : List UInt8) : (putV s).length ≤ 6 * s.length := by
  induction s with
  | nil => simp [putV]
  | cons c t ih =>
    have := escV_le c
    simp only [putV, List.flatMap_cons, List.length_append, List.length_cons] at *
    omega
set_option maxRecDepth 100000 in
set_option maxHeartbeats 8000000 in
theorem refPut14_c (s : List UInt8) (w : World) (hm : s.length ≤ 20000) :
    Calls Tryd.prog 19 #[.string ⟨s.toArray⟩] w fun e w' => e = .returned (.tuple #[.string ⟨(putOut s).1.toArray⟩, .int .i64 (putOut s).2]) ∧ Below w.heap.size w w' := by
  have hsz : (⟨s.toArray⟩ : ByteArray).size = s.length := by simp [ByteArray.size]
  obtain ⟨cp, w1, hcv, hb1, hs1, hby⟩ := toBytes w s (by omega)
  have HR := Lib.hid (refRunes_c _ _ _ s w1 (hs1 ▸ hby) (by omega))
  have HB1 := Lib.hid (And.intro hb1 hs1)
  clear hb1 hby
  go_enter Tryd.func19, Tryd.ntmps19
  go_wp2_with fail
  refine HR.out.mono ?_
  rintro e w2 ⟨hb2, ⟨hok, A, c, rfl, hrd⟩ | ⟨hok, z, hz, rfl⟩⟩
  · have HB2 := Lib.hid (HB1.out.1.trans (hb2.mono (by have := HB1.out.2; omega)))
    have HOK := Lib.hid hok
    obtain ⟨cp2, w3, hcv2, hb3, hs3, hby3⟩ := toBytes w2 s (by omega)
    have HA := Lib.hid (refAllD_c _ _ _ s w3 (hs3 ▸ hby3) (by omega))
    have HB3 := Lib.hid (HB2.out.trans (hb3.mono HB2.out.size))
    clear hb2 hok hrd hb3 hby3
    cases hall : allOut isDoc s with
    | false =>
      have HP : Hid (putOut s = ([], 6)) := Lib.hid (by unfold putOut; rw [if_pos HOK.out, hall]; rfl)
      rw [hall] at HA
      clear hall
      go_wp2_with fail
      refine HA.out.mono ?_
      rintro e w4 ⟨rfl, hb4⟩
      have HB4 := Lib.hid (HB3.out.trans (hb4.mono HB3.out.size))
      clear hb4
      go_wp2
      go_ret2
      exact ⟨by rw [HP.out]; rfl, HB4.out⟩
    | true =>
      have HP : Hid (putOut s = (putV s, 0)) := Lib.hid (by unfold putOut; rw [if_pos HOK.out, hall]; rfl)
      rw [hall] at HA
      clear hall
      go_wp2_with fail
      refine HA.out.mono ?_
      rintro e w4 ⟨rfl, hb4⟩
      have HB4 := Lib.hid (HB3.out.trans (hb4.mono HB3.out.size))
      clear hb4 hcv hcv2
      go_wp2
      go_loop [7, 6] (fun i x => ∃ k : Nat, k ≤ s.length ∧ i = .int .i64 k ∧ x = .string ⟨(putV (s.take k)).toArray⟩) (fun i _ => s.length - (intOf i).toNat)
      case atStart => exact ⟨0, Nat.zero_le _, rfl, rfl⟩
      case round =>
        obtain ⟨k, hk, rfl, rfl⟩ := hrel
        have hk0 : (0 : Int) ≤ (k : Int) := by omega
        have hk1 : (k : Int) ≤ 20000 := by omega
        by_cases hlt : k < s.length
        · have hix := run_strIndex s k hlt w4
          have hsl := run_strSlice s k (k + 1) (by omega) (by omega) w4
          rw [show ((k + 1 : Nat) : Int) = (k : Int) + 1 by omega, show k + 1 - k = 1 by omega, show (s.drop k).take 1 = [s.getD k 0] by
            rw [List.drop_eq_getElem_cons hlt, List.take_succ_cons, List.take_zero]; simp [hlt]] at hsl
          have HSN : Hid (putV (s.take (k + 1)) = putV (s.take k) ++ escV (s.getD k 0)) := Lib.hid (by
            rw [take_snoc s k (s.getD k 0) (by simp [hlt]), putV_snoc])
          have HLE : Hid ((putV (s.take k)).length ≤ 120000) := Lib.hid (by have := putV_le (s.take k); rw [List.length_take] at this; omega)
          have HLT : Hid (k < s.length) := Lib.hid hlt
          generalize s.getD k 0 = d at *
          generalize putV (s.take k) = E at *
          have hd0 : (0 : Int) ≤ (d.toNat : Int) := by omega
          have hd1 : (d.toNat : Int) ≤ 255 := by have := d.toNat_lt; omega
          have HH : Hid (∀ W, Calls Tryd.prog 21 #[.string ⟨setV.toArray⟩, .int .u8 d.toNat] W fun e w' => e = .returned (.bool (setV.contains d)) ∧ W = w') := Lib.hid fun W => by
            have := has_c setV d W (by decide)
            rwa [ix_contains] at this
          cases hin : setV.contains d with
          | true =>
            have HEB : Hid (escV d = [38, 35] ++ Lib.decDigits d.toNat ++ [59]) := Lib.hid (by unfold escV; rw [if_pos hin]; simp)
            have HDL := Lib.hid (dec_le3 d.toNat d.toNat_lt)
            have HD := Lib.hid (refDigits_c d.toNat (by have := d.toNat_lt; omega))
            rw [hin] at HH
            clear hin
            generalize Lib.decDigits d.toNat = D at *
            have hsp : (Op.stringOp .add ⟨E.toArray⟩ ⟨#[38, 35]⟩).run Tryd.prog w4 = .ok (.string ⟨(E ++ [38, 35]).toArray⟩) w4 := run_sop (w := w4) E [38, 35] (by have := HLE.out; simp; omega)
            have hsp2 : (Op.stringOp .add ⟨(E ++ [38, 35]).toArray⟩ ⟨D.toArray⟩).run Tryd.prog w4 = .ok (.string ⟨(E ++ [38, 35] ++ D).toArray⟩) w4 := run_sop (w := w4) (E ++ [38, 35]) D (by have := HLE.out; have := HDL.out; simp; omega)
            have hsp3 : (Op.stringOp .add ⟨(E ++ [38, 35] ++ D).toArray⟩ ⟨#[59]⟩).run Tryd.prog w4 = .ok (.string ⟨(E ++ [38, 35] ++ D ++ [59]).toArray⟩) w4 := run_sop (w := w4) (E ++ [38, 35] ++ D) [59] (by have := HLE.out; have := HDL.out; simp; omega)
            have HN : Hid (putV (s.take (k + 1)) = E ++ [38, 35] ++ D ++ [59]) := Lib.hid (by rw [HSN.out, HEB.out]; simp)
            generalize E ++ [38, 35] ++ D ++ [59] = E3 at *
            generalize E ++ [38, 35] ++ D = E2 at *
            generalize E ++ [38, 35] = E1 at *
            clear HSN HEB
            go_wp2_with fail
            refine (HH.out _).mono ?_
            rintro e w5 ⟨rfl, rfl⟩
            go_wp2_with fail
            refine (HD.out _).mono ?_
            rintro e w5 ⟨rfl, rfl⟩
            go_wp2
            go_round
            case rel => exact ⟨k + 1, by omega, by go_num, by rw [HN.out]⟩
            case measure => simp [intOf]; omega
          | false =>
            have HEB : Hid (escV d = [d]) := Lib.hid (by unfold escV; rw [hin]; rfl)
            rw [hin] at HH
            clear hin
            have hsp : (Op.stringOp .add ⟨E.toArray⟩ ⟨[d].toArray⟩).run Tryd.prog w4 = .ok (.string ⟨(E ++ [d]).toArray⟩) w4 := run_sop (w := w4) E [d] (by have := HLE.out; simp; omega)
            have HN : Hid (putV (s.take (k + 1)) = E ++ [d]) := Lib.hid (by rw [HSN.out, HEB.out])
            generalize E ++ [d] = E' at *
            clear HSN HEB
            go_wp2_with fail
            refine (HH.out _).mono ?_
            rintro e w5 ⟨rfl, rfl⟩
            go_wp2
            go_round
            case rel => exact ⟨k + 1, by omega, by go_num, by rw [HN.out]⟩
            case measure => simp [intOf]; omega
        · obtain rfl : k = s.length := by omega
          go_wp2
          go_ret2
          rw [HP.out]
          exact ⟨rfl, HB4.out⟩
  · have HB2 := Lib.hid (HB1.out.1.trans (hb2.mono (by have := HB1.out.2; omega)))
    have HP : Hid (putOut s = ([], 5)) := Lib.hid (by unfold putOut; rw [hok]; rfl)
    clear hb2 hok hcv
    go_wp2
    go_ret2
    exact ⟨by rw [HP.out]; rfl, HB2.out⟩
theorem set_doc {c : UInt8} (h : setV.contains c = true) : isDoc (c.toNat : Int) = true := (set_facts c (mem_set h)).1
set_option maxRecDepth 100000 in
set_option maxHeartbeats 8000000 in
theorem evPut_c (s : List UInt8) (w : World) (hW : W14 w) (hp : Lib.TabIs Tryd.prog w "internal/strconv.uint64pow10" .u64 Lib.pow10Tab) (hm : s.length ≤ 20000) :
    Calls Tryd.prog 18 #[.string ⟨s.toArray⟩] w fun e w' => e = .returned (.tuple #[.string ⟨(putOut s).1.toArray⟩, .int .i64 (putOut s).2]) ∧ Below w.heap.size w w' := by
  obtain ⟨cp, w1, hcv, hb1, hs1, hby⟩ := toBytes w s (by omega)
  have HW := Lib.hid (And.intro hW hp)
  have HC := Lib.hid (utfCheck_c _ _ _ s w1 (hs1 ▸ hby) (hW.below hb1).forms (by omega))
  have HB1 := Lib.hid (And.intro hb1 hs1)
  clear hb1 hby hW hp
  cases hok : (runesOut s).2 with
  | false =>
    have HP : Hid (putOut s = ([], 5)) := Lib.hid (by unfold putOut; rw [hok]; rfl)
    rw [hok] at HC
    clear hok
    go_enter Tryd.func18, Tryd.ntmps18
    go_wp2_with fail
    refine HC.out.mono ?_
    rintro e w2 ⟨⟨z, rfl⟩, hb2⟩
    have HB2 := Lib.hid (HB1.out.1.trans (hb2.mono (by have := HB1.out.2; omega)))
    clear hb2
    go_wp2
    go_ret2
    exact ⟨by rw [HP.out]; rfl, HB2.out⟩
  | true =>
    have HOK := Lib.hid hok
    rw [hok] at HC
    clear hok
    go_enter Tryd.func18, Tryd.ntmps18
    go_wp2_with fail
    refine HC.out.mono ?_
    rintro e w2 ⟨⟨z, rfl⟩, hb2⟩
    have HB2 := Lib.hid (HB1.out.1.trans (hb2.mono (by have := HB1.out.2; omega)))
    obtain ⟨cp2, w3, hcv2, hb3, hs3, hby3⟩ := toBytes w2 s (by omega)
    have HB3 := Lib.hid (HB2.out.trans (hb3.mono HB2.out.size))
    have HA := Lib.hid (charsAllD_c _ _ _ s w3 (hs3 ▸ hby3) (HW.out.1.below HB3.out).forms (HW.out.1.below HB3.out).tabs (by omega))
    clear hb2 hb3 hby3
    cases hall : allOut isDoc s with
    | false =>
      have HP : Hid (putOut s = ([], 6)) := Lib.hid (by unfold putOut; rw [if_pos HOK.out, hall]; rfl)
      rw [hall] at HA
      clear hall
      go_wp2_with fail
      refine HA.out.mono ?_
      rintro e w4 ⟨rfl, hb4⟩
      have HB4 := Lib.hid (HB3.out.trans (hb4.mono HB3.out.size))
      clear hb4
      go_wp2
      go_ret2
      exact ⟨by rw [HP.out]; rfl, HB4.out⟩
    | true =>
      have HP : Hid (putOut s = (putV s, 0)) := Lib.hid (by unfold putOut; rw [if_pos HOK.out, hall]; rfl)
      rw [hall] at HA
      clear hall
      go_wp2_with fail
      refine HA.out.mono ?_
      rintro e w4 ⟨rfl, hb4⟩
      have HB4 := Lib.hid (HB3.out.trans (hb4.mono HB3.out.size))
      clear hb4 hcv hcv2
      have hB := Bld.fresh (w4.heap.size + 2) w4 (by omega)
      have hb0 : Below w4.heap.size w4 (w4.alloc (.cells #[.pointer none, .slice none 0 0] 57)) := (Below.refl _ _).alloc (Nat.le_refl _) _
      have hs0 : (w4.alloc (.cells #[.pointer none, .slice none 0 0] 57)).heap.size = w4.heap.size + 1 := by simp
      obtain ⟨c5, w5, hcv5, hb5, hs5, hby5⟩ := toBytes (w4.alloc (.cells #[.pointer none, .slice none 0 0] 57)) s (by omega)
      rw [hs0] at hcv5 hb5 hs5 hby5
      have hB5 := hB.kept (by rw [hs0]; exact hb5)
      have hbw := hb0.trans (hb5.mono (by omega))
      have hcell : ∀ (wr : World), Fr (w4.heap.size + 2) w4.heap.size w5 wr → ∀ k, k < s.length → wr.cell? ⟨w4.heap.size + 1, k, none⟩ = some (.int .u8 (UInt8.toNat (s.getD k 0) : Int)) := fun wr hf k hk => by
        obtain ⟨b, o, c, e, hb, hc, hcl⟩ := hby5.cell hk
        cases e
        rw [World.cell?_of_block (w := w5) (a := ⟨w4.heap.size + 1, k, none⟩) (hf.block (w4.heap.size + 1) (by omega) (by omega))]
        rw [Nat.zero_add] at hcl
        rw [hcl, List.getD_eq_getElem?_getD, hc]
        rfl
      have HCE := Lib.hid hcell
      have HB5 := Lib.hid (And.intro hB5 hbw)
      have HS5 := Lib.hid hs5
      have HST : Hid (∀ wr, Fr (w4.heap.size + 2) w4.heap.size w5 wr → Below w.heap.size w wr) := Lib.hid fun wr hf => HB4.out.trans ((hbw.trans (hf.below (by omega) (Nat.le_refl _))).mono HB4.out.size)
      clear hB hb0 hs0 hB5 hb5 hs5 hby5 hbw hcell
      generalize hwS : w4.heap.size = S at *
      go_wp2
      go_loopw [27] (fun i wr => ∃ k : Nat, k ≤ s.length ∧ i = .int .i64 k ∧ Hid (Bld (S + 2) S (putV (s.take k)) wr ∧ Fr (S + 2) S w5 wr)) (fun i _ => s.length - (intOf i).toNat)
      case atStart => exact ⟨0, Nat.zero_le _, rfl, Lib.hid ⟨HB5.out.1, Fr.refl _ _ _⟩⟩
      case round =>
        obtain ⟨k, hk, rfl, I⟩ := hrel
        have hk0 : (0 : Int) ≤ (k : Int) := by omega
        have hk1 : (k : Int) ≤ 20000 := by omega
        by_cases hlt : k < s.length
        · have hcl := HCE.out _ I.out.2 k hlt
          have HSN : Hid (putV (s.take (k + 1)) = putV (s.take k) ++ escV (s.getD k 0)) := Lib.hid (by
            rw [take_snoc s k (s.getD k 0) (by simp [hlt]), putV_snoc])
          have HLE : Hid ((putV (s.take k)).length ≤ 120000) := Lib.hid (by have := putV_le (s.take k); rw [List.length_take] at this; omega)
          have HSZ : Hid (S + 2 ≤ wr.heap.size) := Lib.hid (by have := I.out.2.size; have := HS5.out; omega)
          generalize s.getD k 0 = d at *
          have hd0 : (0 : Int) ≤ (d.toNat : Int) := by omega
          have hd1 : (d.toNat : Int) ≤ 255 := by have := d.toNat_lt; omega
          have HH : Hid (∀ W, Calls Tryd.prog 38 #[.string ⟨setV.toArray⟩, .int .u8 d.toNat] W fun e w' => e = .returned (.int .i64 (Lib.indexByte setV d)) ∧ W = w') := Lib.hid fun W =>
            (Tryd.strings_IndexByte ⟨setV.toArray⟩ d.toNat W).mono fun e w' ⟨he, hw⟩ => ⟨by rw [he]; simp, hw.symm⟩
          have hcn := ix_contains setV d
          generalize Lib.indexByte setV d = ix at *
          cases hin : setV.contains d with
          | true =>
            have hix : ¬ ix < 0 := by rw [hin] at hcn; simp at hcn; omega
            have HDL := Lib.hid (dec_le3 d.toNat d.toNat_lt)
            have HEB : Hid (escV d = 38 :: 35 :: (Lib.decDigits d.toNat ++ [59])) := Lib.hid (by unfold escV; rw [if_pos hin])
            have HT : Hid (∀ w1, Below w.heap.size w w1 → Calls Tryd.prog 40 #[.int .i64 d.toNat] w1 fun e w' => e = .returned (.tuple #[.string ⟨(escV d).toArray⟩, .int .i64 0]) ∧ Below w1.heap.size w1 w') := Lib.hid fun w1 hb => by
              have := text_c (d.toNat : Int) w1 (HW.out.1.below hb).tabs (TabIs_below (B := 0) HW.out.2 hb)
              unfold textOut at this
              rw [if_pos (set_doc hin), if_pos (set_doc hin), Int.toNat_natCast] at this
              unfold escV
              rw [if_pos hin]
              exact this
            have HEL := Lib.hid (escV_le d)
            clear hin hcn HEB
            go_wp2_with fail
            refine (HH.out _).mono ?_
            rintro e w6 ⟨rfl, rfl⟩
            go_wp2_with fail
            refine (HT.out _ (HST.out _ I.out.2)).mono ?_
            rintro e w6 ⟨rfl, hb6⟩
            have HI : Hid (Bld (S + 2) S (putV (s.take k)) w6 ∧ Fr (S + 2) S w5 w6 ∧ S + 2 ≤ w6.heap.size) := Lib.hid ⟨I.out.1.kept hb6, I.out.2.trans ((Fr.ofBelow hb6).mono HSZ.out), Nat.le_trans HSZ.out hb6.size⟩
            clear hb6
            go_wp2_with fail
            refine (writeString_b (S + 2) S (putV (s.take k)) (escV d) _ HI.out.1 (by have := HLE.out; have := HEL.out; omega) HI.out.2.2).mono ?_
            rintro e w7 ⟨rfl, hb7, hf7⟩
            have HN : Hid (Bld (S + 2) S (putV (s.take (k + 1))) w7 ∧ Fr (S + 2) S w5 w7) := Lib.hid ⟨by rw [HSN.out]; exact hb7, HI.out.2.1.trans hf7⟩
            clear hb7 hf7
            go_wp2
            go_roundw
            case rel => exact ⟨k + 1, by omega, by go_num, HN⟩
            case measure => simp [intOf]; omega
          | false =>
            have hix : ix < 0 := by rw [hin] at hcn; simp at hcn; omega
            have HEB : Hid (escV d = [d]) := Lib.hid (by unfold escV; rw [hin]; rfl)
            clear hin hcn
            go_wp2_with fail
            refine (HH.out _).mono ?_
            rintro e w6 ⟨rfl, rfl⟩
            go_wp2_with fail
            refine (writeByte_b (S + 2) S (putV (s.take k)) d _ I.out.1 (by have := HLE.out; omega) HSZ.out).mono ?_
            rintro e w7 ⟨rfl, hb7, hf7⟩
            have HN : Hid (Bld (S + 2) S (putV (s.take (k + 1))) w7 ∧ Fr (S + 2) S w5 w7) := Lib.hid ⟨by rw [HSN.out, HEB.out]; exact hb7, I.out.2.trans hf7⟩
            clear hb7 hf7
            go_wp2
            go_roundw
            case rel => exact ⟨k + 1, by omega, by go_num, HN⟩
            case measure => simp [intOf]; omega
        · obtain rfl : k = s.length := by omega
          have hst := string_b (S + 2) S (putV s) wr (by have := I.out.1; rwa [List.take_length] at this)
          go_wp2_with fail
          refine hst.mono ?_
          rintro e w7 ⟨rfl, hb7⟩
          have HN : Hid (Below w.heap.size w w7) := Lib.hid ((HST.out _ I.out.2).trans (hb7.mono (by rw [← hwS]; exact HB4.out.size)))
          clear hb7 hst
          go_wp2
          go_ret2
          rw [HP.out]
          exact ⟨rfl, HN.out⟩
end Go.Proofs.YtpblphddpcogcaaDoor
