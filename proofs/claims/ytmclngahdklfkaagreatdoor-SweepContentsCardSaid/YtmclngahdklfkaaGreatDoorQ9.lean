/- Texts of ours, joined: Lit3, Lit4, MiscP, Misc1, Misc2, Misc3, Misc4, Misc5. -/
import Derived.Test.YtmclngahdklfkaaGreatDoorRows
import Derived.WalkKit
import Derived.ProofKit
import Derived.OpenShut
import Derived.ShutString
import Derived.ChangeOld
import Derived.Below
import Derived.BigQuiet
import Derived.Deep.QuietTactic
import Derived.Lib.Hide
import Derived.Deep.RegionHeld3
import Derived.Lib.SlBytesConst
import Derived.Laws.CopyOwn
import Derived.Laws.CopyRow
import Derived.Lib.Bytes
import Derived.Deep.LoopGhost
import Derived.Deep.DeepFit
import Derived.Deep.DeepMust
import Derived.WalkSpells
import Derived.WalkLawsBesides
import Derived.Test.YtmclngahdklfkaaGreatDoorQ1
import Derived.Test.YtmclngahdklfkaaGreatDoorQ2
import Derived.Test.YtmclngahdklfkaaGreatDoorQ3
import Derived.Test.YtmclngahdklfkaaGreatDoorQ5
import Derived.Test.YtmclngahdklfkaaGreatDoorQ6
import Derived.Test.YtmclngahdklfkaaGreatDoorQ7
import Derived.Test.YtmclngahdklfkaaGreatDoorQ8
import Derived.Lib.IndexMore
import Derived.Lib.IndexLaws
import Derived.StillTailTactics
import Derived.Laws.EntriesVeiled
import Derived.Laws.Rows
import Derived.Deep.RegionWith
/- narthexref07.Refs. -/
namespace Go.Proofs.YtmclngahdklfkaaGreatDoor
open Go.ChangeShapes Go.WideShapes Go.ChangeAt Go.RowKit
set_option linter.unusedVariables false
set_option maxRecDepth 100000 in
set_option maxHeartbeats 2000000 in
theorem refRefs_c (l : List UInt8) (w : World) (hm : l.length ≤ 40000) :
    Calls Tryz.prog 91 #[.string ⟨l.toArray⟩] w fun e w' => e = .returned (.tuple #[.int .i64 (refsOut l).1, .int .i64 (refsOut l).2]) ∧ Below w.heap.size w w' := by
  have hsz : (⟨l.toArray⟩ : ByteArray).size = l.length := by simp [ByteArray.size]
  obtain ⟨cp, w1, hcv, hb1, hs1, hby⟩ := toBytes w l (by omega)
  rw [show w.heap.size + 1 = w1.heap.size by omega] at hby
  have HBY := Lib.hid hby
  have HB1 := Lib.hid hb1
  have hcap := hby.le
  have HRES := Lib.hid (refsOut_eq l)
  clear hb1 hs1 hby
  generalize refsOut l = res at *
  go_enter Tryz.func91, Tryz.ntmps91
  go_wp2
  go_loopg [5] (l.length + 1) (fun g a wr => ∃ k : Nat, k ≤ l.length ∧ Hid (g + k = l.length + 1) ∧ a = .int .i64 (k : Int) ∧ Hid (refsFrom l k = res) ∧ Hid (Below w1.heap.size w1 wr))
  case atStart => exact ⟨0, Nat.zero_le _, Lib.hid (by omega), rfl, Lib.hid HRES.out.symm, Lib.hid (Below.refl _ _)⟩
  case round =>
    obtain ⟨k, hk, hg, rfl, HR, BR⟩ := hrel
    have hk0 : (0 : Int) ≤ (k : Int) := by omega
    have hk1 : (k : Int) ≤ 40000 := by omega
    by_cases hkn : k < l.length
    · have hkni : (k : Int) < (l.length : Int) := by omega
      obtain ⟨b, o, c, e, hb, hc, hcell⟩ := (HBY.out.below BR.out).cell hkn
      cases e
      rw [Nat.zero_add] at hcell
      by_cases h38 : c = 38
      · have hcell' : wr.cell? ⟨w.heap.size, k, none⟩ = some (.int .u8 38) := by rw [hcell, h38]; rfl
        have HAT : Hid (l[k]? = some 38) := Lib.hid (by rw [hc, h38])
        have CE : Hid (Calls Tryz.prog 37 #[.slice (some ⟨w.heap.size, 0, none⟩) l.length cp, .int .i64 (k : Int), .int .u8 38] wr fun e w' => e = .returned (outV (refOut 38 l k)) ∧ Below wr.heap.size wr w') := Lib.hid (by
          have := refEntityAt_c _ _ _ l (k : Int) 38 wr ((HBY.out.below BR.out).more BR.out.size) (by omega)
          rwa [refAt_in 38 l k hk] at this)
        have CC : Hid (Calls Tryz.prog 36 #[.slice (some ⟨w.heap.size, 0, none⟩) l.length cp, .int .i64 (k : Int)] wr fun e w' => e = .returned (numV (charOut l k)) ∧ wr = w') := Lib.hid (by
          have := refCharR_c _ _ _ l (k : Int) wr _ (HBY.out.below BR.out) (by omega)
          rwa [charAt_in l k hk] at this)
        have HM : Hid (markOut l k = if l[k + 1]? = some 35 then (charOut l k).2 else (refOut 38 l k).2) := Lib.hid rfl
        have hwk : IntKind.i64.wrap ((k : Int) + 1) = (k : Int) + 1 := by rw [IntKind.wrap_i64]; omega
        clear hcell hc h38 hb
        by_cases h35 : l[k + 1]? = some 35
        · have hk1n : k + 1 < l.length := by
            rcases Nat.lt_or_ge (k + 1) l.length with g | g
            · exact g
            · rw [List.getElem?_eq_none g] at h35; cases h35
          obtain ⟨b, o, c1, e, hb, hc1, hcell1⟩ := (HBY.out.below BR.out).cell hk1n
          cases e
          rw [Nat.zero_add] at hcell1
          have hcell1' : wr.cell? ⟨w.heap.size, k + 1, none⟩ = some (.int .u8 35) := by rw [hcell1, show c1 = 35 by rw [h35] at hc1; exact (Option.some.inj hc1).symm]; rfl
          have hl1 : (k : Int) + 1 < (l.length : Int) := by omega
          have hp1 : (0 : Int) ≤ (k : Int) + 1 := by omega
          have htn : ((k : Int) + 1).toNat = k + 1 := by omega
          have HMC : Hid (markOut l k = (charOut l k).2) := Lib.hid (by rw [HM.out, if_pos h35])
          clear hcell1 hc1 h35 hb
          generalize charOut l k = co at *
          obtain ⟨cv, cn, ce⟩ := co
          unfold numV at CC
          by_cases hce : ce = 0
          · have HNX := Lib.hid (markOut_next l k (by rw [HMC.out]; exact hce))
            rw [HMC.out] at HNX
            have HS2 : Hid (refsFrom l cn = res) := Lib.hid (by rw [← HR.out, refsFrom_next l k HAT.out (by rw [HMC.out]; exact hce), HMC.out])
            subst hce
            go_wp2_with fail
            refine CC.out.mono ?_
            rintro e w2 ⟨rfl, rfl⟩
            go_wp2
            go_roundg (l.length + 1 - cn)
            case measure => have := hg.out; have := HNX.out; omega
            case rel => exact ⟨cn, HNX.out.2, Lib.hid (by have := HNX.out.2; omega), rfl, HS2, BR⟩
          · have HE : Hid (res = (k, ce)) := Lib.hid (by rw [← HR.out, refsFrom_bad l k HAT.out (by rw [HMC.out]; exact hce), HMC.out])
            have hcz : ((ce : Int) != 0) = true := by simp; omega
            go_wp2_with fail
            refine CC.out.mono ?_
            rintro e w2 ⟨rfl, rfl⟩
            clear hcv
            go_wp2
            go_ret2
            rw [HE.out]
            exact ⟨rfl, HB1.out.trans (BR.out.mono HB1.out.size)⟩
        · have HMC : Hid (markOut l k = (refOut 38 l k).2) := Lib.hid (by rw [HM.out, if_neg h35])
          generalize refOut 38 l k = ro at *
          obtain ⟨rv, rn, re⟩ := ro
          unfold outV at CE
          by_cases hk1n : k + 1 < l.length
          · obtain ⟨b, o, c1, e, hb, hc1, hcell1⟩ := (HBY.out.below BR.out).cell hk1n
            cases e
            rw [Nat.zero_add] at hcell1
            have e35 : ((c1.toNat : Int) == 35) = false := ne_byte' c1 35 35 rfl fun e => h35 (by rw [hc1, e])
            have hl1 : (k : Int) + 1 < (l.length : Int) := by omega
            have hp1 : (0 : Int) ≤ (k : Int) + 1 := by omega
            have htn : ((k : Int) + 1).toNat = k + 1 := by omega
            clear hc1 h35 hb
            generalize (c1.toNat : Int) = d1 at *
            by_cases hce : re = 0
            · have HNX := Lib.hid (markOut_next l k (by rw [HMC.out]; exact hce))
              rw [HMC.out] at HNX
              have HS2 : Hid (refsFrom l rn = res) := Lib.hid (by rw [← HR.out, refsFrom_next l k HAT.out (by rw [HMC.out]; exact hce), HMC.out])
              subst hce
              go_wp2_with fail
              refine CE.out.mono ?_
              rintro e w2 ⟨rfl, hb⟩
              have B2 : Hid (Below w1.heap.size w1 w2) := Lib.hid (BR.out.trans (hb.mono BR.out.size))
              clear hb
              go_wp2
              go_roundg (l.length + 1 - rn)
              case measure => have := hg.out; have := HNX.out; omega
              case rel => exact ⟨rn, HNX.out.2, Lib.hid (by have := HNX.out.2; omega), rfl, HS2, B2⟩
            · have HE : Hid (res = (k, re)) := Lib.hid (by rw [← HR.out, refsFrom_bad l k HAT.out (by rw [HMC.out]; exact hce), HMC.out])
              have hcz : ((re : Int) != 0) = true := by simp; omega
              go_wp2_with fail
              refine CE.out.mono ?_
              rintro e w2 ⟨rfl, hb⟩
              have B2 : Hid (Below w1.heap.size w1 w2) := Lib.hid (BR.out.trans (hb.mono BR.out.size))
              clear hb hcv
              go_wp2
              go_ret2
              rw [HE.out]
              exact ⟨rfl, HB1.out.trans (B2.out.mono HB1.out.size)⟩
          · have hl1 : ¬ (k : Int) + 1 < (l.length : Int) := by omega
            clear h35
            by_cases hce : re = 0
            · have HNX := Lib.hid (markOut_next l k (by rw [HMC.out]; exact hce))
              rw [HMC.out] at HNX
              have HS2 : Hid (refsFrom l rn = res) := Lib.hid (by rw [← HR.out, refsFrom_next l k HAT.out (by rw [HMC.out]; exact hce), HMC.out])
              subst hce
              go_wp2_with fail
              refine CE.out.mono ?_
              rintro e w2 ⟨rfl, hb⟩
              have B2 : Hid (Below w1.heap.size w1 w2) := Lib.hid (BR.out.trans (hb.mono BR.out.size))
              clear hb
              go_wp2
              go_roundg (l.length + 1 - rn)
              case measure => have := hg.out; have := HNX.out; omega
              case rel => exact ⟨rn, HNX.out.2, Lib.hid (by have := HNX.out.2; omega), rfl, HS2, B2⟩
            · have HE : Hid (res = (k, re)) := Lib.hid (by rw [← HR.out, refsFrom_bad l k HAT.out (by rw [HMC.out]; exact hce), HMC.out])
              have hcz : ((re : Int) != 0) = true := by simp; omega
              go_wp2_with fail
              refine CE.out.mono ?_
              rintro e w2 ⟨rfl, hb⟩
              have B2 : Hid (Below w1.heap.size w1 w2) := Lib.hid (BR.out.trans (hb.mono BR.out.size))
              clear hb hcv
              go_wp2
              go_ret2
              rw [HE.out]
              exact ⟨rfl, HB1.out.trans (B2.out.mono HB1.out.size)⟩
      · have e38 : ((c.toNat : Int) != 38) = true := by have := ne_byte' c 38 38 rfl h38; simp [bne, this]
        have HS2 : Hid (refsFrom l (k + 1) = res) := Lib.hid (by rw [← HR.out, refsFrom_skip l k hkn (by rw [hc]; simpa using h38)])
        clear hc h38 hb
        generalize (c.toNat : Int) = d1 at *
        go_wp2
        go_roundg (l.length + 1 - (k + 1))
        case measure => have := hg.out; omega
        case rel => exact ⟨k + 1, by omega, Lib.hid (by omega), by go_num, HS2, BR⟩
    · have hkni : ¬ (k : Int) < (l.length : Int) := by omega
      have HE : Hid (res = (0, 0)) := Lib.hid (by rw [← HR.out, refsFrom_end l k (by omega)])
      clear hcv
      go_wp2
      go_ret2
      rw [HE.out]
      exact ⟨rfl, HB1.out.trans (BR.out.mono HB1.out.size)⟩
end Go.Proofs.YtmclngahdklfkaaGreatDoor
/- lit.read, Value. -/
namespace Go.Proofs.YtmclngahdklfkaaGreatDoor
open Go.ChangeShapes Go.WideShapes Go.ChangeAt Go.RowKit
set_option linter.unusedVariables false
theorem without1_c (c : UInt8) (l : List UInt8) (a : Nat) (w : World) (ha : w.cell? ⟨a, 0, none⟩ = some (.int .u8 c.toNat)) :
    Calls Tryz.prog 189 #[.string ⟨l.toArray⟩, .pointer (some ⟨a, 0, none⟩)] w fun e w' => e = .returned (.int .i64 (if 0 ≤ Lib.indexByte l c then 7 else 0)) ∧ w = w' := by
  have hi := Tryz.strings_IndexByte ⟨l.toArray⟩ (c.toNat : Int) w
  rw [show ((c.toNat : Int).toNat.toUInt8) = c by simp] at hi
  have hi' : Calls Tryz.prog 143 #[.string ⟨l.toArray⟩, .int .u8 (c.toNat : Int)] w fun e w' => e = .returned (.int .i64 (Lib.indexByte l c)) ∧ w' = w := hi
  have HI := Lib.hid hi'
  clear hi hi'
  generalize Lib.indexByte l c = ix at *
  generalize (c.toNat : Int) = cn at *
  by_cases h0 : 0 ≤ ix
  · have hd : decide (0 ≤ ix) = true := by simpa using h0
    rw [if_pos h0]
    go_enter Tryz.func189, Tryz.ntmps189
    go_wp2_with fail
    refine HI.out.mono ?_
    rintro e w1 ⟨rfl, rfl⟩
    go_wp2
    go_ret
    exact ⟨rfl, rfl⟩
  · have hd : decide (0 ≤ ix) = false := by simpa using h0
    rw [if_neg h0]
    go_enter Tryz.func189, Tryz.ntmps189
    go_wp2_with fail
    refine HI.out.mono ?_
    rintro e w1 ⟨rfl, rfl⟩
    go_wp2
    go_ret
    exact ⟨rfl, rfl⟩
theorem refsR_c (l : List UInt8) (w : World) (hT : Tabs w) (hF : Forms w) (hm : l.length ≤ 40000) :
    Calls Tryz.prog 185 #[.string ⟨l.toArray⟩] w fun e w' => e = .returned (.int .i64 (refsOut l).2) ∧ Below w.heap.size w w' := by
  have HR := Lib.hid (refs_c l w hT hF hm)
  clear hT hF
  generalize refsOut l = r at *
  obtain ⟨r1, r2⟩ := r
  go_enter Tryz.func185, Tryz.ntmps185
  go_wp2_with fail
  refine HR.out.mono ?_
  rintro e w1 ⟨rfl, hb⟩
  have HB := Lib.hid hb
  clear hb
  go_wp2
  go_ret
  exact ⟨rfl, HB.out⟩
def wV (a : Nat) : Value := .func (.func 189) #[] #[.pointer (some ⟨a, 0, none⟩)]
theorem without_c (c : Int) (w : World) : Calls Tryz.prog 184 #[.int .u8 c] w fun e w' => e = .returned (wV w.heap.size) ∧ w.alloc (.cells #[.int .u8 c] 5) = w' := by
  unfold wV
  go_enter Tryz.func184, Tryz.ntmps184
  go_wp2
  go_ret
  exact ⟨rfl, rfl⟩
/-- What stands between quotes, without a byte, each reference one. -/
def strictAt (but : UInt8) (l : List UInt8) (at_ : Int) : List UInt8 × Nat × Nat :=
  if (quotedAt l at_).2.2 ≠ 0 then ([], 0, (quotedAt l at_).2.2)
  else if 0 ≤ Lib.indexByte (quotedAt l at_).1 but then ([], 0, 7)
  else if (refsOut (quotedAt l at_).1).2 ≠ 0 then ([], 0, (refsOut (quotedAt l at_).1).2)
  else ((quotedAt l at_).1, (quotedAt l at_).2.1, 0)
theorem quotedAt_le (l : List UInt8) (at_ : Int) : (quotedAt l at_).1.length ≤ l.length := by
  unfold quotedAt quotedOut quotedQ
  split
  · simp
  · split
    · simp
    · split
      · split
        · simp
        · simp only [List.length_take, List.length_drop]; omega
      · simp
set_option maxRecDepth 100000 in
set_option maxHeartbeats 4000000 in
theorem litRead_c (A : Option Addr) (n cap : Nat) (l : List UInt8) (at_ : Int) (but : UInt8) (a g : Nat) (w : World) (h : Byt w w.heap.size A n cap l) (hT : Tabs w) (hF : Forms w) (hm : n ≤ 40000)
    (ha : w.cell? ⟨a, 0, none⟩ = some (.int .u8 but.toNat)) (hal : a < w.heap.size) (hg : w.heap[g]? = some (.cells #[wV a, .func (.func 185) #[] #[]] 216)) :
    Calls Tryz.prog 183 #[.slice A n cap, .int .i64 at_, .slice (some ⟨g, 0, none⟩) 2 2] w fun e w' => e = .returned (outV (strictAt but l at_)) ∧ Below w.heap.size w w' := by
  have hL := hT.low hF
  have hgl := lt_of hg
  have HQ := Lib.hid (quoted_c A n cap l at_ w _ h (by omega))
  have hql := quotedAt_le l at_
  rw [h.length] at hql
  have HS : Hid (strictAt but l at_ = if (quotedAt l at_).2.2 ≠ 0 then ([], 0, (quotedAt l at_).2.2) else if 0 ≤ Lib.indexByte (quotedAt l at_).1 but then ([], 0, 7) else if (refsOut (quotedAt l at_).1).2 ≠ 0 then ([], 0, (refsOut (quotedAt l at_).1).2) else ((quotedAt l at_).1, (quotedAt l at_).2.1, 0)) := Lib.hid rfl
  have HW : Hid (∀ w1, Below w.heap.size w w1 → Calls Tryz.prog 189 #[.string ⟨(quotedAt l at_).1.toArray⟩, .pointer (some ⟨a, 0, none⟩)] w1 fun e w' => e = .returned (.int .i64 (if 0 ≤ Lib.indexByte (quotedAt l at_).1 but then 7 else 0)) ∧ w1 = w') := Lib.hid fun w1 hb => without1_c but _ a w1 (by rw [hb.cell hal]; exact ha)
  have HR : Hid (∀ w1, Below w.heap.size w w1 → Calls Tryz.prog 185 #[.string ⟨(quotedAt l at_).1.toArray⟩] w1 fun e w' => e = .returned (.int .i64 (refsOut (quotedAt l at_).1).2) ∧ Below w1.heap.size w1 w') := Lib.hid fun w1 hb => refsR_c _ w1 (hT.below hb hL) (hF.below hb hF.lt) (by omega)
  have HG : Hid (∀ w1, Below w.heap.size w w1 → w1.cell? ⟨g, 0, none⟩ = some (wV a) ∧ w1.cell? ⟨g, 1, none⟩ = some (.func (.func 185) #[] #[])) := Lib.hid fun w1 hb => by
    have := (hb.block g hgl).trans hg
    exact ⟨by rw [cell_of 0 this]; rfl, by rw [cell_of 1 this]; rfl⟩
  clear h hT hF hL ha hg hql hm hal
  generalize strictAt but l at_ = res at *
  generalize quotedAt l at_ = q at *
  obtain ⟨s, k, f⟩ := q
  simp only at HS HW HR
  unfold outV at HQ
  unfold wV at HG
  by_cases hf : f = 0
  · subst hf
    go_enter Tryz.func183, Tryz.ntmps183
    go_wp2_with fail
    refine HQ.out.mono ?_
    rintro e w1 ⟨rfl, m, hw1⟩
    have B1 : Hid (Below w.heap.size w w1) := Lib.hid (by rw [hw1]; exact below_drewN' (Below.refl _ _))
    clear hw1
    go_wp2_with fail
    go_loopg [27] (3) (fun g i wr => ∃ j : Nat, j ≤ 2 ∧ Hid (g + j = 3) ∧ i = .int .i64 (j : Int) ∧ Hid (Below w.heap.size w wr) ∧ Hid ((1 ≤ j → ¬ 0 ≤ Lib.indexByte s but) ∧ (2 ≤ j → (refsOut s).2 = 0)))
    case atStart => exact ⟨0, by omega, Lib.hid rfl, rfl, B1, Lib.hid ⟨fun h => absurd h (by omega), fun h => absurd h (by omega)⟩⟩
    case round =>
      obtain ⟨j, hj, hg, rfl, BR, HJ⟩ := hrel
      have hg0 := (HG.out wr BR.out).1
      have hg1 := (HG.out wr BR.out).2
      rcases (show j = 0 ∨ j = 1 ∨ j = 2 by omega) with rfl | rfl | rfl
      · have HWW := Lib.hid (HW.out wr BR.out)
        by_cases hb : 0 ≤ Lib.indexByte s but
        · rw [if_pos hb] at HWW
          have HE : Hid (res = ([], 0, 7)) := Lib.hid (by rw [HS.out, if_neg (by simp), if_pos hb])
          go_wp2_with fail
          refine HWW.out.mono ?_
          rintro e w2 ⟨rfl, rfl⟩
          go_wp2
          go_ret3
          rw [HE.out]
          exact ⟨rfl, BR.out⟩
        · rw [if_neg hb] at HWW
          have HB := Lib.hid hb
          clear hb
          go_wp2_with fail
          refine HWW.out.mono ?_
          rintro e w2 ⟨rfl, rfl⟩
          go_wp2
          go_roundg (2)
          case measure => have := hg.out; omega
          case rel => exact ⟨1, by omega, Lib.hid (by omega), rfl, BR, Lib.hid ⟨fun _ => HB.out, fun h => absurd h (by omega)⟩⟩
      · have HRR := Lib.hid (HR.out wr BR.out)
        generalize hr : (refsOut s).2 = r at *
        by_cases hb : r = 0
        · have HB := Lib.hid hb
          subst hb
          go_wp2_with fail
          refine HRR.out.mono ?_
          rintro e w2 ⟨rfl, hb⟩
          have B2 : Hid (Below w.heap.size w w2) := Lib.hid (BR.out.trans (hb.mono BR.out.size))
          clear hb
          go_wp2
          go_roundg (1)
          case measure => have := hg.out; omega
          case rel => exact ⟨2, by omega, Lib.hid (by omega), rfl, B2, Lib.hid ⟨fun _ => HJ.out.1 (by omega), fun _ => by trivial⟩⟩
        · have HE : Hid (res = ([], 0, r)) := Lib.hid (by rw [HS.out, if_neg (by simp), if_neg (HJ.out.1 (by omega)), if_pos hb])
          have hrz : ((r : Int) != 0) = true := by simp; omega
          clear hb hr
          go_wp2_with fail
          refine HRR.out.mono ?_
          rintro e w2 ⟨rfl, hb⟩
          have B2 : Hid (Below w.heap.size w w2) := Lib.hid (BR.out.trans (hb.mono BR.out.size))
          clear hb
          go_wp2
          go_ret3
          rw [HE.out]
          exact ⟨rfl, B2.out⟩
      · have HE : Hid (res = (s, k, 0)) := Lib.hid (by rw [HS.out, if_neg (by simp), if_neg (HJ.out.1 (by omega)), if_neg (by rw [HJ.out.2 (by omega)]; simp)])
        go_wp2
        go_ret3
        rw [HE.out]
        exact ⟨rfl, BR.out⟩
  · have HE : Hid (res = ([], 0, f)) := Lib.hid (by rw [HS.out, if_pos hf])
    have hfz : ((f : Int) != 0) = true := by simp; omega
    clear hf
    go_enter Tryz.func183, Tryz.ntmps183
    go_wp2_with fail
    refine HQ.out.mono ?_
    rintro e w1 ⟨rfl, m, hw1⟩
    have B1 : Hid (Below w.heap.size w w1) := Lib.hid (by rw [hw1]; exact below_drewN' (Below.refl _ _))
    clear hw1
    go_wp2
    go_ret3
    rw [HE.out]
    exact ⟨rfl, B1.out⟩
set_option maxRecDepth 100000 in
set_option maxHeartbeats 4000000 in
theorem litValue_c (A : Option Addr) (n cap : Nat) (l : List UInt8) (at_ : Int) (w : World) (h : Byt w w.heap.size A n cap l) (hT : Tabs w) (hF : Forms w) (hm : n ≤ 40000) :
    Calls Tryz.prog 176 #[.slice A n cap, .int .i64 at_] w fun e w' => e = .returned (outV (strictAt 60 l at_)) ∧ Below w.heap.size w w' := by
  have hL := hT.low hF
  have b1 : Below w.heap.size w (w.alloc (.cells #[.int .u8 60] 5)) := (Below.refl _ _).alloc (Nat.le_refl _) _
  have b2 : Below w.heap.size w ((w.alloc (.cells #[.int .u8 60] 5)).alloc (.cells #[wV w.heap.size, .func (.func 185) #[] #[]] 216)) := b1.alloc (by simp) _
  have hg := hp_new (w.alloc (.cells #[.int .u8 60] 5)) (.cells #[wV w.heap.size, .func (.func 185) #[] #[]] 216)
  have ha : ((w.alloc (.cells #[.int .u8 60] 5)).alloc (.cells #[wV w.heap.size, .func (.func 185) #[] #[]] 216)).cell? ⟨w.heap.size, 0, none⟩ = some (.int .u8 (60 : UInt8).toNat) := by
    rw [cell_of 0 (hp_old (hp_new w _))]; rfl
  have c1 := litRead_c A n cap l at_ 60 w.heap.size _ _ ((h.below b2).more b2.size) (hT.below b2 hL) (hF.below b2 hF.lt) hm ha (by simp; omega) hg
  rw [show (w.alloc (.cells #[.int .u8 60] 5)).heap.size = w.heap.size + 1 by simp] at c1
  have hs2 : ((w.alloc (.cells #[.int .u8 60] 5)).alloc (.cells #[wV w.heap.size, .func (.func 185) #[] #[]] 216)).heap.size = w.heap.size + 2 := by simp
  have C1 := Lib.hid c1
  have HB2 := Lib.hid b2
  have HS2 := Lib.hid hs2
  clear c1 b1 b2 hg ha hs2 h hT hF hL
  generalize strictAt 60 l at_ = res at *
  obtain ⟨s, k, f⟩ := res
  unfold outV wV at *
  go_enter Tryz.func176, Tryz.ntmps176
  go_wp2_with fail
  refine (without_c 60 w).mono ?_
  rintro e w1 ⟨rfl, rfl⟩
  unfold wV
  go_wp2_with fail
  refine C1.out.mono ?_
  rintro e w2 ⟨rfl, hb⟩
  have B2 : Hid (Below w.heap.size w w2) := Lib.hid (HB2.out.trans (hb.mono (by rw [HS2.out]; omega)))
  clear hb
  go_wp2
  go_ret3
  exact ⟨rfl, B2.out⟩
end Go.Proofs.YtmclngahdklfkaaGreatDoor
/- Plain law of texts between marks. -/
namespace Go.Proofs.YtmclngahdklfkaaGreatDoor
open Go.ChangeShapes Go.WideShapes Go.ChangeAt Go.RowKit
set_option linter.unusedVariables false
theorem bfalse {b : Bool} (h : ¬ b = true) : b = false := by
  cases b with
  | false => rfl
  | true => exact absurd rfl h
/-- The place of the first instance from k on; below 0: there is none. -/
def findI (l : List UInt8) (k : Nat) (p : List UInt8) : Int := if Lib.index (l.drop k) p < 0 then -1 else (k : Int) + Lib.index (l.drop k) p
theorem occ_drop (l p : List UInt8) (k j : Nat) : Lib.occAt (l.drop k) p j = p.isPrefixOf (l.drop (k + j)) := by unfold Lib.occAt; rw [List.drop_drop]
theorem findI_hit (l p : List UInt8) (k i : Nat) (hk : k ≤ i) (hi : i ≤ l.length) (h : p.isPrefixOf (l.drop i) = true) (hn : ∀ j, k ≤ j → j < i → p.isPrefixOf (l.drop j) = false) : findI l k p = i := by
  have := Lib.index_first (s := l.drop k) (sub := p) (i := i - k) (by rw [List.length_drop]; omega) (by rw [occ_drop, show k + (i - k) = i by omega]; exact h) (fun j hj => by rw [occ_drop]; exact hn _ (by omega) (by omega))
  unfold findI
  rw [this, if_neg (by omega)]
  omega
theorem findI_none (l p : List UInt8) (k : Nat) (hk : k ≤ l.length) (hn : ∀ j, k ≤ j → j ≤ l.length → p.isPrefixOf (l.drop j) = false) : findI l k p = -1 := by
  have := Lib.index_none (s := l.drop k) (sub := p) (fun j hj => by rw [occ_drop]; rw [List.length_drop] at hj; exact hn _ (by omega) (by omega))
  unfold findI
  rw [this, if_pos (by omega)]
theorem findI_spec (l p : List UInt8) (k : Nat) (hk : k ≤ l.length) : (findI l k p = -1 ∧ ∀ j, k ≤ j → j ≤ l.length → p.isPrefixOf (l.drop j) = false) ∨
    ∃ i : Nat, findI l k p = i ∧ k ≤ i ∧ i + p.length ≤ l.length ∧ p.isPrefixOf (l.drop i) = true ∧ ∀ j, k ≤ j → j < i → p.isPrefixOf (l.drop j) = false := by
  rcases Lib.index_spec (l.drop k) p with ⟨h, hn⟩ | ⟨i, h, hi, ho, hn⟩
  · refine .inl ⟨by unfold findI; rw [h, if_pos (by omega)], fun j hj hjl => ?_⟩
    have := hn (j - k) (by rw [List.length_drop]; omega)
    rwa [occ_drop, show k + (j - k) = j by omega] at this
  · rw [occ_drop] at ho
    refine .inr ⟨k + i, by unfold findI; rw [h, if_neg (by omega)]; omega, by omega, ?_, ho, fun j hj hji => ?_⟩
    · have := (List.isPrefixOf_iff_prefix.1 ho).length_le
      rw [List.length_drop] at this
      rw [List.length_drop] at hi
      omega
    · have := hn (j - k) (by omega)
      rwa [occ_drop, show k + (j - k) = j by omega] at this
/-- The byte at a place of what stands there. -/
theorem pre_get {p l : List UInt8} {k : Nat} (h : p.isPrefixOf (l.drop k) = true) (i : Nat) (hi : i < p.length) : l[k + i]? = p[i]? := by
  obtain ⟨t, ht⟩ := List.isPrefixOf_iff_prefix.1 h
  have : (l.drop k)[i]? = p[i]? := by rw [← ht, List.getElem?_append_left hi]
  rw [← this, List.getElem?_drop]
theorem pre_len {p l : List UInt8} {k : Nat} (h : p.isPrefixOf (l.drop k) = true) : p = [] ∨ k + p.length ≤ l.length := by
  have := (List.isPrefixOf_iff_prefix.1 h).length_le
  rw [List.length_drop] at this
  rcases p with _ | ⟨a, t⟩
  · exact .inl rfl
  · simp at this ⊢; omega
/-- How a comment reads: the text, the place behind, the error. -/
def commentOut (l : List UInt8) (k : Nat) : List UInt8 × Nat × Nat :=
  if [60, 33, 45, 45].isPrefixOf (l.drop k) = false then ([], 0, 7) else
  if findI l (k + 4) [45, 45] < 0 then ([], 0, 7) else
  if [45, 45, 62].isPrefixOf (l.drop (findI l (k + 4) [45, 45]).toNat) = true then ((l.drop (k + 4)).take ((findI l (k + 4) [45, 45]).toNat - (k + 4)), (findI l (k + 4) [45, 45]).toNat + 3, 0) else ([], 0, 7)
def cdataOut (l : List UInt8) (k : Nat) : List UInt8 × Nat × Nat :=
  if [60, 33, 91, 67, 68, 65, 84, 65, 91].isPrefixOf (l.drop k) = false then ([], 0, 7) else
  if findI l (k + 9) [93, 93, 62] < 0 then ([], 0, 7) else
  ((l.drop (k + 9)).take ((findI l (k + 9) [93, 93, 62]).toNat - (k + 9)), (findI l (k + 9) [93, 93, 62]).toNat + 3, 0)
/-- What the program reads between marks. -/
def markedOut (p q : List UInt8) (may : List UInt8 → Bool) (l : List UInt8) (k : Nat) : List UInt8 × Nat × Nat :=
  if p.isPrefixOf (l.drop k) = true ∧ 0 ≤ Lib.index (l.drop (k + p.length)) q ∧ may ((l.drop (k + p.length)).take (Lib.index (l.drop (k + p.length)) q).toNat) = true then
    ((l.drop (k + p.length)).take (Lib.index (l.drop (k + p.length)) q).toNat, k + p.length + (Lib.index (l.drop (k + p.length)) q).toNat + q.length, 0) else ([], 0, 7)
def mayComment (s : List UInt8) : Bool := !Lib.contains (s ++ [45]) [45, 45]
def mayCData (s : List UInt8) : Bool := !Lib.contains s [93, 93, 62]
theorem contains_false (s p : List UInt8) (h : ∀ j, j + p.length ≤ s.length → p.isPrefixOf (s.drop j) = false) (hp : p ≠ []) : Lib.contains s p = false := by
  unfold Lib.contains
  rw [Lib.index_none]
  · rfl
  · intro j hj
    by_cases hjl : j + p.length ≤ s.length
    · exact h j hjl
    · unfold Lib.occAt
      refine Classical.byContradiction fun hc => ?_
      have := pre_len (l := s) (k := j) (by simpa using hc)
      rcases this with h' | h'
      · exact hp h'
      · omega
theorem contains_true (s p : List UInt8) (j : Nat) (hj : j ≤ s.length) (h : p.isPrefixOf (s.drop j) = true) : Lib.contains s p = true := by
  rcases Lib.index_spec s p with ⟨h', hn⟩ | ⟨i, h', _⟩
  · have := hn j hj
    unfold Lib.occAt at this
    rw [h] at this; cases this
  · unfold Lib.contains
    rw [h']
    simp
theorem pre_of_get {p l : List UInt8} {k : Nat} (h : ∀ i, i < p.length → l[k + i]? = p[i]?) : p.isPrefixOf (l.drop k) = true := by
  refine List.isPrefixOf_iff_prefix.2 ?_
  refine List.prefix_iff_eq_take.2 (List.ext_getElem? fun i => ?_)
  rw [List.getElem?_take]
  split
  · rename_i hi
    rw [List.getElem?_drop, h i hi]
  · rename_i hi
    rw [List.getElem?_eq_none (by omega)]
theorem marked_yes {p q : List UInt8} {may : List UInt8 → Bool} {l : List UInt8} {k a b j : Nat} (ha : p.length = a) (hb : q.length = b) (hp : p.isPrefixOf (l.drop k) = true) (hx : Lib.index (l.drop (k + a)) q = (j : Int)) (hm : may ((l.drop (k + a)).take j) = true) :
    markedOut p q may l k = ((l.drop (k + a)).take j, k + a + j + b, 0) := by
  subst ha hb
  unfold markedOut
  rw [hx, Int.toNat_natCast, if_pos ⟨hp, by omega, hm⟩]
theorem marked_no {p q : List UInt8} {may : List UInt8 → Bool} {l : List UInt8} {k a : Nat} (ha : p.length = a) (h : p.isPrefixOf (l.drop k) = true → ∀ j : Nat, Lib.index (l.drop (k + a)) q = (j : Int) → may ((l.drop (k + a)).take j) = false) :
    markedOut p q may l k = ([], 0, 7) := by
  subst ha
  unfold markedOut
  rw [if_neg]
  rintro ⟨hp, h0, hm⟩
  have := h hp (Lib.index (l.drop (k + p.length)) q).toNat (by omega)
  rw [hm] at this
  cases this
theorem two_of_three {l : List UInt8} {k : Nat} {a b c : UInt8} (h : [a, b, c].isPrefixOf (l.drop k) = true) : [a, b].isPrefixOf (l.drop k) = true := by
  rw [List.isPrefixOf_iff_prefix] at *
  exact List.IsPrefix.trans ⟨[c], rfl⟩ h
theorem marked_comment (l : List UInt8) (k : Nat) (hk : k ≤ l.length) : markedOut [60, 33, 45, 45] [45, 45, 62] mayComment l k = commentOut l k := by
  by_cases hp : [60, 33, 45, 45].isPrefixOf (l.drop k) = true
  · have hkl : k + 4 ≤ l.length := by have := pre_len hp; simpa using this
    have hnp : ¬ [60, 33, 45, 45].isPrefixOf (l.drop k) = false := by rw [hp]; simp
    rcases findI_spec l [45, 45] (k + 4) hkl with ⟨h, hn⟩ | ⟨i, h, hki, hil, ho, hn⟩
    · have e1 : commentOut l k = ([], 0, 7) := by unfold commentOut; rw [if_neg hnp, h, if_pos (by omega)]
      rw [e1]
      refine marked_no rfl fun _ j hj => ?_
      exfalso
      replace hj : Lib.index (l.drop (k + 4)) [45, 45, 62] = (j : Int) := hj
      rcases Lib.index_spec (l.drop (k + 4)) [45, 45, 62] with ⟨h', _⟩ | ⟨t, h', ht, hot, _⟩
      · rw [h'] at hj; omega
      · rw [occ_drop] at hot
        have hjl := pre_len hot
        simp at hjl
        have := hn (k + 4 + t) (by omega) (by omega)
        rw [two_of_three hot] at this
        cases this
    · have hil' : i + 2 ≤ l.length := by simpa using hil
      by_cases h3 : [45, 45, 62].isPrefixOf (l.drop i) = true
      · have e1 : commentOut l k = ((l.drop (k + 4)).take (i - (k + 4)), i + 3, 0) := by
          unfold commentOut
          rw [if_neg hnp, h, if_neg (by omega), Int.toNat_natCast, if_pos h3]
        have hx : Lib.index (l.drop (k + 4)) [45, 45, 62] = ((i - (k + 4) : Nat) : Int) := Lib.index_first (by rw [List.length_drop]; omega) (by rw [occ_drop, show k + 4 + (i - (k + 4)) = i by omega]; exact h3) (fun j hj => by
          rw [occ_drop]
          refine Classical.byContradiction fun hc => ?_
          have := hn (k + 4 + j) (by omega) (by omega)
          rw [two_of_three (a := 45) (b := 45) (c := 62) (l := l) (k := k + 4 + j) (by simpa using hc)] at this
          cases this)
        have hmay : mayComment ((l.drop (k + 4)).take (i - (k + 4))) = true := by
          unfold mayComment
          rw [contains_false _ _ _ (by simp)]
          · rfl
          · intro j hj
            refine Classical.byContradiction fun hc => ?_
            have hoj : [45, 45].isPrefixOf ((((l.drop (k + 4)).take (i - (k + 4))) ++ [45]).drop j) = true := by simpa using hc
            have hlen : ((l.drop (k + 4)).take (i - (k + 4))).length = i - (k + 4) := by rw [List.length_take, List.length_drop]; omega
            simp only [List.length_append, hlen, List.length_cons, List.length_nil] at hj
            have g0 := pre_get hoj 0 (by simp)
            have g1 := pre_get hoj 1 (by simp)
            rw [Nat.add_zero, List.getElem?_append_left (by omega), List.getElem?_take_of_lt (by omega), List.getElem?_drop] at g0
            have g1' : l[k + 4 + (j + 1)]? = some 45 := by
              by_cases hj1 : j + 1 < i - (k + 4)
              · rw [List.getElem?_append_left (by omega), List.getElem?_take_of_lt (by omega), List.getElem?_drop] at g1
                exact g1
              · have hji : k + 4 + (j + 1) = i + 0 := by omega
                rw [hji, pre_get h3 0 (by simp)]; rfl
            have := hn (k + 4 + j) (by omega) (by omega)
            rw [pre_of_get (fun i hi => by
              simp at hi
              rcases (show i = 0 ∨ i = 1 by omega) with rfl | rfl
              · exact g0
              · rw [Nat.add_assoc]; exact g1')] at this
            cases this
        rw [e1, marked_yes (a := 4) (b := 3) rfl rfl hp hx hmay]
        congr 2
        omega
      · have e1 : commentOut l k = ([], 0, 7) := by
          unfold commentOut
          rw [if_neg hnp, h, if_neg (by omega), Int.toNat_natCast, if_neg h3]
        rw [e1]
        refine marked_no rfl fun _ j hj => ?_
        rcases Lib.index_spec (l.drop (k + 4)) [45, 45, 62] with ⟨h', _⟩ | ⟨t, h', ht, hoj, hnj⟩
        · exfalso
          have hj' : Lib.index (l.drop (k + 4)) [45, 45, 62] = (j : Int) := hj
          rw [h'] at hj'; omega
        · obtain rfl : t = j := by
            have hj' : Lib.index (l.drop (k + 4)) [45, 45, 62] = (j : Int) := hj
            rw [h'] at hj'; omega
          rw [occ_drop] at hoj
          have hjl := pre_len hoj
          simp at hjl
          have hij : i < k + 4 + t := by
            refine Classical.byContradiction fun hc => ?_
            have h2 := two_of_three hoj
            rcases Nat.lt_or_ge (k + 4 + t) i with g | g
            · rw [hn _ (by omega) g] at h2; cases h2
            · obtain rfl : i = k + 4 + t := by omega
              exact h3 hoj
          unfold mayComment
          have hc : Lib.contains (((l.drop (k + 4)).take t) ++ [45]) [45, 45] = true := by
            have hlen : ((l.drop (k + 4)).take t).length = t := by rw [List.length_take, List.length_drop]; omega
            refine contains_true _ _ (i - (k + 4)) (by rw [List.length_append, hlen]; simp; omega) (pre_of_get fun s hs => ?_)
            simp at hs
            have gt := pre_get ho s (by simpa using hs)
            rcases (show i - (k + 4) + s < t ∨ i - (k + 4) + s = t by omega) with g | g
            · rw [List.getElem?_append_left (by omega), List.getElem?_take_of_lt g, List.getElem?_drop, show k + 4 + (i - (k + 4) + s) = i + s by omega]
              exact gt
            · rw [List.getElem?_append_right (by omega), hlen, g, Nat.sub_self]
              rcases (show s = 0 ∨ s = 1 by omega) with rfl | rfl <;> rfl
          show (!Lib.contains (((l.drop (k + 4)).take t) ++ [45]) [45, 45]) = false
          rw [hc]
          rfl
  · have e1 : commentOut l k = ([], 0, 7) := by unfold commentOut; rw [if_pos (by cases h : [60, 33, 45, 45].isPrefixOf (l.drop k) <;> simp_all)]
    rw [e1]
    exact marked_no rfl fun h => absurd h hp
theorem marked_cdata (l : List UInt8) (k : Nat) (hk : k ≤ l.length) : markedOut [60, 33, 91, 67, 68, 65, 84, 65, 91] [93, 93, 62] mayCData l k = cdataOut l k := by
  by_cases hp : [60, 33, 91, 67, 68, 65, 84, 65, 91].isPrefixOf (l.drop k) = true
  · have hkl : k + 9 ≤ l.length := by have := pre_len hp; simpa using this
    have hnp : ¬ [60, 33, 91, 67, 68, 65, 84, 65, 91].isPrefixOf (l.drop k) = false := by rw [hp]; simp
    rcases Lib.index_spec (l.drop (k + 9)) [93, 93, 62] with ⟨h', _⟩ | ⟨j, h', hj, hoj, hnj⟩
    · have e1 : cdataOut l k = ([], 0, 7) := by unfold cdataOut findI; rw [if_neg hnp, h', if_pos (by omega)]
      rw [e1]
      exact marked_no rfl fun _ j hj => by
        have hj' : Lib.index (l.drop (k + 9)) [93, 93, 62] = (j : Int) := hj
        rw [h'] at hj'; omega
    · have hf : findI l (k + 9) [93, 93, 62] = ((k + 9 + j : Nat) : Int) := by unfold findI; rw [h', if_neg (by omega)]; omega
      have e1 : cdataOut l k = ((l.drop (k + 9)).take j, k + 9 + j + 3, 0) := by
        unfold cdataOut
        rw [if_neg hnp, hf, if_neg (by omega), Int.toNat_natCast, show k + 9 + j - (k + 9) = j by omega]
      have hmay : mayCData ((l.drop (k + 9)).take j) = true := by
        unfold mayCData
        rw [contains_false _ _ _ (by simp)]
        · rfl
        · intro t ht
          rw [List.length_drop] at hj
          have hlen : ((l.drop (k + 9)).take j).length = j := by rw [List.length_take, List.length_drop]; omega
          simp only [hlen, List.length_cons, List.length_nil] at ht
          refine Classical.byContradiction fun hc => ?_
          have hot : [93, 93, 62].isPrefixOf (((l.drop (k + 9)).take j).drop t) = true := by simpa using hc
          have := hnj t (by omega)
          unfold Lib.occAt at this
          rw [pre_of_get (fun i hi => by
            rw [← pre_get hot i hi]
            simp at hi
            rw [List.getElem?_take_of_lt (by omega)])] at this
          cases this
      rw [e1, marked_yes (a := 9) (b := 3) rfl rfl hp h' hmay]
  · have e1 : cdataOut l k = ([], 0, 7) := by unfold cdataOut; rw [if_pos (by cases h : [60, 33, 91, 67, 68, 65, 84, 65, 91].isPrefixOf (l.drop k) <;> simp_all)]
    rw [e1]
    exact marked_no rfl fun h => absurd h hp
end Go.Proofs.YtmclngahdklfkaaGreatDoor
/- narthexref08.At, Find. -/
namespace Go.Proofs.YtmclngahdklfkaaGreatDoor
open Go.ChangeShapes Go.WideShapes Go.ChangeAt Go.RowKit
set_option linter.unusedVariables false
theorem pre_take (p l : List UInt8) : p.isPrefixOf l = (l.take p.length == p) := by
  rw [Bool.eq_iff_iff, List.isPrefixOf_iff_prefix, beq_iff_eq, List.prefix_iff_eq_take]
  exact eq_comm
set_option maxRecDepth 100000 in
set_option maxHeartbeats 4000000 in
theorem refAt8_c (A : Option Addr) (n cap : Nat) (l : List UInt8) (k : Nat) (p : List UInt8) (B : Nat) (w : World) (h : Byt w B A n cap l) (hp : p ≠ []) (hm : n ≤ 1000000) (hpl : p.length ≤ 1000000) (hk : k ≤ 2000000) :
    Calls Tryz.prog 30 #[.slice A n cap, .int .i64 k, .string ⟨p.toArray⟩] w fun e w' => e = .returned (.bool (p.isPrefixOf (l.drop k))) ∧ w = w' := by
  have hk0 : (0 : Int) ≤ (k : Int) := by omega
  have hk1 : (k : Int) ≤ 2000000 := by omega
  have hn1 : (n : Int) ≤ 1000000 := by omega
  have hp1 : (p.length : Int) ≤ 1000000 := by omega
  by_cases hkp : k + p.length ≤ n
  · have hle : (p.length : Int) ≤ (n : Int) - (k : Int) := by omega
    have hcap := h.le
    have hst := ((h.drop (k := k) (by omega)).take (k := p.length) (by omega)).str
    have hrf : ∀ w2 : World, (Instr.slice 22 (.slice A n cap) (some (.int .i64 (k : Int))) (some (.int .i64 ((k : Int) + (p.length : Int)))) none).run Tryz.prog w2 = .ok (.slice (cutA A cap k) p.length (cap - k)) w2 := fun w2 => by
      have := run_fromTo (w := w2) A n cap k (k + p.length) (by omega) (by omega)
      rw [show k + p.length - k = p.length by omega, show ((k + p.length : Nat) : Int) = (k : Int) + (p.length : Int) by omega] at this
      exact this
    have HE : Hid (p.isPrefixOf (l.drop k) = ((l.drop k).take p.length == p)) := Lib.hid (pre_take _ _)
    clear hcap h hp hkp
    generalize (l.drop k).take p.length = q at *
    generalize p.isPrefixOf (l.drop k) = r at *
    go_enter Tryz.func30, Tryz.ntmps30
    go_wp2
    go_ret
    rw [HE.out]
    exact ⟨rfl, rfl⟩
  · have hle : ¬ (p.length : Int) ≤ (n : Int) - (k : Int) := by omega
    have HE : Hid (p.isPrefixOf (l.drop k) = false) := Lib.hid (by
      refine Classical.byContradiction fun hc => ?_
      have := pre_len (l := l) (k := k) (p := p) (by simpa using hc)
      rw [h.length] at this
      rcases this with h' | h'
      · exact hp h'
      · exact hkp h')
    rw [HE.out]
    clear HE h hp hkp
    go_enter Tryz.func30, Tryz.ntmps30
    go_wp2
    go_ret
    exact ⟨rfl, rfl⟩
set_option maxRecDepth 100000 in
set_option maxHeartbeats 4000000 in
theorem refFind_c (A : Option Addr) (n cap : Nat) (l : List UInt8) (k : Nat) (p : List UInt8) (B : Nat) (w : World) (h : Byt w B A n cap l) (hp : p ≠ []) (hm : n ≤ 1000000) (hpl : p.length ≤ 1000000) (hk : k ≤ n) :
    Calls Tryz.prog 38 #[.slice A n cap, .int .i64 k, .string ⟨p.toArray⟩] w fun e w' => e = .returned (.int .i64 (findI l k p)) ∧ w = w' := by
  have hn1 : (n : Int) ≤ 1000000 := by omega
  have hn0 : (0 : Int) ≤ (n : Int) := by omega
  have CA : Hid (∀ t : Nat, t ≤ n → Calls Tryz.prog 30 #[.slice A n cap, .int .i64 t, .string ⟨p.toArray⟩] w fun e w' => e = .returned (.bool (p.isPrefixOf (l.drop t))) ∧ w = w') := Lib.hid fun t ht => refAt8_c A n cap l t p B w h hp hm hpl (by omega)
  have hln := Lib.hid h.length
  have HK := Lib.hid hk
  clear h hp hpl
  go_enter Tryz.func38, Tryz.ntmps38
  go_wp2
  go_loopg [7] (n + 1 - k) (fun g i wr => ∃ t : Nat, t ≤ n + 1 ∧ Hid (g + t = n + 1) ∧ i = .int .i64 (t : Int) ∧ w = wr ∧ Hid (k ≤ t ∧ ∀ j, k ≤ j → j < t → p.isPrefixOf (l.drop j) = false))
  case atStart => exact ⟨k, by omega, Lib.hid (by omega), rfl, rfl, Lib.hid ⟨Nat.le_refl _, fun j h1 h2 => absurd h1 (by omega)⟩⟩
  case round =>
    obtain ⟨t, ht, hg, rfl, rfl, HN⟩ := hrel
    have ht0 : (0 : Int) ≤ (t : Int) := by omega
    have htb : (t : Int) ≤ 1000001 := by omega
    by_cases htn : t ≤ n
    · have htni : (t : Int) ≤ (n : Int) := by omega
      have CT := Lib.hid (CA.out t htn)
      cases hpt : p.isPrefixOf (l.drop t) with
      | true =>
        rw [hpt] at CT
        have HE : Hid (findI l k p = (t : Int)) := Lib.hid (findI_hit l p k t HN.out.1 (by rw [hln.out]; exact htn) hpt HN.out.2)
        clear hpt
        go_wp2_with fail
        refine (CT.out).mono ?_
        rintro e wq ⟨rfl, rfl⟩
        go_wp2
        go_ret
        exact ⟨by rw [HE.out]; rfl, rfl⟩
      | false =>
        rw [hpt] at CT
        have HN2 : Hid (k ≤ t + 1 ∧ ∀ j, k ≤ j → j < t + 1 → p.isPrefixOf (l.drop j) = false) := Lib.hid ⟨by have := HN.out.1; omega, fun j h1 h2 => by
          rcases (show j < t ∨ j = t by omega) with h' | rfl
          · exact HN.out.2 j h1 h'
          · exact hpt⟩
        clear hpt
        go_wp2_with fail
        refine (CT.out).mono ?_
        rintro e wq ⟨rfl, rfl⟩
        go_wp2
        go_roundg (n + 1 - (t + 1))
        case measure => have := hg.out; omega
        case rel => exact ⟨t + 1, by omega, Lib.hid (by omega), by go_num, rfl, HN2⟩
    · have htni : ¬ (t : Int) ≤ (n : Int) := by omega
      have HE : Hid (findI l k p = -1) := Lib.hid (findI_none l p k (by rw [hln.out]; exact HK.out) (fun j h1 h2 => HN.out.2 j h1 (by rw [hln.out] at h2; omega)))
      go_wp2
      go_ret
      exact ⟨by rw [HE.out]; rfl, rfl⟩
end Go.Proofs.YtmclngahdklfkaaGreatDoor
/- narthexref08.Comment, CData. -/
namespace Go.Proofs.YtmclngahdklfkaaGreatDoor
open Go.ChangeShapes Go.WideShapes Go.ChangeAt Go.RowKit
set_option linter.unusedVariables false
set_option maxRecDepth 100000 in
set_option maxHeartbeats 4000000 in
theorem refComment_range (A : Option Addr) (n cap : Nat) (at_ : Int) (w : World) (ha : at_ < 0 ∨ (n : Int) < at_) :
    Calls Tryz.prog 31 #[.slice A n cap, .int .i64 at_] w fun e w' => e = .returned (outV ([], 0, 3)) ∧ w = w' := by
  by_cases h0 : at_ < 0
  · have hd : decide (at_ < 0) = true := by simpa using h0
    clear ha
    go_enter Tryz.func31, Tryz.ntmps31
    go_wp2
    go_ret3
    exact ⟨rfl, rfl⟩
  · have h1 : (n : Int) < at_ := by omega
    clear ha
    go_enter Tryz.func31, Tryz.ntmps31
    go_wp2
    go_ret3
    exact ⟨rfl, rfl⟩
set_option maxRecDepth 100000 in
set_option maxHeartbeats 4000000 in
theorem refComment_c (A : Option Addr) (n cap : Nat) (l : List UInt8) (k : Nat) (B : Nat) (w : World) (h : Byt w B A n cap l) (hm : n ≤ 100000) (hk : k ≤ n) :
    Calls Tryz.prog 31 #[.slice A n cap, .int .i64 k] w fun e w' => e = .returned (outV (commentOut l k)) ∧ w = w' := by
  have hk' : ¬ (n : Int) < (k : Int) := by omega
  have hk0 : (0 : Int) ≤ (k : Int) := by omega
  have hk1 : (k : Int) ≤ 100000 := by omega
  have c1 := refAt8_c A n cap l k [60, 33, 45, 45] B w h (by simp) (by omega) (by simp) (by omega)
  have hln := h.length
  by_cases hp : [60, 33, 45, 45].isPrefixOf (l.drop k) = true
  · have hkl : k + 4 ≤ n := by have := pre_len hp; simp at this; omega
    have c2 := refFind_c A n cap l (k + 4) [45, 45] B w h (by simp) (by omega) (by simp) hkl
    rw [show ((k + 4 : Nat) : Int) = (k : Int) + 4 by omega] at c2
    have hsp := findI_spec l [45, 45] (k + 4) (by omega)
    rw [hp] at c1
    have C1 := Lib.hid c1
    clear c1
    have HO : Hid (commentOut l k = if findI l (k + 4) [45, 45] < 0 then ([], 0, 7) else
  if [45, 45, 62].isPrefixOf (l.drop (findI l (k + 4) [45, 45]).toNat) = true then ((l.drop (k + 4)).take ((findI l (k + 4) [45, 45]).toNat - (k + 4)), (findI l (k + 4) [45, 45]).toNat + 3, 0) else ([], 0, 7)) := Lib.hid (by unfold commentOut; rw [if_neg (by rw [hp]; simp)])
    rcases hsp with ⟨hf, _⟩ | ⟨i, hf, hki, hil, hpre, _⟩
    · rw [hf] at c2
      have C2 := Lib.hid c2
      have HR : Hid (commentOut l k = ([], 0, 7)) := Lib.hid (by rw [HO.out, hf]; rfl)
      rw [HR.out]
      clear c2 h hp hf hln HO HR
      go_enter Tryz.func31, Tryz.ntmps31
      go_wp2_with fail
      refine (C1.out).mono ?_
      rintro e wq ⟨rfl, rfl⟩
      go_wp2_with fail
      refine (C2.out).mono ?_
      rintro e wq ⟨rfl, rfl⟩
      go_wp2
      go_ret3
      exact ⟨rfl, rfl⟩
    · simp at hil
      rw [hf] at c2
      have C2 := Lib.hid c2
      have c3 := refAt8_c A n cap l i [45, 45, 62] B w h (by simp) (by omega) (by simp) (by omega)
      have hi0 : (0 : Int) ≤ (i : Int) := by omega
      have hi1 : (i : Int) ≤ 100000 := by omega
      have hlt : ¬ (i : Int) < 0 := by omega
      by_cases h3 : [45, 45, 62].isPrefixOf (l.drop i) = true
      · rw [h3] at c3
        have C3 := Lib.hid c3
        have hcap := h.le
        have hst := ((h.drop (k := k + 4) (by omega)).take (k := i - (k + 4)) (by omega)).str
        have hrf : ∀ w2 : World, (Instr.slice 22 (.slice A n cap) (some (.int .i64 ((k : Int) + 4))) (some (.int .i64 (i : Int))) none).run Tryz.prog w2 = .ok (.slice (cutA A cap (k + 4)) (i - (k + 4)) (cap - (k + 4))) w2 := fun w2 => by
          have := run_fromTo (w := w2) A n cap (k + 4) i (by omega) (by omega)
          rw [show ((k + 4 : Nat) : Int) = (k : Int) + 4 by omega] at this
          exact this
        have HR : Hid (commentOut l k = ((l.drop (k + 4)).take (i - (k + 4)), i + 3, 0)) := Lib.hid (by
          rw [HO.out, hf, if_neg (by omega), Int.toNat_natCast, if_pos h3])
        rw [HR.out]
        clear c2 c3 h hp hf hln hcap hil hpre h3 HO HR hkl
        generalize (l.drop (k + 4)).take (i - (k + 4)) = q at *
        unfold outV
        go_enter Tryz.func31, Tryz.ntmps31
        go_wp2_with fail
        refine (C1.out).mono ?_
        rintro e wq ⟨rfl, rfl⟩
        go_wp2_with fail
        refine (C2.out).mono ?_
        rintro e wq ⟨rfl, rfl⟩
        go_wp2_with fail
        refine (C3.out).mono ?_
        rintro e wq ⟨rfl, rfl⟩
        go_wp2
        go_ret3
        exact ⟨rfl, rfl⟩
      · have h3' : [45, 45, 62].isPrefixOf (l.drop i) = false := bfalse h3
        rw [h3'] at c3
        have C3 := Lib.hid c3
        have HR : Hid (commentOut l k = ([], 0, 7)) := Lib.hid (by
          rw [HO.out, hf, if_neg (by omega), Int.toNat_natCast, if_neg h3])
        rw [HR.out]
        clear c2 c3 h hp hf hln hil hpre h3 h3' HO HR hkl
        go_enter Tryz.func31, Tryz.ntmps31
        go_wp2_with fail
        refine (C1.out).mono ?_
        rintro e wq ⟨rfl, rfl⟩
        go_wp2_with fail
        refine (C2.out).mono ?_
        rintro e wq ⟨rfl, rfl⟩
        go_wp2_with fail
        refine (C3.out).mono ?_
        rintro e wq ⟨rfl, rfl⟩
        go_wp2
        go_ret3
        exact ⟨rfl, rfl⟩
  · have hp' : [60, 33, 45, 45].isPrefixOf (l.drop k) = false := by
      cases hx : [60, 33, 45, 45].isPrefixOf (l.drop k) with
      | false => rfl
      | true => exact absurd hx hp
    rw [hp'] at c1
    have C1 := Lib.hid c1
    have HR : Hid (commentOut l k = ([], 0, 7)) := Lib.hid (by unfold commentOut; rw [if_pos hp'])
    rw [HR.out]
    clear c1 h hp hp' hln HR
    go_enter Tryz.func31, Tryz.ntmps31
    go_wp2_with fail
    refine (C1.out).mono ?_
    rintro e wq ⟨rfl, rfl⟩
    go_wp2
    go_ret3
    exact ⟨rfl, rfl⟩
set_option maxRecDepth 100000 in
set_option maxHeartbeats 4000000 in
theorem refCData_range (A : Option Addr) (n cap : Nat) (at_ : Int) (w : World) (ha : at_ < 0 ∨ (n : Int) < at_) :
    Calls Tryz.prog 32 #[.slice A n cap, .int .i64 at_] w fun e w' => e = .returned (outV ([], 0, 3)) ∧ w = w' := by
  by_cases h0 : at_ < 0
  · have hd : decide (at_ < 0) = true := by simpa using h0
    clear ha
    go_enter Tryz.func32, Tryz.ntmps32
    go_wp2
    go_ret3
    exact ⟨rfl, rfl⟩
  · have h1 : (n : Int) < at_ := by omega
    clear ha
    go_enter Tryz.func32, Tryz.ntmps32
    go_wp2
    go_ret3
    exact ⟨rfl, rfl⟩
set_option maxRecDepth 100000 in
set_option maxHeartbeats 4000000 in
theorem refCData_c (A : Option Addr) (n cap : Nat) (l : List UInt8) (k : Nat) (B : Nat) (w : World) (h : Byt w B A n cap l) (hm : n ≤ 100000) (hk : k ≤ n) :
    Calls Tryz.prog 32 #[.slice A n cap, .int .i64 k] w fun e w' => e = .returned (outV (cdataOut l k)) ∧ w = w' := by
  have hk' : ¬ (n : Int) < (k : Int) := by omega
  have hk0 : (0 : Int) ≤ (k : Int) := by omega
  have hk1 : (k : Int) ≤ 100000 := by omega
  have c1 := refAt8_c A n cap l k [60, 33, 91, 67, 68, 65, 84, 65, 91] B w h (by simp) (by omega) (by simp) (by omega)
  have hln := h.length
  by_cases hp : [60, 33, 91, 67, 68, 65, 84, 65, 91].isPrefixOf (l.drop k) = true
  · have hkl : k + 9 ≤ n := by have := pre_len hp; simp at this; omega
    have c2 := refFind_c A n cap l (k + 9) [93, 93, 62] B w h (by simp) (by omega) (by simp) hkl
    rw [show ((k + 9 : Nat) : Int) = (k : Int) + 9 by omega] at c2
    have hsp := findI_spec l [93, 93, 62] (k + 9) (by omega)
    rw [hp] at c1
    have C1 := Lib.hid c1
    clear c1
    have HO : Hid (cdataOut l k = if findI l (k + 9) [93, 93, 62] < 0 then ([], 0, 7) else
  ((l.drop (k + 9)).take ((findI l (k + 9) [93, 93, 62]).toNat - (k + 9)), (findI l (k + 9) [93, 93, 62]).toNat + 3, 0)) := Lib.hid (by unfold cdataOut; rw [if_neg (by rw [hp]; simp)])
    rcases hsp with ⟨hf, _⟩ | ⟨i, hf, hki, hil, hpre, _⟩
    · rw [hf] at c2
      have C2 := Lib.hid c2
      have HR : Hid (cdataOut l k = ([], 0, 7)) := Lib.hid (by rw [HO.out, hf]; rfl)
      rw [HR.out]
      clear c2 h hp hf hln HO HR
      go_enter Tryz.func32, Tryz.ntmps32
      go_wp2_with fail
      refine (C1.out).mono ?_
      rintro e wq ⟨rfl, rfl⟩
      go_wp2_with fail
      refine (C2.out).mono ?_
      rintro e wq ⟨rfl, rfl⟩
      go_wp2
      go_ret3
      exact ⟨rfl, rfl⟩
    · simp at hil
      rw [hf] at c2
      have C2 := Lib.hid c2
      have hi0 : (0 : Int) ≤ (i : Int) := by omega
      have hi1 : (i : Int) ≤ 100000 := by omega
      have hlt : ¬ (i : Int) < 0 := by omega
      have hcap := h.le
      have hst := ((h.drop (k := k + 9) (by omega)).take (k := i - (k + 9)) (by omega)).str
      have hrf : ∀ w2 : World, (Instr.slice 22 (.slice A n cap) (some (.int .i64 ((k : Int) + 9))) (some (.int .i64 (i : Int))) none).run Tryz.prog w2 = .ok (.slice (cutA A cap (k + 9)) (i - (k + 9)) (cap - (k + 9))) w2 := fun w2 => by
        have := run_fromTo (w := w2) A n cap (k + 9) i (by omega) (by omega)
        rw [show ((k + 9 : Nat) : Int) = (k : Int) + 9 by omega] at this
        exact this
      have HR : Hid (cdataOut l k = ((l.drop (k + 9)).take (i - (k + 9)), i + 3, 0)) := Lib.hid (by
        rw [HO.out, hf, if_neg (by omega), Int.toNat_natCast])
      rw [HR.out]
      clear c2 h hp hf hln hcap hil hpre HO HR hkl
      generalize (l.drop (k + 9)).take (i - (k + 9)) = q at *
      unfold outV
      go_enter Tryz.func32, Tryz.ntmps32
      go_wp2_with fail
      refine (C1.out).mono ?_
      rintro e wq ⟨rfl, rfl⟩
      go_wp2_with fail
      refine (C2.out).mono ?_
      rintro e wq ⟨rfl, rfl⟩
      go_wp2
      go_ret3
      exact ⟨rfl, rfl⟩
  · have hp' : [60, 33, 91, 67, 68, 65, 84, 65, 91].isPrefixOf (l.drop k) = false := by
      cases hx : [60, 33, 91, 67, 68, 65, 84, 65, 91].isPrefixOf (l.drop k) with
      | false => rfl
      | true => exact absurd hx hp
    rw [hp'] at c1
    have C1 := Lib.hid c1
    have HR : Hid (cdataOut l k = ([], 0, 7)) := Lib.hid (by unfold cdataOut; rw [if_pos hp'])
    rw [HR.out]
    clear c1 h hp hp' hln HR
    go_enter Tryz.func32, Tryz.ntmps32
    go_wp2_with fail
    refine (C1.out).mono ?_
    rintro e wq ⟨rfl, rfl⟩
    go_wp2
    go_ret3
    exact ⟨rfl, rfl⟩
end Go.Proofs.YtmclngahdklfkaaGreatDoor
/- misc: what stands between marks: comments. -/
namespace Go.Proofs.YtmclngahdklfkaaGreatDoor
open Go.ChangeShapes Go.WideShapes Go.ChangeAt Go.RowKit
set_option linter.unusedVariables false
/-- What stands while marks are read: below w all as it was, and the sort's own block. -/
def MkJ (p q : List UInt8) (fid : Nat) (w W : World) : Prop :=
  Below w.heap.size w W ∧ w.heap.size < W.heap.size ∧ W.cell? ⟨w.heap.size, 0, none⟩ = some (.string ⟨p.toArray⟩) ∧ W.cell? ⟨w.heap.size, 1, none⟩ = some (.string ⟨q.toArray⟩) ∧ W.cell? ⟨w.heap.size, 2, none⟩ = some (.func (.func fid) #[] #[])
theorem MkJ.kept {p q : List UInt8} {fid : Nat} {w W W' : World} (h : MkJ p q fid w W) (hb : Below W.heap.size W W') : MkJ p q fid w W' :=
  ⟨h.1.trans (hb.mono h.1.size), by have := hb.size; have := h.2.1; omega, by rw [hb.cell h.2.1]; exact h.2.2.1, by rw [hb.cell h.2.1]; exact h.2.2.2.1, by rw [hb.cell h.2.1]; exact h.2.2.2.2⟩
theorem MkJ.drewN {p q : List UInt8} {fid : Nat} {w W : World} (h : MkJ p q fid w W) (n : Nat) : MkJ p q fid w (W.drewN n) := h.kept (below_drewN' (Below.refl _ _))
def commentsV : Value := .agg #[.string ⟨#[60, 33, 45, 45]⟩, .string ⟨#[45, 45, 62]⟩, .func (.func 118) #[] #[]]
set_option maxRecDepth 100000 in
set_option maxHeartbeats 4000000 in
theorem comments_c (w : World) : Calls Tryz.prog 84 #[] w fun e w' => e = .returned commentsV ∧ Below w.heap.size w w' := by
  have hF := Lib.hid (hp_new w (.cells #[.string ⟨#[60, 33, 45, 45]⟩, .string ⟨#[45, 45, 62]⟩, .func (.func 118) #[] #[]] 111))
  have hb := Lib.hid (Below.alloc (Below.refl w.heap.size w) (Nat.le_refl _) (.cells #[.string ⟨#[60, 33, 45, 45]⟩, .string ⟨#[45, 45, 62]⟩, .func (.func 118) #[] #[]] 111))
  go_enter Tryz.func84, Tryz.ntmps84
  go_wp2
  have hi : (Tryz.prog.info? 111).map (·.size) = some 3 := by kernel_rfl
  obtain ⟨d, hu⟩ := isStruct_of (P := Tryz.prog) (t := 111) (by kernel_rfl)
  (try simp only [Exit.inBlock, Exit.then])
  refine bodyPost_ret (results_cell_row rfl _ _ w.heap.size _ _ _ _ rfl hF.out hu rfl hi) rfl ⟨rfl, hb.out⟩
set_option maxRecDepth 100000 in
set_option maxHeartbeats 4000000 in
theorem commentsRead_range (A : Option Addr) (n cap : Nat) (at_ : Int) (w : World) (ha : at_ < 0 ∨ (n : Int) < at_) :
    Calls Tryz.prog 94 #[commentsV, .slice A n cap, .int .i64 at_] w fun e w' => e = .returned (outV ([], 0, 3)) ∧ Below w.heap.size w w' := by
  have hb := Lib.hid (Below.alloc (Below.refl w.heap.size w) (Nat.le_refl _) (.cells #[.string ⟨#[60, 33, 45, 45]⟩, .string ⟨#[45, 45, 62]⟩, .func (.func 118) #[] #[]] 111))
  unfold commentsV
  by_cases h0 : at_ < 0
  · have hd : decide (at_ < 0) = true := by simpa using h0
    clear ha
    go_enter Tryz.func94, Tryz.ntmps94
    go_wp2
    go_ret3
    exact ⟨rfl, hb.out⟩
  · have h1 : (n : Int) < at_ := by omega
    clear ha
    go_enter Tryz.func94, Tryz.ntmps94
    go_wp2
    go_ret3
    exact ⟨rfl, hb.out⟩
set_option maxRecDepth 100000 in
set_option maxHeartbeats 4000000 in
theorem comments1_c (s : List UInt8) (w : World) (hM : MaxL w) (hs : s.length ≤ 500000) :
    Calls Tryz.prog 118 #[.string ⟨s.toArray⟩] w fun e w' => e = .returned (.bool (mayComment s)) ∧ w = w' := by
  have hct : (Op.stringOp .add ⟨s.toArray⟩ ⟨#[45]⟩).run Tryz.prog w = .ok (.string ⟨(s ++ [45]).toArray⟩) w := run_sop (w := w) s [45] (by simp; omega)
  have C1 := Lib.hid (contains_c (s ++ [45]) [45, 45] w hM (by simp; omega))
  unfold mayComment
  generalize Lib.contains (s ++ [45]) [45, 45] = r at *
  generalize s ++ [45] = s2 at *
  clear hM hs
  cases r
  all_goals
    go_enter Tryz.func118, Tryz.ntmps118
    go_wp2_with fail
    refine (C1.out).mono ?_
    rintro e wq ⟨rfl, rfl⟩
    go_wp2
    go_ret
    exact ⟨rfl, rfl⟩
set_option maxRecDepth 100000 in
set_option maxHeartbeats 4000000 in
theorem commentsRead_c (A : Option Addr) (n cap : Nat) (l : List UInt8) (k : Nat) (w : World) (h : Byt w w.heap.size A n cap l) (hM : MaxL w) (hm : n ≤ 100000) (hk : k ≤ n) :
    Calls Tryz.prog 94 #[commentsV, .slice A n cap, .int .i64 k] w fun e w' => e = .returned (outV (markedOut [60, 33, 45, 45] [45, 45, 62] mayComment l k)) ∧ Below w.heap.size w w' := by
  have hk' : ¬ (n : Int) < (k : Int) := by omega
  have hk0 : (0 : Int) ≤ (k : Int) := by omega
  have hk1 : (k : Int) ≤ 100000 := by omega
  have f0 := hp_new w (.cells #[.string ⟨#[60, 33, 45, 45]⟩, .string ⟨#[45, 45, 62]⟩, .func (.func 118) #[] #[]] 111)
  have z0 : (w.alloc (.cells #[.string ⟨#[60, 33, 45, 45]⟩, .string ⟨#[45, 45, 62]⟩, .func (.func 118) #[] #[]] 111)).cell? ⟨w.heap.size, 0, none⟩ = some (.string ⟨#[60, 33, 45, 45]⟩) := cell_of 0 f0
  have z1 : (w.alloc (.cells #[.string ⟨#[60, 33, 45, 45]⟩, .string ⟨#[45, 45, 62]⟩, .func (.func 118) #[] #[]] 111)).cell? ⟨w.heap.size, 1, none⟩ = some (.string ⟨#[45, 45, 62]⟩) := cell_of 1 f0
  have z2 : (w.alloc (.cells #[.string ⟨#[60, 33, 45, 45]⟩, .string ⟨#[45, 45, 62]⟩, .func (.func 118) #[] #[]] 111)).cell? ⟨w.heap.size, 2, none⟩ = some (.func (.func 118) #[] #[]) := cell_of 2 f0
  have hb0 : Below w.heap.size w (w.alloc (.cells #[.string ⟨#[60, 33, 45, 45]⟩, .string ⟨#[45, 45, 62]⟩, .func (.func 118) #[] #[]] 111)) := Below.alloc (Below.refl _ _) (Nat.le_refl _) _
  have hJ0 : MkJ [60, 33, 45, 45] [45, 45, 62] 118 w (w.alloc (.cells #[.string ⟨#[60, 33, 45, 45]⟩, .string ⟨#[45, 45, 62]⟩, .func (.func 118) #[] #[]] 111)) := ⟨hb0, by simp, z0, z1, z2⟩
  have HH := Lib.hid (And.intro h hM)
  have hcap := h.le
  have hln := h.length
  have hrf : ∀ W : World, (Instr.slice 22 (.slice A n cap) (some (.int .i64 (k : Int))) none none).run Tryz.prog W = .ok (.slice (cutA A cap k) (n - k) (cap - k)) W := fun W => run_from A n cap k hk
  have hcv : ∀ W : World, (convert 9 22 (.string ⟨#[60, 33, 45, 45]⟩)).run Tryz.prog W = .ok (.slice (some ⟨W.heap.size, 0, none⟩) 4 (grownCap W 4 0 5)) (Lib.bytesWorld W 5 ⟨#[60, 33, 45, 45]⟩) := fun W => run_toBytes W [60, 33, 45, 45]
  have hcq : ∀ W : World, (convert 9 22 (.string ⟨#[45, 45, 62]⟩)).run Tryz.prog W = .ok (.slice (some ⟨W.heap.size, 0, none⟩) 3 (grownCap W 3 0 5)) (Lib.bytesWorld W 5 ⟨#[45, 45, 62]⟩) := fun W => run_toBytes W [45, 45, 62]
  have hsize : (w.alloc (.cells #[.string ⟨#[60, 33, 45, 45]⟩, .string ⟨#[45, 45, 62]⟩, .func (.func 118) #[] #[]] 111)).heap.size = w.heap.size + 1 := by simp
  have HCI : Hid (∀ (R : Option Addr) (rn rc : Nat) (rl : List UInt8), (∀ W, MkJ [60, 33, 45, 45] [45, 45, 62] 118 w W → Byt W w.heap.size R rn rc rl) → rn ≤ 100000 → ∀ W : World, Hid (MkJ [60, 33, 45, 45] [45, 45, 62] 118 w W) → Calls Tryz.prog 96 #[.slice R rn rc, .slice (some ⟨W.heap.size, 0, none⟩) 3 (grownCap W 3 0 5)] (Lib.bytesWorld W 5 ⟨#[45, 45, 62]⟩) fun e w' => e = .returned (.int .i64 (Lib.index rl [45, 45, 62])) ∧ Hid (MkJ [60, 33, 45, 45] [45, 45, 62] 118 w w')) := Lib.hid fun R rn rc rl hR hrn W HJ => by
    have hJ1 := HJ.out.kept (Lib.bytesWorld_below W 5 ⟨#[45, 45, 62]⟩)
    exact (bindex_c R _ rn rc 3 _ rl [45, 45, 62] _ _ _ (hR _ hJ1) (byt_new W [45, 45, 62] (by simp)) (HH.out.2.below hJ1.1 HH.out.2.lt) (by omega) (by omega) (by omega)).mono fun e w' ⟨he, q, hq⟩ => ⟨he, Lib.hid (hq ▸ hJ1.drewN q)⟩
  have hA : ∀ W, MkJ [60, 33, 45, 45] [45, 45, 62] 118 w W → Byt W w.heap.size A n cap l := fun W hJ => h.below hJ.1
  by_cases hp : [60, 33, 45, 45].isPrefixOf (l.drop k) = true
  · have hkl : k + 4 ≤ n := by have := pre_len hp; simp at this; omega
    have CP : Hid (∀ W : World, Hid (∃ m, W = (w.alloc (.cells #[.string ⟨#[60, 33, 45, 45]⟩, .string ⟨#[45, 45, 62]⟩, .func (.func 118) #[] #[]] 111)).drewN m) → Calls Tryz.prog 126 #[.slice (cutA A cap k) (n - k) (cap - k), .slice (some ⟨w.heap.size + 1, 0, none⟩) 4 (grownCap W 4 0 5)] (Lib.bytesWorld W 5 ⟨#[60, 33, 45, 45]⟩) fun e w' => e = .returned (.tuple #[.slice (cutA (cutA A cap k) (cap - k) 4) (n - k - 4) (cap - k - 4), .bool true]) ∧ Hid (MkJ [60, 33, 45, 45] [45, 45, 62] 118 w w')) := Lib.hid fun W HW => by
      obtain ⟨m, rfl⟩ := HW.out
      have hJ1 := (hJ0.drewN m).kept (Lib.bytesWorld_below _ 5 ⟨#[60, 33, 45, 45]⟩)
      have hn := byt_new ((w.alloc (.cells #[.string ⟨#[60, 33, 45, 45]⟩, .string ⟨#[45, 45, 62]⟩, .func (.func 118) #[] #[]] 111)).drewN m) [60, 33, 45, 45] (by simp)
      rw [show ((w.alloc (.cells #[.string ⟨#[60, 33, 45, 45]⟩, .string ⟨#[45, 45, 62]⟩, .func (.func 118) #[] #[]] 111)).drewN m).heap.size = w.heap.size + 1 from hsize] at hn
      exact (cutPrefix_yes _ _ _ _ _ _ _ _ _ _ _ ((hA _ hJ1).drop hk) hn (by simp) hp).mono fun e w' ⟨he, hw⟩ => ⟨he, Lib.hid (hw ▸ hJ1)⟩
    have hR : ∀ W, MkJ [60, 33, 45, 45] [45, 45, 62] 118 w W → Byt W w.heap.size (cutA (cutA A cap k) (cap - k) 4) (n - k - 4) (cap - k - 4) (l.drop (k + 4)) := fun W hJ => by
      have := ((hA W hJ).drop hk).drop (k := 4) (by omega)
      rwa [List.drop_drop] at this
    have CI := Lib.hid (HCI.out _ _ _ _ hR (by omega))
    have HR := Lib.hid hR
    have hix := Lib.index_spec (l.drop (k + 4)) [45, 45, 62]
    have hrc : n - k - 4 ≤ cap - k - 4 := by omega
    have HRL : Hid ((l.drop (k + 4)).length = n - k - 4) := Lib.hid (by rw [List.length_drop]; omega)
    rcases hix with ⟨hi, _⟩ | ⟨j, hi, hj, hoc, _⟩
    · have HE : Hid (markedOut [60, 33, 45, 45] [45, 45, 62] mayComment l k = ([], 0, 7)) := Lib.hid (marked_no rfl fun _ j hj => by
        have hj' : Lib.index (l.drop (k + 4)) [45, 45, 62] = (j : Int) := hj
        rw [hi] at hj'; omega)
      rw [HE.out]
      rw [hi] at CI
      clear h hM hb0 f0 hJ0 hA hR hi HE HCI hln hsize HRL hkl hrc z1 z2 hp
      generalize cutA (cutA A cap k) (cap - k) 4 = R at *
      generalize n - k - 4 = rn at *
      generalize cap - k - 4 = rc at *
      unfold commentsV
      go_enter Tryz.func94, Tryz.ntmps94
      go_wp2
      go_region_with (first
        | (go_at_call 126; refine (CP.out _ (by first | exact Lib.hid ⟨0, rfl⟩ | exact Lib.hid ⟨1, rfl⟩ | exact Lib.hid ⟨2, rfl⟩ | exact Lib.hid ⟨3, rfl⟩)).mono ?_; rintro e w1 ⟨rfl, HJ1⟩))
      all_goals
        clear hcv z0
        have z1 := HJ1.out.2.2.2.1
        go_wp2_with fail
        refine (CI.out _ HJ1).mono ?_
        rintro e w2 ⟨rfl, HJ2⟩
        clear hcq z1
        go_wp2
        go_quiet (fail)
        have HJ3 := Lib.hid (HJ2.out.drewN nq)
        generalize w2.drewN nq = w3 at *
        go_wp2
        go_ret3
        exact ⟨rfl, HJ3.out.1⟩
    · have hjr : j ≤ n - k - 4 := by have := HRL.out; omega
      have hj0 : (0 : Int) ≤ (j : Int) := by omega
      have hj1 : (j : Int) ≤ 100000 := by omega
      have hjd : decide ((j : Int) < 0) = false := by simp
      have hjc : j ≤ cap - k - 4 := by omega
      have hct : ∀ W : World, (Instr.slice 22 (.slice (cutA (cutA A cap k) (cap - k) 4) (n - k - 4) (cap - k - 4)) none (some (.int .i64 (j : Int))) none).run Tryz.prog W = .ok (.slice (cutA (cutA A cap k) (cap - k) 4) j (cap - k - 4)) W := fun W => run_upTo _ _ _ _ hjc
      have HST : Hid (∀ W, MkJ [60, 33, 45, 45] [45, 45, 62] 118 w W → (convert 22 9 (.slice (cutA (cutA A cap k) (cap - k) 4) j (cap - k - 4))).run Tryz.prog W = .ok (.string ⟨((l.drop (k + 4)).take j).toArray⟩) W) := Lib.hid fun W hJ => ((hR W hJ).take hjr).str
      have CM : Hid (∀ W, MkJ [60, 33, 45, 45] [45, 45, 62] 118 w W → Calls Tryz.prog 118 #[.string ⟨((l.drop (k + 4)).take j).toArray⟩] W fun e w' => e = .returned (.bool (mayComment ((l.drop (k + 4)).take j))) ∧ w' = W) := Lib.hid fun W hJ => (comments1_c _ W (HH.out.2.below hJ.1 HH.out.2.lt) (by rw [List.length_take]; omega)).mono fun e w' ⟨he, hw⟩ => ⟨he, hw.symm⟩
      have HE : Hid (markedOut [60, 33, 45, 45] [45, 45, 62] mayComment l k = if mayComment ((l.drop (k + 4)).take j) = true then ((l.drop (k + 4)).take j, k + 4 + j + 3, 0) else ([], 0, 7)) := Lib.hid (by
        by_cases hmy : mayComment ((l.drop (k + 4)).take j) = true
        · rw [if_pos hmy]; exact marked_yes (a := 4) (b := 3) rfl rfl hp hi hmy
        · rw [if_neg hmy]
          refine marked_no rfl fun _ t ht => ?_
          have ht' : Lib.index (l.drop (k + 4)) [45, 45, 62] = (t : Int) := ht
          obtain rfl : j = t := by rw [hi] at ht'; omega
          exact bfalse hmy)
      rw [HE.out]
      rw [hi] at CI
      clear h hM hb0 f0 hJ0 hA hR hi HE HCI hln hsize HRL hkl hrc z1 z2 hp hj hoc hjr hjc hcap
      generalize cutA (cutA A cap k) (cap - k) 4 = R at *
      generalize n - k - 4 = rn at *
      generalize cap - k - 4 = rc at *
      generalize (l.drop (k + 4)).take j = T at *
      generalize mayComment T = my at *
      unfold commentsV
      cases my
      all_goals
        simp only [if_true, Bool.false_eq_true, if_false]
        go_enter Tryz.func94, Tryz.ntmps94
        go_wp2
        go_region_with (first
          | (go_at_call 126; refine (CP.out _ (by first | exact Lib.hid ⟨0, rfl⟩ | exact Lib.hid ⟨1, rfl⟩ | exact Lib.hid ⟨2, rfl⟩ | exact Lib.hid ⟨3, rfl⟩)).mono ?_; rintro e w1 ⟨rfl, HJ1⟩))
        all_goals
          clear hcv z0
          have z1 := HJ1.out.2.2.2.1
          go_wp2_with fail
          refine (CI.out _ HJ1).mono ?_
          rintro e w2 ⟨rfl, HJ2⟩
          clear hcq z1
          have z2 := HJ2.out.2.2.2.2
          have hst : ∀ m, (convert 22 9 (.slice R j rc)).run Tryz.prog (w2.drewN m) = .ok (.string ⟨T.toArray⟩) (w2.drewN m) := fun m => HST.out _ (HJ2.out.drewN m)
          have CMm := Lib.hid (fun m => CM.out _ (HJ2.out.drewN m))
          go_wp2
          go_quiet ((go_at_call 118; exact Calls.quiet_of_same (CMm.out _)))
          have HJ3 := Lib.hid (HJ2.out.drewN nq)
          clear hst CMm z2
          generalize w2.drewN nq = w3 at *
          have z0 := HJ3.out.2.2.1
          have z1 := HJ3.out.2.2.2.1
          have hst : ∀ m, (convert 22 9 (.slice R j rc)).run Tryz.prog (w3.drewN m) = .ok (.string ⟨T.toArray⟩) (w3.drewN m) := fun m => HST.out _ (HJ3.out.drewN m)
          have hs1 : IntKind.i64.wrap ((k : Int) + 4) = (k : Int) + 4 := by rw [IntKind.wrap_i64]; omega
          have hs2 : IntKind.i64.wrap ((k : Int) + 4 + (j : Int)) = (k : Int) + 4 + (j : Int) := by rw [IntKind.wrap_i64]; omega
          have hs3 : IntKind.i64.wrap ((k : Int) + 4 + (j : Int) + 3) = (k : Int) + 4 + (j : Int) + 3 := by rw [IntKind.wrap_i64]; omega
          first
          | (go_wp2
             go_ret3
             exact ⟨rfl, HJ3.out.1⟩)
          | (go_wp2
             go_quiet (fail)
             have HJ4 := Lib.hid (HJ3.out.drewN nq)
             generalize w3.drewN nq = w4 at *
             go_wp2
             go_ret3
             exact ⟨rfl, HJ4.out.1⟩)
  · have hp' := bfalse hp
    have CP : Hid (∀ W : World, Hid (∃ m, W = (w.alloc (.cells #[.string ⟨#[60, 33, 45, 45]⟩, .string ⟨#[45, 45, 62]⟩, .func (.func 118) #[] #[]] 111)).drewN m) → Calls Tryz.prog 126 #[.slice (cutA A cap k) (n - k) (cap - k), .slice (some ⟨w.heap.size + 1, 0, none⟩) 4 (grownCap W 4 0 5)] (Lib.bytesWorld W 5 ⟨#[60, 33, 45, 45]⟩) fun e w' => e = .returned (.tuple #[.slice (cutA A cap k) (n - k) (cap - k), .bool false]) ∧ Hid (MkJ [60, 33, 45, 45] [45, 45, 62] 118 w w')) := Lib.hid fun W HW => by
      obtain ⟨m, rfl⟩ := HW.out
      have hJ1 := (hJ0.drewN m).kept (Lib.bytesWorld_below _ 5 ⟨#[60, 33, 45, 45]⟩)
      have hn := byt_new ((w.alloc (.cells #[.string ⟨#[60, 33, 45, 45]⟩, .string ⟨#[45, 45, 62]⟩, .func (.func 118) #[] #[]] 111)).drewN m) [60, 33, 45, 45] (by simp)
      rw [show ((w.alloc (.cells #[.string ⟨#[60, 33, 45, 45]⟩, .string ⟨#[45, 45, 62]⟩, .func (.func 118) #[] #[]] 111)).drewN m).heap.size = w.heap.size + 1 from hsize] at hn
      exact (cutPrefix_no _ _ _ _ _ _ _ _ _ _ _ ((hA _ hJ1).drop hk) hn hp').mono fun e w' ⟨he, hw⟩ => ⟨he, Lib.hid (hw ▸ hJ1)⟩
    have CI := Lib.hid (HCI.out _ _ _ _ (fun W hJ => (hA W hJ).drop hk) (by omega))
    have HE : Hid (markedOut [60, 33, 45, 45] [45, 45, 62] mayComment l k = ([], 0, 7)) := Lib.hid (marked_no rfl fun h' => absurd h' hp)
    rw [HE.out]
    clear h hM hb0 f0 hJ0 hA HE HCI hln hsize z1 z2 hp hp' hcap
    generalize Lib.index (l.drop k) [45, 45, 62] = ix at *
    unfold commentsV
    go_enter Tryz.func94, Tryz.ntmps94
    go_wp2
    go_region_with (first
      | (go_at_call 126; refine (CP.out _ (by first | exact Lib.hid ⟨0, rfl⟩ | exact Lib.hid ⟨1, rfl⟩ | exact Lib.hid ⟨2, rfl⟩ | exact Lib.hid ⟨3, rfl⟩)).mono ?_; rintro e w1 ⟨rfl, HJ1⟩))
    all_goals
      clear hcv z0
      have z1 := HJ1.out.2.2.2.1
      go_wp2_with fail
      refine (CI.out _ HJ1).mono ?_
      rintro e w2 ⟨rfl, HJ2⟩
      clear hcq z1
      go_wp2
      go_quiet (fail)
      have HJ3 := Lib.hid (HJ2.out.drewN nq)
      generalize w2.drewN nq = w3 at *
      go_wp2
      go_ret3
      exact ⟨rfl, HJ3.out.1⟩
end Go.Proofs.YtmclngahdklfkaaGreatDoor
/- misc: what stands between marks: marked texts. -/
namespace Go.Proofs.YtmclngahdklfkaaGreatDoor
open Go.ChangeShapes Go.WideShapes Go.ChangeAt Go.RowKit
set_option linter.unusedVariables false
def cdatasV : Value := .agg #[.string ⟨#[60, 33, 91, 67, 68, 65, 84, 65, 91]⟩, .string ⟨#[93, 93, 62]⟩, .func (.func 117) #[] #[]]
set_option maxRecDepth 100000 in
set_option maxHeartbeats 4000000 in
theorem cdatas_c (w : World) : Calls Tryz.prog 82 #[] w fun e w' => e = .returned cdatasV ∧ Below w.heap.size w w' := by
  have hF := Lib.hid (hp_new w (.cells #[.string ⟨#[60, 33, 91, 67, 68, 65, 84, 65, 91]⟩, .string ⟨#[93, 93, 62]⟩, .func (.func 117) #[] #[]] 111))
  have hb := Lib.hid (Below.alloc (Below.refl w.heap.size w) (Nat.le_refl _) (.cells #[.string ⟨#[60, 33, 91, 67, 68, 65, 84, 65, 91]⟩, .string ⟨#[93, 93, 62]⟩, .func (.func 117) #[] #[]] 111))
  go_enter Tryz.func82, Tryz.ntmps82
  go_wp2
  have hi : (Tryz.prog.info? 111).map (·.size) = some 3 := by kernel_rfl
  obtain ⟨d, hu⟩ := isStruct_of (P := Tryz.prog) (t := 111) (by kernel_rfl)
  (try simp only [Exit.inBlock, Exit.then])
  refine bodyPost_ret (results_cell_row rfl _ _ w.heap.size _ _ _ _ rfl hF.out hu rfl hi) rfl ⟨rfl, hb.out⟩
set_option maxRecDepth 100000 in
set_option maxHeartbeats 4000000 in
theorem cdatasRead_range (A : Option Addr) (n cap : Nat) (at_ : Int) (w : World) (ha : at_ < 0 ∨ (n : Int) < at_) :
    Calls Tryz.prog 94 #[cdatasV, .slice A n cap, .int .i64 at_] w fun e w' => e = .returned (outV ([], 0, 3)) ∧ Below w.heap.size w w' := by
  have hb := Lib.hid (Below.alloc (Below.refl w.heap.size w) (Nat.le_refl _) (.cells #[.string ⟨#[60, 33, 91, 67, 68, 65, 84, 65, 91]⟩, .string ⟨#[93, 93, 62]⟩, .func (.func 117) #[] #[]] 111))
  unfold cdatasV
  by_cases h0 : at_ < 0
  · have hd : decide (at_ < 0) = true := by simpa using h0
    clear ha
    go_enter Tryz.func94, Tryz.ntmps94
    go_wp2
    go_ret3
    exact ⟨rfl, hb.out⟩
  · have h1 : (n : Int) < at_ := by omega
    clear ha
    go_enter Tryz.func94, Tryz.ntmps94
    go_wp2
    go_ret3
    exact ⟨rfl, hb.out⟩
set_option maxRecDepth 100000 in
set_option maxHeartbeats 4000000 in
theorem cdatas1_c (s : List UInt8) (w : World) (hM : MaxL w) (hs : s.length ≤ 500000) :
    Calls Tryz.prog 117 #[.string ⟨s.toArray⟩] w fun e w' => e = .returned (.bool (mayCData s)) ∧ w = w' := by
  have C1 := Lib.hid (contains_c s [93, 93, 62] w hM (by omega))
  unfold mayCData
  generalize Lib.contains s [93, 93, 62] = r at *
  clear hM hs
  cases r
  all_goals
    go_enter Tryz.func117, Tryz.ntmps117
    go_wp2_with fail
    refine (C1.out).mono ?_
    rintro e wq ⟨rfl, rfl⟩
    go_wp2
    go_ret
    exact ⟨rfl, rfl⟩
set_option maxRecDepth 100000 in
set_option maxHeartbeats 4000000 in
theorem cdatasRead_c (A : Option Addr) (n cap : Nat) (l : List UInt8) (k : Nat) (w : World) (h : Byt w w.heap.size A n cap l) (hM : MaxL w) (hm : n ≤ 100000) (hk : k ≤ n) :
    Calls Tryz.prog 94 #[cdatasV, .slice A n cap, .int .i64 k] w fun e w' => e = .returned (outV (markedOut [60, 33, 91, 67, 68, 65, 84, 65, 91] [93, 93, 62] mayCData l k)) ∧ Below w.heap.size w w' := by
  have hk' : ¬ (n : Int) < (k : Int) := by omega
  have hk0 : (0 : Int) ≤ (k : Int) := by omega
  have hk1 : (k : Int) ≤ 100000 := by omega
  have f0 := hp_new w (.cells #[.string ⟨#[60, 33, 91, 67, 68, 65, 84, 65, 91]⟩, .string ⟨#[93, 93, 62]⟩, .func (.func 117) #[] #[]] 111)
  have z0 : (w.alloc (.cells #[.string ⟨#[60, 33, 91, 67, 68, 65, 84, 65, 91]⟩, .string ⟨#[93, 93, 62]⟩, .func (.func 117) #[] #[]] 111)).cell? ⟨w.heap.size, 0, none⟩ = some (.string ⟨#[60, 33, 91, 67, 68, 65, 84, 65, 91]⟩) := cell_of 0 f0
  have z1 : (w.alloc (.cells #[.string ⟨#[60, 33, 91, 67, 68, 65, 84, 65, 91]⟩, .string ⟨#[93, 93, 62]⟩, .func (.func 117) #[] #[]] 111)).cell? ⟨w.heap.size, 1, none⟩ = some (.string ⟨#[93, 93, 62]⟩) := cell_of 1 f0
  have z2 : (w.alloc (.cells #[.string ⟨#[60, 33, 91, 67, 68, 65, 84, 65, 91]⟩, .string ⟨#[93, 93, 62]⟩, .func (.func 117) #[] #[]] 111)).cell? ⟨w.heap.size, 2, none⟩ = some (.func (.func 117) #[] #[]) := cell_of 2 f0
  have hb0 : Below w.heap.size w (w.alloc (.cells #[.string ⟨#[60, 33, 91, 67, 68, 65, 84, 65, 91]⟩, .string ⟨#[93, 93, 62]⟩, .func (.func 117) #[] #[]] 111)) := Below.alloc (Below.refl _ _) (Nat.le_refl _) _
  have hJ0 : MkJ [60, 33, 91, 67, 68, 65, 84, 65, 91] [93, 93, 62] 117 w (w.alloc (.cells #[.string ⟨#[60, 33, 91, 67, 68, 65, 84, 65, 91]⟩, .string ⟨#[93, 93, 62]⟩, .func (.func 117) #[] #[]] 111)) := ⟨hb0, by simp, z0, z1, z2⟩
  have HH := Lib.hid (And.intro h hM)
  have hcap := h.le
  have hln := h.length
  have hrf : ∀ W : World, (Instr.slice 22 (.slice A n cap) (some (.int .i64 (k : Int))) none none).run Tryz.prog W = .ok (.slice (cutA A cap k) (n - k) (cap - k)) W := fun W => run_from A n cap k hk
  have hcv : ∀ W : World, (convert 9 22 (.string ⟨#[60, 33, 91, 67, 68, 65, 84, 65, 91]⟩)).run Tryz.prog W = .ok (.slice (some ⟨W.heap.size, 0, none⟩) 9 (grownCap W 9 0 5)) (Lib.bytesWorld W 5 ⟨#[60, 33, 91, 67, 68, 65, 84, 65, 91]⟩) := fun W => run_toBytes W [60, 33, 91, 67, 68, 65, 84, 65, 91]
  have hcq : ∀ W : World, (convert 9 22 (.string ⟨#[93, 93, 62]⟩)).run Tryz.prog W = .ok (.slice (some ⟨W.heap.size, 0, none⟩) 3 (grownCap W 3 0 5)) (Lib.bytesWorld W 5 ⟨#[93, 93, 62]⟩) := fun W => run_toBytes W [93, 93, 62]
  have hsize : (w.alloc (.cells #[.string ⟨#[60, 33, 91, 67, 68, 65, 84, 65, 91]⟩, .string ⟨#[93, 93, 62]⟩, .func (.func 117) #[] #[]] 111)).heap.size = w.heap.size + 1 := by simp
  have HCI : Hid (∀ (R : Option Addr) (rn rc : Nat) (rl : List UInt8), (∀ W, MkJ [60, 33, 91, 67, 68, 65, 84, 65, 91] [93, 93, 62] 117 w W → Byt W w.heap.size R rn rc rl) → rn ≤ 100000 → ∀ W : World, Hid (MkJ [60, 33, 91, 67, 68, 65, 84, 65, 91] [93, 93, 62] 117 w W) → Calls Tryz.prog 96 #[.slice R rn rc, .slice (some ⟨W.heap.size, 0, none⟩) 3 (grownCap W 3 0 5)] (Lib.bytesWorld W 5 ⟨#[93, 93, 62]⟩) fun e w' => e = .returned (.int .i64 (Lib.index rl [93, 93, 62])) ∧ Hid (MkJ [60, 33, 91, 67, 68, 65, 84, 65, 91] [93, 93, 62] 117 w w')) := Lib.hid fun R rn rc rl hR hrn W HJ => by
    have hJ1 := HJ.out.kept (Lib.bytesWorld_below W 5 ⟨#[93, 93, 62]⟩)
    exact (bindex_c R _ rn rc 3 _ rl [93, 93, 62] _ _ _ (hR _ hJ1) (byt_new W [93, 93, 62] (by simp)) (HH.out.2.below hJ1.1 HH.out.2.lt) (by omega) (by omega) (by omega)).mono fun e w' ⟨he, q, hq⟩ => ⟨he, Lib.hid (hq ▸ hJ1.drewN q)⟩
  have hA : ∀ W, MkJ [60, 33, 91, 67, 68, 65, 84, 65, 91] [93, 93, 62] 117 w W → Byt W w.heap.size A n cap l := fun W hJ => h.below hJ.1
  by_cases hp : [60, 33, 91, 67, 68, 65, 84, 65, 91].isPrefixOf (l.drop k) = true
  · have hkl : k + 9 ≤ n := by have := pre_len hp; simp at this; omega
    have CP : Hid (∀ W : World, Hid (∃ m, W = (w.alloc (.cells #[.string ⟨#[60, 33, 91, 67, 68, 65, 84, 65, 91]⟩, .string ⟨#[93, 93, 62]⟩, .func (.func 117) #[] #[]] 111)).drewN m) → Calls Tryz.prog 126 #[.slice (cutA A cap k) (n - k) (cap - k), .slice (some ⟨w.heap.size + 1, 0, none⟩) 9 (grownCap W 9 0 5)] (Lib.bytesWorld W 5 ⟨#[60, 33, 91, 67, 68, 65, 84, 65, 91]⟩) fun e w' => e = .returned (.tuple #[.slice (cutA (cutA A cap k) (cap - k) 9) (n - k - 9) (cap - k - 9), .bool true]) ∧ Hid (MkJ [60, 33, 91, 67, 68, 65, 84, 65, 91] [93, 93, 62] 117 w w')) := Lib.hid fun W HW => by
      obtain ⟨m, rfl⟩ := HW.out
      have hJ1 := (hJ0.drewN m).kept (Lib.bytesWorld_below _ 5 ⟨#[60, 33, 91, 67, 68, 65, 84, 65, 91]⟩)
      have hn := byt_new ((w.alloc (.cells #[.string ⟨#[60, 33, 91, 67, 68, 65, 84, 65, 91]⟩, .string ⟨#[93, 93, 62]⟩, .func (.func 117) #[] #[]] 111)).drewN m) [60, 33, 91, 67, 68, 65, 84, 65, 91] (by simp)
      rw [show ((w.alloc (.cells #[.string ⟨#[60, 33, 91, 67, 68, 65, 84, 65, 91]⟩, .string ⟨#[93, 93, 62]⟩, .func (.func 117) #[] #[]] 111)).drewN m).heap.size = w.heap.size + 1 from hsize] at hn
      exact (cutPrefix_yes _ _ _ _ _ _ _ _ _ _ _ ((hA _ hJ1).drop hk) hn (by simp) hp).mono fun e w' ⟨he, hw⟩ => ⟨he, Lib.hid (hw ▸ hJ1)⟩
    have hR : ∀ W, MkJ [60, 33, 91, 67, 68, 65, 84, 65, 91] [93, 93, 62] 117 w W → Byt W w.heap.size (cutA (cutA A cap k) (cap - k) 9) (n - k - 9) (cap - k - 9) (l.drop (k + 9)) := fun W hJ => by
      have := ((hA W hJ).drop hk).drop (k := 9) (by omega)
      rwa [List.drop_drop] at this
    have CI := Lib.hid (HCI.out _ _ _ _ hR (by omega))
    have HR := Lib.hid hR
    have hix := Lib.index_spec (l.drop (k + 9)) [93, 93, 62]
    have hrc : n - k - 9 ≤ cap - k - 9 := by omega
    have HRL : Hid ((l.drop (k + 9)).length = n - k - 9) := Lib.hid (by rw [List.length_drop]; omega)
    rcases hix with ⟨hi, _⟩ | ⟨j, hi, hj, hoc, _⟩
    · have HE : Hid (markedOut [60, 33, 91, 67, 68, 65, 84, 65, 91] [93, 93, 62] mayCData l k = ([], 0, 7)) := Lib.hid (marked_no rfl fun _ j hj => by
        have hj' : Lib.index (l.drop (k + 9)) [93, 93, 62] = (j : Int) := hj
        rw [hi] at hj'; omega)
      rw [HE.out]
      rw [hi] at CI
      clear h hM hb0 f0 hJ0 hA hR hi HE HCI hln hsize HRL hkl hrc z1 z2 hp
      generalize cutA (cutA A cap k) (cap - k) 9 = R at *
      generalize n - k - 9 = rn at *
      generalize cap - k - 9 = rc at *
      unfold cdatasV
      go_enter Tryz.func94, Tryz.ntmps94
      go_wp2
      go_region_with (first
        | (go_at_call 126; refine (CP.out _ (by first | exact Lib.hid ⟨0, rfl⟩ | exact Lib.hid ⟨1, rfl⟩ | exact Lib.hid ⟨2, rfl⟩ | exact Lib.hid ⟨3, rfl⟩)).mono ?_; rintro e w1 ⟨rfl, HJ1⟩))
      all_goals
        clear hcv z0
        have z1 := HJ1.out.2.2.2.1
        go_wp2_with fail
        refine (CI.out _ HJ1).mono ?_
        rintro e w2 ⟨rfl, HJ2⟩
        clear hcq z1
        go_wp2
        go_quiet (fail)
        have HJ3 := Lib.hid (HJ2.out.drewN nq)
        generalize w2.drewN nq = w3 at *
        go_wp2
        go_ret3
        exact ⟨rfl, HJ3.out.1⟩
    · have hjr : j ≤ n - k - 9 := by have := HRL.out; omega
      have hj0 : (0 : Int) ≤ (j : Int) := by omega
      have hj1 : (j : Int) ≤ 100000 := by omega
      have hjd : decide ((j : Int) < 0) = false := by simp
      have hjc : j ≤ cap - k - 9 := by omega
      have hct : ∀ W : World, (Instr.slice 22 (.slice (cutA (cutA A cap k) (cap - k) 9) (n - k - 9) (cap - k - 9)) none (some (.int .i64 (j : Int))) none).run Tryz.prog W = .ok (.slice (cutA (cutA A cap k) (cap - k) 9) j (cap - k - 9)) W := fun W => run_upTo _ _ _ _ hjc
      have HST : Hid (∀ W, MkJ [60, 33, 91, 67, 68, 65, 84, 65, 91] [93, 93, 62] 117 w W → (convert 22 9 (.slice (cutA (cutA A cap k) (cap - k) 9) j (cap - k - 9))).run Tryz.prog W = .ok (.string ⟨((l.drop (k + 9)).take j).toArray⟩) W) := Lib.hid fun W hJ => ((hR W hJ).take hjr).str
      have CM : Hid (∀ W, MkJ [60, 33, 91, 67, 68, 65, 84, 65, 91] [93, 93, 62] 117 w W → Calls Tryz.prog 117 #[.string ⟨((l.drop (k + 9)).take j).toArray⟩] W fun e w' => e = .returned (.bool (mayCData ((l.drop (k + 9)).take j))) ∧ w' = W) := Lib.hid fun W hJ => (cdatas1_c _ W (HH.out.2.below hJ.1 HH.out.2.lt) (by rw [List.length_take]; omega)).mono fun e w' ⟨he, hw⟩ => ⟨he, hw.symm⟩
      have HE : Hid (markedOut [60, 33, 91, 67, 68, 65, 84, 65, 91] [93, 93, 62] mayCData l k = if mayCData ((l.drop (k + 9)).take j) = true then ((l.drop (k + 9)).take j, k + 9 + j + 3, 0) else ([], 0, 7)) := Lib.hid (by
        by_cases hmy : mayCData ((l.drop (k + 9)).take j) = true
        · rw [if_pos hmy]; exact marked_yes (a := 9) (b := 3) rfl rfl hp hi hmy
        · rw [if_neg hmy]
          refine marked_no rfl fun _ t ht => ?_
          have ht' : Lib.index (l.drop (k + 9)) [93, 93, 62] = (t : Int) := ht
          obtain rfl : j = t := by rw [hi] at ht'; omega
          exact bfalse hmy)
      rw [HE.out]
      rw [hi] at CI
      clear h hM hb0 f0 hJ0 hA hR hi HE HCI hln hsize HRL hkl hrc z1 z2 hp hj hoc hjr hjc hcap
      generalize cutA (cutA A cap k) (cap - k) 9 = R at *
      generalize n - k - 9 = rn at *
      generalize cap - k - 9 = rc at *
      generalize (l.drop (k + 9)).take j = T at *
      generalize mayCData T = my at *
      unfold cdatasV
      cases my
      all_goals
        simp only [if_true, Bool.false_eq_true, if_false]
        go_enter Tryz.func94, Tryz.ntmps94
        go_wp2
        go_region_with (first
          | (go_at_call 126; refine (CP.out _ (by first | exact Lib.hid ⟨0, rfl⟩ | exact Lib.hid ⟨1, rfl⟩ | exact Lib.hid ⟨2, rfl⟩ | exact Lib.hid ⟨3, rfl⟩)).mono ?_; rintro e w1 ⟨rfl, HJ1⟩))
        all_goals
          clear hcv z0
          have z1 := HJ1.out.2.2.2.1
          go_wp2_with fail
          refine (CI.out _ HJ1).mono ?_
          rintro e w2 ⟨rfl, HJ2⟩
          clear hcq z1
          have z2 := HJ2.out.2.2.2.2
          have hst : ∀ m, (convert 22 9 (.slice R j rc)).run Tryz.prog (w2.drewN m) = .ok (.string ⟨T.toArray⟩) (w2.drewN m) := fun m => HST.out _ (HJ2.out.drewN m)
          have CMm := Lib.hid (fun m => CM.out _ (HJ2.out.drewN m))
          go_wp2
          go_quiet ((go_at_call 117; exact Calls.quiet_of_same (CMm.out _)))
          have HJ3 := Lib.hid (HJ2.out.drewN nq)
          clear hst CMm z2
          generalize w2.drewN nq = w3 at *
          have z0 := HJ3.out.2.2.1
          have z1 := HJ3.out.2.2.2.1
          have hst : ∀ m, (convert 22 9 (.slice R j rc)).run Tryz.prog (w3.drewN m) = .ok (.string ⟨T.toArray⟩) (w3.drewN m) := fun m => HST.out _ (HJ3.out.drewN m)
          have hs1 : IntKind.i64.wrap ((k : Int) + 9) = (k : Int) + 9 := by rw [IntKind.wrap_i64]; omega
          have hs2 : IntKind.i64.wrap ((k : Int) + 9 + (j : Int)) = (k : Int) + 9 + (j : Int) := by rw [IntKind.wrap_i64]; omega
          have hs3 : IntKind.i64.wrap ((k : Int) + 9 + (j : Int) + 3) = (k : Int) + 9 + (j : Int) + 3 := by rw [IntKind.wrap_i64]; omega
          first
          | (go_wp2
             go_ret3
             exact ⟨rfl, HJ3.out.1⟩)
          | (go_wp2
             go_quiet (fail)
             have HJ4 := Lib.hid (HJ3.out.drewN nq)
             generalize w3.drewN nq = w4 at *
             go_wp2
             go_ret3
             exact ⟨rfl, HJ4.out.1⟩)
  · have hp' := bfalse hp
    have CP : Hid (∀ W : World, Hid (∃ m, W = (w.alloc (.cells #[.string ⟨#[60, 33, 91, 67, 68, 65, 84, 65, 91]⟩, .string ⟨#[93, 93, 62]⟩, .func (.func 117) #[] #[]] 111)).drewN m) → Calls Tryz.prog 126 #[.slice (cutA A cap k) (n - k) (cap - k), .slice (some ⟨w.heap.size + 1, 0, none⟩) 9 (grownCap W 9 0 5)] (Lib.bytesWorld W 5 ⟨#[60, 33, 91, 67, 68, 65, 84, 65, 91]⟩) fun e w' => e = .returned (.tuple #[.slice (cutA A cap k) (n - k) (cap - k), .bool false]) ∧ Hid (MkJ [60, 33, 91, 67, 68, 65, 84, 65, 91] [93, 93, 62] 117 w w')) := Lib.hid fun W HW => by
      obtain ⟨m, rfl⟩ := HW.out
      have hJ1 := (hJ0.drewN m).kept (Lib.bytesWorld_below _ 5 ⟨#[60, 33, 91, 67, 68, 65, 84, 65, 91]⟩)
      have hn := byt_new ((w.alloc (.cells #[.string ⟨#[60, 33, 91, 67, 68, 65, 84, 65, 91]⟩, .string ⟨#[93, 93, 62]⟩, .func (.func 117) #[] #[]] 111)).drewN m) [60, 33, 91, 67, 68, 65, 84, 65, 91] (by simp)
      rw [show ((w.alloc (.cells #[.string ⟨#[60, 33, 91, 67, 68, 65, 84, 65, 91]⟩, .string ⟨#[93, 93, 62]⟩, .func (.func 117) #[] #[]] 111)).drewN m).heap.size = w.heap.size + 1 from hsize] at hn
      exact (cutPrefix_no _ _ _ _ _ _ _ _ _ _ _ ((hA _ hJ1).drop hk) hn hp').mono fun e w' ⟨he, hw⟩ => ⟨he, Lib.hid (hw ▸ hJ1)⟩
    have CI := Lib.hid (HCI.out _ _ _ _ (fun W hJ => (hA W hJ).drop hk) (by omega))
    have HE : Hid (markedOut [60, 33, 91, 67, 68, 65, 84, 65, 91] [93, 93, 62] mayCData l k = ([], 0, 7)) := Lib.hid (marked_no rfl fun h' => absurd h' hp)
    rw [HE.out]
    clear h hM hb0 f0 hJ0 hA HE HCI hln hsize z1 z2 hp hp' hcap
    generalize Lib.index (l.drop k) [93, 93, 62] = ix at *
    unfold cdatasV
    go_enter Tryz.func94, Tryz.ntmps94
    go_wp2
    go_region_with (first
      | (go_at_call 126; refine (CP.out _ (by first | exact Lib.hid ⟨0, rfl⟩ | exact Lib.hid ⟨1, rfl⟩ | exact Lib.hid ⟨2, rfl⟩ | exact Lib.hid ⟨3, rfl⟩)).mono ?_; rintro e w1 ⟨rfl, HJ1⟩))
    all_goals
      clear hcv z0
      have z1 := HJ1.out.2.2.2.1
      go_wp2_with fail
      refine (CI.out _ HJ1).mono ?_
      rintro e w2 ⟨rfl, HJ2⟩
      clear hcq z1
      go_wp2
      go_quiet (fail)
      have HJ3 := Lib.hid (HJ2.out.drewN nq)
      generalize w2.drewN nq = w3 at *
      go_wp2
      go_ret3
      exact ⟨rfl, HJ3.out.1⟩
end Go.Proofs.YtmclngahdklfkaaGreatDoor
/- misc: comments and marked texts, read and written. -/
namespace Go.Proofs.YtmclngahdklfkaaGreatDoor
open Go.ChangeShapes Go.WideShapes Go.ChangeAt Go.RowKit
set_option linter.unusedVariables false
def anyAt (f : List UInt8 → Nat → List UInt8 × Nat × Nat) (l : List UInt8) (at_ : Int) : List UInt8 × Nat × Nat := if at_ < 0 ∨ (l.length : Int) < at_ then ([], 0, 3) else f l at_.toNat
theorem anyAt_in (f : List UInt8 → Nat → List UInt8 × Nat × Nat) (l : List UInt8) (k : Nat) (h : k ≤ l.length) : anyAt f l k = f l k := by
  unfold anyAt
  rw [if_neg (by omega), Int.toNat_natCast]
set_option maxRecDepth 100000 in
set_option maxHeartbeats 4000000 in
theorem refCommentAt_c (A : Option Addr) (n cap : Nat) (l : List UInt8) (at_ : Int) (B : Nat) (w : World) (h : Byt w B A n cap l) (hm : n ≤ 100000) :
    Calls Tryz.prog 31 #[.slice A n cap, .int .i64 at_] w fun e w' => e = .returned (outV (anyAt commentOut l at_)) ∧ w = w' := by
  by_cases ha : at_ < 0 ∨ (n : Int) < at_
  · have : anyAt commentOut l at_ = ([], 0, 3) := by unfold anyAt; rw [h.length, if_pos ha]
    rw [this]
    exact refComment_range A n cap at_ w ha
  · obtain ⟨k, rfl⟩ : ∃ k : Nat, at_ = (k : Int) := ⟨at_.toNat, by omega⟩
    rw [anyAt_in _ _ _ (by rw [h.length]; omega)]
    exact refComment_c A n cap l k B w h hm (by omega)
set_option maxRecDepth 100000 in
set_option maxHeartbeats 4000000 in
theorem miscComment_c (A : Option Addr) (n cap : Nat) (l : List UInt8) (at_ : Int) (w : World) (h : Byt w w.heap.size A n cap l) (hM : MaxL w) (hm : n ≤ 100000) :
    Calls Tryz.prog 61 #[.slice A n cap, .int .i64 at_] w fun e w' => e = .returned (outV (anyAt commentOut l at_)) ∧ Below w.heap.size w w' := by
  have C1 := Lib.hid (comments_c w)
  have C2 : Hid (∀ W, Below w.heap.size w W → Calls Tryz.prog 94 #[commentsV, .slice A n cap, .int .i64 at_] W fun e w' => e = .returned (outV (anyAt commentOut l at_)) ∧ Below W.heap.size W w') := Lib.hid fun W hb => by
    by_cases ha : at_ < 0 ∨ (n : Int) < at_
    · have : anyAt commentOut l at_ = ([], 0, 3) := by unfold anyAt; rw [h.length, if_pos ha]
      rw [this]
      exact commentsRead_range A n cap at_ W ha
    · obtain ⟨k, rfl⟩ : ∃ k : Nat, at_ = (k : Int) := ⟨at_.toNat, by omega⟩
      rw [anyAt_in _ _ _ (by rw [h.length]; omega), ← marked_comment l k (by rw [h.length]; omega)]
      exact commentsRead_c A n cap l k W ((h.below hb).more hb.size) (hM.below hb hM.lt) hm (by omega)
  clear h hM hm
  generalize anyAt commentOut l at_ = r at *
  unfold outV at *
  go_enter Tryz.func61, Tryz.ntmps61
  go_wp2_with fail
  refine (C1.out).mono ?_
  rintro e w1 ⟨rfl, hb⟩
  have B1 := Lib.hid hb
  clear hb
  go_wp2_with fail
  refine (C2.out _ B1.out).mono ?_
  rintro e w2 ⟨rfl, hb⟩
  have B2 := Lib.hid (B1.out.trans (hb.mono B1.out.size))
  clear hb
  go_wp2
  go_ret3
  exact ⟨rfl, B2.out⟩
set_option maxRecDepth 100000 in
set_option maxHeartbeats 4000000 in
theorem refCDataAt_c (A : Option Addr) (n cap : Nat) (l : List UInt8) (at_ : Int) (B : Nat) (w : World) (h : Byt w B A n cap l) (hm : n ≤ 100000) :
    Calls Tryz.prog 32 #[.slice A n cap, .int .i64 at_] w fun e w' => e = .returned (outV (anyAt cdataOut l at_)) ∧ w = w' := by
  by_cases ha : at_ < 0 ∨ (n : Int) < at_
  · have : anyAt cdataOut l at_ = ([], 0, 3) := by unfold anyAt; rw [h.length, if_pos ha]
    rw [this]
    exact refCData_range A n cap at_ w ha
  · obtain ⟨k, rfl⟩ : ∃ k : Nat, at_ = (k : Int) := ⟨at_.toNat, by omega⟩
    rw [anyAt_in _ _ _ (by rw [h.length]; omega)]
    exact refCData_c A n cap l k B w h hm (by omega)
set_option maxRecDepth 100000 in
set_option maxHeartbeats 4000000 in
theorem miscCData_c (A : Option Addr) (n cap : Nat) (l : List UInt8) (at_ : Int) (w : World) (h : Byt w w.heap.size A n cap l) (hM : MaxL w) (hm : n ≤ 100000) :
    Calls Tryz.prog 62 #[.slice A n cap, .int .i64 at_] w fun e w' => e = .returned (outV (anyAt cdataOut l at_)) ∧ Below w.heap.size w w' := by
  have C1 := Lib.hid (cdatas_c w)
  have C2 : Hid (∀ W, Below w.heap.size w W → Calls Tryz.prog 94 #[cdatasV, .slice A n cap, .int .i64 at_] W fun e w' => e = .returned (outV (anyAt cdataOut l at_)) ∧ Below W.heap.size W w') := Lib.hid fun W hb => by
    by_cases ha : at_ < 0 ∨ (n : Int) < at_
    · have : anyAt cdataOut l at_ = ([], 0, 3) := by unfold anyAt; rw [h.length, if_pos ha]
      rw [this]
      exact cdatasRead_range A n cap at_ W ha
    · obtain ⟨k, rfl⟩ : ∃ k : Nat, at_ = (k : Int) := ⟨at_.toNat, by omega⟩
      rw [anyAt_in _ _ _ (by rw [h.length]; omega), ← marked_cdata l k (by rw [h.length]; omega)]
      exact cdatasRead_c A n cap l k W ((h.below hb).more hb.size) (hM.below hb hM.lt) hm (by omega)
  clear h hM hm
  generalize anyAt cdataOut l at_ = r at *
  unfold outV at *
  go_enter Tryz.func62, Tryz.ntmps62
  go_wp2_with fail
  refine (C1.out).mono ?_
  rintro e w1 ⟨rfl, hb⟩
  have B1 := Lib.hid hb
  clear hb
  go_wp2_with fail
  refine (C2.out _ B1.out).mono ?_
  rintro e w2 ⟨rfl, hb⟩
  have B2 := Lib.hid (B1.out.trans (hb.mono B1.out.size))
  clear hb
  go_wp2
  go_ret3
  exact ⟨rfl, B2.out⟩
end Go.Proofs.YtmclngahdklfkaaGreatDoor
