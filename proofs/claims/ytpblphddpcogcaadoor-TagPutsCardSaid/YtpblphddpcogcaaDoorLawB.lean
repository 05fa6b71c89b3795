/- The law TagPuts, walked. -/
import Derived.Test.YtpblphddpcogcaaDoorRows
import Derived.WalkKit
import Derived.ProofKit
import Derived.OpenShut
import Derived.ShutString
import Derived.ChangeOld
import Derived.Below
import Derived.BigQuiet
import Derived.Deep.QuietTactic
import Derived.Lib.Hide
import Derived.Deep.RegionHeld3
import Derived.Lib.SlBytesConst
import Derived.Laws.CopyOwn
import Derived.Laws.CopyRow
import Derived.Lib.Bytes
import Derived.Deep.LoopGhost
import Derived.Deep.DeepFit
import Derived.Deep.DeepMust
import Derived.WalkSpells
import Derived.WalkLawsBesides
import Derived.Maps.OwnOps
import Derived.Maps.OwnSet
import Derived.Maps.Views
import Derived.Laws.EntriesVeiled
import Derived.Laws.Rows
import Derived.Test.YtpblphddpcogcaaDoorShelf
import Derived.Test.YtpblphddpcogcaaDoorBase
import Derived.Test.YtpblphddpcogcaaDoorCharPlain
import Derived.Test.YtpblphddpcogcaaDoorStr
import Derived.Test.YtpblphddpcogcaaDoorBits
import Derived.Test.YtpblphddpcogcaaDoorChars1
import Derived.Test.YtpblphddpcogcaaDoorUtf1
import Derived.Test.YtpblphddpcogcaaDoorUtf2
import Derived.Test.YtpblphddpcogcaaDoorUtf3
import Derived.Test.YtpblphddpcogcaaDoorName1
import Derived.Test.YtpblphddpcogcaaDoorName2
import Derived.Test.YtpblphddpcogcaaDoorName3
import Derived.Test.YtpblphddpcogcaaDoorNameA
import Derived.Test.YtpblphddpcogcaaDoorRef1
import Derived.Test.YtpblphddpcogcaaDoorRef7
import Derived.Test.YtpblphddpcogcaaDoorRef8
import Derived.Test.YtpblphddpcogcaaDoorCref1
import Derived.Test.YtpblphddpcogcaaDoorLitP
import Derived.Test.YtpblphddpcogcaaDoorLit3
import Derived.Test.YtpblphddpcogcaaDoorLit4
import Derived.Test.YtpblphddpcogcaaDoorLit5
import Derived.Test.YtpblphddpcogcaaDoorBlank
import Derived.Test.YtpblphddpcogcaaDoorPub
import Derived.Test.YtpblphddpcogcaaDoorMiscP
import Derived.Test.YtpblphddpcogcaaDoorNum
import Derived.Test.YtpblphddpcogcaaDoorPlainP
import Derived.Test.YtpblphddpcogcaaDoorWhole
import Derived.Test.YtpblphddpcogcaaDoorTagM
import Derived.Test.YtpblphddpcogcaaDoorTagN
import Derived.Test.YtpblphddpcogcaaDoorBuild
import Derived.Test.YtpblphddpcogcaaDoorBuild2
import Derived.Test.YtpblphddpcogcaaDoorLawA
import Derived.Test.YtpblphddpcogcaaDoorCChar2
namespace Go.Proofs.YtpblphddpcogcaaDoor
open Go.ChangeShapes Go.WideShapes Go.ChangeAt Go.RowKit
set_option linter.unusedVariables false
theorem pairsT_bound2 (B : Nat) : ∀ ps : List PairL, (∀ p ∈ ps, p.1.length + p.2.length ≤ B) → (pairsT ps).length ≤ ps.length * (B + 4)
  | [], _ => Nat.zero_le _
  | p :: t, h => by
    have ih := pairsT_bound2 B t fun q hq => h q (List.mem_cons_of_mem _ hq)
    have hp := h p List.mem_cons_self
    have hl := pairT_len p
    have e : pairsT (p :: t) = pairT p ++ pairsT t := rfl
    rw [e, List.length_append, List.length_cons, Nat.add_mul]
    omega
theorem tagT_small (s : List UInt8) (ps : List PairL) (em : Bool) (h1 : s.length ≤ 1200) (h2 : ps.length ≤ 20) (h3 : ∀ p ∈ ps, p.1.length ≤ 1200 ∧ p.2.length ≤ 300) : (tagT ⟨s, ps, em⟩).length ≤ 39000 := by
  have hb := pairsT_bound2 1500 ps fun p hp => by have := h3 p hp; omega
  have hm : ps.length * (1500 + 4) ≤ 20 * (1500 + 4) := Nat.mul_le_mul_right _ h2
  have he : (endT em).length ≤ 2 := by cases em <;> simp [endT]
  simp only [tagT, List.length_cons, List.length_append]
  omega
theorem tagAt_0c (l : List UInt8) : tagAt [] closeOut l 0 = closeOut l 0 := by
  unfold tagAt
  rw [if_neg (by omega)]
  rfl
set_option maxRecDepth 100000 in
set_option maxHeartbeats 16000000 in
theorem tagPuts_walk (sb : ByteArray) (A : Option Addr) (n cap : Nat) (ps : List PairL) (em : Bool) (w : World) (h : PRd w w.heap.size A n cap ps) (hg : ∀ p ∈ ps, p.1.length ≤ maxLen ∧ p.2.length ≤ maxLen) (hW : W10 w) :
    Calls Tryd.prog 4 #[.agg #[.string sb, .slice A n cap, .bool em]] w fun e w' => e = .returned (.bool true) ∧ Below w.heap.size w w' := by
  obtain ⟨s, rfl⟩ : ∃ l : List UInt8, sb = ⟨l.toArray⟩ := ⟨sb.data.toList, by simp⟩
  have LV : Hid (∀ W, Below w.heap.size w W → Calls Tryd.prog 8 #[] W fun e w' => e = .returned (.bool true) ∧ Below W.heap.size W w') := Lib.hid fun W hb => live10_c W (hW.below hb)
  have HPR : Hid (∀ W, Below w.heap.size w W → PRd W W.heap.size A n cap ps) := Lib.hid fun W hb => (h.below hb).more hb.size
  have HWW : Hid (∀ W, Below w.heap.size w W → W10 W) := Lib.hid fun W hb => hW.below hb
  have J0 := Lib.hid (RkJ.start w #[.string ⟨s.toArray⟩, .slice A n cap, .bool em])
  have CG := Lib.hid (great10_c s A n cap ps em _ (HPR.out _ J0.out.1))
  have z0 := cell_of 0 J0.out.2
  have z1 := cell_of 1 J0.out.2
  have z2 := cell_of 2 J0.out.2
  have HLN : Hid (ps.length = n) := Lib.hid h.len
  clear hg hW h
  cases hgr : greatT s ps with
  | true =>
    rw [hgr] at CG
    clear hgr
    go_enter Tryd.func4, Tryd.ntmps4
    go_wp2_with fail
    refine CG.out.mono ?_
    rintro e w1 ⟨rfl, hb⟩
    have B1 := Lib.hid (J0.out.1.trans (hb.mono J0.out.1.size))
    clear hb
    go_wp2_with fail
    refine (LV.out _ B1.out).mono ?_
    rintro e w2 ⟨rfl, hb⟩
    have B2 := Lib.hid (B1.out.trans (hb.mono B1.out.size))
    clear hb
    go_wp2
    go_ret
    exact ⟨rfl, B2.out⟩
  | false =>
    rw [hgr] at CG
    obtain ⟨hs, hn, hp⟩ := great_no hgr
    have hn' : n ≤ 20 := by rw [← HLN.out]; exact hn
    have hp4 : ∀ p ∈ ps, p.1.length ≤ 40000 ∧ p.2.length ≤ 40000 := fun p hp' => by have := hp p hp'; omega
    have HTS := Lib.hid (tagT_small s ps em hs hn hp)
    have C1 : Hid (∀ W, Below w.heap.size w W → Calls Tryd.prog 10 #[.agg #[.string ⟨s.toArray⟩, .slice A n cap, .bool em]] W fun e w' => e = .returned (.tuple #[.string ⟨(putOut s ps em).1.toArray⟩, .int .i64 ((putOut s ps em).2 : Int)]) ∧ Below W.heap.size W w') := Lib.hid fun W hb => tagPut_c s A n cap ps em W (HPR.out W hb) (HWW.out W hb) (by omega) (by omega) hp4
    have C2 : Hid (∀ W, Below w.heap.size w W → Calls Tryd.prog 13 #[.string ⟨s.toArray⟩] W fun e w' => e = .returned (.tuple #[.string ⟨(if checkT s [] = 0 then 60 :: 47 :: (s ++ [62]) else []).toArray⟩, .int .i64 (checkT s [] : Int)]) ∧ Below W.heap.size W w') := Lib.hid fun W hb => putEnd_c s W (HWW.out W hb) (by omega)
    have C3 : Hid (∀ W, Below w.heap.size w W → Calls Tryd.prog 14 #[.agg #[.string ⟨s.toArray⟩, .slice none 0 0, .bool false]] W fun e w' => e = .returned (.int .i64 (checkT s [])) ∧ Below W.heap.size W w') := Lib.hid fun W hb => refCheck10_c s none 0 0 [] false W (PRd.nilR W _) (by omega) (Nat.zero_le _) (fun p hp => by cases hp)
    have C4 : Hid (∀ W, Below w.heap.size w W → Calls Tryd.prog 14 #[.agg #[.string ⟨s.toArray⟩, .slice A n cap, .bool em]] W fun e w' => e = .returned (.int .i64 (checkT s ps)) ∧ Below W.heap.size W w') := Lib.hid fun W hb => refCheck10_c s A n cap ps em W (HPR.out W hb) (by omega) (by omega) hp4
    have C5 : Hid (∀ W, Below w.heap.size w W → Calls Tryd.prog 15 #[.agg #[.string ⟨s.toArray⟩, .slice A n cap, .bool em]] W fun e w' => e = .returned (.string ⟨(tagT ⟨s, ps, em⟩).toArray⟩) ∧ Below W.heap.size W w') := Lib.hid fun W hb => refPut10_c s A n cap ps em W (HPR.out W hb) (by omega) (by omega) hp4
    have HCT : Hid (closeT s = 60 :: 47 :: (s ++ [62])) := Lib.hid rfl
    have sp0 : ∀ w : World, (Op.stringOp .add ⟨#[60, 47]⟩ ⟨s.toArray⟩).run Tryd.prog w = .ok (.string ⟨([60, 47] ++ s).toArray⟩) w := fun w => run_sop (w := w) [60, 47] s (by simp; omega)
    have sp1 : ∀ w : World, (Op.stringOp .add ⟨([60, 47] ++ s).toArray⟩ ⟨#[62]⟩).run Tryd.prog w = .ok (.string ⟨(closeT s).toArray⟩) w := fun w => by
      have := run_sop (w := w) ([60, 47] ++ s) [62] (by simp; omega)
      rw [this]; simp [closeT]
    rw [← HCT.out] at C2
    generalize [60, 47] ++ s = s1 at *
    have HCL : Hid ((closeT s).length ≤ 1203) := Lib.hid (by simp [closeT]; omega)
    by_cases hk : checkT s ps = 0
    · have hk0 := check_none hk
      have hpo : putOut s ps em = (tagT ⟨s, ps, em⟩, 0) := by unfold putOut; rw [if_pos hk]
      rw [hpo] at C1
      rw [hk0, if_pos rfl] at C2
      rw [hk0] at C3
      rw [hk] at C4
      obtain ⟨hok1, hok2⟩ := checkT_ok hk
      have HBK := Lib.hid (tag_back ⟨s, ps, em⟩ hok1 hok2)
      have HCB := Lib.hid (close_back s hok1)
      clear hk hk0 hpo hok1 hok2 hs hn hp hp4 hgr HCT
      generalize tagT ⟨s, ps, em⟩ = T at *
      generalize closeT s = TC at *
      go_enter Tryd.func4, Tryd.ntmps4
      go_wp2_with fail
      refine CG.out.mono ?_
      rintro e w1 ⟨rfl, hb⟩
      have J1 := Lib.hid (J0.out.kept hb)
      clear hb z0 z1 z2
      have z0 := cell_of 0 J1.out.2
      have z1 := cell_of 1 J1.out.2
      have z2 := cell_of 2 J1.out.2
      go_wp2_with fail
      refine (C1.out _ J1.out.1).mono ?_
      rintro e w2 ⟨rfl, hb⟩
      have J2 := Lib.hid (J1.out.kept hb)
      clear hb z0 z1 z2
      have z0 := cell_of 0 J2.out.2
      go_wp2_with fail
      refine (C2.out _ J2.out.1).mono ?_
      rintro e w3 ⟨rfl, hb⟩
      have J3 := Lib.hid (J2.out.kept hb)
      clear hb z0
      have z0 := cell_of 0 J3.out.2
      go_wp2_with fail
      refine (C3.out _ J3.out.1).mono ?_
      rintro e w4 ⟨rfl, hb⟩
      have J4 := Lib.hid (J3.out.kept hb)
      clear hb z0
      have z0 := cell_of 0 J4.out.2
      have z1 := cell_of 1 J4.out.2
      have z2 := cell_of 2 J4.out.2
      go_wp2_with fail
      refine (C4.out _ J4.out.1).mono ?_
      rintro e w5 ⟨rfl, hb⟩
      have J5 := Lib.hid (J4.out.kept hb)
      clear hb z0 z1 z2
      have z0 := cell_of 0 J5.out.2
      have z1 := cell_of 1 J5.out.2
      have z2 := cell_of 2 J5.out.2
      go_wp2_with fail
      refine (C5.out _ J5.out.1).mono ?_
      rintro e w6 ⟨rfl, hb⟩
      have J6 := Lib.hid (J5.out.kept hb)
      clear hb z0 z1 z2
      have hby := byt_new w6 T (by have := HTS.out; omega)
      have hcv := run_toBytes w6 T
      have hb3 := Lib.bytesWorld_below w6 5 ⟨T.toArray⟩
      have hJ7 := J6.out.kept hb3
      have c3 := tagOpen_c _ _ _ T 0 _ (hby.more (Nat.le_of_eq (Lib.bytesWorld_size _ _ _).symm)) (HWW.out _ hJ7.1) (by have := HTS.out; omega)
      rw [tagAt_0, HBK.out] at c3
      have CO := Lib.hid c3
      have J7 := Lib.hid hJ7
      have hTi : ((T.length : Int) == (T.length : Int)) = true := by simp
      have hTCi : ((TC.length : Int) == (TC.length : Int)) = true := by simp
      clear hby hb3 hJ7 c3
      go_wp2_with fail
      refine CO.out.mono ?_
      rintro e w8 ⟨A8, n8, c8, rfl, hr8, b8⟩
      simp only at hr8
      obtain rfl : n = n8 := HLN.out.symm.trans hr8.len
      have J8 := Lib.hid (J7.out.kept b8)
      have k9 := (Below.refl _ w8).alloc (Nat.le_refl _) (.cells #[.string ⟨s.toArray⟩, .slice A8 n c8, .bool em] 26)
      have q9 := hp_new w8 (.cells #[.string ⟨s.toArray⟩, .slice A8 n c8, .bool em] 26)
      have hr9 := (hr8.below k9).more k9.size
      have hJ9 := J8.out.kept k9
      have hlt9 : w8.heap.size < (w8.alloc (.cells #[.string ⟨s.toArray⟩, .slice A8 n c8, .bool em] 26)).heap.size := by simp
      clear hr8 b8 k9
      have hby2 := byt_new (w8.alloc (.cells #[.string ⟨s.toArray⟩, .slice A8 n c8, .bool em] 26)) TC (by have := HCL.out; omega)
      have hcv2 := run_toBytes (w8.alloc (.cells #[.string ⟨s.toArray⟩, .slice A8 n c8, .bool em] 26)) TC
      have hb10 := Lib.bytesWorld_below (w8.alloc (.cells #[.string ⟨s.toArray⟩, .slice A8 n c8, .bool em] 26)) 5 ⟨TC.toArray⟩
      have hJ10 := hJ9.kept hb10
      have c4 := tagClose_c _ _ _ TC 0 _ (hby2.more (Nat.le_of_eq (Lib.bytesWorld_size _ _ _).symm)) (HWW.out _ hJ10.1) (by have := HCL.out; omega)
      rw [tagAt_0c, HCB.out] at c4
      unfold outV at c4
      simp only at c4
      have hsz10 : (w8.alloc (.cells #[.string ⟨s.toArray⟩, .slice A8 n c8, .bool em] 26)).heap.size = w8.heap.size + 1 := by simp
      have hq10 := (hb10.block w8.heap.size hlt9).trans q9
      have hr10 := (hr9.below hb10).more hb10.size
      rw [hsz10] at c4 hcv2
      have CC := Lib.hid c4
      have H10 := Lib.hid (And.intro hJ10 (And.intro hq10 hr10))
      clear hby2 hb10 hJ10 c4 hq10 hr10 hr9 q9 hJ9 hlt9 hsz10 hcv
      go_wp2_with fail
      refine CC.out.mono ?_
      rintro e w11 ⟨rfl, b11⟩
      have J11 := Lib.hid (H10.out.1.kept b11)
      have q11 := (b11.block w8.heap.size (lt_of H10.out.2.1)).trans H10.out.2.1
      have HR11 := Lib.hid ((H10.out.2.2.below b11).more b11.size)
      have z0 := cell_of 0 J11.out.2
      have z1 := cell_of 1 J11.out.2
      have z2 := cell_of 2 J11.out.2
      have y0 := cell_of 0 q11
      have y1 := cell_of 1 q11
      have y2 := cell_of 2 q11
      have HS2 : Hid (Calls Tryd.prog 11 #[.slice A8 n c8, .slice A n cap] w11 fun e w' => e = .returned (.bool true) ∧ w'.cell? ⟨w.heap.size, 0, none⟩ = some (.string ⟨s.toArray⟩) ∧ w'.cell? ⟨w.heap.size, 2, none⟩ = some (.bool em) ∧ w'.cell? ⟨w8.heap.size, 2, none⟩ = some (.bool em) ∧ Hid (Below w.heap.size w w')) := Lib.hid (by
        refine (same10_c _ _ _ _ _ _ _ HR11.out (HPR.out _ J11.out.1) (by omega)).mono fun e w' ⟨he, hb5⟩ => ?_
        have hx8 := (hb5.block _ (lt_of q11)).trans q11
        have hx0 := (J11.out.kept hb5)
        exact ⟨he, cell_of 0 hx0.2, cell_of 2 hx0.2, cell_of 2 hx8, Lib.hid hx0.1⟩)
      clear b11 q11 hcv2
      go_wp2_with fail
      refine HS2.out.mono ?_
      rintro e w12 ⟨rfl, x0, x2, x8, B12⟩
      clear z0 z1 z2 y0 y1 y2
      go_wp2_with fail
      refine (LV.out _ B12.out).mono ?_
      rintro e w13 ⟨rfl, hb⟩
      have B13 := Lib.hid (B12.out.trans (hb.mono B12.out.size))
      clear hb
      go_wp2
      go_ret
      exact ⟨rfl, B13.out⟩
    · have hpo : putOut s ps em = ([], checkT s ps) := by unfold putOut; rw [if_neg hk]
      rw [hpo] at C1
      have hkk : ((checkT s ps : Int) == (checkT s ps : Int)) = true := by simp
      have hki : ((checkT s ps : Int) != 0) = true := by simp; omega
      have hkj : ¬ (checkT s ps : Int) = 0 := by omega
      clear hpo hs hn hp hp4 hgr HCT hk
      generalize checkT s ps = k at *
      by_cases hk0 : checkT s [] = 0
      · rw [hk0, if_pos rfl] at C2
        rw [hk0] at C3
        clear hk0
        generalize closeT s = TC at *
        go_enter Tryd.func4, Tryd.ntmps4
        go_wp2_with fail
        refine CG.out.mono ?_
        rintro e w1 ⟨rfl, hb⟩
        have J1 := Lib.hid (J0.out.kept hb)
        clear hb z0 z1 z2
        have z0 := cell_of 0 J1.out.2
        have z1 := cell_of 1 J1.out.2
        have z2 := cell_of 2 J1.out.2
        go_wp2_with fail
        refine (C1.out _ J1.out.1).mono ?_
        rintro e w2 ⟨rfl, hb⟩
        have J2 := Lib.hid (J1.out.kept hb)
        clear hb z0 z1 z2
        have z0 := cell_of 0 J2.out.2
        go_wp2_with fail
        refine (C2.out _ J2.out.1).mono ?_
        rintro e w3 ⟨rfl, hb⟩
        have J3 := Lib.hid (J2.out.kept hb)
        clear hb z0
        have z0 := cell_of 0 J3.out.2
        go_wp2_with fail
        refine (C3.out _ J3.out.1).mono ?_
        rintro e w4 ⟨rfl, hb⟩
        have J4 := Lib.hid (J3.out.kept hb)
        clear hb z0
        have z0 := cell_of 0 J4.out.2
        have z1 := cell_of 1 J4.out.2
        have z2 := cell_of 2 J4.out.2
        go_wp2_with fail
        refine (C4.out _ J4.out.1).mono ?_
        rintro e w5 ⟨rfl, hb⟩
        have J5 := Lib.hid (J4.out.kept hb)
        clear hb z0 z1 z2
        have B5 := Lib.hid J5.out.1
        go_wp2_with fail
        refine (LV.out _ B5.out).mono ?_
        rintro e w13 ⟨rfl, hb⟩
        have B13 := Lib.hid (B5.out.trans (hb.mono B5.out.size))
        clear hb
        go_wp2
        go_ret
        exact ⟨rfl, B13.out⟩
      · rw [if_neg hk0] at C2
        have hfk : ((checkT s [] : Int) == (checkT s [] : Int)) = true := by simp
        have hfi : ((checkT s [] : Int) != 0) = true := by simp; omega
        have hfj : ¬ (checkT s [] : Int) = 0 := by omega
        clear hk0
        generalize checkT s [] = k' at *
        go_enter Tryd.func4, Tryd.ntmps4
        go_wp2_with fail
        refine CG.out.mono ?_
        rintro e w1 ⟨rfl, hb⟩
        have J1 := Lib.hid (J0.out.kept hb)
        clear hb z0 z1 z2
        have z0 := cell_of 0 J1.out.2
        have z1 := cell_of 1 J1.out.2
        have z2 := cell_of 2 J1.out.2
        go_wp2_with fail
        refine (C1.out _ J1.out.1).mono ?_
        rintro e w2 ⟨rfl, hb⟩
        have J2 := Lib.hid (J1.out.kept hb)
        clear hb z0 z1 z2
        have z0 := cell_of 0 J2.out.2
        go_wp2_with fail
        refine (C2.out _ J2.out.1).mono ?_
        rintro e w3 ⟨rfl, hb⟩
        have J3 := Lib.hid (J2.out.kept hb)
        clear hb z0
        have z0 := cell_of 0 J3.out.2
        go_wp2_with fail
        refine (C3.out _ J3.out.1).mono ?_
        rintro e w4 ⟨rfl, hb⟩
        have J4 := Lib.hid (J3.out.kept hb)
        clear hb z0
        have z0 := cell_of 0 J4.out.2
        have z1 := cell_of 1 J4.out.2
        have z2 := cell_of 2 J4.out.2
        go_wp2_with fail
        refine (C4.out _ J4.out.1).mono ?_
        rintro e w5 ⟨rfl, hb⟩
        have J5 := Lib.hid (J4.out.kept hb)
        clear hb z0 z1 z2
        have B5 := Lib.hid J5.out.1
        go_wp2_with fail
        refine (LV.out _ B5.out).mono ?_
        rintro e w13 ⟨rfl, hb⟩
        have B13 := Lib.hid (B5.out.trans (hb.mono B5.out.size))
        clear hb
        go_wp2
        go_ret
        exact ⟨rfl, B13.out⟩
end Go.Proofs.YtpblphddpcogcaaDoor
