/- Statements of chapter 6: texts. -/
import Derived.Test.YtljplmidnlahpaaDoorRows
import Derived.WalkKit
import Derived.ProofKit
import Derived.OpenShut
import Derived.ShutString
import Derived.ChangeOld
import Derived.Below
import Derived.BigQuiet
import Derived.Deep.QuietTactic
import Derived.Lib.Hide
import Derived.Deep.RegionHeld3
import Derived.Lib.SlBytesConst
import Derived.Laws.CopyOwn
import Derived.Laws.CopyRow
import Derived.Lib.Bytes
import Derived.Deep.LoopGhost
import Derived.Deep.DeepFit
import Derived.Deep.DeepMust
import Derived.WalkSpells
import Derived.WalkLawsBesides
import Derived.Test.YtljplmidnlahpaaDoorBase
import Derived.Test.YtljplmidnlahpaaDoorShelf
import Derived.Test.YtljplmidnlahpaaDoorCharPlain
import Derived.Test.YtljplmidnlahpaaDoorUtf1
import Derived.Test.YtljplmidnlahpaaDoorUtf2
import Derived.Test.YtljplmidnlahpaaDoorUtf3
import Derived.Test.YtljplmidnlahpaaDoorChars1
import Derived.Test.YtljplmidnlahpaaDoorName1
import Derived.Test.YtljplmidnlahpaaDoorName2
import Derived.Test.YtljplmidnlahpaaDoorName3
import Derived.Test.YtljplmidnlahpaaDoorCref1
import Derived.Test.YtljplmidnlahpaaDoorCref2
import Derived.Test.YtljplmidnlahpaaDoorDig
import Derived.Test.YtljplmidnlahpaaDoorDig2
import Derived.Test.YtljplmidnlahpaaDoorRef1
import Derived.Test.YtljplmidnlahpaaDoorRef3
import Derived.Test.YtljplmidnlahpaaDoorRef4
import Derived.Test.YtljplmidnlahpaaDoorRef9
import Derived.Test.YtljplmidnlahpaaDoorNum
import Derived.Test.YtljplmidnlahpaaDoorCChar
import Derived.Test.YtljplmidnlahpaaDoorCChar2
import Derived.Test.YtljplmidnlahpaaDoorRefC
import Derived.Test.YtljplmidnlahpaaDoorKnown
import Derived.Test.YtljplmidnlahpaaDoorKnown2
import Derived.Test.YtljplmidnlahpaaDoorBuild
import Derived.Test.YtljplmidnlahpaaDoorEsc
import Derived.Test.YtljplmidnlahpaaDoorEsc2
import Derived.Test.YtljplmidnlahpaaDoorStr
import Derived.Test.YtljplmidnlahpaaDoorEscP
import Derived.Test.YtljplmidnlahpaaDoorText
import Derived.Test.YtljplmidnlahpaaDoorLaw06
namespace Go.Proofs.YtljplmidnlahpaaDoor
open Go.ChangeShapes Go.WideShapes Go.ChangeAt Go.RowKit
set_option linter.unusedVariables false
theorem wrap_u8 (c : UInt8) : IntKind.u8.wrap (c.toNat : Int) = (c.toNat : Int) := by
  have := c.toNat_lt
  simp [IntKind.wrap, IntKind.signed, IntKind.bits]
  omega
set_option maxRecDepth 100000 in
set_option maxHeartbeats 2000000 in
theorem crefTexts_walk (r : Int) (sb : ByteArray) (w : World) (hT : Tabs w) (hF : Forms w) (hp : Lib.TabIs Tryd.prog w "internal/strconv.uint64pow10" .u64 Lib.pow10Tab) :
    Calls Tryd.prog 7 #[.int .i64 r, .string sb] w fun e w' => e = .returned (.bool true) ∧ Below w.heap.size w w' := by
  obtain ⟨l, rfl⟩ : ∃ l : List UInt8, sb = ⟨l.toArray⟩ := ⟨sb.data.toList, by cases sb; simp⟩
  have hsz : (⟨l.toArray⟩ : ByteArray).size = l.length := by simp [ByteArray.size]
  have hL := hT.low hF
  have hlv : ∀ w1, Below w.heap.size w w1 → Calls Tryd.prog 21 #[] w1 fun e w' => e = .returned (.bool true) ∧ Below w1.heap.size w1 w' := fun w1 hb => live6_c w1 (hT.below hb hL) (hF.below hb hF.lt)
  have LV := Lib.hid hlv
  by_cases hn : l.length ≤ 200
  · have hn' : ¬ (200 : Int) < (l.length : Int) := by omega
    have HESC : Hid (∀ w1 : World, Calls Tryd.prog 27 #[.string ⟨l.toArray⟩] w1 fun e w' => e = .returned (.string ⟨(esc l).toArray⟩) ∧ Below w1.heap.size w1 w') := Lib.hid fun w1 => escape_c l w1 (by omega)
    have HXL : Hid ((esc l).length ≤ 1200) := Lib.hid (by have := esc_le l; omega)
    have HTX := Lib.hid (text_c r w hT hp)
    have HRD := Lib.hid (text_read r)
    have HHH := Lib.hid (And.intro hT (And.intro hF hL))
    have HRC : Hid (∀ w1 : World, Calls Tryd.prog 25 #[.int .i64 r] w1 fun e w' => e = .returned (.bool (isDoc r)) ∧ w1 = w') := Lib.hid fun w1 => refChar_c r w1
    clear hT hF hL hlv hp
    generalize hX : esc l = X at *
    have HX := Lib.hid hX
    clear hX
    cases hdoc : isDoc r with
    | false =>
      have e1 : textOut r = [] := by unfold textOut; rw [hdoc]; rfl
      rw [hdoc, e1, if_neg (by decide)] at HTX
      rw [hdoc] at HRC
      clear HRD hdoc e1
      go_enter Tryd.func7, Tryd.ntmps7
      go_wp2_with fail
      refine HTX.out.mono ?_
      rintro e w1 ⟨rfl, hb⟩
      have B1 := Lib.hid hb
      clear hb
      go_wp2_with fail
      refine (HRC.out _).mono ?_
      rintro e wq ⟨rfl, rfl⟩
      go_wp2_with fail
      refine (HESC.out w1).mono ?_
      rintro e w5 ⟨rfl, hb⟩
      have B5 : Hid (Below w.heap.size w w5) := Lib.hid (B1.out.trans (hb.mono B1.out.size))
      clear hb
      go_wp2_with fail
      go_loopg [11, 12] (X.length) (fun g bk i wr => ∃ k : Nat, k ≤ l.length ∧ Hid (g + (esc (l.take k)).length = X.length) ∧ i = .int .i64 ((esc (l.take k)).length : Nat) ∧ bk = .string ⟨(l.take k).toArray⟩ ∧ Hid (Below w.heap.size w wr))
      case atStart => exact ⟨0, Nat.zero_le _, Lib.hid (by simp [esc]), rfl, rfl, B5⟩
      case round =>
        obtain ⟨k, hk, hg, rfl, rfl, BR⟩ := hrel
        by_cases hlt : k < l.length
        · have HDR := Lib.hid (esc_drop l k hlt)
          have HEA := Lib.hid (escAt_of (esc l) _ _ _ HDR.out)
          have hcl := (escB_le (l.getD k 0))
          have hXi : (esc (l.take k)).length + (escB (l.getD k 0)).length ≤ X.length := by
            have := len_of_drop HDR.out (by rw [List.length_append]; omega)
            rw [HX.out] at this
            rw [this, List.length_append]; omega
          have HSN : Hid ((esc (l.take (k + 1))).length = (esc (l.take k)).length + (escB (l.getD k 0)).length) := Lib.hid (by
            rw [take_snoc l k (l.getD k 0) (by simp [hlt]), esc_snoc, List.length_append])
          have HTK : Hid (l.take (k + 1) = l.take k ++ [l.getD k 0]) := Lib.hid (take_snoc l k (l.getD k 0) (by simp [hlt]))
          have HTL : Hid ((l.take k).length ≤ 200) := Lib.hid (by rw [List.length_take]; omega)
          rw [HX.out] at HEA
          clear HDR
          generalize hc : l.getD k 0 = c at *
          generalize hi : (esc (l.take k)).length = i at *
          generalize hL : (escB c).length = L at *
          generalize hbk : l.take k = bk at *
          have HCI := Lib.hid (And.intro hc (And.intro hi (And.intro hL hbk)))
          clear hc hi hL hbk
          have hcl1 := hcl.1
          have hcl2 := hcl.2
          clear hcl
          have hiX : i < X.length := by omega
          have hi0 : (0 : Int) ≤ (i : Int) := by omega
          have hi1 : (i : Int) ≤ 1200 := by have := HXL.out; omega
          have hiXi : (i : Int) < (X.length : Int) := by omega
          have hix := run_strIndex X i hiX
          have CC : Hid (charAt X (i : Int) = charOut X i) := Lib.hid (by unfold charAt; rw [if_neg (by omega), Int.toNat_natCast])
          have CR : Hid (refAt 38 X (i : Int) = refOut 38 X i) := Lib.hid (by unfold refAt; rw [if_neg (by omega), Int.toNat_natCast])
          obtain ⟨ca, w6, hcv6, hb6, hs6, hby6⟩ := toBytes wr X (by have := HXL.out; omega)
          have C6 := Lib.hid (refCharR_c _ _ _ X (i : Int) w6 _ hby6 (by have := HXL.out; omega))
          have B6 : Hid (Below w.heap.size w w6) := Lib.hid (BR.out.trans (hb6.mono BR.out.size))
          rw [CC.out] at C6
          obtain ⟨cb, w7, hcv7, hb7, hs7, hby7⟩ := toBytes w6 X (by have := HXL.out; omega)
          have C7 := Lib.hid (refEntityAt_c _ _ _ X (i : Int) 38 w7 (hby7.more (by omega)) (by have := HXL.out; omega))
          have B7 : Hid (Below w.heap.size w w7) := Lib.hid (B6.out.trans (hb7.mono B6.out.size))
          rw [CR.out] at C7
          clear hb6 hs6 hby6 hb7 hs7 hby7 CC CR
          rcases HEA.out with ⟨e0, hne, ⟨ns, hr, hkn, hch, e1⟩ | ⟨hr, hch, e1⟩⟩ | ⟨e0, n38, n60, n34, n13, n10, n9, n62, he, hr, hch⟩
          · have hgd : X.getD i 0 = 38 := by rw [List.getD_eq_getElem?_getD, e0]; rfl
            rw [hgd] at hix
            have hix38 : ∀ w : World, (Instr.index 9 (.string ⟨X.toArray⟩) (.int .i64 (i : Int))).run Tryd.prog w = .ok (.int .u8 38) w := fun w => hix w
            have HRR : Hid (i + L = i + L) := Lib.hid rfl
            rw [hch] at C6
            rw [HCI.out.2.2.1] at hr
            rw [hr] at C7
            have hni : ((i + L : Nat) : Int) ≠ 0 := by omega
            have hni' : (((i + L : Nat) : Int) == 0) = false := by simp; omega
            have hni'' : ((i : Int) + (L : Int) == 0) = false := by simp; omega
            have HKN := Lib.hid hkn
            clear hix hgd e0 hne hr hkn hch e1 HEA
            go_wp2_with fail
            refine C6.out.mono ?_
            rintro e w8 ⟨rfl, rfl⟩
            unfold numV
            go_wp2_with fail
            refine C7.out.mono ?_
            rintro e w8 ⟨rfl, hb⟩
            have B8 : Hid (Below w.heap.size w w8) := Lib.hid (B7.out.trans (hb.mono B7.out.size))
            clear hb
            unfold outV
            go_wp2_with fail
            refine (refKnown_c ⟨ns.toArray⟩ w8).mono ?_
            rintro e w9 ⟨rfl, rfl⟩
            rw [HKN.out]
            clear HKN
            have hwc : IntKind.u8.wrap (c.toNat : Int) = (c.toNat : Int) := wrap_u8 c
            have kb := Byt.const w8 [c] (0, 0) (by simp)
            have hstr : (convert 29 9 (.slice (some ⟨w8.heap.size, 0, none⟩) 1 1)).run Tryd.prog (w8.alloc (.cells #[.int .u8 (c.toNat : Int)] 5)) = .ok (.string ⟨#[c]⟩) (w8.alloc (.cells #[.int .u8 (c.toNat : Int)] 5)) := kb.str
            have hsp : ∀ w : World, (Op.stringOp .add ⟨bk.toArray⟩ ⟨#[c]⟩).run Tryd.prog w = .ok (.string ⟨(bk ++ [c]).toArray⟩) w := fun w => run_sop (w := w) bk [c] (by have := HTL.out; simp; omega)
            have HBK : Hid (l.take (k + 1) = bk ++ [c]) := Lib.hid HTK.out
            generalize bk ++ [c] = bk' at *
            have B9 : Hid (Below w.heap.size w (w8.alloc (.cells #[.int .u8 (c.toNat : Int)] 5))) := Lib.hid (B8.out.alloc B8.out.size _)
            clear kb
            generalize (c.toNat : Int) = cn at *
            go_wp2
            go_roundg (X.length - (i + L))
            case measure => have := hg.out; omega
            case rel => exact ⟨k + 1, by omega, Lib.hid (by rw [HSN.out]; omega), by rw [HSN.out]; go_num, by rw [HBK.out], B9⟩
          · have hgd : X.getD i 0 = 38 := by rw [List.getD_eq_getElem?_getD, e0]; rfl
            rw [hgd] at hix
            have hix38 : ∀ w : World, (Instr.index 9 (.string ⟨X.toArray⟩) (.int .i64 (i : Int))).run Tryd.prog w = .ok (.int .u8 38) w := fun w => hix w
            rw [HCI.out.2.2.1] at hch
            rw [hch] at C6
            rw [hr] at C7
            have hni : ((i + L : Nat) : Int) ≠ 0 := by omega
            have hni' : (((i + L : Nat) : Int) == 0) = false := by simp; omega
            have hni'' : ((i : Int) + (L : Int) == 0) = false := by simp; omega
            clear hix hgd e0 hne hr hch e1 HEA
            go_wp2_with fail
            refine C6.out.mono ?_
            rintro e w8 ⟨rfl, rfl⟩
            unfold numV
            go_wp2_with fail
            refine C7.out.mono ?_
            rintro e w8 ⟨rfl, hb⟩
            have B8 : Hid (Below w.heap.size w w8) := Lib.hid (B7.out.trans (hb.mono B7.out.size))
            clear hb
            unfold outV
            have hwc : IntKind.u8.wrap (c.toNat : Int) = (c.toNat : Int) := wrap_u8 c
            have kb := Byt.const w8 [c] (0, 0) (by simp)
            have hstr : (convert 29 9 (.slice (some ⟨w8.heap.size, 0, none⟩) 1 1)).run Tryd.prog (w8.alloc (.cells #[.int .u8 (c.toNat : Int)] 5)) = .ok (.string ⟨#[c]⟩) (w8.alloc (.cells #[.int .u8 (c.toNat : Int)] 5)) := kb.str
            have hsp : ∀ w : World, (Op.stringOp .add ⟨bk.toArray⟩ ⟨#[c]⟩).run Tryd.prog w = .ok (.string ⟨(bk ++ [c]).toArray⟩) w := fun w => run_sop (w := w) bk [c] (by have := HTL.out; simp; omega)
            have HBK : Hid (l.take (k + 1) = bk ++ [c]) := Lib.hid HTK.out
            generalize bk ++ [c] = bk' at *
            have B9 : Hid (Below w.heap.size w (w8.alloc (.cells #[.int .u8 (c.toNat : Int)] 5))) := Lib.hid (B8.out.alloc B8.out.size _)
            clear kb
            generalize (c.toNat : Int) = cn at *
            go_wp2
            go_roundg (X.length - (i + L))
            case measure => have := hg.out; omega
            case rel => exact ⟨k + 1, by omega, Lib.hid (by rw [HSN.out]; omega), by rw [HSN.out]; go_num, by rw [HBK.out], B9⟩
          · have hgd : X.getD i 0 = c := by rw [List.getD_eq_getElem?_getD, e0]; rfl
            rw [hgd] at hix
            have a1 : ((c.toNat : Int) == 60) = false := ne_byte c 60 60 rfl n60
            have a2 : ((c.toNat : Int) == 34) = false := ne_byte c 34 34 rfl n34
            have a3 : ((c.toNat : Int) == 13) = false := ne_byte c 13 13 rfl n13
            have a4 : ((c.toNat : Int) == 10) = false := ne_byte c 10 10 rfl n10
            have a5 : ((c.toNat : Int) == 9) = false := ne_byte c 9 9 rfl n9
            rw [hch] at C6
            rw [hr] at C7
            have HL1 : Hid (L = 1) := Lib.hid (by rw [← HCI.out.2.2.1, he]; rfl)
            have hsl := run_strSlice X i (i + 1) (by omega) (by omega)
            have hsl' : ∀ w : World, (Instr.slice 9 (.string ⟨X.toArray⟩) (some (.int .i64 (i : Int))) (some (.int .i64 ((i : Int) + 1))) none).run Tryd.prog w = .ok (.string ⟨#[c]⟩) w := fun w => by
              have := hsl w
              rw [show i + 1 - i = 1 by omega, List.drop_eq_getElem_cons hiX, List.take_succ_cons, List.take_zero] at this
              rw [show ((i + 1 : Nat) : Int) = (i : Int) + 1 by omega] at this
              rw [this]
              rw [List.getD_eq_getElem?_getD, List.getElem?_eq_getElem hiX] at hgd
              simp only [Option.getD_some] at hgd
              rw [hgd]
            have hsp : ∀ w : World, (Op.stringOp .add ⟨bk.toArray⟩ ⟨#[c]⟩).run Tryd.prog w = .ok (.string ⟨(bk ++ [c]).toArray⟩) w := fun w => run_sop (w := w) bk [c] (by have := HTL.out; simp; omega)
            have HBK : Hid (l.take (k + 1) = bk ++ [c]) := Lib.hid HTK.out
            generalize bk ++ [c] = bk' at *
            clear hgd e0 n38 n60 n34 n13 n10 n9 n62 he hr hch hsl HEA
            go_wp2_with fail
            refine C6.out.mono ?_
            rintro e w8 ⟨rfl, rfl⟩
            unfold numV
            go_wp2_with fail
            refine C7.out.mono ?_
            rintro e w8 ⟨rfl, hb⟩
            have B8 : Hid (Below w.heap.size w w8) := Lib.hid (B7.out.trans (hb.mono B7.out.size))
            clear hb
            unfold outV
            go_wp2
            go_roundg (X.length - (i + 1))
            case measure => have := hg.out; omega
            case rel => exact ⟨k + 1, by omega, Lib.hid (by rw [HSN.out, HL1.out]; omega), by rw [HSN.out, HL1.out]; go_num, by rw [HBK.out], B8⟩
        · obtain rfl : k = l.length := by omega
          have hkl : (esc (l.take l.length)).length = X.length := by rw [List.take_length, HX.out]
          rw [hkl, List.take_length]
          have HRE : Hid (Calls Tryd.prog 20 #[.string ⟨l.toArray⟩] wr fun e w' => e = .returned (.string ⟨X.toArray⟩) ∧ wr = w') := Lib.hid (by have := refEscape_c l wr (by omega); rwa [HX.out] at this)
          have LV' : Hid (Calls Tryd.prog 21 #[] wr fun e w' => e = .returned (.bool true) ∧ Below wr.heap.size wr w') := Lib.hid (LV.out wr BR.out)
          clear hkl
          go_wp2_with fail
          refine HRE.out.mono ?_
          rintro e w6 ⟨rfl, rfl⟩
          go_wp2_with fail
          refine LV'.out.mono ?_
          rintro e w6 ⟨rfl, hb⟩
          have B6 : Hid (Below w.heap.size w w6) := Lib.hid (BR.out.trans (hb.mono BR.out.size))
          clear hb
          go_wp2
          go_ret
          exact ⟨rfl, B6.out⟩

    | true =>
      have e1 : textOut r = 38 :: 35 :: (Lib.decDigits r.toNat ++ [59]) := by unfold textOut; rw [hdoc]; rfl
      have hrd := HRD.out hdoc
      have hr := (isDoc_iff r).1 hdoc
      obtain ⟨n, rfl⟩ : ∃ n : Nat, r = (n : Int) := ⟨r.toNat, by omega⟩
      have hn2 : n ≤ 2000000 := by omega
      rw [Int.toNat_natCast] at e1
      have HDG : Hid (∀ w1 : World, Calls Tryd.prog 26 #[.int .i64 n] w1 fun e w' => e = .returned (.string ⟨(Lib.decDigits n).toArray⟩) ∧ w1 = w') := Lib.hid fun w1 => refDigits_c n hn2 w1
      have hle := decDigits_le n hn2
      have hsp : ∀ w : World, (Op.stringOp .add ⟨#[38, 35]⟩ ⟨(Lib.decDigits n).toArray⟩).run Tryd.prog w = .ok (.string ⟨([38, 35] ++ Lib.decDigits n).toArray⟩) w := fun w => run_sop (w := w) [38, 35] (Lib.decDigits n) (by simp; omega)
      have hsp2 : ∀ w : World, (Op.stringOp .add ⟨([38, 35] ++ Lib.decDigits n).toArray⟩ ⟨#[59]⟩).run Tryd.prog w = .ok (.string ⟨([38, 35] ++ Lib.decDigits n ++ [59]).toArray⟩) w := fun w => run_sop (w := w) ([38, 35] ++ Lib.decDigits n) [59] (by simp; omega)
      rw [show [38, 35] ++ Lib.decDigits n ++ [59] = textOut (n : Int) by rw [e1]; simp] at hsp2
      have htl : (textOut (n : Int)).length ≤ 1000 := by rw [e1]; simp; omega
      have HTL2 := Lib.hid htl
      have hns : ((⟨(textOut (n : Int)).toArray⟩ : ByteArray).toList == []) = false := by rw [Lib.toList_data]; rw [e1]; rfl
      rw [hdoc, if_pos rfl] at HTX
      rw [hdoc] at HRC
      have htz : (⟨(textOut (n : Int)).toArray⟩ : ByteArray).size = (textOut (n : Int)).length := by simp [ByteArray.size]
      clear HRD hdoc e1 hr hle htl hns
      generalize textOut (n : Int) = T at *
      generalize [38, 35] ++ Lib.decDigits n = T1 at *
      have HRDD := Lib.hid hrd
      clear hrd
      go_enter Tryd.func7, Tryd.ntmps7
      go_wp2_with fail
      refine HTX.out.mono ?_
      rintro e w1 ⟨rfl, hb⟩
      have B1 := Lib.hid hb
      clear hb
      go_wp2_with fail
      refine (HRC.out _).mono ?_
      rintro e wz ⟨rfl, rfl⟩
      obtain ⟨ct, w2, hcv, hb2, hs2, hby2⟩ := toBytes w1 T (by have := HTL2.out; omega)
      have B2 : Hid (Below w.heap.size w w2) := Lib.hid (B1.out.trans (hb2.mono B1.out.size))
      have C2 := Lib.hid (crefChar_c _ _ _ T 0 w2 (hby2.more (by omega)) (HHH.out.2.1.below B2.out HHH.out.2.1.lt) (HHH.out.1.below B2.out HHH.out.2.2) (by have := HTL2.out; omega))
      rw [HRDD.out] at C2
      clear hb2 hs2 hby2
      unfold numV at C2
      go_wp2_with fail
      refine C2.out.mono ?_
      rintro e w3 ⟨rfl, hb⟩
      have B3 : Hid (Below w.heap.size w w3) := Lib.hid (B2.out.trans (hb.mono B2.out.size))
      clear hb
      go_wp2_with fail
      refine (HDG.out w3).mono ?_
      rintro e wq ⟨rfl, rfl⟩
      clear hcv
      go_wp2_with fail
      refine (HESC.out w3).mono ?_
      rintro e w5 ⟨rfl, hb⟩
      have B5 : Hid (Below w.heap.size w w5) := Lib.hid (B3.out.trans (hb.mono B3.out.size))
      clear hb
      go_wp2_with fail
      go_loopg [11, 12] (X.length) (fun g bk i wr => ∃ k : Nat, k ≤ l.length ∧ Hid (g + (esc (l.take k)).length = X.length) ∧ i = .int .i64 ((esc (l.take k)).length : Nat) ∧ bk = .string ⟨(l.take k).toArray⟩ ∧ Hid (Below w.heap.size w wr))
      case atStart => exact ⟨0, Nat.zero_le _, Lib.hid (by simp [esc]), rfl, rfl, B5⟩
      case round =>
        obtain ⟨k, hk, hg, rfl, rfl, BR⟩ := hrel
        by_cases hlt : k < l.length
        · have HDR := Lib.hid (esc_drop l k hlt)
          have HEA := Lib.hid (escAt_of (esc l) _ _ _ HDR.out)
          have hcl := (escB_le (l.getD k 0))
          have hXi : (esc (l.take k)).length + (escB (l.getD k 0)).length ≤ X.length := by
            have := len_of_drop HDR.out (by rw [List.length_append]; omega)
            rw [HX.out] at this
            rw [this, List.length_append]; omega
          have HSN : Hid ((esc (l.take (k + 1))).length = (esc (l.take k)).length + (escB (l.getD k 0)).length) := Lib.hid (by
            rw [take_snoc l k (l.getD k 0) (by simp [hlt]), esc_snoc, List.length_append])
          have HTK : Hid (l.take (k + 1) = l.take k ++ [l.getD k 0]) := Lib.hid (take_snoc l k (l.getD k 0) (by simp [hlt]))
          have HTL : Hid ((l.take k).length ≤ 200) := Lib.hid (by rw [List.length_take]; omega)
          rw [HX.out] at HEA
          clear HDR
          generalize hc : l.getD k 0 = c at *
          generalize hi : (esc (l.take k)).length = i at *
          generalize hL : (escB c).length = L at *
          generalize hbk : l.take k = bk at *
          have HCI := Lib.hid (And.intro hc (And.intro hi (And.intro hL hbk)))
          clear hc hi hL hbk
          have hcl1 := hcl.1
          have hcl2 := hcl.2
          clear hcl
          have hiX : i < X.length := by omega
          have hi0 : (0 : Int) ≤ (i : Int) := by omega
          have hi1 : (i : Int) ≤ 1200 := by have := HXL.out; omega
          have hiXi : (i : Int) < (X.length : Int) := by omega
          have hix := run_strIndex X i hiX
          have CC : Hid (charAt X (i : Int) = charOut X i) := Lib.hid (by unfold charAt; rw [if_neg (by omega), Int.toNat_natCast])
          have CR : Hid (refAt 38 X (i : Int) = refOut 38 X i) := Lib.hid (by unfold refAt; rw [if_neg (by omega), Int.toNat_natCast])
          obtain ⟨ca, w6, hcv6, hb6, hs6, hby6⟩ := toBytes wr X (by have := HXL.out; omega)
          have C6 := Lib.hid (refCharR_c _ _ _ X (i : Int) w6 _ hby6 (by have := HXL.out; omega))
          have B6 : Hid (Below w.heap.size w w6) := Lib.hid (BR.out.trans (hb6.mono BR.out.size))
          rw [CC.out] at C6
          obtain ⟨cb, w7, hcv7, hb7, hs7, hby7⟩ := toBytes w6 X (by have := HXL.out; omega)
          have C7 := Lib.hid (refEntityAt_c _ _ _ X (i : Int) 38 w7 (hby7.more (by omega)) (by have := HXL.out; omega))
          have B7 : Hid (Below w.heap.size w w7) := Lib.hid (B6.out.trans (hb7.mono B6.out.size))
          rw [CR.out] at C7
          clear hb6 hs6 hby6 hb7 hs7 hby7 CC CR
          rcases HEA.out with ⟨e0, hne, ⟨ns, hr, hkn, hch, e1⟩ | ⟨hr, hch, e1⟩⟩ | ⟨e0, n38, n60, n34, n13, n10, n9, n62, he, hr, hch⟩
          · have hgd : X.getD i 0 = 38 := by rw [List.getD_eq_getElem?_getD, e0]; rfl
            rw [hgd] at hix
            have hix38 : ∀ w : World, (Instr.index 9 (.string ⟨X.toArray⟩) (.int .i64 (i : Int))).run Tryd.prog w = .ok (.int .u8 38) w := fun w => hix w
            have HRR : Hid (i + L = i + L) := Lib.hid rfl
            rw [hch] at C6
            rw [HCI.out.2.2.1] at hr
            rw [hr] at C7
            have hni : ((i + L : Nat) : Int) ≠ 0 := by omega
            have hni' : (((i + L : Nat) : Int) == 0) = false := by simp; omega
            have hni'' : ((i : Int) + (L : Int) == 0) = false := by simp; omega
            have HKN := Lib.hid hkn
            clear hix hgd e0 hne hr hkn hch e1 HEA
            go_wp2_with fail
            refine C6.out.mono ?_
            rintro e w8 ⟨rfl, rfl⟩
            unfold numV
            go_wp2_with fail
            refine C7.out.mono ?_
            rintro e w8 ⟨rfl, hb⟩
            have B8 : Hid (Below w.heap.size w w8) := Lib.hid (B7.out.trans (hb.mono B7.out.size))
            clear hb
            unfold outV
            go_wp2_with fail
            refine (refKnown_c ⟨ns.toArray⟩ w8).mono ?_
            rintro e w9 ⟨rfl, rfl⟩
            rw [HKN.out]
            clear HKN
            have hwc : IntKind.u8.wrap (c.toNat : Int) = (c.toNat : Int) := wrap_u8 c
            have kb := Byt.const w8 [c] (0, 0) (by simp)
            have hstr : (convert 29 9 (.slice (some ⟨w8.heap.size, 0, none⟩) 1 1)).run Tryd.prog (w8.alloc (.cells #[.int .u8 (c.toNat : Int)] 5)) = .ok (.string ⟨#[c]⟩) (w8.alloc (.cells #[.int .u8 (c.toNat : Int)] 5)) := kb.str
            have hsp : ∀ w : World, (Op.stringOp .add ⟨bk.toArray⟩ ⟨#[c]⟩).run Tryd.prog w = .ok (.string ⟨(bk ++ [c]).toArray⟩) w := fun w => run_sop (w := w) bk [c] (by have := HTL.out; simp; omega)
            have HBK : Hid (l.take (k + 1) = bk ++ [c]) := Lib.hid HTK.out
            generalize bk ++ [c] = bk' at *
            have B9 : Hid (Below w.heap.size w (w8.alloc (.cells #[.int .u8 (c.toNat : Int)] 5))) := Lib.hid (B8.out.alloc B8.out.size _)
            clear kb
            generalize (c.toNat : Int) = cn at *
            go_wp2
            go_roundg (X.length - (i + L))
            case measure => have := hg.out; omega
            case rel => exact ⟨k + 1, by omega, Lib.hid (by rw [HSN.out]; omega), by rw [HSN.out]; go_num, by rw [HBK.out], B9⟩
          · have hgd : X.getD i 0 = 38 := by rw [List.getD_eq_getElem?_getD, e0]; rfl
            rw [hgd] at hix
            have hix38 : ∀ w : World, (Instr.index 9 (.string ⟨X.toArray⟩) (.int .i64 (i : Int))).run Tryd.prog w = .ok (.int .u8 38) w := fun w => hix w
            rw [HCI.out.2.2.1] at hch
            rw [hch] at C6
            rw [hr] at C7
            have hni : ((i + L : Nat) : Int) ≠ 0 := by omega
            have hni' : (((i + L : Nat) : Int) == 0) = false := by simp; omega
            have hni'' : ((i : Int) + (L : Int) == 0) = false := by simp; omega
            clear hix hgd e0 hne hr hch e1 HEA
            go_wp2_with fail
            refine C6.out.mono ?_
            rintro e w8 ⟨rfl, rfl⟩
            unfold numV
            go_wp2_with fail
            refine C7.out.mono ?_
            rintro e w8 ⟨rfl, hb⟩
            have B8 : Hid (Below w.heap.size w w8) := Lib.hid (B7.out.trans (hb.mono B7.out.size))
            clear hb
            unfold outV
            have hwc : IntKind.u8.wrap (c.toNat : Int) = (c.toNat : Int) := wrap_u8 c
            have kb := Byt.const w8 [c] (0, 0) (by simp)
            have hstr : (convert 29 9 (.slice (some ⟨w8.heap.size, 0, none⟩) 1 1)).run Tryd.prog (w8.alloc (.cells #[.int .u8 (c.toNat : Int)] 5)) = .ok (.string ⟨#[c]⟩) (w8.alloc (.cells #[.int .u8 (c.toNat : Int)] 5)) := kb.str
            have hsp : ∀ w : World, (Op.stringOp .add ⟨bk.toArray⟩ ⟨#[c]⟩).run Tryd.prog w = .ok (.string ⟨(bk ++ [c]).toArray⟩) w := fun w => run_sop (w := w) bk [c] (by have := HTL.out; simp; omega)
            have HBK : Hid (l.take (k + 1) = bk ++ [c]) := Lib.hid HTK.out
            generalize bk ++ [c] = bk' at *
            have B9 : Hid (Below w.heap.size w (w8.alloc (.cells #[.int .u8 (c.toNat : Int)] 5))) := Lib.hid (B8.out.alloc B8.out.size _)
            clear kb
            generalize (c.toNat : Int) = cn at *
            go_wp2
            go_roundg (X.length - (i + L))
            case measure => have := hg.out; omega
            case rel => exact ⟨k + 1, by omega, Lib.hid (by rw [HSN.out]; omega), by rw [HSN.out]; go_num, by rw [HBK.out], B9⟩
          · have hgd : X.getD i 0 = c := by rw [List.getD_eq_getElem?_getD, e0]; rfl
            rw [hgd] at hix
            have a1 : ((c.toNat : Int) == 60) = false := ne_byte c 60 60 rfl n60
            have a2 : ((c.toNat : Int) == 34) = false := ne_byte c 34 34 rfl n34
            have a3 : ((c.toNat : Int) == 13) = false := ne_byte c 13 13 rfl n13
            have a4 : ((c.toNat : Int) == 10) = false := ne_byte c 10 10 rfl n10
            have a5 : ((c.toNat : Int) == 9) = false := ne_byte c 9 9 rfl n9
            rw [hch] at C6
            rw [hr] at C7
            have HL1 : Hid (L = 1) := Lib.hid (by rw [← HCI.out.2.2.1, he]; rfl)
            have hsl := run_strSlice X i (i + 1) (by omega) (by omega)
            have hsl' : ∀ w : World, (Instr.slice 9 (.string ⟨X.toArray⟩) (some (.int .i64 (i : Int))) (some (.int .i64 ((i : Int) + 1))) none).run Tryd.prog w = .ok (.string ⟨#[c]⟩) w := fun w => by
              have := hsl w
              rw [show i + 1 - i = 1 by omega, List.drop_eq_getElem_cons hiX, List.take_succ_cons, List.take_zero] at this
              rw [show ((i + 1 : Nat) : Int) = (i : Int) + 1 by omega] at this
              rw [this]
              rw [List.getD_eq_getElem?_getD, List.getElem?_eq_getElem hiX] at hgd
              simp only [Option.getD_some] at hgd
              rw [hgd]
            have hsp : ∀ w : World, (Op.stringOp .add ⟨bk.toArray⟩ ⟨#[c]⟩).run Tryd.prog w = .ok (.string ⟨(bk ++ [c]).toArray⟩) w := fun w => run_sop (w := w) bk [c] (by have := HTL.out; simp; omega)
            have HBK : Hid (l.take (k + 1) = bk ++ [c]) := Lib.hid HTK.out
            generalize bk ++ [c] = bk' at *
            clear hgd e0 n38 n60 n34 n13 n10 n9 n62 he hr hch hsl HEA
            go_wp2_with fail
            refine C6.out.mono ?_
            rintro e w8 ⟨rfl, rfl⟩
            unfold numV
            go_wp2_with fail
            refine C7.out.mono ?_
            rintro e w8 ⟨rfl, hb⟩
            have B8 : Hid (Below w.heap.size w w8) := Lib.hid (B7.out.trans (hb.mono B7.out.size))
            clear hb
            unfold outV
            go_wp2
            go_roundg (X.length - (i + 1))
            case measure => have := hg.out; omega
            case rel => exact ⟨k + 1, by omega, Lib.hid (by rw [HSN.out, HL1.out]; omega), by rw [HSN.out, HL1.out]; go_num, by rw [HBK.out], B8⟩
        · obtain rfl : k = l.length := by omega
          have hkl : (esc (l.take l.length)).length = X.length := by rw [List.take_length, HX.out]
          rw [hkl, List.take_length]
          have HRE : Hid (Calls Tryd.prog 20 #[.string ⟨l.toArray⟩] wr fun e w' => e = .returned (.string ⟨X.toArray⟩) ∧ wr = w') := Lib.hid (by have := refEscape_c l wr (by omega); rwa [HX.out] at this)
          have LV' : Hid (Calls Tryd.prog 21 #[] wr fun e w' => e = .returned (.bool true) ∧ Below wr.heap.size wr w') := Lib.hid (LV.out wr BR.out)
          clear hkl
          go_wp2_with fail
          refine HRE.out.mono ?_
          rintro e w6 ⟨rfl, rfl⟩
          go_wp2_with fail
          refine LV'.out.mono ?_
          rintro e w6 ⟨rfl, hb⟩
          have B6 : Hid (Below w.heap.size w w6) := Lib.hid (BR.out.trans (hb.mono BR.out.size))
          clear hb
          go_wp2
          go_ret
          exact ⟨rfl, B6.out⟩

  · have hn' : (200 : Int) < (l.length : Int) := by omega
    clear hT hF hL hlv hn hp
    go_enter Tryd.func7, Tryd.ntmps7
    go_wp2_with fail
    refine (LV.out _ (Below.refl _ _)).mono ?_
    rintro e w1 ⟨rfl, hb⟩
    have B1 := Lib.hid hb
    clear hb
    go_wp2
    go_ret
    exact ⟨rfl, B1.out⟩
end Go.Proofs.YtljplmidnlahpaaDoor
