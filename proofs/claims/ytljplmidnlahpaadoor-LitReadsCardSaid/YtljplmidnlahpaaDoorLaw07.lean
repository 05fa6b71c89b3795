/- Statements of chapter 7. -/
import Derived.Test.YtljplmidnlahpaaDoorRows
import Derived.WalkKit
import Derived.ProofKit
import Derived.OpenShut
import Derived.ShutString
import Derived.ChangeOld
import Derived.Below
import Derived.BigQuiet
import Derived.Deep.QuietTactic
import Derived.Lib.Hide
import Derived.Deep.RegionHeld3
import Derived.Lib.SlBytesConst
import Derived.Laws.CopyOwn
import Derived.Laws.CopyRow
import Derived.Lib.Bytes
import Derived.Deep.LoopGhost
import Derived.Deep.DeepFit
import Derived.Deep.DeepMust
import Derived.WalkSpells
import Derived.WalkLawsBesides
import Derived.Test.YtljplmidnlahpaaDoorBase
import Derived.Test.YtljplmidnlahpaaDoorShelf
import Derived.Test.YtljplmidnlahpaaDoorCharPlain
import Derived.Test.YtljplmidnlahpaaDoorUtf1
import Derived.Test.YtljplmidnlahpaaDoorUtf2
import Derived.Test.YtljplmidnlahpaaDoorUtf3
import Derived.Test.YtljplmidnlahpaaDoorChars1
import Derived.Test.YtljplmidnlahpaaDoorName1
import Derived.Test.YtljplmidnlahpaaDoorName2
import Derived.Test.YtljplmidnlahpaaDoorName3
import Derived.Test.YtljplmidnlahpaaDoorCref1
import Derived.Test.YtljplmidnlahpaaDoorCref2
import Derived.Test.YtljplmidnlahpaaDoorDig
import Derived.Test.YtljplmidnlahpaaDoorDig2
import Derived.Test.YtljplmidnlahpaaDoorRef1
import Derived.Test.YtljplmidnlahpaaDoorRef9
import Derived.Test.YtljplmidnlahpaaDoorNum
import Derived.Test.YtljplmidnlahpaaDoorCChar
import Derived.Test.YtljplmidnlahpaaDoorCChar2
import Derived.Test.YtljplmidnlahpaaDoorRefC
import Derived.Test.YtljplmidnlahpaaDoorKnown
import Derived.Test.YtljplmidnlahpaaDoorBuild
import Derived.Test.YtljplmidnlahpaaDoorEsc
import Derived.Test.YtljplmidnlahpaaDoorEsc2
import Derived.Test.YtljplmidnlahpaaDoorStr
import Derived.Test.YtljplmidnlahpaaDoorEscP
import Derived.Test.YtljplmidnlahpaaDoorLitP
import Derived.Test.YtljplmidnlahpaaDoorLit1
import Derived.Test.YtljplmidnlahpaaDoorLit2
import Derived.Test.YtljplmidnlahpaaDoorLit3
import Derived.Test.YtljplmidnlahpaaDoorLit4
namespace Go.Proofs.YtljplmidnlahpaaDoor
open Go.ChangeShapes Go.WideShapes Go.ChangeAt Go.RowKit
set_option linter.unusedVariables false
set_option maxRecDepth 100000 in
set_option maxHeartbeats 4000000 in
theorem live7_c (w : World) (hT : Tabs w) (hF : Forms w) : Calls Tryd.prog 9 #[] w fun e w' => e = .returned (.bool true) ∧ Below w.heap.size w w' := by
  have kc := fun (w : World) (C : Array Value) (n c : Nat) => Lib.run_convert_bytes_const (P := Tryd.prog) w 29 5 C n c Tryd.underlying29 Tryd.underlying5
  have hL := hT.low hF
  have k1 := Byt.const w [39, 97, 38, 97, 109, 112, 59, 98, 39] (9, 10) (by decide)
  have b1 : Below w.heap.size w (w.alloc (.cells ([39, 97, 38, 97, 109, 112, 59, 98, 39].map bv).toArray 5 (9, 10))) := (Below.refl _ _).alloc (Nat.le_refl _) _
  have c1 := litValue_c _ _ _ _ 0 _ (k1.more (by simp)) (hT.below b1 hL) (hF.below b1 hF.lt) (by decide)
  rw [show strictAt 60 [39, 97, 38, 97, 109, 112, 59, 98, 39] 0 = ([97, 38, 97, 109, 112, 59, 98], 9, 0) by decide +kernel] at c1
  have HH := Lib.hid (And.intro hT (And.intro hF (And.intro hL b1)))
  clear hT hF hL k1 b1
  have C1 := Lib.hid c1
  clear c1
  go_enter Tryd.func9, Tryd.ntmps9
  go_wp2_with fail
  refine C1.out.mono ?_
  rintro e w1 ⟨rfl, hb1⟩
  have HB1 := Lib.hid (HH.out.2.2.2.trans (hb1.mono HH.out.2.2.2.size))
  have k2 := Byt.const w1 [39, 97, 60, 98, 39] (5, 6) (by decide)
  have b2 : Below w.heap.size w (w1.alloc (.cells ([39, 97, 60, 98, 39].map bv).toArray 5 (5, 6))) := HB1.out.alloc HB1.out.size _
  have c2 := litValue_c _ _ _ _ 0 _ (k2.more (by simp)) (HH.out.1.below b2 HH.out.2.2.1) (HH.out.2.1.below b2 HH.out.2.1.lt) (by decide)
  rw [show strictAt 60 [39, 97, 60, 98, 39] 0 = ([], 0, 7) by decide +kernel] at c2
  have C2 := Lib.hid c2
  have HB2 := Lib.hid b2
  clear hb1 k2 b2 c2
  unfold outV
  go_wp2_with fail
  refine C2.out.mono ?_
  rintro e w2 ⟨rfl, hb2⟩
  have HB3 := Lib.hid (HB2.out.trans (hb2.mono HB2.out.size))
  clear hb2
  have c3 := refs_c [97, 38, 98] w2 (HH.out.1.below HB3.out HH.out.2.2.1) (HH.out.2.1.below HB3.out HH.out.2.1.lt) (by decide)
  rw [show refsOut [97, 38, 98] = (1, 7) by decide +kernel] at c3
  have C3 := Lib.hid c3
  clear c3
  unfold outV
  go_wp2_with fail
  refine C3.out.mono ?_
  rintro e w3 ⟨rfl, hb3⟩
  have HB4 := Lib.hid (HB3.out.trans (hb3.mono HB3.out.size))
  clear hb3
  go_wp2
  go_ret
  exact ⟨rfl, HB4.out⟩
set_option maxRecDepth 100000 in
set_option maxHeartbeats 4000000 in
theorem litRefs_walk (sb : ByteArray) (w : World) (hT : Tabs w) (hF : Forms w) :
    Calls Tryd.prog 3 #[.string sb] w fun e w' => e = .returned (.bool true) ∧ Below w.heap.size w w' := by
  obtain ⟨l, rfl⟩ : ∃ l : List UInt8, sb = ⟨l.toArray⟩ := ⟨sb.data.toList, by cases sb; simp⟩
  have hsz : (⟨l.toArray⟩ : ByteArray).size = l.length := by simp [ByteArray.size]
  have hL := hT.low hF
  have LV : Hid (∀ w1, Below w.heap.size w w1 → Calls Tryd.prog 9 #[] w1 fun e w' => e = .returned (.bool true) ∧ Below w1.heap.size w1 w') := Lib.hid fun w1 hb => live7_c w1 (hT.below hb hL) (hF.below hb hF.lt)
  by_cases hn : l.length ≤ 400
  · have hn' : ¬ (400 : Int) < (l.length : Int) := by omega
    have c1 := Lib.hid (refs_c l w hT hF (by omega))
    have c2 : Hid (∀ w1, Calls Tryd.prog 11 #[.string ⟨l.toArray⟩] w1 fun e w' => e = .returned (.tuple #[.int .i64 (refsOut l).1, .int .i64 (refsOut l).2]) ∧ Below w1.heap.size w1 w') := Lib.hid fun w1 => refRefs_c l w1 (by omega)
    clear hT hF hL hn
    generalize refsOut l = r at *
    obtain ⟨r1, r2⟩ := r
    go_enter Tryd.func3, Tryd.ntmps3
    go_wp2_with fail
    refine c1.out.mono ?_
    rintro e w1 ⟨rfl, hb⟩
    have B1 := Lib.hid hb
    clear hb
    go_wp2_with fail
    refine (c2.out _).mono ?_
    rintro e w2 ⟨rfl, hb⟩
    have B2 := Lib.hid (B1.out.trans (hb.mono B1.out.size))
    clear hb
    go_wp2_with fail
    refine (LV.out _ B2.out).mono ?_
    rintro e w6 ⟨rfl, hb⟩
    have B6 := Lib.hid (B2.out.trans (hb.mono B2.out.size))
    clear hb
    go_wp2
    go_ret
    exact ⟨rfl, B6.out⟩
  · have hn' : (400 : Int) < (l.length : Int) := by omega
    clear hT hF hL hn
    go_enter Tryd.func3, Tryd.ntmps3
    go_wp2_with fail
    refine (LV.out _ (Below.refl _ _)).mono ?_
    rintro e w1 ⟨rfl, hb⟩
    have B1 := Lib.hid hb
    clear hb
    go_wp2
    go_ret
    exact ⟨rfl, B1.out⟩
/-- No byte that is looked for stands in an escaped text. -/
theorem esc_free (l : List UInt8) (q : UInt8) (hq : q = 34 ∨ q = 60) : ∀ j : Nat, (esc l)[j]? ≠ some q := by
  have : q ∉ esc l := by
    unfold esc
    rw [List.mem_flatMap]
    rintro ⟨c, _, hc⟩
    unfold escB at hc
    rcases hq with rfl | rfl
    · split at hc
      · simp at hc
      · split at hc
        · simp at hc
        · split at hc
          · simp at hc
          · split at hc
            · simp at hc
            · split at hc
              · simp at hc
              · split at hc
                · simp at hc
                · split at hc
                  · simp at hc
                  · rename_i h34 _ _ _
                    simp at hc
                    exact h34 hc.symm
    · split at hc
      · simp at hc
      · split at hc
        · simp at hc
        · split at hc
          · simp at hc
          · split at hc
            · simp at hc
            · split at hc
              · simp at hc
              · split at hc
                · simp at hc
                · split at hc
                  · simp at hc
                  · rename_i h60 _ _ _ _ _
                    simp at hc
                    exact h60 hc.symm
  intro j e
  exact this (List.mem_of_getElem? e)
/-- Each reference of an escaped text is one. -/
theorem esc_refs (l : List UInt8) : refsOut (esc l) = (0, 0) := by
  have key : ∀ k, k ≤ l.length → refsFrom (esc l) 0 = refsFrom (esc l) (esc (l.take k)).length := by
    intro k
    induction k with
    | zero => intro _; simp [esc]
    | succ k ih =>
      intro hk
      rw [ih (by omega)]
      have hd := esc_drop l k (by omega)
      have hlen := len_of_drop hd (by have := (escB_le (l.getD k 0)).2; rw [List.length_append]; omega)
      have hsn : (esc (l.take (k + 1))).length = (esc (l.take k)).length + (escB (l.getD k 0)).length := by
        rw [take_snoc l k (l.getD k 0) (by simp [show k < l.length by omega]), esc_snoc, List.length_append]
      have hb := (escB_le (l.getD k 0)).2
      rw [hsn]
      rcases escAt_of _ _ _ _ hd with ⟨e0, _, ⟨ns, hr, _, _, e1⟩ | ⟨_, hc, e1⟩⟩ | ⟨e0, n38, _, _, _, _, _, _, he, _, _⟩
      · have hm : markOut (esc l) (esc (l.take k)).length = ((esc (l.take k)).length + (escB (l.getD k 0)).length, 0) := by
          unfold markOut; rw [if_neg e1, hr]
        rw [refsFrom_next _ _ e0 (by rw [hm]), hm]
      · have hm : markOut (esc l) (esc (l.take k)).length = ((esc (l.take k)).length + (escB (l.getD k 0)).length, 0) := by
          unfold markOut; rw [if_pos e1, hc]
        rw [refsFrom_next _ _ e0 (by rw [hm]), hm]
      · rw [he]
        rw [refsFrom_skip _ _ (by rw [List.length_append] at hlen; omega) (by rw [e0]; simpa using n38)]
        rfl
  rw [refsOut_eq, key l.length (Nat.le_refl _), List.take_length, refsFrom_end _ _ (Nat.le_refl _)]
theorem write_read (l : List UInt8) : strictAt 60 (34 :: (esc l ++ [34])) 0 = (esc l, (esc l).length + 2, 0) := by
  have hix : Lib.indexByte (esc l ++ [34]) 34 = ((esc l).length : Nat) := by
    refine ix_eq 34 _ _ (by simp) fun i hi => ?_
    rw [List.getElem?_append_left hi]
    exact esc_free l 34 (Or.inl rfl) i
  have hq : quotedAt (34 :: (esc l ++ [34])) 0 = (esc l, (esc l).length + 2, 0) := by
    unfold quotedAt
    rw [if_neg (by omega)]
    show quotedOut (34 :: (esc l ++ [34])) 0 = _
    unfold quotedOut
    simp only [List.getElem?_cons_zero]
    rw [if_pos (Or.inl trivial)]
    unfold quotedQ
    have hd : (34 :: (esc l ++ [34])).drop (0 + 1) = esc l ++ [34] := by simp
    rw [hd, hix, if_neg (by omega), Int.toNat_natCast]
    simp
  unfold strictAt
  rw [hq]
  simp only
  rw [if_neg (by simp), ix_eq_none 60 (esc l) (esc_free l 60 (Or.inr rfl)), if_neg (by omega), esc_refs, if_neg (by simp)]
set_option maxRecDepth 100000 in
set_option maxHeartbeats 4000000 in
theorem litWrite_c (l : List UInt8) (w : World) (hm : l.length ≤ 100000) :
    Calls Tryd.prog 19 #[.string ⟨l.toArray⟩] w fun e w' => e = .returned (.string ⟨(34 :: (esc l ++ [34])).toArray⟩) ∧ Below w.heap.size w w' := by
  have HE := Lib.hid (escape_c l w (by omega))
  have hle := esc_le l
  have hsp : ∀ w : World, (Op.stringOp .add ⟨#[34]⟩ ⟨(esc l).toArray⟩).run Tryd.prog w = .ok (.string ⟨([34] ++ esc l).toArray⟩) w := fun w => run_sop (w := w) [34] (esc l) (by simp; omega)
  have hsp2 : ∀ w : World, (Op.stringOp .add ⟨([34] ++ esc l).toArray⟩ ⟨#[34]⟩).run Tryd.prog w = .ok (.string ⟨([34] ++ esc l ++ [34]).toArray⟩) w := fun w => run_sop (w := w) ([34] ++ esc l) [34] (by simp; omega)
  rw [show 34 :: (esc l ++ [34]) = [34] ++ esc l ++ [34] by simp]
  clear hle
  generalize [34] ++ esc l ++ [34] = T2 at *
  generalize [34] ++ esc l = T1 at *
  generalize esc l = T0 at *
  go_enter Tryd.func19, Tryd.ntmps19
  go_wp2_with fail
  refine HE.out.mono ?_
  rintro e w1 ⟨rfl, hb⟩
  have B1 := Lib.hid hb
  clear hb
  go_wp2
  go_ret
  exact ⟨rfl, B1.out⟩
set_option maxRecDepth 100000 in
set_option maxHeartbeats 4000000 in
theorem litWrites_walk (sb : ByteArray) (w : World) (hT : Tabs w) (hF : Forms w) :
    Calls Tryd.prog 5 #[.string sb] w fun e w' => e = .returned (.bool true) ∧ Below w.heap.size w w' := by
  obtain ⟨l, rfl⟩ : ∃ l : List UInt8, sb = ⟨l.toArray⟩ := ⟨sb.data.toList, by cases sb; simp⟩
  have hsz : (⟨l.toArray⟩ : ByteArray).size = l.length := by simp [ByteArray.size]
  have hL := hT.low hF
  have LV : Hid (∀ w1, Below w.heap.size w w1 → Calls Tryd.prog 9 #[] w1 fun e w' => e = .returned (.bool true) ∧ Below w1.heap.size w1 w') := Lib.hid fun w1 hb => live7_c w1 (hT.below hb hL) (hF.below hb hF.lt)
  by_cases hn : l.length ≤ 300
  · have hn' : ¬ (300 : Int) < (l.length : Int) := by omega
    have c1 := Lib.hid (litWrite_c l w (by omega))
    have hle := esc_le l
    have HRD := Lib.hid (write_read l)
    have hsp : ∀ w : World, (Op.stringOp .add ⟨#[34]⟩ ⟨(esc l).toArray⟩).run Tryd.prog w = .ok (.string ⟨([34] ++ esc l).toArray⟩) w := fun w => run_sop (w := w) [34] (esc l) (by simp; omega)
    have hsp2 : ∀ w : World, (Op.stringOp .add ⟨([34] ++ esc l).toArray⟩ ⟨#[34]⟩).run Tryd.prog w = .ok (.string ⟨([34] ++ esc l ++ [34]).toArray⟩) w := fun w => run_sop (w := w) ([34] ++ esc l) [34] (by simp; omega)
    have HXL : Hid ((34 :: (esc l ++ [34])).length = (esc l).length + 2 ∧ (esc l).length ≤ 1800) := Lib.hid ⟨by simp, by omega⟩
    rw [show [34] ++ esc l ++ [34] = 34 :: (esc l ++ [34]) by simp] at hsp2
    have HES : Hid (∀ w1, Calls Tryd.prog 20 #[.string ⟨l.toArray⟩] w1 fun e w' => e = .returned (.string ⟨(esc l).toArray⟩) ∧ w1 = w') := Lib.hid fun w1 => refEscape_c l w1 (by omega)
    have HTF := Lib.hid (And.intro hT (And.intro hF hL))
    clear hT hF hL hn hle
    generalize 34 :: (esc l ++ [34]) = T2 at *
    generalize [34] ++ esc l = T1 at *
    generalize esc l = T0 at *
    have htz : (⟨T2.toArray⟩ : ByteArray).size = T2.length := by simp [ByteArray.size]
    go_enter Tryd.func5, Tryd.ntmps5
    go_wp2_with fail
    refine c1.out.mono ?_
    rintro e w1 ⟨rfl, hb⟩
    have B1 := Lib.hid hb
    clear hb
    obtain ⟨ct, w2, hcv, hb2, hs2, hby2⟩ := toBytes w1 T2 (by have := HXL.out; omega)
    have B2 : Hid (Below w.heap.size w w2) := Lib.hid (B1.out.trans (hb2.mono B1.out.size))
    have C2 := Lib.hid (litValue_c _ _ _ T2 0 w2 (hby2.more (by omega)) (HTF.out.1.below B2.out HTF.out.2.2) (HTF.out.2.1.below B2.out HTF.out.2.1.lt) (by have := HXL.out; omega))
    rw [HRD.out] at C2
    have HLE : Hid ((T0.length : Int) + 2 = (T2.length : Int)) := Lib.hid (by have := HXL.out.1; omega)
    clear hb2 hs2 hby2
    unfold outV at C2
    simp only at C2
    rw [← HXL.out.1] at C2
    go_wp2_with fail
    refine C2.out.mono ?_
    rintro e w3 ⟨rfl, hb⟩
    have B3 : Hid (Below w.heap.size w w3) := Lib.hid (B2.out.trans (hb.mono B2.out.size))
    clear hb hcv
    go_wp2_with fail
    refine (HES.out w3).mono ?_
    rintro e w4 ⟨rfl, rfl⟩
    go_wp2_with fail
    refine (HES.out w3).mono ?_
    rintro e w4 ⟨rfl, rfl⟩
    go_wp2_with fail
    refine (LV.out _ B3.out).mono ?_
    rintro e w6 ⟨rfl, hb⟩
    have B6 := Lib.hid (B3.out.trans (hb.mono B3.out.size))
    clear hb
    go_wp2
    go_ret
    exact ⟨rfl, B6.out⟩
  · have hn' : (300 : Int) < (l.length : Int) := by omega
    clear hT hF hL hn
    go_enter Tryd.func5, Tryd.ntmps5
    go_wp2_with fail
    refine (LV.out _ (Below.refl _ _)).mono ?_
    rintro e w1 ⟨rfl, hb⟩
    have B1 := Lib.hid hb
    clear hb
    go_wp2
    go_ret
    exact ⟨rfl, B1.out⟩
end Go.Proofs.YtljplmidnlahpaaDoor
