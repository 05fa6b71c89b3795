/- Texts of ours, joined: Tag9, Tag10, TokP, TokR, XrA, TagS, DcB, IxB, IxB2, IxB3. -/
import Derived.Test.YtmclngahdklfkaaGreatDoorRows
import Derived.WalkKit
import Derived.ProofKit
import Derived.OpenShut
import Derived.ShutString
import Derived.ChangeOld
import Derived.Below
import Derived.BigQuiet
import Derived.Deep.QuietTactic
import Derived.Lib.Hide
import Derived.Deep.RegionHeld3
import Derived.Lib.SlBytesConst
import Derived.Laws.CopyOwn
import Derived.Laws.CopyRow
import Derived.Lib.Bytes
import Derived.Deep.LoopGhost
import Derived.Deep.DeepFit
import Derived.Deep.DeepMust
import Derived.WalkSpells
import Derived.WalkLawsBesides
import Derived.Laws.EntriesVeiled
import Derived.Laws.Rows
import Derived.Test.YtmclngahdklfkaaGreatDoorQ1
import Derived.Test.YtmclngahdklfkaaGreatDoorQ3
import Derived.Test.YtmclngahdklfkaaGreatDoorQ2
import Derived.Test.YtmclngahdklfkaaGreatDoorQ5
import Derived.Test.YtmclngahdklfkaaGreatDoorQ7
import Derived.Test.YtmclngahdklfkaaGreatDoorQ6
import Derived.Test.YtmclngahdklfkaaGreatDoorQ9
import Derived.Test.YtmclngahdklfkaaGreatDoorQ10
import Derived.Test.YtmclngahdklfkaaGreatDoorQ11
import Derived.Test.YtmclngahdklfkaaGreatDoorQ8
import Derived.Maps.OwnOps
import Derived.Maps.OwnSet
import Derived.Maps.Views
import Derived.Maps.AppendAt
import Derived.Laws.RangeString
import Derived.Laws.Runes
import Derived.LoopN
import Derived.Laws.RangeAny
import Derived.Shelf.Unicode.DecodeSlow
import Derived.Lib.AsciiSet
import Derived.Deep.WholeRow
import Derived.Laws.ResultCell
import Derived.Lib.IndexAny
import Derived.Lib.IndexBytes
import Derived.Lib.Bytealg
import Derived.Lib.IndexEntry
import Derived.Laws.Externs
/- narthexref10: Open, Close -/
namespace Go.Proofs.YtmclngahdklfkaaGreatDoor
open Go.ChangeShapes Go.WideShapes Go.ChangeAt Go.RowKit
set_option linter.unusedVariables false
set_option maxRecDepth 100000 in
set_option maxHeartbeats 4000000 in
theorem refClose_range (A : Option Addr) (n cap : Nat) (at_ : Int) (w : World) (ha : at_ < 0 ∨ (n : Int) < at_) :
    Calls Tryz.prog 34 #[.slice A n cap, .int .i64 at_] w fun e w' => e = .returned (outV ([], 0, 3)) ∧ Below w.heap.size w w' := by
  unfold outV
  by_cases h0 : at_ < 0
  · have hd : decide (at_ < 0) = true := by simpa using h0
    clear ha
    go_enter Tryz.func34, Tryz.ntmps34
    go_wp2
    go_ret3
    exact ⟨rfl, Below.refl _ _⟩
  · have h1 : (n : Int) < at_ := by omega
    clear ha
    go_enter Tryz.func34, Tryz.ntmps34
    go_wp2
    go_ret3
    exact ⟨rfl, Below.refl _ _⟩
set_option maxRecDepth 100000 in
set_option maxHeartbeats 4000000 in
theorem refClose_in (A : Option Addr) (n cap : Nat) (l : List UInt8) (k : Nat) (w : World) (h : Byt w w.heap.size A n cap l) (hm : n ≤ 40000) (hk : k ≤ n) :
    Calls Tryz.prog 34 #[.slice A n cap, .int .i64 k] w fun e w' => e = .returned (outV (closeOut l k)) ∧ Below w.heap.size w w' := by
  have hln := h.length
  have hk' : ¬ (n : Int) < (k : Int) := by omega
  have hk0 : (0 : Int) ≤ (k : Int) := by omega
  have hk1 : (k : Int) ≤ 40000 := by omega
  have c1 := refAt8_c A n cap l k [60, 47] _ w h (by simp) (by omega) (by simp) (by omega)
  have CB : Hid (∀ t, t ≤ n → ∀ W, Below w.heap.size w W → Calls Tryz.prog 42 #[.slice A n cap, .int .i64 (t : Int)] W fun e w' => e = .returned (.int .i64 (blankTo l t)) ∧ W = w') := Lib.hid fun t ht W hb => refBlanks_c A n cap l t _ W (h.below hb) (by omega) ht
  have CS : Hid (∀ t, t ≤ n → ∀ W, Below w.heap.size w W → Calls Tryz.prog 30 #[.slice A n cap, .int .i64 (t : Int), .string ⟨#[62]⟩] W fun e w' => e = .returned (.bool ([62].isPrefixOf (l.drop t))) ∧ W = w') := Lib.hid fun t ht W hb => refAt8_c A n cap l t [62] _ W (h.below hb) (by simp) (by omega) (by simp) (by omega)
  unfold closeOut
  cases hp : [60, 47].isPrefixOf (l.drop k) with
  | false =>
    rw [hp] at c1
    simp only [Bool.false_eq_true, if_false]
    have C1 := Lib.hid c1
    clear c1 CB CS h hln hp hk
    unfold outV
    go_enter Tryz.func34, Tryz.ntmps34
    go_wp2_with fail
    refine (C1.out).mono ?_
    rintro e wq ⟨rfl, rfl⟩
    go_wp2
    go_ret3
    exact ⟨rfl, Below.refl _ _⟩
  | true =>
    rw [hp] at c1
    simp only [if_true]
    have hkp : k + 2 ≤ n := by
      rcases pre_len hp with e | e
      · cases e
      · simp at e; omega
    have c2 := refReadF_c A n cap l (k + 2) w h (by omega) hkp
    rw [show ((k + 2 : Nat) : Int) = (k : Int) + 2 by omega] at c2
    have hno := nameOut_ok l (k + 2) (by omega)
    rw [hln] at hno
    generalize nameOut l (k + 2) = m at *
    obtain ⟨s, nx, e⟩ := m
    simp only at hno ⊢
    unfold outV at c2
    simp only at c2
    have C1 := Lib.hid c1
    have C2 := Lib.hid c2
    clear c1 c2
    by_cases he : e = 0
    · subst he
      have hnx := (hno rfl).2.1
      rw [if_neg (by simp)]
      have c3 := CB.out nx hnx
      have hb := blankTo_le l nx (by omega)
      generalize blankTo l nx = b at *
      have c4 := CS.out b (by omega)
      have hb0 : (0 : Int) ≤ (b : Int) := by omega
      have hb1 : (b : Int) ≤ 40000 := by omega
      generalize [62].isPrefixOf (l.drop b) = r at *
      have C3 := Lib.hid c3
      have C4 := Lib.hid c4
      clear c3 c4 CB CS h hln hno hnx hb hm hk hp hkp
      unfold outV
      cases r
      all_goals
        simp only [if_true, Bool.false_eq_true, if_false]
        go_enter Tryz.func34, Tryz.ntmps34
        go_wp2_with fail
        refine (C1.out).mono ?_
        rintro e wq ⟨rfl, rfl⟩
        go_wp2_with fail
        refine (C2.out).mono ?_
        rintro e w1 ⟨rfl, hb⟩
        have B1 := Lib.hid hb
        clear hb
        go_wp2_with fail
        refine (C3.out _ B1.out).mono ?_
        rintro e wq ⟨rfl, rfl⟩
        go_wp2_with fail
        refine (C4.out _ B1.out).mono ?_
        rintro e wq ⟨rfl, rfl⟩
        go_wp2
        go_ret3
        exact ⟨rfl, B1.out⟩
    · rw [if_pos he]
      have hei : ((e : Int) == 0) = false := by simp; omega
      clear CB CS h hln hno hm hk hp hkp
      unfold outV
      go_enter Tryz.func34, Tryz.ntmps34
      go_wp2_with fail
      refine (C1.out).mono ?_
      rintro e wq ⟨rfl, rfl⟩
      go_wp2_with fail
      refine (C2.out).mono ?_
      rintro e w1 ⟨rfl, hb⟩
      have B1 := Lib.hid hb
      clear hb
      go_wp2
      go_ret3
      exact ⟨rfl, B1.out⟩
/-- narthexref10.Close at any place. -/
theorem refClose_c (A : Option Addr) (n cap : Nat) (l : List UInt8) (at_ : Int) (w : World) (h : Byt w w.heap.size A n cap l) (hm : n ≤ 40000) :
    Calls Tryz.prog 34 #[.slice A n cap, .int .i64 at_] w fun e w' => e = .returned (outV (tagAt [] closeOut l at_)) ∧ Below w.heap.size w w' := by
  unfold tagAt
  rw [h.length]
  by_cases ha : at_ < 0 ∨ (n : Int) < at_
  · rw [if_pos ha]; exact refClose_range A n cap at_ w ha
  · rw [if_neg ha]
    obtain ⟨k, rfl⟩ : ∃ k : Nat, at_ = (k : Int) := ⟨at_.toNat, by omega⟩
    exact refClose_in A n cap l k w h hm (by omega)
set_option maxRecDepth 100000 in
set_option maxHeartbeats 4000000 in
theorem refOpenF_range (A : Option Addr) (n cap : Nat) (at_ : Int) (w : World) (ha : at_ < 0 ∨ (n : Int) < at_) :
    Calls Tryz.prog 35 #[.slice A n cap, .int .i64 at_] w fun e w' => OpenPostF (noTag, 0, 3) w e w' := by
  have J0 := Lib.hid (CJ.start 63 w #[.string ⟨#[]⟩, .slice none 0 0, .bool false])
  have hi : (Tryz.prog.info? 63).map (·.size) = some 3 := by kernel_rfl
  obtain ⟨d, hu⟩ := isStruct_of (P := Tryz.prog) (t := 63) (by kernel_rfl)
  have HU := Lib.hid (And.intro hi hu)
  have JF := Lib.hid (J0.out.row #[.string ⟨#[]⟩, .slice none 0 0, .bool false])
  clear hi hu
  by_cases h0 : at_ < 0
  · have hd : decide (at_ < 0) = true := by simpa using h0
    clear ha
    go_enter Tryz.func35, Tryz.ntmps35
    go_wp2_with (refine wpList_store_row rfl _ _ _ rfl w.heap.size #[.string ⟨#[]⟩, .slice none 0 0, .bool false] rfl rfl _ _ J0.out.2 (by kernel_rfl) rfl (by kernel_rfl) ?_)
    (try simp only [Exit.inBlock, Exit.then])
    exact bodyPost_ret (results_c3 rfl _ _ w.heap.size _ _ _ _ rfl JF.out.2 HU.out.2 rfl HU.out.1) rfl ⟨none, 0, 0, rfl, PRd.nilR _ _, JF.out.1, fun b i h => (by cases h)⟩
  · have h1 : (n : Int) < at_ := by omega
    clear ha
    go_enter Tryz.func35, Tryz.ntmps35
    go_wp2_with (refine wpList_store_row rfl _ _ _ rfl w.heap.size #[.string ⟨#[]⟩, .slice none 0 0, .bool false] rfl rfl _ _ J0.out.2 (by kernel_rfl) rfl (by kernel_rfl) ?_)
    (try simp only [Exit.inBlock, Exit.then])
    exact bodyPost_ret (results_c3 rfl _ _ w.heap.size _ _ _ _ rfl JF.out.2 HU.out.2 rfl HU.out.1) rfl ⟨none, 0, 0, rfl, PRd.nilR _ _, JF.out.1, fun b i h => (by cases h)⟩
set_option maxRecDepth 100000 in
set_option maxHeartbeats 8000000 in
theorem refOpenF_in (A : Option Addr) (n cap : Nat) (l : List UInt8) (k : Nat) (w : World) (h : Byt w w.heap.size A n cap l) (hm : n ≤ 40000) (hk : k ≤ n) :
    Calls Tryz.prog 35 #[.slice A n cap, .int .i64 k] w fun e w' => OpenPostF (openOut l k) w e w' := by
  have hln := h.length
  have hJ := CJ.start 63 w #[.string ⟨#[]⟩, .slice none 0 0, .bool false]
  have hi : (Tryz.prog.info? 63).map (·.size) = some 3 := by kernel_rfl
  obtain ⟨d, hu⟩ := isStruct_of (P := Tryz.prog) (t := 63) (by kernel_rfl)
  have HU := Lib.hid (And.intro hi hu)
  have HK : Hid (∀ W rs, CJ 63 w W rs → Byt W W.heap.size A n cap l) := Lib.hid fun W rs hJ => (h.below hJ.1).more hJ.1.size
  have CR : Hid (∀ t : Nat, t ≤ n → ∀ W rs, CJ 63 w W rs → Calls Tryz.prog 69 #[.slice A n cap, .int .i64 (t : Int), .bool false] W fun e w' => e = .returned (outV (nameOut l t)) ∧ Below W.heap.size W w') := Lib.hid fun t ht W rs hb => refReadF_c A n cap l t W (HK.out W rs hb) (by omega) ht
  have CP : Hid (∀ t : Nat, t ≤ n → ∀ W rs, CJ 63 w W rs → Calls Tryz.prog 71 #[.slice A n cap, .int .i64 (t : Int)] W fun e w' => PairsPost (pairsOut l t) W e w') := Lib.hid fun t ht W rs hb => refPairs_in A n cap l t W (HK.out W rs hb) hm ht
  have CB : Hid (∀ t, t ≤ n → ∀ W rs, CJ 63 w W rs → Calls Tryz.prog 42 #[.slice A n cap, .int .i64 (t : Int)] W fun e w' => e = .returned (.int .i64 (blankTo l t)) ∧ W = w') := Lib.hid fun t ht W rs hb => refBlanks_c A n cap l t _ W (HK.out W rs hb) (by omega) ht
  have CS : Hid (∀ t, t ≤ n → ∀ p : List UInt8, p.length ≤ 100 → p ≠ [] → ∀ W rs, CJ 63 w W rs → Calls Tryz.prog 30 #[.slice A n cap, .int .i64 (t : Int), .string ⟨p.toArray⟩] W fun e w' => e = .returned (.bool (p.isPrefixOf (l.drop t))) ∧ W = w') := Lib.hid fun t ht p hp hp0 W rs hb => refAt8_c A n cap l t p _ W (HK.out W rs hb) hp0 (by omega) (by omega) (by omega)
  have c0 := CS.out k hk [60] (by simp) (by simp) _ _ hJ
  rw [pre_one] at c0
  have hpo := fun t (ht : t ≤ n) => pairsOut_le l t (by omega)
  rw [hln] at hpo
  have hk' : ¬ (n : Int) < (k : Int) := by omega
  have hk0 : (0 : Int) ≤ (k : Int) := by omega
  have hk1 : (k : Int) ≤ 40000 := by omega
  unfold openOut
  have J0 := Lib.hid hJ
  by_cases h60 : l[k]? = some 60
  · rw [if_pos h60]
    have hd : decide (l[k]? = some 60) = true := by simpa using h60
    rw [hd] at c0
    have hkl := (List.getElem?_eq_some_iff.1 h60).1
    have c1 := CR.out (k + 1) (by omega) _ _ hJ
    rw [show ((k + 1 : Nat) : Int) = (k : Int) + 1 by omega] at c1
    have hno := nameOut_ok l (k + 1) (by omega)
    rw [hln] at hno
    have C0 := Lib.hid c0
    clear hi hu hJ h c0 h60 hd hkl
    generalize nameOut l (k + 1) = m at *
    obtain ⟨s, nx, e⟩ := m
    simp only at hno ⊢
    unfold outV at c1
    simp only at c1
    have C1 := Lib.hid c1
    clear c1
    by_cases he : e = 0
    · subst he
      have hnx := (hno rfl).2.1
      rw [if_neg (by simp)]
      have C2 := Lib.hid (CP.out nx hnx)
      have hpn := hpo nx hnx
      generalize pairsOut l nx = ps at *
      obtain ⟨ps, px, pe⟩ := ps
      simp only at hpn ⊢
      by_cases hpe : pe = 0
      · subst hpe
        rw [if_neg (by simp)]
        have c3 := CB.out px hpn
        have hb := blankTo_le l px (by omega)
        generalize blankTo l px = b at *
        have c4 := CS.out b (by omega) [47, 62] (by simp) (by simp)
        have c5 := CS.out b (by omega) [62] (by simp) (by simp)
        have hb0 : (0 : Int) ≤ (b : Int) := by omega
        have hb1 : (b : Int) ≤ 40000 := by omega
        generalize [47, 62].isPrefixOf (l.drop b) = r1 at *
        generalize [62].isPrefixOf (l.drop b) = r2 at *
        have C3 := Lib.hid c3
        have C4 := Lib.hid c4
        have C5 := Lib.hid c5
        clear c3 c4 c5 CB CS CP CR HK hln hno hpo hnx hpn hb hm hk
        cases r1 with
        | true =>
          simp only [if_true]
          go_enter Tryz.func35, Tryz.ntmps35
          go_wp2_with fail
          refine (C0.out).mono ?_
          rintro e wq ⟨rfl, rfl⟩
          go_wp2_with fail
          refine C1.out.mono ?_
          rintro e w1 ⟨rfl, hb⟩
          have J1 := Lib.hid (J0.out.kept hb)
          clear hb
          go_wp2_with fail
          refine (C2.out _ _ J1.out).mono ?_
          rintro e w2 ⟨PA, pn, pc, rfl, hpr, hb, hlo⟩
          have J2 := Lib.hid (J1.out.kept hb)
          have HP := Lib.hid (And.intro hpr (fun b i h => Nat.lt_of_lt_of_le (lt_of J1.out.2) (hlo b i h)))
          have JF := Lib.hid (J2.out.row #[.string ⟨s.toArray⟩, .slice PA pn pc, .bool true])
          clear hpr hb hlo
          go_wp2_with fail
          refine (C3.out _ _ J2.out).mono ?_
          rintro e wq ⟨rfl, rfl⟩
          go_wp2_with fail
          refine (C4.out _ _ J2.out).mono ?_
          rintro e wq ⟨rfl, rfl⟩
          go_wp2_with (refine wpList_store_row rfl _ _ _ rfl w.heap.size #[.string ⟨s.toArray⟩, .slice PA pn pc, .bool true] rfl rfl _ _ J2.out.2 (by kernel_rfl) rfl (by kernel_rfl) ?_)
          (try simp only [Exit.inBlock, Exit.then])
          refine bodyPost_ret (results_c3 rfl _ _ w.heap.size _ _ _ _ rfl JF.out.2 HU.out.2 rfl HU.out.1) rfl ⟨PA, pn, pc, rfl, HP.out.1.move ?_ ?_, JF.out.1, fun b i h => Nat.le_of_lt (HP.out.2 b i h)⟩
          · simp [World.setRow]
          · intro b' i' hA hb'
            have hlt := HP.out.2 b' i' hA
            rw [setRow_at _ _ _ _ (by omega)]
        | false =>
          simp only [Bool.false_eq_true, if_false]
          cases r2 with
          | true =>
            simp only [if_true]
            go_enter Tryz.func35, Tryz.ntmps35
            go_wp2_with fail
            refine (C0.out).mono ?_
            rintro e wq ⟨rfl, rfl⟩
            go_wp2_with fail
            refine C1.out.mono ?_
            rintro e w1 ⟨rfl, hb⟩
            have J1 := Lib.hid (J0.out.kept hb)
            clear hb
            go_wp2_with fail
            refine (C2.out _ _ J1.out).mono ?_
            rintro e w2 ⟨PA, pn, pc, rfl, hpr, hb, hlo⟩
            have J2 := Lib.hid (J1.out.kept hb)
            have HP := Lib.hid (And.intro hpr (fun b i h => Nat.lt_of_lt_of_le (lt_of J1.out.2) (hlo b i h)))
            have JF := Lib.hid (J2.out.row #[.string ⟨s.toArray⟩, .slice PA pn pc, .bool false])
            clear hpr hb hlo
            go_wp2_with fail
            refine (C3.out _ _ J2.out).mono ?_
            rintro e wq ⟨rfl, rfl⟩
            go_wp2_with fail
            refine (C4.out _ _ J2.out).mono ?_
            rintro e wq ⟨rfl, rfl⟩
            go_wp2_with fail
            refine (C5.out _ _ J2.out).mono ?_
            rintro e wq ⟨rfl, rfl⟩
            go_wp2_with (refine wpList_store_row rfl _ _ _ rfl w.heap.size #[.string ⟨s.toArray⟩, .slice PA pn pc, .bool false] rfl rfl _ _ J2.out.2 (by kernel_rfl) rfl (by kernel_rfl) ?_)
            (try simp only [Exit.inBlock, Exit.then])
            refine bodyPost_ret (results_c3 rfl _ _ w.heap.size _ _ _ _ rfl JF.out.2 HU.out.2 rfl HU.out.1) rfl ⟨PA, pn, pc, rfl, HP.out.1.move ?_ ?_, JF.out.1, fun b i h => Nat.le_of_lt (HP.out.2 b i h)⟩
            · simp [World.setRow]
            · intro b' i' hA hb'
              have hlt := HP.out.2 b' i' hA
              rw [setRow_at _ _ _ _ (by omega)]
          | false =>
            simp only [Bool.false_eq_true, if_false]
            go_enter Tryz.func35, Tryz.ntmps35
            go_wp2_with fail
            refine (C0.out).mono ?_
            rintro e wq ⟨rfl, rfl⟩
            go_wp2_with fail
            refine C1.out.mono ?_
            rintro e w1 ⟨rfl, hb⟩
            have J1 := Lib.hid (J0.out.kept hb)
            clear hb
            go_wp2_with fail
            refine (C2.out _ _ J1.out).mono ?_
            rintro e w2 ⟨PA, pn, pc, rfl, hpr, hb, hlo⟩
            have J2 := Lib.hid (J1.out.kept hb)
            have JF := Lib.hid (J2.out.row #[.string ⟨#[]⟩, .slice none 0 0, .bool false])
            clear hpr hb hlo
            go_wp2_with fail
            refine (C3.out _ _ J2.out).mono ?_
            rintro e wq ⟨rfl, rfl⟩
            go_wp2_with fail
            refine (C4.out _ _ J2.out).mono ?_
            rintro e wq ⟨rfl, rfl⟩
            go_wp2_with fail
            refine (C5.out _ _ J2.out).mono ?_
            rintro e wq ⟨rfl, rfl⟩
            go_wp2_with (refine wpList_store_row rfl _ _ _ rfl w.heap.size #[.string ⟨#[]⟩, .slice none 0 0, .bool false] rfl rfl _ _ J2.out.2 (by kernel_rfl) rfl (by kernel_rfl) ?_)
            (try simp only [Exit.inBlock, Exit.then])
            exact bodyPost_ret (results_c3 rfl _ _ w.heap.size _ _ _ _ rfl JF.out.2 HU.out.2 rfl HU.out.1) rfl ⟨none, 0, 0, rfl, PRd.nilR _ _, JF.out.1, fun b i h => (by cases h)⟩
      · rw [if_pos hpe]
        have hei : ((pe : Int) == 0) = false := by simp; omega
        clear CB CS CP CR HK hln hno hpo hnx hpn hm hk
        go_enter Tryz.func35, Tryz.ntmps35
        go_wp2_with fail
        refine (C0.out).mono ?_
        rintro e wq ⟨rfl, rfl⟩
        go_wp2_with fail
        refine C1.out.mono ?_
        rintro e w1 ⟨rfl, hb⟩
        have J1 := Lib.hid (J0.out.kept hb)
        clear hb
        go_wp2_with fail
        refine (C2.out _ _ J1.out).mono ?_
        rintro e w2 ⟨PA, pn, pc, rfl, hpr, hb, hlo⟩
        have J2 := Lib.hid (J1.out.kept hb)
        have JF := Lib.hid (J2.out.row #[.string ⟨#[]⟩, .slice none 0 0, .bool false])
        clear hpr hb hlo
        go_wp2_with (refine wpList_store_row rfl _ _ _ rfl w.heap.size #[.string ⟨#[]⟩, .slice none 0 0, .bool false] rfl rfl _ _ J2.out.2 (by kernel_rfl) rfl (by kernel_rfl) ?_)
        (try simp only [Exit.inBlock, Exit.then])
        exact bodyPost_ret (results_c3 rfl _ _ w.heap.size _ _ _ _ rfl JF.out.2 HU.out.2 rfl HU.out.1) rfl ⟨none, 0, 0, rfl, PRd.nilR _ _, JF.out.1, fun b i h => (by cases h)⟩
    · rw [if_pos he]
      have hei : ((e : Int) == 0) = false := by simp; omega
      clear CB CS CP CR HK hln hno hpo hm hk
      go_enter Tryz.func35, Tryz.ntmps35
      go_wp2_with fail
      refine (C0.out).mono ?_
      rintro e wq ⟨rfl, rfl⟩
      go_wp2_with fail
      refine C1.out.mono ?_
      rintro e w1 ⟨rfl, hb⟩
      have J1 := Lib.hid (J0.out.kept hb)
      clear hb
      have JF := Lib.hid (J1.out.row #[.string ⟨#[]⟩, .slice none 0 0, .bool false])
      go_wp2_with (refine wpList_store_row rfl _ _ _ rfl w.heap.size #[.string ⟨#[]⟩, .slice none 0 0, .bool false] rfl rfl _ _ J1.out.2 (by kernel_rfl) rfl (by kernel_rfl) ?_)
      (try simp only [Exit.inBlock, Exit.then])
      exact bodyPost_ret (results_c3 rfl _ _ w.heap.size _ _ _ _ rfl JF.out.2 HU.out.2 rfl HU.out.1) rfl ⟨none, 0, 0, rfl, PRd.nilR _ _, JF.out.1, fun b i h => (by cases h)⟩
  · rw [if_neg h60]
    have hd : decide (l[k]? = some 60) = false := by simpa using h60
    rw [hd] at c0
    have C0 := Lib.hid c0
    have JF := Lib.hid (J0.out.row #[.string ⟨#[]⟩, .slice none 0 0, .bool false])
    clear hi hu hJ h c0 h60 hd CB CS CP CR HK hln hpo hm hk
    go_enter Tryz.func35, Tryz.ntmps35
    go_wp2_with fail
    refine (C0.out).mono ?_
    rintro e wq ⟨rfl, rfl⟩
    go_wp2_with (refine wpList_store_row rfl _ _ _ rfl w.heap.size #[.string ⟨#[]⟩, .slice none 0 0, .bool false] rfl rfl _ _ J0.out.2 (by kernel_rfl) rfl (by kernel_rfl) ?_)
    (try simp only [Exit.inBlock, Exit.then])
    exact bodyPost_ret (results_c3 rfl _ _ w.heap.size _ _ _ _ rfl JF.out.2 HU.out.2 rfl HU.out.1) rfl ⟨none, 0, 0, rfl, PRd.nilR _ _, JF.out.1, fun b i h => (by cases h)⟩
/-- narthexref10.Open at any place. -/
theorem refOpenF_c (A : Option Addr) (n cap : Nat) (l : List UInt8) (at_ : Int) (w : World) (h : Byt w w.heap.size A n cap l) (hm : n ≤ 40000) :
    Calls Tryz.prog 35 #[.slice A n cap, .int .i64 at_] w fun e w' => OpenPostF (tagAt noTag openOut l at_) w e w' := by
  unfold tagAt
  rw [h.length]
  by_cases ha : at_ < 0 ∨ (n : Int) < at_
  · rw [if_pos ha]; exact refOpenF_range A n cap at_ w ha
  · rw [if_neg ha]
    obtain ⟨k, rfl⟩ : ∃ k : Nat, at_ = (k : Int) := ⟨at_.toNat, by omega⟩
    exact refOpenF_in A n cap l k w h hm (by omega)
end Go.Proofs.YtmclngahdklfkaaGreatDoor
/- narthexref10: Same; the page's example -/
namespace Go.Proofs.YtmclngahdklfkaaGreatDoor
open Go.ChangeShapes Go.WideShapes Go.ChangeAt Go.RowKit
set_option linter.unusedVariables false
theorem PRd.drewN {w : World} {B n cap k : Nat} {A : Option Addr} {ps : List PairL} (h : PRd w B A n cap ps) : PRd (w.drewN k) B A n cap ps := h.keep (w' := w.drewN k) fun _ _ => rfl
set_option maxRecDepth 100000 in
set_option maxHeartbeats 4000000 in
theorem same10_c (A1 A2 : Option Addr) (n c1 c2 : Nat) (ps : List PairL) (w : World) (h1 : PRd w w.heap.size A1 n c1 ps) (h2 : PRd w w.heap.size A2 n c2 ps) (hm : n ≤ 1000000) :
    Calls Tryz.prog 39 #[.slice A1 n c1, .slice A2 n c2] w fun e w' => e = .returned (.bool true) ∧ Below w.heap.size w w' := by
  have HB := Lib.hid (And.intro h1 h2)
  clear h1 h2
  go_enter Tryz.func39, Tryz.ntmps39
  go_wp2
  go_loopg [5] (n) (fun g i wr => ∃ t : Nat, t ≤ n ∧ Hid (g + t = n) ∧ i = .int .i64 (t : Int) ∧ Hid (Below w.heap.size w wr))
  case atStart => exact ⟨0, Nat.zero_le _, Lib.hid (by omega), rfl, Lib.hid (Below.refl _ _)⟩
  case round =>
    obtain ⟨t, ht, hg, rfl, HN⟩ := hrel
    have ht0 : (0 : Int) ≤ (t : Int) := by omega
    have htb : (t : Int) ≤ 1000000 := by omega
    by_cases htn : t < n
    · have htni : (t : Int) < (n : Int) := by omega
      obtain ⟨b, o, p, rfl, hb, hp, hc0, hc1⟩ := (HB.out.1.below HN.out).cell htn
      obtain ⟨b2, o2, p2, rfl, hb2, hp2, hd0, hd1⟩ := (HB.out.2.below HN.out).cell htn
      obtain rfl : p = p2 := by rw [hp] at hp2; exact Option.some.inj hp2
      obtain ⟨pn, pv⟩ := p
      simp only at hc0 hc1 hd0 hd1
      clear hp hp2 hb hb2
      go_wp2
      go_quiet (fail)
      have HN2 := Lib.hid (below_drewN' (n := nq) HN.out)
      clear hc0 hc1 hd0 hd1
      generalize wr.drewN nq = wq at *
      go_wp2
      go_roundg (n - (t + 1))
      case measure => have := hg.out; omega
      case rel => exact ⟨t + 1, by omega, Lib.hid (by omega), by go_num, HN2⟩
    · have htni : ¬ (t : Int) < (n : Int) := by omega
      go_wp2
      go_ret
      exact ⟨rfl, HN.out⟩
end Go.Proofs.YtmclngahdklfkaaGreatDoor
/- Tokens, in plain Lean. -/
namespace Go.Proofs.YtmclngahdklfkaaGreatDoor
open Go.ChangeShapes Go.WideShapes Go.ChangeAt Go.RowKit
set_option linter.unusedVariables false
/-- A token, as both sides hold it. -/
structure TokL where
  kind : Int
  fro : Int
  to_ : Int
  name : List UInt8
  text : List UInt8
  pairs : List PairL
  r : Int
def noTok : TokL := ⟨0, 0, 0, [], [], [], 0⟩
def inTx (c : UInt8) : Bool := !(decide (c = 60) || decide (c = 38))
/-- The text that stands ahead of a '<' or an '&'. -/
def txt (l : List UInt8) : List UInt8 := l.takeWhile inTx
def textTok (l : List UInt8) (k : Nat) : TokL × Nat := if Lib.contains (txt (l.drop k)) [93, 93, 62] = true then (noTok, 7) else (⟨1, 0, ((k + (txt (l.drop k)).length : Nat) : Int), [], txt (l.drop k), [], 0⟩, 0)
/-- What is read at a place that holds a byte. -/
def readTok (l : List UInt8) (k : Nat) : TokL × Nat :=
  if [60, 33, 45, 45].isPrefixOf (l.drop k) = true then (⟨5, 0, ((commentOut l k).2.1 : Int), [], (commentOut l k).1, [], 0⟩, (commentOut l k).2.2)
  else if [60, 33, 91, 67, 68, 65, 84, 65, 91].isPrefixOf (l.drop k) = true then (⟨4, 0, ((cdataOut l k).2.1 : Int), [], (cdataOut l k).1, [], 0⟩, (cdataOut l k).2.2)
  else if [60, 63].isPrefixOf (l.drop k) = true then (⟨6, 0, ((piOut l k).2.2.1 : Int), (piOut l k).1, (piOut l k).2.1, [], 0⟩, (piOut l k).2.2.2)
  else if [60, 47].isPrefixOf (l.drop k) = true then (⟨9, 0, ((closeOut l k).2.1 : Int), (closeOut l k).1, [], [], 0⟩, (closeOut l k).2.2)
  else if [60].isPrefixOf (l.drop k) = true then (⟨if (openOut l k).1.empty = true then 8 else 7, 0, ((openOut l k).2.1 : Int), (openOut l k).1.name, [], (openOut l k).1.pairs, 0⟩, (openOut l k).2.2)
  else if [38, 35].isPrefixOf (l.drop k) = true then (⟨2, 0, ((charOut l k).2.1 : Int), [], [], [], (charOut l k).1⟩, (charOut l k).2.2)
  else if [38].isPrefixOf (l.drop k) = true then (⟨3, 0, ((refOut 38 l k).2.1 : Int), (refOut 38 l k).1, [], [], 0⟩, (refOut 38 l k).2.2)
  else textTok l k
def nextOut (l : List UInt8) (k : Nat) : TokL × Nat := if (readTok l k).2 = 0 then ({ (readTok l k).1 with fro := (k : Int) }, 0) else (noTok, (readTok l k).2)
/-- The token at any place. -/
def nextAt (l : List UInt8) (at_ : Int) : TokL × Nat := if at_ < 0 ∨ (l.length : Int) < at_ then (noTok, 3) else if at_ = (l.length : Int) then (noTok, 4) else nextOut l at_.toNat
theorem plain_ok (l : List UInt8) (k : Nat) (hk : k ≤ l.length) (h : (plainOut l k).2.2 = 0) : k < (plainOut l k).2.1 ∧ (plainOut l k).2.1 ≤ l.length := by
  have hle := endL_le l.length (noColon isStart) (noColon isMore) (l.drop k)
  rw [List.length_drop] at hle
  unfold plainOut at h ⊢
  simp only at h ⊢
  split
  · rename_i h0; rw [if_pos h0] at h; cases h
  · rename_i h0
    rw [if_neg h0] at h
    split
    · rename_i h1; rw [if_pos h1] at h; cases h
    · exact ⟨by simp only; omega, by simp only; omega⟩
theorem comment_ok (l : List UInt8) (k : Nat) (h : (commentOut l k).2.2 = 0) : k < (commentOut l k).2.1 ∧ (commentOut l k).2.1 ≤ l.length := by
  unfold commentOut at h ⊢
  split
  · rename_i h1; rw [if_pos h1] at h; cases h
  · rename_i h1
    rw [if_neg h1] at h
    split
    · rename_i h2; rw [if_pos h2] at h; cases h
    · rename_i h2
      rw [if_neg h2] at h
      split
      · rename_i h3
        have hk : k + 4 ≤ l.length := by
          have h1' : [60, 33, 45, 45].isPrefixOf (l.drop k) = true := by simpa using h1
          rcases pre_len h1' with e | e
          · cases e
          · simpa using e
        rcases findI_spec l [45, 45] (k + 4) hk with ⟨h', _⟩ | ⟨i, h', hki, _, _, _⟩
        · omega
        · rw [h'] at h3 ⊢
          rw [Int.toNat_natCast] at h3 ⊢
          rcases pre_len h3 with e | e
          · cases e
          · simp only [List.length_cons, List.length_nil] at e
            exact ⟨by show k < i + 3; omega, e⟩
      · rename_i h3; rw [if_neg h3] at h; cases h
theorem cdata_ok (l : List UInt8) (k : Nat) (h : (cdataOut l k).2.2 = 0) : k < (cdataOut l k).2.1 ∧ (cdataOut l k).2.1 ≤ l.length := by
  unfold cdataOut at h ⊢
  split
  · rename_i h1; rw [if_pos h1] at h; cases h
  · rename_i h1
    rw [if_neg h1] at h
    split
    · rename_i h2; rw [if_pos h2] at h; cases h
    · rename_i h2
      have hk : k + 9 ≤ l.length := by
        have h1' : [60, 33, 91, 67, 68, 65, 84, 65, 91].isPrefixOf (l.drop k) = true := by simpa using h1
        rcases pre_len h1' with e | e
        · cases e
        · simpa using e
      rcases findI_spec l [93, 93, 62] (k + 9) hk with ⟨h', _⟩ | ⟨i, h', hki, hil, _, _⟩
      · omega
      · rw [h', Int.toNat_natCast]
        exact ⟨by show k < i + 3; omega, by simpa using hil⟩
theorem pi_ok (l : List UInt8) (k : Nat) (hk : k ≤ l.length) (h : (piOut l k).2.2.2 = 0) : k < (piOut l k).2.2.1 ∧ (piOut l k).2.2.1 ≤ l.length := by
  unfold piOut at h ⊢
  split
  · rename_i h1; rw [if_pos h1] at h; cases h
  · rename_i h1
    rw [if_neg h1] at h
    have hk2 : k + 2 ≤ l.length := by
      have h1' : [60, 63].isPrefixOf (l.drop k) = true := by simpa using h1
      rcases pre_len h1' with e | e
      · cases e
      · simpa using e
    unfold piRest at h ⊢
    split
    · rename_i h2; rw [if_pos h2] at h; exact absurd h h2
    · rename_i h2
      rw [if_neg h2] at h
      split
      · rename_i h3; rw [if_pos h3] at h; cases h
      · rename_i h3
        rw [if_neg h3] at h
        split
        · rename_i h4; rw [if_pos h4] at h; cases h
        · rename_i h4
          have hp := plain_ok l (k + 2) hk2 (by simpa using h2)
          have hb := blankTo_le l _ hp.2
          rcases findI_spec l [63, 62] (blankTo l (plainOut l (k + 2)).2.1) hb.2 with ⟨h', _⟩ | ⟨i, h', hki, hil, _, _⟩
          · omega
          · rw [h', Int.toNat_natCast]
            exact ⟨by show k < i + 2; omega, by simpa using hil⟩
theorem close_ok (l : List UInt8) (k : Nat) (h : (closeOut l k).2.2 = 0) : k < (closeOut l k).2.1 ∧ (closeOut l k).2.1 ≤ l.length := by
  unfold closeOut at h ⊢
  split
  · rename_i h1
    rw [if_pos h1] at h
    have hk : k + 2 ≤ l.length := by
      rcases pre_len h1 with e | e
      · cases e
      · simpa using e
    split
    · rename_i h2; rw [if_pos h2] at h; exact absurd h h2
    · rename_i h2
      rw [if_neg h2] at h
      have hn := nameOut_ok l (k + 2) hk (by simpa using h2)
      split
      · rename_i h3
        have hb := blankTo_le l _ hn.2.1
        rcases pre_len h3 with e | e
        · cases e
        · simp only [List.length_cons, List.length_nil] at e
          exact ⟨by show k < blankTo l _ + 1; omega, e⟩
      · rename_i h3; rw [if_neg h3] at h; cases h
  · rename_i h1; rw [if_neg h1] at h; cases h
theorem pairsR_ge (l : List UInt8) : ∀ (f : Nat) (acc : List PairL) (t : Nat), t ≤ l.length → l.length + 1 ≤ f + t → (pairsR l f acc t).2.2 = 0 → t ≤ (pairsR l f acc t).2.1
  | 0, acc, t, ht, hf, _ => by omega
  | f + 1, acc, t, ht, hf, h => by
    cases hs : stopB l (blankTo l t) t with
    | true => rw [pairs_stop hs]; exact Nat.le_refl _
    | false =>
      by_cases he : (pairOut l (blankTo l t)).2.2 = 0
      · cases hh : hasN acc (pairOut l (blankTo l t)).1.1 with
        | true => rw [pairs_twice hs he hh] at h; cases h
        | false =>
          rw [pairs_more hs he hh] at h ⊢
          have hb := blankTo_le l t ht
          have hp := pairOut_ok l (blankTo l t) hb.2 he
          have := pairsR_ge l f (acc ++ [(pairOut l (blankTo l t)).1]) (pairOut l (blankTo l t)).2.1 hp.2.1 (by omega) h
          omega
      · rw [pairs_bad hs rfl he] at h
        exact absurd h he
theorem open_ok (l : List UInt8) (k : Nat) (h : (openOut l k).2.2 = 0) : k < (openOut l k).2.1 ∧ (openOut l k).2.1 ≤ l.length := by
  unfold openOut at h ⊢
  split
  · rename_i h1
    rw [if_pos h1] at h
    have hk : k + 1 ≤ l.length := (List.getElem?_eq_some_iff.1 h1).1
    split
    · rename_i h2; rw [if_pos h2] at h; exact absurd h h2
    · rename_i h2
      rw [if_neg h2] at h
      have hn := nameOut_ok l (k + 1) hk (by simpa using h2)
      split
      · rename_i h3; rw [if_pos h3] at h; exact absurd h h3
      · rename_i h3
        rw [if_neg h3] at h
        have hp1 := pairsOut_le l _ hn.2.1
        have hp2 := pairsR_ge l (l.length + 1) [] _ hn.2.1 (by omega) (by simpa [pairsOut] using h3)
        have hp3 : (nameOut l (k + 1)).2.1 ≤ (pairsOut l (nameOut l (k + 1)).2.1).2.1 := hp2
        have hb := blankTo_le l _ hp1
        split
        · rename_i h4
          rcases pre_len h4 with e | e
          · cases e
          · simp only [List.length_cons, List.length_nil] at e
            exact ⟨by show k < blankTo l _ + 2; omega, e⟩
        · rename_i h4
          rw [if_neg h4] at h
          split
          · rename_i h5
            rcases pre_len h5 with e | e
            · cases e
            · simp only [List.length_cons, List.length_nil] at e
              exact ⟨by show k < blankTo l _ + 1; omega, e⟩
          · rename_i h5; rw [if_neg h5] at h; cases h
  · rename_i h1; rw [if_neg h1] at h; cases h
theorem charBody_ok (b cap : Int) (l : List UInt8) (k : Nat) (h : (charBody b cap l k).2.2 = 0) : k < (charBody b cap l k).2.1 ∧ (charBody b cap l k).2.1 ≤ l.length := by
  unfold charBody at h ⊢
  simp only at h ⊢
  split
  · rename_i h1; rw [if_pos h1] at h; cases h
  · rename_i h1
    rw [if_neg h1] at h
    split
    · rw [not_or] at h1
      have h2 : l[k + (digs b (l.drop k)).length]? = some 59 := by simpa using h1.2
      have := (List.getElem?_eq_some_iff.1 h2).1
      exact ⟨by simp only; omega, by simp only; omega⟩
    · rename_i h2; rw [if_neg h2] at h; cases h
theorem char_ok (l : List UInt8) (k : Nat) (h : (charOut l k).2.2 = 0) : k < (charOut l k).2.1 ∧ (charOut l k).2.1 ≤ l.length := by
  unfold charOut at h ⊢
  split
  · rename_i h1
    rw [if_pos h1] at h
    split
    · rename_i h2
      rw [if_pos h2] at h
      have := charBody_ok _ _ _ _ h
      omega
    · rename_i h2
      rw [if_neg h2] at h
      have := charBody_ok _ _ _ _ h
      omega
  · rename_i h1; rw [if_neg h1] at h; cases h
theorem ref_ok (m : UInt8) (l : List UInt8) (k : Nat) (h : (refOut m l k).2.2 = 0) : k < (refOut m l k).2.1 ∧ (refOut m l k).2.1 ≤ l.length := by
  unfold refOut at h ⊢
  cases hc : l[k]? with
  | none => rw [hc] at h; cases h
  | some c =>
    rw [hc] at h
    simp only at h ⊢
    have hk := (List.getElem?_eq_some_iff.1 hc).1
    split
    · rename_i h1
      rw [if_pos h1] at h
      split
      · rename_i h2; rw [if_pos h2] at h; exact absurd h h2
      · rename_i h2
        rw [if_neg h2] at h
        have hp := plain_ok l (k + 1) hk (by simpa using h2)
        cases hd : l[(plainOut l (k + 1)).2.1]? with
        | none => rw [hd] at h; cases h
        | some d =>
          rw [hd] at h
          simp only at h ⊢
          have hl := (List.getElem?_eq_some_iff.1 hd).1
          split
          · exact ⟨by simp only; omega, by simp only; omega⟩
          · rename_i h3; rw [if_neg h3] at h; cases h
    · rename_i h1; rw [if_neg h1] at h; cases h
theorem txt_le (l : List UInt8) : (txt l).length ≤ l.length := (List.takeWhile_prefix (p := inTx) (l := l)).length_le
theorem txt_cons {c : UInt8} {t : List UInt8} (h : inTx c = true) : txt (c :: t) = c :: txt t := by simp [txt, h]
theorem txt_stop {c : UInt8} {t : List UInt8} (h : inTx c = false) : txt (c :: t) = [] := by simp [txt, h]
/-- A token that is read goes on from its place, and lies within. -/
theorem readTok_ok (l : List UInt8) (k : Nat) (hk : k < l.length) (h : (readTok l k).2 = 0) : ∃ t : Nat, (readTok l k).1.to_ = (t : Int) ∧ k < t ∧ t ≤ l.length := by
  unfold readTok at h ⊢
  split
  · rename_i h1; rw [if_pos h1] at h; exact ⟨_, rfl, comment_ok l k h⟩
  · rename_i h1
    rw [if_neg h1] at h
    split
    · rename_i h1; rw [if_pos h1] at h; exact ⟨_, rfl, cdata_ok l k h⟩
    · rename_i h1
      rw [if_neg h1] at h
      split
      · rename_i h1; rw [if_pos h1] at h; exact ⟨_, rfl, pi_ok l k (Nat.le_of_lt hk) h⟩
      · rename_i h1
        rw [if_neg h1] at h
        split
        · rename_i h1; rw [if_pos h1] at h; exact ⟨_, rfl, close_ok l k h⟩
        · rename_i h1
          rw [if_neg h1] at h
          split
          · rename_i h1; rw [if_pos h1] at h; exact ⟨_, rfl, open_ok l k h⟩
          · rename_i h60
            rw [if_neg h60] at h
            split
            · rename_i h1; rw [if_pos h1] at h; exact ⟨_, rfl, char_ok l k h⟩
            · rename_i h1
              rw [if_neg h1] at h
              split
              · rename_i h1; rw [if_pos h1] at h; exact ⟨_, rfl, ref_ok 38 l k h⟩
              · rename_i h38
                rw [if_neg h38] at h
                unfold textTok at h ⊢
                split
                · rename_i h1; rw [if_pos h1] at h; cases h
                · have hd : l.drop k = l[k] :: l.drop (k + 1) := List.drop_eq_getElem_cons hk
                  have hin : inTx l[k] = true := by
                    rw [pre_one, List.getElem?_eq_getElem hk] at h60 h38
                    have n60 : l[k] ≠ 60 := by simpa using h60
                    have n38 : l[k] ≠ 38 := by simpa using h38
                    simp [inTx, n60, n38]
                  have h1 : 0 < (txt (l.drop k)).length := by rw [hd, txt_cons hin]; simp
                  have h2 := txt_le (l.drop k)
                  rw [List.length_drop] at h2
                  exact ⟨_, rfl, by omega, by omega⟩
theorem nextOut_ok (l : List UInt8) (k : Nat) (hk : k < l.length) (h : (nextOut l k).2 = 0) : (nextOut l k).1.fro = (k : Int) ∧ ∃ t : Nat, (nextOut l k).1.to_ = (t : Int) ∧ k < t ∧ t ≤ l.length := by
  unfold nextOut at h ⊢
  split
  · rename_i h1; exact ⟨rfl, readTok_ok l k hk h1⟩
  · rename_i h1; rw [if_neg h1] at h; exact absurd h h1
end Go.Proofs.YtmclngahdklfkaaGreatDoor
/- Rows of tokens where they lie. -/
namespace Go.Proofs.YtmclngahdklfkaaGreatDoor
open Go.ChangeShapes Go.WideShapes Go.ChangeAt Go.RowKit
set_option linter.unusedVariables false
/-- A token where it lies, its row of attributes with it. -/
structure TokV where
  t : TokL
  A : Option Addr
  n : Nat
  c : Nat
def TokV.cells (v : TokV) : List Value := [.int .i64 v.t.kind, .int .i64 v.t.fro, .int .i64 v.t.to_, .string ⟨v.t.name.toArray⟩, .string ⟨v.t.text.toArray⟩, .slice v.A v.n v.c, .int .i64 v.t.r]
def cellsK (vs : List TokV) : List Value := vs.flatMap TokV.cells
theorem cellsK_length (vs : List TokV) : (cellsK vs).length = vs.length * 7 := by
  induction vs with
  | nil => rfl
  | cons v vs ih =>
    have : cellsK (v :: vs) = v.cells ++ cellsK vs := rfl
    rw [this, List.length_append, ih]
    simp [TokV.cells]
    omega
theorem cellsK_snoc (vs : List TokV) (v : TokV) : cellsK (vs ++ [v]) = cellsK vs ++ v.cells := by simp [cellsK]
theorem cellsK_get : ∀ (vs : List TokV) (i : Nat) (v : TokV), vs[i]? = some v → ∀ (j : Nat) u, v.cells[j]? = some u → (cellsK vs)[i * 7 + j]? = some u
  | [], i, v, h, j, u, hu => by simp at h
  | x :: vs, 0, v, h, j, u, hu => by
    simp at h
    subst h
    have e : cellsK (x :: vs) = x.cells ++ cellsK vs := rfl
    have hj : j < x.cells.length := (List.getElem?_eq_some_iff.1 hu).1
    rw [e, Nat.zero_mul, Nat.zero_add, List.getElem?_append_left hj]
    exact hu
  | x :: vs, i + 1, v, h, j, u, hu => by
    have e : cellsK (x :: vs) = x.cells ++ cellsK vs := rfl
    have hx : x.cells.length = 7 := rfl
    rw [e, List.getElem?_append_right (by rw [hx]; omega), hx, show (i + 1) * 7 + j - 7 = i * 7 + j by omega]
    exact cellsK_get vs i v (by simpa using h) j u hu
/-- A row of tokens that can be read. -/
structure TRd (w : World) (B : Nat) (A : Option Addr) (n cap : Nat) (vs : List TokV) : Prop where
  len : vs.length = n
  le : n ≤ cap
  fit : cap ≤ maxLen
  nil : A = none → cap = 0
  at_ : 0 < cap → ∃ b o, A = some ⟨b, o, none⟩ ∧ b < B ∧ ∀ i v, vs[i]? = some v → ∀ (j : Nat) u, v.cells[j]? = some u → w.cell? ⟨b, o + (i * 7 + j), none⟩ = some u
  prs : ∀ v ∈ vs, PRd w B v.A v.n v.c v.t.pairs
theorem TRd.keep {w w' : World} {B n cap : Nat} {A : Option Addr} {vs : List TokV} (h : TRd w B A n cap vs) (hk : ∀ p : Addr, p.block < B → w'.cell? p = w.cell? p) : TRd w' B A n cap vs :=
  ⟨h.len, h.le, h.fit, h.nil, fun h0 => by
    obtain ⟨b, o, e, hb, hc⟩ := h.at_ h0
    exact ⟨b, o, e, hb, fun i v hv j u hu => (hk ⟨b, _, none⟩ hb).trans (hc i v hv j u hu)⟩, fun v hv => (h.prs v hv).keep hk⟩
theorem TRd.more {w : World} {B B' n cap : Nat} {A : Option Addr} {vs : List TokV} (h : TRd w B A n cap vs) (hB : B ≤ B') : TRd w B' A n cap vs :=
  ⟨h.len, h.le, h.fit, h.nil, fun h0 => by
    obtain ⟨b, o, e, hb, hc⟩ := h.at_ h0
    exact ⟨b, o, e, by omega, hc⟩, fun v hv => (h.prs v hv).more hB⟩
theorem TRd.below {w w' : World} {B n cap : Nat} {A : Option Addr} {vs : List TokV} (h : TRd w B A n cap vs) (hb : Below B w w') : TRd w' B A n cap vs := h.keep fun p hp => hb.cell hp
theorem TRd.up {w w' : World} {n cap : Nat} {A : Option Addr} {vs : List TokV} (h : TRd w w.heap.size A n cap vs) (hb : Below w.heap.size w w') : TRd w' w'.heap.size A n cap vs := (h.below hb).more hb.size
theorem TRd.drewN {w : World} {B n cap k : Nat} {A : Option Addr} {vs : List TokV} (h : TRd w B A n cap vs) : TRd (w.drewN k) B A n cap vs := h.keep (w' := w.drewN k) fun _ _ => rfl
theorem TRd.nilR (w : World) (B : Nat) : TRd w B none 0 0 [] := ⟨rfl, Nat.le_refl _, Nat.zero_le _, fun _ => rfl, fun h => absurd h (by omega), fun v hv => by cases hv⟩
theorem TRd.ofOwn {w : World} {base : Nat} {e : TypeId} {v : Value} {n : Nat} {vs : List TokV} (h : w.ownsRow base e 7 v n (cellsK vs)) (hp : ∀ v ∈ vs, PRd w w.heap.size v.A v.n v.c v.t.pairs) : ∃ A c, v = .slice A n c ∧ TRd w w.heap.size A n c vs := by
  obtain ⟨hl, h2 | ⟨g, cap, cur, hv, hg, hh, hn, hc, hs, ht⟩⟩ := h
  · obtain ⟨hv, hn⟩ := h2
    subst hn
    rw [cellsK_length] at hl
    have : vs = [] := List.length_eq_zero_iff.1 (by omega)
    subst this
    exact ⟨none, 0, hv, TRd.nilR w _⟩
  · rw [cellsK_length] at hl
    refine ⟨_, cap, hv, by omega, hn, hc, (fun e => by cases e), fun _ => ⟨g, 0, rfl, lt_of hh, fun i p hp j u hu => ?_⟩, hp⟩
    have hi : i < vs.length := (List.getElem?_eq_some_iff.1 hp).1
    have hj : j < 7 := (List.getElem?_eq_some_iff.1 hu).1
    have hcp := cellsK_get vs i p hp j u hu
    rw [← ht, List.getElem?_take_of_lt (by omega)] at hcp
    rw [cell_of _ hh, Nat.zero_add]
    simpa using hcp
/-- The token at a place of a row: its seven cells, its attributes. -/
theorem TRd.cell {w : World} {B n cap : Nat} {A : Option Addr} {vs : List TokV} {i : Nat} (h : TRd w B A n cap vs) (hi : i < n) :
    ∃ b o v, A = some ⟨b, o, none⟩ ∧ b < B ∧ vs[i]? = some v ∧ (∀ (j : Nat) u, v.cells[j]? = some u → w.cell? ⟨b, o + (i * 7 + j), none⟩ = some u) ∧ PRd w B v.A v.n v.c v.t.pairs := by
  obtain ⟨b, o, e, hb, hc⟩ := h.at_ (by have := h.le; omega)
  have hl : i < vs.length := by rw [h.len]; exact hi
  have hp := List.getElem?_eq_getElem hl
  exact ⟨b, o, vs[i], e, hb, hp, hc i _ hp, h.prs _ (List.mem_of_getElem? hp)⟩
theorem cell_newN (w : World) (us : List Value) (T : TypeId) : ∀ (j : Nat) (v : Value), us[j]? = some v → (w.alloc (.cells us.toArray T)).cell? ((⟨w.heap.size, 0, none⟩ : Addr).add j) = some v := by
  intro j v hv
  rw [addr_add, cell_of _ (hp_new _ _)]
  simpa using hv
/-- 'out = append(out, u)' onto a row of the call's own, the element's cells lying in a block just made. -/
theorem wpList_appK {P : Program} {ops : Array Oper} {rest : List Oper} {o : Oper} {a : Act} {Q : Exit → Act → World → Prop} {w : World} (hgd : o.guard = none) (s x : Operand) (t e : TypeId)
    (ho : o.op = .call { callee := .builtin .append, args := #[s, x], argTypes := #[t, t] }) (z : Value) (k bytes : Nat) (ht : P.underlying t = some (.slice e))
    (hi : ∃ i, P.info? e = some i ∧ i.zero = some z ∧ i.size = k ∧ i.bytes = bytes) (hzs : z.cells.size = k) (hk : 0 < k)
    (base : Nat) (v : Value) (n : Nat) (xs : List Value) (hs : a.eval s = v) (hown : w.ownsRow base e k v n xs) (us : List Value) (us' : Array Value) (hus : us' = us.toArray) (hx : a.eval x = .slice (some ⟨w.heap.size, 0, none⟩) 1 1)
    (hl : us.length = k) (h1 : ∀ u ∈ us, u.oneCell' = true) (hn : n ≤ 1000000000) (hby : bytes ≤ 1000) (hbase : base ≤ w.heap.size)
    (h : ∀ v' w', w'.ownsRow base e k v' (n + 1) (xs ++ us) → (w.alloc (.cells us' e)).grownBy w' v.ownBlock → (v'.ownBlock = v.ownBlock ∨ v'.ownBlock = some (w.heap.size + 1)) → wpList P ops Q rest (a.put o.dst v') w') : wpList P ops Q (o :: rest) a (w.alloc (.cells us' e)) := by
  subst hus
  obtain ⟨i, hi, hz, hsz, hbt⟩ := hi
  refine wpList_append_own_at _ hgd s x t ho base e i z k bytes ht hi hz hsz hbt hzs hk v n xs hs (hown.alloc _) ⟨w.heap.size, 0, none⟩ 1 1 us hx (by omega) (cell_newN w us e) h1 (by unfold maxLen; omega) ?_ (by simp; omega) fun v' w' hown' hgrow _ hat => h v' w' hown' hgrow (by rw [World.size_alloc] at hat; exact hat)
  have : (n + 1) * bytes ≤ 1000000001 * 1000 := Nat.mul_le_mul (by omega) hby
  omega
/-- While a row of tokens grows: below w all as it was; the row's own block from base on; the tokens' attributes elsewhere. -/
structure GrowT (T : TypeId) (w wr : World) (base : Nat) (v : Value) (vs : List TokV) : Prop where
  below : Below w.heap.size w wr
  base0 : w.heap.size ≤ base
  base1 : base ≤ wr.heap.size
  own : wr.ownsRow base T 7 v vs.length (cellsK vs)
  prs : ∀ x ∈ vs, PRd wr wr.heap.size x.A x.n x.c x.t.pairs
  off : ∀ x ∈ vs, 0 < x.c → ∀ b i, x.A = some ⟨b, i, none⟩ → some b ≠ v.ownBlock
theorem GrowT.start (T : TypeId) (w : World) : GrowT T w w w.heap.size (.slice none 0 0) [] :=
  ⟨Below.refl _ _, Nat.le_refl _, Nat.le_refl _, ⟨rfl, .inl ⟨rfl, rfl⟩⟩, fun x hx => (by cases hx), fun x hx => (by cases hx)⟩
theorem ownBlock_lt {w : World} {base : Nat} {e : TypeId} {c n : Nat} {v : Value} {xs : List Value} (h : w.ownsRow base e c v n xs) {b : Nat} (hb : v.ownBlock = some b) : b < w.heap.size ∧ base ≤ b := by
  obtain ⟨hl, ⟨hv, _⟩ | ⟨g, cap, cur, hv, hg, hh, r⟩⟩ := h
  · rw [hv] at hb; simp [Value.ownBlock] at hb
  · rw [hv] at hb; simp [Value.ownBlock] at hb; subst hb; exact ⟨lt_of hh, hg⟩
theorem GrowT.kept {T : TypeId} {w wr w' : World} {base : Nat} {v : Value} {vs : List TokV} (h : GrowT T w wr base v vs) (hb : Below wr.heap.size wr w') : GrowT T w w' base v vs :=
  ⟨h.below.trans (hb.mono h.below.size), h.base0, by have := h.base1; have := hb.size; omega, ownsRow_keep h.own fun g _ hg => hb.block g hg, fun x hx => ((h.prs x hx).below hb).more hb.size, h.off⟩
theorem PRd.moveC {w w' : World} {B B' n cap : Nat} {A : Option Addr} {ps : List PairL} (h : PRd w B A n cap ps) (hB : B ≤ B') (hk : 0 < cap → ∀ b i, A = some ⟨b, i, none⟩ → b < B → w'.heap[b]? = w.heap[b]?) : PRd w' B' A n cap ps := by
  by_cases h0 : 0 < cap
  · exact h.move hB (hk h0)
  · exact ⟨h.len, h.le, h.fit, h.nil, fun h1 => absurd h1 h0⟩
/-- One token more: its attributes lie in no block of the row's. -/
theorem GrowT.appended {T : TypeId} {w wr w' : World} {base : Nat} {v v' : Value} {vs : List TokV} {x : TokV} {us : Array Value} (h : GrowT T w wr base v vs) (hx : PRd wr wr.heap.size x.A x.n x.c x.t.pairs) (hoff : 0 < x.c → ∀ b i, x.A = some ⟨b, i, none⟩ → some b ≠ v.ownBlock)
    (hown : w'.ownsRow base T 7 v' (vs.length + 1) (cellsK vs ++ x.cells)) (hg : (wr.alloc (.cells us T)).grownBy w' v.ownBlock) (hat : v'.ownBlock = v.ownBlock ∨ v'.ownBlock = some (wr.heap.size + 1)) : GrowT T w w' base v' (vs ++ [x]) := by
  have hsz := hg.size
  rw [World.size_alloc] at hsz
  have hbl : ∀ b, b < wr.heap.size → some b ≠ v.ownBlock → w'.heap[b]? = wr.heap[b]? := fun b hb hne => by
    rw [hg.block b (by rw [World.size_alloc]; omega) hne, Below.heap_alloc _ _ _ hb]
  have hpr : ∀ y : TokV, PRd wr wr.heap.size y.A y.n y.c y.t.pairs → (0 < y.c → ∀ b i, y.A = some ⟨b, i, none⟩ → some b ≠ v.ownBlock) → PRd w' w'.heap.size y.A y.n y.c y.t.pairs := fun y hy ho =>
    hy.moveC (by omega) fun h0 b i hA hb => hbl b hb (ho h0 b i hA)
  have hof : ∀ y : TokV, PRd wr wr.heap.size y.A y.n y.c y.t.pairs → (0 < y.c → ∀ b i, y.A = some ⟨b, i, none⟩ → some b ≠ v.ownBlock) → 0 < y.c → ∀ b i, y.A = some ⟨b, i, none⟩ → some b ≠ v'.ownBlock := fun y hy ho h0 b i hA => by
    rcases hat with e | e
    · rw [e]; exact ho h0 b i hA
    · rw [e]
      intro hh
      obtain ⟨b2, o, e2, hb2, _⟩ := hy.at_ h0
      rw [hA] at e2
      cases e2
      cases hh
      omega
  refine ⟨(h.below.alloc h.below.size (.cells us T)).grown hg (by rw [World.size_alloc]; have := h.below.size; omega) fun k hk => ?_, h.base0, by have := h.base1; omega, by rw [List.length_append, cellsK_snoc]; exact hown, ?_, ?_⟩
  · exact Nat.le_trans h.base0 (ownBlock_lt h.own hk).2
  · intro y hy
    rcases List.mem_append.1 hy with hy | hy
    · exact hpr y (h.prs y hy) (h.off y hy)
    · rw [List.mem_singleton] at hy; subst hy; exact hpr y hx hoff
  · intro y hy
    rcases List.mem_append.1 hy with hy | hy
    · exact hof y (h.prs y hy) (h.off y hy)
    · rw [List.mem_singleton] at hy; subst hy; exact hof y hx hoff
end Go.Proofs.YtmclngahdklfkaaGreatDoor
/- strings.IndexRune of two ASCII bytes at a wide rune. -/
namespace Go.Proofs.YtmclngahdklfkaaGreatDoor
open Go.ChangeShapes Go.WideShapes Go.ChangeAt Go.RowKit
set_option linter.unusedVariables false
theorem enc_cases (r : Int) (h : 128 ≤ r) : (∃ a b : UInt8, Utf8.encode r = ⟨#[a, b]⟩ ∧ 128 ≤ b.toNat) ∨ (∃ a b c : UInt8, Utf8.encode r = ⟨#[a, b, c]⟩) ∨ ∃ a b c d : UInt8, Utf8.encode r = ⟨#[a, b, c, d]⟩ := by
  unfold Utf8.encode
  have hc : 128 ≤ (if Utf8.valid r = true then r.toNat else Utf8.runeError) := by
    split
    · omega
    · decide
  simp only
  generalize (if Utf8.valid r = true then r.toNat else Utf8.runeError) = c at *
  rw [if_neg (by omega)]
  split
  · refine Or.inl ⟨_, _, rfl, ?_⟩
    simp
    omega
  · split
    · exact Or.inr (Or.inl ⟨_, _, _, rfl⟩)
    · exact Or.inr (Or.inr ⟨_, _, _, _, rfl⟩)
end Go.Proofs.YtmclngahdklfkaaGreatDoor
/- What strings.IndexAny answers of two signs; no condition. -/
namespace Go.Proofs.YtmclngahdklfkaaGreatDoor
open Go.ChangeShapes Go.WideShapes Go.ChangeAt Go.RowKit
set_option linter.unusedVariables false
theorem get_plus (s : ByteArray) (p : Nat) (h : p < s.size) : s.get! p = s[p]'h := by
  simp [ByteArray.get!, getElem!_pos, h]
  rfl
/-- The bytes that a character takes which begins with a byte from 128 up are all so. -/
theorem decode_span (s : ByteArray) (pos : Nat) (h : pos < s.size) (ha : 128 ≤ (s[pos]'h).toNat) :
    pos + (Utf8.decode s pos).2 ≤ s.size ∧ ∀ j, pos ≤ j → j < pos + (Utf8.decode s pos).2 → ∃ hj : j < s.size, 128 ≤ (s[j]'hj).toNat := by
  have h0 : (s.get! (pos + 0)).toNat = (s[pos]'h).toNat := by rw [Nat.add_zero, get_plus s pos h]
  have hc : ∀ k, (pos + k < s.size && (s.get! (pos + k)).toNat / 64 == 2) = true → ∃ hj : pos + k < s.size, 128 ≤ (s[pos + k]'hj).toNat := by
    intro k hk
    simp only [Bool.and_eq_true, decide_eq_true_eq, beq_iff_eq] at hk
    refine ⟨hk.1, ?_⟩
    have := hk.2
    rw [get_plus s _ hk.1] at this
    omega
  have one : pos + 1 ≤ s.size ∧ ∀ j, pos ≤ j → j < pos + 1 → ∃ hj : j < s.size, 128 ≤ (s[j]'hj).toNat := by
    refine ⟨h, fun j h1 h2 => ?_⟩
    obtain rfl : j = pos := by omega
    exact ⟨h, ha⟩
  unfold Utf8.decode
  simp only
  rw [if_neg (by rw [h0]; omega)]
  split
  · rename_i h1
    rw [Bool.and_eq_true] at h1
    obtain ⟨a1, b1⟩ := hc 1 h1.2
    split
    · refine ⟨by simp only; omega, fun j h2 h3 => ?_⟩
      simp only at h3
      rcases (by omega : j = pos ∨ j = pos + 1) with rfl | rfl
      · exact ⟨h, ha⟩
      · exact ⟨a1, b1⟩
    · exact one
  · split
    · rename_i h1
      simp only [Bool.and_eq_true] at h1
      obtain ⟨a1, b1⟩ := hc 1 (by simpa using h1.1.2)
      obtain ⟨a2, b2⟩ := hc 2 (by simpa using h1.2)
      split
      · refine ⟨by simp only; omega, fun j h2 h3 => ?_⟩
        simp only at h3
        rcases (by omega : j = pos ∨ j = pos + 1 ∨ j = pos + 2) with rfl | rfl | rfl
        · exact ⟨h, ha⟩
        · exact ⟨a1, b1⟩
        · exact ⟨a2, b2⟩
      · exact one
    · split
      · rename_i h1
        simp only [Bool.and_eq_true] at h1
        obtain ⟨a1, b1⟩ := hc 1 (by simpa using h1.1.1.2)
        obtain ⟨a2, b2⟩ := hc 2 (by simpa using h1.1.2)
        obtain ⟨a3, b3⟩ := hc 3 (by simpa using h1.2)
        split
        · refine ⟨by simp only; omega, fun j h2 h3 => ?_⟩
          simp only at h3
          rcases (by omega : j = pos ∨ j = pos + 1 ∨ j = pos + 2 ∨ j = pos + 3) with rfl | rfl | rfl | rfl
          · exact ⟨h, ha⟩
          · exact ⟨a1, b1⟩
          · exact ⟨a2, b2⟩
          · exact ⟨a3, b3⟩
        · exact one
      · exact one
/-- A string's iterator in block b, at whatever world. -/
def itW (W : World) (b : Nat) (s : ByteArray) (p : Nat) : World := { W with heap := W.heap.setIfInBounds b (.stringIter s p) }
theorem itW_at {W : World} {b p q : Nat} {s : ByteArray} (h : W.heap[b]? = some (.stringIter s q)) : (itW W b s p).heap[b]? = some (.stringIter s p) := by
  have hb : b < W.heap.size := (Array.getElem?_eq_some_iff.1 h).1
  simp [itW, hb]
theorem itW_below {W : World} {b p : Nat} {s : ByteArray} : Below b W (itW W b s p) := ⟨rfl, rfl, rfl, by simp [itW], fun k hk => by simp [itW, show ¬ b = k by omega]⟩
theorem run_next_at (W : World) (b : Nat) (s : ByteArray) (pos : Nat) (ty : TypeId) (hb : W.heap[b]? = some (.stringIter s pos)) (h : pos < s.size) :
    (Instr.next (.pointer (some ⟨b, 0, none⟩)) true ty).run Tryz.prog W = .ok (.tuple #[.bool true, .int .i64 pos, .int .i32 (Utf8.decode s pos).1]) (itW W b s (pos + (Utf8.decode s pos).2)) := by
  simp only [Instr.next, getObj, setObj, Sem.run_bind, Sem.run, hb, Result.andThen, h, if_true]
  simp [goInt, itW]
theorem run_next_end_at (W : World) (b : Nat) (s : ByteArray) (pos : Nat) (ty : TypeId) (hb : W.heap[b]? = some (.stringIter s pos)) (h : ¬ pos < s.size) :
    (Instr.next (.pointer (some ⟨b, 0, none⟩)) true ty).run Tryz.prog W = .ok (.tuple #[.bool false]) W := by
  simp [Instr.next, getObj, Sem.run, hb, h]
end Go.Proofs.YtmclngahdklfkaaGreatDoor
/- unicode/utf8.decodeRuneSlow of bytes that begin a character of more than one byte, or none. -/
namespace Go.Proofs.YtmclngahdklfkaaGreatDoor
open Go.ChangeShapes Go.WideShapes Go.ChangeAt Go.RowKit
set_option linter.unusedVariables false
theorem getB {l : List UInt8} {k : Nat} {c : UInt8} (h : l[k]? = some c) : (⟨l.toArray⟩ : ByteArray).get! k = c := by
  have hk := (List.getElem?_eq_some_iff.1 h).1
  have hs : (⟨l.toArray⟩ : ByteArray).size = l.length := by simp [ByteArray.size]
  rw [get_plus _ _ (by rw [hs]; exact hk)]
  have : (⟨l.toArray⟩ : ByteArray)[k]'(by rw [hs]; exact hk) = l[k] := rfl
  rw [this]
  rw [List.getElem?_eq_getElem hk] at h
  exact Option.some.inj h
/-- The bytes of a character of more than one byte. -/
def decU (l : List UInt8) : Nat × Nat := Utf8.decode ⟨l.toArray⟩ 0
set_option maxRecDepth 100000 in
set_option maxHeartbeats 8000000 in
theorem decSlow_c (b o n cap : Nat) (l : List UInt8) (w : World) (h : Byt w w.heap.size (some ⟨b, o, none⟩) n cap l) (hn : 0 < n) (hm : n ≤ 1000000) (hT : Lib.Utf8Tabs 8 9 w) (c0 : UInt8) (hc : l[0]? = some c0) (h128 : 128 ≤ c0.toNat) :
    Calls Tryz.prog 165 #[.slice (some ⟨b, o, none⟩) n cap] w fun e w' => e = .returned (.tuple #[.int .i32 (decU l).1, .int .i64 (decU l).2]) ∧ Below w.heap.size w w' := by
  have hln := h.length
  have hs : (⟨l.toArray⟩ : ByteArray).size = l.length := by simp [ByteArray.size]
  obtain ⟨x0, hx0⟩ : ∃ x0, (⟨l.toArray⟩ : ByteArray).get! 0 = x0 := ⟨_, rfl⟩
  obtain ⟨x1, hx1⟩ : ∃ x1, (⟨l.toArray⟩ : ByteArray).get! 1 = x1 := ⟨_, rfl⟩
  obtain ⟨x2, hx2⟩ : ∃ x2, (⟨l.toArray⟩ : ByteArray).get! 2 = x2 := ⟨_, rfl⟩
  obtain ⟨x3, hx3⟩ : ∃ x3, (⟨l.toArray⟩ : ByteArray).get! 3 = x3 := ⟨_, rfl⟩
  obtain rfl : x0 = c0 := hx0.symm.trans (getB hc)
  have l0 := x0.toNat_lt; have l1 := x1.toNat_lt; have l2 := x2.toNat_lt; have l3 := x3.toNat_lt
  have hbB : b < w.heap.size := by
    obtain ⟨b', o', c', e, hb, _⟩ := h.cell hn
    cases e
    exact hb
  have hcell : ∀ k, k < n → w.cell? ⟨b, o + k, none⟩ = some (.int .u8 ((⟨l.toArray⟩ : ByteArray).get! k).toNat) := fun k hk => by
    obtain ⟨b', o', c', e, hb, h1, h2⟩ := h.cell hk
    cases e
    rw [getB h1]
    exact h2
  have hdec : decU l = Lib.decodeN n x0.toNat x1.toNat x2.toNat x3.toNat := by
    unfold decU
    rw [Lib.decode_at, Nat.sub_zero, Nat.zero_add, Nat.zero_add, Nat.zero_add, hx0, hx1, hx2, hx3, hs, hln]
  rw [hdec]
  have hc0 := hT.1 x0.toNat (by omega)
  have hf0 := hcell 0 hn
  rw [hx0, Nat.add_zero] at hf0
  have hres : Lib.firstT x0.toNat < 240 → Lib.decodeN n x0.toNat x1.toNat x2.toNat x3.toNat = Lib.slowN n x0.toNat x1.toNat x2.toNat x3.toNat (Lib.firstT x0.toNat % 8) (Lib.accLo (Lib.firstT x0.toNat / 16)) (Lib.accHi (Lib.firstT x0.toNat / 16)) :=
    fun h => (Lib.slow_eq _ _ _ _ _ (by omega) (by omega) (by omega) (by omega) h).symm
  have hn0 : ¬ ((n : Int) < 1) := by omega
  have hn00 : (0 : Int) < (n : Int) := by omega
  have hf1 : 1 < n → w.cell? ⟨b, o + 1, none⟩ = some (.int .u8 x1.toNat) := fun h1 => by rw [hcell 1 h1, hx1]
  have hf2 : 2 < n → w.cell? ⟨b, o + 2, none⟩ = some (.int .u8 x2.toNat) := fun h1 => by rw [hcell 2 h1, hx2]
  have hf3 : 3 < n → w.cell? ⟨b, o + 3, none⟩ = some (.int .u8 x3.toNat) := fun h1 => by rw [hcell 3 h1, hx3]
  clear hcell hdec hx0 hx1 hx2 hx3 hc h hs hln
  rcases Lib.firstT_cases x0.toNat with hX | hX | hX | hX | hX | hX | hX | hX | hX
  · exfalso
    unfold Lib.firstT at hX
    rw [if_neg (by omega)] at hX
    repeat' split at hX
    all_goals omega
  · rw [Lib.bad_eq _ _ _ _ _ (by omega) hX]
    rw [hX] at hc0
    clear hres hT hX hf1 hf2 hf3
    go_enter Tryz.func165, Tryz.ntmps165
    go_wp2
    rw [Utf8W.mask241, Utf8W.drop_byte ⟨x0.toNat, l0⟩]
    go_ret2
    exact ⟨rfl, Below.refl _ _⟩
  all_goals replace hres := hres (by omega)
  · rw [hX] at hc0 hres
    have ha0 := (hT.2 0 (by omega)).1
    have ha1 := (hT.2 0 (by omega)).2
    simp only [Lib.accLo, Lib.accHi, Nat.reduceMul, Nat.reduceAdd, Nat.reduceEqDiff, if_true, if_false, Nat.reduceMod, Nat.reduceDiv] at ha0 ha1 hres
    rw [hres]
    clear hres hT hX
    by_cases hn : n < 2
    · have hnz : (n : Int) < 2 := by omega
      clear hf1 hf2 hf3
      go_enter Tryz.func165, Tryz.ntmps165
      go_wp2
      all_goals (go_ret2; refine ⟨?_, (Below.refl _ _).alloc (Nat.le_refl _) _⟩; utf8_leaf)
    · have hnz : ¬ ((n : Int) < 2) := by omega
      have hz1 : (1 : Int) < (n : Int) := by omega
      replace hf1 := hf1 (by omega)
      clear hf2 hf3
      go_enter Tryz.func165, Tryz.ntmps165
      go_wp2
      all_goals (go_ret2; refine ⟨?_, (Below.refl _ _).alloc (Nat.le_refl _) _⟩; utf8_leaf)
  · rw [hX] at hc0 hres
    have ha0 := (hT.2 1 (by omega)).1
    have ha1 := (hT.2 1 (by omega)).2
    simp only [Lib.accLo, Lib.accHi, Nat.reduceMul, Nat.reduceAdd, Nat.reduceEqDiff, if_true, if_false, Nat.reduceMod, Nat.reduceDiv] at ha0 ha1 hres
    rw [hres]
    clear hres hT hX
    by_cases hn : n < 3
    · have hnz : (n : Int) < 3 := by omega
      clear hf1 hf2 hf3
      go_enter Tryz.func165, Tryz.ntmps165
      go_wp2
      all_goals (go_ret2; refine ⟨?_, (Below.refl _ _).alloc (Nat.le_refl _) _⟩; utf8_leaf)
    · have hnz : ¬ ((n : Int) < 3) := by omega
      have hz1 : (1 : Int) < (n : Int) := by omega
      replace hf1 := hf1 (by omega)
      have hz2 : (2 : Int) < (n : Int) := by omega
      replace hf2 := hf2 (by omega)
      clear hf3
      go_enter Tryz.func165, Tryz.ntmps165
      go_wp2
      all_goals (go_ret2; refine ⟨?_, (Below.refl _ _).alloc (Nat.le_refl _) _⟩; utf8_leaf)
  · rw [hX] at hc0 hres
    have ha0 := (hT.2 0 (by omega)).1
    have ha1 := (hT.2 0 (by omega)).2
    simp only [Lib.accLo, Lib.accHi, Nat.reduceMul, Nat.reduceAdd, Nat.reduceEqDiff, if_true, if_false, Nat.reduceMod, Nat.reduceDiv] at ha0 ha1 hres
    rw [hres]
    clear hres hT hX
    by_cases hn : n < 3
    · have hnz : (n : Int) < 3 := by omega
      clear hf1 hf2 hf3
      go_enter Tryz.func165, Tryz.ntmps165
      go_wp2
      all_goals (go_ret2; refine ⟨?_, (Below.refl _ _).alloc (Nat.le_refl _) _⟩; utf8_leaf)
    · have hnz : ¬ ((n : Int) < 3) := by omega
      have hz1 : (1 : Int) < (n : Int) := by omega
      replace hf1 := hf1 (by omega)
      have hz2 : (2 : Int) < (n : Int) := by omega
      replace hf2 := hf2 (by omega)
      clear hf3
      go_enter Tryz.func165, Tryz.ntmps165
      go_wp2
      all_goals (go_ret2; refine ⟨?_, (Below.refl _ _).alloc (Nat.le_refl _) _⟩; utf8_leaf)
  · rw [hX] at hc0 hres
    have ha0 := (hT.2 2 (by omega)).1
    have ha1 := (hT.2 2 (by omega)).2
    simp only [Lib.accLo, Lib.accHi, Nat.reduceMul, Nat.reduceAdd, Nat.reduceEqDiff, if_true, if_false, Nat.reduceMod, Nat.reduceDiv] at ha0 ha1 hres
    rw [hres]
    clear hres hT hX
    by_cases hn : n < 3
    · have hnz : (n : Int) < 3 := by omega
      clear hf1 hf2 hf3
      go_enter Tryz.func165, Tryz.ntmps165
      go_wp2
      all_goals (go_ret2; refine ⟨?_, (Below.refl _ _).alloc (Nat.le_refl _) _⟩; utf8_leaf)
    · have hnz : ¬ ((n : Int) < 3) := by omega
      have hz1 : (1 : Int) < (n : Int) := by omega
      replace hf1 := hf1 (by omega)
      have hz2 : (2 : Int) < (n : Int) := by omega
      replace hf2 := hf2 (by omega)
      clear hf3
      go_enter Tryz.func165, Tryz.ntmps165
      go_wp2
      all_goals (go_ret2; refine ⟨?_, (Below.refl _ _).alloc (Nat.le_refl _) _⟩; utf8_leaf)
  · rw [hX] at hc0 hres
    have ha0 := (hT.2 3 (by omega)).1
    have ha1 := (hT.2 3 (by omega)).2
    simp only [Lib.accLo, Lib.accHi, Nat.reduceMul, Nat.reduceAdd, Nat.reduceEqDiff, if_true, if_false, Nat.reduceMod, Nat.reduceDiv] at ha0 ha1 hres
    rw [hres]
    clear hres hT hX
    by_cases hn : n < 4
    · have hnz : (n : Int) < 4 := by omega
      clear hf1 hf2 hf3
      go_enter Tryz.func165, Tryz.ntmps165
      go_wp2
      all_goals (go_ret2; refine ⟨?_, (Below.refl _ _).alloc (Nat.le_refl _) _⟩; utf8_leaf)
    · have hnz : ¬ ((n : Int) < 4) := by omega
      have hz1 : (1 : Int) < (n : Int) := by omega
      replace hf1 := hf1 (by omega)
      have hz2 : (2 : Int) < (n : Int) := by omega
      replace hf2 := hf2 (by omega)
      have hz3 : (3 : Int) < (n : Int) := by omega
      replace hf3 := hf3 (by omega)
      go_enter Tryz.func165, Tryz.ntmps165
      go_wp2
      all_goals (go_ret2; refine ⟨?_, (Below.refl _ _).alloc (Nat.le_refl _) _⟩; utf8_leaf)
  · rw [hX] at hc0 hres
    have ha0 := (hT.2 0 (by omega)).1
    have ha1 := (hT.2 0 (by omega)).2
    simp only [Lib.accLo, Lib.accHi, Nat.reduceMul, Nat.reduceAdd, Nat.reduceEqDiff, if_true, if_false, Nat.reduceMod, Nat.reduceDiv] at ha0 ha1 hres
    rw [hres]
    clear hres hT hX
    by_cases hn : n < 4
    · have hnz : (n : Int) < 4 := by omega
      clear hf1 hf2 hf3
      go_enter Tryz.func165, Tryz.ntmps165
      go_wp2
      all_goals (go_ret2; refine ⟨?_, (Below.refl _ _).alloc (Nat.le_refl _) _⟩; utf8_leaf)
    · have hnz : ¬ ((n : Int) < 4) := by omega
      have hz1 : (1 : Int) < (n : Int) := by omega
      replace hf1 := hf1 (by omega)
      have hz2 : (2 : Int) < (n : Int) := by omega
      replace hf2 := hf2 (by omega)
      have hz3 : (3 : Int) < (n : Int) := by omega
      replace hf3 := hf3 (by omega)
      go_enter Tryz.func165, Tryz.ntmps165
      go_wp2
      all_goals (go_ret2; refine ⟨?_, (Below.refl _ _).alloc (Nat.le_refl _) _⟩; utf8_leaf)
  · rw [hX] at hc0 hres
    have ha0 := (hT.2 4 (by omega)).1
    have ha1 := (hT.2 4 (by omega)).2
    simp only [Lib.accLo, Lib.accHi, Nat.reduceMul, Nat.reduceAdd, Nat.reduceEqDiff, if_true, if_false, Nat.reduceMod, Nat.reduceDiv] at ha0 ha1 hres
    rw [hres]
    clear hres hT hX
    by_cases hn : n < 4
    · have hnz : (n : Int) < 4 := by omega
      clear hf1 hf2 hf3
      go_enter Tryz.func165, Tryz.ntmps165
      go_wp2
      all_goals (go_ret2; refine ⟨?_, (Below.refl _ _).alloc (Nat.le_refl _) _⟩; utf8_leaf)
    · have hnz : ¬ ((n : Int) < 4) := by omega
      have hz1 : (1 : Int) < (n : Int) := by omega
      replace hf1 := hf1 (by omega)
      have hz2 : (2 : Int) < (n : Int) := by omega
      replace hf2 := hf2 (by omega)
      have hz3 : (3 : Int) < (n : Int) := by omega
      replace hf3 := hf3 (by omega)
      go_enter Tryz.func165, Tryz.ntmps165
      go_wp2
      all_goals (go_ret2; refine ⟨?_, (Below.refl _ _).alloc (Nat.le_refl _) _⟩; utf8_leaf)
end Go.Proofs.YtmclngahdklfkaaGreatDoor
/- bytes.IndexAny of '<' and '&': the set. -/
namespace Go.Proofs.YtmclngahdklfkaaGreatDoor
open Go.ChangeShapes Go.WideShapes Go.ChangeAt Go.RowKit
set_option linter.unusedVariables false
/-- '<' and '&'. -/
def amL : List UInt8 := [60, 38]
theorem am_no (b : UInt8) (h : 128 ≤ b.toNat) : amL.contains b = false := by
  have h1 : b ≠ 60 := fun e => by subst e; simp at h
  have h2 : b ≠ 38 := fun e => by subst e; simp at h
  simp [amL, h1, h2]
theorem noAny_am {s : List UInt8} {i m : Nat} (h : Lib.NoAny s amL i) (hm : ∀ j b, i ≤ j → j < m → s[j]? = some b → 128 ≤ b.toNat) : Lib.NoAny s amL m := fun j b hj hb => by
  by_cases e : j < i
  · exact h j b e hb
  · exact am_no b (hm j b (by omega) hj hb)
theorem inTx_am (c : UInt8) : inTx c = !amL.contains c := by
  unfold inTx
  simp only [amL, List.contains_cons, List.contains_nil, Bool.or_false]
  by_cases h1 : c = 60 <;> by_cases h2 : c = 38 <;> simp [h1, h2]
theorem ix_txt : ∀ l : List UInt8, Lib.indexAny l amL = if (txt l).length < l.length then ((txt l).length : Int) else -1
  | [] => by simp [Lib.indexAny, txt]
  | c :: t => by
    unfold Lib.indexAny
    cases h : amL.contains c with
    | true =>
      rw [if_pos rfl, txt_stop (by rw [inTx_am, h]; rfl)]
      simp
    | false =>
      rw [if_neg (by simp), txt_cons (by rw [inTx_am, h]; rfl), ix_txt t]
      have hle := txt_le t
      simp only [List.length_cons]
      by_cases h1 : (txt t).length < t.length
      · have h2 : (txt t).length + 1 < t.length + 1 := by omega
        rw [if_pos h1, if_pos h2]
        split
        · rename_i h3
          have := eq_of_beq h3
          omega
        · omega
      · have h2 : ¬ (txt t).length + 1 < t.length + 1 := by omega
        rw [if_neg h1, if_neg h2]
        rfl
set_option maxRecDepth 100000 in
set_option maxHeartbeats 1000000 in
theorem useSet_c (n : Int) (w : World) : Calls Tryz.prog 137 #[.int .i64 n] w fun e w' => e = .returned (.bool (decide (8 < n))) ∧ w' = w := by
  go_enter Tryz.func137, Tryz.ntmps137
  go_wp2
  go_ret
  exact ⟨rfl, rfl⟩
theorem results_cell2 {P : Program} {fn : Func} {p u : Tmp} {ty : TypeId} (h : fn.results = #[.cell p ty, .tmp u]) (tmps : Array Value) (w : World) (g : Nat) (t : TypeId) (cs : Array Value) (fr : Nat × Nat) (d : TypeDesc)
    (hp : tmps.getD p undef = .pointer (some ⟨g, 0, none⟩)) (hg : w.heap[g]? = some (.cells cs t fr))
    (hu : P.underlying ty = some d) (hd : (match d with | .struct _ | .array _ _ => true | _ => false) = true) (hi : (P.info? ty).map (·.size) = some cs.size) :
    (results fn tmps).run P w = .ok (.tuple #[.agg cs, tmps.getD u undef]) w := by
  have hp' : tmps[p]?.getD undef = .pointer (some ⟨g, 0, none⟩) := by simpa using hp
  simp [results, h, hp', asAddr, run_loadVar_row w g t ty cs fr d hg hu hd hi]
theorem set_info : (Tryz.prog.info? 157).map (fun i => (i.zero, i.size)) = some (some (.agg (Array.replicate 256 (.bool false))), 256) := by kernel_rfl
set_option maxRecDepth 100000 in
set_option maxHeartbeats 8000000 in
theorem amSet_c (w : World) : Calls Tryz.prog 138 #[.string ⟨#[60, 38]⟩] w fun e w' => e = .returned (.tuple #[.agg (Lib.setCells amL), .bool true]) ∧ w' = w.alloc (.cells (Lib.setCells amL) 157) := by
  have hv := (zero_of_info (P := Tryz.prog) set_info).1
  have hi := (zero_of_info (P := Tryz.prog) set_info).2
  have hu := Tryz.underlying157
  have g0 : (⟨#[60, 38]⟩ : ByteArray)[0].toNat = 60 := rfl
  have g1 : (⟨#[60, 38]⟩ : ByteArray)[1].toNat = 38 := rfl
  go_enter Tryz.func138, Tryz.ntmps138
  go_wp2
  rw [← Lib.setCells_nil]
  go_loopg [4] 2 (fun g s4 wx => ∃ i : Nat, i + g = 2 ∧ s4 = .int .i64 i ∧ wx = w.alloc (.cells (Lib.setCells (amL.take i)) 157))
  case atStart => exact ⟨0, by omega, rfl, rfl⟩
  case round =>
    obtain ⟨i, hig, rfl, rfl⟩ := hrel
    cases gk with
    | zero =>
      obtain rfl : i = 2 := by omega
      rw [show amL.take 2 = amL from rfl]
      have hld := run_loadVar_new (P := Tryz.prog) w 157 (Lib.setCells amL) 256 _ hu (by rw [Lib.setCells_size]; exact hi)
      have hsz := Lib.setCells_size amL
      have hlc := run_loadCellsFrom_new (P := Tryz.prog) w 157 (Lib.setCells amL) 256 hsz
      have hsc := run_storeCells_new (P := Tryz.prog) w 157 (Lib.setCells amL) (Lib.setCells amL) (by rw [hsz]; exact hi) rfl (Lib.setCells_one _)
      have hW := hp_new w (.cells (Lib.setCells amL) 157)
      obtain ⟨S, hS⟩ : ∃ S, Lib.setCells amL = S := ⟨_, rfl⟩
      rw [hS] at hld hlc hsc hsz hW ⊢
      have HS := Lib.hid hS
      clear hS
      go_wp2_with (first | (refine wpList_load_row rfl _ _ rfl w.heap.size rfl _ _ _ _ hW hu rfl (by rw [hi, hsz]) ?_) | (refine wpList_store_row rfl _ _ _ rfl w.heap.size S rfl rfl _ _ hW hsz.symm rfl (by rw [hi, hsz]) ?_))
      (try simp only [Exit.inBlock, Exit.then])
      exact bodyPost_ret (results_cell2 rfl _ _ w.heap.size _ _ _ _ rfl hW hu rfl (by rw [hi, hsz])) rfl ⟨by rw [HS.out]; rfl, by rw [HS.out]⟩
    | succ g =>
      have hi2 : i = 0 ∨ i = 1 := by omega
      rcases hi2 with rfl | rfl
      · have hcell := Lib.setCells_at [] 60
        go_wp2
        go_roundg g
        case measure => omega
        case rel => exact ⟨1, by omega, rfl, by rw [show amL.take 1 = [] ++ [60] from rfl, Lib.setCells_snoc]; rfl⟩
      · have hcell := Lib.setCells_at [60] 38
        go_wp2
        go_roundg g
        case measure => omega
        case rel => exact ⟨2, by omega, rfl, by rw [show amL.take 2 = [60] ++ [38] from rfl, Lib.setCells_snoc]; rfl⟩
set_option maxRecDepth 100000 in
set_option maxHeartbeats 1000000 in
theorem setHas_c (b : Nat) (x : UInt8) (v : Bool) (w : World) (hc : w.cell? ⟨b, x.toNat, none⟩ = some (.bool v)) :
    Calls Tryz.prog 139 #[.pointer (some ⟨b, 0, none⟩), .int .u8 x.toNat] w fun e w' => e = .returned (.bool v) ∧ w' = w := by
  have hx256 : (x.toNat : Int) < 256 := by have := UInt8.toNat_lt x; omega
  go_enter Tryz.func139, Tryz.ntmps139
  go_wp2
  go_ret
  exact ⟨rfl, rfl⟩
end Go.Proofs.YtmclngahdklfkaaGreatDoor
/- bytes.IndexAny of '<' and '&': its parts. -/
namespace Go.Proofs.YtmclngahdklfkaaGreatDoor
open Go.ChangeShapes Go.WideShapes Go.ChangeAt Go.RowKit
set_option linter.unusedVariables false
theorem decN_cases (n b0 b1 b2 b3 : Nat) (h0 : 128 ≤ b0) (hb : b0 < 256) : (Lib.decodeN n b0 b1 b2 b3 = (65533, 1)) ∨
    ((Lib.decodeN n b0 b1 b2 b3).2 = 2 ∧ 128 ≤ (Lib.decodeN n b0 b1 b2 b3).1 ∧ (Lib.decodeN n b0 b1 b2 b3).1 < 2048) ∨
    ((Lib.decodeN n b0 b1 b2 b3).2 = 3 ∧ 2048 ≤ (Lib.decodeN n b0 b1 b2 b3).1 ∧ (Lib.decodeN n b0 b1 b2 b3).1 < 65536 ∧ ((Lib.decodeN n b0 b1 b2 b3).1 < 55296 ∨ 57344 ≤ (Lib.decodeN n b0 b1 b2 b3).1)) ∨
    ((Lib.decodeN n b0 b1 b2 b3).2 = 4 ∧ 65536 ≤ (Lib.decodeN n b0 b1 b2 b3).1 ∧ (Lib.decodeN n b0 b1 b2 b3).1 ≤ 1114111) := by
  unfold Lib.decodeN
  rw [if_neg (by omega)]
  repeat' split
  all_goals first | exact .inl rfl | exact .inr (.inl ⟨rfl, by show 128 ≤ _; omega, by show _ < 2048; omega⟩) | exact .inr (.inr (.inl ⟨rfl, by show 2048 ≤ _; omega, by show _ < 65536; omega, by show _ < 55296 ∨ 57344 ≤ _; omega⟩)) | exact .inr (.inr (.inr ⟨rfl, by show 65536 ≤ _; omega, by show _ ≤ 1114111; omega⟩))
theorem enc2 (r : Nat) (h0 : 128 ≤ r) (h1 : r < 2048) : ∃ a b : UInt8, Utf8.encode (r : Int) = ⟨#[a, b]⟩ ∧ 128 ≤ b.toNat := by
  rcases enc_cases (r : Int) (by omega) with h | ⟨a, b, c, h⟩ | ⟨a, b, c, d, h⟩
  · exact h
  all_goals
    exfalso
    unfold Utf8.encode at h
    have hv : Utf8.valid (r : Int) = true := by unfold Utf8.valid; simp; omega
    simp only [hv, if_true, Int.toNat_natCast] at h
    rw [if_neg (by omega), if_pos (by omega)] at h
    have := congrArg ByteArray.size h
    simp [ByteArray.size] at this
theorem enc3 (r : Nat) (h0 : 2048 ≤ r) (h1 : r < 65536) (h2 : r < 55296 ∨ 57344 ≤ r) : ∃ a b c : UInt8, Utf8.encode (r : Int) = ⟨#[a, b, c]⟩ := by
  unfold Utf8.encode
  have hv : Utf8.valid (r : Int) = true := by unfold Utf8.valid; simp; omega
  simp only [hv, if_true, Int.toNat_natCast]
  rw [if_neg (by omega), if_neg (by omega), if_pos (by omega)]
  exact ⟨_, _, _, rfl⟩
theorem enc4 (r : Nat) (h0 : 65536 ≤ r) (h1 : r ≤ 1114111) : ∃ a b c d : UInt8, Utf8.encode (r : Int) = ⟨#[a, b, c, d]⟩ := by
  unfold Utf8.encode
  have hv : Utf8.valid (r : Int) = true := by unfold Utf8.valid; simp; omega
  simp only [hv, if_true, Int.toNat_natCast]
  rw [if_neg (by omega), if_neg (by omega), if_neg (by omega)]
  exact ⟨_, _, _, _, rfl⟩
theorem decU_cases (l : List UInt8) (c : UInt8) (hc : l[0]? = some c) (h : 128 ≤ c.toNat) : decU l = (65533, 1) ∨ ((decU l).2 = 2 ∧ 128 ≤ (decU l).1 ∧ (decU l).1 < 2048) ∨ ((decU l).2 = 3 ∧ 2048 ≤ (decU l).1 ∧ (decU l).1 < 65536 ∧ ((decU l).1 < 55296 ∨ 57344 ≤ (decU l).1)) ∨ ((decU l).2 = 4 ∧ 65536 ≤ (decU l).1 ∧ (decU l).1 ≤ 1114111) := by
  unfold decU
  rw [Lib.decode_at]
  have : (⟨l.toArray⟩ : ByteArray).get! 0 = c := getB hc
  rw [this]
  exact decN_cases _ _ _ _ _ h c.toNat_lt
theorem decU_span (l : List UInt8) (c : UInt8) (hc : l[0]? = some c) (h : 128 ≤ c.toNat) : 1 ≤ (decU l).2 ∧ (decU l).2 ≤ l.length ∧ ∀ j b, j < (decU l).2 → l[j]? = some b → 128 ≤ b.toNat := by
  have hk := (List.getElem?_eq_some_iff.1 hc).1
  have hs : (⟨l.toArray⟩ : ByteArray).size = l.length := by simp [ByteArray.size]
  have h0 : 128 ≤ ((⟨l.toArray⟩ : ByteArray)[0]'(by rw [hs]; exact hk)).toNat := by
    have e : (⟨l.toArray⟩ : ByteArray)[0]'(by rw [hs]; exact hk) = l[0] := rfl
    rw [List.getElem?_eq_getElem hk] at hc
    cases hc
    rw [e]
    exact h
  have h1 := decode_span ⟨l.toArray⟩ 0 (by rw [hs]; exact hk) h0
  have h2 := decode_high ⟨l.toArray⟩ 0 (by rw [hs]; exact hk) h0
  refine ⟨h2.2, by have := h1.1; rw [hs, Nat.zero_add] at this; exact this, fun j b hj hb => ?_⟩
  obtain ⟨hj', hh⟩ := h1.2 j (Nat.zero_le _) (by rw [Nat.zero_add]; exact hj)
  have e : (⟨l.toArray⟩ : ByteArray)[j]'hj' = l[j]'(by rw [← hs]; exact hj') := rfl
  rw [e] at hh
  rw [List.getElem?_eq_getElem (by rw [← hs]; exact hj')] at hb
  cases hb
  exact hh
set_option maxRecDepth 100000 in
set_option maxHeartbeats 4000000 in
theorem decRune_c (b o n cap : Nat) (l : List UInt8) (w : World) (h : Byt w w.heap.size (some ⟨b, o, none⟩) n cap l) (hn : 0 < n) (hm : n ≤ 1000000) (hT : Lib.Utf8Tabs 8 9 w) (c0 : UInt8) (hc : l[0]? = some c0) (h128 : 128 ≤ c0.toNat) :
    Calls Tryz.prog 140 #[.slice (some ⟨b, o, none⟩) n cap] w fun e w' => e = .returned (.tuple #[.int .i32 (decU l).1, .int .i64 (decU l).2]) ∧ Below w.heap.size w w' := by
  have C := Lib.hid (decSlow_c b o n cap l w h hn hm hT c0 hc h128)
  have hcell : w.cell? ⟨b, o, none⟩ = some (.int .u8 c0.toNat) := by
    obtain ⟨b', o', c', e, hb, h1, h2⟩ := h.cell hn
    cases e
    rw [hc] at h1
    cases h1
    exact h2
  have hn0 : (0 : Int) < (n : Int) := by omega
  have hc0 : ¬ (c0.toNat : Int) < 128 := by omega
  generalize decU l = dc at *
  clear h hT hc
  go_enter Tryz.func140, Tryz.ntmps140
  go_wp2_with fail
  go_loopg [8] 1 (fun g i wr => i = .int .i64 0 ∧ wr = w)
  case atStart => exact ⟨rfl, rfl⟩
  case round =>
    obtain ⟨rfl, rfl⟩ := hrel
    go_wp2_with fail
    refine C.out.mono ?_
    rintro e w1 ⟨rfl, hb⟩
    have B := Lib.hid hb
    clear hb
    go_wp2
    go_ret2
    exact ⟨rfl, B.out⟩
theorem ix_long (s sub : List UInt8) (h : s.length < sub.length) : Lib.index s sub = -1 := by
  rcases Lib.index_spec s sub with ⟨h1, _⟩ | ⟨i, h1, hi, ho, _⟩
  · exact h1
  · exfalso
    unfold Lib.occAt at ho
    have := (List.isPrefixOf_iff_prefix.1 ho).length_le
    rw [List.length_drop] at this
    omega
theorem run_ixByte (c : UInt8) (W : World) : (callFunc 135 #[.string ⟨#[60, 38]⟩, .int .u8 (c.toNat : Int)]).run Tryz.prog W = .ok (.value (.int .i64 (Lib.indexByte amL c))) W := by
  rw [run_callFunc_extern Tryz.func135 (by kernel_rfl) (by kernel_rfl) (by kernel_rfl) (e := Extern.BytealgIndexByte.indexByte) (by kernel_rfl), Lib.run_indexByteString]
  simp only [Result.andThen]
  have : ((c.toNat : Int)).toNat.toUInt8 = c := by simp
  rw [this]
  rfl
theorem run_ixStr (z : ByteArray) (m : Int) (W : World) (hM : W.cell? ⟨1, 0, none⟩ = some (.int .i64 m)) (h3 : 3 ≤ z.size) (hm : (z.size : Int) ≤ m) :
    (callFunc 141 #[.string ⟨#[60, 38]⟩, .string z]).run Tryz.prog W = .ok (.value (.int .i64 (-1))) W := by
  rw [run_callFunc_extern Tryz.func141 (by kernel_rfl) (by kernel_rfl) (by kernel_rfl) (e := Extern.BytealgIndex.index) (by kernel_rfl), Lib.run_indexString ⟨#[60, 38]⟩ z W 1 m (by kernel_rfl) hM (by omega) hm (by decide)]
  simp only [Result.andThen]
  rw [ix_long _ _ (by rw [Lib.size_eq] at h3; show 2 < _; omega)]
end Go.Proofs.YtmclngahdklfkaaGreatDoor
/- bytes.IndexAny of '<' and '&'. -/
namespace Go.Proofs.YtmclngahdklfkaaGreatDoor
open Go.ChangeShapes Go.WideShapes Go.ChangeAt Go.RowKit
set_option linter.unusedVariables false
set_option maxRecDepth 100000 in
set_option maxHeartbeats 8000000 in
theorem ixAm_long (A : Option Addr) (n cap : Nat) (l : List UInt8) (w : World) (h : Byt w w.heap.size A n cap l) (hm : n ≤ 1000000) (h8 : 8 < n) :
    Calls Tryz.prog 102 #[.slice A n cap, .string ⟨#[60, 38]⟩] w fun e w' => e = .returned (.int .i64 (Lib.indexAny l amL)) ∧ Below w.heap.size w w' := by
  have hln := h.length
  have hi := (zero_of_info (P := Tryz.prog) set_info).2
  have h8z : decide ((8 : Int) < (n : Int)) = true := decide_eq_true (by omega)
  have n1 : ((n : Int) == 1) = false := by simp; omega
  have CU := Lib.hid fun W => useSet_c (n : Int) W
  have CM := Lib.hid (amSet_c w)
  obtain ⟨S, hS⟩ : ∃ S, Lib.setCells amL = S := ⟨_, rfl⟩
  have hsz := Lib.setCells_size amL
  have h1 := Lib.setCells_one amL
  have hat := fun x : UInt8 => Lib.setCells_at amL x
  rw [hS] at CM hsz hat h1
  have hsc := run_storeCells_new (P := Tryz.prog) (w.alloc (.cells S 157)) 157 Tryz.zeroCells157 S (by rw [hsz]; exact hi) (by rw [hsz]; rfl) h1
  rw [World.size_alloc] at hsc
  have HB := Lib.hid h
  have hW2 := hp_new (w.alloc (.cells S 157)) (.cells S 157)
  rw [World.size_alloc] at hW2
  have hB2 : Below w.heap.size w ((w.alloc (.cells S 157)).alloc (.cells S 157)) := ((Below.refl w.heap.size w).alloc (Nat.le_refl _) (.cells S 157)).alloc (by simp) (.cells S 157)
  have H2 := Lib.hid (And.intro hW2 hB2)
  have HA := Lib.hid hat
  have HLn := Lib.hid hln
  clear h hi hat hS hW2 hB2 hln h1
  go_enter Tryz.func102, Tryz.ntmps102
  go_wp2_with fail
  refine (CU.out _).mono ?_
  rintro e w1 ⟨rfl, hw⟩
  rw [hw, h8z]
  clear hw w1
  go_wp2_with fail
  refine CM.out.mono ?_
  rintro e w1 ⟨rfl, hw⟩
  subst hw
  go_wp2_with fail
  clear hsc hsz
  have hsz2 : w.heap.size + 2 = w.heap.size + 1 + 1 := rfl
  generalize (w.alloc (.cells S 157)).alloc (.cells S 157) = w2 at *
  have CH : Hid (∀ x : UInt8, Calls Tryz.prog 139 #[.pointer (some ⟨w.heap.size + 1, 0, none⟩), .int .u8 x.toNat] w2 fun e w' => e = .returned (.bool (amL.contains x)) ∧ w' = w2) := Lib.hid fun x => setHas_c (w.heap.size + 1) x _ w2 (by rw [cell_of _ H2.out.1]; exact HA.out x)
  go_loopg [62] n (fun g i wr => ∃ t : Nat, i = .int .i64 (t : Int) ∧ t ≤ n ∧ Hid (g + t = n) ∧ wr = w2 ∧ Hid (Lib.NoAny l amL t))
  case atStart => exact ⟨0, rfl, Nat.zero_le _, Lib.hid (by omega), rfl, Lib.hid (Lib.NoAny.zero _ _)⟩
  case round =>
    obtain ⟨t, rfl, ht, hg, rfl, HN⟩ := hrel
    by_cases htn : t < n
    · have hti : (t : Int) < (n : Int) := by omega
      obtain ⟨b, o, c, rfl, hbB, hc, hcell⟩ := (HB.out.below H2.out.2).cell htn
      have HC := Lib.hid hc
      have CH1 := Lib.hid (CH.out c)
      clear hc
      cases hq : amL.contains c with
      | true =>
        have HI := Lib.hid (Lib.indexAny_hit HN.out HC.out hq)
        rw [hq] at CH1
        go_wp2_with fail
        refine CH1.out.mono ?_
        rintro e w3 ⟨rfl, rfl⟩
        go_wp2
        go_ret
        rw [HI.out]
        exact ⟨rfl, H2.out.2⟩
      | false =>
        have HN2 := Lib.hid (HN.out.succ HC.out hq)
        rw [hq] at CH1
        go_wp2_with fail
        refine CH1.out.mono ?_
        rintro e w3 ⟨rfl, rfl⟩
        go_wp2
        go_roundg (n - (t + 1))
        case measure => have := hg.out; omega
        case rel => exact ⟨t + 1, by go_num, by omega, Lib.hid (by omega), rfl, HN2⟩
    · have hti : ¬ (t : Int) < (n : Int) := by omega
      have HI : Hid (Lib.indexAny l amL = -1) := Lib.hid (Lib.indexAny_none (by have := HN.out; rwa [show t = l.length by rw [HLn.out]; omega] at this))
      go_wp2
      go_ret
      rw [HI.out]
      exact ⟨rfl, H2.out.2⟩
end Go.Proofs.YtmclngahdklfkaaGreatDoor
