/- Texts of ours, joined: Tok4c. -/
import Derived.Test.YtmclngahdklfkaaGreatDoorRows
import Derived.WalkKit
import Derived.ProofKit
import Derived.OpenShut
import Derived.ShutString
import Derived.ChangeOld
import Derived.Below
import Derived.BigQuiet
import Derived.Deep.QuietTactic
import Derived.Lib.Hide
import Derived.Deep.RegionHeld3
import Derived.Lib.SlBytesConst
import Derived.Laws.CopyOwn
import Derived.Laws.CopyRow
import Derived.Lib.Bytes
import Derived.Deep.LoopGhost
import Derived.Deep.DeepFit
import Derived.Deep.DeepMust
import Derived.WalkSpells
import Derived.WalkLawsBesides
import Derived.Maps.OwnOps
import Derived.Maps.OwnSet
import Derived.Maps.Views
import Derived.Laws.EntriesVeiled
import Derived.Laws.Rows
import Derived.Maps.AppendAt
import Derived.Lib.SmallJoins
import Derived.Test.YtmclngahdklfkaaGreatDoorQ1
import Derived.Test.YtmclngahdklfkaaGreatDoorQ6
import Derived.Test.YtmclngahdklfkaaGreatDoorQ2
import Derived.Test.YtmclngahdklfkaaGreatDoorQ4
import Derived.Test.YtmclngahdklfkaaGreatDoorQ5
import Derived.Test.YtmclngahdklfkaaGreatDoorQ8
import Derived.Test.YtmclngahdklfkaaGreatDoorQ9
import Derived.Test.YtmclngahdklfkaaGreatDoorQ10
import Derived.Test.YtmclngahdklfkaaGreatDoorQ11
import Derived.Test.YtmclngahdklfkaaGreatDoorQ12
import Derived.Test.YtmclngahdklfkaaGreatDoorQ13
import Derived.Test.YtmclngahdklfkaaGreatDoorQ14
import Derived.Test.YtmclngahdklfkaaGreatDoorQ15
import Derived.Test.YtmclngahdklfkaaGreatDoorQ16
import Derived.Test.YtmclngahdklfkaaGreatDoorQ17
import Derived.Test.YtmclngahdklfkaaGreatDoorQ18
import Derived.Test.YtmclngahdklfkaaGreatDoorQ7
/- narthexref11.Next, at a text. -/
namespace Go.Proofs.YtmclngahdklfkaaGreatDoor
open Go.ChangeShapes Go.WideShapes Go.ChangeAt Go.RowKit
set_option linter.unusedVariables false
theorem txt_in : ∀ (s : List UInt8) (j : Nat), j < (txt s).length → ∀ c, s[j]? = some c → c ≠ 60 ∧ c ≠ 38
  | [], j, h, c, hc => by simp at hc
  | a :: s, j, h, c, hc => by
    cases ha : inTx a with
    | false => rw [txt_stop ha] at h; cases h
    | true =>
      rw [txt_cons ha] at h
      cases j with
      | zero =>
        simp at hc
        subst hc
        unfold inTx at ha
        simpa using ha
      | succ j => exact txt_in s j (by simpa using h) c (by simpa using hc)
theorem txt_end : ∀ (s : List UInt8) c, s[(txt s).length]? = some c → c = 60 ∨ c = 38
  | [], c, hc => by simp at hc
  | a :: s, c, hc => by
    cases ha : inTx a with
    | false =>
      rw [txt_stop ha] at hc
      simp at hc
      subst hc
      unfold inTx at ha
      rw [Bool.not_eq_false'] at ha
      simpa using ha
    | true =>
      rw [txt_cons ha] at hc
      exact txt_end s c (by simpa using hc)
theorem contains_findI (s p : List UInt8) : Lib.contains s p = decide (0 ≤ findI s 0 p) := by
  unfold findI Lib.contains
  rw [List.drop_zero]
  by_cases h : Lib.index s p < 0
  · rw [if_pos h, decide_eq_false (by omega)]
    rfl
  · rw [if_neg h, decide_eq_true (by omega), decide_eq_true (by omega)]
set_option maxRecDepth 100000 in
set_option maxHeartbeats 8000000 in
theorem refNext_text (A : Option Addr) (n cap : Nat) (l : List UInt8) (k : Nat) (w : World) (h : Byt w w.heap.size A n cap l) (hm : n ≤ 40000) (hk : k < n) (h0 : [60, 33, 45, 45].isPrefixOf (l.drop k) = false) (h1 : [60, 33, 91, 67, 68, 65, 84, 65, 91].isPrefixOf (l.drop k) = false) (h2 : [60, 63].isPrefixOf (l.drop k) = false) (h3 : [60, 47].isPrefixOf (l.drop k) = false) (h4 : [60].isPrefixOf (l.drop k) = false) (h5 : [38, 35].isPrefixOf (l.drop k) = false) (h6 : [38].isPrefixOf (l.drop k) = false) :
    Calls Tryz.prog 11 #[.slice A n cap, .int .i64 (k : Int)] w fun e w' => TokPost (nextOut l k) w e w' := by
  have hln := h.length
  have HK : Hid (∀ W rs vs, RN w W rs vs → Byt W W.heap.size A n cap l) := Lib.hid fun W rs vs hJ => (h.below hJ.below).more hJ.below.size
  obtain ⟨bb, oo, c, hA, hbB, hc, _⟩ := h.cell hk
  have HC : Hid (∀ W rs vs, RN w W rs vs → W.cell? ⟨bb, oo + k, none⟩ = some (.int .u8 c.toNat)) := Lib.hid fun W rs vs hJ => by
    obtain ⟨b2, o2, c2, e2, _, hc2, hz⟩ := (h.below hJ.below).cell hk
    rw [hA] at e2
    cases e2
    rw [hc] at hc2
    cases hc2
    exact hz
  have c0 : (0 : Int) ≤ (c.toNat : Int) := by omega
  have c9 : (c.toNat : Int) ≤ 255 := by have := c.toNat_lt; omega
  have S0 : Hid (∀ W rs vs, RN w W rs vs → Calls Tryz.prog 30 #[.slice A n cap, .int .i64 (k : Int), .string ⟨#[60, 33, 45, 45]⟩] W fun e w' => e = .returned (.bool false) ∧ W = w') := Lib.hid fun W rs vs hJ => by
    have := refAt8_c A n cap l k [60, 33, 45, 45] W.heap.size W (HK.out W rs vs hJ) (by simp) (by omega) (by decide) (by omega)
    rwa [h0] at this
  have S1 : Hid (∀ W rs vs, RN w W rs vs → Calls Tryz.prog 30 #[.slice A n cap, .int .i64 (k : Int), .string ⟨#[60, 33, 91, 67, 68, 65, 84, 65, 91]⟩] W fun e w' => e = .returned (.bool false) ∧ W = w') := Lib.hid fun W rs vs hJ => by
    have := refAt8_c A n cap l k [60, 33, 91, 67, 68, 65, 84, 65, 91] W.heap.size W (HK.out W rs vs hJ) (by simp) (by omega) (by decide) (by omega)
    rwa [h1] at this
  have S2 : Hid (∀ W rs vs, RN w W rs vs → Calls Tryz.prog 30 #[.slice A n cap, .int .i64 (k : Int), .string ⟨#[60, 63]⟩] W fun e w' => e = .returned (.bool false) ∧ W = w') := Lib.hid fun W rs vs hJ => by
    have := refAt8_c A n cap l k [60, 63] W.heap.size W (HK.out W rs vs hJ) (by simp) (by omega) (by decide) (by omega)
    rwa [h2] at this
  have S3 : Hid (∀ W rs vs, RN w W rs vs → Calls Tryz.prog 30 #[.slice A n cap, .int .i64 (k : Int), .string ⟨#[60, 47]⟩] W fun e w' => e = .returned (.bool false) ∧ W = w') := Lib.hid fun W rs vs hJ => by
    have := refAt8_c A n cap l k [60, 47] W.heap.size W (HK.out W rs vs hJ) (by simp) (by omega) (by decide) (by omega)
    rwa [h3] at this
  have b60 : ((c.toNat : Int) == 60) = false := by
    rw [pre_one, hc] at h4
    have : c ≠ 60 := by simpa using h4
    have h' : c.toNat ≠ 60 := fun e => this (UInt8.toNat_inj.1 e)
    simp; omega
  have S5 : Hid (∀ W rs vs, RN w W rs vs → Calls Tryz.prog 30 #[.slice A n cap, .int .i64 (k : Int), .string ⟨#[38, 35]⟩] W fun e w' => e = .returned (.bool false) ∧ W = w') := Lib.hid fun W rs vs hJ => by
    have := refAt8_c A n cap l k [38, 35] W.heap.size W (HK.out W rs vs hJ) (by simp) (by omega) (by decide) (by omega)
    rwa [h5] at this
  have b38 : ((c.toNat : Int) == 38) = false := by
    rw [pre_one, hc] at h6
    have : c ≠ 38 := by simpa using h6
    have h' : c.toNat ≠ 38 := fun e => this (UInt8.toNat_inj.1 e)
    simp; omega
  have J0 := Lib.hid (RN.start k w)
  have hi : (Tryz.prog.info? 30).map (·.size) = some 7 := by kernel_rfl
  obtain ⟨sd, hu⟩ := isStruct_of (P := Tryz.prog) (t := 30) (by kernel_rfl)
  have HU := Lib.hid (And.intro hi hu)
  have hk0 : ¬ (k : Int) < 0 := by omega
  have hk1 : ¬ (n : Int) < (k : Int) := by omega
  have hk2 : ((k : Int) == (n : Int)) = false := by simp; omega
  have hk3 : (k : Int) < (n : Int) := by omega
  have hk4 : (k : Int) ≤ 40000 := by omega
  have hld : (l.drop k).length = n - k := by rw [List.length_drop, hln]
  have htl := txt_le (l.drop k)
  rw [hld] at htl
  have hpre : txt (l.drop k) = (l.drop k).take (txt (l.drop k)).length := List.prefix_iff_eq_take.1 (List.takeWhile_prefix _)
  have HTG : Hid (∀ t, k ≤ t → t < k + (txt (l.drop k)).length → ∀ c, l[t]? = some c → c ≠ 60 ∧ c ≠ 38) := Lib.hid fun t h1 h2 c hc => txt_in (l.drop k) (t - k) (by omega) c (by rw [List.getElem?_drop, show k + (t - k) = t by omega]; exact hc)
  have HTE : Hid (∀ c, l[k + (txt (l.drop k)).length]? = some c → c = 60 ∨ c = 38) := Lib.hid fun c hc => txt_end (l.drop k) c (by rw [List.getElem?_drop]; exact hc)
  have HST : Hid (∀ W rs vs, RN w W rs vs → (convert 22 9 (.slice (cutA A cap k) (txt (l.drop k)).length (cap - k))).run Tryz.prog W = .ok (.string ⟨(txt (l.drop k)).toArray⟩) W) := Lib.hid fun W rs vs hJ => by
    have := (((HK.out W rs vs hJ).drop (k := k) (by omega)).take (k := (txt (l.drop k)).length) (by omega)).str
    rwa [← hpre] at this
  have CF : Hid (∀ W rs vs, RN w W rs vs → Calls Tryz.prog 38 #[.slice (cutA A cap k) (txt (l.drop k)).length (cap - k), .int .i64 0, .string ⟨#[93, 93, 62]⟩] W fun e w' => e = .returned (.int .i64 (findI (txt (l.drop k)) 0 [93, 93, 62])) ∧ W = w') := Lib.hid fun W rs vs hJ => by
    have hb := ((HK.out W rs vs hJ).drop (k := k) (by omega)).take (k := (txt (l.drop k)).length) (by omega)
    rw [← hpre] at hb
    exact refFind_c _ _ _ _ 0 [93, 93, 62] _ W hb (by simp) (by omega) (by decide) (by omega)
  have hcap := h.le
  have HFT := Lib.hid fun W : World => run_fromTo (w := W) A n cap k (k + (txt (l.drop k)).length) (by omega) (by omega)
  have hR : nextOut l k = (if (readTok l k).2 = 0 then ({ (readTok l k).1 with fro := (k : Int) }, 0) else (noTok, (readTok l k).2)) := rfl
  have hRT : readTok l k = textTok l k := by
    unfold readTok
    rw [if_neg (by rw [h0]; simp), if_neg (by rw [h1]; simp), if_neg (by rw [h2]; simp), if_neg (by rw [h3]; simp), if_neg (by rw [h4]; simp), if_neg (by rw [h5]; simp), if_neg (by rw [h6]; simp)]
  rw [hR, hRT]
  clear hR hRT
  unfold textTok
  rw [contains_findI]
  have HKC : Hid (∀ W rs vs, RN w W rs vs → ∀ t, t < n → ∃ c, l[t]? = some c ∧ W.cell? ⟨bb, oo + t, none⟩ = some (.int .u8 c.toNat)) := Lib.hid fun W rs vs hJ t ht => by
    obtain ⟨b2, o2, c2, e2, _, hc2, hz⟩ := (HK.out W rs vs hJ).cell ht
    rw [hA] at e2
    cases e2
    exact ⟨c2, hc2, hz⟩
  generalize txt (l.drop k) = s at *
  have hsl : (s.length : Int) ≤ 40000 := by omega
  have HFT2 := HFT.out
  rw [show ((k + s.length : Nat) : Int) = (k : Int) + (s.length : Int) by omega, show k + s.length - k = s.length by omega] at HFT2
  rw [show ((k + s.length : Nat) : Int) = (k : Int) + (s.length : Int) by omega]
  generalize findI s 0 [93, 93, 62] = fi at *
  have htl2 := Lib.hid htl
  by_cases hfi : 0 ≤ fi
  · simp only [decide_eq_true hfi, if_true]
    rw [if_neg (by decide)]
    clear h hln HK hi hu hbB hc hld hpre HFT htl h0 h1 h2 h3 h4 h5 h6
    subst hA
    go_enter Tryz.func11, Tryz.ntmps11
    have zc := HC.out _ _ _ J0.out
    go_wp2_with fail
    refine (S0.out _ _ _ J0.out).mono ?_
    rintro e wq ⟨rfl, rfl⟩
    go_wp2_with fail
    refine (S1.out _ _ _ J0.out).mono ?_
    rintro e wq ⟨rfl, rfl⟩
    go_wp2_with fail
    refine (S2.out _ _ _ J0.out).mono ?_
    rintro e wq ⟨rfl, rfl⟩
    go_wp2_with fail
    refine (S3.out _ _ _ J0.out).mono ?_
    rintro e wq ⟨rfl, rfl⟩
    go_wp2_with fail
    refine (S5.out _ _ _ J0.out).mono ?_
    rintro e wq ⟨rfl, rfl⟩
    go_wp2_with fail
    have HJ0 := Lib.hid J0.out
    generalize hv : ((w.alloc (.cells #[.int .i64 0, .int .i64 0, .int .i64 0, .string ⟨#[]⟩, .string ⟨#[]⟩, .slice none 0 0, .int .i64 0] 30)).alloc (.cells #[.int .i64 0, .int .i64 (k : Int), .int .i64 0, .string ⟨#[]⟩, .string ⟨#[]⟩, .slice none 0 0, .int .i64 0] 30)) = v0 at *
    have J := Lib.hid J0.out
    clear hv zc J0
    have z0 := cell_of 0 J.out.tok
    have y0 := free_of 0 J.out.tok
    have z4 := cell_of 4 J.out.tok
    have y4 := free_of 4 J.out.tok
    have z2 := cell_of 2 J.out.tok
    have y2 := free_of 2 J.out.tok
    go_loopg [11] (n - k) (fun g i wr => ∃ t : Nat, i = .int .i64 (t : Int) ∧ k ≤ t ∧ t ≤ k + s.length ∧ Hid (g + t = n) ∧ wr = v0)
    case atStart => exact ⟨k, rfl, Nat.le_refl _, Nat.le_add_right _ _, Lib.hid (by omega), rfl⟩
    case round =>
      obtain ⟨t, rfl, hkt, ht, hg, rfl⟩ := hrel
      have htl := htl2.out
      have ht0 : (0 : Int) ≤ (t : Int) := by omega
      have ht9 : (t : Int) ≤ 40000 := by omega
      by_cases htn : t < n
      · have htni : (t : Int) < (n : Int) := by omega
        obtain ⟨c2, hc2, hz⟩ := HKC.out _ _ _ J.out t htn
        have d0 : (0 : Int) ≤ (c2.toNat : Int) := by omega
        have d9 : (c2.toNat : Int) ≤ 255 := by have := c2.toNat_lt; omega
        by_cases hlt : t < k + s.length
        · obtain ⟨n60, n38⟩ := HTG.out t hkt hlt c2 hc2
          have b60 : ((c2.toNat : Int) == 60) = false := by
            have : c2.toNat ≠ 60 := fun e => n60 (UInt8.toNat_inj.1 e)
            simp; omega
          have b38 : ((c2.toNat : Int) == 38) = false := by
            have : c2.toNat ≠ 38 := fun e => n38 (UInt8.toNat_inj.1 e)
            simp; omega
          have m60 : ((c2.toNat : Int) != 60) = true := by simpa using b60
          have m38 : ((c2.toNat : Int) != 38) = true := by simpa using b38
          clear hc2 n60 n38 htl
          go_wp2
          go_roundg (n - (t + 1))
          case measure => have := hg.out; omega
          case rel => exact ⟨t + 1, by go_num, by omega, by omega, Lib.hid (by have := hg.out; omega), rfl⟩
        · obtain rfl : t = k + s.length := by omega
          rw [show ((k + s.length : Nat) : Int) = (k : Int) + (s.length : Int) by omega] at *
          have hcc := HTE.out c2 hc2
          clear hc2 htl hlt HTG HTE HKC
          rcases hcc with rfl | rfl
          · have hsv := HST.out wr _ _ J.out
            have hsd := HST.out wr.drew _ _ (J.out.drewN 1)
            have hse := HST.out (wr.setCell ⟨w.heap.size + 1, 0, none⟩ (.int .i64 1)).drew _ _ ((J.out.set 0 (.int .i64 1)).drewN 1)
            have KU : Hid (RN w (((wr.setCell ⟨w.heap.size + 1, 0, none⟩ (.int .i64 1)).setCell ⟨w.heap.size + 1, 4, none⟩ (.string ⟨s.toArray⟩)).setCell ⟨w.heap.size + 1, 2, none⟩ (.int .i64 ((k : Int) + (s.length : Int)))).drew #[.int .i64 0, .int .i64 0, .int .i64 0, .string ⟨#[]⟩, .string ⟨#[]⟩, .slice none 0 0, .int .i64 0] #[.int .i64 1, .int .i64 (k : Int), .int .i64 ((k : Int) + (s.length : Int)), .string ⟨#[]⟩, .string ⟨s.toArray⟩, .slice none 0 0, .int .i64 0]) := Lib.hid ((((J.out.set 0 (.int .i64 1)).set 4 (.string ⟨s.toArray⟩)).set 2 (.int .i64 ((k : Int) + (s.length : Int)))).drewN 1)
            go_wp2_with fail
            go_region
            clear z0 y0 z4 y4 z2 y2 hsv hsd hse
            generalize (((wr.setCell ⟨w.heap.size + 1, 0, none⟩ (.int .i64 1)).setCell ⟨w.heap.size + 1, 4, none⟩ (.string ⟨s.toArray⟩)).setCell ⟨w.heap.size + 1, 2, none⟩ (.int .i64 ((k : Int) + (s.length : Int)))).drew = U at *
            go_wp2_with fail
            refine (CF.out _ _ _ KU.out).mono ?_
            rintro e0 wq ⟨rfl, hwq⟩
            subst hwq
            have JF := Lib.hid (KU.out.row #[.int .i64 0, .int .i64 0, .int .i64 0, .string ⟨#[]⟩, .string ⟨#[]⟩, .slice none 0 0, .int .i64 0])
            go_wp2_with (refine wpList_store_row rfl _ _ _ rfl w.heap.size #[.int .i64 0, .int .i64 0, .int .i64 0, .string ⟨#[]⟩, .string ⟨#[]⟩, .slice none 0 0, .int .i64 0] rfl rfl _ _ KU.out.res (by kernel_rfl) rfl (by kernel_rfl) ?_)
            (try simp only [Exit.inBlock, Exit.then])
            exact bodyPost_ret (results_cell2 rfl _ _ w.heap.size _ _ _ _ rfl JF.out.res HU.out.2 rfl HU.out.1) rfl (TokPost.no rfl JF.out.below)
          · have hsv := HST.out wr _ _ J.out
            have hsd := HST.out wr.drew _ _ (J.out.drewN 1)
            have hse := HST.out (wr.setCell ⟨w.heap.size + 1, 0, none⟩ (.int .i64 1)).drew _ _ ((J.out.set 0 (.int .i64 1)).drewN 1)
            have KU : Hid (RN w (((wr.setCell ⟨w.heap.size + 1, 0, none⟩ (.int .i64 1)).setCell ⟨w.heap.size + 1, 4, none⟩ (.string ⟨s.toArray⟩)).setCell ⟨w.heap.size + 1, 2, none⟩ (.int .i64 ((k : Int) + (s.length : Int)))).drew #[.int .i64 0, .int .i64 0, .int .i64 0, .string ⟨#[]⟩, .string ⟨#[]⟩, .slice none 0 0, .int .i64 0] #[.int .i64 1, .int .i64 (k : Int), .int .i64 ((k : Int) + (s.length : Int)), .string ⟨#[]⟩, .string ⟨s.toArray⟩, .slice none 0 0, .int .i64 0]) := Lib.hid ((((J.out.set 0 (.int .i64 1)).set 4 (.string ⟨s.toArray⟩)).set 2 (.int .i64 ((k : Int) + (s.length : Int)))).drewN 1)
            go_wp2_with fail
            go_region
            clear z0 y0 z4 y4 z2 y2 hsv hsd hse
            generalize (((wr.setCell ⟨w.heap.size + 1, 0, none⟩ (.int .i64 1)).setCell ⟨w.heap.size + 1, 4, none⟩ (.string ⟨s.toArray⟩)).setCell ⟨w.heap.size + 1, 2, none⟩ (.int .i64 ((k : Int) + (s.length : Int)))).drew = U at *
            go_wp2_with fail
            refine (CF.out _ _ _ KU.out).mono ?_
            rintro e0 wq ⟨rfl, hwq⟩
            subst hwq
            have JF := Lib.hid (KU.out.row #[.int .i64 0, .int .i64 0, .int .i64 0, .string ⟨#[]⟩, .string ⟨#[]⟩, .slice none 0 0, .int .i64 0])
            go_wp2_with (refine wpList_store_row rfl _ _ _ rfl w.heap.size #[.int .i64 0, .int .i64 0, .int .i64 0, .string ⟨#[]⟩, .string ⟨#[]⟩, .slice none 0 0, .int .i64 0] rfl rfl _ _ KU.out.res (by kernel_rfl) rfl (by kernel_rfl) ?_)
            (try simp only [Exit.inBlock, Exit.then])
            exact bodyPost_ret (results_cell2 rfl _ _ w.heap.size _ _ _ _ rfl JF.out.res HU.out.2 rfl HU.out.1) rfl (TokPost.no rfl JF.out.below)
      · obtain rfl : t = k + s.length := by have := hg.out; omega
        rw [show ((k + s.length : Nat) : Int) = (k : Int) + (s.length : Int) by omega] at *
        have htni : ¬ (k : Int) + (s.length : Int) < (n : Int) := by omega
        clear htl HTG HTE HKC
        have hsv := HST.out wr _ _ J.out
        have hsd := HST.out wr.drew _ _ (J.out.drewN 1)
        have hse := HST.out (wr.setCell ⟨w.heap.size + 1, 0, none⟩ (.int .i64 1)).drew _ _ ((J.out.set 0 (.int .i64 1)).drewN 1)
        have KU : Hid (RN w (((wr.setCell ⟨w.heap.size + 1, 0, none⟩ (.int .i64 1)).setCell ⟨w.heap.size + 1, 4, none⟩ (.string ⟨s.toArray⟩)).setCell ⟨w.heap.size + 1, 2, none⟩ (.int .i64 ((k : Int) + (s.length : Int)))).drew #[.int .i64 0, .int .i64 0, .int .i64 0, .string ⟨#[]⟩, .string ⟨#[]⟩, .slice none 0 0, .int .i64 0] #[.int .i64 1, .int .i64 (k : Int), .int .i64 ((k : Int) + (s.length : Int)), .string ⟨#[]⟩, .string ⟨s.toArray⟩, .slice none 0 0, .int .i64 0]) := Lib.hid ((((J.out.set 0 (.int .i64 1)).set 4 (.string ⟨s.toArray⟩)).set 2 (.int .i64 ((k : Int) + (s.length : Int)))).drewN 1)
        go_wp2_with fail
        go_region
        clear z0 y0 z4 y4 z2 y2 hsv hsd hse
        generalize (((wr.setCell ⟨w.heap.size + 1, 0, none⟩ (.int .i64 1)).setCell ⟨w.heap.size + 1, 4, none⟩ (.string ⟨s.toArray⟩)).setCell ⟨w.heap.size + 1, 2, none⟩ (.int .i64 ((k : Int) + (s.length : Int)))).drew = U at *
        go_wp2_with fail
        refine (CF.out _ _ _ KU.out).mono ?_
        rintro e0 wq ⟨rfl, hwq⟩
        subst hwq
        have JF := Lib.hid (KU.out.row #[.int .i64 0, .int .i64 0, .int .i64 0, .string ⟨#[]⟩, .string ⟨#[]⟩, .slice none 0 0, .int .i64 0])
        go_wp2_with (refine wpList_store_row rfl _ _ _ rfl w.heap.size #[.int .i64 0, .int .i64 0, .int .i64 0, .string ⟨#[]⟩, .string ⟨#[]⟩, .slice none 0 0, .int .i64 0] rfl rfl _ _ KU.out.res (by kernel_rfl) rfl (by kernel_rfl) ?_)
        (try simp only [Exit.inBlock, Exit.then])
        exact bodyPost_ret (results_cell2 rfl _ _ w.heap.size _ _ _ _ rfl JF.out.res HU.out.2 rfl HU.out.1) rfl (TokPost.no rfl JF.out.below)
  · simp only [decide_eq_false hfi, Bool.false_eq_true, if_false, if_true]
    clear h hln HK hi hu hbB hc hld hpre HFT htl h0 h1 h2 h3 h4 h5 h6
    subst hA
    go_enter Tryz.func11, Tryz.ntmps11
    have zc := HC.out _ _ _ J0.out
    go_wp2_with fail
    refine (S0.out _ _ _ J0.out).mono ?_
    rintro e wq ⟨rfl, rfl⟩
    go_wp2_with fail
    refine (S1.out _ _ _ J0.out).mono ?_
    rintro e wq ⟨rfl, rfl⟩
    go_wp2_with fail
    refine (S2.out _ _ _ J0.out).mono ?_
    rintro e wq ⟨rfl, rfl⟩
    go_wp2_with fail
    refine (S3.out _ _ _ J0.out).mono ?_
    rintro e wq ⟨rfl, rfl⟩
    go_wp2_with fail
    refine (S5.out _ _ _ J0.out).mono ?_
    rintro e wq ⟨rfl, rfl⟩
    go_wp2_with fail
    have HJ0 := Lib.hid J0.out
    generalize hv : ((w.alloc (.cells #[.int .i64 0, .int .i64 0, .int .i64 0, .string ⟨#[]⟩, .string ⟨#[]⟩, .slice none 0 0, .int .i64 0] 30)).alloc (.cells #[.int .i64 0, .int .i64 (k : Int), .int .i64 0, .string ⟨#[]⟩, .string ⟨#[]⟩, .slice none 0 0, .int .i64 0] 30)) = v0 at *
    have J := Lib.hid J0.out
    clear hv zc J0
    have z0 := cell_of 0 J.out.tok
    have y0 := free_of 0 J.out.tok
    have z4 := cell_of 4 J.out.tok
    have y4 := free_of 4 J.out.tok
    have z2 := cell_of 2 J.out.tok
    have y2 := free_of 2 J.out.tok
    go_loopg [11] (n - k) (fun g i wr => ∃ t : Nat, i = .int .i64 (t : Int) ∧ k ≤ t ∧ t ≤ k + s.length ∧ Hid (g + t = n) ∧ wr = v0)
    case atStart => exact ⟨k, rfl, Nat.le_refl _, Nat.le_add_right _ _, Lib.hid (by omega), rfl⟩
    case round =>
      obtain ⟨t, rfl, hkt, ht, hg, rfl⟩ := hrel
      have htl := htl2.out
      have ht0 : (0 : Int) ≤ (t : Int) := by omega
      have ht9 : (t : Int) ≤ 40000 := by omega
      by_cases htn : t < n
      · have htni : (t : Int) < (n : Int) := by omega
        obtain ⟨c2, hc2, hz⟩ := HKC.out _ _ _ J.out t htn
        have d0 : (0 : Int) ≤ (c2.toNat : Int) := by omega
        have d9 : (c2.toNat : Int) ≤ 255 := by have := c2.toNat_lt; omega
        by_cases hlt : t < k + s.length
        · obtain ⟨n60, n38⟩ := HTG.out t hkt hlt c2 hc2
          have b60 : ((c2.toNat : Int) == 60) = false := by
            have : c2.toNat ≠ 60 := fun e => n60 (UInt8.toNat_inj.1 e)
            simp; omega
          have b38 : ((c2.toNat : Int) == 38) = false := by
            have : c2.toNat ≠ 38 := fun e => n38 (UInt8.toNat_inj.1 e)
            simp; omega
          have m60 : ((c2.toNat : Int) != 60) = true := by simpa using b60
          have m38 : ((c2.toNat : Int) != 38) = true := by simpa using b38
          clear hc2 n60 n38 htl
          go_wp2
          go_roundg (n - (t + 1))
          case measure => have := hg.out; omega
          case rel => exact ⟨t + 1, by go_num, by omega, by omega, Lib.hid (by have := hg.out; omega), rfl⟩
        · obtain rfl : t = k + s.length := by omega
          rw [show ((k + s.length : Nat) : Int) = (k : Int) + (s.length : Int) by omega] at *
          have hcc := HTE.out c2 hc2
          clear hc2 htl hlt HTG HTE HKC
          rcases hcc with rfl | rfl
          · have hsv := HST.out wr _ _ J.out
            have hsd := HST.out wr.drew _ _ (J.out.drewN 1)
            have hse := HST.out (wr.setCell ⟨w.heap.size + 1, 0, none⟩ (.int .i64 1)).drew _ _ ((J.out.set 0 (.int .i64 1)).drewN 1)
            have KU : Hid (RN w (((wr.setCell ⟨w.heap.size + 1, 0, none⟩ (.int .i64 1)).setCell ⟨w.heap.size + 1, 4, none⟩ (.string ⟨s.toArray⟩)).setCell ⟨w.heap.size + 1, 2, none⟩ (.int .i64 ((k : Int) + (s.length : Int)))).drew #[.int .i64 0, .int .i64 0, .int .i64 0, .string ⟨#[]⟩, .string ⟨#[]⟩, .slice none 0 0, .int .i64 0] #[.int .i64 1, .int .i64 (k : Int), .int .i64 ((k : Int) + (s.length : Int)), .string ⟨#[]⟩, .string ⟨s.toArray⟩, .slice none 0 0, .int .i64 0]) := Lib.hid ((((J.out.set 0 (.int .i64 1)).set 4 (.string ⟨s.toArray⟩)).set 2 (.int .i64 ((k : Int) + (s.length : Int)))).drewN 1)
            go_wp2_with fail
            go_region
            clear z0 y0 z4 y4 z2 y2 hsv hsd hse
            generalize (((wr.setCell ⟨w.heap.size + 1, 0, none⟩ (.int .i64 1)).setCell ⟨w.heap.size + 1, 4, none⟩ (.string ⟨s.toArray⟩)).setCell ⟨w.heap.size + 1, 2, none⟩ (.int .i64 ((k : Int) + (s.length : Int)))).drew = U at *
            go_wp2_with fail
            refine (CF.out _ _ _ KU.out).mono ?_
            rintro e0 wq ⟨rfl, hwq⟩
            subst hwq
            have JF := Lib.hid (KU.out.row #[.int .i64 1, .int .i64 (k : Int), .int .i64 ((k : Int) + (s.length : Int)), .string ⟨#[]⟩, .string ⟨s.toArray⟩, .slice none 0 0, .int .i64 0])
            go_wp2_with (first | (refine wpList_load_row rfl _ _ rfl (w.heap.size + 1) rfl _ _ _ _ KU.out.tok HU.out.2 rfl HU.out.1 ?_) | (refine wpList_store_row rfl _ _ _ rfl w.heap.size #[.int .i64 1, .int .i64 (k : Int), .int .i64 ((k : Int) + (s.length : Int)), .string ⟨#[]⟩, .string ⟨s.toArray⟩, .slice none 0 0, .int .i64 0] rfl rfl _ _ KU.out.res (by kernel_rfl) rfl (by kernel_rfl) ?_))
            (try simp only [Exit.inBlock, Exit.then])
            exact bodyPost_ret (results_cell2 rfl _ _ w.heap.size _ _ _ _ rfl JF.out.res HU.out.2 rfl HU.out.1) rfl (TokPost.of none 0 0 rfl (PRd.nilR _ _) JF.out.below fun b i h => by cases h)
          · have hsv := HST.out wr _ _ J.out
            have hsd := HST.out wr.drew _ _ (J.out.drewN 1)
            have hse := HST.out (wr.setCell ⟨w.heap.size + 1, 0, none⟩ (.int .i64 1)).drew _ _ ((J.out.set 0 (.int .i64 1)).drewN 1)
            have KU : Hid (RN w (((wr.setCell ⟨w.heap.size + 1, 0, none⟩ (.int .i64 1)).setCell ⟨w.heap.size + 1, 4, none⟩ (.string ⟨s.toArray⟩)).setCell ⟨w.heap.size + 1, 2, none⟩ (.int .i64 ((k : Int) + (s.length : Int)))).drew #[.int .i64 0, .int .i64 0, .int .i64 0, .string ⟨#[]⟩, .string ⟨#[]⟩, .slice none 0 0, .int .i64 0] #[.int .i64 1, .int .i64 (k : Int), .int .i64 ((k : Int) + (s.length : Int)), .string ⟨#[]⟩, .string ⟨s.toArray⟩, .slice none 0 0, .int .i64 0]) := Lib.hid ((((J.out.set 0 (.int .i64 1)).set 4 (.string ⟨s.toArray⟩)).set 2 (.int .i64 ((k : Int) + (s.length : Int)))).drewN 1)
            go_wp2_with fail
            go_region
            clear z0 y0 z4 y4 z2 y2 hsv hsd hse
            generalize (((wr.setCell ⟨w.heap.size + 1, 0, none⟩ (.int .i64 1)).setCell ⟨w.heap.size + 1, 4, none⟩ (.string ⟨s.toArray⟩)).setCell ⟨w.heap.size + 1, 2, none⟩ (.int .i64 ((k : Int) + (s.length : Int)))).drew = U at *
            go_wp2_with fail
            refine (CF.out _ _ _ KU.out).mono ?_
            rintro e0 wq ⟨rfl, hwq⟩
            subst hwq
            have JF := Lib.hid (KU.out.row #[.int .i64 1, .int .i64 (k : Int), .int .i64 ((k : Int) + (s.length : Int)), .string ⟨#[]⟩, .string ⟨s.toArray⟩, .slice none 0 0, .int .i64 0])
            go_wp2_with (first | (refine wpList_load_row rfl _ _ rfl (w.heap.size + 1) rfl _ _ _ _ KU.out.tok HU.out.2 rfl HU.out.1 ?_) | (refine wpList_store_row rfl _ _ _ rfl w.heap.size #[.int .i64 1, .int .i64 (k : Int), .int .i64 ((k : Int) + (s.length : Int)), .string ⟨#[]⟩, .string ⟨s.toArray⟩, .slice none 0 0, .int .i64 0] rfl rfl _ _ KU.out.res (by kernel_rfl) rfl (by kernel_rfl) ?_))
            (try simp only [Exit.inBlock, Exit.then])
            exact bodyPost_ret (results_cell2 rfl _ _ w.heap.size _ _ _ _ rfl JF.out.res HU.out.2 rfl HU.out.1) rfl (TokPost.of none 0 0 rfl (PRd.nilR _ _) JF.out.below fun b i h => by cases h)
      · obtain rfl : t = k + s.length := by have := hg.out; omega
        rw [show ((k + s.length : Nat) : Int) = (k : Int) + (s.length : Int) by omega] at *
        have htni : ¬ (k : Int) + (s.length : Int) < (n : Int) := by omega
        clear htl HTG HTE HKC
        have hsv := HST.out wr _ _ J.out
        have hsd := HST.out wr.drew _ _ (J.out.drewN 1)
        have hse := HST.out (wr.setCell ⟨w.heap.size + 1, 0, none⟩ (.int .i64 1)).drew _ _ ((J.out.set 0 (.int .i64 1)).drewN 1)
        have KU : Hid (RN w (((wr.setCell ⟨w.heap.size + 1, 0, none⟩ (.int .i64 1)).setCell ⟨w.heap.size + 1, 4, none⟩ (.string ⟨s.toArray⟩)).setCell ⟨w.heap.size + 1, 2, none⟩ (.int .i64 ((k : Int) + (s.length : Int)))).drew #[.int .i64 0, .int .i64 0, .int .i64 0, .string ⟨#[]⟩, .string ⟨#[]⟩, .slice none 0 0, .int .i64 0] #[.int .i64 1, .int .i64 (k : Int), .int .i64 ((k : Int) + (s.length : Int)), .string ⟨#[]⟩, .string ⟨s.toArray⟩, .slice none 0 0, .int .i64 0]) := Lib.hid ((((J.out.set 0 (.int .i64 1)).set 4 (.string ⟨s.toArray⟩)).set 2 (.int .i64 ((k : Int) + (s.length : Int)))).drewN 1)
        go_wp2_with fail
        go_region
        clear z0 y0 z4 y4 z2 y2 hsv hsd hse
        generalize (((wr.setCell ⟨w.heap.size + 1, 0, none⟩ (.int .i64 1)).setCell ⟨w.heap.size + 1, 4, none⟩ (.string ⟨s.toArray⟩)).setCell ⟨w.heap.size + 1, 2, none⟩ (.int .i64 ((k : Int) + (s.length : Int)))).drew = U at *
        go_wp2_with fail
        refine (CF.out _ _ _ KU.out).mono ?_
        rintro e0 wq ⟨rfl, hwq⟩
        subst hwq
        have JF := Lib.hid (KU.out.row #[.int .i64 1, .int .i64 (k : Int), .int .i64 ((k : Int) + (s.length : Int)), .string ⟨#[]⟩, .string ⟨s.toArray⟩, .slice none 0 0, .int .i64 0])
        go_wp2_with (first | (refine wpList_load_row rfl _ _ rfl (w.heap.size + 1) rfl _ _ _ _ KU.out.tok HU.out.2 rfl HU.out.1 ?_) | (refine wpList_store_row rfl _ _ _ rfl w.heap.size #[.int .i64 1, .int .i64 (k : Int), .int .i64 ((k : Int) + (s.length : Int)), .string ⟨#[]⟩, .string ⟨s.toArray⟩, .slice none 0 0, .int .i64 0] rfl rfl _ _ KU.out.res (by kernel_rfl) rfl (by kernel_rfl) ?_))
        (try simp only [Exit.inBlock, Exit.then])
        exact bodyPost_ret (results_cell2 rfl _ _ w.heap.size _ _ _ _ rfl JF.out.res HU.out.2 rfl HU.out.1) rfl (TokPost.of none 0 0 rfl (PRd.nilR _ _) JF.out.below fun b i h => by cases h)

end Go.Proofs.YtmclngahdklfkaaGreatDoor
