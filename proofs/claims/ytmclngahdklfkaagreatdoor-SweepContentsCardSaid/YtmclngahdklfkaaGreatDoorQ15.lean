/- Texts of ours, joined: Tok4c, Tok4d, Tok5, Tok6, Tok2. -/
import Derived.Test.YtmclngahdklfkaaGreatDoorRows
import Derived.WalkKit
import Derived.ProofKit
import Derived.OpenShut
import Derived.ShutString
import Derived.ChangeOld
import Derived.Below
import Derived.BigQuiet
import Derived.Deep.QuietTactic
import Derived.Lib.Hide
import Derived.Deep.RegionHeld3
import Derived.Lib.SlBytesConst
import Derived.Laws.CopyOwn
import Derived.Laws.CopyRow
import Derived.Lib.Bytes
import Derived.Deep.LoopGhost
import Derived.Deep.DeepFit
import Derived.Deep.DeepMust
import Derived.WalkSpells
import Derived.WalkLawsBesides
import Derived.Maps.OwnOps
import Derived.Maps.OwnSet
import Derived.Maps.Views
import Derived.Laws.EntriesVeiled
import Derived.Laws.Rows
import Derived.Maps.AppendAt
import Derived.Lib.SmallJoins
import Derived.Test.YtmclngahdklfkaaGreatDoorQ1
import Derived.Test.YtmclngahdklfkaaGreatDoorQ7
import Derived.Test.YtmclngahdklfkaaGreatDoorQ3
import Derived.Test.YtmclngahdklfkaaGreatDoorQ2
import Derived.Test.YtmclngahdklfkaaGreatDoorQ5
import Derived.Test.YtmclngahdklfkaaGreatDoorQ6
import Derived.Test.YtmclngahdklfkaaGreatDoorQ8
import Derived.Test.YtmclngahdklfkaaGreatDoorQ9
import Derived.Test.YtmclngahdklfkaaGreatDoorQ10
import Derived.Test.YtmclngahdklfkaaGreatDoorQ11
import Derived.Test.YtmclngahdklfkaaGreatDoorQ12
import Derived.Test.YtmclngahdklfkaaGreatDoorQ13
import Derived.Test.YtmclngahdklfkaaGreatDoorQ14
/- narthexref11.Next, at a text. -/
namespace Go.Proofs.YtmclngahdklfkaaGreatDoor
open Go.ChangeShapes Go.WideShapes Go.ChangeAt Go.RowKit
set_option linter.unusedVariables false
theorem txt_in : ∀ (s : List UInt8) (j : Nat), j < (txt s).length → ∀ c, s[j]? = some c → c ≠ 60 ∧ c ≠ 38
  | [], j, h, c, hc => by simp at hc
  | a :: s, j, h, c, hc => by
    cases ha : inTx a with
    | false => rw [txt_stop ha] at h; cases h
    | true =>
      rw [txt_cons ha] at h
      cases j with
      | zero =>
        simp at hc
        subst hc
        unfold inTx at ha
        simpa using ha
      | succ j => exact txt_in s j (by simpa using h) c (by simpa using hc)
theorem txt_end : ∀ (s : List UInt8) c, s[(txt s).length]? = some c → c = 60 ∨ c = 38
  | [], c, hc => by simp at hc
  | a :: s, c, hc => by
    cases ha : inTx a with
    | false =>
      rw [txt_stop ha] at hc
      simp at hc
      subst hc
      unfold inTx at ha
      rw [Bool.not_eq_false'] at ha
      simpa using ha
    | true =>
      rw [txt_cons ha] at hc
      exact txt_end s c (by simpa using hc)
theorem contains_findI (s p : List UInt8) : Lib.contains s p = decide (0 ≤ findI s 0 p) := by
  unfold findI Lib.contains
  rw [List.drop_zero]
  by_cases h : Lib.index s p < 0
  · rw [if_pos h, decide_eq_false (by omega)]
    rfl
  · rw [if_neg h, decide_eq_true (by omega), decide_eq_true (by omega)]
set_option maxRecDepth 100000 in
set_option maxHeartbeats 8000000 in
theorem refNext_text (A : Option Addr) (n cap : Nat) (l : List UInt8) (k : Nat) (w : World) (h : Byt w w.heap.size A n cap l) (hm : n ≤ 40000) (hk : k < n) (h0 : [60, 33, 45, 45].isPrefixOf (l.drop k) = false) (h1 : [60, 33, 91, 67, 68, 65, 84, 65, 91].isPrefixOf (l.drop k) = false) (h2 : [60, 63].isPrefixOf (l.drop k) = false) (h3 : [60, 47].isPrefixOf (l.drop k) = false) (h4 : [60].isPrefixOf (l.drop k) = false) (h5 : [38, 35].isPrefixOf (l.drop k) = false) (h6 : [38].isPrefixOf (l.drop k) = false) :
    Calls Tryz.prog 11 #[.slice A n cap, .int .i64 (k : Int)] w fun e w' => TokPost (nextOut l k) w e w' := by
  have hln := h.length
  have HK : Hid (∀ W rs vs, RN w W rs vs → Byt W W.heap.size A n cap l) := Lib.hid fun W rs vs hJ => (h.below hJ.below).more hJ.below.size
  obtain ⟨bb, oo, c, hA, hbB, hc, _⟩ := h.cell hk
  have HC : Hid (∀ W rs vs, RN w W rs vs → W.cell? ⟨bb, oo + k, none⟩ = some (.int .u8 c.toNat)) := Lib.hid fun W rs vs hJ => by
    obtain ⟨b2, o2, c2, e2, _, hc2, hz⟩ := (h.below hJ.below).cell hk
    rw [hA] at e2
    cases e2
    rw [hc] at hc2
    cases hc2
    exact hz
  have c0 : (0 : Int) ≤ (c.toNat : Int) := by omega
  have c9 : (c.toNat : Int) ≤ 255 := by have := c.toNat_lt; omega
  have S0 : Hid (∀ W rs vs, RN w W rs vs → Calls Tryz.prog 30 #[.slice A n cap, .int .i64 (k : Int), .string ⟨#[60, 33, 45, 45]⟩] W fun e w' => e = .returned (.bool false) ∧ W = w') := Lib.hid fun W rs vs hJ => by
    have := refAt8_c A n cap l k [60, 33, 45, 45] W.heap.size W (HK.out W rs vs hJ) (by simp) (by omega) (by decide) (by omega)
    rwa [h0] at this
  have S1 : Hid (∀ W rs vs, RN w W rs vs → Calls Tryz.prog 30 #[.slice A n cap, .int .i64 (k : Int), .string ⟨#[60, 33, 91, 67, 68, 65, 84, 65, 91]⟩] W fun e w' => e = .returned (.bool false) ∧ W = w') := Lib.hid fun W rs vs hJ => by
    have := refAt8_c A n cap l k [60, 33, 91, 67, 68, 65, 84, 65, 91] W.heap.size W (HK.out W rs vs hJ) (by simp) (by omega) (by decide) (by omega)
    rwa [h1] at this
  have S2 : Hid (∀ W rs vs, RN w W rs vs → Calls Tryz.prog 30 #[.slice A n cap, .int .i64 (k : Int), .string ⟨#[60, 63]⟩] W fun e w' => e = .returned (.bool false) ∧ W = w') := Lib.hid fun W rs vs hJ => by
    have := refAt8_c A n cap l k [60, 63] W.heap.size W (HK.out W rs vs hJ) (by simp) (by omega) (by decide) (by omega)
    rwa [h2] at this
  have S3 : Hid (∀ W rs vs, RN w W rs vs → Calls Tryz.prog 30 #[.slice A n cap, .int .i64 (k : Int), .string ⟨#[60, 47]⟩] W fun e w' => e = .returned (.bool false) ∧ W = w') := Lib.hid fun W rs vs hJ => by
    have := refAt8_c A n cap l k [60, 47] W.heap.size W (HK.out W rs vs hJ) (by simp) (by omega) (by decide) (by omega)
    rwa [h3] at this
  have b60 : ((c.toNat : Int) == 60) = false := by
    rw [pre_one, hc] at h4
    have : c ≠ 60 := by simpa using h4
    have h' : c.toNat ≠ 60 := fun e => this (UInt8.toNat_inj.1 e)
    simp; omega
  have S5 : Hid (∀ W rs vs, RN w W rs vs → Calls Tryz.prog 30 #[.slice A n cap, .int .i64 (k : Int), .string ⟨#[38, 35]⟩] W fun e w' => e = .returned (.bool false) ∧ W = w') := Lib.hid fun W rs vs hJ => by
    have := refAt8_c A n cap l k [38, 35] W.heap.size W (HK.out W rs vs hJ) (by simp) (by omega) (by decide) (by omega)
    rwa [h5] at this
  have b38 : ((c.toNat : Int) == 38) = false := by
    rw [pre_one, hc] at h6
    have : c ≠ 38 := by simpa using h6
    have h' : c.toNat ≠ 38 := fun e => this (UInt8.toNat_inj.1 e)
    simp; omega
  have J0 := Lib.hid (RN.start k w)
  have hi : (Tryz.prog.info? 30).map (·.size) = some 7 := by kernel_rfl
  obtain ⟨sd, hu⟩ := isStruct_of (P := Tryz.prog) (t := 30) (by kernel_rfl)
  have HU := Lib.hid (And.intro hi hu)
  have hk0 : ¬ (k : Int) < 0 := by omega
  have hk1 : ¬ (n : Int) < (k : Int) := by omega
  have hk2 : ((k : Int) == (n : Int)) = false := by simp; omega
  have hk3 : (k : Int) < (n : Int) := by omega
  have hk4 : (k : Int) ≤ 40000 := by omega
  have hld : (l.drop k).length = n - k := by rw [List.length_drop, hln]
  have htl := txt_le (l.drop k)
  rw [hld] at htl
  have hpre : txt (l.drop k) = (l.drop k).take (txt (l.drop k)).length := List.prefix_iff_eq_take.1 (List.takeWhile_prefix _)
  have HTG : Hid (∀ t, k ≤ t → t < k + (txt (l.drop k)).length → ∀ c, l[t]? = some c → c ≠ 60 ∧ c ≠ 38) := Lib.hid fun t h1 h2 c hc => txt_in (l.drop k) (t - k) (by omega) c (by rw [List.getElem?_drop, show k + (t - k) = t by omega]; exact hc)
  have HTE : Hid (∀ c, l[k + (txt (l.drop k)).length]? = some c → c = 60 ∨ c = 38) := Lib.hid fun c hc => txt_end (l.drop k) c (by rw [List.getElem?_drop]; exact hc)
  have HST : Hid (∀ W rs vs, RN w W rs vs → (convert 22 9 (.slice (cutA A cap k) (txt (l.drop k)).length (cap - k))).run Tryz.prog W = .ok (.string ⟨(txt (l.drop k)).toArray⟩) W) := Lib.hid fun W rs vs hJ => by
    have := (((HK.out W rs vs hJ).drop (k := k) (by omega)).take (k := (txt (l.drop k)).length) (by omega)).str
    rwa [← hpre] at this
  have CF : Hid (∀ W rs vs, RN w W rs vs → Calls Tryz.prog 38 #[.slice (cutA A cap k) (txt (l.drop k)).length (cap - k), .int .i64 0, .string ⟨#[93, 93, 62]⟩] W fun e w' => e = .returned (.int .i64 (findI (txt (l.drop k)) 0 [93, 93, 62])) ∧ W = w') := Lib.hid fun W rs vs hJ => by
    have hb := ((HK.out W rs vs hJ).drop (k := k) (by omega)).take (k := (txt (l.drop k)).length) (by omega)
    rw [← hpre] at hb
    exact refFind_c _ _ _ _ 0 [93, 93, 62] _ W hb (by simp) (by omega) (by decide) (by omega)
  have hcap := h.le
  have HFT := Lib.hid fun W : World => run_fromTo (w := W) A n cap k (k + (txt (l.drop k)).length) (by omega) (by omega)
  have hR : nextOut l k = (if (readTok l k).2 = 0 then ({ (readTok l k).1 with fro := (k : Int) }, 0) else (noTok, (readTok l k).2)) := rfl
  have hRT : readTok l k = textTok l k := by
    unfold readTok
    rw [if_neg (by rw [h0]; simp), if_neg (by rw [h1]; simp), if_neg (by rw [h2]; simp), if_neg (by rw [h3]; simp), if_neg (by rw [h4]; simp), if_neg (by rw [h5]; simp), if_neg (by rw [h6]; simp)]
  rw [hR, hRT]
  clear hR hRT
  unfold textTok
  rw [contains_findI]
  have HKC : Hid (∀ W rs vs, RN w W rs vs → ∀ t, t < n → ∃ c, l[t]? = some c ∧ W.cell? ⟨bb, oo + t, none⟩ = some (.int .u8 c.toNat)) := Lib.hid fun W rs vs hJ t ht => by
    obtain ⟨b2, o2, c2, e2, _, hc2, hz⟩ := (HK.out W rs vs hJ).cell ht
    rw [hA] at e2
    cases e2
    exact ⟨c2, hc2, hz⟩
  generalize txt (l.drop k) = s at *
  have hsl : (s.length : Int) ≤ 40000 := by omega
  have HFT2 := HFT.out
  rw [show ((k + s.length : Nat) : Int) = (k : Int) + (s.length : Int) by omega, show k + s.length - k = s.length by omega] at HFT2
  rw [show ((k + s.length : Nat) : Int) = (k : Int) + (s.length : Int) by omega]
  generalize findI s 0 [93, 93, 62] = fi at *
  have htl2 := Lib.hid htl
  by_cases hfi : 0 ≤ fi
  · simp only [decide_eq_true hfi, if_true]
    rw [if_neg (by decide)]
    clear h hln HK hi hu hbB hc hld hpre HFT htl h0 h1 h2 h3 h4 h5 h6
    subst hA
    go_enter Tryz.func11, Tryz.ntmps11
    have zc := HC.out _ _ _ J0.out
    go_wp2_with fail
    refine (S0.out _ _ _ J0.out).mono ?_
    rintro e wq ⟨rfl, rfl⟩
    go_wp2_with fail
    refine (S1.out _ _ _ J0.out).mono ?_
    rintro e wq ⟨rfl, rfl⟩
    go_wp2_with fail
    refine (S2.out _ _ _ J0.out).mono ?_
    rintro e wq ⟨rfl, rfl⟩
    go_wp2_with fail
    refine (S3.out _ _ _ J0.out).mono ?_
    rintro e wq ⟨rfl, rfl⟩
    go_wp2_with fail
    refine (S5.out _ _ _ J0.out).mono ?_
    rintro e wq ⟨rfl, rfl⟩
    go_wp2_with fail
    have HJ0 := Lib.hid J0.out
    generalize hv : ((w.alloc (.cells #[.int .i64 0, .int .i64 0, .int .i64 0, .string ⟨#[]⟩, .string ⟨#[]⟩, .slice none 0 0, .int .i64 0] 30)).alloc (.cells #[.int .i64 0, .int .i64 (k : Int), .int .i64 0, .string ⟨#[]⟩, .string ⟨#[]⟩, .slice none 0 0, .int .i64 0] 30)) = v0 at *
    have J := Lib.hid J0.out
    clear hv zc J0
    have z0 := cell_of 0 J.out.tok
    have y0 := free_of 0 J.out.tok
    have z4 := cell_of 4 J.out.tok
    have y4 := free_of 4 J.out.tok
    have z2 := cell_of 2 J.out.tok
    have y2 := free_of 2 J.out.tok
    go_loopg [11] (n - k) (fun g i wr => ∃ t : Nat, i = .int .i64 (t : Int) ∧ k ≤ t ∧ t ≤ k + s.length ∧ Hid (g + t = n) ∧ wr = v0)
    case atStart => exact ⟨k, rfl, Nat.le_refl _, Nat.le_add_right _ _, Lib.hid (by omega), rfl⟩
    case round =>
      obtain ⟨t, rfl, hkt, ht, hg, rfl⟩ := hrel
      have htl := htl2.out
      have ht0 : (0 : Int) ≤ (t : Int) := by omega
      have ht9 : (t : Int) ≤ 40000 := by omega
      by_cases htn : t < n
      · have htni : (t : Int) < (n : Int) := by omega
        obtain ⟨c2, hc2, hz⟩ := HKC.out _ _ _ J.out t htn
        have d0 : (0 : Int) ≤ (c2.toNat : Int) := by omega
        have d9 : (c2.toNat : Int) ≤ 255 := by have := c2.toNat_lt; omega
        by_cases hlt : t < k + s.length
        · obtain ⟨n60, n38⟩ := HTG.out t hkt hlt c2 hc2
          have b60 : ((c2.toNat : Int) == 60) = false := by
            have : c2.toNat ≠ 60 := fun e => n60 (UInt8.toNat_inj.1 e)
            simp; omega
          have b38 : ((c2.toNat : Int) == 38) = false := by
            have : c2.toNat ≠ 38 := fun e => n38 (UInt8.toNat_inj.1 e)
            simp; omega
          have m60 : ((c2.toNat : Int) != 60) = true := by simpa using b60
          have m38 : ((c2.toNat : Int) != 38) = true := by simpa using b38
          clear hc2 n60 n38 htl
          go_wp2
          go_roundg (n - (t + 1))
          case measure => have := hg.out; omega
          case rel => exact ⟨t + 1, by go_num, by omega, by omega, Lib.hid (by have := hg.out; omega), rfl⟩
        · obtain rfl : t = k + s.length := by omega
          rw [show ((k + s.length : Nat) : Int) = (k : Int) + (s.length : Int) by omega] at *
          have hcc := HTE.out c2 hc2
          clear hc2 htl hlt HTG HTE HKC
          rcases hcc with rfl | rfl
          · have hsv := HST.out wr _ _ J.out
            have hsd := HST.out wr.drew _ _ (J.out.drewN 1)
            have hse := HST.out (wr.setCell ⟨w.heap.size + 1, 0, none⟩ (.int .i64 1)).drew _ _ ((J.out.set 0 (.int .i64 1)).drewN 1)
            have KU : Hid (RN w (((wr.setCell ⟨w.heap.size + 1, 0, none⟩ (.int .i64 1)).setCell ⟨w.heap.size + 1, 4, none⟩ (.string ⟨s.toArray⟩)).setCell ⟨w.heap.size + 1, 2, none⟩ (.int .i64 ((k : Int) + (s.length : Int)))).drew #[.int .i64 0, .int .i64 0, .int .i64 0, .string ⟨#[]⟩, .string ⟨#[]⟩, .slice none 0 0, .int .i64 0] #[.int .i64 1, .int .i64 (k : Int), .int .i64 ((k : Int) + (s.length : Int)), .string ⟨#[]⟩, .string ⟨s.toArray⟩, .slice none 0 0, .int .i64 0]) := Lib.hid ((((J.out.set 0 (.int .i64 1)).set 4 (.string ⟨s.toArray⟩)).set 2 (.int .i64 ((k : Int) + (s.length : Int)))).drewN 1)
            go_wp2_with fail
            go_region
            clear z0 y0 z4 y4 z2 y2 hsv hsd hse
            generalize (((wr.setCell ⟨w.heap.size + 1, 0, none⟩ (.int .i64 1)).setCell ⟨w.heap.size + 1, 4, none⟩ (.string ⟨s.toArray⟩)).setCell ⟨w.heap.size + 1, 2, none⟩ (.int .i64 ((k : Int) + (s.length : Int)))).drew = U at *
            go_wp2_with fail
            refine (CF.out _ _ _ KU.out).mono ?_
            rintro e0 wq ⟨rfl, hwq⟩
            subst hwq
            have JF := Lib.hid (KU.out.row #[.int .i64 0, .int .i64 0, .int .i64 0, .string ⟨#[]⟩, .string ⟨#[]⟩, .slice none 0 0, .int .i64 0])
            go_wp2_with (refine wpList_store_row rfl _ _ _ rfl w.heap.size #[.int .i64 0, .int .i64 0, .int .i64 0, .string ⟨#[]⟩, .string ⟨#[]⟩, .slice none 0 0, .int .i64 0] rfl rfl _ _ KU.out.res (by kernel_rfl) rfl (by kernel_rfl) ?_)
            (try simp only [Exit.inBlock, Exit.then])
            exact bodyPost_ret (results_cell2 rfl _ _ w.heap.size _ _ _ _ rfl JF.out.res HU.out.2 rfl HU.out.1) rfl (TokPost.no rfl JF.out.below)
          · have hsv := HST.out wr _ _ J.out
            have hsd := HST.out wr.drew _ _ (J.out.drewN 1)
            have hse := HST.out (wr.setCell ⟨w.heap.size + 1, 0, none⟩ (.int .i64 1)).drew _ _ ((J.out.set 0 (.int .i64 1)).drewN 1)
            have KU : Hid (RN w (((wr.setCell ⟨w.heap.size + 1, 0, none⟩ (.int .i64 1)).setCell ⟨w.heap.size + 1, 4, none⟩ (.string ⟨s.toArray⟩)).setCell ⟨w.heap.size + 1, 2, none⟩ (.int .i64 ((k : Int) + (s.length : Int)))).drew #[.int .i64 0, .int .i64 0, .int .i64 0, .string ⟨#[]⟩, .string ⟨#[]⟩, .slice none 0 0, .int .i64 0] #[.int .i64 1, .int .i64 (k : Int), .int .i64 ((k : Int) + (s.length : Int)), .string ⟨#[]⟩, .string ⟨s.toArray⟩, .slice none 0 0, .int .i64 0]) := Lib.hid ((((J.out.set 0 (.int .i64 1)).set 4 (.string ⟨s.toArray⟩)).set 2 (.int .i64 ((k : Int) + (s.length : Int)))).drewN 1)
            go_wp2_with fail
            go_region
            clear z0 y0 z4 y4 z2 y2 hsv hsd hse
            generalize (((wr.setCell ⟨w.heap.size + 1, 0, none⟩ (.int .i64 1)).setCell ⟨w.heap.size + 1, 4, none⟩ (.string ⟨s.toArray⟩)).setCell ⟨w.heap.size + 1, 2, none⟩ (.int .i64 ((k : Int) + (s.length : Int)))).drew = U at *
            go_wp2_with fail
            refine (CF.out _ _ _ KU.out).mono ?_
            rintro e0 wq ⟨rfl, hwq⟩
            subst hwq
            have JF := Lib.hid (KU.out.row #[.int .i64 0, .int .i64 0, .int .i64 0, .string ⟨#[]⟩, .string ⟨#[]⟩, .slice none 0 0, .int .i64 0])
            go_wp2_with (refine wpList_store_row rfl _ _ _ rfl w.heap.size #[.int .i64 0, .int .i64 0, .int .i64 0, .string ⟨#[]⟩, .string ⟨#[]⟩, .slice none 0 0, .int .i64 0] rfl rfl _ _ KU.out.res (by kernel_rfl) rfl (by kernel_rfl) ?_)
            (try simp only [Exit.inBlock, Exit.then])
            exact bodyPost_ret (results_cell2 rfl _ _ w.heap.size _ _ _ _ rfl JF.out.res HU.out.2 rfl HU.out.1) rfl (TokPost.no rfl JF.out.below)
      · obtain rfl : t = k + s.length := by have := hg.out; omega
        rw [show ((k + s.length : Nat) : Int) = (k : Int) + (s.length : Int) by omega] at *
        have htni : ¬ (k : Int) + (s.length : Int) < (n : Int) := by omega
        clear htl HTG HTE HKC
        have hsv := HST.out wr _ _ J.out
        have hsd := HST.out wr.drew _ _ (J.out.drewN 1)
        have hse := HST.out (wr.setCell ⟨w.heap.size + 1, 0, none⟩ (.int .i64 1)).drew _ _ ((J.out.set 0 (.int .i64 1)).drewN 1)
        have KU : Hid (RN w (((wr.setCell ⟨w.heap.size + 1, 0, none⟩ (.int .i64 1)).setCell ⟨w.heap.size + 1, 4, none⟩ (.string ⟨s.toArray⟩)).setCell ⟨w.heap.size + 1, 2, none⟩ (.int .i64 ((k : Int) + (s.length : Int)))).drew #[.int .i64 0, .int .i64 0, .int .i64 0, .string ⟨#[]⟩, .string ⟨#[]⟩, .slice none 0 0, .int .i64 0] #[.int .i64 1, .int .i64 (k : Int), .int .i64 ((k : Int) + (s.length : Int)), .string ⟨#[]⟩, .string ⟨s.toArray⟩, .slice none 0 0, .int .i64 0]) := Lib.hid ((((J.out.set 0 (.int .i64 1)).set 4 (.string ⟨s.toArray⟩)).set 2 (.int .i64 ((k : Int) + (s.length : Int)))).drewN 1)
        go_wp2_with fail
        go_region
        clear z0 y0 z4 y4 z2 y2 hsv hsd hse
        generalize (((wr.setCell ⟨w.heap.size + 1, 0, none⟩ (.int .i64 1)).setCell ⟨w.heap.size + 1, 4, none⟩ (.string ⟨s.toArray⟩)).setCell ⟨w.heap.size + 1, 2, none⟩ (.int .i64 ((k : Int) + (s.length : Int)))).drew = U at *
        go_wp2_with fail
        refine (CF.out _ _ _ KU.out).mono ?_
        rintro e0 wq ⟨rfl, hwq⟩
        subst hwq
        have JF := Lib.hid (KU.out.row #[.int .i64 0, .int .i64 0, .int .i64 0, .string ⟨#[]⟩, .string ⟨#[]⟩, .slice none 0 0, .int .i64 0])
        go_wp2_with (refine wpList_store_row rfl _ _ _ rfl w.heap.size #[.int .i64 0, .int .i64 0, .int .i64 0, .string ⟨#[]⟩, .string ⟨#[]⟩, .slice none 0 0, .int .i64 0] rfl rfl _ _ KU.out.res (by kernel_rfl) rfl (by kernel_rfl) ?_)
        (try simp only [Exit.inBlock, Exit.then])
        exact bodyPost_ret (results_cell2 rfl _ _ w.heap.size _ _ _ _ rfl JF.out.res HU.out.2 rfl HU.out.1) rfl (TokPost.no rfl JF.out.below)
  · simp only [decide_eq_false hfi, Bool.false_eq_true, if_false, if_true]
    clear h hln HK hi hu hbB hc hld hpre HFT htl h0 h1 h2 h3 h4 h5 h6
    subst hA
    go_enter Tryz.func11, Tryz.ntmps11
    have zc := HC.out _ _ _ J0.out
    go_wp2_with fail
    refine (S0.out _ _ _ J0.out).mono ?_
    rintro e wq ⟨rfl, rfl⟩
    go_wp2_with fail
    refine (S1.out _ _ _ J0.out).mono ?_
    rintro e wq ⟨rfl, rfl⟩
    go_wp2_with fail
    refine (S2.out _ _ _ J0.out).mono ?_
    rintro e wq ⟨rfl, rfl⟩
    go_wp2_with fail
    refine (S3.out _ _ _ J0.out).mono ?_
    rintro e wq ⟨rfl, rfl⟩
    go_wp2_with fail
    refine (S5.out _ _ _ J0.out).mono ?_
    rintro e wq ⟨rfl, rfl⟩
    go_wp2_with fail
    have HJ0 := Lib.hid J0.out
    generalize hv : ((w.alloc (.cells #[.int .i64 0, .int .i64 0, .int .i64 0, .string ⟨#[]⟩, .string ⟨#[]⟩, .slice none 0 0, .int .i64 0] 30)).alloc (.cells #[.int .i64 0, .int .i64 (k : Int), .int .i64 0, .string ⟨#[]⟩, .string ⟨#[]⟩, .slice none 0 0, .int .i64 0] 30)) = v0 at *
    have J := Lib.hid J0.out
    clear hv zc J0
    have z0 := cell_of 0 J.out.tok
    have y0 := free_of 0 J.out.tok
    have z4 := cell_of 4 J.out.tok
    have y4 := free_of 4 J.out.tok
    have z2 := cell_of 2 J.out.tok
    have y2 := free_of 2 J.out.tok
    go_loopg [11] (n - k) (fun g i wr => ∃ t : Nat, i = .int .i64 (t : Int) ∧ k ≤ t ∧ t ≤ k + s.length ∧ Hid (g + t = n) ∧ wr = v0)
    case atStart => exact ⟨k, rfl, Nat.le_refl _, Nat.le_add_right _ _, Lib.hid (by omega), rfl⟩
    case round =>
      obtain ⟨t, rfl, hkt, ht, hg, rfl⟩ := hrel
      have htl := htl2.out
      have ht0 : (0 : Int) ≤ (t : Int) := by omega
      have ht9 : (t : Int) ≤ 40000 := by omega
      by_cases htn : t < n
      · have htni : (t : Int) < (n : Int) := by omega
        obtain ⟨c2, hc2, hz⟩ := HKC.out _ _ _ J.out t htn
        have d0 : (0 : Int) ≤ (c2.toNat : Int) := by omega
        have d9 : (c2.toNat : Int) ≤ 255 := by have := c2.toNat_lt; omega
        by_cases hlt : t < k + s.length
        · obtain ⟨n60, n38⟩ := HTG.out t hkt hlt c2 hc2
          have b60 : ((c2.toNat : Int) == 60) = false := by
            have : c2.toNat ≠ 60 := fun e => n60 (UInt8.toNat_inj.1 e)
            simp; omega
          have b38 : ((c2.toNat : Int) == 38) = false := by
            have : c2.toNat ≠ 38 := fun e => n38 (UInt8.toNat_inj.1 e)
            simp; omega
          have m60 : ((c2.toNat : Int) != 60) = true := by simpa using b60
          have m38 : ((c2.toNat : Int) != 38) = true := by simpa using b38
          clear hc2 n60 n38 htl
          go_wp2
          go_roundg (n - (t + 1))
          case measure => have := hg.out; omega
          case rel => exact ⟨t + 1, by go_num, by omega, by omega, Lib.hid (by have := hg.out; omega), rfl⟩
        · obtain rfl : t = k + s.length := by omega
          rw [show ((k + s.length : Nat) : Int) = (k : Int) + (s.length : Int) by omega] at *
          have hcc := HTE.out c2 hc2
          clear hc2 htl hlt HTG HTE HKC
          rcases hcc with rfl | rfl
          · have hsv := HST.out wr _ _ J.out
            have hsd := HST.out wr.drew _ _ (J.out.drewN 1)
            have hse := HST.out (wr.setCell ⟨w.heap.size + 1, 0, none⟩ (.int .i64 1)).drew _ _ ((J.out.set 0 (.int .i64 1)).drewN 1)
            have KU : Hid (RN w (((wr.setCell ⟨w.heap.size + 1, 0, none⟩ (.int .i64 1)).setCell ⟨w.heap.size + 1, 4, none⟩ (.string ⟨s.toArray⟩)).setCell ⟨w.heap.size + 1, 2, none⟩ (.int .i64 ((k : Int) + (s.length : Int)))).drew #[.int .i64 0, .int .i64 0, .int .i64 0, .string ⟨#[]⟩, .string ⟨#[]⟩, .slice none 0 0, .int .i64 0] #[.int .i64 1, .int .i64 (k : Int), .int .i64 ((k : Int) + (s.length : Int)), .string ⟨#[]⟩, .string ⟨s.toArray⟩, .slice none 0 0, .int .i64 0]) := Lib.hid ((((J.out.set 0 (.int .i64 1)).set 4 (.string ⟨s.toArray⟩)).set 2 (.int .i64 ((k : Int) + (s.length : Int)))).drewN 1)
            go_wp2_with fail
            go_region
            clear z0 y0 z4 y4 z2 y2 hsv hsd hse
            generalize (((wr.setCell ⟨w.heap.size + 1, 0, none⟩ (.int .i64 1)).setCell ⟨w.heap.size + 1, 4, none⟩ (.string ⟨s.toArray⟩)).setCell ⟨w.heap.size + 1, 2, none⟩ (.int .i64 ((k : Int) + (s.length : Int)))).drew = U at *
            go_wp2_with fail
            refine (CF.out _ _ _ KU.out).mono ?_
            rintro e0 wq ⟨rfl, hwq⟩
            subst hwq
            have JF := Lib.hid (KU.out.row #[.int .i64 1, .int .i64 (k : Int), .int .i64 ((k : Int) + (s.length : Int)), .string ⟨#[]⟩, .string ⟨s.toArray⟩, .slice none 0 0, .int .i64 0])
            go_wp2_with (first | (refine wpList_load_row rfl _ _ rfl (w.heap.size + 1) rfl _ _ _ _ KU.out.tok HU.out.2 rfl HU.out.1 ?_) | (refine wpList_store_row rfl _ _ _ rfl w.heap.size #[.int .i64 1, .int .i64 (k : Int), .int .i64 ((k : Int) + (s.length : Int)), .string ⟨#[]⟩, .string ⟨s.toArray⟩, .slice none 0 0, .int .i64 0] rfl rfl _ _ KU.out.res (by kernel_rfl) rfl (by kernel_rfl) ?_))
            (try simp only [Exit.inBlock, Exit.then])
            exact bodyPost_ret (results_cell2 rfl _ _ w.heap.size _ _ _ _ rfl JF.out.res HU.out.2 rfl HU.out.1) rfl (TokPost.of none 0 0 rfl (PRd.nilR _ _) JF.out.below fun b i h => by cases h)
          · have hsv := HST.out wr _ _ J.out
            have hsd := HST.out wr.drew _ _ (J.out.drewN 1)
            have hse := HST.out (wr.setCell ⟨w.heap.size + 1, 0, none⟩ (.int .i64 1)).drew _ _ ((J.out.set 0 (.int .i64 1)).drewN 1)
            have KU : Hid (RN w (((wr.setCell ⟨w.heap.size + 1, 0, none⟩ (.int .i64 1)).setCell ⟨w.heap.size + 1, 4, none⟩ (.string ⟨s.toArray⟩)).setCell ⟨w.heap.size + 1, 2, none⟩ (.int .i64 ((k : Int) + (s.length : Int)))).drew #[.int .i64 0, .int .i64 0, .int .i64 0, .string ⟨#[]⟩, .string ⟨#[]⟩, .slice none 0 0, .int .i64 0] #[.int .i64 1, .int .i64 (k : Int), .int .i64 ((k : Int) + (s.length : Int)), .string ⟨#[]⟩, .string ⟨s.toArray⟩, .slice none 0 0, .int .i64 0]) := Lib.hid ((((J.out.set 0 (.int .i64 1)).set 4 (.string ⟨s.toArray⟩)).set 2 (.int .i64 ((k : Int) + (s.length : Int)))).drewN 1)
            go_wp2_with fail
            go_region
            clear z0 y0 z4 y4 z2 y2 hsv hsd hse
            generalize (((wr.setCell ⟨w.heap.size + 1, 0, none⟩ (.int .i64 1)).setCell ⟨w.heap.size + 1, 4, none⟩ (.string ⟨s.toArray⟩)).setCell ⟨w.heap.size + 1, 2, none⟩ (.int .i64 ((k : Int) + (s.length : Int)))).drew = U at *
            go_wp2_with fail
            refine (CF.out _ _ _ KU.out).mono ?_
            rintro e0 wq ⟨rfl, hwq⟩
            subst hwq
            have JF := Lib.hid (KU.out.row #[.int .i64 1, .int .i64 (k : Int), .int .i64 ((k : Int) + (s.length : Int)), .string ⟨#[]⟩, .string ⟨s.toArray⟩, .slice none 0 0, .int .i64 0])
            go_wp2_with (first | (refine wpList_load_row rfl _ _ rfl (w.heap.size + 1) rfl _ _ _ _ KU.out.tok HU.out.2 rfl HU.out.1 ?_) | (refine wpList_store_row rfl _ _ _ rfl w.heap.size #[.int .i64 1, .int .i64 (k : Int), .int .i64 ((k : Int) + (s.length : Int)), .string ⟨#[]⟩, .string ⟨s.toArray⟩, .slice none 0 0, .int .i64 0] rfl rfl _ _ KU.out.res (by kernel_rfl) rfl (by kernel_rfl) ?_))
            (try simp only [Exit.inBlock, Exit.then])
            exact bodyPost_ret (results_cell2 rfl _ _ w.heap.size _ _ _ _ rfl JF.out.res HU.out.2 rfl HU.out.1) rfl (TokPost.of none 0 0 rfl (PRd.nilR _ _) JF.out.below fun b i h => by cases h)
      · obtain rfl : t = k + s.length := by have := hg.out; omega
        rw [show ((k + s.length : Nat) : Int) = (k : Int) + (s.length : Int) by omega] at *
        have htni : ¬ (k : Int) + (s.length : Int) < (n : Int) := by omega
        clear htl HTG HTE HKC
        have hsv := HST.out wr _ _ J.out
        have hsd := HST.out wr.drew _ _ (J.out.drewN 1)
        have hse := HST.out (wr.setCell ⟨w.heap.size + 1, 0, none⟩ (.int .i64 1)).drew _ _ ((J.out.set 0 (.int .i64 1)).drewN 1)
        have KU : Hid (RN w (((wr.setCell ⟨w.heap.size + 1, 0, none⟩ (.int .i64 1)).setCell ⟨w.heap.size + 1, 4, none⟩ (.string ⟨s.toArray⟩)).setCell ⟨w.heap.size + 1, 2, none⟩ (.int .i64 ((k : Int) + (s.length : Int)))).drew #[.int .i64 0, .int .i64 0, .int .i64 0, .string ⟨#[]⟩, .string ⟨#[]⟩, .slice none 0 0, .int .i64 0] #[.int .i64 1, .int .i64 (k : Int), .int .i64 ((k : Int) + (s.length : Int)), .string ⟨#[]⟩, .string ⟨s.toArray⟩, .slice none 0 0, .int .i64 0]) := Lib.hid ((((J.out.set 0 (.int .i64 1)).set 4 (.string ⟨s.toArray⟩)).set 2 (.int .i64 ((k : Int) + (s.length : Int)))).drewN 1)
        go_wp2_with fail
        go_region
        clear z0 y0 z4 y4 z2 y2 hsv hsd hse
        generalize (((wr.setCell ⟨w.heap.size + 1, 0, none⟩ (.int .i64 1)).setCell ⟨w.heap.size + 1, 4, none⟩ (.string ⟨s.toArray⟩)).setCell ⟨w.heap.size + 1, 2, none⟩ (.int .i64 ((k : Int) + (s.length : Int)))).drew = U at *
        go_wp2_with fail
        refine (CF.out _ _ _ KU.out).mono ?_
        rintro e0 wq ⟨rfl, hwq⟩
        subst hwq
        have JF := Lib.hid (KU.out.row #[.int .i64 1, .int .i64 (k : Int), .int .i64 ((k : Int) + (s.length : Int)), .string ⟨#[]⟩, .string ⟨s.toArray⟩, .slice none 0 0, .int .i64 0])
        go_wp2_with (first | (refine wpList_load_row rfl _ _ rfl (w.heap.size + 1) rfl _ _ _ _ KU.out.tok HU.out.2 rfl HU.out.1 ?_) | (refine wpList_store_row rfl _ _ _ rfl w.heap.size #[.int .i64 1, .int .i64 (k : Int), .int .i64 ((k : Int) + (s.length : Int)), .string ⟨#[]⟩, .string ⟨s.toArray⟩, .slice none 0 0, .int .i64 0] rfl rfl _ _ KU.out.res (by kernel_rfl) rfl (by kernel_rfl) ?_))
        (try simp only [Exit.inBlock, Exit.then])
        exact bodyPost_ret (results_cell2 rfl _ _ w.heap.size _ _ _ _ rfl JF.out.res HU.out.2 rfl HU.out.1) rfl (TokPost.of none 0 0 rfl (PRd.nilR _ _) JF.out.below fun b i h => by cases h)

end Go.Proofs.YtmclngahdklfkaaGreatDoor
/- narthexref11.Next, at any place. -/
namespace Go.Proofs.YtmclngahdklfkaaGreatDoor
open Go.ChangeShapes Go.WideShapes Go.ChangeAt Go.RowKit
set_option linter.unusedVariables false
set_option maxRecDepth 100000 in
set_option maxHeartbeats 4000000 in
theorem refNext_range (A : Option Addr) (n cap : Nat) (at_ : Int) (w : World) (ha : at_ < 0 ∨ (n : Int) < at_) :
    Calls Tryz.prog 11 #[.slice A n cap, .int .i64 at_] w fun e w' => TokPost (noTok, 3) w e w' := by
  have hJ := CJ.start 30 w #[.int .i64 0, .int .i64 0, .int .i64 0, .string ⟨#[]⟩, .string ⟨#[]⟩, .slice none 0 0, .int .i64 0]
  have hi : (Tryz.prog.info? 30).map (·.size) = some 7 := by kernel_rfl
  obtain ⟨sd, hu⟩ := isStruct_of (P := Tryz.prog) (t := 30) (by kernel_rfl)
  have HU := Lib.hid (And.intro hi hu)
  have J0 := Lib.hid hJ
  have JZ := Lib.hid (J0.out.row #[.int .i64 0, .int .i64 0, .int .i64 0, .string ⟨#[]⟩, .string ⟨#[]⟩, .slice none 0 0, .int .i64 0])
  clear hi hu hJ
  by_cases h0 : at_ < 0
  · have hd : decide (at_ < 0) = true := by simpa using h0
    clear ha
    go_enter Tryz.func11, Tryz.ntmps11
    go_wp2_with (refine wpList_store_row rfl _ _ _ rfl w.heap.size #[.int .i64 0, .int .i64 0, .int .i64 0, .string ⟨#[]⟩, .string ⟨#[]⟩, .slice none 0 0, .int .i64 0] rfl rfl _ _ J0.out.2 (by kernel_rfl) rfl (by kernel_rfl) ?_)
    (try simp only [Exit.inBlock, Exit.then])
    exact bodyPost_ret (results_cell2 rfl _ _ w.heap.size _ _ _ _ rfl JZ.out.2 HU.out.2 rfl HU.out.1) rfl (TokPost.no rfl JZ.out.1)
  · have h1 : (n : Int) < at_ := by omega
    clear ha
    go_enter Tryz.func11, Tryz.ntmps11
    go_wp2_with (refine wpList_store_row rfl _ _ _ rfl w.heap.size #[.int .i64 0, .int .i64 0, .int .i64 0, .string ⟨#[]⟩, .string ⟨#[]⟩, .slice none 0 0, .int .i64 0] rfl rfl _ _ J0.out.2 (by kernel_rfl) rfl (by kernel_rfl) ?_)
    (try simp only [Exit.inBlock, Exit.then])
    exact bodyPost_ret (results_cell2 rfl _ _ w.heap.size _ _ _ _ rfl JZ.out.2 HU.out.2 rfl HU.out.1) rfl (TokPost.no rfl JZ.out.1)
set_option maxRecDepth 100000 in
set_option maxHeartbeats 4000000 in
theorem refNext_end (A : Option Addr) (n cap : Nat) (w : World) (hm : n ≤ 40000) :
    Calls Tryz.prog 11 #[.slice A n cap, .int .i64 (n : Int)] w fun e w' => TokPost (noTok, 4) w e w' := by
  have hJ := CJ.start 30 w #[.int .i64 0, .int .i64 0, .int .i64 0, .string ⟨#[]⟩, .string ⟨#[]⟩, .slice none 0 0, .int .i64 0]
  have hi : (Tryz.prog.info? 30).map (·.size) = some 7 := by kernel_rfl
  obtain ⟨sd, hu⟩ := isStruct_of (P := Tryz.prog) (t := 30) (by kernel_rfl)
  have HU := Lib.hid (And.intro hi hu)
  have J0 := Lib.hid hJ
  have JZ := Lib.hid (J0.out.row #[.int .i64 0, .int .i64 0, .int .i64 0, .string ⟨#[]⟩, .string ⟨#[]⟩, .slice none 0 0, .int .i64 0])
  have hn0 : ¬ (n : Int) < 0 := by omega
  clear hi hu hJ
  go_enter Tryz.func11, Tryz.ntmps11
  go_wp2_with (refine wpList_store_row rfl _ _ _ rfl w.heap.size #[.int .i64 0, .int .i64 0, .int .i64 0, .string ⟨#[]⟩, .string ⟨#[]⟩, .slice none 0 0, .int .i64 0] rfl rfl _ _ J0.out.2 (by kernel_rfl) rfl (by kernel_rfl) ?_)
  (try simp only [Exit.inBlock, Exit.then])
  exact bodyPost_ret (results_cell2 rfl _ _ w.heap.size _ _ _ _ rfl JZ.out.2 HU.out.2 rfl HU.out.1) rfl (TokPost.no rfl JZ.out.1)
/-- narthexref11.Next at any place. -/
theorem refNext_c (A : Option Addr) (n cap : Nat) (l : List UInt8) (at_ : Int) (w : World) (h : Byt w w.heap.size A n cap l) (hm : n ≤ 40000) :
    Calls Tryz.prog 11 #[.slice A n cap, .int .i64 at_] w fun e w' => TokPost (nextAt l at_) w e w' := by
  have hln := h.length
  unfold nextAt
  rw [hln]
  by_cases ha : at_ < 0 ∨ (n : Int) < at_
  · rw [if_pos ha]; exact refNext_range A n cap at_ w ha
  · rw [if_neg ha]
    by_cases hn : at_ = (n : Int)
    · rw [if_pos hn, hn]; exact refNext_end A n cap w hm
    · rw [if_neg hn]
      obtain ⟨k, rfl⟩ : ∃ k : Nat, at_ = (k : Int) := ⟨at_.toNat, by omega⟩
      rw [Int.toNat_natCast]
      have hk : k < n := by omega
      cases h0 : [60, 33, 45, 45].isPrefixOf (l.drop k) with
      | true => exact refNext_comment A n cap l k w h hm hk h0
      | false =>
        cases h1 : [60, 33, 91, 67, 68, 65, 84, 65, 91].isPrefixOf (l.drop k) with
        | true => exact refNext_cdata A n cap l k w h hm hk h0 h1
        | false =>
          cases h2 : [60, 63].isPrefixOf (l.drop k) with
          | true => exact refNext_pi A n cap l k w h hm hk h0 h1 h2
          | false =>
            cases h3 : [60, 47].isPrefixOf (l.drop k) with
            | true => exact refNext_close A n cap l k w h hm hk h0 h1 h2 h3
            | false =>
              cases h4 : [60].isPrefixOf (l.drop k) with
              | true => exact refNext_open A n cap l k w h hm hk h0 h1 h2 h3 h4
              | false =>
                cases h5 : [38, 35].isPrefixOf (l.drop k) with
                | true => exact refNext_char A n cap l k w h hm hk h0 h1 h2 h3 h4 h5
                | false =>
                  cases h6 : [38].isPrefixOf (l.drop k) with
                  | true => exact refNext_ref A n cap l k w h hm hk h0 h1 h2 h3 h4 h5 h6
                  | false =>
                    exact refNext_text A n cap l k w h hm hk h0 h1 h2 h3 h4 h5 h6
end Go.Proofs.YtmclngahdklfkaaGreatDoor
/- Tokens turned to the document's; the same ones. -/
namespace Go.Proofs.YtmclngahdklfkaaGreatDoor
open Go.ChangeShapes Go.WideShapes Go.ChangeAt Go.RowKit
set_option linter.unusedVariables false
set_option maxRecDepth 100000 in
set_option maxHeartbeats 4000000 in
theorem same11_c (o : TokL) (A1 A2 : Option Addr) (n c1 c2 : Nat) (w : World) (h1 : PRd w w.heap.size A1 n c1 o.pairs) (h2 : PRd w w.heap.size A2 n c2 o.pairs) (hm : n ≤ 1000000) :
    Calls Tryz.prog 12 #[.agg #[.int .i64 o.kind, .int .i64 o.fro, .int .i64 o.to_, .string ⟨o.name.toArray⟩, .string ⟨o.text.toArray⟩, .slice A1 n c1, .int .i64 o.r], .agg #[.int .i64 o.kind, .int .i64 o.fro, .int .i64 o.to_, .string ⟨o.name.toArray⟩, .string ⟨o.text.toArray⟩, .slice A2 n c2, .int .i64 o.r]] w fun e w' => e = .returned (.bool true) ∧ Below w.heap.size w w' := by
  have hb := ((Below.refl w.heap.size w).alloc (Nat.le_refl _) (.cells #[.int .i64 o.kind, .int .i64 o.fro, .int .i64 o.to_, .string ⟨o.name.toArray⟩, .string ⟨o.text.toArray⟩, .slice A1 n c1, .int .i64 o.r] 30)).alloc (by simp) (.cells #[.int .i64 o.kind, .int .i64 o.fro, .int .i64 o.to_, .string ⟨o.name.toArray⟩, .string ⟨o.text.toArray⟩, .slice A2 n c2, .int .i64 o.r] 30)
  have HB := Lib.hid hb
  have CS := Lib.hid (same10_c A1 A2 n c1 c2 o.pairs _ ((h1.below hb).more hb.size) ((h2.below hb).more hb.size) hm)
  have q1 : ((w.alloc (.cells #[.int .i64 o.kind, .int .i64 o.fro, .int .i64 o.to_, .string ⟨o.name.toArray⟩, .string ⟨o.text.toArray⟩, .slice A1 n c1, .int .i64 o.r] 30)).alloc (.cells #[.int .i64 o.kind, .int .i64 o.fro, .int .i64 o.to_, .string ⟨o.name.toArray⟩, .string ⟨o.text.toArray⟩, .slice A2 n c2, .int .i64 o.r] 30)).heap[w.heap.size]? = some (.cells #[.int .i64 o.kind, .int .i64 o.fro, .int .i64 o.to_, .string ⟨o.name.toArray⟩, .string ⟨o.text.toArray⟩, .slice A1 n c1, .int .i64 o.r] 30) := by
    rw [Below.heap_alloc _ _ _ (by simp)]; exact hp_new _ _
  have q2 : ((w.alloc (.cells #[.int .i64 o.kind, .int .i64 o.fro, .int .i64 o.to_, .string ⟨o.name.toArray⟩, .string ⟨o.text.toArray⟩, .slice A1 n c1, .int .i64 o.r] 30)).alloc (.cells #[.int .i64 o.kind, .int .i64 o.fro, .int .i64 o.to_, .string ⟨o.name.toArray⟩, .string ⟨o.text.toArray⟩, .slice A2 n c2, .int .i64 o.r] 30)).heap[w.heap.size + 1]? = some (.cells #[.int .i64 o.kind, .int .i64 o.fro, .int .i64 o.to_, .string ⟨o.name.toArray⟩, .string ⟨o.text.toArray⟩, .slice A2 n c2, .int .i64 o.r] 30) := by
    have := hp_new (w.alloc (.cells #[.int .i64 o.kind, .int .i64 o.fro, .int .i64 o.to_, .string ⟨o.name.toArray⟩, .string ⟨o.text.toArray⟩, .slice A1 n c1, .int .i64 o.r] 30)) (.cells #[.int .i64 o.kind, .int .i64 o.fro, .int .i64 o.to_, .string ⟨o.name.toArray⟩, .string ⟨o.text.toArray⟩, .slice A2 n c2, .int .i64 o.r] 30)
    rwa [World.size_alloc] at this
  have x0 := cell_of 0 q1
  have y0 := cell_of 0 q2
  have x1 := cell_of 1 q1
  have y1 := cell_of 1 q2
  have x2 := cell_of 2 q1
  have y2 := cell_of 2 q2
  have x3 := cell_of 3 q1
  have y3 := cell_of 3 q2
  have x4 := cell_of 4 q1
  have y4 := cell_of 4 q2
  have x5 := cell_of 5 q1
  have y5 := cell_of 5 q2
  have x6 := cell_of 6 q1
  have y6 := cell_of 6 q2
  clear hb q1 q2 h1 h2
  go_enter Tryz.func12, Tryz.ntmps12
  go_wp2_with fail
  refine CS.out.mono ?_
  rintro e w1 ⟨rfl, hb⟩
  have B := Lib.hid (HB.out.trans (hb.mono HB.out.size))
  clear hb
  go_wp2
  go_ret
  exact ⟨rfl, B.out⟩
end Go.Proofs.YtmclngahdklfkaaGreatDoor
/- narthexref11.All. -/
namespace Go.Proofs.YtmclngahdklfkaaGreatDoor
open Go.ChangeShapes Go.WideShapes Go.ChangeAt Go.RowKit
set_option linter.unusedVariables false
/-- What the reading of tokens leaves: the row, the place reached, the error. -/
def AllPost (o : List TokL × Nat × Nat) (w : World) (e : Ending) (w' : World) : Prop :=
  ∃ A n c vs, e = .returned (.tuple #[.slice A n c, .int .i64 (o.2.1 : Int), .int .i64 (o.2.2 : Int)]) ∧ vs.map TokV.t = o.1 ∧ TRd w' w'.heap.size A n c vs ∧ Below w.heap.size w w'
theorem AllPost.bad {t x : Nat} {w w' : World} {e : Ending} (he : e = .returned (.tuple #[.slice none 0 0, .int .i64 (t : Int), .int .i64 (x : Int)])) (hb : Below w.heap.size w w') : AllPost ([], t, x) w e w' :=
  ⟨none, 0, 0, [], he, rfl, TRd.nilR _ _, hb⟩
theorem AllPost.good {T : TypeId} {w w' : World} {e : Ending} {vs : List TokV} {base t : Nat} {v : Value} (hG : GrowT T w w' base v vs) (he : e = .returned (.tuple #[v, .int .i64 (t : Int), .int .i64 0])) : AllPost (vs.map TokV.t, t, 0) w e w' := by
  obtain ⟨A, c, rfl, hr⟩ := TRd.ofOwn hG.own hG.prs
  exact ⟨A, vs.length, c, vs, he, rfl, hr, hG.below⟩
theorem nextAt_in (l : List UInt8) (t : Nat) (h : t < l.length) : nextAt l t = nextOut l t := by
  unfold nextAt
  rw [if_neg (by omega), if_neg (by omega), Int.toNat_natCast]
theorem GrowT.fresh {T : TypeId} {w wr : World} {base : Nat} {v : Value} {vs : List TokV} (h : GrowT T w wr base v vs) {b : Nat} (hb : wr.heap.size ≤ b) : some b ≠ v.ownBlock := fun e => by
  have := (ownBlock_lt h.own e.symm).1
  omega
theorem info_tok : ∃ i, Tryz.prog.info? 26 = some i ∧ i.zero = some (.agg #[.int .i64 0, .int .i64 0, .int .i64 0, .string ⟨#[]⟩, .string ⟨#[]⟩, .slice none 0 0, .int .i64 0]) ∧ i.size = 7 ∧ i.bytes = 88 := by
  obtain ⟨i, h1, h2, h3, h4⟩ := info_parts (show (Tryz.prog.info? 26).map (fun i => (i.zero, i.size, i.bytes)) = some (some (.agg #[.int .i64 0, .int .i64 0, .int .i64 0, .string ⟨#[]⟩, .string ⟨#[]⟩, .slice none 0 0, .int .i64 0]), 7, 88) by kernel_rfl)
  exact ⟨i, h1, h2, h3, h4⟩
theorem info_rtok : ∃ i, Tryz.prog.info? 30 = some i ∧ i.zero = some (.agg #[.int .i64 0, .int .i64 0, .int .i64 0, .string ⟨#[]⟩, .string ⟨#[]⟩, .slice none 0 0, .int .i64 0]) ∧ i.size = 7 ∧ i.bytes = 88 := by
  obtain ⟨i, h1, h2, h3, h4⟩ := info_parts (show (Tryz.prog.info? 30).map (fun i => (i.zero, i.size, i.bytes)) = some (some (.agg #[.int .i64 0, .int .i64 0, .int .i64 0, .string ⟨#[]⟩, .string ⟨#[]⟩, .slice none 0 0, .int .i64 0]), 7, 88) by kernel_rfl)
  exact ⟨i, h1, h2, h3, h4⟩
end Go.Proofs.YtmclngahdklfkaaGreatDoor
/- tok.read, arm by arm. -/
namespace Go.Proofs.YtmclngahdklfkaaGreatDoor
open Go.ChangeShapes Go.WideShapes Go.ChangeAt Go.RowKit
set_option linter.unusedVariables false
/-- While a token is read: the boxes of the bytes and of the place, the token's own block. -/
structure RJ (A : Option Addr) (n cap k : Nat) (w W : World) (rs : Array Value) : Prop where
  below : Below w.heap.size w W
  size : w.heap.size + 1 + 1 < W.heap.size
  bs : W.heap[w.heap.size]? = some (.cells #[.slice A n cap] 22)
  at_ : W.heap[w.heap.size + 1]? = some (.cells #[.int .i64 (k : Int)] 3)
  tok : W.heap[w.heap.size + 1 + 1]? = some (.cells rs 26)
theorem RJ.start (A : Option Addr) (n cap k : Nat) (w : World) : RJ A n cap k w (((w.alloc (.cells #[.slice A n cap] 22)).alloc (.cells #[.int .i64 (k : Int)] 3)).alloc (.cells #[.int .i64 0, .int .i64 0, .int .i64 0, .string ⟨#[]⟩, .string ⟨#[]⟩, .slice none 0 0, .int .i64 0] 26)) #[.int .i64 0, .int .i64 0, .int .i64 0, .string ⟨#[]⟩, .string ⟨#[]⟩, .slice none 0 0, .int .i64 0] := by
  have b1 := (Below.refl w.heap.size w).alloc (Nat.le_refl _) (.cells #[.slice A n cap] 22)
  have b2 := b1.alloc (by simp) (.cells #[.int .i64 (k : Int)] 3)
  refine ⟨b2.alloc (by simp; omega) (.cells #[.int .i64 0, .int .i64 0, .int .i64 0, .string ⟨#[]⟩, .string ⟨#[]⟩, .slice none 0 0, .int .i64 0] 26), by simp, ?_, ?_, ?_⟩
  · rw [Below.heap_alloc _ _ _ (by simp; omega), Below.heap_alloc _ _ _ (by simp)]; exact hp_new _ _
  · rw [Below.heap_alloc _ _ _ (by simp)]
    have := hp_new (w.alloc (.cells #[.slice A n cap] 22)) (.cells #[.int .i64 (k : Int)] 3)
    rwa [World.size_alloc] at this
  · have := hp_new ((w.alloc (.cells #[.slice A n cap] 22)).alloc (.cells #[.int .i64 (k : Int)] 3)) (.cells #[.int .i64 0, .int .i64 0, .int .i64 0, .string ⟨#[]⟩, .string ⟨#[]⟩, .slice none 0 0, .int .i64 0] 26)
    rwa [World.size_alloc, World.size_alloc] at this
theorem RJ.kept {A : Option Addr} {n cap k : Nat} {w W W' : World} {rs : Array Value} (h : RJ A n cap k w W rs) (hb : Below W.heap.size W W') : RJ A n cap k w W' rs :=
  ⟨h.below.trans (hb.mono h.below.size), by have := hb.size; have := h.size; omega, by rw [hb.block _ (by have := h.size; omega)]; exact h.bs, by rw [hb.block _ (by have := h.size; omega)]; exact h.at_, by rw [hb.block _ h.size]; exact h.tok⟩
theorem RJ.set {A : Option Addr} {n cap k : Nat} {w W : World} {rs : Array Value} (h : RJ A n cap k w W rs) (i : Nat) (v : Value) : RJ A n cap k w (W.setCell ⟨w.heap.size + 1 + 1, i, none⟩ v) (rs.setIfInBounds i v) :=
  ⟨h.below.setCell (p := ⟨w.heap.size + 1 + 1, i, none⟩) (by show w.heap.size ≤ w.heap.size + 1 + 1; omega) v, by simpa using h.size, by rw [hp_other (by omega)]; exact h.bs, by rw [hp_other (by omega)]; exact h.at_, hp_set h.tok⟩
theorem RJ.row {A : Option Addr} {n cap k : Nat} {w W : World} {rs : Array Value} (h : RJ A n cap k w W rs) (cs : Array Value) : RJ A n cap k w (W.setRow (w.heap.size + 1 + 1) cs) cs := by
  refine ⟨⟨h.below.os, h.below.tape, h.below.output, ?_, fun j hj => ?_⟩, ?_, ?_, ?_, setRow_heap _ _ _ _ _ _ h.tok⟩
  · have := h.below.size; simpa [World.setRow] using this
  · rw [setRow_other _ _ _ _ (by omega)]; exact h.below.block j hj
  · simpa [World.setRow] using h.size
  · rw [setRow_other _ _ _ _ (by omega)]; exact h.bs
  · rw [setRow_other _ _ _ _ (by omega)]; exact h.at_
/-- What the reading of a token leaves, of a token without attributes. -/
theorem TokPost.plain {t : TokL} {x : Nat} {w w' : World} {e : Ending} (hp : t.pairs = []) (he : e = .returned (.tuple #[.agg (TokV.cells ⟨t, none, 0, 0⟩).toArray, .int .i64 (x : Int)])) (hb : Below w.heap.size w w') : TokPost (t, x) w e w' :=
  ⟨⟨t, none, 0, 0⟩, rfl, he, by rw [hp]; exact PRd.nilR _ _, hb, fun b i h => by cases h⟩
set_option maxRecDepth 100000 in
set_option maxHeartbeats 8000000 in
theorem tokRead_comment (A : Option Addr) (n cap : Nat) (l : List UInt8) (k : Nat) (w : World) (h : Byt w w.heap.size A n cap l) (hW : W11 w) (hm : n ≤ 40000) (hk : k ≤ n) (h0 : [60, 33, 45, 45].isPrefixOf (l.drop k) = true) :
    Calls Tryz.prog 29 #[.slice A n cap, .int .i64 (k : Int)] w fun e w' => TokPost (readTok l k) w e w' := by
  have hln := h.length
  have HK : Hid (∀ W rs, RJ A n cap k w W rs → Byt W W.heap.size A n cap l ∧ W11 W) := Lib.hid fun W rs hJ => ⟨(h.below hJ.below).more hJ.below.size, hW.below hJ.below⟩
  have S0 : Hid (∀ W rs, RJ A n cap k w W rs → Calls Tryz.prog 59 #[.string ⟨#[60, 33, 45, 45]⟩, .pointer (some ⟨w.heap.size, 0, none⟩), .pointer (some ⟨w.heap.size + 1, 0, none⟩)] W fun e w' => e = .returned (.bool true) ∧ Below W.heap.size W w') := Lib.hid fun W rs hJ => by
    have := stands1_c A n cap l k w.heap.size (w.heap.size + 1) [60, 33, 45, 45] W (HK.out W rs hJ).1 hk (by decide) (cell_of 0 hJ.bs) (cell_of 0 hJ.at_)
    rwa [h0] at this
  have C : Hid (∀ W rs, RJ A n cap k w W rs → Calls Tryz.prog 61 #[.slice A n cap, .int .i64 (k : Int)] W fun e w' => e = .returned (outV (commentOut l k)) ∧ Below W.heap.size W w') := Lib.hid fun W rs hJ => by
    have hB := (HK.out W rs hJ).1
    have hW := (HK.out W rs hJ).2
    have := miscComment_c A n cap l k W hB hW.maxl (by omega)
    have he : anyAt commentOut l k = commentOut l k := by
      unfold anyAt
      rw [hln, if_neg (by omega), Int.toNat_natCast]
    rwa [he] at this
  unfold readTok
  rw [if_pos h0]
  generalize commentOut l k = o at *
  obtain ⟨s, t, e⟩ := o
  unfold outV at C
  simp only at C ⊢
  have J0 := Lib.hid (RJ.start A n cap k w)
  have hi : (Tryz.prog.info? 26).map (·.size) = some 7 := by kernel_rfl
  obtain ⟨sd, hu⟩ := isStruct_of (P := Tryz.prog) (t := 26) (by kernel_rfl)
  have HU := Lib.hid (And.intro hi hu)
  have hk0 : (0 : Int) ≤ (k : Int) := by omega
  have hk1 : (k : Int) ≤ 40000 := by omega
  clear h hW hln HK hi hu h0
  go_enter Tryz.func29, Tryz.ntmps29
  go_wp2_with fail
  refine (S0.out _ _ J0.out).mono ?_
  rintro e0 w1 ⟨rfl, hb⟩
  have J1 := Lib.hid (J0.out.kept hb)
  clear hb
  have z0 := cell_of 0 J1.out.tok
  have y0 := free_of 0 J1.out.tok
  have JA : Hid (RJ A n cap k w (w1.setCell ⟨w.heap.size + 1 + 1, 0, none⟩ (.int .i64 5)) #[.int .i64 5, .int .i64 0, .int .i64 0, .string ⟨#[]⟩, .string ⟨#[]⟩, .slice none 0 0, .int .i64 0]) := Lib.hid (J1.out.set 0 (.int .i64 5))
  have zb := cell_of 0 JA.out.bs
  have za := cell_of 0 JA.out.at_
  go_wp2_with fail
  clear z0 y0
  generalize w1.setCell ⟨w.heap.size + 1 + 1, 0, none⟩ (.int .i64 5) = v1 at *
  refine (C.out _ _ JA.out).mono ?_
  rintro e0 u0 ⟨rfl, hb⟩
  have K0 := Lib.hid (JA.out.kept hb)
  clear hb zb za
  have z1 := cell_of 4 K0.out.tok
  have y1 := free_of 4 K0.out.tok
  have K1 : Hid (RJ A n cap k w (u0.setCell ⟨w.heap.size + 1 + 1, 4, none⟩ (.string ⟨s.toArray⟩)) #[.int .i64 5, .int .i64 0, .int .i64 0, .string ⟨#[]⟩, .string ⟨s.toArray⟩, .slice none 0 0, .int .i64 0]) := Lib.hid (K0.out.set 4 (.string ⟨s.toArray⟩))
  have z2 := cell_of 2 K1.out.tok
  have y2 := free_of 2 K1.out.tok
  have K2 : Hid (RJ A n cap k w ((u0.setCell ⟨w.heap.size + 1 + 1, 4, none⟩ (.string ⟨s.toArray⟩)).setCell ⟨w.heap.size + 1 + 1, 2, none⟩ (.int .i64 (t : Int))) #[.int .i64 5, .int .i64 0, .int .i64 (t : Int), .string ⟨#[]⟩, .string ⟨s.toArray⟩, .slice none 0 0, .int .i64 0]) := Lib.hid (K1.out.set 2 (.int .i64 (t : Int)))
  have JF := Lib.hid (K2.out.row #[.int .i64 5, .int .i64 0, .int .i64 (t : Int), .string ⟨#[]⟩, .string ⟨s.toArray⟩, .slice none 0 0, .int .i64 0])
  go_wp2_with (first | (refine wpList_load_row rfl _ _ rfl (w.heap.size + 1 + 1) rfl _ _ _ _ K2.out.tok HU.out.2 rfl HU.out.1 ?_) | (refine wpList_store_row rfl _ _ _ rfl (w.heap.size + 1 + 1) #[.int .i64 5, .int .i64 0, .int .i64 (t : Int), .string ⟨#[]⟩, .string ⟨s.toArray⟩, .slice none 0 0, .int .i64 0] rfl rfl _ _ K2.out.tok (by kernel_rfl) rfl (by kernel_rfl) ?_))
  (try simp only [Exit.inBlock, Exit.then])
  exact bodyPost_ret (results_cell2 rfl _ _ (w.heap.size + 1 + 1) _ _ _ _ rfl JF.out.tok HU.out.2 rfl HU.out.1) rfl (TokPost.plain rfl rfl JF.out.below)
set_option maxRecDepth 100000 in
set_option maxHeartbeats 8000000 in
theorem tokRead_cdata (A : Option Addr) (n cap : Nat) (l : List UInt8) (k : Nat) (w : World) (h : Byt w w.heap.size A n cap l) (hW : W11 w) (hm : n ≤ 40000) (hk : k ≤ n) (h0 : [60, 33, 45, 45].isPrefixOf (l.drop k) = false) (h1 : [60, 33, 91, 67, 68, 65, 84, 65, 91].isPrefixOf (l.drop k) = true) :
    Calls Tryz.prog 29 #[.slice A n cap, .int .i64 (k : Int)] w fun e w' => TokPost (readTok l k) w e w' := by
  have hln := h.length
  have HK : Hid (∀ W rs, RJ A n cap k w W rs → Byt W W.heap.size A n cap l ∧ W11 W) := Lib.hid fun W rs hJ => ⟨(h.below hJ.below).more hJ.below.size, hW.below hJ.below⟩
  have S0 : Hid (∀ W rs, RJ A n cap k w W rs → Calls Tryz.prog 59 #[.string ⟨#[60, 33, 45, 45]⟩, .pointer (some ⟨w.heap.size, 0, none⟩), .pointer (some ⟨w.heap.size + 1, 0, none⟩)] W fun e w' => e = .returned (.bool false) ∧ Below W.heap.size W w') := Lib.hid fun W rs hJ => by
    have := stands1_c A n cap l k w.heap.size (w.heap.size + 1) [60, 33, 45, 45] W (HK.out W rs hJ).1 hk (by decide) (cell_of 0 hJ.bs) (cell_of 0 hJ.at_)
    rwa [h0] at this
  have S1 : Hid (∀ W rs, RJ A n cap k w W rs → Calls Tryz.prog 59 #[.string ⟨#[60, 33, 91, 67, 68, 65, 84, 65, 91]⟩, .pointer (some ⟨w.heap.size, 0, none⟩), .pointer (some ⟨w.heap.size + 1, 0, none⟩)] W fun e w' => e = .returned (.bool true) ∧ Below W.heap.size W w') := Lib.hid fun W rs hJ => by
    have := stands1_c A n cap l k w.heap.size (w.heap.size + 1) [60, 33, 91, 67, 68, 65, 84, 65, 91] W (HK.out W rs hJ).1 hk (by decide) (cell_of 0 hJ.bs) (cell_of 0 hJ.at_)
    rwa [h1] at this
  have C : Hid (∀ W rs, RJ A n cap k w W rs → Calls Tryz.prog 62 #[.slice A n cap, .int .i64 (k : Int)] W fun e w' => e = .returned (outV (cdataOut l k)) ∧ Below W.heap.size W w') := Lib.hid fun W rs hJ => by
    have hB := (HK.out W rs hJ).1
    have hW := (HK.out W rs hJ).2
    have := miscCData_c A n cap l k W hB hW.maxl (by omega)
    have he : anyAt cdataOut l k = cdataOut l k := by
      unfold anyAt
      rw [hln, if_neg (by omega), Int.toNat_natCast]
    rwa [he] at this
  unfold readTok
  rw [if_neg (by rw [h0]; simp), if_pos h1]
  generalize cdataOut l k = o at *
  obtain ⟨s, t, e⟩ := o
  unfold outV at C
  simp only at C ⊢
  have J0 := Lib.hid (RJ.start A n cap k w)
  have hi : (Tryz.prog.info? 26).map (·.size) = some 7 := by kernel_rfl
  obtain ⟨sd, hu⟩ := isStruct_of (P := Tryz.prog) (t := 26) (by kernel_rfl)
  have HU := Lib.hid (And.intro hi hu)
  have hk0 : (0 : Int) ≤ (k : Int) := by omega
  have hk1 : (k : Int) ≤ 40000 := by omega
  clear h hW hln HK hi hu h0 h1
  go_enter Tryz.func29, Tryz.ntmps29
  go_wp2_with fail
  refine (S0.out _ _ J0.out).mono ?_
  rintro e0 w1 ⟨rfl, hb⟩
  have J1 := Lib.hid (J0.out.kept hb)
  clear hb
  go_wp2_with fail
  refine (S1.out _ _ J1.out).mono ?_
  rintro e0 w2 ⟨rfl, hb⟩
  have J2 := Lib.hid (J1.out.kept hb)
  clear hb
  have z0 := cell_of 0 J2.out.tok
  have y0 := free_of 0 J2.out.tok
  have JA : Hid (RJ A n cap k w (w2.setCell ⟨w.heap.size + 1 + 1, 0, none⟩ (.int .i64 4)) #[.int .i64 4, .int .i64 0, .int .i64 0, .string ⟨#[]⟩, .string ⟨#[]⟩, .slice none 0 0, .int .i64 0]) := Lib.hid (J2.out.set 0 (.int .i64 4))
  have zb := cell_of 0 JA.out.bs
  have za := cell_of 0 JA.out.at_
  go_wp2_with fail
  clear z0 y0
  generalize w2.setCell ⟨w.heap.size + 1 + 1, 0, none⟩ (.int .i64 4) = v1 at *
  refine (C.out _ _ JA.out).mono ?_
  rintro e0 u0 ⟨rfl, hb⟩
  have K0 := Lib.hid (JA.out.kept hb)
  clear hb zb za
  have z1 := cell_of 4 K0.out.tok
  have y1 := free_of 4 K0.out.tok
  have K1 : Hid (RJ A n cap k w (u0.setCell ⟨w.heap.size + 1 + 1, 4, none⟩ (.string ⟨s.toArray⟩)) #[.int .i64 4, .int .i64 0, .int .i64 0, .string ⟨#[]⟩, .string ⟨s.toArray⟩, .slice none 0 0, .int .i64 0]) := Lib.hid (K0.out.set 4 (.string ⟨s.toArray⟩))
  have z2 := cell_of 2 K1.out.tok
  have y2 := free_of 2 K1.out.tok
  have K2 : Hid (RJ A n cap k w ((u0.setCell ⟨w.heap.size + 1 + 1, 4, none⟩ (.string ⟨s.toArray⟩)).setCell ⟨w.heap.size + 1 + 1, 2, none⟩ (.int .i64 (t : Int))) #[.int .i64 4, .int .i64 0, .int .i64 (t : Int), .string ⟨#[]⟩, .string ⟨s.toArray⟩, .slice none 0 0, .int .i64 0]) := Lib.hid (K1.out.set 2 (.int .i64 (t : Int)))
  have JF := Lib.hid (K2.out.row #[.int .i64 4, .int .i64 0, .int .i64 (t : Int), .string ⟨#[]⟩, .string ⟨s.toArray⟩, .slice none 0 0, .int .i64 0])
  go_wp2_with (first | (refine wpList_load_row rfl _ _ rfl (w.heap.size + 1 + 1) rfl _ _ _ _ K2.out.tok HU.out.2 rfl HU.out.1 ?_) | (refine wpList_store_row rfl _ _ _ rfl (w.heap.size + 1 + 1) #[.int .i64 4, .int .i64 0, .int .i64 (t : Int), .string ⟨#[]⟩, .string ⟨s.toArray⟩, .slice none 0 0, .int .i64 0] rfl rfl _ _ K2.out.tok (by kernel_rfl) rfl (by kernel_rfl) ?_))
  (try simp only [Exit.inBlock, Exit.then])
  exact bodyPost_ret (results_cell2 rfl _ _ (w.heap.size + 1 + 1) _ _ _ _ rfl JF.out.tok HU.out.2 rfl HU.out.1) rfl (TokPost.plain rfl rfl JF.out.below)
set_option maxRecDepth 100000 in
set_option maxHeartbeats 8000000 in
theorem tokRead_pi (A : Option Addr) (n cap : Nat) (l : List UInt8) (k : Nat) (w : World) (h : Byt w w.heap.size A n cap l) (hW : W11 w) (hm : n ≤ 40000) (hk : k ≤ n) (h0 : [60, 33, 45, 45].isPrefixOf (l.drop k) = false) (h1 : [60, 33, 91, 67, 68, 65, 84, 65, 91].isPrefixOf (l.drop k) = false) (h2 : [60, 63].isPrefixOf (l.drop k) = true) :
    Calls Tryz.prog 29 #[.slice A n cap, .int .i64 (k : Int)] w fun e w' => TokPost (readTok l k) w e w' := by
  have hln := h.length
  have HK : Hid (∀ W rs, RJ A n cap k w W rs → Byt W W.heap.size A n cap l ∧ W11 W) := Lib.hid fun W rs hJ => ⟨(h.below hJ.below).more hJ.below.size, hW.below hJ.below⟩
  have S0 : Hid (∀ W rs, RJ A n cap k w W rs → Calls Tryz.prog 59 #[.string ⟨#[60, 33, 45, 45]⟩, .pointer (some ⟨w.heap.size, 0, none⟩), .pointer (some ⟨w.heap.size + 1, 0, none⟩)] W fun e w' => e = .returned (.bool false) ∧ Below W.heap.size W w') := Lib.hid fun W rs hJ => by
    have := stands1_c A n cap l k w.heap.size (w.heap.size + 1) [60, 33, 45, 45] W (HK.out W rs hJ).1 hk (by decide) (cell_of 0 hJ.bs) (cell_of 0 hJ.at_)
    rwa [h0] at this
  have S1 : Hid (∀ W rs, RJ A n cap k w W rs → Calls Tryz.prog 59 #[.string ⟨#[60, 33, 91, 67, 68, 65, 84, 65, 91]⟩, .pointer (some ⟨w.heap.size, 0, none⟩), .pointer (some ⟨w.heap.size + 1, 0, none⟩)] W fun e w' => e = .returned (.bool false) ∧ Below W.heap.size W w') := Lib.hid fun W rs hJ => by
    have := stands1_c A n cap l k w.heap.size (w.heap.size + 1) [60, 33, 91, 67, 68, 65, 84, 65, 91] W (HK.out W rs hJ).1 hk (by decide) (cell_of 0 hJ.bs) (cell_of 0 hJ.at_)
    rwa [h1] at this
  have S2 : Hid (∀ W rs, RJ A n cap k w W rs → Calls Tryz.prog 59 #[.string ⟨#[60, 63]⟩, .pointer (some ⟨w.heap.size, 0, none⟩), .pointer (some ⟨w.heap.size + 1, 0, none⟩)] W fun e w' => e = .returned (.bool true) ∧ Below W.heap.size W w') := Lib.hid fun W rs hJ => by
    have := stands1_c A n cap l k w.heap.size (w.heap.size + 1) [60, 63] W (HK.out W rs hJ).1 hk (by decide) (cell_of 0 hJ.bs) (cell_of 0 hJ.at_)
    rwa [h2] at this
  have C : Hid (∀ W rs, RJ A n cap k w W rs → Calls Tryz.prog 63 #[.slice A n cap, .int .i64 (k : Int)] W fun e w' => e = .returned (out4V (piOut l k)) ∧ Below W.heap.size W w') := Lib.hid fun W rs hJ => by
    have hB := (HK.out W rs hJ).1
    have hW := (HK.out W rs hJ).2
    have := miscPiAt_c A n cap l k W hB hW.w8f (by omega)
    have he : piAt l k = piOut l k := by
      unfold piAt
      rw [hln, if_neg (by omega), Int.toNat_natCast]
    rwa [he] at this
  unfold readTok
  rw [if_neg (by rw [h0]; simp), if_neg (by rw [h1]; simp), if_pos h2]
  generalize piOut l k = o at *
  obtain ⟨s, d, t, e⟩ := o
  unfold out4V at C
  simp only at C ⊢
  have J0 := Lib.hid (RJ.start A n cap k w)
  have hi : (Tryz.prog.info? 26).map (·.size) = some 7 := by kernel_rfl
  obtain ⟨sd, hu⟩ := isStruct_of (P := Tryz.prog) (t := 26) (by kernel_rfl)
  have HU := Lib.hid (And.intro hi hu)
  have hk0 : (0 : Int) ≤ (k : Int) := by omega
  have hk1 : (k : Int) ≤ 40000 := by omega
  clear h hW hln HK hi hu h0 h1 h2
  go_enter Tryz.func29, Tryz.ntmps29
  go_wp2_with fail
  refine (S0.out _ _ J0.out).mono ?_
  rintro e0 w1 ⟨rfl, hb⟩
  have J1 := Lib.hid (J0.out.kept hb)
  clear hb
  go_wp2_with fail
  refine (S1.out _ _ J1.out).mono ?_
  rintro e0 w2 ⟨rfl, hb⟩
  have J2 := Lib.hid (J1.out.kept hb)
  clear hb
  go_wp2_with fail
  refine (S2.out _ _ J2.out).mono ?_
  rintro e0 w3 ⟨rfl, hb⟩
  have J3 := Lib.hid (J2.out.kept hb)
  clear hb
  have z0 := cell_of 0 J3.out.tok
  have y0 := free_of 0 J3.out.tok
  have JA : Hid (RJ A n cap k w (w3.setCell ⟨w.heap.size + 1 + 1, 0, none⟩ (.int .i64 6)) #[.int .i64 6, .int .i64 0, .int .i64 0, .string ⟨#[]⟩, .string ⟨#[]⟩, .slice none 0 0, .int .i64 0]) := Lib.hid (J3.out.set 0 (.int .i64 6))
  have zb := cell_of 0 JA.out.bs
  have za := cell_of 0 JA.out.at_
  go_wp2_with fail
  clear z0 y0
  generalize w3.setCell ⟨w.heap.size + 1 + 1, 0, none⟩ (.int .i64 6) = v1 at *
  refine (C.out _ _ JA.out).mono ?_
  rintro e0 u0 ⟨rfl, hb⟩
  have K0 := Lib.hid (JA.out.kept hb)
  clear hb zb za
  have z1 := cell_of 3 K0.out.tok
  have y1 := free_of 3 K0.out.tok
  have K1 : Hid (RJ A n cap k w (u0.setCell ⟨w.heap.size + 1 + 1, 3, none⟩ (.string ⟨s.toArray⟩)) #[.int .i64 6, .int .i64 0, .int .i64 0, .string ⟨s.toArray⟩, .string ⟨#[]⟩, .slice none 0 0, .int .i64 0]) := Lib.hid (K0.out.set 3 (.string ⟨s.toArray⟩))
  have z2 := cell_of 4 K1.out.tok
  have y2 := free_of 4 K1.out.tok
  have K2 : Hid (RJ A n cap k w ((u0.setCell ⟨w.heap.size + 1 + 1, 3, none⟩ (.string ⟨s.toArray⟩)).setCell ⟨w.heap.size + 1 + 1, 4, none⟩ (.string ⟨d.toArray⟩)) #[.int .i64 6, .int .i64 0, .int .i64 0, .string ⟨s.toArray⟩, .string ⟨d.toArray⟩, .slice none 0 0, .int .i64 0]) := Lib.hid (K1.out.set 4 (.string ⟨d.toArray⟩))
  have z3 := cell_of 2 K2.out.tok
  have y3 := free_of 2 K2.out.tok
  have K3 : Hid (RJ A n cap k w (((u0.setCell ⟨w.heap.size + 1 + 1, 3, none⟩ (.string ⟨s.toArray⟩)).setCell ⟨w.heap.size + 1 + 1, 4, none⟩ (.string ⟨d.toArray⟩)).setCell ⟨w.heap.size + 1 + 1, 2, none⟩ (.int .i64 (t : Int))) #[.int .i64 6, .int .i64 0, .int .i64 (t : Int), .string ⟨s.toArray⟩, .string ⟨d.toArray⟩, .slice none 0 0, .int .i64 0]) := Lib.hid (K2.out.set 2 (.int .i64 (t : Int)))
  have JF := Lib.hid (K3.out.row #[.int .i64 6, .int .i64 0, .int .i64 (t : Int), .string ⟨s.toArray⟩, .string ⟨d.toArray⟩, .slice none 0 0, .int .i64 0])
  go_wp2_with (first | (refine wpList_load_row rfl _ _ rfl (w.heap.size + 1 + 1) rfl _ _ _ _ K3.out.tok HU.out.2 rfl HU.out.1 ?_) | (refine wpList_store_row rfl _ _ _ rfl (w.heap.size + 1 + 1) #[.int .i64 6, .int .i64 0, .int .i64 (t : Int), .string ⟨s.toArray⟩, .string ⟨d.toArray⟩, .slice none 0 0, .int .i64 0] rfl rfl _ _ K3.out.tok (by kernel_rfl) rfl (by kernel_rfl) ?_))
  (try simp only [Exit.inBlock, Exit.then])
  exact bodyPost_ret (results_cell2 rfl _ _ (w.heap.size + 1 + 1) _ _ _ _ rfl JF.out.tok HU.out.2 rfl HU.out.1) rfl (TokPost.plain rfl rfl JF.out.below)
set_option maxRecDepth 100000 in
set_option maxHeartbeats 8000000 in
theorem tokRead_close (A : Option Addr) (n cap : Nat) (l : List UInt8) (k : Nat) (w : World) (h : Byt w w.heap.size A n cap l) (hW : W11 w) (hm : n ≤ 40000) (hk : k ≤ n) (h0 : [60, 33, 45, 45].isPrefixOf (l.drop k) = false) (h1 : [60, 33, 91, 67, 68, 65, 84, 65, 91].isPrefixOf (l.drop k) = false) (h2 : [60, 63].isPrefixOf (l.drop k) = false) (h3 : [60, 47].isPrefixOf (l.drop k) = true) :
    Calls Tryz.prog 29 #[.slice A n cap, .int .i64 (k : Int)] w fun e w' => TokPost (readTok l k) w e w' := by
  have hln := h.length
  have HK : Hid (∀ W rs, RJ A n cap k w W rs → Byt W W.heap.size A n cap l ∧ W11 W) := Lib.hid fun W rs hJ => ⟨(h.below hJ.below).more hJ.below.size, hW.below hJ.below⟩
  have S0 : Hid (∀ W rs, RJ A n cap k w W rs → Calls Tryz.prog 59 #[.string ⟨#[60, 33, 45, 45]⟩, .pointer (some ⟨w.heap.size, 0, none⟩), .pointer (some ⟨w.heap.size + 1, 0, none⟩)] W fun e w' => e = .returned (.bool false) ∧ Below W.heap.size W w') := Lib.hid fun W rs hJ => by
    have := stands1_c A n cap l k w.heap.size (w.heap.size + 1) [60, 33, 45, 45] W (HK.out W rs hJ).1 hk (by decide) (cell_of 0 hJ.bs) (cell_of 0 hJ.at_)
    rwa [h0] at this
  have S1 : Hid (∀ W rs, RJ A n cap k w W rs → Calls Tryz.prog 59 #[.string ⟨#[60, 33, 91, 67, 68, 65, 84, 65, 91]⟩, .pointer (some ⟨w.heap.size, 0, none⟩), .pointer (some ⟨w.heap.size + 1, 0, none⟩)] W fun e w' => e = .returned (.bool false) ∧ Below W.heap.size W w') := Lib.hid fun W rs hJ => by
    have := stands1_c A n cap l k w.heap.size (w.heap.size + 1) [60, 33, 91, 67, 68, 65, 84, 65, 91] W (HK.out W rs hJ).1 hk (by decide) (cell_of 0 hJ.bs) (cell_of 0 hJ.at_)
    rwa [h1] at this
  have S2 : Hid (∀ W rs, RJ A n cap k w W rs → Calls Tryz.prog 59 #[.string ⟨#[60, 63]⟩, .pointer (some ⟨w.heap.size, 0, none⟩), .pointer (some ⟨w.heap.size + 1, 0, none⟩)] W fun e w' => e = .returned (.bool false) ∧ Below W.heap.size W w') := Lib.hid fun W rs hJ => by
    have := stands1_c A n cap l k w.heap.size (w.heap.size + 1) [60, 63] W (HK.out W rs hJ).1 hk (by decide) (cell_of 0 hJ.bs) (cell_of 0 hJ.at_)
    rwa [h2] at this
  have S3 : Hid (∀ W rs, RJ A n cap k w W rs → Calls Tryz.prog 59 #[.string ⟨#[60, 47]⟩, .pointer (some ⟨w.heap.size, 0, none⟩), .pointer (some ⟨w.heap.size + 1, 0, none⟩)] W fun e w' => e = .returned (.bool true) ∧ Below W.heap.size W w') := Lib.hid fun W rs hJ => by
    have := stands1_c A n cap l k w.heap.size (w.heap.size + 1) [60, 47] W (HK.out W rs hJ).1 hk (by decide) (cell_of 0 hJ.bs) (cell_of 0 hJ.at_)
    rwa [h3] at this
  have C : Hid (∀ W rs, RJ A n cap k w W rs → Calls Tryz.prog 64 #[.slice A n cap, .int .i64 (k : Int)] W fun e w' => e = .returned (outV (closeOut l k)) ∧ Below W.heap.size W w') := Lib.hid fun W rs hJ => by
    have hB := (HK.out W rs hJ).1
    have hW := (HK.out W rs hJ).2
    have := tagClose_in A n cap l k W hB hW.w10 hm hk
    exact this
  unfold readTok
  rw [if_neg (by rw [h0]; simp), if_neg (by rw [h1]; simp), if_neg (by rw [h2]; simp), if_pos h3]
  generalize closeOut l k = o at *
  obtain ⟨s, t, e⟩ := o
  unfold outV at C
  simp only at C ⊢
  have J0 := Lib.hid (RJ.start A n cap k w)
  have hi : (Tryz.prog.info? 26).map (·.size) = some 7 := by kernel_rfl
  obtain ⟨sd, hu⟩ := isStruct_of (P := Tryz.prog) (t := 26) (by kernel_rfl)
  have HU := Lib.hid (And.intro hi hu)
  have hk0 : (0 : Int) ≤ (k : Int) := by omega
  have hk1 : (k : Int) ≤ 40000 := by omega
  clear h hW hln HK hi hu h0 h1 h2 h3
  go_enter Tryz.func29, Tryz.ntmps29
  go_wp2_with fail
  refine (S0.out _ _ J0.out).mono ?_
  rintro e0 w1 ⟨rfl, hb⟩
  have J1 := Lib.hid (J0.out.kept hb)
  clear hb
  go_wp2_with fail
  refine (S1.out _ _ J1.out).mono ?_
  rintro e0 w2 ⟨rfl, hb⟩
  have J2 := Lib.hid (J1.out.kept hb)
  clear hb
  go_wp2_with fail
  refine (S2.out _ _ J2.out).mono ?_
  rintro e0 w3 ⟨rfl, hb⟩
  have J3 := Lib.hid (J2.out.kept hb)
  clear hb
  go_wp2_with fail
  refine (S3.out _ _ J3.out).mono ?_
  rintro e0 w4 ⟨rfl, hb⟩
  have J4 := Lib.hid (J3.out.kept hb)
  clear hb
  have z0 := cell_of 0 J4.out.tok
  have y0 := free_of 0 J4.out.tok
  have JA : Hid (RJ A n cap k w (w4.setCell ⟨w.heap.size + 1 + 1, 0, none⟩ (.int .i64 9)) #[.int .i64 9, .int .i64 0, .int .i64 0, .string ⟨#[]⟩, .string ⟨#[]⟩, .slice none 0 0, .int .i64 0]) := Lib.hid (J4.out.set 0 (.int .i64 9))
  have zb := cell_of 0 JA.out.bs
  have za := cell_of 0 JA.out.at_
  go_wp2_with fail
  clear z0 y0
  generalize w4.setCell ⟨w.heap.size + 1 + 1, 0, none⟩ (.int .i64 9) = v1 at *
  refine (C.out _ _ JA.out).mono ?_
  rintro e0 u0 ⟨rfl, hb⟩
  have K0 := Lib.hid (JA.out.kept hb)
  clear hb zb za
  have z1 := cell_of 3 K0.out.tok
  have y1 := free_of 3 K0.out.tok
  have K1 : Hid (RJ A n cap k w (u0.setCell ⟨w.heap.size + 1 + 1, 3, none⟩ (.string ⟨s.toArray⟩)) #[.int .i64 9, .int .i64 0, .int .i64 0, .string ⟨s.toArray⟩, .string ⟨#[]⟩, .slice none 0 0, .int .i64 0]) := Lib.hid (K0.out.set 3 (.string ⟨s.toArray⟩))
  have z2 := cell_of 2 K1.out.tok
  have y2 := free_of 2 K1.out.tok
  have K2 : Hid (RJ A n cap k w ((u0.setCell ⟨w.heap.size + 1 + 1, 3, none⟩ (.string ⟨s.toArray⟩)).setCell ⟨w.heap.size + 1 + 1, 2, none⟩ (.int .i64 (t : Int))) #[.int .i64 9, .int .i64 0, .int .i64 (t : Int), .string ⟨s.toArray⟩, .string ⟨#[]⟩, .slice none 0 0, .int .i64 0]) := Lib.hid (K1.out.set 2 (.int .i64 (t : Int)))
  have JF := Lib.hid (K2.out.row #[.int .i64 9, .int .i64 0, .int .i64 (t : Int), .string ⟨s.toArray⟩, .string ⟨#[]⟩, .slice none 0 0, .int .i64 0])
  go_wp2_with (first | (refine wpList_load_row rfl _ _ rfl (w.heap.size + 1 + 1) rfl _ _ _ _ K2.out.tok HU.out.2 rfl HU.out.1 ?_) | (refine wpList_store_row rfl _ _ _ rfl (w.heap.size + 1 + 1) #[.int .i64 9, .int .i64 0, .int .i64 (t : Int), .string ⟨s.toArray⟩, .string ⟨#[]⟩, .slice none 0 0, .int .i64 0] rfl rfl _ _ K2.out.tok (by kernel_rfl) rfl (by kernel_rfl) ?_))
  (try simp only [Exit.inBlock, Exit.then])
  exact bodyPost_ret (results_cell2 rfl _ _ (w.heap.size + 1 + 1) _ _ _ _ rfl JF.out.tok HU.out.2 rfl HU.out.1) rfl (TokPost.plain rfl rfl JF.out.below)
end Go.Proofs.YtmclngahdklfkaaGreatDoor
