/- Several texts of ours in one: Ld6, Ld7, Ld8, Laid, Laid3. -/
import Derived.Test.YtljmpghijlibaaaDoorRows
import Derived.WalkKit
import Derived.ProofKit
import Derived.OpenShut
import Derived.ShutString
import Derived.ChangeOld
import Derived.Below
import Derived.BigQuiet
import Derived.Deep.QuietTactic
import Derived.Lib.Hide
import Derived.Deep.RegionHeld3
import Derived.Lib.SlBytesConst
import Derived.Laws.CopyOwn
import Derived.Laws.CopyRow
import Derived.Lib.Bytes
import Derived.Deep.LoopGhost
import Derived.Deep.DeepFit
import Derived.Deep.DeepMust
import Derived.WalkSpells
import Derived.WalkLawsBesides
import Derived.Laws.EntriesVeiled
import Derived.Laws.Rows
import Derived.LoopN
import Derived.Lib.LaidCaseMet
import Derived.Deep.DeepLaidRun
import Derived.Test.YtljmpghijlibaaaDoorShelf
import Derived.Test.YtljmpghijlibaaaDoorBase
import Derived.Test.YtljmpghijlibaaaDoorCharPlain
import Derived.Test.YtljmpghijlibaaaDoorStr
import Derived.Test.YtljmpghijlibaaaDoorChars1
import Derived.Test.YtljmpghijlibaaaDoorUtf1
import Derived.Test.YtljmpghijlibaaaDoorUtf2
import Derived.Test.YtljmpghijlibaaaDoorUtf3
import Derived.Test.YtljmpghijlibaaaDoorName1
import Derived.Test.YtljmpghijlibaaaDoorName2
import Derived.Test.YtljmpghijlibaaaDoorName3
import Derived.Test.YtljmpghijlibaaaDoorCref1
import Derived.Test.YtljmpghijlibaaaDoorPlainP
import Derived.Test.YtljmpghijlibaaaDoorY2
import Derived.Test.YtljmpghijlibaaaDoorY3
import Derived.Test.YtljmpghijlibaaaDoorPfx
import Derived.Test.YtljmpghijlibaaaDoorBits
import Derived.Test.YtljmpghijlibaaaDoorRef1
import Derived.Test.YtljmpghijlibaaaDoorRef3
import Derived.Test.YtljmpghijlibaaaDoorPub
import Derived.Test.YtljmpghijlibaaaDoorRun
import Derived.Test.YtljmpghijlibaaaDoorRunU
import Derived.Test.YtljmpghijlibaaaDoorRunV
import Derived.Test.YtljmpghijlibaaaDoorEv2
import Derived.Test.YtljmpghijlibaaaDoorEv3
import Derived.Test.YtljmpghijlibaaaDoorEolP
import Derived.Test.YtljmpghijlibaaaDoorEolN
import Derived.Test.YtljmpghijlibaaaDoorNrmP
import Derived.Test.YtljmpghijlibaaaDoorLdP
import Derived.Test.YtljmpghijlibaaaDoorBlank
import Derived.Test.YtljmpghijlibaaaDoorLibB
import Derived.Test.YtljmpghijlibaaaDoorMiscP
import Derived.Test.YtljmpghijlibaaaDoorZ1
import Derived.Test.YtljmpghijlibaaaDoorFold
import Derived.Test.YtljmpghijlibaaaDoorX1
import Derived.Test.YtljmpghijlibaaaDoorX5
import Derived.Test.YtljmpghijlibaaaDoorXdI
import Derived.Test.YtljmpghijlibaaaDoorXdJ
import Derived.Test.YtljmpghijlibaaaDoorShelf2
namespace Go.Proofs.YtljmpghijlibaaaDoor
open Go.ChangeShapes Go.WideShapes Go.ChangeAt Go.RowKit
set_option linter.unusedVariables false
theorem ix_has (l : List UInt8) (c : UInt8) : decide (Lib.indexByte l c < 0) = !l.contains c := by
  by_cases h : 0 ≤ Lib.indexByte l c
  · have : l.contains c = true := by simpa using List.mem_of_getElem? (ix_at c l h).1
    rw [this, decide_eq_false (by omega)]; rfl
  · have hn := ix_none c l (by omega)
    have : l.contains c = false := by
      rw [Bool.eq_false_iff]
      intro hc
      obtain ⟨j, hj⟩ := List.mem_iff_getElem?.1 (show c ∈ l by simpa using hc)
      exact hn j hj
    rw [this, decide_eq_true (by omega)]; rfl
structure W25 (w : World) : Prop where
  tabs : Tabs w
  forms : Forms w
  fold : FoldT w
theorem W25.below {w w' : World} (h : W25 w) (hb : Below w.heap.size w w') : W25 w' := ⟨h.tabs.below hb (h.tabs.low h.forms), h.forms.below hb h.forms.lt, h.fold.below hb h.fold.lt⟩
set_option maxRecDepth 100000 in
set_option maxHeartbeats 8000000 in
theorem live25_c (w : World) (hW : W25 w) : Calls Tryd.prog 17 #[] w fun e w' => e = .returned (.bool true) ∧ Below w.heap.size w w' := by
  have kc := fun (w : World) (C : Array Value) (n c : Nat) => Lib.run_convert_bytes_const (P := Tryd.prog) w 35 5 C n c Tryd.underlying35 Tryd.underlying5
  have C1 : Hid (∀ W, Below w.heap.size w W → Calls Tryd.prog 20 #[.slice (some ⟨W.heap.size, 0, none⟩) 3 3] (W.alloc (.cells #[.int .u8 97, .int .u8 13, .int .u8 10] 5 (3, 4))) fun e w' => ∃ A m c, e = .returned (.tuple #[.slice A m c, .int .i64 0]) ∧ Byt w' w'.heap.size A m c [97, 10] ∧ Below W.heap.size W w') := Lib.hid fun W hb => by
    have k1 := alloc_const W [97, 13, 10] (3, 4) (by decide)
    have hw := (hW.below hb).below k1.1
    have := ldDoc_c _ _ _ _ _ (k1.2.more (by simp)) hw.forms hw.tabs (by decide)
    unfold SlP at this
    rw [show docL [97, 13, 10] = ([97, 10], 0) by kernel_rfl] at this
    exact this.mono fun e w' ⟨A, m, c, he, hp, hb2⟩ => ⟨A, m, c, he, hp, k1.1.trans (hb2.mono k1.1.size)⟩
  have C2 : Hid (∀ W, Below w.heap.size w W → Calls Tryd.prog 18 #[.slice (some ⟨W.heap.size, 0, none⟩) 25 25] (W.alloc (.cells #[.int .u8 60, .int .u8 63, .int .u8 120, .int .u8 109, .int .u8 108, .int .u8 32, .int .u8 101, .int .u8 110, .int .u8 99, .int .u8 111, .int .u8 100, .int .u8 105, .int .u8 110, .int .u8 103, .int .u8 61, .int .u8 34, .int .u8 117, .int .u8 116, .int .u8 102, .int .u8 45, .int .u8 56, .int .u8 34, .int .u8 63, .int .u8 62, .int .u8 120] 5 (25, 26))) fun e w' => ∃ A m c, e = .returned (.tuple #[.slice A m c, .int .i64 0]) ∧ Byt w' w'.heap.size A m c [120] ∧ Below W.heap.size W w') := Lib.hid fun W hb => by
    have k1 := alloc_const W [60, 63, 120, 109, 108, 32, 101, 110, 99, 111, 100, 105, 110, 103, 61, 34, 117, 116, 102, 45, 56, 34, 63, 62, 120] (25, 26) (by decide)
    have hw := (hW.below hb).below k1.1
    have := ldText_c _ _ _ _ _ (k1.2.more (by simp)) hw.forms hw.tabs hw.fold (by decide)
    unfold SlP at this
    rw [show textL25 [60, 63, 120, 109, 108, 32, 101, 110, 99, 111, 100, 105, 110, 103, 61, 34, 117, 116, 102, 45, 56, 34, 63, 62, 120] = ([120], 0) by kernel_rfl] at this
    exact this.mono fun e w' ⟨A, m, c, he, hp, hb2⟩ => ⟨A, m, c, he, hp, k1.1.trans (hb2.mono k1.1.size)⟩
  clear hW
  go_enter Tryd.func17, Tryd.ntmps17
  go_wp2_with fail
  refine (C1.out _ (Below.refl _ _)).mono ?_
  rintro e w1 ⟨A1, m1, c1, rfl, hp1, hb1⟩
  have B1 := Lib.hid (And.intro hp1 hb1)
  clear hp1 hb1
  go_wp2_with fail
  refine (C2.out _ B1.out.2).mono ?_
  rintro e w2 ⟨A2, m2, c2, rfl, hp2, hb2⟩
  have hs1 := (B1.out.1.below hb2).str
  have hs2 := hp2.str
  have B2 := Lib.hid (B1.out.2.trans (hb2.mono B1.out.2.size))
  clear hp2 hb2
  go_wp2
  go_ret
  exact ⟨rfl, B2.out⟩
set_option maxRecDepth 100000 in
set_option maxHeartbeats 8000000 in
theorem loadTexts_walk (A : Option Addr) (n cap : Nat) (l : List UInt8) (w : World) (h : Byt w w.heap.size A n cap l) (hW : W25 w) :
    Calls Tryd.prog 4 #[.slice A n cap] w fun e w' => e = .returned (.bool true) ∧ Below w.heap.size w w' := by
  have LV : Hid (∀ W, Below w.heap.size w W → Calls Tryd.prog 17 #[] W fun e w' => e = .returned (.bool true) ∧ Below W.heap.size W w') := Lib.hid fun W hb => live25_c W (hW.below hb)
  by_cases hn : n ≤ 600
  · have hn' : ¬ (600 : Int) < (n : Int) := by omega
    have CT := Lib.hid (ldText_c A n cap l w h hW.forms hW.tabs hW.fold (by omega))
    have CR : Hid (∀ W, Below w.heap.size w W → Calls Tryd.prog 19 #[.slice A n cap] W (SlP (textL25 l) W)) := Lib.hid fun W hb => refText25_c A n cap l W ((h.below hb).more hb.size) (by omega)
    clear h hW
    generalize textL25 l = o at *
    obtain ⟨t, e0⟩ := o
    go_enter Tryd.func4, Tryd.ntmps4
    go_wp2_with fail
    refine CT.out.mono ?_
    rintro e w1 ⟨A1, m1, c1, rfl, hp1, hb1⟩
    dsimp only at hp1
    have B1 := Lib.hid (And.intro hp1 hb1)
    clear hp1 hb1
    go_wp2_with fail
    refine (CR.out _ B1.out.2).mono ?_
    rintro e w2 ⟨A2, m2, c2, rfl, hp2, hb2⟩
    dsimp only at hp2
    have hs1 := (B1.out.1.below hb2).str
    have hs2 := hp2.str
    have B2 := Lib.hid (B1.out.2.trans (hb2.mono B1.out.2.size))
    clear hp2 hb2
    go_wp2_with fail
    refine (LV.out _ B2.out).mono ?_
    rintro e w3 ⟨rfl, hb⟩
    have B3 := Lib.hid (B2.out.trans (hb.mono B2.out.size))
    clear hb
    go_wp2
    go_ret
    exact ⟨rfl, B3.out⟩
  · have hn' : (600 : Int) < (n : Int) := by omega
    clear hn hW h
    go_enter Tryd.func4, Tryd.ntmps4
    go_wp2_with fail
    refine (LV.out _ (Below.refl _ _)).mono ?_
    rintro e w1 ⟨rfl, hb⟩
    have B1 := Lib.hid hb
    clear hb
    go_wp2
    go_ret
    exact ⟨rfl, B1.out⟩
theorem has_take (l : List UInt8) (k : Nat) (d : UInt8) (h : l[k]? = some d) : (l.take (k + 1)).contains 13 = ((l.take k).contains 13 || decide (d = 13)) := by
  rw [take_snoc l k d h, List.contains_append]
  congr 1
  simp only [List.contains_cons, List.contains_nil, Bool.or_false]
  rw [Bool.beq_comm]
  rfl
theorem again_ne (t : List UInt8) (h : markB t = true) : nrm (bodyL t) ≠ t := by
  intro e
  have h1 := nrm_le (bodyL t)
  have h2 : bodyL t = t.drop 3 := by unfold bodyL; rw [if_pos h]
  have h3 := (List.isPrefixOf_iff_prefix.1 h).length_le
  rw [e, h2, List.length_drop] at h1
  simp at h3
  omega
set_option maxRecDepth 100000 in
set_option maxHeartbeats 8000000 in
theorem loadDocs_walk (A : Option Addr) (n cap : Nat) (l : List UInt8) (w : World) (h : Byt w w.heap.size A n cap l) (hW : W25 w) :
    Calls Tryd.prog 6 #[.slice A n cap] w fun e w' => e = .returned (.bool true) ∧ Below w.heap.size w w' := by
  have LV : Hid (∀ W, Below w.heap.size w W → Calls Tryd.prog 17 #[] W fun e w' => e = .returned (.bool true) ∧ Below W.heap.size W w') := Lib.hid fun W hb => live25_c W (hW.below hb)
  by_cases hn : n ≤ 600
  · have hn' : ¬ (600 : Int) < (n : Int) := by omega
    have hln := h.length
    have CT := Lib.hid (ldDoc_c A n cap l w h hW.forms hW.tabs (by omega))
    have CR : Hid (∀ W, Below w.heap.size w W → Calls Tryd.prog 22 #[.slice A n cap] W (SlP (docL l) W)) := Lib.hid fun W hb => refDoc25_c A n cap l W ((h.below hb).more hb.size) (by omega)
    have CM : Hid (∀ W, Below w.heap.size w W → Calls Tryd.prog 23 #[.slice A n cap] W fun e w' => e = .returned (.bool (markB l)) ∧ Below W.heap.size W w') := Lib.hid fun W hb => ldMark_c A n cap l W ((h.below hb).more hb.size)
    have CN : Hid (∀ W, Below w.heap.size w W → Calls Tryd.prog 24 #[.slice A n cap] W fun e w' => e = .returned (.bool (markB l)) ∧ W = w') := Lib.hid fun W hb => refMark25_c A n cap l W _ (h.below hb) (by omega)
    have CI : Hid (∀ W, Below w.heap.size w W → Calls Tryd.prog 21 #[.slice A n cap] W fun e w' => e = .returned (.bool (decide (wrongL l = 0) && !l.contains 13)) ∧ Below W.heap.size W w') := Lib.hid fun W hb => by
      have := ldIs_c A n cap l W ((h.below hb).more hb.size) (hW.below hb).forms (hW.below hb).tabs (by omega)
      rwa [ix_has] at this
    have HC : Hid (∀ W, Below w.heap.size w W → ∀ k, k < n → ∃ b o d, A = some ⟨b, o, none⟩ ∧ l[k]? = some d ∧ W.cell? ⟨b, o + k, none⟩ = some (.int .u8 (UInt8.toNat d : Int))) := Lib.hid fun W hb k hk => by
      obtain ⟨b, o, d, e, _, h2, h3⟩ := (h.below hb).cell hk
      exact ⟨b, o, d, e, h2, h3⟩
    have HW := Lib.hid hW
    generalize hmk : markB l = mk at *
    by_cases hz : wrongL l = 0
    · have hag := doc_again l hz
      have htl : (nrm (bodyL l)).length ≤ 600 := by have := nrm_le (bodyL l); have := body_le l; omega
      rw [show docL l = (nrm (bodyL l), 0) by unfold docL; rw [if_pos hz]] at CT CR
      rw [decide_eq_true hz] at CI
      generalize nrm (bodyL l) = t at *
      have h13 : t.contains 13 = false := by simpa using hag.2
      have DA : Hid (∀ A m c W, Byt W W.heap.size A m c t → Below w.heap.size w W → Calls Tryd.prog 20 #[.slice A m c] W (SlP (docL t) W)) := Lib.hid fun A m c W hb hbl => ldDoc_c A m c t W hb (HW.out.below hbl).forms (HW.out.below hbl).tabs (by have := hb.length; omega)
      have DI : Hid (∀ A m c W, Byt W W.heap.size A m c t → Below w.heap.size w W → Calls Tryd.prog 21 #[.slice A m c] W fun e w' => e = .returned (.bool true) ∧ Below W.heap.size W w') := Lib.hid fun A m c W hb hbl => by
        have := ldIs_c A m c t W hb (HW.out.below hbl).forms (HW.out.below hbl).tabs (by have := hb.length; omega)
        rwa [ix_has, decide_eq_true hag.1, h13] at this
      have DM : Hid (∀ A m c W, Byt W W.heap.size A m c t → Below w.heap.size w W → Calls Tryd.prog 23 #[.slice A m c] W fun e w' => e = .returned (.bool (markB t)) ∧ Below W.heap.size W w') := Lib.hid fun A m c W hb hbl => ldMark_c A m c t W hb
      rw [show docL t = (nrm (bodyL t), 0) by unfold docL; rw [if_pos hag.1]] at DA
      have HSM : Hid (markB t = false → nrm (bodyL t) = t) := Lib.hid fun hm => by
        have hb : bodyL t = t := by unfold bodyL; rw [if_neg (by rw [hm]; simp)]
        rw [hb]
        exact nrm_same t hag.2
      have HNE : Hid (markB t = true → ¬ (⟨(nrm (bodyL t)).toArray⟩ : ByteArray) = ⟨t.toArray⟩) := Lib.hid fun hm e => again_ne t hm (by
        have := congrArg (fun x : ByteArray => x.data.toList) e
        simpa using this)
      have HLC : Hid (l.contains 13 = (l.take n).contains 13) := Lib.hid (by rw [List.take_of_length_le (by omega)])
      clear h hW hag hz h13 hmk
      go_enter Tryd.func6, Tryd.ntmps6
      go_wp2_with fail
      refine CT.out.mono ?_
      rintro e w1 ⟨A1, m1, c1, rfl, hp1, hb1⟩
      dsimp only at hp1
      have B1 := Lib.hid (And.intro hp1 hb1)
      clear hp1 hb1
      go_wp2_with fail
      refine (CR.out _ B1.out.2).mono ?_
      rintro e w2 ⟨A2, m2, c2, rfl, hp2, hb2⟩
      dsimp only at hp2
      have hs1 := (B1.out.1.below hb2).str
      have hs2 := hp2.str
      have B2 := Lib.hid (And.intro (B1.out.2.trans (hb2.mono B1.out.2.size)) (B1.out.1.below hb2 |>.more hb2.size))
      clear hp2 hb2
      go_wp2_with fail
      refine (CM.out _ B2.out.1).mono ?_
      rintro e w3 ⟨rfl, hb3⟩
      have B3 := Lib.hid (And.intro (B2.out.1.trans (hb3.mono B2.out.1.size)) ((B2.out.2.below hb3).more hb3.size))
      clear hb3
      go_wp2_with fail
      refine (CN.out _ B3.out.1).mono ?_
      rintro e w4 ⟨rfl, rfl⟩
      have CI3 := Lib.hid (CI.out _ B3.out.1)
      have HC3 := Lib.hid (HC.out _ B3.out.1)
      go_wp2
      go_loop [7, 8] (fun x i => ∃ k : Nat, k ≤ n ∧ x = .bool ((l.take k).contains 13) ∧ i = .int .i64 k) (fun _ i => n - (intOf i).toNat)
      case atStart => exact ⟨0, Nat.zero_le _, rfl, rfl⟩
      case round =>
        obtain ⟨k, hk, rfl, rfl⟩ := hrel
        have hk0 : (0 : Int) ≤ (k : Int) := by omega
        have hk1 : (k : Int) ≤ 600 := by omega
        by_cases hlt : k < n
        · have hlti : (k : Int) < (n : Int) := by omega
          obtain ⟨b, o, d, rfl, hd, hcl⟩ := HC3.out k hlt
          have HT := Lib.hid (has_take l k d hd)
          have t1 := toNat_eq d 13
          rw [show ((13 : UInt8).toNat : Int) = 13 from rfl] at t1
          cases hx : (l.take k).contains 13 with
          | true =>
            rw [hx] at HT
            clear hd hcl t1 hx
            go_wp2
            go_round
            case rel => exact ⟨k + 1, by omega, by rw [HT.out]; rfl, by go_num⟩
            case measure => simp [intOf]; omega
          | false =>
            rw [hx] at HT
            clear hd hx
            generalize decide (d = 13) = q at *
            generalize (d.toNat : Int) = di at *
            go_wp2
            go_round
            case rel => exact ⟨k + 1, by omega, by rw [HT.out]; simp, by go_num⟩
            case measure => simp [intOf]; omega
        · obtain rfl : k = n := by omega
          rw [HLC.out] at CI3
          generalize (l.take k).contains 13 = q at *
          have hni : ¬ (k : Int) < (k : Int) := by omega
          go_wp2_with fail
          refine CI3.out.mono ?_
          rintro e w5 ⟨rfl, hb5⟩
          have B5 := Lib.hid (And.intro (B3.out.1.trans (hb5.mono B3.out.1.size)) ((B3.out.2.below hb5).more hb5.size))
          clear hb5
          cases q with
          | true =>
            go_wp2_with fail
            refine (DA.out A1 m1 c1 w5 B5.out.2 B5.out.1).mono ?_
            rintro e w6 ⟨A6, m6, c6, rfl, hp6, hb6⟩
            dsimp only at hp6
            have B6 := Lib.hid (And.intro (B5.out.1.trans (hb6.mono B5.out.1.size)) (And.intro ((B5.out.2.below hb6).more hb6.size) hp6))
            clear hp6 hb6
            go_wp2_with fail
            refine (DI.out A1 m1 c1 w6 B6.out.2.1 B6.out.1).mono ?_
            rintro e w7 ⟨rfl, hb7⟩
            have B7 := Lib.hid (And.intro (B6.out.1.trans (hb7.mono B6.out.1.size)) ((B6.out.2.1.below hb7).more hb7.size))
            have hs6 := (B6.out.2.2.below hb7).str
            have hs7 := B7.out.2.str
            clear hb7
            cases hm : markB t with
            | false =>
              rw [HSM.out hm] at hs6
              clear hm
              have HB7x := Lib.hid B7.out.1
              go_wp2_with fail
              refine (LV.out _ B7.out.1).mono ?_
              rintro e w8 ⟨rfl, hb⟩
              have B8 := Lib.hid (HB7x.out.trans (hb.mono HB7x.out.size))
              clear hb
              go_wp2
              go_ret
              exact ⟨rfl, B8.out⟩
            | true =>
              have hne := HNE.out hm
              have hne2 := again_ne t hm
              have hne3 : ¬ (nrm (bodyL t)).toArray = t.toArray := fun e => hne (by rw [e])
              have hne4 : decide ((⟨(nrm (bodyL t)).toArray⟩ : ByteArray) = ⟨t.toArray⟩) = false := decide_eq_false hne
              have hne5 : ((⟨(nrm (bodyL t)).toArray⟩ : ByteArray) == ⟨t.toArray⟩) = false := (show ((nrm (bodyL t)).toArray == t.toArray) = false from beq_eq_false_iff_ne.2 hne3)
              have DM7 := Lib.hid (DM.out A1 m1 c1 w7 B7.out.2 B7.out.1)
              rw [hm] at DM7
              clear hm
              generalize nrm (bodyL t) = t6 at *
              go_wp2_with fail
              refine DM7.out.mono ?_
              rintro e w8 ⟨rfl, hb8⟩
              have B8 := Lib.hid (B7.out.1.trans (hb8.mono B7.out.1.size))
              clear hb8
              go_wp2_with fail
              refine (LV.out _ B8.out).mono ?_
              rintro e w9 ⟨rfl, hb⟩
              have B9 := Lib.hid (B8.out.trans (hb.mono B8.out.size))
              clear hb
              go_wp2
              go_ret
              exact ⟨rfl, B9.out⟩
          | false =>
            go_wp2_with fail
            refine (DA.out A1 m1 c1 w5 B5.out.2 B5.out.1).mono ?_
            rintro e w6 ⟨A6, m6, c6, rfl, hp6, hb6⟩
            dsimp only at hp6
            have B6 := Lib.hid (And.intro (B5.out.1.trans (hb6.mono B5.out.1.size)) (And.intro ((B5.out.2.below hb6).more hb6.size) hp6))
            clear hp6 hb6
            go_wp2_with fail
            refine (DI.out A1 m1 c1 w6 B6.out.2.1 B6.out.1).mono ?_
            rintro e w7 ⟨rfl, hb7⟩
            have B7 := Lib.hid (And.intro (B6.out.1.trans (hb7.mono B6.out.1.size)) ((B6.out.2.1.below hb7).more hb7.size))
            have hs6 := (B6.out.2.2.below hb7).str
            have hs7 := B7.out.2.str
            clear hb7
            cases hm : markB t with
            | false =>
              rw [HSM.out hm] at hs6
              clear hm
              have HB7x := Lib.hid B7.out.1
              go_wp2_with fail
              refine (LV.out _ B7.out.1).mono ?_
              rintro e w8 ⟨rfl, hb⟩
              have B8 := Lib.hid (HB7x.out.trans (hb.mono HB7x.out.size))
              clear hb
              go_wp2
              go_ret
              exact ⟨rfl, B8.out⟩
            | true =>
              have hne := HNE.out hm
              have hne2 := again_ne t hm
              have hne3 : ¬ (nrm (bodyL t)).toArray = t.toArray := fun e => hne (by rw [e])
              have hne4 : decide ((⟨(nrm (bodyL t)).toArray⟩ : ByteArray) = ⟨t.toArray⟩) = false := decide_eq_false hne
              have hne5 : ((⟨(nrm (bodyL t)).toArray⟩ : ByteArray) == ⟨t.toArray⟩) = false := (show ((nrm (bodyL t)).toArray == t.toArray) = false from beq_eq_false_iff_ne.2 hne3)
              have DM7 := Lib.hid (DM.out A1 m1 c1 w7 B7.out.2 B7.out.1)
              rw [hm] at DM7
              clear hm
              generalize nrm (bodyL t) = t6 at *
              go_wp2_with fail
              refine DM7.out.mono ?_
              rintro e w8 ⟨rfl, hb8⟩
              have B8 := Lib.hid (B7.out.1.trans (hb8.mono B7.out.1.size))
              clear hb8
              go_wp2_with fail
              refine (LV.out _ B8.out).mono ?_
              rintro e w9 ⟨rfl, hb⟩
              have B9 := Lib.hid (B8.out.trans (hb.mono B8.out.size))
              clear hb
              go_wp2
              go_ret
              exact ⟨rfl, B9.out⟩
    · have hz2 : ((wrongL l : Int) == 0) = false := by simpa using hz
      rw [show docL l = ([], wrongL l) by unfold docL; rw [if_neg hz]] at CT CR
      rw [decide_eq_false hz] at CI
      have HLC : Hid (l.contains 13 = (l.take n).contains 13) := Lib.hid (by rw [List.take_of_length_le (by omega)])
      clear h hW hz hmk
      generalize wrongL l = e0 at *
      go_enter Tryd.func6, Tryd.ntmps6
      go_wp2_with fail
      refine CT.out.mono ?_
      rintro e w1 ⟨A1, m1, c1, rfl, hp1, hb1⟩
      dsimp only at hp1
      have B1 := Lib.hid (And.intro hp1 hb1)
      clear hp1 hb1
      go_wp2_with fail
      refine (CR.out _ B1.out.2).mono ?_
      rintro e w2 ⟨A2, m2, c2, rfl, hp2, hb2⟩
      dsimp only at hp2
      have hs1 := (B1.out.1.below hb2).str
      have hs2 := hp2.str
      have B2 := Lib.hid (B1.out.2.trans (hb2.mono B1.out.2.size))
      clear hp2 hb2
      go_wp2_with fail
      refine (CM.out _ B2.out).mono ?_
      rintro e w3 ⟨rfl, hb3⟩
      have B3 := Lib.hid (B2.out.trans (hb3.mono B2.out.size))
      clear hb3
      go_wp2_with fail
      refine (CN.out _ B3.out).mono ?_
      rintro e w4 ⟨rfl, rfl⟩
      have CI3 := Lib.hid (CI.out _ B3.out)
      have HC3 := Lib.hid (HC.out _ B3.out)
      go_wp2
      go_loop [7, 8] (fun x i => ∃ k : Nat, k ≤ n ∧ x = .bool ((l.take k).contains 13) ∧ i = .int .i64 k) (fun _ i => n - (intOf i).toNat)
      case atStart => exact ⟨0, Nat.zero_le _, rfl, rfl⟩
      case round =>
        obtain ⟨k, hk, rfl, rfl⟩ := hrel
        have hk0 : (0 : Int) ≤ (k : Int) := by omega
        have hk1 : (k : Int) ≤ 600 := by omega
        by_cases hlt : k < n
        · have hlti : (k : Int) < (n : Int) := by omega
          obtain ⟨b, o, d, rfl, hd, hcl⟩ := HC3.out k hlt
          have HT := Lib.hid (has_take l k d hd)
          have t1 := toNat_eq d 13
          rw [show ((13 : UInt8).toNat : Int) = 13 from rfl] at t1
          cases hx : (l.take k).contains 13 with
          | true =>
            rw [hx] at HT
            clear hd hcl t1 hx
            go_wp2
            go_round
            case rel => exact ⟨k + 1, by omega, by rw [HT.out]; rfl, by go_num⟩
            case measure => simp [intOf]; omega
          | false =>
            rw [hx] at HT
            clear hd hx
            generalize decide (d = 13) = q at *
            generalize (d.toNat : Int) = di at *
            go_wp2
            go_round
            case rel => exact ⟨k + 1, by omega, by rw [HT.out]; simp, by go_num⟩
            case measure => simp [intOf]; omega
        · obtain rfl : k = n := by omega
          have hni : ¬ (k : Int) < (k : Int) := by omega
          go_wp2_with fail
          refine CI3.out.mono ?_
          rintro e w5 ⟨rfl, hb5⟩
          have B5 := Lib.hid (B3.out.trans (hb5.mono B3.out.size))
          clear hb5
          go_wp2_with fail
          refine (LV.out _ B5.out).mono ?_
          rintro e w6 ⟨rfl, hb⟩
          have B6 := Lib.hid (B5.out.trans (hb.mono B5.out.size))
          clear hb
          go_wp2
          go_ret
          exact ⟨rfl, B6.out⟩
  · have hn' : (600 : Int) < (n : Int) := by omega
    clear hn hW h
    go_enter Tryd.func6, Tryd.ntmps6
    go_wp2_with fail
    refine (LV.out _ (Below.refl _ _)).mono ?_
    rintro e w1 ⟨rfl, hb⟩
    have B1 := Lib.hid hb
    clear hb
    go_wp2
    go_ret
    exact ⟨rfl, B1.out⟩
theorem byt_cellsL (w : World) (g : Nat) (l : List UInt8) (hg : w.heap[g]? = some (.cells (l.map bv).toArray 5)) (hl : l.length ≤ 1100000) : Byt w w.heap.size (some ⟨g, 0, none⟩) l.length l.length l :=
  ⟨by simp, Nat.le_refl _, by unfold maxLen; omega, (fun e => by cases e), fun _ => ⟨g, 0, rfl, lt_of hg, fun i u hu => by
    rw [Nat.zero_add, cell_of _ hg, List.getElem?_toArray]; exact hu⟩⟩
theorem wrong_rep (n : Nat) (h : n ≤ 1048576) : wrongL (List.replicate n 120) = 0 := (wrong_iff _).2 ⟨by rw [List.length_replicate]; exact h, by rw [List.length_replicate]; exact well_rep n n (Nat.le_refl _)⟩
theorem doc_rep (n : Nat) (h : n ≤ 1048576) : docL (List.replicate n 120) = (List.replicate n 120, 0) := by
  unfold docL
  rw [if_pos (wrong_rep n h)]
  have hm : markB (List.replicate n 120) = false := by
    cases n with
    | zero => rfl
    | succ n => rw [List.replicate_succ]; simp [markB, List.isPrefixOf]
  have h13 : 13 ∉ List.replicate n (120 : UInt8) := by
    intro hc
    have := (List.mem_replicate.1 hc).2
    cases this
  rw [show bodyL (List.replicate n 120) = List.replicate n 120 by unfold bodyL; rw [if_neg (by rw [hm]; simp)], nrm_same _ h13]
theorem has_rep (n : Nat) : (List.replicate n (120 : UInt8)).contains 13 = false := by
  rw [Bool.eq_false_iff]
  intro hc
  simp at hc
theorem wrong_bad (n : Nat) (h : n + 1 ≤ 1048576) : wrongL (List.replicate n 120 ++ [255]) = 5 := by
  unfold wrongL
  have hl : (List.replicate n (120 : UInt8) ++ [255]).length = n + 1 := by simp
  rw [hl, if_neg (by omega)]
  have := bad_rep n (n + 1) (Nat.le_refl _)
  unfold runesOut
  rw [hl, this]
  rfl
theorem wrong_long (l : List UInt8) (h : 1048576 < l.length) : wrongL l = 11 := by unfold wrongL; rw [if_pos h]
theorem doc_bad (l : List UInt8) (e : Nat) (h : wrongL l = e) (he : e ≠ 0) : docL l = ([], e) := by unfold docL; rw [if_neg (by rw [h]; exact he), h]
set_option maxRecDepth 100000 in
set_option maxHeartbeats 16000000 in
theorem loadLong_walk (z : Int) (bad : Bool) (w : World) (hz : 0 ≤ z ∧ z ≤ 255) (hW : W25 w) :
    Calls Tryd.prog 5 #[.int .u8 z, .bool bad] w fun e w' => e = .returned (.bool true) ∧ Below w.heap.size w w' := by
  have LV : Hid (∀ W, Below w.heap.size w W → Calls Tryd.prog 17 #[] W fun e w' => e = .returned (.bool true) ∧ Below W.heap.size W w') := Lib.hid fun W hb => live25_c W (hW.below hb)
  have HW := Lib.hid hW
  obtain ⟨hz0', hz1'⟩ := hz
  obtain ⟨N, hN⟩ : ∃ N : Nat, (1048574 : Int) + z % 5 = (N : Int) := ⟨(1048574 + z % 5).toNat, by omega⟩
  have hN1 : 1048574 ≤ N ∧ N ≤ 1048578 := by omega
  obtain ⟨hNa, hNb⟩ := hN1
  obtain ⟨i0, hi, hz0, hz1, hz2⟩ := info_u8
  have hmk := run_make (P := Tryd.prog) w 35 5 i0 (.int .u8 0) Tryd.underlying35 hi hz0 .i64 .i64 N N (by omega) (Int.le_refl _) (by rw [hz2]; omega) (by omega)
  rw [hz1] at hmk
  have hzl := size_madeCells (Value.int .u8 0).cells (Int.toNat (N : Int) * 1)
  generalize madeCells (Value.int .u8 0).cells (Int.toNat (N : Int) * 1) = Z at hmk hzl
  simp only [Int.toNat_natCast, Nat.mul_one] at hmk hzl
  have HZ := Lib.hid hzl
  clear hzl hz0 hz1 hz2 hi hW
  go_enter Tryd.func5, Tryd.ntmps5
  go_wp2
  go_loopg [7] (N) (fun k i wr => ∃ (j : Nat) (cur : List Value), j ≤ N ∧ k = N - j ∧ i = .int .i64 j ∧
    Hid (wr.heap[w.heap.size]? = some (.cells cur.toArray 5) ∧ cur.length = N ∧ cur.take j = (List.replicate j 120).map bv ∧ Below w.heap.size w wr))
  case atStart => exact ⟨0, Z.toList, Nat.zero_le _, rfl, rfl, Lib.hid ⟨by simpa using hp_new w (.cells Z 5), by rw [Array.length_toList, HZ.out], rfl, (Below.refl _ _).alloc (Nat.le_refl _) _⟩⟩
  case round =>
    obtain ⟨j, cur, hj, rfl, rfl, HH⟩ := hrel
    by_cases hlt : j < N
    · have hjn : (j : Int) < (N : Int) := by omega
      obtain ⟨v, hv⟩ : ∃ v, cur[j]? = some v := ⟨_, List.getElem?_eq_getElem (by rw [HH.out.2.1]; exact hlt)⟩
      have hcm : wr.cell? ⟨w.heap.size, j, none⟩ = some v := by rw [cell_of _ HH.out.1, List.getElem?_toArray, hv]
      have hfm := free_of j HH.out.1
      have HPRE := Lib.hid (list_keep cur j (bv 120) _ HH.out.2.2.1 (by rw [HH.out.2.1]; exact hlt))
      clear hv
      go_wp2
      go_roundg (N - (j + 1))
      case measure => omega
      case rel =>
        obtain ⟨hg, hcl, hct, hb⟩ := HH.out
        exact ⟨j + 1, cur.set j (bv 120), by omega, rfl, by go_num, Lib.hid ⟨block_set hg, by rw [List.length_set]; exact hcl, by rw [HPRE.out, List.replicate_succ', List.map_append, List.map_singleton], hb.setCell (p := ⟨w.heap.size, j, none⟩) (Nat.le_refl _) _⟩⟩
    · obtain rfl : j = N := by omega
      have hni : ¬ (j : Int) < (j : Int) := by omega
      have hcur : cur = (List.replicate j 120).map bv := by
        have h3 := HH.out.2.2.1
        rw [List.take_of_length_le (by rw [HH.out.2.1]; exact Nat.le_refl _)] at h3
        exact h3
      have hg := HH.out.1
      have hbw := HH.out.2.2.2
      cases bad with
      | false =>
        have hby := byt_cellsL wr w.heap.size (List.replicate j 120) (by rw [← hcur]; exact hg) (by rw [List.length_replicate]; omega)
        rw [List.length_replicate] at hby
        have hw := HW.out.below hbw
        have CD := Lib.hid (ldDoc_c _ _ _ _ wr hby hw.forms hw.tabs (by omega))
        have CI : Hid (∀ W, Below wr.heap.size wr W → Calls Tryd.prog 21 #[.slice (some ⟨w.heap.size, 0, none⟩) j j] W fun e w' => e = .returned (.bool (decide (wrongL (List.replicate j 120) = 0))) ∧ Below W.heap.size W w') := Lib.hid fun W hb => by
          have := ldIs_c _ _ _ _ W ((hby.below hb).more hb.size) (hw.below hb).forms (hw.below hb).tabs (by omega)
          rwa [ix_has, has_rep, Bool.not_false, Bool.and_true] at this
        have HBW := Lib.hid hbw
        clear hby hg hcur hbw hw
        by_cases hbig : 1048576 < j
        · have hbigi : (1048576 : Int) < (j : Int) := by omega
          have hwl := wrong_long (List.replicate j 120) (by rw [List.length_replicate]; exact hbig)
          rw [doc_bad _ 11 hwl (by decide)] at CD
          rw [hwl] at CI
          clear hwl
          go_wp2_with fail
          refine CD.out.mono ?_
          rintro e w1 ⟨A1, m1, c1, rfl, hp1, hb1⟩
          obtain rfl : 0 = m1 := hp1.length
          have B1 := Lib.hid (HBW.out.trans (hb1.mono HBW.out.size))
          have CI1 := Lib.hid (CI.out w1 hb1)
          clear hp1 hb1
          go_wp2_with fail
          refine (CI1.out).mono ?_
          rintro e w2 ⟨rfl, hb⟩
          have B2 := Lib.hid (B1.out.trans (hb.mono B1.out.size))
          clear hb
          go_wp2_with fail
          refine (LV.out _ B2.out).mono ?_
          rintro e w3 ⟨rfl, hb⟩
          have B3 := Lib.hid (B2.out.trans (hb.mono B2.out.size))
          clear hb
          go_wp2
          go_ret
          exact ⟨rfl, B3.out⟩
        · have hbigi : ¬ (1048576 : Int) < (j : Int) := by omega
          rw [doc_rep j (by omega)] at CD
          rw [wrong_rep j (by omega)] at CI
          go_wp2_with fail
          refine CD.out.mono ?_
          rintro e w1 ⟨A1, m1, c1, rfl, hp1, hb1⟩
          obtain rfl : j = m1 := by have := hp1.length; rw [List.length_replicate] at this; exact this
          have B1 := Lib.hid (HBW.out.trans (hb1.mono HBW.out.size))
          have CI1 := Lib.hid (CI.out w1 hb1)
          clear hp1 hb1
          go_wp2_with fail
          refine (CI1.out).mono ?_
          rintro e w2 ⟨rfl, hb⟩
          have B2 := Lib.hid (B1.out.trans (hb.mono B1.out.size))
          clear hb
          go_wp2_with fail
          refine (LV.out _ B2.out).mono ?_
          rintro e w3 ⟨rfl, hb⟩
          have B3 := Lib.hid (B2.out.trans (hb.mono B2.out.size))
          clear hb
          go_wp2
          go_ret
          exact ⟨rfl, B3.out⟩
      | true =>
        obtain ⟨M, hM⟩ : ∃ M, j = M + 1 := ⟨j - 1, by omega⟩
        have hsub : (j : Int) - 1 = (M : Int) := by omega
        have hcm : wr.cell? ⟨w.heap.size, M, none⟩ = some (bv 120) := by
          rw [cell_of _ hg, List.getElem?_toArray, hcur, List.getElem?_map, List.getElem?_replicate, if_pos (by omega)]; rfl
        have hfm := free_of M hg
        have hMj : (M : Int) < (j : Int) := by omega
        have hset : (cur.set M (bv 255)) = (List.replicate M (120 : UInt8) ++ [255]).map bv := by
          have h4 := list_keep cur M (bv 255) ((List.replicate M 120).map bv) (by rw [hcur, ← List.map_take, List.take_replicate]; congr 2; omega) (by rw [HH.out.2.1]; omega)
          rw [List.take_of_length_le (by rw [List.length_set, HH.out.2.1]; omega)] at h4
          rw [h4, List.map_append, List.map_singleton]
        have hg2 := block_set (v := bv 255) (m := M) hg
        rw [hset] at hg2
        have hln2 : (List.replicate M (120 : UInt8) ++ [255]).length = j := by rw [List.length_append, List.length_replicate]; simp; omega
        have hbw2 := hbw.setCell (p := ⟨w.heap.size, M, none⟩) (Nat.le_refl _) (bv 255)
        have hby := byt_cellsL (wr.setCell ⟨w.heap.size, M, none⟩ (bv 255)) w.heap.size (List.replicate M 120 ++ [255]) hg2 (by rw [hln2]; omega)
        rw [hln2] at hby
        have hw := HW.out.below hbw2
        have CD := Lib.hid (ldDoc_c _ _ _ _ _ hby hw.forms hw.tabs (by omega))
        have CI : Hid (∀ W, Below (wr.setCell ⟨w.heap.size, M, none⟩ (bv 255)).heap.size (wr.setCell ⟨w.heap.size, M, none⟩ (bv 255)) W → Calls Tryd.prog 21 #[.slice (some ⟨w.heap.size, 0, none⟩) j j] W fun e w' => e = .returned (.bool (decide (wrongL (List.replicate M 120 ++ [255]) = 0) && decide (Lib.indexByte (List.replicate M 120 ++ [255]) 13 < 0))) ∧ Below W.heap.size W w') := Lib.hid fun W hb =>
          ldIs_c _ _ _ _ W ((hby.below hb).more hb.size) (hw.below hb).forms (hw.below hb).tabs (by omega)
        have HBW := Lib.hid hbw2
        have HM := Lib.hid hM
        clear hM
        unfold bv at CD CI HBW
        rw [show ((255 : UInt8).toNat : Int) = 255 from rfl] at CD CI HBW
        rw [show bv 120 = Value.int .u8 120 from rfl] at hcm
        clear hby hg hg2 hcur hbw hbw2 hw hset
        by_cases hbig : 1048576 < j
        · have hbigi : (1048576 : Int) < (j : Int) := by omega
          have hwl := wrong_long (List.replicate M 120 ++ [255]) (by rw [hln2]; exact hbig)
          rw [doc_bad _ 11 hwl (by decide)] at CD
          rw [hwl] at CI
          clear hwl hln2
          go_wp2_with fail
          refine CD.out.mono ?_
          rintro e w1 ⟨A1, m1, c1, rfl, hp1, hb1⟩
          obtain rfl : 0 = m1 := hp1.length
          have B1 := Lib.hid (HBW.out.trans (hb1.mono HBW.out.size))
          have CI1 := Lib.hid (CI.out w1 hb1)
          clear hp1 hb1
          go_wp2_with fail
          refine (CI1.out).mono ?_
          rintro e w2 ⟨rfl, hb⟩
          have B2 := Lib.hid (B1.out.trans (hb.mono B1.out.size))
          clear hb
          go_wp2_with fail
          refine (LV.out _ B2.out).mono ?_
          rintro e w3 ⟨rfl, hb⟩
          have B3 := Lib.hid (B2.out.trans (hb.mono B2.out.size))
          clear hb
          go_wp2
          go_ret
          exact ⟨rfl, B3.out⟩
        · have hbigi : ¬ (1048576 : Int) < (j : Int) := by omega
          have hwl := wrong_bad M (by have := HM.out; omega)
          rw [doc_bad _ 5 hwl (by decide)] at CD
          clear hwl hln2 CI
          go_wp2_with fail
          refine CD.out.mono ?_
          rintro e w1 ⟨A1, m1, c1, rfl, hp1, hb1⟩
          obtain rfl : 0 = m1 := hp1.length
          have B1 := Lib.hid (HBW.out.trans (hb1.mono HBW.out.size))
          clear hp1 hb1
          go_wp2_with fail
          refine (LV.out _ B1.out).mono ?_
          rintro e w3 ⟨rfl, hb⟩
          have B3 := Lib.hid (B1.out.trans (hb.mono B1.out.size))
          clear hb
          go_wp2
          go_ret
          exact ⟨rfl, B3.out⟩
/-- The cells that a datum of numbers, strings, arrays and structs takes, by its type: none where the lay-out has a gap. -/
def flatL (P : Program) (fl : TypeId → DataW Unit → Option (List Value)) : Nat → List (TypeId × Nat) → List (DataW Unit) → Option (List Value)
  | _, [], [] => some []
  | off, (t, o) :: ts, d :: ds => if o = off then (fl t d).bind fun v => if v.length = P.cellsOf t then (flatL P fl (off + P.cellsOf t) ts ds).map (v ++ ·) else none else none
  | _, _, _ => none
def flatD (P : Program) : Nat → TypeId → DataW Unit → Option (List Value)
  | 0, _, _ => none
  | f + 1, t, d => match P.underlying t, d with
    | some (.int k), .lit (.int k' n) => if k' = k then some [.int k n] else none
    | some .string, .lit (.string l) => some [.string ⟨l.toArray⟩]
    | some (.struct fs), .agg ds => (flatL P (flatD P f) 0 (fs.toList.map fun f => (f.type, f.offset)) ds).bind fun v => if v.length = P.cellsOf t then some v else none
    | some (.array n e), .agg ds => (flatL P (flatD P f) 0 ((List.range n).map fun i => (e, i * P.cellsOf e)) ds).bind fun v => if v.length = P.cellsOf t then some v else none
    | _, _ => none
theorem mapM_map {α β γ : Type} (g : α → β) (f : β → Option γ) : ∀ l : List α, (l.map g).mapM f = l.mapM fun a => f (g a)
  | [] => rfl
  | a :: l => by simp [List.mapM_cons, mapM_map g f l]
theorem mapM_cons_some {α β : Type} {f : α → Option β} {a : α} {l : List α} {ys : List β} (h : (a :: l).mapM f = some ys) : ∃ y ys', f a = some y ∧ l.mapM f = some ys' ∧ ys = y :: ys' := by
  rw [List.mapM_cons] at h
  obtain ⟨y, hy, h⟩ := Option.bind_eq_some_iff.1 h
  obtain ⟨ys', hys, h⟩ := Option.bind_eq_some_iff.1 h
  exact ⟨y, ys', hy, hys, (Option.some.inj h).symm⟩
theorem flatL_mapM {P : Program} {w : World} {base : Nat} {sp : Nat → Bool} {held : Bool} {enc : TypeId × Value → Unit} {fuel f : Nat} {cs : List Value}
    (ih : ∀ t cs d p vs, DataW.trod enc P w base sp held fuel t cs = some (d, p) → flatD P f t d = some vs → cs = vs) :
    ∀ (ts : List (TypeId × Nat)) (xs : List (DataW Unit × List MemPlace)) (off : Nat) (vs : List Value),
      (ts.mapM fun x => DataW.trod enc P w base sp held fuel x.1 ((cs.drop x.2).take (P.cellsOf x.1))) = some xs → flatL P (flatD P f) off ts (xs.map (·.1)) = some vs → (cs.drop off).take vs.length = vs
  | [], xs, off, vs, hm, hf => by
    have : xs = [] := by simpa using hm.symm
    subst this
    simp [flatL] at hf
    subst hf
    simp
  | (t, o) :: ts, xs, off, vs, hm, hf => by
    obtain ⟨⟨d, p⟩, xs', hx, hm', rfl⟩ := mapM_cons_some hm
    simp only [List.map_cons, flatL] at hf
    split at hf
    · rename_i ho
      subst ho
      obtain ⟨v, hv, hf⟩ := Option.bind_eq_some_iff.1 hf
      split at hf
      · rename_i hl
        obtain ⟨vs', hvs, rfl⟩ := Option.map_eq_some_iff.1 hf
        have h1 := ih t _ d p v hx hv
        have h2 := flatL_mapM ih ts xs' _ vs' hm' hvs
        simp only at h1
        rw [List.length_append, List.take_add, hl, h1, List.drop_drop, h2]
      · cases hf
    · cases hf
theorem flat_trod {P : Program} {w : World} {base : Nat} {sp : Nat → Bool} {held : Bool} {enc : TypeId × Value → Unit} : ∀ (fuel f : Nat) (t : TypeId) (cs : List Value) (d : DataW Unit) (p : List MemPlace) (vs : List Value),
    DataW.trod enc P w base sp held fuel t cs = some (d, p) → flatD P f t d = some vs → cs = vs := by
  intro fuel
  induction fuel with
  | zero => intro f t cs d p vs h; simp [DataW.trod] at h
  | succ fuel ih =>
    intro f t cs d p vs h hf
    cases f with
    | zero => simp [flatD] at hf
    | succ f =>
      unfold flatD at hf
      split at hf
      · rename_i k k' n hu
        split at hf
        · rename_i hk
          subst hk
          obtain ⟨m, hc, he, _⟩ := DataW.trod_int hu h
          cases he
          rw [hc]
          exact Option.some.inj hf
        · cases hf
      · rename_i l hu
        obtain ⟨m, hc, he, _⟩ := DataW.trod_string hu h
        cases he
        rw [hc]
        exact Option.some.inj hf
      · rename_i fs ds hu
        simp only [DataW.trod, hu] at h
        split at h
        · rename_i hl
          obtain ⟨xs, hm, hx⟩ := Option.map_eq_some_iff.1 h
          simp only [Prod.mk.injEq, DataW.agg.injEq] at hx
          obtain ⟨rfl, _⟩ := hx
          obtain ⟨v, hv, hf⟩ := Option.bind_eq_some_iff.1 hf
          split at hf
          · rename_i hvl
            have h2 := flatL_mapM (cs := cs) (fun t cs d p vs => ih f t cs d p vs) (fs.toList.map fun f => (f.type, f.offset)) xs 0 v (by rw [mapM_map]; exact hm) hv
            rw [List.drop_zero, hvl, ← hl, List.take_length] at h2
            rw [h2]
            exact Option.some.inj hf
          · cases hf
        · cases h
      · rename_i n e ds hu
        simp only [DataW.trod, hu] at h
        split at h
        · rename_i hl
          obtain ⟨xs, hm, hx⟩ := Option.map_eq_some_iff.1 h
          simp only [Prod.mk.injEq, DataW.agg.injEq] at hx
          obtain ⟨rfl, _⟩ := hx
          obtain ⟨v, hv, hf⟩ := Option.bind_eq_some_iff.1 hf
          split at hf
          · rename_i hvl
            have h2 := flatL_mapM (cs := cs) (fun t cs d p vs => ih f t cs d p vs) ((List.range n).map fun i => (e, i * P.cellsOf e)) xs 0 v (by rw [mapM_map]; exact hm) hv
            rw [List.drop_zero, hvl, ← hl, List.take_length] at h2
            rw [h2]
            exact Option.some.inj hf
          · cases hf
        · cases h
      · cases hf
/-- A variable that is listed holds the cells of its datum. -/
theorem laid_cells {P : Program} {w : World} : ∀ (laid : List (String × DataW Unit)) (ps : List MemPlace), DataW.LaidVars P w laid ps → ∀ (name : String) (d : DataW Unit), (name, d) ∈ laid →
    ∀ (g t f : Nat) (vs : List Value), P.globalNamed name = some g → (P.globals[g]?).map (·.type) = some t → flatD P f t d = some vs → w.var? P name = some vs.toArray
  | [], _, _, _, _, hm, _, _, _, _, _, _, _ => by cases hm
  | (n, d0) :: r, ps, h, name, d, hm, g, t, f, vs, hg, ht, hf => by
    obtain ⟨g', t', cs, fuel, p, q, hg', ht', hv, htr, hr, _⟩ := h
    rcases List.mem_cons.1 hm with e | hm
    · cases e
      obtain rfl := Option.some.inj (hg.symm.trans hg')
      obtain rfl := Option.some.inj (ht.symm.trans ht')
      rw [hv, ← flat_trod fuel f t cs.toList _ p vs htr hf]
    · exact laid_cells r q hr name d hm g t f vs hg ht hf
theorem block_of_var {P : Program} {w : World} {name : String} {g : Nat} {cs : Array Value} (hg : P.globalNamed name = some g) (h : w.var? P name = some cs) : ∃ T f, w.heap[g]? = some (.cells cs T f) := by
  simp only [World.var?, hg, Option.bind_some] at h
  split at h
  · rename_i cs' T f hb
    cases h
    exact ⟨T, f, hb⟩
  · cases h
theorem laid_var {P : Program} {w : World} {laid : List (String × DataW Unit)} (h : laidMet P laid w) (name : String) (d : DataW Unit) (hm : (name, d) ∈ laid) (g f : Nat) (vs : List Value)
    (hg : P.globalNamed name = some g) (hf : (((P.globals[g]?).map (·.type)).bind fun t => flatD P f t d) = some vs) : w.var? P name = some vs.toArray := by
  obtain ⟨ps, hl, _⟩ := h
  obtain ⟨t, ht, hf⟩ := Option.bind_eq_some_iff.1 hf
  exact laid_cells laid ps hl name d hm g t f vs hg ht hf
theorem laid_block {P : Program} {w : World} {laid : List (String × DataW Unit)} (h : laidMet P laid w) (name : String) (d : DataW Unit) (hm : (name, d) ∈ laid) (g f : Nat) (vs : List Value)
    (hg : P.globalNamed name = some g) (hf : (((P.globals[g]?).map (·.type)).bind fun t => flatD P f t d) = some vs) : ∃ T fr, w.heap[g]? = some (.cells vs.toArray T fr) :=
  block_of_var hg (laid_var h name d hm g f vs hg hf)
/-- A table of runs, out of a block. -/
theorem tab_of {w : World} {g : Nat} {T : TypeId} {fr : Nat × Nat} (t : List (Nat × Nat)) (h : w.heap[g]? = some (.cells (t.flatMap fun p => [Value.int .i64 p.1, Value.int .i64 p.2]).toArray T fr)) : Tab w g t := by
  intro i p hp
  have key : ∀ (t : List (Nat × Nat)) (i : Nat) (p : Nat × Nat), t[i]? = some p → (t.flatMap fun p => [Value.int .i64 p.1, Value.int .i64 p.2])[i * 2]? = some (.int .i64 p.1) ∧ (t.flatMap fun p => [Value.int .i64 p.1, Value.int .i64 p.2])[i * 2 + 1]? = some (.int .i64 p.2) := by
    intro t
    induction t with
    | nil => intro i p h; simp at h
    | cons x t ih =>
      intro i p h
      cases i with
      | zero => simp at h; subst h; exact ⟨rfl, rfl⟩
      | succ i =>
        have := ih i p (by simpa using h)
        rw [show (i + 1) * 2 = i * 2 + 2 by omega]
        simpa [List.flatMap_cons] using this
  have := key t i p hp
  rw [cell_of _ h, cell_of _ h, List.getElem?_toArray, List.getElem?_toArray]
  exact this
/-- The cells of a datum, whatever its type. -/
def flatV : Nat → DataW Unit → List Value
  | f + 1, .lit (.int k n) => [.int k n]
  | f + 1, .lit (.string l) => [.string ⟨l.toArray⟩]
  | f + 1, .agg ds => ds.flatMap (flatV f)
  | _, _ => []
def layObj (vs : Array Value) : Obj → Obj
  | .cells _ t frozen => .cells vs t frozen
  | o => o
def layHeap (l : List (Nat × DataW Unit)) (h : Array Obj) : Array Obj := l.foldl (fun h x => h.modify x.1 (layObj (flatV 8 x.2).toArray)) h
/-- A world for a witness: the settled one, the listed variables' blocks holding what is listed. -/
noncomputable def laidWorldOf (l : List (Nat × DataW Unit)) (os : Os) : World :=
  { World.holding Tryd.prog os ⟨#[], #[], []⟩ with heap := layHeap l (World.holding Tryd.prog os ⟨#[], #[], []⟩).heap }
theorem LaidVars_split {P : Program} {w : World} : ∀ {l l' : List (String × DataW Unit)} {ps : List MemPlace}, DataW.LaidVars P w (l ++ l') ps → ∃ p p', DataW.LaidVars P w l p ∧ DataW.LaidVars P w l' p' ∧ ps = p ++ p'
  | [], l', ps, h => ⟨[], ps, rfl, h, rfl⟩
  | (n, d) :: r, l', ps, h => by
    obtain ⟨g, t, cs, fuel, p, q, h1, h2, h3, h4, h5, rfl⟩ := h
    obtain ⟨p1, p2, g1, g2, rfl⟩ := LaidVars_split h5
    exact ⟨_, p2, ⟨g, t, cs, fuel, p, p1, h1, h2, h3, h4, g1, rfl⟩, g2, by simp [List.append_assoc]⟩
/-- The last of the listed may stand anywhere. -/
theorem laidMet_move {P : Program} {w : World} {a b : List (String × DataW Unit)} {x : String × DataW Unit} (h : laidMet P (a ++ b ++ [x]) w) : laidMet P (a ++ x :: b) w := by
  obtain ⟨ps, hv, hn, hr⟩ := h
  obtain ⟨p1, px, h1, hx, rfl⟩ := LaidVars_split hv
  obtain ⟨pa, pb, ha, hb, rfl⟩ := LaidVars_split h1
  have hperm : (pa ++ pb ++ px).Perm (pa ++ (px ++ pb)) := by
    rw [List.append_assoc]
    exact List.Perm.append_left _ List.perm_append_comm
  refine ⟨pa ++ (px ++ pb), ?_, hperm.nodup_iff.1 hn, fun bb off hm => hr bb off (hperm.mem_iff.2 hm)⟩
  exact Go.Proofs.LaidVars_append ha (Go.Proofs.LaidVars_append (l := [x]) hx hb)
def putRows (N : Nat) : Nat → List (Nat × TypeId × Array Value × Nat) → Array Obj → Array Obj
  | _, [], h => h
  | i, (g, _, _, n) :: r, h => putRows N (i + 1) r (h.modify g (layObj #[.slice (some ⟨N + i, 0, none⟩) n n]))
/-- A world for a witness: the settled one, with a block more for each listed slice, the listed variables' blocks holding what is listed. -/
noncomputable def laidWorldC (l : List (Nat × DataW Unit)) (sl : List (Nat × TypeId × Array Value × Nat)) (os : Os) : World :=
  { World.holding Tryd.prog os ⟨(sl.map fun x => Obj.cells x.2.2.1 x.2.1).toArray, #[], []⟩ with heap := putRows (World.settled Tryd.prog os).heap.size 0 sl (layHeap l (World.holding Tryd.prog os ⟨(sl.map fun x => Obj.cells x.2.2.1 x.2.1).toArray, #[], []⟩).heap) }
theorem case_same : Go.Pinned.caseRanges = Lib.caseData := by kernel_rfl
theorem laidMet_case {w : World} {a b : List (String × DataW Unit)} (fuel : Nat)
    (h : (DataW.laidRun Tryd.prog w fuel ((a ++ b).map (·.1))).map (·.1) = some (a ++ b))
    (hn : (DataW.laidRun Tryd.prog w fuel ((a ++ b).map (·.1))).map (fun x => nodupB (x.2.map MemPlace.codeOf)) = some true)
    (hr : (DataW.laidRun Tryd.prog w fuel ((a ++ b).map (·.1))).map (fun x => laidRowsB Tryd.prog w x.2) = some true)
    (R : Nat) (hgR : 5 ≠ R)
    (hoff : (DataW.laidRun Tryd.prog w fuel ((a ++ b).map (·.1))).map (fun x => x.2.all fun p => p.block != 5 && p.block != R) = some true)
    (hvar : w.heap[5]? = some (.cells #[.slice (some ⟨R, 0, none⟩) 336 336] 177 (0, 0)))
    (hblk : w.heap[R]? = some (.cells Lib.caseCells5 190 (0, 0))) :
    laidMet Tryd.prog (a ++ ("unicode.CaseRanges", Go.Pinned.caseRanges) :: b) w := by
  rw [case_same]
  exact laidMet_move (laidMet_with_case (ρ := ⟨Tryd.lays274_ren.f, Tryd.lays274_ren.t, fun _ => 5⟩) { Tryd.lays274 with } (by kernel_rfl) ⟨by kernel_rfl, by kernel_rfl, by kernel_rfl, by kernel_rfl, by kernel_rfl, by kernel_rfl⟩ fuel h hn hr R _ hgR hoff (by rw [show Lib.caseA.size = 336 by kernel_rfl]; exact hvar) hblk)
end Go.Proofs.YtljmpghijlibaaaDoor
