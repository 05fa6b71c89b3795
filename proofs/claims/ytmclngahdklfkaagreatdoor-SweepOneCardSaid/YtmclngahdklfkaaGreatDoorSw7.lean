/- sweep.over. -/
import Derived.Test.YtmclngahdklfkaaGreatDoorRows
import Derived.Test.YtmclngahdklfkaaGreatDoorQX
import Derived.WalkKit
import Derived.ProofKit
import Derived.OpenShut
import Derived.ShutString
import Derived.ChangeOld
import Derived.Below
import Derived.BigQuiet
import Derived.Deep.QuietTactic
import Derived.Lib.Hide
import Derived.Deep.RegionHeld3
import Derived.Lib.SlBytesConst
import Derived.Laws.CopyOwn
import Derived.Laws.CopyRow
import Derived.Lib.Bytes
import Derived.Deep.LoopGhost
import Derived.Deep.DeepFit
import Derived.Deep.DeepMust
import Derived.WalkSpells
import Derived.WalkLawsBesides
import Derived.Maps.OwnOps
import Derived.Maps.OwnSet
import Derived.Maps.Views
import Derived.Laws.EntriesVeiled
import Derived.Laws.Rows
import Derived.Maps.AppendAt
import Derived.Lib.SmallJoins
import Derived.Deep.AppendLies
import Derived.Deep.RegionLaw
import Derived.Deep.RegionWith
import Derived.Deep.RegionWith
import Derived.Test.YtmclngahdklfkaaGreatDoorQ1
import Derived.Test.YtmclngahdklfkaaGreatDoorQ6
import Derived.Test.YtmclngahdklfkaaGreatDoorQ2
import Derived.Test.YtmclngahdklfkaaGreatDoorQ4
import Derived.Test.YtmclngahdklfkaaGreatDoorQ5
import Derived.Test.YtmclngahdklfkaaGreatDoorQ8
import Derived.Test.YtmclngahdklfkaaGreatDoorQ9
import Derived.Test.YtmclngahdklfkaaGreatDoorQ10
import Derived.Test.YtmclngahdklfkaaGreatDoorQ11
import Derived.Test.YtmclngahdklfkaaGreatDoorQ12
import Derived.Test.YtmclngahdklfkaaGreatDoorQ13
import Derived.Test.YtmclngahdklfkaaGreatDoorQ14
import Derived.Test.YtmclngahdklfkaaGreatDoorQ15
import Derived.Test.YtmclngahdklfkaaGreatDoorQ16
import Derived.Test.YtmclngahdklfkaaGreatDoorQ17
import Derived.Test.YtmclngahdklfkaaGreatDoorQ18
import Derived.Test.YtmclngahdklfkaaGreatDoorQ19
import Derived.Test.YtmclngahdklfkaaGreatDoorQ20
import Derived.Test.YtmclngahdklfkaaGreatDoorQ21
import Derived.Test.YtmclngahdklfkaaGreatDoorQ24
import Derived.Test.YtmclngahdklfkaaGreatDoorQ22
import Derived.Test.YtmclngahdklfkaaGreatDoorQ23
import Derived.Test.YtmclngahdklfkaaGreatDoorQ7
import Derived.Test.YtmclngahdklfkaaGreatDoorQ25
import Derived.Test.YtmclngahdklfkaaGreatDoorTok9
import Derived.Test.YtmclngahdklfkaaGreatDoorTok10
import Derived.Test.YtmclngahdklfkaaGreatDoorTok10b
import Derived.Test.YtmclngahdklfkaaGreatDoorTokQ
import Derived.Test.YtmclngahdklfkaaGreatDoorSwP
import Derived.Test.YtmclngahdklfkaaGreatDoorSw1
import Derived.Test.YtmclngahdklfkaaGreatDoorSw2
import Derived.Test.YtmclngahdklfkaaGreatDoorSw3
import Derived.Test.YtmclngahdklfkaaGreatDoorSw4
import Derived.Test.YtmclngahdklfkaaGreatDoorSw5
import Derived.Test.YtmclngahdklfkaaGreatDoorSw6
namespace Go.Proofs.YtmclngahdklfkaaGreatDoor
open Go.ChangeShapes Go.WideShapes Go.ChangeAt Go.RowKit
set_option linter.unusedVariables false
theorem may_len {whole : Bool} {op op' : List (List UInt8)} {root root' : Bool} {k : TokL} (h : mayS whole op root k = some (op', root')) : op'.length ≤ op.length + 1 := by
  unfold mayS at h
  repeat' split at h
  all_goals first | (cases h; done) | (cases h; simp; done) | (cases h; omega) | (cases h; rw [List.length_dropLast]; omega)
theorem may_same {op op' : List (List UInt8)} {root root' whole : Bool} {k : TokL} (h1 : k.kind = 1) (h : mayS whole op root k = some (op', root')) : op' = op := by
  unfold mayS at h
  rw [if_neg (by omega), if_neg (by omega), if_neg (by omega), if_pos h1] at h
  split at h
  · cases h
  · cases h; rfl
theorem prs_far {w0 wr w2 w3 w4 : World} {sb base : Nat} {whole : Bool} {A : Option Addr} {n cap : Nat} {l : List UInt8} {v : Value} {vs : List TokV} {sv sv' : Value} {op : List (List UInt8)} {root : Bool} {PA : Option Addr} {pn pc : Nat} {ps : List PairL}
    (h3 : PRd w3 w3.heap.size PA pn pc ps) (h2 : PRd w2 w2.heap.size PA pn pc ps) (hlo : ∀ b i, PA = some ⟨b, i, none⟩ → wr.heap.size ≤ b) (hJ : OJ w0 wr sb base whole A n cap l v vs sv op root) (h23 : w2.heap.size < w3.heap.size) (hw2 : wr.heap.size ≤ w2.heap.size) (hM : MF sb w3 w4 sv sv') :
    PRd w4 w4.heap.size PA pn pc ps ∧ (0 < pc → ∀ b i, PA = some ⟨b, i, none⟩ → some b ≠ v.ownBlock) ∧ (0 < pc → ∀ b i, PA = some ⟨b, i, none⟩ → b ≠ sb ∧ some b ≠ sv'.ownBlock) := by
  have hs : ∀ b i, PA = some ⟨b, i, none⟩ → b ≠ sb ∧ some b ≠ sv.ownBlock := fun b i h => by
    have h1 := hlo b i h
    have := hJ.sw.lt
    have := hJ.sw.le
    exact ⟨by omega, fun e => by have := (ownS_lt hJ.sw.own e.symm).1; omega⟩
  refine ⟨hM.keep h3 fun _ => hs, fun _ b i h => hJ.gro.fresh (hlo b i h), fun h0 b i h => ⟨(hs b i h).1, ?_⟩⟩
  rcases hM.own with e | ⟨g, e, hg⟩
  · rw [e]; exact (hs b i h).2
  · rw [e]
    intro hh
    obtain ⟨b2, o2, e2, hb2, _⟩ := h2.at_ h0
    rw [h] at e2
    cases e2
    cases hh
    omega
set_option maxRecDepth 100000 in
set_option maxHeartbeats 8000000 in
theorem over_c (sb : Nat) (whole : Bool) (A : Option Addr) (n cap : Nat) (l : List UInt8) (k : Nat) (w0 w : World) (h0 : sb = w0.heap.size) (hb0 : Below w0.heap.size w0 w) (hsw : w.heap[sb]? = some (.cells #[.slice none 0 0, .int .i64 0, .bool whole] 78)) (h : Byt w w.heap.size A n cap l) (hA : 0 < cap → ∀ b i, A = some ⟨b, i, none⟩ → b ≠ sb ∧ b < w.heap.size) (hW : W11 w0) (hm : n ≤ 40000) (hk : k ≤ n) :
    Calls Tryz.prog 41 #[.pointer (some ⟨sb, 0, none⟩), .slice A n cap, .int .i64 (k : Int)] w fun e w' => AllPost (overR l whole (l.length + 1) [] [] false k) w0 e w' := by
  have hln := h.length
  have HA := Lib.hid hA
  have H0 := Lib.hid h0
  have CN : Hid (∀ t : Nat, t < n → ∀ W v vs sv op root, OJ w0 W sb w.heap.size whole A n cap l v vs sv op root → Calls Tryz.prog 10 #[.slice A n cap, .int .i64 (t : Int)] W fun e w' => TokPost (nextOut l t) W e w') := Lib.hid fun t ht W v vs sv op root hG => by
    have := tokNext_c A n cap l t W hG.byt (hW.below hG.gro.below) hm
    rwa [nextAt_in l t (by omega)] at this
  have HLn := Lib.hid hln
  have hi : (Tryz.prog.info? 26).map (·.size) = some 7 := by kernel_rfl
  obtain ⟨sd, hu⟩ := isStruct_of (P := Tryz.prog) (t := 26) (by kernel_rfl)
  have HU := Lib.hid (And.intro hi hu)
  have HM := Lib.hid hm
  have J0 : OJ w0 w sb w.heap.size whole A n cap l (.slice none 0 0) [] (.slice none 0 0) [] false :=
    ⟨⟨hb0, hb0.size, Nat.le_refl _, ⟨rfl, .inl ⟨rfl, rfl⟩⟩, fun x hx => (by cases hx), fun x hx => (by cases hx)⟩, ⟨by rw [hsw]; cases whole <;> rfl, OwnS.start _ _, lt_of hsw, Nat.le_refl _, fun _ h => absurd rfl h⟩, h, fun x hx => (by cases hx)⟩
  have HJ0 := Lib.hid J0
  have HK := Lib.hid hk
  generalize hR : overR l whole (l.length + 1) [] [] false k = R at *
  have HR : Hid (R = overR l whole (n + 1) [] [] false k) := Lib.hid (by rw [← hR, HLn.out])
  clear h hln hi hu hW hb0 hsw hA h0 J0 hR hm hk
  go_enter Tryz.func41, Tryz.ntmps41
  go_wp2_with fail
  go_loopg [2, 9] (n) (fun g i v wr => ∃ (t : Nat) (vs : List TokV) (f : Nat) (sv : Value) (op : List (List UInt8)) (root : Bool), i = .int .i64 (t : Int) ∧ t ≤ n ∧ Hid (g = f) ∧ Hid (n ≤ f + t) ∧ Hid (vs.length ≤ t) ∧ Hid (op.length ≤ t) ∧ Hid (R = overR l whole (f + 1) (vs.map TokV.t) op root t) ∧ Hid (OJ w0 wr sb w.heap.size whole A n cap l v vs sv op root))
  case atStart => exact ⟨k, [], n, _, [], false, rfl, HK.out, Lib.hid rfl, Lib.hid (by omega), Lib.hid (Nat.zero_le _), Lib.hid (Nat.zero_le _), HR, HJ0⟩
  case round =>
    obtain ⟨t, vs, f, sv, op, root, rfl, ht, hgf, hg, hal, hopl, HE, HJ⟩ := hrel
    have hm := HM.out
    have ht0 : (0 : Int) ≤ (t : Int) := by omega
    have ht9 : (t : Int) ≤ 40000 := by omega
    by_cases htn : t < n
    · have hti : (t : Int) < (n : Int) := by omega
      have htl : t < l.length := by rw [HLn.out]; exact htn
      have C1 := CN.out t htn _ _ _ _ _ _ HJ.out
      have hok := nextOut_ok l t htl
      have hkd := kind_of l t
      have htx := text_le l t
      have hbad := fun e (h1 : (nextOut l t).2 = e) h2 => HE.out.trans (over_bad (f := f) (acc := vs.map TokV.t) htl h1 h2)
      have hno := fun k (h1 : nextOut l t = (k, 0)) h2 => HE.out.trans (over_no (f := f) (acc := vs.map TokV.t) htl h1 h2)
      have hmore := fun k u op' root' (h1 : nextOut l t = (k, 0)) (h2 : mayS whole op root k = some (op', root')) (h3 : k.to_ = ((u : Nat) : Int)) => HE.out.trans (over_more (f := f) (acc := vs.map TokV.t) htl h1 h2 h3)
      generalize nextOut l t = no at *
      obtain ⟨k, e⟩ := no
      simp only at hok hbad hkd htx
      have C2 := Lib.hid C1
      clear C1
      by_cases he : e = 0
      · subst he
        obtain ⟨hfro, u, hu, htu, hun⟩ := hok rfl
        clear hfro
        rw [HLn.out] at hun htx
        have HUu := Lib.hid hu
        have HKD := Lib.hid (hkd rfl)
        have HTX := Lib.hid (fun h => Nat.le_trans (htx h) (show n ≤ 500000 by omega))
        have HNO := Lib.hid (fun h2 => hno k rfl h2)
        have HMO := Lib.hid (fun op' root' h2 => hmore k u op' root' rfl h2 hu)
        clear hok hbad hno hmore htl hu hkd htx
        go_wp2_with fail
        refine C2.out.mono ?_
        intro e0 w2 hp
        obtain ⟨PA, pn, pc, rfl, hpr, hb, hlo⟩ := hp.out
        simp only at hpr
        have ka := (Below.refl _ w2).alloc (Nat.le_refl _) (.cells #[.int .i64 k.kind, .int .i64 k.fro, .int .i64 k.to_, .string ⟨k.name.toArray⟩, .string ⟨k.text.toArray⟩, .slice PA pn pc, .int .i64 k.r] 26)
        have J1 := HJ.out.kept hb
        have J2 := Lib.hid (J1.kept ka)
        have HQ := Lib.hid (hp_new w2 (.cells #[.int .i64 k.kind, .int .i64 k.fro, .int .i64 k.to_, .string ⟨k.name.toArray⟩, .string ⟨k.text.toArray⟩, .slice PA pn pc, .int .i64 k.r] 26))
        have HX := Lib.hid (And.intro ((hpr.below ka).more ka.size) (And.intro hpr hlo))
        have CM := Lib.hid (may_all sb w.heap.size whole (w2.alloc (.cells #[.int .i64 k.kind, .int .i64 k.fro, .int .i64 k.to_, .string ⟨k.name.toArray⟩, .string ⟨k.text.toArray⟩, .slice PA pn pc, .int .i64 k.r] 26)) sv op root k PA pn pc J2.out.sw (by have := hopl.out; omega) HKD.out HTX.out)
        have hw2 : wr.heap.size ≤ w2.heap.size := hb.size
        clear hpr hb hlo ka hp J1
        cases hms : mayS whole op root k with
        | none =>
          have HA2 := Lib.hid (HNO.out hms)
          rw [hms] at CM
          clear HMO HNO hms
          go_wp2_with (refine wpList_load_row rfl _ _ rfl w2.heap.size rfl _ _ _ _ HQ.out HU.out.2 rfl HU.out.1 ?_)
          refine CM.out.mono ?_
          rintro e0 w4 ⟨rfl, sv4, hM4⟩
          have B4 : Hid (Below w0.heap.size w0 w4) := Lib.hid (J2.out.gro.below.trans (by rw [← H0.out]; exact hM4.below))
          clear hM4
          go_wp2
          go_ret3
          rw [HA2.out]
          exact AllPost.bad rfl B4.out
        | some x =>
          obtain ⟨op', root'⟩ := x
          have HA2 := Lib.hid (HMO.out op' root' hms)
          have HMS := Lib.hid hms
          have HOL := Lib.hid (may_len hms)
          rw [hms] at CM
          clear HMO HNO hms
          go_wp2_with (refine wpList_load_row rfl _ _ rfl w2.heap.size rfl _ _ _ _ HQ.out HU.out.2 rfl HU.out.1 ?_)
          refine CM.out.mono ?_
          rintro e0 w4 ⟨rfl, sv4, hJ4, hM4⟩
          have J4 := Lib.hid (J2.out.may H0.out HA.out hJ4 hM4)
          have hq4 : w4.heap[w2.heap.size]? = some (.cells #[.int .i64 k.kind, .int .i64 k.fro, .int .i64 k.to_, .string ⟨k.name.toArray⟩, .string ⟨k.text.toArray⟩, .slice PA pn pc, .int .i64 k.r] 26) := by
            rw [hM4.blk w2.heap.size (by simp) (by have := HJ.out.sw.lt; have := HJ.out.sw.le; omega) (fun e => by have := (ownS_lt HJ.out.sw.own e.symm).1; omega)]
            exact HQ.out
          have HQ4 := Lib.hid hq4
          have x0 := cell_of 0 hq4
          have x2 := cell_of 2 hq4
          have hsw4 := hJ4.sw
          have HX4 := Lib.hid (prs_far HX.out.1 HX.out.2.1 HX.out.2.2 HJ.out (by simp) hw2 hM4)
          obtain ⟨SA, SN, SC, hsv4, hSN⟩ : ∃ SA SN SC, sv4 = .slice SA SN SC ∧ SN = op'.length := by
            obtain ⟨a, b, h⟩ := hJ4.own.form
            exact ⟨a, _, b, h, rfl⟩
          subst hsv4
          have u0 := cell_of 0 hsw4
          have u2 := cell_of 2 hsw4
          have hvl : vs.length ≤ 1000000000 := by have := hal.out; omega
          have hba : w.heap.size ≤ w4.heap.size := J4.out.gro.base1
          clear hM4 hJ4 hq4 hsw4
          by_cases hk1 : k.kind = 1
          · have kd : (k.kind != 1) = false := by simp [hk1]
            have HK1 := Lib.hid hk1
            clear hk1
            cases whole with
            | false =>
              have hleft : leftOut false op k = false := by simp [leftOut]
              clear hSN
              have HA3 : Hid (R = overR l false f ((vs ++ [(⟨k, PA, pn, pc⟩ : TokV)]).map TokV.t) op' root' u) := Lib.hid (by rw [HA2.out, if_neg (by rw [hleft]; simp), List.map_append]; rfl)
              clear hleft HA2 HMS
              go_wp2_with (first
                | (refine wpList_load_row rfl _ _ rfl w2.heap.size rfl _ _ _ _ HQ4.out HU.out.2 rfl HU.out.1 ?_)
                | (at_builtin; refine wpList_appK rfl (.tmp 55) (.tmp 57) 36 26 rfl (.agg #[.int .i64 0, .int .i64 0, .int .i64 0, .string ⟨#[]⟩, .string ⟨#[]⟩, .slice none 0 0, .int .i64 0]) 7 88 Tryz.underlying36 info_tok rfl (by decide) w.heap.size _ vs.length (cellsK vs) rfl J4.out.gro.own (TokV.cells ⟨k, PA, pn, pc⟩) _ rfl rfl rfl (cells_one _) hvl (by decide) hba ?_))
              intro v5 w5 hown5 hg5 hat5
              have J5 := Lib.hid (J4.out.appended HA.out (x := ⟨k, PA, pn, pc⟩) HX4.out.1 HX4.out.2.1 HX4.out.2.2 hown5 hg5 hat5)
              clear hown5 hg5 hat5 x0 x2 u0 u2
              go_wp2
              go_roundg (f - 1)
              case measure => have := hg.out; have := hgf.out; omega
              case rel => exact ⟨u, vs ++ [⟨k, PA, pn, pc⟩], f - 1, _, op', root', by rw [HUu.out], by omega, Lib.hid rfl, Lib.hid (by have := hg.out; omega), Lib.hid (by have := hal.out; simp; omega), Lib.hid (by have := hopl.out; have := HOL.out; omega), Lib.hid (by rw [HA3.out, show f - 1 + 1 = f by have := hg.out; omega]), J5⟩
            | true =>
              have hop : op' = op := may_same HK1.out HMS.out
              cases op' with
              | nil =>
                have hs0 : SN = 0 := by simpa using hSN
                clear hSN
                subst hs0
                have hleft : leftOut true op k = true := by rw [← hop]; simp [leftOut, HK1.out]
                clear hop
                have HA3 : Hid (R = overR l true f (vs.map TokV.t) [] root' u) := Lib.hid (by rw [HA2.out, if_pos hleft])
                clear hleft HA2 HMS
                go_wp2
                go_roundg (f - 1)
                case measure => have := hg.out; have := hgf.out; omega
                case rel => exact ⟨u, vs, f - 1, _, [], root', by rw [HUu.out], by omega, Lib.hid rfl, Lib.hid (by have := hg.out; omega), Lib.hid (by have := hal.out; omega), Lib.hid (Nat.zero_le _), Lib.hid (by rw [HA3.out, show f - 1 + 1 = f by have := hg.out; omega]), J4⟩
              | cons a op2 =>
                have hleft : leftOut true op k = false := by rw [← hop]; simp [leftOut]
                have hsn : (0 : Int) < (SN : Int) := by rw [hSN, List.length_cons]; omega
                clear hSN hop
                have HA3 : Hid (R = overR l true f ((vs ++ [(⟨k, PA, pn, pc⟩ : TokV)]).map TokV.t) (a :: op2) root' u) := Lib.hid (by rw [HA2.out, if_neg (by rw [hleft]; simp), List.map_append]; rfl)
                clear hleft HA2 HMS
                go_wp2_with (first
                  | (refine wpList_load_row rfl _ _ rfl w2.heap.size rfl _ _ _ _ HQ4.out HU.out.2 rfl HU.out.1 ?_)
                  | (at_builtin; refine wpList_appK rfl (.tmp 55) (.tmp 57) 36 26 rfl (.agg #[.int .i64 0, .int .i64 0, .int .i64 0, .string ⟨#[]⟩, .string ⟨#[]⟩, .slice none 0 0, .int .i64 0]) 7 88 Tryz.underlying36 info_tok rfl (by decide) w.heap.size _ vs.length (cellsK vs) rfl J4.out.gro.own (TokV.cells ⟨k, PA, pn, pc⟩) _ rfl rfl rfl (cells_one _) hvl (by decide) hba ?_))
                intro v5 w5 hown5 hg5 hat5
                have J5 := Lib.hid (J4.out.appended HA.out (x := ⟨k, PA, pn, pc⟩) HX4.out.1 HX4.out.2.1 HX4.out.2.2 hown5 hg5 hat5)
                clear hown5 hg5 hat5 x0 x2 u0 u2
                go_wp2
                go_roundg (f - 1)
                case measure => have := hg.out; have := hgf.out; omega
                case rel => exact ⟨u, vs ++ [⟨k, PA, pn, pc⟩], f - 1, _, a :: op2, root', by rw [HUu.out], by omega, Lib.hid rfl, Lib.hid (by have := hg.out; omega), Lib.hid (by have := hal.out; simp; omega), Lib.hid (by have := hopl.out; have := HOL.out; omega), Lib.hid (by rw [HA3.out, show f - 1 + 1 = f by have := hg.out; omega]), J5⟩
          · have kd : (k.kind != 1) = true := by simp [hk1]
            have hleft : leftOut whole op k = false := by simp [leftOut, hk1]
            clear hk1 hSN
            have HA3 : Hid (R = overR l whole f ((vs ++ [(⟨k, PA, pn, pc⟩ : TokV)]).map TokV.t) op' root' u) := Lib.hid (by rw [HA2.out, if_neg (by rw [hleft]; simp), List.map_append]; rfl)
            clear hleft HA2 HMS
            go_wp2_with (first
              | (refine wpList_load_row rfl _ _ rfl w2.heap.size rfl _ _ _ _ HQ4.out HU.out.2 rfl HU.out.1 ?_)
              | (at_builtin; refine wpList_appK rfl (.tmp 55) (.tmp 57) 36 26 rfl (.agg #[.int .i64 0, .int .i64 0, .int .i64 0, .string ⟨#[]⟩, .string ⟨#[]⟩, .slice none 0 0, .int .i64 0]) 7 88 Tryz.underlying36 info_tok rfl (by decide) w.heap.size _ vs.length (cellsK vs) rfl J4.out.gro.own (TokV.cells ⟨k, PA, pn, pc⟩) _ rfl rfl rfl (cells_one _) hvl (by decide) hba ?_))
            intro v5 w5 hown5 hg5 hat5
            have J5 := Lib.hid (J4.out.appended HA.out (x := ⟨k, PA, pn, pc⟩) HX4.out.1 HX4.out.2.1 HX4.out.2.2 hown5 hg5 hat5)
            clear hown5 hg5 hat5 x0 x2 u0 u2
            go_wp2
            go_roundg (f - 1)
            case measure => have := hg.out; have := hgf.out; omega
            case rel => exact ⟨u, vs ++ [⟨k, PA, pn, pc⟩], f - 1, _, op', root', by rw [HUu.out], by omega, Lib.hid rfl, Lib.hid (by have := hg.out; omega), Lib.hid (by have := hal.out; simp; omega), Lib.hid (by have := hopl.out; have := HOL.out; omega), Lib.hid (by rw [HA3.out, show f - 1 + 1 = f by have := hg.out; omega]), J5⟩
      · have HA2 := Lib.hid (hbad e rfl he)
        have hei : ((e : Int) == 0) = false := by simp; omega
        clear hok hbad hno hmore htl hkd htx
        go_wp2_with fail
        refine C2.out.mono ?_
        intro e0 w2 hp
        obtain ⟨PA, pn, pc, rfl, hpr, hb, hlo⟩ := hp.out
        have B := Lib.hid ((HJ.out.kept hb).gro.below.alloc (HJ.out.kept hb).gro.below.size (.cells #[.int .i64 k.kind, .int .i64 k.fro, .int .i64 k.to_, .string ⟨k.name.toArray⟩, .string ⟨k.text.toArray⟩, .slice PA pn pc, .int .i64 k.r] 26))
        clear hpr hb hlo hp
        go_wp2
        go_ret3
        rw [HA2.out]
        exact AllPost.bad rfl B.out
    · have hti : ¬ (t : Int) < (n : Int) := by omega
      obtain rfl : t = n := by omega
      have htl : ¬ t < l.length := by rw [HLn.out]; exact htn
      have hsw := HJ.out.sw.sw
      obtain ⟨SA, SN, SC, hsv, hSN⟩ : ∃ SA SN SC, sv = .slice SA SN SC ∧ SN = op.length := by
        obtain ⟨a, b, h⟩ := HJ.out.sw.own.form
        exact ⟨a, _, b, h, rfl⟩
      subst hsv
      have z0 := cell_of 0 hsw
      have z1 := cell_of 1 hsw
      have z2 := cell_of 2 hsw
      cases op with
      | cons a op =>
        have hsn : (0 : Int) < (SN : Int) := by rw [hSN, List.length_cons]; omega
        have HA2 := Lib.hid (HE.out.trans (over_open htl (by simp)))
        clear hSN htl hsw
        go_wp2
        go_ret3
        rw [HA2.out]
        exact AllPost.bad rfl HJ.out.gro.below
      | nil =>
        have hs0 : SN = 0 := by simpa using hSN
        clear hSN
        subst hs0
        cases whole with
        | false =>
          have HA2 := Lib.hid (HE.out.trans (over_end htl (by simp)))
          clear htl hsw
          go_wp2
          go_ret3
          rw [HA2.out]
          exact AllPost.good HJ.out.gro rfl
        | true =>
          cases root with
          | false =>
            have HA2 := Lib.hid (HE.out.trans (over_open htl (by simp)))
            have z1' : wr.cell? ⟨sb, 1, none⟩ = some (.int .i64 0) := by simpa using z1
            clear htl hsw z1
            go_wp2
            go_ret3
            rw [HA2.out]
            exact AllPost.bad rfl HJ.out.gro.below
          | true =>
            have HA2 := Lib.hid (HE.out.trans (over_end htl (by simp)))
            have z1' : wr.cell? ⟨sb, 1, none⟩ = some (.int .i64 1) := by simpa using z1
            clear htl hsw z1
            go_wp2
            go_ret3
            rw [HA2.out]
            exact AllPost.good HJ.out.gro rfl
end Go.Proofs.YtmclngahdklfkaaGreatDoor
